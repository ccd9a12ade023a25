/- an event that came in by value. -/
import Derived.Test.YtaegelbaghaooaaGreatCcEvents
import Derived.OpenShut
import Derived.WideShapes
namespace Go.Proofs.YtaegelbaghaooaaGreat
open Go.RowKit Go.WideShapes
set_option maxRecDepth 100000 in
theorem open_event {H : Type} {enc : TypeId × Value → H} {W : World} {r : Reach} {b0 base : Nat} {sp : Nat → Bool} {held : Bool} {v : Value} {d : DataW H} {p : List MemPlace}
    (hv : Value.okWide Tryz.prog W r b0 108 v) (h : DataW.Trod enc Tryz.prog W base sp held 108 v d p) : ∃ e : Ev, e.ok ∧ v = .agg e.cells.toArray := by
  obtain ⟨cs, rfl, _⟩ := okWide_struct Tryz.underlying108 hv
  obtain ⟨n, hn⟩ := h
  obtain ⟨e, he, hc⟩ := trod_event (cs := cs.toList) (by simpa [Value.cells] using hn)
  exact ⟨e, he, by rw [← hc]⟩
end Go.Proofs.YtaegelbaghaooaaGreat
