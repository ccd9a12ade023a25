/- an event that came in by value. -/
import Derived.Test.YtoaaoggggjjbaaaEvents
import Derived.OpenShut
import Derived.WideShapes
namespace Go.Proofs.Ytoaaoggggjjbaaa
open Go.RowKit Go.WideShapes
set_option maxRecDepth 100000 in
theorem open_event {H : Type} {enc : TypeId × Value → H} {W : World} {r : Reach} {b0 base : Nat} {sp : Nat → Bool} {held : Bool} {v : Value} {d : DataW H} {p : List MemPlace}
    (hv : Value.okWide Try.prog W r b0 35 v) (h : DataW.Trod enc Try.prog W base sp held 35 v d p) : ∃ e : Ev, e.ok ∧ v = .agg e.cells.toArray := by
  obtain ⟨cs, rfl, _⟩ := okWide_struct Try.underlying35 hv
  obtain ⟨n, hn⟩ := h
  obtain ⟨e, he, hc⟩ := trod_event (cs := cs.toList) (by simpa [Value.cells] using hn)
  exact ⟨e, he, by rw [← hc]⟩
end Go.Proofs.Ytoaaoggggjjbaaa
