/- Part. -/
import Derived.Test.YtaegelbaghaooaaGreatProg
import Derived.WalkKit
import Derived.ProofKit
import Derived.Deep.Slices
import Derived.Deep.MidRow
import Derived.OpenShut
import Derived.Laws.Rows
set_option linter.all false
open Go.IntKind (i64 u64 u32 u8)
namespace Go.Proofs.YtaegelbaghaooaaGreat
open Go.RowKit Go.ChangeShapes Go.WideShapes Go.Deep
def i64ok (n : Int) : Prop := -9223372036854775808 <= n /\ n <= 9223372036854775807
def u8ok (n : Int) : Prop := 0 <= n /\ n <= 255
section
variable {H : Type} {enc : TypeId × Value -> H} {w : World} {base : Nat} {spare : Nat -> Bool} {held : Bool}
theorem kA : Tryz.prog.cellsOf 3 = 1 := by kernel_rfl
theorem Xu : Tryz.prog.cellsOf 5 = 1 := by kernel_rfl
theorem Zy {n : Nat} {t : TypeId} {cs : List Value} {x : DataW H × List MemPlace} (ht : Tryz.prog.underlying t = some (.int .i64)) (h : DataW.trod enc Tryz.prog w base spare held n t cs = some x) :
  ∃ m, cs = [.int .i64 m] /\ i64ok m /\ x.2 = [] := by
 obtain ⟨m, rfl, rfl, hw⟩ := DataW.trod_int ht h
 exact ⟨m, rfl, bounds_i64 hw, rfl⟩
theorem xcM {n : Nat} {t : TypeId} {cs : List Value} {x : DataW H × List MemPlace} (ht : Tryz.prog.underlying t = some (.int .u8)) (h : DataW.trod enc Tryz.prog w base spare held n t cs = some x) :
  ∃ m, cs = [.int .u8 m] /\ u8ok m /\ x.2 = [] := by
 obtain ⟨m, rfl, rfl, hw⟩ := DataW.trod_int ht h
 exact ⟨m, rfl, bounds_u8 hw, rfl⟩
theorem fld {fs : Array Field} {n : Nat} {cs : List Value} {xs : List (DataW H × List MemPlace)}
  (hf : ∀ (i : Nat) (f : Field), fs[i]? = some f -> DataW.trod enc Tryz.prog w base spare held n f.type ((cs.drop f.offset).take (Tryz.prog.cellsOf f.type)) = xs[i]?)
  (i : Nat) {t o c : Nat} (h : (fs[i]?).map (fun f => (f.type, f.offset)) = some (t, o)) (hc : Tryz.prog.cellsOf t = c) (hlt : i < xs.length) :
  ∃ y, DataW.trod enc Tryz.prog w base spare held n t ((cs.drop o).take c) = some y := by
 cases hq : fs[i]? with
 | none => simp [hq] at h
 | some f =>
  rw [hq] at h
  simp only [Option.map_some, Option.some.injEq, Prod.mk.injEq] at h
  obtain ⟨rfl, rfl⟩ := h
  subst hc
  exact ⟨xs[i], by rw [hf i f hq, List.getElem?_eq_getElem hlt]⟩
end
end Go.Proofs.YtaegelbaghaooaaGreat
