/- Realloc: a block stays, or goes. -/
import Derived.Test.YtaegelbaghaooaaGreatAzM9
import Derived.Test.YtaegelbaghaooaaGreatAzPList
set_option linter.unusedSimpArgs false
set_option linter.unusedVariables false
set_option linter.unusedSectionVars false
namespace Go.Proofs.YtaegelbaghaooaaGreat
open Go Go.RowKit Lx
def Bys (b : List Int) : Prop := ∀ x ∈ b, 0 ≤ x ∧ x ≤ 255
theorem Bys.set {b : List Int} (h : Bys b) (i : Nat) {x : Int} (h0 : 0 ≤ x) (h1 : x ≤ 255) : Bys (b.set i x) := fun y hy => by
  rcases List.mem_or_eq_of_mem_set hy with hy | rfl
  · exact h y hy
  · exact ⟨h0, h1⟩
theorem Bys.getD {b : List Int} (h : Bys b) (i : Nat) : 0 ≤ b.getD i 0 ∧ b.getD i 0 ≤ 255 := by
  rw [List.getD_eq_getElem?_getD]
  cases hi : b[i]? with
  | none => exact ⟨by simp, by simp⟩
  | some x => exact h x (List.mem_of_getElem? hi)
theorem Bys.zeroed {b : List Int} (h : Bys b) (p : Nat) : ∀ m, Bys (zeroed b p m)
  | 0 => h
  | m + 1 => by
    have e : Go.Proofs.YtaegelbaghaooaaGreat.zeroed b p (m + 1) = (Go.Proofs.YtaegelbaghaooaaGreat.zeroed b p m).set (p + m) 0 := by unfold Go.Proofs.YtaegelbaghaooaaGreat.zeroed; rw [List.range_succ, List.foldl_append]; rfl
    rw [e]; exact (h.zeroed p m).set _ (by omega) (by omega)
section
variable {n t : Nat} (hf : Small n t) {A : AS} {held : Nat → Option HK} {live : Nat → Option Nat}
include hf
end
end Go.Proofs.YtaegelbaghaooaaGreat
