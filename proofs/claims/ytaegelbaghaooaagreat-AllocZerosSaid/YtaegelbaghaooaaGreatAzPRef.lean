/- The document's functions over lists of blocks: what their trees come to. -/
import Derived.Test.YtaegelbaghaooaaGreatAzPList
import Derived.Test.YtaegelbaghaooaaGreatAzQRf1
set_option linter.unusedSimpArgs false
set_option linter.unusedVariables false
set_option linter.unusedSectionVars false
namespace Go.Proofs.YtaegelbaghaooaaGreat
open Go Go.RowKit Lx
theorem loopB_P {σ β : Type} {B : σ → (σ → T β) → T β} (P : T β → Prop) (I : Nat → σ → Prop) (hB : ∀ k i (κ : σ → T β), I k i → (∀ j i', j < k → I j i' → P (κ i')) → P (B i κ)) :
    ∀ (N k : Nat) (i : σ), k < N → I k i → P (loopB N B i)
  | 0, k, i, h, hI => by omega
  | N + 1, k, i, h, hI => hB k i (loopB N B) hI fun j i' hj hI' => loopB_P P I hB N j i' (by omega) hI'
theorem succ64 {x : Nat} (h : x < 9223372036854775807) : IntKind.wrap IntKind.i64 ((x : Int) + 1) = ((x + 1 : Nat) : Int) := by rw [IntKind.wrap_i64]; omega
def Row3 (L : RowsL) : Prop := ∀ r ∈ L, r.length = 3
theorem row3 {r : List Int} (h : r.length = 3) : [getI r 0, getI r 1, getI r 2] = r := by
  match r, h with
  | [a, b, c], _ => rfl
theorem getR_at {L : RowsL} {j : Nat} (h : j < L.length) : getR L j = L[j] := by
  unfold getR; rw [List.getD_eq_getElem?_getD, List.getElem?_eq_getElem h]; rfl
theorem inR_yes {m j : Nat} (h : j < m) : inR m (j : Int) = true := by
  unfold inR; rw [decide_eq_true_eq]; omega
theorem in_yes {m j : Nat} (h : j < m) : decide (0 ≤ (j : Int) ∧ (j : Int) < ((m : Nat) : Int)) = true := by
  rw [decide_eq_true_eq]; omega
theorem P_yes {β : Type} {P : T β → Prop} {x y : T β} {b : Bool} (hb : b = true) (h : P x) : P (bif b then x else y) := by subst hb; exact h
theorem P_no {β : Type} {P : T β → Prop} {x y : T β} {b : Bool} (hb : b = false) (h : P y) : P (bif b then x else y) := by subst hb; exact h
theorem woth_eq {L : RowsL} {p : Nat} (h3 : Row3 L) (hl : L.length ≤ 1000) : wothT L.length L (p : Int) = .ret ((L.eraseIdx p).length, L.eraseIdx p) := by
  unfold wothT wothTK wothT_0L
  refine loopB_P (fun q => q = .ret ((L.eraseIdx p).length, L.eraseIdx p)) (fun k i => ∃ j : Nat, i = (((L.take j).eraseIdx p).length, (j : Int), (L.take j).eraseIdx p) ∧ j ≤ L.length ∧ k = L.length - j) ?_ fuelN L.length _ (by unfold fuelN; omega) ⟨0, by simp, by omega, by omega⟩
  rintro k i κ ⟨j, rfl, hj, rfl⟩ ih
  unfold wothT_0B
  simp only
  by_cases h : j < L.length
  · refine P_yes (P := fun q => q = _) (by rw [decide_eq_true_eq]; omega) ?_
    rw [succ64 (by omega)]
    have ht : L.take (j + 1) = L.take j ++ [L[j]] := by rw [List.take_succ_eq_append_getElem h]
    by_cases he : j = p
    · subst he
      refine P_no (P := fun q => q = _) (by simp) (ih (L.length - (j + 1)) _ (by omega) ⟨j + 1, ?_, by omega, rfl⟩)
      have : (L.take (j + 1)).eraseIdx j = (L.take j).eraseIdx j := by
        rw [ht, List.eraseIdx_append_of_length_le (by rw [List.length_take]; omega), List.eraseIdx_of_length_le (l := L.take j) (by rw [List.length_take]; omega), List.length_take, Nat.min_eq_left hj, Nat.sub_self]; simp
      rw [this]
    · refine P_yes (P := fun q => q = _) (by simp; omega) ?_
      refine P_yes (P := fun q => q = _) (in_yes h) (P_yes (P := fun q => q = _) (inR_yes h) ?_)
      have hle : ((L.take j).eraseIdx p).length ≤ 1000 := Nat.le_trans (List.length_eraseIdx_le _ _) (by simp; omega)
      refine P_yes (P := fun q => q = _) (by simp only [Nat.beq_refl, Bool.true_and]; exact Nat.ble_eq_true_of_le hle) ?_
      rw [show Int.toNat (j : Int) = j from rfl, getR_at h, row3 (h3 _ (List.getElem_mem h))]
      have : (L.take (j + 1)).eraseIdx p = (L.take j).eraseIdx p ++ [L[j]] := by
        rw [ht]
        by_cases hlt : p < j
        · rw [List.eraseIdx_append_of_lt_length (by rw [List.length_take]; omega)]
        · rw [List.eraseIdx_append_of_length_le (by rw [List.length_take]; omega), List.eraseIdx_of_length_le (l := L.take j) (by rw [List.length_take]; omega), List.eraseIdx_of_length_le (by rw [List.length_take, List.length_singleton]; omega)]
      refine ih (L.length - (j + 1)) _ (by omega) ⟨j + 1, ?_, by omega, rfl⟩
      rw [this, List.length_append]; rfl
  · obtain rfl : j = L.length := by omega
    refine P_no (P := fun q => q = _) (by rw [decide_eq_false_iff_not]; omega) ?_
    rw [List.take_length]
end Go.Proofs.YtaegelbaghaooaaGreat
