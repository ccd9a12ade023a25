/- Blocks of a list, each sorted by itself. Plain Lean: no program. -/
import Derived.Test.YtoaaoggggjjbaaaStableMath
namespace Go.Proofs.Ytoaaoggggjjbaaa.St
open Go.Sort
variable {α : Type} (κ : α → Int)
/-! ### blocks, each sorted by itself -/
def blocks (s : Nat) (L : List α) : List α :=
  if _h : L = [] ∨ s = 0 then [] else ssort κ (L.take s) ++ blocks s (L.drop s)
termination_by L.length
decreasing_by
  simp only [List.length_drop]
  have : 0 < L.length := List.length_pos_iff.2 fun q => _h (Or.inl q)
  omega
theorem blocks_nil (s : Nat) : blocks κ s ([] : List α) = [] := by rw [blocks]; simp
theorem blocks_more (s : Nat) (X R : List α) (hs : 0 < s) (hX : X.length = s) : blocks κ s (X ++ R) = ssort κ X ++ blocks κ s R := by
  rw [blocks, dif_neg (by
    rintro (h | h)
    · have := congrArg List.length h
      rw [List.length_append, List.length_nil] at this; omega
    · omega)]
  rw [List.take_append_of_le_length (by omega), List.take_of_length_le (by omega), List.drop_append_of_le_length (by omega), List.drop_of_length_le (by omega), List.nil_append]
theorem blocks_one (s : Nat) (X : List α) (hs : 0 < s) (hX : X.length ≤ s) : blocks κ s X = ssort κ X := by
  by_cases h : X = []
  · subst h; rw [blocks_nil]; rfl
  · rw [blocks, dif_neg (by rintro (q | q); exact h q; omega), List.take_of_length_le hX, List.drop_of_length_le hX, blocks_nil, List.append_nil]
theorem blocks_append (s : Nat) (hs : 0 < s) (R : List α) : ∀ (t : Nat) (X : List α), X.length = s * t → blocks κ s (X ++ R) = blocks κ s X ++ blocks κ s R
  | 0, X, h => by
    have : X = [] := List.eq_nil_of_length_eq_zero (by simpa using h)
    subst this
    rw [blocks_nil]; rfl
  | t + 1, X, h => by
    rw [Nat.mul_succ] at h
    have e : X = X.take s ++ X.drop s := (List.take_append_drop s X).symm
    have l1 : (X.take s).length = s := by rw [List.length_take]; omega
    have l2 : (X.drop s).length = s * t := by rw [List.length_drop]; omega
    rw [e, List.append_assoc, blocks_more κ s _ _ hs l1, blocks_append s hs R t (X.drop s) l2, blocks_more κ s _ _ hs l1, List.append_assoc]
theorem length_blocks (s : Nat) (hs : 0 < s) : ∀ (n : Nat) (L : List α), L.length ≤ n → (blocks κ s L).length = L.length
  | 0, L, h => by
    have : L = [] := List.eq_nil_of_length_eq_zero (by omega)
    subst this; rw [blocks_nil]
  | n + 1, L, h => by
    rcases Nat.lt_or_ge L.length s with q | q
    · rw [blocks_one κ s L hs (by omega), length_ssort]
    · have e : L = L.take s ++ L.drop s := (List.take_append_drop s L).symm
      have l1 : (L.take s).length = s := by rw [List.length_take]; omega
      have l2 : (L.drop s).length = L.length - s := by rw [List.length_drop]
      conv => lhs; rw [e]
      rw [blocks_more κ s _ _ hs l1, List.length_append, length_ssort, length_blocks s hs n (L.drop s) (by omega)]
      omega
end Go.Proofs.Ytoaaoggggjjbaaa.St
