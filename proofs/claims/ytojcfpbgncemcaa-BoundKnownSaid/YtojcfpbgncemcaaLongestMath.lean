/- The longest row without a return, by gaps in the sorted returns and step by step: one number. Plain Lean: no program. -/
import Derived.Test.YtojcfpbgncemcaaLongest
namespace Go.Proofs.Ytojcfpbgncemcaa
open Go.RowKit
/-- step by step: 'pos' steps were done; 'M' the longest row so far, 'r' the present one; so many are left. -/
def runs (hit : Int → Bool) (pos M r : Int) : Nat → Int
  | 0 => M
  | n + 1 => runs hit (pos + 1) (max M (if hit (pos + 1) then 0 else r + 1)) (if hit (pos + 1) then 0 else r + 1) n
def hits (es : List Ev) (pos : Int) : Bool := es.any fun e => e.done && e.to == pos
def gaps : List Int → Int → Int → Int
  | [], M, _ => M
  | a :: l, M, p => gaps l (max M (a - p - 1)) a
theorem runs_succ (hit : Int → Bool) (pos M r : Int) (n : Nat) : runs hit pos M r (n + 1) = runs hit (pos + 1) (max M (if hit (pos + 1) then 0 else r + 1)) (if hit (pos + 1) then 0 else r + 1) n := rfl
theorem runs_idle (hit : Int → Bool) : ∀ (n m : Nat) (pos M r : Int), r ≤ M → (∀ j, pos < j → j ≤ pos + n → hit j = false) → runs hit pos M r (n + m) = runs hit (pos + n) (max M (r + n)) (r + n) m
  | 0, m, pos, M, r, h, _ => by simp [Int.max_eq_left h]
  | n + 1, m, pos, M, r, h, hn => by
    have h1 := hn (pos + 1) (by omega) (by omega)
    have e : n + 1 + m = (n + m) + 1 := by omega
    rw [e, runs_succ, h1]
    simp only [Bool.false_eq_true, if_false]
    rw [runs_idle hit n m (pos + 1) (max M (r + 1)) (r + 1) (by omega) (fun j a b => hn j (by omega) (by omega))]
    have e1 : pos + 1 + (n : Int) = pos + ((n + 1 : Nat) : Int) := by omega
    have e2 : r + 1 + (n : Int) = r + ((n + 1 : Nat) : Int) := by omega
    rw [e1, e2, Int.max_assoc, Int.max_eq_right (a := r + 1) (by omega)]
theorem runs_gaps (hit : Int → Bool) (N : Int) : ∀ (l : List Int) (p M : Int) (n : Nat), 0 ≤ M → n = (N - p).toNat → p ≤ N → (∀ a ∈ l, p ≤ a ∧ a ≤ N) → l.Pairwise (· ≤ ·) →
    (∀ j, p < j → j ≤ N → hit j = l.contains j) → runs hit p M 0 n = gaps (l ++ [N + 1]) M p
  | [], p, M, n, hM, hn, hp, _, _, hh => by
    have := runs_idle hit n 0 p M 0 hM (fun j a b => by rw [hh j a (by omega)]; rfl)
    rw [Nat.add_zero] at this
    rw [this]
    simp only [runs, List.nil_append, gaps]
    congr 1
    omega
  | a :: l, p, M, n, hM, hn, hp, hb, hs, hh => by
    obtain ⟨ha1, ha2⟩ := hb a (List.mem_cons_self ..)
    rw [List.pairwise_cons] at hs
    by_cases e : a = p
    · subst e
      rw [List.cons_append, gaps, Int.max_eq_left (by omega)]
      refine runs_gaps hit N l a M n hM hn hp (fun x hx => ⟨hs.1 x hx, (hb x (List.mem_cons_of_mem _ hx)).2⟩) hs.2 (fun j h1 h2 => ?_)
      rw [hh j h1 h2, List.contains_cons]
      have : (j == a) = false := by simp; omega
      rw [this, Bool.false_or]
    · obtain ⟨k, hk⟩ : ∃ k : Nat, n = (a - p - 1).toNat + (k + 1) := ⟨(N - a).toNat, by omega⟩
      rw [hk, runs_idle hit _ _ p M 0 hM (fun j h1 h2 => ?_)]
      · have e1 : p + ((a - p - 1).toNat : Int) + 1 = a := by omega
        have hha : hit a = true := by rw [hh a (by omega) ha2]; simp
        rw [runs_succ, e1, hha]
        simp only [if_true]
        have e2 : (0 : Int) + ((a - p - 1).toNat : Int) = a - p - 1 := by omega
        rw [e2, List.cons_append, gaps, Int.max_eq_left (a := max M (a - p - 1)) (by omega)]
        refine runs_gaps hit N l a _ k (by omega) (by omega) ha2 (fun x hx => ⟨hs.1 x hx, (hb x (List.mem_cons_of_mem _ hx)).2⟩) hs.2 (fun j h1 h2 => ?_)
        rw [hh j (by omega) h2, List.contains_cons]
        have : (j == a) = false := by simp; omega
        rw [this, Bool.false_or]
      · rw [hh j h1 (by omega)]
        rw [← Bool.not_eq_true, List.contains_iff_mem, List.mem_cons]
        rintro (h | h)
        · omega
        · have := hs.1 j h
          omega
theorem gapsW_gaps : ∀ (l : List Int) (M p lo hi : Int), lo ≤ p → p ≤ hi → -4611686018427387904 ≤ lo → hi ≤ 4611686018427387903 → (∀ a ∈ l, lo ≤ a ∧ a ≤ hi) → gapsW l M p = gaps l M p
  | [], M, p, lo, hi, _, _, _, _, _ => rfl
  | a :: l, M, p, lo, hi, h1, h2, h3, h4, h => by
    obtain ⟨ha1, ha2⟩ := h a (List.mem_cons_self ..)
    unfold gapsW gaps
    rw [IntWalk.wrap64_in (a - p) (by omega), IntWalk.wrap64_in (a - p - 1) (by omega)]
    exact gapsW_gaps l _ a lo hi ha1 ha2 h3 h4 fun x hx => h x (List.mem_cons_of_mem _ hx)
theorem rets_mem {es : List Ev} {steps a : Int} (h : a ∈ rets es steps) : 1 ≤ a ∧ a ≤ steps := by
  unfold rets at h
  obtain ⟨e, he, rfl⟩ := List.mem_map.1 h
  have := (List.mem_filter.1 he).2
  simp only [Bool.and_eq_true, decide_eq_true_eq] at this
  exact ⟨this.1.2, this.2⟩
theorem hits_rets (es : List Ev) (steps j : Int) (h1 : 0 < j) (h2 : j ≤ steps) : hits es j = (rets es steps).contains j := by
  rw [Bool.eq_iff_iff, List.contains_iff_mem]
  unfold hits rets
  rw [List.any_eq_true, List.mem_map]
  constructor
  · rintro ⟨e, he, hd⟩
    simp only [Bool.and_eq_true, beq_iff_eq] at hd
    refine ⟨e, List.mem_filter.2 ⟨he, ?_⟩, hd.2⟩
    simp only [Bool.and_eq_true, decide_eq_true_eq]
    exact ⟨⟨hd.1, by omega⟩, by omega⟩
  · rintro ⟨e, he, rfl⟩
    obtain ⟨he1, he2⟩ := List.mem_filter.1 he
    simp only [Bool.and_eq_true, decide_eq_true_eq] at he2
    exact ⟨e, he1, by simp [he2.1.1]⟩
/-- the two reckonings agree. -/
theorem longest_same (es : List Ev) (steps : Int) (h1 : -9223372036854775808 ≤ steps) (h2 : steps ≤ 1000000) : longestV es steps = runs (hits es) 0 0 0 steps.toNat := by
  unfold longestV
  by_cases hs : steps < 0
  · have hr : rets es steps = [] := by
      rw [List.eq_nil_iff_forall_not_mem]
      intro a ha
      have := rets_mem ha
      omega
    have h0 : steps.toNat = 0 := by omega
    rw [hr, h0]
    simp only [List.mergeSort_nil, List.nil_append, gapsW, runs]
    rw [IntWalk.wrap64_in (steps + 1 - 0) (by omega), IntWalk.wrap64_in (steps + 1 - 0 - 1) (by omega)]
    omega
  · have hmem : ∀ a, a ∈ (rets es steps).mergeSort (fun x y => decide (x ≤ y)) ↔ a ∈ rets es steps := fun a => List.mem_mergeSort
    have hsorted : ((rets es steps).mergeSort (fun x y => decide (x ≤ y))).Pairwise (· ≤ ·) := by
      have := List.pairwise_mergeSort (le := fun x y : Int => decide (x ≤ y)) (fun a b c h1 h2 => by simp at *; omega) (fun a b => by simp; omega) (rets es steps)
      exact this.imp (by intro a b h; simpa using h)
    generalize (rets es steps).mergeSort (fun x y => decide (x ≤ y)) = l at *
    rw [gapsW_gaps _ 0 0 0 1000001 (by omega) (by omega) (by omega) (by omega) (fun a ha => ?_)]
    · refine (runs_gaps (hits es) steps l 0 0 _ (by omega) (by omega) (by omega) (fun a ha => ?_) hsorted (fun j a b => ?_)).symm
      · have := rets_mem ((hmem a).1 ha)
        omega
      · rw [hits_rets es steps j a b, Bool.eq_iff_iff, List.contains_iff_mem, List.contains_iff_mem]
        exact (hmem j).symm
    · rcases List.mem_append.1 ha with h | h
      · have := rets_mem ((hmem a).1 h)
        omega
      · simp at h
        omega
end Go.Proofs.Ytojcfpbgncemcaa
