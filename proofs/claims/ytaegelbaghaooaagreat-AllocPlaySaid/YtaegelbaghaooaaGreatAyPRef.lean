/- The document's functions over lists of blocks: what their trees come to. -/
import Derived.Test.YtaegelbaghaooaaGreatAyPList
import Derived.Test.YtaegelbaghaooaaGreatAyQRf1
set_option linter.unusedSimpArgs false
set_option linter.unusedVariables false
set_option linter.unusedSectionVars false
namespace Go.Proofs.YtaegelbaghaooaaGreat
open Go Go.RowKit Lx
theorem vB {σ β : Type} {B : σ → (σ → T β) → T β} (P : T β → Prop) (I : Nat → σ → Prop) (hB : ∀ k i (κ : σ → T β), I k i → (∀ j i', j < k → I j i' → P (κ i')) → P (B i κ)) :
  ∀ (N k : Nat) (i : σ), k < N → I k i → P (xA N B i)
 | 0, k, i, h, hI => by omega
 | N + 1, k, i, h, hI => hB k i (xA N B) hI fun j i' hj hI' => vB P I hB N j i' (by omega) hI'
theorem qH {x : Nat} (h : x < 9223372036854775807) : IntKind.i64.wrap ((x : Int) + 1) = ((x + 1 : Nat) : Int) := by rw [IntKind.wrap_i64]; omega
def Row3 (L : RowsL) : Prop := ∀ r ∈ L, r.length = 3
theorem row3 {r : List Int} (h : r.length = 3) : [getI r 0, getI r 1, getI r 2] = r := by
 match r, h with
 | [a, b, c], _ => rfl
theorem kW {L : RowsL} {j : Nat} (h : j < L.length) : getR L j = L[j] := by
 unfold getR; rw [List.getD_eq_getElem?_getD, List.getElem?_eq_getElem h]; rfl
theorem yl {m j : Nat} (h : j < m) : inR m (j : Int) = true := by
 unfold inR; rw [decide_eq_true_eq]; omega
theorem yO {m j : Nat} (h : j < m) : decide (0 ≤ (j : Int) ∧ (j : Int) < ((m : Nat) : Int)) = true := by
 rw [decide_eq_true_eq]; omega
theorem xD {β : Type} {P : T β → Prop} {x y : T β} {b : Bool} (hb : b = true) (h : P x) : P (bif b then x else y) := by subst hb; exact h
theorem P_no {β : Type} {P : T β → Prop} {x y : T β} {b : Bool} (hb : b = false) (h : P y) : P (bif b then x else y) := by subst hb; exact h
theorem xth {a : Int} (h2 : a < 9223372036854775808) : ∃ b, WJ a = .ret b ∧ b = powA a := by
 have half : ∀ i : Int, 1 < i → i < 9223372036854775808 → IntKind.i64.wrap (Int.tdiv i 2) = i / 2 := fun i h1 h2 => by
  rw [Int.tdiv_eq_ediv_of_nonneg (by omega), w64 (by omega) (by omega)]
 have even : ∀ i : Int, 1 < i → (Int.tmod i 2 == 0) = decide (i % 2 = 0) := fun i h1 => by
  rw [Int.tmod_eq_emod_of_nonneg (by omega)]; by_cases h : i % 2 = 0 <;> simp [h]
 by_cases hp : ∃ k : Nat, a = ((2 ^ k : Nat) : Int)
 ·obtain ⟨k, rfl⟩ := hp
  refine ⟨true, ?_, ?_⟩
  ·unfold WJ Ky wq
   refine vB (fun q => q = .ret true) (fun k i => i = ((2 ^ k : Nat) : Int) ∧ k < 63) ?_ xd k _ ?_ ⟨rfl, ?_⟩
   ·rintro k i κ ⟨rfl, hk⟩ ih
    unfold qh
    have hk2 : 2 ^ k < 2 ^ 63 := (Nat.pow_lt_pow_iff_right (by omega)).2 hk
    cases k with
    | zero => exact P_no (P := fun q => q = .ret true) rfl rfl
    | succ j =>
     have e : 2 ^ (j + 1) = 2 * 2 ^ j := by rw [Nat.pow_succ]; omega
     have hj : 1 ≤ 2 ^ j := Nat.one_le_two_pow
     refine xD (P := fun q => q = .ret true) (by rw [decide_eq_true_eq, e]; omega) ?_
     rw [even _ (by rw [e]; omega), half _ (by rw [e]; omega) (by omega)]
     refine xD (P := fun q => q = .ret true) (by rw [decide_eq_true_eq, e]; omega) (ih j _ (by omega) ⟨by rw [e]; omega, by omega⟩)
   ·unfold xd
    by_cases hk : k < 63
    ·omega
    ·have := Nat.pow_le_pow_right (n := 2) (by omega) (show 63 ≤ k by omega); omega
   ·by_cases hk : k < 63
    ·exact hk
    ·have := Nat.pow_le_pow_right (n := 2) (by omega) (show 63 ≤ k by omega); omega
  ·unfold powA
   have hk : 2 ^ k < 9223372036854775808 := by omega
   have hk1 : 1 ≤ 2 ^ k := Nat.one_le_two_pow
   symm
   rw [Bool.and_eq_true, decide_eq_true_eq, beq_iff_eq]
   refine ⟨by omega, ?_⟩
   rw [show ((2 ^ k : Nat) : Int) - 1 = ((2 ^ k - 1 : Nat) : Int) by omega, wN _ (by omega), xpv _ _ (by omega) (by omega)]
   rw [(Nat.and_sub_one_eq_zero_iff_isPowerOfTwo (show 2 ^ k ≠ 0 by omega)).2 ⟨k, rfl⟩]; rfl
 ·refine ⟨false, ?_, ?_⟩
  ·unfold WJ Ky wq
   refine vB (fun q => q = .ret false) (fun k i => (¬ ∃ m : Nat, i = ((2 ^ m : Nat) : Int)) ∧ i < ((2 ^ k : Nat) : Int) ∧ k < 64) ?_ xd 63 _ (by unfold xd; omega) ⟨hp, by omega, by omega⟩
   rintro k i κ ⟨h1, h3, hk⟩ ih
   unfold qh
   have hk2 : 2 ^ k ≤ 2 ^ 63 := (Nat.pow_le_pow_iff_right (by omega)).2 (by omega)
   have hne : (i == 1) = false := beq_eq_false_iff_ne.2 fun hh => h1 ⟨0, hh⟩
   by_cases hi : i > 1
   ·refine xD (P := fun q => q = .ret false) (decide_eq_true hi) ?_
    rw [even _ hi, half _ hi (by omega)]
    cases k with
    | zero => omega
    | succ j =>
     have e : 2 ^ (j + 1) = 2 * 2 ^ j := by rw [Nat.pow_succ]; omega
     by_cases h5 : i % 2 = 0
     ·refine xD (P := fun q => q = .ret false) (decide_eq_true h5) (ih j _ (by omega) ⟨?_, by rw [e] at h3; omega, by omega⟩)
      rintro ⟨m, hm⟩
      exact h1 ⟨m + 1, by rw [Nat.pow_succ]; omega⟩
     ·refine P_no (P := fun q => q = .ret false) (decide_eq_false h5) ?_
      show T.ret (i == 1) = _
      rw [hne]
   ·refine P_no (P := fun q => q = .ret false) (decide_eq_false hi) ?_
    show T.ret (i == 1) = _
    rw [hne]
  ·cases hA : powA a with
   | false => rfl
   | true => exact absurd (xtb hA h2) hp
theorem find_eq {L : RowsL} {a : Int} (hl : L.length ≤ 1000) : xaW L.length L a = .ret (match ZT L a with | some i => ((i : Nat) : Int) | none => -1) := by
 unfold xaW xco kr
 refine vB (fun q => q = .ret (match ZT L a with | some i => ((i : Nat) : Int) | none => -1)) (fun k i => ∃ j : Nat, i = (j : Int) ∧ j ≤ L.length ∧ k = L.length - j ∧ ∀ m (h : m < L.length), m < j → getI L[m] 0 ≠ a) ?_ xd L.length _ (by unfold xd; omega) ⟨0, rfl, by omega, by omega, fun m _ hm => by omega⟩
 rintro k i κ ⟨j, rfl, hj, rfl, hno⟩ ih
 unfold Yk
 by_cases h : j < L.length
 ·refine xD (P := fun q => q = _) (by rw [decide_eq_true_eq]; omega) (xD (P := fun q => q = _) (yO h) (xD (P := fun q => q = _) (yl h) ?_))
  rw [show Int.toNat (j : Int) = j from rfl, kW h, qH (by omega)]
  by_cases he : getI L[j] 0 = a
  ·refine xD (P := fun q => q = _) (by simpa using he) ?_
   have : ZT L a = some j := List.findIdx?_eq_some_iff_getElem.2 ⟨h, by simpa using he, fun m hm => by simpa using hno m (by omega) hm⟩
   rw [this]
  ·refine P_no (P := fun q => q = _) (by simpa using he) (ih (L.length - (j + 1)) _ (by omega) ⟨j + 1, rfl, by omega, rfl, fun m h1 hm => ?_⟩)
   by_cases hmj : m = j
   ·subst hmj; exact he
   ·exact hno m h1 (by omega)
 ·obtain rfl : j = L.length := by omega
  refine P_no (P := fun q => q = _) (by rw [decide_eq_false_iff_not]; omega) ?_
  have : ZT L a = none := by
   unfold ZT
   rw [List.findIdx?_eq_none_iff]
   intro r hr
   obtain ⟨m, hm, rfl⟩ := List.mem_iff_getElem.1 hr
   simpa using hno m hm hm
  rw [this]
theorem woth_eq {L : RowsL} {p : Nat} (h3 : Row3 L) (hl : L.length ≤ 1000) : xgO L.length L (p : Int) = .ret ((L.eraseIdx p).length, L.eraseIdx p) := by
 unfold xgO xjh qi
 refine vB (fun q => q = .ret ((L.eraseIdx p).length, L.eraseIdx p)) (fun k i => ∃ j : Nat, i = (((L.take j).eraseIdx p).length, (j : Int), (L.take j).eraseIdx p) ∧ j ≤ L.length ∧ k = L.length - j) ?_ xd L.length _ (by unfold xd; omega) ⟨0, by simp, by omega, by omega⟩
 rintro k i κ ⟨j, rfl, hj, rfl⟩ ih
 unfold Kz
 simp only
 by_cases h : j < L.length
 ·refine xD (P := fun q => q = _) (by rw [decide_eq_true_eq]; omega) ?_
  rw [qH (by omega)]
  have ht : L.take (j + 1) = L.take j ++ [L[j]] := by rw [List.take_succ_eq_append_getElem h]
  by_cases he : j = p
  ·subst he
   refine P_no (P := fun q => q = _) (by simp) (ih (L.length - (j + 1)) _ (by omega) ⟨j + 1, ?_, by omega, rfl⟩)
   have : (L.take (j + 1)).eraseIdx j = (L.take j).eraseIdx j := by
    rw [ht, List.eraseIdx_append_of_length_le (by rw [List.length_take]; omega), List.eraseIdx_of_length_le (l := L.take j) (by rw [List.length_take]; omega), List.length_take, Nat.min_eq_left hj, Nat.sub_self]; simp
   rw [this]
  ·refine xD (P := fun q => q = _) (by simp; omega) ?_
   refine xD (P := fun q => q = _) (yO h) (xD (P := fun q => q = _) (yl h) ?_)
   have hle : ((L.take j).eraseIdx p).length ≤ 1000 := Nat.le_trans (List.length_eraseIdx_le _ _) (by simp; omega)
   refine xD (P := fun q => q = _) (by simp only [Nat.beq_refl, Bool.true_and]; exact Nat.ble_eq_true_of_le hle) ?_
   rw [show Int.toNat (j : Int) = j from rfl, kW h, row3 (h3 _ (List.getElem_mem h))]
   have : (L.take (j + 1)).eraseIdx p = (L.take j).eraseIdx p ++ [L[j]] := by
    rw [ht]
    by_cases hlt : p < j
    ·rw [List.eraseIdx_append_of_lt_length (by rw [List.length_take]; omega)]
    ·rw [List.eraseIdx_append_of_length_le (by rw [List.length_take]; omega), List.eraseIdx_of_length_le (l := L.take j) (by rw [List.length_take]; omega), List.eraseIdx_of_length_le (by rw [List.length_take, List.length_singleton]; omega)]
   refine ih (L.length - (j + 1)) _ (by omega) ⟨j + 1, ?_, by omega, rfl⟩
   rw [this, List.length_append]; rfl
 ·obtain rfl : j = L.length := by omega
  refine P_no (P := fun q => q = _) (by rw [decide_eq_false_iff_not]; omega) ?_
  rw [List.take_length]
def Low3 (L : RowsL) : Prop := ∀ r ∈ L, (0 ≤ getI r 0 ∧ getI r 0 ≤ 1000000) ∧ (0 ≤ getI r 1 ∧ getI r 1 ≤ 1000000)
theorem div8 {x : Int} (h : 0 ≤ x) (h2 : x ≤ 1000000) : IntKind.i64.wrap (Int.tdiv x 8) = x / 8 := by
 rw [Int.tdiv_eq_ediv_of_nonneg h, w64 (by omega) (by omega)]
theorem xhs {L : RowsL} (hw : Low3 L) (hl : L.length ≤ 1000) : xbB L.length L = .ret (L.length, L.map h13) := by
 unfold xbB xji qj
 refine vB (fun q => q = .ret (L.length, L.map h13)) (fun k i => ∃ j : Nat, i = (j, (j : Int), (L.take j).map h13) ∧ j ≤ L.length ∧ k = L.length - j) ?_ xd L.length _ (by unfold xd; omega) ⟨0, by simp, by omega, by omega⟩
 rintro k i κ ⟨j, rfl, hj, rfl⟩ ih
 unfold KB
 simp only
 by_cases h : j < L.length
 ·refine xD (P := fun q => q = _) (by rw [decide_eq_true_eq]; omega) (xD (P := fun q => q = _) (yO h) (xD (P := fun q => q = _) (yl h) ?_))
  obtain ⟨⟨w1, w2⟩, w3, w4⟩ := hw _ (List.getElem_mem h)
  rw [show Int.toNat (j : Int) = j from rfl, kW h, qH (by omega), div8 w1 w2, div8 w3 w4, w64 (x := getI L[j] 1 / 8 - 1) (by omega) (by omega)]
  have hlen : ((L.take j).map h13).length = j := by simp; omega
  have happ : (Nat.beq ((L.take j).map h13).length j && Nat.ble j 1000) = true := by
   rw [hlen, Nat.beq_refl]; exact Nat.ble_eq_true_of_le (by omega)
  have ht : (L.take (j + 1)).map h13 = (L.take j).map h13 ++ [h13 L[j]] := by rw [List.take_succ_eq_append_getElem h, List.map_append]; rfl
  have hk : ∀ r, r = h13 L[j] → κ (j + 1, ((j + 1 : Nat) : Int), (L.take j).map h13 ++ [r]) = .ret (L.length, L.map h13) := fun r hr => by
   rw [hr, ← ht]
   exact ih (L.length - (j + 1)) _ (by omega) ⟨j + 1, rfl, by omega, rfl⟩
  by_cases hc : getI L[j] 1 / 8 - 1 > 3
  ·refine xD (P := fun q => q = _) (decide_eq_true hc) ?_
   refine xD (P := fun q => q = _) (yO h) (xD (P := fun q => q = _) (yl h) (xD (P := fun q => q = _) (yO h) (xD (P := fun q => q = _) (yl h) (xD (P := fun q => q = _) happ (hk _ ?_)))))
   unfold h13; rw [if_pos hc]
  ·refine P_no (P := fun q => q = _) (decide_eq_false hc) ?_
   refine xD (P := fun q => q = _) (yO h) (xD (P := fun q => q = _) (yl h) (xD (P := fun q => q = _) (yO h) (xD (P := fun q => q = _) (yl h) (xD (P := fun q => q = _) happ (hk _ ?_)))))
   unfold h13; rw [if_neg hc]
 ·obtain rfl : j = L.length := by omega
  refine P_no (P := fun q => q = _) (by rw [decide_eq_false_iff_not]; omega) ?_
  rw [List.take_length]
def xkC (L : RowsL) : Prop := ∀ r ∈ L, r.length = 3 ∧ (0 ≤ getI r 0 ∧ getI r 0 ≤ 1000000) ∧ (0 ≤ getI r 2 ∧ getI r 2 ≤ 1000000)
theorem on_eq {L : RowsL} (hw : xkC L) (hl : L.length ≤ 1000) {p : Int} (hp : 0 ≤ p) (hp2 : p ≤ 100000) : onT L.length L p = .ret ((on13 L p).length, on13 L p) := by
 unfold onT onTK xaX
 refine vB (fun q => q = .ret ((on13 L p).length, on13 L p)) (fun k i => ∃ j : Nat, i = ((on13 (L.take j) p).length, (j : Int), on13 (L.take j) p) ∧ j ≤ L.length ∧ k = L.length - j) ?_ xd L.length _ (by unfold xd; omega) ⟨0, by simp [on13], by omega, by omega⟩
 rintro k i κ ⟨j, rfl, hj, rfl⟩ ih
 unfold xjj
 simp only
 by_cases h : j < L.length
 ·refine xD (P := fun q => q = _) (by rw [decide_eq_true_eq]; omega) (xD (P := fun q => q = _) (yO h) (xD (P := fun q => q = _) (yl h) ?_))
  obtain ⟨h3, ⟨w1, w2⟩, w3, w4⟩ := hw _ (List.getElem_mem h)
  rw [show Int.toNat (j : Int) = j from rfl, kW h, qH (by omega), w64 (x := 8 * p) (by omega) (by omega), w64 (x := 8 * p + 8) (by omega) (by omega), w64 (x := getI L[j] 0 + getI L[j] 2) (by omega) (by omega)]
  have ht : on13 (L.take (j + 1)) p = if onP p L[j] then on13 (L.take j) p ++ [L[j]] else on13 (L.take j) p := by
   unfold on13
   rw [List.take_succ_eq_append_getElem h, List.filter_append]
   cases hoP : onP p L[j] <;> simp [hoP]
  have hk : ∀ M, M = on13 (L.take (j + 1)) p → κ (M.length, ((j + 1 : Nat) : Int), M) = .ret ((on13 L p).length, on13 L p) := fun M hM => by
   subst hM
   exact ih (L.length - (j + 1)) _ (by omega) ⟨j + 1, rfl, by omega, rfl⟩
  have hle : (on13 (L.take j) p).length ≤ 1000 := Nat.le_trans (List.length_filter_le _ _) (by simp; omega)
  by_cases hc : getI L[j] 0 < 8 * p + 8
  ·refine xD (P := fun q => q = _) (decide_eq_true hc) ?_
   refine xD (P := fun q => q = _) (yO h) (xD (P := fun q => q = _) (yl h) (xD (P := fun q => q = _) (yO h) (xD (P := fun q => q = _) (yl h) ?_)))
   by_cases hd : getI L[j] 0 + getI L[j] 2 > 8 * p
   ·refine xD (P := fun q => q = _) (decide_eq_true hd) (xD (P := fun q => q = _) (yO h) (xD (P := fun q => q = _) (yl h) ?_))
    refine xD (P := fun q => q = _) (by simp only [Nat.beq_refl, Bool.true_and]; exact Nat.ble_eq_true_of_le hle) ?_
    rw [row3 h3]
    have e : onP p L[j] = true := by unfold onP; rw [decide_eq_true hc, decide_eq_true hd]; rfl
    rw [e, if_pos rfl] at ht
    have := hk _ ht.symm
    rwa [List.length_append] at this
   ·refine P_no (P := fun q => q = _) (decide_eq_false hd) (hk _ ?_)
    have e : onP p L[j] = false := by unfold onP; rw [decide_eq_true hc, decide_eq_false hd]; rfl
    rw [ht, e]; rfl
  ·refine P_no (P := fun q => q = _) (decide_eq_false hc) (hk _ ?_)
   have e : onP p L[j] = false := by unfold onP; rw [decide_eq_false hc]; rfl
   rw [ht, e]; rfl
 ·obtain rfl : j = L.length := by omega
  refine P_no (P := fun q => q = _) (by rw [decide_eq_false_iff_not]; omega) ?_
  rw [List.take_length]
end Go.Proofs.YtaegelbaghaooaaGreat
