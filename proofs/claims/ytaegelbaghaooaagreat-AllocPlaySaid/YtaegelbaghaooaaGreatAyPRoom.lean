/- The document's room, and whether a block fits: what their trees come to. -/
import Derived.Test.YtaegelbaghaooaaGreatAyPRef
import Derived.Test.YtaegelbaghaooaaGreatAyQRf4
set_option linter.unusedSimpArgs false
set_option linter.unusedVariables false
set_option linter.unusedSectionVars false
namespace Go.Proofs.YtaegelbaghaooaaGreat
open Go Go.RowKit Lx
theorem yX {α β : Type} {q : T α} {a : α} {k : α → T β} (h : q = .ret a) : q.bind k = k a := by subst h; rfl
theorem fre_eq {L : RowsL} (hw : xkC L) (hl : L.length ≤ 1000) {m p k : Nat} (hm : m ≤ 1000) (hp : p ≤ 1000) (hk : k ≤ 1000) : xaY L.length L (m : Int) (p : Int) (k : Int) = .ret (jN L m p k) := by
 unfold xaY xcp ks
 refine vB (fun q => q = .ret (jN L m p k)) (fun r i => ∃ j : Nat, i = ((p + j : Nat) : Int) ∧ j ≤ k ∧ r = k - j ∧ ∀ x, x < j → p + x < m ∧ on13 L ((p + x : Nat) : Int) = []) ?_ xd k _ (by unfold xd; omega) ⟨0, rfl, by omega, by omega, fun x hx => by omega⟩
 rintro r i κ ⟨j, rfl, hj, rfl, hall⟩ ih
 unfold Ym
 have e : IntKind.i64.wrap ((p : Int) + (k : Int)) = ((p + k : Nat) : Int) := by rw [w64 (by omega) (by omega)]; omega
 rw [e, qH (by omega)]
 have no : ∀ x, x < k → ¬ (p + x < m ∧ on13 L ((p + x : Nat) : Int) = []) → jN L m p k = false := fun x hx hn => by
  rw [← Bool.not_eq_true]
  unfold jN
  intro hh
  rw [List.all_eq_true] at hh
  have := hh x (List.mem_range.2 hx)
  rw [Bool.and_eq_true, decide_eq_true_eq, List.isEmpty_iff] at this
  exact hn this
 by_cases h : j < k
 ·refine xD (P := fun q => q = _) (by rw [decide_eq_true_eq]; omega) ?_
  by_cases h2 : p + j ≥ m
  ·refine xD (P := fun q => q = _) (by rw [decide_eq_true_eq]; omega) ?_
   rw [no j h (by omega)]
  ·refine P_no (P := fun q => q = _) (by rw [decide_eq_false_iff_not]; omega) ?_
   rw [yX (on_eq hw hl (by omega) (by omega))]
   simp only
   by_cases h3 : on13 L ((p + j : Nat) : Int) = []
   ·refine P_no (P := fun q => q = _) (by rw [h3]; rfl) (ih (k - (j + 1)) _ (by omega) ⟨j + 1, by rw [Nat.add_assoc], by omega, rfl, fun x hx => ?_⟩)
    by_cases hxj : x = j
    ·subst hxj; exact ⟨by omega, h3⟩
    ·exact hall x (by omega)
   ·refine xD (P := fun q => q = _) ?_ ?_
    ·rw [decide_eq_true_eq]
     have := List.length_pos_iff.2 h3
     omega
    ·rw [no j h (by rintro ⟨_, hh⟩; exact h3 hh)]
 ·obtain rfl : j = k := by omega
  refine P_no (P := fun q => q = _) (by rw [decide_eq_false_iff_not]; omega) ?_
  have : jN L m p j = true := by
   unfold jN
   rw [List.all_eq_true]
   intro x hx
   have := hall x (List.mem_range.1 hx)
   rw [Bool.and_eq_true, decide_eq_true_eq, List.isEmpty_iff]
   exact this
  rw [this]
theorem bloc_eq {c : Nat} (hc : c < 4) : xpN (c : Int) = .ret (blc c : Int) := by
 rcases (by omega : c = 0 ∨ c = 1 ∨ c = 2 ∨ c = 3) with rfl | rfl | rfl | rfl <;> rfl
theorem has_eq {L : RowsL} (hw : xkC L) (hl : L.length ≤ 1000) {m c : Nat} (hm : m ≤ 1000) (hc : c < 4) : xa2 L.length L (m : Int) (c : Int) = .ret (xdp L m c) := by
 unfold xa2 xct ku
 refine vB (fun q => q = .ret (xdp L m c)) (fun r i => ∃ j : Nat, i = (j : Int) ∧ j ≤ m ∧ r = m - j ∧ ∀ x, x < j → hasP L c (x : Int) = false) ?_ xd m _ (by unfold xd; omega) ⟨0, rfl, by omega, by omega, fun x hx => by omega⟩
 rintro r i κ ⟨j, rfl, hj, rfl, hall⟩ ih
 unfold Yq
 rw [qH (by omega)]
 by_cases h : j < m
 ·refine xD (P := fun q => q = _) (by rw [decide_eq_true_eq]; omega) ?_
  rw [yX (on_eq hw hl (by omega) (by omega))]
  simp only
  have yes : hasP L c (j : Int) = true → xdp L m c = true := fun hh => List.any_eq_true.2 ⟨j, List.mem_range.2 h, hh⟩
  have next : hasP L c (j : Int) = false → κ ((j + 1 : Nat) : Int) = .ret (xdp L m c) := fun hh => ih (m - (j + 1)) _ (by omega) ⟨j + 1, rfl, by omega, rfl, fun x hx => by
   by_cases hxj : x = j
   ·subst hxj; exact hh
   ·exact hall x (by omega)⟩
  have hP : hasP L c (j : Int) = match on13 L (j : Int) with | [] => true | r :: l => decide (getI r 1 = (c : Int)) && decide (l.length + 1 < blc c) := rfl
  generalize hasP L c (j : Int) = b at *
  cases hO : on13 L (j : Int) with
  | nil =>
   rw [hO] at hP
   exact xD (P := fun q => q = _) rfl (by rw [yes hP])
  | cons r l =>
   rw [hO] at hP
   simp only at hP
   refine P_no (P := fun q => q = _) ?_ (xD (P := fun q => q = _) ?_ (xD (P := fun q => q = _) ?_ ?_))
   ·rw [beq_eq_false_iff_ne]; simp only [List.length_cons]; omega
   ·rw [decide_eq_true_eq]; simp only [List.length_cons]; omega
   ·unfold inR; rw [decide_eq_true_eq]; simp only [List.length_cons]; omega
   rw [show getR (r :: l) 0 = r from rfl]
   by_cases hc1 : getI r 1 = (c : Int)
   ·refine xD (P := fun q => q = _) (by simpa using hc1) ?_
    rw [yX (bloc_eq hc)]
    rw [decide_eq_true hc1, Bool.true_and] at hP
    by_cases hlt : l.length + 1 < blc c
    ·refine xD (P := fun q => q = _) ?_ (by rw [yes (by rw [hP, decide_eq_true_eq]; exact hlt)])
     rw [decide_eq_true_eq]; simp only [List.length_cons]; omega
    ·refine P_no (P := fun q => q = _) ?_ (next (by rw [hP, decide_eq_false_iff_not]; exact hlt))
     rw [decide_eq_false_iff_not]; simp only [List.length_cons]; omega
   ·refine P_no (P := fun q => q = _) (by simpa using hc1) (next (by rw [hP, decide_eq_false hc1]; rfl))
 ·obtain rfl : j = m := by omega
  refine P_no (P := fun q => q = _) (by rw [decide_eq_false_iff_not]; omega) ?_
  have : xdp L j c = false := by
   rw [← Bool.not_eq_true]
   intro hh
   obtain ⟨x, hx, h1⟩ := List.any_eq_true.1 hh
   rw [hall x (List.mem_range.1 hx)] at h1; cases h1
  rw [this]
theorem xpz {L : RowsL} (hw : xkC L) (hl : L.length ≤ 1000) {m k a : Nat} (hm : m ≤ 1000) (hk : k ≤ 1000) (ha : 1 ≤ a) : WK L.length L (m : Int) (k : Int) (a : Int) = .ret (xdo L m k a) := by
 unfold WK xcu kv
 refine vB (fun q => q = .ret (xdo L m k a)) (fun r i => ∃ j : Nat, i = (j : Int) ∧ j ≤ m ∧ r = m - j ∧ ∀ x, x < j → (decide (x % a = 0) && jN L m x k) = false) ?_ xd m _ (by unfold xd; omega) ⟨0, rfl, by omega, by omega, fun x hx => by omega⟩
 rintro r i κ ⟨j, rfl, hj, rfl, hall⟩ ih
 unfold Ys
 rw [qH (by omega)]
 by_cases h : j < m
 ·refine xD (P := fun q => q = _) (by rw [decide_eq_true_eq]; omega) (xD (P := fun q => q = _) (by rw [show ((a : Int) == 0) = false from beq_eq_false_iff_ne.2 (by omega)]; rfl) ?_)
  have em : (Int.tmod (j : Int) (a : Int) == 0) = decide (j % a = 0) := by
   rw [Int.tmod_eq_emod_of_nonneg (by omega)]
   by_cases h0 : j % a = 0
   ·rw [decide_eq_true h0, beq_iff_eq]
    omega
   ·rw [decide_eq_false h0, beq_eq_false_iff_ne]
    omega
  rw [em]
  have next : (decide (j % a = 0) && jN L m j k) = false → κ ((j + 1 : Nat) : Int) = .ret (xdo L m k a) := fun hh => ih (m - (j + 1)) _ (by omega) ⟨j + 1, rfl, by omega, rfl, fun x hx => by
   by_cases hxj : x = j
   ·subst hxj; exact hh
   ·exact hall x (by omega)⟩
  by_cases h0 : j % a = 0
  ·refine xD (P := fun q => q = _) (decide_eq_true h0) ?_
   rw [yX (fre_eq hw hl hm (by omega) hk)]
   cases hf : jN L m j k with
   | true =>
    have : xdo L m k a = true := List.any_eq_true.2 ⟨j, List.mem_range.2 h, by rw [decide_eq_true h0, hf]; rfl⟩
    rw [this]; rfl
   | false => exact next (by rw [hf, Bool.and_false])
  ·exact P_no (P := fun q => q = _) (decide_eq_false h0) (next (by rw [decide_eq_false h0]; rfl))
 ·obtain rfl : j = m := by omega
  refine P_no (P := fun q => q = _) (by rw [decide_eq_false_iff_not]; omega) ?_
  have : xdo L j k a = false := by
   rw [← Bool.not_eq_true]
   intro hh
   obtain ⟨x, hx, h1⟩ := List.any_eq_true.1 hh
   rw [hall x (List.mem_range.1 hx)] at h1; cases h1
  rw [this]
set_option maxHeartbeats 4000000 in
theorem cls_eq {s a : Int} : xaZ s a = .ret (match clsN s a with | some c => ((c : Nat) : Int) | none => -1) := by
 unfold xaZ xcq clsN
 have key : ∀ (p : Prop) [Decidable p] (x y : T Int), (bif decide p then x else y) = if p then x else y := fun p _ x y => by by_cases h : p <;> simp [h]
 simp only [key]
 by_cases c0 : s ≤ 8 ∧ a ≤ 8
 ·rw [if_pos c0]
  show _ = T.ret (((0 : Nat) : Int))
  repeat' split
  all_goals first | rfl | (exfalso; omega)
 rw [if_neg c0]
 by_cases c1 : s ≤ 16 ∧ a ≤ 16
 ·rw [if_pos c1]
  show _ = T.ret (((1 : Nat) : Int))
  repeat' split
  all_goals first | rfl | (exfalso; omega)
 rw [if_neg c1]
 by_cases c2 : s ≤ 24 ∧ a ≤ 8
 ·rw [if_pos c2]
  show _ = T.ret (((2 : Nat) : Int))
  repeat' split
  all_goals first | rfl | (exfalso; omega)
 rw [if_neg c2]
 by_cases c3 : s ≤ 32 ∧ a ≤ 32
 ·rw [if_pos c3]
  show _ = T.ret (((3 : Nat) : Int))
  repeat' split
  all_goals first | rfl | (exfalso; omega)
 rw [if_neg c3]
 show _ = T.ret ((-1 : Int))
 repeat' split
 all_goals first | rfl | (exfalso; omega)
def xpA (n : Nat) (s a : Int) : Int := if s < 1 ∨ 64 * n < s then 11 else if powA a then 0 else 12
theorem ask_eq {n : Nat} {s a : Int} (hn : n ≤ 1000) (ha : a < 9223372036854775808) : xa0 (n : Int) s a = .ret (xpA n s a) := by
 unfold xa0 xcr xpA
 rw [w64 (x := 64 * (n : Int)) (by omega) (by omega)]
 by_cases h1 : s < 1
 ·rw [decide_eq_true h1, if_pos (.inl h1)]; rfl
 rw [decide_eq_false h1]
 by_cases h2 : s > 64 * (n : Int)
 ·rw [decide_eq_true h2, if_pos (.inr (by omega))]; rfl
 rw [decide_eq_false h2, if_neg (by omega)]
 obtain ⟨b, h3, rfl⟩ := xth ha
 simp only [cond_false]
 rw [yX h3]
 cases powA a <;> rfl
theorem fit_eq {L : RowsL} (hw : Low3 L) (hl : L.length ≤ 1000) {ar p q u al : Int} (hp : p ≤ 1000000) (hq0 : 0 ≤ q) (hq : q ≤ 1000000) (hal : al ≠ 0) : xa1 L.length L ar p q u al = .ret (xhq L ar p q u al) := by
 unfold xa1 xcs xhq
 by_cases h1 : p < 0
 ·rw [decide_eq_true h1]; rfl
 rw [decide_eq_false h1]
 by_cases h2 : q < u
 ·rw [decide_eq_true h2]; rfl
 rw [decide_eq_false h2, w64 (x := p + q) (by omega) (by omega)]
 by_cases h3 : p + q > ar
 ·rw [decide_eq_true h3]; rfl
 rw [decide_eq_false h3, Int.tmod_eq_emod_of_nonneg (by omega), Int.tmod_eq_emod_of_nonneg (by omega)]
 by_cases h4 : p % 8 = 0
 ·rw [show (p % 8 != 0) = false by rw [h4]; rfl, show (p % 8 == 0) = true by rw [h4]; rfl, show (al == 0) = false by simpa using hal]
  by_cases h5 : p % al = 0
  ·rw [show (p % al != 0) = false by rw [h5]; rfl, show (p % al == 0) = true by rw [h5]; rfl]
   simp only [cond_false, Bool.not_false, cond_true, Bool.or_false, Bool.not_true, Bool.true_and]
   unfold kt
   refine vB (fun x => x = .ret (L.all fun r => !(decide (getI r 0 < p + q) && decide (p < getI r 0 + getI r 1)))) (fun k i => ∃ j : Nat, i = (j : Int) ∧ j ≤ L.length ∧ k = L.length - j ∧ ∀ m (h : m < L.length), m < j → (!(decide (getI L[m] 0 < p + q) && decide (p < getI L[m] 0 + getI L[m] 1))) = true) ?_ xd L.length _ (by unfold xd; omega) ⟨0, rfl, by omega, by omega, fun m _ hm => by omega⟩
   rintro k i κ ⟨j, rfl, hj, rfl, hall⟩ ih
   unfold Yo
   rw [w64 (x := p + q) (by omega) (by omega)]
   by_cases h : j < L.length
   ·refine xD (P := fun x => x = _) (by rw [decide_eq_true_eq]; omega) (xD (P := fun x => x = _) (yO h) (xD (P := fun x => x = _) (yl h) ?_))
    obtain ⟨⟨w1, w2⟩, w3, w4⟩ := hw _ (List.getElem_mem h)
    rw [show Int.toNat (j : Int) = j from rfl, kW h, qH (by omega), w64 (x := getI L[j] 0 + getI L[j] 1) (by omega) (by omega)]
    have next : (!(decide (getI L[j] 0 < p + q) && decide (p < getI L[j] 0 + getI L[j] 1))) = true → κ ((j + 1 : Nat) : Int) = .ret (L.all fun r => !(decide (getI r 0 < p + q) && decide (p < getI r 0 + getI r 1))) := fun hh => ih (L.length - (j + 1)) _ (by omega) ⟨j + 1, rfl, by omega, rfl, fun m h1 hm => by
     by_cases hmj : m = j
     ·subst hmj; exact hh
     ·exact hall m h1 (by omega)⟩
    by_cases hc : getI L[j] 0 < p + q
    ·refine xD (P := fun x => x = _) (decide_eq_true hc) (xD (P := fun x => x = _) (yO h) (xD (P := fun x => x = _) (yl h) (xD (P := fun x => x = _) (yO h) (xD (P := fun x => x = _) (yl h) ?_))))
     by_cases hd : p < getI L[j] 0 + getI L[j] 1
     ·refine xD (P := fun x => x = _) (decide_eq_true hd) ?_
      have : (L.all fun r => !(decide (getI r 0 < p + q) && decide (p < getI r 0 + getI r 1))) = false := by
       rw [← Bool.not_eq_true]
       intro hh
       have := List.all_eq_true.1 hh _ (List.getElem_mem h)
       rw [decide_eq_true hc, decide_eq_true hd] at this; cases this
      rw [this]
     ·exact P_no (P := fun x => x = _) (decide_eq_false hd) (next (by rw [decide_eq_false hd, Bool.and_false]; rfl))
    ·exact P_no (P := fun x => x = _) (decide_eq_false hc) (next (by rw [decide_eq_false hc]; rfl))
   ·obtain rfl : j = L.length := by omega
    refine P_no (P := fun x => x = _) (by rw [decide_eq_false_iff_not]; omega) ?_
    have : (L.all fun r => !(decide (getI r 0 < p + q) && decide (p < getI r 0 + getI r 1))) = true := by
     rw [List.all_eq_true]
     intro r hr
     obtain ⟨m, hm, rfl⟩ := List.mem_iff_getElem.1 hr
     exact hall m hm hm
    rw [this]
  ·rw [show (p % al != 0) = true by simpa using h5, show (p % al == 0) = false by simpa using h5]; rfl
 ·rw [show (p % 8 != 0) = true by simpa using h4, show (p % 8 == 0) = false by simpa using h4]; simp
section
variable {n t : Nat} {A : AS} {L : RowsL} {held : Nat → Option HK} {live : Nat → Option Nat}
theorem LV.row3 (hL : LV L held live) : Row3 L := fun r hr => by
 obtain ⟨g, x, z, rfl, _⟩ := hL.row r hr; rfl
theorem LV.low (hL : LV L held live) (h : HG n held) (hn : n ≤ 1000) : Low3 L := fun r hr => by
 obtain ⟨g, x, z, rfl, hg, _⟩ := hL.row r hr
 rw [jt, xte]
 have hext : g + x.ext ≤ 8 * n := by
  cases x with
  | blk c => obtain ⟨_, p, j, q1, q2, q3⟩ := h.blk g c hg; have := xM q2; simp only [HK.ext]; omega
  | run m => obtain ⟨_, p, q1, q2⟩ := h.run g m hg; simp only [HK.ext]; omega
 omega
theorem LV.low13 (hL : LV L held live) (h : HG n held) (hn : n ≤ 1000) : xkC (L.map h13) := fun r hr => by
 obtain ⟨r0, hr0, rfl⟩ := List.mem_map.1 hr
 obtain ⟨⟨a1, a2⟩, a3, a4⟩ := hL.low h hn r0 hr0
 refine ⟨rfl, ?_, ?_⟩
 ·show 0 ≤ getI r0 0 / 8 ∧ getI r0 0 / 8 ≤ 1000000; omega
 ·show 0 ≤ getI r0 1 / 8 ∧ getI r0 1 / 8 ≤ 1000000; omega
theorem xpB (hL : LV L held live) (h : HG n held) (hl : L.length ≤ 1000) (hn : n ≤ 256) {s a : Int} (hs : 1 ≤ s) (hs2 : s ≤ 64 * n) (ha : a < 9223372036854775808) (ha0 : 0 < a) : ∃ b : Bool, Yu L.length L (n : Int) s a = .ret b ∧ (b = true ↔ ¬ NoRoom n held s a) := by
 have hlow := hL.low h (by omega)
 have hlow13 := hL.low13 h (by omega)
 have hlen : (L.map h13).length = L.length := by simp
 unfold Yu KD NoRoom
 rw [yX cls_eq, yX (xhs hlow hl), yX (xhs hlow hl), yX (xhs hlow hl)]
 simp only
 cases hc : clsN s a with
 | some c =>
  have hc4 : c < 4 := by
   unfold clsN at hc
   repeat' split at hc
   all_goals first | (cases hc; omega) | cases hc
  simp only
  rw [decide_eq_true (show ((c : Nat) : Int) ≥ 0 by omega)]
  simp only [cond_true]
  have := has_eq hlow13 (by rw [hlen]; exact hl) (m := n) (by omega) hc4
  rw [hlen] at this
  rw [yX this]
  exact ⟨_, rfl, hL.has h hc4⟩
 | none =>
  simp only
  rw [decide_eq_false (show ¬ ((-1 : Int) ≥ 0) by omega)]
  simp only [cond_false]
  have ed : IntKind.i64.wrap (Int.tdiv a 64) = a / 64 := by rw [Int.tdiv_eq_ediv_of_nonneg (by omega), w64 (by omega) (by omega)]
  have ek : IntKind.i64.wrap (Int.tdiv (IntKind.i64.wrap (s + 63)) 64) = ((vj s : Nat) : Int) := by
   rw [w64 (x := s + 63) (by omega) (by omega), Int.tdiv_eq_ediv_of_nonneg (by omega), w64 (by omega) (by omega)]
   unfold vj; omega
  have hk : vj s ≤ 1000 := by unfold vj; omega
  have hk1 : 1 ≤ vj s := by unfold vj; omega
  rw [ed, ek]
  by_cases h1 : a / 64 < 1
  ·rw [decide_eq_true h1]
   simp only [cond_true]
   have := xpz hlow13 (by rw [hlen]; exact hl) (m := n) (k := vj s) (a := 1) (by omega) hk (by omega)
   rw [hlen] at this
   rw [show (1 : Int) = ((1 : Nat) : Int) from rfl, yX this]
   refine ⟨_, rfl, ?_⟩
   rw [hL.run h hk1]
   unfold alN; rw [if_pos h1]
  ·rw [decide_eq_false h1]
   simp only [cond_false]
   have := xpz hlow13 (by rw [hlen]; exact hl) (m := n) (k := vj s) (a := (a / 64).toNat) (by omega) hk (by omega)
   rw [hlen] at this
   rw [show a / 64 = (((a / 64).toNat : Nat) : Int) by omega, yX this]
   refine ⟨_, rfl, ?_⟩
   rw [hL.run h hk1]
   unfold alN; rw [if_neg h1]
end
end Go.Proofs.YtaegelbaghaooaaGreat
