/- AllocZeros: the bytes of live blocks are 0. -/
import Derived.Test.YtaegelbaghaooaaGreatAzPWhoT
import Derived.Test.YtaegelbaghaooaaGreatAzPRenew
import Derived.Test.YtaegelbaghaooaaGreatAzPYes
import Derived.Test.YtaegelbaghaooaaGreatAzM9
import Derived.Test.YtaegelbaghaooaaGreatAzQWin
import Derived.Test.YtaegelbaghaooaaGreatAzQZe
set_option linter.unusedSimpArgs false
set_option linter.unusedVariables false
set_option linter.unusedSectionVars false
namespace Go.Proofs.YtaegelbaghaooaaGreat
open Go Go.RowKit Lx
set_option maxRecDepth 100000
theorem or_one {b : Int} (h0 : 0 ≤ b) (h1 : b ≤ 255) : 0 ≤ bits BinOp.or IntKind.u8 b 1 ∧ bits BinOp.or IntKind.u8 b 1 ≤ 255 := by
  obtain ⟨m, rfl⟩ : ∃ m : Nat, b = (m : Int) := ⟨b.toNat, by omega⟩
  have h := (bits_nat .u8 8 (by decide) (fun n h0 h1 => by simp [IntKind.wrap, IntKind.bits, IntKind.signed]; omega) m 1 (by omega) (by omega)).2
  rw [show ((1 : Nat) : Int) = 1 from rfl] at h
  rw [h]
  have := Nat.or_lt_two_pow (n := 8) (show m < 2 ^ 8 by omega) (show 1 < 2 ^ 8 by omega)
  omega
theorem okP {x y : Nat} {v : Int} (hx : x ≤ 1000000) (hy : y ≤ 1000000) (h0 : 0 ≤ v) (h1 : v ≤ 255) : (decide (x = x ∧ y = y ∧ x = x ∧ y = y ∧ x ≤ 1000000 ∧ y ≤ 1000000) && decide (0 ≤ v ∧ v ≤ 255)) = true := by
  rw [Bool.and_eq_true]
  exact ⟨decide_eq_true ⟨rfl, rfl, rfl, rfl, hx, hy⟩, decide_eq_true ⟨h0, h1⟩⟩
theorem okP' {x y : Nat} {v : Int} (hx : x ≤ 1000000) (hy : y ≤ 1000000) (h0 : 0 ≤ v) (h1 : v ≤ 255) : (decide (True ∧ True ∧ True ∧ True ∧ x ≤ 1000000 ∧ y ≤ 1000000) && decide (0 ≤ v ∧ v ≤ 255)) = true := by
  rw [Bool.and_eq_true]
  exact ⟨decide_eq_true ⟨trivial, trivial, trivial, trivial, hx, hy⟩, decide_eq_true ⟨h0, h1⟩⟩
theorem lt_yes {x y : Nat} (h : x < y) : decide ((x : Int) < (y : Int)) = true := decide_eq_true (by omega)
theorem lt_no {x y : Nat} (h : ¬ x < y) : decide ((x : Int) < (y : Int)) = false := decide_eq_false (by omega)
theorem ze0_yes {n t : Nat} (hf : Small n t) (hn60 : n ≤ 60) {b : Int} (hb0 : 0 ≤ b) (hb1 : b ≤ 255) {W B : List Int} (hW : W.length ≤ 1000000) (hB : B.length = 64 * n) (hy : Bys B) {o n3 c n7 : Nat} {z : OAddr} {b5 : Bool} {l8 : IntsL} {a16 a17 : Int} {κ0 : Nat → Nat → Nat → Nat → IntsL → Int → Int → T Bool}
    (hκ : ∀ B' a a', B'.length = 64 * n → Bys B' → Yes (κ0 W.length W.length B'.length B'.length B' a a')) : Yes (zeT_0L b o z n3 c b5 n7 l8 (mkGeo n t) W 0 W.length W.length B.length B.length B a16 a17 κ0) := by
  have e64 : IntKind.wrap IntKind.i64 (64 * (mkGeo n t).pages) = ((64 * n : Nat) : Int) := by
    show IntKind.wrap IntKind.i64 (64 * ((n : Nat) : Int)) = _
    rw [show 64 * ((n : Nat) : Int) = ((64 * n : Nat) : Int) by omega, wN _ (by omega)]
  obtain ⟨v0, v1⟩ := or_one hb0 hb1
  unfold zeT_0L
  refine loopB_P Yes (fun k i => ∃ (j : Nat) (B' : List Int) (a a' : Int), i = ((j : Int), W.length, W.length, B'.length, B'.length, B', a, a') ∧ j ≤ 64 * n ∧ k = 64 * n - j ∧ B'.length = 64 * n ∧ Bys B') ?_ fuelN (64 * n) _ (by unfold fuelN; omega) ⟨0, B, a16, a17, rfl, by omega, by omega, hB, hy⟩
  rintro k i κ ⟨j, B', a, a', rfl, hj, rfl, hB', hy'⟩ ih
  unfold zeT_0B
  simp only [e64]
  by_cases h : j < 64 * n
  · refine Yes.yes (lt_yes h) ?_
    rw [succ64 (by omega)]
    refine Yes.guard (okP' hW (by omega) v0 v1) ?_
    exact ih (64 * n - (j + 1)) _ (by omega) ⟨j + 1, B'.set j (bits BinOp.or IntKind.u8 b 1), _, _, rfl, by omega, rfl, by rw [List.length_set]; exact hB', hy'.set j v0 v1⟩
  · exact Yes.no (lt_no h) (hκ B' a a' hB' hy')
theorem ze2_yes {n t : Nat} (hf : Small n t) (hn60 : n ≤ 60) {b : Int} (hb0 : 0 ≤ b) (hb1 : b ≤ 255) {W B : List Int} (hW : W.length ≤ 1000000) (hB : B.length = 64 * n) (hy : Bys B) {p m : Nat} (hpm : p + m ≤ 64 * n) {o n3 c n6 n9 : Nat} {z : OAddr} {b5 : Bool} {l10 : IntsL} {g11 : Geo} {q20 : RowsL} {a7 a18 a19 a23 : Int} {κ0 : Nat → Nat → Nat → Nat → IntsL → Int → Int → T Bool}
    (hκ : ∀ B' a a', B'.length = 64 * n → Bys B' → (∀ i : Nat, (i < p ∨ p + m ≤ i) → B'[i]? = B[i]?) → Yes (κ0 W.length W.length B'.length B'.length B' a a')) : Yes (zeT_2L b o z n3 c b5 n6 a7 n9 l10 g11 W q20 (p : Int) (m : Int) a23 0 W.length W.length B.length B.length B a18 a19 κ0) := by
  obtain ⟨v0, v1⟩ := or_one hb0 hb1
  unfold zeT_2L
  refine loopB_P Yes (fun k i => ∃ (j : Nat) (B' : List Int) (a a' : Int), i = ((j : Int), W.length, W.length, B'.length, B'.length, B', a, a') ∧ j ≤ m ∧ k = m - j ∧ B'.length = 64 * n ∧ Bys B' ∧ ∀ i : Nat, (i < p ∨ p + m ≤ i) → B'[i]? = B[i]?) ?_ fuelN m _ (by unfold fuelN; omega) ⟨0, B, a18, a19, rfl, by omega, by omega, hB, hy, fun _ _ => rfl⟩
  rintro k i κ ⟨j, B', a, a', rfl, hj, rfl, hB', hy', he'⟩ ih
  unfold zeT_2B
  by_cases h : j < m
  · have ea : IntKind.wrap IntKind.i64 ((p : Int) + (j : Int)) = ((p + j : Nat) : Int) := by
      rw [show (p : Int) + (j : Int) = ((p + j : Nat) : Int) by omega, wN _ (by omega)]
    simp only [ea]
    refine Yes.yes (lt_yes h) ?_
    rw [succ64 (by omega)]
    refine Yes.guard (okP' hW (by omega) v0 v1) ?_
    exact ih (m - (j + 1)) _ (by omega) ⟨j + 1, B'.set (p + j) (bits BinOp.or IntKind.u8 b 1), _, _, rfl, by omega, rfl, by rw [List.length_set]; exact hB', hy'.set _ v0 v1, fun i hi => by rw [List.getElem?_set_ne (by omega)]; exact he' i hi⟩
  · exact Yes.no (lt_no h) (hκ B' a a' hB' hy' he')
def Zed (n : Nat) (B : List Int) (L : RowsL) : Prop := ∀ r ∈ L, ∃ p e z : Nat, r = [(p : Int), (e : Int), (z : Int)] ∧ p + e ≤ 64 * n ∧ z ≤ e ∧ ∀ i, i < z → B[p + i]? = some 0
theorem ze4_yes {n : Nat} (hn60 : n ≤ 60) {W B : List Int} (hW : W.length ≤ 1000000) (hB : B.length = 64 * n) {L : RowsL} (hZ : Zed n B L) {j n6 : Nat} (hn6 : n6 = L.length) (hj : j < L.length) {b : Int} {o n3 c n10 : Nat} {z : OAddr} {b5 : Bool} {l11 : IntsL} {g12 : Geo} {a7 a19 a20 : Int} {κ0 κ1 : Unit → T Bool}
    (hκ : Yes (κ1 ())) : Yes (zeT_4L b o z n3 c b5 n6 a7 (j : Int) n10 l11 g12 W.length W.length B.length B.length W B a19 a20 L 0 κ0 κ1) := by
  subst hn6
  obtain ⟨p, e, zz, hr, hpe, hze, h0⟩ := hZ _ (List.getElem_mem hj)
  have hg : getR L (Int.toNat (j : Int)) = [(p : Int), (e : Int), (zz : Int)] := by rw [show Int.toNat (j : Int) = j from rfl, getR_at hj, hr]
  unfold zeT_4L
  refine loopB_P Yes (fun k i => ∃ m : Nat, i = (m : Int) ∧ m ≤ zz ∧ k = zz - m) ?_ fuelN zz _ (by unfold fuelN; omega) ⟨0, rfl, by omega, by omega⟩
  rintro k i κ ⟨m, rfl, hm, rfl⟩ ih
  unfold zeT_4B
  rw [hg]
  refine Yes.yes (in_yes hj) (Yes.yes (inR_yes hj) ?_)
  rw [show getI [(p : Int), (e : Int), (zz : Int)] 2 = (zz : Int) from rfl, show getI [(p : Int), (e : Int), (zz : Int)] 0 = (p : Int) from rfl]
  by_cases h : m < zz
  · refine Yes.yes (lt_yes h) (Yes.yes (in_yes hj) (Yes.yes (inR_yes hj) ?_))
    have ea : IntKind.wrap IntKind.i64 ((p : Int) + (m : Int)) = ((p + m : Nat) : Int) := by
      rw [show (p : Int) + (m : Int) = ((p + m : Nat) : Int) by omega, wN _ (by omega)]
    have eb : atI B ((p + m : Nat) : Int) = some 0 := h0 m h
    rw [ea, eb, succ64 (by omega)]
    refine Yes.guard (okP hW (by omega) (by decide) (by decide)) (Yes.no rfl ?_)
    exact ih (zz - (m + 1)) _ (by omega) ⟨m + 1, rfl, by omega, rfl⟩
  · exact Yes.no (lt_no h) hκ
theorem ze3_yes {n : Nat} (hn60 : n ≤ 60) {W B : List Int} (hW : W.length ≤ 1000000) (hB : B.length = 64 * n) {L : RowsL} (hZ : Zed n B L) (hL : L.length ≤ 1000) {n6 : Nat} (hn6 : n6 = L.length) {b : Int} {o n3 c n9 : Nat} {z : OAddr} {b5 : Bool} {l10 : IntsL} {g11 : Geo} {a7 a18 a19 : Int} {κ0 κ1 : Unit → T Bool}
    (hκ : Yes (κ1 ())) : Yes (zeT_3L b o z n3 c b5 n6 a7 n9 l10 g11 W.length W.length B.length B.length W B a18 a19 L 0 κ0 κ1) := by
  subst hn6
  unfold zeT_3L
  refine loopB_P Yes (fun k i => ∃ m : Nat, i = (m : Int) ∧ m ≤ L.length ∧ k = L.length - m) ?_ fuelN L.length _ (by unfold fuelN; omega) ⟨0, rfl, by omega, by omega⟩
  rintro k i κ ⟨m, rfl, hm, rfl⟩ ih
  unfold zeT_3B
  by_cases h : m < L.length
  · refine Yes.yes (lt_yes h) ?_
    rw [succ64 (by omega)]
    exact ze4_yes hn60 hW hB hZ rfl h (ih (L.length - (m + 1)) _ (by omega) ⟨m + 1, rfl, by omega, rfl⟩)
  · exact Yes.no (lt_no h) hκ
structure ZI (n : Nat) (W B : List Int) (L : RowsL) : Prop where
  z : Zed n B L
  y : Bys B
  len : B.length = 64 * n
  heap : ∃ (A : AS) (held : Nat → Option HK) (live : Nat → Option Nat), Rep n 2 A ⟨⟨W, B⟩, 0, 0, none⟩ ∧ HInv n 2 A held ∧ SI n 2 A live ∧ LV L held live
theorem HG.ext {n : Nat} {held : Nat → Option HK} (h : HG n held) {g : Nat} {x : HK} (hg : held g = some x) : g + x.ext ≤ 8 * n := by
  cases x with
  | blk c => obtain ⟨_, p, j, q1, q2, q3⟩ := h.blk g c hg; have := blk_lt q2; simp only [HK.ext]; omega
  | run m => obtain ⟨_, p, q1, q2⟩ := h.run g m hg; simp only [HK.ext]; omega
theorem zeroed_at' {b : List Int} {p m i : Nat} (hi : i < b.length) : (zeroed b p m)[i]? = if p ≤ i ∧ i < p + m then some 0 else b[i]? :=
  zeroed_at (n := 1) (t := 1) ⟨⟨by omega, by omega, by omega, by omega⟩, by unfold nodesN; omega⟩ b p m i hi
theorem zeroed_len' (b : List Int) (p m : Nat) : (zeroed b p m).length = b.length :=
  zeroed_len (n := 1) (t := 1) ⟨⟨by omega, by omega, by omega, by omega⟩, by unfold nodesN; omega⟩ b p m
theorem zeroed_keep {b : List Int} {p m i : Nat} (h : b[i]? = some 0) : (zeroed b p m)[i]? = some 0 := by
  rw [zeroed_at' (List.getElem?_eq_some_iff.1 h).1]
  split
  · rfl
  · exact h
theorem clearS_pos {n : Nat} {m s : Int} (h : 1 ≤ clearS n m s) : clearS n m s = m * s := by
  unfold clearS at *
  split at h
  · rename_i hc; rw [if_pos hc]
  · omega
end Go.Proofs.YtaegelbaghaooaaGreat
