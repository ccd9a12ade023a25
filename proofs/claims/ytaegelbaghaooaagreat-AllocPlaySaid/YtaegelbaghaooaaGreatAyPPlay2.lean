/- AllocPlay: its tree ends in true. -/
import Derived.Test.YtaegelbaghaooaaGreatAyPPlay
set_option linter.unusedSimpArgs false
set_option linter.unusedVariables false
set_option linter.unusedSectionVars false
namespace Go.Proofs.YtaegelbaghaooaaGreat
open Go Go.RowKit Lx
set_option maxRecDepth 100000
theorem lt_yes' {x y : Nat} (h : x < y) : decide ((x : Int) < (y : Int)) = true := decide_eq_true (by omega)
theorem lt_no' {x y : Nat} (h : ¬ x < y) : decide ((x : Int) < (y : Int)) = false := decide_eq_false (by omega)
theorem xpy (x : Int) : 0 ≤ Int.tmod (IntKind.i64.wrap (Int.tmod x 200 + 200)) 200 ∧ Int.tmod (IntKind.i64.wrap (Int.tmod x 200 + 200)) 200 < 200 := by
 have h1 := Int.tmod_lt_of_pos x (show (0 : Int) < 200 by decide)
 have h2 := Int.lt_tmod_of_pos x (show (0 : Int) < 200 by decide)
 rw [w64 (by omega) (by omega), Int.tmod_eq_emod_of_nonneg (by omega)]
 omega
structure ActOk (r : List Int) : Prop where
 d : 0 ≤ getI r 0 ∧ getI r 0 ≤ 255
 th : 0 ≤ getI r 1 ∧ getI r 1 ≤ 255
 size : -9223372036854775808 ≤ getI r 2 ∧ getI r 2 ≤ 9223372036854775807
 n : -9223372036854775808 ≤ getI r 3 ∧ getI r 3 ≤ 9223372036854775807
 align : -9223372036854775808 ≤ getI r 4 ∧ getI r 4 ≤ 9223372036854775807
theorem xgt {n : Nat} {m k : Int} (hn : n ≤ 1000) (h0 : 0 ≤ m) (h1 : 0 ≤ k) (h : k = 0 ∨ m ≤ ((64 * n : Nat) : Int) / k) : va n m k = IntKind.i64.wrap (m * k) := by
 have e6 : ((64 * n : Nat) : Int) = 64 * (n : Int) := by omega
 have hc : 0 ≤ m ∧ 0 ≤ k ∧ (k = 0 ∨ m ≤ 64 * (n : Int) / k) := ⟨h0, h1, by rw [← e6]; exact h⟩
 unfold va
 rw [if_pos hc]
 rcases h with h | h
 ·subst h; rw [Int.mul_zero]; rfl
 ·by_cases hk : k = 0
  ·subst hk; rw [Int.mul_zero]; rfl
  ·have h5 := Int.mul_le_mul_of_nonneg_right h h1
   have h6 := Int.ediv_mul_le ((64 * n : Nat) : Int) hk
   have h7 : 0 ≤ m * k := Int.mul_nonneg h0 h1
   rw [w64 (by omega) (by omega)]
theorem xaa {n : Nat} {m k : Int} (h : m < 0 ∨ k < 0 ∨ (k ≠ 0 ∧ ¬ m ≤ ((64 * n : Nat) : Int) / k)) : va n m k = 0 := by
 have e6 : ((64 * n : Nat) : Int) = 64 * (n : Int) := by omega
 unfold va
 rw [if_neg]
 rintro ⟨h0, h1, h2⟩
 rcases h with h | h | ⟨h, h'⟩
 ·omega
 ·omega
 ·rcases h2 with h2 | h2
  ·exact h h2
  ·rw [e6] at h'; exact h' h2
section
variable {n t : Nat} (hf : Small n t) (hn60 : n ≤ 60)
include hf hn60
theorem qG {me : Nat} (hme : me < t) (s : Int) (A : AS) (held : Nat → Option HK) (live : Nat → Option Nat) (h1 : A.self = (me : Int)) (h2 : HInv n t A held) (h3 : SI n t A live) : Rn n t (wt (xg n t) s) A fun r A' => A'.b.length = A.b.length ∧ ∃ held' live', Asked n t A held live s 1 r A' held' live' := by
 obtain ⟨r, A', q1, q2, q3⟩ := xnf hf (s := s) hme h1 h2 h3
 exact ⟨r, A', q1, by rw [q2], q3⟩
theorem xbn {me : Nat} (hme : me < t) (s a : Int) (ha : a < 9223372036854775808) (A : AS) (held : Nat → Option HK) (live : Nat → Option Nat) (h1 : A.self = (me : Int)) (h2 : HInv n t A held) (h3 : SI n t A live) : Rn n t (vV (xg n t) a s) A fun r A' => A'.b.length = A.b.length ∧ ∃ held' live', Asked n t A held live s a r A' held' live' := by
 obtain ⟨r, A', q1, q2, q3⟩ := xbk hf (s := s) hme h1 ha h2 h3
 exact ⟨r, A', q1, by rw [q2], q3⟩
theorem kI {me : Nat} (hme : me < t) (m k X : Int) (hm : m < 9223372036854775808) (hk : k < 9223372036854775808) (hX : va n m k = X) (A : AS) (held : Nat → Option HK) (live : Nat → Option Nat) (h1 : A.self = (me : Int)) (h2 : HInv n t A held) (h3 : SI n t A live) : Rn n t (yC (xg n t) m k) A fun r A' => A'.b.length = A.b.length ∧ ∃ held' live', Asked n t A held live X 1 r A' held' live' := by
 subst hX
 obtain ⟨r, A', q1, held', live', q2, q3⟩ := xng hf hn60 hm hk hme h1 h2 h3
 refine ⟨r, A', q1, ?_, held', live', q2⟩
 rcases q3 with ⟨_, q3⟩ | ⟨g, _, q3⟩
 ·rw [q3]
 ·rw [q3, xdk hf]
theorem py3_yes {me : Nat} (hme : me < t) {W B : List Int} {L : RowsL} (hP : PI n t W B L) (hll : L.length ≤ 999) {Q : RowsL} (hQ : ∀ r ∈ Q, ActOk r) {j : Nat} (hj : j < Q.length) {o c : Nat} {z1 : ym} {b4 : Bool} {a20 a21 a22 a23 a24 a25 a26 a27 a28 a29 a30 : Int}
  {κ0 κ2 : Nat → Nat → Nat → Nat → xo → xo → Int → Int → Int → Int → Int → Int → Int → Int → Int → Int → Int → Int → Int → Int → Int → Int → Int → Int → Int → Int → Int → Int → Int → Int → T Bool} {κ1 : Nat → Nat → Nat → Nat → Nat → xo → xo → RowsL → Int → Int → Int → Int → Int → Int → Int → Int → Int → Int → Int → Int → Int → Int → Int → Int → Int → Int → Int → Int → Int → Int → Int → Int → T Bool}
  (h1 : ∀ (W' B' : List Int) (L' : RowsL) (sf st : Int) (r : Res), PI n t W' B' L' → L'.length ≤ L.length + 1 → TR r st → Yes (κ1 L'.length W'.length W'.length B'.length B'.length W' B' L' sf st r.at_ r.n r.byte r.c1 r.c2 r.c3 r.c4 r.c5 r.e r.lin r.touch r.at_ r.n r.byte r.c1 r.c2 r.c3 r.c4 r.c5 r.e r.lin r.touch))
  (h2 : ∀ (W' B' : List Int) (sf st : Int) (r : Res), PI n t W' B' L → TR r st → Yes (κ2 W'.length W'.length B'.length B'.length W' B' sf st r.at_ r.n r.byte r.c1 r.c2 r.c3 r.c4 r.c5 r.e r.lin r.touch r.at_ r.n r.byte r.c1 r.c2 r.c3 r.c4 r.c5 r.e r.lin r.touch)) :
  Yes (WE o z1 Q.length c b4 (n : Int) L.length (j : Int) o Q (xg n t) W.length W.length B.length B.length W B L (me : Int) 0 a20 a21 a22 a23 a24 a25 a26 a27 a28 a29 a30 κ0 κ1 κ2) := by
 have hn1 := hf.n1
 have hR : ActOk (getR Q (Int.toNat (j : Int))) := by
  rw [show Int.toNat (j : Int) = j from rfl, kW hj]
  exact hQ _ (List.getElem_mem hj)
 unfold WE
 refine Yes.yes (yO hj) (Yes.yes (by rw [Nat.beq_refl, yl hj]; rfl) ?_)
 simp only [Nat.reduceAdd]
 obtain ⟨_, _, hsz, hnn, hal⟩ := hR
 generalize getR Q (Int.toNat (j : Int)) = R at *
 generalize getI R 0 = x0
 generalize getI R 2 = x2 at *
 generalize getI R 3 = x3 at *
 generalize getI R 4 = x4 at *
 generalize getI R 6 = x6
 have n1 : ∀ (x : Res) (s' : DS) (L' : RowsL), PI n t s'.m.words s'.m.bytes L' → L'.length = L.length + 1 → TR x s'.steps → Yes (κ1 L'.length s'.m.words.length s'.m.words.length s'.m.bytes.length s'.m.bytes.length s'.m.words s'.m.bytes L' s'.self s'.steps x.at_ x.n x.byte x.c1 x.c2 x.c3 x.c4 x.c5 x.e x.lin x.touch x.at_ x.n x.byte x.c1 x.c2 x.c3 x.c4 x.c5 x.e x.lin x.touch) := fun x s' L' hP' hl hT => h1 _ _ L' _ _ x hP' (by omega) hT
 have n2 : ∀ (x : Res) (s' : DS), PI n t s'.m.words s'.m.bytes L → TR x s'.steps → Yes (κ2 s'.m.words.length s'.m.words.length s'.m.bytes.length s'.m.bytes.length s'.m.words s'.m.bytes s'.self s'.steps x.at_ x.n x.byte x.c1 x.c2 x.c3 x.c4 x.c5 x.e x.lin x.touch x.at_ x.n x.byte x.c1 x.c2 x.c3 x.c4 x.c5 x.e x.lin x.touch) := fun x s' hP' hT => h2 _ _ _ _ x hP' hT
 have ed : ∀ k : Int, 0 < k → IntKind.i64.wrap (Int.tdiv (IntKind.i64.wrap (64 * (xg n t).pages)) k) = ((64 * n : Nat) : Int) / k := by
  intro k hk
  have e64 : IntKind.i64.wrap (64 * (xg n t).pages) = ((64 * n : Nat) : Int) := by
   show IntKind.i64.wrap (64 * ((n : Nat) : Int)) = _
   rw [show 64 * ((n : Nat) : Int) = ((64 * n : Nat) : Int) by omega, wN _ (by omega)]
  have h5 : ((64 * n : Nat) : Int) / k ≤ ((64 * n : Nat) : Int) := Int.ediv_le_self _ (by omega)
  have h6 : 0 ≤ ((64 * n : Nat) : Int) / k := Int.ediv_nonneg (by omega) (by omega)
  rw [e64, Int.tdiv_eq_ediv_of_nonneg (by omega), w64 (by omega) (by omega)]
 obtain ⟨s20, s21⟩ := xpy x2
 obtain ⟨s30, s31⟩ := xpy x3
 obtain ⟨s40, s41⟩ := xpy x4
 by_cases d0 : Int.tmod x0 9 = 0
 ·refine Yes.yes (by rw [d0]; rfl) ?_
  by_cases hr : x6 = 0
  ·exact Yes.yes (by rw [hr]; rfl) (vk hf hn60 hP (qG hf hn60 hme _) hll (by decide) n1 n2)
  ·exact Yes.no (by simpa using hr) (vk hf hn60 hP (qG hf hn60 hme _) hll (by decide) n1 n2)
 refine Yes.no (by simpa using d0) ?_
 by_cases d1 : Int.tmod x0 9 = 1
 ·refine Yes.yes (by rw [d1]; rfl) ?_
  by_cases hr : x6 = 0
  ·exact Yes.yes (by rw [hr]; rfl) (vk hf hn60 hP (qG hf hn60 hme _) hll (by decide) n1 n2)
  ·exact Yes.no (by simpa using hr) (vk hf hn60 hP (qG hf hn60 hme _) hll (by decide) n1 n2)
 refine Yes.no (by simpa using d1) ?_
 by_cases d2 : Int.tmod x0 9 = 2
 ·refine Yes.yes (by rw [d2]; rfl) ?_
  have split : (x6 = 0 ∧ ∃ m k : Int, m = Int.tmod (Int.tmod (IntKind.i64.wrap (Int.tmod x3 200 + 200)) 200) 12 ∧ k = Int.tmod (Int.tmod (IntKind.i64.wrap (Int.tmod x2 200 + 200)) 200) 12 ∧ m < 9223372036854775808 ∧ k < 9223372036854775808) ∨ (x6 ≠ 0 ∧ ∃ m k : Int, m = x3 ∧ k = x2 ∧ m < 9223372036854775808 ∧ k < 9223372036854775808) := by
   by_cases hr : x6 = 0
   ·refine .inl ⟨hr, _, _, rfl, rfl, ?_, ?_⟩
    ·have := Int.tmod_lt_of_pos (Int.tmod (IntKind.i64.wrap (Int.tmod x3 200 + 200)) 200) (show (0 : Int) < 12 by decide); omega
    ·have := Int.tmod_lt_of_pos (Int.tmod (IntKind.i64.wrap (Int.tmod x2 200 + 200)) 200) (show (0 : Int) < 12 by decide); omega
   ·exact .inr ⟨hr, _, _, rfl, rfl, by omega, by omega⟩
  rcases split with ⟨hr, m, k, em, ek, hm, hk⟩ | ⟨hr, m, k, em, ek, hm, hk⟩
  case' inl => refine Yes.yes (by rw [hr]; rfl) ?_
  case' inr => refine Yes.no (by simpa using hr) ?_
  all_goals
   rw [← em, ← ek]
   by_cases hm0 : m ≥ 0
   ·refine Yes.yes (decide_eq_true hm0) ?_
    by_cases hk0 : k ≥ 0
    ·refine Yes.yes (decide_eq_true hk0) ?_
     by_cases hkz : k = 0
     ·exact Yes.yes (by rw [hkz]; rfl) (vk hf hn60 hP (kI hf hn60 hme m k _ hm hk (xgt (by omega) hm0 hk0 (.inl hkz))) hll (by decide) n1 n2)
     ·refine Yes.no (by simpa using hkz) (Yes.yes (by simpa using hkz) ?_)
      by_cases hle : m ≤ ((64 * n : Nat) : Int) / k
      ·exact Yes.yes (by rw [ed k (by omega)]; exact decide_eq_true hle) (vk hf hn60 hP (kI hf hn60 hme m k _ hm hk (xgt (by omega) hm0 hk0 (.inr hle))) hll (by decide) n1 n2)
      ·exact Yes.no (by rw [ed k (by omega)]; exact decide_eq_false hle) (vk hf hn60 hP (kI hf hn60 hme m k _ hm hk (xaa (.inr (.inr ⟨hkz, hle⟩)))) hll (by decide) n1 n2)
    ·exact Yes.no (decide_eq_false hk0) (vk hf hn60 hP (kI hf hn60 hme m k _ hm hk (xaa (.inr (.inl (by omega))))) hll (by decide) n1 n2)
   ·exact Yes.no (decide_eq_false hm0) (vk hf hn60 hP (kI hf hn60 hme m k _ hm hk (xaa (.inl (by omega)))) hll (by decide) n1 n2)
 refine Yes.no (by simpa using d2) ?_
 by_cases hr : x6 = 0
 ·refine Yes.yes (by rw [hr]; rfl) ?_
  generalize Int.tmod (IntKind.i64.wrap (Int.tmod x4 200 + 200)) 200 = y at *
  have eu : IntKind.u64.wrap y = y := by
   have : IntKind.u64.wrap y = y % 18446744073709551616 := by simp [IntKind.wrap, IntKind.bits, IntKind.signed]
   rw [this]; omega
  rw [eu]
  have hy : Int.tmod y 10 = y % 10 := Int.tmod_eq_emod_of_nonneg s40
  refine Yes.yes (by rw [hy, decide_eq_false (show ¬ y % 10 < 0 by omega)]; rfl) ?_
  obtain ⟨p, hpp⟩ : ∃ p : Nat, Int.toNat (Int.tmod y 10) = p := ⟨_, rfl⟩
  have hp : p < 10 := by rw [hy] at hpp; omega
  rw [hpp]
  have k1 : ∀ p : Nat, p < 10 → IntKind.i64.wrap (1 * 2 ^ min p (IntKind.bits IntKind.i64)) = ((2 ^ p : Nat) : Int) := by decide
  have k2 : ∀ p : Nat, p < 10 → IntKind.i64.wrap (1 * 2 ^ if p ≤ 64 then p else (64 : Nat)) = ((2 ^ p : Nat) : Int) := by decide
  have k4 : ∀ p : Nat, p < 10 → ((2 ^ p : Nat) : Int) < 9223372036854775808 := by decide
  rw [k1 p hp, k2 p hp]
  exact vk hf hn60 hP (xbn hf hn60 hme _ _ (k4 p hp)) hll (k4 p hp) n1 n2
 ·exact Yes.no (by simpa using hr) (vk hf hn60 hP (xbn hf hn60 hme _ _ (by omega)) hll (by omega) n1 n2)
theorem py1_yes {me : Nat} (hme : me < t) {W B : List Int} {L : RowsL} (hP : PI n t W B L) (hll : L.length ≤ 999) {Q : RowsL} (hQ : ∀ r ∈ Q, ActOk r) {j : Nat} (hj : j < Q.length) {o c : Nat} {z1 : ym} {b4 : Bool} {a20 a21 a22 a23 a24 a25 a26 a27 a28 a29 a30 : Int}
  {κ0 κ1 κ2 : Nat → Nat → Nat → Nat → xo → xo → T Bool} {κ3 κ4 : Nat → Nat → Nat → Nat → Nat → xo → xo → RowsL → T Bool}
  (h1 : ∀ (W' B' : List Int), PI n t W' B' L → Yes (κ1 W'.length W'.length B'.length B'.length W' B'))
  (h2 : ∀ (W' B' : List Int), PI n t W' B' L → Yes (κ2 W'.length W'.length B'.length B'.length W' B'))
  (h4 : ∀ (W' B' : List Int) (L' : RowsL), PI n t W' B' L' → L'.length ≤ L.length + 1 → Yes (κ4 L'.length W'.length W'.length B'.length B'.length W' B' L')) :
  Yes (WH o z1 Q.length c b4 (n : Int) L.length (j : Int) o Q (xg n t) W.length W.length B.length B.length W B L (me : Int) 0 a20 a21 a22 a23 a24 a25 a26 a27 a28 a29 a30 κ0 κ1 κ2 κ3 κ4) := by
 have hin := yO hj
 have hbq : (Nat.beq o o && inR Q.length (j : Int)) = true := by rw [Nat.beq_refl, yl hj]; rfl
 unfold WH
 refine Yes.yes hin (Yes.yes hbq ?_)
 obtain ⟨x0, hx0⟩ : ∃ x, Int.tmod (getI (getR Q (Int.toNat (j : Int))) 0) 9 = x := ⟨_, rfl⟩
 rw [hx0]
 by_cases d8 : x0 = 8
 ·refine Yes.yes (by rw [d8]; rfl) ?_
  obtain ⟨A, held, live, hR, hi, hs, hLV⟩ := hP.heap
  have hRp := hR.port (me : Int)
  have hbe : A.b = B := hR.bytes.symm
  refine Yes.vN (xbP hf.toFew hRp (by rw [AS.port_b, hbe, hP.len]; omega)) hRp (xs4 hf (A := A.port (me : Int)) hme rfl (hi.w fun r i => rfl)) (fun x A' hx => by rw [hx.2.2.1.told]; rfl) fun x A' s' hx hR' => ?_
  obtain ⟨rfl, hi', hfr, _⟩ := hx
  refine Yes.no rfl (h1 s'.m.words s'.m.bytes ⟨?_, A'.port 0, held, live, hR'.port 0, hi'.w fun r i => rfl, ((hs.same (A' := A.port (me : Int)) fun i => rfl).fr hfr (by unfold srcR; simp)).same fun i => rfl, hLV⟩)
  rw [hR'.bytes, hfr.b, AS.port_b, hbe, hP.len]
 refine Yes.no (by simpa using d8) ?_
 have hfree : x0 = 5 ∨ x0 = 6 ∨ x0 = 7 ∨ (x0 ≠ 5 ∧ x0 ≠ 6 ∧ x0 ≠ 7) := by omega
 rcases hfree with d | d | d | ⟨d5, d6, d7⟩
 case' inl => refine Yes.yes (by rw [d]; rfl) ?_
 case' inr.inl => refine Yes.no (by rw [d]; rfl) (Yes.yes (by rw [d]; rfl) ?_)
 case' inr.inr.inl => refine Yes.no (by rw [d]; rfl) (Yes.no (by rw [d]; rfl) (Yes.yes (by rw [d]; rfl) ?_))
 case inr.inr.inr =>
  refine Yes.no (by simpa using d5) (Yes.no (by simpa using d6) (Yes.no (by simpa using d7) ?_))
  refine py3_yes hf hn60 hme hP hll hQ hj ?_ ?_
  ·exact fun W' B' L' sf st r hP' hl hT => kV hT (h4 W' B' L' hP' hl)
  ·exact fun W' B' sf st r hP' hT => kV hT (h2 W' B' hP')
 all_goals
  refine Yes.yes hin (Yes.yes hbq ?_)
  by_cases hr : getI (getR Q (Int.toNat (j : Int))) 6 = 0
  ·refine Yes.no (by rw [hr]; rfl) ?_
   by_cases hl0 : L.length = 0
   ·refine Yes.yes (by rw [hl0]; rfl) ?_
    refine xhr hf hn60 hme hP hll ?_ ?_
    ·exact fun W' B' sf st r hP' hT => kV hT (h2 W' B' hP')
    ·exact fun W' B' L' sf st r hP' hl hT => kV hT (h4 W' B' L' hP' (by omega))
   ·have hne : ((L.length : Int) == 0) = false := by simp; exact fun hh => hl0 (by rw [hh]; rfl)
    refine Yes.no hne (Yes.yes (by rw [hne]; rfl) ?_)
    obtain ⟨s30, s31⟩ := xpy (getI (getR Q (Int.toNat (j : Int))) 3)
    generalize Int.tmod (IntKind.i64.wrap (Int.tmod (getI (getR Q (Int.toNat (j : Int))) 3) 200 + 200)) 200 = y at *
    have hy0 : 0 ≤ Int.tmod y (L.length : Int) := Int.tmod_nonneg _ s30
    have hy1 : Int.tmod y (L.length : Int) < (L.length : Int) := Int.tmod_lt_of_pos _ (by omega)
    obtain ⟨q, hq⟩ : ∃ q : Nat, Int.tmod y (L.length : Int) = (q : Int) := ⟨(Int.tmod y (L.length : Int)).toNat, by omega⟩
    rw [hq] at hy1 ⊢
    have hql : q < L.length := by omega
    refine Yes.yes (yO hql) (Yes.yes (yl hql) ?_)
    refine xhr hf hn60 hme hP hll ?_ ?_
    ·exact fun W' B' sf st r hP' hT => kV hT (h2 W' B' hP')
    ·exact fun W' B' L' sf st r hP' hl hT => kV hT (h4 W' B' L' hP' (by omega))
  ·refine Yes.yes (by simpa using hr) ?_
   refine xhr hf hn60 hme hP hll ?_ ?_
   ·exact fun W' B' sf st r hP' hT => kV hT (h2 W' B' hP')
   ·exact fun W' B' L' sf st r hP' hl hT => kV hT (h4 W' B' L' hP' (by omega))
theorem py0_yes {W B : List Int} (hP : PI n t W B []) {Q : RowsL} (hQ : ∀ r ∈ Q, ActOk r) (hQ80 : Q.length ≤ 80) {o c : Nat} {z1 : ym} {b4 : Bool} {κ0 κ1 : Unit → T Bool} (hκ : Yes (κ1 ())) :
  Yes (WI o z1 Q.length c b4 (n : Int) o Q (xg n t) 0 0 W.length W.length B.length B.length W B [] κ0 κ1) := by
 have ht1 := hf.t1
 unfold WI
 refine vB Yes (fun k i => ∃ (j : Nat) (W B : List Int) (L : RowsL), i = (L.length, (j : Int), W.length, W.length, B.length, B.length, W, B, L) ∧ j ≤ Q.length ∧ k = Q.length - j ∧ L.length ≤ j ∧ PI n t W B L) ?_ xd Q.length _ (by unfold xd; omega) ⟨0, W, B, [], rfl, by omega, by omega, by simp, hP⟩
 clear hP W B
 rintro k i κ ⟨j, W, B, L, rfl, hj, rfl, hL, hP⟩ ih
 unfold xje
 simp only
 by_cases h : j < Q.length
 case neg => exact Yes.no (lt_no' h) hκ
 refine Yes.yes (lt_yes' h) (Yes.yes (yO h) (Yes.yes (by rw [Nat.beq_refl, yl h]; rfl) ?_))
 have hR : ActOk (getR Q (Int.toNat (j : Int))) := by
  rw [show Int.toNat (j : Int) = j from rfl, kW h]
  exact hQ _ (List.getElem_mem h)
 have hth := hR.th
 have ej : IntKind.i64.wrap ((j : Int) + 1) = ((j + 1 : Nat) : Int) := qH (by omega)
 have hthr : (xg n t).threads = (t : Int) := rfl
 obtain ⟨v, hv⟩ : ∃ v : Nat, getI (getR Q (Int.toNat (j : Int))) 1 = (v : Int) := ⟨(getI (getR Q (Int.toNat (j : Int))) 1).toNat, by omega⟩
 have eme : Int.tmod (IntKind.i64.wrap (getI (getR Q (Int.toNat (j : Int))) 1)) (xg n t).threads = ((v % t : Nat) : Int) := by
  rw [hv, hthr, wN _ (by omega), Int.tmod_eq_emod_of_nonneg (by omega)]; omega
 refine Yes.yes (by rw [hthr]; simp; omega) ?_
 rw [eme, ej]
 have next : ∀ (W' B' : List Int) (L' : RowsL), PI n t W' B' L' → L'.length ≤ L.length + 1 → Yes (κ (L'.length, ((j + 1 : Nat) : Int), W'.length, W'.length, B'.length, B'.length, W', B', L')) := fun W' B' L' hP' hl => ih (Q.length - (j + 1)) _ (by omega) ⟨j + 1, W', B', L', rfl, by omega, rfl, by omega, hP'⟩
 exact py1_yes hf hn60 (Nat.mod_lt _ (by omega)) hP (by omega) hQ h (fun W' B' hP' => next W' B' L hP' (by omega)) (fun W' B' hP' => next W' B' L hP' (by omega)) (fun W' B' L' hP' hl => next W' B' L' hP' hl)
end
end Go.Proofs.YtaegelbaghaooaaGreat
