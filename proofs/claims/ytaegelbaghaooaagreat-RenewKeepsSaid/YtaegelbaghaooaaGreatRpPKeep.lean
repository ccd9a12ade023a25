/- RenewKeeps: a block keeps its bytes. -/
import Derived.Test.YtaegelbaghaooaaGreatRpPZer
import Derived.Test.YtaegelbaghaooaaGreatRpPRenew
import Derived.Test.YtaegelbaghaooaaGreatRpQKe
set_option linter.unusedSimpArgs false
set_option linter.unusedVariables false
set_option linter.unusedSectionVars false
namespace Go.Proofs.YtaegelbaghaooaaGreat
open Go Go.RowKit Lx
set_option maxRecDepth 100000
def vb (M : List Int) (i : Nat) : Int := if i < M.length then M.getD i 0 else ((i % 256 : Nat) : Int)
theorem vb_ok {M : List Int} (h : ∀ y ∈ M, 0 ≤ y ∧ y ≤ 255) (i : Nat) : 0 ≤ vb M i ∧ vb M i ≤ 255 := by
 unfold vb
 split
 ·rename_i hi
  rw [List.getD_eq_getElem?_getD, List.getElem?_eq_getElem hi]
  exact h _ (List.getElem_mem hi)
 ·omega
theorem vb_in {M : List Int} {i : Nat} (h : i < M.length) : getI M (Int.toNat (i : Int)) = vb M i := by
 unfold vb; rw [if_pos h]; rfl
theorem vb_out {M : List Int} {i : Nat} (h : ¬ i < M.length) : IntKind.u8.wrap (i : Int) = vb M i := by
 unfold vb; rw [if_neg h]
 have : IntKind.u8.wrap (i : Int) = (i : Int) % 256 := by simp [IntKind.wrap, IntKind.bits, IntKind.signed]
 rw [this]; omega
theorem wrap_step (m : Nat) : IntKind.i64.wrap (IntKind.i64.wrap (m : Int) + 1) = IntKind.i64.wrap ((m + 1 : Nat) : Int) := by
 rw [IntKind.wrap_i64, IntKind.wrap_i64, IntKind.wrap_i64]; omega
theorem kp0_yes {n : Nat} (hn60 : n ≤ 60) {M : List Int} (hM : ∀ y ∈ M, 0 ≤ y ∧ y ≤ 255) {W B : List Int} (hW : W.length ≤ 1000000) (hB : B.length = 64 * n) (hy : Bys B) {p N m0 : Nat} (hp : p + N ≤ 64 * n) {o c o2 n2 c2 q2 : Nat} {z z2 : OAddr} {b8 : Bool} {l15 : IntsL} {g16 : Geo} {sf a25 a26 a27 a28 a29 a30 a31 a32 a33 a34 a35 : Int} {κ0 : Int → Int → Nat → Nat → Nat → Nat → IntsL → T Bool}
  (hκ : ∀ B' (m : Nat), B'.length = 64 * n → Bys B' → (∀ i, i < N → B'[p + i]? = some (vb M i)) → Yes (κ0 sf (IntKind.wrap .i64 (m : Int)) W.length W.length B'.length B'.length B')) :
  Yes (kpT_0L o z M.length c o2 z2 n2 c2 b8 (N : Int) (p : Int) o M q2 l15 g16 W a25 a26 a27 a28 a29 a30 a31 a32 a33 a34 a35 0 sf (IntKind.wrap .i64 (m0 : Int)) W.length W.length B.length B.length B κ0) := by
 unfold kpT_0L
 refine loopB_P Yes (fun k i => ∃ (j m : Nat) (B' : List Int), i = ((j : Int), sf, IntKind.wrap .i64 (m : Int), W.length, W.length, B'.length, B'.length, B') ∧ j ≤ N ∧ k = N - j ∧ B'.length = 64 * n ∧ Bys B' ∧ ∀ i, i < j → B'[p + i]? = some (vb M i)) ?_ fuelN N _ (by unfold fuelN; omega) ⟨0, m0, B, rfl, by omega, by omega, hB, hy, fun i hi => by omega⟩
 rintro k i κ ⟨j, m, B', rfl, hj, rfl, hB', hy', hk⟩ ih
 unfold kpT_0B
 by_cases h : j < N
 ·have ea : IntKind.i64.wrap ((p : Int) + (j : Int)) = ((p + j : Nat) : Int) := by
   rw [show (p : Int) + (j : Int) = ((p + j : Nat) : Int) by omega, wN _ (by omega)]
  obtain ⟨v0, v1⟩ := vb_ok hM j
  have next : Yes (κ (((j + 1 : Nat) : Int), sf, IntKind.wrap .i64 ((m + 1 : Nat) : Int), W.length, W.length, (B'.set (p + j) (vb M j)).length, (B'.set (p + j) (vb M j)).length, B'.set (p + j) (vb M j))) := by
   refine ih (N - (j + 1)) _ (by omega) ⟨j + 1, m + 1, B'.set (p + j) (vb M j), rfl, by omega, rfl, by rw [List.length_set]; exact hB', hy'.set _ v0 v1, fun i hi => ?_⟩
   by_cases he : i = j
   ·subst he; rw [List.getElem?_set_self (by omega)]
   ·rw [List.getElem?_set_ne (by omega)]; exact hk i (by omega)
  refine Yes.yes (lt_yes h) ?_
  by_cases hm : j < M.length
  ·refine Yes.yes (lt_yes hm) (Yes.yes (in_yes hm) (Yes.yes (by rw [Nat.beq_refl, inR_yes hm]; rfl) ?_))
   simp only [ea, vb_in hm, wrap_step]
   rw [succ64 (by omega)]
   exact Yes.guard (okP' hW (by omega) v0 v1) next
  ·refine Yes.no (lt_no hm) ?_
   simp only [ea, vb_out hm, wrap_step]
   rw [succ64 (by omega)]
   exact Yes.guard (okP' hW (by omega) v0 v1) next
 ·obtain rfl : j = N := by omega
  exact Yes.no (lt_no h) (hκ B' m hB' hy' hk)
theorem kp2_yes {n : Nat} (hn60 : n ≤ 60) {M : List Int} (hM : ∀ y ∈ M, 0 ≤ y ∧ y ≤ 255) {W B : List Int} (hW : W.length ≤ 1000000) (hB : B.length = 64 * n) {p N m0 : Nat} (hp : p + N ≤ 64 * n) (hk : ∀ i, i < N → B[p + i]? = some (vb M i)) {o c o2 n2 c2 q2 : Nat} {z z2 : OAddr} {b8 : Bool} {l17 : IntsL} {g18 : Geo} {sf a11 a12 a25 a26 a27 a28 a29 a30 a31 a32 a33 a34 a35 : Int} {κ0 κ1 : Int → Int → Nat → Nat → Nat → Nat → T Bool}
  (hκ : ∀ (m : Nat), Yes (κ1 sf (IntKind.wrap .i64 (m : Int)) W.length W.length B.length B.length)) :
  Yes (kpT_2L o z M.length c o2 z2 n2 c2 b8 (p : Int) (N : Int) a11 a12 o M q2 l17 g18 W B a25 a26 a27 a28 a29 a30 a31 a32 a33 a34 a35 0 sf (IntKind.wrap .i64 (m0 : Int)) W.length W.length B.length B.length κ0 κ1) := by
 unfold kpT_2L
 refine loopB_P Yes (fun k i => ∃ (j m : Nat), i = ((j : Int), sf, IntKind.wrap .i64 (m : Int), W.length, W.length, B.length, B.length) ∧ j ≤ N ∧ k = N - j) ?_ fuelN N _ (by unfold fuelN; omega) ⟨0, m0, rfl, by omega, by omega⟩
 rintro k i κ ⟨j, m, rfl, hj, rfl⟩ ih
 unfold kpT_2B
 by_cases h : j < N
 ·have ea : IntKind.i64.wrap ((p : Int) + (j : Int)) = ((p + j : Nat) : Int) := by
   rw [show (p : Int) + (j : Int) = ((p + j : Nat) : Int) by omega, wN _ (by omega)]
  have eb : atI B ((p + j : Nat) : Int) = some (vb M j) := hk j h
  obtain ⟨v0, v1⟩ := vb_ok hM j
  have next := ih (N - (j + 1)) (((j + 1 : Nat) : Int), sf, IntKind.wrap .i64 ((m + 1 : Nat) : Int), W.length, W.length, B.length, B.length) (by omega) ⟨j + 1, m + 1, rfl, by omega, rfl⟩
  have hne : (oz (some (vb M j)) != vb M j) = false := by show (vb M j != vb M j) = false; simp
  refine Yes.yes (lt_yes h) ?_
  by_cases hm : j < M.length
  ·refine Yes.yes (lt_yes hm) (Yes.yes (in_yes hm) (Yes.yes (by rw [Nat.beq_refl, inR_yes hm]; rfl) ?_))
   simp only [ea, vb_in hm, wrap_step, eb, Option.getD_some]
   rw [succ64 (by omega)]
   exact Yes.guard (okP' hW (by omega) v0 v1) (Yes.no hne next)
  ·refine Yes.no (lt_no hm) ?_
   simp only [ea, vb_out hm, wrap_step, eb, Option.getD_some]
   rw [succ64 (by omega)]
   exact Yes.guard (okP' hW (by omega) v0 v1) (Yes.no hne next)
 ·exact Yes.no (lt_no h) (hκ m)
structure KI (n : Nat) (M W B : List Int) (sf st : Int) (r : Res) (g least now : Nat) : Prop where
 y : Bys B
 len : B.length = 64 * n
 le : least ≤ now
 keep : ∀ i, i < least → B[8 * g + i]? = some (vb M i)
 heap : ∃ (A : AS) (held : Nat → Option HK) (live : Nat → Option Nat), Rep n 1 A ⟨⟨W, B⟩, sf, st, some r.cells⟩ ∧ A.self = ((0 : Nat) : Int) ∧ HInv n 1 A held ∧ SI n 1 A live ∧ live g = some now ∧ ∀ q z, live q = some z → ∃ x, held q = some x ∧ z ≤ 8 * x.ext
theorem KI.w {n : Nat} {M W B : List Int} {sf st : Int} {r : Res} {g least now : Nat} (h : KI n M W B sf st r g least now) (hf : Small n 1) : W.length ≤ 1000000 := by
 obtain ⟨A, held, live, hR, _⟩ := h.heap
 have h1 := hR.len
 have := Br_le hf.n2 hf.t2
 simp only at h1; omega
theorem kp1_yes {n : Nat} (hf : Small n 1) (hn60 : n ≤ 60) {M : List Int} (hM : ∀ y ∈ M, 0 ≤ y ∧ y ≤ 255) {S : List Int} (hS12 : S.length ≤ 12) (hS : ∀ y ∈ S, 0 ≤ y ∧ y ≤ 255) {W B : List Int} {sf st : Int} {r : Res} {g least now : Nat} (hK : KI n M W B sf st r g least now) {o c o2 c2 : Nat} {z z2 : OAddr} {b8 : Bool}
    {κ0 κ1 : Int → Int → Int → Nat → Nat → Nat → Nat → IntsL → IntsL → Int → Int → Int → Int → Int → Int → Int → Int → Int → Int → Int → T Bool}
    (hκ : ∀ (W B : List Int) (sf st : Int) (r : Res) (g least now : Nat), KI n M W B sf st r g least now → Yes (κ1 ((8 * g : Nat) : Int) sf st W.length W.length B.length B.length W B r.at_ r.n r.byte r.c1 r.c2 r.c3 r.c4 r.c5 r.e r.lin r.touch)) :
    Yes (kpT_1L o z M.length c o2 z2 S.length c2 b8 o M o2 S (mkGeo n 1) ((8 * g : Nat) : Int) (least : Int) (now : Int) 0 sf st W.length W.length B.length B.length W B r.at_ r.n r.byte r.c1 r.c2 r.c3 r.c4 r.c5 r.e r.lin r.touch κ0 κ1) := by
  unfold kpT_1L
  refine loopB_P Yes (fun k i => ∃ (j : Nat) (W B : List Int) (sf st : Int) (r : Res) (g least now : Nat), i = (((8 * g : Nat) : Int), (least : Int), (now : Int), (j : Int), sf, st, W.length, W.length, B.length, B.length, W, B, r.at_, r.n, r.byte, r.c1, r.c2, r.c3, r.c4, r.c5, r.e, r.lin, r.touch) ∧ j ≤ S.length ∧ k = S.length - j ∧ KI n M W B sf st r g least now) ?_ fuelN S.length _ (by unfold fuelN; omega) ⟨0, W, B, sf, st, r, g, least, now, rfl, by omega, by omega, hK⟩
  clear hK W B sf st r g least now
  rintro k i κ ⟨j, W, B, sf, st, r, g, least, now, rfl, hj, rfl, hK⟩ ih
  obtain ⟨A, held, live, hR, hself, hi, hs, hlg, hlh⟩ := hK.heap
  have hBl := hK.len
  unfold kpT_1B
  simp only
  by_cases h : j < S.length
  case neg => exact Yes.no (lt_no h) (hκ W B sf st r g least now hK)
  refine Yes.yes (lt_yes h) (Yes.yes (in_yes h) (Yes.yes (by rw [Nat.beq_refl, inR_yes h]; rfl) ?_))
  obtain ⟨s, hsv⟩ : ∃ s : Nat, S[j] = ((s : Nat) : Int) := ⟨S[j].toNat, by have := hS _ (List.getElem_mem h); omega⟩
  have hs255 : s ≤ 255 := by have := hS _ (List.getElem_mem h); omega
  have hgl : getI S (Int.toNat (j : Int)) = (s : Int) := by
    show S.getD j 0 = _
    rw [List.getD_eq_getElem?_getD, List.getElem?_eq_getElem h, hsv]; rfl
  have eto : IntKind.i64.wrap (1 + IntKind.i64.wrap (s : Int)) = ((s + 1 : Nat) : Int) := by
    rw [wN s (by omega), show 1 + (s : Int) = ((s + 1 : Nat) : Int) by omega, wN _ (by omega)]
  have ej : IntKind.i64.wrap ((j : Int) + 1) = ((j + 1 : Nat) : Int) := succ64 (by omega)
  rw [hgl, eto, ej]
  have hbe : A.b = B := hR.bytes.symm
  refine Yes.vR (okS_rep hf.toFew hR (by rw [hbe]; omega)) hR (run_realloc hf hn60 (held := held) (live := live) (a := ((8 * g : Nat) : Int)) (s := ((s + 1 : Nat) : Int)) (me := 0) (by omega) hself hi hs hlh (by rw [hbe]; exact hK.y) (by rw [hbe]; exact hBl)) (fun x A' hx => by obtain ⟨_, _, _, _, q, _⟩ := hx; exact ⟨x.1, q.told⟩) fun x r' A' s' hx ht' hR' => ?_
  obtain ⟨x, was⟩ := x
  obtain ⟨held', live', q1, q2, q3, _, q5⟩ := hx
  simp only at q3
  have hself' : A'.self = ((0 : Nat) : Int) := by rw [q3.self]; exact hself
  have hbs : s'.m.bytes = A'.b := hR'.bytes
  have hRt : ∀ (st' : Int) (m : Nat), st' = IntKind.wrap .i64 (m : Int) → Rep n 1 { A' with steps := m } ⟨⟨s'.m.words, s'.m.bytes⟩, s'.self, st', some r'.cells⟩ := fun st' m hm => ⟨hR'.len, hR'.row, hR'.bytes, hR'.self, hm, ht'.symm⟩
  have hst' : s'.steps = IntKind.wrap .i64 (A'.steps : Int) := hR'.steps
  have hW' : s'.m.words.length ≤ 1000000 := by have h1 := hR'.len; have := Br_le hf.n2 hf.t2; omega
  obtain ⟨bb, hbb⟩ : ∃ bb, A'.b = bb := ⟨_, rfl⟩
  rw [hbb] at q5 hbs
  rw [hbe] at q5
  -- what is left as it was
  have same : held' = held → live' = live → bb = B → (x.e = 15 ∨ x.e = 11) → Yes (bif x.e == 15 then κ (((8 * g : Nat) : Int), (least : Int), (now : Int), ((j + 1 : Nat) : Int), s'.self, s'.steps, s'.m.words.length, s'.m.words.length, s'.m.bytes.length, s'.m.bytes.length, s'.m.words, s'.m.bytes, r'.at_, r'.n, r'.byte, r'.c1, r'.c2, r'.c3, r'.c4, r'.c5, r'.e, r'.lin, r'.touch) else
      bif x.e == 11 then κ (((8 * g : Nat) : Int), (least : Int), (now : Int), ((j + 1 : Nat) : Int), s'.self, s'.steps, s'.m.words.length, s'.m.words.length, s'.m.bytes.length, s'.m.bytes.length, s'.m.words, s'.m.bytes, r'.at_, r'.n, r'.byte, r'.c1, r'.c2, r'.c3, r'.c4, r'.c5, r'.e, r'.lin, r'.touch) else .fail) := by
    intro h1 h2 h3 he
    have next := ih (S.length - (j + 1)) _ (by omega) ⟨j + 1, s'.m.words, s'.m.bytes, s'.self, s'.steps, r', g, least, now, rfl, by omega, rfl, by rw [hbs, h3]; exact hK.y, by rw [hbs, h3]; exact hBl, hK.le, by rw [hbs, h3]; exact hK.keep, { A' with steps := A'.steps }, held', live', hRt _ _ hst', hself', q1.w fun r i => rfl, q2.same fun i => rfl, by rw [h2]; exact hlg, by rw [h1, h2]; exact hlh⟩
    rcases he with he | he
    · exact Yes.yes (by rw [he]; rfl) next
    · exact Yes.no (by rw [he]; rfl) (Yes.yes (by rw [he]; rfl) next)
  have pick : ∀ {X Y Z Z' : T Bool}, (x.e = 15 ∨ x.e = 11) → Yes (bif x.e == 15 then X else bif x.e == 11 then Y else Z) → Yes (bif x.e == 15 then X else bif x.e == 11 then Y else Z') := by
    intro X Y Z Z' he hY
    rcases he with he | he <;> rw [he] at hY ⊢ <;> exact hY
  -- what is had
  have had : ∀ (g' ext : Nat), x.at_ = ((8 * g' : Nat) : Int) → x.n = ((8 * ext : Nat) : Int) → x.e = 0 → was = (now : Int) → s + 1 ≤ 8 * ext → 8 * g' + 8 * ext ≤ 64 * n → bb.length = 64 * n → Bys bb → (∀ i, i < least → bb[8 * g' + i]? = some (vb M i)) → live' g' = some (s + 1) → (∀ q z, live' q = some z → ∃ x, held' q = some x ∧ z ≤ 8 * x.ext) →
      ∀ {X Y Z1 Z2 Z3 : T Bool}, Yes (kpT_2L o z M.length c o2 z2 S.length c2 b8 x.at_ (if ((s + 1 : Nat) : Int) < (least : Int) then ((s + 1 : Nat) : Int) else (least : Int)) ((s + 1 : Nat) : Int) (j : Int) o M o2 S (mkGeo n 1) s'.m.words s'.m.bytes r'.at_ r'.n r'.byte r'.c1 r'.c2 r'.c3 r'.c4 r'.c5 r'.e r'.lin r'.touch 0 s'.self s'.steps s'.m.words.length s'.m.words.length s'.m.bytes.length s'.m.bytes.length (fun y9_0 y9_1 y9_2 y9_3 y9_4 y9_5 =>
           κ0 (x.at_) (y9_0) (y9_1) (y9_2) (y9_3) (y9_4) (y9_5) (s'.m.1) (s'.m.2) (r'.at_) (r'.n) (r'.byte) (r'.c1) (r'.c2) (r'.c3) (r'.c4) (r'.c5) (r'.e) (r'.lin) (r'.touch)) (fun y9_0 y9_1 y9_2 y9_3 y9_4 y9_5 =>
           κ (x.at_, if ((s + 1 : Nat) : Int) < (least : Int) then ((s + 1 : Nat) : Int) else (least : Int), ((s + 1 : Nat) : Int), ((j + 1 : Nat) : Int), y9_0, y9_1, y9_2, y9_3, y9_4, y9_5, s'.m.1, s'.m.2, r'.at_, r'.n, r'.byte, r'.c1, r'.c2, r'.c3, r'.c4, r'.c5, r'.e, r'.lin, r'.touch))) ∧
        (x.e == 15) = false ∧ (x.e == 11) = false ∧ (x.e != 0) = false ∧ (was != (now : Int)) = false ∧ decide (x.n < ((s + 1 : Nat) : Int)) = false := by
    intro g' ext h1 h2 h3 h4 h5 h6 h7 h8 h9 h10 h11 X Y Z1 Z2 Z3
    refine ⟨?_, by rw [h3]; rfl, by rw [h3]; rfl, by rw [h3]; rfl, by rw [h4]; simp, decide_eq_false (by omega)⟩
    have emin : (if ((s + 1 : Nat) : Int) < (least : Int) then ((s + 1 : Nat) : Int) else (least : Int)) = ((min (s + 1) least : Nat) : Int) := by split <;> omega
    rw [h1, emin, hst']
    refine kp2_yes (n := n) hn60 hM hW' (by rw [hbs]; exact h7) (p := 8 * g') (N := min (s + 1) least) (by omega) (fun i hi => by rw [hbs]; exact h9 i (by omega)) fun m => ?_
    exact ih (S.length - (j + 1)) _ (by omega) ⟨j + 1, s'.m.words, s'.m.bytes, s'.self, IntKind.wrap .i64 (m : Int), r', g', min (s + 1) least, s + 1, rfl, by omega, rfl, by rw [hbs]; exact h8, by rw [hbs]; exact h7, by omega, fun i hi => by rw [hbs]; exact h9 i (by omega), { A' with steps := m }, held', live', hRt _ _ rfl, hself', q1.w fun r i => rfl, q2.same fun i => rfl, h10, h11⟩
  simp only
  cases q5 with
  | size l h1 => exact pick (.inr rfl) (same rfl rfl rfl (.inr rfl))
  | bad l h1 h2 h3 => exact absurd rfl (h3 g now hlg)
  | none l g' z' x' h1 h2 h3 h4 h5 h6 h7 => exact pick (.inl rfl) (same rfl rfl rfl (.inl rfl))
  | stay l g' z' x' h1 h2 h3 h4 h5 h6 =>
    obtain rfl : g' = g := by omega
    rw [hlg] at h4; cases h4
    have hext := hi.hg.ext h5
    obtain ⟨a1, a2, a3, a4, a5, a6⟩ := had g' x'.ext rfl rfl rfl rfl (by omega) (by omega) hBl hK.y hK.keep (by rw [updS_self]; rfl) (fun q z hq => by
      by_cases hqg : q = g'
      · subst hqg; rw [updS_self] at hq; cases hq; exact ⟨x', h5, by omega⟩
      · rw [updS_ne _ _ hqg] at hq; exact hlh q z hq) (X := .fail) (Y := .fail) (Z1 := .fail) (Z2 := .fail) (Z3 := .fail)
    exact Yes.no a2 (Yes.no a3 (Yes.no a4 (Yes.no a5 (Yes.no a6 a1))))
  | go l g' z' x' g2 y h1 h2 h3 h4 h5 h6 h7 h8 h9 =>
    obtain rfl : g' = g := by omega
    rw [hlg] at h4; cases h4
    have hne : g2 ≠ g' := fun hh => by rw [hh, h5] at h7; cases h7
    have hbig := place_big h1 h8
    have e1 : upd held g2 (some y) g' = some x' := by rw [upd_ne _ _ (Ne.symm hne), h5]
    have e2 : upd held g2 (some y) g2 = some y := upd_self _ _ _
    have hext := h9.ext e2
    have hext1 := h9.ext e1
    obtain ⟨x2, hx2, hz2⟩ := hlh g' now hlg
    rw [h5] at hx2; cases hx2
    have hle := hK.le
    have hdis : 8 * g' + now ≤ 8 * g2 ∨ 8 * g2 + now ≤ 8 * g' := by
      rcases Nat.lt_or_gt_of_ne hne with hlt | hgt
      · have := h9.disj _ _ _ _ e2 e1 hlt; right; omega
      · have := h9.disj _ _ _ _ e1 e2 hgt; left; omega
    obtain ⟨a1, a2, a3, a4, a5, a6⟩ := had g2 y.ext rfl rfl rfl rfl (by omega) (by omega) (by rw [copied_len]; exact hBl) (hK.y.copied _ _ _) (fun i hi => by
        rw [copied_at _ _ _ _ _ hdis (by omega), if_pos (by omega), show 8 * g2 + i - 8 * g2 = i by omega, List.getD_eq_getElem?_getD, hK.keep i hi]; rfl) (by rw [updS_ne _ _ hne, updS_self]; rfl) (fun q z hq => by
      by_cases hqg : q = g'
      · subst hqg; rw [updS_self] at hq; cases hq
      · rw [updS_ne _ _ hqg] at hq
        rw [upd_ne _ _ hqg]
        by_cases hq2 : q = g2
        · subst hq2; rw [updS_self] at hq; cases hq; exact ⟨y, upd_self _ _ _, by omega⟩
        · rw [updS_ne _ _ hq2] at hq; rw [upd_ne _ _ hq2]; exact hlh q z hq) (X := .fail) (Y := .fail) (Z1 := .fail) (Z2 := .fail) (Z3 := .fail)
    exact Yes.no a2 (Yes.no a3 (Yes.no a4 (Yes.no a5 (Yes.no a6 a1))))
end Go.Proofs.YtaegelbaghaooaaGreat
