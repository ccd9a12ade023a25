/- RenewError: its tree ends in true; its contract. -/
import Derived.Test.YtaegelbaghaooaaGreatErPEr
import Derived.Test.YtaegelbaghaooaaGreatErQWin
set_option linter.all false
open Go.IntKind (i64 u64 u32 u8)
namespace Go.Proofs.YtaegelbaghaooaaGreat
open Go Go.RowKit Lx
set_option maxRecDepth 100000
theorem xpC {l : List Int} {k : Nat} (h : k < l.length) : inB l (prO 0 (k : Int) 1 0) = true := by
 rw [xcI]; exact decide_eq_true h
theorem er2_yes {n : Nat} (hf : Small n 1) (hn60 : n <= 60) {M : List Int} (hM12 : M.length <= 12) (hM : ∀ y ∈ M, 0 <= y /\ y <= 255) {W B P N : List Int} {sf st : Int} {r : Res} (hP12 : P.length <= 12) (hE : ER n 0 P N W B sf st r) {o o2 c2 : Nat} {z2 : yd} {b4 : Bool} {l10 : xh}
  {κ0 κ1 : Nat -> Nat -> Nat -> Nat -> xh -> xh -> Int -> Int -> Int -> Int -> Int -> Int -> Int -> Int -> Int -> Int -> Int -> Int -> Int -> xh -> xh -> T Bool}
  (hκ : ∀ (W B P' N' : List Int) (sf st : Int) (r : Res), P'.length = P.length -> ER n 0 P' N' W B sf st r -> Yes (κ1 W.length W.length B.length B.length W B sf st r.at_ r.n r.byte r.c1 r.c2 r.c3 r.c4 r.c5 r.e r.lin r.touch P' N')) :
  Yes (Ze o2 z2 M.length c2 b4 P.length N.length (P.length : Int) o l10 o2 M (xg n 1) 0 W.length W.length B.length B.length W B sf st r.at_ r.n r.byte r.c1 r.c2 r.c3 r.c4 r.c5 r.e r.lin r.touch P N κ0 κ1) := by
 have hn1 := hf.n1
 have hNL : N.length = P.length := hE.b.2.2
 rw [hNL]
 obtain ⟨m, hm⟩ : ∃ m, P.length = m := ⟨_, rfl⟩
 rw [hm] at hκ hP12 |-
 unfold Ze
 refine vk Yes (fun k i => ∃ (j : Nat) (W B P N : List Int) (sf st : Int) (r : Res), i = ((j : Int), W.length, W.length, B.length, B.length, W, B, sf, st, r.at_, r.n, r.byte, r.c1, r.c2, r.c3, r.c4, r.c5, r.e, r.lin, r.touch, P, N) /\ j <= M.length /\ k = M.length - j /\ P.length = m /\ ER n 0 P N W B sf st r) ?_ xd M.length _ (by unfold xd; omega) ⟨0, W, B, P, N, sf, st, r, rfl, by omega, by omega, hm, hE⟩
 clear hE hm hNL W B P N sf st r
 rintro k i κ ⟨j, W, B, P, N, sf, st, r, rfl, hj, rfl, rfl, hE⟩ ih
 have hWl := hE.w hf
 have hBl := hE.b.1
 have hBy := hE.b.2.1
 have hNl := hE.b.2.2
 have hE0 := hE
 obtain ⟨A, held, live, hR, hE⟩ := hE
 unfold xjm
 simp only
 by_cases h : j < M.length
 case neg => exact Yes.no (VL h) (hκ W B P N sf st r rfl hE0)
 refine Yes.yes (qN h) ?_
 by_cases hp0 : P.length = 0
 ·exact Yes.no (decide_eq_false (by omega)) (hκ W B P N sf st r rfl hE0)
 obtain ⟨k, hk⟩ : ∃ k, j % P.length = k := ⟨_, rfl⟩
 have hkl : k < P.length := by rw [<- hk]; exact Nat.mod_lt _ (by omega)
 have ek : Int.tmod (j : Int) (P.length : Int) = (k : Int) := by
  rw [Int.tmod_eq_emod_of_nonneg (by omega), <- hk]; omega
 rw [ek]
 have hkN : k < N.length := by omega
 obtain ⟨g, x, z, h1, h2, h3, h4, h5⟩ := hE.an.row k (Nat.zero_le _) hkl
 have hMj := hM _ (List.getElem_mem h)
 obtain ⟨v, hv⟩ : ∃ v : Nat, M[j] = (v : Int) := ⟨M[j].toNat, by omega⟩
 have hMg : getI M (Int.toNat (j : Int)) = (v : Int) := by
  show M.getD j 0 = _
  rw [List.getD_eq_getElem?_getD, List.getElem?_eq_getElem h, <- hv]; rfl
 have es : i64.wrap (i64.wrap (v : Int) * 2) = ((v * 2 : Nat) : Int) := by
  rw [wN v (by omega), show (v : Int) * 2 = ((v * 2 : Nat) : Int) by omega, wN _ (by omega)]
 have ej : i64.wrap ((j : Int) + 1) = ((j + 1 : Nat) : Int) := wA (by omega)
 have eP : getI P (Int.toNat (k : Int)) = ((8 * g : Nat) : Int) := h1
 have eN : getI N (Int.toNat (k : Int)) = (z : Int) := h2
 rw [hMg, es, ej, eP, eN]
 have hbe : A.b = B := hR.bytes.symm
 have hq : (!(P.length : Int) == 0) = true := by
  rw [Bool.not_eq_true', beq_eq_false_iff_ne]; omega
 refine Yes.yes (decide_eq_true (by omega)) (Yes.yes hq (Yes.guard (decide_eq_true ⟨trivial, trivial, hWl.1, hWl.2⟩) (Yes.guard (decide_eq_true ⟨trivial, trivial, by omega, by omega⟩) (Yes.yes (vg hkl) (Yes.yes (yS hkl) (Yes.yes (vg h) (Yes.yes (by rw [Nat.beq_refl, yS h]; rfl) ?_)))))))
 refine Yes.vR (XJ hf.toFew hR (by rw [hbe]; omega)) hR (xkZ hf hn60 (held := held) (live := live) (a := ((8 * g : Nat) : Int)) (s := ((v * 2 : Nat) : Int)) (me := 0) (by omega) hE.self hE.heap hE.st hE.an.hlh hE.y hE.len) (fun x A' hx => by obtain ⟨_, _, _, _, q, _⟩ := hx; exact ⟨x.1, q.told⟩) fun y r' A' s' hx ht' hR' => ?_
 obtain ⟨y, was⟩ := y
 obtain ⟨held', live', q1, q2, q3, _, q4, q5⟩ := hx
 simp only at q3 q4
 have hself' : A'.self = ((0 : Nat) : Int) := by rw [q3.self]; exact hE.self
 have hbs : s'.m.bytes = A'.b := hR'.bytes
 have hW' : s'.m.words.length <= 1000000 := by have h1 := hR'.len; have := Yw hf.n2 hf.t2; omega
 obtain ⟨bb, hbb⟩ : ∃ bb, A'.b = bb := ⟨_, rfl⟩
 rw [hbb] at q5 hbs
 rw [hbe] at q5
 have hRt : Rep n 1 A' ⟨⟨s'.m.words, s'.m.bytes⟩, s'.self, s'.steps, some r'.cells⟩ := ⟨hR'.len, hR'.row, hR'.bytes, hR'.self, hR'.steps, ht'.symm⟩
 simp only
 -- an error
 have bad : held' = held -> live' = live -> bb = B -> y.e ≠ 0 -> ∀ {X : T Bool}, Yes (bif y.e == 0 then X else
   Xd o2 z2 M.length c2 b4 P.length P.length (P.length : Int) (j : Int) o l10 o2 M (xg n 1) s'.m.words.length s'.m.words.length s'.m.bytes.length s'.m.bytes.length s'.m.words s'.m.bytes s'.self s'.steps r'.at_ r'.n r'.byte r'.c1 r'.c2 r'.c3 r'.c4 r'.c5 r'.e r'.lin r'.touch P N W.length B.length W B 0 (fun _ =>
    κ0 s'.m.words.length s'.m.words.length s'.m.bytes.length s'.m.bytes.length s'.m.words s'.m.bytes s'.self s'.steps r'.at_ r'.n r'.byte r'.c1 r'.c2 r'.c3 r'.c4 r'.c5 r'.e r'.lin r'.touch P N) (fun _ =>
    Xf o2 z2 M.length c2 b4 P.length P.length (P.length : Int) (j : Int) o l10 o2 M (xg n 1) s'.m.words.length s'.m.words.length s'.m.bytes.length s'.m.bytes.length s'.m.words s'.m.bytes s'.self s'.steps r'.at_ r'.n r'.byte r'.c1 r'.c2 r'.c3 r'.c4 r'.c5 r'.e r'.lin r'.touch P N W.length B.length W B 0 (fun _ =>
     κ0 s'.m.words.length s'.m.words.length s'.m.bytes.length s'.m.bytes.length s'.m.words s'.m.bytes s'.self s'.steps r'.at_ r'.n r'.byte r'.c1 r'.c2 r'.c3 r'.c4 r'.c5 r'.e r'.lin r'.touch P N) (fun _ =>
     κ (((j + 1 : Nat) : Int), s'.m.words.length, s'.m.words.length, s'.m.bytes.length, s'.m.bytes.length, s'.m.words, s'.m.bytes, s'.self, s'.steps, r'.at_, r'.n, r'.byte, r'.c1, r'.c2, r'.c3, r'.c4, r'.c5, r'.e, r'.lin, r'.touch, P, N)))) := by
  intro e1 e2 e3 he X
  have hsB : s'.m.bytes = B := by rw [hbs, e3]
  refine Yes.no (by simpa using he) ?_
  refine er3_yes hf hR hRt (q4 he) hWl hW' ⟨by show 0 < B.length; omega, by show B.length <= _; omega⟩ (by show s'.m.bytes.length <= _; rw [hsB]; omega) ?_
  have e4 := er4_yes (n := n) hn60 (P := P) (N := N) (W := W) (W' := s'.m.words) (B := B) hP12 hWl hW' hBl hBy hNl (fun x hx => by obtain ⟨g, z, a, b, _, d⟩ := hE.fits (Nat.zero_le x) hx; exact ⟨g, z, a, b, d⟩) (n0 := o2) (n2 := M.length) (n3 := c2) (n10 := o) (n12 := o2) (z1 := z2) (b4 := b4) (l11 := l10) (l13 := M) (g14 := xg n 1) (a8 := (j : Int)) (a21 := s'.self) (a22 := s'.steps) (a23 := r'.at_) (a24 := r'.n) (a25 := r'.byte) (a26 := r'.c1) (a27 := r'.c2) (a28 := r'.c3) (a29 := r'.c4) (a30 := r'.c5) (a31 := r'.e) (a32 := r'.lin) (a33 := r'.touch) (κ0 := fun _ => κ0 s'.m.words.length s'.m.words.length s'.m.bytes.length s'.m.bytes.length s'.m.words s'.m.bytes s'.self s'.steps r'.at_ r'.n r'.byte r'.c1 r'.c2 r'.c3 r'.c4 r'.c5 r'.e r'.lin r'.touch P N) (κ1 := fun _ => κ (((j + 1 : Nat) : Int), s'.m.words.length, s'.m.words.length, s'.m.bytes.length, s'.m.bytes.length, s'.m.words, s'.m.bytes, s'.self, s'.steps, r'.at_, r'.n, r'.byte, r'.c1, r'.c2, r'.c3, r'.c4, r'.c5, r'.e, r'.lin, r'.touch, P, N))
   (ih (M.length - (j + 1)) _ (by omega) ⟨j + 1, s'.m.words, s'.m.bytes, P, N, s'.self, s'.steps, r', rfl, by omega, rfl, rfl, A', held', live', hRt, hself', q1, q2, by rw [e1, e2]; exact hE.an, by rw [hbb, e3]; exact hBy, by rw [hbb, e3]; exact hBl⟩)
  rw [hNl] at e4
  rw [<- hsB] at e4 |-
  exact e4
 -- another size
 have good : ∀ (p' : Int) (s : Nat), s = v * 2 -> 1 <= s -> y.at_ = p' -> y.e = 0 -> was = (z : Int) -> Bys bb -> bb.length = 64 * n -> AN 0 (P.set k p') (N.set k (s : Int)) held' live' -> ∀ {X0 X1 : T Bool}, Yes (bif y.e == 0 then (bif decide ((0 : Int) <= (k : Int) /\ (k : Int) < ((P.length : Nat) : Int)) then (bif inR N.length (k : Int) then (bif was != (z : Int) then X0 else
   bif decide ((0 : Int) <= (j : Int) /\ (j : Int) < ((M.length : Nat) : Int)) then (bif Nat.beq o2 o2 && inR M.length (j : Int) then (bif (v : Int) == 0 then X0 else
    bif decide ((0 : Int) <= (k : Int) /\ (k : Int) < ((P.length : Nat) : Int)) then (bif inB P (prO 0 (k : Int) 1 0) then (bif decide ((0 : Int) <= (j : Int) /\ (j : Int) < ((M.length : Nat) : Int)) then (bif Nat.beq o2 o2 && inR M.length (j : Int) then (bif decide ((0 : Int) <= (k : Int) /\ (k : Int) < ((P.length : Nat) : Int)) then (bif inB N (prO 0 (k : Int) 1 0) then
     (κ (((j + 1 : Nat) : Int), s'.m.words.length, s'.m.words.length, s'.m.bytes.length, s'.m.bytes.length, s'.m.words, s'.m.bytes, s'.self, s'.steps, r'.at_, r'.n, r'.byte, r'.c1, r'.c2, r'.c3, r'.c4, r'.c5, r'.e, r'.lin, r'.touch, P.set (prO 0 (k : Int) 1 0) y.at_, N.set (prO 0 (k : Int) 1 0) ((v * 2 : Nat) : Int))) else .fail) else .fail) else .fail) else .fail) else .fail) else .fail) else .fail) else .fail) else .fail) else .fail) else X1) := by
  rintro p' s rfl hs1 rfl he hwas hby hbl han X0 X1
  refine Yes.yes (by rw [he]; rfl) (Yes.yes (vg hkl) (Yes.yes (yS hkN) (Yes.no (by rw [hwas]; simp) (Yes.yes (vg h) (Yes.yes (by rw [Nat.beq_refl, yS h]; rfl) (Yes.no (by simp; omega) (Yes.yes (vg hkl) (Yes.yes (xpC hkl) (Yes.yes (vg h) (Yes.yes (by rw [Nat.beq_refl, yS h]; rfl) (Yes.yes (vg hkl) (Yes.yes (xpC hkN) ?_))))))))))))
  exact ih (M.length - (j + 1)) _ (by omega) ⟨j + 1, s'.m.words, s'.m.bytes, _, _, s'.self, s'.steps, r', rfl, by omega, rfl, by rw [List.length_set], A', held', live', hRt, hself', q1, q2, han, by rw [hbb]; exact hby, by rw [hbb]; exact hbl⟩
 rw [hNl] at *
 cases q5 with
 | size l g1 => exact bad rfl rfl rfl (show (11 : Int) ≠ 0 by decide)
 | bad l g1 g2 g3 => exact absurd rfl (g3 g z h3)
 | none l g' z' x' g1 g2 g3 g4 g5 g6 g7 => exact bad rfl rfl rfl (show (15 : Int) ≠ 0 by decide)
 | stay l g' z' x' g1 g2 g3 g4 g5 g6 =>
  obtain rfl : g' = g := by omega
  rw [h3] at g4; cases g4
  exact good _ _ rfl (by omega) rfl rfl rfl hBy hBl (hE.an.stay hkl h1 g5 (by omega))
 | go l g' z' x' g2 y' g1 g3 g4 g5 g6 g7 g8 g9 g10 =>
  obtain rfl : g' = g := by omega
  rw [h3] at g5; cases g5
  have hne : g2 ≠ g' := fun hh => by rw [hh, g6] at g8; cases g8
  have hbig := xad g1 g9
  exact good _ _ rfl (by omega) rfl rfl rfl (hBy.copied _ _ _) (by rw [Wg]; exact hBl) (hE.an.go hkl h1 g8 hne (by omega))
theorem er6_yes {n : Nat} (hf : Small n 1) (hn60 : n <= 60) {W B P N : List Int} {sf st : Int} {r : Res} (hP12 : P.length <= 12) (hE : ER n 0 P N W B sf st r) {n5 n7 : Nat} {b0 : Bool} {l6 l8 : xh}
  {κ0 κ1 : Nat -> Nat -> Nat -> Nat -> xh -> xh -> Int -> Int -> Int -> Int -> Int -> Int -> Int -> Int -> Int -> Int -> Int -> Int -> Int -> T Bool}
  (hκ : ∀ (W B : List Int) (sf st : Int) (r : Res), ER n P.length P N W B sf st r -> Yes (κ1 W.length W.length B.length B.length W B sf st r.at_ r.n r.byte r.c1 r.c2 r.c3 r.c4 r.c5 r.e r.lin r.touch)) :
  Yes (Zf b0 P.length P.length (P.length : Int) n5 l6 n7 l8 (xg n 1) P N 0 W.length W.length B.length B.length W B sf st r.at_ r.n r.byte r.c1 r.c2 r.c3 r.c4 r.c5 r.e r.lin r.touch κ0 κ1) := by
 have hNl := hE.b.2.2
 unfold Zf
 refine vk Yes (fun k i => ∃ (j : Nat) (W B : List Int) (sf st : Int) (r : Res), i = ((j : Int), W.length, W.length, B.length, B.length, W, B, sf, st, r.at_, r.n, r.byte, r.c1, r.c2, r.c3, r.c4, r.c5, r.e, r.lin, r.touch) /\ j <= P.length /\ k = P.length - j /\ ER n j P N W B sf st r) ?_ xd P.length _ (by unfold xd; omega) ⟨0, W, B, sf, st, r, rfl, by omega, by omega, hE⟩
 clear hE W B sf st r
 rintro k i κ ⟨j, W, B, sf, st, r, rfl, hj, rfl, hE⟩ ih
 have hBl := hE.b.1
 have hE0 := hE
 obtain ⟨A, held, live, hR, hE⟩ := hE
 unfold xjo
 simp only
 by_cases h : j < P.length
 case neg =>
  obtain rfl : j = P.length := by omega
  exact Yes.no (VL h) (hκ W B sf st r hE0)
 have hjN : j < N.length := by omega
 obtain ⟨g, x, z, h1, h2, h3, h4, h5⟩ := hE.an.row j (Nat.le_refl _) h
 have eP : getI P (Int.toNat (j : Int)) = ((8 * g : Nat) : Int) := h1
 have eN : getI N (Int.toNat (j : Int)) = (z : Int) := h2
 have ej : i64.wrap ((j : Int) + 1) = ((j + 1 : Nat) : Int) := wA (by omega)
 rw [eP, eN, ej]
 have hbe : A.b = B := hR.bytes.symm
 refine Yes.yes (qN h) (Yes.yes (vg h) (Yes.yes (yS h) ?_))
 refine Yes.vR (XJ hf.toFew hR (by rw [hbe]; omega)) hR (xra hf (a := ((8 * g : Nat) : Int)) (me := 0) (by omega) hE.self hE.heap hE.st fun q w hq => by obtain ⟨x, hx, _⟩ := hE.an.hlh q w hq; exact ⟨x, hx⟩) (fun x A' hx => ⟨x, hx.2.1.told⟩) fun f r' A' s' hx ht' hR' => ?_
 obtain ⟨hb3, hft, _, hres⟩ := hx
 have hRt : Rep n 1 A' ⟨⟨s'.m.words, s'.m.bytes⟩, s'.self, s'.steps, some r'.cells⟩ := ⟨hR'.len, hR'.row, hR'.bytes, hR'.self, hR'.steps, ht'.symm⟩
 simp only
 rcases hres with ⟨_, _, _, hno⟩ | ⟨g', z', hag, hlz, hrf, _, _, hi3, hs3⟩
 ·exact absurd rfl (hno g z h3)
 ·obtain rfl : g' = g := by omega
  rw [h3] at hlz; cases hlz
  refine Yes.yes (vg h) (Yes.yes (yS hjN) (Yes.no (by rw [hrf]; simp) ?_))
  exact ih (P.length - (j + 1)) _ (by omega) ⟨j + 1, s'.m.words, s'.m.bytes, s'.self, s'.steps, r', rfl, by omega, rfl, A', _, _, hRt, by rw [hft.self]; exact hE.self, hi3, hs3, hE.an.free h h1, by rw [hb3]; exact hE.y, by rw [hb3]; exact hE.len⟩
theorem er_end {n : Nat} (hf : Small n 1) (hn60 : n <= 60) {P N W B : List Int} {sf st : Int} {r : Res} (hE : ER n P.length P N W B sf st r) :
  Yes ((vR (okS W.length W.length B.length B.length W B) (Zl (xg n 1)) (DS.mk (Mem.mk W B) sf st (some (Res.cells r)))).bind fun r18 =>
   bif r18.fst == 0 then ((whoT (xg n 1) (List.length r18.snd.snd.m.1) (List.length r18.snd.snd.m.1) (List.length r18.snd.snd.m.2) (List.length r18.snd.snd.m.2) r18.snd.snd.m.1 r18.snd.snd.m.2).bind fun r20 =>
    bif r20 then (T.ret true) else T.ret false) else T.ret false) := by
 obtain ⟨A, held, live, hR, hE⟩ := hE
 have hh := hE.an.end
 have hi := hE.heap
 rw [hh] at hi
 have hBl : B.length = 64 * n := by have h := hE.len; rw [<- hR.bytes] at h; exact h
 refine Yes.vR (XJ hf.toFew hR (by rw [hE.len]; omega)) hR (xgB hf (me := 0) (by omega) hE.self hi) (fun x A' hx => ⟨r, by rw [hx.2.2.2.told, <- hR.told]⟩) fun x r' A' s' hx ht' hR' => ?_
 obtain ⟨rfl, hi', hW, hfr⟩ := hx
 simp only
 refine Yes.yes rfl ?_
 refine Yes.run (xgA hf hR' hW (by rw [hR'.bytes, hfr.b, hE.len]; omega)) (Yes.yes rfl Yes.ret)
end Go.Proofs.YtaegelbaghaooaaGreat
