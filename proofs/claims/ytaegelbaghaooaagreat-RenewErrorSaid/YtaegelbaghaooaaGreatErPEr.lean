/- RenewError: the loops of its tree. -/
import Derived.Test.YtaegelbaghaooaaGreatErPErr
import Derived.Test.YtaegelbaghaooaaGreatErPZer
import Derived.Test.YtaegelbaghaooaaGreatErQEr
set_option linter.all false
open Go.IntKind (i64 u64 u32 u8)
namespace Go.Proofs.YtaegelbaghaooaaGreat
open Go Go.RowKit Lx
set_option maxRecDepth 100000
theorem okE {P Q : Prop} [Decidable P] [Decidable Q] (hp : P) (hq : Q) : (decide P && decide Q) = true := by simp [hp, hq]
theorem okE1 {P : Prop} [Decidable P] (hp : P) : (decide P && true) = true := by simp [hp]
theorem wrapE (m : Nat) : i64.wrap (i64.wrap (m : Int) + 1) = i64.wrap ((m + 1 : Nat) : Int) := by
 rw [IntKind.wrap_i64, IntKind.wrap_i64, IntKind.wrap_i64]; omega
theorem u8E (x : Nat) : 0 <= u8.wrap (x : Int) /\ u8.wrap (x : Int) <= 255 := by
 have : u8.wrap (x : Int) = (x : Int) % 256 := by simp [IntKind.wrap, IntKind.bits, IntKind.signed]
 rw [this]; omega
structure EI (n i : Nat) (P N : List Int) (A : AS) (held : Nat -> Option HK) (live : Nat -> Option Nat) : Prop where
 self : A.self = ((0 : Nat) : Int)
 heap : HInv n 1 A held
 st : SI n 1 A live
 an : AN i P N held live
 y : Bys A.b
 len : A.b.length = 64 * n
def ER (n i : Nat) (P N W B : List Int) (sf st : Int) (r : Res) : Prop := ∃ (A : AS) (held : Nat -> Option HK) (live : Nat -> Option Nat), Rep n 1 A ⟨⟨W, B⟩, sf, st, some r.cells⟩ /\ EI n i P N A held live
theorem ER.w {n i : Nat} {P N W B : List Int} {sf st : Int} {r : Res} (h : ER n i P N W B sf st r) (hf : Small n 1) : 0 < W.length /\ W.length <= 1000000 := by
 obtain ⟨A, held, live, hR, _⟩ := h
 have h1 := hR.len
 have := Yw hf.n2 hf.t2
 have h2 := (List.getElem?_eq_some_iff.1 (hR.row 0 0 (by omega) (by show 0 < 1; omega))).1
 simp only at h1 h2; omega
theorem ER.b {n i : Nat} {P N W B : List Int} {sf st : Int} {r : Res} (h : ER n i P N W B sf st r) : B.length = 64 * n /\ Bys B /\ N.length = P.length := by
 obtain ⟨A, held, live, hR, hE⟩ := h
 have h1 : B = A.b := hR.bytes
 rw [h1]; exact ⟨hE.len, hE.y, hE.an.len⟩
theorem EI.fits {n i : Nat} {P N : List Int} {A : AS} {held : Nat -> Option HK} {live : Nat -> Option Nat} (h : EI n i P N A held live) {j : Nat} (hi : i <= j) (hj : j < P.length) : ∃ (g z : Nat), getI P j = ((8 * g : Nat) : Int) /\ getI N j = (z : Int) /\ live g = some z /\ 8 * g + z <= 64 * n := by
 obtain ⟨g, x, z, h1, h2, h3, h4, h5⟩ := h.an.row j hi hj
 have := h.heap.hg.ext h4
 exact ⟨g, z, h1, h2, h3, by omega⟩
theorem EI.asked {n : Nat} (hf : Small n 1) {P N : List Int} {A A' : AS} {held held' : Nat -> Option HK} {live live' : Nat -> Option Nat} {z : Nat} {r : Res} (h : EI n 0 P N A held live) (hz : 1 <= z) (hb : A'.b = A.b) (Q : Asked n 1 A held live (z : Int) 1 r A' held' live') :
  (r.e ≠ 0 /\ EI n 0 P N A' held' live') \/ (r.e = 0 /\ ∃ g : Nat, r.at_ = ((8 * g : Nat) : Int) /\ 8 * g + z <= 64 * n /\ EI n 0 (P ++ [((8 * g : Nat) : Int)]) (N ++ [(z : Int)]) A' held' live') := by
 have hs : A'.self = ((0 : Nat) : Int) := by rw [Q.fr.self]; exact h.self
 rcases Q.res with ⟨h1, h2, h3, hc⟩ | ⟨g, x, hr, hg, hh, hl', h5, h6, h7, h8⟩
 ·left
  refine ⟨?_, hs, Q.heap, Q.states, by rw [h1, h2]; exact h.an, by rw [hb]; exact h.y, by rw [hb]; exact h.len⟩
  rcases hc with ⟨hc, _⟩ | ⟨_, _, ⟨hc, _⟩ | ⟨hc, _⟩⟩ <;> rw [hc] <;> decide
 ·right
  have hbig := xad h5 h8
  have hext := Q.heap.hg.ext (g := g) (x := x) (by rw [hh, xD])
  refine ⟨by rw [hr], g, by rw [hr], by omega, hs, Q.heap, Q.states, ?_, by rw [hb]; exact h.y, by rw [hb]; exact h.len⟩
  rw [hh, hl', Int.toNat_natCast]
  exact h.an.add hg (by omega)
theorem EI.bytes {n i : Nat} {P N : List Int} {A : AS} {held : Nat -> Option HK} {live : Nat -> Option Nat} (h : EI n i P N A held live) {B : List Int} {m : Nat} (hy : Bys B) (hl : B.length = 64 * n) : EI n i P N { A with b := B, steps := m } held live :=
 ⟨h.self, h.heap.w fun r i => rfl, h.st.same fun i => rfl, h.an, hy, hl⟩
theorem xpA {n : Nat} (hn60 : n <= 60) {W B : List Int} (hW : W.length <= 1000000) (hB : B.length = 64 * n) (hy : Bys B) {p N x m0 : Nat} (hp : p + N <= 64 * n) {S : List Int} (hx : x < S.length) (eN : i64.wrap (1 + i64.wrap (Int.tmod (getI S (Int.toNat (x : Int))) 70)) = (N : Int)) {o c o2 n2 c2 n9 n10 q2 : Nat} {z z2 : yd} {b8 : Bool} {l16 l37 l38 : xh} {g17 : Geo} {sf a26 a27 a28 a29 a30 a31 a32 a33 a34 a35 a36 a40 a41 a42 a43 a44 a45 a46 a47 a48 a49 : Int} {κ0 : Nat -> Nat -> Nat -> Nat -> xh -> Int -> Int -> T Bool}
  (hκ : ∀ B' (m : Nat), B'.length = 64 * n -> Bys B' -> Yes (κ0 W.length W.length B'.length B'.length B' sf (IntKind.wrap .i64 (m : Int)))) :
  Yes (Xb o z S.length c o2 z2 n2 c2 b8 n9 n10 (x : Int) o S q2 l16 g17 W a26 a27 a28 a29 a30 a31 a32 a33 a34 a35 a36 l37 l38 (p : Int) a40 a41 a42 a43 a44 a45 a46 a47 a48 a49 0 W.length W.length B.length B.length B sf (IntKind.wrap .i64 (m0 : Int)) κ0) := by
 unfold Xb
 refine vk Yes (fun k i => ∃ (j m : Nat) (B' : List Int), i = ((j : Int), W.length, W.length, B'.length, B'.length, B', sf, IntKind.wrap .i64 (m : Int)) /\ j <= N /\ k = N - j /\ B'.length = 64 * n /\ Bys B') ?_ xd N _ (by unfold xd; omega) ⟨0, m0, B, rfl, by omega, by omega, hB, hy⟩
 rintro k i κ ⟨j, m, B', rfl, hj, rfl, hB', hy'⟩ ih
 unfold xjg
 refine Yes.yes (vg hx) (Yes.yes (by rw [Nat.beq_refl, yS hx]; rfl) ?_)
 rw [eN]
 by_cases h : j < N
 ·have ea : i64.wrap ((p : Int) + (j : Int)) = ((p + j : Nat) : Int) := by
   rw [show (p : Int) + (j : Int) = ((p + j : Nat) : Int) by omega, wN _ (by omega)]
  obtain ⟨v0, v1⟩ := u8E x
  have next : Yes (κ (((j + 1 : Nat) : Int), W.length, W.length, (B'.set (p + j) (u8.wrap (x : Int))).length, (B'.set (p + j) (u8.wrap (x : Int))).length, B'.set (p + j) (u8.wrap (x : Int)), sf, IntKind.wrap .i64 ((m + 1 : Nat) : Int))) :=
   ih (N - (j + 1)) _ (by omega) ⟨j + 1, m + 1, B'.set (p + j) (u8.wrap (x : Int)), rfl, by omega, rfl, by rw [List.length_set]; exact hB', hy'.set _ v0 v1⟩
  refine Yes.yes (qN h) ?_
  simp only [ea, wrapE]
  rw [wA (by omega)]
  exact Yes.guard (okP' hW (by omega) v0 v1) next
 ·obtain rfl : j = N := by omega
  exact Yes.no (VL h) (hκ B' m hB' hy')
theorem ask70 {S : List Int} (hS : ∀ y ∈ S, 0 <= y /\ y <= 255) {x : Nat} (hx : x < S.length) : ∃ N : Nat, 1 <= N /\ N <= 70 /\ i64.wrap (1 + i64.wrap (Int.tmod (getI S (Int.toNat (x : Int))) 70)) = (N : Int) := by
 have hb := hS _ (List.getElem_mem hx)
 have hg : getI S (Int.toNat (x : Int)) = S[x] := by
  show S.getD x 0 = _
  rw [List.getD_eq_getElem?_getD, List.getElem?_eq_getElem hx]; rfl
 refine ⟨(1 + S[x] % 70).toNat, by omega, by omega, ?_⟩
 rw [hg, Int.tmod_eq_emod_of_nonneg hb.1, w64 (x := S[x] % 70) (by omega) (by omega), w64 (by omega) (by omega)]; omega
theorem xpB {n : Nat} (hf : Small n 1) (hn60 : n <= 60) {S : List Int} (hS12 : S.length <= 12) (hS : ∀ y ∈ S, 0 <= y /\ y <= 255) {W B P N : List Int} {sf st : Int} {r : Res} {j0 : Nat} (hj0 : j0 <= S.length) (hP : P.length <= j0) (hE : ER n 0 P N W B sf st r) {o c o2 n2 c2 q2 : Nat} {z z2 : yd} {b8 : Bool} {l15 : xh}
  {κ0 : Nat -> Nat -> Nat -> Nat -> Nat -> Nat -> xh -> xh -> Int -> Int -> Int -> Int -> Int -> Int -> Int -> Int -> Int -> Int -> Int -> Int -> Int -> xh -> xh -> T Bool}
  (hκ : ∀ (W B P N : List Int) (sf st : Int) (r : Res), P.length <= 12 -> ER n 0 P N W B sf st r -> Yes (κ0 P.length N.length W.length W.length B.length B.length W B sf st r.at_ r.n r.byte r.c1 r.c2 r.c3 r.c4 r.c5 r.e r.lin r.touch P N)) :
  Yes (Xc o z S.length c o2 z2 n2 c2 b8 o S q2 l15 (xg n 1) P.length N.length (j0 : Int) W.length W.length B.length B.length W B sf st r.at_ r.n r.byte r.c1 r.c2 r.c3 r.c4 r.c5 r.e r.lin r.touch P N κ0) := by
 unfold Xc
 refine vk Yes (fun k i => ∃ (j : Nat) (W B P N : List Int) (sf st : Int) (r : Res), i = (P.length, N.length, (j : Int), W.length, W.length, B.length, B.length, W, B, sf, st, r.at_, r.n, r.byte, r.c1, r.c2, r.c3, r.c4, r.c5, r.e, r.lin, r.touch, P, N) /\ j <= S.length /\ P.length <= j /\ k = S.length - j /\ ER n 0 P N W B sf st r) ?_ 4095 (S.length - j0) _ (by omega) ⟨j0, W, B, P, N, sf, st, r, rfl, hj0, hP, rfl, hE⟩
 clear hE hP hj0 W B P N sf st r j0
 rintro k i κ ⟨j, W, B, P, N, sf, st, r, rfl, hj, hP, rfl, hE⟩ ih
 have hWl := (hE.w hf).2
 have hBl := hE.b.1
 have hNl := hE.b.2.2
 obtain ⟨A, held, live, hR, hE⟩ := hE
 unfold xjh
 simp only
 by_cases h : j < S.length
 case neg => exact Yes.no (VL h) (hκ W B P N sf st r (by omega) ⟨A, held, live, hR, hE⟩)
 refine Yes.yes (qN h) (Yes.yes (vg h) (Yes.yes (by rw [Nat.beq_refl, yS h]; rfl) ?_))
 obtain ⟨Z, hZ1, hZ2, eZ⟩ := ask70 hS h
 have ej : i64.wrap ((j : Int) + 1) = ((j + 1 : Nat) : Int) := wA (by omega)
 rw [ej]
 have hbe : A.b = B := hR.bytes.symm
 refine Yes.vR (XJ hf.toFew hR (by rw [hbe]; omega)) hR (show Rn n 1 (wI (xg n 1) _) A _ from by rw [eZ]; exact xdF hf (s := (Z : Int)) (me := 0) (by omega) hE.self hE.heap hE.st) (fun x A' hx => by obtain ⟨_, _, _, h⟩ := hx; exact ⟨_, h.fr.told⟩) fun x r' A' s' hx ht' hR' => ?_
 obtain ⟨hb', held', live', Q⟩ := hx
 have hbs : s'.m.bytes = A'.b := hR'.bytes
 have hself' : s'.self = 0 := by rw [hR'.self, Q.fr.self]; exact hE.self
 have hsf : sf = 0 := by have := hR.self; simp only at this; rw [this]; exact hE.self
 have hW' : s'.m.words.length <= 1000000 := by have h1 := hR'.len; have := Yw hf.n2 hf.t2; omega
 simp only
 rcases hE.asked hf hZ1 hb' Q with ⟨he, hE'⟩ | ⟨he, g, hat, hfit, hE'⟩
 ·refine Yes.no (by simpa using he) ?_
  exact ih (S.length - (j + 1)) _ (by omega) ⟨j + 1, s'.m.words, s'.m.bytes, P, N, s'.self, s'.steps, r', rfl, by omega, by omega, rfl, A', held', live', ⟨hR'.len, hR'.row, hR'.bytes, hR'.self, hR'.steps, ht'.symm⟩, hE'⟩
 ·refine Yes.yes (by rw [he]; rfl) (Yes.yes (by rw [Nat.beq_refl, Nat.ble_eq_true_of_le (by omega)]; rfl) (Yes.yes (vg h) (Yes.yes (by rw [Nat.beq_refl, yS h]; rfl) (Yes.yes (by rw [Nat.beq_refl, Nat.ble_eq_true_of_le (by omega)]; rfl) ?_))))
  rw [hat, eZ, hR'.steps]
  refine xpA (n := n) hn60 hW' (by rw [hbs, hb', hE.len]) (by rw [hbs, hb']; exact hE.y) (p := 8 * g) (N := Z) hfit h eZ fun B' m hB' hy' => ?_
  have e1 : P.length + 1 = (P ++ [((8 * g : Nat) : Int)]).length := by simp
  have e2 : N.length + 1 = (N ++ [(Z : Int)]).length := by simp
  rw [e1, e2]
  exact ih (S.length - (j + 1)) _ (by omega) ⟨j + 1, s'.m.words, B', P ++ [((8 * g : Nat) : Int)], N ++ [(Z : Int)], s'.self, IntKind.wrap .i64 (m : Int), r', rfl, by omega, by rw [<- e1]; omega, rfl, { A' with b := B', steps := m }, held', live', ⟨hR'.len, hR'.row, rfl, hR'.self, rfl, ht'.symm⟩, hE'.bytes hy' hB'⟩
theorem er3_yes {n : Nat} (hf : Small n 1) {A A' : AS} {s s' : DS} (hR : Rep n 1 A s) (hR' : Rep n 1 A' s') (hw : ∀ i, A'.w 11 i = A.w 11 i) (hW : 0 < s.m.words.length /\ s.m.words.length <= 1000000) (hW' : s'.m.words.length <= 1000000) (hB : 0 < s.m.bytes.length /\ s.m.bytes.length <= 1000000) (hB' : s'.m.bytes.length <= 1000000) {n0 n2 n3 n5 n6 n10 n12 : Nat} {z1 : yd} {b4 : Bool} {l11 l13 l34 l35 : xh} {a7 a8 a21 a22 a23 a24 a25 a26 a27 a28 a29 a30 a31 a32 a33 : Int} {κ0 κ1 : Unit -> T Bool} (hκ : Yes (κ1 ())) :
  Yes (Xd n0 z1 n2 n3 b4 n5 n6 a7 a8 n10 l11 n12 l13 (xg n 1) s'.m.words.length s'.m.words.length s'.m.bytes.length s'.m.bytes.length s'.m.words s'.m.bytes a21 a22 a23 a24 a25 a26 a27 a28 a29 a30 a31 a32 a33 l34 l35 s.m.words.length s.m.bytes.length s.m.words s.m.bytes 0 κ0 κ1) := by
 have hn := hf.n2
 have e8 : i64.wrap (8 * (xg n 1).pages) = ((n * 8 : Nat) : Int) := by
  show i64.wrap (8 * ((n : Nat) : Int)) = _
  rw [show 8 * ((n : Nat) : Int) = ((n * 8 : Nat) : Int) by omega, wN _ (by omega)]
 unfold Xd
 refine vk Yes (fun k i => ∃ j : Nat, i = (j : Int) /\ j <= n * 8 /\ k = n * 8 - j) ?_ xd (n * 8) _ (by unfold xd; omega) ⟨0, rfl, by omega, by omega⟩
 rintro k i κ ⟨j, rfl, hj, rfl⟩ ih
 unfold xjj
 rw [e8]
 by_cases h : j < n * 8
 ·have next := ih (n * 8 - (j + 1)) ((j + 1 : Nat) : Int) (by omega) ⟨j + 1, rfl, by omega, rfl⟩
  refine Yes.yes (qN h) (Yes.guard (okE1 ⟨rfl, rfl, rfl, rfl, hW', hB'⟩) (Yes.guard (okE1 ⟨rfl, rfl, hW.1, hB.1, hW.2, hB.2⟩) ?_))
  rw [kH hf hR' (by omega) (show j < Zr n 1 11 from h), kH hf hR (by omega) (show j < Zr n 1 11 from h), hw, wA (by omega)]
  exact Yes.no (by simp) next
 ·exact Yes.no (VL h) hκ
theorem er5_yes {n : Nat} (hn60 : n <= 60) {P N W W' B : List Int} (hW : 0 < W.length /\ W.length <= 1000000) (hW' : W'.length <= 1000000) (hB : B.length = 64 * n) (hy : Bys B) {x g Z : Nat} (hx : x < P.length) (hNl : N.length = P.length) (hp : getI P x = ((8 * g : Nat) : Int)) (hz : getI N x = (Z : Int)) (hfit : 8 * g + Z <= 64 * n) {n0 n2 n3 n11 n13 : Nat} {z1 : yd} {b4 : Bool} {l12 l14 : xh} {g15 : Geo} {a7 a8 a22 a23 a24 a25 a26 a27 a28 a29 a30 a31 a32 a33 a34 : Int} {κ0 κ1 : Unit -> T Bool} (hκ : Yes (κ1 ())) :
  Yes (WF n0 z1 n2 n3 b4 P.length N.length a7 a8 (x : Int) n11 l12 n13 l14 g15 W'.length W'.length B.length B.length W' B a22 a23 a24 a25 a26 a27 a28 a29 a30 a31 a32 a33 a34 P N W.length B.length W B 0 κ0 κ1) := by
 have hxN : x < N.length := by omega
 unfold WF
 refine vk Yes (fun k i => ∃ j : Nat, i = (j : Int) /\ j <= Z /\ k = Z - j) ?_ xd Z _ (by unfold xd; omega) ⟨0, rfl, by omega, by omega⟩
 rintro k i κ ⟨j, rfl, hj, rfl⟩ ih
 unfold xjk
 refine Yes.yes (vg hxN) (Yes.yes (yS hxN) ?_)
 rw [show getI N (Int.toNat (x : Int)) = (Z : Int) from hz, show getI P (Int.toNat (x : Int)) = ((8 * g : Nat) : Int) from hp]
 by_cases h : j < Z
 ·have next := ih (Z - (j + 1)) ((j + 1 : Nat) : Int) (by omega) ⟨j + 1, rfl, by omega, rfl⟩
  have ea : i64.wrap (((8 * g : Nat) : Int) + (j : Int)) = ((8 * g + j : Nat) : Int) := by
   rw [show ((8 * g : Nat) : Int) + (j : Int) = ((8 * g + j : Nat) : Int) by omega, wN _ (by omega)]
  have hv : 0 <= Option.getD (atI B ((8 * g + j : Nat) : Int)) 0 /\ Option.getD (atI B ((8 * g + j : Nat) : Int)) 0 <= 255 := by
   show 0 <= (B[8 * g + j]?).getD 0 /\ (B[8 * g + j]?).getD 0 <= 255
   rw [<- List.getD_eq_getElem?_getD]; exact hy.getD _
  rw [ea, wA (by omega)]
  refine Yes.yes (qN h) (Yes.yes (vg hx) (Yes.yes (yS hx) (Yes.guard (okE ⟨rfl, rfl, rfl, rfl, hW', by omega⟩ hv) (Yes.yes (vg hx) (Yes.yes (yS hx) (Yes.guard (okE ⟨rfl, rfl, hW.1, by omega, hW.2, by omega⟩ hv) (Yes.no (by simp) next)))))))
 ·exact Yes.no (VL h) hκ
theorem er4_yes {n : Nat} (hn60 : n <= 60) {P N W W' B : List Int} (hP12 : P.length <= 12) (hW : 0 < W.length /\ W.length <= 1000000) (hW' : W'.length <= 1000000) (hB : B.length = 64 * n) (hy : Bys B) (hNl : N.length = P.length) (hr : ∀ x, x < P.length -> ∃ (g z : Nat), getI P x = ((8 * g : Nat) : Int) /\ getI N x = (z : Int) /\ 8 * g + z <= 64 * n) {n0 n2 n3 n10 n12 : Nat} {z1 : yd} {b4 : Bool} {l11 l13 : xh} {g14 : Geo} {a8 a21 a22 a23 a24 a25 a26 a27 a28 a29 a30 a31 a32 a33 : Int} {κ0 κ1 : Unit -> T Bool} (hκ : Yes (κ1 ())) :
  Yes (Xf n0 z1 n2 n3 b4 P.length N.length (P.length : Int) a8 n10 l11 n12 l13 g14 W'.length W'.length B.length B.length W' B a21 a22 a23 a24 a25 a26 a27 a28 a29 a30 a31 a32 a33 P N W.length B.length W B 0 κ0 κ1) := by
 unfold Xf
 refine vk Yes (fun k i => ∃ j : Nat, i = (j : Int) /\ j <= P.length /\ k = P.length - j) ?_ xd P.length _ (by unfold xd; omega) ⟨0, rfl, by omega, by omega⟩
 rintro k i κ ⟨j, rfl, hj, rfl⟩ ih
 unfold xjl
 by_cases h : j < P.length
 ·have next := ih (P.length - (j + 1)) ((j + 1 : Nat) : Int) (by omega) ⟨j + 1, rfl, by omega, rfl⟩
  obtain ⟨g, z, h1, h2, h3⟩ := hr j h
  rw [wA (by omega)]
  exact Yes.yes (qN h) (er5_yes hn60 hW hW' hB hy h hNl h1 h2 h3 next)
 ·exact Yes.no (VL h) hκ
end Go.Proofs.YtaegelbaghaooaaGreat
