/- Part. -/
import Derived.Test.YtaegelbaghaooaaGreatCrPSer
import Derived.Test.YtaegelbaghaooaaGreatCrPBegun
import Derived.Test.YtaegelbaghaooaaGreatCrPTrod
import Derived.Test.YtaegelbaghaooaaGreatCrQRu
set_option linter.all false
open Go.IntKind (i64 u64 u32 u8)
namespace Go.Proofs.YtaegelbaghaooaaGreat
open Go Go.RowKit Go.ChangeShapes Lx
set_option maxRecDepth 100000
section
variable {n t : Nat} (hf : Small n t) (hn60 : n <= 60) {A : AS} {held : Nat -> Option HK} {live : Nat -> Option Nat}
include hf hn60
theorem xr1 {me : Int} {c : Cal} {r : Res} {A' : AS} {held' : Nat -> Option HK} {live' : Nat -> Option Nat} {was : Int} (hC : Called n t (A.port me) held live c r A' held' live' was) (hop : c.op = 4 \/ c.op = 5 \/ c.op = 6 \/ c.op = 7 \/ c.op = 8) (hs : c.size = 8) (hno : ∀ g z, live g = some z -> c.at_ ≠ ((8 * g : Nat) : Int)) :
  r.e = 13 /\ r.at_ = 0 /\ r.n = 0 /\ r.byte = 0 /\ held' = held /\ live' = live /\ A'.b = A.b /\ ∀ i, A'.w 2 i = A.w 2 i := by
 have hn1 := hf.n1
 have fin : r.e = 13 /\ r.at_ = 0 /\ r.n = 0 /\ r.byte = 0 /\ held' = held /\ live' = live /\ A'.b = (A.port me).b := by
  have hd := hC.did
  generalize (A.port me).b = b0 at hd |-
  generalize (A.port me).w 2 = f0 at hd
  generalize A'.b = b1 at hd |-
  clear hC
  cases hd with
  | ask r held' live' b' h1 hA hb =>
   exfalso
   clear hA hb
   omega
  | renew r was held' live' b' h1 hR =>
   generalize hx : (r, was) = x at hR
   cases hR with
   | size l h1 => omega
   | bad l h1 h2 h3 =>
    simp only [Prod.mk.injEq] at hx
    rw [hx.1]
    exact ⟨rfl, rfl, rfl, rfl, rfl, rfl, rfl⟩
   | stay l g' z' x' h1 h2 h3 h4 h5 h6 => exact absurd h3 (hno _ _ h4)
   | none l g' z' x' h1 h2 h3 h4 h5 h6 h7 => exact absurd h3 (hno _ _ h4)
   | go l g1 z1 x1 g2 y h1 h2 h3 h4 h5 h6 h7 h8 h9 => exact absurd h3 (hno _ _ h4)
  | free l g' z' h1 h2 h3 => exact absurd h2 (hno _ _ h3)
  | bad l h1 h2 => exact ⟨rfl, rfl, rfl, rfl, rfl, rfl, rfl⟩
  | use l g' z' x h1 h2 h3 h4 => exact absurd h2 (hno _ _ h3)
  | out l g' z' h1 h2 h3 h4 => exact absurd h2 (hno _ _ h3)
  | write l m g' z' k h1 h2 h3 h4 h5 => exact absurd h2 (hno _ _ h3)
  | read l m g' z' k y h1 h2 h3 h4 h5 h6 => exact absurd h2 (hno _ _ h3)
  | tidy l h1 => omega
  | stats l h1 => omega
  | other l h1 => omega
 obtain ⟨h1, h2, h3, h4, h5, h6, h7⟩ := fin
 refine ⟨h1, h2, h3, h4, h5, h6, h7, fun i => ?_⟩
 rw [hC.cnt]
 unfold cntD xeG
 by_cases k1 : c.op = 1 \/ c.op = 2 \/ c.op = 3
 ·omega
 ·rw [if_neg k1]
  by_cases k4 : c.op = 4
  ·rw [if_pos k4, if_neg (by omega), if_neg (by omega)]; rfl
  ·rw [if_neg k4]
   by_cases k5 : c.op = 5
   ·rw [if_pos k5, if_neg (by omega)]; rfl
   ·rw [if_neg k5]; rfl
theorem xf2 {c : Cal} (hc : CalOk c) (hop : c.op = 4 \/ c.op = 5 \/ c.op = 6 \/ c.op = 7 \/ c.op = 8) (hs : c.size = 8) (hno : ∀ g z, live g = some z -> c.at_ ≠ ((8 * g : Nat) : Int)) (ht : 1 < t) {W B : List Int} (hM : MemH n t A held live W B) : ∃ (r : Res) (s' : DS) (A' : AS),
  vR (okS W.length W.length B.length B.length W B) (doT (xb n t) c) (DS.mk (Mem.mk W B) 1 0 none) = .ret (r, r, s') /\ (r.e != 13) = false /\ (r.at_ != 0) = false /\ (r.n != 0) = false /\ (r.byte != 0) = false /\ MemH n t A' held live s'.m.words s'.m.bytes /\ A'.b = A.b /\ ∀ i, A'.w 2 i = A.w 2 i := by
 obtain ⟨r, s', A', held', live', was, hv, hC, hM', _⟩ := xdj hf hn60 (me := 1) ht hc hM
 obtain ⟨e, a, m, y, rfl, rfl, b, w⟩ := xr1 hf hn60 hC hop hs hno
 exact ⟨r, s', A', hv, by rw [e]; rfl, by rw [a]; rfl, by rw [m]; rfl, by rw [y]; rfl, hM', b, w⟩
theorem ru0_yes {H : RowsL} (hH : H.length <= 1000) {a0 a1 a2 a4 : Int} {b3 : Bool} {n7 n10 n11 n12 n13 : Nat} {q8 : RowsL} {l14 l15 : IntsL} {κ0 κ1 : Unit -> T Bool} (h0 : Yes (κ0 ())) (h1 : (∀ row ∈ H, ¬ (getI row 21 = 0 /\ getI row 13 = a0 /\ getI row 1 <= 4)) -> Yes (κ1 ())) :
  Yes (Xc a0 a1 a2 b3 a4 H.length n7 q8 (xb n t) n10 n11 n12 n13 l14 l15 H 0 κ0 κ1) := by
 unfold Xc
 refine VQ Yes (fun k i => ∃ j : Nat, i = (j : Int) /\ j <= H.length /\ k = H.length - j /\ ∀ q, q < j -> ¬ (getI (getR H q) 21 = 0 /\ getI (getR H q) 13 = a0 /\ getI (getR H q) 1 <= 4)) ?_ xa H.length _ (by unfold xa; omega) ⟨0, rfl, by omega, by omega, fun q hq => by omega⟩
 rintro k i κ ⟨j, rfl, hj, rfl, hq⟩ ih
 unfold xr7
 by_cases h : j < H.length
 case neg =>
  refine Yes.no (decide_eq_false (by omega)) (h1 fun row hr => ?_)
  obtain ⟨q, hql, rfl⟩ := List.getElem_of_mem hr
  have := hq q (by omega)
  rw [xsA hql] at this
  exact this
 have ej : i64.wrap ((j : Int) + 1) = ((j + 1 : Nat) : Int) := xqp (by omega)
 rw [ej]
 have next : ¬ (getI (getR H j) 21 = 0 /\ getI (getR H j) 13 = a0 /\ getI (getR H j) 1 <= 4) -> Yes (κ ((j + 1 : Nat) : Int)) := fun hno => ih (H.length - (j + 1)) _ (by omega) ⟨j + 1, rfl, by omega, rfl, fun q hqj => by
  by_cases hqe : q = j
  ·subst hqe; exact hno
  ·exact hq q (by omega)⟩
 rw [show Int.toNat (j : Int) = j from rfl]
 refine Yes.yes (decide_eq_true (by omega)) (Yes.yes (xeF h) (Yes.yes (VR h) ?_))
 by_cases e0 : getI (getR H j) 21 = 0
 ·refine Yes.yes (by simpa using e0) (Yes.yes (xeF h) (Yes.yes (VR h) ?_))
  by_cases e1 : getI (getR H j) 13 = a0
  ·refine Yes.yes (by simpa using e1) (Yes.yes (xeF h) (Yes.yes (VR h) ?_))
   by_cases e2 : getI (getR H j) 1 <= 4
   ·exact Yes.yes (decide_eq_true e2) h0
   ·exact Yes.no (decide_eq_false e2) (next fun hh => e2 hh.2.2)
  ·exact Yes.no (by simpa using e1) (next fun hh => e1 hh.2.1)
 ·exact Yes.no (by simpa using e0) (next fun hh => e0 hh.1)
theorem ru1_yes {W W' B : List Int} (hB : Bys B) (hBl : B.length = 64 * n) (hW : 0 < W.length /\ W.length <= 1000000) (hW' : 0 < W'.length /\ W'.length <= 1000000) {b0 : Bool} {n3 : Nat} {q4 : RowsL} {a12 a13 a14 a15 a16 : Int} {κ0 κ1 : Unit -> T Bool} (h1 : Yes (κ1 ())) :
  Yes (Xd b0 (n : Int) n3 q4 (xb n t) W.length W.length B.length B.length W B a12 a13 a14 a15 a16 W'.length B.length W' B 0 κ0 κ1) := by
 have hn1 := hf.n1
 have e64 : i64.wrap (64 * (n : Int)) = ((64 * n : Nat) : Int) := by rw [show 64 * (n : Int) = ((64 * n : Nat) : Int) by omega, wN _ (by omega)]
 unfold Xd
 refine VQ Yes (fun k i => ∃ j : Nat, i = (j : Int) /\ j <= 64 * n /\ k = 64 * n - j) ?_ xa (64 * n) _ (by unfold xa; omega) ⟨0, rfl, by omega, by omega⟩
 rintro k i κ ⟨j, rfl, hj, rfl⟩ ih
 unfold xr8
 rw [e64]
 by_cases h : j < 64 * n
 case neg => exact Yes.no (decide_eq_false (by omega)) h1
 have ej : i64.wrap ((j : Int) + 1) = ((j + 1 : Nat) : Int) := xqp (by omega)
 rw [ej]
 have hget : atI B (j : Int) = some B[j] := List.getElem?_eq_getElem (by omega)
 have hby := hB _ (List.getElem_mem (l := B) (n := j) (by omega))
 refine Yes.yes (decide_eq_true (by omega)) (Yes.guard ?_ (Yes.guard ?_ (Yes.no ?_ (ih (64 * n - (j + 1)) _ (by omega) ⟨j + 1, rfl, by omega, rfl⟩))))
 ·rw [hget, Bool.and_eq_true]
  exact ⟨decide_eq_true ⟨rfl, rfl, rfl, rfl, hW.2, by omega⟩, decide_eq_true hby⟩
 ·rw [hget, Bool.and_eq_true]
  exact ⟨decide_eq_true ⟨rfl, rfl, hW'.1, by omega, hW'.2, by omega⟩, decide_eq_true hby⟩
 ·simp
theorem MemH.few {W B : List Int} (hM : MemH n t A held live W B) : (0 < W.length /\ W.length <= 1000000) /\ B = A.b /\ B.length = 64 * n /\ Bys B := by
 have hBr := xoo hf.n2 hf.t2
 have hb : B = A.b := hM.rep.bytes
 have hl := hM.rep.len
 simp only at hl
 have h1 : Br n t 1 = Br n t 0 + Zr n t 0 := rfl
 have h2 := wA n t (show 1 <= 19 by omega)
 have h3 : Zr n t 0 = 1 := rfl
 exact ⟨by omega, hb, by rw [hb]; exact hM.hp.len, by rw [hb]; exact hM.hp.bys⟩
end
theorem ru_yes {pages : Int} (h0 : 0 <= pages) (h1 : pages <= 255) {Q : RowsL} (hQ : ∀ r ∈ Q, TurnOk r) {o c : Nat} {z : ZS} {at_ off by_ : Int} (hby : 0 <= by_ /\ by_ <= 255) : Yes (ruT pages o z Q.length c o Q at_ off by_) := by
 unfold ruT ruTK
 by_cases h20 : Q.length > 20
 ·exact Yes.yes (decide_eq_true (by omega)) Yes.ret
 refine Yes.no (decide_eq_false (by omega)) ?_
 obtain ⟨n, hn⟩ : ∃ n : Nat, pages % 8 + 1 = (n : Int) := ⟨(pages % 8 + 1).toNat, by omega⟩
 have hn1 : 1 <= n := by omega
 have hn5 : n <= 8 := by omega
 have hn60 : n <= 60 := by omega
 have hf : Small n 2 := ⟨⟨hn1, by omega, by omega, by omega⟩, by unfold nodesN; omega⟩
 have e1 : i64.wrap (i64.wrap (Int.tmod pages 8) + 1) = (n : Int) := by
  rw [Int.tmod_eq_emod_of_nonneg h0, w64 (x := pages % 8) (by omega) (by omega), w64 (by omega) (by omega)]; omega
 rw [e1]
 obtain ⟨u3, s3, u4, s4, A0, g3, g4, hM0, hz⟩ := xxc hf
 refine Yes.run (xxg (t := 2) hf.toFew) (Yes.guard (xoL hf) (Yes.run g3 (Yes.run g4 ?_)))
 obtain ⟨R, hs, W, B, A, held, live, H, st, rfl, hHl, hst, hM, hS⟩ := ser_eq hf hn60 hM0 hQ (by omega) (o := o) (c := c) (z := z)
 refine Yes.run hs ?_
 refine ru0_yes hf hn60 (by omega) Yes.ret fun hno => ?_
 have hno' : ∀ g z, live g = some z -> at_ ≠ ((8 * g : Nat) : Int) := fun g z hg hh => by
  obtain ⟨row, hr, k1, k2, k3⟩ := hS.lives g z hg
  exact hno row hr ⟨k1, by rw [k2, hh], k3⟩
 have ok11 : CalOk ⟨11, 0, 0, 0, 0, 0, 0⟩ := ⟨by show (0 : Int) < _; omega, by show (0 : Int) < _; omega, by show (0 : Int) < _; omega, by show (0 : Int) <= 0 /\ (0 : Int) <= 255; omega⟩
 have okc : ∀ op : Int, CalOk ⟨op, 8, 0, 0, at_, off, by_⟩ := fun op => ⟨by show (8 : Int) < _; omega, by show (0 : Int) < _; omega, by show (0 : Int) < _; omega, hby⟩
 obtain ⟨r1, s1, A1, held1, live1, was1, v1, C1, M1, _⟩ := xdj hf hn60 (me := 0) (by omega) ok11 hM
 obtain ⟨c1, c2, c3, c4, c5, rfl, rfl, b1, w1⟩ := xoM hf hn60 C1 rfl
 refine Yes.run v1 ?_
 obtain ⟨f1, f2, f3, f4⟩ := M1.few hf hn60
 refine Yes.guard (decide_eq_true ⟨rfl, rfl, f1⟩) (Yes.guard (decide_eq_true ⟨rfl, rfl, by show 0 < s1.m.bytes.length; omega, by show s1.m.bytes.length <= _; omega⟩) ?_)
 obtain ⟨r2, s2, A2, v2, e2, a2, n2, y2, M2, b2, w2⟩ := xf2 hf hn60 (okc 5) (.inr (.inl rfl)) rfl hno' (by omega) M1
 refine Yes.run v2 (Yes.no e2 (Yes.no a2 (Yes.no n2 (Yes.no y2 ?_))))
 obtain ⟨r3, s3', A3, v3, e3, a3, n3, y3, M3, b3, w3⟩ := xf2 hf hn60 (okc 6) (.inr (.inr (.inl rfl))) rfl hno' (by omega) M2
 refine Yes.run v3 (Yes.no e3 (Yes.no a3 (Yes.no n3 (Yes.no y3 ?_))))
 obtain ⟨r4, s4', A4, v4, e4, a4, n4, y4, M4, b4, w4⟩ := xf2 hf hn60 (okc 7) (.inr (.inr (.inr (.inl rfl)))) rfl hno' (by omega) M3
 refine Yes.run v4 (Yes.no e4 (Yes.no a4 (Yes.no n4 (Yes.no y4 ?_))))
 obtain ⟨r5, s5, A5, v5, e5, a5, n5, y5, M5, b5, w5⟩ := xf2 hf hn60 (okc 8) (.inr (.inr (.inr (.inr rfl)))) rfl hno' (by omega) M4
 refine Yes.run v5 (Yes.no e5 (Yes.no a5 (Yes.no n5 (Yes.no y5 ?_))))
 obtain ⟨r6, s6, A6, v6, e6, a6, n6, y6, M6, b6, w6⟩ := xf2 hf hn60 (okc 4) (.inl rfl) rfl hno' (by omega) M5
 refine Yes.run v6 (Yes.no e6 (Yes.no a6 (Yes.no n6 (Yes.no y6 ?_))))
 obtain ⟨i1, i2, i3, i4⟩ := M6.few hf hn60
 have hbb : s1.m.bytes = s6.m.bytes := by rw [f2, i2, b6, b5, b4, b3, b2]
 simp only
 rw [hbb]
 refine ru1_yes hf hn60 i4 i3 i1 f1 ?_
 obtain ⟨r7, s7, A7, held7, live7, was7, v7, C7, M7, _⟩ := xdj hf hn60 (me := 0) (by omega) ok11 M6
 obtain ⟨d1, d2, d3, d4, d5, _, _, _, _⟩ := xoM hf hn60 C7 rfl
 refine Yes.run v7 ?_
 have hw : ∀ i, A6.w 2 i = A.w 2 i := fun i => by rw [w6, w5, w4, w3, w2, w1]; rfl
 refine Yes.yes ?_ Yes.ret
 simp only [d1, d2, d3, d4, d5, c1, c2, c3, c4, c5, AS.port_w, hw, beq_self_eq_true, Bool.and_self]
theorem xcl {pages : Int} (h0 : 0 <= pages) (h1 : pages <= 255) {k off0 : Nat} {z : Option Addr} {n c : Nat} {M : RowsL} (hn : M.length = n) (hM : ∀ r ∈ M, TurnOk r) {at_ off by_ : Int} (hby : 0 <= by_ /\ by_ <= 255) (w : World) (hw : WinAt w k ⟨[], 116, false, some (.wrows off0 shT M)⟩) :
  Calls Tryz.prog 17 #[.int .u8 pages, winV k off0 z n c, .int .i64 at_, .int .i64 off, .int .u8 by_] w fun e w' => e = .returned (.bool true) /\ Below w.heap.size w w' := by
 subst hn
 refine xt3 (s_m_ruT s_kx0) (args := [.c (.int .u8 pages), .c (.slw 0 off0 z M.length c), .c (.int .i64 at_), .c (.int .i64 off), .c (.int .u8 by_)]) [(k, ⟨[], 116, false, some (.wrows off0 shT M)⟩)] rfl (fun p hp => ?_) rfl (ru_yes h0 h1 hM hby) rfl
 rw [List.mem_singleton] at hp
 subst hp
 exact hw
end Go.Proofs.YtaegelbaghaooaaGreat
