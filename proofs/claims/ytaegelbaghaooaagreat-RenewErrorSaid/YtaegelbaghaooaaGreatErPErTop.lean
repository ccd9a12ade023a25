/- RenewError: its tree ends in true; its contract. -/
import Derived.Test.YtaegelbaghaooaaGreatErPEr2
set_option linter.all false
open Go.IntKind (i64 u64 u32 u8)
namespace Go.Proofs.YtaegelbaghaooaaGreat
open Go Go.RowKit Lx
set_option maxRecDepth 100000
theorem er_yes {pages : Int} (h0 : 0 <= pages) (h1 : pages <= 255) {S : List Int} (hS : ∀ y ∈ S, 0 <= y /\ y <= 255) {M : List Int} (hM : ∀ y ∈ M, 0 <= y /\ y <= 255) {o c o2 c2 : Nat} {z z2 : yd} : Yes (erT pages o z S.length c o S o2 z2 M.length c2 o2 M) := by
 unfold erT erTK
 by_cases h12 : S.length > 12
 ·exact Yes.yes (decide_eq_true (by omega)) Yes.ret
 refine Yes.no (decide_eq_false (by omega)) ?_
 by_cases h13 : M.length > 12
 ·exact Yes.yes (decide_eq_true (by omega)) Yes.ret
 refine Yes.no (decide_eq_false (by omega)) ?_
 obtain ⟨n, hn⟩ : ∃ n : Nat, pages % 4 + 1 = (n : Int) := ⟨(pages % 4 + 1).toNat, by omega⟩
 have hn1 : 1 <= n := by omega
 have hn5 : n <= 4 := by omega
 have hn60 : n <= 60 := by omega
 have hf : Small n 1 := ⟨⟨by omega, by omega, by omega, by omega⟩, by unfold nodesN; omega⟩
 have e1 : i64.wrap (1 + i64.wrap (Int.tmod pages 4)) = (n : Int) := by
  rw [Int.tmod_eq_emod_of_nonneg h0, w64 (x := pages % 4) (by omega) (by omega), w64 (by omega) (by omega)]; omega
 have hX : Int.toNat (xg n 1).b19 = Br n 1 19 := rfl
 have e2 : i64.wrap ((xg n 1).pages * 64) = ((n * 64 : Nat) : Int) := by
  show i64.wrap (((n : Nat) : Int) * 64) = _
  rw [show ((n : Nat) : Int) * 64 = ((n * 64 : Nat) : Int) by omega, wN _ (by omega)]
 have hBr := Yw hf.n2 hf.t2
 have hg19 : (xg n 1).b19 = ((Br n 1 19 : Nat) : Int) := rfl
 have hguard : decide (0 <= (xg n 1).b19 /\ (xg n 1).b19 <= 1000000 /\ 0 <= i64.wrap ((xg n 1).pages * 64) /\ i64.wrap ((xg n 1).pages * 64) <= 1000000) = true := by
  rw [decide_eq_true_eq, e2, hg19]; omega
 have hY : Int.toNat (i64.wrap ((xg n 1).pages * 64)) = n * 64 := by rw [e2]; rfl
 have hR0 : Rep n 1 (xpz 0 (List.replicate (n * 64) 0) 0) ⟨⟨List.replicate (Int.toNat (xg n 1).b19) 0, List.replicate (Int.toNat (i64.wrap ((xg n 1).pages * 64))) 0⟩, 0, 0, none⟩ := by
  rw [hX, hY]; exact xs5 0 _
 have hok : okS (Int.toNat (xg n 1).b19) (Int.toNat (xg n 1).b19) (Int.toNat (i64.wrap ((xg n 1).pages * 64))) (Int.toNat (i64.wrap ((xg n 1).pages * 64))) (List.replicate (Int.toNat (xg n 1).b19) 0) (List.replicate (Int.toNat (i64.wrap ((xg n 1).pages * 64))) 0) = true := by
  rw [hX, hY]
  exact decide_eq_true ⟨rfl, rfl, by simp, by simp, by omega, by omega⟩
 obtain ⟨x0, A0, hrun, hfr1, h4, hNN⟩ := xrd hf (A := xpz 0 (List.replicate (n * 64) 0) 0) trivial
 have hE' : Empty n 1 ((A0.port 0).lay 0 n) := xs7 hf (A0 := xpz 0 (List.replicate (n * 64) 0) 0) (fun _ _ => rfl) hfr1 h4 hNN (fun _ _ => rfl)
 have hl := xdq (A0.port 0) 0 n
 have hb1' : A0.b.length <= 1000000 := by rw [hfr1.b]; show (List.replicate (n * 64) (0 : Int)).length <= _; simp; omega
 have hbz : ((A0.port 0).lay 0 n).b = List.replicate (n * 64) 0 := by rw [hl.b]; show A0.b = _; rw [hfr1.b]; rfl
 rw [e1]
 refine Yes.run (xtb (t := 1) hf.toFew) (Yes.no rfl ?_)
 refine Yes.guard hguard ?_
 refine Yes.vN (Q := fun _ A' => A0 = A') hok hR0 (Rn.of hrun rfl) (fun x A' hx => by rw [<- hx, hfr1.told]; rfl) fun x A' s3 hx hR => ?_
 subst hx
 refine Yes.vN (Q := fun _ A' => (A0.port 0).lay 0 n = A') (XJ hf.toFew hR hb1') (hR.port 0) (Rn.of (xrc hf) rfl) (fun x A' hx => by rw [<- hx, hl.told]; rfl) fun x A' s4 hx hR' => ?_
 subst hx
 have hE : Empty n 1 (((A0.port 0).lay 0 n).port 0) := ⟨hE'.pages, hE'.bins, hE'.pool, hE'.nodes, hE'.rest⟩
 obtain ⟨hi0, hs0'⟩ := hE.inv hf
 have hR1 := hR'.port 0
 have hE0 : EI n 0 [] [] (((A0.port 0).lay 0 n).port 0) (fun _ => none) (fun _ => none) := ⟨rfl, hi0, hs0', AN.nil rfl, by rw [AS.port_b, hbz]; intro y hy; rw [List.eq_of_mem_replicate hy]; omega, by rw [AS.port_b, hbz, List.length_replicate]; omega⟩
 have hok4 : okS s4.m.words.length s4.m.words.length s4.m.bytes.length s4.m.bytes.length s4.m.words s4.m.bytes = true := XJ hf.toFew hR' (by rw [hbz, List.length_replicate]; omega)
 simp only
 by_cases hS0 : 0 < S.length
 ·refine Yes.yes (qN hS0) (Yes.yes (vg hS0) (Yes.yes (by rw [Nat.beq_refl]; exact yS hS0) ?_))
  obtain ⟨Z, hZ1, hZ2, eZ⟩ := ask70 hS hS0
  refine Yes.vR hok4 hR1 (show Rn n 1 (wI (xg n 1) _) _ _ from by rw [show (0 : Int) = ((0 : Nat) : Int) from rfl, eZ]; exact xdF hf (s := (Z : Int)) (me := 0) (by omega) rfl hi0 hs0') (fun x A' hx => by obtain ⟨_, _, _, h⟩ := hx; exact ⟨_, h.fr.told⟩) fun x r' A' s' hx ht' hR' => ?_
  obtain ⟨hb', held', live', Q⟩ := hx
  have hbs : s'.m.bytes = A'.b := hR'.bytes
  have hW' : s'.m.words.length <= 1000000 := by have h1 := hR'.len; omega
  have hRt : Rep n 1 A' ⟨⟨s'.m.words, s'.m.bytes⟩, s'.self, s'.steps, some r'.cells⟩ := ⟨hR'.len, hR'.row, hR'.bytes, hR'.self, hR'.steps, ht'.symm⟩
  simp only
  have fin : ∀ {P N W B : List Int} {sf st : Int} {r : Res}, P.length <= 12 -> ER n 0 P N W B sf st r -> Yes (Ze o2 z2 M.length c2 false P.length N.length (P.length : Int) o S o2 M (xg n 1) 0 W.length W.length B.length B.length W B sf st r.at_ r.n r.byte r.c1 r.c2 r.c3 r.c4 r.c5 r.e r.lin r.touch P N (fun _ _ _ _ _ _ _ _ _ _ _ _ _ _ _ _ _ _ _ _ _ => T.ret false) (fun a1 a2 a3 a4 a5 a6 a7 a8 a9 a10 a11 a12 a13 a14 a15 a16 a17 a18 a19 a20 a21 =>
    Zf false P.length N.length (P.length : Int) o S o2 M (xg n 1) a20 a21 0 a1 a2 a3 a4 a5 a6 a7 a8 a9 a10 a11 a12 a13 a14 a15 a16 a17 a18 a19 (fun _ _ _ _ _ _ _ _ _ _ _ _ _ _ _ _ _ _ _ => T.ret false) (fun b1 b2 b3 b4 b5 b6 b7 b8 b9 b10 b11 b12 b13 b14 b15 b16 b17 b18 b19 =>
    (vR (okS b2 b1 b4 b3 b5 b6) (Zl (xg n 1)) (DS.mk (Mem.mk b5 b6) b7 b8 (some (Res.cells ⟨b9, b10, b11, b12, b13, b14, b15, b16, b17, b18, b19⟩)))).bind fun r18 =>
    bif r18.fst == 0 then ((whoT (xg n 1) (List.length r18.snd.snd.m.1) (List.length r18.snd.snd.m.1) (List.length r18.snd.snd.m.2) (List.length r18.snd.snd.m.2) r18.snd.snd.m.1 r18.snd.snd.m.2).bind fun r20 =>
    bif r20 then (T.ret true) else T.ret false) else T.ret false))) := by
   intro P N W B sf st r hP hE
   refine er2_yes hf hn60 (by omega) hM hP hE fun W B P' N' sf st r hP' hE' => ?_
   rw [show N.length = P'.length by rw [hP']; exact hE.b.2.2, <- hP']
   exact er6_yes hf hn60 (by omega) hE' fun W B sf st r hE => er_end hf hn60 hE
  rcases hE0.asked hf hZ1 hb' Q with ⟨he, hE1⟩ | ⟨he, g, hat, hfit, hE1⟩
  ·refine Yes.no (by simpa using he) ?_
   exact xpB hf hn60 (by omega) hS (P := []) (N := []) (j0 := 1) (by omega) (by simp) ⟨A', held', live', hRt, hE1⟩ fun W B P N sf st r hP hE => fin hP hE
  ·refine Yes.yes (by rw [he]; rfl) (Yes.yes (vg hS0) (Yes.yes (by rw [Nat.beq_refl]; exact yS hS0) ?_))
   rw [hat, hR'.steps]
   rw [show i64.wrap (1 + i64.wrap (Int.tmod (getI S (Int.toNat 0)) 70)) = (Z : Int) from eZ]
   refine xpA (n := n) (x := 0) hn60 hW' (by rw [hbs, hb']; exact hE0.len) (by rw [hbs, hb']; exact hE0.y) (p := 8 * g) (N := Z) hfit hS0 eZ fun B' m hB' hy' => ?_
   refine xpB hf hn60 (by omega) hS (P := [((8 * g : Nat) : Int)]) (N := [(Z : Int)]) (W := s'.m.words) (B := B') (sf := s'.self) (st := IntKind.wrap .i64 (m : Int)) (r := r') (j0 := 1) (by omega) (by simp) ⟨{ A' with b := B', steps := m }, held', live', ⟨hR'.len, hR'.row, rfl, hR'.self, rfl, ht'.symm⟩, hE1.bytes hy' hB'⟩ ?_
   exact fun W B P N sf st r hP hE => fin hP hE
 ·have hS0' : S.length = 0 := by omega
  refine Yes.no (VL hS0) ?_
  have last : Yes ((vN (okS s4.m.words.length s4.m.words.length s4.m.bytes.length s4.m.bytes.length s4.m.words s4.m.bytes) (Zl (xg n 1)) (DS.mk (Mem.mk s4.m.words s4.m.bytes) 0 0 none)).bind fun r9 =>
    bif r9.fst == 0 then ((whoT (xg n 1) (List.length r9.snd.m.1) (List.length r9.snd.m.1) (List.length r9.snd.m.2) (List.length r9.snd.m.2) r9.snd.m.1 r9.snd.m.2).bind fun r11 =>
     bif r11 then (T.ret true) else T.ret false) else T.ret false) := by
   refine Yes.vN hok4 hR1 (xgB hf (me := 0) (by omega) rfl hi0) (fun x A' hx => by rw [hx.2.2.2.told]; rfl) fun x A' s' hx hR' => ?_
   obtain ⟨rfl, hi', hW, hfr⟩ := hx
   simp only
   refine Yes.yes rfl ?_
   refine Yes.run (xgA hf hR' hW (by rw [hR'.bytes, hfr.b, AS.port_b, hbz, List.length_replicate]; omega)) (Yes.yes rfl Yes.ret)
  by_cases hM0 : 0 < M.length
  ·exact Yes.yes (qN hM0) last
  ·exact Yes.no (VL hM0) last
theorem xdI {pages : Int} (h0 : 0 <= pages) (h1 : pages <= 255) {k off : Nat} {z : Option Addr} {n c : Nat} {S : List Int} (hn : S.length = n) (hwf : ∀ y ∈ S, (Lit.int .u8 y).wf = true) {k2 off2 : Nat} {z2 : Option Addr} {n2 c2 : Nat} {M : List Int} (hn2 : M.length = n2) (hwf2 : ∀ y ∈ M, (Lit.int .u8 y).wf = true) (w : World)
  (hw : WinAt w k ⟨[], 5, false, some (.wcol off .u8 S)⟩) (hw2 : WinAt w k2 ⟨[], 5, false, some (.wcol off2 .u8 M)⟩) :
  Calls Tryz.prog 11 #[.int .u8 pages, winV k off z n c, winV k2 off2 z2 n2 c2] w fun e w' => e = .returned (.bool true) /\ Below w.heap.size w w' := by
 subst hn hn2
 refine xrT (s_m_erT s_kc1m) (args := [.c (.int .u8 pages), .c (.slw 0 off z S.length c), .c (.slw 1 off2 z2 M.length c2)]) [(k, ⟨[], 5, false, some (.wcol off .u8 S)⟩), (k2, ⟨[], 5, false, some (.wcol off2 .u8 M)⟩)] rfl (fun p hp => ?_) rfl (er_yes h0 h1 (fun y hy => bounds_u8 (hwf y hy)) (fun y hy => bounds_u8 (hwf2 y hy))) rfl
 simp only [List.mem_cons, List.not_mem_nil, or_false] at hp
 rcases hp with rfl | rfl
 ·exact hw
 ·exact hw2
end Go.Proofs.YtaegelbaghaooaaGreat
