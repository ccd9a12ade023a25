/- AllocPlay: its tree ends in true; its contract. -/
import Derived.Test.YtaegelbaghaooaaGreatAyPPlay2
import Derived.Test.YtaegelbaghaooaaGreatAyQWin2
import Derived.Test.YtaegelbaghaooaaGreatAyEvents
set_option linter.unusedSimpArgs false
set_option linter.unusedVariables false
set_option linter.unusedSectionVars false
namespace Go.Proofs.YtaegelbaghaooaaGreat
open Go Go.RowKit Go.ChangeShapes Lx
set_option maxRecDepth 100000
theorem py_yes {pages threads : Int} (h0 : 0 ≤ pages) (h1 : pages ≤ 255) (ht0 : 0 ≤ threads) (ht1 : threads ≤ 255) {Q : RowsL} (hQ : ∀ r ∈ Q, ActOk r) {o c : Nat} {z : ym} : Yes (pyT pages threads o z Q.length c o Q) := by
 unfold pyT pyTK
 by_cases h80 : Q.length > 80
 ·exact Yes.yes (decide_eq_true (by omega)) Yes.ret
 refine Yes.no (decide_eq_false (by omega)) ?_
 obtain ⟨n, hn⟩ : ∃ n : Nat, pages % 5 + 1 = (n : Int) := ⟨(pages % 5 + 1).toNat, by omega⟩
 obtain ⟨t, ht⟩ : ∃ t : Nat, threads % 4 + 1 = (t : Int) := ⟨(threads % 4 + 1).toNat, by omega⟩
 have hn1 : 1 ≤ n := by omega
 have hn5 : n ≤ 5 := by omega
 have hf : Small n t := by
  have : t = 1 ∨ t = 2 ∨ t = 3 ∨ t = 4 := by omega
  rcases this with rfl | rfl | rfl | rfl <;> exact ⟨⟨hn1, by omega, by omega, by omega⟩, by unfold nodesN; omega⟩
 have e1 : IntKind.i64.wrap (1 + IntKind.i64.wrap (Int.tmod pages 5)) = (n : Int) := by
  rw [Int.tmod_eq_emod_of_nonneg h0, w64 (x := pages % 5) (by omega) (by omega), w64 (by omega) (by omega)]; omega
 have e1t : IntKind.i64.wrap (1 + IntKind.i64.wrap (Int.tmod threads 4)) = (t : Int) := by
  rw [Int.tmod_eq_emod_of_nonneg ht0, w64 (x := threads % 4) (by omega) (by omega), w64 (by omega) (by omega)]; omega
 have hX : Int.toNat (xg n t).b19 = Br n t 19 := rfl
 have e2 : IntKind.i64.wrap ((xg n t).pages * 64) = ((n * 64 : Nat) : Int) := by
  show IntKind.i64.wrap (((n : Nat) : Int) * 64) = _
  rw [show ((n : Nat) : Int) * 64 = ((n * 64 : Nat) : Int) by omega, wN _ (by omega)]
 have hBr := Br_le hf.n2 hf.t2
 have hg19 : (xg n t).b19 = ((Br n t 19 : Nat) : Int) := rfl
 have hguard : decide (0 ≤ (xg n t).b19 ∧ (xg n t).b19 ≤ 1000000 ∧ 0 ≤ IntKind.i64.wrap ((xg n t).pages * 64) ∧ IntKind.i64.wrap ((xg n t).pages * 64) ≤ 1000000) = true := by
  rw [decide_eq_true_eq, e2, hg19]; omega
 have hY : Int.toNat (IntKind.i64.wrap ((xg n t).pages * 64)) = n * 64 := by rw [e2]; rfl
 have hR0 : Rep n t (xpu 0 (List.replicate (n * 64) 0) 0) ⟨⟨List.replicate (Int.toNat (xg n t).b19) 0, List.replicate (Int.toNat (IntKind.i64.wrap ((xg n t).pages * 64))) 0⟩, 0, 0, none⟩ := by
  rw [hX, hY]; exact xs8 0 _
 have hok : okS (Int.toNat (xg n t).b19) (Int.toNat (xg n t).b19) (Int.toNat (IntKind.i64.wrap ((xg n t).pages * 64))) (Int.toNat (IntKind.i64.wrap ((xg n t).pages * 64))) (List.replicate (Int.toNat (xg n t).b19) 0) (List.replicate (Int.toNat (IntKind.i64.wrap ((xg n t).pages * 64))) 0) = true := by
  rw [hX, hY]
  exact decide_eq_true ⟨rfl, rfl, by simp, by simp, by omega, by omega⟩
 obtain ⟨x0, A0, hrun, hfr1, h4, hNN⟩ := xq8 hf (A := xpu 0 (List.replicate (n * 64) 0) 0) trivial
 have hE' : Empty n t ((A0.port 0).lay 0 n) := xta hf (A0 := xpu 0 (List.replicate (n * 64) 0) 0) (fun _ _ => rfl) hfr1 h4 hNN (fun _ _ => rfl)
 have hl := xc5 (A0.port 0) 0 n
 have hb1' : A0.b.length ≤ 1000000 := by rw [hfr1.b]; show (List.replicate (n * 64) (0 : Int)).length ≤ _; simp; omega
 have hbz : ((A0.port 0).lay 0 n).b = List.replicate (n * 64) 0 := by rw [hl.b]; show A0.b = _; rw [hfr1.b]; rfl
 rw [e1, e1t]
 refine Yes.run (xti (t := t) hf.toFew) (Yes.no rfl ?_)
 refine Yes.guard hguard ?_
 refine Yes.vN (Q := fun _ A' => A0 = A') hok hR0 (Rn.of hrun rfl) (fun x A' hx => by rw [← hx, hfr1.told]; rfl) fun x A' s3 hx hR => ?_
 subst hx
 refine Yes.vN (Q := fun _ A' => (A0.port 0).lay 0 n = A') (xbP hf.toFew hR hb1') (hR.port 0) (Rn.of (xq6 hf) rfl) (fun x A' hx => by rw [← hx, hl.told]; rfl) fun x A' s4 hx hR' => ?_
 subst hx
 have hE : Empty n t (((A0.port 0).lay 0 n).port 0) := ⟨hE'.pages, hE'.bins, hE'.pool, hE'.nodes, hE'.rest⟩
 obtain ⟨hi0, hs0'⟩ := hE.inv hf
 exact py0_yes hf (by omega) (W := s4.m.words) (B := s4.m.bytes) ⟨by rw [hR'.bytes, hbz, List.length_replicate]; omega, _, _, _, hR'.port 0, hi0, hs0', LV.nil⟩ hQ (by omega) Yes.ret
def shA : List CK := [.int .u8, .int .u8, .int .i64, .int .i64, .int .i64, .int .i64, .bool]
theorem xkB : Tryz.prog.cellsOf 60 = 7 := by kernel_rfl
section
variable {H : Type} {enc : TypeId × Value → H} {w : World} {base : Nat} {spare : Nat → Bool} {held : Bool}
set_option maxRecDepth 100000 in
theorem xnh {n : Nat} {cs : List Value} {x : DataW H × List MemPlace} (h : DataW.trod enc Tryz.prog w base spare held n 60 cs = some x) : ∃ r : List Int, ActOk r ∧ denL NP.pv [] (rowC shA r) = some cs := by
 obtain ⟨xs, n, _, hx, hl, hlen, hf⟩ := DataW.trod_struct Tryz.underlying60 h
 rw [xkB] at hl
 match cs, hl with
 | [c0, c1, c2, c3, c4, c5, c6], _ =>
 have hsz : xs.length = 7 := hlen
 obtain ⟨y0, g0⟩ := fld hf 0 (t := 5) (o := 0) rfl xfz (by omega)
 obtain ⟨y1, g1⟩ := fld hf 1 (t := 5) (o := 1) rfl xfz (by omega)
 obtain ⟨y2, g2⟩ := fld hf 2 (t := 3) (o := 2) rfl qk (by omega)
 obtain ⟨y3, g3⟩ := fld hf 3 (t := 3) (o := 3) rfl qk (by omega)
 obtain ⟨y4, g4⟩ := fld hf 4 (t := 3) (o := 4) rfl qk (by omega)
 obtain ⟨y5, g5⟩ := fld hf 5 (t := 3) (o := 5) rfl qk (by omega)
 obtain ⟨y6, g6⟩ := fld hf 6 (t := 4) (o := 6) rfl xjo (by omega)
 simp only [List.drop_zero, List.drop_succ_cons, List.take_succ_cons, List.take_zero] at g0 g1 g2 g3 g4 g5 g6
 obtain ⟨m0, e0, k0, _⟩ := xoW Tryz.underlying5 g0
 obtain ⟨m1, e1, k1, _⟩ := xoW Tryz.underlying5 g1
 obtain ⟨m2, e2, k2, _⟩ := WL Tryz.underlying3 g2
 obtain ⟨m3, e3, k3, _⟩ := WL Tryz.underlying3 g3
 obtain ⟨m4, e4, k4, _⟩ := WL Tryz.underlying3 g4
 obtain ⟨m5, e5, k5, _⟩ := WL Tryz.underlying3 g5
 obtain ⟨m6, e6, _⟩ := DataW.trod_bool Tryz.underlying4 g6
 simp only [List.cons.injEq, and_true] at e0 e1 e2 e3 e4 e5 e6
 subst e0 e1 e2 e3 e4 e5 e6
 refine ⟨[m0, m1, m2, m3, m4, m5, if m6 then 1 else 0], ⟨k0, k1, k2, k3, k4⟩, ?_⟩
 cases m6 <;> rfl
end
theorem xe3 {pages threads : Int} (h0 : 0 ≤ pages) (h1 : pages ≤ 255) (ht0 : 0 ≤ threads) (ht1 : threads ≤ 255) {k off : Nat} {z : Option Addr} {n c : Nat} {M : RowsL} (hn : M.length = n) (hM : ∀ r ∈ M, ActOk r) (w : World) (hw : WinAt w k ⟨[], 60, false, some (.wrows off shA M)⟩) :
  Calls Tryz.prog 7 #[.int .u8 pages, .int .u8 threads, winV k off z n c] w fun e w' => e = .returned (.bool true) ∧ Below w.heap.size w w' := by
 subst hn
 refine xrX (s_m_pyT s_kp6) (args := [.c (.int .u8 pages), .c (.int .u8 threads), .c (.slw 0 off z M.length c)]) [(k, ⟨[], 60, false, some (.wrows off shA M)⟩)] rfl (fun p hp => ?_) rfl (py_yes h0 h1 ht0 ht1 hM) rfl
 rw [List.mem_singleton] at hp
 subst hp
 exact hw
end Go.Proofs.YtaegelbaghaooaaGreat
