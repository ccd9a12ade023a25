/- RenewKeeps: its tree ends in true; its contract. -/
import Derived.Test.YtaegelbaghaooaaGreatRpPKeep
import Derived.Test.YtaegelbaghaooaaGreatRpM9
set_option linter.unusedSimpArgs false
set_option linter.unusedVariables false
set_option linter.unusedSectionVars false
namespace Go.Proofs.YtaegelbaghaooaaGreat
open Go Go.RowKit Lx
set_option maxRecDepth 100000
theorem kp_yes {pages size : Int} (h0 : 0 ≤ pages) (h1 : pages ≤ 255) (hs0 : 0 ≤ size) (hs1 : size ≤ 255) {M : List Int} (hM : ∀ y ∈ M, 0 ≤ y ∧ y ≤ 255) {S : List Int} (hS : ∀ y ∈ S, 0 ≤ y ∧ y ≤ 255) {o c o2 c2 : Nat} {z z2 : OAddr} : Yes (kpT pages size o z M.length c o M o2 z2 S.length c2 o2 S) := by
 unfold kpT kpTK
 by_cases h12 : S.length > 12
 ·exact Yes.yes (decide_eq_true (by omega)) Yes.ret
 refine Yes.no (decide_eq_false (by omega)) ?_
 obtain ⟨n, hn⟩ : ∃ n : Nat, pages % 5 + 2 = (n : Int) := ⟨(pages % 5 + 2).toNat, by omega⟩
 have hn1 : 2 ≤ n := by omega
 have hn5 : n ≤ 6 := by omega
 have hf : Small n 1 := ⟨⟨by omega, by omega, by omega, by omega⟩, by unfold nodesN; omega⟩
 have e1 : IntKind.i64.wrap (2 + IntKind.i64.wrap (Int.tmod pages 5)) = (n : Int) := by
  rw [Int.tmod_eq_emod_of_nonneg h0, w64 (x := pages % 5) (by omega) (by omega), w64 (by omega) (by omega)]; omega
 obtain ⟨N, hN⟩ : ∃ N : Nat, size % 100 + 1 = (N : Int) := ⟨(size % 100 + 1).toNat, by omega⟩
 have eN : IntKind.i64.wrap (1 + IntKind.i64.wrap (Int.tmod size 100)) = (N : Int) := by
  rw [Int.tmod_eq_emod_of_nonneg hs0, w64 (x := size % 100) (by omega) (by omega), w64 (by omega) (by omega)]; omega
 have hX : Int.toNat (mkGeo n 1).b19 = Br n 1 19 := rfl
 have e2 : IntKind.i64.wrap ((mkGeo n 1).pages * 64) = ((n * 64 : Nat) : Int) := by
  show IntKind.i64.wrap (((n : Nat) : Int) * 64) = _
  rw [show ((n : Nat) : Int) * 64 = ((n * 64 : Nat) : Int) by omega, wN _ (by omega)]
 have hBr := Br_le hf.n2 hf.t2
 have hg19 : (mkGeo n 1).b19 = ((Br n 1 19 : Nat) : Int) := rfl
 have hguard : decide (0 ≤ (mkGeo n 1).b19 ∧ (mkGeo n 1).b19 ≤ 1000000 ∧ 0 ≤ IntKind.i64.wrap ((mkGeo n 1).pages * 64) ∧ IntKind.i64.wrap ((mkGeo n 1).pages * 64) ≤ 1000000) = true := by
  rw [decide_eq_true_eq, e2, hg19]; omega
 have hY : Int.toNat (IntKind.i64.wrap ((mkGeo n 1).pages * 64)) = n * 64 := by rw [e2]; rfl
 have hR0 : Rep n 1 (zeroW 0 (List.replicate (n * 64) 0) 0) ⟨⟨List.replicate (Int.toNat (mkGeo n 1).b19) 0, List.replicate (Int.toNat (IntKind.i64.wrap ((mkGeo n 1).pages * 64))) 0⟩, 0, 0, none⟩ := by
  rw [hX, hY]; exact rep_zero 0 _
 have hok : okS (Int.toNat (mkGeo n 1).b19) (Int.toNat (mkGeo n 1).b19) (Int.toNat (IntKind.i64.wrap ((mkGeo n 1).pages * 64))) (Int.toNat (IntKind.i64.wrap ((mkGeo n 1).pages * 64))) (List.replicate (Int.toNat (mkGeo n 1).b19) 0) (List.replicate (Int.toNat (IntKind.i64.wrap ((mkGeo n 1).pages * 64))) 0) = true := by
  rw [hX, hY]
  exact decide_eq_true ⟨rfl, rfl, by simp, by simp, by omega, by omega⟩
 obtain ⟨x0, A0, hrun, hfr1, h4, hNN⟩ := run_pinit hf (A := zeroW 0 (List.replicate (n * 64) 0) 0) trivial
 have hE' : Empty n 1 ((A0.port 0).lay 0 n) := empty_pr hf (A0 := zeroW 0 (List.replicate (n * 64) 0) 0) (fun _ _ => rfl) hfr1 h4 hNN (fun _ _ => rfl)
 have hl := lay_fr (A0.port 0) 0 n
 have hb1' : A0.b.length ≤ 1000000 := by rw [hfr1.b]; show (List.replicate (n * 64) (0 : Int)).length ≤ _; simp; omega
 have hbz : ((A0.port 0).lay 0 n).b = List.replicate (n * 64) 0 := by rw [hl.b]; show A0.b = _; rw [hfr1.b]; rfl
 rw [e1]
 refine Yes.run (newT_ret (t := 1) hf.toFew) (Yes.no rfl ?_)
 refine Yes.guard hguard ?_
 refine Yes.vN (Q := fun _ A' => A0 = A') hok hR0 (Rn.of hrun rfl) (fun x A' hx => by rw [← hx, hfr1.told]; rfl) fun x A' s3 hx hR => ?_
 subst hx
 refine Yes.vN (Q := fun _ A' => (A0.port 0).lay 0 n = A') (okS_rep hf.toFew hR hb1') (hR.port 0) (Rn.of (run_rinit hf) rfl) (fun x A' hx => by rw [← hx, hl.told]; rfl) fun x A' s4 hx hR' => ?_
 subst hx
 have hE : Empty n 1 (((A0.port 0).lay 0 n).port 0) := ⟨hE'.pages, hE'.bins, hE'.pool, hE'.nodes, hE'.rest⟩
 obtain ⟨hi0, hs0'⟩ := hE.inv hf
 have hR1 := hR'.port 0
 rw [eN]
 refine Yes.vR (okS_rep hf.toFew hR' (by rw [hbz, List.length_replicate]; omega)) hR1 (run_malloc hf (s := (N : Int)) (me := 0) (by omega) rfl hi0 hs0') (fun x A' hx => by obtain ⟨_, _, _, h⟩ := hx; exact ⟨_, h.fr.told⟩) fun r r' A1 s5 hx ht5 hR5 => ?_
 obtain ⟨hb5, held, live, Q⟩ := hx
 rw [AS.port_b, hbz] at hb5
 rcases Q.res with ⟨_, _, _, hc⟩ | ⟨g, x, hr, hg, hh, hl', h5, h6, h7, h8⟩
 ·exfalso
  rcases hc with ⟨_, hc⟩ | ⟨_, _, ⟨_, hc⟩ | ⟨_, _, hc⟩⟩
  ·omega
  ·exact absurd hc (by decide)
  ·exact room_empty (by omega) (by omega) (by omega) hc
 have hat : r.at_ = ((8 * g : Nat) : Int) := by rw [hr]
 have he : r.e = 0 := by rw [hr]
 have hbig := place_big h5 h8
 have hext := Q.heap.hg.ext (g := g) (x := x) (by rw [hh, upd_self])
 simp only
 refine Yes.no (by rw [he]; rfl) ?_
 rw [hat]
 have hbs : s5.m.bytes = List.replicate (n * 64) 0 := by rw [hR5.bytes, hb5]
 have hW : s5.m.words.length ≤ 1000000 := by have := hR5.len; omega
 have hself : A1.self = ((0 : Nat) : Int) := Q.fr.self
 rw [show s5.self = 0 by rw [hR5.self, hself]; rfl, hR5.steps]
 refine kp0_yes (n := n) (by omega) hM hW (by rw [hbs, List.length_replicate]; omega) (by rw [hbs]; intro y hy; rw [List.eq_of_mem_replicate hy]; omega) (p := 8 * g) (N := N) (by omega) fun B' m hB' hy' hk => ?_
 have hlive : live g = some N := by rw [hl', updS_self, Int.toNat_natCast]
 refine kp1_yes hf (by omega) hM (by omega) hS (W := s5.m.words) (r := r') (g := g) (least := N) (now := N) ⟨hy', hB', Nat.le_refl _, hk, { A1 with b := B', steps := m, self := 0 }, held, live, ⟨hR5.len, hR5.row, rfl, rfl, rfl, ht5.symm⟩, rfl, Q.heap.w fun r i => rfl, Q.states.same fun i => rfl, hlive, fun q w hq => ?_⟩ fun W B sf st r g least now hK => ?_
 ·rw [hl'] at hq
  by_cases hqg : q = g
  ·subst hqg
   rw [updS_self] at hq
   cases hq
   exact ⟨x, by rw [hh, upd_self], by omega⟩
  ·rw [updS_ne _ _ hqg] at hq; cases hq
 ·obtain ⟨A, held, live, hR, hself, hi, hs, hlg, hlh⟩ := hK.heap
  have hbe : A.b = B := hR.bytes.symm
  refine Yes.vR (okS_rep hf.toFew hR (by rw [hbe, hK.len]; omega)) hR (run_afree hf (a := ((8 * g : Nat) : Int)) (me := 0) (by omega) hself hi hs fun q w hq => by obtain ⟨x, hx, _⟩ := hlh q w hq; exact ⟨x, hx⟩) (fun x A' hx => ⟨x, hx.2.1.told⟩) fun f f' A3 s3 hx ht3 hR3 => ?_
  obtain ⟨hb3, hft3, _, hres3⟩ := hx
  rcases hres3 with ⟨_, _, _, hno⟩ | ⟨g', z', hag, hlz', hrf, _, _, hi3, hs3⟩
  ·exact absurd rfl (hno g now hlg)
  ·exact Yes.yes (by rw [hrf]; rfl) Yes.ret
theorem renewKeeps_any {pages size : Int} (h0 : 0 ≤ pages) (h1 : pages ≤ 255) (hs0 : 0 ≤ size) (hs1 : size ≤ 255) {k off : Nat} {z : Option Addr} {n c : Nat} {M : List Int} (hn : M.length = n) (hwf : ∀ y ∈ M, (Lit.int .u8 y).wf = true) {k2 off2 : Nat} {z2 : Option Addr} {n2 c2 : Nat} {S : List Int} (hn2 : S.length = n2) (hwf2 : ∀ y ∈ S, (Lit.int .u8 y).wf = true) (w : World)
  (hw : WinAt w k ⟨[], 5, false, some (.wcol off .u8 M)⟩) (hw2 : WinAt w k2 ⟨[], 5, false, some (.wcol off2 .u8 S)⟩) :
  Calls Tryz.prog 9 #[.int .u8 pages, .int .u8 size, winV k off z n c, winV k2 off2 z2 n2 c2] w fun e w' => e = .returned (.bool true) ∧ Below w.heap.size w w' := by
 subst hn hn2
 refine calls_win (s_m_kpT s_kk0) (args := [.c (.int .u8 pages), .c (.int .u8 size), .c (.slw 0 off z M.length c), .c (.slw 1 off2 z2 S.length c2)]) [(k, ⟨[], 5, false, some (.wcol off .u8 M)⟩), (k2, ⟨[], 5, false, some (.wcol off2 .u8 S)⟩)] rfl (fun p hp => ?_) rfl (kp_yes h0 h1 hs0 hs1 (fun y hy => bounds_u8 (hwf y hy)) (fun y hy => bounds_u8 (hwf2 y hy))) rfl
 simp only [List.mem_cons, List.not_mem_nil, or_false] at hp
 rcases hp with rfl | rfl
 ·exact hw
 ·exact hw2
end Go.Proofs.YtaegelbaghaooaaGreat
