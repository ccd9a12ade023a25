/- AllocZeros: its tree ends in true; its contract. -/
import Derived.Test.YtaegelbaghaooaaGreatAzPZer
set_option linter.unusedSimpArgs false
set_option linter.unusedVariables false
set_option linter.unusedSectionVars false
namespace Go.Proofs.YtaegelbaghaooaaGreat
open Go Go.RowKit Lx
set_option maxRecDepth 100000
theorem beq_inR {o m j : Nat} (h : j < m) : (Nat.beq o o && inR m (j : Int)) = true := by
  rw [Nat.beq_refl, inR_yes h]; rfl
theorem ze1_yes {n : Nat} (hn1 : 1 ≤ n) (hn5 : n ≤ 5) {b : Int} (hb0 : 0 ≤ b) (hb1 : b ≤ 255) {M : List Int} (hM : M.length ≤ 20) (hwf : ∀ y ∈ M, 0 ≤ y ∧ y ≤ 255) {W B : List Int} (hZ : ZI n W B []) {o c : Nat} {z : OAddr} {b5 : Bool} {a a' : Int} {κ0 κ1 : Unit → T Bool} (hκ : Yes (κ1 ())) :
    Yes (zeT_1L b o z M.length c b5 o M (mkGeo n 2) 0 0 W.length W.length B.length B.length W B a a' [] κ0 κ1) := by
  have hf : Small n 2 := ⟨⟨hn1, by omega, by omega, by omega⟩, by unfold nodesN; omega⟩
  have hBr := Br_le hf.n2 hf.t2
  unfold zeT_1L
  refine loopB_P Yes (fun k i => ∃ (j : Nat) (W B : List Int) (L : RowsL) (a a' : Int), i = (L.length, (j : Int), W.length, W.length, B.length, B.length, W, B, a, a', L) ∧ j ≤ M.length ∧ k = M.length - j ∧ L.length ≤ j ∧ ZI n W B L) ?_ fuelN M.length _ (by unfold fuelN; omega) ⟨0, W, B, [], a, a', rfl, by omega, by omega, by simp, hZ⟩
  clear hZ a a' W B
  rintro k i κ ⟨j, W, B, L, a, a', rfl, hj, rfl, hL, hZ⟩ ih
  obtain ⟨A, held, live, hR, hi, hs, hLV⟩ := hZ.heap
  have hW : W.length ≤ 1000000 := by have := hR.len; simp only at this; omega
  have hBl := hZ.len
  have hg := hi.hg
  unfold zeT_1B
  simp only
  by_cases h : j < M.length
  case neg => exact Yes.no (lt_no h) hκ
  refine Yes.yes (lt_yes h) ?_
  obtain ⟨v, hv⟩ : ∃ v, M[j] = v := ⟨_, rfl⟩
  obtain ⟨hv0, hv1⟩ := hwf _ (List.getElem_mem h)
  rw [hv] at hv0 hv1
  have hgl : getI M (Int.toNat (j : Int)) = v := by
    show M.getD j 0 = v
    rw [List.getD_eq_getElem?_getD, List.getElem?_eq_getElem h, hv]; rfl
  have et : Int.tmod (j : Int) 2 = ((j % 2 : Nat) : Int) := by rw [Int.tmod_eq_emod_of_nonneg (by omega)]; omega
  have ej : IntKind.wrap IntKind.i64 ((j : Int) + 1) = ((j + 1 : Nat) : Int) := succ64 (by omega)
  have em : IntKind.wrap IntKind.i64 (Int.tmod v 16) = v % 16 := by rw [Int.tmod_eq_emod_of_nonneg (by omega), w64 (by omega) (by omega)]
  have es : IntKind.wrap IntKind.i64 (IntKind.wrap IntKind.u8 (Int.tdiv v 16)) = v / 16 := by
    rw [Int.tdiv_eq_ediv_of_nonneg (by omega)]
    have : IntKind.u8.wrap (v / 16) = v / 16 := by simp [IntKind.wrap, IntKind.bits, IntKind.signed]; omega
    rw [this, w64 (by omega) (by omega)]
  rw [hgl, et, ej, em, es]
  rcases Nat.eq_zero_or_pos L.length with hp | hp
  case' inl => refine Yes.no (decide_eq_false (by omega)) ?_
  case' inr =>
    refine Yes.yes (decide_eq_true (by omega)) (Yes.yes (in_yes h) (Yes.yes (beq_inR h) ?_))
    by_cases h4 : Int.tmod v 5 = 4
    case pos =>
      refine Yes.yes (by rw [h4]; rfl) (Yes.yes (decide_eq_true (by omega)) (Yes.yes (inR_yes hp : inR _ ((0 : Nat) : Int) = true) ?_))
      obtain ⟨r0, L', rfl⟩ : ∃ r0 L', L = r0 :: L' := by
        cases L with
        | nil => simp at hp
        | cons r0 L' => exact ⟨r0, L', rfl⟩
      obtain ⟨g, x, zz, hr0, hgx, hlz⟩ := hLV.row r0 (by simp)
      have h3 : Row3 (r0 :: L') := fun r hr => by
        obtain ⟨g, x, zz, rfl, _⟩ := hLV.row r hr; rfl
      have hdel := hLV.del (i := 0) (g := g) (z := zz) (x := x) (by rw [← hr0]; rfl)
      have hext := hg.ext hgx
      refine Yes.run (woth_eq (p := 0) h3 (by omega)) ?_
      rw [show getR (r0 :: L') 0 = r0 from rfl, show getR (r0 :: L') (Int.toNat 0) = r0 from rfl, hr0, rowB_0, rowB_1, rowB_2]
      refine ze2_yes hf (by omega) hb0 hb1 hW hBl hZ.y (p := 8 * g) (m := 8 * x.ext) (by omega) fun B' a1 a1' hB' hy' he' => ?_
      have hR1 : Rep n 2 (({ A with b := B' } : AS).port ((j % 2 : Nat) : Int)) ⟨⟨W, B'⟩, ((j % 2 : Nat) : Int), 0, none⟩ := ⟨hR.len, hR.row, rfl, rfl, rfl, rfl⟩
      refine Yes.vR (okS_rep hf.toFew hR1 (by show B'.length ≤ _; omega)) hR1 (run_afree hf (A := ({ A with b := B' } : AS).port ((j % 2 : Nat) : Int)) (held := held) (live := live) (a := ((8 * g : Nat) : Int)) (me := j % 2) (by omega) rfl (hi.w fun r i => rfl) (hs.same fun i => rfl) hLV.dom) (fun x A' hx => ⟨x, hx.2.1.told⟩) fun f f' A3 s3 hx ht3 hR3 => ?_
      obtain ⟨hb3, hft3, _, hres3⟩ := hx
      rcases hres3 with ⟨_, _, _, hno⟩ | ⟨g', z', hag, hlz', hrf, _, _, hi3, hs3⟩
      · exact absurd rfl (hno g zz hlz)
      obtain rfl : g' = g := by omega
      simp only
      refine Yes.no (by rw [hrf]; rfl) ?_
      have hbs : s3.m.bytes = B' := by rw [hR3.bytes, hb3]; rfl
      refine ih (M.length - (j + 1)) _ (by omega) ⟨j + 1, s3.m.words, s3.m.bytes, (rowB g' x zz :: L').eraseIdx 0, _, _, rfl, by omega, rfl, ?_, ?_⟩
      · simp only [List.eraseIdx_cons_zero]; simp only [List.length_cons] at hL; omega
      refine ⟨fun r hr => ?_, by rw [hbs]; exact hy', by rw [hbs]; exact hB', A3.port 0, _, _, hR3.port 0, hi3.w fun r i => rfl, hs3.same fun i => rfl, by rw [← hr0]; exact hdel⟩
      rw [← hr0] at hr
      obtain ⟨g1, x1, z1, he1, hh1, _⟩ := hdel.row r hr
      have hne : g1 ≠ g' := fun hh => by rw [hh, upd_self] at hh1; cases hh1
      rw [upd_ne _ _ hne] at hh1
      obtain ⟨p, e, z2, he2, q1, q2, q3⟩ := hZ.z r (List.mem_of_mem_eraseIdx hr)
      have e0 : (p : Int) = ((8 * g1 : Nat) : Int) := by
        have := congrArg (fun r => getI r 0) (he2.symm.trans he1); exact this
      have e1 : (e : Int) = ((8 * x1.ext : Nat) : Int) := by
        have := congrArg (fun r => getI r 1) (he2.symm.trans he1); exact this
      refine ⟨p, e, z2, he2, q1, q2, fun i hi => ?_⟩
      rw [hbs, he' _ ?_]
      · exact q3 i hi
      · rcases Nat.lt_or_gt_of_ne hne with hlt | hgt
        · have := hg.disj _ _ _ _ hh1 hgx hlt; left; omega
        · have := hg.disj _ _ _ _ hgx hh1 hgt; right; omega
    refine Yes.no (by simpa using h4) ?_
  all_goals
    refine Yes.yes (in_yes h) (Yes.yes (beq_inR h) (Yes.yes (in_yes h) (Yes.yes (beq_inR h) ?_)))
    have hRp := hR.port ((j % 2 : Nat) : Int)
    refine Yes.vR (okS_rep hf.toFew hRp (by rw [AS.port_b, ← hR.bytes]; show B.length ≤ _; omega)) hRp (run_calloc hf (by omega) (held := held) (live := live) (m := v % 16) (s := v / 16) (by omega) (by omega) (me := j % 2) (by omega) rfl (hi.w fun r i => rfl) (hs.same fun i => rfl)) (fun x A' hx => by obtain ⟨_, _, q, _⟩ := hx; exact ⟨x, q.fr.told⟩) fun r r' A' s' hx ht' hR' => ?_
    obtain ⟨held', live', Q, hbb⟩ := hx
    have hbe : A.b = B := hR.bytes.symm
    rw [AS.port_b, hbe] at hbb
    have hbs : s'.m.bytes = A'.b := hR'.bytes
    have hkeep : (∀ i : Nat, B[i]? = some 0 → A'.b[i]? = some 0) ∧ A'.b.length = 64 * n ∧ Bys A'.b := by
      rcases hbb with ⟨_, hb⟩ | ⟨g, _, hb⟩
      · rw [hb]; exact ⟨fun i hi => hi, hBl, hZ.y⟩
      · rw [hb]; exact ⟨fun i hi => zeroed_keep hi, by rw [zeroed_len']; exact hBl, hZ.y.zeroed _ _⟩
    have hkz : Zed n A'.b L := fun r hr => by
      obtain ⟨p, e, z2, he2, q1, q2, q3⟩ := hZ.z r hr
      exact ⟨p, e, z2, he2, q1, q2, fun i hi => hkeep.1 _ (q3 i hi)⟩
    have hW' : s'.m.words.length ≤ 1000000 := by have := hR'.len; omega
    simp only
    by_cases he : r.e = 0
    · rcases Q.res with ⟨_, _, _, hc⟩ | ⟨g, x, hr, hgn, hh, hl', h1, h2, _, hroom⟩
      · exfalso; rcases hc with ⟨h, _⟩ | ⟨_, _, ⟨h, _⟩ | ⟨h, _⟩⟩ <;> omega
      refine Yes.no (by rw [he]; rfl) ?_
      refine Yes.yes (in_yes h) (Yes.yes (beq_inR h) (Yes.yes (in_yes h) (Yes.yes (beq_inR h) (Yes.yes (by rw [Nat.beq_refl, Bool.true_and]; exact Nat.ble_eq_true_of_le (by omega)) ?_))))
      have hcl := clearS_pos h1
      have hbig := place_big h1 hroom
      have hnew : held' g = some x := by rw [hh, upd_self]
      have hext := Q.heap.hg.ext hnew
      obtain ⟨zz, hzz⟩ : ∃ zz : Nat, (clearS n (v % 16) (v / 16)).toNat = zz := ⟨_, rfl⟩
      have ew : IntKind.wrap IntKind.i64 (v % 16 * (v / 16)) = (zz : Int) := by rw [← hcl, w64 (by omega) (by omega)]; omega
      have eat : r.at_ = ((8 * g : Nat) : Int) := by rw [hr]
      have ern : r.n = ((8 * x.ext : Nat) : Int) := by rw [hr]
      have erow : [r.at_, r.n, IntKind.wrap IntKind.i64 (v % 16 * (v / 16))] = rowB g x zz := by rw [ew, eat, ern]; rfl
      rw [erow]
      have hzed : Zed n A'.b (L ++ [rowB g x zz]) := fun r1 hr1 => by
        rcases List.mem_append.1 hr1 with hr1 | hr1
        · exact hkz r1 hr1
        · rw [List.mem_singleton] at hr1
          refine ⟨8 * g, 8 * x.ext, zz, hr1, by omega, by omega, fun i hi => ?_⟩
          rcases hbb with ⟨hne, _⟩ | ⟨g', hg', hb⟩
          · exact absurd he hne
          · obtain rfl : g' = g := by omega
            rw [hb, zeroed_at' (by omega), if_pos (by omega)]
      refine ze3_yes (n := n) (by omega) hW' (by rw [hbs]; exact hkeep.2.1) (by rw [hbs]; exact hzed) (by rw [List.length_append, List.length_singleton]; omega) (by rw [List.length_append, List.length_singleton]) ?_
      refine ih (M.length - (j + 1)) _ (by omega) ⟨j + 1, s'.m.words, s'.m.bytes, L ++ [rowB g x zz], a, a', by rw [List.length_append, List.length_singleton], by omega, rfl, by rw [List.length_append, List.length_singleton]; omega, ?_⟩
      refine ⟨by rw [hbs]; exact hzed, by rw [hbs]; exact hkeep.2.2, by rw [hbs]; exact hkeep.2.1, A'.port 0, held', live', hR'.port 0, Q.heap.w fun r i => rfl, Q.states.same fun i => rfl, ?_⟩
      rw [hh, hl', hzz]
      exact hLV.add x zz hgn
    · have hsame : held' = held ∧ live' = live := by
        rcases Q.res with ⟨h1, h2, _, _⟩ | ⟨g, x, hr, _⟩
        · exact ⟨h1, h2⟩
        · exact absurd (by rw [hr]) he
      refine Yes.yes (by simpa using he) ?_
      refine ih (M.length - (j + 1)) _ (by omega) ⟨j + 1, s'.m.words, s'.m.bytes, L, a, a', rfl, by omega, rfl, by omega, ?_⟩
      obtain ⟨rfl, rfl⟩ := hsame
      exact ⟨by rw [hbs]; exact hkz, by rw [hbs]; exact hkeep.2.2, by rw [hbs]; exact hkeep.2.1, A'.port 0, held', live', hR'.port 0, Q.heap.w fun r i => rfl, Q.states.same fun i => rfl, hLV⟩
theorem ze_yes {pages b : Int} (h0 : 0 ≤ pages) (h1 : pages ≤ 255) (hb0 : 0 ≤ b) (hb1 : b ≤ 255) {M : List Int} (hwf : ∀ y ∈ M, 0 ≤ y ∧ y ≤ 255) {o c : Nat} {z : OAddr} : Yes (zeT pages b o z M.length c o M) := by
  unfold zeT zeTK
  by_cases h20 : M.length > 20
  · exact Yes.yes (decide_eq_true (by omega)) Yes.ret
  refine Yes.no (decide_eq_false (by omega)) ?_
  obtain ⟨n, hn⟩ : ∃ n : Nat, pages % 5 + 1 = (n : Int) := ⟨(pages % 5 + 1).toNat, by omega⟩
  have hn1 : 1 ≤ n := by omega
  have hn5 : n ≤ 5 := by omega
  have hf : Small n 2 := ⟨⟨hn1, by omega, by omega, by omega⟩, by unfold nodesN; omega⟩
  have e1 : IntKind.wrap IntKind.i64 (1 + IntKind.wrap IntKind.i64 (Int.tmod pages 5)) = (n : Int) := by
    rw [Int.tmod_eq_emod_of_nonneg h0, w64 (x := pages % 5) (by omega) (by omega), w64 (by omega) (by omega)]; omega
  have hX : Int.toNat (mkGeo n 2).b19 = Br n 2 19 := rfl
  have e2 : IntKind.wrap IntKind.i64 ((mkGeo n 2).pages * 64) = ((n * 64 : Nat) : Int) := by
    show IntKind.wrap IntKind.i64 (((n : Nat) : Int) * 64) = _
    rw [show ((n : Nat) : Int) * 64 = ((n * 64 : Nat) : Int) by omega, wN _ (by omega)]
  have hBr := Br_le hf.n2 hf.t2
  have hg19 : (mkGeo n 2).b19 = ((Br n 2 19 : Nat) : Int) := rfl
  have hguard : decide (0 ≤ (mkGeo n 2).b19 ∧ (mkGeo n 2).b19 ≤ 1000000 ∧ 0 ≤ IntKind.wrap IntKind.i64 ((mkGeo n 2).pages * 64) ∧ IntKind.wrap IntKind.i64 ((mkGeo n 2).pages * 64) ≤ 1000000) = true := by
    rw [decide_eq_true_eq, e2, hg19]; omega
  have hY : Int.toNat (IntKind.wrap IntKind.i64 ((mkGeo n 2).pages * 64)) = n * 64 := by rw [e2]; rfl
  have hR0 : Rep n 2 (zeroW 0 (List.replicate (n * 64) 0) 0) ⟨⟨List.replicate (Int.toNat (mkGeo n 2).b19) 0, List.replicate (Int.toNat (IntKind.wrap IntKind.i64 ((mkGeo n 2).pages * 64))) 0⟩, 0, 0, none⟩ := by
    rw [hX, hY]; exact rep_zero 0 _
  have hok : okS (Int.toNat (mkGeo n 2).b19) (Int.toNat (mkGeo n 2).b19) (Int.toNat (IntKind.wrap IntKind.i64 ((mkGeo n 2).pages * 64))) (Int.toNat (IntKind.wrap IntKind.i64 ((mkGeo n 2).pages * 64))) (List.replicate (Int.toNat (mkGeo n 2).b19) 0) (List.replicate (Int.toNat (IntKind.wrap IntKind.i64 ((mkGeo n 2).pages * 64))) 0) = true := by
    rw [hX, hY]
    exact decide_eq_true ⟨rfl, rfl, by simp, by simp, by omega, by omega⟩
  obtain ⟨x0, A0, hrun, hfr1, h4, hN⟩ := run_pinit hf (A := zeroW 0 (List.replicate (n * 64) 0) 0) trivial
  have hE' : Empty n 2 ((A0.port 0).lay 0 n) := empty_pr hf (A0 := zeroW 0 (List.replicate (n * 64) 0) 0) (fun _ _ => rfl) hfr1 h4 hN (fun _ _ => rfl)
  have hl := lay_fr (A0.port 0) 0 n
  have hb1' : A0.b.length ≤ 1000000 := by rw [hfr1.b]; show (List.replicate (n * 64) (0 : Int)).length ≤ _; simp; omega
  have hbz : ((A0.port 0).lay 0 n).b = List.replicate (n * 64) 0 := by rw [hl.b]; show A0.b = _; rw [hfr1.b]; rfl
  rw [e1]
  refine Yes.run (newT_ret (t := 2) hf.toFew) (Yes.no rfl ?_)
  refine Yes.guard hguard ?_
  refine Yes.vN (Q := fun _ A' => A0 = A') hok hR0 (Rn.of hrun rfl) (fun x A' hx => by rw [← hx, hfr1.told]; rfl) fun x A' s3 hx hR => ?_
  subst hx
  refine Yes.vN (Q := fun _ A' => (A0.port 0).lay 0 n = A') (okS_rep hf.toFew hR hb1') (hR.port 0) (Rn.of (run_rinit hf) rfl) (fun x A' hx => by rw [← hx, hl.told]; rfl) fun x A' s4 hx hR' => ?_
  subst hx
  have hE : Empty n 2 (((A0.port 0).lay 0 n).port 0) := ⟨hE'.pages, hE'.bins, hE'.pool, hE'.nodes, hE'.rest⟩
  obtain ⟨hi0, hs0⟩ := hE.inv hf
  have hR1 := hR'.port 0
  have hbs : s4.m.bytes = List.replicate (n * 64) 0 := by rw [hR'.bytes, hbz]
  have hW : s4.m.words.length ≤ 1000000 := by have := hR'.len; omega
  refine ze0_yes hf (by omega) hb0 hb1 hW (by rw [hbs, List.length_replicate]; omega) (by rw [hbs]; intro y hy; rw [List.eq_of_mem_replicate hy]; omega) fun B' a a' hB' hy' => ?_
  refine ze1_yes hn1 hn5 hb0 hb1 (by omega) hwf ⟨fun r hr => by simp at hr, hy', hB', { ((A0.port 0).lay 0 n).port 0 with b := B' }, _, _, ⟨hR1.len, hR1.row, rfl, rfl, rfl, rfl⟩, hi0.w fun r i => rfl, hs0.same fun i => rfl, LV.nil⟩ Yes.ret
theorem allocZeros_any {pages b : Int} (h0 : 0 ≤ pages) (h1 : pages ≤ 255) (hb0 : 0 ≤ b) (hb1 : b ≤ 255) {k off : Nat} {z : Option Addr} {n c : Nat} {M : List Int} (hn : M.length = n) (hwf : ∀ y ∈ M, (Lit.int .u8 y).wf = true) (w : World) (hw : WinAt w k ⟨[], 5, false, some (.wcol off .u8 M)⟩) :
    Calls Tryz.prog 6 #[.int .u8 pages, .int .u8 b, winV k off z n c] w fun e w' => e = .returned (.bool true) ∧ Below w.heap.size w w' := by
  subst hn
  refine calls_win (s_m_zeT s_kz0m) (args := [.c (.int .u8 pages), .c (.int .u8 b), .c (.slw 0 off z M.length c)]) [(k, ⟨[], 5, false, some (.wcol off .u8 M)⟩)] rfl (fun p hp => ?_) rfl (ze_yes h0 h1 hb0 hb1 fun y hy => bounds_u8 (hwf y hy)) rfl
  rw [List.mem_singleton] at hp
  subst hp
  exact hw
end Go.Proofs.YtaegelbaghaooaaGreat
