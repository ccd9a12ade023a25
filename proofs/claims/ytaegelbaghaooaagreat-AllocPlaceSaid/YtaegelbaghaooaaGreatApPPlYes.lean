/- AllocPlace: its tree ends in true. -/
import Derived.Test.YtaegelbaghaooaaGreatApPPlT
set_option linter.unusedSimpArgs false
set_option linter.unusedVariables false
namespace Go.Proofs.YtaegelbaghaooaaGreat
open Go Go.RowKit Lx
set_option linter.unusedVariables false
set_option linter.unusedSectionVars false
set_option maxRecDepth 100000
theorem run_aligned_of {n t me : Nat} (hf : Small n t) {A A1 : AS} {s a k u e : Int} (hme : me < t) (hself : A.self = (me : Int)) (hs : SI n t A (fun _ => none)) (hrun : (placeT (mkGeo n t) s a).run (astep n t) A = some ((k, u, e), A1)) (hfr : Fr srcR 70000000000 A A1)
    (hk : e ≠ 0 ∨ (e = 0 ∧ 1 ≤ s ∧ s ≤ 64 * n ∧ ∃ g : Nat, k = (g : Int) ∧ g < n * 8)) : Rn n t (alignedT (mkGeo n t) a s) A fun r A' => A'.told = some r.cells ∧ r.e = e ∧ (e = 0 → r.at_ = IntKind.wrap .i64 (8 * k) ∧ r.n = u) := by
  have hn := hf.n2
  have hn1 := hf.n1
  unfold alignedT alignedTK
  refine Rn.no (by show (((n : Nat) : Int) == 0) = false; simp; omega) ?_
  refine Rn.run hrun ?_
  simp only
  rcases hk with he | ⟨rfl, h1, h2, g, rfl, hg⟩
  · refine Rn.yes (by simpa using he) (Rn.steps (Rn.run (run_fails hf) (Rn.ret ⟨rfl, rfl, fun hh => absurd hh he⟩)))
  · refine Rn.no rfl ?_
    have hs1 : A1.self = (me : Int) := by rw [hfr.self, hself]
    have hz : s = ((s.toNat : Nat) : Int) := by omega
    unfold bornT bornTK
    rw [T.bind_assoc]
    have hb := run_birth hf (A := A1) (z := s.toNat) hme hs1 hg (by omega) (by omega) (hs.fr hfr (by unfold srcR; simp))
    rw [← hz] at hb
    refine Rn.bind hb ?_
    rintro _ A2 ⟨k1, k2⟩
    refine Rn.steps (Rn.tell (Rn.ret ⟨rfl, rfl, fun _ => ⟨?_, rfl⟩⟩))
    rw [Int.mul_comm]
theorem rest_yes {n : Nat} (hn : 1 ≤ n) (hn5 : n ≤ 5) {E : AS} (hE : Empty n 1 E) {r4 r7 : Unit × DS} (h4 : Rep n 1 (E.port 0) ⟨⟨r4.2.m.words, r4.2.m.bytes⟩, 0, 0, none⟩) (h7 : Rep n 1 (E.port 0) ⟨⟨r7.2.m.words, r7.2.m.bytes⟩, 0, 0, none⟩) (hb : E.b.length ≤ 1000000) {size al : Int} (ha : al < 9223372036854775808) :
    Yes (restT (mkGeo n 1, true) r4 r7 size al) := by
  have hf : Small n 1 := ⟨⟨hn, by omega, by omega, by omega⟩, by unfold nodesN; omega⟩
  have hE0 : Empty n 1 (E.port 0) := ⟨hE.pages, hE.bins, hE.pool, hE.nodes, hE.rest⟩
  obtain ⟨hi0, hs0⟩ := hE0.inv hf
  obtain ⟨⟨k, u, e⟩, A1, hrun, held1, hP, hi1, hfr1⟩ := run_place hf (A := E.port 0) (s := size) (a := al) (me := 0) (by omega) rfl ha hi0
  unfold restT
  refine Yes.vN (Q := fun x A' => x = (k, u, e) ∧ A1 = A') (okS_rep (s := ⟨⟨r4.2.m.words, r4.2.m.bytes⟩, 0, 0, none⟩) hf.toFew h4 hb) h4 (Rn.of hrun ⟨rfl, rfl⟩) (fun x A' hx => by rw [← hx.2, hfr1.told]; rfl) fun x A' s1 hx hR1 => ?_
  obtain ⟨rfl, rfl⟩ := hx
  have hk : e ≠ 0 ∨ (e = 0 ∧ 1 ≤ size ∧ size ≤ 64 * n ∧ ∃ g : Nat, k = (g : Int) ∧ g < n * 8) := by
    rcases hP with ⟨_, _, _, h⟩ | ⟨g, x, h2, h3, rfl, h5, h6, _⟩
    · left
      rcases h with ⟨h, _⟩ | ⟨_, _, ⟨h, _⟩ | ⟨h, _⟩⟩ <;> simp only at h <;> omega
    · simp only [Prod.mk.injEq] at h2
      exact .inr ⟨h2.2.2, h5, h6, g, h2.1, HInv.small hf hi1 (upd_self _ _ _)⟩
  refine Yes.vR (okS_rep (s := ⟨⟨r7.2.m.words, r7.2.m.bytes⟩, 0, 0, none⟩) hf.toFew h7 hb) h7 (run_aligned_of hf (me := 0) (by omega) rfl hs0 hrun hfr1 hk) (fun x A' hx => ⟨x, hx.1⟩) fun ra _ _ _ hra _ _ => ?_
  obtain ⟨_, hre, hrat⟩ := hra
  simp only
  refine Yes.no (by rw [hre]; simp) ?_
  rcases hP with ⟨rfl, h2, h3, h⟩ | ⟨g, x, h2, h3, rfl, h5, h6, h7', h8⟩
  · simp only at h2 h3
    have he : e ≠ 0 := by rcases h with ⟨h, _⟩ | ⟨_, _, ⟨h, _⟩ | ⟨h, _⟩⟩ <;> simp only at h <;> omega
    exact Yes.yes (by simpa using he) (Yes.yes (by rw [h2]; rfl) (Yes.yes (by rw [h3]; rfl) Yes.ret))
  · simp only [Prod.mk.injEq] at h2
    obtain ⟨rfl, rfl, rfl⟩ := h2
    obtain ⟨hat, hu⟩ := hrat rfl
    have hgn : g < n * 8 := HInv.small hf hi1 (upd_self _ _ _)
    have e8 : IntKind.wrap IntKind.i64 (8 * (g : Int)) = ((8 * g : Nat) : Int) := by rw [show 8 * (g : Int) = ((8 * g : Nat) : Int) by omega, wN _ (by omega)]
    have hal := place_al hi1 (upd_self _ _ _) h5 h8 h7' ha
    have hbig := place_big h5 h8
    have hext : g + x.ext ≤ n * 8 := by
      obtain ⟨_, S, mp, vr, rem, bag, pl, h⟩ := hi1
      have hgeo := h.geo (upd_self _ _ _)
      cases x with
      | blk c => obtain ⟨_, p, j, q1, q2, q3⟩ := hgeo; have := blk_lt q2; simp only [HK.ext]; omega
      | run m => obtain ⟨_, p, q1, q2⟩ := hgeo; simp only [HK.ext]; omega
    have ha0 : 0 < al := by
      unfold powA at h7'
      simp only [Bool.and_eq_true, decide_eq_true_eq] at h7'; omega
    refine Yes.no rfl ?_
    refine Yes.no (by rw [hat]; simp) ?_
    refine Yes.no (by rw [hu]; simp) ?_
    refine Yes.no (by rw [decide_eq_false_iff_not]; omega) ?_
    refine Yes.yes (by rw [show (al == 0) = false by simp; omega]; rfl) ?_
    rw [e8]
    refine Yes.no (by rw [Int.tmod_eq_emod_of_nonneg (by omega), hal]; rfl) ?_
    have e64 : IntKind.wrap IntKind.i64 (64 * (mkGeo n 1).pages) = ((64 * n : Nat) : Int) := by
      show IntKind.wrap IntKind.i64 (64 * ((n : Nat) : Int)) = _
      rw [show 64 * ((n : Nat) : Int) = ((64 * n : Nat) : Int) by omega, wN _ (by omega)]
    have eu : IntKind.wrap IntKind.i64 (((8 * g : Nat) : Int) + ((8 * x.ext : Nat) : Int)) = ((8 * g + 8 * x.ext : Nat) : Int) := wrap_add hf.toFew (by omega)
    rw [e64, eu]
    refine Yes.no (by rw [decide_eq_false_iff_not]; omega) ?_
    have ht1 : A1.told = none := by rw [hfr1.told]; rfl
    have hs1 : A1.self = ((0 : Nat) : Int) := by rw [hfr1.self]; rfl
    have hb1 : A1.b.length ≤ 1000000 := by rw [hfr1.b]; exact hb
    have hS1 : SI n 1 A1 (fun _ => none) := hs0.fr hfr1 (by unfold srcR; simp)
    refine Yes.vR (ok_parts hf hR1 hb1) (hR1.parts ht1) (run_afree hf (by omega) hs1 hi1 hS1 (fun q z hq => by cases hq)) (fun _ A' h => ⟨_, h.2.1.told⟩) fun rf rf' A2 s2 hf2 ht2 hR2 => ?_
    obtain ⟨q1, q2, _, q4⟩ := hf2
    rcases q4 with ⟨q5, q6, q7, _⟩ | ⟨_, _, _, q5, _⟩
    case inr => cases q5
    refine Yes.no (by rw [q5]; rfl) ?_
    have hb2 : A2.b.length ≤ 1000000 := by rw [q1]; exact hb1
    have hs2 : A2.self = ((0 : Nat) : Int) := by rw [q2.self, hs1]
    refine Yes.vR (ok_parts hf hR2 hb2) (hR2.parts ht2) (run_malloc hf (s := 1) (by omega) hs2 q6 q7) (fun _ A' h => by obtain ⟨_, _, _, h⟩ := h; exact ⟨_, h.fr.told⟩) fun rm rm' A3 s3 hm ht3 hR3 => ?_
    obtain ⟨m1, held3, live3, hm⟩ := hm
    have hb3 : A3.b.length ≤ 1000000 := by rw [m1]; exact hb2
    have hs3 : A3.self = ((0 : Nat) : Int) := by rw [hm.fr.self, hs2]
    have hlen : A3.told = some rm'.cells := ht3
    rcases hm.res with ⟨rfl, rfl, m2, m3⟩ | ⟨g', y, m2, m3, rfl, rfl, _, _, _, _⟩
    · have he : rm.e ≠ 0 := by rcases m3 with ⟨h, _⟩ | ⟨_, _, ⟨h, _⟩ | ⟨h, _⟩⟩ <;> omega
      refine Yes.no (by simpa using he) ?_
      exact tail_yes hf hR3 ht3 hb3 hs3 hm.heap hm.states (upd_self _ _ _) (.inl ⟨he, rfl⟩)
    · have hne : g' ≠ g := fun hh => by rw [hh, upd_self] at m3; cases m3
      have hgk : upd (upd (fun _ => none) g (some x)) g' (some y) g = some x := by rw [upd_ne _ _ (Ne.symm hne), upd_self]
      have hgy : upd (upd (fun _ => none) g (some x)) g' (some y) g' = some y := upd_self _ _ _
      have htail := tail_yes (res := rm) hf hR3 ht3 hb3 hs3 hm.heap hm.states hgk (.inr ⟨by rw [m2], g', y, _, hne, by rw [m2], hgy, rfl⟩)
      refine Yes.yes (by rw [m2]; rfl) ?_
      have hg'n : g' + y.ext ≤ n * 8 ∧ (g + x.ext ≤ g' ∨ g' + y.ext ≤ g) := by
        obtain ⟨_, S, mp, vr, rem, bag, pl, h⟩ := hm.heap
        refine ⟨?_, ?_⟩
        · have hgeo := h.geo hgy
          cases y with
          | blk c => obtain ⟨_, p, j, q1, q2, q3⟩ := hgeo; have := blk_lt q2; simp only [HK.ext]; omega
          | run m => obtain ⟨_, p, q1, q2⟩ := hgeo; simp only [HK.ext]; omega
        · rcases Nat.lt_or_gt_of_ne hne with hlt | hlt
          · exact .inr (h.disj hgy hgk hlt)
          · exact .inl (h.disj hgk hgy hlt)
      have hrat' : rm.at_ = ((8 * g' : Nat) : Int) := by rw [m2]
      have hrn' : rm.n = ((8 * y.ext : Nat) : Int) := by rw [m2]
      have em : IntKind.wrap IntKind.i64 (rm.at_ + rm.n) = ((8 * g' + 8 * y.ext : Nat) : Int) := by rw [hrat', hrn']; exact wrap_add hf.toFew (by omega)
      simp only [em]
      by_cases hlt : rm.at_ < ((8 * g + 8 * x.ext : Nat) : Int)
      · refine Yes.yes (decide_eq_true hlt) (Yes.no (by rw [decide_eq_false_iff_not]; omega) ?_)
        exact htail
      · refine Yes.no (decide_eq_false hlt) ?_
        exact htail
end Go.Proofs.YtaegelbaghaooaaGreat
