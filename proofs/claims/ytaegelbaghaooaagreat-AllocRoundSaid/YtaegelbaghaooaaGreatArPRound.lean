/- AllocRound: what is asked, freed by the other thread, and asked again. -/
import Derived.Test.YtaegelbaghaooaaGreatArPSame
import Derived.Test.YtaegelbaghaooaaGreatArPWhoT
import Derived.Test.YtaegelbaghaooaaGreatArM9
import Derived.Test.YtaegelbaghaooaaGreatArPYes
import Derived.Test.YtaegelbaghaooaaGreatArQRo
set_option linter.unusedSimpArgs false
set_option linter.unusedVariables false
namespace Go.Proofs.YtaegelbaghaooaaGreat
open Go Go.RowKit Lx
set_option linter.unusedVariables false
set_option linter.unusedSectionVars false
set_option maxRecDepth 100000
theorem Rn.both {n t : Nat} {α : Type} {q : T α} {A : AS} {Q Q' : α → AS → Prop} (h : Rn n t q A Q) (h' : Rn n t q A Q') : Rn n t q A fun a A' => Q a A' ∧ Q' a A' := by
  obtain ⟨a, A', h1, h2⟩ := h
  obtain ⟨b, B', h3, h4⟩ := h'
  rw [h1] at h3
  cases h3
  exact ⟨a, A', h1, h2, h4⟩
def srcT (n t : Nat) (s a : Int) : T (Int × Int) := match clsN s a with
  | some c => obtainT (mkGeo n t) (c : Int)
  | none => pagesT (mkGeo n t) (needN s : Int) (alN a : Int)
def szN (s a : Int) : Int := match clsN s a with
  | some c => ((8 * (c + 1) : Nat) : Int)
  | none => ((64 * needN s : Nat) : Int)
section
variable {n t : Nat} (hf : Small n t)
include hf
theorem place_of {A A1 : AS} {s a : Int} (h1 : 1 ≤ s) (h2 : s ≤ 64 * n) (hp : powA a = true) (ha : a < 9223372036854775808) (hrun : (srcT n t s a).run (astep n t) A = some ((0, 0), A1)) : (placeT (mkGeo n t) s a).run (astep n t) A = some ((0, szN s a, 0), A1) := by
  have hn := hf.n2
  have hn1 := hf.n1
  have main : Rn n t (placeT (mkGeo n t) s a) A fun r A' => r = (0, szN s a, 0) ∧ A' = A1 := by
    have e64 : IntKind.wrap IntKind.i64 ((mkGeo n t).pages * 64) = ((64 * n : Nat) : Int) := by
      show IntKind.wrap IntKind.i64 (((n : Nat) : Int) * 64) = _
      rw [show ((n : Nat) : Int) * 64 = ((64 * n : Nat) : Int) by omega, wN _ (by omega)]
    unfold placeT placeTK
    refine Rn.no (by show (((n : Nat) : Int) == 0) = false; simp; omega) ?_
    refine Rn.no (decide_eq_false (by omega)) ?_
    rw [e64]
    refine Rn.no (decide_eq_false (by omega)) ?_
    refine Rn.run (run_apower hf) ?_
    rw [hp]
    refine Rn.no rfl ?_
    refine Rn.run (run_cof hf (by omega) hp) ?_
    have ha0 : 0 < a := by
      unfold powA at hp
      simp only [Bool.and_eq_true, decide_eq_true_eq] at hp; omega
    unfold srcT at hrun
    unfold szN
    cases hc : clsN s a with
    | some c =>
      rw [hc] at hrun
      simp only at hrun ⊢
      have hc4 : c < 4 := by
        unfold clsN at hc
        repeat' split at hc
        all_goals first | (cases hc; omega) | cases hc
      refine Rn.yes (by rw [decide_eq_true_eq]; omega) ?_
      refine Rn.run hrun ?_
      refine Rn.yes (by rw [decide_eq_true_eq]; omega) (Rn.no rfl (Rn.ret ⟨?_, rfl⟩))
      have : ∀ c : Nat, c < 4 → (bif (c : Int) == 0 then (8 : Int) else bif (c : Int) == 1 then (16 : Int) else bif (c : Int) == 2 then (24 : Int) else (32 : Int)) = ((8 * (c + 1) : Nat) : Int) := by decide
      simp only [this c hc4]
    | none =>
      rw [hc] at hrun
      simp only at hrun ⊢
      refine Rn.no rfl ?_
      refine Rn.run (run_cpages2 hf (by omega) (by omega)) ?_
      have e1 : Int.tdiv a 64 = a / 64 := Int.tdiv_eq_ediv_of_nonneg (by omega)
      have e2 : IntKind.wrap IntKind.i64 (a / 64) = a / 64 := w64 (by omega) (by omega)
      have e3 : (if a / 64 < 1 then (1 : Int) else a / 64) = (alN a : Int) := by unfold alN; split <;> omega
      rw [e1, e2, e3]
      have hk1 : 1 ≤ needN s := by unfold needN; omega
      have hkn : needN s ≤ n := by unfold needN; omega
      refine Rn.run hrun ?_
      refine Rn.no rfl (Rn.ret ⟨?_, rfl⟩)
      have : IntKind.wrap IntKind.i64 ((needN s : Int) * 64) = ((64 * needN s : Nat) : Int) := by
        rw [show (needN s : Int) * 64 = ((64 * needN s : Nat) : Int) by omega, wN _ (by omega)]
      simp only [this]
  obtain ⟨r, A', h3, rfl, rfl⟩ := main
  exact h3
theorem aligned_of0 {A A1 : AS} {live : Nat → Option Nat} {s a u : Int} {me : Nat} (hme : me < t) (hself : A.self = (me : Int)) (hs : SI n t A live) (hrun : (placeT (mkGeo n t) s a).run (astep n t) A = some ((0, u, 0), A1)) (hfr : Fr srcR 70000000000 A A1) (h1 : 1 ≤ s) (h2 : s ≤ 64 * n) :
    Rn n t (alignedT (mkGeo n t) a s) A fun r A' => r.at_ = 0 ∧ r.n = u ∧ r.e = 0 ∧ ∀ q i, q ≠ 6 → q ≠ 11 → A'.w q i = A1.w q i := by
  have hn := hf.n2
  have hn1 := hf.n1
  unfold alignedT alignedTK
  refine Rn.no (by show (((n : Nat) : Int) == 0) = false; simp; omega) ?_
  refine Rn.run hrun ?_
  simp only
  refine Rn.no rfl ?_
  have hs1 : A1.self = (me : Int) := by rw [hfr.self, hself]
  have hz : s = ((s.toNat : Nat) : Int) := by omega
  unfold bornT bornTK
  rw [T.bind_assoc]
  have hb := run_birth hf (A := A1) (g := 0) (z := s.toNat) hme hs1 (by omega) (by omega) (by omega) (hs.fr hfr (by unfold srcR; simp))
  rw [← hz] at hb
  refine Rn.bind hb ?_
  rintro _ A2 ⟨k1, k2, _⟩
  refine Rn.steps (Rn.tell (Rn.ret ⟨rfl, rfl, rfl, fun q i h6 h11 => ?_⟩))
  exact k2.w q (by simp [h6, h11]) i
theorem afree_of0 {A : AS} {live : Nat → Option Nat} {z : Nat} {me : Nat} (hme : me < t) (hself : A.self = (me : Int)) (hs : SI n t A live) (hl : live 0 = some z) {P : AS → Prop} (hrel : ∀ B : AS, B.self = A.self → (∀ q i, q ≠ 11 → B.w q i = A.w q i) → ∃ x B', (releaseT (mkGeo n t) 0).run (astep n t) B = some (x, B') ∧ P B') :
    Rn n t (afreeT (mkGeo n t) 0) A fun r A' => P A' := by
  have hn := hf.n2
  have hn1 := hf.n1
  have e64 : IntKind.wrap IntKind.i64 ((mkGeo n t).pages * 64) = ((64 * n : Nat) : Int) := by
    show IntKind.wrap IntKind.i64 (((n : Nat) : Int) * 64) = _
    rw [show ((n : Nat) : Int) * 64 = ((64 * n : Nat) : Int) by omega, wN _ (by omega)]
  unfold afreeT afreeTK
  refine Rn.no (by show (((n : Nat) : Int) == 0) = false; simp; omega) ?_
  refine Rn.no rfl ?_
  rw [e64]
  refine Rn.no (decide_eq_false (by omega)) ?_
  refine Rn.no rfl ?_
  have hd := run_death hf (A := A) (g := 0) hme hself (by omega) hs
  refine Rn.bind hd ?_
  rintro r A1 (⟨k1, _⟩ | ⟨z', k1, k2, k3, k4, k5, k6, k7⟩)
  · rw [hl] at k1; cases k1
  refine Rn.no (by rw [k2]; rfl) ?_
  refine Rn.tell ?_
  obtain ⟨x, B', h1, h2⟩ := hrel (A1.tell ⟨0, r.size, 0, 0, 0, 0, 0, 0, 0, r.lin, 0⟩) k7.self (fun q i h11 => k7.w q (by simp [h11]) i)
  exact Rn.run h1 (Rn.ret h2)
end
theorem again_any {n p : Nat} {s al : Int} (hn : 1 ≤ n) (hn8 : n ≤ 8) (hp : p < 10) (hal : al = ((2 ^ p : Nat) : Int)) (h1 : 1 ≤ s) (h2 : s ≤ 64 * n) (u u' : Nat → Nat → Int) (b b1 b2 : List Int) (s0 s1 s2 : Nat) (d d1 d2 : Option (List C)) :
    again n (srcT n 2 s al) 0 u u' b b1 b2 s0 s1 s2 d d1 d2 = true := by
  have key : ∀ p : Nat, p < 10 → alN ((2 ^ p : Nat) : Int) = 1 ∨ alN ((2 ^ p : Nat) : Int) = 2 ∨ alN ((2 ^ p : Nat) : Int) = 4 ∨ alN ((2 ^ p : Nat) : Int) = 8 := by decide
  have hA : alN al = 1 ∨ alN al = 2 ∨ alN al = 4 ∨ alN al = 8 := by rw [hal]; exact key p hp
  obtain ⟨m, rfl⟩ : ∃ m, n = m + 1 := ⟨n - 1, by omega⟩
  unfold srcT
  cases hc : clsN s al with
  | some c =>
    have hc4 : c < 4 := by
      unfold clsN at hc
      repeat' split at hc
      all_goals first | (cases hc; omega) | cases hc
    have h := again_blk u u' b b1 b2 s0 s1 s2 d d1 d2
    rw [List.all_eq_true] at h
    have h' := h m (List.mem_range.2 (by omega))
    rw [List.all_eq_true] at h'
    exact h' c (List.mem_range.2 hc4)
  | none =>
    have hk1 : 1 ≤ needN s := by unfold needN; omega
    have hkn : needN s ≤ m + 1 := by unfold needN; omega
    obtain ⟨k, hk⟩ : ∃ k, needN s = k + 1 := ⟨needN s - 1, by omega⟩
    have h := again_run u u' b b1 b2 s0 s1 s2 d d1 d2
    rw [List.all_eq_true] at h
    have h' := h m (List.mem_range.2 (by omega))
    rw [List.all_eq_true] at h'
    have h2' := h' k (List.mem_range.2 (by omega))
    rw [List.all_eq_true] at h2'
    have h3 := h2' (alN al) (by rcases hA with h | h | h | h <;> rw [h] <;> simp)
    simp only [hk]
    exact h3
theorem Rep.with {n t : Nat} {A : AS} {s : DS} (h : Rep n t A s) {o : Option (List C)} (ho : A.told = o) : Rep n t A ⟨⟨s.m.words, s.m.bytes⟩, s.self, s.steps, o⟩ := ⟨h.len, h.row, h.bytes, h.self, h.steps, ho.symm⟩
theorem ok_with {n t : Nat} {A : AS} {s : DS} (hf : Small n t) (h : Rep n t A s) (hb : A.b.length ≤ 1000000) : okS s.m.words.length s.m.words.length s.m.bytes.length s.m.bytes.length s.m.words s.m.bytes = true := okS_rep hf.toFew h hb
theorem ro_yes {pages size power : Int} (h0 : 0 ≤ pages) (h1 : pages ≤ 255) (hp0 : 0 ≤ power) : Yes (roT pages size power) := by
  obtain ⟨n, hn⟩ : ∃ n : Nat, pages % 8 + 1 = (n : Int) := ⟨(pages % 8 + 1).toNat, by omega⟩
  have hn1 : 1 ≤ n := by omega
  have hn8 : n ≤ 8 := by omega
  have hf : Small n 2 := ⟨⟨hn1, by omega, by omega, by omega⟩, by unfold nodesN; omega⟩
  have e1 : IntKind.wrap IntKind.i64 (1 + IntKind.wrap IntKind.i64 (Int.tmod pages 8)) = (n : Int) := by
    rw [Int.tmod_eq_emod_of_nonneg h0, w64 (x := pages % 8) (by omega) (by omega), w64 (by omega) (by omega)]; omega
  have hX : Int.toNat (mkGeo n 2).b19 = Br n 2 19 := rfl
  have e2 : IntKind.wrap IntKind.i64 ((mkGeo n 2).pages * 64) = ((n * 64 : Nat) : Int) := by
    show IntKind.wrap IntKind.i64 (((n : Nat) : Int) * 64) = _
    rw [show ((n : Nat) : Int) * 64 = ((n * 64 : Nat) : Int) by omega, wN _ (by omega)]
  have hBr := Br_le hf.n2 hf.t2
  have hg19 : (mkGeo n 2).b19 = ((Br n 2 19 : Nat) : Int) := rfl
  have hguard : decide (0 ≤ (mkGeo n 2).b19 ∧ (mkGeo n 2).b19 ≤ 1000000 ∧ 0 ≤ IntKind.wrap IntKind.i64 ((mkGeo n 2).pages * 64) ∧ IntKind.wrap IntKind.i64 ((mkGeo n 2).pages * 64) ≤ 1000000) = true := by
    rw [decide_eq_true_eq, e2, hg19]; omega
  have hY : Int.toNat (IntKind.wrap IntKind.i64 ((mkGeo n 2).pages * 64)) = n * 64 := by rw [e2]; rfl
  have hR0 : Rep n 2 (zeroW 0 (List.replicate (n * 64) 0) 0) ⟨⟨List.replicate (Int.toNat (mkGeo n 2).b19) 0, List.replicate (Int.toNat (IntKind.wrap IntKind.i64 ((mkGeo n 2).pages * 64))) 0⟩, 0, 0, none⟩ := by
    rw [hX, hY]; exact rep_zero 0 _
  have hok : okS (Int.toNat (mkGeo n 2).b19) (Int.toNat (mkGeo n 2).b19) (Int.toNat (IntKind.wrap IntKind.i64 ((mkGeo n 2).pages * 64))) (Int.toNat (IntKind.wrap IntKind.i64 ((mkGeo n 2).pages * 64))) (List.replicate (Int.toNat (mkGeo n 2).b19) 0) (List.replicate (Int.toNat (IntKind.wrap IntKind.i64 ((mkGeo n 2).pages * 64))) 0) = true := by
    rw [hX, hY]
    exact decide_eq_true ⟨rfl, rfl, by simp, by simp, by omega, by omega⟩
  obtain ⟨x0, A0, hrun, hfr1, h4, hN⟩ := run_pinit hf (A := zeroW 0 (List.replicate (n * 64) 0) 0) trivial
  have hE' : Empty n 2 ((A0.port 0).lay 0 n) := empty_pr hf (A0 := zeroW 0 (List.replicate (n * 64) 0) 0) (fun _ _ => rfl) hfr1 h4 hN (fun _ _ => rfl)
  have hl := lay_fr (A0.port 0) 0 n
  have hb1 : A0.b.length ≤ 1000000 := by rw [hfr1.b]; show (List.replicate (n * 64) (0 : Int)).length ≤ _; simp; omega
  have hb' : ((A0.port 0).lay 0 n).b.length ≤ 1000000 := by rw [hl.b]; exact hb1
  unfold roT roTK
  rw [e1]
  refine Yes.run (newT_ret (t := 2) hf.toFew) (Yes.no rfl ?_)
  refine Yes.guard hguard ?_
  refine Yes.vN (Q := fun _ A' => A0 = A') hok hR0 (Rn.of hrun rfl) (fun x A' hx => by rw [← hx, hfr1.told]; rfl) fun x A' s3 hx hR => ?_
  subst hx
  refine Yes.vN (Q := fun _ A' => (A0.port 0).lay 0 n = A') (ok_with hf hR hb1) (hR.port 0) (Rn.of (run_rinit hf) rfl) (fun x A' hx => by rw [← hx, hl.told]; rfl) fun x A' s4 hx hR' => ?_
  subst hx
  refine Yes.yes (by rw [decide_eq_false (show ¬ Int.tmod power 10 < 0 by rw [Int.tmod_eq_emod_of_nonneg hp0]; omega)]; rfl) ?_
  generalize hEE : ((A0.port 0).lay 0 n) = E0 at hE' hb' hR'
  have hE : Empty n 2 (E0.port 0) := ⟨hE'.pages, hE'.bins, hE'.pool, hE'.nodes, hE'.rest⟩
  obtain ⟨hi0, hs0⟩ := hE.inv hf
  have hR1 := hR'.port 0
  -- the alignment
  obtain ⟨p, hpp⟩ : ∃ p : Nat, Int.toNat (Int.tmod power 10) = p := ⟨_, rfl⟩
  have hp : p < 10 := by rw [← hpp, Int.tmod_eq_emod_of_nonneg hp0]; omega
  rw [hpp]
  have k1 : ∀ p : Nat, p < 10 → IntKind.wrap IntKind.i64 (1 * 2 ^ min p (IntKind.bits IntKind.i64)) = ((2 ^ p : Nat) : Int) := by decide
  have k2 : ∀ p : Nat, p < 10 → IntKind.wrap IntKind.i64 (1 * 2 ^ if p ≤ 64 then p else (64 : Nat)) = ((2 ^ p : Nat) : Int) := by decide
  have k3 : ∀ p : Nat, p < 10 → powA ((2 ^ p : Nat) : Int) = true := by decide
  have k4 : ∀ p : Nat, p < 10 → 0 < ((2 ^ p : Nat) : Int) ∧ ((2 ^ p : Nat) : Int) < 9223372036854775808 := by decide
  rw [k1 p hp, k2 p hp]
  have hpow := k3 p hp
  obtain ⟨ha0, ha⟩ := k4 p hp
  obtain ⟨al, hal⟩ : ∃ al : Int, ((2 ^ p : Nat) : Int) = al := ⟨_, rfl⟩
  rw [hal]
  rw [hal] at hpow ha0 ha
  have e64 : IntKind.wrap IntKind.i64 (64 * (mkGeo n 2).pages) = ((64 * n : Nat) : Int) := by
    show IntKind.wrap IntKind.i64 (64 * ((n : Nat) : Int)) = _
    rw [show 64 * ((n : Nat) : Int) = ((64 * n : Nat) : Int) by omega, wN _ (by omega)]
  have hok1 := ok_with hf (s := s4) hR' hb'
  by_cases hsz : 1 ≤ size ∧ size ≤ 64 * n
  · obtain ⟨z1, z2⟩ := hsz
    have AG := fun u u' b b1 b2 s0 s1 s2 d d1 d2 => again_any (s := size) hn1 hn8 hp hal.symm z1 z2 u u' b b1 b2 s0 s1 s2 d d1 d2
    obtain ⟨A1, hr1, hrel⟩ := again_use AG (E := E0.port 0) rfl (hE.words hf)
    have frOf : ∀ {A A1 : AS} {held : Nat → Option HK}, A.self = ((0 : Nat) : Int) → HInv n 2 A held → (srcT n 2 size al).run (astep n 2) A = some ((0, 0), A1) → (placeT (mkGeo n 2) size al).run (astep n 2) A = some ((0, szN size al, 0), A1) ∧ Fr srcR 70000000000 A A1 := by
      intro A A1 held hs hi hr
      have hpl := place_of hf z1 z2 hpow ha hr
      obtain ⟨r, A', h, held', _, _, h5⟩ := run_place hf (me := 0) (s := size) (by omega) hs ha hi
      rw [hpl] at h
      cases h
      exact ⟨hpl, h5⟩
    obtain ⟨hpl, hfr⟩ := frOf rfl hi0 hr1
    refine Yes.vR hok1 hR1 (Rn.both (run_aligned hf (me := 0) (by omega) rfl ha hi0 hs0) (aligned_of0 hf (me := 0) (by omega) rfl hs0 hpl hfr z1 z2)) (fun x A' hx => by obtain ⟨⟨_, _, _, q⟩, _⟩ := hx; exact ⟨x, q.fr.told⟩) fun a a' A2 s2 hx ht2 hR2 => ?_
    obtain ⟨⟨hb2, held2, live2, Q2⟩, hat2, hn2, he2, hw2⟩ := hx
    have got : ∀ {A : AS} {held held' : Nat → Option HK} {live live' : Nat → Option Nat} {r : Res} {A' : AS}, Asked n 2 A held live size al r A' held' live' → r.at_ = 0 → r.e = 0 → ∃ x : HK, held 0 = none ∧ held' = upd held 0 (some x) ∧ live' = updS live 0 (some size.toNat) ∧ r.n = ((8 * x.ext : Nat) : Int) ∧ GotRoom n size al 0 x := by
      intro A held held' live live' r A' Q h1 h2
      rcases Q.res with ⟨_, _, _, hc⟩ | ⟨g, x, hr, hg, hh, hl', _, _, _, hroom⟩
      · exfalso; rcases hc with ⟨h, _⟩ | ⟨_, _, ⟨h, _⟩ | ⟨h, _⟩⟩ <;> omega
      · rw [hr] at h1
        simp only at h1
        obtain rfl : g = 0 := by omega
        exact ⟨x, hg, hh, hl', by rw [hr], hroom⟩
    obtain ⟨x2, _, hheld2, hlive2, hnx, hroom⟩ := got Q2 hat2 he2
    have hbig := place_big z1 hroom
    simp only
    refine Yes.no (decide_eq_false (by omega)) ?_
    refine Yes.no (by rw [e64]; exact decide_eq_false (by omega)) ?_
    refine Yes.no (by rw [he2]; rfl) ?_
    refine Yes.yes (by rw [show (al == 0) = false by simp; omega]; rfl) ?_
    refine Yes.no (by rw [hat2, Int.zero_tmod]; rfl) ?_
    refine Yes.no (by rw [hnx]; exact decide_eq_false (by omega)) ?_
    rw [hat2]
    have hb2' : A2.b.length ≤ 1000000 := by rw [hb2]; exact hb'
    have hl2 : live2 0 = some size.toNat := by rw [hlive2, updS_self]
    have hlh2 : ∀ g z, live2 g = some z → ∃ x, held2 g = some x := by
      intro g z hg
      rw [hlive2] at hg
      by_cases h : g = 0
      · subst h; exact ⟨x2, by rw [hheld2]; exact upd_self _ _ _⟩
      · rw [updS_ne _ _ h] at hg; cases hg
    refine Yes.vR (ok_with hf hR2 hb2') (hR2.port 1) (Rn.both (run_afree hf (A := A2.port 1) (me := 1) (by omega) rfl (Q2.heap.w fun r i => rfl) (Q2.states.same fun i => rfl) hlh2)
      (afree_of0 hf (A := A2.port 1) (me := 1) (by omega) rfl (Q2.states.same fun i => rfl) hl2 (P := fun B1 => ∀ C : AS, C.self = 0 → (∀ r i, r < 19 → i < Zr n 2 r → r ≠ 6 → r ≠ 11 → C.w r i = B1.w r i) → ∃ C1, (srcT n 2 size al).run (astep n 2) C = some ((0, 0), C1)) fun B hBs hB => hrel B hBs fun r i _ _ h6 h11 => by rw [hB r i h11]; exact hw2 r i h6 h11))
      (fun x A' hx => ⟨x, hx.1.2.1.told⟩) fun f f' A3 s3' hx3 ht3 hR3 => ?_
    obtain ⟨⟨hb3, hft3, _, hres3⟩, hP3⟩ := hx3
    rcases hres3 with ⟨_, _, _, hno⟩ | ⟨g', z, hag, hlz, hrf, _, _, hi3, hs3⟩
    · exact absurd rfl (hno 0 _ hl2)
    obtain rfl : g' = 0 := by omega
    rw [hl2] at hlz
    cases hlz
    have hb3' : A3.b.length ≤ 1000000 := by rw [hb3]; exact hb2'
    have hself2 : A2.self = 0 := Q2.fr.self
    obtain ⟨A4, hA4⟩ : ∃ A4 : AS, A4 = { A3 with  self := A2.self, steps := A2.steps, told := some (Res.cells a') } := ⟨_, rfl⟩
    have hself4 : A4.self = ((0 : Nat) : Int) := by rw [hA4]; exact hself2
    obtain ⟨C1, hr4⟩ := hP3 A4 hself4 (fun r i _ _ _ _ => by rw [hA4])
    have hi4 : HInv n 2 A4 (upd held2 0 none) := by rw [hA4]; exact hi3.w fun r i => rfl
    have hs4 : SI n 2 A4 (updS live2 0 none) := by rw [hA4]; exact hs3.same fun i => rfl
    obtain ⟨hpl4, hfr4⟩ := frOf (A := A4) hself4 hi4 hr4
    have hR4 : Rep n 2 A4 ⟨⟨s3'.m.words, s3'.m.bytes⟩, s2.self, s2.steps, some (Res.cells a')⟩ := by rw [hA4]; exact ⟨hR3.len, hR3.row, hR3.bytes, hR2.self, hR2.steps, rfl⟩
    refine Yes.vR (ok_with hf hR3 hb3') hR4 (Rn.both (run_aligned hf (me := 0) (by omega) hself4 ha hi4 hs4) (aligned_of0 hf (me := 0) (by omega) hself4 hs4 hpl4 hfr4 z1 z2)) (fun x A' hx => by obtain ⟨⟨_, _, _, q⟩, _⟩ := hx; exact ⟨x, q.fr.told⟩) fun c c' A5 s5 hx5 ht5 hR5 => ?_
    obtain ⟨⟨hb5, held5, live5, Q5⟩, hat5, hn5, he5, hw5⟩ := hx5
    obtain ⟨x5, _, hheld5, hlive5, hnx5, _⟩ := got Q5 hat5 he5
    simp only
    refine Yes.yes (by rw [hrf]; rfl) ?_
    refine Yes.yes (by rw [hrf]; simp only [beq_iff_eq]; omega) ?_
    refine Yes.yes (by rw [he5]; rfl) ?_
    refine Yes.yes (by rw [hat5]; rfl) ?_
    refine Yes.yes (by rw [hn5, hn2]; simp) ?_
    rw [hat5]
    have hb5' : A5.b.length ≤ 1000000 := by rw [hb5, hA4]; exact hb3'
    have hl5 : live5 0 = some size.toNat := by rw [hlive5, updS_self]
    have hlh5 : ∀ g z, live5 g = some z → ∃ x, held5 g = some x := by
      intro g z hg
      by_cases h : g = 0
      · subst h; exact ⟨x5, by rw [hheld5]; exact upd_self _ _ _⟩
      · rw [hlive5, updS_ne _ _ h, updS_ne _ _ h, hlive2, updS_ne _ _ h] at hg; cases hg
    have hself5 : A5.self = ((0 : Nat) : Int) := by rw [Q5.fr.self]; exact hself4
    refine Yes.vR (ok_with hf hR5 hb5') (hR5.with ht5) (run_afree hf (me := 0) (by omega) hself5 Q5.heap Q5.states hlh5) (fun x A' hx => ⟨x, hx.2.1.told⟩) fun f6 f6' A6 s6 hx6 ht6 hR6 => ?_
    obtain ⟨hb6, hft6, _, hres6⟩ := hx6
    rcases hres6 with ⟨_, _, _, hno⟩ | ⟨g', z, hag, hlz, hrf6, _, _, hi6, hs6⟩
    · exact absurd rfl (hno 0 _ hl5)
    obtain rfl : g' = 0 := by omega
    simp only
    refine Yes.yes (by rw [hrf6]; rfl) ?_
    have hnone : upd held5 0 none = fun _ => none := by
      funext q
      by_cases h : q = 0
      · subst h; exact upd_self _ _ _
      · rw [upd_ne _ _ h, hheld5, upd_ne _ _ h, upd_ne _ _ h, hheld2, upd_ne _ _ h]
    rw [hnone] at hi6
    have hb6' : A6.b.length ≤ 1000000 := by rw [hb6]; exact hb5'
    have hself6 : A6.self = ((0 : Nat) : Int) := by rw [hft6.self]; exact hself5
    refine Yes.vR (ok_with hf hR6 hb6') (hR6.with ht6) (run_trimW hf (me := 0) (by omega) hself6 hi6) (fun x A' hx => ⟨f6', by rw [hx.2.2.2.told]; exact ht6⟩) fun r7 r7' A7 s7 hx7 ht7 hR7 => ?_
    obtain ⟨rfl, _, hW7, hfr7⟩ := hx7
    simp only
    refine Yes.yes rfl ?_
    refine Yes.run (whole_yes hf hR7 hW7 (by rw [hR7.bytes, hfr7.b]; exact hb6')) ?_
    exact Yes.yes rfl Yes.ret
  · refine Yes.vR hok1 hR1 (run_aligned hf (me := 0) (by omega) rfl ha hi0 hs0) (fun x A' hx => by obtain ⟨_, _, _, q⟩ := hx; exact ⟨x, q.fr.told⟩) fun a a' A2 s2 hx ht2 hR2 => ?_
    obtain ⟨hb2, held2, live2, Q2⟩ := hx
    have he : a.e = 11 := by
      rcases Q2.res with ⟨_, _, _, hc⟩ | ⟨g, x, hr, hg, hh, hl', h1, h2, _, hroom⟩
      · rcases hc with ⟨h, _⟩ | ⟨h1, h2, _⟩
        · exact h
        · exact absurd ⟨h1, h2⟩ hsz
      · exact absurd ⟨h1, h2⟩ hsz
    simp only
    by_cases hlo : size < 1
    · exact Yes.yes (decide_eq_true hlo) (Yes.yes (by rw [he]; rfl) Yes.ret)
    · refine Yes.no (decide_eq_false hlo) ?_
      exact Yes.yes (by rw [e64]; exact decide_eq_true (by omega)) (Yes.yes (by rw [he]; rfl) Yes.ret)
theorem allocRound_any {pages size power : Int} (h0 : 0 ≤ pages) (h1 : pages ≤ 255) (hp : 0 ≤ power) (w : World) :
    Calls Tryz.prog 4 #[.int .u8 pages, .int .i64 size, .int .u8 power] w fun e w' => e = .returned (.bool true) ∧ Below w.heap.size w w' :=
  calls_flat (s_m_roT s_kh1) (args := [.c (.int .u8 pages), .c (.int .i64 size), .c (.int .u8 power)]) rfl rfl (ro_yes h0 h1 hp) rfl (fun e => rfl) w
end Go.Proofs.YtaegelbaghaooaaGreat
