/- AllocPlace: the tree's end. (the tree's text out of XQPl) -/
import Derived.Test.YtaegelbaghaooaaGreatApPYes
import Derived.Test.YtaegelbaghaooaaGreatApM9
import Derived.Test.YtaegelbaghaooaaGreatApQPl
set_option linter.unusedSimpArgs false
set_option linter.unusedVariables false
namespace Go.Proofs.YtaegelbaghaooaaGreat
open Go Go.RowKit Lx
set_option linter.unusedVariables false
set_option linter.unusedSectionVars false
set_option maxRecDepth 100000
def restT (r0 : Geo × Bool) (r4 r7 : Unit × DS) (size align : Int) : T Bool :=
          (vN (okS (List.length r4.snd.m.words) (List.length r4.snd.m.words) (List.length r4.snd.m.bytes) (List.length r4.snd.m.bytes) r4.snd.m.words r4.snd.m.bytes) (placeT r0.fst size align) (DS.mk (Mem.mk r4.snd.m.words r4.snd.m.bytes) 0 0 none)).bind fun r9 =>
           (vR (okS (List.length r7.snd.m.words) (List.length r7.snd.m.words) (List.length r7.snd.m.bytes) (List.length r7.snd.m.bytes) r7.snd.m.words r7.snd.m.bytes) (alignedT r0.fst align size) (DS.mk (Mem.mk r7.snd.m.words r7.snd.m.bytes) 0 0 none)).bind fun r10 =>
            bif r9.fst.snd.2 != r10.fst.e then (T.ret (false)) else
             bif r9.fst.snd.2 != 0 then (bif r9.fst.1 == 0 then (bif r9.fst.snd.1 == 0 then (T.ret (true)) else
                T.ret (false)) else
               T.ret (false)) else
              bif IntKind.wrap IntKind.i64 (8 * r9.fst.1) != r10.fst.at_ then (T.ret (false)) else
               bif r9.fst.snd.1 != r10.fst.n then (T.ret (false)) else
                bif decide (r9.fst.snd.1 < size) then (T.ret (false)) else
                 bif bif align == 0 then false else true then (bif Int.tmod (IntKind.wrap IntKind.i64 (8 * r9.fst.1)) align != 0 then (T.ret (false)) else
                   bif decide (IntKind.wrap IntKind.i64 (IntKind.wrap IntKind.i64 (8 * r9.fst.1) + r9.fst.snd.1) > IntKind.wrap IntKind.i64 (64 * r0.1.pages)) then (T.ret (false)) else
                    (vR (okS (List.length r9.snd.m.words) (List.length r9.snd.m.words) (List.length r9.snd.m.bytes) (List.length r9.snd.m.bytes) r9.snd.m.words r9.snd.m.bytes) (afreeT r0.fst (IntKind.wrap IntKind.i64 (8 * r9.fst.fst))) (DS.mk (Mem.mk r9.snd.m.words r9.snd.m.bytes) r9.snd.self r9.snd.steps none)).bind fun r19 =>
                     bif r19.fst.e != 13 then (T.ret (false)) else
                      (vR (okS (List.length r19.snd.snd.m.words) (List.length r19.snd.snd.m.words) (List.length r19.snd.snd.m.bytes) (List.length r19.snd.snd.m.bytes) r19.snd.snd.m.words r19.snd.snd.m.bytes) (mallocT r0.fst 1) (DS.mk (Mem.mk r19.snd.snd.m.words r19.snd.snd.m.bytes) r19.snd.snd.self r19.snd.snd.steps (some (Res.cells r19.snd.fst)))).bind fun r21 =>
                       bif r21.fst.e == 0 then (bif decide (r21.fst.at_ < IntKind.wrap IntKind.i64 (IntKind.wrap IntKind.i64 (8 * r9.fst.1) + r9.fst.snd.1)) then (bif decide (IntKind.wrap IntKind.i64 (8 * r9.fst.1) < IntKind.wrap IntKind.i64 (r21.fst.at_ + r21.fst.n)) then (T.ret (false)) else
                          (vR (okS (List.length r21.snd.snd.m.words) (List.length r21.snd.snd.m.words) (List.length r21.snd.snd.m.bytes) (List.length r21.snd.snd.m.bytes) r21.snd.snd.m.words r21.snd.snd.m.bytes) (releaseT r0.fst r9.fst.fst) (DS.mk (Mem.mk r21.snd.snd.m.words r21.snd.snd.m.bytes) r21.snd.snd.self r21.snd.snd.steps (some (Res.cells r21.snd.fst)))).bind fun r25 =>
                           bif r21.fst.e == 0 then ((vR (okS (List.length r25.snd.snd.m.words) (List.length r25.snd.snd.m.words) (List.length r25.snd.snd.m.bytes) (List.length r25.snd.snd.m.bytes) r25.snd.snd.m.words r25.snd.snd.m.bytes) (afreeT r0.fst r21.fst.at_) (DS.mk (Mem.mk r25.snd.snd.m.words r25.snd.snd.m.bytes) r25.snd.snd.self r25.snd.snd.steps (some (Res.cells r25.snd.fst)))).bind fun r27 =>
                             bif r27.fst.e != 0 then (T.ret (false)) else
                              (vR (okS (List.length r27.snd.snd.m.words) (List.length r27.snd.snd.m.words) (List.length r27.snd.snd.m.bytes) (List.length r27.snd.snd.m.bytes) r27.snd.snd.m.words r27.snd.snd.m.bytes) (trimT r0.fst) (DS.mk (Mem.mk r27.snd.snd.m.words r27.snd.snd.m.bytes) r27.snd.snd.self r27.snd.snd.steps (some (Res.cells r27.snd.fst)))).bind fun r29 =>
                               bif r29.fst == 0 then (T.ret (true)) else
                                T.ret (false)) else
                            (vR (okS (List.length r25.snd.snd.m.words) (List.length r25.snd.snd.m.words) (List.length r25.snd.snd.m.bytes) (List.length r25.snd.snd.m.bytes) r25.snd.snd.m.words r25.snd.snd.m.bytes) (trimT r0.fst) (DS.mk (Mem.mk r25.snd.snd.m.words r25.snd.snd.m.bytes) r25.snd.snd.self r25.snd.snd.steps (some (Res.cells r25.snd.fst)))).bind fun r27 =>
                             bif r27.fst == 0 then (T.ret (true)) else
                              T.ret (false)) else
                         (vR (okS (List.length r21.snd.snd.m.words) (List.length r21.snd.snd.m.words) (List.length r21.snd.snd.m.bytes) (List.length r21.snd.snd.m.bytes) r21.snd.snd.m.words r21.snd.snd.m.bytes) (releaseT r0.fst r9.fst.fst) (DS.mk (Mem.mk r21.snd.snd.m.words r21.snd.snd.m.bytes) r21.snd.snd.self r21.snd.snd.steps (some (Res.cells r21.snd.fst)))).bind fun r24 =>
                          bif r21.fst.e == 0 then ((vR (okS (List.length r24.snd.snd.m.words) (List.length r24.snd.snd.m.words) (List.length r24.snd.snd.m.bytes) (List.length r24.snd.snd.m.bytes) r24.snd.snd.m.words r24.snd.snd.m.bytes) (afreeT r0.fst r21.fst.at_) (DS.mk (Mem.mk r24.snd.snd.m.words r24.snd.snd.m.bytes) r24.snd.snd.self r24.snd.snd.steps (some (Res.cells r24.snd.fst)))).bind fun r26 =>
                            bif r26.fst.e != 0 then (T.ret (false)) else
                             (vR (okS (List.length r26.snd.snd.m.words) (List.length r26.snd.snd.m.words) (List.length r26.snd.snd.m.bytes) (List.length r26.snd.snd.m.bytes) r26.snd.snd.m.words r26.snd.snd.m.bytes) (trimT r0.fst) (DS.mk (Mem.mk r26.snd.snd.m.words r26.snd.snd.m.bytes) r26.snd.snd.self r26.snd.snd.steps (some (Res.cells r26.snd.fst)))).bind fun r28 =>
                              bif r28.fst == 0 then (T.ret (true)) else
                               T.ret (false)) else
                           (vR (okS (List.length r24.snd.snd.m.words) (List.length r24.snd.snd.m.words) (List.length r24.snd.snd.m.bytes) (List.length r24.snd.snd.m.bytes) r24.snd.snd.m.words r24.snd.snd.m.bytes) (trimT r0.fst) (DS.mk (Mem.mk r24.snd.snd.m.words r24.snd.snd.m.bytes) r24.snd.snd.self r24.snd.snd.steps (some (Res.cells r24.snd.fst)))).bind fun r26 =>
                            bif r26.fst == 0 then (T.ret (true)) else
                             T.ret (false)) else
                        (vR (okS (List.length r21.snd.snd.m.words) (List.length r21.snd.snd.m.words) (List.length r21.snd.snd.m.bytes) (List.length r21.snd.snd.m.bytes) r21.snd.snd.m.words r21.snd.snd.m.bytes) (releaseT r0.fst r9.fst.fst) (DS.mk (Mem.mk r21.snd.snd.m.words r21.snd.snd.m.bytes) r21.snd.snd.self r21.snd.snd.steps (some (Res.cells r21.snd.fst)))).bind fun r23 =>
                         bif r21.fst.e == 0 then ((vR (okS (List.length r23.snd.snd.m.words) (List.length r23.snd.snd.m.words) (List.length r23.snd.snd.m.bytes) (List.length r23.snd.snd.m.bytes) r23.snd.snd.m.words r23.snd.snd.m.bytes) (afreeT r0.fst r21.fst.at_) (DS.mk (Mem.mk r23.snd.snd.m.words r23.snd.snd.m.bytes) r23.snd.snd.self r23.snd.snd.steps (some (Res.cells r23.snd.fst)))).bind fun r25 =>
                           bif r25.fst.e != 0 then (T.ret (false)) else
                            (vR (okS (List.length r25.snd.snd.m.words) (List.length r25.snd.snd.m.words) (List.length r25.snd.snd.m.bytes) (List.length r25.snd.snd.m.bytes) r25.snd.snd.m.words r25.snd.snd.m.bytes) (trimT r0.fst) (DS.mk (Mem.mk r25.snd.snd.m.words r25.snd.snd.m.bytes) r25.snd.snd.self r25.snd.snd.steps (some (Res.cells r25.snd.fst)))).bind fun r27 =>
                             bif r27.fst == 0 then (T.ret (true)) else
                              T.ret (false)) else
                          (vR (okS (List.length r23.snd.snd.m.words) (List.length r23.snd.snd.m.words) (List.length r23.snd.snd.m.bytes) (List.length r23.snd.snd.m.bytes) r23.snd.snd.m.words r23.snd.snd.m.bytes) (trimT r0.fst) (DS.mk (Mem.mk r23.snd.snd.m.words r23.snd.snd.m.bytes) r23.snd.snd.self r23.snd.snd.steps (some (Res.cells r23.snd.fst)))).bind fun r25 =>
                           bif r25.fst == 0 then (T.ret (true)) else
                            T.ret (false)) else
                  .fail
def tailT (r0 : Geo × Bool) (k : Int) (r21 : Res × Res × DS) : T Bool :=
                          (vR (okS (List.length r21.snd.snd.m.words) (List.length r21.snd.snd.m.words) (List.length r21.snd.snd.m.bytes) (List.length r21.snd.snd.m.bytes) r21.snd.snd.m.words r21.snd.snd.m.bytes) (releaseT r0.fst k) (DS.mk (Mem.mk r21.snd.snd.m.words r21.snd.snd.m.bytes) r21.snd.snd.self r21.snd.snd.steps (some (Res.cells r21.snd.fst)))).bind fun r23 =>
                         bif r21.fst.e == 0 then ((vR (okS (List.length r23.snd.snd.m.words) (List.length r23.snd.snd.m.words) (List.length r23.snd.snd.m.bytes) (List.length r23.snd.snd.m.bytes) r23.snd.snd.m.words r23.snd.snd.m.bytes) (afreeT r0.fst r21.fst.at_) (DS.mk (Mem.mk r23.snd.snd.m.words r23.snd.snd.m.bytes) r23.snd.snd.self r23.snd.snd.steps (some (Res.cells r23.snd.fst)))).bind fun r25 =>
                           bif r25.fst.e != 0 then (T.ret (false)) else
                            (vR (okS (List.length r25.snd.snd.m.words) (List.length r25.snd.snd.m.words) (List.length r25.snd.snd.m.bytes) (List.length r25.snd.snd.m.bytes) r25.snd.snd.m.words r25.snd.snd.m.bytes) (trimT r0.fst) (DS.mk (Mem.mk r25.snd.snd.m.words r25.snd.snd.m.bytes) r25.snd.snd.self r25.snd.snd.steps (some (Res.cells r25.snd.fst)))).bind fun r27 =>
                             bif r27.fst == 0 then (T.ret (true)) else
                              T.ret (false)) else
                          (vR (okS (List.length r23.snd.snd.m.words) (List.length r23.snd.snd.m.words) (List.length r23.snd.snd.m.bytes) (List.length r23.snd.snd.m.bytes) r23.snd.snd.m.words r23.snd.snd.m.bytes) (trimT r0.fst) (DS.mk (Mem.mk r23.snd.snd.m.words r23.snd.snd.m.bytes) r23.snd.snd.self r23.snd.snd.steps (some (Res.cells r23.snd.fst)))).bind fun r25 =>
                           bif r25.fst == 0 then (T.ret (true)) else
                            T.ret (false)
theorem Rep.parts {n t : Nat} {A : AS} {s : DS} (h : Rep n t A s) {o : Option (List C)} (ho : A.told = o) : Rep n t A ⟨⟨s.m.words, s.m.bytes⟩, s.self, s.steps, o⟩ := ⟨h.len, h.row, h.bytes, h.self, h.steps, ho.symm⟩
theorem ok_parts {n t : Nat} {A : AS} {s : DS} (hf : Small n t) (h : Rep n t A s) (hb : A.b.length ≤ 1000000) : okS s.m.words.length s.m.words.length s.m.bytes.length s.m.bytes.length s.m.words s.m.bytes = true := okS_rep hf.toFew h hb
theorem tail_yes {n k : Nat} (hf : Small n 1) {A : AS} {s : DS} {res r : Res} {held : Nat → Option HK} {live : Nat → Option Nat} {x : HK} (hR : Rep n 1 A s) (ht : A.told = some r.cells) (hb : A.b.length ≤ 1000000) (hself : A.self = ((0 : Nat) : Int)) (hi : HInv n 1 A held) (hs : SI n 1 A live) (hg : held k = some x)
    (hl : (res.e ≠ 0 ∧ live = fun _ => none) ∨ (res.e = 0 ∧ ∃ (g : Nat) (y : HK) (z : Nat), g ≠ k ∧ res.at_ = ((8 * g : Nat) : Int) ∧ held g = some y ∧ live = updS (fun _ => none) g (some z))) : Yes (tailT (mkGeo n 1, true) (k : Int) (res, r, s)) := by
  unfold tailT
  refine Yes.vR (ok_parts hf hR hb) (hR.parts ht) (run_release hf (by omega) hself hi hg) (fun _ A' h => ⟨r, by rw [h.2.1.told, ht]⟩) fun _ r2 A2 s2 h2 ht2 hR2 => ?_
  obtain ⟨hi2, hfr2, _⟩ := h2
  have hb2 : A2.b.length ≤ 1000000 := by rw [hfr2.b]; exact hb
  have hs2 : A2.self = ((0 : Nat) : Int) := by rw [hfr2.self, hself]
  have hS2 : SI n 1 A2 live := hs.fr hfr2 (by unfold relR; simp)
  have trim : ∀ (A3 : AS) (s3 : DS) (r3 : Res) (held3 : Nat → Option HK), Rep n 1 A3 s3 → A3.told = some r3.cells → A3.b.length ≤ 1000000 → A3.self = ((0 : Nat) : Int) → HInv n 1 A3 held3 →
      Yes ((vR (okS s3.m.words.length s3.m.words.length s3.m.bytes.length s3.m.bytes.length s3.m.words s3.m.bytes) (trimT (mkGeo n 1)) ⟨⟨s3.m.words, s3.m.bytes⟩, s3.self, s3.steps, some r3.cells⟩).bind fun r27 => bif r27.fst == 0 then T.ret true else T.ret false) := by
    intro A3 s3 r3 held3 q1 q2 q3 q4 q5
    refine Yes.vR (ok_parts hf q1 q3) (q1.parts q2) (run_trim hf (by omega) q4 q5) (fun _ A' h => ⟨r3, by rw [h.2.2.1.told, q2]⟩) fun x4 r4 A4 s4 h4 _ _ => ?_
    exact Yes.yes (by rw [h4.1]; rfl) Yes.ret
  rcases hl with ⟨he, rfl⟩ | ⟨he, g, y, z, hne, hat, hy, rfl⟩
  · refine Yes.no (by simpa using he) ?_
    exact trim A2 s2 r2 _ hR2 ht2 hb2 hs2 hi2
  · refine Yes.yes (by simpa using he) ?_
    simp only [hat]
    have hlh : ∀ q w, updS (fun _ => none) g (some z) q = some w → ∃ x, upd held k none q = some x := fun q w hq => by
      by_cases hqg : q = g
      · subst hqg; exact ⟨y, by rw [upd_ne _ _ hne]; exact hy⟩
      · rw [updS_ne _ _ hqg] at hq; cases hq
    refine Yes.vR (ok_parts hf hR2 hb2) (hR2.parts ht2) (run_afree hf (by omega) hs2 hi2 hS2 hlh) (fun _ A' h => ⟨_, h.2.1.told⟩) fun r3 r3' A3 s3 h3 ht3 hR3 => ?_
    obtain ⟨q1, q2, _, q4⟩ := h3
    rcases q4 with ⟨_, _, _, q5⟩ | ⟨g', z', q5, q6, q7, _, _, q8, q9⟩
    · exact absurd rfl (q5 g z (updS_self _ _ _))
    · refine Yes.no (by rw [q7]; rfl) ?_
      exact trim A3 s3 r3' _ hR3 ht3 (by rw [q1]; exact hb2) (by rw [q2.self, hs2]) q8
end Go.Proofs.YtaegelbaghaooaaGreat
