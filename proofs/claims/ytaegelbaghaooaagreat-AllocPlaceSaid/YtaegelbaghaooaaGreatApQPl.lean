/- Summaries: AllocPlace. (trees printed by program, wip/auto.py) -/
import Derived.Test.YtaegelbaghaooaaGreatApQKv
import Derived.WalkKit
set_option linter.unusedSimpArgs false
set_option linter.unusedVariables false
namespace Go.Proofs.YtaegelbaghaooaaGreat.Lx
open Go
set_option maxRecDepth 1000000
set_option linter.unusedVariables false

def plTK {β : Type} (pages : Int) (size : Int) (align : Int) (power : Int) (raw : Bool) (κ : Bool → T β) : T β :=
  (newT (IntKind.wrap IntKind.i64 (1 + IntKind.wrap IntKind.i64 (Int.tmod pages 5))) 1).bind fun r0 =>
  bif !r0.2 then (κ (false)) else
   (guardT (decide (0 ≤ r0.fst.b19 ∧ r0.fst.b19 ≤ 1000000 ∧ 0 ≤ IntKind.wrap IntKind.i64 (r0.fst.pages * 64) ∧ IntKind.wrap IntKind.i64 (r0.fst.pages * 64) ≤ 1000000))).bind fun r2 =>
    (vN (okS (Int.toNat r0.fst.b19) (Int.toNat r0.fst.b19) (Int.toNat (IntKind.wrap IntKind.i64 (r0.fst.pages * 64))) (Int.toNat (IntKind.wrap IntKind.i64 (r0.fst.pages * 64))) (List.replicate (Int.toNat r0.fst.b19) 0) (List.replicate (Int.toNat (IntKind.wrap IntKind.i64 (r0.fst.pages * 64))) 0)) (pinitT r0.fst) (DS.mk (Mem.mk (List.replicate (Int.toNat r0.fst.b19) 0) (List.replicate (Int.toNat (IntKind.wrap IntKind.i64 (r0.fst.pages * 64))) 0)) 0 0 none)).bind fun r3 =>
     (vN (okS (List.length r3.snd.m.words) (List.length r3.snd.m.words) (List.length r3.snd.m.bytes) (List.length r3.snd.m.bytes) r3.snd.m.words r3.snd.m.bytes) (rinitT r0.fst) (DS.mk (Mem.mk r3.snd.m.words r3.snd.m.bytes) 0 0 none)).bind fun r4 =>
      (guardT (decide (0 ≤ r0.fst.b19 ∧ r0.fst.b19 ≤ 1000000 ∧ 0 ≤ IntKind.wrap IntKind.i64 (r0.fst.pages * 64) ∧ IntKind.wrap IntKind.i64 (r0.fst.pages * 64) ≤ 1000000))).bind fun r5 =>
       (vN (okS (Int.toNat r0.fst.b19) (Int.toNat r0.fst.b19) (Int.toNat (IntKind.wrap IntKind.i64 (r0.fst.pages * 64))) (Int.toNat (IntKind.wrap IntKind.i64 (r0.fst.pages * 64))) (List.replicate (Int.toNat r0.fst.b19) 0) (List.replicate (Int.toNat (IntKind.wrap IntKind.i64 (r0.fst.pages * 64))) 0)) (pinitT r0.fst) (DS.mk (Mem.mk (List.replicate (Int.toNat r0.fst.b19) 0) (List.replicate (Int.toNat (IntKind.wrap IntKind.i64 (r0.fst.pages * 64))) 0)) 0 0 none)).bind fun r6 =>
        (vN (okS (List.length r6.snd.m.words) (List.length r6.snd.m.words) (List.length r6.snd.m.bytes) (List.length r6.snd.m.bytes) r6.snd.m.words r6.snd.m.bytes) (rinitT r0.fst) (DS.mk (Mem.mk r6.snd.m.words r6.snd.m.bytes) 0 0 none)).bind fun r7 =>
         bif !raw then (bif bif decide (Int.tmod power 9 < 0) then false else true then ((vN (okS (List.length r4.snd.m.words) (List.length r4.snd.m.words) (List.length r4.snd.m.bytes) (List.length r4.snd.m.bytes) r4.snd.m.words r4.snd.m.bytes) (placeT r0.fst size (IntKind.wrap IntKind.i64 (1 * 2 ^ min (Int.toNat (Int.tmod power 9)) (IntKind.bits IntKind.i64)))) (DS.mk (Mem.mk r4.snd.m.words r4.snd.m.bytes) 0 0 none)).bind fun r10 =>
            (vR (okS (List.length r7.snd.m.words) (List.length r7.snd.m.words) (List.length r7.snd.m.bytes) (List.length r7.snd.m.bytes) r7.snd.m.words r7.snd.m.bytes) (alignedT r0.fst (IntKind.wrap IntKind.i64 (1 * 2 ^ min (Int.toNat (Int.tmod power 9)) (IntKind.bits IntKind.i64))) size) (DS.mk (Mem.mk r7.snd.m.words r7.snd.m.bytes) 0 0 none)).bind fun r11 =>
             bif r10.fst.snd.2 != r11.fst.e then (κ (false)) else
              bif r10.fst.snd.2 != 0 then (bif r10.fst.1 == 0 then (bif r10.fst.snd.1 == 0 then (κ (true)) else
                 κ (false)) else
                κ (false)) else
               bif IntKind.wrap IntKind.i64 (8 * r10.fst.1) != r11.fst.at_ then (κ (false)) else
                bif r10.fst.snd.1 != r11.fst.n then (κ (false)) else
                 bif decide (r10.fst.snd.1 < size) then (κ (false)) else
                  bif bif IntKind.wrap IntKind.i64 (1 * 2 ^ if Int.toNat (Int.tmod power 9) ≤ 64 then Int.toNat (Int.tmod power 9) else 64) == 0 then false else true then (bif Int.tmod (IntKind.wrap IntKind.i64 (8 * r10.fst.1)) (IntKind.wrap IntKind.i64 (1 * 2 ^ if Int.toNat (Int.tmod power 9) ≤ 64 then Int.toNat (Int.tmod power 9) else 64)) != 0 then (κ (false)) else
                    bif decide (IntKind.wrap IntKind.i64 (IntKind.wrap IntKind.i64 (8 * r10.fst.1) + r10.fst.snd.1) > IntKind.wrap IntKind.i64 (64 * r0.1.pages)) then (κ (false)) else
                     (vR (okS (List.length r10.snd.m.words) (List.length r10.snd.m.words) (List.length r10.snd.m.bytes) (List.length r10.snd.m.bytes) r10.snd.m.words r10.snd.m.bytes) (afreeT r0.fst (IntKind.wrap IntKind.i64 (8 * r10.fst.fst))) (DS.mk (Mem.mk r10.snd.m.words r10.snd.m.bytes) r10.snd.self r10.snd.steps none)).bind fun r20 =>
                      bif r20.fst.e != 13 then (κ (false)) else
                       (vR (okS (List.length r20.snd.snd.m.words) (List.length r20.snd.snd.m.words) (List.length r20.snd.snd.m.bytes) (List.length r20.snd.snd.m.bytes) r20.snd.snd.m.words r20.snd.snd.m.bytes) (mallocT r0.fst 1) (DS.mk (Mem.mk r20.snd.snd.m.words r20.snd.snd.m.bytes) r20.snd.snd.self r20.snd.snd.steps (some (Res.cells r20.snd.fst)))).bind fun r22 =>
                        bif r22.fst.e == 0 then (bif decide (r22.fst.at_ < IntKind.wrap IntKind.i64 (IntKind.wrap IntKind.i64 (8 * r10.fst.1) + r10.fst.snd.1)) then (bif decide (IntKind.wrap IntKind.i64 (8 * r10.fst.1) < IntKind.wrap IntKind.i64 (r22.fst.at_ + r22.fst.n)) then (κ (false)) else
                           (vR (okS (List.length r22.snd.snd.m.words) (List.length r22.snd.snd.m.words) (List.length r22.snd.snd.m.bytes) (List.length r22.snd.snd.m.bytes) r22.snd.snd.m.words r22.snd.snd.m.bytes) (releaseT r0.fst r10.fst.fst) (DS.mk (Mem.mk r22.snd.snd.m.words r22.snd.snd.m.bytes) r22.snd.snd.self r22.snd.snd.steps (some (Res.cells r22.snd.fst)))).bind fun r26 =>
                            bif r22.fst.e == 0 then ((vR (okS (List.length r26.snd.snd.m.words) (List.length r26.snd.snd.m.words) (List.length r26.snd.snd.m.bytes) (List.length r26.snd.snd.m.bytes) r26.snd.snd.m.words r26.snd.snd.m.bytes) (afreeT r0.fst r22.fst.at_) (DS.mk (Mem.mk r26.snd.snd.m.words r26.snd.snd.m.bytes) r26.snd.snd.self r26.snd.snd.steps (some (Res.cells r26.snd.fst)))).bind fun r28 =>
                              bif r28.fst.e != 0 then (κ (false)) else
                               (vR (okS (List.length r28.snd.snd.m.words) (List.length r28.snd.snd.m.words) (List.length r28.snd.snd.m.bytes) (List.length r28.snd.snd.m.bytes) r28.snd.snd.m.words r28.snd.snd.m.bytes) (trimT r0.fst) (DS.mk (Mem.mk r28.snd.snd.m.words r28.snd.snd.m.bytes) r28.snd.snd.self r28.snd.snd.steps (some (Res.cells r28.snd.fst)))).bind fun r30 =>
                                bif r30.fst == 0 then (κ (true)) else
                                 κ (false)) else
                             (vR (okS (List.length r26.snd.snd.m.words) (List.length r26.snd.snd.m.words) (List.length r26.snd.snd.m.bytes) (List.length r26.snd.snd.m.bytes) r26.snd.snd.m.words r26.snd.snd.m.bytes) (trimT r0.fst) (DS.mk (Mem.mk r26.snd.snd.m.words r26.snd.snd.m.bytes) r26.snd.snd.self r26.snd.snd.steps (some (Res.cells r26.snd.fst)))).bind fun r28 =>
                              bif r28.fst == 0 then (κ (true)) else
                               κ (false)) else
                          (vR (okS (List.length r22.snd.snd.m.words) (List.length r22.snd.snd.m.words) (List.length r22.snd.snd.m.bytes) (List.length r22.snd.snd.m.bytes) r22.snd.snd.m.words r22.snd.snd.m.bytes) (releaseT r0.fst r10.fst.fst) (DS.mk (Mem.mk r22.snd.snd.m.words r22.snd.snd.m.bytes) r22.snd.snd.self r22.snd.snd.steps (some (Res.cells r22.snd.fst)))).bind fun r25 =>
                           bif r22.fst.e == 0 then ((vR (okS (List.length r25.snd.snd.m.words) (List.length r25.snd.snd.m.words) (List.length r25.snd.snd.m.bytes) (List.length r25.snd.snd.m.bytes) r25.snd.snd.m.words r25.snd.snd.m.bytes) (afreeT r0.fst r22.fst.at_) (DS.mk (Mem.mk r25.snd.snd.m.words r25.snd.snd.m.bytes) r25.snd.snd.self r25.snd.snd.steps (some (Res.cells r25.snd.fst)))).bind fun r27 =>
                             bif r27.fst.e != 0 then (κ (false)) else
                              (vR (okS (List.length r27.snd.snd.m.words) (List.length r27.snd.snd.m.words) (List.length r27.snd.snd.m.bytes) (List.length r27.snd.snd.m.bytes) r27.snd.snd.m.words r27.snd.snd.m.bytes) (trimT r0.fst) (DS.mk (Mem.mk r27.snd.snd.m.words r27.snd.snd.m.bytes) r27.snd.snd.self r27.snd.snd.steps (some (Res.cells r27.snd.fst)))).bind fun r29 =>
                               bif r29.fst == 0 then (κ (true)) else
                                κ (false)) else
                            (vR (okS (List.length r25.snd.snd.m.words) (List.length r25.snd.snd.m.words) (List.length r25.snd.snd.m.bytes) (List.length r25.snd.snd.m.bytes) r25.snd.snd.m.words r25.snd.snd.m.bytes) (trimT r0.fst) (DS.mk (Mem.mk r25.snd.snd.m.words r25.snd.snd.m.bytes) r25.snd.snd.self r25.snd.snd.steps (some (Res.cells r25.snd.fst)))).bind fun r27 =>
                             bif r27.fst == 0 then (κ (true)) else
                              κ (false)) else
                         (vR (okS (List.length r22.snd.snd.m.words) (List.length r22.snd.snd.m.words) (List.length r22.snd.snd.m.bytes) (List.length r22.snd.snd.m.bytes) r22.snd.snd.m.words r22.snd.snd.m.bytes) (releaseT r0.fst r10.fst.fst) (DS.mk (Mem.mk r22.snd.snd.m.words r22.snd.snd.m.bytes) r22.snd.snd.self r22.snd.snd.steps (some (Res.cells r22.snd.fst)))).bind fun r24 =>
                          bif r22.fst.e == 0 then ((vR (okS (List.length r24.snd.snd.m.words) (List.length r24.snd.snd.m.words) (List.length r24.snd.snd.m.bytes) (List.length r24.snd.snd.m.bytes) r24.snd.snd.m.words r24.snd.snd.m.bytes) (afreeT r0.fst r22.fst.at_) (DS.mk (Mem.mk r24.snd.snd.m.words r24.snd.snd.m.bytes) r24.snd.snd.self r24.snd.snd.steps (some (Res.cells r24.snd.fst)))).bind fun r26 =>
                            bif r26.fst.e != 0 then (κ (false)) else
                             (vR (okS (List.length r26.snd.snd.m.words) (List.length r26.snd.snd.m.words) (List.length r26.snd.snd.m.bytes) (List.length r26.snd.snd.m.bytes) r26.snd.snd.m.words r26.snd.snd.m.bytes) (trimT r0.fst) (DS.mk (Mem.mk r26.snd.snd.m.words r26.snd.snd.m.bytes) r26.snd.snd.self r26.snd.snd.steps (some (Res.cells r26.snd.fst)))).bind fun r28 =>
                              bif r28.fst == 0 then (κ (true)) else
                               κ (false)) else
                           (vR (okS (List.length r24.snd.snd.m.words) (List.length r24.snd.snd.m.words) (List.length r24.snd.snd.m.bytes) (List.length r24.snd.snd.m.bytes) r24.snd.snd.m.words r24.snd.snd.m.bytes) (trimT r0.fst) (DS.mk (Mem.mk r24.snd.snd.m.words r24.snd.snd.m.bytes) r24.snd.snd.self r24.snd.snd.steps (some (Res.cells r24.snd.fst)))).bind fun r26 =>
                            bif r26.fst == 0 then (κ (true)) else
                             κ (false)) else
                   .fail) else
           .fail) else
          (vN (okS (List.length r4.snd.m.words) (List.length r4.snd.m.words) (List.length r4.snd.m.bytes) (List.length r4.snd.m.bytes) r4.snd.m.words r4.snd.m.bytes) (placeT r0.fst size align) (DS.mk (Mem.mk r4.snd.m.words r4.snd.m.bytes) 0 0 none)).bind fun r9 =>
           (vR (okS (List.length r7.snd.m.words) (List.length r7.snd.m.words) (List.length r7.snd.m.bytes) (List.length r7.snd.m.bytes) r7.snd.m.words r7.snd.m.bytes) (alignedT r0.fst align size) (DS.mk (Mem.mk r7.snd.m.words r7.snd.m.bytes) 0 0 none)).bind fun r10 =>
            bif r9.fst.snd.2 != r10.fst.e then (κ (false)) else
             bif r9.fst.snd.2 != 0 then (bif r9.fst.1 == 0 then (bif r9.fst.snd.1 == 0 then (κ (true)) else
                κ (false)) else
               κ (false)) else
              bif IntKind.wrap IntKind.i64 (8 * r9.fst.1) != r10.fst.at_ then (κ (false)) else
               bif r9.fst.snd.1 != r10.fst.n then (κ (false)) else
                bif decide (r9.fst.snd.1 < size) then (κ (false)) else
                 bif bif align == 0 then false else true then (bif Int.tmod (IntKind.wrap IntKind.i64 (8 * r9.fst.1)) align != 0 then (κ (false)) else
                   bif decide (IntKind.wrap IntKind.i64 (IntKind.wrap IntKind.i64 (8 * r9.fst.1) + r9.fst.snd.1) > IntKind.wrap IntKind.i64 (64 * r0.1.pages)) then (κ (false)) else
                    (vR (okS (List.length r9.snd.m.words) (List.length r9.snd.m.words) (List.length r9.snd.m.bytes) (List.length r9.snd.m.bytes) r9.snd.m.words r9.snd.m.bytes) (afreeT r0.fst (IntKind.wrap IntKind.i64 (8 * r9.fst.fst))) (DS.mk (Mem.mk r9.snd.m.words r9.snd.m.bytes) r9.snd.self r9.snd.steps none)).bind fun r19 =>
                     bif r19.fst.e != 13 then (κ (false)) else
                      (vR (okS (List.length r19.snd.snd.m.words) (List.length r19.snd.snd.m.words) (List.length r19.snd.snd.m.bytes) (List.length r19.snd.snd.m.bytes) r19.snd.snd.m.words r19.snd.snd.m.bytes) (mallocT r0.fst 1) (DS.mk (Mem.mk r19.snd.snd.m.words r19.snd.snd.m.bytes) r19.snd.snd.self r19.snd.snd.steps (some (Res.cells r19.snd.fst)))).bind fun r21 =>
                       bif r21.fst.e == 0 then (bif decide (r21.fst.at_ < IntKind.wrap IntKind.i64 (IntKind.wrap IntKind.i64 (8 * r9.fst.1) + r9.fst.snd.1)) then (bif decide (IntKind.wrap IntKind.i64 (8 * r9.fst.1) < IntKind.wrap IntKind.i64 (r21.fst.at_ + r21.fst.n)) then (κ (false)) else
                          (vR (okS (List.length r21.snd.snd.m.words) (List.length r21.snd.snd.m.words) (List.length r21.snd.snd.m.bytes) (List.length r21.snd.snd.m.bytes) r21.snd.snd.m.words r21.snd.snd.m.bytes) (releaseT r0.fst r9.fst.fst) (DS.mk (Mem.mk r21.snd.snd.m.words r21.snd.snd.m.bytes) r21.snd.snd.self r21.snd.snd.steps (some (Res.cells r21.snd.fst)))).bind fun r25 =>
                           bif r21.fst.e == 0 then ((vR (okS (List.length r25.snd.snd.m.words) (List.length r25.snd.snd.m.words) (List.length r25.snd.snd.m.bytes) (List.length r25.snd.snd.m.bytes) r25.snd.snd.m.words r25.snd.snd.m.bytes) (afreeT r0.fst r21.fst.at_) (DS.mk (Mem.mk r25.snd.snd.m.words r25.snd.snd.m.bytes) r25.snd.snd.self r25.snd.snd.steps (some (Res.cells r25.snd.fst)))).bind fun r27 =>
                             bif r27.fst.e != 0 then (κ (false)) else
                              (vR (okS (List.length r27.snd.snd.m.words) (List.length r27.snd.snd.m.words) (List.length r27.snd.snd.m.bytes) (List.length r27.snd.snd.m.bytes) r27.snd.snd.m.words r27.snd.snd.m.bytes) (trimT r0.fst) (DS.mk (Mem.mk r27.snd.snd.m.words r27.snd.snd.m.bytes) r27.snd.snd.self r27.snd.snd.steps (some (Res.cells r27.snd.fst)))).bind fun r29 =>
                               bif r29.fst == 0 then (κ (true)) else
                                κ (false)) else
                            (vR (okS (List.length r25.snd.snd.m.words) (List.length r25.snd.snd.m.words) (List.length r25.snd.snd.m.bytes) (List.length r25.snd.snd.m.bytes) r25.snd.snd.m.words r25.snd.snd.m.bytes) (trimT r0.fst) (DS.mk (Mem.mk r25.snd.snd.m.words r25.snd.snd.m.bytes) r25.snd.snd.self r25.snd.snd.steps (some (Res.cells r25.snd.fst)))).bind fun r27 =>
                             bif r27.fst == 0 then (κ (true)) else
                              κ (false)) else
                         (vR (okS (List.length r21.snd.snd.m.words) (List.length r21.snd.snd.m.words) (List.length r21.snd.snd.m.bytes) (List.length r21.snd.snd.m.bytes) r21.snd.snd.m.words r21.snd.snd.m.bytes) (releaseT r0.fst r9.fst.fst) (DS.mk (Mem.mk r21.snd.snd.m.words r21.snd.snd.m.bytes) r21.snd.snd.self r21.snd.snd.steps (some (Res.cells r21.snd.fst)))).bind fun r24 =>
                          bif r21.fst.e == 0 then ((vR (okS (List.length r24.snd.snd.m.words) (List.length r24.snd.snd.m.words) (List.length r24.snd.snd.m.bytes) (List.length r24.snd.snd.m.bytes) r24.snd.snd.m.words r24.snd.snd.m.bytes) (afreeT r0.fst r21.fst.at_) (DS.mk (Mem.mk r24.snd.snd.m.words r24.snd.snd.m.bytes) r24.snd.snd.self r24.snd.snd.steps (some (Res.cells r24.snd.fst)))).bind fun r26 =>
                            bif r26.fst.e != 0 then (κ (false)) else
                             (vR (okS (List.length r26.snd.snd.m.words) (List.length r26.snd.snd.m.words) (List.length r26.snd.snd.m.bytes) (List.length r26.snd.snd.m.bytes) r26.snd.snd.m.words r26.snd.snd.m.bytes) (trimT r0.fst) (DS.mk (Mem.mk r26.snd.snd.m.words r26.snd.snd.m.bytes) r26.snd.snd.self r26.snd.snd.steps (some (Res.cells r26.snd.fst)))).bind fun r28 =>
                              bif r28.fst == 0 then (κ (true)) else
                               κ (false)) else
                           (vR (okS (List.length r24.snd.snd.m.words) (List.length r24.snd.snd.m.words) (List.length r24.snd.snd.m.bytes) (List.length r24.snd.snd.m.bytes) r24.snd.snd.m.words r24.snd.snd.m.bytes) (trimT r0.fst) (DS.mk (Mem.mk r24.snd.snd.m.words r24.snd.snd.m.bytes) r24.snd.snd.self r24.snd.snd.steps (some (Res.cells r24.snd.fst)))).bind fun r26 =>
                            bif r26.fst == 0 then (κ (true)) else
                             κ (false)) else
                        (vR (okS (List.length r21.snd.snd.m.words) (List.length r21.snd.snd.m.words) (List.length r21.snd.snd.m.bytes) (List.length r21.snd.snd.m.bytes) r21.snd.snd.m.words r21.snd.snd.m.bytes) (releaseT r0.fst r9.fst.fst) (DS.mk (Mem.mk r21.snd.snd.m.words r21.snd.snd.m.bytes) r21.snd.snd.self r21.snd.snd.steps (some (Res.cells r21.snd.fst)))).bind fun r23 =>
                         bif r21.fst.e == 0 then ((vR (okS (List.length r23.snd.snd.m.words) (List.length r23.snd.snd.m.words) (List.length r23.snd.snd.m.bytes) (List.length r23.snd.snd.m.bytes) r23.snd.snd.m.words r23.snd.snd.m.bytes) (afreeT r0.fst r21.fst.at_) (DS.mk (Mem.mk r23.snd.snd.m.words r23.snd.snd.m.bytes) r23.snd.snd.self r23.snd.snd.steps (some (Res.cells r23.snd.fst)))).bind fun r25 =>
                           bif r25.fst.e != 0 then (κ (false)) else
                            (vR (okS (List.length r25.snd.snd.m.words) (List.length r25.snd.snd.m.words) (List.length r25.snd.snd.m.bytes) (List.length r25.snd.snd.m.bytes) r25.snd.snd.m.words r25.snd.snd.m.bytes) (trimT r0.fst) (DS.mk (Mem.mk r25.snd.snd.m.words r25.snd.snd.m.bytes) r25.snd.snd.self r25.snd.snd.steps (some (Res.cells r25.snd.fst)))).bind fun r27 =>
                             bif r27.fst == 0 then (κ (true)) else
                              κ (false)) else
                          (vR (okS (List.length r23.snd.snd.m.words) (List.length r23.snd.snd.m.words) (List.length r23.snd.snd.m.bytes) (List.length r23.snd.snd.m.bytes) r23.snd.snd.m.words r23.snd.snd.m.bytes) (trimT r0.fst) (DS.mk (Mem.mk r23.snd.snd.m.words r23.snd.snd.m.bytes) r23.snd.snd.self r23.snd.snd.steps (some (Res.cells r23.snd.fst)))).bind fun r25 =>
                           bif r25.fst == 0 then (κ (true)) else
                            κ (false)) else
                  .fail
def plT (pages : Int) (size : Int) (align : Int) (power : Int) (raw : Bool) : T Bool := plTK pages size align power raw .ret
theorem plT_bind {β : Type} (pages : Int) (size : Int) (align : Int) (power : Int) (raw : Bool) (κ : Bool → T β) : (plT pages size align power raw).bind κ = plTK pages size align power raw κ := by
  unfold plT plTK
  first | rfl | (simp only [bind_cond, bind_ret_, bind_op, bind_fail, T.bind_assoc])
def m_plT : Sm := fun args H => match args, H with
  | [.c (.int .u8 pages), .c (.int .i64 size), .c (.int .i64 align), .c (.int .u8 power), .c (.bool raw)], [] => some (mkS (Bool) (plT pages size align power raw) fun r => some (.c (.bool r), []))
  | _, _ => none
theorem s_m_plT {σ : Type} {I : Port Tryz.prog σ} (hl : SoundL I kv5) : SoundF I 3 m_plT := by
  refine sound_eq hl 5 Tryz.func3 (by kernel_rfl) (by kernel_rfl) fun args H t ht => ?_
  unfold m_plT at ht
  split at ht
  · rename_i pages size align power raw
    cases ht
    refine Eq.trans ?_ (plT_bind pages size align power raw _).symm
    kernel_rfl
  · cases ht
end Go.Proofs.YtaegelbaghaooaaGreat.Lx
