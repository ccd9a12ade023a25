/- Summaries: AllocRound. (trees printed by program, wip/auto.py) -/
import Derived.Test.YtaegelbaghaooaaGreatArQWh
import Derived.WalkKit
set_option linter.unusedSimpArgs false
set_option linter.unusedVariables false
namespace Go.Proofs.YtaegelbaghaooaaGreat.Lx
open Go
set_option maxRecDepth 1000000
set_option linter.unusedVariables false

def roTK {β : Type} (pages : Int) (size : Int) (power : Int) (κ : Bool → T β) : T β :=
 (newT (IntKind.wrap IntKind.i64 (1 + IntKind.wrap IntKind.i64 (Int.tmod pages 8))) 2).bind fun r0 =>
 bif !r0.2 then (κ (false)) else
 (guardT (decide (0 ≤ r0.fst.b19 ∧ r0.fst.b19 ≤ 1000000 ∧ 0 ≤ IntKind.wrap IntKind.i64 (r0.fst.pages * 64) ∧ IntKind.wrap IntKind.i64 (r0.fst.pages * 64) ≤ 1000000))).bind fun r2 =>
 (vN (okS (Int.toNat r0.fst.b19) (Int.toNat r0.fst.b19) (Int.toNat (IntKind.wrap IntKind.i64 (r0.fst.pages * 64))) (Int.toNat (IntKind.wrap IntKind.i64 (r0.fst.pages * 64))) (List.replicate (Int.toNat r0.fst.b19) 0) (List.replicate (Int.toNat (IntKind.wrap IntKind.i64 (r0.fst.pages * 64))) 0)) (pinitT r0.fst) (DS.mk (Mem.mk (List.replicate (Int.toNat r0.fst.b19) 0) (List.replicate (Int.toNat (IntKind.wrap IntKind.i64 (r0.fst.pages * 64))) 0)) 0 0 none)).bind fun r3 =>
 (vN (okS (List.length r3.snd.m.words) (List.length r3.snd.m.words) (List.length r3.snd.m.bytes) (List.length r3.snd.m.bytes) r3.snd.m.words r3.snd.m.bytes) (rinitT r0.fst) (DS.mk (Mem.mk r3.snd.m.words r3.snd.m.bytes) 0 0 none)).bind fun r4 =>
 bif !decide (Int.tmod power 10 < 0) then ((vR (okS (List.length r4.snd.m.words) (List.length r4.snd.m.words) (List.length r4.snd.m.bytes) (List.length r4.snd.m.bytes) r4.snd.m.words r4.snd.m.bytes) (alignedT r0.fst (IntKind.wrap IntKind.i64 (1 * 2 ^ min (Int.toNat (Int.tmod power 10)) (IntKind.bits IntKind.i64))) size) (DS.mk (Mem.mk r4.snd.m.words r4.snd.m.bytes) 0 0 none)).bind fun r6 =>
 bif decide (size < 1) then (bif r6.fst.e == 11 then (κ (true)) else
 κ (false)) else
 bif decide (size > IntKind.wrap IntKind.i64 (64 * r0.1.pages)) then (bif r6.fst.e == 11 then (κ (true)) else
 κ (false)) else
 bif r6.fst.e != 0 then (κ (false)) else
 bif !IntKind.wrap IntKind.i64 (1 * 2 ^ if Int.toNat (Int.tmod power 10) ≤ 64 then Int.toNat (Int.tmod power 10) else (64 : Nat)) == 0 then (bif Int.tmod r6.fst.at_ (IntKind.wrap IntKind.i64 (1 * 2 ^ if Int.toNat (Int.tmod power 10) ≤ 64 then Int.toNat (Int.tmod power 10) else (64 : Nat))) != 0 then (κ (false)) else
 bif decide (r6.fst.n < size) then (κ (false)) else
 (vR (okS (List.length r6.snd.snd.m.words) (List.length r6.snd.snd.m.words) (List.length r6.snd.snd.m.bytes) (List.length r6.snd.snd.m.bytes) r6.snd.snd.m.words r6.snd.snd.m.bytes) (afreeT r0.fst r6.fst.at_) (DS.mk (Mem.mk r6.snd.snd.m.words r6.snd.snd.m.bytes) 1 0 none)).bind fun r13 =>
 (vR (okS (List.length r13.snd.snd.m.words) (List.length r13.snd.snd.m.words) (List.length r13.snd.snd.m.bytes) (List.length r13.snd.snd.m.bytes) r13.snd.snd.m.words r13.snd.snd.m.bytes) (alignedT r0.fst (IntKind.wrap IntKind.i64 (1 * 2 ^ min (Int.toNat (Int.tmod power 10)) (IntKind.bits IntKind.i64))) size) (DS.mk (Mem.mk r13.snd.snd.m.words r13.snd.snd.m.bytes) r6.snd.snd.self r6.snd.snd.steps (some (Res.cells r6.snd.fst)))).bind fun r14 =>
 bif r13.fst.e == 0 then (bif r13.fst.n == size then (bif r14.fst.e == 0 then (bif r14.fst.at_ == r6.fst.at_ then (bif r14.fst.n == r6.fst.n then ((vR (okS (List.length r14.snd.snd.m.words) (List.length r14.snd.snd.m.words) (List.length r14.snd.snd.m.bytes) (List.length r14.snd.snd.m.bytes) r14.snd.snd.m.words r14.snd.snd.m.bytes) (afreeT r0.fst r14.fst.at_) (DS.mk (Mem.mk r14.snd.snd.m.words r14.snd.snd.m.bytes) r14.snd.snd.self r14.snd.snd.steps (some (Res.cells r14.snd.fst)))).bind fun r20 =>
 bif r20.fst.e == 0 then ((vR (okS (List.length r20.snd.snd.m.words) (List.length r20.snd.snd.m.words) (List.length r20.snd.snd.m.bytes) (List.length r20.snd.snd.m.bytes) r20.snd.snd.m.words r20.snd.snd.m.bytes) (trimT r0.fst) (DS.mk (Mem.mk r20.snd.snd.m.words r20.snd.snd.m.bytes) r20.snd.snd.self r20.snd.snd.steps (some (Res.cells r20.snd.fst)))).bind fun r22 =>
 bif r22.fst == 0 then ((whoT r0.1 (List.length r22.snd.snd.m.1) (List.length r22.snd.snd.m.1) (List.length r22.snd.snd.m.2) (List.length r22.snd.snd.m.2) r22.snd.snd.m.1 r22.snd.snd.m.2).bind fun r24 =>
 bif r24 then (κ (true)) else
 κ (false)) else
 κ (false)) else
 κ (false)) else
 κ (false)) else
 κ (false)) else
 κ (false)) else
 κ (false)) else
 κ (false)) else
 .fail) else
 .fail
def roT (pages : Int) (size : Int) (power : Int) : T Bool := roTK pages size power .ret
theorem roT_bind {β : Type} (pages : Int) (size : Int) (power : Int) (κ : Bool → T β) : (roT pages size power).bind κ = roTK pages size power κ := by
  unfold roT roTK
  first | rfl | (simp only [bind_cond, bind_ret_, bind_op, bind_fail, T.bind_assoc])
def m_roT : Sm := fun args H => match args, H with
  | [.c (.int .u8 pages), .c (.int .i64 size), .c (.int .u8 power)], [] => some (mkS (Bool) (roT pages size power) fun r => some (.c (.bool r), []))
  | _, _ => none
theorem s_m_roT {σ : Type} {I : Port Tryz.prog σ} (hl : SoundL I kh1) : SoundF I 4 m_roT := by
  refine sound_eq hl 1 Tryz.func4 (by kernel_rfl) (by kernel_rfl) fun args H t ht => ?_
  unfold m_roT at ht
  split at ht
  · rename_i pages size power
    cases ht
    refine Eq.trans ?_ (roT_bind pages size power _).symm
    kernel_rfl
  · cases ht
end Go.Proofs.YtaegelbaghaooaaGreat.Lx
