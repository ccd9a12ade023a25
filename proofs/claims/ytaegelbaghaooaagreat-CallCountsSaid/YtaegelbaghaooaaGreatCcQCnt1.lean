/- Summaries: counted. (trees printed by program, wip/auto.py) -/
import Derived.Test.YtaegelbaghaooaaGreatCcQCnt0
import Derived.WalkKit
namespace Go.Proofs.YtaegelbaghaooaaGreat.Lx
open Go
set_option maxRecDepth 1000000
set_option linter.unusedVariables false

def countedTK {β : Type} (c : Cts) (th : Int) (op : Int) (sz : Int) (nn : Int) (al : Int) (at_ : Int) (off : Int) (by_ : Int) (fr : Int) (to_ : Int) (lin : Int) (tc : Int) (dn : Bool) (ra : Int) (rn : Int) (rb : Int) (u1 : Int) (u2 : Int) (u3 : Int) (u4 : Int) (u5 : Int) (re : Int) (rl : Int) (rt : Int) (κ : Cts → T β) : T β :=
  bif !dn then (κ ⟨(c.allocs), (c.frees), (c.failures), (c.live), (c.bytes)⟩) else
  bif decide (op ≥ 1) then (bif decide (op ≤ 4) then ((failedT (Res.mk ra rn rb u1 u2 u3 u4 u5 re rl rt)).bind fun r3 =>
     bif r3 then (κ ⟨(c.allocs), (c.frees), (IntKind.wrap IntKind.u64 (c.failures + 1)), (c.live), (c.bytes)⟩) else
      bif decide (op ≥ 1) then (bif decide (op ≤ 3) then (bif re == 0 then ((csizeT (Cal.mk op sz nn al at_ off by_)).bind fun r8 =>
          κ ⟨(IntKind.wrap IntKind.u64 (c.allocs + 1)), (c.frees), (c.failures), (IntKind.wrap IntKind.u64 (c.live + 1)), (IntKind.wrap IntKind.u64 (c.bytes + IntKind.wrap IntKind.u64 r8))⟩) else
         bif op == 5 then (bif re == 0 then (κ ⟨(c.allocs), (IntKind.wrap IntKind.u64 (c.frees + 1)), (c.failures), (IntKind.wrap IntKind.u64 (c.live - 1)), (IntKind.wrap IntKind.u64 (c.bytes - IntKind.wrap IntKind.u64 rn))⟩) else
           κ ⟨(c.allocs), (c.frees), (c.failures), (c.live), (c.bytes)⟩) else
          κ ⟨(c.allocs), (c.frees), (c.failures), (c.live), (c.bytes)⟩) else
        bif op == 5 then (bif re == 0 then (κ ⟨(c.allocs), (IntKind.wrap IntKind.u64 (c.frees + 1)), (c.failures), (IntKind.wrap IntKind.u64 (c.live - 1)), (IntKind.wrap IntKind.u64 (c.bytes - IntKind.wrap IntKind.u64 rn))⟩) else
          κ ⟨(c.allocs), (c.frees), (c.failures), (c.live), (c.bytes)⟩) else
         κ ⟨(c.allocs), (c.frees), (c.failures), (c.live), (c.bytes)⟩) else
       bif op == 5 then (bif re == 0 then (κ ⟨(c.allocs), (IntKind.wrap IntKind.u64 (c.frees + 1)), (c.failures), (IntKind.wrap IntKind.u64 (c.live - 1)), (IntKind.wrap IntKind.u64 (c.bytes - IntKind.wrap IntKind.u64 rn))⟩) else
         κ ⟨(c.allocs), (c.frees), (c.failures), (c.live), (c.bytes)⟩) else
        κ ⟨(c.allocs), (c.frees), (c.failures), (c.live), (c.bytes)⟩) else
    bif decide (op ≥ 1) then (bif decide (op ≤ 3) then (bif re == 0 then ((csizeT (Cal.mk op sz nn al at_ off by_)).bind fun r6 =>
        κ ⟨(IntKind.wrap IntKind.u64 (c.allocs + 1)), (c.frees), (c.failures), (IntKind.wrap IntKind.u64 (c.live + 1)), (IntKind.wrap IntKind.u64 (c.bytes + IntKind.wrap IntKind.u64 r6))⟩) else
       bif op == 5 then (bif re == 0 then (κ ⟨(c.allocs), (IntKind.wrap IntKind.u64 (c.frees + 1)), (c.failures), (IntKind.wrap IntKind.u64 (c.live - 1)), (IntKind.wrap IntKind.u64 (c.bytes - IntKind.wrap IntKind.u64 rn))⟩) else
         κ ⟨(c.allocs), (c.frees), (c.failures), (c.live), (c.bytes)⟩) else
        κ ⟨(c.allocs), (c.frees), (c.failures), (c.live), (c.bytes)⟩) else
      bif op == 5 then (bif re == 0 then (κ ⟨(c.allocs), (IntKind.wrap IntKind.u64 (c.frees + 1)), (c.failures), (IntKind.wrap IntKind.u64 (c.live - 1)), (IntKind.wrap IntKind.u64 (c.bytes - IntKind.wrap IntKind.u64 rn))⟩) else
        κ ⟨(c.allocs), (c.frees), (c.failures), (c.live), (c.bytes)⟩) else
       κ ⟨(c.allocs), (c.frees), (c.failures), (c.live), (c.bytes)⟩) else
     bif op == 5 then (bif re == 0 then (κ ⟨(c.allocs), (IntKind.wrap IntKind.u64 (c.frees + 1)), (c.failures), (IntKind.wrap IntKind.u64 (c.live - 1)), (IntKind.wrap IntKind.u64 (c.bytes - IntKind.wrap IntKind.u64 rn))⟩) else
       κ ⟨(c.allocs), (c.frees), (c.failures), (c.live), (c.bytes)⟩) else
      κ ⟨(c.allocs), (c.frees), (c.failures), (c.live), (c.bytes)⟩) else
   bif decide (op ≥ 1) then (bif decide (op ≤ 3) then (bif re == 0 then ((csizeT (Cal.mk op sz nn al at_ off by_)).bind fun r5 =>
       κ ⟨(IntKind.wrap IntKind.u64 (c.allocs + 1)), (c.frees), (c.failures), (IntKind.wrap IntKind.u64 (c.live + 1)), (IntKind.wrap IntKind.u64 (c.bytes + IntKind.wrap IntKind.u64 r5))⟩) else
      bif op == 5 then (bif re == 0 then (κ ⟨(c.allocs), (IntKind.wrap IntKind.u64 (c.frees + 1)), (c.failures), (IntKind.wrap IntKind.u64 (c.live - 1)), (IntKind.wrap IntKind.u64 (c.bytes - IntKind.wrap IntKind.u64 rn))⟩) else
        κ ⟨(c.allocs), (c.frees), (c.failures), (c.live), (c.bytes)⟩) else
       κ ⟨(c.allocs), (c.frees), (c.failures), (c.live), (c.bytes)⟩) else
     bif op == 5 then (bif re == 0 then (κ ⟨(c.allocs), (IntKind.wrap IntKind.u64 (c.frees + 1)), (c.failures), (IntKind.wrap IntKind.u64 (c.live - 1)), (IntKind.wrap IntKind.u64 (c.bytes - IntKind.wrap IntKind.u64 rn))⟩) else
       κ ⟨(c.allocs), (c.frees), (c.failures), (c.live), (c.bytes)⟩) else
      κ ⟨(c.allocs), (c.frees), (c.failures), (c.live), (c.bytes)⟩) else
    bif op == 5 then (bif re == 0 then (κ ⟨(c.allocs), (IntKind.wrap IntKind.u64 (c.frees + 1)), (c.failures), (IntKind.wrap IntKind.u64 (c.live - 1)), (IntKind.wrap IntKind.u64 (c.bytes - IntKind.wrap IntKind.u64 rn))⟩) else
      κ ⟨(c.allocs), (c.frees), (c.failures), (c.live), (c.bytes)⟩) else
     κ ⟨(c.allocs), (c.frees), (c.failures), (c.live), (c.bytes)⟩
def countedT (c : Cts) (th : Int) (op : Int) (sz : Int) (nn : Int) (al : Int) (at_ : Int) (off : Int) (by_ : Int) (fr : Int) (to_ : Int) (lin : Int) (tc : Int) (dn : Bool) (ra : Int) (rn : Int) (rb : Int) (u1 : Int) (u2 : Int) (u3 : Int) (u4 : Int) (u5 : Int) (re : Int) (rl : Int) (rt : Int) : T Cts := countedTK c th op sz nn al at_ off by_ fr to_ lin tc dn ra rn rb u1 u2 u3 u4 u5 re rl rt .ret
theorem countedT_bind {β : Type} (c : Cts) (th : Int) (op : Int) (sz : Int) (nn : Int) (al : Int) (at_ : Int) (off : Int) (by_ : Int) (fr : Int) (to_ : Int) (lin : Int) (tc : Int) (dn : Bool) (ra : Int) (rn : Int) (rb : Int) (u1 : Int) (u2 : Int) (u3 : Int) (u4 : Int) (u5 : Int) (re : Int) (rl : Int) (rt : Int) (κ : Cts → T β) : (countedT c th op sz nn al at_ off by_ fr to_ lin tc dn ra rn rb u1 u2 u3 u4 u5 re rl rt).bind κ = countedTK c th op sz nn al at_ off by_ fr to_ lin tc dn ra rn rb u1 u2 u3 u4 u5 re rl rt κ := by
  unfold countedT countedTK
  first | rfl | (simp only [bind_cond, bind_ret_, bind_op, bind_fail, T.bind_assoc])
def rcountedTK {β : Type} (c : Cts) (th : Int) (op : Int) (sz : Int) (nn : Int) (al : Int) (at_ : Int) (off : Int) (by_ : Int) (fr : Int) (to_ : Int) (lin : Int) (tc : Int) (dn : Bool) (ra : Int) (rn : Int) (rb : Int) (u1 : Int) (u2 : Int) (u3 : Int) (u4 : Int) (u5 : Int) (re : Int) (rl : Int) (rt : Int) (κ : Cts → T β) : T β :=
  bif !dn then (κ ⟨(c.allocs), (c.frees), (c.failures), (c.live), (c.bytes)⟩) else
  bif decide (op ≥ 1) then (bif decide (op ≤ 4) then (bif re == 15 then (bif decide (op ≥ 1) then (bif decide (op ≤ 3) then (bif re == 0 then (bif op == 5 then (bif re == 0 then (bif op == 2 then (κ ⟨(IntKind.wrap IntKind.u64 (c.allocs + 1)), (IntKind.wrap IntKind.u64 (c.frees + 1)), (IntKind.wrap IntKind.u64 (c.failures + 1)), (IntKind.wrap IntKind.u64 (IntKind.wrap IntKind.u64 (c.live + 1) - 1)), (IntKind.wrap IntKind.u64 (IntKind.wrap IntKind.u64 (c.bytes + IntKind.wrap IntKind.u64 (IntKind.wrap IntKind.i64 (sz * nn))) - IntKind.wrap IntKind.u64 rn))⟩) else
           κ ⟨(IntKind.wrap IntKind.u64 (c.allocs + 1)), (IntKind.wrap IntKind.u64 (c.frees + 1)), (IntKind.wrap IntKind.u64 (c.failures + 1)), (IntKind.wrap IntKind.u64 (IntKind.wrap IntKind.u64 (c.live + 1) - 1)), (IntKind.wrap IntKind.u64 (IntKind.wrap IntKind.u64 (c.bytes + IntKind.wrap IntKind.u64 sz) - IntKind.wrap IntKind.u64 rn))⟩) else
          bif op == 2 then (κ ⟨(IntKind.wrap IntKind.u64 (c.allocs + 1)), (IntKind.wrap IntKind.u64 (c.frees + 0)), (IntKind.wrap IntKind.u64 (c.failures + 1)), (IntKind.wrap IntKind.u64 (IntKind.wrap IntKind.u64 (c.live + 1) - 0)), (IntKind.wrap IntKind.u64 (c.bytes + IntKind.wrap IntKind.u64 (IntKind.wrap IntKind.i64 (sz * nn))))⟩) else
           κ ⟨(IntKind.wrap IntKind.u64 (c.allocs + 1)), (IntKind.wrap IntKind.u64 (c.frees + 0)), (IntKind.wrap IntKind.u64 (c.failures + 1)), (IntKind.wrap IntKind.u64 (IntKind.wrap IntKind.u64 (c.live + 1) - 0)), (IntKind.wrap IntKind.u64 (c.bytes + IntKind.wrap IntKind.u64 sz))⟩) else
         bif op == 2 then (κ ⟨(IntKind.wrap IntKind.u64 (c.allocs + 1)), (IntKind.wrap IntKind.u64 (c.frees + 0)), (IntKind.wrap IntKind.u64 (c.failures + 1)), (IntKind.wrap IntKind.u64 (IntKind.wrap IntKind.u64 (c.live + 1) - 0)), (IntKind.wrap IntKind.u64 (c.bytes + IntKind.wrap IntKind.u64 (IntKind.wrap IntKind.i64 (sz * nn))))⟩) else
          κ ⟨(IntKind.wrap IntKind.u64 (c.allocs + 1)), (IntKind.wrap IntKind.u64 (c.frees + 0)), (IntKind.wrap IntKind.u64 (c.failures + 1)), (IntKind.wrap IntKind.u64 (IntKind.wrap IntKind.u64 (c.live + 1) - 0)), (IntKind.wrap IntKind.u64 (c.bytes + IntKind.wrap IntKind.u64 sz))⟩) else
        bif op == 5 then (bif re == 0 then (κ ⟨(IntKind.wrap IntKind.u64 (c.allocs + 0)), (IntKind.wrap IntKind.u64 (c.frees + 1)), (IntKind.wrap IntKind.u64 (c.failures + 1)), (IntKind.wrap IntKind.u64 (IntKind.wrap IntKind.u64 (c.live + 0) - 1)), (IntKind.wrap IntKind.u64 (c.bytes - IntKind.wrap IntKind.u64 rn))⟩) else
          κ ⟨(IntKind.wrap IntKind.u64 (c.allocs + 0)), (IntKind.wrap IntKind.u64 (c.frees + 0)), (IntKind.wrap IntKind.u64 (c.failures + 1)), (IntKind.wrap IntKind.u64 (IntKind.wrap IntKind.u64 (c.live + 0) - 0)), (c.bytes)⟩) else
         κ ⟨(IntKind.wrap IntKind.u64 (c.allocs + 0)), (IntKind.wrap IntKind.u64 (c.frees + 0)), (IntKind.wrap IntKind.u64 (c.failures + 1)), (IntKind.wrap IntKind.u64 (IntKind.wrap IntKind.u64 (c.live + 0) - 0)), (c.bytes)⟩) else
       bif op == 5 then (bif re == 0 then (κ ⟨(IntKind.wrap IntKind.u64 (c.allocs + 0)), (IntKind.wrap IntKind.u64 (c.frees + 1)), (IntKind.wrap IntKind.u64 (c.failures + 1)), (IntKind.wrap IntKind.u64 (IntKind.wrap IntKind.u64 (c.live + 0) - 1)), (IntKind.wrap IntKind.u64 (c.bytes - IntKind.wrap IntKind.u64 rn))⟩) else
         κ ⟨(IntKind.wrap IntKind.u64 (c.allocs + 0)), (IntKind.wrap IntKind.u64 (c.frees + 0)), (IntKind.wrap IntKind.u64 (c.failures + 1)), (IntKind.wrap IntKind.u64 (IntKind.wrap IntKind.u64 (c.live + 0) - 0)), (c.bytes)⟩) else
        κ ⟨(IntKind.wrap IntKind.u64 (c.allocs + 0)), (IntKind.wrap IntKind.u64 (c.frees + 0)), (IntKind.wrap IntKind.u64 (c.failures + 1)), (IntKind.wrap IntKind.u64 (IntKind.wrap IntKind.u64 (c.live + 0) - 0)), (c.bytes)⟩) else
      bif op == 5 then (bif re == 0 then (κ ⟨(IntKind.wrap IntKind.u64 (c.allocs + 0)), (IntKind.wrap IntKind.u64 (c.frees + 1)), (IntKind.wrap IntKind.u64 (c.failures + 1)), (IntKind.wrap IntKind.u64 (IntKind.wrap IntKind.u64 (c.live + 0) - 1)), (IntKind.wrap IntKind.u64 (c.bytes - IntKind.wrap IntKind.u64 rn))⟩) else
        κ ⟨(IntKind.wrap IntKind.u64 (c.allocs + 0)), (IntKind.wrap IntKind.u64 (c.frees + 0)), (IntKind.wrap IntKind.u64 (c.failures + 1)), (IntKind.wrap IntKind.u64 (IntKind.wrap IntKind.u64 (c.live + 0) - 0)), (c.bytes)⟩) else
       κ ⟨(IntKind.wrap IntKind.u64 (c.allocs + 0)), (IntKind.wrap IntKind.u64 (c.frees + 0)), (IntKind.wrap IntKind.u64 (c.failures + 1)), (IntKind.wrap IntKind.u64 (IntKind.wrap IntKind.u64 (c.live + 0) - 0)), (c.bytes)⟩) else
     bif re == 5 then (bif decide (op ≥ 1) then (bif decide (op ≤ 3) then (bif re == 0 then (bif op == 5 then (bif re == 0 then (bif op == 2 then (κ ⟨(IntKind.wrap IntKind.u64 (c.allocs + 1)), (IntKind.wrap IntKind.u64 (c.frees + 1)), (IntKind.wrap IntKind.u64 (c.failures + 1)), (IntKind.wrap IntKind.u64 (IntKind.wrap IntKind.u64 (c.live + 1) - 1)), (IntKind.wrap IntKind.u64 (IntKind.wrap IntKind.u64 (c.bytes + IntKind.wrap IntKind.u64 (IntKind.wrap IntKind.i64 (sz * nn))) - IntKind.wrap IntKind.u64 rn))⟩) else
            κ ⟨(IntKind.wrap IntKind.u64 (c.allocs + 1)), (IntKind.wrap IntKind.u64 (c.frees + 1)), (IntKind.wrap IntKind.u64 (c.failures + 1)), (IntKind.wrap IntKind.u64 (IntKind.wrap IntKind.u64 (c.live + 1) - 1)), (IntKind.wrap IntKind.u64 (IntKind.wrap IntKind.u64 (c.bytes + IntKind.wrap IntKind.u64 sz) - IntKind.wrap IntKind.u64 rn))⟩) else
           bif op == 2 then (κ ⟨(IntKind.wrap IntKind.u64 (c.allocs + 1)), (IntKind.wrap IntKind.u64 (c.frees + 0)), (IntKind.wrap IntKind.u64 (c.failures + 1)), (IntKind.wrap IntKind.u64 (IntKind.wrap IntKind.u64 (c.live + 1) - 0)), (IntKind.wrap IntKind.u64 (c.bytes + IntKind.wrap IntKind.u64 (IntKind.wrap IntKind.i64 (sz * nn))))⟩) else
            κ ⟨(IntKind.wrap IntKind.u64 (c.allocs + 1)), (IntKind.wrap IntKind.u64 (c.frees + 0)), (IntKind.wrap IntKind.u64 (c.failures + 1)), (IntKind.wrap IntKind.u64 (IntKind.wrap IntKind.u64 (c.live + 1) - 0)), (IntKind.wrap IntKind.u64 (c.bytes + IntKind.wrap IntKind.u64 sz))⟩) else
          bif op == 2 then (κ ⟨(IntKind.wrap IntKind.u64 (c.allocs + 1)), (IntKind.wrap IntKind.u64 (c.frees + 0)), (IntKind.wrap IntKind.u64 (c.failures + 1)), (IntKind.wrap IntKind.u64 (IntKind.wrap IntKind.u64 (c.live + 1) - 0)), (IntKind.wrap IntKind.u64 (c.bytes + IntKind.wrap IntKind.u64 (IntKind.wrap IntKind.i64 (sz * nn))))⟩) else
           κ ⟨(IntKind.wrap IntKind.u64 (c.allocs + 1)), (IntKind.wrap IntKind.u64 (c.frees + 0)), (IntKind.wrap IntKind.u64 (c.failures + 1)), (IntKind.wrap IntKind.u64 (IntKind.wrap IntKind.u64 (c.live + 1) - 0)), (IntKind.wrap IntKind.u64 (c.bytes + IntKind.wrap IntKind.u64 sz))⟩) else
         bif op == 5 then (bif re == 0 then (κ ⟨(IntKind.wrap IntKind.u64 (c.allocs + 0)), (IntKind.wrap IntKind.u64 (c.frees + 1)), (IntKind.wrap IntKind.u64 (c.failures + 1)), (IntKind.wrap IntKind.u64 (IntKind.wrap IntKind.u64 (c.live + 0) - 1)), (IntKind.wrap IntKind.u64 (c.bytes - IntKind.wrap IntKind.u64 rn))⟩) else
           κ ⟨(IntKind.wrap IntKind.u64 (c.allocs + 0)), (IntKind.wrap IntKind.u64 (c.frees + 0)), (IntKind.wrap IntKind.u64 (c.failures + 1)), (IntKind.wrap IntKind.u64 (IntKind.wrap IntKind.u64 (c.live + 0) - 0)), (c.bytes)⟩) else
          κ ⟨(IntKind.wrap IntKind.u64 (c.allocs + 0)), (IntKind.wrap IntKind.u64 (c.frees + 0)), (IntKind.wrap IntKind.u64 (c.failures + 1)), (IntKind.wrap IntKind.u64 (IntKind.wrap IntKind.u64 (c.live + 0) - 0)), (c.bytes)⟩) else
        bif op == 5 then (bif re == 0 then (κ ⟨(IntKind.wrap IntKind.u64 (c.allocs + 0)), (IntKind.wrap IntKind.u64 (c.frees + 1)), (IntKind.wrap IntKind.u64 (c.failures + 1)), (IntKind.wrap IntKind.u64 (IntKind.wrap IntKind.u64 (c.live + 0) - 1)), (IntKind.wrap IntKind.u64 (c.bytes - IntKind.wrap IntKind.u64 rn))⟩) else
          κ ⟨(IntKind.wrap IntKind.u64 (c.allocs + 0)), (IntKind.wrap IntKind.u64 (c.frees + 0)), (IntKind.wrap IntKind.u64 (c.failures + 1)), (IntKind.wrap IntKind.u64 (IntKind.wrap IntKind.u64 (c.live + 0) - 0)), (c.bytes)⟩) else
         κ ⟨(IntKind.wrap IntKind.u64 (c.allocs + 0)), (IntKind.wrap IntKind.u64 (c.frees + 0)), (IntKind.wrap IntKind.u64 (c.failures + 1)), (IntKind.wrap IntKind.u64 (IntKind.wrap IntKind.u64 (c.live + 0) - 0)), (c.bytes)⟩) else
       bif op == 5 then (bif re == 0 then (κ ⟨(IntKind.wrap IntKind.u64 (c.allocs + 0)), (IntKind.wrap IntKind.u64 (c.frees + 1)), (IntKind.wrap IntKind.u64 (c.failures + 1)), (IntKind.wrap IntKind.u64 (IntKind.wrap IntKind.u64 (c.live + 0) - 1)), (IntKind.wrap IntKind.u64 (c.bytes - IntKind.wrap IntKind.u64 rn))⟩) else
         κ ⟨(IntKind.wrap IntKind.u64 (c.allocs + 0)), (IntKind.wrap IntKind.u64 (c.frees + 0)), (IntKind.wrap IntKind.u64 (c.failures + 1)), (IntKind.wrap IntKind.u64 (IntKind.wrap IntKind.u64 (c.live + 0) - 0)), (c.bytes)⟩) else
        κ ⟨(IntKind.wrap IntKind.u64 (c.allocs + 0)), (IntKind.wrap IntKind.u64 (c.frees + 0)), (IntKind.wrap IntKind.u64 (c.failures + 1)), (IntKind.wrap IntKind.u64 (IntKind.wrap IntKind.u64 (c.live + 0) - 0)), (c.bytes)⟩) else
      bif decide (op ≥ 1) then (bif decide (op ≤ 3) then (bif re == 0 then (bif op == 5 then (bif re == 0 then (bif op == 2 then (κ ⟨(IntKind.wrap IntKind.u64 (c.allocs + 1)), (IntKind.wrap IntKind.u64 (c.frees + 1)), (IntKind.wrap IntKind.u64 (c.failures + 0)), (IntKind.wrap IntKind.u64 (IntKind.wrap IntKind.u64 (c.live + 1) - 1)), (IntKind.wrap IntKind.u64 (IntKind.wrap IntKind.u64 (c.bytes + IntKind.wrap IntKind.u64 (IntKind.wrap IntKind.i64 (sz * nn))) - IntKind.wrap IntKind.u64 rn))⟩) else
            κ ⟨(IntKind.wrap IntKind.u64 (c.allocs + 1)), (IntKind.wrap IntKind.u64 (c.frees + 1)), (IntKind.wrap IntKind.u64 (c.failures + 0)), (IntKind.wrap IntKind.u64 (IntKind.wrap IntKind.u64 (c.live + 1) - 1)), (IntKind.wrap IntKind.u64 (IntKind.wrap IntKind.u64 (c.bytes + IntKind.wrap IntKind.u64 sz) - IntKind.wrap IntKind.u64 rn))⟩) else
           bif op == 2 then (κ ⟨(IntKind.wrap IntKind.u64 (c.allocs + 1)), (IntKind.wrap IntKind.u64 (c.frees + 0)), (IntKind.wrap IntKind.u64 (c.failures + 0)), (IntKind.wrap IntKind.u64 (IntKind.wrap IntKind.u64 (c.live + 1) - 0)), (IntKind.wrap IntKind.u64 (c.bytes + IntKind.wrap IntKind.u64 (IntKind.wrap IntKind.i64 (sz * nn))))⟩) else
            κ ⟨(IntKind.wrap IntKind.u64 (c.allocs + 1)), (IntKind.wrap IntKind.u64 (c.frees + 0)), (IntKind.wrap IntKind.u64 (c.failures + 0)), (IntKind.wrap IntKind.u64 (IntKind.wrap IntKind.u64 (c.live + 1) - 0)), (IntKind.wrap IntKind.u64 (c.bytes + IntKind.wrap IntKind.u64 sz))⟩) else
          bif op == 2 then (κ ⟨(IntKind.wrap IntKind.u64 (c.allocs + 1)), (IntKind.wrap IntKind.u64 (c.frees + 0)), (IntKind.wrap IntKind.u64 (c.failures + 0)), (IntKind.wrap IntKind.u64 (IntKind.wrap IntKind.u64 (c.live + 1) - 0)), (IntKind.wrap IntKind.u64 (c.bytes + IntKind.wrap IntKind.u64 (IntKind.wrap IntKind.i64 (sz * nn))))⟩) else
           κ ⟨(IntKind.wrap IntKind.u64 (c.allocs + 1)), (IntKind.wrap IntKind.u64 (c.frees + 0)), (IntKind.wrap IntKind.u64 (c.failures + 0)), (IntKind.wrap IntKind.u64 (IntKind.wrap IntKind.u64 (c.live + 1) - 0)), (IntKind.wrap IntKind.u64 (c.bytes + IntKind.wrap IntKind.u64 sz))⟩) else
         bif op == 5 then (bif re == 0 then (κ ⟨(IntKind.wrap IntKind.u64 (c.allocs + 0)), (IntKind.wrap IntKind.u64 (c.frees + 1)), (IntKind.wrap IntKind.u64 (c.failures + 0)), (IntKind.wrap IntKind.u64 (IntKind.wrap IntKind.u64 (c.live + 0) - 1)), (IntKind.wrap IntKind.u64 (c.bytes - IntKind.wrap IntKind.u64 rn))⟩) else
           κ ⟨(IntKind.wrap IntKind.u64 (c.allocs + 0)), (IntKind.wrap IntKind.u64 (c.frees + 0)), (IntKind.wrap IntKind.u64 (c.failures + 0)), (IntKind.wrap IntKind.u64 (IntKind.wrap IntKind.u64 (c.live + 0) - 0)), (c.bytes)⟩) else
          κ ⟨(IntKind.wrap IntKind.u64 (c.allocs + 0)), (IntKind.wrap IntKind.u64 (c.frees + 0)), (IntKind.wrap IntKind.u64 (c.failures + 0)), (IntKind.wrap IntKind.u64 (IntKind.wrap IntKind.u64 (c.live + 0) - 0)), (c.bytes)⟩) else
        bif op == 5 then (bif re == 0 then (κ ⟨(IntKind.wrap IntKind.u64 (c.allocs + 0)), (IntKind.wrap IntKind.u64 (c.frees + 1)), (IntKind.wrap IntKind.u64 (c.failures + 0)), (IntKind.wrap IntKind.u64 (IntKind.wrap IntKind.u64 (c.live + 0) - 1)), (IntKind.wrap IntKind.u64 (c.bytes - IntKind.wrap IntKind.u64 rn))⟩) else
          κ ⟨(IntKind.wrap IntKind.u64 (c.allocs + 0)), (IntKind.wrap IntKind.u64 (c.frees + 0)), (IntKind.wrap IntKind.u64 (c.failures + 0)), (IntKind.wrap IntKind.u64 (IntKind.wrap IntKind.u64 (c.live + 0) - 0)), (c.bytes)⟩) else
         κ ⟨(IntKind.wrap IntKind.u64 (c.allocs + 0)), (IntKind.wrap IntKind.u64 (c.frees + 0)), (IntKind.wrap IntKind.u64 (c.failures + 0)), (IntKind.wrap IntKind.u64 (IntKind.wrap IntKind.u64 (c.live + 0) - 0)), (c.bytes)⟩) else
       bif op == 5 then (bif re == 0 then (κ ⟨(IntKind.wrap IntKind.u64 (c.allocs + 0)), (IntKind.wrap IntKind.u64 (c.frees + 1)), (IntKind.wrap IntKind.u64 (c.failures + 0)), (IntKind.wrap IntKind.u64 (IntKind.wrap IntKind.u64 (c.live + 0) - 1)), (IntKind.wrap IntKind.u64 (c.bytes - IntKind.wrap IntKind.u64 rn))⟩) else
         κ ⟨(IntKind.wrap IntKind.u64 (c.allocs + 0)), (IntKind.wrap IntKind.u64 (c.frees + 0)), (IntKind.wrap IntKind.u64 (c.failures + 0)), (IntKind.wrap IntKind.u64 (IntKind.wrap IntKind.u64 (c.live + 0) - 0)), (c.bytes)⟩) else
        κ ⟨(IntKind.wrap IntKind.u64 (c.allocs + 0)), (IntKind.wrap IntKind.u64 (c.frees + 0)), (IntKind.wrap IntKind.u64 (c.failures + 0)), (IntKind.wrap IntKind.u64 (IntKind.wrap IntKind.u64 (c.live + 0) - 0)), (c.bytes)⟩) else
    bif decide (op ≥ 1) then (bif decide (op ≤ 3) then (bif re == 0 then (bif op == 5 then (bif re == 0 then (bif op == 2 then (κ ⟨(IntKind.wrap IntKind.u64 (c.allocs + 1)), (IntKind.wrap IntKind.u64 (c.frees + 1)), (IntKind.wrap IntKind.u64 (c.failures + 0)), (IntKind.wrap IntKind.u64 (IntKind.wrap IntKind.u64 (c.live + 1) - 1)), (IntKind.wrap IntKind.u64 (IntKind.wrap IntKind.u64 (c.bytes + IntKind.wrap IntKind.u64 (IntKind.wrap IntKind.i64 (sz * nn))) - IntKind.wrap IntKind.u64 rn))⟩) else
          κ ⟨(IntKind.wrap IntKind.u64 (c.allocs + 1)), (IntKind.wrap IntKind.u64 (c.frees + 1)), (IntKind.wrap IntKind.u64 (c.failures + 0)), (IntKind.wrap IntKind.u64 (IntKind.wrap IntKind.u64 (c.live + 1) - 1)), (IntKind.wrap IntKind.u64 (IntKind.wrap IntKind.u64 (c.bytes + IntKind.wrap IntKind.u64 sz) - IntKind.wrap IntKind.u64 rn))⟩) else
         bif op == 2 then (κ ⟨(IntKind.wrap IntKind.u64 (c.allocs + 1)), (IntKind.wrap IntKind.u64 (c.frees + 0)), (IntKind.wrap IntKind.u64 (c.failures + 0)), (IntKind.wrap IntKind.u64 (IntKind.wrap IntKind.u64 (c.live + 1) - 0)), (IntKind.wrap IntKind.u64 (c.bytes + IntKind.wrap IntKind.u64 (IntKind.wrap IntKind.i64 (sz * nn))))⟩) else
          κ ⟨(IntKind.wrap IntKind.u64 (c.allocs + 1)), (IntKind.wrap IntKind.u64 (c.frees + 0)), (IntKind.wrap IntKind.u64 (c.failures + 0)), (IntKind.wrap IntKind.u64 (IntKind.wrap IntKind.u64 (c.live + 1) - 0)), (IntKind.wrap IntKind.u64 (c.bytes + IntKind.wrap IntKind.u64 sz))⟩) else
        bif op == 2 then (κ ⟨(IntKind.wrap IntKind.u64 (c.allocs + 1)), (IntKind.wrap IntKind.u64 (c.frees + 0)), (IntKind.wrap IntKind.u64 (c.failures + 0)), (IntKind.wrap IntKind.u64 (IntKind.wrap IntKind.u64 (c.live + 1) - 0)), (IntKind.wrap IntKind.u64 (c.bytes + IntKind.wrap IntKind.u64 (IntKind.wrap IntKind.i64 (sz * nn))))⟩) else
         κ ⟨(IntKind.wrap IntKind.u64 (c.allocs + 1)), (IntKind.wrap IntKind.u64 (c.frees + 0)), (IntKind.wrap IntKind.u64 (c.failures + 0)), (IntKind.wrap IntKind.u64 (IntKind.wrap IntKind.u64 (c.live + 1) - 0)), (IntKind.wrap IntKind.u64 (c.bytes + IntKind.wrap IntKind.u64 sz))⟩) else
       bif op == 5 then (bif re == 0 then (κ ⟨(IntKind.wrap IntKind.u64 (c.allocs + 0)), (IntKind.wrap IntKind.u64 (c.frees + 1)), (IntKind.wrap IntKind.u64 (c.failures + 0)), (IntKind.wrap IntKind.u64 (IntKind.wrap IntKind.u64 (c.live + 0) - 1)), (IntKind.wrap IntKind.u64 (c.bytes - IntKind.wrap IntKind.u64 rn))⟩) else
         κ ⟨(IntKind.wrap IntKind.u64 (c.allocs + 0)), (IntKind.wrap IntKind.u64 (c.frees + 0)), (IntKind.wrap IntKind.u64 (c.failures + 0)), (IntKind.wrap IntKind.u64 (IntKind.wrap IntKind.u64 (c.live + 0) - 0)), (c.bytes)⟩) else
        κ ⟨(IntKind.wrap IntKind.u64 (c.allocs + 0)), (IntKind.wrap IntKind.u64 (c.frees + 0)), (IntKind.wrap IntKind.u64 (c.failures + 0)), (IntKind.wrap IntKind.u64 (IntKind.wrap IntKind.u64 (c.live + 0) - 0)), (c.bytes)⟩) else
      bif op == 5 then (bif re == 0 then (κ ⟨(IntKind.wrap IntKind.u64 (c.allocs + 0)), (IntKind.wrap IntKind.u64 (c.frees + 1)), (IntKind.wrap IntKind.u64 (c.failures + 0)), (IntKind.wrap IntKind.u64 (IntKind.wrap IntKind.u64 (c.live + 0) - 1)), (IntKind.wrap IntKind.u64 (c.bytes - IntKind.wrap IntKind.u64 rn))⟩) else
        κ ⟨(IntKind.wrap IntKind.u64 (c.allocs + 0)), (IntKind.wrap IntKind.u64 (c.frees + 0)), (IntKind.wrap IntKind.u64 (c.failures + 0)), (IntKind.wrap IntKind.u64 (IntKind.wrap IntKind.u64 (c.live + 0) - 0)), (c.bytes)⟩) else
       κ ⟨(IntKind.wrap IntKind.u64 (c.allocs + 0)), (IntKind.wrap IntKind.u64 (c.frees + 0)), (IntKind.wrap IntKind.u64 (c.failures + 0)), (IntKind.wrap IntKind.u64 (IntKind.wrap IntKind.u64 (c.live + 0) - 0)), (c.bytes)⟩) else
     bif op == 5 then (bif re == 0 then (κ ⟨(IntKind.wrap IntKind.u64 (c.allocs + 0)), (IntKind.wrap IntKind.u64 (c.frees + 1)), (IntKind.wrap IntKind.u64 (c.failures + 0)), (IntKind.wrap IntKind.u64 (IntKind.wrap IntKind.u64 (c.live + 0) - 1)), (IntKind.wrap IntKind.u64 (c.bytes - IntKind.wrap IntKind.u64 rn))⟩) else
       κ ⟨(IntKind.wrap IntKind.u64 (c.allocs + 0)), (IntKind.wrap IntKind.u64 (c.frees + 0)), (IntKind.wrap IntKind.u64 (c.failures + 0)), (IntKind.wrap IntKind.u64 (IntKind.wrap IntKind.u64 (c.live + 0) - 0)), (c.bytes)⟩) else
      κ ⟨(IntKind.wrap IntKind.u64 (c.allocs + 0)), (IntKind.wrap IntKind.u64 (c.frees + 0)), (IntKind.wrap IntKind.u64 (c.failures + 0)), (IntKind.wrap IntKind.u64 (IntKind.wrap IntKind.u64 (c.live + 0) - 0)), (c.bytes)⟩) else
   bif decide (op ≥ 1) then (bif decide (op ≤ 3) then (bif re == 0 then (bif op == 5 then (bif re == 0 then (bif op == 2 then (κ ⟨(IntKind.wrap IntKind.u64 (c.allocs + 1)), (IntKind.wrap IntKind.u64 (c.frees + 1)), (IntKind.wrap IntKind.u64 (c.failures + 0)), (IntKind.wrap IntKind.u64 (IntKind.wrap IntKind.u64 (c.live + 1) - 1)), (IntKind.wrap IntKind.u64 (IntKind.wrap IntKind.u64 (c.bytes + IntKind.wrap IntKind.u64 (IntKind.wrap IntKind.i64 (sz * nn))) - IntKind.wrap IntKind.u64 rn))⟩) else
         κ ⟨(IntKind.wrap IntKind.u64 (c.allocs + 1)), (IntKind.wrap IntKind.u64 (c.frees + 1)), (IntKind.wrap IntKind.u64 (c.failures + 0)), (IntKind.wrap IntKind.u64 (IntKind.wrap IntKind.u64 (c.live + 1) - 1)), (IntKind.wrap IntKind.u64 (IntKind.wrap IntKind.u64 (c.bytes + IntKind.wrap IntKind.u64 sz) - IntKind.wrap IntKind.u64 rn))⟩) else
        bif op == 2 then (κ ⟨(IntKind.wrap IntKind.u64 (c.allocs + 1)), (IntKind.wrap IntKind.u64 (c.frees + 0)), (IntKind.wrap IntKind.u64 (c.failures + 0)), (IntKind.wrap IntKind.u64 (IntKind.wrap IntKind.u64 (c.live + 1) - 0)), (IntKind.wrap IntKind.u64 (c.bytes + IntKind.wrap IntKind.u64 (IntKind.wrap IntKind.i64 (sz * nn))))⟩) else
         κ ⟨(IntKind.wrap IntKind.u64 (c.allocs + 1)), (IntKind.wrap IntKind.u64 (c.frees + 0)), (IntKind.wrap IntKind.u64 (c.failures + 0)), (IntKind.wrap IntKind.u64 (IntKind.wrap IntKind.u64 (c.live + 1) - 0)), (IntKind.wrap IntKind.u64 (c.bytes + IntKind.wrap IntKind.u64 sz))⟩) else
       bif op == 2 then (κ ⟨(IntKind.wrap IntKind.u64 (c.allocs + 1)), (IntKind.wrap IntKind.u64 (c.frees + 0)), (IntKind.wrap IntKind.u64 (c.failures + 0)), (IntKind.wrap IntKind.u64 (IntKind.wrap IntKind.u64 (c.live + 1) - 0)), (IntKind.wrap IntKind.u64 (c.bytes + IntKind.wrap IntKind.u64 (IntKind.wrap IntKind.i64 (sz * nn))))⟩) else
        κ ⟨(IntKind.wrap IntKind.u64 (c.allocs + 1)), (IntKind.wrap IntKind.u64 (c.frees + 0)), (IntKind.wrap IntKind.u64 (c.failures + 0)), (IntKind.wrap IntKind.u64 (IntKind.wrap IntKind.u64 (c.live + 1) - 0)), (IntKind.wrap IntKind.u64 (c.bytes + IntKind.wrap IntKind.u64 sz))⟩) else
      bif op == 5 then (bif re == 0 then (κ ⟨(IntKind.wrap IntKind.u64 (c.allocs + 0)), (IntKind.wrap IntKind.u64 (c.frees + 1)), (IntKind.wrap IntKind.u64 (c.failures + 0)), (IntKind.wrap IntKind.u64 (IntKind.wrap IntKind.u64 (c.live + 0) - 1)), (IntKind.wrap IntKind.u64 (c.bytes - IntKind.wrap IntKind.u64 rn))⟩) else
        κ ⟨(IntKind.wrap IntKind.u64 (c.allocs + 0)), (IntKind.wrap IntKind.u64 (c.frees + 0)), (IntKind.wrap IntKind.u64 (c.failures + 0)), (IntKind.wrap IntKind.u64 (IntKind.wrap IntKind.u64 (c.live + 0) - 0)), (c.bytes)⟩) else
       κ ⟨(IntKind.wrap IntKind.u64 (c.allocs + 0)), (IntKind.wrap IntKind.u64 (c.frees + 0)), (IntKind.wrap IntKind.u64 (c.failures + 0)), (IntKind.wrap IntKind.u64 (IntKind.wrap IntKind.u64 (c.live + 0) - 0)), (c.bytes)⟩) else
     bif op == 5 then (bif re == 0 then (κ ⟨(IntKind.wrap IntKind.u64 (c.allocs + 0)), (IntKind.wrap IntKind.u64 (c.frees + 1)), (IntKind.wrap IntKind.u64 (c.failures + 0)), (IntKind.wrap IntKind.u64 (IntKind.wrap IntKind.u64 (c.live + 0) - 1)), (IntKind.wrap IntKind.u64 (c.bytes - IntKind.wrap IntKind.u64 rn))⟩) else
       κ ⟨(IntKind.wrap IntKind.u64 (c.allocs + 0)), (IntKind.wrap IntKind.u64 (c.frees + 0)), (IntKind.wrap IntKind.u64 (c.failures + 0)), (IntKind.wrap IntKind.u64 (IntKind.wrap IntKind.u64 (c.live + 0) - 0)), (c.bytes)⟩) else
      κ ⟨(IntKind.wrap IntKind.u64 (c.allocs + 0)), (IntKind.wrap IntKind.u64 (c.frees + 0)), (IntKind.wrap IntKind.u64 (c.failures + 0)), (IntKind.wrap IntKind.u64 (IntKind.wrap IntKind.u64 (c.live + 0) - 0)), (c.bytes)⟩) else
    bif op == 5 then (bif re == 0 then (κ ⟨(IntKind.wrap IntKind.u64 (c.allocs + 0)), (IntKind.wrap IntKind.u64 (c.frees + 1)), (IntKind.wrap IntKind.u64 (c.failures + 0)), (IntKind.wrap IntKind.u64 (IntKind.wrap IntKind.u64 (c.live + 0) - 1)), (IntKind.wrap IntKind.u64 (c.bytes - IntKind.wrap IntKind.u64 rn))⟩) else
      κ ⟨(IntKind.wrap IntKind.u64 (c.allocs + 0)), (IntKind.wrap IntKind.u64 (c.frees + 0)), (IntKind.wrap IntKind.u64 (c.failures + 0)), (IntKind.wrap IntKind.u64 (IntKind.wrap IntKind.u64 (c.live + 0) - 0)), (c.bytes)⟩) else
     κ ⟨(IntKind.wrap IntKind.u64 (c.allocs + 0)), (IntKind.wrap IntKind.u64 (c.frees + 0)), (IntKind.wrap IntKind.u64 (c.failures + 0)), (IntKind.wrap IntKind.u64 (IntKind.wrap IntKind.u64 (c.live + 0) - 0)), (c.bytes)⟩
def rcountedT (c : Cts) (th : Int) (op : Int) (sz : Int) (nn : Int) (al : Int) (at_ : Int) (off : Int) (by_ : Int) (fr : Int) (to_ : Int) (lin : Int) (tc : Int) (dn : Bool) (ra : Int) (rn : Int) (rb : Int) (u1 : Int) (u2 : Int) (u3 : Int) (u4 : Int) (u5 : Int) (re : Int) (rl : Int) (rt : Int) : T Cts := rcountedTK c th op sz nn al at_ off by_ fr to_ lin tc dn ra rn rb u1 u2 u3 u4 u5 re rl rt .ret
theorem rcountedT_bind {β : Type} (c : Cts) (th : Int) (op : Int) (sz : Int) (nn : Int) (al : Int) (at_ : Int) (off : Int) (by_ : Int) (fr : Int) (to_ : Int) (lin : Int) (tc : Int) (dn : Bool) (ra : Int) (rn : Int) (rb : Int) (u1 : Int) (u2 : Int) (u3 : Int) (u4 : Int) (u5 : Int) (re : Int) (rl : Int) (rt : Int) (κ : Cts → T β) : (rcountedT c th op sz nn al at_ off by_ fr to_ lin tc dn ra rn rb u1 u2 u3 u4 u5 re rl rt).bind κ = rcountedTK c th op sz nn al at_ off by_ fr to_ lin tc dn ra rn rb u1 u2 u3 u4 u5 re rl rt κ := by
  unfold rcountedT rcountedTK
  first | rfl | (simp only [bind_cond, bind_ret_, bind_op, bind_fail, T.bind_assoc])
def m_countedT : Sm := fun args H => match args, H with
  | [.agg cc, .agg [.int .i64 th, .int .u8 op, .int .i64 sz, .int .i64 nn, .int .i64 al, .int .i64 at_, .int .i64 off, .int .u8 by_, .int .i64 fr, .int .i64 to_, .int .i64 lin, .int .i64 tc, .bool dn, .int .i64 ra, .int .i64 rn, .int .u8 rb, .int .u64 u1, .int .u64 u2, .int .u64 u3, .int .u64 u4, .int .u64 u5, .int .i64 re, .int .i64 rl, .int .i64 rt]], [] => (match Cts.of cc with
      | some c => some (mkS (Cts) (countedT c th op sz nn al at_ off by_ fr to_ lin tc dn ra rn rb u1 u2 u3 u4 u5 re rl rt) fun r => some (.agg r.cells, []))
      | _ => none)
  | _, _ => none
theorem s_m_countedT {σ : Type} {I : Port Tryz.prog σ} (hl : SoundL I kz3) : SoundF I 66 m_countedT := by
  refine sound_eq hl 1 Tryz.func66 (by kernel_rfl) (by kernel_rfl) fun args H t ht => ?_
  unfold m_countedT at ht
  split at ht
  · rename_i cc th op sz nn al at_ off by_ fr to_ lin tc dn ra rn rb u1 u2 u3 u4 u5 re rl rt
    split at ht
    · rename_i c hc
      obtain rfl := Cts.of_eq hc
      cases ht
      refine Eq.trans ?_ (countedT_bind c th op sz nn al at_ off by_ fr to_ lin tc dn ra rn rb u1 u2 u3 u4 u5 re rl rt _).symm
      kernel_rfl
    · cases ht
  · cases ht
def m_rcountedT : Sm := fun args H => match args, H with
  | [.agg cc, .agg [.int .i64 th, .int .u8 op, .int .i64 sz, .int .i64 nn, .int .i64 al, .int .i64 at_, .int .i64 off, .int .u8 by_, .int .i64 fr, .int .i64 to_, .int .i64 lin, .int .i64 tc, .bool dn, .int .i64 ra, .int .i64 rn, .int .u8 rb, .int .u64 u1, .int .u64 u2, .int .u64 u3, .int .u64 u4, .int .u64 u5, .int .i64 re, .int .i64 rl, .int .i64 rt]], [] => (match Cts.of cc with
      | some c => some (mkS (Cts) (rcountedT c th op sz nn al at_ off by_ fr to_ lin tc dn ra rn rb u1 u2 u3 u4 u5 re rl rt) fun r => some (.agg r.cells, []))
      | _ => none)
  | _, _ => none
theorem s_m_rcountedT {σ : Type} {I : Port Tryz.prog σ} (hl : SoundL I kz3) : SoundF I 67 m_rcountedT := by
  refine sound_eq hl 3 Tryz.func67 (by kernel_rfl) (by kernel_rfl) fun args H t ht => ?_
  unfold m_rcountedT at ht
  split at ht
  · rename_i cc th op sz nn al at_ off by_ fr to_ lin tc dn ra rn rb u1 u2 u3 u4 u5 re rl rt
    split at ht
    · rename_i c hc
      obtain rfl := Cts.of_eq hc
      cases ht
      refine Eq.trans ?_ (rcountedT_bind c th op sz nn al at_ off by_ fr to_ lin tc dn ra rn rb u1 u2 u3 u4 u5 re rl rt _).symm
      kernel_rfl
    · cases ht
  · cases ht
noncomputable def kz4 : List (Nat × Sm) := (66, m_countedT) :: (67, m_rcountedT) :: kz3
theorem s_kz4 : SoundL NP kz4 := (.cons (s_m_countedT s_kz3) (.cons (s_m_rcountedT s_kz3) s_kz3))
end Go.Proofs.YtaegelbaghaooaaGreat.Lx
