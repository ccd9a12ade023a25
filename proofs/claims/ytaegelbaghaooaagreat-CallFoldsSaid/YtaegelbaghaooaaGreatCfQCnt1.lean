/- Part. -/
import Derived.Test.YtaegelbaghaooaaGreatCfQCnt0
set_option linter.all false
open Go.IntKind (i64 u64 u32 u8)
namespace Go.Proofs.YtaegelbaghaooaaGreat.Lx
open Go
set_option maxRecDepth 1000000
def YY {β : Type} (c : Cts) (th op sz nn al at_ off by_ fr to_ lin tc : Int) (dn : Bool) (ra rn rb u1 u2 u3 u4 u5 re rl rt : Int) (κ : Cts -> T β) : T β :=
 bif !dn then (κ c) else
 bif decide (op >= 1) then (bif decide (op <= 4) then ((wo (Res.mk ra rn rb u1 u2 u3 u4 u5 re rl rt)).bind fun r3 =>
 bif r3 then (κ ⟨(c.allocs), (c.frees), (u64.wrap (c.failures + 1)), (c.live), (c.bytes)⟩) else
 bif decide (op >= 1) then (bif decide (op <= 3) then (bif re == 0 then ((kR (Cal.mk op sz nn al at_ off by_)).bind fun r8 =>
 κ ⟨(u64.wrap (c.allocs + 1)), (c.frees), (c.failures), (u64.wrap (c.live + 1)), (u64.wrap (c.bytes + u64.wrap r8))⟩) else
 bif op == 5 then (bif re == 0 then (κ ⟨(c.allocs), (u64.wrap (c.frees + 1)), (c.failures), (u64.wrap (c.live - 1)), (u64.wrap (c.bytes - u64.wrap rn))⟩) else
 κ c) else
 κ c) else
 bif op == 5 then (bif re == 0 then (κ ⟨(c.allocs), (u64.wrap (c.frees + 1)), (c.failures), (u64.wrap (c.live - 1)), (u64.wrap (c.bytes - u64.wrap rn))⟩) else
 κ c) else
 κ c) else
 bif op == 5 then (bif re == 0 then (κ ⟨(c.allocs), (u64.wrap (c.frees + 1)), (c.failures), (u64.wrap (c.live - 1)), (u64.wrap (c.bytes - u64.wrap rn))⟩) else
 κ c) else
 κ c) else
 bif decide (op >= 1) then (bif decide (op <= 3) then (bif re == 0 then ((kR (Cal.mk op sz nn al at_ off by_)).bind fun r6 =>
 κ ⟨(u64.wrap (c.allocs + 1)), (c.frees), (c.failures), (u64.wrap (c.live + 1)), (u64.wrap (c.bytes + u64.wrap r6))⟩) else
 bif op == 5 then (bif re == 0 then (κ ⟨(c.allocs), (u64.wrap (c.frees + 1)), (c.failures), (u64.wrap (c.live - 1)), (u64.wrap (c.bytes - u64.wrap rn))⟩) else
 κ c) else
 κ c) else
 bif op == 5 then (bif re == 0 then (κ ⟨(c.allocs), (u64.wrap (c.frees + 1)), (c.failures), (u64.wrap (c.live - 1)), (u64.wrap (c.bytes - u64.wrap rn))⟩) else
 κ c) else
 κ c) else
 bif op == 5 then (bif re == 0 then (κ ⟨(c.allocs), (u64.wrap (c.frees + 1)), (c.failures), (u64.wrap (c.live - 1)), (u64.wrap (c.bytes - u64.wrap rn))⟩) else
 κ c) else
 κ c) else
 bif decide (op >= 1) then (bif decide (op <= 3) then (bif re == 0 then ((kR (Cal.mk op sz nn al at_ off by_)).bind fun r5 =>
 κ ⟨(u64.wrap (c.allocs + 1)), (c.frees), (c.failures), (u64.wrap (c.live + 1)), (u64.wrap (c.bytes + u64.wrap r5))⟩) else
 bif op == 5 then (bif re == 0 then (κ ⟨(c.allocs), (u64.wrap (c.frees + 1)), (c.failures), (u64.wrap (c.live - 1)), (u64.wrap (c.bytes - u64.wrap rn))⟩) else
 κ c) else
 κ c) else
 bif op == 5 then (bif re == 0 then (κ ⟨(c.allocs), (u64.wrap (c.frees + 1)), (c.failures), (u64.wrap (c.live - 1)), (u64.wrap (c.bytes - u64.wrap rn))⟩) else
 κ c) else
 κ c) else
 bif op == 5 then (bif re == 0 then (κ ⟨(c.allocs), (u64.wrap (c.frees + 1)), (c.failures), (u64.wrap (c.live - 1)), (u64.wrap (c.bytes - u64.wrap rn))⟩) else
 κ c) else
 κ c
def qq (c : Cts) (th op sz nn al at_ off by_ fr to_ lin tc : Int) (dn : Bool) (ra rn rb u1 u2 u3 u4 u5 re rl rt : Int) : T Cts := YY c th op sz nn al at_ off by_ fr to_ lin tc dn ra rn rb u1 u2 u3 u4 u5 re rl rt .ret
theorem xgX {β : Type} (c : Cts) (th op sz nn al at_ off by_ fr to_ lin tc : Int) (dn : Bool) (ra rn rb u1 u2 u3 u4 u5 re rl rt : Int) (κ : Cts -> T β) : (qq c th op sz nn al at_ off by_ fr to_ lin tc dn ra rn rb u1 u2 u3 u4 u5 re rl rt).bind κ = YY c th op sz nn al at_ off by_ fr to_ lin tc dn ra rn rb u1 u2 u3 u4 u5 re rl rt κ := by
 unfold qq YY
 first | rfl | simp only [bz]
def Vp : Sm := fun
 | [.agg cc, .agg [.int .i64 th, .int .u8 op, .int .i64 sz, .int .i64 nn, .int .i64 al, .int .i64 at_, .int .i64 off, .int .u8 by_, .int .i64 fr, .int .i64 to_, .int .i64 lin, .int .i64 tc, .bool dn, .int .i64 ra, .int .i64 rn, .int .u8 rb, .int .u64 u1, .int .u64 u2, .int .u64 u3, .int .u64 u4, .int .u64 u5, .int .i64 re, .int .i64 rl, .int .i64 rt]], [] => (match Cts.of cc with
   | some c => some (mkS (Cts) (qq c th op sz nn al at_ off by_ fr to_ lin tc dn ra rn rb u1 u2 u3 u4 u5 re rl rt) fun r => some (.agg r.cells, []))
   | _ => none)
 | _, _ => none
variable {σ : Type} {I : Port Tryz.prog σ}
theorem xlb (hl : SoundL I kz3) : SoundF I 66 Vp := by
 refine sq hl 1 Tryz.func66 fun args H t ht => ?_
 unfold Vp at ht
 split at ht
 ·rename_i cc th op sz nn al at_ off by_ fr to_ lin tc dn ra rn rb u1 u2 u3 u4 u5 re rl rt
  split at ht
  ·rename_i c hc
   obtain rfl := Cts.of_eq hc
   cases ht
   refine Eq.trans ?_ (xgX c th op sz nn al at_ off by_ fr to_ lin tc dn ra rn rb u1 u2 u3 u4 u5 re rl rt _).symm
   kernel_rfl
  ·cases ht
 ·cases ht
end Go.Proofs.YtaegelbaghaooaaGreat.Lx
