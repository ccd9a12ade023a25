/- Summaries: central. (trees printed by program, wip/auto.py) -/
import Derived.Test.YtaegelbaghaooaaGreatRpQA11
import Derived.WalkKit
set_option linter.unusedSimpArgs false
set_option linter.unusedVariables false
set_option linter.unusedSectionVars false
namespace Go.Proofs.YtaegelbaghaooaaGreat.Lx
open Go
set_option maxRecDepth 1000000

def sweepTK {β : Type} (g : Geo) (o : Int) (κ : (Bool × Int) → T β) : T β :=
 (cachesT g o).bind fun r0 =>
 (bagsT g r0.2).bind fun r1 =>
 (remotesT g r1.2).bind fun r2 =>
 (tryT g).bind fun r3 =>
 bif !r3 then (κ ((false), (r2.2))) else
 (collectT g).bind fun r5 =>
 (movedT g r2.2 r5).bind fun r6 =>
 (retiresT g r6.2).bind fun r7 =>
 (dropT g).bind fun r8 =>
 κ ((true), (r7.2))
def sweepT (g : Geo) (o : Int) : T (Bool × Int) := sweepTK g o .ret
theorem sweepT_bind {β : Type} (g : Geo) (o : Int) (κ : (Bool × Int) → T β) : (sweepT g o).bind κ = sweepTK g o κ := by
 unfold sweepT sweepTK
 first | rfl | (simp only [bind_cond, bind_ret_, bind_op, bind_fail, T.bind_assoc])
def releaseTK {β : Type} (g : Geo) (k : Int) (κ : Unit → T β) : T β :=
 (cnoneT g).bind fun r0 =>
 bif r0 then (κ ()) else
 bif atF g 11 k == (-1) then (κ ()) else
 (findT g k).bind fun r3 =>
 bif r3.kind == 4 then ((markT g (IntKind.i64.wrap (Int.tdiv k 8)) r3.len).bind fun r5 =>
 bif r5 then ((movedT g 0 1).bind fun r7 =>
 (hcollectT g r7.2).bind fun r8 =>
 κ ()) else
 κ ()) else
 bif r3.kind != 3 then (κ ()) else
 .op (.self ) fun x6 =>
 bif r3.owner != x6 then ((pushT g k).bind fun r8 =>
 (movedT g 0 1).bind fun r9 =>
 κ ()) else
 (putT_ g r3.cls (IntKind.u64.wrap (IntKind.u64.wrap k + 1))).bind fun r8 =>
 bif r8 then ((movedT g 0 1).bind fun r10 =>
 κ ()) else
 (baddT g r3.cls (IntKind.u64.wrap (IntKind.u64.wrap k + 1))).bind fun r10 =>
 bif r10 then ((movedT g 0 1).bind fun r12 =>
 κ ()) else
 (shomeT g k).bind fun r12 =>
 (movedT g 0 1).bind fun r13 =>
 κ ()
def releaseT (g : Geo) (k : Int) : T Unit := releaseTK g k .ret
theorem releaseT_bind {β : Type} (g : Geo) (k : Int) (κ : Unit → T β) : (releaseT g k).bind κ = releaseTK g k κ := by
 unfold releaseT releaseTK
 first | rfl | (simp only [bind_cond, bind_ret_, bind_op, bind_fail, T.bind_assoc])
def m_sweepT : Sm := fun args H => match args, H with
 | [.c (.ptr 0 0)], [some ⟨.port :: gc, 150, false, none⟩] => (match hdOf gc with
   | some (g, o) => some (mkS ((Bool × Int)) (sweepT g o) fun r => some (.c (.bool r.1), [some ⟨.port :: (g.cells ++ [.int .u64 r.2]), 150, false, none⟩]))
   | _ => none)
 | _, _ => none
variable {σ : Type} {I : Port Tryz.prog σ}
theorem s_m_sweepT (hl : SoundL I ka11) : SoundF I 179 m_sweepT := by
 refine sq hl 1 Tryz.func179 fun args H t ht => ?_
 unfold m_sweepT at ht
 split at ht
 ·rename_i gc
  split at ht
  ·rename_i g o hg
   obtain rfl := hdOf_eq hg
   cases ht
   refine Eq.trans ?_ (sweepT_bind g o _).symm
   kernel_rfl
  ·cases ht
 ·cases ht
def m_releaseT : Sm := fun args H => match args, H with
 | [.c .port, .agg gc, .c (.int .i64 k)], [] => (match geoOf gc with
   | some g => some (mkS (Unit) (releaseT g k) fun r => some (.tup [], []))
   | _ => none)
 | _, _ => none
theorem s_m_releaseT (hl : SoundL I ka11) : SoundF I 27 m_releaseT := by
 refine sq hl 1 Tryz.func27 fun args H t ht => ?_
 unfold m_releaseT at ht
 split at ht
 ·rename_i gc k
  split at ht
  ·rename_i g hg
   obtain rfl := geoOf_eq hg
   cases ht
   refine Eq.trans ?_ (releaseT_bind g k _).symm
   kernel_rfl
  ·cases ht
 ·cases ht
def ka12 : List (Nat × Sm) := (179, m_sweepT) :: (27, m_releaseT) :: ka11
theorem s_ka12 : SoundL I ka12 := (.cons (s_m_sweepT s_ka11) (.cons (s_m_releaseT s_ka11) s_ka11))
end Go.Proofs.YtaegelbaghaooaaGreat.Lx
