/- Summaries: central. (trees printed by program, wip/auto.py) -/
import Derived.Test.YtaegelbaghaooaaGreatRpQI
import Derived.WalkKit
set_option linter.unusedSimpArgs false
set_option linter.unusedVariables false
set_option linter.unusedSectionVars false
namespace Go.Proofs.YtaegelbaghaooaaGreat.Lx
open Go
set_option maxRecDepth 1000000

def obtainTK {β : Type} (g : Geo) (c : Int) (κ : (Int × Int) → T β) : T β :=
 (cnoneT g).bind fun r0 =>
 bif r0 then (κ ((0), (15))) else
 bif decide (c < 0) then (κ ((0), (15))) else
 bif decide (c ≥ 4) then (κ ((0), (15))) else
 .op (.load (atF g 1 0)) fun x4 =>
 (sfirstT g 0 c).bind fun r5 =>
 bif !r5.1.ok then (bif r5.1.e == 0 then ((sweepT g r5.2).bind fun r8 =>
 bif !r8.1 then (κ ((0), (5))) else
 (ssecondT g r8.2 c).bind fun r10 =>
 bif r10.1.e != 0 then (κ ((0), (r10.1.e))) else
 bif r10.1.ok then (κ ((r10.1.grain), (0))) else
 .op (.load (atF g 1 0)) fun x13 =>
 bif x13 == IntKind.u64.wrap (x4 + r10.2) then (κ ((0), (15))) else
 .fail) else
 bif r5.1.e != 0 then (κ ((0), (r5.1.e))) else
 bif r5.1.ok then (κ ((r5.1.grain), (0))) else
 .op (.load (atF g 1 0)) fun x10 =>
 bif x10 == IntKind.u64.wrap (x4 + r5.2) then (κ ((0), (15))) else
 .fail) else
 bif r5.1.e != 0 then (κ ((0), (r5.1.e))) else
 bif r5.1.ok then (κ ((r5.1.grain), (0))) else
 .op (.load (atF g 1 0)) fun x9 =>
 bif x9 == IntKind.u64.wrap (x4 + r5.2) then (κ ((0), (15))) else
 .fail
def obtainT (g : Geo) (c : Int) : T (Int × Int) := obtainTK g c .ret
theorem obtainT_bind {β : Type} (g : Geo) (c : Int) (κ : (Int × Int) → T β) : (obtainT g c).bind κ = obtainTK g c κ := by
 unfold obtainT obtainTK
 first | rfl | (simp only [bind_cond, bind_ret_, bind_op, bind_fail, T.bind_assoc])
def pagesTK {β : Type} (g : Geo) (k a : Int) (κ : (Int × Int) → T β) : T β :=
 (cnoneT g).bind fun r0 =>
 bif r0 then (κ ((0), (15))) else
 bif decide (k < 1) then (κ ((0), (15))) else
 bif decide (a < 1) then (κ ((0), (15))) else
 .op (.load (atF g 1 0)) fun x4 =>
 (hrunT g 0 k a).bind fun r5 =>
 bif !r5.1.ok then (bif r5.1.e == 0 then ((sweepT g r5.2).bind fun r8 =>
 bif !r8.1 then (κ ((0), (5))) else
 (hrunT g r8.2 k a).bind fun r10 =>
 bif r10.1.e != 0 then (κ ((0), (r10.1.e))) else
 bif r10.1.ok then (κ ((r10.1.grain), (0))) else
 .op (.load (atF g 1 0)) fun x13 =>
 bif x13 == IntKind.u64.wrap (x4 + r10.2) then (κ ((0), (15))) else
 .fail) else
 bif r5.1.e != 0 then (κ ((0), (r5.1.e))) else
 bif r5.1.ok then (κ ((r5.1.grain), (0))) else
 .op (.load (atF g 1 0)) fun x10 =>
 bif x10 == IntKind.u64.wrap (x4 + r5.2) then (κ ((0), (15))) else
 .fail) else
 bif r5.1.e != 0 then (κ ((0), (r5.1.e))) else
 bif r5.1.ok then (κ ((r5.1.grain), (0))) else
 .op (.load (atF g 1 0)) fun x9 =>
 bif x9 == IntKind.u64.wrap (x4 + r5.2) then (κ ((0), (15))) else
 .fail
def pagesT (g : Geo) (k a : Int) : T (Int × Int) := pagesTK g k a .ret
theorem pagesT_bind {β : Type} (g : Geo) (k a : Int) (κ : (Int × Int) → T β) : (pagesT g k a).bind κ = pagesTK g k a κ := by
 unfold pagesT pagesTK
 first | rfl | (simp only [bind_cond, bind_ret_, bind_op, bind_fail, T.bind_assoc])
def m_obtainT : Sm := fun args H => match args, H with
 | [.c .port, .agg gc, .c (.int .i64 c)], [] => (match geoOf gc with
   | some g => some (mkS ((Int × Int)) (obtainT g c) fun r => some (.tup [.c (.int .i64 r.1), .c (.int .i64 r.2)], []))
   | _ => none)
 | _, _ => none
variable {σ : Type} {I : Port Tryz.prog σ}
theorem s_m_obtainT (hl : SoundL I kI3) : SoundF I 76 m_obtainT := by
 refine sq hl 1 Tryz.func76 fun args H t ht => ?_
 unfold m_obtainT at ht
 split at ht
 ·rename_i gc c
  split at ht
  ·rename_i g hg
   obtain rfl := geoOf_eq hg
   cases ht
   refine Eq.trans ?_ (obtainT_bind g c _).symm
   kernel_rfl
  ·cases ht
 ·cases ht
def m_pagesT : Sm := fun args H => match args, H with
 | [.c .port, .agg gc, .c (.int .i64 k), .c (.int .i64 a)], [] => (match geoOf gc with
   | some g => some (mkS ((Int × Int)) (pagesT g k a) fun r => some (.tup [.c (.int .i64 r.1), .c (.int .i64 r.2)], []))
   | _ => none)
 | _, _ => none
theorem s_m_pagesT (hl : SoundL I kI3) : SoundF I 79 m_pagesT := by
 refine sq hl 1 Tryz.func79 fun args H t ht => ?_
 unfold m_pagesT at ht
 split at ht
 ·rename_i gc k a
  split at ht
  ·rename_i g hg
   obtain rfl := geoOf_eq hg
   cases ht
   refine Eq.trans ?_ (pagesT_bind g k a _).symm
   kernel_rfl
  ·cases ht
 ·cases ht
noncomputable def ka13 : List (Nat × Sm) := (76, m_obtainT) :: (79, m_pagesT) :: kI3
theorem s_ka13 : SoundL I ka13 := (.cons (s_m_obtainT s_kI3) (.cons (s_m_pagesT s_kI3) s_kI3))
end Go.Proofs.YtaegelbaghaooaaGreat.Lx
