/- Summaries: central. (trees printed by program, wip/auto.py) -/
import Derived.Test.YtaegelbaghaooaaGreatAyQI
import Derived.WalkKit
set_option linter.unusedSimpArgs false
set_option linter.unusedVariables false
set_option linter.unusedSectionVars false
namespace Go.Proofs.YtaegelbaghaooaaGreat.Lx
open Go
set_option maxRecDepth 1000000

def VL {β : Type} (g : Geo) (c : Int) (κ : (Int × Int) → T β) : T β :=
 (qJ g).bind fun r0 =>
 bif r0 then (κ ((0), (15))) else
 bif decide (c < 0) then (κ ((0), (15))) else
 bif decide (c ≥ 4) then (κ ((0), (15))) else
 .op (.load (atF g 1 0)) fun x4 =>
 (XE g 0 c).bind fun r5 =>
 bif !r5.1.ok then (bif r5.1.e == 0 then ((ZV g r5.2).bind fun r8 =>
 bif !r8.1 then (κ ((0), (5))) else
 (jT g r8.2 c).bind fun r10 =>
 bif r10.1.e != 0 then (κ ((0), (r10.1.e))) else
 bif r10.1.ok then (κ ((r10.1.grain), (0))) else
 .op (.load (atF g 1 0)) fun x13 =>
 bif x13 == IntKind.u64.wrap (x4 + r10.2) then (κ ((0), (15))) else
 .fail) else
 bif r5.1.e != 0 then (κ ((0), (r5.1.e))) else
 bif r5.1.ok then (κ ((r5.1.grain), (0))) else
 .op (.load (atF g 1 0)) fun x10 =>
 bif x10 == IntKind.u64.wrap (x4 + r5.2) then (κ ((0), (15))) else
 .fail) else
 bif r5.1.e != 0 then (κ ((0), (r5.1.e))) else
 bif r5.1.ok then (κ ((r5.1.grain), (0))) else
 .op (.load (atF g 1 0)) fun x9 =>
 bif x9 == IntKind.u64.wrap (x4 + r5.2) then (κ ((0), (15))) else
 .fail
def qO (g : Geo) (c : Int) : T (Int × Int) := VL g c .ret
theorem xhY {β : Type} (g : Geo) (c : Int) (κ : (Int × Int) → T β) : (qO g c).bind κ = VL g c κ := by
 unfold qO VL
 first | rfl | (simp only [xa, xb, xe, xc, T.bind_assoc])
def xbX {β : Type} (g : Geo) (k a : Int) (κ : (Int × Int) → T β) : T β :=
 (qJ g).bind fun r0 =>
 bif r0 then (κ ((0), (15))) else
 bif decide (k < 1) then (κ ((0), (15))) else
 bif decide (a < 1) then (κ ((0), (15))) else
 .op (.load (atF g 1 0)) fun x4 =>
 (xey g 0 k a).bind fun r5 =>
 bif !r5.1.ok then (bif r5.1.e == 0 then ((ZV g r5.2).bind fun r8 =>
 bif !r8.1 then (κ ((0), (5))) else
 (xey g r8.2 k a).bind fun r10 =>
 bif r10.1.e != 0 then (κ ((0), (r10.1.e))) else
 bif r10.1.ok then (κ ((r10.1.grain), (0))) else
 .op (.load (atF g 1 0)) fun x13 =>
 bif x13 == IntKind.u64.wrap (x4 + r10.2) then (κ ((0), (15))) else
 .fail) else
 bif r5.1.e != 0 then (κ ((0), (r5.1.e))) else
 bif r5.1.ok then (κ ((r5.1.grain), (0))) else
 .op (.load (atF g 1 0)) fun x10 =>
 bif x10 == IntKind.u64.wrap (x4 + r5.2) then (κ ((0), (15))) else
 .fail) else
 bif r5.1.e != 0 then (κ ((0), (r5.1.e))) else
 bif r5.1.ok then (κ ((r5.1.grain), (0))) else
 .op (.load (atF g 1 0)) fun x9 =>
 bif x9 == IntKind.u64.wrap (x4 + r5.2) then (κ ((0), (15))) else
 .fail
def Wg (g : Geo) (k a : Int) : T (Int × Int) := xbX g k a .ret
theorem xkT {β : Type} (g : Geo) (k a : Int) (κ : (Int × Int) → T β) : (Wg g k a).bind κ = xbX g k a κ := by
 unfold Wg xbX
 first | rfl | (simp only [xa, xb, xe, xc, T.bind_assoc])
def VM {β : Type} (g : Geo) (κ : (Int × Bool) → T β) : T β :=
 (qJ g).bind fun r0 =>
 bif r0 then (κ ((0), (false))) else
 (ZV g 0).bind fun r2 =>
 κ ((r2.2), (r2.1))
def VN (g : Geo) : T (Int × Bool) := VM g .ret
theorem xhZ {β : Type} (g : Geo) (κ : (Int × Bool) → T β) : (VN g).bind κ = VM g κ := by
 unfold VN VM
 first | rfl | (simp only [xa, xb, xe, xc, T.bind_assoc])
def xaj : Sm := fun args H => match args, H with
 | [.c .port, .agg gc, .c (.int .i64 c)], [] => (match xu gc with
   | some g => some (mkS ((Int × Int)) (qO g c) fun r => some (.tup [.c (.int .i64 r.1), .c (.int .i64 r.2)], []))
   | _ => none)
 | _, _ => none
variable {σ : Type} {I : Port Tryz.prog σ}
theorem xkU (hl : SoundL I kI3) : SoundF I 76 xaj := by
 refine sq hl 1 Tryz.func76 fun args H t ht => ?_
 unfold xaj at ht
 split at ht
 ·rename_i gc c
  split at ht
  ·rename_i g hg
   obtain rfl := xh hg
   cases ht
   refine Eq.trans ?_ (xhY g c _).symm
   kernel_rfl
  ·cases ht
 ·cases ht
def xdG : Sm := fun args H => match args, H with
 | [.c .port, .agg gc, .c (.int .i64 k), .c (.int .i64 a)], [] => (match xu gc with
   | some g => some (mkS ((Int × Int)) (Wg g k a) fun r => some (.tup [.c (.int .i64 r.1), .c (.int .i64 r.2)], []))
   | _ => none)
 | _, _ => none
theorem xnH (hl : SoundL I kI3) : SoundF I 79 xdG := by
 refine sq hl 1 Tryz.func79 fun args H t ht => ?_
 unfold xdG at ht
 split at ht
 ·rename_i gc k a
  split at ht
  ·rename_i g hg
   obtain rfl := xh hg
   cases ht
   refine Eq.trans ?_ (xkT g k a _).symm
   kernel_rfl
  ·cases ht
 ·cases ht
def xak : Sm := fun args H => match args, H with
 | [.c .port, .agg gc], [] => (match xu gc with
   | some g => some (mkS ((Int × Bool)) (VN g) fun r => some (.tup [.c (.int .u64 r.1), .c (.bool r.2)], []))
   | _ => none)
 | _, _ => none
theorem xkV (hl : SoundL I kI3) : SoundF I 92 xak := by
 refine sq hl 1 Tryz.func92 fun args H t ht => ?_
 unfold xak at ht
 split at ht
 ·rename_i gc
  split at ht
  ·rename_i g hg
   obtain rfl := xh hg
   cases ht
   refine Eq.trans ?_ (xhZ g _).symm
   kernel_rfl
  ·cases ht
 ·cases ht
noncomputable def ka13 : List (Nat × Sm) := (76, xaj) :: (79, xdG) :: (92, xak) :: kI3
theorem Wh : SoundL I ka13 := (.cons (xkU xpK) (.cons (xnH xpK) (.cons (xkV xpK) xpK)))
end Go.Proofs.YtaegelbaghaooaaGreat.Lx
