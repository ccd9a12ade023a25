/- Summaries: central. (trees printed by program, wip/auto.py) -/
import Derived.Test.YtaegelbaghaooaaGreatAyQA11
import Derived.WalkKit
set_option linter.unusedSimpArgs false
set_option linter.unusedVariables false
set_option linter.unusedSectionVars false
namespace Go.Proofs.YtaegelbaghaooaaGreat.Lx
open Go
set_option maxRecDepth 1000000

def xbW {β : Type} (g : Geo) (o : Int) (κ : (Bool × Int) → T β) : T β :=
 (Yi g o).bind fun r0 =>
 (xgA g r0.2).bind fun r1 =>
 (qb g r1.2).bind fun r2 =>
 (tryT g).bind fun r3 =>
 bif !r3 then (κ ((false), (r2.2))) else
 (vz g).bind fun r5 =>
 (yF g r2.2 r5).bind fun r6 =>
 (qc g r6.2).bind fun r7 =>
 (ZW g).bind fun r8 =>
 κ ((true), (r7.2))
def ZV (g : Geo) (o : Int) : T (Bool × Int) := xbW g o .ret
theorem xkR {β : Type} (g : Geo) (o : Int) (κ : (Bool × Int) → T β) : (ZV g o).bind κ = xbW g o κ := by
 unfold ZV xbW
 first | rfl | (simp only [xa, xb, xe, xc, T.bind_assoc])
def XD {β : Type} (g : Geo) (k : Int) (κ : Unit → T β) : T β :=
 (qJ g).bind fun r0 =>
 bif r0 then (κ ()) else
 bif atF g 11 k == (-1) then (κ ()) else
 (wE g k).bind fun r3 =>
 bif r3.kind == 4 then ((markT g (IntKind.i64.wrap (Int.tdiv k 8)) r3.len).bind fun r5 =>
 bif r5 then ((yF g 0 1).bind fun r7 =>
 (qd g r7.2).bind fun r8 =>
 κ ()) else
 κ ()) else
 bif r3.kind != 3 then (κ ()) else
 .op (.self ) fun x6 =>
 bif r3.owner != x6 then ((xgG g k).bind fun r8 =>
 (yF g 0 1).bind fun r9 =>
 κ ()) else
 (xgu g r3.cls (IntKind.u64.wrap (IntKind.u64.wrap k + 1))).bind fun r8 =>
 bif r8 then ((yF g 0 1).bind fun r10 =>
 κ ()) else
 (xgy g r3.cls (IntKind.u64.wrap (IntKind.u64.wrap k + 1))).bind fun r10 =>
 bif r10 then ((yF g 0 1).bind fun r12 =>
 κ ()) else
 (Wp g k).bind fun r12 =>
 (yF g 0 1).bind fun r13 =>
 κ ()
def jS (g : Geo) (k : Int) : T Unit := XD g k .ret
theorem xe7 {β : Type} (g : Geo) (k : Int) (κ : Unit → T β) : (jS g k).bind κ = XD g k κ := by
 unfold jS XD
 first | rfl | (simp only [xa, xb, xe, xc, T.bind_assoc])
def xdF : Sm := fun args H => match args, H with
 | [.c (.ptr 0 0)], [some ⟨.port :: gc, 150, false, none⟩] => (match hdOf gc with
   | some (g, o) => some (mkS ((Bool × Int)) (ZV g o) fun r => some (.c (.bool r.1), [some ⟨.port :: (g.cells ++ [.int .u64 r.2]), 150, false, none⟩]))
   | _ => none)
 | _, _ => none
variable {σ : Type} {I : Port Tryz.prog σ}
theorem xnF (hl : SoundL I ka11) : SoundF I 179 xdF := by
 refine sq hl 1 Tryz.func179 fun args H t ht => ?_
 unfold xdF at ht
 split at ht
 ·rename_i gc
  split at ht
  ·rename_i g o hg
   obtain rfl := yy hg
   cases ht
   refine Eq.trans ?_ (xkR g o _).symm
   kernel_rfl
  ·cases ht
 ·cases ht
def qN : Sm := fun args H => match args, H with
 | [.c .port, .agg gc, .c (.int .i64 k)], [] => (match xu gc with
   | some g => some (mkS (Unit) (jS g k) fun r => some (.tup [], []))
   | _ => none)
 | _, _ => none
theorem VI (hl : SoundL I ka11) : SoundF I 27 qN := by
 refine sq hl 1 Tryz.func27 fun args H t ht => ?_
 unfold qN at ht
 split at ht
 ·rename_i gc k
  split at ht
  ·rename_i g hg
   obtain rfl := xh hg
   cases ht
   refine Eq.trans ?_ (xe7 g k _).symm
   kernel_rfl
  ·cases ht
 ·cases ht
def ka12 : List (Nat × Sm) := (179, xdF) :: (27, qN) :: ka11
theorem xnG : SoundL I ka12 := (.cons (xnF xhV) (.cons (VI xhV) xhV))
end Go.Proofs.YtaegelbaghaooaaGreat.Lx
