/- Summaries: alloc, renew, data, call. (trees printed by program, wip/auto.py) -/
import Derived.Test.YtaegelbaghaooaaGreatAyQA15
import Derived.WalkKit
set_option linter.unusedSimpArgs false
set_option linter.unusedVariables false
set_option linter.unusedSectionVars false
namespace Go.Proofs.YtaegelbaghaooaaGreat.Lx
open Go
set_option maxRecDepth 1000000

def VT {β : Type} (g : Geo) (s : Int) (κ : Res → T β) : T β :=
 (vV g 1 s).bind fun r0 =>
 κ ⟨(r0.at_), (r0.n), (r0.byte), (r0.c1), (r0.c2), (r0.c3), (r0.c4), (r0.c5), (r0.e), (r0.lin), (r0.touch)⟩
def wt (g : Geo) (s : Int) : T Res := VT g s .ret
theorem xh3 {β : Type} (g : Geo) (s : Int) (κ : Res → T β) : (wt g s).bind κ = VT g s κ := by
 unfold wt VT
 first | rfl | (simp only [xa, xb, xe, xc, T.bind_assoc])
def XI : Sm := fun args H => match args, H with
 | [.c .port, .agg gc, .c (.int .i64 s)], [] => (match xu gc with
   | some g => some (mkS (Res) (wt g s) fun r => some (.agg r.cells, []))
   | _ => none)
 | _, _ => none
variable {σ : Type} {I : Port Tryz.prog σ}
theorem xbq (hl : SoundL I ka15) : SoundF I 26 XI := by
 refine sq hl 1 Tryz.func26 fun args H t ht => ?_
 unfold XI at ht
 split at ht
 ·rename_i gc s
  split at ht
  ·rename_i g hg
   obtain rfl := xh hg
   cases ht
   refine Eq.trans ?_ (xh3 g s _).symm
   kernel_rfl
  ·cases ht
 ·cases ht
noncomputable def ka16 : List (Nat × Sm) := (26, XI) :: ka15
theorem xtj : SoundL I ka16 := (.cons (xbq xnJ) xnJ)
end Go.Proofs.YtaegelbaghaooaaGreat.Lx
