/- Summaries: alloc, renew, data, call. (trees printed by program, wip/auto.py) -/
import Derived.Test.YtaegelbaghaooaaGreatAzQA15
import Derived.WalkKit
set_option linter.unusedSimpArgs false
set_option linter.unusedVariables false
set_option linter.unusedSectionVars false
namespace Go.Proofs.YtaegelbaghaooaaGreat.Lx
open Go
set_option maxRecDepth 1000000

def mallocTK {β : Type} (g : Geo) (s : Int) (κ : Res → T β) : T β :=
 (alignedT g 1 s).bind fun r0 =>
 κ ⟨(r0.at_), (r0.n), (r0.byte), (r0.c1), (r0.c2), (r0.c3), (r0.c4), (r0.c5), (r0.e), (r0.lin), (r0.touch)⟩
def mallocT (g : Geo) (s : Int) : T Res := mallocTK g s .ret
theorem mallocT_bind {β : Type} (g : Geo) (s : Int) (κ : Res → T β) : (mallocT g s).bind κ = mallocTK g s κ := by
  unfold mallocT mallocTK
  first | rfl | (simp only [bind_cond, bind_ret_, bind_op, bind_fail, T.bind_assoc])
def m_mallocT : Sm := fun args H => match args, H with
  | [.c .port, .agg gc, .c (.int .i64 s)], [] => (match geoOf gc with
      | some g => some (mkS (Res) (mallocT g s) fun r => some (.agg r.cells, []))
      | _ => none)
  | _, _ => none
theorem s_m_mallocT {σ : Type} {I : Port Tryz.prog σ} (hl : SoundL I ka15) : SoundF I 26 m_mallocT := by
  refine sound_eq hl 1 Tryz.func26 (by kernel_rfl) (by kernel_rfl) fun args H t ht => ?_
  unfold m_mallocT at ht
  split at ht
  · rename_i gc s
    split at ht
    · rename_i g hg
      obtain rfl := geoOf_eq hg
      cases ht
      refine Eq.trans ?_ (mallocT_bind g s _).symm
      kernel_rfl
    · cases ht
  · cases ht
noncomputable def ka16 : List (Nat × Sm) := (26, m_mallocT) :: ka15
theorem s_ka16 {σ : Type} {I : Port Tryz.prog σ} : SoundL I ka16 := (.cons (s_m_mallocT s_ka15) s_ka15)
end Go.Proofs.YtaegelbaghaooaaGreat.Lx
