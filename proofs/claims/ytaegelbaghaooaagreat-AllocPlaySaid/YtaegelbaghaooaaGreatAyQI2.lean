/- Summaries: functions that are run in place (a byte's touch). -/
import Derived.Test.YtaegelbaghaooaaGreatAyQA16
import Derived.WalkKit
set_option linter.unusedSimpArgs false
set_option linter.unusedVariables false
set_option linter.unusedSectionVars false
namespace Go.Proofs.YtaegelbaghaooaaGreat.Lx
open Go
set_option maxRecDepth 1000000
noncomputable def kI4 : List (Nat × Sm) := (211, inl Tryz.prog (xt ka16) 1 Tryz.f211) :: ka16
variable {σ : Type} {I : Port Tryz.prog σ}
theorem s_kI4 : SoundL I kI4 := .cons (xF xtj 1 Tryz.func211 (by kernel_rfl) (by kernel_rfl)) xtj
noncomputable def kI5 : List (Nat × Sm) := kI4
theorem s_kI5 : SoundL I kI5 := s_kI4
end Go.Proofs.YtaegelbaghaooaaGreat.Lx
