/- Summaries: call. (trees printed by program, wip/auto.py) -/
import Derived.Test.YtaegelbaghaooaaGreatAyQA17
import Derived.WalkKit
set_option linter.unusedSimpArgs false
set_option linter.unusedVariables false
set_option linter.unusedSectionVars false
namespace Go.Proofs.YtaegelbaghaooaaGreat.Lx
open Go
set_option maxRecDepth 1000000

noncomputable def ka18 : List (Nat × Sm) := ka17
variable {σ : Type} {I : Port Tryz.prog σ}
theorem xnK : SoundL I ka18 := s_ka17
end Go.Proofs.YtaegelbaghaooaaGreat.Lx
