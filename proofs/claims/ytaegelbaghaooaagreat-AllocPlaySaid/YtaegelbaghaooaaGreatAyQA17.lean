/- Summaries: data, call. (trees printed by program, wip/auto.py) -/
import Derived.Test.YtaegelbaghaooaaGreatAyQI2
import Derived.WalkKit
set_option linter.unusedSimpArgs false
set_option linter.unusedVariables false
set_option linter.unusedSectionVars false
namespace Go.Proofs.YtaegelbaghaooaaGreat.Lx
open Go
set_option maxRecDepth 1000000

noncomputable def ka17 : List (Nat × Sm) := kI5
variable {σ : Type} {I : Port Tryz.prog σ}
theorem s_ka17 : SoundL I ka17 := s_kI5
end Go.Proofs.YtaegelbaghaooaaGreat.Lx
