/- Summaries: the document (13, 15), lists of blocks. (trees printed by program, wip/auto.py) -/
import Derived.Test.YtaegelbaghaooaaGreatArQRf0
import Derived.WalkKit
set_option linter.unusedSimpArgs false
set_option linter.unusedVariables false
namespace Go.Proofs.YtaegelbaghaooaaGreat.Lx
open Go
set_option maxRecDepth 1000000
set_option linter.unusedVariables false

noncomputable def kr1 : List (Nat × Sm) := kr0
theorem s_kr1 {σ : Type} {I : Port Tryz.prog σ} : SoundL I kr1 := s_kr0
end Go.Proofs.YtaegelbaghaooaaGreat.Lx
