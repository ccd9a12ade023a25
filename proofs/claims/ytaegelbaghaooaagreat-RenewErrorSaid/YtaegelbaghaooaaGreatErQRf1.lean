/- Summaries: the document (13, 15), lists of blocks. (trees printed by program, wip/auto.py) -/
import Derived.Test.YtaegelbaghaooaaGreatErQRf0
import Derived.WalkKit
set_option linter.all false
namespace Go.Proofs.YtaegelbaghaooaaGreat.Lx
open Go
set_option maxRecDepth 1000000
noncomputable def kr1 : List (Nat × Sm) := kr0
variable {σ : Type} {I : Port Tryz.prog σ}
theorem s_kr1 : SoundL I kr1 := s_kr0
end Go.Proofs.YtaegelbaghaooaaGreat.Lx
