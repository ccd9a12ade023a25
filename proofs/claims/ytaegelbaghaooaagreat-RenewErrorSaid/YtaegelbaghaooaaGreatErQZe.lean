/- Summaries: AllocZeros. (trees printed by program, wip/auto.py) -/
import Derived.Test.YtaegelbaghaooaaGreatErQKz
import Derived.WalkKit
set_option linter.all false
namespace Go.Proofs.YtaegelbaghaooaaGreat.Lx
open Go
noncomputable section
set_option maxRecDepth 1000000
end
end Go.Proofs.YtaegelbaghaooaaGreat.Lx
