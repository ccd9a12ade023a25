/- Summaries: is an arena whole? (trees printed by program, wip/auto.py) -/
import Derived.Test.YtaegelbaghaooaaGreatRpQKz
import Derived.WalkKit
set_option linter.unusedSimpArgs false
set_option linter.unusedVariables false
set_option linter.unusedSectionVars false
namespace Go.Proofs.YtaegelbaghaooaaGreat.Lx
open Go
set_option maxRecDepth 1000000

end Go.Proofs.YtaegelbaghaooaaGreat.Lx
