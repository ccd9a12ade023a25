/- Part. -/
import Derived.Test.YtaegelbaghaooaaGreatCfM3
import Derived.Test.YtaegelbaghaooaaGreatCfLxMrg
set_option linter.all false
namespace Go.Proofs.YtaegelbaghaooaaGreat.Lx
open Go
set_option maxRecDepth 1000000
end Go.Proofs.YtaegelbaghaooaaGreat.Lx
