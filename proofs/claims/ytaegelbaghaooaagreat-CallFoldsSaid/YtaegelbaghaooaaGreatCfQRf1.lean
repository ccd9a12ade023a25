/- Part. -/
import Derived.Test.YtaegelbaghaooaaGreatCfQRf0
set_option linter.all false
namespace Go.Proofs.YtaegelbaghaooaaGreat.Lx
open Go
set_option maxRecDepth 1000000
end Go.Proofs.YtaegelbaghaooaaGreat.Lx
