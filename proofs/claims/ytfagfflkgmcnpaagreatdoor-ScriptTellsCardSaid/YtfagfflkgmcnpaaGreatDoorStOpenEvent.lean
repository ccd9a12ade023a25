/- Part. -/
import Derived.Test.YtfagfflkgmcnpaaGreatDoorStM16
import Derived.WideShapes
set_option linter.all false
namespace Go.Proofs.YtfagfflkgmcnpaaGreatDoor
open Go.RowKit Go.WideShapes
end Go.Proofs.YtfagfflkgmcnpaaGreatDoor
