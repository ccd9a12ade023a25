/- Whole is true of a whole arena. -/
import Derived.Test.YtaegelbaghaooaaGreatRpPWhole
import Derived.Test.YtaegelbaghaooaaGreatRpQWh
import Derived.Test.YtaegelbaghaooaaGreatRpPRef
set_option linter.unusedSimpArgs false
set_option linter.unusedVariables false
set_option linter.unusedSectionVars false
namespace Go.Proofs.YtaegelbaghaooaaGreat
open Go Go.RowKit Lx
section
variable {n t : Nat} (hf : Small n t) {A : AS} {s : DS}
include hf
end
end Go.Proofs.YtaegelbaghaooaaGreat
