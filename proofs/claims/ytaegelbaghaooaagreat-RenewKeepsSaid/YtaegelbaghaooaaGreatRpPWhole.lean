/- A trimmed heap in which nothing is held is one free run. -/
import Derived.Test.YtaegelbaghaooaaGreatRpM9
set_option linter.unusedSimpArgs false
set_option linter.unusedVariables false
set_option linter.unusedSectionVars false
namespace Go.Proofs.YtaegelbaghaooaaGreat
open Go Go.RowKit Lx
section
variable {n t : Nat} {A : AS} {S : List Sg} {mp vr : Nat → Nat} {rem bag : Nat → List Nat} {pl : List Nat}
end
section
variable {n t : Nat} (hf : Small n t) {A : AS} {held : Nat → Option HK}
include hf
end
end Go.Proofs.YtaegelbaghaooaaGreat
