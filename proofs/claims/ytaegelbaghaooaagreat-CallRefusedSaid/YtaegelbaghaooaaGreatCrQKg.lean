/- Part. -/
import Derived.Test.YtaegelbaghaooaaGreatCrQSe
import Derived.Test.YtaegelbaghaooaaGreatCrM17
set_option linter.all false
namespace Go.Proofs.YtaegelbaghaooaaGreat
open Go.RowKit Lx
set_option maxRecDepth 1000000
noncomputable def kx0 : List (Nat × Sm) := kd10 ++ kc1m
theorem s_kx0 : SoundL NP kx0 := xeI s_kd10 s_kc1m
end Go.Proofs.YtaegelbaghaooaaGreat
