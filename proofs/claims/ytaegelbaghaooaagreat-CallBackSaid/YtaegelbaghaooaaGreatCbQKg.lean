/- Part. -/
import Derived.Test.YtaegelbaghaooaaGreatCbQSe
import Derived.Test.YtaegelbaghaooaaGreatCbM17
set_option linter.all false
namespace Go.Proofs.YtaegelbaghaooaaGreat
open Go.RowKit Lx
set_option maxRecDepth 1000000
noncomputable def kx0:List (Nat×Sm):=kd10++kc1m
theorem s_kx0:SoundL NP kx0:=xe8 s_kd10 s_kc1m
end Go.Proofs.YtaegelbaghaooaaGreat
