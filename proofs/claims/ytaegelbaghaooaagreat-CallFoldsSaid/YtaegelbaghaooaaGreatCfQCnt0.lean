/- Part. -/
import Derived.Test.YtaegelbaghaooaaGreatCfM5
set_option linter.all false
namespace Go.Proofs.YtaegelbaghaooaaGreat
open Go.RowKit Lx
set_option maxRecDepth 1000000
noncomputable def kz1 : List (Nat × Sm) := kc7
theorem s_kz1 : SoundL NP kz1 := s_kc7
noncomputable def kz2 : List (Nat × Sm) := kz1
theorem s_kz2 : SoundL NP kz2 := s_kz1
noncomputable def kz3 : List (Nat × Sm) := kz2
theorem s_kz3 : SoundL NP kz3 := s_kz2
end Go.Proofs.YtaegelbaghaooaaGreat
