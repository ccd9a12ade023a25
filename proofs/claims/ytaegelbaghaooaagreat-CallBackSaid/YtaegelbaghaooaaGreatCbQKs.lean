/- Part. -/
import Derived.Test.YtaegelbaghaooaaGreatCbQAs
set_option linter.all false
namespace Go.Proofs.YtaegelbaghaooaaGreat
open Go.RowKit Lx
set_option maxRecDepth 1000000
noncomputable def kd9:List (Nat×Sm):=(68,orSm xlL (inl Tryz.prog (xo kd7) 1 Tryz.f68))::kd7
theorem s_kd9:SoundL NP kd9 :=.cons (SoundF.or (xv5 s_kd7) (xx s_kd7 1 Tryz.func68 (by kernel_rfl) (by kernel_rfl))) s_kd7
end Go.Proofs.YtaegelbaghaooaaGreat
