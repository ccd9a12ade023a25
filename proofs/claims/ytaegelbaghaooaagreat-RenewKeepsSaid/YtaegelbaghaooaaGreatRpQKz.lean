/- AllocZeros: what its code asks for. -/
import Derived.Test.YtaegelbaghaooaaGreatRpQKv
import Derived.Test.YtaegelbaghaooaaGreatRpQRf1
import Derived.Test.YtaegelbaghaooaaGreatRpQMem
set_option linter.unusedSimpArgs false
set_option linter.unusedVariables false
set_option linter.unusedSectionVars false
namespace Go.Proofs.YtaegelbaghaooaaGreat
open Go.RowKit Lx
set_option maxRecDepth 1000000
theorem sound_app2 {σ : Type} {I : Port Tryz.prog σ} {l k : List (Nat × Sm)} (h : SoundL I l) (h' : SoundL I k) : SoundL I (l ++ k) := fun f m hm => (List.mem_append.1 hm).elim (h f m) (h' f m)
noncomputable def kz0m : List (Nat × Sm) := (31, viaB "Put") :: (32, viaB "Get") :: (Lx.kr1 ++ kv5)
theorem s_kz0m : SoundL NP kz0m := (.cons s_putS (.cons s_getS (sound_app2 Lx.s_kr1 s_kv5)))
end Go.Proofs.YtaegelbaghaooaaGreat
