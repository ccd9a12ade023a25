/- What CallCounts looks at: the counts of a history of one call. -/
import Derived.Test.YtaegelbaghaooaaGreatCcM5
namespace Go.Proofs.YtaegelbaghaooaaGreat
open Go.RowKit Lx
set_option linter.unusedVariables false
set_option maxRecDepth 1000000
noncomputable def kz1 : List (Nat × Sm) := (138, orK kc7 138 (inl Tryz.prog (lookK kc7) 3 Tryz.f138)) :: kc7
theorem s_kz1 : SoundL NP kz1 := .cons (sound_orK s_kc7 (sound_in s_kc7 3 Tryz.func138 (by kernel_rfl) (by kernel_rfl))) s_kc7
noncomputable def kz2 : List (Nat × Sm) := (141, orK kz1 141 (inl Tryz.prog (lookK kz1) 3 Tryz.f141)) :: kz1
theorem s_kz2 : SoundL NP kz2 := .cons (sound_orK s_kz1 (sound_in s_kz1 3 Tryz.func141 (by kernel_rfl) (by kernel_rfl))) s_kz1
noncomputable def kz3 : List (Nat × Sm) := (64, orK kz2 64 (inl Tryz.prog (lookK kz2) 3 Tryz.f64)) :: kz2
theorem s_kz3 : SoundL NP kz3 := .cons (sound_orK s_kz2 (sound_in s_kz2 3 Tryz.func64 (by kernel_rfl) (by kernel_rfl))) s_kz2
end Go.Proofs.YtaegelbaghaooaaGreat
