/- Layer 16's laws: what their code asks for. -/
import Derived.Test.YtaegelbaghaooaaGreatRpQKz
import Derived.Test.YtaegelbaghaooaaGreatRpM5
set_option linter.unusedSimpArgs false
set_option linter.unusedVariables false
set_option linter.unusedSectionVars false
namespace Go.Proofs.YtaegelbaghaooaaGreat
open Go.RowKit Lx
set_option maxRecDepth 1000000
theorem sound_mTrue16 : SoundF NP 45 mTrue := by
 refine sound_calls Tryz.func45 (by kernel_rfl) (by kernel_rfl) fun args H S hS => ?_
 unfold mTrue at hS
 split at hS
 ·cases hS
  exact ⟨rfl, true, _, rfl, [], .bool true, fun e => rfl, fun e => rfl, fun _ w => awake16 w⟩
 ·cases hS
noncomputable def kk0 : List (Nat × Sm) := (44, viaS true m_reallocT) :: (45, mTrue) :: kz0m
theorem s_kk0 : SoundL NP kk0 := .cons (sound_viaS fun _ _ _ _ _ => s_m_reallocT s_ka15) <| .cons sound_mTrue16 s_kz0m
end Go.Proofs.YtaegelbaghaooaaGreat
