/- Layer 15's laws: what is known of the document and of the port's calls, together. -/
import Derived.Test.YtaegelbaghaooaaGreatAyQKv
import Derived.Test.YtaegelbaghaooaaGreatAyQRf4
set_option linter.unusedSimpArgs false
set_option linter.unusedVariables false
set_option linter.unusedSectionVars false
namespace Go.Proofs.YtaegelbaghaooaaGreat
open Go.RowKit Lx
set_option maxRecDepth 1000000
theorem xrP {σ : Type} {I : Port Tryz.prog σ} {l k : List (Nat × Sm)} (h : SoundL I l) (h' : SoundL I k) : SoundL I (l ++ k) := fun f m hm => (List.mem_append.1 hm).elim (h f m) (h' f m)
noncomputable def kp0 : List (Nat × Sm) := kr4 ++ kv5
theorem s_kp0 : SoundL NP kp0 := xrP s_kr4 s_kv5
noncomputable def kp1 : List (Nat × Sm) := (107, inl Tryz.prog (xt kp0) 1 Tryz.f107) :: kp0
theorem s_kp1 : SoundL NP kp1 := .cons (xF s_kp0 1 Tryz.func107 (by kernel_rfl) (by kernel_rfl)) s_kp0
noncomputable def kp2 : List (Nat × Sm) := (36, inl Tryz.prog (xt kp1) 1 Tryz.f36) :: kp1
theorem s_kp2 : SoundL NP kp2 := .cons (xF s_kp1 1 Tryz.func36 (by kernel_rfl) (by kernel_rfl)) s_kp1
noncomputable def kp3 : List (Nat × Sm) := (38, inl Tryz.prog (xt kp2) 1 Tryz.f38) :: kp2
theorem s_kp3 : SoundL NP kp3 := .cons (xF s_kp2 1 Tryz.func38 (by kernel_rfl) (by kernel_rfl)) s_kp2
noncomputable def kp4 : List (Nat × Sm) := (104, inl Tryz.prog (xt kp3) 1 Tryz.f104) :: kp3
theorem s_kp4 : SoundL NP kp4 := .cons (xF s_kp3 1 Tryz.func104 (by kernel_rfl) (by kernel_rfl)) s_kp3
noncomputable def kp5 : List (Nat × Sm) := (43, inl Tryz.prog (xt kp4) 1 Tryz.f43) :: kp4
theorem s_kp5 : SoundL NP kp5 := .cons (xF s_kp4 1 Tryz.func43 (by kernel_rfl) (by kernel_rfl)) s_kp4
noncomputable def kp6 : List (Nat × Sm) := (42, inl Tryz.prog (xt kp5) 1 Tryz.f42) :: kp5
theorem s_kp6 : SoundL NP kp6 := .cons (xF s_kp5 1 Tryz.func42 (by kernel_rfl) (by kernel_rfl)) s_kp5
end Go.Proofs.YtaegelbaghaooaaGreat
