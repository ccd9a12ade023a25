/- Part. -/
import Derived.Test.YtaegelbaghaooaaGreatCfQKv
import Derived.Test.YtaegelbaghaooaaGreatCfQCnt1
set_option linter.all false
namespace Go.Proofs.YtaegelbaghaooaaGreat
structure Lx.Ser where
 n : Nat
 L : Lx.RowsL
 ok : Bool
 x : Nat
 x2 : Nat
 y : Nat
 y2 : Nat
 W : Lx.IntsL
 B : Lx.IntsL
open Go.RowKit Lx
set_option maxRecDepth 1000000
theorem xgY : SoundF NP 60 mTrue := by
 refine jf Tryz.func60 (by kernel_rfl) (by kernel_rfl) fun args H S hS => ?_
 unfold mTrue at hS
 split at hS
 ·cases hS
  exact ⟨rfl, true, _, rfl, [], .bool true, fun e => rfl, fun e => rfl, fun _ w => awake19 w⟩
 ·cases hS
noncomputable def kd0 : List (Nat × Sm) := (57, viaS true m_doT) :: (66, Vp) :: (60, mTrue) :: kv5
theorem s_kd0 : SoundL NP kd0 := .cons (yw fun _ _ _ _ _ => xrM xpe) <| .cons (xlb s_kz3) <| .cons xgY s_kv5
noncomputable def kd1 : List (Nat × Sm) := (199, inl Tryz.prog (xo kd0) 1 Tryz.f199) :: kd0
theorem s_kd1 : SoundL NP kd1 := .cons (xD s_kd0 1 Tryz.func199 (by kernel_rfl) (by kernel_rfl)) s_kd0
noncomputable def kd2 : List (Nat × Sm) := (125, inl Tryz.prog (xo kd1) 1 Tryz.f125) :: kd1
theorem s_kd2 : SoundL NP kd2 := .cons (xD s_kd1 1 Tryz.func125 (by kernel_rfl) (by kernel_rfl)) s_kd1
noncomputable def kd3 : List (Nat × Sm) := (56, inl Tryz.prog (xo kd2) 1 Tryz.f56) :: kd2
theorem s_kd3 : SoundL NP kd3 := .cons (xD s_kd2 1 Tryz.func56 (by kernel_rfl) (by kernel_rfl)) s_kd2
noncomputable def kd4 : List (Nat × Sm) := (104, inl Tryz.prog (xo kd3) 1 Tryz.f104) :: kd3
theorem s_kd4 : SoundL NP kd4 := .cons (xD s_kd3 1 Tryz.func104 (by kernel_rfl) (by kernel_rfl)) s_kd3
noncomputable def kd5 : List (Nat × Sm) := (43, inl Tryz.prog (xo kd4) 1 Tryz.f43) :: kd4
theorem s_kd5 : SoundL NP kd5 := .cons (xD s_kd4 1 Tryz.func43 (by kernel_rfl) (by kernel_rfl)) s_kd4
noncomputable def kd6 : List (Nat × Sm) := (42, inl Tryz.prog (xo kd5) 1 Tryz.f42) :: kd5
theorem s_kd6 : SoundL NP kd6 := .cons (xD s_kd5 1 Tryz.func42 (by kernel_rfl) (by kernel_rfl)) s_kd5
noncomputable def kd7 : List (Nat × Sm) := (59, inl Tryz.prog (xo kd6) 1 Tryz.f59) :: kd6
theorem s_kd7 : SoundL NP kd7 := .cons (xD s_kd6 1 Tryz.func59 (by kernel_rfl) (by kernel_rfl)) s_kd6
end Go.Proofs.YtaegelbaghaooaaGreat
