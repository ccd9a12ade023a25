/- Layer 15's closed statements: by the executor. -/
import Derived.Test.YtaegelbaghaooaaGreatQNull
import Derived.Test.YtaegelbaghaooaaGreatQI
namespace Go.Proofs.YtaegelbaghaooaaGreat
open Go.RowKit Lx
set_option linter.unusedVariables false
set_option maxRecDepth 1000000
noncomputable def kl1 : List (Nat × Sm) := (18, orK kn0 18 (inl Tryz.prog (lookK kn0) 30 Tryz.f18)) :: kn0
theorem s_kl1 : SoundL NP kl1 := .cons (sound_orK s_kn0 (sound_in s_kn0 30 Tryz.func18 (by kernel_rfl) (by kernel_rfl))) s_kn0
noncomputable def kl2 : List (Nat × Sm) := (19, orK kl1 19 (inl Tryz.prog (lookK kl1) 1 Tryz.f19)) :: kl1
theorem s_kl2 : SoundL NP kl2 := .cons (sound_orK s_kl1 (sound_in s_kl1 1 Tryz.func19 (by kernel_rfl) (by kernel_rfl))) s_kl1
noncomputable def kl3 : List (Nat × Sm) := (150, orK kl2 150 (inl Tryz.prog (lookK kl2) 1 Tryz.f150)) :: kl2
theorem s_kl3 : SoundL NP kl3 := .cons (sound_orK s_kl2 (sound_in s_kl2 1 Tryz.func150 (by kernel_rfl) (by kernel_rfl))) s_kl2
noncomputable def kl4 : List (Nat × Sm) := (71, orK kl3 71 (inl Tryz.prog (lookK kl3) 1 Tryz.f71)) :: kl3
theorem s_kl4 : SoundL NP kl4 := .cons (sound_orK s_kl3 (sound_in s_kl3 1 Tryz.func71 (by kernel_rfl) (by kernel_rfl))) s_kl3
noncomputable def kl5 : List (Nat × Sm) := (20, orK kl4 20 (inl Tryz.prog (lookK kl4) 1 Tryz.f20)) :: kl4
theorem s_kl5 : SoundL NP kl5 := .cons (sound_orK s_kl4 (sound_in s_kl4 1 Tryz.func20 (by kernel_rfl) (by kernel_rfl))) s_kl4
noncomputable def kl6 : List (Nat × Sm) := (42, orK kl5 42 (inl Tryz.prog (lookK kl5) 1 Tryz.f42)) :: kl5
theorem s_kl6 : SoundL NP kl6 := .cons (sound_orK s_kl5 (sound_in s_kl5 1 Tryz.func42 (by kernel_rfl) (by kernel_rfl))) s_kl5
noncomputable def kl7 : List (Nat × Sm) := (73, orK kl6 73 (inl Tryz.prog (lookK kl6) 1 Tryz.f73)) :: kl6
theorem s_kl7 : SoundL NP kl7 := .cons (sound_orK s_kl6 (sound_in s_kl6 1 Tryz.func73 (by kernel_rfl) (by kernel_rfl))) s_kl6
noncomputable def kl8 : List (Nat × Sm) := (22, orK kl7 22 (inl Tryz.prog (lookK kl7) 1 Tryz.f22)) :: kl7
theorem s_kl8 : SoundL NP kl8 := .cons (sound_orK s_kl7 (sound_in s_kl7 1 Tryz.func22 (by kernel_rfl) (by kernel_rfl))) s_kl7
noncomputable def kl9 : List (Nat × Sm) := (26, orK kl8 26 (inl Tryz.prog (lookK kl8) 1 Tryz.f26)) :: kl8
theorem s_kl9 : SoundL NP kl9 := .cons (sound_orK s_kl8 (sound_in s_kl8 1 Tryz.func26 (by kernel_rfl) (by kernel_rfl))) s_kl8
noncomputable def kl10 : List (Nat × Sm) := (25, orK kl9 25 (inl Tryz.prog (lookK kl9) 1 Tryz.f25)) :: kl9
theorem s_kl10 : SoundL NP kl10 := .cons (sound_orK s_kl9 (sound_in s_kl9 1 Tryz.func25 (by kernel_rfl) (by kernel_rfl))) s_kl9
noncomputable def kl11 : List (Nat × Sm) := (23, orK kl10 23 (inl Tryz.prog (lookK kl10) 1 Tryz.f23)) :: kl10
theorem s_kl11 : SoundL NP kl11 := .cons (sound_orK s_kl10 (sound_in s_kl10 1 Tryz.func23 (by kernel_rfl) (by kernel_rfl))) s_kl10
theorem ran_awake15 : evF Tryz.prog (lookK kl10) 1 Tryz.f23 [] [] = .ret (.c (.bool true), []) := by kernel_rfl
theorem run_ret {f : T (V × Heap)} {v : V} (h : f = .ret (v, [])) : f.run NP.step () = some ((v, []), ()) := by rw [h]; rfl
/-- a closed function whose run is known. -/
theorem closed_law {k : List (Nat × Sm)} (hk : SoundL NP k) {f : FuncId} {fn : Func} {n : Nat} (hf : (Tryz.prog).funcs[f]? = some fn) (hname : (fn.name == "runtime.NumGoroutine") = false) (hbody : fn.body.isSome = true) {b : Bool} (h : evF Tryz.prog (lookK k) n fn [] [] = .ret (.c (.bool b), [])) (w : World) :
    Calls Tryz.prog f #[] w fun en w' => en = .returned (.bool b) ∧ Below w.heap.size w w' :=
  calls_flat (sound_in hk n hf hname hbody) rfl rfl (run_ret h) rfl (fun e => rfl) w
theorem awake15 (w : World) : Calls Tryz.prog 23 #[] w fun e w' => e = .returned (.bool true) ∧ Below w.heap.size w w' :=
  closed_law s_kl10 Tryz.func23 (by kernel_rfl) (by kernel_rfl) ran_awake15 w
end Go.Proofs.YtaegelbaghaooaaGreat
