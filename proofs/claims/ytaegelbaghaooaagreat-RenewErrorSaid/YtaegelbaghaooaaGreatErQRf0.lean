/- The document's small functions, run in place. -/
import Derived.Test.YtaegelbaghaooaaGreatErM3
import Derived.Test.YtaegelbaghaooaaGreatErLxMrg
set_option linter.all false
namespace Go.Proofs.YtaegelbaghaooaaGreat.Lx
open Go
set_option maxRecDepth 1000000
theorem xrQ {σ : Type} {I : Port Tryz.prog σ} {l : List (Nat × Sm)} (hl : SoundL I l) {f : FuncId} {fn : Func} (n : Fu) (hf : (Tryz.prog).funcs[f]? = some fn) (hname : (fn.name == "runtime.NumGoroutine") = false) (hbody : fn.body.isSome = true) : SoundF I f (inl Tryz.prog (xw l) n fn) :=
 KQ hl.known mixed hf hname hbody n
noncomputable def kr0a : List (Nat × Sm) := [(248, inl Tryz.prog (xw []) 1 Tryz.f248)]
variable {σ : Type} {I : Port Tryz.prog σ}
theorem s_kr0a : SoundL I kr0a := .cons (xrQ SoundL.nil 1 Tryz.func248 (by kernel_rfl) (by kernel_rfl)) SoundL.nil
noncomputable def kr0 : List (Nat × Sm) := kr0a
theorem s_kr0 : SoundL I kr0 := s_kr0a
end Go.Proofs.YtaegelbaghaooaaGreat.Lx
