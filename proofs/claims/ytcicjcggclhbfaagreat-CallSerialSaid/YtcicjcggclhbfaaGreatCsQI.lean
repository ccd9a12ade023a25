/- Part. -/
import Derived.Test.YtcicjcggclhbfaaGreatCsM18
set_option linter.all false
namespace Go.Proofs.YtcicjcggclhbfaaGreat.Lx
open Go
set_option maxRecDepth 1000000
theorem xI {σ:Type} {I:Port Tryz.prog σ} {l:List (Nat×Sm)} (hl:SoundL I l) {f:FuncId} {fn:Func} (n:Nat) (hf:(Tryz.prog).funcs[f]? = some fn) (cu:(fn.name == "runtime.NumGoroutine")=false) (bh:fn.body.isSome=true):SoundF I f (inl Tryz.prog (xp l) n fn):=
 xcV hl.known mixed hf cu bh n
noncomputable def kI1:List (Nat×Sm):=(188,inl Tryz.prog (xp xj9) 1 Tryz.f188)::(189,inl Tryz.prog (xp xj9) 1 Tryz.f189)::(194,inl Tryz.prog (xp xj9) 1 Tryz.f194)::(196,inl Tryz.prog (xp xj9) 1 Tryz.f196)::xj9
variable{σ:Type}{I:Port Tryz.prog σ}
theorem s_kI1:SoundL I kI1:=
 (.cons (xI xaO 1 Tryz.func188 (by kernel_rfl) (by kernel_rfl)) (.cons (xI xaO 1 Tryz.func189 (by kernel_rfl) (by kernel_rfl)) (.cons (xI xaO 1 Tryz.func194 (by kernel_rfl) (by kernel_rfl)) (.cons (xI xaO 1 Tryz.func196 (by kernel_rfl) (by kernel_rfl)) xaO))))
noncomputable def kI2:List (Nat×Sm):=(191,inl Tryz.prog (xp kI1) 1 Tryz.f191)::(193,inl Tryz.prog (xp kI1) 1 Tryz.f193)::kI1
theorem s_kI2:SoundL I kI2:=
 .cons (xI s_kI1 1 Tryz.func191 (by kernel_rfl) (by kernel_rfl)) (.cons (xI s_kI1 1 Tryz.func193 (by kernel_rfl) (by kernel_rfl)) s_kI1)
noncomputable def kI3:List (Nat×Sm):=(190,inl Tryz.prog (xp kI2) 1 Tryz.f190)::kI2
theorem xxs:SoundL I kI3 :=.cons (xI s_kI2 1 Tryz.func190 (by kernel_rfl) (by kernel_rfl)) s_kI2
end Go.Proofs.YtcicjcggclhbfaaGreat.Lx
