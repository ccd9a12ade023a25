/- Part. -/
import Derived.Test.YtaegelbaghaooaaGreatCbM18
set_option linter.all false
namespace Go.Proofs.YtaegelbaghaooaaGreat.Lx
open Go
set_option maxRecDepth 1000000
theorem xx {σ:Type} {I:Port Tryz.prog σ} {l:List (Nat×Sm)} (hl:SoundL I l) {f:FuncId} {fn:Func} (n:Nat) (hf:(Tryz.prog).funcs[f]? = some fn) (hname:(fn.name == "runtime.NumGoroutine")=false) (hbody:fn.body.isSome=true):SoundF I f (inl Tryz.prog (xo l) n fn):=
 xbF hl.known mixed hf hname hbody n
noncomputable def kI1:List (Nat×Sm):=(154,inl Tryz.prog (xo xh3) 1 Tryz.f154)::(155,inl Tryz.prog (xo xh3) 1 Tryz.f155)::(161,inl Tryz.prog (xo xh3) 1 Tryz.f161)::(163,inl Tryz.prog (xo xh3) 1 Tryz.f163)::xh3
variable{σ:Type}{I:Port Tryz.prog σ}
theorem s_kI1:SoundL I kI1:=
 (.cons (xx KE 1 Tryz.func154 (by kernel_rfl) (by kernel_rfl)) (.cons (xx KE 1 Tryz.func155 (by kernel_rfl) (by kernel_rfl)) (.cons (xx KE 1 Tryz.func161 (by kernel_rfl) (by kernel_rfl)) (.cons (xx KE 1 Tryz.func163 (by kernel_rfl) (by kernel_rfl)) KE))))
noncomputable def kI2:List (Nat×Sm):=(157,inl Tryz.prog (xo kI1) 1 Tryz.f157)::(159,inl Tryz.prog (xo kI1) 1 Tryz.f159)::kI1
theorem s_kI2:SoundL I kI2:=
 .cons (xx s_kI1 1 Tryz.func157 (by kernel_rfl) (by kernel_rfl)) (.cons (xx s_kI1 1 Tryz.func159 (by kernel_rfl) (by kernel_rfl)) s_kI1)
noncomputable def kI3:List (Nat×Sm):=(156,inl Tryz.prog (xo kI2) 1 Tryz.f156)::kI2
theorem xtO:SoundL I kI3 :=.cons (xx s_kI2 1 Tryz.func156 (by kernel_rfl) (by kernel_rfl)) s_kI2
end Go.Proofs.YtaegelbaghaooaaGreat.Lx
