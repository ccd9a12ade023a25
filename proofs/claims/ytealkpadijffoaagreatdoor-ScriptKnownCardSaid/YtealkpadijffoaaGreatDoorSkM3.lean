/- Part. -/
import Derived.Test.YtealkpadijffoaaGreatDoorSkM2
import Derived.Test.YtealkpadijffoaaGreatDoorProg
set_option linter.all false
namespace Go.Proofs.YtealkpadijffoaaGreatDoor.Lx
open Go
abbrev Sm:=List V->Heap->Option Sum
def yC:List (Nat×Sm)->Nat->Option Sm
 | [],_=>none
 | (g,m)::l,f=>bif Nat.beq g f then some m else yC l f
theorem Kk : ∀ {l:List (Nat×Sm)} {f:Nat} {m:Sm},yC l f=some m->(f,m)∈l
 | [],f,m,h=>by simp[yC]at h
 | (g,m')::l,f,m,h=>by
  simp only[yC]at h
  cases hb:Nat.beq g f with
  | true=>
   rw[hb]at h
   simp only[cond_true,oI]at h
   have:g=f:=Nat.eq_of_beq_eq_true hb
   subst this;subst h
   simp
  | false=>
   rw[hb]at h
   exact List.mem_cons_of_mem _ (Kk h)
section
variable{σ:Type}{I:Port Tryz.prog σ}
theorem mixed:(Tryz.prog).follows .mixedOrders=true:=by kernel_rfl
end
end Go.Proofs.YtealkpadijffoaaGreatDoor.Lx
