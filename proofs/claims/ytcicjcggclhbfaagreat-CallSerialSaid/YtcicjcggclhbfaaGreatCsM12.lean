/- Part. -/
import Derived.Test.YtcicjcggclhbfaaGreatCsPList
set_option linter.all false
open Go.IntKind (i64 u64 u32 u8)
set_option maxRecDepth 1000000
namespace Go.Proofs.YtcicjcggclhbfaaGreat
namespace Lx
open Go
theorem ja {σ:Type} {I:Port Tryz.prog σ} {l:List (Nat×Sm)} (hl:SoundL I l) {f:FuncId} {fn:Func} (n:Fu) (hf:(Tryz.prog).funcs[f]? = some fn) (cu:(fn.name == "runtime.NumGoroutine")=false) (bh:fn.body.isSome=true):SoundF I f (inl Tryz.prog (xp l) n fn):=
 xcV hl.known mixed hf cu bh n
noncomputable def kr0a:List (Nat×Sm) :=[(197,inl Tryz.prog (xp []) 1 Tryz.f197)]
variable{σ:Type}{I:Port Tryz.prog σ}
theorem s_kr0a:SoundL I kr0a :=.cons (ja SoundL.nil 1 Tryz.func197 (by kernel_rfl) (by kernel_rfl)) SoundL.nil
noncomputable def kr0:List (Nat×Sm):=kr0a
theorem s_kr0:SoundL I kr0:=s_kr0a
end Lx
namespace Lx
variable{β:Type}(g:Geo)
open Go
noncomputable def kr1:List (Nat×Sm):=kr0
variable{σ:Type}{I:Port Tryz.prog σ}
theorem s_kr1:SoundL I kr1:=s_kr0
end Lx
section
open Go Go.RowKit Lx
theorem xZ{σ β:Type}{B:σ->(σ->T β)->T β}(P:T β->Prop)(I:Nat->σ->Prop)(hB : ∀k i (κ:σ->T β),I k i->(∀j i',j<k->I j i'->P (κ i'))->P (B i κ)) :
  ∀ (N k:Nat) (i:σ),k<N->I k i->P (xu N B i)
 | 0,k,i,h,hI=>by omega
 | N+1,k,i,h,hI=>hB k i (xu N B) hI fun j i' hj hI'=>xZ P I hB N j i' (by omega) hI'
theorem yO{x:Nat}(h:x<9223372036854775807):i64.wrap ((x:Int)+1)=((x+1:Nat):Int):=by rw[IntKind.wrap_i64];omega
def Row3(L:RowsL):Prop :=∀r∈L,r.length=3
theorem row3{r:List Int}(h:r.length=3) : [getI r 0,getI r 1,getI r 2]=r:=by
 match r,h with
 | [a,b,c],_=>rfl
theorem ya{L:RowsL}{j:Nat}(h:j<L.length):getR L j=L[j]:=by
 unfold getR;rw[List.getD_eq_getElem?_getD,List.getElem?_eq_getElem h];rfl
theorem xM{m j:Nat}(h:j<m):inR m (j:Int)=true:=by
 unfold inR;rw[dT];omega
theorem xU{m j:Nat}(h:j<m):decide (0<=(j:Int)/\(j:Int)<((m:Nat):Int))=true:=by
 rw[dT];omega
theorem xh{β:Type}{P:T β->Prop}{x y:T β}{b:Bool}(hb:b=true)(h:P x):P (bif b then x else y):=by subst hb;exact h
theorem P_no{β:Type}{P:T β->Prop}{x y:T β}{b:Bool}(hb:b=false)(h:P y):P (bif b then x else y):=by subst hb;exact h
end
end Go.Proofs.YtcicjcggclhbfaaGreat
