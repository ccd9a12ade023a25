/- Part. -/
import Derived.Test.YtcicjcggclhbfaaGreatCsM9
import Derived.Test.YtcicjcggclhbfaaGreatCsM13
set_option linter.all false
open Go.IntKind (i64 u64 u32 u8)
namespace Go.Proofs.YtcicjcggclhbfaaGreat
open Go Go.RowKit Lx
section
variable{n t:Nat}(hf:Few n t)
include hf
theorem zI_eq : ∀k,k<19->zI (n:Int) (t:Int) k=((Zr n t k:Nat):Int):=by
 have hn:=hf.n2
 have lu:=hf.n1
 have ht:=hf.t2
 have hN:=xbr hf.n2 hf.t2
 have h1:t*4*(n+1)<=64*4*257:=Nat.mul_le_mul (Nat.mul_le_mul_right 4 ht) (by omega)
 have h2:t*(2*t+3)<=64*131:=Nat.mul_le_mul ht (by omega)
 have h3:t*(2*t+2)<=64*130:=Nat.mul_le_mul ht (by omega)
 have eN:Xc (Geo.mk (n:Int) (t:Int) 0 0 0 0 0 0 0 0 0 0 0 0 0 0 0 0 0 0 0 0)=((nodesN n t:Nat):Int):=by
  unfold Xc nodesN
  simp only
  rw[show(((n:Nat):Int)==0)=false by simp;omega]
  simp only[cond_false]
  have e1:i64.wrap ((t:Int)*4)=((t*4:Nat):Int):=by rw[show(t:Int)*4=((t*4:Nat):Int)by omega,wN _ (by omega)]
  have e2:i64.wrap ((n:Int)+1)=((n+1:Nat):Int):=xL hf (by omega)
  have e3:i64.wrap (i64.wrap (2*(t:Int))+3)=((2*t+3:Nat):Int):=by rw[w64 (x:=2*(t:Int)) (by omega) (by omega),w64 (by omega) (by omega)];omega
  rw[e1,e2,e3,<- Int.natCast_mul,<- Int.natCast_mul,wN (t*4*(n+1)) (by omega),wN (t*(2*t+3)) (by omega),wrap_add hf (by omega)]
 have e8:IntKind.wrap .i64 ((n:Int)*8)=((n*8:Nat):Int):=by rw[show(n:Int)*8=((n*8:Nat):Int)by omega,wN _ (by omega)]
 have e4:IntKind.wrap .i64 ((t:Int)*4)=((t*4:Nat):Int):=by rw[show(t:Int)*4=((t*4:Nat):Int)by omega,wN _ (by omega)]
 have Q7:IntKind.wrap .i64 (((t*4:Nat):Int)*2)=((t*4*2:Nat):Int):=by rw[show((t*4:Nat):Int)*2=((t*4*2:Nat):Int)by omega,wN _ (by omega)]
 have e2:IntKind.wrap .i64 ((t:Int)*2)=((t*2:Nat):Int):=by rw[show(t:Int)*2=((t*2:Nat):Int)by omega,wN _ (by omega)]
 have er:qt (Geo.mk (n:Int) (t:Int) 0 0 0 0 0 0 0 0 0 0 0 0 0 0 0 0 0 0 0 0)=((2*t+2:Nat):Int):=by
  unfold qt
  simp only
  rw[w64 (x:=2*(t:Int)) (by omega) (by omega),w64 (by omega) (by omega)];omega
 have Q8:IntKind.wrap .i64 ((t:Int)*((2*t+2:Nat):Int))=((t*(2*t+2):Nat):Int):=by rw[<- Int.natCast_mul,wN _ (by omega)]
 have Ly:IntKind.wrap .i64 (((nodesN n t:Nat):Int)*8)=((nodesN n t*8:Nat):Int):=by rw[show((nodesN n t:Nat):Int)*8=((nodesN n t*8:Nat):Int)by omega,wN _ (by omega)]
 intro k hk
 have cw:k=0\/k=1\/k=2\/k=3\/k=4\/k=5\/k=6\/k=7\/k=8\/k=9\/k=10\/k=11\/k=12\/k=13\/k=14\/k=15\/k=16\/k=17\/k=18:=by omega
 rcases cw with rfl|rfl|rfl|rfl|rfl|rfl|rfl|rfl|rfl|rfl|rfl|rfl|rfl|rfl|rfl|rfl|rfl|rfl|rfl<;>simp only[zI,Zr,e8,e4,Q7,e2,er,Q8,eN,Ly]<;>rfl
theorem bI_eq : ∀k,k<=19->bI (n:Int) (t:Int) k=((Br n t k:Nat):Int)
 | 0,_=>rfl
 | k+1,h=>by
  have hb:=hf.top (r:=k+1) h
  have h1:Br n t (k+1)=Br n t k+Zr n t k:=rfl
  simp only[bI,bI_eq k (by omega),zI_eq hf k (by omega)]
  rw[show IntKind.wrap .i64 (((Br n t k:Nat):Int)+((Zr n t k:Nat):Int))=i64.wrap (((Br n t k:Nat):Int)+((Zr n t k:Nat):Int))from rfl,wrap_add hf (by omega),h1]
theorem xCf{σ:Type}(step:PStep σ)(s:σ):(newT (n:Int) (t:Int)).run step s=some ((xd n t,true),s):=by
 have hn:=hf.n2
 have lu:=hf.n1
 have ht:=hf.t2
 have zk:=hf.t1
 unfold newT xqA
 rw[dC (show ¬ (n:Int)<1 by omega),dC (show ¬ (n:Int)>256 by omega),dC (show ¬ (t:Int)<1 by omega),dC (show ¬ (t:Int)>64 by omega)]
 simp only[cond_false,T.run]
 have e:=bI_eq hf
 rw[e 0 (by omega),e 1 (by omega),e 2 (by omega),e 3 (by omega),e 4 (by omega),e 5 (by omega),e 6 (by omega),e 7 (by omega),e 8 (by omega),e 9 (by omega),e 10 (by omega),e 11 (by omega),e 12 (by omega),e 13 (by omega),e 14 (by omega),e 15 (by omega),e 16 (by omega),e 17 (by omega),e 18 (by omega),e 19 (by omega)]
 rfl
end
end Go.Proofs.YtcicjcggclhbfaaGreat
