/- Part. -/
import Derived.Maps.Own
import Derived.Maps.OwnOps
import Derived.Maps.OwnSet
import Derived.Maps.Ext
import Derived.WalkKit
set_option linter.all false
open Go.IntKind (i64 u64 u32 u8)
namespace Go.Proofs.YtealkpadijffoaaGreatDoor.IM
open Go.RowKit Go.Maps
variable{α:Type}
def insI(p:Int×α):List (Int×α)->List (Int×α)
 | [] =>[p]
 | q::l=>if p.1<q.1 then p::q::l else q::insI p l
def delI(k:Int)(l:List (Int×α)):List (Int×α):=l.filter fun p=> !decide (p.1=k)
def putI(k:Int)(v:α)(l:List (Int×α)):List (Int×α):=insI (k,v) (delI k l)
def getI(k:Int)(l:List (Int×α)):Option α:=(l.find? fun p=>decide (p.1=k)).map (·.2)
def toD(dv:α->DataW Unit)(l:List (Int×α)):DataW Unit :=.map (l.map fun p=>(.int .i64 p.1,dv p.2))
variable(dv:α->DataW Unit)
theorem xc4(p:Int×α) : ∀l:List (Int×α),DataW.insert (.int .i64 p.1,dv p.2) (l.map fun p=>(Lit.int .i64 p.1,dv p.2))=(insI p l).map fun p=>(Lit.int .i64 p.1,dv p.2)
 | []=>rfl
 | q::l=>by
  rw[List.map_cons,DataW.insert,insI]
  by_cases h:p.1<q.1
  ·rw[if_pos h,if_pos (by simp[Lit.before,h])];rfl
  ·rw[if_neg h,if_neg (by simp[Lit.before,h]),xc4 p l];rfl
theorem xc5(k:Int)(l:List (Int×α)):((l.map fun p=>(Lit.int .i64 p.1,dv p.2)).filter fun p=> !p.1.sameKey (.int .i64 k))=(delI k l).map fun p=>(Lit.int .i64 p.1,dv p.2):=by
 unfold delI
 rw[List.filter_map]
 congr 1
 apply List.filter_congr
 intro p _
 simp[Lit.sameKey]
theorem toD_del(k:Int)(l:List (Int×α)):(toD dv l).del (.int .i64 k)=toD dv (delI k l):=by
 unfold toD DataW.del
 simp only[xc5]
theorem toD_put(k:Int)(v:α)(l:List (Int×α)):(toD dv l).put (.int .i64 k) (dv v)=toD dv (putI k v l):=by
 unfold toD DataW.put putI
 simp only[xc5,xc4 dv (k,v)]
theorem toD_at(k:Int)(l:List (Int×α))(z:DataW Unit):(toD dv l).atKey (.int .i64 k) z=((getI k l).map dv).getD z:=by
 unfold toD DataW.atKey getI
 simp only
 rw[List.find?_map]
 have e:((fun p:Lit×DataW Unit=>p.1.sameKey (.int .i64 k))∘fun p:Int×α=>(Lit.int .i64 p.1,dv p.2))=fun p=>decide (p.1=k):=by
  funext p;simp[Lit.sameKey]
 rw[e]
 cases l.find? fun p=>decide (p.1=k)<;>rfl
theorem toD_has(k:Int)(l:List (Int×α)):Maps.has (toD dv l) (.int .i64 k)=(getI k l).isSome:=by
 unfold toD getI
 rw[Maps.has_eq,List.any_map,Option.isSome_map,List.isSome_find?]
 congr 1
 funext p
 simp[Lit.sameKey]
theorem toD_size(l:List (Int×α)):Maps.size (toD dv l)=l.length:=by unfold toD;rw[Maps.size_eq];simp
end Go.Proofs.YtealkpadijffoaaGreatDoor.IM
