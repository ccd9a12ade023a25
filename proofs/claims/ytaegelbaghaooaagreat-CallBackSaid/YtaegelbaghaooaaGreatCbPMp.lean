/- Part. -/
import Derived.Test.YtaegelbaghaooaaGreatCbPSer
import Derived.Test.YtaegelbaghaooaaGreatCbPCts
set_option linter.all false
namespace Go.Proofs.YtaegelbaghaooaaGreat
open Go Go.RowKit Lx
theorem qo(z k:Int) : ∀l:RowsL,mget z (mdel k l)=if z=k then none else mget z l
 | []=>by simp[mdel,mget]
 | r::l=>by
  simp only[mdel]
  by_cases h:keyR r=k
  ·rw[if_pos h,qo z k l]
   by_cases hz:z=k
   ·rw[if_pos hz,if_pos hz]
   ·rw[if_neg hz,if_neg hz,mget,if_neg (by omega)]
  ·rw[if_neg h,mget,mget,qo z k l]
   by_cases hz:keyR r=z
   ·rw[if_pos hz,if_pos hz,if_neg (by omega)]
   ·rw[if_neg hz,if_neg hz]
theorem xiP(z k:Int)(x:List Int)(l:RowsL):mget z ((k::x)::l)=if z=k then some x else mget z l:=by
 show(if k=z then some x else mget z l)=_
 by_cases h:z=k
 ·rw[if_pos h,if_pos h.symm]
 ·rw[if_neg h,if_neg (fun e=>h e.symm)]
theorem xpn(z k:Int)(x:List Int) : ∀l:RowsL,mget k l=none->mget z (mins k x l)=if z=k then some x else mget z l
 | [],h=>by
  simp only[mins]
  rw[xiP]
 | r::l,h=>by
  simp only[mget]at h
  by_cases hr:keyR r=k
  ·rw[if_pos hr]at h;cases h
  ·rw[if_neg hr]at h
   simp only[mins]
   by_cases hlt:k<keyR r
   ·rw[if_pos hlt,xiP]
   ·rw[if_neg hlt]
    simp only[mget]
    rw[xpn z k x l h]
    by_cases hz:keyR r=z
    ·rw[if_pos hz,if_neg (by omega),if_pos hz]
    ·rw[if_neg hz,if_neg hz]
theorem xpo(z k:Int)(x:List Int)(l:RowsL):mget z (mput k x l)=if z=k then some x else mget z l:=by
 unfold mput
 rw[xpn z k x _ (by rw[qo,if_pos rfl]),qo]
 by_cases hz:z=k
 ·rw[if_pos hz,if_pos hz]
 ·rw[if_neg hz,if_neg hz,if_neg hz]
theorem jz(k:Int) : ∀l:RowsL,(mdel k l).length<=l.length
 | []=>Nat.le_refl _
 | r::l=>by
  have:=jz k l
  simp only[mdel]
  split<;>simp only[List.length_cons]<;>omega
theorem xcC(k:Int)(x:List Int) : ∀l:RowsL,(mins k x l).length=l.length+1
 | []=>rfl
 | r::l=>by
  have:=xcC k x l
  simp only[mins]
  split<;>simp only[List.length_cons]<;>omega
theorem xpp(k:Int)(x:List Int)(l:RowsL):(mput k x l).length<=l.length+1:=by
 unfold mput
 rw[xcC]
 have:=jz k l
 omega
def delM(row:List Int)(m:RowsL):RowsL:=if getI row 21=0/\(getI row 1=4\/getI row 1=5)then mdel (getI row 5) m else m
def vG(row:List Int)(m:RowsL):RowsL:=if getI row 21=0/\1<=getI row 1/\getI row 1<=4 then mput (getI row 13) [1] (delM row m)else delM row m
def mapM(H:RowsL):RowsL:=H.foldl (fun m r=>vG r m) []
theorem xiQ(H:RowsL)(r:List Int):mapM (H ++ [r])=vG r (mapM H):=by unfold mapM;rw[List.foldl_append];rfl
theorem xiR{H:RowsL}{j:Nat}(h:j<H.length):mapM (H.take (j+1))=vG H[j] (mapM (H.take j)):=by rw[List.take_succ_eq_append_getElem h,xiQ]
theorem xlH(r:List Int)(m:RowsL):(vG r m).length<=m.length+1:=by
 have h1:(delM r m).length<=m.length:=by
  unfold delM
  split
  ·exact jz _ _
  ·exact Nat.le_refl _
 unfold vG
 split
 ·have:=xpp (getI r 13) [1] (delM r m);omega
 ·omega
theorem mapM_length(H:RowsL) : ∀j,j<=H.length->(mapM (H.take j)).length<=j
 | 0,_=>by simp[mapM]
 | j+1,h=>by
  have:=mapM_length H j (by omega)
  have h2:=xlH H[j] (mapM (H.take j))
  rw[xiR (by omega)];omega
structure MapOk(m:RowsL)(live:Nat->Option Nat):Prop where
 yes : ∀g z:Nat,live g=some z->mget ((8*g:Nat):Int) m=some [1]
 no : ∀x:Int,(∀g z:Nat,live g=some z->x≠((8*g:Nat):Int))->mget x m=none
theorem MapOk.nil:MapOk [] (fun _=>none):=⟨fun _ _ h=>(by cases h),fun _ _=>rfl⟩
theorem MapOk.del{m:RowsL}{live:Nat->Option Nat}(h:MapOk m live)(g:Nat):MapOk (mdel ((8*g:Nat):Int) m) (updS live g none):=by
 refine⟨fun q z hq =>?_,fun x hx =>?_⟩
 ·by_cases hqg:q=g
  ·subst hqg;rw[xD]at hq;cases hq
  ·rw[xG _ _ hqg]at hq
   rw[qo,if_neg (by omega)];exact h.yes q z hq
 ·rw[qo]
  by_cases hxg:x=((8*g:Nat):Int)
  ·rw[if_pos hxg]
  ·rw[if_neg hxg]
   refine h.no x fun q z hq =>?_
   by_cases hqg:q=g
   ·subst hqg;exact hxg
   ·exact hx q z (by rw[xG _ _ hqg];exact hq)
theorem MapOk.put{m:RowsL}{live:Nat->Option Nat}(h:MapOk m live)(g s:Nat):MapOk (mput ((8*g:Nat):Int) [1] m) (updS live g (some s)):=by
 refine⟨fun q z hq =>?_,fun x hx =>?_⟩
 ·rw[xpo]
  by_cases hqg:q=g
  ·subst hqg;rw[if_pos rfl]
  ·rw[xG _ _ hqg]at hq
   rw[if_neg (by omega)];exact h.yes q z hq
 ·have hxg:x≠((8*g:Nat):Int):=hx g s (xD _ _ _)
  rw[xpo,if_neg hxg]
  refine h.no x fun q z hq =>?_
  by_cases hqg:q=g
  ·subst hqg;exact hxg
  ·exact hx q z (by rw[xG _ _ hqg];exact hq)
def Wd(row:List Int):Prop:=(getI row 21=0->(getI row 1=4\/getI row 1=5)->in64 (getI row 5)=true)/\(getI row 21=0->1<=getI row 1->getI row 1<=4->in64 (getI row 13)=true)
theorem Xr{x:Nat}(h:x<=9223372036854775807):in64 (x:Int)=true:=by unfold in64;exact decide_eq_true (by omega)
section
variable{n t:Nat}(hf:Small n t)(hn60:n<=60){A0 A:AS}{held:Nat->Option HK}{live:Nat->Option Nat}
include hf hn60
theorem row_map{me:Int}{c:Cal}{r:Res}{A':AS}{held':Nat->Option HK}{live':Nat->Option Nat}{was fr to_ lin tc:Int}(hp:Hp n t A held live)(hC:Called n t A held live c r A' held' live' was){m:RowsL}(hm:MapOk m live) :
  MapOk (vG (jy me c fr to_ lin tc r) m) live'/\Wd (jy me c fr to_ lin tc r):=by
 have hp':=hC.hp
 have hd:=hC.did
 generalize A'.b=b' at hd
 generalize A.b=b0 at hd
 generalize A.w 2=f0 at hd
 clear hC
 show MapOk (vG [me,c.op,c.size,c.n,c.align,c.at_,c.off,c.byte,fr,to_,lin,tc,1,r.at_,r.n,r.byte,r.c1,r.c2,r.c3,r.c4,r.c5,r.e,r.lin,r.touch] m) live'/\_
 have k1:getI (jy me c fr to_ lin tc r) 1=c.op:=rfl
 have k5:getI (jy me c fr to_ lin tc r) 5=c.at_:=rfl
 have k13:getI (jy me c fr to_ lin tc r) 13=r.at_:=rfl
 have k21:getI (jy me c fr to_ lin tc r) 21=r.e:=rfl
 have same:live'=live ->¬ (r.e=0/\1<=c.op/\c.op<=5)->MapOk (vG (jy me c fr to_ lin tc r) m) live'/\Wd (jy me c fr to_ lin tc r):=by
  rintro rfl hno
  unfold vG delM Wd
  rw[k1,k21]
  refine⟨?_,fun h1 h2=>absurd ⟨h1,by omega,by omega⟩ hno,fun h1 h2 h3=>absurd ⟨h1,h2,by omega⟩ hno⟩
  rw[if_neg (fun h=>hno ⟨h.1,h.2.1,by omega⟩),if_neg (fun h=>hno ⟨h.1,by omega,by omega⟩)]
  exact hm
 have put : ∀g s:Nat,r.e=0->1<=c.op->c.op<=4->c.op≠4->r.at_=((8*g:Nat):Int)->g<8*n->live'=updS live g (some s)->MapOk (vG (jy me c fr to_ lin tc r) m) live'/\Wd (jy me c fr to_ lin tc r):=by
  rintro g s he h1 h4 hn4 ha hg rfl
  unfold vG delM Wd
  rw[k1,k5,k13,k21]
  refine⟨?_,fun _ h=>by omega,fun _ _ _=>by rw[ha];exact Xr (by omega)⟩
  rw[if_pos ⟨he,h1,h4⟩,if_neg (fun h=>by omega),ha]
  exact hm.put g s
 have move : ∀g g' s:Nat,r.e=0->c.op=4->c.at_=((8*g:Nat):Int)->r.at_=((8*g':Nat):Int)->g<8*n->g'<8*n->live'=updS (updS live g none) g' (some s)->MapOk (vG (jy me c fr to_ lin tc r) m) live'/\Wd (jy me c fr to_ lin tc r):=by
  rintro g g' s he h4 ha ha' hg hg' rfl
  unfold vG delM Wd
  rw[k1,k5,k13,k21]
  refine⟨?_,fun _ _=>by rw[ha];exact Xr (by omega),fun _ _ _=>by rw[ha'];exact Xr (by omega)⟩
  rw[if_pos ⟨he,by omega,by omega⟩,if_pos ⟨he,.inl h4⟩,ha,ha']
  exact(hm.del g).put g' s
 cases hd with
 | ask r held' live' b' hop hA hb=>
  rcases hA with⟨_,rfl,hr,he⟩|⟨g,x,hr,hg,_,rfl,h1,h2,_,h4⟩
  ·exact same rfl (fun h=>by rcases he with⟨he,_⟩|⟨_,_,⟨he,_⟩|⟨he,_⟩⟩<;>omega)
  ·have g8:=(hp'.lives hf hn60 (xD _ _ _)).1
   exact put g _ (by rw[hr]) (by omega) (by omega) (by omega) (by rw[hr]) g8 rfl
 | renew r was held' live' b' hop hR=>
  generalize hx:(r,was)=x at hR
  cases hR with
  | size l h1=>
   simp only[Prod.mk.injEq]at hx
   obtain⟨rfl,rfl⟩:=hx
   exact same rfl (fun h=>by have:(11:Int)=0:=h.1;omega)
  | bad l h1 h2 h3=>
   simp only[Prod.mk.injEq]at hx
   obtain⟨rfl,rfl⟩:=hx
   exact same rfl (fun h=>by have:(13:Int)=0:=h.1;omega)
  | stay l g z x h1 h2 h3 h4 h5 h6=>
   simp only[Prod.mk.injEq]at hx
   obtain⟨rfl,rfl⟩:=hx
   have g8:=(hp.lives hf hn60 h4).1
   refine move g g c.size.toNat rfl hop h3 rfl g8 g8 ?_
   funext q
   by_cases hq:q=g
   ·subst hq;rw[xD,xD]
   ·rw[xG _ _ hq,xG _ _ hq,xG _ _ hq]
  | none l g z x h1 h2 h3 h4 h5 h6 h7=>
   simp only[Prod.mk.injEq]at hx
   obtain⟨rfl,rfl⟩:=hx
   exact same rfl (fun h=>by have:(15:Int)=0:=h.1;omega)
  | go l g z x g' y h1 h2 h3 h4 h5 h6 h7 h8 h9=>
   simp only[Prod.mk.injEq]at hx
   obtain⟨rfl,rfl⟩:=hx
   have g8:=(hp.lives hf hn60 h4).1
   have hne:g'≠g:=by
    rintro rfl
    rw[h5]at h7;cases h7
   have g8':g'<8*n:=(hp'.lives hf hn60 (g:=g') (z:=c.size.toNat) (by rw[xG _ _ hne,xD])).1
   refine move g g' c.size.toNat rfl hop h3 rfl g8 g8' ?_
   funext q
   by_cases hq:q=g
   ·subst hq;rw[xD,xG _ _ (fun h=>hne h.symm),xD]
   ·rw[xG _ _ hq]
    by_cases hq':q=g'
    ·subst hq';rw[xD,xD]
    ·rw[xG _ _ hq',xG _ _ hq',xG _ _ hq]
 | free l g z h1 h2 h3=>
  have g8:=(hp.lives hf hn60 h3).1
  unfold vG delM Wd
  refine⟨?_,fun _ _ =>?_,fun _ _ h =>?_⟩
  ·rw[if_neg (fun h=>by have:c.op<=4:=h.2.2;omega),if_pos ⟨rfl,.inr h1⟩]
   show MapOk (mdel c.at_ m) _
   rw[h2]
   exact hm.del g
  ·show in64 c.at_=true
   rw[h2];exact Xr (by omega)
  ·have:c.op<=4:=h
   omega
 | bad l h1 h2=>exact same rfl (fun h=>by have:(13:Int)=0:=h.1;omega)
 | use l g z x h1=>exact same rfl (fun h=>by omega)
 | out l g z h1=>exact same rfl (fun h=>by omega)
 | write l m g z k h1=>exact same rfl (fun h=>by omega)
 | read l m g z k y h1=>exact same rfl (fun h=>by omega)
 | tidy l h1=>exact same rfl (fun h=>by omega)
 | stats l h1=>exact same rfl (fun h=>by omega)
 | other l h1=>exact same rfl (fun h=>by omega)
theorem Hist.mapd{H:RowsL}{st:Nat}(h:Hist n t A0 A held live H st)(h0:Hp n t A0 (fun _=>none) (fun _=>none))(hz : ∀i,A0.w 2 i=0):Hp n t A held live/\MapOk (mapM H) live/\(∀row∈H,Wd row)/\CI (8*n) (A.w 2) live:=by
 induction h with
 | nil=>exact⟨h0,MapOk.nil,fun _ h=>by simp at h,CI.zero hz⟩
 | call hS hme hcok hC ih=>
  obtain⟨hp,hm,hk,hc⟩:=ih
  have hr:=fun me fr to_ lin tc=>row_map hf hn60 (me:=me) (fr:=fr) (to_:=to_) (lin:=lin) (tc:=tc) (hp.port _) hC hm
  rw[xiQ]
  refine⟨hC.hp,(hr _ _ _ _ _).1,fun row hrow =>?_,hC.cnt_live hf hn60 (hp.port _) hc⟩
  rcases List.mem_append.1 hrow with h|h
  ·exact hk row h
  ·rw[List.mem_singleton]at h;subst h;exact(hr _ _ _ _ _).2
end
end Go.Proofs.YtaegelbaghaooaaGreat
