/- Part. -/
import Derived.Test.YtaegelbaghaooaaGreatCbPTurn
import Derived.Test.YtaegelbaghaooaaGreatCbQSe
set_option linter.all false
open Go.IntKind (i64 u64 u32 u8)
namespace Go.Proofs.YtaegelbaghaooaaGreat
open Go Go.RowKit Lx
set_option maxRecDepth 100000
inductive Hist(n t:Nat)(A0:AS):AS->(Nat->Option HK)->(Nat->Option Nat)->RowsL->Nat->Prop
 | nil:Hist n t A0 A0 (fun _=>none) (fun _=>none) [] 0
 | call {A:AS} {held:Nat->Option HK} {live:Nat->Option Nat} {H:RowsL} {st:Nat} {me:Nat} {c:Cal} {r:Res} {A':AS} {held':Nat->Option HK} {live':Nat->Option Nat} {was:Int}:Hist n t A0 A held live H st->me<t->CalOk c->Called n t (A.port (me:Int)) held live c r A' held' live' was->
   Hist n t A0 A' held' live' (H ++ [jy me c ((st:Int)+1) ((st:Int)+(A'.steps:Int)) ((st:Int)+r.lin) (if r.touch>0 then(st:Int)+r.touch else -1) r]) (st+A'.steps)
section
variable{n t:Nat}(hf:Small n t)(hn60:n<=60){A0 A:AS}{held:Nat->Option HK}{live:Nat->Option Nat}
include hf hn60
theorem xlI{me:Nat}{c:Cal}{r:Res}{A':AS}{held':Nat->Option HK}{live':Nat->Option Nat}{was:Int}(hC:Called n t (A.port (me:Int)) held live c r A' held' live' was):0<=r.touch/\r.touch<=(A'.steps:Int):=by
 obtain⟨l,T,h1,h2,h3,h4,h5⟩:=hC.lin
 have hst:=hC.steps
 simp only[AS.port_steps]at h1 hst
 have:T<=A'.steps:=by rcases h5 with h5|h5<;>omega
 rw[wN _ (by omega)]at h4
 omega
theorem ser_eq{W B:List Int}(hM0:MemH n t A0 (fun _=>none) (fun _=>none) W B){Q:RowsL}(hQ : ∀r∈Q,TurnOk r)(hQ40:Q.length<=40){o c:Nat}{z:Xi} :
  Re (serT (xb n t) W.length W.length B.length B.length W B o z Q.length c o Q) fun R =>∃ (W B:List Int) (A:AS) (held:Nat->Option HK) (live:Nat->Option Nat) (H:RowsL) (st:Nat),
   R=⟨H.length,H,true,W.length,W.length,B.length,B.length,W,B⟩/\H.length=Q.length/\st<=H.length*100000000000/\MemH n t A held live W B/\Hist n t A0 A held live H st:=by
 have ht1:=hf.t1
 unfold serT xtP Zk
 refine Yg (fun q=>Re q fun R =>∃ (W B:List Int) (A:AS) (held:Nat->Option HK) (live:Nat->Option Nat) (H:RowsL) (st:Nat),R=Ser.mk H.length H true W.length W.length B.length B.length W B/\H.length=Q.length/\st<=H.length*100000000000/\MemH n t A held live W B/\Hist n t A0 A held live H st)
  (fun k i =>∃ (j:Nat) (W B:List Int) (A:AS) (held:Nat->Option HK) (live:Nat->Option Nat) (H:RowsL) (st:Nat),i=(H.length,true,(st:Int),(j:Int),W.length,W.length,B.length,B.length,W,B,H)/\j<=Q.length/\k=Q.length-j/\H.length=j/\st<=j*100000000000/\MemH n t A held live W B/\Hist n t A0 A held live H st)
  ?_ xa Q.length _ (by unfold xa;omega) ⟨0,W,B,A0,_,_,[],0,rfl,by omega,by omega,rfl,by omega,hM0,.nil⟩
 clear hM0 W B
 rintro k i κ ⟨j,W,B,A,held,live,H,st,rfl,hj,rfl,hH,hst,hM,hS⟩ ih
 unfold xlP
 simp only
 by_cases h:j<Q.length
 case neg=>
  obtain rfl:j=Q.length:=by omega
  exact Re.no (decide_eq_false (by omega)) (Re.ret ⟨W,B,A,held,live,H,st,rfl,hH,by rw[hH];exact hst,hM,hS⟩)
 refine Re.yes (decide_eq_true (by omega)) (Re.yes (xq4 h) (Re.yes (by rw[Nat.beq_refl,xkO h];rfl) (Re.yes (by rw[show(xb n t).threads=(t:Int)from rfl];simp;omega) (Re.yes (xq4 h) (Re.yes (by rw[Nat.beq_refl,xkO h];rfl) ?_)))))
 have hR:TurnOk (getR Q (Int.toNat (j:Int))):=by
  rw[show Int.toNat (j:Int)=j from rfl,xtg h]
  exact hQ _ (List.getElem_mem h)
 have ej:i64.wrap ((j:Int)+1)=((j+1:Nat):Int):=xq3 (by omega)
 generalize hrow:getR Q (Int.toNat (j:Int))=row at hR |-
 obtain⟨c',hq,a,rfl⟩:=asks_eq (L:=H) (by omega) (getI row 0) (getI row 1) (getI row 2) (getI row 3) (getI row 4) (getI row 5) (getI row 6) (getI row 7) (getI row 8)
 refine Re.run hq ?_
 obtain⟨me,hme,ee⟩:=tmod_th hf hn60 hR.th.1 hR.th.2
 have hcok:CalOk ⟨getI row 2,getI row 3,getI row 4,getI row 5,a,getI row 7,getI row 8⟩:=⟨by have:=hR.size;show getI row 3<_;omega,by have:=hR.n;show getI row 4<_;omega,by have:=hR.align;show getI row 5<_;omega,hR.byte⟩
 obtain⟨r,s',A',held',live',was,hv,hC,hM',hs'⟩:=YR hf hn60 hme hcok hM
 obtain⟨h1,h2⟩:=xsC hf hn60 hC
 obtain⟨h3,h4⟩:=xlI hf hn60 hC
 have hst':=hC.steps
 simp only[AS.port_steps]at hst'
 try simp only
 rw[ee]
 refine Re.run hv ?_
 have hok:decide (r.lin<=s'.steps)=true:=by rw[hs'];exact decide_eq_true h2
 have happ:(Nat.beq H.length H.length&&Nat.ble H.length 1000)=true:=by rw[Nat.beq_refl,Bool.true_and];exact Nat.ble_eq_true_of_le (by omega)
 have w1:i64.wrap ((st:Int)+1)=(st:Int)+1:=w64 (by omega) (by omega)
 have w2:i64.wrap ((st:Int)+s'.steps)=(st:Int)+(A'.steps:Int):=by rw[hs'];exact w64 (by omega) (by omega)
 have w3:i64.wrap ((st:Int)+r.lin)=(st:Int)+r.lin:=w64 (by omega) (by omega)
 have w4:i64.wrap ((st:Int)+r.touch)=(st:Int)+r.touch:=w64 (by omega) (by omega)
 have next:=ih (Q.length-(j+1)) (H.length+1,true,(st:Int)+(A'.steps:Int),((j+1:Nat):Int),s'.m.words.length,s'.m.words.length,s'.m.bytes.length,s'.m.bytes.length,s'.m.words,s'.m.bytes,H ++ [jy me ⟨getI row 2,getI row 3,getI row 4,getI row 5,a,getI row 7,getI row 8⟩ ((st:Int)+1) ((st:Int)+(A'.steps:Int)) ((st:Int)+r.lin) (if r.touch>0 then(st:Int)+r.touch else -1) r]) (by omega)
  ⟨j+1,s'.m.words,s'.m.bytes,A',held',live',_,st+A'.steps,by simp only[List.length_append,List.length_singleton];rfl,by omega,rfl,by simp only[List.length_append,List.length_singleton];omega,by omega,hM',Hist.call hS hme hcok hC⟩
 simp only[beq_self_eq_true,Bool.and_self]
 refine Re.yes rfl (Re.yes rfl (Re.yes (decide_eq_true h1) ?_))
 unfold seK
 simp only
 rw[hok,hrow,ee,ej,w1,w2,w3,w4]
 refine Re.cond (fun ht=>Re.yes happ ?_) fun ht=>Re.yes happ ?_
 ·rw[if_pos (of_decide_eq_true ht)]at next
  exact next
 ·rw[if_neg (of_decide_eq_false ht)]at next
  exact next
omit hf hn60 in
theorem xxX{H:RowsL}{x:List Int}{P:List Int->Prop}(h:(∃row∈H,P row)\/P x) : ∃row∈H ++ [x],P row:=by
 rcases h with⟨row,h1,h2⟩|h
 ·exact⟨row,by simp[h1],h2⟩
 ·exact⟨x,by simp,h⟩
omit hf hn60 in
theorem Hist.lives{H:RowsL}{st:Nat}(h:Hist n t A0 A held live H st) : ∀g z,live g=some z ->∃row∈H,getI row 21=0/\getI row 13=((8*g:Nat):Int)/\getI row 1<=4:=by
 induction h with
 | nil=>intro g z h;cases h
 | call hS hme hcok hC ih=>
  rename_i A held live H st me c r A' held' live' was
  intro g z hg
  refine xxX ?_
  have hd:=hC.did
  generalize(A.port (me:Int)).b=b0 at hd
  generalize(A.port (me:Int)).w 2=f0 at hd
  generalize A'.b=b1 at hd
  clear hC
  cases hd with
  | ask r held' live' b' hop hA hb=>
   rcases hA with⟨_,rfl,_⟩|⟨g',x,hr,_,_,rfl,_⟩
   ·exact .inl (ih g z hg)
   ·by_cases hgg:g=g'
    ·subst hgg
     refine .inr ⟨?_,?_,?_⟩
     ·show r.e=0
      rw[hr]
     ·show r.at_=_
      rw[hr]
     ·show c.op<=4
      omega
    ·rw[xG _ _ hgg]at hg
     exact .inl (ih g z hg)
  | renew r was held' live' b' hop hR=>
   generalize hx:(r,was)=x at hR
   cases hR with
   | size l h1=>exact .inl (ih g z hg)
   | bad l h1 h2 h3=>exact .inl (ih g z hg)
   | stay l g' z' x' h1 h2 h3 h4 h5 h6=>
    by_cases hgg:g=g'
    ·subst hgg
     simp only[Prod.mk.injEq]at hx
     refine .inr ⟨?_,?_,?_⟩
     ·show r.e=0
      rw[hx.1]
     ·show r.at_=_
      rw[hx.1]
     ·show c.op<=4
      omega
    ·rw[xG _ _ hgg]at hg
     exact .inl (ih g z hg)
   | none l g' z' x' h1 h2 h3 h4 h5 h6 h7=>exact .inl (ih g z hg)
   | go l g1 z1 x1 g2 y h1 h2 h3 h4 h5 h6 h7 h8 h9=>
    by_cases hg1:g=g1
    ·subst hg1;rw[xD]at hg;cases hg
    ·rw[xG _ _ hg1]at hg
     by_cases hg2:g=g2
     ·subst hg2
      simp only[Prod.mk.injEq]at hx
      refine .inr ⟨?_,?_,?_⟩
      ·show r.e=0
       rw[hx.1]
      ·show r.at_=_
       rw[hx.1]
      ·show c.op<=4
       omega
     ·rw[xG _ _ hg2]at hg
      exact .inl (ih g z hg)
  | free l g' z' hop hat hlv=>
   by_cases hgg:g=g'
   ·subst hgg;rw[xD]at hg;cases hg
   ·rw[xG _ _ hgg]at hg
    exact .inl (ih g z hg)
  | bad l h1 h2=>exact .inl (ih g z hg)
  | use l g' z' x h1 h2 h3 h4=>exact .inl (ih g z hg)
  | out l g' z' h1 h2 h3 h4=>exact .inl (ih g z hg)
  | write l m g' z' k h1 h2 h3 h4 h5=>exact .inl (ih g z hg)
  | read l m g' z' k y h1 h2 h3 h4 h5 h6=>exact .inl (ih g z hg)
  | tidy l h1=>exact .inl (ih g z hg)
  | stats l h1=>exact .inl (ih g z hg)
  | other l h1=>exact .inl (ih g z hg)
end
end Go.Proofs.YtaegelbaghaooaaGreat
