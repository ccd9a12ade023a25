/- Part. -/
import Derived.Test.YtaegelbaghaooaaGreatCbM9
set_option linter.all false
open Go.IntKind (i64 u64 u32 u8)
namespace Go.Proofs.YtaegelbaghaooaaGreat
open Go Go.RowKit Lx
/-! ### lists of links -/
theorem Kr{f:Nat->Int} : ∀ {l1 l2:List Nat},linkedN f (l1++l2)->linkedN f l2
 | [],_,h=>h
 | _::l1,_,h=>Kr (l1:=l1) h.2
theorem xca{f:Nat->Int}{p m:Nat}{l2:List Nat} : ∀ {l1:List Nat},(l1++p::m::l2).Nodup->(∀y∈l1++p::m::l2,1<=y)->linkedN f (l1++p::m::l2)->linkedN (fun q=>if q=p-1 then(hdn l2:Int)else f q) (l1++p::l2)
 | [],hn,hp,h=>by
  simp only[List.nil_append,List.nodup_cons,List.mem_cons,not_or]at hn
  refine⟨by simp,ym (fun y hy hh =>?_) h.2.2⟩
  have h1:=hp p (by simp)
  have h2:=hp y (by simp[hy])
  obtain rfl:y=p:=by omega
  exact hn.1.2 hy
 | a::l1,hn,hp,h=>by
  simp only[List.cons_append,List.nodup_cons]at hn
  have h1:=hp p (by simp)
  have h2:=hp a (by simp)
  have hap:a≠p:=fun hh=>hn.1 (by simp[hh])
  refine⟨?_,xca hn.2 (fun y hy=>hp y (by simp only[List.cons_append,List.mem_cons];exact .inr hy)) h.2⟩
  show(if a-1=p-1 then(hdn l2:Int)else f (a-1))=_
  rw[if_neg (by omega),h.1]
  cases l1<;>rfl
def lkR(x:Nat)(l1:List Nat):Nat×Nat:=match l1.getLast? with
 | none=>(13,x)
 | some p=>(17,p-1)
theorem Yh(x:Nat):lkR x []=(13,x):=rfl
theorem vo(x:Nat)(l:List Nat)(p:Nat):lkR x (l ++ [p])=(17,p-1):=by simp[lkR]
theorem wm(l:List Nat):l = []\/ ∃l0 p,l=l0 ++ [p]:=by
 cases h:l.getLast? with
 | none=>exact .inl (by simpa using h)
 | some p=>exact .inr ⟨l.dropLast,p,by
   have:=List.getLast?_eq_some_iff.1 h
   obtain⟨ys,hy⟩:=this
   rw[hy];simp⟩
/-! ### the nodes of each thread that are gone, told -/
def GonR(n t:Nat)(A:AS)(bag:Nat->List Nat)(pl:List Nat)(rt:Nat->List Nat):Prop:=
 (∀q,q<t->(rt q).length<=2*t+2/\A.w 15 q=((rt q).length:Int)/\(rt q).Nodup/\(∀k,k<(rt q).length->A.w 16 (q*(2*t+2)+k)=(((rt q).getD k 0:Nat):Int))/\ ∀m∈rt q,1<=m/\m<=nodesN n t/\m∉pl/\ ∀i,i<4*t->m∉bag i)/\
 ∀q q' m,q<t->q'<t->m∈rt q->m∈rt q'->q=q'
section
variable{n t:Nat}{A A':AS}{held:Nat->Option HK}{S:List Sg}{mp vr:Nat->Nat}{rem bag:Nat->List Nat}{pl:List Nat}
theorem HI.regon(h:HI n t A held S mp vr rem bag pl)(hw : ∀r i,r≠15->r≠16->A'.w r i=A.w r i)(hg:Gon n t A' bag pl):HI n t A' held S mp vr rem bag pl:=by
 have e : ∀r,r≠15->r≠16->A'.w r=A.w r:=fun r h1 h2=>funext fun i=>hw r i h1 h2
 exact⟨h.laid.of (fun i=>hw 7 i (by decide) (by decide)) (fun i=>hw 3 i (by decide) (by decide)),h.norm,h.nodf,by rw[hw 1 0 (by decide) (by decide)];exact h.ep,h.ver,by rw[e 8 (by decide) (by decide)];exact h.bitS,by rw[e 8 (by decide) (by decide)];exact h.bitN,by rw[e 9 (by decide) (by decide),e 10 (by decide) (by decide)];exact h.remw,h.remb,by rw[e 12 (by decide) (by decide)];exact h.cach,by rw[e 13 (by decide) (by decide),e 17 (by decide) (by decide)];exact h.bagw,h.bagn,h.bagd,by rw[e 18 (by decide) (by decide)];exact h.item,by rw[hw 4 0 (by decide) (by decide),e 17 (by decide) (by decide)];exact h.polw,h.poln,h.hblk,h.hrun,by rw[e 12 (by decide) (by decide),e 18 (by decide) (by decide)];exact h.tok,hg⟩
theorem HI.give(h:HI n t A held S mp vr rem bag pl){m v:Nat}(hm:1<=m)(hm2:m<=nodesN n t)(hno : ∀i,i<4*t->m∉bag i)(hnp:m∉pl)(hv:v<4294967296)(hgn:Gon n t A bag (m::pl)) :
  HI n t ((A.set 17 (m-1) (hdn pl:Int)).set 4 0 (Ref.word ⟨(m:Int),false,(v:Int)⟩)) held S mp vr rem bag (m::pl):=by
 have hne : ∀i,i<4*t ->∀y∈bag i,y-1≠m-1:=fun i hi y hy hh=>by
  have:=((h.bagn i hi).2 y hy).1
  obtain rfl:y=m:=by omega
  exact hno i hi hy
 refine⟨h.laid.of (fun _=>rfl) (fun _=>rfl),h.norm,h.nodf,h.ep,h.ver,h.bitS,h.bitN,h.remw,h.remb,h.cach,fun i hi =>?_,h.bagn,h.bagd,h.item,?_,?_,h.hblk,h.hrun,h.tok,hgn.of (fun _=>rfl) (fun _=>rfl)⟩
 ·obtain⟨h1,h2⟩:=h.bagw i hi
  refine⟨h1,?_⟩
  rw[xM _ _ _ (show 17≠4 by decide),yf]
  exact ym (hne i hi) h2
 ·obtain⟨v',hv',hw,hl⟩:=h.polw
  refine⟨v,hv,by simp[hdn],?_⟩
  rw[xM _ _ _ (show 17≠4 by decide),yf]
  refine⟨by simp,ym (fun y hy hh =>?_) hl⟩
  have:=(h.poln.2 y hy).1
  obtain rfl:y=m:=by omega
  exact hnp hy
 ·refine⟨List.nodup_cons.2 ⟨hnp,h.poln.1⟩,fun y hy =>?_⟩
  rcases List.mem_cons.1 hy with rfl|hy
  ·exact⟨hm,hm2,hno⟩
  ·exact h.poln.2 y hy
theorem HI.unlink(h:HI n t A held S mp vr rem bag pl){m x:Nat}{l1 l2:List Nat}{z:Int}(hx:x<4*t)(hl:bag x=l1++m::l2)(hb:Xn A m) :
  HI n t ((A.set (lkR x l1).1 (lkR x l1).2 (hdn l2:Int)).set 17 (m-1) z) held S mp vr rem (updL bag x (l1++l2)) pl/\
  Gon n t ((A.set (lkR x l1).1 (lkR x l1).2 (hdn l2:Int)).set 17 (m-1) z) (updL bag x (l1++l2)) (m::pl):=by
 obtain⟨hnd,hrg⟩:=h.bagn x hx
 have hmx:m∈bag x:=by rw[hl];simp
 have hmn:m∉l1++l2:=by
  rw[hl]at hnd
  intro hh
  rw[List.nodup_append]at hnd
  simp only[List.nodup_cons,List.mem_cons,List.mem_append]at hnd hh
  rcases hh with hh|hh
  ·exact hnd.2.2 m hh m (.inl rfl) rfl
  ·exact hnd.2.1.1 hh
 have hsub : ∀y∈l1++l2,y∈bag x:=fun y hy=>by
  rw[hl]
  rcases List.mem_append.1 hy with hy|hy
  ·simp[hy]
  ·simp[hy]
 have hupd : ∀i y,y∈updL bag x (l1++l2) i->y∈bag i:=fun i y hy=>by
  by_cases hix:i=x
  ·subst hix
   simp only[updL,if_true]at hy;exact hsub y hy
  ·simp only[updL,if_neg hix]at hy;exact hy
 have hmu : ∀i,i<4*t->m∉updL bag x (l1++l2) i:=fun i hi hy=>by
  by_cases hix:i=x
  ·subst hix
   simp only[updL,if_true]at hy;exact hmn hy
  ·simp only[updL,if_neg hix]at hy;exact hix (h.bagd i x m hi hx hy hmx)
 have hwr : ∀r i,r≠13->r≠17->((A.set (lkR x l1).1 (lkR x l1).2 (hdn l2:Int)).set 17 (m-1) z).w r i=A.w r i:=fun r i h1 h2=>by
  have:r≠(lkR x l1).1:=by
   rcases wm l1 with rfl|⟨l0,p,rfl⟩
   ·exact h1
   ·rw[vo];exact h2
  simp only[AS.set_w]
  rw[if_neg (fun hh=>h2 hh.1),if_neg (fun hh=>this hh.1)]
 have hm1:=hrg m hmx
 -- a list that lacks m, and the node ahead of it
 have hoth : ∀l:List Nat,(∀y∈l,1<=y/\y∉bag x)->linkedN (A.w 17) l->linkedN (((A.set (lkR x l1).1 (lkR x l1).2 (hdn l2:Int)).set 17 (m-1) z).w 17) l:=fun l hy hk=>by
  rw[yf]
  refine ym (fun y hyl hh =>?_) ?_
  ·have:=hy y hyl
   obtain rfl:y=m:=by omega
   exact this.2 hmx
  ·rcases wm l1 with rfl|⟨l0,p,rfl⟩
   ·rw[Yh,xM _ _ _ (show 17≠13 by decide)];exact hk
   ·rw[vo,yf]
    refine ym (fun y hyl hh =>?_) hk
    have hp:p∈bag x:=by rw[hl];simp
    have:=hy y hyl
    have:=hrg p hp
    obtain rfl:y=p:=by omega
    exact(hy y hyl).2 hp
 have hgn:Gon n t ((A.set (lkR x l1).1 (lkR x l1).2 (hdn l2:Int)).set 17 (m-1) z) (updL bag x (l1++l2)) (m::pl):=by
  refine h.gon.sub (fun i=>hwr 15 i (by decide) (by decide)) (fun i=>hwr 16 i (by decide) (by decide)) fun y hy =>?_
  rcases hy with hy|⟨i,hi,hy⟩
  ·rcases List.mem_cons.1 hy with rfl|hy
   ·exact .inr ⟨x,hx,hmx⟩
   ·exact .inl hy
  ·exact .inr ⟨i,hi,hupd i y hy⟩
 have e : ∀r,r≠13->r≠17->((A.set (lkR x l1).1 (lkR x l1).2 (hdn l2:Int)).set 17 (m-1) z).w r=A.w r:=fun r h1 h2=>funext fun i=>hwr r i h1 h2
 refine⟨⟨h.laid.of (fun i=>hwr 7 i (by decide) (by decide)) (fun i=>hwr 3 i (by decide) (by decide)),h.norm,h.nodf,by rw[e 1 (by decide) (by decide)];exact h.ep,h.ver,by rw[e 8 (by decide) (by decide)];exact h.bitS,by rw[e 8 (by decide) (by decide)];exact h.bitN,by rw[e 9 (by decide) (by decide),e 10 (by decide) (by decide)];exact h.remw,h.remb,by rw[e 12 (by decide) (by decide)];exact h.cach,fun i hi =>?_,fun i hi =>?_,fun i j y hi hj hy hy'=>h.bagd i j y hi hj (hupd i y hy) (hupd j y hy'),fun y k h1 h2 h3 =>?_,?_,?_,h.hblk,h.hrun,by rw[e 12 (by decide) (by decide),e 18 (by decide) (by decide)];exact h.tok,hgn.sub (fun _=>rfl) (fun _=>rfl) (fun y hy =>?_)⟩,hgn⟩
 ·obtain⟨h1,h2⟩:=h.bagw i hi
  by_cases hix:i=x
  ·subst hix
   simp only[updL,if_true]
   rw[hl]at h1 h2 hnd hrg
   have hset : ∀f:Nat->Int,linkedN f (l1++l2)->linkedN (fun q=>if q=m-1 then z else f q) (l1++l2):=fun f hf=>ym (fun y hy hh=>by
    have:=(hrg y (by rcases List.mem_append.1 hy with hy|hy<;>simp[hy])).1
    have:=(hrg m (by simp)).1
    obtain rfl:y=m:=by omega
    exact hmn hy) hf
   rw[yf (r:=17)]
   rcases wm l1 with rfl|⟨l0,p,rfl⟩
   ·rw[Yh]at *
    refine⟨by simp,hset _ ?_⟩
    rw[xM _ _ _ (show 17≠13 by decide)]
    exact h2.2
   ·rw[vo]at *
    refine⟨?_,hset _ ?_⟩
    ·rw[xM _ _ _ (show 13≠17 by decide),xM _ _ _ (show 13≠17 by decide),h1]
     cases l0<;>rfl
    ·rw[yf]
     simp only[List.append_assoc,List.singleton_append,List.cons_append,List.nil_append]at h2 hnd hrg |-
     exact xca hnd (fun y hy=>(hrg y hy).1) h2
  ·simp only[updL,if_neg hix]
   refine⟨?_,hoth _ (fun y hy=>⟨((h.bagn i hi).2 y hy).1,fun hyx=>hix (h.bagd i x y hi hx hy hyx)⟩) h2⟩
   rw[xM _ _ _ (show 13≠17 by decide),<- h1]
   rcases wm l1 with rfl|⟨l0,p,rfl⟩
   ·rw[Yh,yf];exact if_neg hix
   ·rw[vo,xM _ _ _ (show 13≠17 by decide)]
 ·obtain⟨h1,h2⟩:=h.bagn i hi
  by_cases hix:i=x
  ·subst hix
   simp only[updL,if_true]
   refine⟨?_,fun y hy=>h2 y (hsub y hy)⟩
   rw[hl]at h1
   exact h1.sublist (List.Sublist.append_left (List.sublist_cons_self m l2) l1)
  ·simp only[updL,if_neg hix];exact⟨h1,h2⟩
 ·rw[e 18 (by decide) (by decide)]
  rcases h.item y k h1 h2 h3 with h0|⟨i,g,hi,hy,h4,h5⟩
  ·exact .inl h0
  ·by_cases hym:y=m
   ·subst hym;exact .inl (hb k h3)
   ·refine .inr ⟨i,g,hi,?_,h4,h5⟩
    by_cases hix:i=x
    ·subst hix
     simp only[updL,if_true]
     rw[hl]at hy
     simp only[List.mem_append,List.mem_cons]at hy |-
     rcases hy with hy|hy|hy
     ·exact .inl hy
     ·exact absurd hy hym
     ·exact .inr hy
    ·simp only[updL,if_neg hix];exact hy
 ·obtain⟨v,hv,hw,hk⟩:=h.polw
  exact⟨v,hv,by rw[e 4 (by decide) (by decide)];exact hw,hoth _ (fun y hy=>⟨(h.poln.2 y hy).1,(h.poln.2 y hy).2.2 x hx⟩) hk⟩
 ·exact⟨h.poln.1,fun y hy=>⟨(h.poln.2 y hy).1,(h.poln.2 y hy).2.1,fun i hi hyi=>(h.poln.2 y hy).2.2 i hi (hupd i y hyi)⟩⟩
 ·rcases hy with hy|hy
  ·exact .inl (by simp[hy])
  ·exact .inr hy
end
section
variable{n t:Nat}(hf:Small n t){A:AS}{held:Nat->Option HK}{S:List Sg}{mp vr:Nat->Nat}{rem bag:Nat->List Nat}{pl:List Nat}
include hf
/-! ### runs -/
omit hf in
theorem Rn.step1{α σ:Type}{A:AS}{Q:α->AS->Prop}{N:Nat}{B:σ->(σ->T α)->T α}{i:σ}(h:Rn n t (B i (xr N B)) A Q):Rn n t (xr (N+1) B i) A Q:=h
theorem xwH{m:Nat}(hm:1<=m)(hm2:m<=nodesN n t):Rn n t (xhC (xb n t) (m:Int)) A fun r A'=>Fr [] 8 A A'/\(r=true->Xn A m):=by
 have step : ∀ (k:Nat),k<8 ->∀ (B:AS),Fr [] k A B->(∀j,j<k->A.w 18 ((m-1)*8+j)=0) ->∀ (X:T Bool),(∀B',Fr [] (k+1) A B'->(∀j,j<k+1->A.w 18 ((m-1)*8+j)=0)->Rn n t X B' fun r A'=>Fr [] 8 A A'/\(r=true->Xn A m))->
   Rn n t (.op (.load (atF (xb n t) 18 (inF (i64.wrap ((m:Int)-1)) (k:Int) 8))) fun x0=>bif x0 != 0 then .ret false else X) B fun r A'=>Fr [] 8 A A'/\(r=true->Xn A m):=by
  intro k hk B hB hz X hX
  have ha:=at18 hf.toFew hm hm2 hk
  have hi:(m-1)*8+k<Zr n t 18:=by show _<nodesN n t*8;omega
  refine Rn.load ha (by omega) hi ?_
  rw[hB.w 18 (by simp)]
  refine Rn.cond (fun h0=>Rn.ret ⟨hB.trans (Fr.tick [] B),fun hh=>by cases hh⟩) (fun h0=>hX _ (hB.trans (Fr.tick [] B)) fun j hj =>?_)
  by_cases hjk:j=k
  ·subst hjk;simpa using h0
  ·exact hz j (by omega)
 unfold xhC xjo
 refine step 0 (by omega) A (Fr.refl _ _) (fun j hj=>by omega) _ fun B1 f1 z1 =>?_
 refine step 1 (by omega) B1 f1 z1 _ fun B2 f2 z2 =>?_
 refine step 2 (by omega) B2 f2 z2 _ fun B3 f3 z3 =>?_
 refine step 3 (by omega) B3 f3 z3 _ fun B4 f4 z4 =>?_
 refine step 4 (by omega) B4 f4 z4 _ fun B5 f5 z5 =>?_
 refine step 5 (by omega) B5 f5 z5 _ fun B6 f6 z6 =>?_
 refine step 6 (by omega) B6 f6 z6 _ fun B7 f7 z7 =>?_
 refine step 7 (by omega) B7 f7 z7 _ fun B8 f8 z8 =>?_
 exact Rn.ret ⟨f8,fun _ k hk=>z8 k hk⟩
theorem xq7{A:AS}{k j:Nat}:(XV (xb n t) (k:Int) (j:Int)).run (xl n t) A=some (false,A):=by
 have:=hf.n1
 unfold XV Kc xeB xc7
 rw[show((xb n t).pages==0)=false by show(((n:Nat):Int)==0)=false;simp;omega]
 have e1:((-1:Int)==(k:Int))=false:=beq_eq_false_iff_ne.2 (by omega)
 have e2:((-1:Int)==(j:Int))=false:=beq_eq_false_iff_ne.2 (by omega)
 simp only[cond_false]
 unfold VU VT
 simp only[e1,e2,cond_false,T.bind,T.run];rfl
theorem xtk:ju (xb n t)=((2*t+2:Nat):Int):=by
 have:=hf.t2
 unfold ju
 show i64.wrap (i64.wrap (2*((t:Nat):Int))+2)=_
 have e:i64.wrap (2*(t:Int))=2*(t:Int):=w64 (by omega) (by omega)
 rw[e,w64 (by omega) (by omega)];omega
theorem xtl{th k:Nat}(ht:th<t)(hk:k<2*t+2):th*(2*t+2)+k<Zr n t 16:=by
 show _<t*(2*t+2)
 have:(th+1)*(2*t+2)<=t*(2*t+2):=Nat.mul_le_mul_right _ ht
 rw[Nat.add_mul]at this;omega
theorem at16{th k:Nat}(ht:th<t)(hk:k<2*t+2):atF (xb n t) 16 (inF (th:Int) (k:Int) (ju (xb n t)))=((Br n t 16+(th*(2*t+2)+k):Nat):Int):=by
 have:=hf.t2
 rw[xtk hf,xf6 (by omega) hk (by omega)]
 exact vT hf.toFew (by omega) (xtl hf ht hk)
theorem xwI{th k:Nat}(hk:2*t+2<=k):atF (xb n t) 16 (inF (th:Int) (k:Int) (ju (xb n t))) = -1:=by
 rw[xtk hf,in_bad (by omega)]
 exact at_bad hf.toFew (by omega) (by omega)
theorem xwJ{m v:Nat}(hm:1<=m)(hm2:m<=nodesN n t){pl:List Nat}(hv:v<4294967296)(hw:A.w 4 0=Ref.word ⟨hdn pl,false,v⟩)(hpl : ∀y∈pl,1<=y/\y<=nodesN n t) :
  (xhP (xb n t) (m:Int)).run (xl n t) A=some ((),(((A.tick.set 17 (m-1) (hdn pl:Int)).tick).set 4 0 (Ref.word ⟨(m:Int),false,(((v+1)%4294967296:Nat):Int)⟩)).tick):=by
 have hN:=hf.nodes
 have hhd:=Zd (N:=nodesN n t) (l:=pl) hpl
 have hr:=xf5 (hdn pl) v (by omega) hv
 rw[<- hw]at hr
 have hidx:ofW i64 (A.w 4 0) 0 24=(hdn pl:Int):=congrArg Ref.idx hr
 have hver:ofW u32 (A.w 4 0) 32 32=(v:Int):=congrArg Ref.ver hr
 have e1:Ref.word ⟨(hdn pl:Int),false,0⟩=(hdn pl:Int):=by
  have:=jc (hdn pl) 0 (by omega) (by omega)
  simpa using this
 have e2:u32.wrap ((v:Int)+1)=(((v+1)%4294967296:Nat):Int):=by rw[IntKind.wrap_u32];omega
 have a17:=at17 hf.toFew hm hm2
 have a4:=at4 hf.toFew
 unfold xhP xkw
 rw[a17,T.run_bind,Ze hf]
 simp only[cond_false]
 unfold kJ
 rw[show xa=4095+1 from rfl,xr]
 unfold xeZ
 rw[a17,a4]
 have d4:=xB (n:=n) (t:=t) (r:=4) (i:=0) (by simp[Zr]) 19 (by omega)
 have d17:=xB (n:=n) (t:=t) (r:=17) (i:=m-1) (by show _<nodesN n t;omega) 19 (by omega)
 simp only[T.run,xl,d4,d17,hidx,hver,e1,e2]
 have e3:((A.tick.set 17 (m-1) (hdn pl:Int)).tick).w 4 0=A.w 4 0:=by simp
 rw[if_pos e3]
 simp only[cond_true,T.run]
theorem xwK{β:Type}{Q:β->AS->Prop}{th N:Nat}{x y:Int}{l:IntsL}{κ:Nat->IntsL->T β}(ht:th<t)(hl:l.length=N)(hN:N+2<=1000)
  (hκ : ∀l' A',l'.length=N+2->Fr [] 2 A A'->Rn n t (κ (N+2) l') A' Q):Rn n t (vD (th:Int) x y (xb n t) N 0 l κ) A Q:=by
 have hi : ∀s,s<2->th*2+s<Zr n t 14:=fun s hs=>by show _<t*2;omega
 have nb : ∀ (l:IntsL) (N:Nat),l.length=N->N<=1000->(Nat.beq l.length N&&Nat.ble N 1000)=true:=fun l N h1 h2=>by
  rw[Bool.and_eq_true];rw[Nat.beq_eq,Nat.ble_eq];exact⟨h1,h2⟩
 have a0:=at14 hf.toFew (s:=0) ht (by omega)
 have a1:=at14 hf.toFew (s:=1) ht (by omega)
 unfold vD
 refine Rn.step1 (N:=4095) ?_
 unfold xbi
 refine Rn.yes rfl (Rn.load a0 (by omega) (hi 0 (by omega)) (Rn.yes (nb _ _ hl (by omega)) ?_))
 refine Rn.step1 (N:=4094) ?_
 refine Rn.yes rfl (Rn.load a1 (by omega) (hi 1 (by omega)) (Rn.yes (nb _ _ (by simp[hl]) (by omega)) ?_))
 refine Rn.step1 (N:=4093) ?_
 refine Rn.no rfl (hκ _ _ (by simp[hl]) ((Fr.tick [] A).trans (Fr.tick [] _)))
theorem run_haz{β:Type}{Q:β->AS->Prop}{κ:Nat->IntsL->T β}(hκ : ∀N l A',l.length=N->N<=1000->Fr [] 200 A A'->Rn n t (κ N l) A' Q):Rn n t (vE (xb n t).threads (xb n t) 0 0 [] κ) A Q:=by
 have ht2:=hf.t2
 unfold vE
 refine Rn.loop (fun r i A1 =>∃th:Nat,th<=t/\r=t-th/\i.1=2*th/\i.2.1=(th:Int)/\i.2.2.length=2*th/\Fr [] (2*th) A A1) ?_ xa t _ A (by unfold xa;omega) ⟨0,by omega,rfl,rfl,rfl,rfl,Fr.refl _ _⟩
 rintro r ⟨i1,i2,i3⟩ A1 κ' ⟨th,hth,rfl,h1,h2,h3,hfr⟩ hloop
 simp only at h1 h2 h3
 subst h1 h2
 unfold xbj
 by_cases hlt:th<t
 ·refine Rn.yes (by rw[dT];show((th:Nat):Int)<((t:Nat):Int);omega) ?_
  refine xwK hf hlt h3 (by omega) fun l' A2 hl2 hfr2 =>?_
  rw[show((2*th+2,i64.wrap ((th:Int)+1),l'):Nat×Int×IntsL)=(2*(th+1),((th+1:Nat):Int),l')by rw[xF hf.toFew (x:=th) (by omega)];rfl]
  exact hloop (t-(th+1)) _ _ (by omega) ⟨th+1,by omega,rfl,rfl,rfl,by rw[hl2];omega,hfr.trans hfr2⟩
 ·refine Rn.no (by rw[dF];show ¬ ((th:Nat):Int)<((t:Nat):Int);omega) ?_
  exact hκ _ _ _ h3 (by omega) (hfr.mono)
theorem xwL{N:Nat}{l:IntsL}{x:Int}(hl:l.length=N)(hN:N<=1000):Rn n t (xbh N l x) A fun r A'=>A'=A:=by
 unfold xbh xdo
 refine Rn.bind (Q1:=fun _ A'=>A'=A) ?_ fun r A' h=>by subst h;exact Rn.ret rfl
 unfold Ku Kt vz
 refine Rn.loop (fun r i A1 =>∃k:Nat,k<=N/\r=N-k/\i=(k:Int)/\A1=A) ?_ xa N _ A (by unfold xa;omega) ⟨0,by omega,rfl,rfl,rfl⟩
 rintro r i A1 κ ⟨k,hk,rfl,rfl,rfl⟩ hloop
 unfold WO
 by_cases hlt:k<N
 ·refine Rn.yes (by rw[dT];omega) (Rn.yes (by rw[dT];omega) (Rn.yes ?_ ?_))
  ·rw[hl]
   first
    | (simp[inR];omega)
    | simp[inR,hlt]
  ·refine Rn.cond (fun _=>Rn.ret rfl) fun _ =>?_
   rw[xF hf.toFew (x:=k) (by omega)]
   exact hloop (N-(k+1)) _ _ (by omega) ⟨k+1,by omega,rfl,rfl,rfl⟩
 ·exact Rn.no (by rw[dF];omega) (Rn.ret rfl)
end
end Go.Proofs.YtaegelbaghaooaaGreat
namespace Go.Proofs.YtaegelbaghaooaaGreat
open Go Go.RowKit Lx
theorem GonR.put{n t:Nat}{A A':AS}{bag:Nat->List Nat}{pl pl':List Nat}{rt:Nat->List Nat}(h:GonR n t A bag pl rt){me:Nat}{K:List Nat}(hK:K.length<=2*t+2)(h15 : ∀q,q≠me->A'.w 15 q=A.w 15 q)(h0:A'.w 15 me=(K.length:Int))
  (h16 : ∀q j,q<t->q≠me->j<2*t+2->A'.w 16 (q*(2*t+2)+j)=A.w 16 (q*(2*t+2)+j)) (hK16 : ∀j,j<K.length->A'.w 16 (me*(2*t+2)+j)=((K.getD j 0:Nat):Int)) (hnd:K.Nodup)
  (hm : ∀m∈K,1<=m/\m<=nodesN n t/\m∉pl'/\(∀i,i<4*t->m∉bag i)/\ ∀q,q<t->q≠me->m∉rt q) (hpl : ∀q m,q<t->q≠me->m∈rt q->m∉pl'):Gon n t A' bag pl':=by
 obtain⟨h1,h2⟩:=h
 refine⟨updL rt me K,fun q hq =>?_,fun q q' m hq hq' hmq hmq' =>?_⟩
 ·by_cases hqm:q=me
  ·subst hqm
   simp only[updL,if_true]
   exact⟨hK,h0,hnd,hK16,fun m hmK=>⟨(hm m hmK).1,(hm m hmK).2.1,(hm m hmK).2.2.1,(hm m hmK).2.2.2.1⟩⟩
  ·simp only[updL,if_neg hqm]
   obtain⟨a,b,c,d,e⟩:=h1 q hq
   exact⟨a,by rw[h15 q hqm,b],c,fun k hk=>by rw[h16 q k hq hqm (by omega),d k hk],fun m hmq=>⟨(e m hmq).1,(e m hmq).2.1,hpl q m hq hqm hmq,(e m hmq).2.2.2⟩⟩
 ·by_cases hqm:q=me
  ·by_cases hqm':q'=me
   ·omega
   ·simp only[updL,if_pos hqm]at hmq
    simp only[updL,if_neg hqm']at hmq'
    exact absurd hmq' ((hm m hmq).2.2.2.2 q' hq' hqm')
  ·simp only[updL,if_neg hqm]at hmq
   by_cases hqm':q'=me
   ·simp only[updL,if_pos hqm']at hmq'
    exact absurd hmq ((hm m hmq').2.2.2.2 q hq hqm)
   ·simp only[updL,if_neg hqm']at hmq'
    exact h2 q q' m hq hq' hmq hmq'
theorem xq8{t q me i j:Nat}(hne:q≠me)(hi:i<2*t+2)(hj:j<2*t+2):q*(2*t+2)+i≠me*(2*t+2)+j:=by
 intro hh
 rcases Nat.lt_or_gt_of_ne hne with h|h
 ·have:=Nat.mul_le_mul_right (2*t+2) (show q+1<=me from h)
  rw[Nat.add_mul]at this;omega
 ·have:=Nat.mul_le_mul_right (2*t+2) (show me+1<=q from h)
  rw[Nat.add_mul]at this;omega
theorem xwM{n t:Nat}{A:AS}{held:Nat->Option HK}{S:List Sg}{mp vr:Nat->Nat}{rem bag:Nat->List Nat}{pl:List Nat}(h:HI n t A held S mp vr rem bag pl){x:Nat}(hx:x<4*t){l1 l2:List Nat}(hl:bag x=l1++l2):A.w (lkR x l1).1 (lkR x l1).2=(hdn l2:Int):=by
 obtain⟨h1,h2⟩:=h.bagw x hx
 rw[hl]at h1 h2
 rcases wm l1 with rfl|⟨l0,p,rfl⟩
 ·exact h1
 ·rw[vo]
  rw[List.append_assoc]at h2
  exact(Kr (l1:=l0) h2).1
theorem wU(x:Nat)(h:x<18446744073709551616):u64.wrap (x:Int)=(x:Int):=by rw[IntKind.wrap_u64];omega
section
variable{n t:Nat}(hf:Small n t){A:AS}{held:Nat->Option HK}{S:List Sg}{mp vr:Nat->Nat}{rem bag:Nat->List Nat}{pl:List Nat}
include hf
theorem xwN{me:Nat}(hme:me<t)(hself:A.self=(me:Int))(h:HI n t A held S mp vr rem bag pl):Rn n t (xbl (xb n t)) A fun _ A' =>∃pl',HI n t A' held S mp vr rem bag pl'/\Fr [4,15,16,17] 10000 A A':=by
 have ht2:=hf.t2
 have hN:=hf.nodes
 obtain⟨rt,hrt⟩:=h.gon
 have hrt':GonR n t A bag pl rt:=hrt
 obtain⟨hr1,hr2⟩:=hrt
 obtain⟨b1,b2,b3,b4,b5⟩:=hr1 me hme
 generalize hR:rt me=R at b1 b2 b3 b4 b5
 have a15:=at15 hf.toFew hme
 unfold xbl xdp
 refine Rn.self ?_
 rw[hself,a15]
 refine Rn.run (Ze hf) (Rn.no rfl ?_)
 refine run_haz hf fun N l A1 hl hN1 hfr1 =>?_
 refine Rn.self ?_
 rw[hfr1.self,hself,a15]
 refine Rn.load rfl (by omega) (show me<t from hme) ?_
 rw[hfr1.w 15 (by simp),b2,w64 (by omega) (by omega)]
 unfold wn
 refine Rn.loop (fun r i A2 =>∃ (k:Nat) (K:List Nat) (pl2:List Nat),k<=R.length/\r=R.length-k/\i.1=(K.length:Int)/\i.2=(k:Int)/\K.length<=k/\(K++R.drop k).Nodup/\(∀m∈K++R.drop k,m∈R/\m∉pl2)/\
  (∀j,j<K.length->A2.w 16 (me*(2*t+2)+j)=((K.getD j 0:Nat):Int))/\(∀j,k<=j->j<R.length->A2.w 16 (me*(2*t+2)+j)=((R.getD j 0:Nat):Int))/\(∀q j,q<t->q≠me->j<2*t+2->A2.w 16 (q*(2*t+2)+j)=A.w 16 (q*(2*t+2)+j))/\
  (∀q m,q<t->q≠me->m∈rt q->m∉pl2)/\HI n t (A2.set 15 me 0) held S mp vr rem bag pl2/\Fr [4,16,17] (201+10*k) A A2) ?_ xa R.length _ A1.tick (by unfold xa;omega) ?_
 ·rintro r ⟨i1,i2⟩ A2 κ ⟨k,K,pl2,hk,rfl,hi1,hi2,hKk,hnd,hmem,hK16,hR16,ho16,hop,h2,hfr⟩ hloop
  simp only at hi1 hi2
  subst hi1 hi2
  have hs2:A2.self=(me:Int):=by rw[hfr.self,hself]
  have gon0 : ∀ (B:AS) (pl':List Nat),(∀q,q≠me->B.w 15 q=A.w 15 q)->B.w 15 me=0->(∀q j,q<t->q≠me->j<2*t+2->B.w 16 (q*(2*t+2)+j)=A.w 16 (q*(2*t+2)+j))->(∀q m,q<t->q≠me->m∈rt q->m∉pl')->Gon n t B bag pl':=fun B pl' g1 g2 g3 g4=>
   hrt'.put (K :=[]) (by simp) g1 (by simpa using g2) g3 (fun j hj=>by simp at hj) (by simp) (fun m hm=>by simp at hm) g4
  unfold xbk
  by_cases hlt:k<R.length
  ·refine Rn.yes (by rw[dT];show((k:Nat):Int)<((R.length:Nat):Int);omega) ?_
   have hk2:k<2*t+2:=by omega
   have ak:=at16 hf hme hk2
   have hdrop:R.drop k=R[k]::R.drop (k+1):=List.drop_eq_getElem_cons hlt
   have hx:R.getD k 0=R[k]:=by simp[List.getD,hlt]
   generalize R[k]=x at hdrop hx
   have hxR:x∈R/\x∉pl2:=hmem x (by rw[hdrop];simp)
   obtain⟨x1,x2,x3,x4⟩:=b5 x hxR.1
   refine Rn.self ?_
   simp only[hs2]
   refine Rn.no (by rw[ak];exact beq_eq_false_iff_ne.2 (by omega)) ?_
   refine Rn.self ?_
   rw[hs2]
   refine Rn.load ak (by omega) (xtl hf hme hk2) ?_
   have ex:A2.w 16 (me*(2*t+2)+k)=(x:Int):=by rw[hR16 k (Nat.le_refl _) hlt,hx]
   rw[ex,w64 (x:=(x:Int)) (by omega) (by omega)]
   refine Rn.bind (xwL hf hl hN1) ?_
   rintro b A3 rfl
   refine Rn.cond (fun _ =>?_) (fun _ =>?_)
   ·refine Rn.self ?_
    rw[AS.tick_self,hs2]
    have hKt:K.length<2*t+2:=by omega
    refine Rn.store (at16 hf hme hKt) (by omega) (xtl hf hme hKt) ?_
    rw[wU x (by omega),xF hf.toFew (x:=K.length) (by omega),xF hf.toFew (x:=k) (by omega)]
    have hw : ∀i,((A2.tick.set 16 (me*(2*t+2)+K.length) (x:Int)).tick).w 16 i=if i=me*(2*t+2)+K.length then(x:Int)else A2.w 16 i:=fun i=>by simp
    refine hloop (R.length-(k+1)) _ _ (by omega) ⟨k+1,K ++ [x],pl2,by omega,rfl,by simp,rfl,by simp;omega,?_,?_,fun j hj =>?_,fun j hj1 hj2 =>?_,fun q j hq hqm hj =>?_,hop,?_,?_⟩
    ·rw[List.append_assoc,List.singleton_append,<- hdrop];exact hnd
    ·rw[List.append_assoc,List.singleton_append,<- hdrop];exact hmem
    ·rw[hw]
     by_cases hjK:j=K.length
     ·subst hjK;simp
     ·rw[if_neg (by omega),hK16 j (by simp at hj;omega)]
      have hj2:j<K.length:=by simp at hj;omega
      simp[List.getD,List.getElem?_append_left hj2]
    ·rw[hw,if_neg (by omega)];exact hR16 j (by omega) hj2
    ·rw[hw,if_neg (xq8 hqm hj hKt)];exact ho16 q j hq hqm hj
    ·refine h2.regon (fun r i h15 h16=>by simp[h15,h16]) (gon0 _ pl2 (fun q hq =>?_) (by simp) (fun q j hq hqm hj =>?_) hop)
     ·simp only[AS.set_w,AS.tick_w,hq,and_false,if_false,show ¬ (15=16)by decide,false_and]
      exact hfr.w 15 (by simp) q
     ·simp only[AS.set_w,AS.tick_w,show ¬ (16=15)by decide,false_and,if_false,true_and]
      rw[if_neg (xq8 hqm hj hKt)];exact ho16 q j hq hqm hj
    ·exact(hfr.trans (Fr.tick [] A2) (S :=[4,16,17]) (e:=201+10*k+1)).trans (Fr.sett (R :=[16]) _ _ (by simp))
   ·obtain⟨v,hv,hw4,hlk⟩:=h2.polw
    refine Rn.run (xwJ hf (A:=A2.tick) (pl:=pl2) x1 x2 hv hw4 (fun y hy=>⟨(h2.poln.2 y hy).1,(h2.poln.2 y hy).2.1⟩)) ?_
    rw[xF hf.toFew (x:=k) (by omega)]
    have hnd':(x::(K++R.drop (k+1))).Nodup:=by
     rw[hdrop]at hnd
     exact(List.perm_middle.nodup_iff).1 hnd
    have hxn:=(List.nodup_cons.1 hnd').1
    have hplx : ∀q m,q<t->q≠me->m∈rt q->m∉x::pl2:=fun q m hq hqm hm hm'=>by
     rcases List.mem_cons.1 hm' with rfl|hm'
     ·exact hqm (hr2 q me m hq hme hm (by rw[hR];exact hxR.1))
     ·exact hop q m hq hqm hm hm'
    have hv15 : ∀q,q≠me->(A2.set 15 me 0).w 15 q=A.w 15 q:=fun q hq=>by
     simp only[AS.set_w,hq,and_false,if_false];exact hfr.w 15 (by simp) q
    have hv16 : ∀q j,q<t->q≠me->j<2*t+2->(A2.set 15 me 0).w 16 (q*(2*t+2)+j)=A.w 16 (q*(2*t+2)+j):=fun q j hq hqm hj=>by
     simp only[AS.set_w,show ¬ (16=15)by decide,false_and,if_false];exact ho16 q j hq hqm hj
    have h3:=h2.give (v:=(v+1)%4294967296) x1 x2 x4 hxR.2 (Nat.mod_lt _ (by omega)) (gon0 _ _ hv15 (by simp) hv16 hplx)
    refine hloop (R.length-(k+1)) _ _ (by omega) ⟨k+1,K,x::pl2,by omega,rfl,rfl,rfl,by omega,(List.nodup_cons.1 hnd').2,fun m hm=>⟨(hmem m ?_).1,fun hm' =>?_⟩,fun j hj =>?_,fun j hj1 hj2 =>?_,fun q j hq hqm hj =>?_,hplx,?_,?_⟩
    ·rw[hdrop];rcases List.mem_append.1 hm with hm|hm<;>simp[hm]
    ·rcases List.mem_cons.1 hm' with rfl|hm'
     ·exact hxn hm
     ·exact(hmem m (by rw[hdrop];rcases List.mem_append.1 hm with hm|hm<;>simp[hm])).2 hm'
    ·simpa using hK16 j hj
    ·simpa using hR16 j (by omega) hj2
    ·simpa using ho16 q j hq hqm hj
    ·refine h3.same fun r i hri =>?_
     simp only[AS.set_w,AS.tick_w]
     by_cases hr15:r=15
     ·subst hr15;simp
     ·simp[hr15]
    ·exact(((hfr.trans (Fr.tick [] A2) (S :=[4,16,17]) (e:=201+10*k+1)).trans (Fr.tick [] _) (S :=[4,16,17]) (e:=201+10*k+2)).trans (Fr.sett (R :=[17]) _ _ (by simp)) (S :=[4,16,17]) (e:=201+10*k+3)).trans (Fr.sett (R :=[4]) _ _ (by simp))
  ·obtain rfl:k=R.length:=by omega
   refine Rn.no (by rw[dF];show ¬ ((R.length:Nat):Int)<((R.length:Nat):Int);omega) ?_
   refine Rn.self ?_
   rw[hs2,a15]
   refine Rn.store rfl (by omega) (show me<t from hme) (Rn.ret ⟨pl2,?_,?_⟩)
   ·simp only
    rw[wU _ (by omega)]
    rw[List.drop_length,List.append_nil]at hnd hmem
    refine h2.regon (fun r i h15 h16=>by simp[h15]) (hrt'.put (me:=me) (K:=K) (by omega) (fun q hq =>?_) (by simp) (fun q j hq hqm hj =>?_) (fun j hj =>?_) hnd (fun m hm =>?_) hop)
    ·simp only[AS.set_w,AS.tick_w,hq,and_false,if_false];exact hfr.w 15 (by simp) q
    ·simp only[AS.set_w,AS.tick_w,show ¬ (16=15)by decide,false_and,if_false];exact ho16 q j hq hqm hj
    ·simp only[AS.set_w,AS.tick_w,show ¬ (16=15)by decide,false_and,if_false];exact hK16 j hj
    ·obtain⟨g1,g2⟩:=hmem m hm
     obtain⟨x1,x2,x3,x4⟩:=b5 m g1
     exact⟨x1,x2,g2,x4,fun q hq hqm hmq=>hqm (hr2 q me m hq hme hmq (by rw[hR];exact g1))⟩
   ·exact hfr.trans (Fr.sett (R :=[15]) _ _ (by simp))
 ·refine⟨0,[],pl,by omega,rfl,rfl,rfl,by simp,by simpa using b3,fun m hm=>⟨by simpa using hm,(b5 m (by simpa using hm)).2.2.1⟩,fun j hj=>by simp at hj,fun j _ hj =>?_,fun q j hq hqm hj =>?_,fun q m hq hqm hm=>((hr1 q hq).2.2.2.2 m hm).2.2.1,?_,(hfr1.trans (Fr.tick [] A1) (S :=[]) (e:=201)).mono⟩
  ·rw[AS.tick_w,hfr1.w 16 (by simp)];exact b4 j hj
  ·rw[AS.tick_w,hfr1.w 16 (by simp)]
  ·refine h.regon (fun r i h15 h16 =>?_) (hrt'.put (me:=me) (K :=[]) (by simp) (fun q hq =>?_) (by simp) (fun q j hq hqm hj =>?_) (fun j hj=>by simp at hj) (by simp) (fun m hm=>by simp at hm) (fun q m hq hqm hm=>((hr1 q hq).2.2.2.2 m hm).2.2.1))
   ·simp only[AS.set_w,h15,false_and,if_false,AS.tick_w];exact hfr1.w r (by simp) i
   ·simp only[AS.set_w,hq,and_false,if_false,AS.tick_w];exact hfr1.w 15 (by simp) q
   ·simp only[AS.set_w,show ¬ (16=15)by decide,false_and,if_false,AS.tick_w];exact hfr1.w 16 (by simp) _
theorem xq9{me m:Nat}(hme:me<t)(hself:A.self=(me:Int))(h:HI n t A held S mp vr rem bag pl)(hm:1<=m)(hm2:m<=nodesN n t)(hno : ∀i,i<4*t->m∉bag i)(hnp:m∉pl)(hgn:Gon n t A bag (m::pl)) :
  Rn n t (jV (xb n t) (m:Int)) A fun _ A' =>∃pl',HI n t A' held S mp vr rem bag pl'/\Fr [4,15,16,17] 11000 A A':=by
 have ht2:=hf.t2
 have hN:=hf.nodes
 obtain⟨rt,hrt⟩:=hgn
 have hrt':GonR n t A bag (m::pl) rt:=hrt
 obtain⟨hr1,hr2⟩:=hrt
 obtain⟨b1,b2,b3,b4,b5⟩:=hr1 me hme
 have a15:=at15 hf.toFew hme
 unfold jV Yl
 refine Rn.self ?_
 rw[hself,a15,at17 hf.toFew hm hm2]
 refine Rn.run (xq7 hf) (Rn.no rfl ?_)
 refine Rn.self ?_
 rw[hself,a15]
 refine Rn.load rfl (by omega) (show me<t from hme) ?_
 rw[b2,w64 (x:=((rt me).length:Int)) (by omega) (by omega)]
 refine Rn.self ?_
 rw[AS.tick_self,hself]
 by_cases hl:(rt me).length<2*t+2
 ·have ak:=at16 hf hme hl
  refine Rn.no (by rw[ak];exact beq_eq_false_iff_ne.2 (by omega)) ?_
  refine Rn.self ?_
  rw[AS.tick_self,hself]
  refine Rn.store ak (by omega) (xtl hf hme hl) ?_
  refine Rn.self ?_
  simp only[AS.tick_self,AS.set_self]
  rw[hself,a15]
  refine Rn.store rfl (by omega) (show me<t from hme) ?_
  rw[wU m (by omega),xF hf.toFew (x:=(rt me).length) (by omega),wU _ (by omega)]
  have h1:HI n t ((((A.tick.set 16 (me*(2*t+2)+(rt me).length) (m:Int)).tick).set 15 me (((rt me).length+1:Nat):Int)).tick) held S mp vr rem bag pl:=by
   refine h.regon (fun r i h15 h16=>by simp[h15,h16]) (hrt'.put (me:=me) (K:=rt me ++ [m]) (by simp;omega) (fun q hq=>by simp[hq]) (by simp) (fun q j hq hqm hj =>?_) (fun j hj =>?_) ?_ (fun y hy =>?_) (fun q y hq hqm hy hy'=>((hr1 q hq).2.2.2.2 y hy).2.2.1 (by simp[hy'])))
   ·simp only[AS.set_w,AS.tick_w,show ¬ (16=15)by decide,false_and,if_false,true_and]
    rw[if_neg (xq8 hqm hj hl)]
   ·simp only[AS.set_w,AS.tick_w,show ¬ (16=15)by decide,false_and,if_false,true_and]
    by_cases hjl:j=(rt me).length
    ·subst hjl;simp
    ·have hj2:j<(rt me).length:=by simp at hj;omega
     rw[if_neg (by omega),b4 j hj2]
     simp[List.getD,List.getElem?_append_left hj2]
   ·rw[List.nodup_append]
    refine⟨b3,by simp,fun y hy z hz =>?_⟩
    simp only[List.mem_singleton]at hz
    subst hz
    exact fun hh=>(b5 y hy).2.2.1 (by simp[hh])
   ·rcases List.mem_append.1 hy with hy|hy
    ·obtain⟨x1,x2,x3,x4⟩:=b5 y hy
     exact⟨x1,x2,fun hp=>x3 (by simp[hp]),x4,fun q hq hqm hyq=>hqm (hr2 q me y hq hme hyq hy)⟩
    ·simp only[List.mem_singleton]at hy
     subst hy
     exact⟨hm,hm2,hnp,hno,fun q hq hqm hyq=>((hr1 q hq).2.2.2.2 y hyq).2.2.1 (by simp)⟩
  have f1:Fr [15,16] 4 A ((((A.tick.set 16 (me*(2*t+2)+(rt me).length) (m:Int)).tick).set 15 me (((rt me).length+1:Nat):Int)).tick):=
   ((Fr.tick [] A).trans (Fr.sett (R :=[16]) _ _ (by simp)) (S :=[15,16]) (e:=2)).trans (Fr.sett (R :=[15]) _ _ (by simp))
  refine Rn.cond (fun _ =>?_) (fun _=>Rn.ret ⟨pl,h1,f1.mono⟩)
  refine Rn.bind (xwN hf hme (by simpa using hself) h1) ?_
  rintro _ A2 ⟨pl',k1,k2⟩
  exact Rn.ret ⟨pl',k1,f1.trans k2⟩
 ·refine Rn.yes (by rw[xwI hf (by omega)];rfl) (Rn.ret ⟨pl,h.same fun r i _=>rfl,(Fr.tick [] A).mono⟩)
theorem xuG{me c:Nat}(hme:me<t)(hc:c<4)(hself:A.self=(me:Int))(h:HI n t A held S mp vr rem bag pl):Rn n t (ZO (xb n t) (c:Int)) A fun _ A' =>∃bag' pl',HI n t A' held S mp vr rem bag' pl'/\Fr [4,13,15,16,17] 100000000 A A':=by
 have hx:me*4+c<4*t:=by omega
 have hN:=hf.nodes
 have hlen:=qi _ _ (h.bagn _ hx).1 (h.bagn _ hx).2
 have hidx : ∀ {B:AS} {bag2 pl2} {l1 l2:List Nat},HI n t B held S mp vr rem bag2 pl2->bag2 (me*4+c)=l1++l2->ofW i64 (hdn l2:Int) 0 24=(hdn l2:Int)/\Ref.word ⟨(hdn l2:Int),false,0⟩=(hdn l2:Int):=fun hB hl=>by
  have hr:=(hB.bagn _ hx).2
  rw[hl]at hr
  rename_i B bag2 pl2 l1 l2
  have hh:=Zd (N:=nodesN n t) (l:=l2) fun m hm=>hr m (by simp[hm])
  refine⟨congrArg Ref.idx (ks (x:=hdn l2) (by omega)),?_⟩
  have:=jc (hdn l2) 0 (by omega) (by omega)
  simpa using this
 unfold ZO xdr
 refine Rn.run (xbN hf hme hc hself) (Rn.no rfl ?_)
 refine Rn.self ?_
 rw[hself,at13 hf.toFew hme hc]
 refine Rn.load rfl (by omega) (by show _<t*4;omega) ?_
 rw[(h.bagw _ hx).1,(hidx h (l1 :=[]) (List.nil_append _).symm).1]
 unfold wo
 refine Rn.loop (fun r i A2 =>∃ (l1 l2:List Nat) (bag2:Nat->List Nat) (pl2:List Nat) (d:Nat),bag2 (me*4+c)=l1++l2/\r=l2.length/\d+l2.length=(bag (me*4+c)).length/\i.1=((Br n t (lkR (me*4+c) l1).1+(lkR (me*4+c) l1).2:Nat):Int)/\i.2=(hdn l2:Int)/\HI n t A2 held S mp vr rem bag2 pl2/\Fr [4,13,15,16,17] (1+12000*d) A A2) ?_ xa _ _ A.tick (by unfold xa;omega)
  ⟨[],bag (me*4+c),bag,pl,0,rfl,rfl,by omega,rfl,rfl,h.same fun r i _=>rfl,(Fr.tick [] A).mono⟩
 rintro r ⟨i1,i2⟩ A2 κ ⟨l1,l2,bag2,pl2,d,hl,rfl,hd,hi1,hi2,h2,hfr⟩ hloop
 simp only at hi1 hi2
 subst hi1 hi2
 have hs2:A2.self=(me:Int):=by rw[hfr.self,hself]
 unfold xbo
 cases l2 with
 | nil=>exact Rn.no (by simp[hdn]) (Rn.ret ⟨bag2,pl2,h2,hfr.mono⟩)
 | cons m l2=>
  have hmem:m∈bag2 (me*4+c):=by rw[hl];simp
  obtain⟨hm1,hm2⟩:=(h2.bagn _ hx).2 m hmem
  have a17:=at17 hf.toFew hm1 hm2
  have z17:m-1<Zr n t 17:=by show _<nodesN n t;omega
  have hl':bag2 (me*4+c)=(l1 ++ [m])++l2:=by rw[hl];simp
  simp only[List.length_cons]at hd
  refine Rn.yes (by simp[hdn];omega) ?_
  rw[show hdn (m::l2)=m from rfl]
  refine Rn.bind (xwH hf hm1 hm2) ?_
  rintro b A3 ⟨hfr3,hbare⟩
  have h3:HI n t A3 held S mp vr rem bag2 pl2:=h2.fr hfr3 (by simp)
  have hs3:A3.self=(me:Int):=by rw[hfr3.self,hs2]
  have hv:=xwM h3 hx hl'
  rw[vo]at hv
  cases b with
  | false=>
   refine Rn.yes rfl ?_
   refine Rn.load a17 (by omega) z17 ?_
   rw[hv,(hidx h3 hl').1,a17]
   refine hloop l2.length _ _ (by simp) ⟨l1 ++ [m],l2,bag2,pl2,d+1,hl',rfl,by omega,by rw[vo],rfl,h3.same fun r i _=>rfl,?_⟩
   exact(hfr.trans hfr3 (S :=[4,13,15,16,17]) (e:=1+12000*d+8)).trans (Fr.tick [] _)
  | true=>
   refine Rn.no rfl ?_
   refine Rn.load a17 (by omega) z17 ?_
   rw[hv,(hidx h3 hl').1]
   have hlk:(lkR (me*4+c) l1).1<19/\(lkR (me*4+c) l1).2<Zr n t (lkR (me*4+c) l1).1/\(lkR (me*4+c) l1).1 ∈ [13,17]:=by
    rcases wm l1 with rfl|⟨l0,p,rfl⟩
    ·exact⟨by rw[Yh];omega,by rw[Yh];show _<t*4;omega,by rw[Yh];simp⟩
    ·have:=(h3.bagn _ hx).2 p (by rw[hl];simp)
     exact⟨by rw[vo];omega,by rw[vo];show _<nodesN n t;omega,by rw[vo];simp⟩
   refine Rn.store rfl hlk.1 hlk.2.1 ?_
   rw[(hidx h3 hl').2]
   refine Rn.store a17 (by omega) z17 ?_
   obtain⟨h4,hgn4⟩:=h3.unlink (l1:=l1) (l2:=l2) (z:=Ref.word ⟨(hdn l2:Int),true,0⟩) hx hl (fun k hk=>by rw[hfr3.w 18 (by simp)];exact hbare rfl k hk)
   have hno : ∀i,i<4*t->m∉updL bag2 (me*4+c) (l1++l2) i:=fun i hi hy=>by
    have hnd:=(h3.bagn _ hx).1
    by_cases hix:i=me*4+c
    ·subst hix
     simp only[updL,if_true]at hy
     rw[hl]at hnd
     exact(List.nodup_cons.1 ((List.perm_middle.nodup_iff).1 hnd)).1 hy
    ·simp only[updL,if_neg hix]at hy;exact hix (h3.bagd i _ m hi hx hy hmem)
   have hnp:m∉pl2:=fun hp=>(h3.poln.2 m hp).2.2 _ hx hmem
   generalize hA4:(A3.set (lkR (me*4+c) l1).1 (lkR (me*4+c) l1).2 (hdn l2:Int)).set 17 (m-1) (Ref.word ⟨(hdn l2:Int),true,0⟩)=A4 at h4 hgn4
   have hw4 : ∀r i,((((A3.tick.set (lkR (me*4+c) l1).1 (lkR (me*4+c) l1).2 (hdn l2:Int)).tick).set 17 (m-1) (Ref.word ⟨(hdn l2:Int),true,0⟩)).tick).w r i=A4.w r i:=fun r i=>by rw[<- hA4];rfl
   refine Rn.bind (xq9 hf (m:=m) hme (by simpa using hs3) (h4.same fun r i _=>hw4 r i) hm1 hm2 hno hnp (hgn4.of (fun i=>hw4 15 i) (fun i=>hw4 16 i))) ?_
   rintro _ A5 ⟨pl5,h5,hfr5⟩
   have hl5:updL bag2 (me*4+c) (l1++l2) (me*4+c)=l1++l2:=by simp[updL]
   refine Rn.load rfl hlk.1 hlk.2.1 ?_
   rw[xwM h5 hx hl5,(hidx h5 hl5).1]
   refine hloop l2.length _ _ (by simp) ⟨l1,l2,_,pl5,d+1,hl5,rfl,by omega,rfl,rfl,h5.same fun r i _=>rfl,?_⟩
   have f4:Fr [4,13,15,16,17] (1+12000*d+11) A ((((A3.tick.set (lkR (me*4+c) l1).1 (lkR (me*4+c) l1).2 (hdn l2:Int)).tick).set 17 (m-1) (Ref.word ⟨(hdn l2:Int),true,0⟩)).tick):=
    (((hfr.trans hfr3 (S :=[4,13,15,16,17]) (e:=1+12000*d+8)).trans (Fr.tick [] _) (S :=[4,13,15,16,17]) (e:=1+12000*d+9)).trans (Fr.sett (R :=[13,17]) _ _ hlk.2.2) (S :=[4,13,15,16,17]) (e:=1+12000*d+10)).trans (Fr.sett (R :=[17]) _ _ (by simp))
   exact(f4.trans hfr5 (S :=[4,13,15,16,17]) (e:=1+12000*d+11+11000)).trans (Fr.tick [] _)
theorem xuH(h:HI n t A held S mp vr rem bag pl){th c:Nat}(hs:A.self=(th:Int))(ht:th<t)(hc:c<4):Rn n t (jD (xb n t) (c:Int)) A fun r A'=>
  (∃g,r=(((g+1:Nat):Int),true)/\held g=none/\isBlk S g c/\HI n t A' (upd held g (some (.blk c))) S mp vr rem bag pl/\Fr [12] 4 A A'/\LessB 12 ((th*4+c)*2) 2 A A')\/
  (r=(0,false)/\Fr [] 2 A A'/\A.w 12 ((th*4+c)*2)=0/\A.w 12 ((th*4+c)*2+1)=0):=by
 unfold jD VG
 refine Rn.self ?_
 rw[hs]
 refine Rn.bind (xbM hf.toFew h ht hc) ?_
 rintro r A1 hr
 exact Rn.ret hr
theorem xuI{me:Nat}(hme:me<t)(hself:A.self=(me:Int))(hi:HInv n t A held):Rn n t (xbu (xb n t)) A fun _ A'=>HInv n t A' held/\Fr [1,4,8,12,13,15,16,17] 500000000 A A':=by
 obtain⟨hlock,S,mp,vr,rem,bag,pl,h⟩:=hi
 unfold xbu xdv
 refine Rn.run (ql hf hme hself) (Rn.no rfl ?_)
 unfold wu
 refine Rn.loop (fun r i A1 =>∃ (c o:Nat) (mp':Nat->Nat) (bag':Nat->List Nat) (pl':List Nat),i=((c:Int),(o:Int))/\c<=4/\r=4-c/\o<=2*c/\HI n t A1 held S mp' vr rem bag' pl'/\Fr [1,4,8,12,13,15,16,17] (100001000*c) A A1) ?_ xa 4 _ A (by unfold xa;omega)
  ⟨0,0,mp,bag,pl,rfl,by omega,rfl,by omega,h,(Fr.refl [] A).mono⟩
 rintro r i A1 κ ⟨c,o,mp1,bag1,pl1,rfl,hc,rfl,ho,h1,hfr⟩ hloop
 have hs1:A1.self=(me:Int):=by rw[hfr.self,hself]
 unfold xbt
 by_cases hc4:c<4
 ·refine Rn.yes (by rw[dT];show((c:Nat):Int)<4;omega) ?_
  unfold wt
  refine Zh hf (τ:=jD (xb n t) (c:Int)) (B:=xbs (c:Int) (c:Int) (xb n t) (xb n t) fun y2=>(ZO (xb n t) (c:Int)).bind fun r3=>κ (i64.wrap ((c:Int)+1),y2)) (κ0:=fun y2=>(ZO (xb n t) (c:Int)).bind fun r3=>κ (i64.wrap ((c:Int)+1),y2)) (R :=[12]) (K:=4) (reg:=12) (b:=(me*4+c)*2) (N:=2) (c:=c) (me:=me) (M:=2) (E:=fun _=>True) (fun _ _=>rfl) ⟨by decide,by decide⟩ (by decide) (fun B mpB hsB hB =>?_) (by omega) o (by omega) hs1 h1 (xge _ _) fun A2 mp2 k2 hk2 h2 _ he2 hfr2 _ =>?_
  ·refine(xuH hf hB hsB hme hc4).mono ?_
   rintro r A' (hr|⟨rfl,q1,q2,q3⟩)
   ·exact .inl hr
   ·exact .inr ⟨rfl,q1.mono,hB.fr q1 (by simp),trivial,fun q=>q1.w 12 (by simp) q⟩
  ·refine Rn.bind (xuG hf hme hc4 (by rw[hfr2.self,hs1]) h2) ?_
   rintro _ A3 ⟨bag3,pl3,h3,hfr3⟩
   rw[xF hf.toFew (x:=c) (by omega)]
   refine hloop (4-(c+1)) _ _ (by omega) ⟨c+1,o+k2,mp2,bag3,pl3,rfl,by omega,rfl,by omega,h3,?_⟩
   exact(hfr.trans hfr2 (S :=[1,4,8,12,13,15,16,17]) (e:=100001000*c+27)).trans hfr3
 ·obtain rfl:c=4:=by omega
  refine Rn.no (by rw[dF];show ¬ ((4:Nat):Int)<4;omega) ?_
  refine Rn.ret ⟨⟨?_,S,mp1,vr,rem,bag1,pl1,h1⟩,hfr.mono⟩
  rw[hfr.w 0 (by simp)];exact hlock
end
end Go.Proofs.YtaegelbaghaooaaGreat
