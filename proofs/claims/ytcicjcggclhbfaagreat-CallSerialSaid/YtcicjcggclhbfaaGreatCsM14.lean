/- Part. -/
import Derived.Test.YtcicjcggclhbfaaGreatCsM9
set_option linter.all false
open Go.IntKind (i64 u64 u32 u8)
namespace Go.Proofs.YtcicjcggclhbfaaGreat
open Go Go.RowKit Lx
/-! ### lists of links -/
theorem xaB{f:Nat->Int} : ∀ {l1 l2:List Nat},linkedN f (l1++l2)->linkedN f l2
 | [],_,h=>h
 | _::l1,_,h=>xaB (l1:=l1) h.2
theorem xdw{f:Nat->Int}{p m:Nat}{l2:List Nat} : ∀ {l1:List Nat},(l1++p::m::l2).Nodup->(∀y∈l1++p::m::l2,1<=y)->linkedN f (l1++p::m::l2)->linkedN (fun q=>if q=p-1 then(hdn l2:Int)else f q) (l1++p::l2)
 | [],hn,hp,h=>by
  simp only[List.nil_append,List.nodup_cons,List.mem_cons,not_or]at hn
  refine⟨by simp,yy (fun y hy hh =>?_) h.2.2⟩
  have h1:=hp p (by simp)
  have h2:=hp y (by simp[hy])
  obtain rfl:y=p:=by omega
  exact hn.1.2 hy
 | a::l1,hn,hp,h=>by
  simp only[List.cons_append,List.nodup_cons]at hn
  have h1:=hp p (by simp)
  have h2:=hp a (by simp)
  have Nl:a≠p:=fun hh=>hn.1 (by simp[hh])
  refine⟨?_,xdw hn.2 (fun y hy=>hp y (by simp only[List.cons_append,List.mem_cons];exact .inr hy)) h.2⟩
  show(if a-1=p-1 then(hdn l2:Int)else f (a-1))=_
  rw[dA (by omega),h.1]
  cases l1<;>rfl
def lkR(x:Nat)(l1:List Nat):Nat×Nat:=match l1.getLast? with
 | none=>(13,x)
 | some p=>(17,p-1)
theorem Wd(x:Nat):lkR x []=(13,x):=rfl
theorem vO(x:Nat)(l:List Nat)(p:Nat):lkR x (l ++ [p])=(17,p-1):=by simp[lkR]
theorem wP(l:List Nat):l = []\/ ∃l0 p,l=l0 ++ [p]:=by
 cases h:l.getLast? with
 | none=>exact .inl (by simpa using h)
 | some p=>exact .inr ⟨l.dropLast,p,by
   have:=List.getLast?_eq_some_iff.1 h
   obtain⟨ys,hy⟩:=this
   rw[hy];simp⟩
/-! ### the nodes of each thread that are gone, told -/
def GonR(n t:Nat)(A:AS)(bag:Nat->List Nat)(pl:List Nat)(rt:Nat->List Nat):Prop:=
 (∀q,q<t->(rt q).length<=2*t+2/\A.w 15 q=((rt q).length:Int)/\(rt q).Nodup/\(∀k,k<(rt q).length->A.w 16 (q*(2*t+2)+k)=(((rt q).getD k 0:Nat):Int))/\ ∀m∈rt q,1<=m/\m<=nodesN n t/\m∉pl/\ ∀i,i<4*t->m∉bag i)/\
 ∀q q' m,q<t->q'<t->m∈rt q->m∈rt q'->q=q'
section
variable{n t:Nat}{A A':AS}{held:Nat->Option HK}{S:List Sg}{mp vr:Nat->Nat}{rem bag:Nat->List Nat}{pl:List Nat}
theorem HI.regon(h:HI n t A held S mp vr rem bag pl)(hw : ∀r i,r≠15->r≠16->A'.w r i=A.w r i)(hg:Gon n t A' bag pl):HI n t A' held S mp vr rem bag pl:=by
 have e : ∀r,r≠15->r≠16->A'.w r=A.w r:=fun r h1 h2=>funext fun i=>hw r i h1 h2
 exact⟨h.laid.of (fun i=>hw 7 i (by decide) (by decide)) (fun i=>hw 3 i (by decide) (by decide)),h.norm,h.nodf,by rw[hw 1 0 (by decide) (by decide)];exact h.ep,h.ver,by rw[e 8 (by decide) (by decide)];exact h.bitS,by rw[e 8 (by decide) (by decide)];exact h.bitN,by rw[e 9 (by decide) (by decide),e 10 (by decide) (by decide)];exact h.remw,h.remb,by rw[e 12 (by decide) (by decide)];exact h.cach,by rw[e 13 (by decide) (by decide),e 17 (by decide) (by decide)];exact h.bagw,h.bagn,h.bagd,by rw[e 18 (by decide) (by decide)];exact h.item,by rw[hw 4 0 (by decide) (by decide),e 17 (by decide) (by decide)];exact h.polw,h.poln,h.hblk,h.hrun,by rw[e 12 (by decide) (by decide),e 18 (by decide) (by decide)];exact h.tok,hg⟩
theorem HI.give(h:HI n t A held S mp vr rem bag pl){m v:Nat}(hm:1<=m)(br:m<=nodesN n t)(bg : ∀i,i<4*t->m∉bag i)(u0:m∉pl)(hv:v<4294967296)(dc:Gon n t A bag (m::pl)) :
  HI n t ((A.set 17 (m-1) (hdn pl:Int)).set 4 0 (Ref.word ⟨(m:Int),false,(v:Int)⟩)) held S mp vr rem bag (m::pl):=by
 have aq : ∀i,i<4*t ->∀y∈bag i,y-1≠m-1:=fun i hi y hy hh=>by
  have:=((h.bagn i hi).2 y hy).1
  obtain rfl:y=m:=by omega
  exact bg i hi hy
 refine⟨h.laid.of (fun _=>rfl) (fun _=>rfl),h.norm,h.nodf,h.ep,h.ver,h.bitS,h.bitN,h.remw,h.remb,h.cach,fun i hi =>?_,h.bagn,h.bagd,h.item,?_,?_,h.hblk,h.hrun,h.tok,dc.of (fun _=>rfl) (fun _=>rfl)⟩
 .obtain⟨h1,h2⟩:=h.bagw i hi
  refine⟨h1,?_⟩
  rw[xV _ _ _ (show 17≠4 by decide),yt]
  exact yy (aq i hi) h2
 .obtain⟨v',ft,hw,hl⟩:=h.polw
  refine⟨v,hv,by simp[hdn],?_⟩
  rw[xV _ _ _ (show 17≠4 by decide),yt]
  refine⟨by simp,yy (fun y hy hh =>?_) hl⟩
  have:=(h.poln.2 y hy).1
  obtain rfl:y=m:=by omega
  exact u0 hy
 .refine⟨List.nodup_cons.2 ⟨u0,h.poln.1⟩,fun y hy =>?_⟩
  rcases List.mem_cons.1 hy with rfl|hy
  .exact⟨hm,br,bg⟩
  .exact h.poln.2 y hy
theorem HI.unlink(h:HI n t A held S mp vr rem bag pl){m x:Nat}{l1 l2:List Nat}{z:Int}(hx:x<4*t)(hl:bag x=l1++m::l2)(hb:Yn A m) :
  HI n t ((A.set (lkR x l1).1 (lkR x l1).2 (hdn l2:Int)).set 17 (m-1) z) held S mp vr rem (updL bag x (l1++l2)) pl/\
  Gon n t ((A.set (lkR x l1).1 (lkR x l1).2 (hdn l2:Int)).set 17 (m-1) z) (updL bag x (l1++l2)) (m::pl):=by
 obtain⟨cf,Df⟩:=h.bagn x hx
 have mh:m∈bag x:=by rw[hl];simp
 have Fw:m∉l1++l2:=by
  rw[hl]at cf
  intro hh
  rw[List.nodup_append]at cf
  simp only[List.nodup_cons,List.mem_cons,List.mem_append]at cf hh
  rcases hh with hh|hh
  .exact cf.2.2 m hh m (.inl rfl) rfl
  .exact cf.2.1.1 hh
 have aw : ∀y∈l1++l2,y∈bag x:=fun y hy=>by
  rw[hl]
  rcases List.mem_append.1 hy with hy|hy
  .simp[hy]
  .simp[hy]
 have Ab : ∀i y,y∈updL bag x (l1++l2) i->y∈bag i:=fun i y hy=>by
  by_cases dj:i=x
  .subst dj
   simp only[updL,if_true]at hy;exact aw y hy
  .simp only[updL,dA dj]at hy;exact hy
 have hmu : ∀i,i<4*t->m∉updL bag x (l1++l2) i:=fun i hi hy=>by
  by_cases dj:i=x
  .subst dj
   simp only[updL,if_true]at hy;exact Fw hy
  .simp only[updL,dA dj]at hy;exact dj (h.bagd i x m hi hx hy mh)
 have l9 : ∀r i,r≠13->r≠17->((A.set (lkR x l1).1 (lkR x l1).2 (hdn l2:Int)).set 17 (m-1) z).w r i=A.w r i:=fun r i h1 h2=>by
  have:r≠(lkR x l1).1:=by
   rcases wP l1 with rfl|⟨l0,p,rfl⟩
   .exact h1
   .rw[vO];exact h2
  simp only[AS.set_w]
  rw[dA (fun hh=>h2 hh.1),dA (fun hh=>this hh.1)]
 have nu:=Df m mh
 -- a list that lacks m, and the node ahead of it
 have Fl : ∀l:List Nat,(∀y∈l,1<=y/\y∉bag x)->linkedN (A.w 17) l->linkedN (((A.set (lkR x l1).1 (lkR x l1).2 (hdn l2:Int)).set 17 (m-1) z).w 17) l:=fun l hy hk=>by
  rw[yt]
  refine yy (fun y G0 hh =>?_) ?_
  .have:=hy y G0
   obtain rfl:y=m:=by omega
   exact this.2 mh
  .rcases wP l1 with rfl|⟨l0,p,rfl⟩
   .rw[Wd,xV _ _ _ (show 17≠13 by decide)];exact hk
   .rw[vO,yt]
    refine yy (fun y G0 hh =>?_) hk
    have hp:p∈bag x:=by rw[hl];simp
    have:=hy y G0
    have:=Df p hp
    obtain rfl:y=p:=by omega
    exact(hy y G0).2 hp
 have dc:Gon n t ((A.set (lkR x l1).1 (lkR x l1).2 (hdn l2:Int)).set 17 (m-1) z) (updL bag x (l1++l2)) (m::pl):=by
  refine h.gon.sub (fun i=>l9 15 i (by decide) (by decide)) (fun i=>l9 16 i (by decide) (by decide)) fun y hy =>?_
  rcases hy with hy|⟨i,hi,hy⟩
  .rcases List.mem_cons.1 hy with rfl|hy
   .exact .inr ⟨x,hx,mh⟩
   .exact .inl hy
  .exact .inr ⟨i,hi,Ab i y hy⟩
 have e : ∀r,r≠13->r≠17->((A.set (lkR x l1).1 (lkR x l1).2 (hdn l2:Int)).set 17 (m-1) z).w r=A.w r:=fun r h1 h2=>funext fun i=>l9 r i h1 h2
 refine⟨⟨h.laid.of (fun i=>l9 7 i (by decide) (by decide)) (fun i=>l9 3 i (by decide) (by decide)),h.norm,h.nodf,by rw[e 1 (by decide) (by decide)];exact h.ep,h.ver,by rw[e 8 (by decide) (by decide)];exact h.bitS,by rw[e 8 (by decide) (by decide)];exact h.bitN,by rw[e 9 (by decide) (by decide),e 10 (by decide) (by decide)];exact h.remw,h.remb,by rw[e 12 (by decide) (by decide)];exact h.cach,fun i hi =>?_,fun i hi =>?_,fun i j y hi hj hy zz=>h.bagd i j y hi hj (Ab i y hy) (Ab j y zz),fun y k h1 h2 h3 =>?_,?_,?_,h.hblk,h.hrun,by rw[e 12 (by decide) (by decide),e 18 (by decide) (by decide)];exact h.tok,dc.sub (fun _=>rfl) (fun _=>rfl) (fun y hy =>?_)⟩,dc⟩
 .obtain⟨h1,h2⟩:=h.bagw i hi
  by_cases dj:i=x
  .subst dj
   simp only[updL,if_true]
   rw[hl]at h1 h2 cf Df
   have iq : ∀f:Nat->Int,linkedN f (l1++l2)->linkedN (fun q=>if q=m-1 then z else f q) (l1++l2):=fun f hf=>yy (fun y hy hh=>by
    have:=(Df y (by rcases List.mem_append.1 hy with hy|hy<;>simp[hy])).1
    have:=(Df m (by simp)).1
    obtain rfl:y=m:=by omega
    exact Fw hy) hf
   rw[yt (r:=17)]
   rcases wP l1 with rfl|⟨l0,p,rfl⟩
   .rw[Wd]at *
    refine⟨by simp,iq _ ?_⟩
    rw[xV _ _ _ (show 17≠13 by decide)]
    exact h2.2
   .rw[vO]at *
    refine⟨?_,iq _ ?_⟩
    .rw[xV _ _ _ (show 13≠17 by decide),xV _ _ _ (show 13≠17 by decide),h1]
     cases l0<;>rfl
    .rw[yt]
     simp only[List.append_assoc,List.singleton_append,List.cons_append,List.nil_append]at h2 cf Df |-
     exact xdw cf (fun y hy=>(Df y hy).1) h2
  .simp only[updL,dA dj]
   refine⟨?_,Fl _ (fun y hy=>⟨((h.bagn i hi).2 y hy).1,fun Oq=>dj (h.bagd i x y hi hx hy Oq)⟩) h2⟩
   rw[xV _ _ _ (show 13≠17 by decide),<- h1]
   rcases wP l1 with rfl|⟨l0,p,rfl⟩
   .rw[Wd,yt];exact dA dj
   .rw[vO,xV _ _ _ (show 13≠17 by decide)]
 .obtain⟨h1,h2⟩:=h.bagn i hi
  by_cases dj:i=x
  .subst dj
   simp only[updL,if_true]
   refine⟨?_,fun y hy=>h2 y (aw y hy)⟩
   rw[hl]at h1
   exact h1.sublist (List.Sublist.append_left (List.sublist_cons_self m l2) l1)
  .simp only[updL,dA dj];exact⟨h1,h2⟩
 .rw[e 18 (by decide) (by decide)]
  rcases h.item y k h1 h2 h3 with h0|⟨i,g,hi,hy,h4,h5⟩
  .exact .inl h0
  .by_cases Mj:y=m
   .subst Mj;exact .inl (hb k h3)
   .refine .inr ⟨i,g,hi,?_,h4,h5⟩
    by_cases dj:i=x
    .subst dj
     simp only[updL,if_true]
     rw[hl]at hy
     simp only[List.mem_append,List.mem_cons]at hy |-
     rcases hy with hy|hy|hy
     .exact .inl hy
     .exact absurd hy Mj
     .exact .inr hy
    .simp only[updL,dA dj];exact hy
 .obtain⟨v,hv,hw,hk⟩:=h.polw
  exact⟨v,hv,by rw[e 4 (by decide) (by decide)];exact hw,Fl _ (fun y hy=>⟨(h.poln.2 y hy).1,(h.poln.2 y hy).2.2 x hx⟩) hk⟩
 .exact⟨h.poln.1,fun y hy=>⟨(h.poln.2 y hy).1,(h.poln.2 y hy).2.1,fun i hi Be=>(h.poln.2 y hy).2.2 i hi (Ab i y Be)⟩⟩
 .rcases hy with hy|hy
  .exact .inl (by simp[hy])
  .exact .inr hy
end
section
variable{n t:Nat}(hf:Small n t){A:AS}{held:Nat->Option HK}{S:List Sg}{mp vr:Nat->Nat}{rem bag:Nat->List Nat}{pl:List Nat}
include hf
/-! ### runs -/
omit hf in
theorem Rn.step1{α σ:Type}{A:AS}{Q:α->AS->Prop}{N:Nat}{B:σ->(σ->T α)->T α}{i:σ}(h:Rn n t (B i (xu N B)) A Q):Rn n t (xu (N+1) B i) A Q:=h
theorem xAp{m:Nat}(hm:1<=m)(br:m<=nodesN n t):Rn n t (xjH (xd n t) (m:Int)) A fun r A'=>Fr [] 8 A A'/\(r=true->Yn A m):=by
 have step : ∀ (k:Nat),k<8 ->∀ (B:AS),Fr [] k A B->(∀j,j<k->A.w 18 ((m-1)*8+j)=0) ->∀ (X:T Bool),(∀B',Fr [] (k+1) A B'->(∀j,j<k+1->A.w 18 ((m-1)*8+j)=0)->Rn n t X B' fun r A'=>Fr [] 8 A A'/\(r=true->Yn A m))->
   Rn n t (.op (.load (atF (xd n t) 18 (inF (i64.wrap ((m:Int)-1)) (k:Int) 8))) fun x0=>bif x0 != 0 then .ret false else X) B fun r A'=>Fr [] 8 A A'/\(r=true->Yn A m):=by
  intro k hk B hB hz X hX
  have ha:=at18 hf.toFew hm br hk
  have hi:(m-1)*8+k<Zr n t 18:=by show _<nodesN n t*8;omega
  refine Rn.load ha (by omega) hi ?_
  rw[hB.w 18 (by simp)]
  refine Rn.cond (fun h0=>Rn.ret ⟨hB.trans (Fr.tick [] B),fun hh=>by cases hh⟩) (fun h0=>hX _ (hB.trans (Fr.tick [] B)) fun j hj =>?_)
  by_cases Dn:j=k
  .subst Dn;simpa using h0
  .exact hz j (by omega)
 unfold xjH xlB
 refine step 0 (by omega) A (Fr.refl _ _) (fun j hj=>by omega) _ fun B1 f1 z1 =>?_
 refine step 1 (by omega) B1 f1 z1 _ fun B2 f2 z2 =>?_
 refine step 2 (by omega) B2 f2 z2 _ fun B3 f3 z3 =>?_
 refine step 3 (by omega) B3 f3 z3 _ fun B4 f4 z4 =>?_
 refine step 4 (by omega) B4 f4 z4 _ fun B5 f5 z5 =>?_
 refine step 5 (by omega) B5 f5 z5 _ fun B6 f6 z6 =>?_
 refine step 6 (by omega) B6 f6 z6 _ fun B7 f7 z7 =>?_
 refine step 7 (by omega) B7 f7 z7 _ fun B8 f8 z8 =>?_
 exact Rn.ret ⟨f8,fun _ k hk=>z8 k hk⟩
theorem xui{A:AS}{k j:Nat}:(YS (xd n t) (k:Int) (j:Int)).run (xo n t) A=some (false,A):=by
 have:=hf.n1
 unfold YS xan xgi xex
 rw[show((xd n t).pages==0)=false by show(((n:Nat):Int)==0)=false;simp;omega]
 have e1:((-1:Int)==(k:Int))=false:=dO.2 (by omega)
 have e2:((-1:Int)==(j:Int))=false:=dO.2 (by omega)
 simp only[cond_false]
 unfold xag xaf
 simp only[e1,e2,cond_false,T.bind,T.run];rfl
theorem xwN:qt (xd n t)=((2*t+2:Nat):Int):=by
 have:=hf.t2
 unfold qt
 show i64.wrap (i64.wrap (2*((t:Nat):Int))+2)=_
 have e:i64.wrap (2*(t:Int))=2*(t:Int):=w64 (by omega) (by omega)
 rw[e,w64 (by omega) (by omega)];omega
theorem xwO{th k:Nat}(ht:th<t)(hk:k<2*t+2):th*(2*t+2)+k<Zr n t 16:=by
 show _<t*(2*t+2)
 have:(th+1)*(2*t+2)<=t*(2*t+2):=Nat.mul_le_mul_right _ ht
 rw[Nat.add_mul]at this;omega
theorem at16{th k:Nat}(ht:th<t)(hk:k<2*t+2):atF (xd n t) 16 (inF (th:Int) (k:Int) (qt (xd n t)))=((Br n t 16+(th*(2*t+2)+k):Nat):Int):=by
 have:=hf.t2
 rw[xwN hf,xic (by omega) hk (by omega)]
 exact wx hf.toFew (by omega) (xwO hf ht hk)
theorem xAq{th k:Nat}(hk:2*t+2<=k):atF (xd n t) 16 (inF (th:Int) (k:Int) (qt (xd n t))) = -1:=by
 rw[xwN hf,in_bad (by omega)]
 exact at_bad hf.toFew (by omega) (by omega)
theorem xAr{m v:Nat}(hm:1<=m)(br:m<=nodesN n t){pl:List Nat}(hv:v<4294967296)(hw:A.w 4 0=Ref.word ⟨hdn pl,false,v⟩)(bw : ∀y∈pl,1<=y/\y<=nodesN n t) :
  (xjV (xd n t) (m:Int)).run (xo n t) A=some ((),(((A.tick.set 17 (m-1) (hdn pl:Int)).tick).set 4 0 (Ref.word ⟨(m:Int),false,(((v+1)%4294967296:Nat):Int)⟩)).tick):=by
 have hN:=hf.nodes
 have Lc:=Xk (N:=nodesN n t) (l:=pl) bw
 have hr:=xib (hdn pl) v (by omega) hv
 rw[<- hw]at hr
 have dk:ofW i64 (A.w 4 0) 0 24=(hdn pl:Int):=congrArg Ref.idx hr
 have C6:ofW u32 (A.w 4 0) 32 32=(v:Int):=congrArg Ref.ver hr
 have e1:Ref.word ⟨(hdn pl:Int),false,0⟩=(hdn pl:Int):=by
  have:=jV (hdn pl) 0 (by omega) (by omega)
  simpa using this
 have e2:u32.wrap ((v:Int)+1)=(((v+1)%4294967296:Nat):Int):=by rw[IntKind.wrap_u32];omega
 have bq:=at17 hf.toFew hm br
 have a4:=at4 hf.toFew
 unfold xjV xmM
 rw[bq,T.run_bind,Xl hf]
 simp only[cond_false]
 unfold jz
 rw[show xa=4095+1 from rfl,xu]
 unfold xgG
 rw[bq,a4]
 have d4:=xK (n:=n) (t:=t) (r:=4) (i:=0) (by simp[Zr]) 19 (by omega)
 have Ra:=xK (n:=n) (t:=t) (r:=17) (i:=m-1) (by show _<nodesN n t;omega) 19 (by omega)
 simp only[T.run,xo,d4,Ra,dk,C6,e1,e2]
 have e3:((A.tick.set 17 (m-1) (hdn pl:Int)).tick).w 4 0=A.w 4 0:=by simp
 rw[dB e3]
 simp only[cond_true,T.run]
theorem xAs{β:Type}{Q:β->AS->Prop}{th N:Nat}{x y:Int}{l:IntsL}{κ:Nat->IntsL->T β}(ht:th<t)(hl:l.length=N)(hN:N+2<=1000)
  (hκ : ∀l' A',l'.length=N+2->Fr [] 2 A A'->Rn n t (κ (N+2) l') A' Q):Rn n t (wi (th:Int) x y (xd n t) N 0 l κ) A Q:=by
 have hi : ∀s,s<2->th*2+s<Zr n t 14:=fun s hs=>by show _<t*2;omega
 have nb : ∀ (l:IntsL) (N:Nat),l.length=N->N<=1000->(Nat.beq l.length N&&Nat.ble N 1000)=true:=fun l N h1 h2=>by
  rw[dK];rw[Nat.beq_eq,Nat.ble_eq];exact⟨h1,h2⟩
 have a0:=at14 hf.toFew (s:=0) ht (by omega)
 have a1:=at14 hf.toFew (s:=1) ht (by omega)
 unfold wi
 refine Rn.step1 (N:=4095) ?_
 unfold xcy
 refine Rn.yes rfl (Rn.load a0 (by omega) (hi 0 (by omega)) (Rn.yes (nb _ _ hl (by omega)) ?_))
 refine Rn.step1 (N:=4094) ?_
 refine Rn.yes rfl (Rn.load a1 (by omega) (hi 1 (by omega)) (Rn.yes (nb _ _ (by simp[hl]) (by omega)) ?_))
 refine Rn.step1 (N:=4093) ?_
 refine Rn.no rfl (hκ _ _ (by simp[hl]) ((Fr.tick [] A).trans (Fr.tick [] _)))
theorem run_haz{β:Type}{Q:β->AS->Prop}{κ:Nat->IntsL->T β}(hκ : ∀N l A',l.length=N->N<=1000->Fr [] 200 A A'->Rn n t (κ N l) A' Q):Rn n t (wj (xd n t).threads (xd n t) 0 0 [] κ) A Q:=by
 have zj:=hf.t2
 unfold wj
 refine Rn.loop (fun r i A1 =>∃th:Nat,th<=t/\r=t-th/\i.1=2*th/\i.2.1=(th:Int)/\i.2.2.length=2*th/\Fr [] (2*th) A A1) ?_ xa t _ A (by unfold xa;omega) ⟨0,by omega,rfl,rfl,rfl,rfl,Fr.refl _ _⟩
 rintro r ⟨i1,i2,i3⟩ A1 κ' ⟨th,C9,rfl,h1,h2,h3,ao⟩ ap
 simp only at h1 h2 h3
 subst h1 h2
 unfold xcz
 by_cases an:th<t
 .refine Rn.yes (by rw[dT];show((th:Nat):Int)<((t:Nat):Int);omega) ?_
  refine xAs hf an h3 (by omega) fun l' A2 fp ae =>?_
  rw[show((2*th+2,i64.wrap ((th:Int)+1),l'):Nat×Int×IntsL)=(2*(th+1),((th+1:Nat):Int),l')by rw[xL hf.toFew (x:=th) (by omega)];rfl]
  exact ap (t-(th+1)) _ _ (by omega) ⟨th+1,by omega,rfl,rfl,rfl,by rw[fp];omega,ao.trans ae⟩
 .refine Rn.no (by rw[dF];show ¬ ((th:Nat):Int)<((t:Nat):Int);omega) ?_
  exact hκ _ _ _ h3 (by omega) (ao.mono)
theorem xAt{N:Nat}{l:IntsL}{x:Int}(hl:l.length=N)(hN:N<=1000):Rn n t (xcx N l x) A fun r A'=>A'=A:=by
 unfold xcx xeO
 refine Rn.bind (Q1:=fun _ A'=>A'=A) ?_ fun r A' h=>by subst h;exact Rn.ret rfl
 unfold xaE xaD vX
 refine Rn.loop (fun r i A1 =>∃k:Nat,k<=N/\r=N-k/\i=(k:Int)/\A1=A) ?_ xa N _ A (by unfold xa;omega) ⟨0,by omega,rfl,rfl,rfl⟩
 rintro r i A1 κ ⟨k,hk,rfl,rfl,rfl⟩ ap
 unfold VV
 by_cases an:k<N
 .refine Rn.yes (by rw[dT];omega) (Rn.yes (by rw[dT];omega) (Rn.yes ?_ ?_))
  .rw[hl]
   first
    | (simp[inR];omega)
    | simp[inR,an]
  .refine Rn.cond (fun _=>Rn.ret rfl) fun _ =>?_
   rw[xL hf.toFew (x:=k) (by omega)]
   exact ap (N-(k+1)) _ _ (by omega) ⟨k+1,by omega,rfl,rfl,rfl⟩
 .exact Rn.no (by rw[dF];omega) (Rn.ret rfl)
end
end Go.Proofs.YtcicjcggclhbfaaGreat
namespace Go.Proofs.YtcicjcggclhbfaaGreat
open Go Go.RowKit Lx
theorem GonR.put{n t:Nat}{A A':AS}{bag:Nat->List Nat}{pl da:List Nat}{rt:Nat->List Nat}(h:GonR n t A bag pl rt){me:Nat}{K:List Nat}(hK:K.length<=2*t+2)(s9 : ∀q,q≠me->A'.w 15 q=A.w 15 q)(h0:A'.w 15 me=(K.length:Int))
  (zd : ∀q j,q<t->q≠me->j<2*t+2->A'.w 16 (q*(2*t+2)+j)=A.w 16 (q*(2*t+2)+j)) (hK16 : ∀j,j<K.length->A'.w 16 (me*(2*t+2)+j)=((K.getD j 0:Nat):Int)) (cf:K.Nodup)
  (hm : ∀m∈K,1<=m/\m<=nodesN n t/\m∉da/\(∀i,i<4*t->m∉bag i)/\ ∀q,q<t->q≠me->m∉rt q) (bw : ∀q m,q<t->q≠me->m∈rt q->m∉da):Gon n t A' bag da:=by
 obtain⟨h1,h2⟩:=h
 refine⟨updL rt me K,fun q hq =>?_,fun q q' m hq G6 tk sk =>?_⟩
 .by_cases eb:q=me
  .subst eb
   simp only[updL,if_true]
   exact⟨hK,h0,cf,hK16,fun m hmK=>⟨(hm m hmK).1,(hm m hmK).2.1,(hm m hmK).2.2.1,(hm m hmK).2.2.2.1⟩⟩
  .simp only[updL,dA eb]
   obtain⟨a,b,c,d,e⟩:=h1 q hq
   exact⟨a,by rw[s9 q eb,b],c,fun k hk=>by rw[zd q k hq eb (by omega),d k hk],fun m tk=>⟨(e m tk).1,(e m tk).2.1,bw q m hq eb tk,(e m tk).2.2.2⟩⟩
 .by_cases eb:q=me
  .by_cases ux:q'=me
   .omega
   .simp only[updL,dB eb]at tk
    simp only[updL,dA ux]at sk
    exact absurd sk ((hm m tk).2.2.2.2 q' G6 ux)
  .simp only[updL,dA eb]at tk
   by_cases ux:q'=me
   .simp only[updL,dB ux]at sk
    exact absurd tk ((hm m sk).2.2.2.2 q hq eb)
   .simp only[updL,dA ux]at sk
    exact h2 q q' m hq G6 tk sk
theorem xuj{t q me i j:Nat}(aq:q≠me)(hi:i<2*t+2)(hj:j<2*t+2):q*(2*t+2)+i≠me*(2*t+2)+j:=by
 intro hh
 rcases Nat.lt_or_gt_of_ne aq with h|h
 .have:=Nat.mul_le_mul_right (2*t+2) (show q+1<=me from h)
  rw[Nat.add_mul]at this;omega
 .have:=Nat.mul_le_mul_right (2*t+2) (show me+1<=q from h)
  rw[Nat.add_mul]at this;omega
theorem xAu{n t:Nat}{A:AS}{held:Nat->Option HK}{S:List Sg}{mp vr:Nat->Nat}{rem bag:Nat->List Nat}{pl:List Nat}(h:HI n t A held S mp vr rem bag pl){x:Nat}(hx:x<4*t){l1 l2:List Nat}(hl:bag x=l1++l2):A.w (lkR x l1).1 (lkR x l1).2=(hdn l2:Int):=by
 obtain⟨h1,h2⟩:=h.bagw x hx
 rw[hl]at h1 h2
 rcases wP l1 with rfl|⟨l0,p,rfl⟩
 .exact h1
 .rw[vO]
  rw[List.append_assoc]at h2
  exact(xaB (l1:=l0) h2).1
theorem wU(x:Nat)(h:x<18446744073709551616):u64.wrap (x:Int)=(x:Int):=by rw[dJ];omega
section
variable{n t:Nat}(hf:Small n t){A:AS}{held:Nat->Option HK}{S:List Sg}{mp vr:Nat->Nat}{rem bag:Nat->List Nat}{pl:List Nat}
include hf
theorem xAv{me:Nat}(ah:me<t)(aa:A.self=(me:Int))(h:HI n t A held S mp vr rem bag pl):Rn n t (xcB (xd n t)) A fun _ A' =>∃da,HI n t A' held S mp vr rem bag da/\Fr [4,15,16,17] 10000 A A':=by
 have zj:=hf.t2
 have hN:=hf.nodes
 obtain⟨rt,De⟩:=h.gon
 have uu:GonR n t A bag pl rt:=De
 obtain⟨uw,dv⟩:=De
 obtain⟨b1,b2,b3,b4,b5⟩:=uw me ah
 generalize hR:rt me=R at b1 b2 b3 b4 b5
 have bj:=at15 hf.toFew ah
 unfold xcB xeP
 refine Rn.self ?_
 rw[aa,bj]
 refine Rn.run (Xl hf) (Rn.no rfl ?_)
 refine run_haz hf fun N l A1 hl hN1 ag =>?_
 refine Rn.self ?_
 rw[ag.self,aa,bj]
 refine Rn.load rfl (by omega) (show me<t from ah) ?_
 rw[ag.w 15 (by simp),b2,w64 (by omega) (by omega)]
 unfold wQ
 refine Rn.loop (fun r i A2 =>∃ (k:Nat) (K:List Nat) (lp:List Nat),k<=R.length/\r=R.length-k/\i.1=(K.length:Int)/\i.2=(k:Int)/\K.length<=k/\(K++R.drop k).Nodup/\(∀m∈K++R.drop k,m∈R/\m∉lp)/\
  (∀j,j<K.length->A2.w 16 (me*(2*t+2)+j)=((K.getD j 0:Nat):Int))/\(∀j,k<=j->j<R.length->A2.w 16 (me*(2*t+2)+j)=((R.getD j 0:Nat):Int))/\(∀q j,q<t->q≠me->j<2*t+2->A2.w 16 (q*(2*t+2)+j)=A.w 16 (q*(2*t+2)+j))/\
  (∀q m,q<t->q≠me->m∈rt q->m∉lp)/\HI n t (A2.set 15 me 0) held S mp vr rem bag lp/\Fr [4,16,17] (201+10*k) A A2) ?_ xa R.length _ A1.tick (by unfold xa;omega) ?_
 .rintro r ⟨i1,i2⟩ A2 κ ⟨k,K,lp,hk,rfl,co,dy,hKk,cf,bi,hK16,hR16,uz,am,h2,ao⟩ ap
  simp only at co dy
  subst co dy
  have et:A2.self=(me:Int):=by rw[ao.self,aa]
  have Gw : ∀ (B:AS) (da:List Nat),(∀q,q≠me->B.w 15 q=A.w 15 q)->B.w 15 me=0->(∀q j,q<t->q≠me->j<2*t+2->B.w 16 (q*(2*t+2)+j)=A.w 16 (q*(2*t+2)+j))->(∀q m,q<t->q≠me->m∈rt q->m∉da)->Gon n t B bag da:=fun B da g1 g2 g3 g4=>
   uu.put (K :=[]) (by simp) g1 (by simpa using g2) g3 (fun j hj=>by simp at hj) (by simp) (fun m hm=>by simp at hm) g4
  unfold xcA
  by_cases an:k<R.length
  .refine Rn.yes (by rw[dT];show((k:Nat):Int)<((R.length:Nat):Int);omega) ?_
   have ef:k<2*t+2:=by omega
   have ak:=at16 hf ah ef
   have ld:R.drop k=R[k]::R.drop (k+1):=List.drop_eq_getElem_cons an
   have hx:R.getD k 0=R[k]:=by simp[List.getD,an]
   generalize R[k]=x at ld hx
   have hxR:x∈R/\x∉lp:=bi x (by rw[ld];simp)
   obtain⟨x1,x2,x3,x4⟩:=b5 x hxR.1
   refine Rn.self ?_
   simp only[et]
   refine Rn.no (by rw[ak];exact dO.2 (by omega)) ?_
   refine Rn.self ?_
   rw[et]
   refine Rn.load ak (by omega) (xwO hf ah ef) ?_
   have ex:A2.w 16 (me*(2*t+2)+k)=(x:Int):=by rw[hR16 k (dI _) an,hx]
   rw[ex,w64 (x:=(x:Int)) (by omega) (by omega)]
   refine Rn.bind (xAt hf hl hN1) ?_
   rintro b A3 rfl
   refine Rn.cond (fun _ =>?_) (fun _ =>?_)
   .refine Rn.self ?_
    rw[AS.tick_self,et]
    have hKt:K.length<2*t+2:=by omega
    refine Rn.store (at16 hf ah hKt) (by omega) (xwO hf ah hKt) ?_
    rw[wU x (by omega),xL hf.toFew (x:=K.length) (by omega),xL hf.toFew (x:=k) (by omega)]
    have hw : ∀i,((A2.tick.set 16 (me*(2*t+2)+K.length) (x:Int)).tick).w 16 i=if i=me*(2*t+2)+K.length then(x:Int)else A2.w 16 i:=fun i=>by simp
    refine ap (R.length-(k+1)) _ _ (by omega) ⟨k+1,K ++ [x],lp,by omega,rfl,by simp,rfl,by simp;omega,?_,?_,fun j hj =>?_,fun j Ak oq =>?_,fun q j hq eb hj =>?_,am,?_,?_⟩
    .rw[List.append_assoc,List.singleton_append,<- ld];exact cf
    .rw[List.append_assoc,List.singleton_append,<- ld];exact bi
    .rw[hw]
     by_cases hjK:j=K.length
     .subst hjK;simp
     .rw[dA (by omega),hK16 j (by simp at hj;omega)]
      have oq:j<K.length:=by simp at hj;omega
      simp[List.getD,List.getElem?_append_left oq]
    .rw[hw,dA (by omega)];exact hR16 j (by omega) oq
    .rw[hw,dA (xuj eb hj hKt)];exact uz q j hq eb hj
    .refine h2.regon (fun r i s9 zd=>by simp[s9,zd]) (Gw _ lp (fun q hq =>?_) (by simp) (fun q j hq eb hj =>?_) am)
     .simp only[AS.set_w,AS.tick_w,hq,and_false,if_false,show ¬ (15=16)by decide,false_and]
      exact ao.w 15 (by simp) q
     .simp only[AS.set_w,AS.tick_w,show ¬ (16=15)by decide,false_and,if_false,true_and]
      rw[dA (xuj eb hj hKt)];exact uz q j hq eb hj
    .exact(ao.trans (Fr.tick [] A2) (S :=[4,16,17]) (e:=201+10*k+1)).trans (Fr.sett (R :=[16]) _ _ (by simp))
   .obtain⟨v,hv,uj,nv⟩:=h2.polw
    refine Rn.run (xAr hf (A:=A2.tick) (pl:=lp) x1 x2 hv uj (fun y hy=>⟨(h2.poln.2 y hy).1,(h2.poln.2 y hy).2.1⟩)) ?_
    rw[xL hf.toFew (x:=k) (by omega)]
    have u6:(x::(K++R.drop (k+1))).Nodup:=by
     rw[ld]at cf
     exact(List.perm_middle.nodup_iff).1 cf
    have Ml:=(List.nodup_cons.1 u6).1
    have Fi : ∀q m,q<t->q≠me->m∈rt q->m∉x::lp:=fun q m hq eb hm tm=>by
     rcases List.mem_cons.1 tm with rfl|tm
     .exact eb (dv q me m hq ah hm (by rw[hR];exact hxR.1))
     .exact am q m hq eb hm tm
    have Ji : ∀q,q≠me->(A2.set 15 me 0).w 15 q=A.w 15 q:=fun q hq=>by
     simp only[AS.set_w,hq,and_false,if_false];exact ao.w 15 (by simp) q
    have Jh : ∀q j,q<t->q≠me->j<2*t+2->(A2.set 15 me 0).w 16 (q*(2*t+2)+j)=A.w 16 (q*(2*t+2)+j):=fun q j hq eb hj=>by
     simp only[AS.set_w,show ¬ (16=15)by decide,false_and,if_false];exact uz q j hq eb hj
    have h3:=h2.give (v:=(v+1)%4294967296) x1 x2 x4 hxR.2 (Nat.mod_lt _ (by omega)) (Gw _ _ Ji (by simp) Jh Fi)
    refine ap (R.length-(k+1)) _ _ (by omega) ⟨k+1,K,x::lp,by omega,rfl,rfl,rfl,by omega,(List.nodup_cons.1 u6).2,fun m hm=>⟨(bi m ?_).1,fun tm =>?_⟩,fun j hj =>?_,fun j Ak oq =>?_,fun q j hq eb hj =>?_,Fi,?_,?_⟩
    .rw[ld];rcases List.mem_append.1 hm with hm|hm<;>simp[hm]
    .rcases List.mem_cons.1 tm with rfl|tm
     .exact Ml hm
     .exact(bi m (by rw[ld];rcases List.mem_append.1 hm with hm|hm<;>simp[hm])).2 tm
    .simpa using hK16 j hj
    .simpa using hR16 j (by omega) oq
    .simpa using uz q j hq eb hj
    .refine h3.same fun r i hri =>?_
     simp only[AS.set_w,AS.tick_w]
     by_cases Fc:r=15
     .subst Fc;simp
     .simp[Fc]
    .exact(((ao.trans (Fr.tick [] A2) (S :=[4,16,17]) (e:=201+10*k+1)).trans (Fr.tick [] _) (S :=[4,16,17]) (e:=201+10*k+2)).trans (Fr.sett (R :=[17]) _ _ (by simp)) (S :=[4,16,17]) (e:=201+10*k+3)).trans (Fr.sett (R :=[4]) _ _ (by simp))
  .obtain rfl:k=R.length:=by omega
   refine Rn.no (by rw[dF];show ¬ ((R.length:Nat):Int)<((R.length:Nat):Int);omega) ?_
   refine Rn.self ?_
   rw[et,bj]
   refine Rn.store rfl (by omega) (show me<t from ah) (Rn.ret ⟨lp,?_,?_⟩)
   .simp only
    rw[wU _ (by omega)]
    rw[List.drop_length,List.append_nil]at cf bi
    refine h2.regon (fun r i s9 zd=>by simp[s9]) (uu.put (me:=me) (K:=K) (by omega) (fun q hq =>?_) (by simp) (fun q j hq eb hj =>?_) (fun j hj =>?_) cf (fun m hm =>?_) am)
    .simp only[AS.set_w,AS.tick_w,hq,and_false,if_false];exact ao.w 15 (by simp) q
    .simp only[AS.set_w,AS.tick_w,show ¬ (16=15)by decide,false_and,if_false];exact uz q j hq eb hj
    .simp only[AS.set_w,AS.tick_w,show ¬ (16=15)by decide,false_and,if_false];exact hK16 j hj
    .obtain⟨g1,g2⟩:=bi m hm
     obtain⟨x1,x2,x3,x4⟩:=b5 m g1
     exact⟨x1,x2,g2,x4,fun q hq eb tk=>eb (dv q me m hq ah tk (by rw[hR];exact g1))⟩
   .exact ao.trans (Fr.sett (R :=[15]) _ _ (by simp))
 .refine⟨0,[],pl,by omega,rfl,rfl,rfl,by simp,by simpa using b3,fun m hm=>⟨by simpa using hm,(b5 m (by simpa using hm)).2.2.1⟩,fun j hj=>by simp at hj,fun j _ hj =>?_,fun q j hq eb hj =>?_,fun q m hq eb hm=>((uw q hq).2.2.2.2 m hm).2.2.1,?_,(ag.trans (Fr.tick [] A1) (S :=[]) (e:=201)).mono⟩
  .rw[AS.tick_w,ag.w 16 (by simp)];exact b4 j hj
  .rw[AS.tick_w,ag.w 16 (by simp)]
  .refine h.regon (fun r i s9 zd =>?_) (uu.put (me:=me) (K :=[]) (by simp) (fun q hq =>?_) (by simp) (fun q j hq eb hj =>?_) (fun j hj=>by simp at hj) (by simp) (fun m hm=>by simp at hm) (fun q m hq eb hm=>((uw q hq).2.2.2.2 m hm).2.2.1))
   .simp only[AS.set_w,s9,false_and,if_false,AS.tick_w];exact ag.w r (by simp) i
   .simp only[AS.set_w,hq,and_false,if_false,AS.tick_w];exact ag.w 15 (by simp) q
   .simp only[AS.set_w,show ¬ (16=15)by decide,false_and,if_false,AS.tick_w];exact ag.w 16 (by simp) _
theorem xuk{me m:Nat}(ah:me<t)(aa:A.self=(me:Int))(h:HI n t A held S mp vr rem bag pl)(hm:1<=m)(br:m<=nodesN n t)(bg : ∀i,i<4*t->m∉bag i)(u0:m∉pl)(dc:Gon n t A bag (m::pl)) :
  Rn n t (qT (xd n t) (m:Int)) A fun _ A' =>∃da,HI n t A' held S mp vr rem bag da/\Fr [4,15,16,17] 11000 A A':=by
 have zj:=hf.t2
 have hN:=hf.nodes
 obtain⟨rt,De⟩:=dc
 have uu:GonR n t A bag (m::pl) rt:=De
 obtain⟨uw,dv⟩:=De
 obtain⟨b1,b2,b3,b4,b5⟩:=uw me ah
 have bj:=at15 hf.toFew ah
 unfold qT Wh
 refine Rn.self ?_
 rw[aa,bj,at17 hf.toFew hm br]
 refine Rn.run (xui hf) (Rn.no rfl ?_)
 refine Rn.self ?_
 rw[aa,bj]
 refine Rn.load rfl (by omega) (show me<t from ah) ?_
 rw[b2,w64 (x:=((rt me).length:Int)) (by omega) (by omega)]
 refine Rn.self ?_
 rw[AS.tick_self,aa]
 by_cases hl:(rt me).length<2*t+2
 .have ak:=at16 hf ah hl
  refine Rn.no (by rw[ak];exact dO.2 (by omega)) ?_
  refine Rn.self ?_
  rw[AS.tick_self,aa]
  refine Rn.store ak (by omega) (xwO hf ah hl) ?_
  refine Rn.self ?_
  simp only[AS.tick_self,AS.set_self]
  rw[aa,bj]
  refine Rn.store rfl (by omega) (show me<t from ah) ?_
  rw[wU m (by omega),xL hf.toFew (x:=(rt me).length) (by omega),wU _ (by omega)]
  have h1:HI n t ((((A.tick.set 16 (me*(2*t+2)+(rt me).length) (m:Int)).tick).set 15 me (((rt me).length+1:Nat):Int)).tick) held S mp vr rem bag pl:=by
   refine h.regon (fun r i s9 zd=>by simp[s9,zd]) (uu.put (me:=me) (K:=rt me ++ [m]) (by simp;omega) (fun q hq=>by simp[hq]) (by simp) (fun q j hq eb hj =>?_) (fun j hj =>?_) ?_ (fun y hy =>?_) (fun q y hq eb hy zz=>((uw q hq).2.2.2.2 y hy).2.2.1 (by simp[zz])))
   .simp only[AS.set_w,AS.tick_w,show ¬ (16=15)by decide,false_and,if_false,true_and]
    rw[dA (xuj eb hj hl)]
   .simp only[AS.set_w,AS.tick_w,show ¬ (16=15)by decide,false_and,if_false,true_and]
    by_cases sn:j=(rt me).length
    .subst sn;simp
    .have oq:j<(rt me).length:=by simp at hj;omega
     rw[dA (by omega),b4 j oq]
     simp[List.getD,List.getElem?_append_left oq]
   .rw[List.nodup_append]
    refine⟨b3,by simp,fun y hy z hz =>?_⟩
    simp only[List.mem_singleton]at hz
    subst hz
    exact fun hh=>(b5 y hy).2.2.1 (by simp[hh])
   .rcases List.mem_append.1 hy with hy|hy
    .obtain⟨x1,x2,x3,x4⟩:=b5 y hy
     exact⟨x1,x2,fun hp=>x3 (by simp[hp]),x4,fun q hq eb I6=>eb (dv q me y hq ah I6 hy)⟩
    .simp only[List.mem_singleton]at hy
     subst hy
     exact⟨hm,br,u0,bg,fun q hq eb I6=>((uw q hq).2.2.2.2 y I6).2.2.1 (by simp)⟩
  have f1:Fr [15,16] 4 A ((((A.tick.set 16 (me*(2*t+2)+(rt me).length) (m:Int)).tick).set 15 me (((rt me).length+1:Nat):Int)).tick):=
   ((Fr.tick [] A).trans (Fr.sett (R :=[16]) _ _ (by simp)) (S :=[15,16]) (e:=2)).trans (Fr.sett (R :=[15]) _ _ (by simp))
  refine Rn.cond (fun _ =>?_) (fun _=>Rn.ret ⟨pl,h1,f1.mono⟩)
  refine Rn.bind (xAv hf ah (by simpa using aa) h1) ?_
  rintro _ A2 ⟨da,k1,k2⟩
  exact Rn.ret ⟨da,k1,f1.trans k2⟩
 .refine Rn.yes (by rw[xAq hf (by omega)];rfl) (Rn.ret ⟨pl,h.same fun r i _=>rfl,(Fr.tick [] A).mono⟩)
theorem xyf{me c:Nat}(ah:me<t)(hc:c<4)(aa:A.self=(me:Int))(h:HI n t A held S mp vr rem bag pl):Rn n t (XO (xd n t) (c:Int)) A fun _ A' =>∃dp da,HI n t A' held S mp vr rem dp da/\Fr [4,13,15,16,17] 100000000 A A':=by
 have hx:me*4+c<4*t:=by omega
 have hN:=hf.nodes
 have af:=Zj _ _ (h.bagn _ hx).1 (h.bagn _ hx).2
 have dk : ∀ {B:AS} {gr lp} {l1 l2:List Nat},HI n t B held S mp vr rem gr lp->gr (me*4+c)=l1++l2->ofW i64 (hdn l2:Int) 0 24=(hdn l2:Int)/\Ref.word ⟨(hdn l2:Int),false,0⟩=(hdn l2:Int):=fun hB hl=>by
  have hr:=(hB.bagn _ hx).2
  rw[hl]at hr
  rename_i B gr lp l1 l2
  have hh:=Xk (N:=nodesN n t) (l:=l2) fun m hm=>hr m (by simp[hm])
  refine⟨congrArg Ref.idx (jh (x:=hdn l2) (by omega)),?_⟩
  have:=jV (hdn l2) 0 (by omega) (by omega)
  simpa using this
 unfold XO xeR
 refine Rn.run (xc7 hf ah hc aa) (Rn.no rfl ?_)
 refine Rn.self ?_
 rw[aa,at13 hf.toFew ah hc]
 refine Rn.load rfl (by omega) (by show _<t*4;omega) ?_
 rw[(h.bagw _ hx).1,(dk h (l1 :=[]) (List.nil_append _).symm).1]
 unfold wR
 refine Rn.loop (fun r i A2 =>∃ (l1 l2:List Nat) (gr:Nat->List Nat) (lp:List Nat) (d:Nat),gr (me*4+c)=l1++l2/\r=l2.length/\d+l2.length=(bag (me*4+c)).length/\i.1=((Br n t (lkR (me*4+c) l1).1+(lkR (me*4+c) l1).2:Nat):Int)/\i.2=(hdn l2:Int)/\HI n t A2 held S mp vr rem gr lp/\Fr [4,13,15,16,17] (1+12000*d) A A2) ?_ xa _ _ A.tick (by unfold xa;omega)
  ⟨[],bag (me*4+c),bag,pl,0,rfl,rfl,by omega,rfl,rfl,h.same fun r i _=>rfl,(Fr.tick [] A).mono⟩
 rintro r ⟨i1,i2⟩ A2 κ ⟨l1,l2,gr,lp,d,hl,rfl,hd,co,dy,h2,ao⟩ ap
 simp only at co dy
 subst co dy
 have et:A2.self=(me:Int):=by rw[ao.self,aa]
 unfold xcE
 cases l2 with
 | nil=>exact Rn.no (by simp[hdn]) (Rn.ret ⟨gr,lp,h2,ao.mono⟩)
 | cons m l2=>
  have bi:m∈gr (me*4+c):=by rw[hl];simp
  obtain⟨nu,br⟩:=(h2.bagn _ hx).2 m bi
  have bq:=at17 hf.toFew nu br
  have Hk:m-1<Zr n t 17:=by show _<nodesN n t;omega
  have mt:gr (me*4+c)=(l1 ++ [m])++l2:=by rw[hl];simp
  simp only[List.length_cons]at hd
  refine Rn.yes (by simp[hdn];omega) ?_
  rw[show hdn (m::l2)=m from rfl]
  refine Rn.bind (xAp hf nu br) ?_
  rintro b A3 ⟨ar,ig⟩
  have h3:HI n t A3 held S mp vr rem gr lp:=h2.fr ar (by simp)
  have zl:A3.self=(me:Int):=by rw[ar.self,et]
  have hv:=xAu h3 hx mt
  rw[vO]at hv
  cases b with
  | false=>
   refine Rn.yes rfl ?_
   refine Rn.load bq (by omega) Hk ?_
   rw[hv,(dk h3 mt).1,bq]
   refine ap l2.length _ _ (by simp) ⟨l1 ++ [m],l2,gr,lp,d+1,mt,rfl,by omega,by rw[vO],rfl,h3.same fun r i _=>rfl,?_⟩
   exact(ao.trans ar (S :=[4,13,15,16,17]) (e:=1+12000*d+8)).trans (Fr.tick [] _)
  | true=>
   refine Rn.no rfl ?_
   refine Rn.load bq (by omega) Hk ?_
   rw[hv,(dk h3 mt).1]
   have nv:(lkR (me*4+c) l1).1<19/\(lkR (me*4+c) l1).2<Zr n t (lkR (me*4+c) l1).1/\(lkR (me*4+c) l1).1 ∈ [13,17]:=by
    rcases wP l1 with rfl|⟨l0,p,rfl⟩
    .exact⟨by rw[Wd];omega,by rw[Wd];show _<t*4;omega,by rw[Wd];simp⟩
    .have:=(h3.bagn _ hx).2 p (by rw[hl];simp)
     exact⟨by rw[vO];omega,by rw[vO];show _<nodesN n t;omega,by rw[vO];simp⟩
   refine Rn.store rfl nv.1 nv.2.1 ?_
   rw[(dk h3 mt).2]
   refine Rn.store bq (by omega) Hk ?_
   obtain⟨h4,Ga⟩:=h3.unlink (l1:=l1) (l2:=l2) (z:=Ref.word ⟨(hdn l2:Int),true,0⟩) hx hl (fun k hk=>by rw[ar.w 18 (by simp)];exact ig rfl k hk)
   have bg : ∀i,i<4*t->m∉updL gr (me*4+c) (l1++l2) i:=fun i hi hy=>by
    have cf:=(h3.bagn _ hx).1
    by_cases dj:i=me*4+c
    .subst dj
     simp only[updL,if_true]at hy
     rw[hl]at cf
     exact(List.nodup_cons.1 ((List.perm_middle.nodup_iff).1 cf)).1 hy
    .simp only[updL,dA dj]at hy;exact dj (h3.bagd i _ m hi hx hy bi)
   have u0:m∉lp:=fun hp=>(h3.poln.2 m hp).2.2 _ hx bi
   generalize hA4:(A3.set (lkR (me*4+c) l1).1 (lkR (me*4+c) l1).2 (hdn l2:Int)).set 17 (m-1) (Ref.word ⟨(hdn l2:Int),true,0⟩)=A4 at h4 Ga
   have uj : ∀r i,((((A3.tick.set (lkR (me*4+c) l1).1 (lkR (me*4+c) l1).2 (hdn l2:Int)).tick).set 17 (m-1) (Ref.word ⟨(hdn l2:Int),true,0⟩)).tick).w r i=A4.w r i:=fun r i=>by rw[<- hA4];rfl
   refine Rn.bind (xuk hf (m:=m) ah (by simpa using zl) (h4.same fun r i _=>uj r i) nu br bg u0 (Ga.of (fun i=>uj 15 i) (fun i=>uj 16 i))) ?_
   rintro _ A5 ⟨Oc,h5,cn⟩
   have w6:updL gr (me*4+c) (l1++l2) (me*4+c)=l1++l2:=by simp[updL]
   refine Rn.load rfl nv.1 nv.2.1 ?_
   rw[xAu h5 hx w6,(dk h5 w6).1]
   refine ap l2.length _ _ (by simp) ⟨l1,l2,_,Oc,d+1,w6,rfl,by omega,rfl,rfl,h5.same fun r i _=>rfl,?_⟩
   have f4:Fr [4,13,15,16,17] (1+12000*d+11) A ((((A3.tick.set (lkR (me*4+c) l1).1 (lkR (me*4+c) l1).2 (hdn l2:Int)).tick).set 17 (m-1) (Ref.word ⟨(hdn l2:Int),true,0⟩)).tick):=
    (((ao.trans ar (S :=[4,13,15,16,17]) (e:=1+12000*d+8)).trans (Fr.tick [] _) (S :=[4,13,15,16,17]) (e:=1+12000*d+9)).trans (Fr.sett (R :=[13,17]) _ _ nv.2.2) (S :=[4,13,15,16,17]) (e:=1+12000*d+10)).trans (Fr.sett (R :=[17]) _ _ (by simp))
   exact(f4.trans cn (S :=[4,13,15,16,17]) (e:=1+12000*d+11+11000)).trans (Fr.tick [] _)
theorem xyg(h:HI n t A held S mp vr rem bag pl){th c:Nat}(hs:A.self=(th:Int))(ht:th<t)(hc:c<4):Rn n t (qz (xd n t) (c:Int)) A fun r A'=>
  (∃g,r=(((g+1:Nat):Int),true)/\held g=none/\isBlk S g c/\HI n t A' (upd held g (some (.blk c))) S mp vr rem bag pl/\Fr [12] 4 A A'/\LessB 12 ((th*4+c)*2) 2 A A')\/
  (r=(0,false)/\Fr [] 2 A A'/\A.w 12 ((th*4+c)*2)=0/\A.w 12 ((th*4+c)*2+1)=0):=by
 unfold qz KS
 refine Rn.self ?_
 rw[hs]
 refine Rn.bind (xc6 hf.toFew h ht hc) ?_
 rintro r A1 hr
 exact Rn.ret hr
theorem xyh{me:Nat}(ah:me<t)(aa:A.self=(me:Int))(hi:HInv n t A held):Rn n t (xcK (xd n t)) A fun _ A'=>HInv n t A' held/\Fr [1,4,8,12,13,15,16,17] 500000000 A A':=by
 obtain⟨Fz,S,mp,vr,rem,bag,pl,h⟩:=hi
 unfold xcK xeV
 refine Rn.run (Zm hf ah aa) (Rn.no rfl ?_)
 unfold wW
 refine Rn.loop (fun r i A1 =>∃ (c o:Nat) (bm:Nat->Nat) (dp:Nat->List Nat) (da:List Nat),i=((c:Int),(o:Int))/\c<=4/\r=4-c/\o<=2*c/\HI n t A1 held S bm vr rem dp da/\Fr [1,4,8,12,13,15,16,17] (100001000*c) A A1) ?_ xa 4 _ A (by unfold xa;omega)
  ⟨0,0,mp,bag,pl,rfl,by omega,rfl,by omega,h,(Fr.refl [] A).mono⟩
 rintro r i A1 κ ⟨c,o,lq,L8,Oe,rfl,hc,rfl,ho,h1,ao⟩ ap
 have cq:A1.self=(me:Int):=by rw[ao.self,aa]
 unfold xcJ
 by_cases ss:c<4
 .refine Rn.yes (by rw[dT];show((c:Nat):Int)<4;omega) ?_
  unfold wV
  refine Xo hf (τ:=qz (xd n t) (c:Int)) (B:=xcI (c:Int) (c:Int) (xd n t) (xd n t) fun y2=>(XO (xd n t) (c:Int)).bind fun r3=>κ (i64.wrap ((c:Int)+1),y2)) (κ0:=fun y2=>(XO (xd n t) (c:Int)).bind fun r3=>κ (i64.wrap ((c:Int)+1),y2)) (R :=[12]) (K:=4) (reg:=12) (b:=(me*4+c)*2) (N:=2) (c:=c) (me:=me) (M:=2) (E:=fun _=>True) (fun _ _=>rfl) ⟨by decide,by decide⟩ (by decide) (fun B mpB hsB hB =>?_) (by omega) o (by omega) cq h1 (xik _ _) fun A2 sb k2 ef h2 _ gv ae _ =>?_
  .refine(xyg hf hB hsB ah ss).mono ?_
   rintro r A' (hr|⟨rfl,q1,q2,q3⟩)
   .exact .inl hr
   .exact .inr ⟨rfl,q1.mono,hB.fr q1 (by simp),trivial,fun q=>q1.w 12 (by simp) q⟩
  .refine Rn.bind (xyf hf ah ss (by rw[ae.self,cq]) h2) ?_
   rintro _ A3 ⟨L7,Od,h3,ar⟩
   rw[xL hf.toFew (x:=c) (by omega)]
   refine ap (4-(c+1)) _ _ (by omega) ⟨c+1,o+k2,sb,L7,Od,rfl,by omega,rfl,by omega,h3,?_⟩
   exact(ao.trans ae (S :=[1,4,8,12,13,15,16,17]) (e:=100001000*c+27)).trans ar
 .obtain rfl:c=4:=by omega
  refine Rn.no (by rw[dF];show ¬ ((4:Nat):Int)<4;omega) ?_
  refine Rn.ret ⟨⟨?_,S,lq,vr,rem,L8,Oe,h1⟩,ao.mono⟩
  rw[ao.w 0 (by simp)];exact Fz
end
end Go.Proofs.YtcicjcggclhbfaaGreat
