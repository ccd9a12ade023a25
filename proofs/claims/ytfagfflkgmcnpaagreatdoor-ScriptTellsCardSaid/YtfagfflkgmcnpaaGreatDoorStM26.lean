/- Part. -/
import Derived.Test.YtfagfflkgmcnpaaGreatDoorStM25
import Derived.Conc.Events
import Derived.Calls
import Derived.Conc.TokenWords
import Derived.Laws.IdiomRangeMap
import Derived.Test.YtfagfflkgmcnpaaGreatDoorStM3
set_option linter.all false
open Go.IntKind (i64 u64 u32 u8)
set_option maxRecDepth 1000000
namespace Go.Proofs.YtfagfflkgmcnpaaGreatDoor.Kx
open Go Go.Conc Lx
section
variable{P:Program}{σ:Type}{J:KBase P σ}
def KAny(J:KBase P σ)(fn:FuncId)(md:Region.Mode)(ops:Array Oper)(Q:wN σ):Nat->Array Bool->Act->σ->Fo->World->Prop
 | 0,listed,a,s,F,w=>Region.ready md ops listed = []/\Q .normal a s F w
 | n+1,listed,a,s,F,w=>(Region.ready md ops listed = []->Q .normal a s F w)/\ ∀i∈Region.ready md ops listed,∃o,ops[i]? = some o/\KOper J fn ops o (fun a' s' F' w'=>KAny J fn md ops Q n (listed.setIfInBounds i true) a' s' F' w') a s F w
theorem xee{fn:FuncId}{md:Region.Mode}{ops:Array Oper}{Q:wN σ} : ∀ (fuel t:Nat) (listed:Array Bool) (a:Act) (s:σ) (F:Fo) (w:World),KAny J fn md ops Q fuel listed a s F w->KOps J fn ops (Region.linearise.go md ops fuel t listed []) Q a s F w:=by
 intro fuel
 induction fuel with
 | zero=>intro t listed a s F w h;simpa[Region.linearise.go]using XS h.2
 | succ fuel ih=>
  intro t listed a s F w h
  obtain⟨h₀,h₁⟩:=h
  simp only[Region.linearise.go]
  change KOps J fn ops (match(Region.ready md ops listed)[t%(Region.ready md ops listed).length]? with
   | some i=>Region.linearise.go md ops fuel (t / (Region.ready md ops listed).length) (listed.setIfInBounds i true) [i]
   | none =>[].reverse) Q a s F w
  cases hi:(Region.ready md ops listed)[t%(Region.ready md ops listed).length]? with
  | none=>
   have w7:Region.ready md ops listed = []:=by
    cases hr:Region.ready md ops listed with
    | nil=>rfl
    | cons x xs=>
     rw[hr]at hi
     have ao:t%(x::xs).length<(x::xs).length:=Nat.mod_lt _ (by simp)
     simp at hi
     simp at ao
     omega
   simpa using XS (h₀ w7)
  | some i=>
   simp only[]
   rw[linearise_go_acc,List.reverse_singleton,List.singleton_append]
   obtain⟨o,ho,hk⟩:=h₁ i (List.mem_of_getElem? hi)
   exact YD ho (hk.mono fun a' s' F' w' x=>ih _ _ a' s' F' w' x)
theorem wO{fn:FuncId}{ops:Array Oper}{Q:wN σ}{id:Nat}{a:Act}{s:σ}{F:Fo}{w:World}(hm:P.follows .mixedOrders=true)
  (h : ∀F₁ w₁,J.RF F w F₁ w₁->KAny J fn .any ops Q ops.size (Array.replicate ops.size false) a s F₁ {w₁ with drawn:=w₁.drawn+1}):KWp J fn (.region id ops true) Q a s F w:=
 Ww fun F₁ w₁ h₁ t=>by
  simp only[Region.schedule,hm,Bool.true_or,if_true]
  exact xee ops.size t _ a s F₁ _ (h F₁ w₁ h₁)
variable{Γ:xK}{S0:Bool->Nat->Prop}{w0:World}{e0:Env}{ops:Array Oper}{β:Type}{k:St->T β}{b:Array Nat}{D:List Nat}
abbrev Wo(J:KBase P σ)(Γ:xK)(ops:Array Oper)(D:List Nat)(A:List (Nat×Nat))(S0:Bool->Nat->Prop)(w0:World)(e0:Env)(U L:List Nat)(X:Nat->Nat)(e:Env)(st:St)(s:σ)(F:Fo)(a:Act)(w:World):Prop:=LRow (J.at F) Γ ops D A S0 w0 e0 U L X e st s F.has a w
def AliveK(J:KBase P σ)(st:St)(s:σ):Prop :=∃ (F:Fo) (S0:Bool->Nat->Prop) (w0:World) (e0 e:Env) (X:Nat->Prop) (a:Act) (w:World),Cfg (J.at F) S0 w0 e0 e st s X a w/\OffS J S0 w0
theorem AliveK.alive{J:KBase P σ}{st:St}{s:σ}:AliveK J st s ->∃F:Fo,Alive (J.at F) st s:=fun⟨F,S0,w0,e0,e,X,a,w,C,_⟩=>⟨F,S0,w0,e0,e,X,a,w,C⟩
theorem LRow.relyK{A:List (Nat×Nat)}{U L:List Nat}{X:Nat->Nat}{e:Env}{st:St}{s:σ}{F:Fo}{a:Act}{w:World}(R:Wo J Γ ops D A S0 w0 e0 U L X e st s F a w){F₁:Fo}{w₁:World}(h:J.RF F w F₁ w₁):Wo J Γ ops D A S0 w0 e0 U L X e st s F₁ a w₁:=by
 have hK:=J.rKeeps h
 have hC:CfgK J S0 w0 e0 e st s F₁ a w₁:=Kx.relyK R.cfg h
 unfold CfgK at hC
 unfold Wo
 rw[KBase.at_eq (J.rTok h)]at hC |-
 refine⟨hC,R.lt,R.nd,R.fit,R.inn,fun i hi hu =>?_,R.inj,R.free,R.held⟩
 obtain⟨hd,W⟩:=R.waits i hi hu
 obtain⟨o,dd,f,kb,rvf,vs,p1,p2,p3,p4,p5,p6,p7,p8,p9⟩:=W.at_
 have ao:=(Array.getElem?_eq_some_iff.1 p9).1
 exact⟨hd,⟨o,dd,f,kb,rvf,vs,p1,p2,p3,p4,p5,p6,p7,p8,by rw[hK.block _ ao W.port];exact p9⟩,W.own,fun hf=>(J.rNew h _ hf).elim W.port (by omega),W.new⟩
theorem xef{fn:FuncId}(bc:J.bad fn=false){i:Nat}{o:Oper}{K:Act->σ->Fo->World->Prop}{a:Act}{s:σ}{F:Fo}{w:World}(ho:ops[i]? = some o)(h:KOper J fn ops o K a s F w) : ∃a' s' F' w',K a' s' F' w':=
 h ⟨fun _ _ _ _ _ =>∃a' s' F' w',K a' s' F' w',fun _=>True,fun _ _=>trivial,fun _ _=>trivial,fun _ hh=>by
   obtain⟨_,_,_,_,_,_,_,hp⟩:=hh _ _ (J.rRefl _ _)
   exact hp,fun hp _=>hp,fun h1 h2 h3 h4 _ _ _ _ _ hc=>by
   obtain⟨_,_,_,_,_,_,F',w',g1,g2,g3,g4⟩:=J.meth h1 h2 h3 h4
   exact hc F' w' g1 g2 g3 g4,fun h1 _ _ _ hc=>by
   obtain⟨rv,F',w',g1,g2⟩:=J.primSome h1
   exact hc rv F' w' g1 g2⟩ (base fn) i [] [] [] ⟨rfl,bc⟩ rfl ho fun a' s' F' w' hk=>⟨a',s',F',w',hk⟩
theorem nextK{F0:Fo}(hΓ : ∀f m,Γ f=some m->xx J f m)(hq:OpsQuiet P){pu:PM}{i:Nat}{o:Oper}{tmps:Tm}{H:Heap}{s:σ}{r:V×Heap×σ}(ho:ops[i]? = some o)(h:AliveK J ⟨tmps,H⟩ s)(hv:valO Γ (J.at F0) ops pu o tmps H s=some r):AliveK J ⟨putT tmps o.dst r.1,r.2.1⟩ r.2.2:=by
 obtain⟨F,S0,w0,e0,e,X,a,w,C,hO⟩:=h
 have C:CfgK J S0 w0 e0 e ⟨tmps,H⟩ s ⟨X,F.A⟩ a w:=C
 have aa:(yl P Γ ops pu o ⟨tmps,H⟩ T.ret).run (J.at F0).step s=some ((⟨putT tmps o.dst r.1,r.2.1⟩:St),r.2.2):=by rw[ql,hv];rfl
 have aa:(yl P Γ ops pu o ⟨tmps,H⟩ T.ret).run J.step s=some ((⟨putT tmps o.dst r.1,r.2.1⟩:St),r.2.2):=aa
 obtain⟨ac,s',h1,_,h3⟩:=vO hΓ hq C aa
 simp only[T.run,oI,dI]at h1
 obtain⟨rfl,rfl⟩:=h1
 obtain⟨f0,K4⟩:=J.some_
 obtain⟨a',s1,F',w',e',C'⟩:=xef K4 ho (h3 f0 (fun a' s1 F' w' =>∃e',CfgK J S0 w0 e0 e' ⟨putT tmps o.dst r.1,r.2.1⟩ r.2.2 F' a' w') fun e' F' a' w' _ C'=>⟨e',C'⟩)
 exact⟨F',S0,w0,e0,e',F'.has,a',w',C',hO⟩
theorem AliveK.ptr{tmps:Tm}{H:Heap}{s:σ}(h:AliveK J ⟨tmps,H⟩ s) : ∀t b (p:Nat),ptrB (getT tmps t)=some b->b<H.length:=h.alive.choose_spec.ptr
theorem AliveK.closed{tmps:Tm}{H:Heap}{s:σ}(h:AliveK J ⟨tmps,H⟩ s):Closed tmps H:=h.alive.choose_spec.closed
theorem Zf{F0:Fo}(hΓ : ∀f m,Γ f=some m->xx J f m)(hq:OpsQuiet P){A:List (Nat×Nat)}{j:Nat}{r:β×σ}{l2:List Nat} : ∀ (l1:List Nat) (tmps:Tm) (H:Heap) (s:σ),(∀i∈l1,xfi ops b D A i j)->HeldA ops A tmps->AliveK J ⟨tmps,H⟩ s->
  (yM P Γ ops b D A (l1++j::l2) ⟨tmps,H⟩ k).run (J.at F0).step s=some r->(yM P Γ ops b D A (j::(l1++l2)) ⟨tmps,H⟩ k).run (J.at F0).step s=some r
 | [],tmps,H,s,hs,hA,ha,h=>h
 | i::l1,tmps,H,s,hs,hA,ha,h=>by
  obtain⟨x,y,hx,hy,ay,Js,Jr,Jq,Jp,Jo⟩:=hs i (by simp)
  rw[List.cons_append,wm hx]at h
  split at h
  .rename_i rx u6
   obtain⟨ui,u6⟩:=xbe u6
   have ih:=Zf hΓ hq l1 _ _ _ (fun i' un=>hs i' (by simp[un])) (hA.put hx u6) (nextK hΓ hq hx ha u6) h
   rw[wm hy]at ih
   split at ih
   .rename_i ry Do
    simp only[Xd,dM]at ay
    obtain⟨a1,a2,a3⟩:=Oper.apart_spec ay.2
    rw[xcB (fun d hd=>a1 d hd)]at Do
    obtain⟨zy,Do⟩:=xbe Do
    obtain⟨H1,s1,g1,g2⟩:=xhP (vx:=rx.1) (vy:=ry.1) (Hx:=rx.2.1) (Hy:=ry.2.1) (sx:=rx.2.2) (sy:=ry.2.2) ay.1 u6 Do (fun k3 k12=>hA.avoids hy (Js k3 k12)) (fun k3 k12=>hA.avoids hx (Jr k3 k12)) (AliveK.ptr ha) (AliveK.closed ha) (hA.diff hx hy zy Jq) (fun k6 k1=>hA.parts hy (Jp k6 k1)) (fun k6 k1=>hA.parts hx (Jo k6 k1))
    rw[wm hy,xbf zy,g1]
    simp only
    rw[List.cons_append,wm hx,xcB (fun d hd=>a3 d hd),xbf ui,g2]
    simp only
    rw[xgA _ _ _ (fun d hd he=>a2 d he hd)]
    exact ih
   .cases ih
  .cases h
theorem xfr[OffS J S0 w0](hΓ : ∀f m,Γ f=some m->xx J f m)(hq:OpsQuiet P)(hD:LateD P ops D){A:List (Nat×Nat)}{U:List Nat}{X:Nat->Nat}{i:Nat}{s:σ}{F:Fo}{a:Act}{w:World}{r:β×σ}
  (hiU:i∈U) (hiD:i∉D) (fk : ∀c∈U,((Region.before ops).getD i 0).testBit c=false) (hw : ∀j,j<ops.size->j∉U ->∀c∈U,((Region.before ops).getD j 0).testBit c=false) : ∀ (n:Nat) (L:List Nat) (e:Env) (st:St),L.length=n->Wo J Γ ops D A S0 w0 e0 U L X e st s F a w->(yM P Γ ops (Region.before ops) D A L st k).run J.step s=some r->
   ∃l1 l2 e' ac,Wo J Γ ops D A S0 w0 e0 U (l1++i::l2) X e' ac s F a w/\(yM P Γ ops (Region.before ops) D A (l1++i::l2) ac k).run J.step s=some r/\ ∀c∈l1,((Region.before ops).getD i 0).testBit c=false
 | 0,L,e,st,hn,R,h=>by
  obtain rfl:=List.length_eq_zero_iff.1 hn
  have:=R.inn i hiU
  cases this
 | n+1,L,e,st,hn,R,h=>by
  obtain⟨l1,l2,rfl⟩:=List.append_of_mem (R.inn i hiU)
  by_cases dm : ∀c∈l1,((Region.before ops).getD i 0).testBit c=false
  .exact⟨l1,l2,e,st,R,h,dm⟩
  .obtain⟨m1,d,m2,rfl,hb,J3⟩ : ∃m1 d m2,l1=m1++d::m2/\((Region.before ops).getD i 0).testBit d=true/\ ∀c∈m1,((Region.before ops).getD i 0).testBit c=false:=by
    clear h R hn
    induction l1 with
    | nil=>exact absurd (fun c hc=>by cases hc) dm
    | cons x l ih=>
     by_cases hx:((Region.before ops).getD i 0).testBit x=true
     .exact⟨[],x,l,rfl,hx,fun c hc=>by cases hc⟩
     .have hx:((Region.before ops).getD i 0).testBit x=false:=by simpa using hx
      obtain⟨m1,d,m2,h1,h2,h3⟩:=ih fun hh=>dm fun c hc=>by
       rcases List.mem_cons.1 hc with rfl|hc
       .exact hx
       .exact hh c hc
      refine⟨x::m1,d,m2,by rw[h1];rfl,h2,fun c hc =>?_⟩
      rcases List.mem_cons.1 hc with rfl|hc
      .exact hx
      .exact h3 c hc
   have hdU:d∉U:=fun hu=>by have:=fk d hu;rw[hb]at this;cases this
   have hdL:d∈(m1++d::m2)++i::l2:=by simp
   obtain⟨hdD,W⟩:=R.waits d hdL hdU
   have e1:(m1++d::m2)++i::l2=m1++d::(m2++i::l2):=by simp
   rw[e1]at R h
   have E3 : ∀c∈m1,xfi ops (Region.before ops) D A c d:=by
    intro c hc
    have hf:=(List.pairwise_append.1 R.fit).2.2 c hc d (by simp)
    have ff:((Region.before ops).getD d 0).testBit c=false:=by
     by_cases hcU:c∈U
     .exact hw d (R.lt d (by simp)) hdU c hcU
     .exact hD.dep d hdD c (R.waits c (by simp[hc]) hcU).1
    rcases hf.2 with h1|h1|⟨_,_,h1⟩
    .rw[ff]at h1;cases h1
    .exact h1
    .have:=h1 i (R.lt i (R.inn i hiU)) hb
     rw[J3 c hc]at this;cases this
   obtain⟨tmps,H⟩:=st
   have K2:=Zf (F0:=F) hΓ hq m1 tmps H s E3 R.held ⟨F,S0,w0,e0,e,F.has,a,w,R.cfg,inferInstance⟩ h
   obtain⟨e',ac,R',h'⟩:=R.told hD hdU K2
   have hl:(m1++(m2++i::l2)).length=n:=by
    simp only[dO,List.length_cons]at hn |-;omega
   exact xfr hΓ hq hD hiU hiD fk hw n _ e' ac hl R' h'
theorem finK[OffS J S0 w0](hΓ : ∀f m,Γ f=some m->xx J f m)(hq:OpsQuiet P)(hD:LateD P ops D){A:List (Nat×Nat)}{X:Nat->Nat}{s:σ}{F:Fo}{a:Act}{w:World}{r:β×σ} : ∀ (L:List Nat) (e:Env) (st:St),Wo J Γ ops D A S0 w0 e0 [] L X e st s F a w->(yM P Γ ops (Region.before ops) D A L st k).run J.step s=some r->
   ∃e' ac,CfgK J S0 w0 e0 e' ac s F a w/\(k ac).run J.step s=some r
 | [],e,st,R,h=>⟨e,st,R.cfg,h⟩
 | d::L,e,st,R,h=>by
  obtain⟨e',ac,R',h'⟩:=LRow.told (l1 :=[]) hD R (by simp) h
  exact finK hΓ hq hD L e' ac R' h'
theorem qs[OffS J S0 w0](hΓ : ∀f m,Γ f=some m->xx J f m)(hq:OpsQuiet P){A:List (Nat×Nat)}(d8 : ∀ (j:Nat) o,ops[j]? = some o ->∀e∈o.after.toList,Region.binds .any e=true->e.on<j)(hD:LateD P ops D){r:β×σ}{fn:FuncId}{Q:wN σ}(hQ : ∀e' ac s' F' a' w',(k ac).run J.step s'=some r->CfgK J S0 w0 e0 e' ac s' F' a' w'->Q .normal a' s' F' w') :
  ∀ (n:Nat) (U L:List Nat) (X:Nat->Nat) (listed:Array Bool) (e:Env) (st:St) (s:σ) (F:Fo) (a:Act) (w:World),U.length=n->U.Nodup->listed.size=ops.size->(∀i,i<ops.size->(i∈U↔listed[i]? = some false))->
   (∀ (j:Nat) o,listed[j]? = some true->ops[j]? = some o ->∀e∈o.after.toList,Region.binds .any e=true->listed[e.on]? = some true)->
   Wo J Γ ops D A S0 w0 e0 U L X e st s F a w->(yM P Γ ops (Region.before ops) D A L st k).run J.step s=some r->KAny J fn .any ops Q n listed a s F w
 | 0,U,L,X,listed,e,st,s,F,a,w,hn,w9,ai,hU,cq,R,h=>by
  obtain rfl:=List.length_eq_zero_iff.1 hn
  obtain⟨e',ac,C',h'⟩:=finK hΓ hq hD L e st R h
  refine⟨?_,hQ e' ac s F a w h' C'⟩
  unfold Region.ready
  rw[List.filter_eq_nil_iff]
  intro i hi
  have un:i<ops.size:=by simpa using hi
  have : ¬listed[i]? = some false:=fun h=>by have:=(hU i un).2 h;cases this
  have cx:listed[i]? = some listed[i]:=Array.getElem?_eq_getElem (by omega)
  rw[cx]at this
  have ht:listed[i]=true:=by
   cases hh:listed[i] with
   | true=>rfl
   | false=>rw[hh]at this;exact absurd rfl this
  simp[Array.getD_eq_getD_getElem?,cx,ht]
 | n+1,U,L,X,listed,e,st,s,F,a,w,hn,w9,ai,hU,cq,R,h=>by
  have ao : ∀i∈U,i<ops.size:=fun i hi=>R.lt i (R.inn i hi)
  have isT : ∀i,i<ops.size->i∉U->listed[i]? = some true:=by
   intro i hi Jy
   have h1 : ¬listed[i]? = some false:=fun h=>Jy ((hU i hi).2 h)
   have cx:listed[i]? = some listed[i]:=Array.getElem?_eq_getElem (by omega)
   rw[cx]at h1 |-
   cases hh:listed[i] with
   | true=>rfl
   | false=>rw[hh]at h1;exact absurd rfl h1
  refine⟨fun hr =>?_,fun i hi =>?_⟩
  .exfalso
   cases hU0:U with
   | nil=>rw[hU0]at hn;simp at hn
   | cons i1 U'=>
    obtain⟨i0,F5,Fq⟩:=least (p:=fun i=>i∈U) (n:=i1) (by rw[hU0];simp)
    have h0:=ao i0 F5
    have ap:i0∈Region.ready .any ops listed:=by
     unfold Region.ready
     rw[List.mem_filter]
     refine⟨by simpa using h0,?_⟩
     have hf:=(hU i0 h0).1 F5
     have ho:=Array.getElem?_eq_getElem h0
     rw[ho]
     simp only[Array.getD_eq_getD_getElem?,hf,Option.getD_some,Bool.not_false,Bool.true_and,dN,Array.all_eq_true_iff_forall_mem]
     intro e he
     by_cases hb:Region.binds .any e=true
     .have A2:=d8 i0 _ ho e (by simpa using he) hb
      rw[isT e.on (by omega) (Fq e.on A2)]
      simp
     .simp[hb]
    rw[hr]at ap
    cases ap
  .unfold Region.ready at hi
   rw[List.mem_filter]at hi
   obtain⟨gm,em⟩:=hi
   have gm:i<ops.size:=by simpa using gm
   have ho:=Array.getElem?_eq_getElem gm
   rw[ho]at em
   simp only[dM,dN,Option.getD_some,Array.all_eq_true_iff_forall_mem]at em
   have cx:listed[i]? = some listed[i]:=Array.getElem?_eq_getElem (by omega)
   have Be:listed[i]? = some false:=by
    have:=em.1
    rw[Array.getD_eq_getD_getElem?,cx]at this
    rw[cx]
    simpa using this
   have hiU:=(hU i gm).2 Be
   have ua : ∀e∈(ops[i]).after.toList,Region.binds .any e=true->listed[e.on]? = some true:=by
    intro e he hb
    have:=em.2 e (by simpa using he)
    simp only[hb,Bool.not_true,Bool.false_or,Array.getD_eq_getD_getElem?]at this
    cases hh:listed[e.on]? with
    | none=>rw[hh]at this;simp at this
    | some t=>rw[hh]at this;simp at this;rw[this]
   have oq : ∀j,(listed.setIfInBounds i true)[j]? = if i=j then some true else listed[j]? :=by
    intro j
    rw[Array.getElem?_setIfInBounds]
    split
    .rename_i gz;rw[dB (by omega)]
    .rfl
   have Az:(U.erase i).length=n:=by rw[List.length_erase_of_mem hiU];omega
   have Cw:(U.erase i).Nodup:=w9.erase i
   have hmemE : ∀j,j∈U.erase i↔j≠i/\j∈U:=fun j=>w9.mem_erase_iff
   have ax:(listed.setIfInBounds i true).size=ops.size:=by simp[ai]
   have hU' : ∀j,j<ops.size->(j∈U.erase i↔(listed.setIfInBounds i true)[j]? = some false):=by
    intro j hj
    rw[oq,hmemE]
    by_cases gz:i=j
    .subst gz;simp
    .rw[dA gz,<- hU j hj]
     exact⟨fun h=>h.2,fun h=>⟨fun hh=>gz hh.symm,h⟩⟩
   have Dc : ∀ (j:Nat) o,(listed.setIfInBounds i true)[j]? = some true->ops[j]? = some o ->∀e∈o.after.toList,Region.binds .any e=true->(listed.setIfInBounds i true)[e.on]? = some true:=by
    intro j o hj Aa e he hb
    rw[oq]at hj |-
    split
    .rfl
    .split at hj
     .rename_i gz
      subst gz
      rw[ho]at Aa
      cases Aa
      exact ua e he hb
     .exact cq j o hj Aa e he hb
   by_cases hiD:i∈D
   ·-- a new block: it stands, and waits
    obtain⟨o,Ay,ci⟩:=hD.op i hiD
    rw[ho]at Ay;cases Ay
    obtain⟨hg,⟨dd,bp⟩,ab,_⟩:=Xn ci
    refine⟨_,ho,jS (by simp[Region.wanted,hg]) fun F w h₁ =>?_⟩
    have R:=LRow.relyK R h₁
    have E:=R.cfg.rel.emb
    have C:=R.cfg
    have Cf:getT st.tmps dd=none:=R.free i (R.inn i hiU) hiD _ _ ho bp
    obtain⟨tmps,H⟩:=st
    obtain⟨l1,l2,hL⟩:=List.append_of_mem (R.inn i hiU)
    have fk : ∀c∈U,((Region.before ops).getD i 0).testBit c=false:=by
     intro c hc
     refine jh (S:=fun j=>listed[j]? = some true) cq d8 i i _ (dJ _) ho ua c ?_
     have:=(hU c (ao c hc)).1 hc
     rw[this];simp
    have Ct : ∀c∈L,((Region.before ops).getD i 0).testBit c=false:=by
     intro c hc
     by_cases hcU:c∈U
     .exact fk c hcU
     .exact hD.dep i hiD c (R.waits c hc hcU).1
    have pg : ∃pu H' s' rr,valO Γ (J.at F) ops pu (ops[i]) tmps H' s'=some rr:=by
     rw[hL]at h
     have ze:=R.fit
     rw[hL]at ze
     exact xfk ho l1 tmps H s (fun c hc x hx=>(((List.pairwise_append.1 ze).2.2 c hc i (by simp)).apart (Ct c (by rw[hL];simp[hc])) hx ho).1) h
    obtain⟨f,kb,rvf,ht,ow,bt,hf,bk⟩ : ∃ (f:Nat->V) (kb:Blk) (rvf:Nat->Value),kb.tab=none/\kb.grown=false/\(∀H2,evStep P (ops[i]).op (xW tmps) H2=some (.val true (f H2.length) (newB H2 kb)))/\(∀pv e x c,denV pv (e ++ [(x,c)]) (f e.length)=some (rvf x))/\ ∀pv e (ra:Operand->Value),Lx.One pv->Says pv e (xW tmps) ra ->∃vs,denL pv e kb.cells=some vs:=by
     obtain⟨pu,H',s',rr,iq⟩:=pg
     simp only[valO,hg]at iq
     cases hq:evStep P (ops[i]).op (xW tmps) H' with
     | none=>rw[hq]at iq;cases iq
     | some q=>exact new_val ab hq
    have ge : ∀pu H2 s2,valO Γ (J.at F) ops pu (ops[i]) tmps H2 s2=some (f H2.length,newB H2 kb,s2):=by
     intro pu H2 s2
     simp only[valO,hg,bt]
     exact xcv pu H2 kb s2
    obtain⟨vs,ee⟩:=bk (J.at F).pv e a.eval (J.one F) C.rel.says
    obtain⟨nx,w',e',rv,h1,h2,h3,h4,h5,h6,h7⟩:=Vs (J.at F).toPortB (o:=ops[i]) C.rel.says E (bt H)
    obtain⟨xs,rfl⟩:=h3
    obtain⟨⟨x,cp⟩,rfl⟩ : ∃r,xs = [r]:=by
     have hl:=h5.len
     rw[xcy,dO,E.len]at hl
     match xs,hl with
     | [r],_=>exact⟨r,rfl⟩
     | [],hl=>simp at hl
     | _::_::_,hl=>simp at hl
    obtain rfl:rv=rvf x:=by
     have:=hf (J.at F).pv e x cp
     rw[<- E.len,h4]at this
     exact Option.some.inj this
    have na:blkAt (newB H kb) H.length=some kb:=by rw[yC,dB rfl]
    have u6:(e ++ [(x,cp)])[H.length]? = some (x,cp):=by rw[E.len];simp
    obtain⟨r1,cs,tl,q1,q2,q3,q4,_⟩:=h5.row H.length kb na (Blk.win_none ht) (Blk.virt_none ht) (Blk.mapped_none ht)
    rw[u6]at q1;cases q1
    rw[Blk.real_none ht,yE ⟨_,rfl⟩ _ _ ee]at q2;cases q2
    rw[q4 ow,List.append_nil]at q3
    have hxn:w.heap.size<=x:=by
     rcases h7 false x ⟨H.length,kb,(x,cp),na,u6,rfl,Blk.virt_none ht,fun h=>by cases h⟩with gi|gi
     .obtain⟨i2,k2,r2,g1,g2,g3,g4,_⟩:=gi
      have em:i2<H.length:=Vy g1
      rcases h5.alone i2 H.length k2 kb r2 (x,cp) (by rw[vM em];exact g1) na (by rw[List.getElem?_append_left (by rw[<- E.len];exact em)];exact g2) u6 g3 g4 (Blk.virt_none ht)with h8|⟨_,h8⟩
      .omega
      .rw[Blk.win_none ht]at h8;cases h8
     .exact gi
    have zw : ∀b,b<w.heap.size ->¬Own true e H b->w'.heap[b]? = w.heap[b]? :=h6.block
    have R':Wo J Γ ops D A S0 w0 e0 (U.erase i) L (fun j=>if j=i then x else X j) e ⟨tmps,H⟩ s F (a.put (some dd) (rvf x)) w':=by
     have Ji:=C.keeps.size
     have rl : ∀t',t'≠dd->(a.put (some dd) (rvf x)).tmps[t']? = a.tmps[t']? :=by
      intro t' fb
      simp only[Act.put]
      rw[Array.getElem?_setIfInBounds_ne (fun hh=>fb hh.symm)]
     have hXlt : ∀j∈L,j∉U->X j<w.heap.size:=by
      intro j hj ly
      obtain⟨_,W⟩:=R.waits j hj ly
      obtain⟨_,_,_,_,_,_,_,_,_,_,_,_,_,_,hb⟩:=W.at_
      exact(Array.getElem?_eq_some_iff.1 hb).1
     have nl : ∀j,j∉U.erase i->j=i\/j∉U:=by
      intro j hj
      by_cases sq:j=i
      .exact .inl sq
      .exact .inr fun hu=>hj ((hmemE j).2 ⟨sq,hu⟩)
     refine⟨⟨⟨E.unnew h5,?_,fun t' v hv =>?_,C.rel.defers⟩,J.stable C.rep fun b hb=>zw b (J.lt C.rep b hb) fun gi=>C.disj b gi.weak hb,C.disj,C.keeps.trans h6 fun b hb=>C.mine true b (.inl hb),C.mine,C.ext⟩,R.lt,R.nd,R.fit,fun j hj=>R.inn j ((hmemE j).1 hj).2,fun j hj ly =>?_,fun j hj j' ov ly A4 he =>?_,R.free,R.held⟩
     .rw[put_size];exact C.rel.len
     .have:t'≠dd:=fun hh=>by rw[hh,Cf]at hv;cases hv
      rw[rl t' this]
      exact C.rel.tmps t' v hv
     .rcases nl j ly with rfl|ly
      .refine⟨hiD,⟨_,dd,f,kb,rvf,vs,ho,bp,ht,ow,ge,fun e x c=>hf (J.at F).pv e x c,ee,?_,?_⟩,?_,?_,?_⟩
       .intro ia
        rw[put_size]at ia
        simp only[Act.put,if_true]
        rw[Array.getElem?_setIfInBounds_self_of_lt ia]
       .rw[dB rfl];exact q3
       .rw[dB rfl];intro hb;have:=E.own_lt hb;omega
       .rw[dB rfl];intro hb;have:=J.lt C.rep _ hb;omega
       .rw[dB rfl];omega
      .obtain⟨hjD,W⟩:=R.waits j hj ly
       have sq:j≠i:=fun hh=>ly (hh▸hiU)
       obtain⟨o,d',f',Iz,Ef,zp,p1,p2,p3,p4,p5,p6,p7,p8,p9⟩:=W.at_
       rw[dA sq]
       have zi:d'≠dd:=by
        rintro rfl
        exact hD.dst i hiD j o _ d' sq p1 ho bp p2
       refine⟨hjD,⟨o,d',f',Iz,Ef,zp,p1,p2,p3,p4,p5,p6,p7,(fun hh=>by rw[rl d' zi];rw[put_size]at hh;exact p8 hh),?_⟩,W.own,W.port,W.new⟩
       rw[zw _ (hXlt j hj ly) fun gi=>W.own gi.weak];exact p9
     .have lo : ∀q,q∉U->q≠i:=fun q hq hh=>hq (hh▸hiU)
      rcases nl j ly with A8|A8<;>rcases nl j' A4 with A7|A7
      .rw[A8,A7]
      .rw[dB A8,dA (lo j' A7)]at he
       have:=hXlt j' ov A7;omega
      .rw[dB A7,dA (lo j A8)]at he
       have:=hXlt j hj A8;omega
      .rw[dA (lo j A8),dA (lo j' A7)]at he
       exact R.inj j hj j' ov A8 A7 he
    have key:=qs (fn:=fn) hΓ hq d8 hD hQ n (U.erase i) L _ _ e ⟨tmps,H⟩ s F _ _ Az Cw ax hU' Dc R' h
    exact⟨nx,w',rvf x,h1,h2,J.dOwn (h6.mono fun b hb=>⟨C.disj b hb.weak,CfgK.off C hb⟩) (VQ (hq.val (J.at F).toPortB C.rel.says E (bt H) F C.disj (J.lt C.rep))),by rw[bp];exact key⟩
   ·-- another one: those that it needs are told
    have fk : ∀c∈U,((Region.before ops).getD i 0).testBit c=false:=by
     intro c hc
     refine jh (S:=fun j=>listed[j]? = some true) cq d8 i i _ (dJ _) ho ua c ?_
     have:=(hU c (ao c hc)).1 hc
     rw[this];simp
    have hw : ∀j,j<ops.size->j∉U ->∀c∈U,((Region.before ops).getD j 0).testBit c=false:=by
     intro j hj ly c hc
     refine jh (S:=fun j=>listed[j]? = some true) cq d8 j j _ (dJ _) (Array.getElem?_eq_getElem hj) (fun e he hb=>cq j _ (isT j hj ly) (Array.getElem?_eq_getElem hj) e he hb) c ?_
     have:=(hU c (ao c hc)).1 hc
     rw[this];simp
    obtain⟨l1,l2,e1,st1,R1,h1,f7⟩:=xfr hΓ hq hD hiU hiD fk hw L.length L e st rfl R h
    have Aw:=List.pairwise_append.1 R1.fit
    have Jn:=List.pairwise_cons.1 Aw.2.1
    have Cb : ∀c∈l1,xfi ops (Region.before ops) D A c i:=by
     intro c hc
     rcases(Aw.2.2 c hc i (by simp)).2 with g|g|⟨g,_⟩
     .rw[f7 c hc]at g;cases g
     .exact g
     .exact absurd g hiD
    obtain⟨tmps,H⟩:=st1
    have li:=Zf (F0:=F) hΓ hq l1 tmps H s Cb R1.held ⟨F,S0,w0,e0,e1,F.has,a,w,R1.cfg,inferInstance⟩ h1
    simp only[yM,ho]at li
    split at li
    rotate_left
    .cases li
    haveI:OffS J (fun q b=>Own q e1 H b\/F b) w:=OffS.of (J:=J) (F:=F) R1.cfg.rep (CfgK.offK (F:=F) R1.cfg)
    obtain⟨ac,s',g1,g2,g3⟩:=vO hΓ hq R1.cfg.rebase li
    obtain⟨pu',H',s1',rr,cf,Aq⟩ : ∃pu H s,∃rr:V×Heap×σ,valO Γ (J.at F) ops pu (ops[i]) tmps H s=some rr/\ac.tmps=putT tmps (ops[i]).dst rr.1:=by
     change (yl P Γ ops _ ops[i] ⟨tmps,H⟩ T.ret).run (J.at F).step s=_ at g2
     rw[ql]at g2
     rw[oM]at g2
     obtain⟨rr,E6,iq⟩:=g2
     cases iq
     exact⟨_,_,_,_,E6,rfl⟩
    have hniL:i∉l1++l2:=by
     have:=R1.nd
     rw[List.nodup_append]at this
     obtain⟨_,h2,h3⟩:=this
     rw[List.nodup_cons]at h2
     intro hm
     rcases List.mem_append.1 hm with hm|hm
     .exact h3 i hm i (by simp) rfl
     .exact h2.1 hm
    have av : ∀j∈l1++l2,j∈l1++i::l2:=by
     intro j hj
     rcases List.mem_append.1 hj with h|h<;>simp[h]
    have zi : ∀j∈l1++l2,j∈D ->∀o d,ops[j]? = some o->o.dst=some d->(ops[i]).dst≠some d:=by
     intro j hj hjD o d Aa hd Da
     exact hD.dst j hjD i _ o d (fun hh=>hniL (hh▸hj)) ho Aa hd Da
    have key:=g3 fn (fun a' s' F' w'=>KAny J fn .any ops Q n (listed.setIfInBounds i true) a' s' F' w') fun e' F' a' w' zn C'=>by
     obtain⟨rv,zn⟩:=zn
     have ci : ∀j∈l1++l2,j∉U.erase i->j∉U:=by
      intro j hj ly hu
      exact ly ((hmemE j).2 ⟨fun hh=>hniL (hh▸hj),hu⟩)
     refine qs hΓ hq d8 hD hQ n (U.erase i) (l1++l2) X _ e' ac s' F' a' w' Az Cw ax hU' Dc ⟨R1.cfg.compose C',fun j hj=>R1.lt j (av j hj),?_,?_,fun j hj =>?_,fun j hj ly =>?_,fun j hj j' ov ly A4 he=>R1.inj j (av j hj) j' (av j' ov) (ci j hj ly) (ci j' ov A4) he,fun j hj hjD o d Aa hd =>?_,?_⟩ g1
     .exact List.Nodup.sublist (List.Sublist.append_left (List.sublist_cons_self i l2) l1) R1.nd
     .exact List.Pairwise.sublist (List.Sublist.append_left (List.sublist_cons_self i l2) l1) R1.fit
     .obtain⟨sq,hu⟩:=(hmemE j).1 hj
      have:=R1.inn j hu
      simp only[List.mem_append,List.mem_cons]at this |-
      rcases this with h|h|h
      .exact .inl h
      .exact absurd h sq
      .exact .inr h
     .obtain⟨hjD,W⟩:=R1.waits j (av j hj) (ci j hj ly)
      obtain⟨o,d,f,kb,rvf,vs,q1,q4,q2,q3,q5,q6,q7,q8,q9⟩:=W.at_
      have Fr:=(Array.getElem?_eq_some_iff.1 q9).1
      have hnS : ∀q,¬ (Own q e1 H (X j)\/F (X j)):=fun q hh=>hh.elim (fun h=>W.own h.weak) W.port
      refine⟨hjD,⟨o,d,f,kb,rvf,vs,q1,q4,q2,q3,?_,q6,yE C'.ext _ _ q7,?_,by rw[C'.keeps.block _ Fr (hnS true)];exact q9⟩,fun hb =>?_,fun hb =>?_,W.new⟩
      .intro pu H2 s2
       rw[Aq,XM]
       .exact q5 pu H2 s2
       .rcases List.mem_append.1 hj with hm|hm
        .exact((Aw.2.2 j hm i (by simp)).apart (f7 j hm) q1 ho).2
        .exact((Jn.1 j hm).apart (hw j (R1.lt j (av j hj)) (ci j hj ly) i hiU) ho q1).1
      .have ae:=zi j hj hjD o d q1 q4
       intro hh
       rw[zn]at hh |-
       rw[put_size]at hh
       cases Da:(ops[i]).dst with
       | none=>exact q8 hh
       | some di=>
        rw[Da]at ae
        simp only[Act.put]
        rw[Array.getElem?_setIfInBounds_ne (fun hh=>ae (by rw[hh]))]
        exact q8 hh
      .rcases C'.mine _ _ (.inl hb)with h|h
       .exact hnS _ h
       .omega
      .rcases C'.mine true _ (.inr hb)with h|h
       .exact hnS _ h
       .omega
     .have q1:=R1.free j (av j hj) hjD o d Aa hd
      have ae:=zi j hj hjD o d Aa hd
      rw[Aq]
      cases Da:(ops[i]).dst with
      | none=>exact q1
      | some di=>
       rw[Da]at ae
       have:d≠di:=fun hh=>ae (by rw[hh])
       simp only[putT,yN _ _ this]
       exact q1
     .rw[Aq];exact R1.held.put ho cf
    exact⟨_,ho,key⟩
theorem KG[OffS J S0 w0](hΓ : ∀f m,Γ f=some m->xx J f m)(hq:OpsQuiet P)(hm:P.follows .mixedOrders=true)(ay:qL ops (Region.before ops)=true){id:Nat}{st:St}(zh:qf ops (Region.before ops) (kB ops st.tmps)=true){r:β×σ}{fn:FuncId}{Q:wN σ}(hQ : ∀e' ac s' F' a' w',(k ac).run J.step s'=some r->CfgK J S0 w0 e0 e' ac s' F' a' w'->Q .normal a' s' F' w')
  {e:Env} {s:σ} {F:Fo} {a:Act} {w:World} (C:CfgK J S0 w0 e0 e st s F a w) (h:(yM P Γ ops (Region.before ops) [] (kB ops st.tmps) (List.range ops.size) st k).run J.step s=some r):KWp J fn (.region id ops true) Q a s F w:=by
 refine wO hm fun F w h₁ =>?_
 have C:=(relyK C h₁).drew
 have ay:=xcE [] ay
 refine(qs (D :=[]) hΓ hq (Xm ay) ⟨(fun d hd=>by cases hd),(fun d hd=>by cases hd),fun d hd=>by cases hd⟩ hQ ops.size (List.range ops.size) (List.range ops.size) (fun _=>0) _ e st s F a _ (by simp) List.nodup_range (by simp) (fun i hi =>?_) (fun j o hj =>?_) ⟨C,fun i hi=>by simpa using hi,List.nodup_range,?_,fun i hi=>hi,fun i hi hn=>absurd hi hn,fun i hi j hj hn=>absurd hi hn,(fun i hi hd=>by cases hd),Wj _⟩ h)
 .simp[hi]
 .rw[Array.getElem?_replicate]at hj
  split at hj<;>simp at hj
 .refine List.Pairwise.imp_of_mem (fun {p q} hp hq rn =>?_) (List.pairwise_lt_range (n:=ops.size))
  exact xak ay zh (by simpa using hp) (by simpa using hq) rn (by simp) (by simp)
theorem ZS[OffS J S0 w0](hΓ : ∀f m,Γ f=some m->xx J f m)(hq:OpsQuiet P)(hm:P.follows .mixedOrders=true)(ay:vB ops (Region.before ops) D=true){id:Nat}{st:St}{L:List Nat}(zh:qf ops (Region.before ops) (kB ops (vG ops D st.tmps))=true)(hl:xaQ P ops (Region.before ops) D L=true){r:β×σ}{fn:FuncId}{Q:wN σ}(hQ : ∀e' ac s' F' a' w',(k ac).run J.step s'=some r->CfgK J S0 w0 e0 e' ac s' F' a' w'->Q .normal a' s' F' w')
  {e:Env} {s:σ} {F:Fo} {a:Act} {w:World} (C:CfgK J S0 w0 e0 e st s F a w) (h:(yM P Γ ops (Region.before ops) D (kB ops (vG ops D st.tmps)) L ⟨vG ops D st.tmps,st.heap⟩ k).run J.step s=some r):KWp J fn (.region id ops true) Q a s F w:=by
 refine wO hm fun F w h₁ =>?_
 have C:=(relyK C h₁).drew
 unfold xaQ at hl
 simp only[dM,List.all_eq_true,beq_iff_eq]at hl
 obtain⟨⟨⟨aj,dm⟩,Aw⟩,ub⟩:=hl
 have hD:LateD P ops D:=by
  refine⟨fun d hd =>?_,fun d hd c hc =>?_,fun d hd i o o' dd ae ho gi K9 zh =>?_⟩
  .have:=(ub d hd).1
   split at this
   .exact⟨_,‹_›,(dM _ _▸this).1⟩
   .cases this
  .have:=(ub d hd).2 c hc
   simpa using this
  .have:=(ub d hd).1
   rw[gi]at this
   simp only[dM,List.all_eq_true]at this
   have h1:=this.2 (o,i) (wi ho)
   simp only[Bool.or_eq_true,beq_iff_eq,bne_iff_ne,ne_eq]at h1
   rcases h1 with h1|h1
   .exact ae h1
   .exact h1 (zh.trans K9.symm)
 have ap : ∀i,i<ops.size->i∈L:=fun i hi=>by
  have:=dm i (by simpa using hi)
  simpa using this
 have ao : ∀i∈L,i<ops.size:=fun i hi=>by simpa using aj i hi
 have Cm:=Wk Aw
 have w9:L.Nodup:=by
  refine List.Pairwise.imp (fun {p q} h =>?_) Cm
  unfold fitB at h
  simp only[dM,bne_iff_ne,ne_eq]at h
  exact h.1.1
 have C2:CfgK J S0 w0 e0 e ⟨vG ops D st.tmps,st.heap⟩ s F a {w with drawn:=w.drawn+1}:=
  ⟨⟨C.rel.emb,C.rel.len,fun t v hv=>C.rel.tmps t v (Wl hv).1,C.rel.defers⟩,C.rep,C.disj,C.keeps,C.mine,C.ext⟩
 refine(qs hΓ hq (Xm ay) hD hQ ops.size (List.range ops.size) L (fun _=>0) _ e ⟨vG ops D st.tmps,st.heap⟩ s F a _ (by simp) List.nodup_range (by simp) (fun i hi =>?_) (fun j o hj =>?_) ⟨C2,ao,w9,?_,fun i hi=>ap i (by simpa using hi),fun i hi hn=>absurd (by simpa using ao i hi) hn,fun i hi j hj hn=>absurd (by simpa using ao i hi) hn,fun i hi hd o dd ho bp =>?_,Wj _⟩ h)
 .simp[hi]
 .rw[Array.getElem?_replicate]at hj
  split at hj<;>simp at hj
 .refine List.Pairwise.imp_of_mem (fun {p q} hp hq rn =>?_) Cm
  exact xhS ay zh hD (ao p hp) (ao q hq) rn
 .cases hg:getT (vG ops D st.tmps) dd with
  | none=>rfl
  | some v=>
   have:=(Wl hg).2 i hd
   rw[ho]at this
   exact absurd bp this
end
end Go.Proofs.YtfagfflkgmcnpaaGreatDoor.Kx
namespace Go.Proofs.YtfagfflkgmcnpaaGreatDoor.Kx
open Go Go.Conc Lx
section
variable{P:Program}{σ:Type}{J:KBase P σ}{Γ:xK}{S0:Bool->Nat->Prop}{w0:World}{e0:Env}
theorem xcT{main:Bool}{b:Frame}{a:Act}{k:List Item}{cs:List Frame}{w:World}{c:Code}:stepG P main (G (b.at a (.code (.scope c)::k)) cs) w = .go (G (b.at a (.code c :: .inScope c::k)) cs) w:=by simp[G,stepG,stepG.exec,Frame.at]
theorem KH{main:Bool}{b:Frame}{a:Act}{k:List Item}{cs:List Frame}{w:World}{c:Code}:stepG P main (G (b.at a (.inScope c::k)) cs) w = .go (G (b.at a k) cs) w:=by simp[G,stepG,stepG.exec,Frame.at]
theorem vi[OffS J S0 w0]{fn:FuncId}(hΓ : ∀f m,Γ f=some m->xx J f m)(hq:OpsQuiet P)(hm:P.follows .mixedOrders=true)(n:Fu){β:Type}{r:β×σ} : ∀ (c:Code) (lv:Nat) (K:Ex->St->T β) (Q:wN σ),
  (∀ex e st s F a w,(K ex st).run J.step s=some r->CfgK J S0 w0 e0 e st s F a w->Q ex.up a s F w)->
  ∀e st s F a w,CfgK J S0 w0 e0 e st s F a w->(ev P Γ n e0.length c lv st K).run J.step s=some r->KWp J fn c Q a s F w
 | .skip,lv,K,Q,hQ,e,st,s,F,a,w,C,h=>xhV (hQ .normal e st s F a w h C)
 | .label _,lv,K,Q,hQ,e,st,s,F,a,w,C,h=>xgL (hQ .normal e st s F a w h C)
 | .exit i,lv,K,Q,hQ,e,st,s,F,a,w,C,h=>xhW (hQ (.exit i) e st s F a w h C)
 | .ret,lv,K,Q,hQ,e,st,s,F,a,w,C,h=>xbk (hQ .ret e st s F a w h C)
 | .seq x y,lv,K,Q,hQ,e,st,s,F,a,w,C,h=>by
  refine qr (vi hΓ hq hm n x _ _ _ (fun ex e' ac s' F' a' w' hk C' =>?_) e st s F a w C h)
  cases ex with
  | normal=>
   simp only at hk
   split at hk
   .split at hk
    .rename_i st2 hn
     obtain⟨e2,C2⟩:=C'.normC hn
     refine vi hΓ hq hm n y lv (jI n e0.length lv K) Q (fun ex e3 st3 s3 F3 a3 w3 d7 C3 =>?_) e2 st2 s' F' a' w' C2 hk
     unfold jI at d7
     split at d7
     .rename_i Il J0
      obtain⟨e4,C4⟩:=C3.normC J0
      exact hQ ex e4 Il s3 F3 a3 w3 d7 C4
     .cases d7
    .cases hk
   .exact vi hΓ hq hm n y lv K Q hQ e' ac s' F' a' w' C' hk
  | exit i=>exact hQ (.exit i) e' ac s' F' a' w' hk C'
  | ret=>exact hQ .ret e' ac s' F' a' w' hk C'
 | .cond c x y,lv,K,Q,hQ,e,st,s,F,a,w,C,h=>by
  simp only[ev]at h
  split at h
  .rename_i t hc
   have hv:=C.rel.says c _ hc
   simp only[denV,den,oI]at hv
   cases t
   .rw[cond_false,Wm hc]at h
    exact xcQ (t:=false) hv.symm (vi hΓ hq hm n y lv K Q hQ e st s F a w C h)
   .rw[cond_true,Wm hc]at h
    exact xcQ (t:=true) hv.symm (vi hΓ hq hm n x lv K Q hQ e st s F a w C h)
  .cases h
 | .block id c,lv,K,Q,hQ,e,st,s,F,a,w,C,h=>by
  refine xgM (vi hΓ hq hm n c lv _ _ (fun ex e' ac s' F' a' w' hk C' =>?_) e st s F a w C h)
  cases ex with
  | normal=>exact hQ .normal e' ac s' F' a' w' hk C'
  | exit i=>
   simp only at hk
   simp only[Ex.up,KIn]
   split
   .rename_i hi;rw[dB hi]at hk;exact hQ .normal e' ac s' F' a' w' hk C'
   .rename_i hi;rw[dA hi]at hk;exact hQ (.exit i) e' ac s' F' a' w' hk C'
  | ret=>exact hQ .ret e' ac s' F' a' w' hk C'
 | .scope c,lv,K,Q,hQ,e,st,s,F,a,w,C,h=>by
  intro O b k cs hb hk hc
  refine vE hb.bad (fun _=>xcT) (vi hΓ hq hm n c lv K (fun ex a' s' F' w'=>Q ex a' s' F' w'/\ ∀l,ex ≠ .goto l) (fun ex e' ac s' F' a' w' am C'=>⟨hQ ex e' ac s' F' a' w' am C',fun l=>by cases ex<;>simp[Ex.up]⟩) e st s F a w C h O b (.inScope c::k) cs hb hk fun ex a' s' F' w' q =>?_)
  obtain⟨q,Jz⟩:=q
  cases ex with
  | normal=>exact vE hb.bad (fun _=>KH) (hc _ _ _ _ _ q)
  | exit id=>
   obtain⟨k',am,hg⟩:=hc _ _ _ _ _ q
   exact⟨k',by simp[exitTo,am],hg⟩
  | ret=>exact fun todo=>hc _ _ _ _ _ q todo
  | goto l=>exact absurd rfl (Jz l)
  | panic ch=>exact hc _ _ _ _ _ q
  | outgrown=>exact hc _ _ _ _ _ q
 | .region id ops draw,lv,K,Q,hQ,e,st,s,F,a,w,C,h=>by
  simp only[ev]at h
  cases draw
  .exact VP (XU hΓ hq (fun e' ac s' F' a' w' hk C'=>hQ .normal e' ac s' F' a' w' hk C') ops.toList (List.range ops.size) (xgN ops) C h)
  .simp only at h
   split at h
   .split at h
    .rename_i ay
     exact ZS hΓ hq hm ay.1.1 ay.1.2 ay.2 (fun e' ac s' F' a' w' hk C'=>hQ .normal e' ac s' F' a' w' hk C') C h
    .cases h
   .split at h
    .split at h
     .rename_i ay
      exact KG hΓ hq hm ay.1 ay.2 (fun e' ac s' F' a' w' hk C'=>hQ .normal e' ac s' F' a' w' hk C') C h
     .cases h
    .split at h
     .rename_i ay
      exact ZS hΓ hq hm (xcE _ ay.1.1) ay.1.2 ay.2 (fun e' ac s' F' a' w' hk C'=>hQ .normal e' ac s' F' a' w' hk C') C h
     .cases h
 | .loop c,lv,K,Q,hQ,e,st,s,F,a,w,C,h=>by
  simp only[ev]at h
  intro O b k cs hb ft hc
  have key : ∀ (m:Nat) e st s F a w,CfgK J S0 w0 e0 e st s F a w->(vH m (fun st k=>ev P Γ n e0.length c (lv ||| (ue c).1) st fun e ac=>match e with
    | .normal=>match normC n e0.length (lv ||| (ue c).1) ac with
     | some st2=>k st2
     | none =>.fail
    | .exit i=>match normC n e0.length lv ac with
     | some st2=>K (.exit i) st2
     | none =>.fail
    | .ret=>match normC n e0.length lv ac with
     | some st2=>K .ret st2
     | none =>.fail) st).run J.step s=some r->O.Ok s F (b.at a (.code c :: .inLoop c::k)) cs w:=by
   intro m
   induction m with
   | zero=>intro e st s F a w C h;cases h
   | succ m ih=>
    intro e st s F a w C h
    simp only[vH]at h
    refine vi hΓ hq hm n c _ _ (xfq (fun a' s' F' w'=>O.Ok s' F' (b.at a' (.code c :: .inLoop c::k)) cs w') Q) (fun ex e' ac s' F' a' w' hk C' =>?_) e st s F a w C h O b (.inLoop c::k) cs hb ft fun ex a' s' F' w' q =>?_
    .cases ex with
     | normal=>
      simp only at hk
      split at hk
      .rename_i st2 hn
       obtain⟨e2,C2⟩:=C'.normC hn
       exact ih e2 st2 s' F' a' w' C2 hk
      .cases hk
     | exit i=>
      simp only at hk
      split at hk
      .rename_i st2 hn
       obtain⟨e2,C2⟩:=C'.normC hn
       exact hQ (.exit i) e2 st2 s' F' a' w' hk C2
      .cases hk
     | ret=>
      simp only at hk
      split at hk
      .rename_i st2 hn
       obtain⟨e2,C2⟩:=C'.normC hn
       exact hQ .ret e2 st2 s' F' a' w' hk C2
      .cases hk
    .cases ex with
     | normal=>exact vE hb.bad (fun _=>stepG_inLoop) q
     | exit id=>exact(hc _ _ _ _ _ q).push rfl (by simp)
     | ret=>exact(hc _ _ _ _ _ q).push (x :=.inLoop c) rfl (by simp)
     | goto l=>exact hc _ _ _ _ _ q
     | panic ch=>exact hc _ _ _ _ _ q
     | outgrown=>exact hc _ _ _ _ _ q
  split at h
  .rename_i st1 hn
   obtain⟨e1,C1⟩:=C.normC hn
   exact vE hb.bad (fun _=>stepG_loop) (key n.n e1 st1 s F a w C1 h)
  .cases h
 | .goto _,lv,K,Q,hQ,e,st,s,F,a,w,C,h=>by simp[ev,T.run]at h
 | .rangeFunc ..,lv,K,Q,hQ,e,st,s,F,a,w,C,h=>by simp[ev,T.run]at h
 | .refuse _,lv,K,Q,hQ,e,st,s,F,a,w,C,h=>by simp[ev,T.run]at h
end
end Go.Proofs.YtfagfflkgmcnpaaGreatDoor.Kx
namespace Go.Proofs.YtfagfflkgmcnpaaGreatDoor.Kx
open Go Go.Conc
def Obj.noView:Obj->Prop
 | .view _ _=>False
 | _=>True
def Tame{α:Type}(Gd:Nat->Prop):Sem α->Prop
 | .pure _=>True
 | .halt _=>True
 | .load _ a k=>Gd a.block/\ ∀v,Tame Gd (k v)
 | .store _ a _ k=>Gd a.block/\Tame Gd k
 | .new _ k =>∀r,Tame Gd (k r)
 | .shape _ k =>∀r,Tame Gd (k r)
 | .freeze _ _ k=>Tame Gd k
 | .frozen _ k =>∀r,Tame Gd (k r)
 | .getObj r k=>Gd r/\ ∀o,Tame Gd (k o)
 | .setObj r o k=>Gd r/\Obj.noView o/\Tame Gd k
 | .choose _ k =>∀r,Tame Gd (k r)
 | .program k =>∀r,Tame Gd (k r)
 | .mark m k=>m = .noRoom/\Tame Gd k
 | .sys _ _=>False
def GdW(Gd:Nat->Prop)(w:World):Prop :=∀r,Gd r ->∃o,w.heap[r]? = some o/\Obj.noView o
def EvGd(Gd:Nat->Prop)(e:Event):Prop:=match e.loc with
 | .cell a=>Gd a.block
 | .obj r=>Gd r
 | .mark m=>m = .noRoom
 | _=>False
section
variable{Gd:Nat->Prop}{w:World}
theorem GdW.lt(h:GdW Gd w){r:Nat}(hr:Gd r):r<w.heap.size:=by
 obtain⟨o,h1,_⟩:=h r hr
 exact(Array.getElem?_eq_some_iff.1 h1).1
theorem GdW.push(h:GdW Gd w)(o:Obj):GdW Gd {w with heap:=w.heap.push o}:=fun r hr=>by
 obtain⟨o',h1,h2⟩:=h r hr
 have:=(Array.getElem?_eq_some_iff.1 h1).1
 exact⟨o',by show(w.heap.push o)[r]? = _;rw[Array.getElem?_push,dA (by omega)];exact h1,h2⟩
theorem GdW.set(h:GdW Gd w)(b:Nat){o:Obj}(ho:Obj.noView o):GdW Gd {w with heap:=w.heap.setIfInBounds b o}:=fun r hr=>by
 obtain⟨o',h1,h2⟩:=h r hr
 show ∃o',(w.heap.setIfInBounds b o)[r]? = some o'/\Obj.noView o'
 by_cases e:b=r
 .subst e
  exact⟨o,by rw[Array.getElem?_setIfInBounds_self_of_lt (Array.getElem?_eq_some_iff.1 h1).1],ho⟩
 .exact⟨o',by rw[Array.getElem?_setIfInBounds_ne e];exact h1,h2⟩
theorem GdW.heap{w':World}(h:GdW Gd w)(e:w'.heap=w.heap):GdW Gd w':=fun r hr=>by rw[e];exact h r hr
theorem GdW.modify(h:GdW Gd w)(b:Nat){f:Obj->Obj}(hf : ∀o,Obj.noView o->Obj.noView (f o)):GdW Gd {w with heap:=w.heap.modify b f}:=fun r hr=>by
 obtain⟨o,h1,h2⟩:=h r hr
 show ∃o',(w.heap.modify b f)[r]? = some o'/\Obj.noView o'
 rw[Array.getElem?_modify]
 split
 .exact⟨f o,by rw[h1];rfl,hf o h2⟩
 .exact⟨o,h1,h2⟩
theorem GdW.cell(h:GdW Gd w)(a:Addr)(v:Value):GdW Gd (w.setCell a v):=h.modify _ fun o ho=>by cases o<;>first|trivial|exact ho
theorem GdW.freeze(h:GdW Gd w)(a:Addr)(n:Nat):GdW Gd (w.freeze a n):=by
 unfold World.freeze
 split
 .exact h
 .exact h.modify _ fun o ho=>by cases o<;>first|trivial|exact ho
theorem add_block(a:Addr)(n:Nat):(a.add n).block=a.block:=by unfold Addr.add;split<;>rfl
theorem xcU(P:Program){a:Addr}(q:Bool)(h:GdW Gd w)(ha:Gd a.block) : ∃hh,w.farLoad P a q = .error hh:=by
 obtain⟨o,h1,h2⟩:=h _ ha
 unfold World.farLoad
 rw[h1]
 cases o<;>first|exact⟨_,rfl⟩|exact h2.elim
theorem xat(P:Program){a:Addr}(v:Value)(q:Bool)(h:GdW Gd w)(ha:Gd a.block) : ∃hh,w.farStore P a v q = .error hh:=by
 obtain⟨o,h1,h2⟩:=h _ ha
 unfold World.farStore
 rw[h1]
 cases o<;>first|exact⟨_,rfl⟩|exact h2.elim
theorem Tame.listed{α:Type}(P:Program) : ∀ (x:Sem α),Tame Gd x ->∀w es,GdW Gd w ->∀ev∈x.events P w es,ev∈es\/EvGd Gd ev:=by
 intro x
 induction x with
 | pure a=>intro _ w es _ ev h;exact .inl h
 | halt h=>intro _ w es _ ev h;exact .inl h
 | new o k ih=>intro h w es hw;exact ih _ (h _) _ es (hw.push o)
 | shape r k ih=>intro h w es hw;exact ih _ (h _) _ es hw
 | freeze a n k ih=>intro h w es hw;exact ih h _ es (hw.freeze a n)
 | frozen a k ih=>intro h w es hw;exact ih _ (h _) _ es hw
 | choose q k ih=>
  intro h w es hw
  simp only[Sem.events,Sem.runT]
  split
  .exact ih _ (h _) _ es hw
  .exact ih _ (h _) _ es (hw.heap rfl)
 | program k ih=>intro h w es hw;exact ih _ (h _) _ es hw
 | load m a k ih=>
  intro h w es hw ev
  obtain⟨hh,hf⟩:=xcU P (m == .atomic) hw h.1
  simp only[Sem.events,Sem.runT,hf]
  split
  .intro he
   rcases ih _ (h.2 _) w _ hw ev he with h1|h1
   .rcases Array.mem_push.1 h1 with h1|rfl
    .exact .inl h1
    .exact .inr h.1
   .exact .inr h1
  .exact .inl
 | store m a v k ih=>
  intro h w es hw ev
  obtain⟨hh,hf⟩:=xat P v (m == .atomic) hw h.1
  have main:ev∈((match w.cell? a with
    | some _=>if w.frozen? a then(.halt (.unsupported (.unsafePointer "a write to bytes that a string shares")) w,es)else k.runT P (w.setCell a v) (es.push ⟨.cell a,true,m == .atomic⟩)
    | none=>match w.farStore P a v (m == .atomic) with
     | .ok (w,touched)=>k.runT P w (es++touched.toArray.map (⟨.cell ·,true,m == .atomic⟩))
     | .error h=>(.halt h w,es):Result α×Array Event)).2->ev∈es\/EvGd Gd ev:=by
   rw[hf]
   split
   .split
    .exact .inl
    .intro he
     rcases ih h.2 _ _ (hw.cell a v) ev he with h1|h1
     .rcases Array.mem_push.1 h1 with h1|rfl
      .exact .inl h1
      .exact .inr h.1
     .exact .inr h1
   .exact .inl
  cases v<;>first|exact fun he =>.inl he|exact main
 | getObj r k ih=>
  intro h w es hw ev
  simp only[Sem.events,Sem.runT]
  split
  .exact .inl
  .intro he
   rcases ih _ (h.2 _) w _ hw ev he with h1|h1
   .rcases Array.mem_push.1 h1 with h1|rfl
    .exact .inl h1
    .exact .inr h.1
   .exact .inr h1
  .exact .inl
 | setObj r o k ih=>
  intro h w es hw ev
  simp only[Sem.events,Sem.runT]
  split
  .exact .inl
  .intro he
   rcases ih h.2.2 _ _ (hw.set r h.2.1) ev he with h1|h1
   .rcases Array.mem_push.1 h1 with h1|rfl
    .exact .inl h1
    .exact .inr h.1
   .exact .inr h1
  .exact .inl
 | sys c k ih=>intro h;exact h.elim
 | mark m k ih=>
  intro h w es hw ev he
  rcases ih h.2 w _ hw ev he with h1|h1
  .rcases Array.mem_push.1 h1 with h1|rfl
   .exact .inl h1
   .exact .inr h.1
  .exact .inr h1
theorem Tame.off{α:Type}{F:Nat->Prop}(P:Program){x:Sem α}(h:Tame Gd x)(hw:GdW Gd w)(hF : ∀b,Gd b ->¬F b) : ∀ev∈x.events P w #[],EvOff F w.heap.size ev:=fun ev he=>by
 rcases h.listed P x w #[] hw ev he with h1|h1
 .simp at h1
 .obtain⟨l,wr,sy⟩:=ev
  cases l with
  | cell a=>exact⟨hF _ h1,hw.lt h1⟩
  | obj r=>exact⟨hF _ h1,hw.lt h1⟩
  | mark m=>exact h1
  | output=>exact h1.elim
  | goroutines=>exact h1.elim
theorem VR{α β:Type} : ∀ (x:Sem α) (f:α->Sem β),Tame Gd x->(∀a,Tame Gd (f a))->Tame Gd (x.bind f):=by
 intro x f
 induction x with
 | pure a=>intro _ hf;exact hf a
 | halt h=>intro _ _;trivial
 | new o k ih=>intro h hf r;exact ih r (h r) hf
 | shape r k ih=>intro h hf r;exact ih r (h r) hf
 | freeze a n k ih=>intro h hf;exact ih h hf
 | frozen a k ih=>intro h hf r;exact ih r (h r) hf
 | choose q k ih=>intro h hf r;exact ih r (h r) hf
 | program k ih=>intro h hf r;exact ih r (h r) hf
 | load m a k ih=>intro h hf;exact⟨h.1,fun v=>ih v (h.2 v) hf⟩
 | store m a v k ih=>intro h hf;exact⟨h.1,ih h.2 hf⟩
 | getObj r k ih=>intro h hf;exact⟨h.1,fun v=>ih v (h.2 v) hf⟩
 | setObj r o k ih=>intro h hf;exact⟨h.1,h.2.1,ih h.2.2 hf⟩
 | sys c k ih=>intro h;exact h.elim
 | mark m k ih=>intro h hf;exact⟨h.1,ih h.2 hf⟩
theorem xf{α β:Type}{x:Sem α}{f:α->Sem β}(hx:Tame Gd x)(hf : ∀a,Tame Gd (f a)):Tame Gd (x >>= f):=VR x f hx hf
theorem xr{α:Type}(a:α):Tame Gd (pure a:Sem α):=trivial
theorem yL{α β:Type}{x:Sem α}(f:α->β)(hx:Tame Gd x):Tame Gd (f <$> x):=VR x _ hx fun a=>trivial
theorem tame_program:Tame Gd program:=fun _=>trivial
theorem xJ{α:Type}(s:String):Tame Gd (stuck s:Sem α):=trivial
theorem xQ{α:Type}(s:Unsupported):Tame Gd (unsupported s:Sem α):=trivial
theorem yr{α:Type}(s:Value):Tame Gd (goPanic s:Sem α):=trivial
theorem xX(q:Question):Tame Gd (choose q):=fun _=>trivial
theorem ym(r:Nat):Tame Gd (shape r):=fun _=>trivial
theorem xY(a:Addr):Tame Gd (frozen a):=fun _=>trivial
theorem xZ(o:Obj):Tame Gd (newObj o):=fun _=>trivial
theorem xau{a:Addr}(h:Gd a.block)(m:Mode):Tame Gd (load a m):=⟨h,fun _=>trivial⟩
theorem xeg{a:Addr}(h:Gd a.block)(v:Value)(m:Mode):Tame Gd (store a v m):=⟨h,trivial⟩
theorem xz(t:TypeId):Tame Gd (typeInfo t):=xf tame_program fun p=>by split<;>trivial
theorem xi(t:TypeId):Tame Gd (underlying t):=xf tame_program fun p=>by split<;>trivial
theorem xF(t:TypeId):Tame Gd (sizeOf t):=xf (xz t) fun _=>trivial
theorem yc(t:TypeId):Tame Gd (isAgg t):=xf (xi t) fun _=>by split<;>trivial
theorem xB(t:TypeId):Tame Gd (zeroValue t):=xf (xz t) fun _=>by split<;>trivial
theorem yg(t:TypeId)(cs:Array Value)(off:Nat):Tame Gd (part t cs off):=by
 unfold part
 refine xf (yc t) fun b =>?_
 split
 .exact xf (xF t) fun _=>trivial
 .split<;>trivial
theorem ya(v:Value):Tame Gd (asBool v):=by unfold asBool;split<;>trivial
theorem xP(v:Value):Tame Gd (asIntOf v):=by unfold asIntOf;split<;>trivial
theorem yt(v:Value):Tame Gd (asInt v):=xf (xP v) fun _=>trivial
theorem yu(v:Value):Tame Gd (asAgg v):=by unfold asAgg;split<;>trivial
theorem xS(t:TypeId)(cs:Array Value):Tame Gd (newRow t cs):=xf (xZ _) fun _=>trivial
theorem xO(t:TypeId)(v:Value):Tame Gd (newVar t v):=xS _ _
theorem yb(t:TypeId):Tame Gd (elemOf t):=xf (xi t) fun _=>by split<;>trivial
theorem xT(n:Nat):Tame Gd (askRoom n):=by
 unfold askRoom
 split
 .exact⟨rfl,trivial⟩
 .trivial
theorem xo{α:Type}(e:RuntimeError):Tame Gd (runtimePanic e:Sem α):=by
 unfold runtimePanic
 refine xf tame_program fun p =>?_
 dsimp only
 split
 all_goals first
  | trivial
  | exact xf (yb _) fun _=>xf (xO _ _) fun _=>trivial
theorem yj(v:Value):Tame Gd (asAddr v):=by unfold asAddr;split<;>first|trivial|exact xo _
theorem xA(v:Value):Tame Gd (Instr.sureAddr v):=by unfold Instr.sureAddr;split<;>trivial
theorem xD{α:Type}(k:IntKind)(x y:Int)(c:BoundsCode):Tame Gd (boundsPanic k x y c:Sem α):=by
 unfold boundsPanic
 (repeat' (first|exact xo _|exact tame_program|exact ym _|exact xJ _|exact xr _|exact xQ _|exact xX _|exact yr _|exact xZ _|exact xY _|exact xz _|exact xi _|exact xF _|exact yc _|exact xB _|exact yg _ _ _|exact ya _|exact xP _|exact yt _|exact yu _|exact xS _ _|exact xO _ _|exact yb _|exact trivial|(refine xf ?_ fun _ =>?_)|(refine yL _ ?_)|split|dsimp only))
theorem xav{α β:Type}(f:α->Sem β)(hf : ∀a,Tame Gd (f a)) : ∀l:List α,Tame Gd (l.mapM f)
 | []=>by rw[List.mapM_nil];trivial
 | a::l=>by rw[List.mapM_cons];exact xf (hf a) fun _=>xf (xav f hf l) fun _=>trivial
theorem xgO{α β:Type}(f:α->Sem β)(hf : ∀a,Tame Gd (f a))(l:Array α):Tame Gd (l.mapM f):=by
 rw[Array.mapM_eq_mapM_toList]
 exact yL _ (xav f hf _)
theorem xeh(t:TypeId):Tame Gd (Instr.alloc t true (.tuple #[])):=xf (xB t) fun _=>xf (xO _ _) fun _=>trivial
theorem xhX(t:TypeId)(v:Value):Tame Gd (Instr.box t v):=xf (xO _ _) fun _=>trivial
theorem xei(t:TypeId)(ps:Array (Nat×Value)):Tame Gd (Instr.build t ps):=by
 unfold Instr.build
 (repeat' (first|(refine xgO _ (fun _ =>?_) _)|exact tame_program|exact ym _|exact xJ _|exact xr _|exact xQ _|exact xX _|exact yr _|exact xZ _|exact xY _|exact xz _|exact xi _|exact xF _|exact yc _|exact xB _|exact yg _ _ _|exact ya _|exact xP _|exact yt _|exact yu _|exact xS _ _|exact xO _ _|exact yb _|exact xo _|exact xD _ _ _ _|exact yj _|exact xA _|exact xT _|exact trivial|(refine xf ?_ fun _ =>?_)|(refine yL _ ?_)|split|dsimp only))
theorem Wx(t:TypeId)(n:Nat)(ps:Array (Nat×Value)):Tame Gd (Instr.buildSlice t n ps):=by
 unfold Instr.buildSlice
 (repeat' (first|exact tame_program|exact ym _|exact xJ _|exact xr _|exact xQ _|exact xX _|exact yr _|exact xZ _|exact xY _|exact xz _|exact xi _|exact xF _|exact yc _|exact xB _|exact yg _ _ _|exact ya _|exact xP _|exact yt _|exact yu _|exact xS _ _|exact xO _ _|exact yb _|exact xo _|exact xD _ _ _ _|exact yj _|exact xA _|exact xT _|exact trivial|(refine xf ?_ fun _ =>?_)|(refine yL _ ?_)|split|dsimp only))
theorem xej(t:TypeId)(v:Value)(f:Nat):Tame Gd (Instr.field t v f):=by
 unfold Instr.field
 (repeat' (first|exact tame_program|exact ym _|exact xJ _|exact xr _|exact xQ _|exact xX _|exact yr _|exact xZ _|exact xY _|exact xz _|exact xi _|exact xF _|exact yc _|exact xB _|exact yg _ _ _|exact ya _|exact xP _|exact yt _|exact yu _|exact xS _ _|exact xO _ _|exact yb _|exact xo _|exact xD _ _ _ _|exact yj _|exact xA _|exact xT _|exact trivial|(refine xf ?_ fun _ =>?_)|(refine yL _ ?_)|split|dsimp only))
theorem xbl(t:TypeId)(v i:Value):Tame Gd (Instr.indexAt t v i):=by
 unfold Instr.indexAt
 (repeat' (first|exact tame_program|exact ym _|exact xJ _|exact xr _|exact xQ _|exact xX _|exact yr _|exact xZ _|exact xY _|exact xz _|exact xi _|exact xF _|exact yc _|exact xB _|exact yg _ _ _|exact ya _|exact xP _|exact yt _|exact yu _|exact xS _ _|exact xO _ _|exact yb _|exact xo _|exact xD _ _ _ _|exact yj _|exact xA _|exact xT _|exact trivial|(refine xf ?_ fun _ =>?_)|(refine yL _ ?_)|split|dsimp only))
theorem xek(t:TypeId)(v i:Value):Tame Gd (Instr.index t v i):=by
 unfold Instr.index
 (repeat' (first|exact tame_program|exact ym _|exact xJ _|exact xr _|exact xQ _|exact xX _|exact yr _|exact xZ _|exact xY _|exact xz _|exact xi _|exact xF _|exact yc _|exact xB _|exact yg _ _ _|exact ya _|exact xP _|exact yt _|exact yu _|exact xS _ _|exact xO _ _|exact yb _|exact xo _|exact xD _ _ _ _|exact yj _|exact xA _|exact xT _|exact trivial|(refine xf ?_ fun _ =>?_)|(refine yL _ ?_)|split|dsimp only))
theorem xbm(t:TypeId)(v:Value):Tame Gd (Instr.arrayAt t v):=by
 unfold Instr.arrayAt
 (repeat' (first|exact tame_program|exact ym _|exact xJ _|exact xr _|exact xQ _|exact xX _|exact yr _|exact xZ _|exact xY _|exact xz _|exact xi _|exact xF _|exact yc _|exact xB _|exact yg _ _ _|exact ya _|exact xP _|exact yt _|exact yu _|exact xS _ _|exact xO _ _|exact yb _|exact xo _|exact xD _ _ _ _|exact yj _|exact xA _|exact xT _|exact trivial|(refine xf ?_ fun _ =>?_)|(refine yL _ ?_)|split|dsimp only))
theorem qE(x:Value)(y:Nat)(c:BoundsCode):Tame Gd (Instr.sliceBound x y c):=by
 unfold Instr.sliceBound
 (repeat' (first|exact tame_program|exact ym _|exact xJ _|exact xr _|exact xQ _|exact xX _|exact yr _|exact xZ _|exact xY _|exact xz _|exact xi _|exact xF _|exact yc _|exact xB _|exact yg _ _ _|exact ya _|exact xP _|exact yt _|exact yu _|exact xS _ _|exact xO _ _|exact yb _|exact xo _|exact xD _ _ _ _|exact yj _|exact xA _|exact xT _|exact trivial|(refine xf ?_ fun _ =>?_)|(refine yL _ ?_)|split|dsimp only))
theorem jT(b:Bool)(l c:Nat)(x y z:Option Value):Tame Gd (Instr.sliceBounds b l c x y z):=by
 unfold Instr.sliceBounds
 (repeat' (first|exact qE _ _ _|exact tame_program|exact ym _|exact xJ _|exact xr _|exact xQ _|exact xX _|exact yr _|exact xZ _|exact xY _|exact xz _|exact xi _|exact xF _|exact yc _|exact xB _|exact yg _ _ _|exact ya _|exact xP _|exact yt _|exact yu _|exact xS _ _|exact xO _ _|exact yb _|exact xo _|exact xD _ _ _ _|exact yj _|exact xA _|exact xT _|exact trivial|(refine xf ?_ fun _ =>?_)|(refine yL _ ?_)|split|dsimp only))
theorem xel(t:TypeId)(x:Value)(l h m:Option Value):Tame Gd (Instr.slice t x l h m):=by
 unfold Instr.slice
 (repeat' (first|exact jT _ _ _ _ _ _|exact tame_program|exact ym _|exact xJ _|exact xr _|exact xQ _|exact xX _|exact yr _|exact xZ _|exact xY _|exact xz _|exact xi _|exact xF _|exact yc _|exact xB _|exact yg _ _ _|exact ya _|exact xP _|exact yt _|exact yu _|exact xS _ _|exact xO _ _|exact yb _|exact xo _|exact xD _ _ _ _|exact yj _|exact xA _|exact xT _|exact trivial|(refine xf ?_ fun _ =>?_)|(refine yL _ ?_)|split|dsimp only))
theorem XV(t:TypeId)(x:Value)(l h m:Option Value):Tame Gd (Instr.sliceAt t x l h m):=by
 unfold Instr.sliceAt
 (repeat' (first|exact tame_program|exact ym _|exact xJ _|exact xr _|exact xQ _|exact xX _|exact yr _|exact xZ _|exact xY _|exact xz _|exact xi _|exact xF _|exact yc _|exact xB _|exact yg _ _ _|exact ya _|exact xP _|exact yt _|exact yu _|exact xS _ _|exact xO _ _|exact yb _|exact xo _|exact xD _ _ _ _|exact yj _|exact xA _|exact xT _|exact qE _ _ _|exact jT _ _ _ _ _ _|exact xel _ _ _ _ _|exact trivial|(refine xf ?_ fun _ =>?_)|(refine yL _ ?_)|split|dsimp only))
theorem xbn(v:Value)(i:Nat):Tame Gd (Instr.extract v i):=by
 unfold Instr.extract
 (repeat' (first|exact tame_program|exact ym _|exact xJ _|exact xr _|exact xQ _|exact xX _|exact yr _|exact xZ _|exact xY _|exact xz _|exact xi _|exact xF _|exact yc _|exact xB _|exact yg _ _ _|exact ya _|exact xP _|exact yt _|exact yu _|exact xS _ _|exact xO _ _|exact yb _|exact xo _|exact xD _ _ _ _|exact yj _|exact xA _|exact xT _|exact trivial|(refine xf ?_ fun _ =>?_)|(refine yL _ ?_)|split|dsimp only))
theorem Xo(t:TypeId)(v:Value):Tame Gd (Instr.makeInterface t v):=by
 unfold Instr.makeInterface
 (repeat' (first|exact tame_program|exact ym _|exact xJ _|exact xr _|exact xQ _|exact xX _|exact yr _|exact xZ _|exact xY _|exact xz _|exact xi _|exact xF _|exact yc _|exact xB _|exact yg _ _ _|exact ya _|exact xP _|exact yt _|exact yu _|exact xS _ _|exact xO _ _|exact yb _|exact xo _|exact xD _ _ _ _|exact yj _|exact xA _|exact xT _|exact trivial|(refine xf ?_ fun _ =>?_)|(refine yL _ ?_)|split|dsimp only))
theorem xbo(t:TypeId):Tame Gd (Instr.makeMap t none):=by
 unfold Instr.makeMap
 (repeat' (first|exact tame_program|exact ym _|exact xJ _|exact xr _|exact xQ _|exact xX _|exact yr _|exact xZ _|exact xY _|exact xz _|exact xi _|exact xF _|exact yc _|exact xB _|exact yg _ _ _|exact ya _|exact xP _|exact yt _|exact yu _|exact xS _ _|exact xO _ _|exact yb _|exact xo _|exact xD _ _ _ _|exact yj _|exact xA _|exact xT _|exact trivial|(refine xf ?_ fun _ =>?_)|(refine yL _ ?_)|split|dsimp only))
set_option maxHeartbeats 2000000 in
theorem VS(t:TypeId)(x y:Value):Tame Gd (Instr.makeSlice t x y):=by
 unfold Instr.makeSlice
 (repeat' (first|exact tame_program|exact ym _|exact xJ _|exact xr _|exact xQ _|exact xX _|exact yr _|exact xZ _|exact xY _|exact xz _|exact xi _|exact xF _|exact yc _|exact xB _|exact yg _ _ _|exact ya _|exact xP _|exact yt _|exact yu _|exact xS _ _|exact xO _ _|exact yb _|exact xo _|exact xD _ _ _ _|exact yj _|exact xA _|exact xT _|exact trivial|(refine xf ?_ fun _ =>?_)|(refine yL _ ?_)|split|dsimp only))
/-! ### cells -/
theorem VT{a:Addr}(h:Gd a.block) : ∀ (n i:Nat) (acc:Array Value),Tame Gd (loadCellsFrom a i n acc)
 | 0,i,acc=>trivial
 | n+1,i,acc=>xf (xau (by rw[add_block];exact h) _) fun v=>VT h n (i+1) _
theorem Zg{a:Addr}(h:Gd a.block)(n:Nat):Tame Gd (loadCells a n):=VT h n 0 #[]
theorem Zh{a:Addr}(h:Gd a.block) : ∀ (vs:List Value) (i:Nat),Tame Gd (storeCells a vs i)
 | [],i=>trivial
 | v::vs,i=>xf (xeg (by rw[add_block];exact h) _ _) fun _=>Zh h vs (i+1)
theorem xbp(t:TypeId){a:Addr}(h:Gd a.block):Tame Gd (loadVar t a):=by
 unfold loadVar
 refine xf (yc t) fun b =>?_
 split
 .exact xf (xF t) fun n=>xf (Zg h n) fun _=>trivial
 .exact xau h _
theorem ZT(t:TypeId){a:Addr}(h:Gd a.block)(v:Value):Tame Gd (storeVar t a v):=by
 unfold storeVar
 refine xf (xF t) fun n =>?_
 dsimp only
 split
 .exact xJ _
 .exact Zh h _ _
end
end Go.Proofs.YtfagfflkgmcnpaaGreatDoor.Kx
namespace Go.Proofs.YtfagfflkgmcnpaaGreatDoor.Kx
open Go Go.Conc Lx
section
variable{P:Program}{Gd:Nat->Prop}{w:World}
def Tm{α:Type}(P:Program)(Gd:Nat->Prop)(x:Sem α):Prop :=∀w,GdW Gd w->(∀es,∀ev∈x.events P w es,ev∈es\/EvGd Gd ev)/\ ∀a w',x.run P w = .ok a w'->GdW Gd w'
theorem Tame.run{α:Type}(P:Program) : ∀ (x:Sem α),Tame Gd x ->∀w,GdW Gd w ->∀a w',x.run P w = .ok a w'->GdW Gd w':=by
 intro x
 induction x with
 | pure a=>intro _ w hw b w' h;cases h;exact hw
 | halt h=>intro _ w hw b w' h;cases h
 | new o k ih=>intro h w hw;exact ih _ (h _) _ (hw.push o)
 | shape r k ih=>intro h w hw;exact ih _ (h _) _ hw
 | freeze a n k ih=>intro h w hw;exact ih h _ (hw.freeze a n)
 | frozen a k ih=>intro h w hw;exact ih _ (h _) _ hw
 | choose q k ih=>
  intro h w hw b w'
  simp only[Sem.run]
  split
  .exact ih _ (h _) _ hw b w'
  .exact ih _ (h _) {w with drawn:=w.drawn+1} (hw.heap rfl) b w'
 | program k ih=>intro h w hw;exact ih _ (h _) _ hw
 | load m a k ih=>
  intro h w hw b w'
  obtain⟨hh,hf⟩:=xcU P (m == .atomic) hw h.1
  simp only[Sem.run,hf]
  split
  .exact ih _ (h.2 _) w hw b w'
  .exact fun x=>by cases x
 | store m a v k ih=>
  intro h w hw b w'
  obtain⟨hh,hf⟩:=xat P v (m == .atomic) hw h.1
  have main:(match w.cell? a with
    | some _=>if w.frozen? a then .halt (.unsupported (.unsafePointer "a write to bytes that a string shares")) w else k.run P (w.setCell a v)
    | none=>match w.farStore P a v (m == .atomic) with
     | .ok (w,_)=>k.run P w
     | .error h =>.halt h w:Result α) = .ok b w'->GdW Gd w':=by
   rw[hf]
   split
   .split
    .exact fun x=>by cases x
    .exact ih h.2 _ (hw.cell a v) b w'
   .exact fun x=>by cases x
  cases v<;>first|exact fun x=>by cases x|exact main
 | getObj r k ih=>
  intro h w hw b w'
  simp only[Sem.run]
  split
  .exact fun x=>by cases x
  .exact ih _ (h.2 _) w hw b w'
  .exact fun x=>by cases x
 | setObj r o k ih=>
  intro h w hw b w'
  simp only[Sem.run]
  split
  .exact fun x=>by cases x
  .exact ih h.2.2 _ (hw.set r h.2.1) b w'
  .exact fun x=>by cases x
 | sys c k ih=>intro h;exact h.elim
 | mark m k ih=>intro h w hw;exact ih h.2 w hw
theorem Tame.tm{α:Type}{x:Sem α}(h:Tame Gd x):Tm P Gd x:=fun w hw=>⟨fun es=>h.listed P x w es hw,fun a w'=>h.run P x w hw a w'⟩
theorem yn{α β:Type}{x:Sem α}{f:α->Sem β}(hx:Tm P Gd x)(hf : ∀a w w',GdW Gd w->x.run P w = .ok a w'->Tm P Gd (f a)):Tm P Gd (x >>= f):=by
 intro w hw
 obtain⟨h1,h2⟩:=hx w hw
 rw[show(x >>= f).run P w=(x.run P w).andThen fun a w'=>(f a).run P w' from Sem.run_bind ..]
 have bt : ∀es,(x >>= f).events P w es=(x.run P w).evThen (x.events P w es) fun a w' Du=>(f a).events P w' Du:=fun es=>Sem.events_bind ..
 cases hr:x.run P w with
 | halt h w'=>
  refine⟨fun es ev he =>?_,fun a w' h=>by cases h⟩
  rw[bt,hr]at he
  exact h1 es ev he
 | ok a w'=>
  have f6:=h2 a w' hr
  obtain⟨h3,h4⟩:=hf a w w' hw hr w' f6
  refine⟨fun es ev he =>?_,fun b w₂ h=>h4 b w₂ h⟩
  rw[bt,hr]at he
  rcases h3 _ ev he with h|h
  .exact h1 es ev h
  .exact .inr h
theorem xC{α:Type}(a:α):Tm P Gd (pure a:Sem α):=(xr a).tm
theorem ye{α β:Type}{x:Sem α}{f:α->Sem β}{a:α}(hx:Tm P Gd x)(hr : ∀w,x.run P w = .ok a w)(hf:Tm P Gd (f a)):Tm P Gd (x >>= f):=yn hx fun b w w' _ h=>by
 rw[hr]at h
 cases h
 exact hf
theorem Tm.off{α:Type}{F:Nat->Prop}{x:Sem α}(h:Tm P Gd x)(hw:GdW Gd w)(hF : ∀b,Gd b ->¬F b) : ∀ev∈x.events P w #[],EvOff F w.heap.size ev:=fun ev he=>by
 rcases(h w hw).1 #[] ev he with h1|h1
 .simp at h1
 .obtain⟨l,wr,sy⟩:=ev
  cases l with
  | cell a=>exact⟨hF _ h1,hw.lt h1⟩
  | obj r=>exact⟨hF _ h1,hw.lt h1⟩
  | mark m=>exact h1
  | output=>exact h1.elim
  | goroutines=>exact h1.elim
theorem qt{t:TypeId}{a:Addr}{cells:List C}{o:Nat}{v:V}(h:partT P t cells o=some v)(hg:cells ≠ []->Gd a.block):Tm P Gd (loadVar t a):=by
 by_cases hc:cells = []
 .subst hc
  unfold partT KM at h
  split at h
  .rename_i n hu hn
   rw[oM]at hu h
   obtain⟨d,hd,dr⟩:=hu
   obtain⟨l,hl,rfl⟩:=h
   obtain rfl:n=0:=(Ys hl).1
   unfold loadVar
   refine ye (yc t).tm (wZ hd) ?_
   rw[dr]
   exact ye (xF t).tm (xw hn) (ye (a:= #[]) (xC _) (fun _=>rfl) (xC _))
  .split at h
   .rename_i x hx
    have:=Zt hx
    simp at this
   .cases h
  .cases h
 .exact(xbp t (hg hc)).tm
/-! ### equality -/
theorem xem(k:IntKind)(n:Int)(m:Nat)(t:TypeId)(y:Value):Tame Gd (Op.equalIn m t (.int k n) y):=by
 cases m with
 | zero=>exact xQ _
 | succ m=>
  simp only[Op.equalIn]
  refine xf (xi t) fun d =>?_
  split<;>first|trivial|(rename_i h;cases h;done)|(split<;>trivial)
/-! ### append -/
def xaw(Gd:Nat->Prop)(v:Value):Prop:=(∃b,v = .slice b 0 0)\/ ∃a n c,v = .slice (some a) n c/\Gd a.block
def Wp(Gd:Nat->Prop)(v:Value):Prop:=(∃b c,v = .slice b 0 c)\/ ∃a n c,v = .slice (some a) n c/\Gd a.block
theorem xgP{t el ty:TypeId}{sv xv:Value}(hu:P.underlying t=some (.slice el))(hs:xaw Gd sv)(hx:Wp Gd xv):Tm P Gd (Builtin.append_ #[t,t] ty #[sv,xv]):=by
 obtain⟨sb,sn,sc,rfl,d5⟩ : ∃sb sn sc,sv = .slice sb sn sc/\((sn=0/\sc=0)\/ ∃a,sb=some a/\Gd a.block):=by
  rcases hs with⟨b,rfl⟩|⟨a,n,c,rfl,h⟩
  .exact⟨_,_,_,rfl,.inl ⟨rfl,rfl⟩⟩
  .exact⟨_,_,_,rfl,.inr ⟨a,rfl,h⟩⟩
 obtain⟨xb,xn,xc,rfl,cr⟩ : ∃xb xn xc,xv = .slice xb xn xc/\(xn=0\/ ∃a,xb=some a/\Gd a.block):=by
  rcases hx with⟨b,c,rfl⟩|⟨a,n,c,rfl,h⟩
  .exact⟨_,_,_,rfl,.inl rfl⟩
  .exact⟨_,_,_,rfl,.inr ⟨a,rfl,h⟩⟩
 have first : ∀ (b:Option Addr) (n c sz:Nat),(n=0\/ ∃a,b=some a/\Gd a.block)->Tame Gd (Builtin.firstCells sz n (.slice b n c)):=by
  intro b n c sz h
  cases b with
  | none=>exact xr _
  | some a=>
   rcases h with rfl|⟨a',ha,h⟩
   .simp only[Builtin.firstCells,Nat.zero_mul]
    exact xr _
   .cases ha
    exact Zg h _
 unfold Builtin.append_
 simp only[List.getElem?_toArray,List.getElem?_cons_zero,List.getElem?_cons_succ]
 refine ye (xi t).tm (xa hu) ?_
 dsimp only
 refine yn (xF el).tm fun sz _ _ _ _ =>?_
 refine ye (a:=TypeDesc.slice el) (xi t).tm (xa hu) ?_
 refine ye (a:=false) (xC _) (fun _=>rfl) ?_
 simp only[Bool.false_eq_true,if_false,Bool.not_false,if_true,false_or]
 refine ye (a:=xn) (xC _) (fun _=>rfl) ?_
 have fx:=first xb xn xc sz cr
 have fs:Tame Gd (Builtin.firstCells sz sn (.slice sb sn sc)):=first sb sn sc sz (d5.imp (·.1) id)
 split
 .rename_i bu
  rcases d5 with⟨rfl,rfl⟩|⟨a,rfl,ha⟩
  .obtain rfl:xn=0:=by omega
   have hf:Builtin.firstCells sz 0 (.slice xb 0 xc)=pure #[]:=by
    cases xb with
    | none=>rfl
    | some a=>simp only[Builtin.firstCells,Nat.zero_mul];rfl
   rw[hf]
   refine ye (a:= #[]) (xC _) (fun _=>rfl) ?_
   split
   .exact ye (a:=()) (xC _) (fun _=>rfl) (xC _)
   .exact xC _
  .refine yn fx.tm fun new _ _ _ _ =>?_
   exact yn (Zh (by rw[add_block];exact ha) _ _).tm fun _ _ _ _ _=>xC _
 .refine Tame.tm ?_
  have tail : ∀zr:Bool,Tame Gd (do
    let newCap <- choose (Question.appendCap (sn+xn) sc el)
    let __do_lift <- typeInfo el
    askRoom (newCap*__do_lift.bytes)
    let old <- Builtin.firstCells sz sn (Value.slice sb sn sc)
    let new <- Builtin.firstCells sz xn (Value.slice xb xn xc)
    let __do_lift <- zeroValue el
    let __do_lift <- newRow el (old++new++Builtin.zeroCells __do_lift.cells (newCap-(sn+xn)))
    pure (Value.slice (some __do_lift) (sn+xn) newCap)):=fun _=>
   xf (xX _) fun _=>xf (xz _) fun _=>xf (xT _) fun _=>xf fs fun _=>xf fx fun _=>xf (xB _) fun _=>xf (xS _ _) fun _=>xr _
  have share:Tame Gd (Builtin.mayShare sz sn xn sb (.slice xb xn xc)):=by
   unfold Builtin.mayShare Builtin.holdsCells
   (repeat' (first|exact ym _|exact xY _|exact xr _|exact trivial|(refine xf ?_ fun _ =>?_)|split|dsimp only))
  (repeat' (first|exact tail true|exact share|exact xz _|exact xo _|exact xQ _|exact⟨rfl,trivial⟩|(refine xf ?_ fun _ =>?_)|split|dsimp only))
end
end Go.Proofs.YtfagfflkgmcnpaaGreatDoor.Kx
namespace Go.Proofs.YtfagfflkgmcnpaaGreatDoor.Kx
open Go Go.Conc Lx
def Good(F:Nat->Prop)(w:World)(b:Nat):Prop:= ¬F b/\ ∃o,w.heap[b]? = some o/\Obj.noView o
theorem xhY(F:Nat->Prop)(w:World):GdW (Good F w) w:=fun r h=>h.2
section
variable{ρ:Operand->Option V}{P:Program}{pv:Pv}{ra:Operand->Value}{o:Oper}{e:Env}{H:Heap}{w:World}{F:Nat->Prop}
theorem jU(E:Emb pv e H w)(hF : ∀b,Own false e H b ->¬F b){b:Nat}{k:Blk}{r:Nat×Nat}(hk:blkAt H b=some k)(hr:e[b]? = some r)(hw:k.win=none)(hv:k.virt=false)(hm:k.mapped=none):Good F w r.1:=by
 obtain⟨r',cs,tl,h1,h2,h3,_⟩:=E.row b k hk hw hv hm
 rw[hr]at h1
 cases h1
 exact⟨hF _ (vS hk hr hv),_,h3,trivial⟩
theorem YE(E:Emb pv e H w)(hF : ∀b,Own false e H b ->¬F b){b:Nat}{k:Blk}{r:Nat×Nat}(hk:blkAt H b=some k)(hr:e[b]? = some r)(hn : ∀t,k.tab=some t->t.isTok=false)(hc:k.real ≠ []):Good F w r.1:=by
 obtain⟨r',cs,h1,h2,h3⟩:=E.lies b k hk
 rw[hr]at h1
 cases h1
 obtain⟨c,l,hl⟩:=List.exists_cons_of_ne_nil hc
 have aj:=xN h2
 rw[hl]at aj
 obtain⟨v,vs,rfl⟩ : ∃v vs,cs=v::vs:=by
  cases cs with
  | nil=>simp at aj
  | cons v vs=>exact⟨v,vs,rfl⟩
 have hv:k.virt=false:=Blk.virt_some hn h2 (j:=0) rfl
 have hm:k.mapped=none:=Blk.mapped_some h2 (j:=0) rfl
 refine⟨hF _ (vS hk hr hv),?_⟩
 rcases h3.2 with h3|h3
 .rw[hv]at h3;cases h3
 .rw[hm]at h3
  cases hw:k.win with
  | none=>
   rw[hw]at h3
   obtain⟨tl,h4,_⟩:=h3
   exact⟨_,h4,trivial⟩
  | some off=>
   rw[hw]at h3
   have h4:=h3.2 0 v rfl
   unfold World.cell? at h4
   split at h4
   .rename_i hh
    exact⟨_,hh,trivial⟩
   .cases h4
theorem xbq{t:TypeId}{x:Operand}{f:Nat}{fs:Array Field}{fd:Field}{b p n:Nat}(hρ:Says pv e ρ ra)(E:Emb pv e H w)(ho:o.op = .fieldAddr t x f)(hu:P.underlying t=some (.struct fs))(hx:ρ x=some (.c (.ptr b p)))(hf:fs[f]? = some fd)
  (hn:xR P fd.type=some n) (dc:n≠0):(execOp ra o).events P w #[] = #[]:=by
 obtain⟨r,h1,h2⟩:=qk hρ hx
 simp[execOp,ho,h2,Instr.fieldAt,xa hu,hf,Instr.sureAddr,fieldPlace,xw hn,dc,yd]
theorem KI{t:TypeId}{x:Operand}{f:Nat}{fs:Array Field}{fd:Field}{b off m q n:Nat}{i:Int}(hρ:Says pv e ρ ra)(E:Emb pv e H w)(ho:o.op = .fieldAddr t x f)(hu:P.underlying t=some (.struct fs))(hx:ρ x=some (.c (.pr b off i m q)))(hf:fs[f]? = some fd)
  (hn:xR P fd.type=some n) (dc:n≠0):(execOp ra o).events P w #[] = #[]:=by
 obtain⟨r,h1,h2⟩:=Vk hρ hx
 simp[execOp,ho,h2,Instr.fieldAt,xa hu,hf,Instr.sureAddr,fieldPlace,xw hn,dc,yd]
theorem tm_conv{Gd:Nat->Prop}{s d:TypeId}{k j:IntKind}{n:Int}(hu:P.underlying d=some (.int k)):Tm P Gd (convert s d (.int j n)):=by
 unfold convert
 refine yn (xi s).tm fun a _ _ _ _=>ye (xi d).tm (xa hu) ?_
 cases a<;>exact xC _
theorem VU{Gd:Nat->Prop}(op:BinOp)(k k':IntKind)(m n:Int):Tame Gd (Op.shift op k m k' n):=by
 unfold Op.shift
 (repeat' (first|exact trivial|exact xo _|exact xr _|(refine xf ?_ fun _ =>?_)|split|dsimp only))
theorem VV{Gd:Nat->Prop}(op:BinOp)(k:IntKind)(m n:Int):Tame Gd (Op.intArith op k m n):=by
 unfold Op.intArith
 (repeat' (first|exact trivial|exact xr _|split|dsimp only))
theorem xhZ{Gd:Nat->Prop}(op:BinOp)(k:IntKind)(m n:Int):Tame Gd (Op.intDiv op k m n):=by
 unfold Op.intDiv
 (repeat' (first|exact trivial|exact xo _|exact xr _|(refine xf ?_ fun _ =>?_)|split|dsimp only))
theorem xax{Gd:Nat->Prop}(op:BinOp)(k:IntKind)(m n:Int):Tame Gd (Op.intBits op k m n):=by
 unfold Op.intBits
 (repeat' (first|exact trivial|exact xr _|split|dsimp only))
theorem xh0{Gd:Nat->Prop}(op:BinOp)(m n:Int):Tame Gd (Op.intCmp op m n):=by
 unfold Op.intCmp
 (repeat' (first|exact trivial|exact xr _|split|dsimp only))
theorem XW{Gd:Nat->Prop}{α:Type}{c:Prop}[Decidable c]{x y:Sem α}(hx:Tame Gd x)(hy:Tame Gd y):Tame Gd (if c then x else y):=by split<;>assumption
theorem xcV{Gd:Nat->Prop}(op:BinOp)(t:TypeId)(k k':IntKind)(m n:Int):Tame Gd (binOp op t (.int k m) (.int k' n)):=by
 cases op
 case shl=>exact(show Tame Gd (Op.shift .shl k m k' n)from VU _ _ _ _ _)
 case shr=>exact(show Tame Gd (Op.shift .shr k m k' n)from VU _ _ _ _ _)
 all_goals first
  | exact XW (xJ _) (VV _ _ _ _)
  | exact XW (xJ _) (xhZ _ _ _ _)
  | exact XW (xJ _) (xax _ _ _ _)
  | exact XW (xJ _) (xh0 _ _ _)
theorem KJ{Gd:Nat->Prop}(op:BinOp)(t:TypeId)(x y:Operand)(k k':IntKind)(m n:Int):Tame Gd (eqGuard op t x y (.int k m) (.int k' n)):=by
 unfold eqGuard
 (repeat' (first|exact trivial|exact xr _|(refine xf ?_ fun _ =>?_)|split|dsimp only))
theorem jV{Gd:Nat->Prop} : ∀ (l:List FieldStep) (t:TypeId) (x:Option Value),Tame Gd (followBlind l t x)
 | [],t,x=>trivial
 | s::l,t,x=>by
  unfold followBlind
  (repeat' (first|exact xi _|exact jV l _ _|exact yg _ _ _|exact xJ _|exact xr _|(refine xf ?_ fun _ =>?_)|split|dsimp only))
theorem ZU{Gd:Nat->Prop} : ∀ (n:Nat) (t:TypeId) (v:Value) (s:String),Tame Gd (nilAhead n t v s)
 | 0,t,v,s=>trivial
 | n+1,t,v,s=>by
  unfold nilAhead
  (repeat' (first|exact xz _|exact xi _|exact jV _ _ _|exact ZU n _ _ _|exact xJ _|exact xr _|(refine xf ?_ fun _ =>?_)|split|dsimp only))
theorem KK{Gd:Nat->Prop}{x:Operand}(ho:o.op = .nilCheck x):Tame Gd (execOp ra o):=by
 simp only[execOp,ho]
 (repeat' (first|exact tame_program|exact ZU _ _ _ _|exact xo _|exact xQ _|exact xr _|(refine xf ?_ fun _ =>?_)|split|dsimp only))
/-! ### append -/
theorem src_ok{Gd:Nat->Prop}{pv:Value}{s:C}{v:Value}{b n:Nat}(hs:(∃z,s = .slr b n\/ ∃o,s = .slv b z o n)\/ ∃o c,s = .sl b o n c)(hd:den pv e s=some v)(hg:n≠0 ->∀r,e[b]? = some r->Gd r.1):Wp Gd v:=by
 have zero : ∀ {r:Nat×Nat} {v:Value},qP r=some v->Wp Gd v:=fun h=>by
  rcases(vg h).2 with rfl|⟨a,rfl⟩<;>exact .inl ⟨_,_,rfl⟩
 rcases hs with⟨z,rfl|⟨o,rfl⟩⟩|⟨o,c,rfl⟩
 .simp only[den,dU]at hd
  obtain⟨r,hr,hd⟩:=hd
  split at hd
  .exact zero hd
  .rename_i h0
   split at hd
   .cases hd;exact .inr ⟨_,_,_,rfl,hg h0 r hr⟩
   .cases hd
 .simp only[den,dU]at hd
  obtain⟨r,hr,hd⟩:=hd
  split at hd
  .split at hd
   .exact zero hd
   .cases hd
  .split at hd
   .cases hd
    by_cases h0:n=0
    .subst h0;exact .inl ⟨_,_,rfl⟩
    .exact .inr ⟨_,_,_,rfl,hg h0 r hr⟩
   .cases hd
 .simp only[den,oM]at hd
  obtain⟨r,hr,rfl⟩:=hd
  by_cases h0:n=0
  .subst h0;exact .inl ⟨_,_,rfl⟩
  .exact .inr ⟨_,_,_,rfl,hg h0 r hr⟩
theorem xfs{Gd:Nat->Prop}{pv:Value}{v:Value}{b n:Nat}(hd:den pv e (.slr b n)=some v)(hg:n≠0 ->∀r,e[b]? = some r->Gd r.1):xaw Gd v:=by
 simp only[den,dU]at hd
 obtain⟨r,hr,hd⟩:=hd
 split at hd
 .rcases(vg hd).2 with rfl|⟨a,rfl⟩<;>exact .inl ⟨_,rfl⟩
 .rename_i h0
  split at hd
  .cases hd;exact .inr ⟨_,_,_,rfl,hg h0 r hr⟩
  .cases hd
theorem dst_slg{Gd:Nat->Prop}{pv:Value}{v:Value}{b n:Nat}(hd:den pv e (.slg b 0 n)=some v)(hg : ∀r,e[b]? = some r->Gd r.1):xaw Gd v:=by
 simp only[den,dU]at hd
 obtain⟨r,hr,hd⟩:=hd
 split at hd
 .cases hd;exact .inr ⟨_,_,_,rfl,hg r hr⟩
 .cases hd
theorem xgQ{ats:List TypeId}{vs:List V}{v:V}{H':Heap}(E:Emb pv e H w)(hF : ∀b,Own false e H b ->¬F b)(h:wH P ats vs H=some (.val true v H')){rs:List Value}(ha:allSome (denV pv e) vs=some rs) :
    ∃t el sv xv,ats = [t,t]/\P.underlying t=some (.slice el)/\rs = [sv,xv]/\xaw (Good F w) sv/\Wp (Good F w) xv:=by
  have two : ∀ {s x:C},vs = [.c s,.c x] ->∃sv xv,rs = [sv,xv]/\den pv e s=some sv/\den pv e x=some xv:=by
    rintro s x rfl
    simp only[allSome,denV]at ha
    split at ha
    . rename_i sv np
      split at ha
      . rename_i l hl
        split at hl
        . rename_i xv mq
          cases hl;cases ha
          exact⟨sv,xv,rfl,np,mq⟩
        . cases hl
      . cases ha
    . cases ha
  have tabN : ∀ {b:Nat} {k:Blk},blkAt H b=some k->k.tab=none ->∀r,e[b]? = some r->Good F w r.1:=fun hk ht r hr=>jU E hF hk hr (Blk.win_none ht) (Blk.virt_none ht) (Blk.mapped_none ht)
  have tabS : ∀ {b:Nat} {k:Blk} {tb:Tab} {m:Nat},blkAt H b=some k->k.tab=some tb->0<tb.cells.length ->∀r,e[b]? = some r->Good F w r.1:=fun {b k tb m} hk ht hl r hr=>by
   have hq:tb.isTok=false:=by cases tb<;>first|rfl|(simp[Tab.cells]at hl)
   refine YE E hF hk hr (fun t h=>by rw[ht]at h;cases h;exact hq) fun h0 =>?_
   . rw[Blk.real_some ht hq]at h0
     rw[h0]at hl
     simp at hl
  have nilD : ∀ {sv:Value},den pv e .nils=some sv->xaw (Good F w) sv:=fun h=>by simp only[den,oI]at h;exact .inl ⟨none,h.symm⟩
  have appV : ∀ {el:TypeId} {s x:C} {sv xv:Value},den pv e s=some sv->den pv e x=some xv->vQ P el s x H=some (.val true v H')->xaw (Good F w) sv/\Wp (Good F w) xv:=by
    intro el s x sv xv hs hx h
    unfold vQ at h
    split at h
    rotate_left
    . cases h
    rename_i z ai
    split at h
    rotate_left
    . cases h
    rename_i eo
    obtain⟨_,_,_,_,_,_,_,hz⟩:=yT eo
    split at h
    rotate_left
    . cases h
    rename_i b ww m uh
    split at h
    rotate_left
    . cases h
    rename_i k hk
    split at h
    rotate_left
    . cases h
    rename_i tb dy
    split at h
    rotate_left
    . cases h
    have srcv:(ww.getD 0+m)*z<=tb.cells.length->Wp (Good F w) xv:=fun bu=>by
      refine src_ok (b:=b) (n:=m) (.inl ?_) hx fun hm=>tabS (m:=0) hk dy ?_
      . unfold xaO at uh
        split at uh
        . split at uh
          . cases uh;exact⟨_,.inr ⟨_,rfl⟩⟩
          . cases uh
        . cases uh;exact⟨0,.inl rfl⟩
        . cases uh
      . have:0<(ww.getD 0+m)*z:=Nat.mul_pos (by omega) (by omega)
        omega
    split at h
    . rename_i b2 len
      split at h
      rotate_left
      . cases h
      rename_i k2 cw
      split at h
      rotate_left
      . cases h
      rename_i B5 ce
      split at h
      rotate_left
      . cases h
      split at h
      rotate_left
      . cases h
      rename_i g tn nk
      simp only[oI,Stp.val.injEq]at h
      obtain⟨rfl,_,_⟩:=h
      obtain⟨_,_,_,so,_,_,Bo,_⟩:=WF nk
      refine⟨xfs hs fun hl=>tabS (m:=0) cw ce ?_,srcv Bo⟩
      rw[so]
      exact Nat.mul_pos (by omega) (by omega)
    . rename_i b2
      split at h
      rotate_left
      . cases h
      split at h
      rotate_left
      . cases h
      split at h
      rotate_left
      . cases h
      rename_i g tn nk
      simp only[oI,Stp.val.injEq]at h
      obtain⟨rfl,_,_⟩:=h
      obtain⟨_,_,_,_,_,_,Bo,_⟩:=WF nk
      refine⟨?_,srcv Bo⟩
      simp only[den,oM]at hs
      obtain⟨r,_,rfl⟩:=hs
      exact .inl ⟨_,rfl⟩
    . cases h
  unfold wH at h
  split at h
  . rename_i t u s b m
    split at h
    . rename_i hc
      subst hc
      split at h
      . rename_i el hu
        obtain⟨sv,xv,g1,g2,g3⟩:=two rfl
        obtain⟨g4,g5⟩:=appV g2 g3 h
        exact⟨t,el,sv,xv,rfl,hu,g1,g4,g5⟩
      . cases h
    . cases h
  . rename_i t u s b z q m
    split at h
    . rename_i hc
      subst hc
      split at h
      . rename_i el hu
        obtain⟨sv,xv,g1,g2,g3⟩:=two rfl
        obtain⟨g4,g5⟩:=appV g2 g3 h
        exact⟨t,el,sv,xv,rfl,hu,g1,g4,g5⟩
      . cases h
    . cases h
  . rename_i t u b2 len b q n c
    split at h
    . rename_i hc
      obtain⟨rfl,rfl⟩:=hc
      split at h
      . rename_i el hu
        split at h
        . rename_i k hk
          obtain⟨sv,xv,g1,g2,g3⟩:=two rfl
          unfold kT at h
          split at h
          rotate_left
          . cases h
          rename_i z ai
          split at h
          rotate_left
          . cases h
          rename_i eo
          obtain⟨_,_,_,_,_,_,_,hz⟩:=yT eo
          split at h
          rotate_left
          . cases h
          rename_i xs ez
          have u4:Wp (Good F w) xv:=src_ok (b:=b) (n:=1) (.inr ⟨_,_,rfl⟩) g3 fun _=>tabN hk (Zv (by omega) ez)
          split at h
          rotate_left
          . cases h
          simp only at h
          split at h
          rotate_left
          . cases h
          rename_i k2 cw
          refine⟨t,el,sv,xv,rfl,hu,g1,xfs g2 fun hl r hr =>?_,u4⟩
          split at h
          . rename_i nn l ce
            split at h
            . rename_i nz
              obtain⟨_,lz,_⟩:=nz
              simp only[oI,Stp.val.injEq,dM]at h
              have tt:=dP h.1.1
              have hv:k2.virt=false:=by
                rw[Zw ce lz]
                cases l with
                | nil=>simp at tt;omega
                | cons a l=>rfl
              exact jU E hF cw hr (by unfold Blk.win;rw[ce]) hv (by unfold Blk.mapped;rw[ce])
            . cases h
          . rename_i kd l ce
            split at h
            . rename_i nz
              obtain⟨_,lz,_⟩:=nz
              simp only[oI,Stp.val.injEq,dM]at h
              have tt:=dP h.1.1
              have hv:k2.virt=false:=by
                unfold Blk.virt
                rw[ce,lz]
                cases l with
                | nil=>simp at tt;omega
                | cons a l=>rfl
              exact jU E hF cw hr (by unfold Blk.win;rw[ce]) hv (by unfold Blk.mapped;rw[ce])
            . cases h
          . cases h
        . cases h
      . cases h
    . cases h
  . rename_i t u s b q n c Fj
    split at h
    . rename_i hc
      obtain⟨rfl,dc,Dp⟩:=hc
      split at h
      . rename_i el hu
        obtain⟨sv,xv,g1,g2,g3⟩:=two rfl
        split at h
        . split at h
          rotate_left
          . cases h
          rename_i k hk
          split at h
          rotate_left
          . cases h
          rename_i xs ez
          have u4:Wp (Good F w) xv:=src_ok (b:=b) (n:=n) (.inr ⟨_,_,rfl⟩) g3 fun _=>tabN hk (Zv dc ez)
          split at h
          . exact⟨t,el,sv,xv,rfl,hu,g1,nilD g2,u4⟩
          . split at h
            . rename_i k2 cw
              split at h
              . rename_i nz
                exact⟨t,el,sv,xv,rfl,hu,g1,dst_slg g2 (tabN cw (by simpa using nz.1)),u4⟩
              . cases h
            . cases h
          . cases h
        . unfold kU at h
          split at h
          rotate_left
          . cases h
          split at h
          rotate_left
          . cases h
          split at h
          rotate_left
          . cases h
          rename_i k hk
          split at h
          rotate_left
          . cases h
          rename_i z ai
          split at h
          rotate_left
          . cases h
          rename_i eo
          obtain⟨_,_,_,_,_,_,_,hz⟩:=yT eo
          split at h
          rotate_left
          . cases h
          rename_i xs ez
          exact⟨t,el,sv,xv,rfl,hu,g1,nilD g2,src_ok (b:=b) (n:=n) (.inr ⟨_,_,rfl⟩) g3 fun _=>tabN hk (Zv (by omega) ez)⟩
      . cases h
    . cases h
  . cases h
theorem tm_v{Gd:Nat->Prop}{s:Sem Value}(h:Tm P Gd s):Tm P Gd (do pure (Next.value (<- s)):Sem Next):=yn h fun _ _ _ _ _=>xC _
theorem tm_u{Gd:Nat->Prop}{s:Sem Unit}(h:Tm P Gd s):Tm P Gd (do s;pure Next.skip:Sem Next):=yn h fun _ _ _ _ _=>xC _
theorem xen{Gd:Nat->Prop}(op:UnOp)(v:Value):Tame Gd (Op.unary op v):=by
 unfold Op.unary
 split<;>first|exact VV _ _ _ _|exact xax _ _ _ _|trivial
theorem XX{pv:Value}{b o n:Nat}{v:Value}(h:den pv e (.slg b o n)=some v) : ∃a n c,v = .slice (some a) n c:=by
 simp only[den,dU]at h
 obtain⟨r,hr,h⟩:=h
 split at h
 .cases h;exact⟨_,_,_,rfl⟩
 .cases h
theorem xcW{pv:Value}{b n:Nat}{v:Value}(hn : ¬n=0)(h:den pv e (.slr b n)=some v) : ∃a m c,v = .slice (some a) m c:=by
 simp only[den,dU,dA hn]at h
 obtain⟨r,hr,h⟩:=h
 split at h
 .cases h;exact⟨_,_,_,rfl⟩
 .cases h
theorem xh1{Gd:Nat->Prop}{pv:Value}{d:TypeDesc}{q:Bool}{a b:C}{r:Bool}{x y:Value}{t:TypeId}(hu:P.underlying t=some d)(ns : ∃t u,pv = .iface t u)(ha:den pv e a=some x)(hb:den pv e b=some y)(h:eqC d q a b=some r)(n:Nat):Tm P Gd (Op.equalIn (n+1) t x y):=by
  obtain⟨pt,pu,rfl⟩:=ns
  unfold eqC at h
  (repeat' (split at h))<;>first
    | (cases h;done)
    | ((try obtain⟨_,_,_,rfl⟩:=XX ha)<;>(try obtain⟨_,_,_,rfl⟩:=XX hb)
       (try obtain⟨_,_,_,rfl⟩:=xcW (by assumption) ha)<;>(try obtain⟨_,_,_,rfl⟩:=xcW (by assumption) hb)
       (try simp only[den,oI,oM]at ha)<;>(try simp only[den,oI,oM]at hb)
       (try obtain⟨_,_,rfl⟩:=ha)<;>(try obtain⟨_,_,rfl⟩:=hb)<;>(try subst ha)<;>(try subst hb)
       simp only[Op.equalIn]
       refine ye (xi t).tm (xa hu) ?_
       first
         | exact(show Tm P Gd (pure false)from xC _)
         | exact(show Tm P Gd (pure true)from xC _)
         | (dsimp only;exact xC _))
theorem YF{Gd:Nat->Prop}{pv:Value}{rec:TypeId->V->V->Option Bool}{m:Nat}(IH : ∀t x y r rx ry,rec t x y=some r->denV pv e x=some rx->denV pv e y=some ry->Tm P Gd (Op.equalIn m t rx ry)/\ ∀w,(Op.equalIn m t rx ry).run P w = .ok r w){xs ys:List C}{vx vy:List Value}(hx:denL pv e xs=some vx)(hy:denL pv e ys=some vy) :
  ∀ (fs:List Field) (r:Bool),YT rec P fs xs ys=some r->Tm P Gd (forIn fs ((none,()):Option Bool×Unit) fun f __s=>if f.name ≠ "_" then do
         let __do_lift <- part f.type vx.toArray f.offset
         let __do_lift_1 <- part f.type vy.toArray f.offset
         let __do_lift <- Op.equalIn m f.type __do_lift __do_lift_1
         if(!__do_lift)=true then pure (ForInStep.done (some false,()))
          else pure (ForInStep.yield (none,()))
        else pure (ForInStep.yield (none,())))
 | [],r,h=>by rw[List.forIn_nil];exact xC _
 | f::fs,r,h=>by
  rw[List.forIn_cons]
  simp only[YT]at h
  by_cases hn:f.name = "_"
  .rw[dB hn]at h
   simp only[hn,ne_eq,not_true_eq_false,if_false]
   exact ye (xC _) (fun _=>rfl) (YF IH hx hy fs r h)
  .rw[dA hn]at h
   split at h
   .rename_i a b ha hb
    split at h
    .rename_i p q hp hq
     cases h
     simp only[ne_eq,hn,not_false_eq_true,if_true]
     refine yn (yn (yg _ _ _).tm fun ra w1 w1' _ h1=>yn (yg _ _ _).tm fun rb w2 w2' _ h2 =>?_) fun st w3 w3' _ az =>?_
     .obtain⟨In,h3,h4⟩:=kv (w:=w1) hx ha
      obtain⟨Im,h5,h6⟩:=kv (w:=w2) hy hb
      rw[h3]at h1
      rw[h5]at h2
      cases h1;cases h2
      obtain⟨h7,h8⟩:=IH _ _ _ _ _ _ hp h4 h6
      refine yn h7 fun z _ _ _ _ =>?_
      split<;>exact xC _
     .cases st with
      | done b=>exact xC _
      | yield b=>
       obtain⟨In,h3,h4⟩:=kv (w:=w3) hx ha
       obtain⟨Im,h5,h6⟩:=kv (w:=w3) hy hb
       obtain⟨h7,h8⟩:=IH _ _ _ _ _ _ hp h4 h6
       simp only[Sem.run_bind,h3,h5,h8,Result.andThen_ok]at az
       cases p
       .simp at az
       .simp at az
        obtain⟨rfl,_⟩:=az
        exact YF IH hx hy fs q (by simpa using hq)
    .cases h
   .cases h
theorem xeo{Gd:Nat->Prop}{pv:Value} : ∀ (d:Nat) (t:TypeId) (x y:V) (r:Bool) (rx ry:Value),eqF P d t x y=some r->denV pv e x=some rx->denV pv e y=some ry ->∀n,Tm P Gd (Op.equalIn (n+d) t rx ry)
 | 0,t,x,y,r,rx,ry,h,_,_,_=>by simp[eqF]at h
 | d+1,t,x,y,r,rx,ry,h,hx,hy,n=>by
  have h':=h
  unfold eqF at h
  split at h
  .rename_i a b hu
   cases h
   simp only[denV,den,oI]at hx hy
   subst hx hy
   rw[show n+(d+1)=(n+d)+1 from rfl]
   simp only[Op.equalIn]
   refine ye (xi t).tm (xa hu) ?_
   dsimp only
   exact xC _
  .rename_i k0 k a k' b hu
   simp only[denV,den,oI]at hx hy
   subst hx hy
   exact(xem _ _ _ _ _).tm
  .rename_i fs xs ys hu
   split at h
   .cases h
   .rename_i hs
    simp only[denV,oM]at hx hy
    obtain⟨vx,h1,rfl⟩:=hx
    obtain⟨vy,h2,rfl⟩:=hy
    have hf:P.fieldsOf t=fs:=by simp only[Program.fieldsOf,hu]
    rw[show n+(d+1)=(n+d)+1 from rfl]
    simp only[Op.equalIn]
    refine ye (xi t).tm (xa hu) ?_
    dsimp only
    refine ye (a:=P) tame_program.tm (fun w=>rfl) ?_
    rw[dA (by simpa using hs)]
    refine yn ?_ fun st _ _ _ _=>by split<;>exact xC _
    rw[<- Array.forIn_toList]
    exact YF (pv:=pv) (fun t x y r rx ry h hx hy=>⟨xeo d t x y r rx ry h hx hy n,fun w=>WE (w:=w) d t x y r rx ry h hx hy n⟩) h1 h2 fs.toList r h
  .cases h
theorem Xq{Gd:Nat->Prop}{α β:Type}(f:α->β->Sem (ForInStep β))(hf : ∀a b,Tame Gd (f a b)) : ∀ (l:List α) (b:β),Tame Gd (forIn l b f)
 | [],b=>by rw[List.forIn_nil];exact xr _
 | a::l,b=>by
  rw[List.forIn_cons]
  refine xf (hf a b) fun st =>?_
  cases st with
  | done b=>exact xr _
  | yield b=>exact Xq f hf l b
theorem qu{Gd:Nat->Prop} : ∀ (n:Nat) (t:TypeId) (x y:Value),Tame Gd (Op.eqGuardIn n t x y)
 | 0,t,x,y=>xQ _
 | n+1,t,x,y=>by
  unfold Op.eqGuardIn
  refine xf (xi t) fun d =>?_
  split
  .exact xr _
  .refine xf ?_ fun st=>by dsimp only;split<;>exact xr _
   rw[<- Array.forIn_toList]
   refine Xq _ (fun a b =>?_) _ _
   (repeat' (first|exact yg _ _ _|exact qu n _ _ _|exact xr _|(refine xf ?_ fun _ =>?_)|split|dsimp only))
  .refine xf (xF _) fun sz=>xf ?_ fun st=>by dsimp only;split<;>exact xr _
   rw[Std.Legacy.Range.forIn_eq_forIn_range']
   refine Xq _ (fun a b =>?_) _ _
   (repeat' (first|exact yg _ _ _|exact qu n _ _ _|exact xr _|(refine xf ?_ fun _ =>?_)|split|dsimp only))
  .exact xr _
theorem XY{Gd:Nat->Prop}(op:BinOp)(t:TypeId)(x y:Operand)(a b:Value):Tame Gd (eqGuard op t x y a b):=by
 unfold eqGuard
 (repeat' (first|exact tame_program|exact qu _ _ _ _|exact xQ _|exact xr _|(refine xf ?_ fun _ =>?_)|split|dsimp only))
theorem off_val(I:PortB P){v:V}{H':Heap}(hρ:Says I.pv e ρ ra)(E:Emb I.pv e H w)(h:evStep P o.op ρ H=some (.val true v H'))(hF : ∀b,Own false e H b ->¬F b) : ∀ev∈(execOp ra o).events P w #[],EvOff F w.heap.size ev:=by
 have ns:=I.ex
 have fin:Tm P (Good F w) (execOp ra o) ->∀ev∈(execOp ra o).events P w #[],EvOff F w.heap.size ev:=fun h=>h.off (xhY F w) fun b h=>h.1
 have il:(execOp ra o).events P w #[] = #[] ->∀ev∈(execOp ra o).events P w #[],EvOff F w.heap.size ev:=fun h ev he=>by rw[h]at he;simp at he
 generalize ho:o.op=op at h
 unfold evStep at h
 split at h
 case h_1 x=>exact fin (by simp only[execOp,ho];exact xC _)
 case h_2 x=>exact fin (by simp only[execOp,ho];exact xC _)
 case h_3 c a b=>exact fin (by simp only[execOp,ho];exact yn (ya _).tm fun _ _ _ _ _=>xC _)
 case h_4 t=>exact fin (by simp only[execOp,ho];exact tm_v (xeh _).tm)
 case h_5 t x=>exact fin (by simp only[execOp,ho];exact tm_v (xhX _ _).tm)
 case h_6 t parts=>exact fin (by simp only[execOp,ho];exact tm_v (xei _ _).tm)
 case h_7 t len parts=>exact fin (by simp only[execOp,ho];exact tm_v (Wx _ _ _).tm)
 case h_8 t a=>
  split at h
  .rename_i b q ha
   split at h
   .rename_i k hk
    rw[oM]at h;obtain⟨⟨g,r⟩,h1,h2⟩:=h
    simp only[Stp.val.injEq]at h2
    obtain⟨rfl,rfl,rfl⟩:=h2
    obtain⟨r',hr,mw⟩:=qk hρ ha
    refine fin ?_
    simp only[execOp,ho,mw]
    exact tm_v (ye (a:=⟨r'.1,q,none⟩) (xA _).tm (fun _=>rfl) (qt (xcb (E.ok b k hk) h1) fun hc=>YE E hF hk hr (KX h1) hc))
   .cases h
  .rename_i b off i n f ha
   split at h
   .rename_i k hk
    rw[oM]at h;obtain⟨⟨g,r⟩,h1,h2⟩:=h
    simp only[Stp.val.injEq]at h2
    obtain⟨rfl,rfl,rfl⟩:=h2
    obtain⟨r',hr,mw⟩:=Vk hρ ha
    refine fin ?_
    simp only[execOp,ho,mw]
    exact tm_v (ye (a:=⟨r'.1,off+(i.toNat*n+f),none⟩) (xA _).tm (fun _=>rfl) (qt (xca h1).2 fun hc=>YE E hF hk hr (Yt h1) hc))
   .cases h
  .cases h
 case h_9 t a x=>
  split at h
  .rename_i b q v' ha hx
   split at h
   .rename_i k xs n hk ez hn
    split at h
    .rename_i hl
     split at h
     .rename_i g kn bk
      simp only[oI,Stp.val.injEq]at h
      obtain⟨rfl,rfl,rfl⟩:=h
      obtain⟨r',hr,mw⟩:=qk hρ ha
      refine fin ?_
      simp only[execOp,ho,mw]
      exact tm_u (ye (a:=⟨r'.1,q,none⟩) (xA _).tm (fun _=>rfl) (ZT _ (jU E hF hk hr (Xh bk).1 (qR bk).1 (vY bk).1) _).tm)
     .cases h
    .cases h
   .cases h
  .rename_i b off i m f v' ha hx
   split at h
   .rename_i k xs n hk ez hn
    split at h
    .rename_i hl
     split at h
     .rename_i g kn bk
      simp only[oI,Stp.val.injEq]at h
      obtain⟨rfl,rfl,rfl⟩:=h
      obtain⟨r',hr,mw⟩:=Vk hρ ha
      refine fin ?_
      simp only[execOp,ho,mw]
      exact tm_u (ye (a:=⟨r'.1,off+(i.toNat*m+f),none⟩) (xA _).tm (fun _=>rfl) (ZT _ (jU E hF hk hr (Xh bk).1 (qR bk).1 (vY bk).1) _).tm)
     .cases h
    .cases h
   .cases h
  .cases h
 case h_10 x=>exact fin (KK ho).tm
 case h_11 op t x y u=>
  split at h
  .rename_i a b ha hb
   rw[oM]at h;obtain⟨⟨g,r⟩,h1,h2⟩:=h
   simp only[Stp.val.injEq]at h2
   obtain⟨rfl,rfl,rfl⟩:=h2
   have dr:=xff hρ ha
   have ig:=xff hρ hb
   refine fin ?_
   simp only[execOp,ho]
   unfold xe7 at h1
   split at h1
   .rename_i k m k' n
    simp only[den,oI]at dr ig
    rw[<- dr,<- ig]
    exact tm_v (yn (KJ _ _ _ _ _ _ _ _).tm fun _ _ _ _ _=>(xcV _ _ _ _ _ _).tm)
   .rename_i a b ae
    suffices bin:Tm P (Good F w) (binOp op t (ra x) (ra y))from tm_v (yn (XY _ _ _ _ _ _).tm fun _ _ _ _ _=>bin)
    split at h1
    .rename_i d hu
     rw[oM]at h1
     obtain⟨r',h1,h2⟩:=h1
     have hb:=WD (P:=P) (w:=w) hu ns dr ig h1
     rw[hb.2.2.1]
     exact yn (xh1 hu ns dr ig h1 9999) fun _ _ _ _ _=>xC _
    .rename_i d hu
     rw[oM]at h1
     obtain⟨r',h1,h2⟩:=h1
     have hb:=WD (P:=P) (w:=w) hu ns dr ig h1
     rw[hb.2.2.2]
     exact yn (xh1 hu ns dr ig h1 9999) fun _ _ _ _ _=>xC _
    .cases h1
  .rename_i l m ha hb
   rw[oM]at h;obtain⟨r,h1,h2⟩:=h;cases h2
   have dr:=hρ x _ ha
   have ig:=hρ y _ hb
   simp only[denV,oM]at dr ig
   obtain⟨vx,g1,g2⟩:=dr
   obtain⟨vy,g3,g4⟩:=ig
   refine fin ?_
   simp only[execOp,ho]
   suffices bin:Tm P (Good F w) (binOp op t (ra x) (ra y))from tm_v (yn (XY _ _ _ _ _ _).tm fun _ _ _ _ _=>bin)
   unfold xaN at h1
   split at h1
   .cases h1
   .split at h1
    .rename_i q hq
     have key:=xeo (P:=P) (Gd:=Good F w) (pv:=I.pv) (e:=e) 10 t _ _ q (ra x) (ra y) hq (by simp only[denV,g1,dN,g2]) (by simp only[denV,g3,dN,g4]) 9990
     rw[<- g2,<- g4]at key |-
     exact yn key fun _ _ _ _ _=>xC _
    .rename_i q hq
     have key:=xeo (P:=P) (Gd:=Good F w) (pv:=I.pv) (e:=e) 10 t _ _ q (ra x) (ra y) hq (by simp only[denV,g1,dN,g2]) (by simp only[denV,g3,dN,g4]) 9990
     rw[<- g2,<- g4]at key |-
     exact yn key fun _ _ _ _ _=>xC _
    .cases h1
  .cases h
 case h_12 op t x=>exact fin (by simp only[execOp,ho];exact tm_v (xen _ _).tm)
 case h_13 s d x=>
  split at h
  .rename_i k n t j hx hs hd
   refine fin ?_
   simp only[execOp,ho,vI hρ hx]
   exact tm_v (tm_conv hd)
  .cases h
 case h_14 f first captured=>exact fin (by simp only[execOp,ho];exact tm_v (xC _))
 case h_15 f first captured=>exact fin (by simp only[execOp,ho];exact tm_v (xC _))
 case h_16 t x lo hi=>exact fin (by simp only[execOp,ho];exact tm_v (XV _ _ _ _ _).tm)
 case h_17 t x f=>
  split at h
  .rename_i fs b q hu hx
   split at h
   .rename_i fd zf
    split at h
    .rename_i n hn
     split at h
     .cases h
     .rename_i dc
      exact il (xbq hρ E ho hu hx zf hn dc)
    .cases h
   .cases h
  .rename_i fs b off i m q hu hx
   split at h
   .rename_i fd zf
    split at h
    .rename_i n hn
     split at h
     .cases h
     .rename_i dc
      exact il (KI hρ E ho hu hx zf hn dc)
    .cases h
   .cases h
  .cases h
 case h_18 t x f=>exact fin (by simp only[execOp,ho];exact tm_v (xej _ _ _).tm)
 case h_19 t x ix=>exact fin (by simp only[execOp,ho];exact tm_v (xbl _ _ _).tm)
 case h_20 t x ix=>exact fin (by simp only[execOp,ho];exact tm_v (xek _ _ _).tm)
 case h_21 t ix=>exact fin (by simp only[execOp,ho];exact tm_v (xbn _ _).tm)
 case h_23 t l c=>exact fin (by simp only[execOp,ho];exact tm_v (VS _ _ _).tm)
 case h_24 t=>exact fin (by simp only[execOp,ho];exact tm_v (xbo _).tm)
 case h_27 t x=>exact fin (by simp only[execOp,ho];exact tm_v (Xo _ _).tm)
 case h_28 t x=>exact fin (by simp only[execOp,ho];exact tm_v (xbm _ _).tm)
 case h_29 t x lo hi mx=>exact fin (by simp only[execOp,ho];exact tm_v (XV _ _ _ _ _).tm)
 case h_30=>cases h
 case h_22 c=>
  split at h
  .rename_i args bh
   have ha:=vZ hρ _ _ bh
   have mw:c.args.map ra=(c.args.toList.map ra).toArray:=by rw[<- Array.toList_map]
   split at h
   .rename_i b hb
    refine fin ?_
    simp only[execOp,ho,resolve,hb]
    refine ye (a :={target :=.builtin b c.argTypes o.type (c.args.map fun | .const _=>true|_=>false),args:=c.args.map ra}) (xC _) (fun _=>rfl) ?_
    simp only[invoke,builtin]
    split at h
    .obtain⟨t,el,sv,xv,h1,h2,h3,h4,h5⟩:=xgQ E hF h ha
     have bq:c.argTypes = #[t,t]:=by rw[<- Array.toArray_toList (xs:=c.argTypes),h1]
     have E5:c.args.map ra = #[sv,xv]:=by rw[mw,h3]
     rw[bq,E5]
     exact tm_v (xgP h2 h4 h5)
    .unfold jc at h;cases h
    .rename_i bi Dp hn2
     unfold yv at h
     split at h
     .rename_i t x h1
      have bq:c.argTypes = #[t]:=by rw[<- Array.toArray_toList (xs:=c.argTypes),h1]
      simp only[allSome]at ha
      split at ha
      rotate_left
      .cases ha
      rename_i rv cf
      simp only[oI]at ha
      have E5:c.args.map ra = #[rv]:=by rw[mw,<- ha]
      simp only
      rw[bq,E5]
      refine tm_v ?_
      have lenS : ∀ {el:TypeId} {b:Option Addr} {n c:Nat},P.underlying t=some (.slice el)->rv = .slice b n c->Tm P (Good F w) (Builtin.len_ #[t] o.type #[rv]):=by
       rintro el b n c hu rfl
       unfold Builtin.len_
       simp only[List.getElem?_toArray,List.getElem?_cons_zero]
       refine ye (xi t).tm (xa hu) ?_
       exact(show Tm P (Good F w) (pure (goInt n))from xC _)
      have slv : ∀ {x:C} {b n:Nat},(x = .slg b n n\/ ∃q,x = .slg b q n\/x = .slr b n\/ ∃z c,x = .slw b q z n c\/x = .sl b q n c)->den I.pv e x=some rv ->∃b n c,rv = .slice b n c:=by
       intro x b n hx hd
       rcases hx with rfl|⟨q,rfl|rfl|⟨z,c,rfl|rfl⟩⟩
       .obtain⟨a,n,c,rfl⟩:=XX hd;exact⟨_,_,_,rfl⟩
       .obtain⟨a,n,c,rfl⟩:=XX hd;exact⟨_,_,_,rfl⟩
       .simp only[den,dU]at hd
        obtain⟨r,_,hd⟩:=hd
        split at hd
        .rcases(vg hd).2 with rfl|⟨a,rfl⟩<;>exact⟨_,_,_,rfl⟩
        .split at hd
         .cases hd;exact⟨_,_,_,rfl⟩
         .cases hd
       .simp only[den,oM]at hd
        obtain⟨_,_,rfl⟩:=hd;exact⟨_,_,_,rfl⟩
       .simp only[den,oM]at hd
        obtain⟨_,_,rfl⟩:=hd;exact⟨_,_,_,rfl⟩
      split at h
      .rename_i hu
       simp only[denV,den,oI]at cf
       exact lenS hu cf.symm
      .rename_i hu
       obtain⟨_,_,_,h2⟩:=slv (.inr ⟨_,.inr (.inr ⟨none,_,.inr rfl⟩)⟩) cf
       exact lenS hu h2
      .rename_i hu
       obtain⟨_,_,_,h2⟩:=slv (.inr ⟨_,.inl rfl⟩) cf
       exact lenS hu h2
      .rename_i hu
       obtain⟨_,_,_,h2⟩:=slv (.inr ⟨_,.inr (.inr ⟨_,_,.inl rfl⟩)⟩) cf
       exact lenS hu h2
      .rename_i hu
       obtain⟨_,_,_,h2⟩:=slv (.inr ⟨0,.inr (.inl rfl)⟩) cf
       exact lenS hu h2
      .rename_i hu
       simp only[denV]at cf
       obtain⟨_,_,h2⟩:=Wb cf
       exact lenS hu h2
      .rename_i hu
       simp only[denV]at cf
       obtain⟨_,_,h2⟩:=Wa cf
       exact lenS hu h2
      .rename_i hu
       unfold Builtin.len_
       simp only[List.getElem?_toArray,List.getElem?_cons_zero]
       refine ye (xi t).tm (xa hu) ?_
       dsimp only
       exact xC _
      .cases h
     .rename_i k x k' y
      simp only[allSome,denV,den,oI]at ha
      rw[mw,<- ha]
      exact tm_v (by simp only[Builtin.min_,List.foldlM_cons,List.foldlM_nil,Builtin.min2];exact yn (xC _) fun _ _ _ _ _=>xC _)
     .rename_i k x k' y
      simp only[allSome,denV,den,oI]at ha
      rw[mw,<- ha]
      exact tm_v (by simp only[Builtin.max_,List.foldlM_cons,List.foldlM_nil,Builtin.max2];exact yn (xC _) fun _ _ _ _ _=>xC _)
     .cases h
   .split at h
    .rw[oM]at h;obtain⟨v',h1,h2⟩:=h;cases h2
    .rw[oM]at h;obtain⟨v',h1,h2⟩:=h;cases h2
    .cases h
   .split at h
    .cases h
    .rw[oM]at h;obtain⟨v',h1,h2⟩:=h;cases h2
    .cases h
  .cases h
 case h_25 t m x ok=>
  unfold ja at h;cases h
 case h_26 t m x y=>
  unfold jb at h;cases h
theorem xcX {t:TypeId} {name:String} {f:FuncId} {fn:Func} {c:Code} (h:ZP P t name=some f) (v:Value) (args:Array Value) (w:World) (Bh:P.funcs[f]? = some fn) (Bg:(fn.name == "runtime.NumGoroutine")=false) (Bf:fn.body=some c):(callMethod (.iface t v) name args).events P w #[] = #[]:=by
 unfold ZP at h
 split at h
 .rename_i i hi
  split at h
  .rename_i m hm
   split at h
   .rename_i f' el hp hf hu
    cases h
    show((do let p <- program;let q <- method (p.types.size+(Made.depth-1)+1) t v name;callFunc q.1 (#[q.2]++args):Sem Next)).events P w #[]=_
    simp[method,typeInfo,hi,hm,hp,hf,follow,receiverAt,Place.get,underlying,hu,callFunc,Bh,Bg,Bf,show program.run P w = .ok P w from rfl]
   .cases h
  .cases h
 .cases h
theorem xh2(I:PortB P){f:FuncId}{args:List V}(hρ:Says I.pv e ρ ra)(h:evStep P o.op ρ H=some (.call f args))
  (hb : ∃fn c,P.funcs[f]? = some fn/\(fn.name == "runtime.NumGoroutine")=false/\fn.body=some c) :
  (execOp ra o).events P w #[] = #[]:=by
 generalize ho:o.op=op at h
 obtain⟨fn,c,Bh,Bg,Bf⟩:=hb
 unfold evStep at h
 split at h
 case h_22 c=>
  split at h
  .rename_i vs ee
   split at h
   .rename_i b hb
    exfalso
    split at h
    .obtain⟨_,_,_,h2⟩:=kO h;cases h2
    .unfold jc at h;(repeat' (split at h))<;>cases h
    .unfold yv at h
     split at h
     .split at h<;>cases h
     .cases h
     .cases h
     .cases h
   .rename_i r name hg
    split at h
    .rw[oM]at h;obtain⟨_,_,h2⟩:=h;cases h2
    .rename_i t x hr
     rw[oM]at h;obtain⟨q,h2,h3⟩:=h;cases h3
     have h4:=hρ r _ hr
     simp only[denV,den,oM]at h4
     obtain⟨rx,h5,h6⟩:=h4
     have h0:(c.args.map ra)=(c.args.toList.map ra).toArray:=by rw[<- Array.toList_map]
     simp only[execOp,ho,resolve,hg,<- h6,Bind.bind,Sem.bind,Pure.pure,invoke]
     simp only[h0,List.append_toArray,List.singleton_append,List.getElem?_toArray,List.getElem?_cons_zero,List.extract_toArray,List.size_toArray,List.length_cons,List.extract_eq_take_drop,List.drop_succ_cons,List.drop_zero]
     rw[List.take_of_length_le (by simp)]
     exact xcX h2 _ _ w Bh Bg Bf
    .cases h
   .rename_i g hg
    split at h
    .rename_i f' caps cb
     cases h
     have h1:=vZ hρ _ _ ee
     have h2:=hρ g _ cb
     simp only[denV,den,oM]at h2
     obtain⟨rs,h3,h4⟩:=h2
     simp[execOp,ho,resolve,hg,<- h4,Deferred.ofValue,invoke,callFunc,Bh,Bg,Bf,show program.run P w = .ok P w from rfl]
    .rw[oM]at h;obtain⟨_,_,h2⟩:=h;cases h2
    .cases h
  .cases h
 all_goals
  exfalso
  (try unfold ja at h);(try unfold jb at h);(repeat' (split at h))<;>first
   | cases h
   | (rw[oM]at h;obtain⟨_,_,h2⟩:=h;cases h2)
theorem xh3(I:PortB P){p:POp}(hρ:Says I.pv e ρ ra)(h:evStep P o.op ρ H=some (.port p)) :
  ∃name args vs,popOf name args=some p/\allSome (denV I.pv []) args=some vs/\execOp ra o=callMethod I.pv name vs.toArray:=by
 generalize ho:o.op=op at h
 unfold evStep at h
 split at h
 case h_22 c=>
  split at h
  .rename_i vs ee
   have h1:=vZ hρ _ _ ee
   have h0:(c.args.map ra)=(c.args.toList.map ra).toArray:=by rw[<- Array.toList_map]
   split at h
   .rename_i b hb
    exfalso
    split at h
    .obtain⟨_,_,_,h2⟩:=kO h;cases h2
    .unfold jc at h;(repeat' (split at h))<;>cases h
    .unfold yv at h
     split at h
     .split at h<;>cases h
     .cases h
     .cases h
     .cases h
   .rename_i r name hg
    split at h
    .rename_i hr
     rw[oM]at h;obtain⟨q,h2,h3⟩:=h;cases h3
     have h4:=hρ r _ hr
     simp only[denV,den,oI]at h4
     refine⟨name,vs,_,h2,XL h2 h1,?_⟩
     simp only[execOp,ho,resolve,hg,<- h4,Bind.bind,Sem.bind,Pure.pure,invoke]
     simp only[h0,List.append_toArray,List.singleton_append,List.getElem?_toArray,List.getElem?_cons_zero,List.extract_toArray,List.size_toArray,List.length_cons,List.extract_eq_take_drop,List.drop_succ_cons,List.drop_zero]
     rw[List.take_of_length_le (by simp)]
    .rw[oM]at h;obtain⟨_,_,h2⟩:=h;cases h2
    .cases h
   .rename_i g hg
    split at h
    .cases h
    .rename_i name hr
     rw[oM]at h;obtain⟨q,h2,h3⟩:=h;cases h3
     have h4:=hρ g _ hr
     simp only[denV,den,dN,oI]at h4
     refine⟨name,vs,_,h2,XL h2 h1,?_⟩
     simp only[execOp,ho,resolve,hg,<- h4,Deferred.ofValue,Bind.bind,Sem.bind,Pure.pure,invoke]
     simp only[h0,List.append_toArray,List.singleton_append,List.getElem?_toArray,List.getElem?_cons_zero,List.extract_toArray,List.size_toArray,List.length_cons,List.extract_eq_take_drop,List.drop_succ_cons,List.drop_zero]
     rw[List.take_of_length_le (by simp)]
    .cases h
  .cases h
 all_goals
  exfalso
  (try unfold ja at h);(try unfold jb at h);(repeat' (split at h))<;>first
   | cases h
   | (rw[oM]at h;obtain⟨_,_,h2⟩:=h;cases h2)
theorem yY:OpsQuiet P where
 val:=fun I _ _ _ _ _ _ _ _ hρ E h F hF _=>off_val I hρ E h hF
 call:=fun I _ _ _ _ _ _ _ _ hρ h hb=>xh2 I hρ h hb
 port:=fun I _ _ _ _ _ _ _ hρ h=>by
  obtain⟨name,args,vs,h1,h2,h3⟩:=xh3 I hρ h
  exact⟨name,args,vs,h1,h2,fun w=>by rw[h3],fun w=>by rw[h3]⟩
theorem xft{Gd:Nat->Prop}{α β:Type}(f:α->Sem β) : ∀l:List α,(∀a∈l,Tm P Gd (f a))->Tm P Gd (l.mapM f)
 | [],_=>by rw[List.mapM_nil];exact xC _
 | a::l,hf=>by
  rw[List.mapM_cons]
  exact yn (hf a (by simp)) fun _ _ _ _ _=>yn (xft f l fun b hb=>hf b (by simp[hb])) fun _ _ _ _ _=>xC _
theorem Zi{α β:Type}{f:α->Option β} : ∀ {l:List α} {r:List β},allSome f l=some r ->∀x∈l,∃y,f x=some y
 | a::l,r,h,x,hx=>by
  simp only[allSome]at h
  split at h
  .rename_i y hy
   split at h
   .rename_i ys fz
    rcases List.mem_cons.1 hx with rfl|hx
    .exact⟨y,hy⟩
    .exact Zi fz x hx
   .cases h
  .cases h
theorem wa:Ze P:=by
 intro I e st a w fn v R h F hF
 obtain⟨g,hg,g1,g2⟩:=VF fn a.tmps
 refine Tm.off (Gd:=Good F w) ?_ (xhY F w) fun b h=>h.1
 rw[hg]
 refine yn ?_ fun _ _ _ _ _=>xC _
 rw[Array.mapM_eq_mapM_toList]
 refine yn (xft _ _ fun x hx =>?_) fun _ _ _ _ _=>xC _
 obtain⟨y,hy⟩ : ∃y,Vb P st x=some y:=by
  unfold resV at h
  split at h
  .exact Zi ‹_› x hx
  .exact Zi ‹_› x hx
  .cases h
 cases x with
 | tmp t=>rw[g1];exact xC _
 | cell p t=>
  rw[g2]
  simp only[Vb]at hy
  split at hy
  .rename_i b q Ga
   split at hy
   .rename_i k hk
    cases hp:partT P t k.own q with
    | none=>rw[hp]at hy;simp at hy
    | some u=>
     obtain⟨rp,h1,h2⟩:=R.tmps p _ Ga
     simp only[denV,den,oM]at h2
     obtain⟨r,hr,rfl⟩:=h2
     have mw:a.tmps.getD p undef = .pointer (some ⟨r.1,q,none⟩):=by simp[Array.getD_eq_getD_getElem?,h1]
     rw[mw]
     refine ye (a:=⟨r.1,q,none⟩) (yj _).tm (fun _=>rfl) (qt hp fun hc =>?_)
     cases ht:k.tab with
     | none=>exact jU R.emb hF hk hr (Blk.win_none ht) (Blk.virt_none ht) (Blk.mapped_none ht)
     | some tb=>rw[Blk.own_some ht]at hc;exact absurd rfl hc
   .cases hy
  .cases hy
end
end Go.Proofs.YtfagfflkgmcnpaaGreatDoor.Kx
namespace Go.Proofs.YtfagfflkgmcnpaaGreatDoor.Kx
open Go Go.Conc Lx
section
variable{P:Program}{σ:Type}{J:KBase P σ}{Γ:xK}
theorem stepG_leaveE{main:Bool}{b:Frame}{a:Act}{cs:List Frame}{w:World}{fn:Func}{todo:List Item}{c:Frame}{v:Value}(hn:b.kind = .normal)(hd:a.defers = [])(hf:P.funcs[b.fn]? = some fn)
  (hr:(results fn a.tmps).run P w = .ok v w):stepG P main (G {b.at a todo with mode :=.returning} (c::cs)) w = .go (G (c.finish v) cs) w (seen P b.fn ((results fn a.tmps).events P w #[])):=by
 simp[G,stepG,unwind,doReturn,Frame.at,hn,hd,hf,hr,GStep.after]
theorem wo (hΓ : ∀f m,Γ f=some m->xx J f m) (hq:OpsQuiet P) (hr:Ze P) (hm:P.follows .mixedOrders=true) {f:FuncId} {fn:Func} (bc:J.bad f=false) (hf:P.funcs[f]? = some fn) (be:(fn.name == "runtime.NumGoroutine")=false) (an:fn.body.isSome=true) (n:Fu) :
  xx J f (fun args H=>some (mkS (V×Heap) (evF P Γ n fn args H) some)):=by
 obtain⟨c,hb⟩:=Option.isSome_iff_exists.1 an
 refine⟨⟨fn,c,hf,be,hb⟩,?_⟩
 intro args H S ht e w s F vs E hv hR hF hO x v H' s' aa aw
 cases ht
 simp only[oI]at aw
 subst aw
 simp only[evF,hb,E.len]at aa
 have aj:=xV _ _ _ hv
 intro O caller cs et ni
 rw[enter_at _ hf hb]
 haveI:=OffS.of hR hO
 refine vi (fn:=f) (S0:=fun q b=>Own q e H b\/F b) (w0:=w) (e0:=e) hΓ hq hm n c _ _ (fun ex a' s1 F' w'=>s1=s'/\(ex = .normal\/ex = .ret)/\ ∃e' ac u,resV P fn ac=some u/\finish e.length u ac.heap=some (v,H')/\CfgK J (fun q b=>Own q e H b\/F b) w e e' ac s1 F' a' w')
  (fun ex e' ac s1 F' a' w' hk C =>?_) e ⟨Lx.begun fn args,H⟩ s F _ w ?_ aa (O.from F.A) (base f) [] (caller::cs) ⟨rfl,bc⟩ rfl ?_ (Toks.le.refl _)
 .have lk : ∃u,resV P fn ac=some u/\ ∃r',finish e.length u ac.heap=some r'/\r'=(v,H')/\s1=s':=by
   cases ex with
   | exit i=>simp[endF,T.run]at hk
   | normal=>
    simp only[endF]at hk
    split at hk
    .rename_i u hu
     split at hk
     .rename_i r' ct
      simp only[T.run,oI,dI]at hk
      exact⟨u,hu,r',ct,hk.1,hk.2⟩
     .cases hk
    .cases hk
   | ret=>
    simp only[endF]at hk
    split at hk
    .rename_i u hu
     split at hk
     .rename_i r' ct
      simp only[T.run,oI,dI]at hk
      exact⟨u,hu,r',ct,hk.1,hk.2⟩
     .cases hk
    .cases hk
  obtain⟨u,hu,r',ct,rfl,rfl⟩:=lk
  refine⟨rfl,?_,e',ac,u,hu,ct,C⟩
  cases ex with
  | exit i=>simp[endF,T.run]at hk
  | normal=>exact .inl rfl
  | ret=>exact .inr rfl
 .refine⟨⟨E,?_,fun t u hu =>?_,rfl⟩,hR,hF,Keeps.refl _ w,fun q b hb =>.inl hb,Ext.refl e⟩
  .simp[Lx.begun,aj];omega
  .obtain⟨_,hu⟩:=vR hu
   rcases jp args 0 .tip t u hu with⟨_,h1⟩|h1
   .rw[Nat.sub_zero]at h1
    have ht:=(List.getElem?_eq_some_iff.1 h1).1
    obtain⟨y,h2,h3⟩:=yD _ _ _ hv t _ h1
    refine⟨y,?_,h2⟩
    rw[Array.getElem?_append_left (by simpa[aj]using ht)]
    simpa using h3
   .rw[kr]at h1;cases h1
 .rintro ex a' s1 F' w' ⟨rfl,hex,e',ac,u,hu,gn,C⟩
  have leave : ∀todo,(O.from F.A).Ok s1 F' {(base f).at a' todo with mode :=.returning} (caller::cs) w':=fun todo=>(O.from F.A).okStep bc fun F₁ w₁ h₁=>by
   have C1:=relyK C h₁
   obtain⟨rv,h1,h2⟩:=Zc (P:=P) C1.rel hu
   obtain⟨e2,h3,h4,h5,h6⟩:=qp C1.rel.emb h2 C1.ext gn
   refine⟨_,_,_,_,stepG_leaveE rfl C1.rel.defers hf h1,J.dOwn (Keeps.refl _ w₁) (fun ev he=>hr (J.at F₁).toPortB C1.rel hu F₁ C1.disj ev (mem_seen he)),O.csTail et,fun hA=>ni rv F₁ w₁ ⟨hA,e2,h3,h4,h5,C1.rep,fun b hb=>C1.disj b (h6 _ b hb),C1.keeps,fun q b hb =>?_⟩⟩
   rcases C1.mine _ b (hb.imp (h6 _ b) id)with(h|h)|h
   .exact .inl h
   .exact .inr (.inl h)
   .exact .inr (.inr h)
  rcases hex with rfl|rfl
  .exact vE bc (fun _=>stepG_end) (leave [])
  .exact leave
theorem xep (hΓ : ∀f m,Γ f=some m->xx J f m) (hq:OpsQuiet P) (hr:Ze P) (hm:P.follows .mixedOrders=true) {f:FuncId} {fn:Func} (bc:J.bad f=false) (hf:P.funcs[f]? = some fn) (be:(fn.name == "runtime.NumGoroutine")=false) (an:fn.body.isSome=true) (n:Fu):xx J f (inl P Γ n fn):=by
 have h:=wo (J:=J) hΓ hq hr hm bc hf be an n
 refine⟨h.1,fun args H S hS =>?_⟩
 have:=h.2 args H _ rfl
 cases hS
 exact this
end
end Go.Proofs.YtfagfflkgmcnpaaGreatDoor.Kx
namespace Go.Proofs.YtfagfflkgmcnpaaGreatDoor.Tx
open Go Go.Conc Lx Kx
structure WC where
 tb:Nat
 pb:Nat
 wb:Nat
 wc:Nat
 db:Nat
 ask:Nat
 grant:Nat
 quit:Nat
 done:Nat
 self:Int
 r0:List Value
structure Ask where
 k:Int
 at_:Int
 a:Int
 b:Int
 told:Option (List C)
 v:Int
structure WS where
 steps:Int
 told:Option (List C)
 orc:List Ask
def eqI:C->C->Bool
 | .int k n,.int k' n'=>decide (k=k')&&decide (n=n')
 | _,_=>false
def eqIs:List C->List C->Bool
 | [],[]=>true
 | x::l,y::m=>eqI x y&&eqIs l m
 | _,_=>false
def eqT:Option (List C)->Option (List C)->Bool
 | none,none=>true
 | some l,some m=>eqIs l m
 | _,_=>false
theorem eqI_eq{x y:C}(h:eqI x y=true):x=y:=by
 unfold eqI at h
 split at h
 .simp only[dM,decide_eq_true_eq]at h;rw[h.1,h.2]
 .cases h
theorem xbr : ∀ {l m:List C},eqIs l m=true->l=m
 | [],[],_=>rfl
 | x::l,y::m,h=>by
  simp only[eqIs,dM]at h
  rw[eqI_eq h.1,xbr h.2]
 | [],_::_,h=>by cases h
 | _::_,[],h=>by cases h
theorem xbs{x y:Option (List C)}(h:eqT x y=true):x=y:=by
 cases x<;>cases y<;>simp only[eqT]at h
 .rfl
 .cases h
 .cases h
 .rw[xbr h]
def waitsC(c:WC)(n:Int)(told:Value):Array Value:= #[.int .i64 c.self,.int .i64 n,told,.chan (some c.ask),.chan (some c.grant),.chan (some c.quit)]
def waitsO(c:WC)(n:Int)(told:Value):Obj :=.cells (waitsC c n told) 132 (0,0)
def ToldAt(c:WC)(F:Fo)(w:World)(told:Value):Option (List C)->Prop
 | none=>told = .pointer none
 | some r =>∃x vs,told = .pointer (some ⟨x,0,none⟩)/\(F x/\F.A.cap x=none)/\x≠c.tb/\x≠c.pb/\x≠c.wb/\denL undef [] r=some vs/\w.heap[x]? = some (.cells vs.toArray 54 (0,0))
structure PinAt(c:WC)(x:Nat)(o:Obj)(F:Fo)(w:World):Prop where
 hF:F x
 t:x≠c.tb
 p:x≠c.pb
 wbn:x≠c.wb
 at_:w.heap[x]? = some o
theorem PinAt.same{c:WC}{x:Nat}{o:Obj}{F F':Fo}{w w':World}(h:PinAt c x o F w)(hF:F x->F' x)(hs:w'.heap[x]? = w.heap[x]?):PinAt c x o F' w':=⟨hF h.hF,h.t,h.p,h.wbn,hs.trans h.at_⟩
def capO(c:WC):Obj :=.cells #[.pointer (some ⟨c.wb,0,none⟩)] 73 (0,0)
def dnO(c:WC):Obj :=.cells #[.chan (some c.done)] 156 (0,0)
def WorkAt(c:WC)(pre r:List Value)(w:World):Prop:=(pre.length=3/\r.length=11)/\w.heap[c.wb]? = some (.cells (pre++r).toArray 78 (0,0))
structure RepW(c:WC)(s:WS)(F:Fo)(w:World):Prop where
 lt : ∀b,F b->b<w.heap.size
 tb:F c.tb
 pb:F c.pb
 wb:F c.wb
 ne:c.pb≠c.tb
 nw:c.pb≠c.wb
 wt:c.wb≠c.tb
 tok:F.A.tok 0=some c.pb
 ml : ∀b y,F.A.cap b=some y->F b
 cap:PinAt c c.wc (capO c) F w
 dn:PinAt c c.db (dnO c) F w
 wk : ∃pre r,WorkAt c pre r w/\(s.orc ≠ []->r=c.r0)
 obj : ∃told,w.heap[c.pb]? = some (waitsO c s.steps told)/\ToldAt c F w told s.told
def RFw(c:WC)(F:Fo)(w:World)(F₁:Fo)(w₁:World):Prop:=F₁=F/\Keeps (fun b=>b=c.tb/\F b) w w₁/\w₁.heap.size=w.heap.size
def StillAt(c:WC)(w:World):Prop :=∃n told,w.heap[c.pb]? = some (waitsO c n told)
def xeq(c:WC)(k:Nat):Prop:=3<=k
def EvWk(c:WC)(F:Fo)(n:Nat)(e:Event):Prop:=match e.loc with
 | .cell a=>a.block<n/\a.block≠c.tb/\(e.write=true ->¬F a.block\/(a.block=c.pb/\ ¬xeq c a.off)\/a.block=c.wb)
 | .obj r=> ¬F r/\r<n
 | .mark m=>m = .noRoom
 | _=>False
structure DWk(c:WC)(F:Fo)(w w':World)(es:Array Event):Prop where
 keeps:Keeps (fun b=> ¬F b\/b=c.pb\/b=c.wb) w w'
 still:StillAt c w->StillAt c w'
 work : ∀pre r,WorkAt c pre r w ->∃r',WorkAt c pre r' w'
 ev : ∀e∈es,EvWk c F w'.heap.size e
def Dw(c:WC)(F:Fo)(w w':World)(es:Array Event):Prop:=F c.tb->F c.pb->F c.wb->DWk c F w w' es
variable{c:WC}{s s':WS}{F:Fo}{w w':World}
theorem xbt{es:Array Event}(h:Keeps (fun b=> ¬F b) w w')(he : ∀e∈es,EvOff F w.heap.size e):Dw c F w w' es:=fun ht hp dh=>by
 have same : ∀b o,F b->w.heap[b]? = some o->w'.heap[b]? = some o:=fun b o hb ho=>by
  rw[h.block b (Array.getElem?_eq_some_iff.1 ho).1 (fun x=>x hb)];exact ho
 refine⟨h.mono fun b hb =>.inl hb,fun⟨n,told,x⟩=>⟨n,told,same _ _ hp x⟩,fun pre r x=>⟨r,x.1,same _ _ dh x.2⟩,fun e hm =>?_⟩
 .have:=he e hm
  unfold EvOff at this
  unfold EvWk
  split at this
  .rename_i a ha
   rw[ha]
   exact⟨Nat.lt_of_lt_of_le this.2 h.size,fun x=>this.1 (x▸ht),fun _ =>.inl this.1⟩
  .rename_i r hr
   rw[hr]
   exact⟨this.1,Nat.lt_of_lt_of_le this.2 h.size⟩
  .rename_i m B1
   rw[B1]
   exact this
  .exact this.elim
theorem RFw.refl(F:Fo)(w:World):RFw c F w F w:=⟨rfl,Keeps.refl _ w,rfl⟩
theorem RFw.trans{F₁ F₂:Fo}{w₁ w₂:World}(h:RFw c F w F₁ w₁)(h':RFw c F₁ w₁ F₂ w₂):RFw c F w F₂ w₂:=by
 obtain⟨rfl,a,b⟩:=h
 obtain⟨rfl,a',b'⟩:=h'
 exact⟨rfl,a.trans a' fun x hx =>.inl hx,b'.trans b⟩
theorem RepW.lt_pb(h:RepW c s F w):c.pb<w.heap.size:=h.lt _ h.pb
theorem RepW.rely(h:RepW c s F w){F₁:Fo}{w₁:World}(r:RFw c F w F₁ w₁):RepW c s F₁ w₁:=by
 obtain⟨rfl,k,z⟩:=r
 obtain⟨told,h1,h2⟩:=h.obj
 refine⟨fun b hb=>by rw[z];exact h.lt b hb,h.tb,h.pb,h.wb,h.ne,h.nw,h.wt,h.tok,h.ml,h.cap.same id (k.block _ (h.lt _ h.cap.hF) fun x=>h.cap.t x.1),h.dn.same id (k.block _ (h.lt _ h.dn.hF) fun x=>h.dn.t x.1),h.wk.imp fun pre ⟨r,y,z⟩=>⟨r,⟨y.1,by rw[k.block _ (h.lt _ h.wb) fun x=>h.wt x.1];exact y.2⟩,z⟩,told,?_,?_⟩
 .rw[k.block _ h.lt_pb (fun x=>h.ne x.1)];exact h1
 .cases hs:s.told with
  | none=>rw[hs]at h2;exact h2
  | some r=>
   rw[hs]at h2
   obtain⟨x,vs,a1,a2,a3,a4,a5,a6,a7⟩:=h2
   exact⟨x,vs,a1,a2,a3,a4,a5,a6,by rw[k.block _ (h.lt _ a2.1) (fun y=>a3 y.1)];exact a7⟩
theorem RepW.stable(h:RepW c s F w)(hs : ∀b,F b->w'.heap[b]? = w.heap[b]?):RepW c s F w':=by
 have ao : ∀b,F b->b<w'.heap.size:=fun b hb=>by
  have:=hs b hb
  rw[Array.getElem?_eq_getElem (h.lt b hb)]at this
  exact(Array.getElem?_eq_some_iff.1 this).1
 obtain⟨told,h1,h2⟩:=h.obj
 refine⟨ao,h.tb,h.pb,h.wb,h.ne,h.nw,h.wt,h.tok,h.ml,h.cap.same id (hs _ h.cap.hF),h.dn.same id (hs _ h.dn.hF),h.wk.imp fun pre ⟨r,y,z⟩=>⟨r,⟨y.1,by rw[hs _ h.wb];exact y.2⟩,z⟩,told,by rw[hs _ h.pb];exact h1,?_⟩
 cases ht:s.told with
 | none=>rw[ht]at h2;exact h2
 | some r=>
  rw[ht]at h2
  obtain⟨x,vs,a1,a2,a3,a4,a5,a6,a7⟩:=h2
  exact⟨x,vs,a1,a2,a3,a4,a5,a6,by rw[hs _ a2.1];exact a7⟩
def WS.next(s:WS)(L:List Ask):WS:=⟨IntKind.wrap .i64 (s.steps+1),s.told,L⟩
def WS.tell(s:WS)(r:List C):WS:=⟨s.steps,some r,s.orc⟩
def okU(v:Int):Bool:=decide (0<=v/\v<18446744073709551616)
def Ask.is(e:Ask)(k at_ a b:Int):Bool:=decide (e.k=k)&&decide (e.at_=at_)&&decide (e.a=a)&&decide (e.b=b)
theorem Ask.is_eq{e:Ask}{k at_ a b:Int}(h:e.is k at_ a b=true):e.k=k/\e.at_=at_/\e.a=a/\e.b=b:=by
 simp only[Ask.is,dM,decide_eq_true_eq]at h
 exact⟨h.1.1.1,h.1.1.2,h.1.2,h.2⟩
def WS.use{α:Type}(s:WS)(k at_ a b:Int)(f:Int->α):Option (α×WS):=match s.orc with
 | e::L=>if(okU e.v&&e.is k at_ a b&&eqT e.told s.told)=true then some (f e.v,s.next L)else none
 | []=>none
def stepW(c:WC):PStep WS
 | .load i,s=>s.use 1 i 0 0 id
 | .store i x,s=>s.use 2 i x 0 fun _=>()
 | .cas i x y,s=>s.use 3 i x y fun v=>v != 0
 | .add i x,s=>s.use 4 i x 0 id
 | .get i,s=>s.use 5 i 0 0 fun v=>IntKind.wrap .u8 v
 | .put i x,s=>s.use 6 i (IntKind.wrap .u64 x) 0 fun _=>()
 | .self,s=>some (c.self,s)
 | .steps,s=>some (s.steps,s)
 | .tell r,s=>some ((),s.tell r)
 | .ask _ _,s=>none
def xfu:PStep WS
 | .ask _ [k,at_,a,b],s=>s.use k at_ a b fun v =>[v]
 | _,_=>none
def pvW(c:WC):Value :=.iface 114 (.pointer (some ⟨c.pb,0,none⟩))
theorem pmeth{name:String}(h:portMeth name=true):name = "Load" \/ name = "Store" \/ name = "CAS" \/ name = "Add" \/ name = "Get" \/ name = "Put" \/ name = "Self" \/ name = "Steps" \/ name = "Tell" :=by
 simpa[portMeth]using h
theorem sureW(c:WC)(name:String)(h:portMeth name=true)(w:World):(nilAhead (Tryz.prog.types.size+Made.depth) 114 (.pointer (some ⟨c.pb,0,none⟩)) name).run Tryz.prog w = .ok (some false) w:=by
 rcases pmeth h with rfl|rfl|rfl|rfl|rfl|rfl|rfl|rfl|rfl<;>kernel_rfl
def ZV(c:WC):PortB Tryz.prog where
 pv:=⟨pvW c,⟨fun _=>none,fun _=>none⟩⟩
 t:= 114
 u :=.pointer (some ⟨c.pb,0,none⟩)
 isIface:=rfl
 sure:=fun name h _ w=>sureW c name h w
end Go.Proofs.YtfagfflkgmcnpaaGreatDoor.Tx
namespace Go.Proofs.YtfagfflkgmcnpaaGreatDoor.Tx
open Go Go.Conc Lx Kx
def zq:Value :=.agg #[]
def accV(k at_ a b:Int):Value :=.agg #[.int .u8 k,.int .i64 at_,.int .u64 a,.int .u64 b]
def seatCases(c:WC):Array CommCase:= #[rcase c.grant (.int .u64 0),rcase c.quit zq]
def seatW(c:WC)(home:Goroutine->Prop):Seat :={cases:=seatCases c,shape :=.select,home:=home}
def askCases(c:WC)(acc:Value):Array CommCase:= #[scase c.ask acc (accV 0 0 0 0),rcase c.quit zq]
def ToSeat(c:WC)(n:Nat)(g g₃:Goroutine):Prop :=∀ (K:World->Prop) (Still:Loc->Prop) (B:Nat),(∀w,K w->StillAt c w)->Still (.cell ⟨c.pb,4,none⟩)->Still (.cell ⟨c.pb,5,none⟩)->c.pb<B->Sits Tryz.prog false K Still B (seatW c (· = g₃)) n g
structure Later(c:WC)(s:WS)(F:Fo)(w:World)(F₂:Fo)(w₂:World):Prop where
 A:F.A.le F₂.A
 has : ∀b,F₂ b↔F b\/(w.heap.size<=b/\b<w₂.heap.size)
 keeps:Keeps F w w₂
 rep:RepW c s F₂ w₂
def AtLast(c:WC)(F:Fo)(g:Goroutine)(w:World):Prop:=g.status = .running/\ ∃b₂ z es n,stepG Tryz.prog false g w = .comm b₂ #[scase c.done .nilIface z] true .send w es/\(∀e∈es,EvWk c F w.heap.size e)/\QuitsD Tryz.prog n 0 (Go.Conc.served b₂ undef)
def Dq(c:WC)(F:Fo)(w w':World)(es:Array Event):Prop:=Dw c F w w' es/\(c.wb<w.heap.size->w'.heap[c.wb]? = w.heap[c.wb]?)
def QOk(c:WC)(F:Fo)(g:Goroutine)(w:World):Prop:=GW Tryz.prog false (fun w w₁=>RFw c F w F w₁) (Dq c F) (AtLast c F) g w
inductive WOk(c:WC)(rv:List Value)(tf:Option (List C)):WS->Fo->Goroutine->World->Prop
 | step {s:WS} {F:Fo} {g:Goroutine} {w:World} (hr:g.status = .running) (h : ∀w₁,RFw c F w F w₁ ->∃g' w' es,stepG Tryz.prog false g w₁ = .go g' w' es/\Dw c F w₁ w' es)
   (h' : ∀w₁ g' w' es,RFw c F w F w₁->stepG Tryz.prog false g w₁ = .go g' w' es->WOk c rv tf s F g' w'):WOk c rv tf s F g w
 | ask {s:WS} {F:Fo} {g:Goroutine} {w:World} (e:Ask) (L:List Ask) (g₂ g₃:Goroutine) (hr:g.status = .running) (hR:RepW c s F w) (hL:s.orc=e::L) (ht:s.told=e.told)
   (h : ∀w₁,RFw c F w F w₁ ->∃es,stepG Tryz.prog false g w₁ = .comm g₂ (askCases c (accV e.k e.at_ e.a e.b)) true .select w₁ es/\ ∀e∈es,EvWk c F w₁.heap.size e)
   (hsit : ∃n,ToSeat c n (Go.Conc.served g₂ (commResult (askCases c (accV e.k e.at_ e.a e.b)) .select 0 undef false)) g₃)
   (hgrant : ∀F₂ w₂,Later c s F w F₂ w₂->WOk c rv tf (s.next L) F₂ (Go.Conc.served g₃ (commResult (seatCases c) .select 0 (.int .u64 e.v) true)) w₂)
   (hquit : ∀F₂ w₂,Later c s F w F₂ w₂->QOk c F₂ (Go.Conc.served g₃ (commResult (seatCases c) .select 1 zq false)) w₂):WOk c rv tf s F g w
 | give {s:WS} {F F':Fo} {g:Goroutine} {w:World} (hF : ∀b,F b->F' b) (hn : ∀b,F' b->F b\/b<w.heap.size) (hA:F'.A=F.A) (h:WOk c rv tf s F' g w):WOk c rv tf s F g w
 | tell {s:WS} {F:Fo} {g:Goroutine} {w:World} (r:List C) (h:WOk c rv tf (s.tell r) F g w):WOk c rv tf s F g w
 | done {s:WS} {F:Fo} {g:Goroutine} {w:World} (hr:g.status = .running) (hR:RepW c s F w) (ht:s.told=tf) (fin:s.orc = []) (h : ∀w₁,RFw c F w F w₁->AtLast c F g w₁) (hres : ∃pre,WorkAt c pre rv w):WOk c rv tf s F g w
variable{c:WC}{rv:List Value}{tf:Option (List C)}{s s':WS}{F:Fo}{g g':Goroutine}{w w':World}
theorem WOk.go(hr:g.status = .running)(h : ∀w₁,RFw c F w F w₁ ->∃g' w' es,stepG Tryz.prog false g w₁ = .go g' w' es/\Dw c F w₁ w' es/\WOk c rv tf s F g' w'):WOk c rv tf s F g w:=
 .step hr (fun w₁ h₁=>by obtain⟨g',w',es,a,b,_⟩:=h w₁ h₁;exact⟨g',w',es,a,b⟩) fun w₁ g' w' es h₁ hs=>by
  obtain⟨g₂,w₂,es₂,a,_,d⟩:=h w₁ h₁
  rw[hs]at a;cases a;exact d
theorem Keeps.tb(hF:F c.tb){w₁:World}(r:RFw c F w F w₁):Keeps F w w₁:=r.2.1.mono fun b hb=>hb.2
theorem Later.rely{F₂:Fo}{w₁ w₂:World}(hF:F c.tb)(r:RFw c F w F w₁)(h:Later c s F w₁ F₂ w₂):Later c s F w F₂ w₂:=
 ⟨h.A,fun b=>by rw[h.has b,r.2.2],(Keeps.tb hF r).trans h.keeps fun b hb =>.inl hb,h.rep⟩
theorem RFw.more{F':Fo}{w₁:World}(hF : ∀b,F b->F' b)(r:RFw c F w F w₁):RFw c F' w F' w₁:=⟨rfl,r.2.1.mono fun b hb=>⟨hb.1,hF b hb.2⟩,r.2.2⟩
theorem WOk.rely{w₁:World}(h:WOk c rv tf s F g w)(r:RFw c F w F w₁):WOk c rv tf s F g w₁:=by
 induction h generalizing w₁ with
 | step hr h h'=>exact .step hr (fun w₂ h₂=>h w₂ (r.trans h₂)) fun w₂ g' w' es h₂=>h' w₂ g' w' es (r.trans h₂)
 | ask e L g₂ g₃ hr hR hL ht h hsit hgrant hquit=>
  exact .ask e L g₂ g₃ hr (hR.rely r) hL ht (fun w₂ h₂=>h w₂ (r.trans h₂)) hsit (fun F₂ w₂ d=>hgrant F₂ w₂ (d.rely hR.tb r)) fun F₂ w₂ d=>hquit F₂ w₂ (d.rely hR.tb r)
 | give hF hn hA h ih=>exact .give hF (fun b hb=>(hn b hb).imp id fun x=>by rw[r.2.2];exact x) hA (ih (r.more hF))
 | tell q h ih=>exact .tell q (ih r)
 | done hr hR ht fin h hres=>
  refine .done hr (hR.rely r) ht fin (fun w₂ h₂=>h w₂ (r.trans h₂)) ?_
  obtain⟨pre,x,y⟩:=hres
  exact⟨pre,x,by rw[r.2.1.block _ (hR.lt _ hR.wb) fun z=>hR.wt z.1];exact y⟩
theorem QOk.rely{w₁:World}(h:QOk c F g w)(r:RFw c F w F w₁):QOk c F g w₁:=by
 unfold QOk at h |-
 cases h with
 | stop h=>exact .stop fun w₂ h₂=>h w₂ (r.trans h₂)
 | step hr h h'=>exact .step hr (fun w₂ h₂=>h w₂ (r.trans h₂)) fun w₂ g' w' es h₂=>h' w₂ g' w' es (r.trans h₂)
theorem xfv(w:World):Dw c F w w #[]:=xbt (Keeps.refl _ w) (by simp)
theorem xm(h : ∀w₁,stepG Tryz.prog false g w₁ = .go g' w₁)(hr:g.status = .running)(hw:WOk c rv tf s F g' w):WOk c rv tf s F g w:=
 .go hr fun w₁ h₁=>⟨g',w₁,#[],h w₁,xfv w₁,hw.rely h₁⟩
section
variable{b:Frame}{a:Act}{ops:Array Oper}{i:Nat}{rest:List Nat}{o:Oper}{k:List Item}{cs:List Frame}{v:Value}
theorem XZ(ho:ops[i]? = some o)(hw:Region.wanted o (yielded ops a.tmps)=true)(hk:b.kind ≠ .early)
  (h : ∀w₁,RFw c F w F w₁ ->∃v w',(execOp a.eval o).run Tryz.prog w₁ = .ok (.value v) w'/\Dw c F w₁ w' (listed Tryz.prog b.fn a o w₁)/\WOk c rv tf s F (G (b.at (a.put o.dst v) (.inRegion ops rest::k)) cs) w'):WOk c rv tf s F (G (b.at a (.inRegion ops (i::rest)::k)) cs) w:=
 .go rfl fun w₁ h₁=>by
  obtain⟨v,w',h2,h3,h4⟩:=h w₁ h₁
  exact⟨_,_,_,stepG_value ho hw hk h2,h3,h4⟩
theorem VW(ho:ops[i]? = some o)(hw:Region.wanted o (yielded ops a.tmps)=true)(hk:b.kind ≠ .early)
  (h : ∀w₁,RFw c F w F w₁ ->∃w',(execOp a.eval o).run Tryz.prog w₁ = .ok .skip w'/\Dw c F w₁ w' (listed Tryz.prog b.fn a o w₁)/\WOk c rv tf s F (G (b.at (a.put o.dst undef) (.inRegion ops rest::k)) cs) w'):WOk c rv tf s F (G (b.at a (.inRegion ops (i::rest)::k)) cs) w:=
 .go rfl fun w₁ h₁=>by
  obtain⟨w',h2,h3,h4⟩:=h w₁ h₁
  exact⟨_,_,_,stepG_none ho hw hk h2,h3,h4⟩
theorem kz{es:Array Event}{n:Nat}(h : ∀e∈es,EvWk c F w.heap.size e):Dw c F w w es:=fun _ _ _=>⟨Keeps.refl _ w,id,fun pre r x=>⟨r,x⟩,h⟩
theorem jW(ho:ops[i]? = some o)(hw:Region.wanted o (yielded ops a.tmps)=true)(hk:b.kind ≠ .early)
  (h : ∀w₁,RFw c F w F w₁->(execOp a.eval o).run Tryz.prog w₁ = .ok (.value v) w₁/\ ∀e∈(execOp a.eval o).events Tryz.prog w₁ #[],EvWk c F w₁.heap.size e)
  (hn:WOk c rv tf s F (G (b.at (a.put o.dst v) (.inRegion ops rest::k)) cs) w):WOk c rv tf s F (G (b.at a (.inRegion ops (i::rest)::k)) cs) w:=
 XZ ho hw hk fun w₁ h₁=>⟨v,w₁,(h w₁ h₁).1,kz (n:=0) fun e he=>(h w₁ h₁).2 e (Kx.mem_seen he),hn.rely h₁⟩
theorem yZ(ho:ops[i]? = some o)(hw:Region.wanted o (yielded ops a.tmps)=true)(hn:WOk c rv tf s F (G (b.at (a.put o.dst v) (.inRegion ops rest::k)) cs) w)(hk:b.kind ≠ .early:=by decide)
  (h : ∀w₁,RFw c F w F w₁->(execOp a.eval o).run Tryz.prog w₁ = .ok (.value v) w₁/\ ∀e∈(execOp a.eval o).events Tryz.prog w₁ #[],EvWk c F w₁.heap.size e:=by exact fun _ _=>⟨by simp[go_sem,execOp,Act.eval];rfl,by simp[go_sem,execOp,Act.eval]⟩):WOk c rv tf s F (G (b.at a (.inRegion ops (i::rest)::k)) cs) w:=jW ho hw hk h hn
theorem vc(ho:ops[i]? = some o)(hw:Region.wanted o (yielded ops a.tmps)=true)(hn:WOk c rv tf s F (G (b.at (a.put o.dst v) (.inRegion ops rest::k)) cs) w)(hk:b.kind ≠ .early:=by decide)
  (h : ∀w₁,RFw c F w F w₁->(execOp a.eval o).run Tryz.prog w₁ = .ok (.value v) w₁/\ ∀e∈(execOp a.eval o).events Tryz.prog w₁ #[],EvWk c F w₁.heap.size e:=by exact fun _ _=>⟨by simp[go_sem,execOp,Act.eval],by simp[go_sem,execOp,Act.eval]⟩):WOk c rv tf s F (G (b.at a (.inRegion ops (i::rest)::k)) cs) w:=jW ho hw hk h hn
end
end Go.Proofs.YtfagfflkgmcnpaaGreatDoor.Tx
namespace Go.Proofs.YtfagfflkgmcnpaaGreatDoor.Tx
open Go Go.Conc Lx Kx
def wE:List PanicEntry :=[{v :=.iface 158 (.agg #[]),recovered:=false}]
noncomputable def xer:Code:= Tryz.f281.body.getD .skip
variable{c:WC}{rv:List Value}{tf:Option (List C)}{s s':WS}{F:Fo}{g g':Goroutine}{w w':World}
theorem xh4(args:Array Value):Frame.enter Tryz.prog 281 args .normal=(base 281).at {tmps:=args++Array.replicate (44-args.size) undef,defers :=[]} [.code xer]:=
 enter_at args Tryz.func281 (c:=xer) rfl
theorem wP(hR:RepW c s F w) : ∃told,w.heap[c.pb]? = some (waitsO c s.steps told):=by obtain⟨t,h,_⟩:=hR.obj;exact⟨t,h⟩
theorem xk{x off:Nat}{cs:Array Value}{T:TypeId}(h:w.heap[x]? = some (.cells cs T (0,0))):w.cell? ⟨x,off,none⟩=cs[off]? :=by simp[World.cell?,h]
theorem xg{x off:Nat}{cs:Array Value}{T:TypeId}(h:w.heap[x]? = some (.cells cs T (0,0))):w.frozen? ⟨x,off,none⟩=false:=by simp[World.frozen?,h]
theorem yB{n:Int}{told:Value}(hp:w.heap[c.pb]? = some (waitsO c n told))(k:Nat):w.cell? ⟨c.pb,k,none⟩=(waitsC c n told)[k]? /\ w.frozen? ⟨c.pb,k,none⟩=false:=⟨xk hp,xg hp⟩
theorem alloc_old{o:Obj}{b:Nat}(h:b<w.heap.size):(w.alloc o).heap[b]? = w.heap[b]? :=heap_alloc_old _ _ h
theorem Zj{o:Obj}{es:Array Event}{fn:FuncId}(he : ∀e∈es,False):Dw c F w (w.alloc o) (seen Tryz.prog fn es):=
 xbt ⟨rfl,rfl,rfl,by rw[World.size_alloc];omega,fun b hb _=>alloc_old hb⟩ fun ev h=>(he ev (Kx.mem_seen h)).elim
theorem ki{n:Nat}{a:Addr}(h:a.block<n)(ht:a.block≠c.tb):EvWk c F n ⟨.cell a,false,false⟩:=⟨h,ht,fun x=>by cases x⟩
section
variable{K:World->Prop}{Still:Loc->Prop}{B:Nat}{Stop:Goroutine->World->Prop}{b:Frame}{a:Act}{ops:Array Oper}{i n:Nat}{rest:List Nat}{o:Oper}{k:List Item}{cs:List Frame}{v:Value}
theorem vU(h : ∀w₁,stepG Tryz.prog false g w₁ = .go g' w₁)(hr:g.status = .running)(hn:Goes Tryz.prog false (RK K) (DS Still B) Stop n g' w):Goes Tryz.prog false (RK K) (DS Still B) Stop (n+1) g w:=
 Goes.step hr fun w₁ h₁=>by
  rw[h w₁]
  simp only[goes_go]
  exact⟨⟨rfl,by simp⟩,Goes.anyWorld w₁ hn⟩
theorem xbu(ho:ops[i]? = some o)(hw:Region.wanted o (yielded ops a.tmps)=true)(hk:b.kind ≠ .early)(h : ∀w₁,K w₁->(execOp a.eval o).run Tryz.prog w₁ = .ok (.value v) w₁/\ ∀e∈(execOp a.eval o).events Tryz.prog w₁ #[],EvC Still B e)
  (hn:Goes Tryz.prog false (RK K) (DS Still B) Stop n (G (b.at (a.put o.dst v) (.inRegion ops rest::k)) cs) w):Goes Tryz.prog false (RK K) (DS Still B) Stop (n+1) (G (b.at a (.inRegion ops (i::rest)::k)) cs) w:=
 Goes.step rfl fun w₁ h₁=>by
  rw[stepG_value ho hw hk (h w₁ h₁).1]
  simp only[goes_go]
  exact⟨⟨rfl,fun ev he=>(h w₁ h₁).2 ev (Kx.mem_seen he)⟩,Goes.anyWorld w₁ hn⟩
theorem ZE(ho:ops[i]? = some o)(hw:Region.wanted o (yielded ops a.tmps)=true)(hn:Goes Tryz.prog false (RK K) (DS Still B) Stop n (G (b.at (a.put o.dst v) (.inRegion ops rest::k)) cs) w)(hk:b.kind ≠ .early:=by decide)
  (h : ∀w₁,K w₁->(execOp a.eval o).run Tryz.prog w₁ = .ok (.value v) w₁/\ ∀e∈(execOp a.eval o).events Tryz.prog w₁ #[],EvC Still B e:=by exact fun _ _=>⟨by simp[go_sem,execOp,Act.eval];rfl,by simp[go_sem,execOp,Act.eval]⟩):Goes Tryz.prog false (RK K) (DS Still B) Stop (n+1) (G (b.at a (.inRegion ops (i::rest)::k)) cs) w:=xbu ho hw hk h hn
theorem xbv(ho:ops[i]? = some o)(hw:Region.wanted o (yielded ops a.tmps)=true)(hn:Goes Tryz.prog false (RK K) (DS Still B) Stop n (G (b.at (a.put o.dst v) (.inRegion ops rest::k)) cs) w)(hk:b.kind ≠ .early:=by decide)
  (h : ∀w₁,K w₁->(execOp a.eval o).run Tryz.prog w₁ = .ok (.value v) w₁/\ ∀e∈(execOp a.eval o).events Tryz.prog w₁ #[],EvC Still B e:=by exact fun _ _=>⟨by simp[go_sem,execOp,Act.eval],by simp[go_sem,execOp,Act.eval]⟩):Goes Tryz.prog false (RK K) (DS Still B) Stop (n+1) (G (b.at a (.inRegion ops (i::rest)::k)) cs) w:=xbu ho hw hk h hn
theorem yJ(h : ∀w₁,stepG Tryz.prog false g w₁ = .go g' w₁)(hr:g.status = .running)(hn:QOk c F g' w):QOk c F g w:=
 GW.go hr fun w₁ h₁=>⟨g',w₁,#[],h w₁,⟨xfv w₁,fun _=>rfl⟩,QOk.rely hn h₁⟩
theorem xcY(ho:ops[i]? = some o)(hw:Region.wanted o (yielded ops a.tmps)=true)(hk:b.kind ≠ .early)(h : ∀w₁,(execOp a.eval o).run Tryz.prog w₁ = .ok (.value v) w₁/\(execOp a.eval o).events Tryz.prog w₁ #[] = #[])
  (hn:QOk c F (G (b.at (a.put o.dst v) (.inRegion ops rest::k)) cs) w):QOk c F (G (b.at a (.inRegion ops (i::rest)::k)) cs) w:=
 GW.go rfl fun w₁ h₁=>⟨_,w₁,_,stepG_value ho hw hk (h w₁).1,⟨kz (n:=0) (fun ev he=>by have:=Kx.mem_seen he;rw[(h w₁).2]at this;simp at this),fun _=>rfl⟩,QOk.rely hn h₁⟩
end
theorem ask_res{acc:Value}:commResult (askCases c acc) .select 0 undef false = .tuple #[.int .i64 0,.bool false,zq]:=by kernel_rfl
theorem xgR{x:Int}:commResult (seatCases c) .select 0 (.int .u64 x) true = .tuple #[.int .i64 0,.bool true,.int .u64 x,zq]:=by kernel_rfl
theorem xh5:commResult (seatCases c) .select 1 zq false = .tuple #[.int .i64 1,.bool false,.int .u64 0,zq]:=by kernel_rfl
theorem ZF{n m:Int}{told:Value}(hp:w.heap[c.pb]? = some (waitsO c n told)):(w.setCell ⟨c.pb,1,none⟩ (.int .i64 m)).heap[c.pb]? = some (waitsO c m told)/\(∀x,x≠c.pb->(w.setCell ⟨c.pb,1,none⟩ (.int .i64 m)).heap[x]? = w.heap[x]?)/\(w.setCell ⟨c.pb,1,none⟩ (.int .i64 m)).heap.size=w.heap.size:=by
 refine⟨?_,fun x hx =>?_,?_⟩
 .simp[World.setCell,Array.getElem?_modify,hp,waitsO,waitsC]
 .show(w.heap.modify c.pb _)[x]? = _
  rw[Array.getElem?_modify,dA fun h=>hx h.symm]
 .simp[World.setCell]
theorem xay(hR:RepW c s F w){L:List Ask}(hL:s.orc ≠ []):RepW c (s.next L) F (w.setCell ⟨c.pb,1,none⟩ (.int .i64 (IntKind.wrap .i64 (s.steps+1)))):=by
 obtain⟨told,hp,ht⟩:=hR.obj
 obtain⟨h1,h2,h3⟩:=ZF (m:=IntKind.wrap .i64 (s.steps+1)) hp
 refine⟨fun b hb=>by rw[h3];exact hR.lt b hb,hR.tb,hR.pb,hR.wb,hR.ne,hR.nw,hR.wt,hR.tok,hR.ml,hR.cap.same id (h2 _ hR.cap.p),hR.dn.same id (h2 _ hR.dn.p),hR.wk.imp fun pre ⟨r,y,z⟩=>⟨r,⟨y.1,by rw[h2 _ hR.nw.symm];exact y.2⟩,fun _=>z hL⟩,told,h1,?_⟩
 show ToldAt c F _ told s.told
 cases hs:s.told with
 | none=>rw[hs]at ht;exact ht
 | some r=>
  rw[hs]at ht
  obtain⟨x,vs,a1,a2,a3,a4,a5,a6,a7⟩:=ht
  exact⟨x,vs,a1,a2,a3,a4,a5,a6,by rw[h2 x a4];exact a7⟩
theorem xh6(hR:RepW c s F w){m:Int}{es:Array Event}(he : ∀ev∈es,ev=⟨.cell ⟨c.pb,1,none⟩,true,false⟩):Dw c F w (w.setCell ⟨c.pb,1,none⟩ (.int .i64 m)) es:=fun _ _ _=>by
 obtain⟨told,hp,ht⟩:=hR.obj
 obtain⟨h1,h2,h3⟩:=ZF (m:=m) hp
 refine⟨⟨rfl,rfl,rfl,Nat.le_of_eq h3.symm,fun b _ hn=>h2 b fun e=>hn (.inr (.inl e))⟩,fun _=>⟨m,told,h1⟩,fun pre r x=>⟨r,x.1,by rw[h2 _ fun e=>hR.nw e.symm];exact x.2⟩,fun ev hm =>?_⟩
 rw[he ev hm]
 exact⟨by rw[h3];exact hR.lt_pb,hR.ne,fun _ =>.inr (.inl ⟨rfl,by simp[xeq]⟩)⟩
theorem xbw{main:Bool}{P:Program}{b:Frame}{a:Act}{ops:Array Oper}{i:Nat}{rest:List Nat}{o:Oper}{k:List Item}{cs:List Frame}{v:Value}(ho:ops[i]? = some o)(hw:Region.wanted o (yielded ops a.tmps)=true)(hk:b.kind ≠ .early)(hr:(execOp a.eval o).run P w = .halt (.panic v) w)(he:(execOp a.eval o).events P w #[] = #[]) :
  stepG P main (G (b.at a (.inRegion ops (i::rest)::k)) cs) w = .go (G {b.at a (.inRegion ops (i::rest)::k)with mode :=.panicking [{v,recovered:=false}]} cs) w #[]:=by
 have am:(b.kind==CallKind.early)=false:=by simpa using hk
 rw[stepG_oper ho hw]
 simp[stepG.apply,hr,he,G,Frame.at,am,GStep.after,seen,Frame.raise]
theorem YG{main:Bool}{P:Program}{fr c:Frame}{cs:List Frame}{ch:List PanicEntry}(hd:fr.defers = [])(hm:fr.mode = .panicking ch)(ht : ∃ops is k,fr.todo = .inRegion ops is::k)(hc:c.mode = .run) :
  stepG P main (G fr (c::cs)) w = .go (G {c with mode :=.panicking ch} cs) w:=by
 obtain⟨ops,is,k,ht⟩:=ht
 have Dd:fr.catches P=false:=by
  unfold Frame.catches
  rw[ht]
  split
  .rename_i h;cases h
  .rfl
 simp[G,stepG,unwind,hd,hm,Dd,Frame.raise,hc]
theorem do_ok(hR:RepW c s F w){e:Ask}{L0:List Ask}(ho:s.orc=e::L0)(Jh:s.told=e.told)(caller:Frame)(cs:List Frame)(hp:PlainF caller)(hq : ∀F₂ w₂,RepW c s F₂ w₂->QOk c F₂ (G {caller with mode :=.panicking wE} cs) w₂)
  (ah : ∀F' w',RepW c (s.next L0) F' w'->Keeps F w w'->(∀b,F' b->F b\/w.heap.size<=b)->F.A.le F'.A->WOk c rv tf (s.next L0) F' (G (caller.finish (.int .u64 e.v)) cs) w'):WOk c rv tf s F (G (Frame.enter Tryz.prog 281 #[.pointer (some ⟨c.pb,0,none⟩),accV e.k e.at_ e.a e.b] .normal) (caller::cs)) w:=by
 rw[xh4]
 simp only[xer,Tryz.f281,Option.getD_some]
 refine xm (fun _=>stepG_seq) rfl ?_
 refine xm (fun _=>stepG_region) rfl ?_
 simp only[List.size_toArray,List.length_cons,List.length_nil,Nat.reduceAdd,Nat.zero_add,List.range,List.range.loop]
 refine XZ rfl rfl (by decide) fun w₁ h₁=>⟨.pointer (some ⟨w₁.heap.size,0,none⟩),w₁.alloc (.cells (accV e.k e.at_ e.a e.b).cells 143),by simp[execOp,Act.eval,Instr.box,newVar,newRow],?_,?_⟩
 .refine Zj fun ev he =>?_
  simp[execOp,Act.eval,Instr.box,newVar,newRow]at he
 have hR₁:=hR.rely h₁
 have hx:(w₁.alloc (.cells (accV e.k e.at_ e.a e.b).cells 143)).heap[w₁.heap.size]? = some (.cells #[.int .u8 e.k,.int .i64 e.at_,.int .u64 e.a,.int .u64 e.b] 143 (0,0)):=heap_alloc_new _ _
 have hR₂:RepW c s F (w₁.alloc (.cells (accV e.k e.at_ e.a e.b).cells 143)):=hR₁.stable fun b hb=>by
  exact alloc_old (hR₁.lt b hb)
 have hKW:Keeps F w (w₁.alloc (.cells (accV e.k e.at_ e.a e.b).cells 143)):=(Keeps.tb hR.tb h₁).trans (S':=fun _=>False) ⟨rfl,rfl,rfl,by rw[World.size_alloc];omega,fun b hb _=>alloc_old hb⟩ (fun b hb=>hb.elim)
 have hxF:w₁.heap.size≠c.tb:=fun e=>by have:=hR₁.lt _ hR₁.tb;omega
 generalize hW:w₁.alloc (.cells (accV e.k e.at_ e.a e.b).cells 143)=W at hx hR₂ hKW |-
 generalize hN:w₁.heap.size=N at hx hxF |-
 have hNW:N<W.heap.size:=(Array.getElem?_eq_some_iff.1 hx).1
 clear hW hN hR₁ h₁ hR
 have hR:=hR₂
 clear hR₂
 walk_nrm
 refine yZ rfl rfl ?_
 walk_nrm
 refine xm (fun _=>stepG_region_end) rfl ?_
 refine xm (fun _=>stepG_seq) rfl ?_
 refine xm (fun _=>stepG_seq) rfl ?_
 refine xm (fun _=>stepG_seq) rfl ?_
 refine xm (fun _=>stepG_seq) rfl ?_
 refine xm (fun _=>stepG_region) rfl ?_
 simp only[List.size_toArray,List.length_cons,List.length_nil,Nat.reduceAdd,Nat.zero_add,List.range,List.range.loop]
 refine yZ rfl rfl ?_
 walk_nrm
 refine yZ rfl rfl ?_
 walk_nrm
 refine yZ rfl rfl ?_
 walk_nrm
 refine jW (v :=.chan (some c.ask)) rfl rfl (by decide) (fun w₂ h₂ =>?_) ?_
 .obtain⟨told,hp⟩:=wP (hR.rely h₂)
  obtain⟨hc,hz⟩:=yB hp 3
  simp only[waitsC]at hc
  exact⟨by simp[go_sem,execOp,Act.eval,hc,hz],fun ev he=>by
   simp[go_sem,execOp,Act.eval,hc,hz]at he
   subst he
   exact ki (hR.rely h₂).lt_pb hR.ne⟩
 walk_nrm
 refine xm (fun _=>stepG_region_end) rfl ?_
 refine xm (fun _=>stepG_region) rfl ?_
 simp only[List.size_toArray,List.length_cons,List.length_nil,Nat.reduceAdd,Nat.zero_add,List.range,List.range.loop]
 refine jW (v:=accV e.k e.at_ e.a e.b) rfl rfl (by decide) (fun w₂ h₂ =>?_) ?_
 .have hx₂:=hx
  rw[<- h₂.2.1.block N hNW (fun z=>hxF z.1)]at hx₂
  have c0:=xk (off:=0) hx₂
  have c1:=xk (off:=1) hx₂
  have c2:=xk (off:=2) hx₂
  have c3:=xk (off:=3) hx₂
  have z0:=xg (off:=0) hx₂
  have z1:=xg (off:=1) hx₂
  have z2:=xg (off:=2) hx₂
  have z3:=xg (off:=3) hx₂
  simp only[List.getElem?_toArray,List.getElem?_cons_zero,List.getElem?_cons_succ]at c0 c1 c2 c3
  exact⟨by simp[go_sem,execOp,Act.eval,c0,c1,c2,c3,z0,z1,z2,z3,accV],fun ev he=>by
   simp[go_sem,execOp,Act.eval,c0,c1,c2,c3,z0,z1,z2,z3]at he
   rcases he with rfl|rfl|rfl|rfl<;>exact ki (by rw[h₂.2.2];exact hNW) hxF⟩
 walk_nrm
 refine xm (fun _=>stepG_region_end) rfl ?_
 refine xm (fun _=>stepG_region) rfl ?_
 simp only[List.size_toArray,List.length_cons,List.length_nil,Nat.reduceAdd,Nat.zero_add,List.range,List.range.loop]
 refine yZ rfl rfl ?_
 walk_nrm
 refine yZ rfl rfl ?_
 walk_nrm
 refine yZ rfl rfl ?_
 walk_nrm
 refine jW (v :=.chan (some c.quit)) rfl rfl (by decide) (fun w₂ h₂ =>?_) ?_
 .obtain⟨told,hp⟩:=wP (hR.rely h₂)
  obtain⟨hc,hz⟩:=yB hp 5
  simp only[waitsC]at hc
  exact⟨by simp[go_sem,execOp,Act.eval,hc,hz],fun ev he=>by
   simp[go_sem,execOp,Act.eval,hc,hz]at he
   subst he
   exact ki (hR.rely h₂).lt_pb hR.ne⟩
 walk_nrm
 refine xm (fun _=>stepG_region_end) rfl ?_
 refine xm (fun _=>stepG_seq) rfl ?_
 refine xm (fun _=>stepG_region) rfl ?_
 simp only[List.size_toArray,List.length_cons,List.length_nil,Nat.reduceAdd,Nat.zero_add,List.range,List.range.loop]
 apply WOk.ask e L0 _ _ rfl hR ho Jh (fun w₁ h₁=>⟨_,stepG_comm rfl rfl (by decide) (by simp[go_sem,execOp,Act.eval];rfl),fun ev he=>by
  have:=Kx.mem_seen he
  simp[go_sem,execOp,Act.eval]at this⟩) ⟨25,fun K Still B hK hS4 hS5 hB =>.inl ⟨24,W,rfl,?sit⟩⟩ ?grant ?quit
 case sit=>
  rw[served_fr,Frame.finish_at]
  rw[ask_res]
  walk_nrm
  refine xbv (v :=.int .i64 0) rfl rfl ?_
  walk_nrm
  refine xbv (v :=.bool true) rfl rfl ?_
  walk_nrm
  refine xbv (v :=.bool false) rfl rfl ?_
  walk_nrm
  refine vU (fun _=>stepG_region_end) rfl ?_
  refine vU (fun _=>stepG_block) rfl ?_
  refine vU (fun _=>stepG_cond (t:=true) rfl) rfl ?_
  simp only[if_true]
  refine vU (fun _=>stepG_skip) rfl ?_
  refine vU (fun _=>stepG_inBlock) rfl ?_
  refine vU (fun _=>stepG_seq) rfl ?_
  refine vU (fun _=>stepG_seq) rfl ?_
  refine vU (fun _=>stepG_region) rfl ?_
  simp only[List.size_toArray,List.length_cons,List.length_nil,Nat.reduceAdd,Nat.zero_add,List.range,List.range.loop]
  refine ZE rfl rfl ?_
  walk_nrm
  refine ZE rfl rfl ?_
  walk_nrm
  refine ZE rfl rfl ?_
  walk_nrm
  refine xbu (v :=.chan (some c.grant)) rfl rfl (by decide) (fun w₂ h₂ =>?_) ?_
  .obtain⟨n,told,hp⟩:=hK w₂ h₂
   obtain⟨hc,hz⟩:=yB hp 4
   simp only[waitsC]at hc
   exact⟨by simp[go_sem,execOp,Act.eval,hc,hz],fun ev he=>by
    simp[go_sem,execOp,Act.eval,hc,hz]at he
    subst he
    exact evC_read _ hS4 hB⟩
  walk_nrm
  refine vU (fun _=>stepG_region_end) rfl ?_
  refine vU (fun _=>stepG_region) rfl ?_
  simp only[List.size_toArray,List.length_cons,List.length_nil,Nat.reduceAdd,Nat.zero_add,List.range,List.range.loop]
  refine ZE rfl rfl ?_
  walk_nrm
  refine ZE rfl rfl ?_
  walk_nrm
  refine ZE rfl rfl ?_
  walk_nrm
  refine xbu (v :=.chan (some c.quit)) rfl rfl (by decide) (fun w₂ h₂ =>?_) ?_
  .obtain⟨n,told,hp⟩:=hK w₂ h₂
   obtain⟨hc,hz⟩:=yB hp 5
   simp only[waitsC]at hc
   exact⟨by simp[go_sem,execOp,Act.eval,hc,hz],fun ev he=>by
    simp[go_sem,execOp,Act.eval,hc,hz]at he
    subst he
    exact evC_read _ hS5 hB⟩
  walk_nrm
  refine vU (fun _=>stepG_region_end) rfl ?_
  refine vU (fun _=>stepG_seq) rfl ?_
  refine vU (fun _=>stepG_region) rfl ?_
  simp only[List.size_toArray,List.length_cons,List.length_nil,Nat.reduceAdd,Nat.zero_add,List.range,List.range.loop]
  refine fun w₂ h₂=>⟨_,rfl,rfl,rfl,rfl,rfl,#[],by simp,fun w₃ h₃ =>?_⟩
  rw[stepG_comm rfl rfl (by decide) (cases:=seatCases c) (blocking:=true) (shape :=.select) (w':=w₃) (by simp[go_sem,execOp,Act.eval];rfl),listed_none (by simp[go_sem,execOp,Act.eval])]
  rfl
 case grant=>
  intro F₂ w₂ hl
  have hR₂:=hl.rep
  rw[served_fr,Frame.finish_at,xgR]
  walk_nrm
  refine vc (v :=.int .i64 0) rfl rfl ?_
  walk_nrm
  refine vc (v :=.bool true) rfl rfl ?_
  walk_nrm
  refine vc (v :=.bool false) rfl rfl ?_
  walk_nrm
  refine xm (fun _=>stepG_region_end) rfl ?_
  refine xm (fun _=>stepG_block) rfl ?_
  refine xm (fun _=>stepG_cond (t:=true) rfl) rfl ?_
  simp only[if_true]
  refine xm (fun _=>stepG_seq) rfl ?_
  refine xm (fun _=>stepG_region) rfl ?_
  simp only[List.size_toArray,List.length_cons,List.length_nil,Nat.reduceAdd,Nat.zero_add,List.range,List.range.loop]
  refine vc (v :=.int .u64 e.v) rfl rfl ?_
  walk_nrm
  refine vc (v :=.int .u64 e.v) rfl rfl ?_
  walk_nrm
  refine xm (fun _=>stepG_region_end) rfl ?_
  refine xm (fun _=>stepG_seq) rfl ?_
  refine xm (fun _=>stepG_region) rfl ?_
  simp only[List.size_toArray,List.length_cons,List.length_nil,Nat.reduceAdd,Nat.zero_add,List.range,List.range.loop]
  refine yZ rfl rfl ?_
  walk_nrm
  refine yZ rfl rfl ?_
  walk_nrm
  refine yZ rfl rfl ?_
  walk_nrm
  refine jW (v :=.int .i64 s.steps) rfl rfl (by decide) (fun w₃ h₃ =>?_) ?_
  .obtain⟨told,hp⟩:=wP (hR₂.rely h₃)
   obtain⟨hc,hz⟩:=yB hp 1
   simp only[waitsC]at hc
   exact⟨by simp[go_sem,execOp,Act.eval,hc,hz],fun ev he=>by
    simp[go_sem,execOp,Act.eval,hc,hz]at he
    subst he
    exact ki (hR₂.rely h₃).lt_pb hR₂.ne⟩
  walk_nrm
  refine jW (v :=.int .i64 (IntKind.wrap .i64 (s.steps+1))) rfl rfl (by decide) (fun w₂ h₂=>⟨by simp[go_sem,execOp,Act.eval],by simp[go_sem,execOp,Act.eval]⟩) ?_
  walk_nrm
  refine yZ rfl rfl ?_
  walk_nrm
  refine yZ rfl rfl ?_
  walk_nrm
  refine VW rfl rfl (by decide) fun w₃ h₃ =>?_
  have hR₃:=hR₂.rely h₃
  obtain⟨told,hp⟩:=wP hR₃
  obtain⟨hc,hz⟩:=yB hp 1
  simp only[waitsC]at hc
  refine⟨w₃.setCell ⟨c.pb,1,none⟩ (.int .i64 (IntKind.wrap .i64 (s.steps+1))),by simp[go_sem,execOp,Act.eval,hc,hz],xh6 hR₃ (fun ev he=>by
   have:=Kx.mem_seen he
   simp[go_sem,execOp,Act.eval,hc,hz,storedEv]at this
   rw[this]
   rfl),?_⟩
  walk_nrm
  refine xm (fun _=>stepG_region_end) rfl ?_
  refine xm (fun _=>stepG_seq) rfl ?_
  refine xm (fun _=>stepG_region) rfl ?_
  simp only[List.size_toArray,List.length_cons,List.length_nil,Nat.reduceAdd,Nat.zero_add,List.range,List.range.loop]
  refine vc (v :=.int .u64 e.v) rfl rfl ?_
  walk_nrm
  refine vc (v :=.int .u64 e.v) rfl rfl ?_
  walk_nrm
  refine xm (fun _=>stepG_region_end) rfl ?_
  refine xm (fun _=>stepG_ret') rfl ?_
  refine xm (fun w₄=>stepG_leave rfl rfl Tryz.func281 (results_tmp rfl _ _ _) (events_results_tmp rfl _ _)) rfl ?_
  have k1:Keeps F w w₃:=(hKW.trans hl.keeps fun b hb =>.inl hb).trans (Keeps.tb hR₂.tb h₃) fun b hb=>(hl.has b).1 hb |>.imp id fun h=>Nat.le_trans hKW.size h.1
  obtain⟨p1,p2,p3⟩:=ZF (m:=IntKind.wrap .i64 (s.steps+1)) hp
  have k2:Keeps F w₃ (w₃.setCell ⟨c.pb,1,none⟩ (.int .i64 (IntKind.wrap .i64 (s.steps+1)))):=⟨rfl,rfl,rfl,Nat.le_of_eq p3.symm,fun b _ hn=>p2 b fun e=>hn (e▸hR.pb)⟩
  refine ah F₂ _ (xay hR₃ (by simp[ho])) (k1.trans k2 fun b hb =>.inl hb) (fun b hb =>?_) hl.A
  rcases(hl.has b).1 hb with h|h
  .exact .inl h
  .exact .inr (Nat.le_trans hKW.size h.1)
 case quit=>
  intro F₂ w₂ hl
  rw[served_fr,Frame.finish_at,xh5]
  walk_nrm
  refine xcY (v :=.int .i64 1) rfl rfl (by decide) (fun w₂=>⟨by simp[go_sem,execOp,Act.eval],by simp[go_sem,execOp,Act.eval]⟩) ?_
  walk_nrm
  refine xcY (v :=.bool false) rfl rfl (by decide) (fun w₂=>⟨by simp[go_sem,execOp,Act.eval],by simp[go_sem,execOp,Act.eval]⟩) ?_
  walk_nrm
  refine xcY (v :=.bool true) rfl rfl (by decide) (fun w₂=>⟨by simp[go_sem,execOp,Act.eval],by simp[go_sem,execOp,Act.eval]⟩) ?_
  walk_nrm
  refine yJ (fun _=>stepG_region_end) rfl ?_
  refine yJ (fun _=>stepG_block) rfl ?_
  refine yJ (fun _=>stepG_cond (t:=false) rfl) rfl ?_
  simp only[if_false,Bool.false_eq_true,reduceIte]
  refine yJ (fun _=>stepG_cond (t:=true) rfl) rfl ?_
  simp only[if_true]
  refine yJ (fun _=>stepG_region) rfl ?_
  simp only[List.size_toArray,List.length_cons,List.length_nil,Nat.reduceAdd,Nat.zero_add,List.range,List.range.loop]
  refine xcY (v :=.agg #[]) rfl rfl (by decide) (fun w₂=>⟨by simp[go_sem,execOp,Act.eval],by simp[go_sem,execOp,Act.eval]⟩) ?_
  walk_nrm
  refine xcY (v :=.iface 158 (.agg #[])) rfl rfl (by decide) (fun w₂=>⟨by simp[go_sem,execOp,Act.eval,Instr.makeInterface,Tryz.underlying158],by simp[go_sem,execOp,Act.eval,Instr.makeInterface,Tryz.underlying158]⟩) ?_
  walk_nrm
  refine yJ (fun w₄=>xbw rfl rfl (by decide) (v :=.iface 158 (.agg #[])) (by simp[go_sem,execOp,Act.eval,Instr.panic,goPanic]) (by simp[go_sem,execOp,Act.eval,Instr.panic,goPanic])) rfl ?_
  exact yJ (fun w₄=>YG rfl rfl ⟨_,_,_,rfl⟩ hp.2.2.1) rfl (hq F₂ w₂ hl.rep)
end Go.Proofs.YtfagfflkgmcnpaaGreatDoor.Tx
namespace Go.Proofs.YtfagfflkgmcnpaaGreatDoor.Tx
open Go Go.Conc Lx Kx
theorem Ya{name:String}{args:List V}{k:Nat}{l:List Int}(h:popOf name args=some (.ask k l)):False:=by
 unfold popOf at h
 (repeat' (split at h))<;>cases h
def primDo(c:WC)(f:FuncId)(s:WS)(F:Fo)(w:World)(vs:Array Value)(s':WS)(Post:Value->Fo->World->Prop):Prop:=
 f = 281 /\ ∃e L,vs = #[.pointer (some ⟨c.pb,0,none⟩),accV e.k e.at_ e.a e.b]/\RepW c s F w/\s.orc=e::L/\s.told=e.told/\s'=s.next L/\
  ∀F' w',RepW c (s.next L) F' w'->Keeps F w w'->(∀b,F' b->F b\/w.heap.size<=b)->F.A.le F'.A->Post (.int .u64 e.v) F' w'
theorem xh7{c:WC}{s:WS}{F:Fo}{w:World}(hR:RepW c s F w)(L:List Ask)(hL:s.orc ≠ []) : ∃w',RepW c (s.next L) F w'/\Keeps F w w':=by
 obtain⟨told,hp⟩:=wP hR
 obtain⟨_,p2,p3⟩:=ZF (m:=IntKind.wrap .i64 (s.steps+1)) hp
 exact⟨_,xay hR hL,rfl,rfl,rfl,Nat.le_of_eq p3.symm,fun b _ hn=>p2 b fun e=>hn (e▸hR.pb)⟩
def JM(c:WC):KBase Tryz.prog WS where
 base:=ZV c
 step:=xfu
 Rep:=RepW c
 lt:=fun h=>h.lt
 stable:=fun h=>h.stable
 main:=false
 RF:=RFw c
 rRefl:=RFw.refl
 rKeeps:=fun h=>h.2.1.mono fun b hb=>hb.2
 rNew:=fun h b hb =>.inl (h.1▸hb)
 rRep:=fun h r=>h.rely r
 rTok:=fun h=>by rw[h.1]
 D:=Dw c
 rd:=fun _=>False
 std:=fun _=>True
 rdLt:=fun _ _ h=>h.elim
 stdK:=fun _ _=>trivial
 rdOff:=fun _ _ h=>h.elim
 dOwn:=fun h h'=>xbt (h.mono fun b hb=>hb.1) h'
 meth:=fun {name args p s s' x F w vs} h h'=>by
  cases p<;>first|(cases h';done)|exact(Ya h).elim
 bad:=fun _=>false
 some_:=⟨0,rfl⟩
 prim:=primDo c
 primSome:=fun⟨_,e,L,_,hR,hLe,_,_,hp⟩=>by
  obtain⟨w',h1,h2⟩:=xh7 hR L (by simp[hLe])
  exact⟨_,_,w',hp _ w' h1 h2 (fun b hb =>.inl hb) (Toks.le.refl _),Toks.le.refl _⟩
def tokB:Blk:=⟨[],0,false,some (.tok 0 0)⟩
def mDo:Sm:=fun
 | [.c (.ptr 0 0),.agg [.int .u8 k,.int .i64 at_,.int .u64 a,.int .u64 b]],[some ⟨[],0,false,some (.tok 0 0)⟩]=>
  some (mkS (List Int) (.op (.ask 0 [k,at_,a,b]) .ret) fun l=>match l with
   | [v]=>some (.c (.int .u64 v),[some tokB])
   | _=>none)
 | _,_=>none
theorem jX{q:Bool}{e:Env}{b:Nat} : ¬Own q e [some tokB] b:=by
 rintro ⟨i,k,r,h1,_,_,h4,_⟩
 match i,h1 with
 | 0,h1=>cases h1;cases h4
 | _+1,h1=>simp[blkAt]at h1
theorem emb_tok{pv:Pv}{e:Env}{w w':World}(E:Emb pv e [some tokB] w):Emb pv e [some tokB] w':=E.ofSame fun b hb=>(jX hb).elim
theorem emb_pb{c:WC}{s:WS}{F:Fo}{e:Env}{w w':World}(hR:RepW c s F w')(E:Emb ((JM c).pv F) e [some tokB] w) : ∃y,e[0]? = some (c.pb,y):=by
 obtain⟨r,cs,h1,_,h3,_⟩:=E.lies 0 tokB rfl
 obtain⟨h4,_⟩:=h3 0 0 rfl
 have:F.A.tok 0=some r.1:=h4
 rw[hR.tok]at this
 obtain⟨x,y⟩:=r
 cases this
 exact⟨y,h1⟩
theorem xh8(c:WC):xx (JM c) 281 mDo:=by
 refine⟨⟨_,_,Tryz.func281,by kernel_rfl,rfl⟩,fun args H S hm e w s F vs E hv hR hF hO x v H' s' aa aw =>?_⟩
 unfold mDo at hm
 split at hm
 rotate_left
 .cases hm
 rename_i k at_ a b
 cases hm
 have E:Emb ((JM c).pv F) e [some tokB] w:=E
 obtain⟨y,hy⟩:=emb_pb hR E
 simp only[mkS,T.run,JM,xfu,WS.use]at aa
 split at aa
 rotate_left
 .cases aa
 rename_i x' s1 hu
 split at hu
 rotate_left
 .cases hu
 rename_i e0 L hL
 split at hu
 rotate_left
 .cases hu
 rename_i ay
 cases hu
 simp only[dM]at ay
 obtain⟨i1,i2,i3,i4⟩:=Ask.is_eq ay.1.2
 have i5:=(xbs ay.2).symm
 simp only[T.run,oI,dI]at aa
 obtain⟨rfl,rfl⟩:=aa
 simp only[mkS,oI,dI]at aw
 obtain⟨rfl,rfl⟩:=aw
 simp only[allSome,denV,den,denL,hy,dN,oI]at hv
 subst hv
 intro O caller cs hp hk
 refine O.prim (Post:=fun rv F' w'=>rv = .int .u64 e0.v/\RepW c (s.next L) F' w'/\Keeps F w w'/\(∀b,F' b->F b\/w.heap.size<=b)/\F.A.le F'.A) ⟨rfl,e0,L,by rw[i1,i2,i3,i4];rfl,hR,hL,i5,rfl,fun F' w' h1 h2 h3 h4=>⟨rfl,h1,h2,h3,h4⟩⟩ caller cs hp fun rv F' w' ⟨h0,h1,h2,h3,h4⟩ h5 =>?_
 subst h0
 refine hk _ F' w' ⟨h5,e,Ext.refl e,rfl,emb_tok (E.grow h5),h1,fun b hb=>(jX hb).elim,h2.mono fun b hb =>.inr hb,fun q b hb=>hb.elim (fun h=>(jX h).elim) fun h =>.inr (h3 b h)⟩
noncomputable def knM:xK:=fun f=>if f = 281 then some mDo else none
theorem known_m(c:WC) : ∀f m,knM f=some m->xx (JM c) f m:=fun f m h=>by
 unfold knM at h
 split at h
 .rename_i e;subst e;cases h;exact xh8 c
 .cases h
def ZW(t:T (V×Heap))(v:Int):Option (List Int×(V×Heap)):=match t with
 | .op (.ask 0 l) k=>match k [v] with
  | .ret r=>some (l,r)
  | _=>none
 | _=>none
theorem ask_run{t:T (V×Heap)}{v:Int}{l:List Int}{r:V×Heap}(h:ZW t v=some (l,r)){s:WS}{L:List Ask}{e:Ask}(ho:s.orc=e::L)(hv:e.v=v)(hu : ∃k at_ a b,l = [k,at_,a,b]/\(okU e.v&&e.is k at_ a b&&eqT e.told s.told)=true):t.run xfu s=some (r,s.next L):=by
 unfold ZW at h
 split at h
 .rename_i l' k'
  split at h
  .rename_i r' hr
   cases h
   obtain⟨k,at_,a,b,rfl,hu⟩:=hu
   simp only[T.run,xfu,WS.use,ho,hu,if_true]
   rw[hv,hr]
   rfl
  .cases h
 .cases h
theorem xes (c:WC) {f:FuncId} {fn:Func} (hf : Tryz.prog.funcs[f]? = some fn) (be:(fn.name == "runtime.NumGoroutine")=false) (an:fn.body.isSome=true) {args:List V} {vs:List Value} {k at_ a b v:Int} {R:Int->V} {rv:Value} {s:WS} {F:Fo} {w:World} {L:List Ask} {e:Ask}
  (ht:ZW (evF Tryz.prog knM 20 fn (.c (.ptr 0 0)::args) [some tokB]) v=some ([k,at_,a,b],(R v,[some tokB]))) (hR:RepW c s F w) (hv : ∀e,allSome (denV undef e) args=some vs) (ho:s.orc=e::L) (he:e.v=v) (hu:(okU e.v&&e.is k at_ a b&&eqT e.told s.told)=true) (hr : ∀e,denV (pvW c) e (R v)=some rv) (hp : ∀e,allSome (denV (pvW c) e) args=allSome (denV undef e) args) :
  KCalls (JM c) f (#[.pointer (some ⟨c.pb,0,none⟩)]++vs.toArray) s F w (s.next L) fun gw F' w'=>gw=rv/\RepW c (s.next L) F' w'/\Keeps F w w'/\(∀b,F' b->F b\/w.heap.size<=b)/\F.A.le F'.A:=by
 have h:=wo (known_m c) yY wa (by kernel_rfl) (J:=JM c) (f:=f) rfl hf be an 20
 have hE:Emb ((JM c).pv F) [(c.pb,0)] [some tokB] w:=by
  refine⟨rfl,fun i k hk =>?_,fun i j k k' r r' h1 h2 _ _ _ v1 =>?_,fun i k hk =>?_⟩
  .match i,hk with
   | 0,hk=>cases hk;exact⟨(c.pb,0),[],rfl,rfl,fun id n ht=>by cases ht;exact⟨hR.tok,.inl rfl⟩,.inl rfl⟩
   | _+1,hk=>simp[blkAt]at hk
  .match i,h1 with
   | 0,h1=>cases h1;cases v1
   | _+1,h1=>simp[blkAt]at h1
  .match i,hk with
   | 0,hk=>cases hk;intro t ht hq;rfl
   | _+1,hk=>simp[blkAt]at hk
 have aa:=ask_run ht ho he ⟨k,at_,a,b,rfl,hu⟩
 have ee:allSome (denV ((JM c).pv F) [(c.pb,0)]) (.c (.ptr 0 0)::args)=some (.pointer (some ⟨c.pb,0,none⟩)::vs):=by
  have h1:=hv [(c.pb,0)]
  rw[<- hp]at h1
  have h1:allSome (denV ((JM c).pv F) [(c.pb,0)]) args=some vs:=h1
  simp only[allSome,h1]
  rfl
 have key:=h.2 (.c (.ptr 0 0)::args) [some tokB] _ rfl [(c.pb,0)] w s F (.pointer (some ⟨c.pb,0,none⟩)::vs) hE ee hR (fun b hb=>(jX hb).elim) ⟨fun _ _ h=>h,trivial⟩ (R v,[some tokB]) (R v) [some tokB] (s.next L) aa rfl
 have e:(Value.pointer (some ⟨c.pb,0,none⟩)::vs).toArray = #[Value.pointer (some ⟨c.pb,0,none⟩)]++vs.toArray:=by simp
 rw[e]at key
 refine key.mono fun gw F' w' ⟨hA,e',_,h2,_,h4,_,h6,h7⟩ =>?_
 have:denV (pvW c) e' (R v)=some gw:=h2
 rw[hr e']at this
 refine⟨(Option.some.inj this).symm,h4,h6.mono fun b hb=>hb.elim (fun h=>(jX h).elim) id,fun b hb =>?_,hA⟩
 rcases h7 true b (.inr hb)with h|h
 .exact(jX h).elim
 .exact h
variable(at_ a b v:Int)
theorem t_load:ZW (evF Tryz.prog knM 20 Tryz.f275 [.c (.ptr 0 0),.c (.int .i64 at_)] [some tokB]) v=some ([1,at_,0,0],(.c (.int .u64 v),[some tokB])):=by kernel_rfl
theorem t_store:ZW (evF Tryz.prog knM 20 Tryz.f279 [.c (.ptr 0 0),.c (.int .i64 at_),.c (.int .u64 a)] [some tokB]) v=some ([2,at_,a,0],(.tup [],[some tokB])):=by kernel_rfl
theorem t_cas:ZW (evF Tryz.prog knM 20 Tryz.f273 [.c (.ptr 0 0),.c (.int .i64 at_),.c (.int .u64 a),.c (.int .u64 b)] [some tokB]) v=some ([3,at_,a,b],(.c (.bool (v != 0)),[some tokB])):=by kernel_rfl
theorem t_add:ZW (evF Tryz.prog knM 20 Tryz.f272 [.c (.ptr 0 0),.c (.int .i64 at_),.c (.int .u64 a)] [some tokB]) v=some ([4,at_,a,0],(.c (.int .u64 v),[some tokB])):=by kernel_rfl
theorem t_get:ZW (evF Tryz.prog knM 20 Tryz.f274 [.c (.ptr 0 0),.c (.int .i64 at_)] [some tokB]) v=some ([5,at_,0,0],(.c (.int .u8 (IntKind.wrap .u8 v)),[some tokB])):=by kernel_rfl
theorem t_put:ZW (evF Tryz.prog knM 20 Tryz.f276 [.c (.ptr 0 0),.c (.int .i64 at_),.c (.int .u8 a)] [some tokB]) v=some ([6,at_,IntKind.wrap .u64 a,0],(.tup [],[some tokB])):=by kernel_rfl
end Go.Proofs.YtfagfflkgmcnpaaGreatDoor.Tx
namespace Go.Proofs.YtfagfflkgmcnpaaGreatDoor.Tx
open Go Go.Conc Lx Kx
variable{c:WC}{rv:List Value}{tf:Option (List C)}{s s':WS}{F:Fo}{g g':Goroutine}{w w':World}
theorem self_ok(hR:RepW c s F w)(caller:Frame)(cs:List Frame)(hc:WOk c rv tf s F (G (caller.finish (.int .i64 c.self)) cs) w):WOk c rv tf s F (G (Frame.enter Tryz.prog 277 #[.pointer (some ⟨c.pb,0,none⟩)] .normal) (caller::cs)) w:=by
 rw[enter_at _ Tryz.func277 (by rfl)]
 simp only[Tryz.f277]
 refine xm (fun _=>stepG_seq) rfl ?_
 refine xm (fun _=>stepG_region) rfl ?_
 simp only[List.size_toArray,List.length_cons,List.length_nil,Nat.reduceAdd,Nat.zero_add,List.range,List.range.loop]
 refine vc (v :=.int .i64 0) rfl rfl ?_
 walk_nrm
 refine xm (fun _=>stepG_region_end) rfl ?_
 refine xm (fun _=>stepG_seq) rfl ?_
 refine xm (fun _=>stepG_region) rfl ?_
 simp only[List.size_toArray,List.length_cons,List.length_nil,Nat.reduceAdd,Nat.zero_add,List.range,List.range.loop]
 refine yZ rfl rfl ?_
 walk_nrm
 refine yZ rfl rfl ?_
 walk_nrm
 refine yZ rfl rfl ?_
 walk_nrm
 refine jW (v :=.int .i64 c.self) rfl rfl (by decide) (fun w₂ h₂ =>?_) ?_
 .obtain⟨told,hp⟩:=wP (hR.rely h₂)
  obtain⟨hc,hz⟩:=yB hp 0
  simp only[waitsC]at hc
  exact⟨by simp[go_sem,execOp,Act.eval,hc,hz],fun e he=>by
   simp[go_sem,execOp,Act.eval,hc,hz]at he
   subst he
   exact ki (hR.rely h₂).lt_pb hR.ne⟩
 walk_nrm
 refine vc (v :=.int .i64 c.self) rfl rfl ?_
 walk_nrm
 refine xm (fun _=>stepG_region_end) rfl ?_
 refine xm (fun _=>stepG_ret') rfl ?_
 refine xm (fun w₄=>stepG_leave rfl rfl Tryz.func277 (results_tmp rfl _ _ _) (events_results_tmp rfl _ _)) rfl ?_
 exact hc
theorem xh9(hR:RepW c s F w)(caller:Frame)(cs:List Frame)(hc:WOk c rv tf s F (G (caller.finish (.int .i64 s.steps)) cs) w):WOk c rv tf s F (G (Frame.enter Tryz.prog 278 #[.pointer (some ⟨c.pb,0,none⟩)] .normal) (caller::cs)) w:=by
 rw[enter_at _ Tryz.func278 (by rfl)]
 simp only[Tryz.f278]
 refine xm (fun _=>stepG_seq) rfl ?_
 refine xm (fun _=>stepG_region) rfl ?_
 simp only[List.size_toArray,List.length_cons,List.length_nil,Nat.reduceAdd,Nat.zero_add,List.range,List.range.loop]
 refine vc (v :=.int .i64 0) rfl rfl ?_
 walk_nrm
 refine xm (fun _=>stepG_region_end) rfl ?_
 refine xm (fun _=>stepG_seq) rfl ?_
 refine xm (fun _=>stepG_region) rfl ?_
 simp only[List.size_toArray,List.length_cons,List.length_nil,Nat.reduceAdd,Nat.zero_add,List.range,List.range.loop]
 refine yZ rfl rfl ?_
 walk_nrm
 refine yZ rfl rfl ?_
 walk_nrm
 refine yZ rfl rfl ?_
 walk_nrm
 refine jW (v :=.int .i64 s.steps) rfl rfl (by decide) (fun w₂ h₂ =>?_) ?_
 .obtain⟨told,hp⟩:=wP (hR.rely h₂)
  obtain⟨hc,hz⟩:=yB hp 1
  simp only[waitsC]at hc
  exact⟨by simp[go_sem,execOp,Act.eval,hc,hz],fun e he=>by
   simp[go_sem,execOp,Act.eval,hc,hz]at he
   subst he
   exact ki (hR.rely h₂).lt_pb hR.ne⟩
 walk_nrm
 refine vc (v :=.int .i64 s.steps) rfl rfl ?_
 walk_nrm
 refine xm (fun _=>stepG_region_end) rfl ?_
 refine xm (fun _=>stepG_ret') rfl ?_
 refine xm (fun w₄=>stepG_leave rfl rfl Tryz.func278 (results_tmp rfl _ _ _) (events_results_tmp rfl _ _)) rfl ?_
 exact hc
theorem VX{n:Int}{told v:Value}(hp:w.heap[c.pb]? = some (waitsO c n told)):(w.setCell ⟨c.pb,2,none⟩ v).heap[c.pb]? = some (waitsO c n v)/\(∀x,x≠c.pb->(w.setCell ⟨c.pb,2,none⟩ v).heap[x]? = w.heap[x]?)/\(w.setCell ⟨c.pb,2,none⟩ v).heap.size=w.heap.size:=by
 refine⟨?_,fun x hx =>?_,?_⟩
 .simp[World.setCell,Array.getElem?_modify,hp,waitsO,waitsC]
 .show(w.heap.modify c.pb _)[x]? = _
  rw[Array.getElem?_modify,dA fun h=>hx h.symm]
 .simp[World.setCell]
theorem YH(P:Program)(w:World)(es:Array Event)(a:Addr)(m:Mode)(p:Option Addr):(store a (.pointer p) m).events P w es=storedEv P w es a (.pointer p) m:=events_store P w es a _ m rfl
theorem dw_told(hR:RepW c s F w){v:Value}{es:Array Event}(he : ∀e∈es,e=⟨.cell ⟨c.pb,2,none⟩,true,false⟩):Dw c F w (w.setCell ⟨c.pb,2,none⟩ v) es:=fun _ _ _=>by
 obtain⟨told,hp,ht⟩:=hR.obj
 obtain⟨h1,h2,h3⟩:=VX (v:=v) hp
 refine⟨⟨rfl,rfl,rfl,Nat.le_of_eq h3.symm,fun b _ hn=>h2 b fun e=>hn (.inr (.inl e))⟩,fun _=>⟨_,v,h1⟩,fun pre r x=>⟨r,x.1,by rw[h2 _ fun e=>hR.nw e.symm];exact x.2⟩,fun e hm =>?_⟩
 rw[he e hm]
 exact⟨by rw[h3];exact hR.lt_pb,hR.ne,fun _ =>.inr (.inl ⟨rfl,by simp[xeq]⟩)⟩
theorem tell_ok(hR:RepW c s F w){r:List C}{vals:List Value}(hr:denL undef [] r=some vals)(caller:Frame)(cs:List Frame)(hc : ∀F' w',RepW c (s.tell r) F' w'->Keeps F w w'->(∀b,F' b->F b\/w.heap.size<=b)->F'.A=F.A->WOk c rv tf (s.tell r) F' (G (caller.finish (.tuple #[])) cs) w'):WOk c rv tf s F (G (Frame.enter Tryz.prog 280 #[.pointer (some ⟨c.pb,0,none⟩),.agg vals.toArray] .normal) (caller::cs)) w:=by
 rw[enter_at _ Tryz.func280 (by rfl)]
 simp only[Tryz.f280]
 refine xm (fun _=>stepG_seq) rfl ?_
 refine xm (fun _=>stepG_region) rfl ?_
 simp only[List.size_toArray,List.length_cons,List.length_nil,Nat.reduceAdd,Nat.zero_add,List.range,List.range.loop]
 refine XZ rfl rfl (by decide) fun w₁ h₁=>⟨.pointer (some ⟨w₁.heap.size,0,none⟩),w₁.alloc (.cells vals.toArray 54),by simp[execOp,Act.eval,Instr.box,newVar,newRow,Value.cells],?_,?_⟩
 .refine Zj fun e he =>?_
  simp[execOp,Act.eval,Instr.box,newVar,newRow]at he
 have hR₁:=hR.rely h₁
 have hx:(w₁.alloc (.cells vals.toArray 54)).heap[w₁.heap.size]? = some (.cells vals.toArray 54 (0,0)):=heap_alloc_new _ _
 have hR₂:RepW c s F (w₁.alloc (.cells vals.toArray 54)):=hR₁.stable fun b hb=>alloc_old (hR₁.lt b hb)
 have hNF : ∀b,F b->b≠w₁.heap.size:=fun b hb e=>by have:=hR₁.lt _ hb;omega
 have hKW:Keeps F w (w₁.alloc (.cells vals.toArray 54)):=(Keeps.tb hR.tb h₁).trans (S':=fun _=>False) ⟨rfl,rfl,rfl,by rw[World.size_alloc];omega,fun b hb _=>alloc_old hb⟩ (fun b hb=>hb.elim)
 have ai:w.heap.size<=w₁.heap.size:=Nat.le_of_eq h₁.2.2.symm
 generalize hW:w₁.alloc (.cells vals.toArray 54)=W at hx hR₂ hKW |-
 generalize hN:w₁.heap.size=N at hx hNF ai |-
 have hNW:N<W.heap.size:=(Array.getElem?_eq_some_iff.1 hx).1
 clear hW hN hR₁ h₁ hR
 have hR:=hR₂
 clear hR₂
 walk_nrm
 refine xm (fun _=>stepG_region_end) rfl ?_
 refine xm (fun _=>stepG_region) rfl ?_
 simp only[List.size_toArray,List.length_cons,List.length_nil,Nat.reduceAdd,Nat.zero_add,List.range,List.range.loop]
 refine yZ rfl rfl ?_
 walk_nrm
 refine yZ rfl rfl ?_
 walk_nrm
 refine yZ rfl rfl ?_
 walk_nrm
 refine VW rfl rfl (by decide) fun w₃ h₃ =>?_
 have hR₃:=hR.rely h₃
 obtain⟨told,hp⟩:=wP hR₃
 obtain⟨hc₂,hz⟩:=yB hp 2
 simp only[waitsC]at hc₂
 obtain⟨p1,p2,p3⟩:=VX (v :=.pointer (some ⟨N,0,none⟩)) hp
 have hx₃:(w₃.setCell ⟨c.pb,2,none⟩ (.pointer (some ⟨N,0,none⟩))).heap[N]? = some (.cells vals.toArray 54 (0,0)):=by
  rw[p2 N (fun e=>hNF c.pb hR.pb e.symm),h₃.2.1.block N hNW (fun z=>hNF _ z.2 rfl)]
  exact hx
 have k1:Keeps F w w₃:=hKW.trans (Keeps.tb hR.tb h₃) fun b hb =>.inl hb
 have k2:Keeps F w₃ (w₃.setCell ⟨c.pb,2,none⟩ (.pointer (some ⟨N,0,none⟩))):=⟨rfl,rfl,rfl,Nat.le_of_eq p3.symm,fun b _ hn=>p2 b fun e=>hn (e▸hR.pb)⟩
 refine⟨w₃.setCell ⟨c.pb,2,none⟩ (.pointer (some ⟨N,0,none⟩)),by simp[go_sem,execOp,Act.eval,hc₂,hz],dw_told hR₃ (fun e he=>by
  have:=Kx.mem_seen he
  simp[go_sem,execOp,Act.eval,hc₂,hz,storedEv,YH]at this
  rw[this]
  rfl),?_⟩
 have hcN:F.A.cap N=none:=by
  cases h:F.A.cap N with
  | none=>rfl
  | some y=>exact absurd rfl (hNF _ (hR.ml _ y h))
 have hR':RepW c (s.tell r) ⟨fun b=>F b\/b=N,F.A⟩ (w₃.setCell ⟨c.pb,2,none⟩ (.pointer (some ⟨N,0,none⟩))):=
  ⟨fun b hb=>hb.elim (fun h=>by rw[p3];exact hR₃.lt b h) (fun h=>by subst h;exact(Array.getElem?_eq_some_iff.1 hx₃).1),.inl hR.tb,.inl hR.pb,.inl hR.wb,hR.ne,hR.nw,hR.wt,hR.tok,fun b y h =>.inl (hR.ml b y h),hR₃.cap.same .inl (p2 _ hR.cap.p),hR₃.dn.same .inl (p2 _ hR.dn.p),hR₃.wk.imp fun pre ⟨r,y,z⟩=>⟨r,⟨y.1,by rw[p2 _ hR.nw.symm];exact y.2⟩,z⟩,_,p1,N,vals,rfl,⟨.inr rfl,hcN⟩,(hNF _ hR.tb).symm,(hNF _ hR.pb).symm,(hNF _ hR.wb).symm,hr,hx₃⟩
 have key:=hc ⟨fun b=>F b\/b=N,F.A⟩ _ hR' (k1.trans k2 fun b hb =>.inl hb) (fun b hb=>hb.imp id fun h=>by subst h;exact ai) rfl
 walk_nrm
 refine xm (fun _=>stepG_region_end) rfl ?_
 refine xm (fun _=>stepG_end) rfl ?_
 refine xm (fun w₄=>stepG_leave rfl rfl Tryz.func280 (results_none rfl _ _ _) (events_results_none rfl _ _)) rfl ?_
 exact .tell r (.give (F':=⟨fun b=>F b\/b=N,F.A⟩) (fun b hb =>.inl hb) (fun b hb=>hb.imp id fun h=>by subst h;exact(Array.getElem?_eq_some_iff.1 hx₃).1) rfl key)
end Go.Proofs.YtfagfflkgmcnpaaGreatDoor.Tx
namespace Go.Proofs.YtfagfflkgmcnpaaGreatDoor.Tx
open Go Go.Conc Lx Kx
variable{c:WC}{rv:List Value}{tf:Option (List C)}{s s':WS}{F:Fo}{g g':Goroutine}{w w':World}
def recvW(c:WC):Value :=.pointer (some ⟨c.pb,0,none⟩)
def fOf:POp->FuncId
 | .load _=> 275
 | .store _ _=> 279
 | .cas _ _ _=> 273
 | .add _ _=> 272
 | .get _=> 274
 | .put _ _=> 276
 | .self=> 277
 | .steps=> 278
 | .tell _=> 280
 | .ask _ _=>0
def jG(c:WC)(name:String)(f:FuncId):Prop :=∀ (args:List Value) (w:World),(callMethod (pvW c) name args.toArray).run Tryz.prog w = .ok (.enter f (#[recvW c]++args.toArray)) w/\(callMethod (pvW c) name args.toArray).events Tryz.prog w #[] = #[]
theorem w_load(c:WC):jG c "Load" 275 :=fun args w=>⟨by kernel_rfl,by kernel_rfl⟩
theorem w_store(c:WC):jG c "Store" 279 :=fun args w=>⟨by kernel_rfl,by kernel_rfl⟩
theorem w_cas(c:WC):jG c "CAS" 273 :=fun args w=>⟨by kernel_rfl,by kernel_rfl⟩
theorem w_add(c:WC):jG c "Add" 272 :=fun args w=>⟨by kernel_rfl,by kernel_rfl⟩
theorem w_get(c:WC):jG c "Get" 274 :=fun args w=>⟨by kernel_rfl,by kernel_rfl⟩
theorem w_put(c:WC):jG c "Put" 276 :=fun args w=>⟨by kernel_rfl,by kernel_rfl⟩
theorem w_self(c:WC):jG c "Self" 277 :=fun args w=>⟨by kernel_rfl,by kernel_rfl⟩
theorem w_steps(c:WC):jG c "Steps" 278 :=fun args w=>⟨by kernel_rfl,by kernel_rfl⟩
theorem w_tell(c:WC):jG c "Tell" 280 :=fun args w=>⟨by kernel_rfl,by kernel_rfl⟩
def qF(name:String)(args:List V):POp->Prop
 | .load a=>name = "Load" /\ args = [.c (.int .i64 a)]
 | .store a b=>name = "Store" /\ args = [.c (.int .i64 a),.c (.int .u64 b)]
 | .cas a b d=>name = "CAS" /\ args = [.c (.int .i64 a),.c (.int .u64 b),.c (.int .u64 d)]
 | .add a b=>name = "Add" /\ args = [.c (.int .i64 a),.c (.int .u64 b)]
 | .get a=>name = "Get" /\ args = [.c (.int .i64 a)]
 | .put a b=>name = "Put" /\ args = [.c (.int .i64 a),.c (.int .u8 b)]
 | .self=>name = "Self" /\ args = []
 | .steps=>name = "Steps" /\ args = []
 | .tell l=>name = "Tell" /\ args = [.agg l]/\l.all wU=true
 | .ask _ _=>False
theorem xet{name:String}{args:List V}{p:POp}(h:popOf name args=some p):qF name args p:=by
 unfold popOf at h
 split at h
 all_goals (repeat' (split at h))
 all_goals first
  | (cases h;done)
  | (cases h;first|exact⟨‹_›,rfl⟩|exact⟨‹_›,rfl,‹_›⟩)
theorem xia{name:String}{args:List V}{p:POp}(h:popOf name args=some p):jG c name (fOf p):=by
 have:=xet h
 cases p<;>simp only[qF]at this
 .rw[this.1];exact w_load c
 .rw[this.1];exact w_store c
 .rw[this.1];exact w_cas c
 .rw[this.1];exact w_add c
 .rw[this.1];exact w_get c
 .rw[this.1];exact w_put c
 .rw[this.1];exact w_self c
 .rw[this.1];exact w_steps c
 .rw[this.1];exact w_tell c
theorem vA{α:Type}{k at_ a b:Int}{f:Int->α}{x:α}(h:s.use k at_ a b f=some (x,s')) : ∃e L,s.orc=e::L/\(okU e.v&&e.is k at_ a b&&eqT e.told s.told)=true/\x=f e.v/\s'=s.next L:=by
 unfold WS.use at h
 split at h
 .rename_i v L hL
  split at h
  .rename_i hu;cases h;exact⟨v,L,hL,hu,rfl,rfl⟩
  .cases h
 .cases h
theorem xcZ{c:WC}{l:List C}(hf:l.all wU=true){vs:List Value}(hv:allSome (denV (pvW c) []) [.agg l]=some vs) : ∃vals,denL undef [] l=some vals/\vs = [.agg vals.toArray]:=by
 simp only[allSome]at hv
 split at hv
 .rename_i y hy
  simp only[denV,oM]at hy
  obtain⟨vals,h1,rfl⟩:=hy
  cases hv
  exact⟨vals,by rw[Zr (pv:=pvW c) (e :=[]) hf];exact h1,rfl⟩
 .cases hv
theorem xib(hR:RepW c s F w){r:List C}{vals:List Value}(hr:denL undef [] r=some vals) : ∃F' w',RepW c (s.tell r) F' w'/\Keeps F w w'/\(∀b,F' b->F b\/w.heap.size<=b)/\F'.A=F.A:=by
 have hR₂:RepW c s F (w.alloc (.cells vals.toArray 54)):=hR.stable fun b hb=>alloc_old (hR.lt b hb)
 have hx:(w.alloc (.cells vals.toArray 54)).heap[w.heap.size]? = some (.cells vals.toArray 54 (0,0)):=heap_alloc_new _ _
 have hNF : ∀b,F b->b≠w.heap.size:=fun b hb e=>by have:=hR.lt _ hb;omega
 have hcN:F.A.cap w.heap.size=none:=by
  cases h:F.A.cap w.heap.size with
  | none=>rfl
  | some y=>exact absurd rfl (hNF _ (hR.ml _ y h))
 have k1:Keeps F w (w.alloc (.cells vals.toArray 54)):=⟨rfl,rfl,rfl,by rw[World.size_alloc];omega,fun b hb _=>alloc_old hb⟩
 obtain⟨told,hp⟩:=wP hR₂
 obtain⟨p1,p2,p3⟩:=VX (v :=.pointer (some ⟨w.heap.size,0,none⟩)) hp
 have k2:Keeps F w ((w.alloc (.cells vals.toArray 54)).setCell ⟨c.pb,2,none⟩ (.pointer (some ⟨w.heap.size,0,none⟩))):=k1.trans (S':=F) ⟨rfl,rfl,rfl,Nat.le_of_eq p3.symm,fun b _ hn=>p2 b fun e=>hn (e▸hR.pb)⟩ fun b hb =>.inl hb
 have cr:=hx
 rw[<- p2 _ (fun e=>hNF c.pb hR.pb e.symm)]at cr
 exact⟨⟨fun b=>F b\/b=w.heap.size,F.A⟩,_,⟨fun b hb=>hb.elim (fun h=>by rw[p3];exact hR₂.lt b h) (fun h=>by subst h;exact(Array.getElem?_eq_some_iff.1 cr).1),.inl hR.tb,.inl hR.pb,.inl hR.wb,hR.ne,hR.nw,hR.wt,hR.tok,fun b y h =>.inl (hR.ml b y h),hR₂.cap.same .inl (p2 _ hR.cap.p),hR₂.dn.same .inl (p2 _ hR.dn.p),hR₂.wk.imp fun pre ⟨r,y,z⟩=>⟨r,⟨y.1,by rw[p2 _ hR.nw.symm];exact y.2⟩,z⟩,_,p1,w.heap.size,vals,rfl,⟨.inr rfl,hcN⟩,(hNF _ hR.tb).symm,(hNF _ hR.pb).symm,(hNF _ hR.wb).symm,hr,cr⟩,k2,fun b hb=>hb.imp id fun h=>by omega,rfl⟩
def JW(c:WC):KBase Tryz.prog WS where
 base:=ZV c
 step:=stepW c
 Rep:=RepW c
 lt:=fun h=>h.lt
 stable:=fun h=>h.stable
 main:=false
 RF:=RFw c
 rRefl:=RFw.refl
 rKeeps:=fun h=>h.2.1.mono fun b hb=>hb.2
 rNew:=fun h b hb =>.inl (h.1▸hb)
 rRep:=fun h r=>h.rely r
 rTok:=fun h=>by rw[h.1]
 D:=Dw c
 rd:=fun _=>False
 std:=fun _=>True
 rdLt:=fun _ _ h=>h.elim
 stdK:=fun _ _=>trivial
 rdOff:=fun _ _ h=>h.elim
 dOwn:=fun h h'=>xbt (h.mono fun b hb=>hb.1) h'
 meth:=fun {name args p s s' x F w vs} h h' hv hR=>by
  refine⟨fOf p,recvW c,?_⟩
  have hm:=xia (c:=c) h
  have key : ∃rv,Flat (ZV c).pv (ansV p x) rv/\ ∃F' w',RepW c s' F' w'/\Keeps F w w'/\(∀b,F' b->F b\/w.heap.size<=b)/\F.A.le F'.A:=by
   have acc : ∀ (L:List Ask),s.orc ≠ []->s'=s.next L ->∃F' w',RepW c s' F' w'/\Keeps F w w'/\(∀b,F' b->F b\/w.heap.size<=b)/\F.A.le F'.A:=fun L hL e=>by
    obtain⟨w',h1,h2⟩:=xh7 hR L hL
    exact⟨F,w',e▸h1,h2,fun b hb =>.inl hb,Toks.le.refl _⟩
   cases p with
   | self=>simp only[stepW,oI,dI]at h';obtain⟨rfl,rfl⟩:=h';exact⟨_,fun e=>rfl,F,w,hR,Keeps.refl _ w,fun b hb =>.inl hb,Toks.le.refl _⟩
   | steps=>simp only[stepW,oI,dI]at h';obtain⟨rfl,rfl⟩:=h';exact⟨_,fun e=>rfl,F,w,hR,Keeps.refl _ w,fun b hb =>.inl hb,Toks.le.refl _⟩
   | tell l=>
    change some ((),s.tell l)=some (x,s')at h'
    cases h'
    have hp:=xet h
    simp only[qF]at hp
    obtain⟨vals,h1,_⟩:=xcZ (c:=c) hp.2.2 (by rw[<- hp.2.1];exact hv)
    obtain⟨F',w',a1,a2,a3,a4⟩:=xib hR h1
    exact⟨_,fun e=>rfl,F',w',a1,a2,a3,by rw[a4];exact Toks.le.refl _⟩
   | ask k l=>cases h'
   | load i=>obtain⟨v,L,hL,_,rfl,e⟩:=vA (show s.use 1 i 0 0 id=some (x,s')from h');exact⟨_,fun e=>rfl,acc L (by simp[hL]) e⟩
   | store i y=>obtain⟨v,L,hL,_,_,e⟩:=vA (show s.use 2 i y 0 (fun _=>())=some (x,s')from h');exact⟨_,fun e=>rfl,acc L (by simp[hL]) e⟩
   | cas i y z=>obtain⟨v,L,hL,_,rfl,e⟩:=vA (show s.use 3 i y z (fun v=>v != 0)=some (x,s')from h');exact⟨_,fun e=>rfl,acc L (by simp[hL]) e⟩
   | add i y=>obtain⟨v,L,hL,_,rfl,e⟩:=vA (show s.use 4 i y 0 id=some (x,s')from h');exact⟨_,fun e=>rfl,acc L (by simp[hL]) e⟩
   | get i=>obtain⟨v,L,hL,_,rfl,e⟩:=vA (show s.use 5 i 0 0 (fun v=>IntKind.wrap .u8 v)=some (x,s')from h');exact⟨_,fun e=>rfl,acc L (by simp[hL]) e⟩
   | put i y=>obtain⟨v,L,hL,_,_,e⟩:=vA (show s.use 6 i (IntKind.wrap .u64 y) 0 (fun _=>())=some (x,s')from h');exact⟨_,fun e=>rfl,acc L (by simp[hL]) e⟩
  obtain⟨rv,h1,h2⟩:=key
  exact⟨rv,fun w=>(hm vs w).1,fun w=>(hm vs w).2,h1,h2⟩
 bad:=fun _=>false
 some_:=⟨0,rfl⟩
 prim:=fun _ _ _ _ _ _ _=>False
 primSome:=fun h=>h.elim
def CsW(t0:Frame)(rest:List Frame)(cs:List Frame):Prop :=∃pre,cs=pre++t0::rest/\ ∀f∈pre,PlainF f
def xaz(c:WC)(t0:Frame)(rest:List Frame):Prop:=t0.defers ≠ []/\t0.mode = .run/\ ∀s F w,RepW c s F w->QOk c F (G {t0 with mode :=.panicking wE} rest) w
theorem q_out{t0:Frame}{rest:List Frame}(hT:xaz c t0 rest) : ∀ (pre:List Frame) (fr:Frame),PlainF fr->(∀f∈pre,PlainF f) ->∀s F w,RepW c s F w->QOk c F (G {fr with mode :=.panicking wE} (pre++t0::rest)) w
 | [],fr,hf,_,s,F,w,hR=>yJ (fun _=>YG (fr :={fr with mode :=.panicking wE}) hf.1 rfl hf.2.2.2 hT.2.1) rfl (hT.2.2 s F w hR)
 | x::pre,fr,hf,hp,s,F,w,hR=>yJ (fun _=>YG (fr :={fr with mode :=.panicking wE}) hf.1 rfl hf.2.2.2 (hp x (by simp)).2.2.1) rfl (q_out hT pre x (hp x (by simp)) (fun f hf=>hp f (by simp[hf])) s F w hR)
theorem xc0{t0 x:Frame}{rest cs:List Frame}(hx:PlainF x)(h:CsW t0 rest cs):CsW t0 rest (x::cs):=by
 obtain⟨pre,rfl,h⟩:=h
 exact⟨x::pre,rfl,fun f hf=>by rcases List.mem_cons.1 hf with rfl|hf;exact hx;exact h f hf⟩
theorem jk{t0 x:Frame}{rest cs:List Frame}(h0:t0.defers ≠ [])(hx:PlainF x)(h:CsW t0 rest (x::cs)):CsW t0 rest cs:=by
 obtain⟨pre,e,h⟩:=h
 cases pre with
 | nil=>cases e;exact absurd hx.1 h0
 | cons y pre=>cases e;exact⟨pre,rfl,fun f hf=>h f (by simp[hf])⟩
theorem csW_q{t0 x:Frame}{rest cs:List Frame}(hT:xaz c t0 rest)(hx:PlainF x)(h:CsW t0 rest (x::cs))(s:WS)(F:Fo)(w:World)(hR:RepW c s F w):QOk c F (G {x with mode :=.panicking wE} cs) w:=by
 obtain⟨pre,rfl,h'⟩:=jk hT.1 hx h
 exact q_out hT pre x hx h' s F w hR
def OkW(c:WC)(rv:List Value)(tf:Option (List C))(t0:Frame)(rest:List Frame)(s:WS)(F:Fo)(fr:Frame)(cs:List Frame)(w:World):Prop:=CsW t0 rest cs->WOk c rv tf s F (G fr cs) w
def OM(c:WC)(rv:List Value)(tf:Option (List C))(t0:Frame)(rest:List Frame)(hT:xaz c t0 rest):KOk (JM c) where
 Ok:=OkW c rv tf t0 rest
 Cs:=CsW t0 rest
 csCons:=xc0
 csTail:=jk hT.1
 okStep:=fun _ h bk =>.go rfl fun w₁ h₁=>by
  obtain⟨oz,cs',w',es,h2,h3,h4,h5⟩:=h _ w₁ h₁
  exact⟨_,w',es,h2,h3,h5 (h4 bk)⟩
 okRely:=fun h hr bk=>by
  obtain⟨rfl,a,b⟩:=hr
  exact(h bk).rely ⟨rfl,a,b⟩
 does:=fun {name args p s s' x F w f recv rv vs} h h'=>by
  cases p<;>first|(cases h';done)|exact(Ya h).elim
 prim:=fun {f s F w vs s' Post} h caller cs hp hk bk=>by
  obtain⟨rfl,e,L,rfl,hR,ho,ht,rfl,Cn⟩:=h
  exact(do_ok hR ho ht caller cs hp (csW_q hT hp bk s) fun F' w' h1 h2 h3 h4=>hk _ F' w' (Cn F' w' h1 h2 h3 h4) h4 (jk hT.1 hp bk))
variable{t0:Frame}{rest:List Frame}
theorem jY (hT:xaz c t0 rest) {f:FuncId} {fn:Func} (hf : Tryz.prog.funcs[f]? = some fn) (be:(fn.name == "runtime.NumGoroutine")=false) (an:fn.body.isSome=true) {args:List V} {vs:List Value} {k at_ a b:Int} {R:Int->V} {gw:Value} {L:List Ask} {e:Ask}
  (ht : ∀v,ZW (evF Tryz.prog knM 20 fn (.c (.ptr 0 0)::args) [some tokB]) v=some ([k,at_,a,b],(R v,[some tokB]))) (hR:RepW c s F w) (hv : ∀e,allSome (denV undef e) args=some vs) (ho:s.orc=e::L) (hu:(okU e.v&&e.is k at_ a b&&eqT e.told s.told)=true) (hr : ∀e',denV (pvW c) e' (R e.v)=some gw) (hp : ∀e,allSome (denV (pvW c) e) args=allSome (denV undef e) args)
  (caller:Frame) (cs:List Frame) (et:PlainF caller) (hc : ∀F' w',RepW c (s.next L) F' w'->Keeps F w w'->(∀b,F' b->F b\/w.heap.size<=b)->F.A.le F'.A->OkW c rv tf t0 rest (s.next L) F' (caller.finish gw) cs w'):OkW c rv tf t0 rest s F (Frame.enter Tryz.prog f (#[recvW c]++vs.toArray) .normal) (caller::cs) w:=
 xes c hf be an (ht e.v) hR hv ho rfl hu hr hp (OM c rv tf t0 rest hT) caller cs et fun rv₁ F' w' ⟨h1,h2,h3,h4,h5⟩=>by
  subst h1
  exact hc F' w' h2 h3 h4 h5
theorem xeu{gw:Value}{pv:Value}(h:Flat pv (.tup []) gw):gw = .tuple #[]:=by
 have:=h []
 cases this
 rfl
def OW(c:WC)(rv:List Value)(tf:Option (List C))(t0:Frame)(rest:List Frame)(hT:xaz c t0 rest):KOk (JW c) where
 Ok:=OkW c rv tf t0 rest
 Cs:=CsW t0 rest
 csCons:=xc0
 csTail:=jk hT.1
 okStep:=fun _ h bk =>.go rfl fun w₁ h₁=>by
  obtain⟨oz,cs',w',es,h2,h3,h4,h5⟩:=h _ w₁ h₁
  exact⟨_,w',es,h2,h3,h5 (h4 bk)⟩
 okRely:=fun h hr bk=>by
  obtain⟨rfl,a,b⟩:=hr
  exact(h bk).rely ⟨rfl,a,b⟩
 does:=fun {name args p s s' x F w f recv gw} {vs} h h' hv hR hm zd caller cs et hc=>by
  have B1:=(xia (c:=c) h vs w).1
  have Fm:=hm w
  rw[show callMethod (JW c).base.pv name vs.toArray=callMethod (pvW c) name vs.toArray from rfl,B1]at Fm
  simp only[Result.ok.injEq,Next.enter.injEq,and_true]at Fm
  obtain⟨e1,e2⟩:=Fm
  rw[<- e1,<- e2]
  have hp:=xet h
  cases p with
  | self=>
   simp only[qF]at hp
   obtain⟨rfl,rfl⟩:=hp
   cases hv
   change some (c.self,s)=some (x,s')at h'
   cases h'
   have e3:gw = .int .i64 c.self:=by have:=zd [];cases this;rfl
   subst e3
   intro bk
   exact self_ok hR caller cs (hc F w hR (Keeps.refl _ w) (fun b hb =>.inl hb) (Toks.le.refl _) (jk hT.1 et bk))
  | steps=>
   simp only[qF]at hp
   obtain⟨rfl,rfl⟩:=hp
   cases hv
   change some (s.steps,s)=some (x,s')at h'
   cases h'
   have e3:gw = .int .i64 s.steps:=by have:=zd [];cases this;rfl
   subst e3
   intro bk
   exact xh9 hR caller cs (hc F w hR (Keeps.refl _ w) (fun b hb =>.inl hb) (Toks.le.refl _) (jk hT.1 et bk))
  | tell l=>
   simp only[qF]at hp
   obtain⟨rfl,rfl,hf⟩:=hp
   change some ((),s.tell l)=some (x,s')at h'
   cases h'
   obtain⟨vals,h1,rfl⟩:=xcZ (c:=c) hf hv
   have e3:=xeu zd
   subst e3
   intro bk
   exact tell_ok hR h1 caller cs fun F' w' a1 a2 a3 a4=>hc F' w' a1 a2 a3 (by rw[a4];exact Toks.le.refl _) (jk hT.1 et bk)
  | ask k l=>exact hp.elim
  | load i=>
   simp only[qF]at hp
   obtain⟨rfl,rfl⟩:=hp
   obtain⟨e,L,ho,hu,rfl,rfl⟩:=vA (show s.use 1 i 0 0 id=some (x,s')from h')
   have e3:gw = .int .u64 e.v:=by have:=zd [];cases this;rfl
   subst e3
   cases hv
   exact jY hT Tryz.func275 (by kernel_rfl) (by rfl) (args :=[.c (.int .i64 i)]) (vs :=[.int .i64 i]) (t_load i) hR (fun e=>rfl) ho hu (fun e=>rfl) (fun e=>rfl) caller cs et hc
  | store i y=>
   simp only[qF]at hp
   obtain⟨rfl,rfl⟩:=hp
   obtain⟨e,L,ho,hu,_,rfl⟩:=vA (show s.use 2 i y 0 (fun _=>())=some (x,s')from h')
   have e3:=xeu zd
   subst e3
   cases hv
   exact jY hT Tryz.func279 (by kernel_rfl) (by rfl) (args :=[.c (.int .i64 i),.c (.int .u64 y)]) (vs :=[.int .i64 i,.int .u64 y]) (t_store i y) hR (fun e=>rfl) ho hu (fun e=>rfl) (fun e=>rfl) caller cs et hc
  | cas i y z=>
   simp only[qF]at hp
   obtain⟨rfl,rfl⟩:=hp
   obtain⟨e,L,ho,hu,rfl,rfl⟩:=vA (show s.use 3 i y z (fun v=>v != 0)=some (x,s')from h')
   have e3:gw = .bool (e.v != 0):=by have:=zd [];cases this;rfl
   subst e3
   cases hv
   exact jY hT Tryz.func273 (by kernel_rfl) (by rfl) (args :=[.c (.int .i64 i),.c (.int .u64 y),.c (.int .u64 z)]) (vs :=[.int .i64 i,.int .u64 y,.int .u64 z]) (t_cas i y z) hR (fun e=>rfl) ho hu (fun e=>rfl) (fun e=>rfl) caller cs et hc
  | add i y=>
   simp only[qF]at hp
   obtain⟨rfl,rfl⟩:=hp
   obtain⟨e,L,ho,hu,rfl,rfl⟩:=vA (show s.use 4 i y 0 id=some (x,s')from h')
   have e3:gw = .int .u64 e.v:=by have:=zd [];cases this;rfl
   subst e3
   cases hv
   exact jY hT Tryz.func272 (by kernel_rfl) (by rfl) (args :=[.c (.int .i64 i),.c (.int .u64 y)]) (vs :=[.int .i64 i,.int .u64 y]) (t_add i y) hR (fun e=>rfl) ho hu (fun e=>rfl) (fun e=>rfl) caller cs et hc
  | get i=>
   simp only[qF]at hp
   obtain⟨rfl,rfl⟩:=hp
   obtain⟨e,L,ho,hu,rfl,rfl⟩:=vA (show s.use 5 i 0 0 (fun v=>IntKind.wrap .u8 v)=some (x,s')from h')
   have e3:gw = .int .u8 (IntKind.wrap .u8 e.v):=by have:=zd [];cases this;rfl
   subst e3
   cases hv
   exact jY hT Tryz.func274 (by kernel_rfl) (by rfl) (args :=[.c (.int .i64 i)]) (vs :=[.int .i64 i]) (t_get i) hR (fun e=>rfl) ho hu (fun e=>rfl) (fun e=>rfl) caller cs et hc
  | put i y=>
   simp only[qF]at hp
   obtain⟨rfl,rfl⟩:=hp
   obtain⟨e,L,ho,hu,_,rfl⟩:=vA (show s.use 6 i (IntKind.wrap .u64 y) 0 (fun _=>())=some (x,s')from h')
   have e3:=xeu zd
   subst e3
   cases hv
   exact jY hT Tryz.func276 (by kernel_rfl) (by rfl) (args :=[.c (.int .i64 i),.c (.int .u8 y)]) (vs :=[.int .i64 i,.int .u8 y]) (t_put i y) hR (fun e=>rfl) ho hu (fun e=>rfl) (fun e=>rfl) caller cs et hc
 prim:=fun h=>h.elim
end Go.Proofs.YtfagfflkgmcnpaaGreatDoor.Tx
