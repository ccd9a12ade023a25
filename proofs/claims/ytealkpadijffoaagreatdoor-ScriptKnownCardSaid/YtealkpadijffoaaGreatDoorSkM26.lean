/- Part. -/
import Derived.Test.YtealkpadijffoaaGreatDoorSkM25
import Derived.Conc.Events
import Derived.Calls
import Derived.Conc.TokenWords
import Derived.Laws.IdiomRangeMap
import Derived.Test.YtealkpadijffoaaGreatDoorSkM3
set_option linter.all false
open Go.IntKind (i64 u64 u32 u8)
set_option maxRecDepth 1000000
namespace Go.Proofs.YtealkpadijffoaaGreatDoor.Kx
open Go Go.Conc Lx
section
variable{P:Program}{σ:Type}{J:KBase P σ}
def KAny(J:KBase P σ)(fn:FuncId)(md:Region.Mode)(ops:Array Oper)(Q:wh σ):Nat->Array Bool->Act->σ->Fo->World->Prop
 | 0,listed,a,s,F,w=>Region.ready md ops listed = []/\Q .normal a s F w
 | n+1,listed,a,s,F,w=>(Region.ready md ops listed = []->Q .normal a s F w)/\ ∀i∈Region.ready md ops listed,∃o,ops[i]? = some o/\KOper J fn ops o (fun a' s' F' w'=>KAny J fn md ops Q n (listed.setIfInBounds i true) a' s' F' w') a s F w
theorem xco{fn:FuncId}{md:Region.Mode}{ops:Array Oper}{Q:wh σ} : ∀ (fuel t:Nat) (listed:Array Bool) (a:Act) (s:σ) (F:Fo) (w:World),KAny J fn md ops Q fuel listed a s F w->KOps J fn ops (Region.linearise.go md ops fuel t listed []) Q a s F w:=by
 intro fuel
 induction fuel with
 | zero=>intro t listed a s F w h;simpa[Region.linearise.go]using ZI h.2
 | succ fuel ih=>
  intro t listed a s F w h
  obtain⟨h₀,h₁⟩:=h
  simp only[Region.linearise.go]
  change KOps J fn ops (match(Region.ready md ops listed)[t%(Region.ready md ops listed).length]? with
   | some i=>Region.linearise.go md ops fuel (t / (Region.ready md ops listed).length) (listed.setIfInBounds i true) [i]
   | none =>[].reverse) Q a s F w
  cases hi:(Region.ready md ops listed)[t%(Region.ready md ops listed).length]? with
  | none=>
   have hnil:Region.ready md ops listed = []:=by
    cases hr:Region.ready md ops listed with
    | nil=>rfl
    | cons x xs=>
     rw[hr]at hi
     have hlt:t%(x::xs).length<(x::xs).length:=Nat.mod_lt _ (by simp)
     simp at hi
     simp at hlt
     omega
   simpa using ZI (h₀ hnil)
  | some i=>
   simp only[]
   rw[linearise_go_acc,List.reverse_singleton,List.singleton_append]
   obtain⟨o,ho,hk⟩:=h₁ i (List.mem_of_getElem? hi)
   exact Xq ho (hk.mono fun a' s' F' w' x=>ih _ _ a' s' F' w' x)
theorem wi{fn:FuncId}{ops:Array Oper}{Q:wh σ}{id:Nat}{a:Act}{s:σ}{F:Fo}{w:World}(hm:P.follows .mixedOrders=true)
  (h : ∀F₁ w₁,J.RF F w F₁ w₁->KAny J fn .any ops Q ops.size (Array.replicate ops.size false) a s F₁ {w₁ with drawn:=w₁.drawn+1}):KWp J fn (.region id ops true) Q a s F w:=
 Yc fun F₁ w₁ h₁ t=>by
  simp only[Region.schedule,hm,Bool.true_or,if_true]
  exact xco ops.size t _ a s F₁ _ (h F₁ w₁ h₁)
variable{Γ:yc}{S0:Bool->Nat->Prop}{w0:World}{e0:Env}{ops:Array Oper}{β:Type}{k:St->T β}{b:Array Nat}{D:List Nat}
abbrev XW(J:KBase P σ)(Γ:yc)(ops:Array Oper)(D:List Nat)(A:List (Nat×Nat))(S0:Bool->Nat->Prop)(w0:World)(e0:Env)(U L:List Nat)(X:Nat->Nat)(e:Env)(st:St)(s:σ)(F:Fo)(a:Act)(w:World):Prop:=LRow (J.at F) Γ ops D A S0 w0 e0 U L X e st s F.has a w
def AliveK(J:KBase P σ)(st:St)(s:σ):Prop :=∃F:Fo,Alive (J.at F) st s
theorem LRow.relyK{A:List (Nat×Nat)}{U L:List Nat}{X:Nat->Nat}{e:Env}{st:St}{s:σ}{F:Fo}{a:Act}{w:World}(R:XW J Γ ops D A S0 w0 e0 U L X e st s F a w){F₁:Fo}{w₁:World}(h:J.RF F w F₁ w₁):XW J Γ ops D A S0 w0 e0 U L X e st s F₁ a w₁:=by
 have hK:=J.rKeeps h
 have hC:CfgK J S0 w0 e0 e st s F₁ a w₁:=Kx.relyK R.cfg h
 unfold CfgK at hC
 unfold XW
 rw[KBase.at_eq (J.rTok h)]at hC |-
 refine⟨hC,R.lt,R.nd,R.fit,R.inn,fun i hi hu =>?_,R.inj,R.free,R.held⟩
 obtain⟨hd,W⟩:=R.waits i hi hu
 obtain⟨o,dd,f,kb,rvf,vs,p1,p2,p3,p4,p5,p6,p7,p8,p9⟩:=W.at_
 have hlt:=(Array.getElem?_eq_some_iff.1 p9).1
 exact⟨hd,⟨o,dd,f,kb,rvf,vs,p1,p2,p3,p4,p5,p6,p7,p8,by rw[hK.block _ hlt W.port];exact p9⟩,W.own,fun hf=>(J.rNew h _ hf).elim W.port (by omega),W.new⟩
theorem xcp{fn:FuncId}(hbad:J.bad fn=false){i:Nat}{o:Oper}{K:Act->σ->Fo->World->Prop}{a:Act}{s:σ}{F:Fo}{w:World}(ho:ops[i]? = some o)(h:KOper J fn ops o K a s F w) : ∃a' s' F' w',K a' s' F' w':=
 h ⟨fun _ _ _ _ _ =>∃a' s' F' w',K a' s' F' w',fun _=>True,fun _ _=>trivial,fun _ _=>trivial,fun _ hh=>by
   obtain⟨_,_,_,_,_,_,_,hp⟩:=hh _ _ (J.rRefl _ _)
   exact hp,fun hp _=>hp,fun h1 h2 h3 h4 _ _ _ _ _ hc=>by
   obtain⟨_,_,_,_,_,_,F',w',g1,g2,g3,g4⟩:=J.meth h1 h2 h3 h4
   exact hc F' w' g1 g2 g3 g4,fun h1 _ _ _ hc=>by
   obtain⟨rv,F',w',g1,g2⟩:=J.primSome h1
   exact hc rv F' w' g1 g2⟩ (base fn) i [] [] [] ⟨rfl,hbad⟩ rfl ho fun a' s' F' w' hk=>⟨a',s',F',w',hk⟩
theorem nextK{F0:Fo}(hΓ : ∀f m,Γ f=some m->xE J f m)(hq:OpsQuiet P){pu:PM}{i:Nat}{o:Oper}{tmps:Tm}{H:Heap}{s:σ}{r:V×Heap×σ}(ho:ops[i]? = some o)(h:AliveK J ⟨tmps,H⟩ s)(hv:valO Γ (J.at F0) ops pu o tmps H s=some r):AliveK J ⟨putT tmps o.dst r.1,r.2.1⟩ r.2.2:=by
 obtain⟨F,S0,w0,e0,e,X,a,w,C⟩:=h
 have C:CfgK J S0 w0 e0 e ⟨tmps,H⟩ s ⟨X,F.A⟩ a w:=C
 have hrun:(ye P Γ ops pu o ⟨tmps,H⟩ T.ret).run (J.at F0).step s=some ((⟨putT tmps o.dst r.1,r.2.1⟩:St),r.2.2):=by rw[jv,hv];rfl
 have hrun:(ye P Γ ops pu o ⟨tmps,H⟩ T.ret).run J.step s=some ((⟨putT tmps o.dst r.1,r.2.1⟩:St),r.2.2):=hrun
 obtain⟨st',s',h1,_,h3⟩:=vw hΓ hq C hrun
 simp only[T.run,oI,Prod.mk.injEq]at h1
 obtain⟨rfl,rfl⟩:=h1
 obtain⟨f0,hf0⟩:=J.some_
 obtain⟨a',s1,F',w',e',C'⟩:=xcp hf0 ho (h3 f0 (fun a' s1 F' w' =>∃e',CfgK J S0 w0 e0 e' ⟨putT tmps o.dst r.1,r.2.1⟩ r.2.2 F' a' w') fun e' F' a' w' _ C'=>⟨e',C'⟩)
 exact⟨F',S0,w0,e0,e',F'.has,a',w',C'⟩
theorem AliveK.ptr{tmps:Tm}{H:Heap}{s:σ}(h:AliveK J ⟨tmps,H⟩ s) : ∀t b (p:Nat),ptrB (getT tmps t)=some b->b<H.length:=h.choose_spec.ptr
theorem AliveK.closed{tmps:Tm}{H:Heap}{s:σ}(h:AliveK J ⟨tmps,H⟩ s):Closed tmps H:=h.choose_spec.closed
theorem qi{F0:Fo}(hΓ : ∀f m,Γ f=some m->xE J f m)(hq:OpsQuiet P){A:List (Nat×Nat)}{j:Nat}{r:β×σ}{l2:List Nat} : ∀ (l1:List Nat) (tmps:Tm) (H:Heap) (s:σ),(∀i∈l1,xdk ops b D A i j)->HeldA ops A tmps->AliveK J ⟨tmps,H⟩ s->
  (yD P Γ ops b D A (l1++j::l2) ⟨tmps,H⟩ k).run (J.at F0).step s=some r->(yD P Γ ops b D A (j::(l1++l2)) ⟨tmps,H⟩ k).run (J.at F0).step s=some r
 | [],tmps,H,s,hs,hA,ha,h=>h
 | i::l1,tmps,H,s,hs,hA,ha,h=>by
  obtain⟨x,y,hx,hy,hok,hp1,hp2,hp3,hp4,hp5⟩:=hs i (by simp)
  rw[List.cons_append,vO hx]at h
  split at h
  ·rename_i rx hrx
   obtain⟨hox,hrx⟩:=KQ hrx
   have ih:=qi hΓ hq l1 _ _ _ (fun i' hi'=>hs i' (by simp[hi'])) (hA.put hx hrx) (nextK hΓ hq hx ha hrx) h
   rw[vO hy]at ih
   split at ih
   ·rename_i ry hry
    simp only[qZ,Bool.and_eq_true]at hok
    obtain⟨a1,a2,a3⟩:=Oper.apart_spec hok.2
    rw[xa8 (fun d hd=>a1 d hd)]at hry
    obtain⟨hoy,hry⟩:=KQ hry
    obtain⟨H1,s1,g1,g2⟩:=xfe (vx:=rx.1) (vy:=ry.1) (Hx:=rx.2.1) (Hy:=ry.2.1) (sx:=rx.2.2) (sy:=ry.2.2) hok.1 hrx hry (fun k3 k12=>hA.avoids hy (hp1 k3 k12)) (fun k3 k12=>hA.avoids hx (hp2 k3 k12)) (AliveK.ptr ha) (AliveK.closed ha) (hA.diff hx hy hoy hp3) (fun k6 k1=>hA.parts hy (hp4 k6 k1)) (fun k6 k1=>hA.parts hx (hp5 k6 k1))
    rw[vO hy,KR hoy,g1]
    simp only
    rw[List.cons_append,vO hx,xa8 (fun d hd=>a3 d hd),KR hox,g2]
    simp only
    rw[xej _ _ _ (fun d hd he=>a2 d he hd)]
    exact ih
   ·cases ih
  ·cases h
theorem xds(hΓ : ∀f m,Γ f=some m->xE J f m)(hq:OpsQuiet P)(hD:LateD P ops D){A:List (Nat×Nat)}{U:List Nat}{X:Nat->Nat}{i:Nat}{s:σ}{F:Fo}{a:Act}{w:World}{r:β×σ}
  (hiU:i∈U) (hiD:i∉D) (hready : ∀c∈U,((Region.before ops).getD i 0).testBit c=false) (hw : ∀j,j<ops.size->j∉U ->∀c∈U,((Region.before ops).getD j 0).testBit c=false) : ∀ (n:Nat) (L:List Nat) (e:Env) (st:St),L.length=n->XW J Γ ops D A S0 w0 e0 U L X e st s F a w->(yD P Γ ops (Region.before ops) D A L st k).run J.step s=some r->
   ∃l1 l2 e' st',XW J Γ ops D A S0 w0 e0 U (l1++i::l2) X e' st' s F a w/\(yD P Γ ops (Region.before ops) D A (l1++i::l2) st' k).run J.step s=some r/\ ∀c∈l1,((Region.before ops).getD i 0).testBit c=false
 | 0,L,e,st,hn,R,h=>by
  obtain rfl:=List.length_eq_zero_iff.1 hn
  have:=R.inn i hiU
  cases this
 | n+1,L,e,st,hn,R,h=>by
  obtain⟨l1,l2,rfl⟩:=List.append_of_mem (R.inn i hiU)
  by_cases hall : ∀c∈l1,((Region.before ops).getD i 0).testBit c=false
  ·exact⟨l1,l2,e,st,R,h,hall⟩
  ·obtain⟨m1,d,m2,rfl,hb,hm1⟩ : ∃m1 d m2,l1=m1++d::m2/\((Region.before ops).getD i 0).testBit d=true/\ ∀c∈m1,((Region.before ops).getD i 0).testBit c=false:=by
    clear h R hn
    induction l1 with
    | nil=>exact absurd (fun c hc=>by cases hc) hall
    | cons x l ih=>
     by_cases hx:((Region.before ops).getD i 0).testBit x=true
     ·exact⟨[],x,l,rfl,hx,fun c hc=>by cases hc⟩
     ·have hx:((Region.before ops).getD i 0).testBit x=false:=by simpa using hx
      obtain⟨m1,d,m2,h1,h2,h3⟩:=ih fun hh=>hall fun c hc=>by
       rcases List.mem_cons.1 hc with rfl|hc
       ·exact hx
       ·exact hh c hc
      refine⟨x::m1,d,m2,by rw[h1];rfl,h2,fun c hc =>?_⟩
      rcases List.mem_cons.1 hc with rfl|hc
      ·exact hx
      ·exact h3 c hc
   have hdU:d∉U:=fun hu=>by have:=hready d hu;rw[hb]at this;cases this
   have hdL:d∈(m1++d::m2)++i::l2:=by simp
   obtain⟨hdD,W⟩:=R.waits d hdL hdU
   have e1:(m1++d::m2)++i::l2=m1++d::(m2++i::l2):=by simp
   rw[e1]at R h
   have hsw : ∀c∈m1,xdk ops (Region.before ops) D A c d:=by
    intro c hc
    have hf:=(List.pairwise_append.1 R.fit).2.2 c hc d (by simp)
    have hb0:((Region.before ops).getD d 0).testBit c=false:=by
     by_cases hcU:c∈U
     ·exact hw d (R.lt d (by simp)) hdU c hcU
     ·exact hD.dep d hdD c (R.waits c (by simp[hc]) hcU).1
    rcases hf.2 with h1|h1|⟨_,_,h1⟩
    ·rw[hb0]at h1;cases h1
    ·exact h1
    ·have:=h1 i (R.lt i (R.inn i hiU)) hb
     rw[hm1 c hc]at this;cases this
   obtain⟨tmps,H⟩:=st
   have hfr:=qi (F0:=F) hΓ hq m1 tmps H s hsw R.held ⟨F,S0,w0,e0,e,F.has,a,w,R.cfg⟩ h
   obtain⟨e',st',R',h'⟩:=R.told hD hdU hfr
   have hl:(m1++(m2++i::l2)).length=n:=by
    simp only[List.length_append,List.length_cons]at hn |-;omega
   exact xds hΓ hq hD hiU hiD hready hw n _ e' st' hl R' h'
theorem finK(hΓ : ∀f m,Γ f=some m->xE J f m)(hq:OpsQuiet P)(hD:LateD P ops D){A:List (Nat×Nat)}{X:Nat->Nat}{s:σ}{F:Fo}{a:Act}{w:World}{r:β×σ} : ∀ (L:List Nat) (e:Env) (st:St),XW J Γ ops D A S0 w0 e0 [] L X e st s F a w->(yD P Γ ops (Region.before ops) D A L st k).run J.step s=some r->
   ∃e' st',CfgK J S0 w0 e0 e' st' s F a w/\(k st').run J.step s=some r
 | [],e,st,R,h=>⟨e,st,R.cfg,h⟩
 | d::L,e,st,R,h=>by
  obtain⟨e',st',R',h'⟩:=LRow.told (l1 :=[]) hD R (by simp) h
  exact finK hΓ hq hD L e' st' R' h'
theorem jC(hΓ : ∀f m,Γ f=some m->xE J f m)(hq:OpsQuiet P){A:List (Nat×Nat)}(hdec : ∀ (j:Nat) o,ops[j]? = some o ->∀e∈o.after.toList,Region.binds .any e=true->e.on<j)(hD:LateD P ops D){r:β×σ}{fn:FuncId}{Q:wh σ}(hQ : ∀e' st' s' F' a' w',(k st').run J.step s'=some r->CfgK J S0 w0 e0 e' st' s' F' a' w'->Q .normal a' s' F' w') :
  ∀ (n:Nat) (U L:List Nat) (X:Nat->Nat) (listed:Array Bool) (e:Env) (st:St) (s:σ) (F:Fo) (a:Act) (w:World),U.length=n->U.Nodup->listed.size=ops.size->(∀i,i<ops.size->(i∈U↔listed[i]? = some false))->
   (∀ (j:Nat) o,listed[j]? = some true->ops[j]? = some o ->∀e∈o.after.toList,Region.binds .any e=true->listed[e.on]? = some true)->
   XW J Γ ops D A S0 w0 e0 U L X e st s F a w->(yD P Γ ops (Region.before ops) D A L st k).run J.step s=some r->KAny J fn .any ops Q n listed a s F w
 | 0,U,L,X,listed,e,st,s,F,a,w,hn,hnd,hsz,hU,hcl,R,h=>by
  obtain rfl:=List.length_eq_zero_iff.1 hn
  obtain⟨e',st',C',h'⟩:=finK hΓ hq hD L e st R h
  refine⟨?_,hQ e' st' s F a w h' C'⟩
  unfold Region.ready
  rw[List.filter_eq_nil_iff]
  intro i hi
  have hi':i<ops.size:=by simpa using hi
  have : ¬listed[i]? = some false:=fun h=>by have:=(hU i hi').2 h;cases this
  have hget:listed[i]? = some listed[i]:=Array.getElem?_eq_getElem (by omega)
  rw[hget]at this
  have ht:listed[i]=true:=by
   cases hh:listed[i] with
   | true=>rfl
   | false=>rw[hh]at this;exact absurd rfl this
  simp[Array.getD_eq_getD_getElem?,hget,ht]
 | n+1,U,L,X,listed,e,st,s,F,a,w,hn,hnd,hsz,hU,hcl,R,h=>by
  have hlt : ∀i∈U,i<ops.size:=fun i hi=>R.lt i (R.inn i hi)
  have isT : ∀i,i<ops.size->i∉U->listed[i]? = some true:=by
   intro i hi hni
   have h1 : ¬listed[i]? = some false:=fun h=>hni ((hU i hi).2 h)
   have hget:listed[i]? = some listed[i]:=Array.getElem?_eq_getElem (by omega)
   rw[hget]at h1 |-
   cases hh:listed[i] with
   | true=>rfl
   | false=>rw[hh]at h1;exact absurd rfl h1
  refine⟨fun hr =>?_,fun i hi =>?_⟩
  ·exfalso
   cases hU0:U with
   | nil=>rw[hU0]at hn;simp at hn
   | cons i1 U'=>
    obtain⟨i0,hi0,hmin⟩:=least (p:=fun i=>i∈U) (n:=i1) (by rw[hU0];simp)
    have h0:=hlt i0 hi0
    have hmem:i0∈Region.ready .any ops listed:=by
     unfold Region.ready
     rw[List.mem_filter]
     refine⟨by simpa using h0,?_⟩
     have hf:=(hU i0 h0).1 hi0
     have ho:=Array.getElem?_eq_getElem h0
     rw[ho]
     simp only[Array.getD_eq_getD_getElem?,hf,Option.getD_some,Bool.not_false,Bool.true_and,Option.map_some,Array.all_eq_true_iff_forall_mem]
     intro e he
     by_cases hb:Region.binds .any e=true
     ·have hlt':=hdec i0 _ ho e (by simpa using he) hb
      rw[isT e.on (by omega) (hmin e.on hlt')]
      simp
     ·simp[hb]
    rw[hr]at hmem
    cases hmem
  ·unfold Region.ready at hi
   rw[List.mem_filter]at hi
   obtain⟨hi1,hi2⟩:=hi
   have hi1:i<ops.size:=by simpa using hi1
   have ho:=Array.getElem?_eq_getElem hi1
   rw[ho]at hi2
   simp only[Bool.and_eq_true,Option.map_some,Option.getD_some,Array.all_eq_true_iff_forall_mem]at hi2
   have hget:listed[i]? = some listed[i]:=Array.getElem?_eq_getElem (by omega)
   have hfalse:listed[i]? = some false:=by
    have:=hi2.1
    rw[Array.getD_eq_getD_getElem?,hget]at this
    rw[hget]
    simpa using this
   have hiU:=(hU i hi1).2 hfalse
   have hdeps : ∀e∈(ops[i]).after.toList,Region.binds .any e=true->listed[e.on]? = some true:=by
    intro e he hb
    have:=hi2.2 e (by simpa using he)
    simp only[hb,Bool.not_true,Bool.false_or,Array.getD_eq_getD_getElem?]at this
    cases hh:listed[e.on]? with
    | none=>rw[hh]at this;simp at this
    | some t=>rw[hh]at this;simp at this;rw[this]
   have hset : ∀j,(listed.setIfInBounds i true)[j]? = if i=j then some true else listed[j]? :=by
    intro j
    rw[Array.getElem?_setIfInBounds]
    split
    ·rename_i hij;rw[if_pos (by omega)]
    ·rfl
   have hn':(U.erase i).length=n:=by rw[List.length_erase_of_mem hiU];omega
   have hnd':(U.erase i).Nodup:=hnd.erase i
   have hmemE : ∀j,j∈U.erase i↔j≠i/\j∈U:=fun j=>hnd.mem_erase_iff
   have hsz':(listed.setIfInBounds i true).size=ops.size:=by simp[hsz]
   have hU' : ∀j,j<ops.size->(j∈U.erase i↔(listed.setIfInBounds i true)[j]? = some false):=by
    intro j hj
    rw[hset,hmemE]
    by_cases hij:i=j
    ·subst hij;simp
    ·rw[if_neg hij,<- hU j hj]
     exact⟨fun h=>h.2,fun h=>⟨fun hh=>hij hh.symm,h⟩⟩
   have hcl' : ∀ (j:Nat) o,(listed.setIfInBounds i true)[j]? = some true->ops[j]? = some o ->∀e∈o.after.toList,Region.binds .any e=true->(listed.setIfInBounds i true)[e.on]? = some true:=by
    intro j o hj hoj e he hb
    rw[hset]at hj |-
    split
    ·rfl
    ·split at hj
     ·rename_i hij
      subst hij
      rw[ho]at hoj
      cases hoj
      exact hdeps e he hb
     ·exact hcl j o hj hoj e he hb
   by_cases hiD:i∈D
   ·-- a new block: it stands, and waits
    obtain⟨o,ho2,hnew⟩:=hD.op i hiD
    rw[ho]at ho2;cases ho2
    obtain⟨hg,⟨dd,hdst⟩,hop,_⟩:=Zi hnew
    refine⟨_,ho,jf (by simp[Region.wanted,hg]) fun F w h₁ =>?_⟩
    have R:=LRow.relyK R h₁
    have E:=R.cfg.rel.emb
    have C:=R.cfg
    have hslot:getT st.tmps dd=none:=R.free i (R.inn i hiU) hiD _ _ ho hdst
    obtain⟨tmps,H⟩:=st
    obtain⟨l1,l2,hL⟩:=List.append_of_mem (R.inn i hiU)
    have hready : ∀c∈U,((Region.before ops).getD i 0).testBit c=false:=by
     intro c hc
     refine kB (S:=fun j=>listed[j]? = some true) hcl hdec i i _ (Nat.le_refl _) ho hdeps c ?_
     have:=(hU c (hlt c hc)).1 hc
     rw[this];simp
    have hnone : ∀c∈L,((Region.before ops).getD i 0).testBit c=false:=by
     intro c hc
     by_cases hcU:c∈U
     ·exact hready c hcU
     ·exact hD.dep i hiD c (R.waits c hc hcU).1
    have hat : ∃pu H' s' rr,valO Γ (J.at F) ops pu (ops[i]) tmps H' s'=some rr:=by
     rw[hL]at h
     have hfit:=R.fit
     rw[hL]at hfit
     exact xdm ho l1 tmps H s (fun c hc x hx=>(((List.pairwise_append.1 hfit).2.2 c hc i (by simp)).apart (hnone c (by rw[hL];simp[hc])) hx ho).1) h
    obtain⟨f,kb,rvf,ht,hgn,hev,hf,hcs⟩ : ∃ (f:Nat->V) (kb:Blk) (rvf:Nat->Value),kb.tab=none/\kb.grown=false/\(∀H2,evStep P (ops[i]).op (xW tmps) H2=some (.val true (f H2.length) (newB H2 kb)))/\(∀pv e x c,denV pv (e ++ [(x,c)]) (f e.length)=some (rvf x))/\ ∀pv e (ra:Operand->Value),Lx.One pv->Says pv e (xW tmps) ra ->∃vs,denL pv e kb.cells=some vs:=by
     obtain⟨pu,H',s',rr,hrr⟩:=hat
     simp only[valO,hg]at hrr
     cases hq:evStep P (ops[i]).op (xW tmps) H' with
     | none=>rw[hq]at hrr;cases hrr
     | some q=>exact new_val hop hq
    have hval : ∀pu H2 s2,valO Γ (J.at F) ops pu (ops[i]) tmps H2 s2=some (f H2.length,newB H2 kb,s2):=by
     intro pu H2 s2
     simp only[valO,hg,hev]
     exact xa2 pu H2 kb s2
    obtain⟨vs,hvs⟩:=hcs (J.at F).pv e a.eval (J.one F) C.rel.says
    obtain⟨nx,w',e',rv,h1,h2,h3,h4,h5,h6,h7⟩:=YX (J.at F).toPortB (o:=ops[i]) C.rel.says E (hev H)
    obtain⟨xs,rfl⟩:=h3
    obtain⟨⟨x,cp⟩,rfl⟩ : ∃r,xs = [r]:=by
     have hl:=h5.len
     rw[xa5,List.length_append,E.len]at hl
     match xs,hl with
     | [r],_=>exact⟨r,rfl⟩
     | [],hl=>simp at hl
     | _::_::_,hl=>simp at hl
    obtain rfl:rv=rvf x:=by
     have:=hf (J.at F).pv e x cp
     rw[<- E.len,h4]at this
     exact Option.some.inj this
    have hkb:blkAt (newB H kb) H.length=some kb:=by rw[yq,if_pos rfl]
    have hrx:(e ++ [(x,cp)])[H.length]? = some (x,cp):=by rw[E.len];simp
    obtain⟨r1,cs,tl,q1,q2,q3,q4,_⟩:=h5.row H.length kb hkb (Blk.win_none ht) (Blk.virt_none ht) (Blk.mapped_none ht)
    rw[hrx]at q1;cases q1
    rw[Blk.real_none ht,yt ⟨_,rfl⟩ _ _ hvs]at q2;cases q2
    rw[q4 hgn,List.append_nil]at q3
    have hxn:w.heap.size<=x:=by
     rcases h7 false x ⟨H.length,kb,(x,cp),hkb,hrx,rfl,Blk.virt_none ht,fun h=>by cases h⟩with ho'|ho'
     ·obtain⟨i2,k2,r2,g1,g2,g3,g4,_⟩:=ho'
      have hi2:i2<H.length:=Wd g1
      rcases h5.alone i2 H.length k2 kb r2 (x,cp) (by rw[vt hi2];exact g1) hkb (by rw[List.getElem?_append_left (by rw[<- E.len];exact hi2)];exact g2) hrx g3 g4 (Blk.virt_none ht)with h8|⟨_,h8⟩
      ·omega
      ·rw[Blk.win_none ht]at h8;cases h8
     ·exact ho'
    have hsame : ∀b,b<w.heap.size ->¬Own true e H b->w'.heap[b]? = w.heap[b]? :=h6.block
    have R':XW J Γ ops D A S0 w0 e0 (U.erase i) L (fun j=>if j=i then x else X j) e ⟨tmps,H⟩ s F (a.put (some dd) (rvf x)) w':=by
     have hsz0:=C.keeps.size
     have hput : ∀t',t'≠dd->(a.put (some dd) (rvf x)).tmps[t']? = a.tmps[t']? :=by
      intro t' ht'
      simp only[Act.put]
      rw[Array.getElem?_setIfInBounds_ne (fun hh=>ht' hh.symm)]
     have hXlt : ∀j∈L,j∉U->X j<w.heap.size:=by
      intro j hj hju
      obtain⟨_,W⟩:=R.waits j hj hju
      obtain⟨_,_,_,_,_,_,_,_,_,_,_,_,_,_,hb⟩:=W.at_
      exact(Array.getElem?_eq_some_iff.1 hb).1
     have hcase : ∀j,j∉U.erase i->j=i\/j∉U:=by
      intro j hj
      by_cases hji:j=i
      ·exact .inl hji
      ·exact .inr fun hu=>hj ((hmemE j).2 ⟨hji,hu⟩)
     refine⟨⟨⟨E.unnew h5,?_,fun t' v hv =>?_,C.rel.defers⟩,J.stable C.rep fun b hb=>hsame b (J.lt C.rep b hb) fun ho'=>C.disj b ho'.weak hb,C.disj,C.keeps.trans h6 fun b hb=>C.mine true b (.inl hb),C.mine,C.ext⟩,R.lt,R.nd,R.fit,fun j hj=>R.inn j ((hmemE j).1 hj).2,fun j hj hju =>?_,fun j hj j' hj' hju hju' he =>?_,R.free,R.held⟩
     ·rw[put_size];exact C.rel.len
     ·have:t'≠dd:=fun hh=>by rw[hh,hslot]at hv;cases hv
      rw[hput t' this]
      exact C.rel.tmps t' v hv
     ·rcases hcase j hju with rfl|hju
      ·refine⟨hiD,⟨_,dd,f,kb,rvf,vs,ho,hdst,ht,hgn,hval,fun e x c=>hf (J.at F).pv e x c,hvs,?_,?_⟩,?_,?_,?_⟩
       ·intro hd2
        rw[put_size]at hd2
        simp only[Act.put,if_true]
        rw[Array.getElem?_setIfInBounds_self_of_lt hd2]
       ·rw[if_pos rfl];exact q3
       ·rw[if_pos rfl];intro hb;have:=E.own_lt hb;omega
       ·rw[if_pos rfl];intro hb;have:=J.lt C.rep _ hb;omega
       ·rw[if_pos rfl];omega
      ·obtain⟨hjD,W⟩:=R.waits j hj hju
       have hji:j≠i:=fun hh=>hju (hh▸hiU)
       obtain⟨o,d',f',kb',rvf',vs',p1,p2,p3,p4,p5,p6,p7,p8,p9⟩:=W.at_
       rw[if_neg hji]
       have hdne:d'≠dd:=by
        rintro rfl
        exact hD.dst i hiD j o _ d' hji p1 ho hdst p2
       refine⟨hjD,⟨o,d',f',kb',rvf',vs',p1,p2,p3,p4,p5,p6,p7,(fun hh=>by rw[hput d' hdne];rw[put_size]at hh;exact p8 hh),?_⟩,W.own,W.port,W.new⟩
       rw[hsame _ (hXlt j hj hju) fun ho'=>W.own ho'.weak];exact p9
     ·have lo : ∀q,q∉U->q≠i:=fun q hq hh=>hq (hh▸hiU)
      rcases hcase j hju with hj1|hj1<;>rcases hcase j' hju' with hj2|hj2
      ·rw[hj1,hj2]
      ·rw[if_pos hj1,if_neg (lo j' hj2)]at he
       have:=hXlt j' hj' hj2;omega
      ·rw[if_pos hj2,if_neg (lo j hj1)]at he
       have:=hXlt j hj hj1;omega
      ·rw[if_neg (lo j hj1),if_neg (lo j' hj2)]at he
       exact R.inj j hj j' hj' hj1 hj2 he
    have key:=jC (fn:=fn) hΓ hq hdec hD hQ n (U.erase i) L _ _ e ⟨tmps,H⟩ s F _ _ hn' hnd' hsz' hU' hcl' R' h
    exact⟨nx,w',rvf x,h1,h2,J.dOwn (h6.mono fun b hb=>C.disj b hb.weak) (Ww (hq.val (J.at F).toPortB C.rel.says E (hev H) F C.disj (J.lt C.rep))),by rw[hdst];exact key⟩
   ·-- another one: those that it needs are told
    have hready : ∀c∈U,((Region.before ops).getD i 0).testBit c=false:=by
     intro c hc
     refine kB (S:=fun j=>listed[j]? = some true) hcl hdec i i _ (Nat.le_refl _) ho hdeps c ?_
     have:=(hU c (hlt c hc)).1 hc
     rw[this];simp
    have hw : ∀j,j<ops.size->j∉U ->∀c∈U,((Region.before ops).getD j 0).testBit c=false:=by
     intro j hj hju c hc
     refine kB (S:=fun j=>listed[j]? = some true) hcl hdec j j _ (Nat.le_refl _) (Array.getElem?_eq_getElem hj) (fun e he hb=>hcl j _ (isT j hj hju) (Array.getElem?_eq_getElem hj) e he hb) c ?_
     have:=(hU c (hlt c hc)).1 hc
     rw[this];simp
    obtain⟨l1,l2,e1,st1,R1,h1,hl1⟩:=xds hΓ hq hD hiU hiD hready hw L.length L e st rfl R h
    have hpw:=List.pairwise_append.1 R1.fit
    have hpc:=List.pairwise_cons.1 hpw.2.1
    have hswap : ∀c∈l1,xdk ops (Region.before ops) D A c i:=by
     intro c hc
     rcases(hpw.2.2 c hc i (by simp)).2 with g|g|⟨g,_⟩
     ·rw[hl1 c hc]at g;cases g
     ·exact g
     ·exact absurd g hiD
    obtain⟨tmps,H⟩:=st1
    have hfront:=qi (F0:=F) hΓ hq l1 tmps H s hswap R1.held ⟨F,S0,w0,e0,e1,F.has,a,w,R1.cfg⟩ h1
    simp only[yD,ho]at hfront
    split at hfront
    rotate_left
    ·cases hfront
    obtain⟨st',s',g1,g2,g3⟩:=vw hΓ hq R1.cfg.rebase hfront
    obtain⟨pu',H',s1',rr,hrv,hst'⟩ : ∃pu H s,∃rr:V×Heap×σ,valO Γ (J.at F) ops pu (ops[i]) tmps H s=some rr/\st'.tmps=putT tmps (ops[i]).dst rr.1:=by
     change (ye P Γ ops _ ops[i] ⟨tmps,H⟩ T.ret).run (J.at F).step s=_ at g2
     rw[jv]at g2
     rw[oM]at g2
     obtain⟨rr,hrr',hrr⟩:=g2
     cases hrr
     exact⟨_,_,_,_,hrr',rfl⟩
    have hniL:i∉l1++l2:=by
     have:=R1.nd
     rw[List.nodup_append]at this
     obtain⟨_,h2,h3⟩:=this
     rw[List.nodup_cons]at h2
     intro hm
     rcases List.mem_append.1 hm with hm|hm
     ·exact h3 i hm i (by simp) rfl
     ·exact h2.1 hm
    have hsub : ∀j∈l1++l2,j∈l1++i::l2:=by
     intro j hj
     rcases List.mem_append.1 hj with h|h<;>simp[h]
    have hdne : ∀j∈l1++l2,j∈D ->∀o d,ops[j]? = some o->o.dst=some d->(ops[i]).dst≠some d:=by
     intro j hj hjD o d hoj hd hdi
     exact hD.dst j hjD i _ o d (fun hh=>hniL (hh▸hj)) ho hoj hd hdi
    have key:=g3 fn (fun a' s' F' w'=>KAny J fn .any ops Q n (listed.setIfInBounds i true) a' s' F' w') fun e' F' a' w' ha' C'=>by
     obtain⟨rv,ha'⟩:=ha'
     have hnew : ∀j∈l1++l2,j∉U.erase i->j∉U:=by
      intro j hj hju hu
      exact hju ((hmemE j).2 ⟨fun hh=>hniL (hh▸hj),hu⟩)
     refine jC hΓ hq hdec hD hQ n (U.erase i) (l1++l2) X _ e' st' s' F' a' w' hn' hnd' hsz' hU' hcl' ⟨R1.cfg.compose C',fun j hj=>R1.lt j (hsub j hj),?_,?_,fun j hj =>?_,fun j hj hju =>?_,fun j hj j' hj' hju hju' he=>R1.inj j (hsub j hj) j' (hsub j' hj') (hnew j hj hju) (hnew j' hj' hju') he,fun j hj hjD o d hoj hd =>?_,?_⟩ g1
     ·exact List.Nodup.sublist (List.Sublist.append_left (List.sublist_cons_self i l2) l1) R1.nd
     ·exact List.Pairwise.sublist (List.Sublist.append_left (List.sublist_cons_self i l2) l1) R1.fit
     ·obtain⟨hji,hu⟩:=(hmemE j).1 hj
      have:=R1.inn j hu
      simp only[List.mem_append,List.mem_cons]at this |-
      rcases this with h|h|h
      ·exact .inl h
      ·exact absurd h hji
      ·exact .inr h
     ·obtain⟨hjD,W⟩:=R1.waits j (hsub j hj) (hnew j hj hju)
      obtain⟨o,d,f,kb,rvf,vs,q1,q4,q2,q3,q5,q6,q7,q8,q9⟩:=W.at_
      have hlt9:=(Array.getElem?_eq_some_iff.1 q9).1
      have hnS : ∀q,¬ (Own q e1 H (X j)\/F (X j)):=fun q hh=>hh.elim (fun h=>W.own h.weak) W.port
      refine⟨hjD,⟨o,d,f,kb,rvf,vs,q1,q4,q2,q3,?_,q6,yt C'.ext _ _ q7,?_,by rw[C'.keeps.block _ hlt9 (hnS true)];exact q9⟩,fun hb =>?_,fun hb =>?_,W.new⟩
      ·intro pu H2 s2
       rw[hst',ZC]
       ·exact q5 pu H2 s2
       ·rcases List.mem_append.1 hj with hm|hm
        ·exact((hpw.2.2 j hm i (by simp)).apart (hl1 j hm) q1 ho).2
        ·exact((hpc.1 j hm).apart (hw j (R1.lt j (hsub j hj)) (hnew j hj hju) i hiU) ho q1).1
      ·have hne:=hdne j hj hjD o d q1 q4
       intro hh
       rw[ha']at hh |-
       rw[put_size]at hh
       cases hdi:(ops[i]).dst with
       | none=>exact q8 hh
       | some di=>
        rw[hdi]at hne
        simp only[Act.put]
        rw[Array.getElem?_setIfInBounds_ne (fun hh=>hne (by rw[hh]))]
        exact q8 hh
      ·rcases C'.mine _ _ (.inl hb)with h|h
       ·exact hnS _ h
       ·omega
      ·rcases C'.mine true _ (.inr hb)with h|h
       ·exact hnS _ h
       ·omega
     ·have q1:=R1.free j (hsub j hj) hjD o d hoj hd
      have hne:=hdne j hj hjD o d hoj hd
      rw[hst']
      cases hdi:(ops[i]).dst with
      | none=>exact q1
      | some di=>
       rw[hdi]at hne
       have:d≠di:=fun hh=>hne (by rw[hh])
       simp only[putT,yE _ _ this]
       exact q1
     ·rw[hst'];exact R1.held.put ho hrv
    exact⟨_,ho,key⟩
theorem Vi(hΓ : ∀f m,Γ f=some m->xE J f m)(hq:OpsQuiet P)(hm:P.follows .mixedOrders=true)(hok:jN ops (Region.before ops)=true){id:Nat}{st:St}(hdo:jq ops (Region.before ops) (wM ops st.tmps)=true){r:β×σ}{fn:FuncId}{Q:wh σ}(hQ : ∀e' st' s' F' a' w',(k st').run J.step s'=some r->CfgK J S0 w0 e0 e' st' s' F' a' w'->Q .normal a' s' F' w')
  {e:Env} {s:σ} {F:Fo} {a:Act} {w:World} (C:CfgK J S0 w0 e0 e st s F a w) (h:(yD P Γ ops (Region.before ops) [] (wM ops st.tmps) (List.range ops.size) st k).run J.step s=some r):KWp J fn (.region id ops true) Q a s F w:=by
 refine wi hm fun F w h₁ =>?_
 have C:=(relyK C h₁).drew
 have hok:=xbb [] hok
 refine(jC (D :=[]) hΓ hq (Zh hok) ⟨(fun d hd=>by cases hd),(fun d hd=>by cases hd),fun d hd=>by cases hd⟩ hQ ops.size (List.range ops.size) (List.range ops.size) (fun _=>0) _ e st s F a _ (by simp) List.nodup_range (by simp) (fun i hi =>?_) (fun j o hj =>?_) ⟨C,fun i hi=>by simpa using hi,List.nodup_range,?_,fun i hi=>hi,fun i hi hn=>absurd hi hn,fun i hi j hj hn=>absurd hi hn,(fun i hi hd=>by cases hd),XR _⟩ h)
 ·simp[hi]
 ·rw[Array.getElem?_replicate]at hj
  split at hj<;>simp at hj
 ·refine List.Pairwise.imp_of_mem (fun {p q} hp hq hpq =>?_) (List.pairwise_lt_range (n:=ops.size))
  exact VL hok hdo (by simpa using hp) (by simpa using hq) hpq (by simp) (by simp)
theorem qQ(hΓ : ∀f m,Γ f=some m->xE J f m)(hq:OpsQuiet P)(hm:P.follows .mixedOrders=true)(hok:vg ops (Region.before ops) D=true){id:Nat}{st:St}{L:List Nat}(hdo:jq ops (Region.before ops) (wM ops (vl ops D st.tmps))=true)(hl:Kr P ops (Region.before ops) D L=true){r:β×σ}{fn:FuncId}{Q:wh σ}(hQ : ∀e' st' s' F' a' w',(k st').run J.step s'=some r->CfgK J S0 w0 e0 e' st' s' F' a' w'->Q .normal a' s' F' w')
  {e:Env} {s:σ} {F:Fo} {a:Act} {w:World} (C:CfgK J S0 w0 e0 e st s F a w) (h:(yD P Γ ops (Region.before ops) D (wM ops (vl ops D st.tmps)) L ⟨vl ops D st.tmps,st.heap⟩ k).run J.step s=some r):KWp J fn (.region id ops true) Q a s F w:=by
 refine wi hm fun F w h₁ =>?_
 have C:=(relyK C h₁).drew
 unfold Kr at hl
 simp only[Bool.and_eq_true,List.all_eq_true,beq_iff_eq]at hl
 obtain⟨⟨⟨hlen,hall⟩,hpw⟩,hbare⟩:=hl
 have hD:LateD P ops D:=by
  refine⟨fun d hd =>?_,fun d hd c hc =>?_,fun d hd i o o' dd hne ho ho' hdd hdo =>?_⟩
  ·have:=(hbare d hd).1
   split at this
   ·exact⟨_,‹_›,(Bool.and_eq_true _ _▸this).1⟩
   ·cases this
  ·have:=(hbare d hd).2 c hc
   simpa using this
  ·have:=(hbare d hd).1
   rw[ho']at this
   simp only[Bool.and_eq_true,List.all_eq_true]at this
   have h1:=this.2 (o,i) (vL ho)
   simp only[Bool.or_eq_true,beq_iff_eq,bne_iff_ne,ne_eq]at h1
   rcases h1 with h1|h1
   ·exact hne h1
   ·exact h1 (hdo.trans hdd.symm)
 have hmem : ∀i,i<ops.size->i∈L:=fun i hi=>by
  have:=hall i (by simpa using hi)
  simpa using this
 have hlt : ∀i∈L,i<ops.size:=fun i hi=>by simpa using hlen i hi
 have hpp:=XS hpw
 have hnd:L.Nodup:=by
  refine List.Pairwise.imp (fun {p q} h =>?_) hpp
  unfold fitB at h
  simp only[Bool.and_eq_true,bne_iff_ne,ne_eq]at h
  exact h.1.1
 have C2:CfgK J S0 w0 e0 e ⟨vl ops D st.tmps,st.heap⟩ s F a {w with drawn:=w.drawn+1}:=
  ⟨⟨C.rel.emb,C.rel.len,fun t v hv=>C.rel.tmps t v (XT hv).1,C.rel.defers⟩,C.rep,C.disj,C.keeps,C.mine,C.ext⟩
 refine(jC hΓ hq (Zh hok) hD hQ ops.size (List.range ops.size) L (fun _=>0) _ e ⟨vl ops D st.tmps,st.heap⟩ s F a _ (by simp) List.nodup_range (by simp) (fun i hi =>?_) (fun j o hj =>?_) ⟨C2,hlt,hnd,?_,fun i hi=>hmem i (by simpa using hi),fun i hi hn=>absurd (by simpa using hlt i hi) hn,fun i hi j hj hn=>absurd (by simpa using hlt i hi) hn,fun i hi hd o dd ho hdst =>?_,XR _⟩ h)
 ·simp[hi]
 ·rw[Array.getElem?_replicate]at hj
  split at hj<;>simp at hj
 ·refine List.Pairwise.imp_of_mem (fun {p q} hp hq hpq =>?_) hpp
  exact xfh hok hdo hD (hlt p hp) (hlt q hq) hpq
 ·cases hg:getT (vl ops D st.tmps) dd with
  | none=>rfl
  | some v=>
   have:=(XT hg).2 i hd
   rw[ho]at this
   exact absurd hdst this
end
end Go.Proofs.YtealkpadijffoaaGreatDoor.Kx
namespace Go.Proofs.YtealkpadijffoaaGreatDoor.Kx
open Go Go.Conc Lx
section
variable{P:Program}{σ:Type}{J:KBase P σ}{Γ:yc}{S0:Bool->Nat->Prop}{w0:World}{e0:Env}
theorem xbp{main:Bool}{b:Frame}{a:Act}{k:List Item}{cs:List Frame}{w:World}{c:Code}:stepG P main (G (b.at a (.code (.scope c)::k)) cs) w = .go (G (b.at a (.code c :: .inScope c::k)) cs) w:=by simp[G,stepG,stepG.exec,Frame.at]
theorem Vj{main:Bool}{b:Frame}{a:Act}{k:List Item}{cs:List Frame}{w:World}{c:Code}:stepG P main (G (b.at a (.inScope c::k)) cs) w = .go (G (b.at a k) cs) w:=by simp[G,stepG,stepG.exec,Frame.at]
theorem yU{fn:FuncId}(hΓ : ∀f m,Γ f=some m->xE J f m)(hq:OpsQuiet P)(hm:P.follows .mixedOrders=true)(n:Fu){β:Type}{r:β×σ} : ∀ (c:Code) (lv:Nat) (K:Ex->St->T β) (Q:wh σ),
  (∀ex e st s F a w,(K ex st).run J.step s=some r->CfgK J S0 w0 e0 e st s F a w->Q ex.up a s F w)->
  ∀e st s F a w,CfgK J S0 w0 e0 e st s F a w->(ev P Γ n e0.length c lv st K).run J.step s=some r->KWp J fn c Q a s F w
 | .skip,lv,K,Q,hQ,e,st,s,F,a,w,C,h=>xfj (hQ .normal e st s F a w h C)
 | .label _,lv,K,Q,hQ,e,st,s,F,a,w,C,h=>xes (hQ .normal e st s F a w h C)
 | .exit i,lv,K,Q,hQ,e,st,s,F,a,w,C,h=>xfk (hQ (.exit i) e st s F a w h C)
 | .ret,lv,K,Q,hQ,e,st,s,F,a,w,C,h=>KV (hQ .ret e st s F a w h C)
 | .seq x y,lv,K,Q,hQ,e,st,s,F,a,w,C,h=>by
  refine jB (yU hΓ hq hm n x _ _ _ (fun ex e' st' s' F' a' w' hk C' =>?_) e st s F a w C h)
  cases ex with
  | normal=>
   simp only at hk
   split at hk
   ·split at hk
    ·rename_i st2 hn
     obtain⟨e2,C2⟩:=C'.normC hn
     refine yU hΓ hq hm n y lv (xdb n e0.length lv K) Q (fun ex e3 st3 s3 F3 a3 w3 hk3 C3 =>?_) e2 st2 s' F' a' w' C2 hk
     unfold xdb at hk3
     split at hk3
     ·rename_i st4 hn4
      obtain⟨e4,C4⟩:=C3.normC hn4
      exact hQ ex e4 st4 s3 F3 a3 w3 hk3 C4
     ·cases hk3
    ·cases hk
   ·exact yU hΓ hq hm n y lv K Q hQ e' st' s' F' a' w' C' hk
  | exit i=>exact hQ (.exit i) e' st' s' F' a' w' hk C'
  | ret=>exact hQ .ret e' st' s' F' a' w' hk C'
 | .cond c x y,lv,K,Q,hQ,e,st,s,F,a,w,C,h=>by
  simp only[ev]at h
  split at h
  ·rename_i t hc
   have hv:=C.rel.says c _ hc
   simp only[denV,den,oI]at hv
   cases t
   ·rw[cond_false,XU hc]at h
    exact xbm (t:=false) hv.symm (yU hΓ hq hm n y lv K Q hQ e st s F a w C h)
   ·rw[cond_true,XU hc]at h
    exact xbm (t:=true) hv.symm (yU hΓ hq hm n x lv K Q hQ e st s F a w C h)
  ·cases h
 | .block id c,lv,K,Q,hQ,e,st,s,F,a,w,C,h=>by
  refine xet (yU hΓ hq hm n c lv _ _ (fun ex e' st' s' F' a' w' hk C' =>?_) e st s F a w C h)
  cases ex with
  | normal=>exact hQ .normal e' st' s' F' a' w' hk C'
  | exit i=>
   simp only at hk
   simp only[Ex.up,KIn]
   split
   ·rename_i hi;rw[if_pos hi]at hk;exact hQ .normal e' st' s' F' a' w' hk C'
   ·rename_i hi;rw[if_neg hi]at hk;exact hQ (.exit i) e' st' s' F' a' w' hk C'
  | ret=>exact hQ .ret e' st' s' F' a' w' hk C'
 | .scope c,lv,K,Q,hQ,e,st,s,F,a,w,C,h=>by
  intro O b k cs hb hk hc
  refine vj hb.bad (fun _=>xbp) (yU hΓ hq hm n c lv K (fun ex a' s' F' w'=>Q ex a' s' F' w'/\ ∀l,ex ≠ .goto l) (fun ex e' st' s' F' a' w' hk' C'=>⟨hQ ex e' st' s' F' a' w' hk' C',fun l=>by cases ex<;>simp[Ex.up]⟩) e st s F a w C h O b (.inScope c::k) cs hb hk fun ex a' s' F' w' q =>?_)
  obtain⟨q,hng⟩:=q
  cases ex with
  | normal=>exact vj hb.bad (fun _=>Vj) (hc _ _ _ _ _ q)
  | exit id=>
   obtain⟨k',hk',hg⟩:=hc _ _ _ _ _ q
   exact⟨k',by simp[exitTo,hk'],hg⟩
  | ret=>exact fun todo=>hc _ _ _ _ _ q todo
  | goto l=>exact absurd rfl (hng l)
  | panic ch=>exact hc _ _ _ _ _ q
  | outgrown=>exact hc _ _ _ _ _ q
 | .region id ops draw,lv,K,Q,hQ,e,st,s,F,a,w,C,h=>by
  simp only[ev]at h
  cases draw
  ·exact Wv (ZK hΓ hq (fun e' st' s' F' a' w' hk C'=>hQ .normal e' st' s' F' a' w' hk C') ops.toList (List.range ops.size) (xeu ops) C h)
  ·simp only at h
   split at h
   ·split at h
    ·rename_i hok
     exact qQ hΓ hq hm hok.1.1 hok.1.2 hok.2 (fun e' st' s' F' a' w' hk C'=>hQ .normal e' st' s' F' a' w' hk C') C h
    ·cases h
   ·split at h
    ·split at h
     ·rename_i hok
      exact Vi hΓ hq hm hok.1 hok.2 (fun e' st' s' F' a' w' hk C'=>hQ .normal e' st' s' F' a' w' hk C') C h
     ·cases h
    ·split at h
     ·rename_i hok
      exact qQ hΓ hq hm (xbb _ hok.1.1) hok.1.2 hok.2 (fun e' st' s' F' a' w' hk C'=>hQ .normal e' st' s' F' a' w' hk C') C h
     ·cases h
 | .loop c,lv,K,Q,hQ,e,st,s,F,a,w,C,h=>by
  simp only[ev]at h
  intro O b k cs hb hkd hc
  have key : ∀ (m:Nat) e st s F a w,CfgK J S0 w0 e0 e st s F a w->(YA m (fun st k=>ev P Γ n e0.length c (lv ||| (ue c).1) st fun e st'=>match e with
    | .normal=>match normC n e0.length (lv ||| (ue c).1) st' with
     | some st2=>k st2
     | none =>.fail
    | .exit i=>match normC n e0.length lv st' with
     | some st2=>K (.exit i) st2
     | none =>.fail
    | .ret=>match normC n e0.length lv st' with
     | some st2=>K .ret st2
     | none =>.fail) st).run J.step s=some r->O.Ok s F (b.at a (.code c :: .inLoop c::k)) cs w:=by
   intro m
   induction m with
   | zero=>intro e st s F a w C h;cases h
   | succ m ih=>
    intro e st s F a w C h
    simp only[YA]at h
    refine yU hΓ hq hm n c _ _ (xdr (fun a' s' F' w'=>O.Ok s' F' (b.at a' (.code c :: .inLoop c::k)) cs w') Q) (fun ex e' st' s' F' a' w' hk C' =>?_) e st s F a w C h O b (.inLoop c::k) cs hb hkd fun ex a' s' F' w' q =>?_
    ·cases ex with
     | normal=>
      simp only at hk
      split at hk
      ·rename_i st2 hn
       obtain⟨e2,C2⟩:=C'.normC hn
       exact ih e2 st2 s' F' a' w' C2 hk
      ·cases hk
     | exit i=>
      simp only at hk
      split at hk
      ·rename_i st2 hn
       obtain⟨e2,C2⟩:=C'.normC hn
       exact hQ (.exit i) e2 st2 s' F' a' w' hk C2
      ·cases hk
     | ret=>
      simp only at hk
      split at hk
      ·rename_i st2 hn
       obtain⟨e2,C2⟩:=C'.normC hn
       exact hQ .ret e2 st2 s' F' a' w' hk C2
      ·cases hk
    ·cases ex with
     | normal=>exact vj hb.bad (fun _=>stepG_inLoop) q
     | exit id=>exact(hc _ _ _ _ _ q).push rfl (by simp)
     | ret=>exact(hc _ _ _ _ _ q).push (x :=.inLoop c) rfl (by simp)
     | goto l=>exact hc _ _ _ _ _ q
     | panic ch=>exact hc _ _ _ _ _ q
     | outgrown=>exact hc _ _ _ _ _ q
  split at h
  ·rename_i st1 hn
   obtain⟨e1,C1⟩:=C.normC hn
   exact vj hb.bad (fun _=>stepG_loop) (key n.n e1 st1 s F a w C1 h)
  ·cases h
 | .goto _,lv,K,Q,hQ,e,st,s,F,a,w,C,h=>by simp[ev,T.run]at h
 | .rangeFunc ..,lv,K,Q,hQ,e,st,s,F,a,w,C,h=>by simp[ev,T.run]at h
 | .refuse _,lv,K,Q,hQ,e,st,s,F,a,w,C,h=>by simp[ev,T.run]at h
end
end Go.Proofs.YtealkpadijffoaaGreatDoor.Kx
namespace Go.Proofs.YtealkpadijffoaaGreatDoor.Kx
open Go Go.Conc
def Obj.noView:Obj->Prop
 | .view _ _=>False
 | _=>True
def Tame{α:Type}(Gd:Nat->Prop):Sem α->Prop
 | .pure _=>True
 | .halt _=>True
 | .load _ a k=>Gd a.block/\ ∀v,Tame Gd (k v)
 | .store _ a _ k=>Gd a.block/\Tame Gd k
 | .new _ k =>∀r,Tame Gd (k r)
 | .shape _ k =>∀r,Tame Gd (k r)
 | .freeze _ _ k=>Tame Gd k
 | .frozen _ k =>∀r,Tame Gd (k r)
 | .getObj r k=>Gd r/\ ∀o,Tame Gd (k o)
 | .setObj r o k=>Gd r/\Obj.noView o/\Tame Gd k
 | .choose _ k =>∀r,Tame Gd (k r)
 | .program k =>∀r,Tame Gd (k r)
 | .mark m k=>m = .noRoom/\Tame Gd k
 | .sys _ _=>False
def GdW(Gd:Nat->Prop)(w:World):Prop :=∀r,Gd r ->∃o,w.heap[r]? = some o/\Obj.noView o
def EvGd(Gd:Nat->Prop)(e:Event):Prop:=match e.loc with
 | .cell a=>Gd a.block
 | .obj r=>Gd r
 | .mark m=>m = .noRoom
 | _=>False
section
variable{Gd:Nat->Prop}{w:World}
theorem GdW.lt(h:GdW Gd w){r:Nat}(hr:Gd r):r<w.heap.size:=by
 obtain⟨o,h1,_⟩:=h r hr
 exact(Array.getElem?_eq_some_iff.1 h1).1
theorem GdW.push(h:GdW Gd w)(o:Obj):GdW Gd {w with heap:=w.heap.push o}:=fun r hr=>by
 obtain⟨o',h1,h2⟩:=h r hr
 have:=(Array.getElem?_eq_some_iff.1 h1).1
 exact⟨o',by show(w.heap.push o)[r]? = _;rw[Array.getElem?_push,if_neg (by omega)];exact h1,h2⟩
theorem GdW.set(h:GdW Gd w)(b:Nat){o:Obj}(ho:Obj.noView o):GdW Gd {w with heap:=w.heap.setIfInBounds b o}:=fun r hr=>by
 obtain⟨o',h1,h2⟩:=h r hr
 show ∃o',(w.heap.setIfInBounds b o)[r]? = some o'/\Obj.noView o'
 by_cases e:b=r
 ·subst e
  exact⟨o,by rw[Array.getElem?_setIfInBounds_self_of_lt (Array.getElem?_eq_some_iff.1 h1).1],ho⟩
 ·exact⟨o',by rw[Array.getElem?_setIfInBounds_ne e];exact h1,h2⟩
theorem GdW.heap{w':World}(h:GdW Gd w)(e:w'.heap=w.heap):GdW Gd w':=fun r hr=>by rw[e];exact h r hr
theorem GdW.modify(h:GdW Gd w)(b:Nat){f:Obj->Obj}(hf : ∀o,Obj.noView o->Obj.noView (f o)):GdW Gd {w with heap:=w.heap.modify b f}:=fun r hr=>by
 obtain⟨o,h1,h2⟩:=h r hr
 show ∃o',(w.heap.modify b f)[r]? = some o'/\Obj.noView o'
 rw[Array.getElem?_modify]
 split
 ·exact⟨f o,by rw[h1];rfl,hf o h2⟩
 ·exact⟨o,h1,h2⟩
theorem GdW.cell(h:GdW Gd w)(a:Addr)(v:Value):GdW Gd (w.setCell a v):=h.modify _ fun o ho=>by cases o<;>first|trivial|exact ho
theorem GdW.freeze(h:GdW Gd w)(a:Addr)(n:Nat):GdW Gd (w.freeze a n):=by
 unfold World.freeze
 split
 ·exact h
 ·exact h.modify _ fun o ho=>by cases o<;>first|trivial|exact ho
theorem add_block(a:Addr)(n:Nat):(a.add n).block=a.block:=by unfold Addr.add;split<;>rfl
theorem xbq(P:Program){a:Addr}(q:Bool)(h:GdW Gd w)(ha:Gd a.block) : ∃hh,w.farLoad P a q = .error hh:=by
 obtain⟨o,h1,h2⟩:=h _ ha
 unfold World.farLoad
 rw[h1]
 cases o<;>first|exact⟨_,rfl⟩|exact h2.elim
theorem VT(P:Program){a:Addr}(v:Value)(q:Bool)(h:GdW Gd w)(ha:Gd a.block) : ∃hh,w.farStore P a v q = .error hh:=by
 obtain⟨o,h1,h2⟩:=h _ ha
 unfold World.farStore
 rw[h1]
 cases o<;>first|exact⟨_,rfl⟩|exact h2.elim
theorem Tame.listed{α:Type}(P:Program) : ∀ (x:Sem α),Tame Gd x ->∀w es,GdW Gd w ->∀ev∈x.events P w es,ev∈es\/EvGd Gd ev:=by
 intro x
 induction x with
 | pure a=>intro _ w es _ ev h;exact .inl h
 | halt h=>intro _ w es _ ev h;exact .inl h
 | new o k ih=>intro h w es hw;exact ih _ (h _) _ es (hw.push o)
 | shape r k ih=>intro h w es hw;exact ih _ (h _) _ es hw
 | freeze a n k ih=>intro h w es hw;exact ih h _ es (hw.freeze a n)
 | frozen a k ih=>intro h w es hw;exact ih _ (h _) _ es hw
 | choose q k ih=>
  intro h w es hw
  simp only[Sem.events,Sem.runT]
  split
  ·exact ih _ (h _) _ es hw
  ·exact ih _ (h _) _ es (hw.heap rfl)
 | program k ih=>intro h w es hw;exact ih _ (h _) _ es hw
 | load m a k ih=>
  intro h w es hw ev
  obtain⟨hh,hf⟩:=xbq P (m == .atomic) hw h.1
  simp only[Sem.events,Sem.runT,hf]
  split
  ·intro he
   rcases ih _ (h.2 _) w _ hw ev he with h1|h1
   ·rcases Array.mem_push.1 h1 with h1|rfl
    ·exact .inl h1
    ·exact .inr h.1
   ·exact .inr h1
  ·exact .inl
 | store m a v k ih=>
  intro h w es hw ev
  obtain⟨hh,hf⟩:=VT P v (m == .atomic) hw h.1
  have main:ev∈((match w.cell? a with
    | some _=>if w.frozen? a then(.halt (.unsupported (.unsafePointer "a write to bytes that a string shares")) w,es)else k.runT P (w.setCell a v) (es.push ⟨.cell a,true,m == .atomic⟩)
    | none=>match w.farStore P a v (m == .atomic) with
     | .ok (w,touched)=>k.runT P w (es++touched.toArray.map (⟨.cell ·,true,m == .atomic⟩))
     | .error h=>(.halt h w,es):Result α×Array Event)).2->ev∈es\/EvGd Gd ev:=by
   rw[hf]
   split
   ·split
    ·exact .inl
    ·intro he
     rcases ih h.2 _ _ (hw.cell a v) ev he with h1|h1
     ·rcases Array.mem_push.1 h1 with h1|rfl
      ·exact .inl h1
      ·exact .inr h.1
     ·exact .inr h1
   ·exact .inl
  cases v<;>first|exact fun he =>.inl he|exact main
 | getObj r k ih=>
  intro h w es hw ev
  simp only[Sem.events,Sem.runT]
  split
  ·exact .inl
  ·intro he
   rcases ih _ (h.2 _) w _ hw ev he with h1|h1
   ·rcases Array.mem_push.1 h1 with h1|rfl
    ·exact .inl h1
    ·exact .inr h.1
   ·exact .inr h1
  ·exact .inl
 | setObj r o k ih=>
  intro h w es hw ev
  simp only[Sem.events,Sem.runT]
  split
  ·exact .inl
  ·intro he
   rcases ih h.2.2 _ _ (hw.set r h.2.1) ev he with h1|h1
   ·rcases Array.mem_push.1 h1 with h1|rfl
    ·exact .inl h1
    ·exact .inr h.1
   ·exact .inr h1
  ·exact .inl
 | sys c k ih=>intro h;exact h.elim
 | mark m k ih=>
  intro h w es hw ev he
  rcases ih h.2 w _ hw ev he with h1|h1
  ·rcases Array.mem_push.1 h1 with h1|rfl
   ·exact .inl h1
   ·exact .inr h.1
  ·exact .inr h1
theorem Tame.off{α:Type}{F:Nat->Prop}(P:Program){x:Sem α}(h:Tame Gd x)(hw:GdW Gd w)(hF : ∀b,Gd b ->¬F b) : ∀ev∈x.events P w #[],EvOff F w.heap.size ev:=fun ev he=>by
 rcases h.listed P x w #[] hw ev he with h1|h1
 ·simp at h1
 ·obtain⟨l,wr,sy⟩:=ev
  cases l with
  | cell a=>exact⟨hF _ h1,hw.lt h1⟩
  | obj r=>exact⟨hF _ h1,hw.lt h1⟩
  | mark m=>exact h1
  | output=>exact h1.elim
  | goroutines=>exact h1.elim
theorem Wx{α β:Type} : ∀ (x:Sem α) (f:α->Sem β),Tame Gd x->(∀a,Tame Gd (f a))->Tame Gd (x.bind f):=by
 intro x f
 induction x with
 | pure a=>intro _ hf;exact hf a
 | halt h=>intro _ _;trivial
 | new o k ih=>intro h hf r;exact ih r (h r) hf
 | shape r k ih=>intro h hf r;exact ih r (h r) hf
 | freeze a n k ih=>intro h hf;exact ih h hf
 | frozen a k ih=>intro h hf r;exact ih r (h r) hf
 | choose q k ih=>intro h hf r;exact ih r (h r) hf
 | program k ih=>intro h hf r;exact ih r (h r) hf
 | load m a k ih=>intro h hf;exact⟨h.1,fun v=>ih v (h.2 v) hf⟩
 | store m a v k ih=>intro h hf;exact⟨h.1,ih h.2 hf⟩
 | getObj r k ih=>intro h hf;exact⟨h.1,fun v=>ih v (h.2 v) hf⟩
 | setObj r o k ih=>intro h hf;exact⟨h.1,h.2.1,ih h.2.2 hf⟩
 | sys c k ih=>intro h;exact h.elim
 | mark m k ih=>intro h hf;exact⟨h.1,ih h.2 hf⟩
theorem xe{α β:Type}{x:Sem α}{f:α->Sem β}(hx:Tame Gd x)(hf : ∀a,Tame Gd (f a)):Tame Gd (x >>= f):=Wx x f hx hf
theorem xk{α:Type}(a:α):Tame Gd (pure a:Sem α):=trivial
theorem yB{α β:Type}{x:Sem α}(f:α->β)(hx:Tame Gd x):Tame Gd (f <$> x):=Wx x _ hx fun a=>trivial
theorem tame_program:Tame Gd program:=fun _=>trivial
theorem xC{α:Type}(s:String):Tame Gd (stuck s:Sem α):=trivial
theorem xH{α:Type}(s:Unsupported):Tame Gd (unsupported s:Sem α):=trivial
theorem ym{α:Type}(s:Value):Tame Gd (goPanic s:Sem α):=trivial
theorem xM(q:Question):Tame Gd (choose q):=fun _=>trivial
theorem yf(r:Nat):Tame Gd (shape r):=fun _=>trivial
theorem xR(a:Addr):Tame Gd (frozen a):=fun _=>trivial
theorem xS(o:Obj):Tame Gd (newObj o):=fun _=>trivial
theorem qj{r:Nat}(h:Gd r):Tame Gd (getObj r):=⟨h,fun _=>trivial⟩
theorem qk{r:Nat}(h:Gd r){o:Obj}(ho:Obj.noView o):Tame Gd (setObj r o):=⟨h,ho,trivial⟩
theorem VU{a:Addr}(h:Gd a.block)(m:Mode):Tame Gd (load a m):=⟨h,fun _=>trivial⟩
theorem xcq{a:Addr}(h:Gd a.block)(v:Value)(m:Mode):Tame Gd (store a v m):=⟨h,trivial⟩
theorem xw(t:TypeId):Tame Gd (typeInfo t):=xe tame_program fun p=>by split<;>trivial
theorem xg(t:TypeId):Tame Gd (underlying t):=xe tame_program fun p=>by split<;>trivial
theorem xD(t:TypeId):Tame Gd (sizeOf t):=xe (xw t) fun _=>trivial
theorem xV(t:TypeId):Tame Gd (isAgg t):=xe (xg t) fun _=>by split<;>trivial
theorem xt(t:TypeId):Tame Gd (zeroValue t):=xe (xw t) fun _=>by split<;>trivial
theorem ya(t:TypeId)(cs:Array Value)(off:Nat):Tame Gd (part t cs off):=by
 unfold part
 refine xe (xV t) fun b =>?_
 split
 ·exact xe (xD t) fun _=>trivial
 ·split<;>trivial
theorem xT(v:Value):Tame Gd (asBool v):=by unfold asBool;split<;>trivial
theorem xJ(v:Value):Tame Gd (asIntOf v):=by unfold asIntOf;split<;>trivial
theorem yn(v:Value):Tame Gd (asInt v):=xe (xJ v) fun _=>trivial
theorem yo(v:Value):Tame Gd (asAgg v):=by unfold asAgg;split<;>trivial
theorem xN(t:TypeId)(cs:Array Value):Tame Gd (newRow t cs):=xe (xS _) fun _=>trivial
theorem xI(t:TypeId)(v:Value):Tame Gd (newVar t v):=xN _ _
theorem xU(t:TypeId):Tame Gd (elemOf t):=xe (xg t) fun _=>by split<;>trivial
theorem xP(n:Nat):Tame Gd (askRoom n):=by
 unfold askRoom
 split
 ·exact⟨rfl,trivial⟩
 ·trivial
theorem xp{α:Type}(e:RuntimeError):Tame Gd (runtimePanic e:Sem α):=by
 unfold runtimePanic
 refine xe tame_program fun p =>?_
 dsimp only
 split
 all_goals first
  | trivial
  | exact xe (xU _) fun _=>xe (xI _ _) fun _=>trivial
theorem yb(v:Value):Tame Gd (asAddr v):=by unfold asAddr;split<;>first|trivial|exact xp _
theorem xx(v:Value):Tame Gd (Instr.sureAddr v):=by unfold Instr.sureAddr;split<;>trivial
theorem xA{α:Type}(k:IntKind)(x y:Int)(c:BoundsCode):Tame Gd (boundsPanic k x y c:Sem α):=by
 unfold boundsPanic
 (repeat' (first|exact xp _|exact tame_program|exact yf _|exact xC _|exact xk _|exact xH _|exact xM _|exact ym _|exact xS _|exact xR _|exact xw _|exact xg _|exact xD _|exact xV _|exact xt _|exact ya _ _ _|exact xT _|exact xJ _|exact yn _|exact yo _|exact xN _ _|exact xI _ _|exact xU _|exact trivial|(refine xe ?_ fun _ =>?_)|(refine yB _ ?_)|split|dsimp only))
theorem VV{α β:Type}(f:α->Sem β)(hf : ∀a,Tame Gd (f a)) : ∀l:List α,Tame Gd (l.mapM f)
 | []=>by rw[List.mapM_nil];trivial
 | a::l=>by rw[List.mapM_cons];exact xe (hf a) fun _=>xe (VV f hf l) fun _=>trivial
theorem xev{α β:Type}(f:α->Sem β)(hf : ∀a,Tame Gd (f a))(l:Array α):Tame Gd (l.mapM f):=by
 rw[Array.mapM_eq_mapM_toList]
 exact yB _ (VV f hf _)
theorem xcr(t:TypeId):Tame Gd (Instr.alloc t true (.tuple #[])):=xe (xt t) fun _=>xe (xI _ _) fun _=>trivial
theorem xfl(t:TypeId)(v:Value):Tame Gd (Instr.box t v):=xe (xI _ _) fun _=>trivial
theorem xcs(t:TypeId)(ps:Array (Nat×Value)):Tame Gd (Instr.build t ps):=by
 unfold Instr.build
 (repeat' (first|(refine xev _ (fun _ =>?_) _)|exact tame_program|exact yf _|exact xC _|exact xk _|exact xH _|exact xM _|exact ym _|exact xS _|exact xR _|exact xw _|exact xg _|exact xD _|exact xV _|exact xt _|exact ya _ _ _|exact xT _|exact xJ _|exact yn _|exact yo _|exact xN _ _|exact xI _ _|exact xU _|exact xp _|exact xA _ _ _ _|exact yb _|exact xx _|exact xP _|exact trivial|(refine xe ?_ fun _ =>?_)|(refine yB _ ?_)|split|dsimp only))
theorem Yd(t:TypeId)(n:Nat)(ps:Array (Nat×Value)):Tame Gd (Instr.buildSlice t n ps):=by
 unfold Instr.buildSlice
 (repeat' (first|exact tame_program|exact yf _|exact xC _|exact xk _|exact xH _|exact xM _|exact ym _|exact xS _|exact xR _|exact xw _|exact xg _|exact xD _|exact xV _|exact xt _|exact ya _ _ _|exact xT _|exact xJ _|exact yn _|exact yo _|exact xN _ _|exact xI _ _|exact xU _|exact xp _|exact xA _ _ _ _|exact yb _|exact xx _|exact xP _|exact trivial|(refine xe ?_ fun _ =>?_)|(refine yB _ ?_)|split|dsimp only))
theorem xct(t:TypeId)(v:Value)(f:Nat):Tame Gd (Instr.field t v f):=by
 unfold Instr.field
 (repeat' (first|exact tame_program|exact yf _|exact xC _|exact xk _|exact xH _|exact xM _|exact ym _|exact xS _|exact xR _|exact xw _|exact xg _|exact xD _|exact xV _|exact xt _|exact ya _ _ _|exact xT _|exact xJ _|exact yn _|exact yo _|exact xN _ _|exact xI _ _|exact xU _|exact xp _|exact xA _ _ _ _|exact yb _|exact xx _|exact xP _|exact trivial|(refine xe ?_ fun _ =>?_)|(refine yB _ ?_)|split|dsimp only))
theorem KW(t:TypeId)(v i:Value):Tame Gd (Instr.indexAt t v i):=by
 unfold Instr.indexAt
 (repeat' (first|exact tame_program|exact yf _|exact xC _|exact xk _|exact xH _|exact xM _|exact ym _|exact xS _|exact xR _|exact xw _|exact xg _|exact xD _|exact xV _|exact xt _|exact ya _ _ _|exact xT _|exact xJ _|exact yn _|exact yo _|exact xN _ _|exact xI _ _|exact xU _|exact xp _|exact xA _ _ _ _|exact yb _|exact xx _|exact xP _|exact trivial|(refine xe ?_ fun _ =>?_)|(refine yB _ ?_)|split|dsimp only))
theorem xcu(t:TypeId)(v i:Value):Tame Gd (Instr.index t v i):=by
 unfold Instr.index
 (repeat' (first|exact tame_program|exact yf _|exact xC _|exact xk _|exact xH _|exact xM _|exact ym _|exact xS _|exact xR _|exact xw _|exact xg _|exact xD _|exact xV _|exact xt _|exact ya _ _ _|exact xT _|exact xJ _|exact yn _|exact yo _|exact xN _ _|exact xI _ _|exact xU _|exact xp _|exact xA _ _ _ _|exact yb _|exact xx _|exact xP _|exact trivial|(refine xe ?_ fun _ =>?_)|(refine yB _ ?_)|split|dsimp only))
theorem KX(t:TypeId)(v:Value):Tame Gd (Instr.arrayAt t v):=by
 unfold Instr.arrayAt
 (repeat' (first|exact tame_program|exact yf _|exact xC _|exact xk _|exact xH _|exact xM _|exact ym _|exact xS _|exact xR _|exact xw _|exact xg _|exact xD _|exact xV _|exact xt _|exact ya _ _ _|exact xT _|exact xJ _|exact yn _|exact yo _|exact xN _ _|exact xI _ _|exact xU _|exact xp _|exact xA _ _ _ _|exact yb _|exact xx _|exact xP _|exact trivial|(refine xe ?_ fun _ =>?_)|(refine yB _ ?_)|split|dsimp only))
theorem jH(x:Value)(y:Nat)(c:BoundsCode):Tame Gd (Instr.sliceBound x y c):=by
 unfold Instr.sliceBound
 (repeat' (first|exact tame_program|exact yf _|exact xC _|exact xk _|exact xH _|exact xM _|exact ym _|exact xS _|exact xR _|exact xw _|exact xg _|exact xD _|exact xV _|exact xt _|exact ya _ _ _|exact xT _|exact xJ _|exact yn _|exact yo _|exact xN _ _|exact xI _ _|exact xU _|exact xp _|exact xA _ _ _ _|exact yb _|exact xx _|exact xP _|exact trivial|(refine xe ?_ fun _ =>?_)|(refine yB _ ?_)|split|dsimp only))
theorem jg(b:Bool)(l c:Nat)(x y z:Option Value):Tame Gd (Instr.sliceBounds b l c x y z):=by
 unfold Instr.sliceBounds
 (repeat' (first|exact jH _ _ _|exact tame_program|exact yf _|exact xC _|exact xk _|exact xH _|exact xM _|exact ym _|exact xS _|exact xR _|exact xw _|exact xg _|exact xD _|exact xV _|exact xt _|exact ya _ _ _|exact xT _|exact xJ _|exact yn _|exact yo _|exact xN _ _|exact xI _ _|exact xU _|exact xp _|exact xA _ _ _ _|exact yb _|exact xx _|exact xP _|exact trivial|(refine xe ?_ fun _ =>?_)|(refine yB _ ?_)|split|dsimp only))
theorem xcv(t:TypeId)(x:Value)(l h m:Option Value):Tame Gd (Instr.slice t x l h m):=by
 unfold Instr.slice
 (repeat' (first|exact jg _ _ _ _ _ _|exact tame_program|exact yf _|exact xC _|exact xk _|exact xH _|exact xM _|exact ym _|exact xS _|exact xR _|exact xw _|exact xg _|exact xD _|exact xV _|exact xt _|exact ya _ _ _|exact xT _|exact xJ _|exact yn _|exact yo _|exact xN _ _|exact xI _ _|exact xU _|exact xp _|exact xA _ _ _ _|exact yb _|exact xx _|exact xP _|exact trivial|(refine xe ?_ fun _ =>?_)|(refine yB _ ?_)|split|dsimp only))
theorem ZL(t:TypeId)(x:Value)(l h m:Option Value):Tame Gd (Instr.sliceAt t x l h m):=by
 unfold Instr.sliceAt
 (repeat' (first|exact tame_program|exact yf _|exact xC _|exact xk _|exact xH _|exact xM _|exact ym _|exact xS _|exact xR _|exact xw _|exact xg _|exact xD _|exact xV _|exact xt _|exact ya _ _ _|exact xT _|exact xJ _|exact yn _|exact yo _|exact xN _ _|exact xI _ _|exact xU _|exact xp _|exact xA _ _ _ _|exact yb _|exact xx _|exact xP _|exact jH _ _ _|exact jg _ _ _ _ _ _|exact xcv _ _ _ _ _|exact trivial|(refine xe ?_ fun _ =>?_)|(refine yB _ ?_)|split|dsimp only))
theorem KY(v:Value)(i:Nat):Tame Gd (Instr.extract v i):=by
 unfold Instr.extract
 (repeat' (first|exact tame_program|exact yf _|exact xC _|exact xk _|exact xH _|exact xM _|exact ym _|exact xS _|exact xR _|exact xw _|exact xg _|exact xD _|exact xV _|exact xt _|exact ya _ _ _|exact xT _|exact xJ _|exact yn _|exact yo _|exact xN _ _|exact xI _ _|exact xU _|exact xp _|exact xA _ _ _ _|exact yb _|exact xx _|exact xP _|exact trivial|(refine xe ?_ fun _ =>?_)|(refine yB _ ?_)|split|dsimp only))
theorem Zj(t:TypeId)(v:Value):Tame Gd (Instr.makeInterface t v):=by
 unfold Instr.makeInterface
 (repeat' (first|exact tame_program|exact yf _|exact xC _|exact xk _|exact xH _|exact xM _|exact ym _|exact xS _|exact xR _|exact xw _|exact xg _|exact xD _|exact xV _|exact xt _|exact ya _ _ _|exact xT _|exact xJ _|exact yn _|exact yo _|exact xN _ _|exact xI _ _|exact xU _|exact xp _|exact xA _ _ _ _|exact yb _|exact xx _|exact xP _|exact trivial|(refine xe ?_ fun _ =>?_)|(refine yB _ ?_)|split|dsimp only))
theorem KZ(t:TypeId):Tame Gd (Instr.makeMap t none):=by
 unfold Instr.makeMap
 (repeat' (first|exact tame_program|exact yf _|exact xC _|exact xk _|exact xH _|exact xM _|exact ym _|exact xS _|exact xR _|exact xw _|exact xg _|exact xD _|exact xV _|exact xt _|exact ya _ _ _|exact xT _|exact xJ _|exact yn _|exact yo _|exact xN _ _|exact xI _ _|exact xU _|exact xp _|exact xA _ _ _ _|exact yb _|exact xx _|exact xP _|exact trivial|(refine xe ?_ fun _ =>?_)|(refine yB _ ?_)|split|dsimp only))
set_option maxHeartbeats 2000000 in
theorem Wy(t:TypeId)(x y:Value):Tame Gd (Instr.makeSlice t x y):=by
 unfold Instr.makeSlice
 (repeat' (first|exact tame_program|exact yf _|exact xC _|exact xk _|exact xH _|exact xM _|exact ym _|exact xS _|exact xR _|exact xw _|exact xg _|exact xD _|exact xV _|exact xt _|exact ya _ _ _|exact xT _|exact xJ _|exact yn _|exact yo _|exact xN _ _|exact xI _ _|exact xU _|exact xp _|exact xA _ _ _ _|exact yb _|exact xx _|exact xP _|exact trivial|(refine xe ?_ fun _ =>?_)|(refine yB _ ?_)|split|dsimp only))
/-! ### cells -/
theorem Wz{a:Addr}(h:Gd a.block) : ∀ (n i:Nat) (acc:Array Value),Tame Gd (loadCellsFrom a i n acc)
 | 0,i,acc=>trivial
 | n+1,i,acc=>xe (VU (by rw[add_block];exact h) _) fun v=>Wz h n (i+1) _
theorem ql{a:Addr}(h:Gd a.block)(n:Nat):Tame Gd (loadCells a n):=Wz h n 0 #[]
theorem qm{a:Addr}(h:Gd a.block) : ∀ (vs:List Value) (i:Nat),Tame Gd (storeCells a vs i)
 | [],i=>trivial
 | v::vs,i=>xe (xcq (by rw[add_block];exact h) _ _) fun _=>qm h vs (i+1)
theorem xaa(t:TypeId){a:Addr}(h:Gd a.block):Tame Gd (loadVar t a):=by
 unfold loadVar
 refine xe (xV t) fun b =>?_
 split
 ·exact xe (xD t) fun n=>xe (ql h n) fun _=>trivial
 ·exact VU h _
theorem qR(t:TypeId){a:Addr}(h:Gd a.block)(v:Value):Tame Gd (storeVar t a v):=by
 unfold storeVar
 refine xe (xD t) fun n =>?_
 dsimp only
 split
 ·exact xC _
 ·exact qm h _ _
end
end Go.Proofs.YtealkpadijffoaaGreatDoor.Kx
namespace Go.Proofs.YtealkpadijffoaaGreatDoor.Kx
open Go Go.Conc Lx
section
variable{P:Program}{Gd:Nat->Prop}{w:World}
def Tm{α:Type}(P:Program)(Gd:Nat->Prop)(x:Sem α):Prop :=∀w,GdW Gd w->(∀es,∀ev∈x.events P w es,ev∈es\/EvGd Gd ev)/\ ∀a w',x.run P w = .ok a w'->GdW Gd w'
theorem Tame.run{α:Type}(P:Program) : ∀ (x:Sem α),Tame Gd x ->∀w,GdW Gd w ->∀a w',x.run P w = .ok a w'->GdW Gd w':=by
 intro x
 induction x with
 | pure a=>intro _ w hw b w' h;cases h;exact hw
 | halt h=>intro _ w hw b w' h;cases h
 | new o k ih=>intro h w hw;exact ih _ (h _) _ (hw.push o)
 | shape r k ih=>intro h w hw;exact ih _ (h _) _ hw
 | freeze a n k ih=>intro h w hw;exact ih h _ (hw.freeze a n)
 | frozen a k ih=>intro h w hw;exact ih _ (h _) _ hw
 | choose q k ih=>
  intro h w hw b w'
  simp only[Sem.run]
  split
  ·exact ih _ (h _) _ hw b w'
  ·exact ih _ (h _) {w with drawn:=w.drawn+1} (hw.heap rfl) b w'
 | program k ih=>intro h w hw;exact ih _ (h _) _ hw
 | load m a k ih=>
  intro h w hw b w'
  obtain⟨hh,hf⟩:=xbq P (m == .atomic) hw h.1
  simp only[Sem.run,hf]
  split
  ·exact ih _ (h.2 _) w hw b w'
  ·exact fun x=>by cases x
 | store m a v k ih=>
  intro h w hw b w'
  obtain⟨hh,hf⟩:=VT P v (m == .atomic) hw h.1
  have main:(match w.cell? a with
    | some _=>if w.frozen? a then .halt (.unsupported (.unsafePointer "a write to bytes that a string shares")) w else k.run P (w.setCell a v)
    | none=>match w.farStore P a v (m == .atomic) with
     | .ok (w,_)=>k.run P w
     | .error h =>.halt h w:Result α) = .ok b w'->GdW Gd w':=by
   rw[hf]
   split
   ·split
    ·exact fun x=>by cases x
    ·exact ih h.2 _ (hw.cell a v) b w'
   ·exact fun x=>by cases x
  cases v<;>first|exact fun x=>by cases x|exact main
 | getObj r k ih=>
  intro h w hw b w'
  simp only[Sem.run]
  split
  ·exact fun x=>by cases x
  ·exact ih _ (h.2 _) w hw b w'
  ·exact fun x=>by cases x
 | setObj r o k ih=>
  intro h w hw b w'
  simp only[Sem.run]
  split
  ·exact fun x=>by cases x
  ·exact ih h.2.2 _ (hw.set r h.2.1) b w'
  ·exact fun x=>by cases x
 | sys c k ih=>intro h;exact h.elim
 | mark m k ih=>intro h w hw;exact ih h.2 w hw
theorem Tame.tm{α:Type}{x:Sem α}(h:Tame Gd x):Tm P Gd x:=fun w hw=>⟨fun es=>h.listed P x w es hw,fun a w'=>h.run P x w hw a w'⟩
theorem yh{α β:Type}{x:Sem α}{f:α->Sem β}(hx:Tm P Gd x)(hf : ∀a w w',GdW Gd w->x.run P w = .ok a w'->Tm P Gd (f a)):Tm P Gd (x >>= f):=by
 intro w hw
 obtain⟨h1,h2⟩:=hx w hw
 rw[show(x >>= f).run P w=(x.run P w).andThen fun a w'=>(f a).run P w' from Sem.run_bind ..]
 have hev : ∀es,(x >>= f).events P w es=(x.run P w).evThen (x.events P w es) fun a w' es'=>(f a).events P w' es':=fun es=>Sem.events_bind ..
 cases hr:x.run P w with
 | halt h w'=>
  refine⟨fun es ev he =>?_,fun a w' h=>by cases h⟩
  rw[hev,hr]at he
  exact h1 es ev he
 | ok a w'=>
  have hw':=h2 a w' hr
  obtain⟨h3,h4⟩:=hf a w w' hw hr w' hw'
  refine⟨fun es ev he =>?_,fun b w₂ h=>h4 b w₂ h⟩
  rw[hev,hr]at he
  rcases h3 _ ev he with h|h
  ·exact h1 es ev h
  ·exact .inr h
theorem xy{α:Type}(a:α):Tm P Gd (pure a:Sem α):=(xk a).tm
theorem xX{α β:Type}{x:Sem α}{f:α->Sem β}{a:α}(hx:Tm P Gd x)(hr : ∀w,x.run P w = .ok a w)(hf:Tm P Gd (f a)):Tm P Gd (x >>= f):=yh hx fun b w w' _ h=>by
 rw[hr]at h
 cases h
 exact hf
theorem Tm.off{α:Type}{F:Nat->Prop}{x:Sem α}(h:Tm P Gd x)(hw:GdW Gd w)(hF : ∀b,Gd b ->¬F b) : ∀ev∈x.events P w #[],EvOff F w.heap.size ev:=fun ev he=>by
 rcases(h w hw).1 #[] ev he with h1|h1
 ·simp at h1
 ·obtain⟨l,wr,sy⟩:=ev
  cases l with
  | cell a=>exact⟨hF _ h1,hw.lt h1⟩
  | obj r=>exact⟨hF _ h1,hw.lt h1⟩
  | mark m=>exact h1
  | output=>exact h1.elim
  | goroutines=>exact h1.elim
theorem jD{t:TypeId}{a:Addr}{cells:List C}{o:Nat}{v:V}(h:partT P t cells o=some v)(hg:cells ≠ []->Gd a.block):Tm P Gd (loadVar t a):=by
 by_cases hc:cells = []
 ·subst hc
  unfold partT Vo at h
  split at h
  ·rename_i n hu hn
   rw[oM]at hu h
   obtain⟨d,hd,hda⟩:=hu
   obtain⟨l,hl,rfl⟩:=h
   obtain rfl:n=0:=(Xe hl).1
   unfold loadVar
   refine xX (xV t).tm (wy hd) ?_
   rw[hda]
   exact xX (xD t).tm (xr hn) (xX (a:= #[]) (xy _) (fun _=>rfl) (xy _))
  ·split at h
   ·rename_i x hx
    have:=qw hx
    simp at this
   ·cases h
  ·cases h
 ·exact(xaa t (hg hc)).tm
/-! ### equality -/
theorem WA(k:IntKind)(n:Int)(m:Nat)(t:TypeId)(y:Value):Tame Gd (Op.equalIn m t (.int k n) y):=by
 cases m with
 | zero=>exact xH _
 | succ m=>
  simp only[Op.equalIn]
  refine xe (xg t) fun d =>?_
  split<;>first|trivial|(rename_i h;cases h;done)|(split<;>trivial)
theorem ZM(t:TypeId)(k:IntKind)(n:Int) : ∀ (l:List MapEntry) (i:Nat),Tame Gd (Instr.findAsking t (.int k n) l i)
 | [],i=>trivial
 | e::l,i=>by
  unfold Instr.findAsking
  refine xe (WA _ _ _ _ _) fun b =>?_
  split
  ·trivial
  ·exact ZM t k n l (i+1)
theorem wZ(t:TypeId)(k:IntKind)(n:Int)(l:List MapEntry):Tame Gd (Instr.findKey t (.int k n) l):=by
 unfold Instr.findKey
 refine xe (xg t) fun d =>?_
 split
 ·trivial
 ·exact ZM t k n l 0
theorem wC(b:Bool)(m:Nat)(t:TypeId)(k:IntKind)(n:Int):Tame Gd (Instr.checkKey b m t (.int k n)):=by
 cases m with
 | zero=>exact xH _
 | succ m=>
  unfold Instr.checkKey
  refine xe (xg t) fun d =>?_
  split<;>first|trivial|(rename_i h;cases h;done)
theorem xbr{r:Nat}(hr:Gd r)(t:TypeId)(k:IntKind)(n:Int)(ok:Bool):Tame Gd (Instr.lookup t (.map (some r)) (.int k n) ok):=by
 unfold Instr.lookup
 refine xe (xg t) fun d =>?_
 split
 ·refine xe (qj hr) fun o =>?_
  split
  ·refine xe (xk _) fun es =>?_
   refine xe (wC _ _ _ _ _) fun _=>xe (wZ _ _ _ _) fun q =>?_
   dsimp only
   split
   ·exact xe (xk _) fun _=>xk _
   ·exact xe (xt _) fun _=>xe (xk _) fun _=>xk _
  ·exact xe (xC _) fun es=>(xe (wC _ _ _ _ _) fun _=>xe (wZ _ _ _ _) fun q=>by
    dsimp only
    split
    ·exact xe (xk _) fun _=>xk _
    ·exact xe (xt _) fun _=>xe (xk _) fun _=>xk _)
 ·trivial
theorem WB{r:Nat}(hr:Gd r)(t:TypeId)(k:IntKind)(n:Int)(v:Value):Tame Gd (Instr.mapUpdate t (.map (some r)) (.int k n) v):=by
 unfold Instr.mapUpdate
 refine xe (xg t) fun d =>?_
 split
 ·refine xe (qj hr) fun o =>?_
  split
  ·refine xe (wC _ _ _ _ _) fun _=>xe (wZ _ _ _ _) fun q =>?_
   split
   ·refine xe ?_ fun _=>qk hr trivial
    unfold Instr.keyThatStays
    split
    ·trivial
    ·exact xe (xM _) fun _=>trivial
   ·exact qk hr trivial
  ·trivial
 ·trivial
theorem xbs{r:Nat}(hr:Gd r)(t kt ty:TypeId)(k:IntKind)(n:Int):Tame Gd (Builtin.delete_ #[t,kt] ty #[.map (some r),.int k n]):=by
 unfold Builtin.delete_
 simp only[List.getElem?_toArray,List.getElem?_cons_zero,List.getElem?_cons_succ]
 refine xe (xg t) fun d =>?_
 split
 ·refine xe (qj hr) fun o =>?_
  split
  ·refine xe (wC _ _ _ _ _) fun _=>xe (wZ _ _ _ _) fun q =>?_
   split<;>exact xe (qk hr trivial) fun _=>xk _
  ·exact xe (xC _) fun _=>xk _
 ·trivial
/-! ### append -/
def VW(Gd:Nat->Prop)(v:Value):Prop:=(∃b,v = .slice b 0 0)\/ ∃a n c,v = .slice (some a) n c/\Gd a.block
def XX(Gd:Nat->Prop)(v:Value):Prop:=(∃b c,v = .slice b 0 c)\/ ∃a n c,v = .slice (some a) n c/\Gd a.block
theorem xew{t el ty:TypeId}{sv xv:Value}(hu:P.underlying t=some (.slice el))(hs:VW Gd sv)(hx:XX Gd xv):Tm P Gd (Builtin.append_ #[t,t] ty #[sv,xv]):=by
 obtain⟨sb,sn,sc,rfl,hs'⟩ : ∃sb sn sc,sv = .slice sb sn sc/\((sn=0/\sc=0)\/ ∃a,sb=some a/\Gd a.block):=by
  rcases hs with⟨b,rfl⟩|⟨a,n,c,rfl,h⟩
  ·exact⟨_,_,_,rfl,.inl ⟨rfl,rfl⟩⟩
  ·exact⟨_,_,_,rfl,.inr ⟨a,rfl,h⟩⟩
 obtain⟨xb,xn,xc,rfl,hx'⟩ : ∃xb xn xc,xv = .slice xb xn xc/\(xn=0\/ ∃a,xb=some a/\Gd a.block):=by
  rcases hx with⟨b,c,rfl⟩|⟨a,n,c,rfl,h⟩
  ·exact⟨_,_,_,rfl,.inl rfl⟩
  ·exact⟨_,_,_,rfl,.inr ⟨a,rfl,h⟩⟩
 have first : ∀ (b:Option Addr) (n c sz:Nat),(n=0\/ ∃a,b=some a/\Gd a.block)->Tame Gd (Builtin.firstCells sz n (.slice b n c)):=by
  intro b n c sz h
  cases b with
  | none=>exact xk _
  | some a=>
   rcases h with rfl|⟨a',ha,h⟩
   ·simp only[Builtin.firstCells,Nat.zero_mul]
    exact xk _
   ·cases ha
    exact ql h _
 unfold Builtin.append_
 simp only[List.getElem?_toArray,List.getElem?_cons_zero,List.getElem?_cons_succ]
 refine xX (xg t).tm (xa hu) ?_
 dsimp only
 refine yh (xD el).tm fun sz _ _ _ _ =>?_
 refine xX (a:=TypeDesc.slice el) (xg t).tm (xa hu) ?_
 refine xX (a:=false) (xy _) (fun _=>rfl) ?_
 simp only[Bool.false_eq_true,if_false,Bool.not_false,if_true,false_or]
 refine xX (a:=xn) (xy _) (fun _=>rfl) ?_
 have fx:=first xb xn xc sz hx'
 have fs:Tame Gd (Builtin.firstCells sz sn (.slice sb sn sc)):=first sb sn sc sz (hs'.imp (·.1) id)
 split
 ·rename_i hle
  rcases hs' with⟨rfl,rfl⟩|⟨a,rfl,ha⟩
  ·obtain rfl:xn=0:=by omega
   have hf:Builtin.firstCells sz 0 (.slice xb 0 xc)=pure #[]:=by
    cases xb with
    | none=>rfl
    | some a=>simp only[Builtin.firstCells,Nat.zero_mul];rfl
   rw[hf]
   refine xX (a:= #[]) (xy _) (fun _=>rfl) ?_
   split
   ·exact xX (a:=()) (xy _) (fun _=>rfl) (xy _)
   ·exact xy _
  ·refine yh fx.tm fun new _ _ _ _ =>?_
   exact yh (qm (by rw[add_block];exact ha) _ _).tm fun _ _ _ _ _=>xy _
 ·refine Tame.tm ?_
  have tail : ∀zr:Bool,Tame Gd (do
    let newCap <- choose (Question.appendCap (sn+xn) sc el)
    let __do_lift <- typeInfo el
    askRoom (newCap*__do_lift.bytes)
    let old <- Builtin.firstCells sz sn (Value.slice sb sn sc)
    let new <- Builtin.firstCells sz xn (Value.slice xb xn xc)
    let __do_lift <- zeroValue el
    let __do_lift <- newRow el (old++new++Builtin.zeroCells __do_lift.cells (newCap-(sn+xn)))
    pure (Value.slice (some __do_lift) (sn+xn) newCap)):=fun _=>
   xe (xM _) fun _=>xe (xw _) fun _=>xe (xP _) fun _=>xe fs fun _=>xe fx fun _=>xe (xt _) fun _=>xe (xN _ _) fun _=>xk _
  have share:Tame Gd (Builtin.mayShare sz sn xn sb (.slice xb xn xc)):=by
   unfold Builtin.mayShare Builtin.holdsCells
   (repeat' (first|exact yf _|exact xR _|exact xk _|exact trivial|(refine xe ?_ fun _ =>?_)|split|dsimp only))
  (repeat' (first|exact tail true|exact share|exact xw _|exact xp _|exact xH _|exact⟨rfl,trivial⟩|(refine xe ?_ fun _ =>?_)|split|dsimp only))
end
end Go.Proofs.YtealkpadijffoaaGreatDoor.Kx
namespace Go.Proofs.YtealkpadijffoaaGreatDoor.Kx
open Go Go.Conc Lx
def Good(F:Nat->Prop)(w:World)(b:Nat):Prop:= ¬F b/\ ∃o,w.heap[b]? = some o/\Obj.noView o
theorem xfm(F:Nat->Prop)(w:World):GdW (Good F w) w:=fun r h=>h.2
section
variable{ρ:Operand->Option V}{P:Program}{pv:Pv}{ra:Operand->Value}{o:Oper}{e:Env}{H:Heap}{w:World}{F:Nat->Prop}
theorem jh(E:Emb pv e H w)(hF : ∀b,Own false e H b ->¬F b){b:Nat}{k:Blk}{r:Nat×Nat}(hk:blkAt H b=some k)(hr:e[b]? = some r)(hw:k.win=none)(hv:k.virt=false)(hm:k.mapped=none):Good F w r.1:=by
 obtain⟨r',cs,tl,h1,h2,h3,_⟩:=E.row b k hk hw hv hm
 rw[hr]at h1
 cases h1
 exact⟨hF _ (yQ hk hr hv),_,h3,trivial⟩
theorem Xr(E:Emb pv e H w)(hF : ∀b,Own false e H b ->¬F b){b:Nat}{k:Blk}{r:Nat×Nat}(hk:blkAt H b=some k)(hr:e[b]? = some r)(hn : ∀t,k.tab=some t->t.isTok=false)(hc:k.real ≠ []):Good F w r.1:=by
 obtain⟨r',cs,h1,h2,h3⟩:=E.lies b k hk
 rw[hr]at h1
 cases h1
 obtain⟨c,l,hl⟩:=List.exists_cons_of_ne_nil hc
 have hlen:=xL h2
 rw[hl]at hlen
 obtain⟨v,vs,rfl⟩ : ∃v vs,cs=v::vs:=by
  cases cs with
  | nil=>simp at hlen
  | cons v vs=>exact⟨v,vs,rfl⟩
 have hv:k.virt=false:=Blk.virt_some hn h2 (j:=0) rfl
 have hm:k.mapped=none:=Blk.mapped_some h2 (j:=0) rfl
 refine⟨hF _ (yQ hk hr hv),?_⟩
 rcases h3.2 with h3|h3
 ·rw[hv]at h3;cases h3
 ·rw[hm]at h3
  cases hw:k.win with
  | none=>
   rw[hw]at h3
   obtain⟨tl,h4,_⟩:=h3
   exact⟨_,h4,trivial⟩
  | some off=>
   rw[hw]at h3
   have h4:=h3.2 0 v rfl
   unfold World.cell? at h4
   split at h4
   ·rename_i hh
    exact⟨_,hh,trivial⟩
   ·cases h4
theorem WD(E:Emb pv e H w)(hF : ∀b,Own false e H b ->¬F b){b:Nat}{k:Blk}{r:Nat×Nat}{m:Bool×List CK×List (List Int)}(hk:blkAt H b=some k)(hr:e[b]? = some r)(hm:k.mapped=some m){t:TypeId}(ht:P.underlying t=some (.int .i64)):Good F w r.1:=by
 obtain⟨r',cs,h1,h2,h3⟩:=E.lies b k hk
 rw[hr]at h1
 cases h1
 obtain⟨es,clock,hb,_⟩:=h3.map hm P t ht
 exact⟨hF _ (yQ hk hr (Blk.mapped_win hm).2.1),_,hb,trivial⟩
theorem xab{t:TypeId}{x:Operand}{f:Nat}{fs:Array Field}{fd:Field}{b p n:Nat}(hρ:Says pv e ρ ra)(E:Emb pv e H w)(ho:o.op = .fieldAddr t x f)(hu:P.underlying t=some (.struct fs))(hx:ρ x=some (.c (.ptr b p)))(hf:fs[f]? = some fd)
  (hn:xK P fd.type=some n) (hn0:n≠0):(execOp ra o).events P w #[] = #[]:=by
 obtain⟨r,h1,h2⟩:=ju hρ hx
 simp[execOp,ho,h2,Instr.fieldAt,xa hu,hf,Instr.sureAddr,fieldPlace,xr hn,hn0,yd]
theorem Vk{t:TypeId}{x:Operand}{f:Nat}{fs:Array Field}{fd:Field}{b off m q n:Nat}{i:Int}(hρ:Says pv e ρ ra)(E:Emb pv e H w)(ho:o.op = .fieldAddr t x f)(hu:P.underlying t=some (.struct fs))(hx:ρ x=some (.c (.pr b off i m q)))(hf:fs[f]? = some fd)
  (hn:xK P fd.type=some n) (hn0:n≠0):(execOp ra o).events P w #[] = #[]:=by
 obtain⟨r,h1,h2⟩:=YO hρ hx
 simp[execOp,ho,h2,Instr.fieldAt,xa hu,hf,Instr.sureAddr,fieldPlace,xr hn,hn0,yd]
theorem tm_conv{Gd:Nat->Prop}{s d:TypeId}{k j:IntKind}{n:Int}(hu:P.underlying d=some (.int k)):Tm P Gd (convert s d (.int j n)):=by
 unfold convert
 refine yh (xg s).tm fun a _ _ _ _=>xX (xg d).tm (xa hu) ?_
 cases a<;>exact xy _
theorem WE{Gd:Nat->Prop}(op:BinOp)(k k':IntKind)(m n:Int):Tame Gd (Op.shift op k m k' n):=by
 unfold Op.shift
 (repeat' (first|exact trivial|exact xp _|exact xk _|(refine xe ?_ fun _ =>?_)|split|dsimp only))
theorem WF{Gd:Nat->Prop}(op:BinOp)(k:IntKind)(m n:Int):Tame Gd (Op.intArith op k m n):=by
 unfold Op.intArith
 (repeat' (first|exact trivial|exact xk _|split|dsimp only))
theorem xfn{Gd:Nat->Prop}(op:BinOp)(k:IntKind)(m n:Int):Tame Gd (Op.intDiv op k m n):=by
 unfold Op.intDiv
 (repeat' (first|exact trivial|exact xp _|exact xk _|(refine xe ?_ fun _ =>?_)|split|dsimp only))
theorem VX{Gd:Nat->Prop}(op:BinOp)(k:IntKind)(m n:Int):Tame Gd (Op.intBits op k m n):=by
 unfold Op.intBits
 (repeat' (first|exact trivial|exact xk _|split|dsimp only))
theorem xfo{Gd:Nat->Prop}(op:BinOp)(m n:Int):Tame Gd (Op.intCmp op m n):=by
 unfold Op.intCmp
 (repeat' (first|exact trivial|exact xk _|split|dsimp only))
theorem ZN{Gd:Nat->Prop}{α:Type}{c:Prop}[Decidable c]{x y:Sem α}(hx:Tame Gd x)(hy:Tame Gd y):Tame Gd (if c then x else y):=by split<;>assumption
theorem xbt{Gd:Nat->Prop}(op:BinOp)(t:TypeId)(k k':IntKind)(m n:Int):Tame Gd (binOp op t (.int k m) (.int k' n)):=by
 cases op
 case shl=>exact(show Tame Gd (Op.shift .shl k m k' n)from WE _ _ _ _ _)
 case shr=>exact(show Tame Gd (Op.shift .shr k m k' n)from WE _ _ _ _ _)
 all_goals first
  | exact ZN (xC _) (WF _ _ _ _)
  | exact ZN (xC _) (xfn _ _ _ _)
  | exact ZN (xC _) (VX _ _ _ _)
  | exact ZN (xC _) (xfo _ _ _)
theorem Vl{Gd:Nat->Prop}(op:BinOp)(t:TypeId)(x y:Operand)(k k':IntKind)(m n:Int):Tame Gd (eqGuard op t x y (.int k m) (.int k' n)):=by
 unfold eqGuard
 (repeat' (first|exact trivial|exact xk _|(refine xe ?_ fun _ =>?_)|split|dsimp only))
theorem ji{Gd:Nat->Prop} : ∀ (l:List FieldStep) (t:TypeId) (x:Option Value),Tame Gd (followBlind l t x)
 | [],t,x=>trivial
 | s::l,t,x=>by
  unfold followBlind
  (repeat' (first|exact xg _|exact ji l _ _|exact ya _ _ _|exact xC _|exact xk _|(refine xe ?_ fun _ =>?_)|split|dsimp only))
theorem qS{Gd:Nat->Prop} : ∀ (n:Nat) (t:TypeId) (v:Value) (s:String),Tame Gd (nilAhead n t v s)
 | 0,t,v,s=>trivial
 | n+1,t,v,s=>by
  unfold nilAhead
  (repeat' (first|exact xw _|exact xg _|exact ji _ _ _|exact qS n _ _ _|exact xC _|exact xk _|(refine xe ?_ fun _ =>?_)|split|dsimp only))
theorem Vm{Gd:Nat->Prop}{x:Operand}(ho:o.op = .nilCheck x):Tame Gd (execOp ra o):=by
 simp only[execOp,ho]
 (repeat' (first|exact tame_program|exact qS _ _ _ _|exact xp _|exact xH _|exact xk _|(refine xe ?_ fun _ =>?_)|split|dsimp only))
/-! ### append -/
theorem src_ok{Gd:Nat->Prop}{pv:Value}{s:C}{v:Value}{b n:Nat}(hs:(∃z,s = .slr b n\/ ∃o,s = .slv b z o n)\/ ∃o c,s = .sl b o n c)(hd:den pv e s=some v)(hg:n≠0 ->∀r,e[b]? = some r->Gd r.1):XX Gd v:=by
 have zero : ∀ {r:Nat×Nat} {v:Value},jS r=some v->XX Gd v:=fun h=>by
  rcases(yS h).2 with rfl|⟨a,rfl⟩<;>exact .inl ⟨_,_,rfl⟩
 rcases hs with⟨z,rfl|⟨o,rfl⟩⟩|⟨o,c,rfl⟩
 ·simp only[den,Option.bind_eq_some_iff]at hd
  obtain⟨r,hr,hd⟩:=hd
  split at hd
  ·exact zero hd
  ·rename_i h0
   split at hd
   ·cases hd;exact .inr ⟨_,_,_,rfl,hg h0 r hr⟩
   ·cases hd
 ·simp only[den,Option.bind_eq_some_iff]at hd
  obtain⟨r,hr,hd⟩:=hd
  split at hd
  ·split at hd
   ·exact zero hd
   ·cases hd
  ·split at hd
   ·cases hd
    by_cases h0:n=0
    ·subst h0;exact .inl ⟨_,_,rfl⟩
    ·exact .inr ⟨_,_,_,rfl,hg h0 r hr⟩
   ·cases hd
 ·simp only[den,oM]at hd
  obtain⟨r,hr,rfl⟩:=hd
  by_cases h0:n=0
  ·subst h0;exact .inl ⟨_,_,rfl⟩
  ·exact .inr ⟨_,_,_,rfl,hg h0 r hr⟩
theorem xdt{Gd:Nat->Prop}{pv:Value}{v:Value}{b n:Nat}(hd:den pv e (.slr b n)=some v)(hg:n≠0 ->∀r,e[b]? = some r->Gd r.1):VW Gd v:=by
 simp only[den,Option.bind_eq_some_iff]at hd
 obtain⟨r,hr,hd⟩:=hd
 split at hd
 ·rcases(yS hd).2 with rfl|⟨a,rfl⟩<;>exact .inl ⟨_,rfl⟩
 ·rename_i h0
  split at hd
  ·cases hd;exact .inr ⟨_,_,_,rfl,hg h0 r hr⟩
  ·cases hd
theorem dst_slg{Gd:Nat->Prop}{pv:Value}{v:Value}{b n:Nat}(hd:den pv e (.slg b 0 n)=some v)(hg : ∀r,e[b]? = some r->Gd r.1):VW Gd v:=by
 simp only[den,Option.bind_eq_some_iff]at hd
 obtain⟨r,hr,hd⟩:=hd
 split at hd
 ·cases hd;exact .inr ⟨_,_,_,rfl,hg r hr⟩
 ·cases hd
theorem xex{ats:List TypeId}{vs:List V}{v:V}{H':Heap}(E:Emb pv e H w)(hF : ∀b,Own false e H b ->¬F b)(h:vY P ats vs H=some (.val true v H')){rs:List Value}(ha:allSome (denV pv e) vs=some rs) :
    ∃t el sv xv,ats = [t,t]/\P.underlying t=some (.slice el)/\rs = [sv,xv]/\VW (Good F w) sv/\XX (Good F w) xv:=by
  have two : ∀ {s x:C},vs = [.c s,.c x] ->∃sv xv,rs = [sv,xv]/\den pv e s=some sv/\den pv e x=some xv:=by
    rintro s x rfl
    simp only[allSome,denV]at ha
    split at ha
    . rename_i sv hsv
      split at ha
      . rename_i l hl
        split at hl
        . rename_i xv hxv
          cases hl;cases ha
          exact⟨sv,xv,rfl,hsv,hxv⟩
        . cases hl
      . cases ha
    . cases ha
  have tabN : ∀ {b:Nat} {k:Blk},blkAt H b=some k->k.tab=none ->∀r,e[b]? = some r->Good F w r.1:=fun hk ht r hr=>jh E hF hk hr (Blk.win_none ht) (Blk.virt_none ht) (Blk.mapped_none ht)
  have tabS : ∀ {b:Nat} {k:Blk} {tb:Tab} {m:Nat},blkAt H b=some k->k.tab=some tb->0<tb.cells.length ->∀r,e[b]? = some r->Good F w r.1:=fun {b k tb m} hk ht hl r hr=>by
   have hq:tb.isTok=false:=by cases tb<;>first|rfl|(simp[Tab.cells]at hl)
   refine Xr E hF hk hr (fun t h=>by rw[ht]at h;cases h;exact hq) fun h0 =>?_
   . rw[Blk.real_some ht hq]at h0
     rw[h0]at hl
     simp at hl
  have nilD : ∀ {sv:Value},den pv e .nils=some sv->VW (Good F w) sv:=fun h=>by simp only[den,oI]at h;exact .inl ⟨none,h.symm⟩
  have appV : ∀ {el:TypeId} {s x:C} {sv xv:Value},den pv e s=some sv->den pv e x=some xv->vA P el s x H=some (.val true v H')->VW (Good F w) sv/\XX (Good F w) xv:=by
    intro el s x sv xv hs hx h
    unfold vA at h
    split at h
    rotate_left
    . cases h
    rename_i z hsz
    split at h
    rotate_left
    . cases h
    rename_i hgr
    obtain⟨_,_,_,_,_,_,_,hz⟩:=yK hgr
    split at h
    rotate_left
    . cases h
    rename_i b ww m hvw
    split at h
    rotate_left
    . cases h
    rename_i k hk
    split at h
    rotate_left
    . cases h
    rename_i tb htb
    split at h
    rotate_left
    . cases h
    have srcv:(ww.getD 0+m)*z<=tb.cells.length->XX (Good F w) xv:=fun hle=>by
      refine src_ok (b:=b) (n:=m) (.inl ?_) hx fun hm=>tabS (m:=0) hk htb ?_
      . unfold Km at hvw
        split at hvw
        . split at hvw
          . cases hvw;exact⟨_,.inr ⟨_,rfl⟩⟩
          . cases hvw
        . cases hvw;exact⟨0,.inl rfl⟩
        . cases hvw
      . have:0<(ww.getD 0+m)*z:=Nat.mul_pos (by omega) (by omega)
        omega
    split at h
    . rename_i b2 len
      split at h
      rotate_left
      . cases h
      rename_i k2 hk2
      split at h
      rotate_left
      . cases h
      rename_i tb2 htb2
      split at h
      rotate_left
      . cases h
      split at h
      rotate_left
      . cases h
      rename_i g tn hcat
      simp only[oI,Stp.val.injEq]at h
      obtain⟨rfl,_,_⟩:=h
      obtain⟨_,_,_,hl2,_,_,hbd,_⟩:=Yk hcat
      refine⟨xdt hs fun hl=>tabS (m:=0) hk2 htb2 ?_,srcv hbd⟩
      rw[hl2]
      exact Nat.mul_pos (by omega) (by omega)
    . rename_i b2
      split at h
      rotate_left
      . cases h
      split at h
      rotate_left
      . cases h
      split at h
      rotate_left
      . cases h
      rename_i g tn hcat
      simp only[oI,Stp.val.injEq]at h
      obtain⟨rfl,_,_⟩:=h
      obtain⟨_,_,_,_,_,_,hbd,_⟩:=Yk hcat
      refine⟨?_,srcv hbd⟩
      simp only[den,oM]at hs
      obtain⟨r,_,rfl⟩:=hs
      exact .inl ⟨_,rfl⟩
    . cases h
  unfold vY at h
  split at h
  . rename_i t u s b m
    split at h
    . rename_i hc
      subst hc
      split at h
      . rename_i el hu
        obtain⟨sv,xv,g1,g2,g3⟩:=two rfl
        obtain⟨g4,g5⟩:=appV g2 g3 h
        exact⟨t,el,sv,xv,rfl,hu,g1,g4,g5⟩
      . cases h
    . cases h
  . rename_i t u s b z q m
    split at h
    . rename_i hc
      subst hc
      split at h
      . rename_i el hu
        obtain⟨sv,xv,g1,g2,g3⟩:=two rfl
        obtain⟨g4,g5⟩:=appV g2 g3 h
        exact⟨t,el,sv,xv,rfl,hu,g1,g4,g5⟩
      . cases h
    . cases h
  . rename_i t u b2 len b q n c
    split at h
    . rename_i hc
      obtain⟨rfl,rfl⟩:=hc
      split at h
      . rename_i el hu
        split at h
        . rename_i k hk
          obtain⟨sv,xv,g1,g2,g3⟩:=two rfl
          unfold kh at h
          split at h
          rotate_left
          . cases h
          rename_i z hsz
          split at h
          rotate_left
          . cases h
          rename_i hgr
          obtain⟨_,_,_,_,_,_,_,hz⟩:=yK hgr
          split at h
          rotate_left
          . cases h
          rename_i xs hxs
          have hsrc:XX (Good F w) xv:=src_ok (b:=b) (n:=1) (.inr ⟨_,_,rfl⟩) g3 fun _=>tabN hk (qy (by omega) hxs)
          split at h
          rotate_left
          . cases h
          simp only at h
          split at h
          rotate_left
          . cases h
          rename_i k2 hk2
          refine⟨t,el,sv,xv,rfl,hu,g1,xdt g2 fun hl r hr =>?_,hsrc⟩
          split at h
          . rename_i sh2 l htb2
            split at h
            . rename_i hc2
              obtain⟨_,hg2,_⟩:=hc2
              simp only[oI,Stp.val.injEq,Bool.and_eq_true]at h
              have hll:=Nat.eq_of_beq_eq_true h.1.1
              have hv:k2.virt=false:=by
                rw[qz htb2 hg2]
                cases l with
                | nil=>simp at hll;omega
                | cons a l=>rfl
              exact jh E hF hk2 hr (by unfold Blk.win;rw[htb2]) hv (by unfold Blk.mapped;rw[htb2])
            . cases h
          . rename_i kd l htb2
            split at h
            . rename_i hc2
              obtain⟨_,hg2,_⟩:=hc2
              simp only[oI,Stp.val.injEq,Bool.and_eq_true]at h
              have hll:=Nat.eq_of_beq_eq_true h.1.1
              have hv:k2.virt=false:=by
                unfold Blk.virt
                rw[htb2,hg2]
                cases l with
                | nil=>simp at hll;omega
                | cons a l=>rfl
              exact jh E hF hk2 hr (by unfold Blk.win;rw[htb2]) hv (by unfold Blk.mapped;rw[htb2])
            . cases h
          . cases h
        . cases h
      . cases h
    . cases h
  . rename_i t u s b q n c hno
    split at h
    . rename_i hc
      obtain⟨rfl,hn0,hn1⟩:=hc
      split at h
      . rename_i el hu
        obtain⟨sv,xv,g1,g2,g3⟩:=two rfl
        split at h
        . split at h
          rotate_left
          . cases h
          rename_i k hk
          split at h
          rotate_left
          . cases h
          rename_i xs hxs
          have hsrc:XX (Good F w) xv:=src_ok (b:=b) (n:=n) (.inr ⟨_,_,rfl⟩) g3 fun _=>tabN hk (qy hn0 hxs)
          split at h
          . exact⟨t,el,sv,xv,rfl,hu,g1,nilD g2,hsrc⟩
          . split at h
            . rename_i k2 hk2
              split at h
              . rename_i hc2
                exact⟨t,el,sv,xv,rfl,hu,g1,dst_slg g2 (tabN hk2 (by simpa using hc2.1)),hsrc⟩
              . cases h
            . cases h
          . cases h
        . unfold ki at h
          split at h
          rotate_left
          . cases h
          split at h
          rotate_left
          . cases h
          split at h
          rotate_left
          . cases h
          rename_i k hk
          split at h
          rotate_left
          . cases h
          rename_i z hsz
          split at h
          rotate_left
          . cases h
          rename_i hgr
          obtain⟨_,_,_,_,_,_,_,hz⟩:=yK hgr
          split at h
          rotate_left
          . cases h
          rename_i xs hxs
          exact⟨t,el,sv,xv,rfl,hu,g1,nilD g2,src_ok (b:=b) (n:=n) (.inr ⟨_,_,rfl⟩) g3 fun _=>tabN hk (qy (by omega) hxs)⟩
      . cases h
    . cases h
  . cases h
theorem tm_v{Gd:Nat->Prop}{s:Sem Value}(h:Tm P Gd s):Tm P Gd (do pure (Next.value (<- s)):Sem Next):=yh h fun _ _ _ _ _=>xy _
theorem tm_u{Gd:Nat->Prop}{s:Sem Unit}(h:Tm P Gd s):Tm P Gd (do s;pure Next.skip:Sem Next):=yh h fun _ _ _ _ _=>xy _
theorem xcw{Gd:Nat->Prop}(op:UnOp)(v:Value):Tame Gd (Op.unary op v):=by
 unfold Op.unary
 split<;>first|exact WF _ _ _ _|exact VX _ _ _ _|trivial
theorem ZO{pv:Value}{b o n:Nat}{v:Value}(h:den pv e (.slg b o n)=some v) : ∃a n c,v = .slice (some a) n c:=by
 simp only[den,Option.bind_eq_some_iff]at h
 obtain⟨r,hr,h⟩:=h
 split at h
 ·cases h;exact⟨_,_,_,rfl⟩
 ·cases h
theorem xbu{pv:Value}{b n:Nat}{v:Value}(hn : ¬n=0)(h:den pv e (.slr b n)=some v) : ∃a m c,v = .slice (some a) m c:=by
 simp only[den,Option.bind_eq_some_iff,if_neg hn]at h
 obtain⟨r,hr,h⟩:=h
 split at h
 ·cases h;exact⟨_,_,_,rfl⟩
 ·cases h
theorem xfp{Gd:Nat->Prop}{pv:Value}{d:TypeDesc}{q:Bool}{a b:C}{r:Bool}{x y:Value}{t:TypeId}(hu:P.underlying t=some d)(hpi : ∃t u,pv = .iface t u)(ha:den pv e a=some x)(hb:den pv e b=some y)(h:eqC d q a b=some r)(n:Nat):Tm P Gd (Op.equalIn (n+1) t x y):=by
  obtain⟨pt,pu,rfl⟩:=hpi
  unfold eqC at h
  (repeat' (split at h))<;>first
    | (cases h;done)
    | ((try obtain⟨_,_,_,rfl⟩:=ZO ha)<;>(try obtain⟨_,_,_,rfl⟩:=ZO hb)
       (try obtain⟨_,_,_,rfl⟩:=xbu (by assumption) ha)<;>(try obtain⟨_,_,_,rfl⟩:=xbu (by assumption) hb)
       (try simp only[den,oI,oM]at ha)<;>(try simp only[den,oI,oM]at hb)
       (try obtain⟨_,_,rfl⟩:=ha)<;>(try obtain⟨_,_,rfl⟩:=hb)<;>(try subst ha)<;>(try subst hb)
       simp only[Op.equalIn]
       refine xX (xg t).tm (xa hu) ?_
       first
         | exact(show Tm P Gd (pure false)from xy _)
         | exact(show Tm P Gd (pure true)from xy _)
         | (dsimp only;exact xy _))
theorem Xs{Gd:Nat->Prop}{pv:Value}{rec:TypeId->V->V->Option Bool}{m:Nat}(IH : ∀t x y r rx ry,rec t x y=some r->denV pv e x=some rx->denV pv e y=some ry->Tm P Gd (Op.equalIn m t rx ry)/\ ∀w,(Op.equalIn m t rx ry).run P w = .ok r w){xs ys:List C}{vx vy:List Value}(hx:denL pv e xs=some vx)(hy:denL pv e ys=some vy) :
  ∀ (fs:List Field) (r:Bool),XD rec P fs xs ys=some r->Tm P Gd (forIn fs ((none,()):Option Bool×Unit) fun f __s=>if f.name ≠ "_" then do
         let __do_lift <- part f.type vx.toArray f.offset
         let __do_lift_1 <- part f.type vy.toArray f.offset
         let __do_lift <- Op.equalIn m f.type __do_lift __do_lift_1
         if(!__do_lift)=true then pure (ForInStep.done (some false,()))
          else pure (ForInStep.yield (none,()))
        else pure (ForInStep.yield (none,())))
 | [],r,h=>by rw[List.forIn_nil];exact xy _
 | f::fs,r,h=>by
  rw[List.forIn_cons]
  simp only[XD]at h
  by_cases hn:f.name = "_"
  ·rw[if_pos hn]at h
   simp only[hn,ne_eq,not_true_eq_false,if_false]
   exact xX (xy _) (fun _=>rfl) (Xs IH hx hy fs r h)
  ·rw[if_neg hn]at h
   split at h
   ·rename_i a b ha hb
    split at h
    ·rename_i p q hp hq
     cases h
     simp only[ne_eq,hn,not_false_eq_true,if_true]
     refine yh (yh (ya _ _ _).tm fun ra w1 w1' _ h1=>yh (ya _ _ _).tm fun rb w2 w2' _ h2 =>?_) fun st w3 w3' _ hst =>?_
     ·obtain⟨ra',h3,h4⟩:=wI (w:=w1) hx ha
      obtain⟨rb',h5,h6⟩:=wI (w:=w2) hy hb
      rw[h3]at h1
      rw[h5]at h2
      cases h1;cases h2
      obtain⟨h7,h8⟩:=IH _ _ _ _ _ _ hp h4 h6
      refine yh h7 fun z _ _ _ _ =>?_
      split<;>exact xy _
     ·cases st with
      | done b=>exact xy _
      | yield b=>
       obtain⟨ra',h3,h4⟩:=wI (w:=w3) hx ha
       obtain⟨rb',h5,h6⟩:=wI (w:=w3) hy hb
       obtain⟨h7,h8⟩:=IH _ _ _ _ _ _ hp h4 h6
       simp only[Sem.run_bind,h3,h5,h8,Result.andThen_ok]at hst
       cases p
       ·simp at hst
       ·simp at hst
        obtain⟨rfl,_⟩:=hst
        exact Xs IH hx hy fs q (by simpa using hq)
    ·cases h
   ·cases h
theorem xcx{Gd:Nat->Prop}{pv:Value} : ∀ (d:Nat) (t:TypeId) (x y:V) (r:Bool) (rx ry:Value),eqF P d t x y=some r->denV pv e x=some rx->denV pv e y=some ry ->∀n,Tm P Gd (Op.equalIn (n+d) t rx ry)
 | 0,t,x,y,r,rx,ry,h,_,_,_=>by simp[eqF]at h
 | d+1,t,x,y,r,rx,ry,h,hx,hy,n=>by
  have h':=h
  unfold eqF at h
  split at h
  ·rename_i a b hu
   cases h
   simp only[denV,den,oI]at hx hy
   subst hx hy
   rw[show n+(d+1)=(n+d)+1 from rfl]
   simp only[Op.equalIn]
   refine xX (xg t).tm (xa hu) ?_
   dsimp only
   exact xy _
  ·rename_i k0 k a k' b hu
   simp only[denV,den,oI]at hx hy
   subst hx hy
   exact(WA _ _ _ _ _).tm
  ·rename_i fs xs ys hu
   split at h
   ·cases h
   ·rename_i hs
    simp only[denV,oM]at hx hy
    obtain⟨vx,h1,rfl⟩:=hx
    obtain⟨vy,h2,rfl⟩:=hy
    have hf:P.fieldsOf t=fs:=by simp only[Program.fieldsOf,hu]
    rw[show n+(d+1)=(n+d)+1 from rfl]
    simp only[Op.equalIn]
    refine xX (xg t).tm (xa hu) ?_
    dsimp only
    refine xX (a:=P) tame_program.tm (fun w=>rfl) ?_
    rw[if_neg (by simpa using hs)]
    refine yh ?_ fun st _ _ _ _=>by split<;>exact xy _
    rw[<- Array.forIn_toList]
    exact Xs (pv:=pv) (fun t x y r rx ry h hx hy=>⟨xcx d t x y r rx ry h hx hy n,fun w=>Yj (w:=w) d t x y r rx ry h hx hy n⟩) h1 h2 fs.toList r h
  ·cases h
theorem Zk{Gd:Nat->Prop}{α β:Type}(f:α->β->Sem (ForInStep β))(hf : ∀a b,Tame Gd (f a b)) : ∀ (l:List α) (b:β),Tame Gd (forIn l b f)
 | [],b=>by rw[List.forIn_nil];exact xk _
 | a::l,b=>by
  rw[List.forIn_cons]
  refine xe (hf a b) fun st =>?_
  cases st with
  | done b=>exact xk _
  | yield b=>exact Zk f hf l b
theorem jE{Gd:Nat->Prop} : ∀ (n:Nat) (t:TypeId) (x y:Value),Tame Gd (Op.eqGuardIn n t x y)
 | 0,t,x,y=>xH _
 | n+1,t,x,y=>by
  unfold Op.eqGuardIn
  refine xe (xg t) fun d =>?_
  split
  ·exact xk _
  ·refine xe ?_ fun st=>by dsimp only;split<;>exact xk _
   rw[<- Array.forIn_toList]
   refine Zk _ (fun a b =>?_) _ _
   (repeat' (first|exact ya _ _ _|exact jE n _ _ _|exact xk _|(refine xe ?_ fun _ =>?_)|split|dsimp only))
  ·refine xe (xD _) fun sz=>xe ?_ fun st=>by dsimp only;split<;>exact xk _
   rw[Std.Legacy.Range.forIn_eq_forIn_range']
   refine Zk _ (fun a b =>?_) _ _
   (repeat' (first|exact ya _ _ _|exact jE n _ _ _|exact xk _|(refine xe ?_ fun _ =>?_)|split|dsimp only))
  ·exact xk _
theorem ZP{Gd:Nat->Prop}(op:BinOp)(t:TypeId)(x y:Operand)(a b:Value):Tame Gd (eqGuard op t x y a b):=by
 unfold eqGuard
 (repeat' (first|exact tame_program|exact jE _ _ _ _|exact xH _|exact xk _|(refine xe ?_ fun _ =>?_)|split|dsimp only))
theorem off_val(I:PortB P){v:V}{H':Heap}(hρ:Says I.pv e ρ ra)(E:Emb I.pv e H w)(h:evStep P o.op ρ H=some (.val true v H'))(hF : ∀b,Own false e H b ->¬F b) : ∀ev∈(execOp ra o).events P w #[],EvOff F w.heap.size ev:=by
 have hpi:=I.ex
 have fin:Tm P (Good F w) (execOp ra o) ->∀ev∈(execOp ra o).events P w #[],EvOff F w.heap.size ev:=fun h=>h.off (xfm F w) fun b h=>h.1
 have none':(execOp ra o).events P w #[] = #[] ->∀ev∈(execOp ra o).events P w #[],EvOff F w.heap.size ev:=fun h ev he=>by rw[h]at he;simp at he
 generalize ho:o.op=op at h
 unfold evStep at h
 split at h
 case h_1 x=>exact fin (by simp only[execOp,ho];exact xy _)
 case h_2 x=>exact fin (by simp only[execOp,ho];exact xy _)
 case h_3 c a b=>exact fin (by simp only[execOp,ho];exact yh (xT _).tm fun _ _ _ _ _=>xy _)
 case h_4 t=>exact fin (by simp only[execOp,ho];exact tm_v (xcr _).tm)
 case h_5 t x=>exact fin (by simp only[execOp,ho];exact tm_v (xfl _ _).tm)
 case h_6 t parts=>exact fin (by simp only[execOp,ho];exact tm_v (xcs _ _).tm)
 case h_7 t len parts=>exact fin (by simp only[execOp,ho];exact tm_v (Yd _ _ _).tm)
 case h_8 t a=>
  split at h
  ·rename_i b q ha
   split at h
   ·rename_i k hk
    rw[oM]at h;obtain⟨⟨g,r⟩,h1,h2⟩:=h
    simp only[Stp.val.injEq]at h2
    obtain⟨rfl,rfl,rfl⟩:=h2
    obtain⟨r',hr,hra⟩:=ju hρ ha
    refine fin ?_
    simp only[execOp,ho,hra]
    exact tm_v (xX (a:=⟨r'.1,q,none⟩) (xx _).tm (fun _=>rfl) (jD (xaJ (E.ok b k hk) h1) fun hc=>Xr E hF hk hr (VA h1) hc))
   ·cases h
  ·rename_i b off i n f ha
   split at h
   ·rename_i k hk
    rw[oM]at h;obtain⟨⟨g,r⟩,h1,h2⟩:=h
    simp only[Stp.val.injEq]at h2
    obtain⟨rfl,rfl,rfl⟩:=h2
    obtain⟨r',hr,hra⟩:=YO hρ ha
    refine fin ?_
    simp only[execOp,ho,hra]
    exact tm_v (xX (a:=⟨r'.1,off+(i.toNat*n+f),none⟩) (xx _).tm (fun _=>rfl) (jD (xaI h1).2 fun hc=>Xr E hF hk hr (Xf h1) hc))
   ·cases h
  ·cases h
 case h_9 t a x=>
  split at h
  ·rename_i b q v' ha hx
   split at h
   ·rename_i k xs n hk hxs hn
    split at h
    ·rename_i hl
     split at h
     ·rename_i g kn hcs
      simp only[oI,Stp.val.injEq]at h
      obtain⟨rfl,rfl,rfl⟩:=h
      obtain⟨r',hr,hra⟩:=ju hρ ha
      refine fin ?_
      simp only[execOp,ho,hra]
      exact tm_u (xX (a:=⟨r'.1,q,none⟩) (xx _).tm (fun _=>rfl) (qR _ (jh E hF hk hr (Zd hcs).1 (jU hcs).1 (vG hcs).1) _).tm)
     ·cases h
    ·cases h
   ·cases h
  ·rename_i b off i m f v' ha hx
   split at h
   ·rename_i k xs n hk hxs hn
    split at h
    ·rename_i hl
     split at h
     ·rename_i g kn hcs
      simp only[oI,Stp.val.injEq]at h
      obtain⟨rfl,rfl,rfl⟩:=h
      obtain⟨r',hr,hra⟩:=YO hρ ha
      refine fin ?_
      simp only[execOp,ho,hra]
      exact tm_u (xX (a:=⟨r'.1,off+(i.toNat*m+f),none⟩) (xx _).tm (fun _=>rfl) (qR _ (jh E hF hk hr (Zd hcs).1 (jU hcs).1 (vG hcs).1) _).tm)
     ·cases h
    ·cases h
   ·cases h
  ·cases h
 case h_10 x=>exact fin (Vm ho).tm
 case h_11 op t x y u=>
  split at h
  ·rename_i a b ha hb
   rw[oM]at h;obtain⟨⟨g,r⟩,h1,h2⟩:=h
   simp only[Stp.val.injEq]at h2
   obtain⟨rfl,rfl,rfl⟩:=h2
   have hda:=xdh hρ ha
   have hdb:=xdh hρ hb
   refine fin ?_
   simp only[execOp,ho]
   unfold xc8 at h1
   split at h1
   ·rename_i k m k' n
    simp only[den,oI]at hda hdb
    rw[<- hda,<- hdb]
    exact tm_v (yh (Vl _ _ _ _ _ _ _ _).tm fun _ _ _ _ _=>(xbt _ _ _ _ _ _).tm)
   ·rename_i a b hne
    suffices bin:Tm P (Good F w) (binOp op t (ra x) (ra y))from tm_v (yh (ZP _ _ _ _ _ _).tm fun _ _ _ _ _=>bin)
    split at h1
    ·rename_i d hu
     rw[oM]at h1
     obtain⟨r',h1,h2⟩:=h1
     have hb:=Yi (P:=P) (w:=w) hu hpi hda hdb h1
     rw[hb.2.2.1]
     exact yh (xfp hu hpi hda hdb h1 9999) fun _ _ _ _ _=>xy _
    ·rename_i d hu
     rw[oM]at h1
     obtain⟨r',h1,h2⟩:=h1
     have hb:=Yi (P:=P) (w:=w) hu hpi hda hdb h1
     rw[hb.2.2.2]
     exact yh (xfp hu hpi hda hdb h1 9999) fun _ _ _ _ _=>xy _
    ·cases h1
  ·rename_i l m ha hb
   rw[oM]at h;obtain⟨r,h1,h2⟩:=h;cases h2
   have hda:=hρ x _ ha
   have hdb:=hρ y _ hb
   simp only[denV,oM]at hda hdb
   obtain⟨vx,g1,g2⟩:=hda
   obtain⟨vy,g3,g4⟩:=hdb
   refine fin ?_
   simp only[execOp,ho]
   suffices bin:Tm P (Good F w) (binOp op t (ra x) (ra y))from tm_v (yh (ZP _ _ _ _ _ _).tm fun _ _ _ _ _=>bin)
   unfold Kl at h1
   split at h1
   ·cases h1
   ·split at h1
    ·rename_i q hq
     have key:=xcx (P:=P) (Gd:=Good F w) (pv:=I.pv) (e:=e) 10 t _ _ q (ra x) (ra y) hq (by simp only[denV,g1,Option.map_some,g2]) (by simp only[denV,g3,Option.map_some,g4]) 9990
     rw[<- g2,<- g4]at key |-
     exact yh key fun _ _ _ _ _=>xy _
    ·rename_i q hq
     have key:=xcx (P:=P) (Gd:=Good F w) (pv:=I.pv) (e:=e) 10 t _ _ q (ra x) (ra y) hq (by simp only[denV,g1,Option.map_some,g2]) (by simp only[denV,g3,Option.map_some,g4]) 9990
     rw[<- g2,<- g4]at key |-
     exact yh key fun _ _ _ _ _=>xy _
    ·cases h1
  ·cases h
 case h_12 op t x=>exact fin (by simp only[execOp,ho];exact tm_v (xcw _ _).tm)
 case h_13 s d x=>
  split at h
  ·rename_i k n t j hx hs hd
   refine fin ?_
   simp only[execOp,ho,yN hρ hx]
   exact tm_v (tm_conv hd)
  ·cases h
 case h_14 f first captured=>exact fin (by simp only[execOp,ho];exact tm_v (xy _))
 case h_15 f first captured=>exact fin (by simp only[execOp,ho];exact tm_v (xy _))
 case h_16 t x lo hi=>exact fin (by simp only[execOp,ho];exact tm_v (ZL _ _ _ _ _).tm)
 case h_17 t x f=>
  split at h
  ·rename_i fs b q hu hx
   split at h
   ·rename_i fd hfd
    split at h
    ·rename_i n hn
     split at h
     ·cases h
     ·rename_i hn0
      exact none' (xab hρ E ho hu hx hfd hn hn0)
    ·cases h
   ·cases h
  ·rename_i fs b off i m q hu hx
   split at h
   ·rename_i fd hfd
    split at h
    ·rename_i n hn
     split at h
     ·cases h
     ·rename_i hn0
      exact none' (Vk hρ E ho hu hx hfd hn hn0)
    ·cases h
   ·cases h
  ·cases h
 case h_18 t x f=>exact fin (by simp only[execOp,ho];exact tm_v (xct _ _ _).tm)
 case h_19 t x ix=>exact fin (by simp only[execOp,ho];exact tm_v (KW _ _ _).tm)
 case h_20 t x ix=>exact fin (by simp only[execOp,ho];exact tm_v (xcu _ _ _).tm)
 case h_21 t ix=>exact fin (by simp only[execOp,ho];exact tm_v (KY _ _).tm)
 case h_23 t l c=>exact fin (by simp only[execOp,ho];exact tm_v (Wy _ _ _).tm)
 case h_24 t=>exact fin (by simp only[execOp,ho];exact tm_v (KZ _).tm)
 case h_27 t x=>exact fin (by simp only[execOp,ho];exact tm_v (Zj _ _).tm)
 case h_28 t x=>exact fin (by simp only[execOp,ho];exact tm_v (KX _ _).tm)
 case h_29 t x lo hi mx=>exact fin (by simp only[execOp,ho];exact tm_v (ZL _ _ _ _ _).tm)
 case h_30=>cases h
 case h_22 c=>
  split at h
  ·rename_i args hargs
   have ha:=vq hρ _ _ hargs
   have hra:c.args.map ra=(c.args.toList.map ra).toArray:=by rw[<- Array.toList_map]
   split at h
   ·rename_i b hb
    refine fin ?_
    simp only[execOp,ho,resolve,hb]
    refine xX (a :={target :=.builtin b c.argTypes o.type (c.args.map fun | .const _=>true|_=>false),args:=c.args.map ra}) (xy _) (fun _=>rfl) ?_
    simp only[invoke,builtin]
    split at h
    ·obtain⟨t,el,sv,xv,h1,h2,h3,h4,h5⟩:=xex E hF h ha
     have hats:c.argTypes = #[t,t]:=by rw[<- Array.toArray_toList (xs:=c.argTypes),h1]
     have hrs:c.args.map ra = #[sv,xv]:=by rw[hra,h3]
     rw[hats,hrs]
     exact tm_v (xew h2 h4 h5)
    ·unfold wF at h
     split at h
     rotate_left
     ·cases h
     rename_i t kt b z hts
     split at h
     rotate_left
     ·cases h
     rename_i k kt0 g0 sh0 r0 hk ht
     split at h
     rotate_left
     ·cases h
     rename_i g sh l hmp
     split at h
     rotate_left
     ·cases h
     obtain⟨r,cs,hr,hd,hl⟩:=E.lies b k hk
     obtain⟨el,zv,hu,hkt,hz,_⟩:=qA ht
     simp only[allSome,denV,den,hr,Option.map_some,oI]at ha
     have hats:c.argTypes = #[t,kt]:=by rw[<- Array.toArray_toList (xs:=c.argTypes),hts]
     rw[hats,hra,<- ha]
     exact tm_v (xbs (WD E hF hk hr hmp hkt) _ _ _ _ _).tm
    ·rename_i bi hn1 hn2
     unfold yp at h
     split at h
     ·rename_i t x h1
      have hats:c.argTypes = #[t]:=by rw[<- Array.toArray_toList (xs:=c.argTypes),h1]
      simp only[allSome]at ha
      split at ha
      rotate_left
      ·cases ha
      rename_i rv hrv
      simp only[oI]at ha
      have hrs:c.args.map ra = #[rv]:=by rw[hra,<- ha]
      simp only
      rw[hats,hrs]
      refine tm_v ?_
      have lenS : ∀ {el:TypeId} {b:Option Addr} {n c:Nat},P.underlying t=some (.slice el)->rv = .slice b n c->Tm P (Good F w) (Builtin.len_ #[t] o.type #[rv]):=by
       rintro el b n c hu rfl
       unfold Builtin.len_
       simp only[List.getElem?_toArray,List.getElem?_cons_zero]
       refine xX (xg t).tm (xa hu) ?_
       exact(show Tm P (Good F w) (pure (goInt n))from xy _)
      have slv : ∀ {x:C} {b n:Nat},(x = .slg b n n\/ ∃q,x = .slg b q n\/x = .slr b n\/ ∃z c,x = .slw b q z n c\/x = .sl b q n c)->den I.pv e x=some rv ->∃b n c,rv = .slice b n c:=by
       intro x b n hx hd
       rcases hx with rfl|⟨q,rfl|rfl|⟨z,c,rfl|rfl⟩⟩
       ·obtain⟨a,n,c,rfl⟩:=ZO hd;exact⟨_,_,_,rfl⟩
       ·obtain⟨a,n,c,rfl⟩:=ZO hd;exact⟨_,_,_,rfl⟩
       ·simp only[den,Option.bind_eq_some_iff]at hd
        obtain⟨r,_,hd⟩:=hd
        split at hd
        ·rcases(yS hd).2 with rfl|⟨a,rfl⟩<;>exact⟨_,_,_,rfl⟩
        ·split at hd
         ·cases hd;exact⟨_,_,_,rfl⟩
         ·cases hd
       ·simp only[den,oM]at hd
        obtain⟨_,_,rfl⟩:=hd;exact⟨_,_,_,rfl⟩
       ·simp only[den,oM]at hd
        obtain⟨_,_,rfl⟩:=hd;exact⟨_,_,_,rfl⟩
      split at h
      ·rename_i hu
       simp only[denV,den,oI]at hrv
       exact lenS hu hrv.symm
      ·rename_i hu
       obtain⟨_,_,_,h2⟩:=slv (.inr ⟨_,.inr (.inr ⟨none,_,.inr rfl⟩)⟩) hrv
       exact lenS hu h2
      ·rename_i hu
       obtain⟨_,_,_,h2⟩:=slv (.inr ⟨_,.inl rfl⟩) hrv
       exact lenS hu h2
      ·rename_i hu
       obtain⟨_,_,_,h2⟩:=slv (.inr ⟨_,.inr (.inr ⟨_,_,.inl rfl⟩)⟩) hrv
       exact lenS hu h2
      ·rename_i hu
       obtain⟨_,_,_,h2⟩:=slv (.inr ⟨0,.inr (.inl rfl)⟩) hrv
       exact lenS hu h2
      ·rename_i hu
       simp only[denV]at hrv
       obtain⟨_,_,h2⟩:=XL hrv
       exact lenS hu h2
      ·rename_i hu
       simp only[denV]at hrv
       obtain⟨_,_,h2⟩:=XK hrv
       exact lenS hu h2
      ·rename_i hu
       unfold Builtin.len_
       simp only[List.getElem?_toArray,List.getElem?_cons_zero]
       refine xX (xg t).tm (xa hu) ?_
       dsimp only
       exact xy _
      ·cases h
     ·rename_i k x k' y
      simp only[allSome,denV,den,oI]at ha
      rw[hra,<- ha]
      exact tm_v (by simp only[Builtin.min_,List.foldlM_cons,List.foldlM_nil,Builtin.min2];exact yh (xy _) fun _ _ _ _ _=>xy _)
     ·rename_i k x k' y
      simp only[allSome,denV,den,oI]at ha
      rw[hra,<- ha]
      exact tm_v (by simp only[Builtin.max_,List.foldlM_cons,List.foldlM_nil,Builtin.max2];exact yh (xy _) fun _ _ _ _ _=>xy _)
     ·cases h
   ·split at h
    ·rw[oM]at h;obtain⟨v',h1,h2⟩:=h;cases h2
    ·rw[oM]at h;obtain⟨v',h1,h2⟩:=h;cases h2
    ·cases h
   ·split at h
    ·cases h
    ·rw[oM]at h;obtain⟨v',h1,h2⟩:=h;cases h2
    ·cases h
  ·cases h
 case h_25 t m x ok=>
  unfold yO at h
  split at h
  rotate_left
  ·cases h
  rename_i b z hm hx
  split at h
  rotate_left
  ·cases h
  rename_i k kt g0 sh0 r0 hk ht
  split at h
  rotate_left
  ·cases h
  rename_i g sh l hmp
  obtain⟨r,hr,hrm,hM⟩:=KL hρ E hm hk hmp
  obtain⟨el,zv,hu,hkt,hz,hrow⟩:=qA ht
  refine fin ?_
  simp only[execOp,ho,hrm,yN hρ hx]
  exact tm_v (xbr (WD E hF hk hr hmp hkt) _ _ _ _).tm
 case h_26 t m x y=>
  unfold wE at h
  split at h
  rotate_left
  ·cases h
  rename_i b z u hm hx hy
  split at h
  rotate_left
  ·cases h
  rename_i k kt g0 sh0 r0 g1 sh1 row hk ht hrow
  split at h
  rotate_left
  ·cases h
  rename_i g sh l hmp
  obtain⟨r,hr,hrm,hM⟩:=KL hρ E hm hk hmp
  obtain⟨el,zv,hu,hkt,hz,_⟩:=qA ht
  refine fin ?_
  simp only[execOp,ho,hrm,yN hρ hx]
  exact tm_u (WB (WD E hF hk hr hmp hkt) _ _ _ _).tm
theorem xbv {t:TypeId} {name:String} {f:FuncId} {fn:Func} {c:Code} (h:qN P t name=some f) (v:Value) (args:Array Value) (w:World) (hf1:P.funcs[f]? = some fn) (hf2:(fn.name == "runtime.NumGoroutine")=false) (hf3:fn.body=some c):(callMethod (.iface t v) name args).events P w #[] = #[]:=by
 unfold qN at h
 split at h
 ·rename_i i hi
  split at h
  ·rename_i m hm
   split at h
   ·rename_i f' el hp hf hu
    cases h
    show((do let p <- program;let q <- method (p.types.size+(Made.depth-1)+1) t v name;callFunc q.1 (#[q.2]++args):Sem Next)).events P w #[]=_
    simp[method,typeInfo,hi,hm,hp,hf,follow,receiverAt,Place.get,underlying,hu,callFunc,hf1,hf2,hf3,show program.run P w = .ok P w from rfl]
   ·cases h
  ·cases h
 ·cases h
theorem xfq(I:PortB P){f:FuncId}{args:List V}(hρ:Says I.pv e ρ ra)(h:evStep P o.op ρ H=some (.call f args))
  (hb : ∃fn c,P.funcs[f]? = some fn/\(fn.name == "runtime.NumGoroutine")=false/\fn.body=some c) :
  (execOp ra o).events P w #[] = #[]:=by
 generalize ho:o.op=op at h
 obtain⟨fn,c,hf1,hf2,hf3⟩:=hb
 unfold evStep at h
 split at h
 case h_22 c=>
  split at h
  ·rename_i vs hvs
   split at h
   ·rename_i b hb
    exfalso
    split at h
    ·obtain⟨_,_,_,h2⟩:=wW h;cases h2
    ·unfold wF at h;(repeat' (split at h))<;>cases h
    ·unfold yp at h
     split at h
     ·split at h<;>cases h
     ·cases h
     ·cases h
     ·cases h
   ·rename_i r name hg
    split at h
    ·rw[oM]at h;obtain⟨_,_,h2⟩:=h;cases h2
    ·rename_i t x hr
     rw[oM]at h;obtain⟨q,h2,h3⟩:=h;cases h3
     have h4:=hρ r _ hr
     simp only[denV,den,oM]at h4
     obtain⟨rx,h5,h6⟩:=h4
     have h0:(c.args.map ra)=(c.args.toList.map ra).toArray:=by rw[<- Array.toList_map]
     simp only[execOp,ho,resolve,hg,<- h6,Bind.bind,Sem.bind,Pure.pure,invoke]
     simp only[h0,List.append_toArray,List.singleton_append,List.getElem?_toArray,List.getElem?_cons_zero,List.extract_toArray,List.size_toArray,List.length_cons,List.extract_eq_take_drop,List.drop_succ_cons,List.drop_zero]
     rw[List.take_of_length_le (by simp)]
     exact xbv h2 _ _ w hf1 hf2 hf3
    ·cases h
   ·rename_i g hg
    split at h
    ·rename_i f' caps hcap
     cases h
     have h1:=vq hρ _ _ hvs
     have h2:=hρ g _ hcap
     simp only[denV,den,oM]at h2
     obtain⟨rs,h3,h4⟩:=h2
     simp[execOp,ho,resolve,hg,<- h4,Deferred.ofValue,invoke,callFunc,hf1,hf2,hf3,show program.run P w = .ok P w from rfl]
    ·rw[oM]at h;obtain⟨_,_,h2⟩:=h;cases h2
    ·cases h
  ·cases h
 all_goals
  exfalso
  (try unfold yO at h);(try unfold wE at h);(repeat' (split at h))<;>first
   | cases h
   | (rw[oM]at h;obtain⟨_,_,h2⟩:=h;cases h2)
theorem xfr(I:PortB P){p:POp}(hρ:Says I.pv e ρ ra)(h:evStep P o.op ρ H=some (.port p)) :
  ∃name args vs,popOf name args=some p/\allSome (denV I.pv []) args=some vs/\execOp ra o=callMethod I.pv name vs.toArray:=by
 generalize ho:o.op=op at h
 unfold evStep at h
 split at h
 case h_22 c=>
  split at h
  ·rename_i vs hvs
   have h1:=vq hρ _ _ hvs
   have h0:(c.args.map ra)=(c.args.toList.map ra).toArray:=by rw[<- Array.toList_map]
   split at h
   ·rename_i b hb
    exfalso
    split at h
    ·obtain⟨_,_,_,h2⟩:=wW h;cases h2
    ·unfold wF at h;(repeat' (split at h))<;>cases h
    ·unfold yp at h
     split at h
     ·split at h<;>cases h
     ·cases h
     ·cases h
     ·cases h
   ·rename_i r name hg
    split at h
    ·rename_i hr
     rw[oM]at h;obtain⟨q,h2,h3⟩:=h;cases h3
     have h4:=hρ r _ hr
     simp only[denV,den,oI]at h4
     refine⟨name,vs,_,h2,ZB h2 h1,?_⟩
     simp only[execOp,ho,resolve,hg,<- h4,Bind.bind,Sem.bind,Pure.pure,invoke]
     simp only[h0,List.append_toArray,List.singleton_append,List.getElem?_toArray,List.getElem?_cons_zero,List.extract_toArray,List.size_toArray,List.length_cons,List.extract_eq_take_drop,List.drop_succ_cons,List.drop_zero]
     rw[List.take_of_length_le (by simp)]
    ·rw[oM]at h;obtain⟨_,_,h2⟩:=h;cases h2
    ·cases h
   ·rename_i g hg
    split at h
    ·cases h
    ·rename_i name hr
     rw[oM]at h;obtain⟨q,h2,h3⟩:=h;cases h3
     have h4:=hρ g _ hr
     simp only[denV,den,Option.map_some,oI]at h4
     refine⟨name,vs,_,h2,ZB h2 h1,?_⟩
     simp only[execOp,ho,resolve,hg,<- h4,Deferred.ofValue,Bind.bind,Sem.bind,Pure.pure,invoke]
     simp only[h0,List.append_toArray,List.singleton_append,List.getElem?_toArray,List.getElem?_cons_zero,List.extract_toArray,List.size_toArray,List.length_cons,List.extract_eq_take_drop,List.drop_succ_cons,List.drop_zero]
     rw[List.take_of_length_le (by simp)]
    ·cases h
  ·cases h
 all_goals
  exfalso
  (try unfold yO at h);(try unfold wE at h);(repeat' (split at h))<;>first
   | cases h
   | (rw[oM]at h;obtain⟨_,_,h2⟩:=h;cases h2)
theorem yV:OpsQuiet P where
 val:=fun I _ _ _ _ _ _ _ _ hρ E h F hF _=>off_val I hρ E h hF
 call:=fun I _ _ _ _ _ _ _ _ hρ h hb=>xfq I hρ h hb
 port:=fun I _ _ _ _ _ _ _ hρ h=>by
  obtain⟨name,args,vs,h1,h2,h3⟩:=xfr I hρ h
  exact⟨name,args,vs,h1,h2,fun w=>by rw[h3],fun w=>by rw[h3]⟩
theorem xdu{Gd:Nat->Prop}{α β:Type}(f:α->Sem β) : ∀l:List α,(∀a∈l,Tm P Gd (f a))->Tm P Gd (l.mapM f)
 | [],_=>by rw[List.mapM_nil];exact xy _
 | a::l,hf=>by
  rw[List.mapM_cons]
  exact yh (hf a (by simp)) fun _ _ _ _ _=>yh (xdu f l fun b hb=>hf b (by simp[hb])) fun _ _ _ _ _=>xy _
theorem qn{α β:Type}{f:α->Option β} : ∀ {l:List α} {r:List β},allSome f l=some r ->∀x∈l,∃y,f x=some y
 | a::l,r,h,x,hx=>by
  simp only[allSome]at h
  split at h
  ·rename_i y hy
   split at h
   ·rename_i ys hys
    rcases List.mem_cons.1 hx with rfl|hx
    ·exact⟨y,hy⟩
    ·exact qn hys x hx
   ·cases h
  ·cases h
theorem wj:qh P:=by
 intro I e st a w fn v R h F hF
 obtain⟨g,hg,g1,g2⟩:=Wm fn a.tmps
 refine Tm.off (Gd:=Good F w) ?_ (xfm F w) fun b h=>h.1
 rw[hg]
 refine yh ?_ fun _ _ _ _ _=>xy _
 rw[Array.mapM_eq_mapM_toList]
 refine yh (xdu _ _ fun x hx =>?_) fun _ _ _ _ _=>xy _
 obtain⟨y,hy⟩ : ∃y,YB P st x=some y:=by
  unfold resV at h
  split at h
  ·exact qn ‹_› x hx
  ·exact qn ‹_› x hx
  ·cases h
 cases x with
 | tmp t=>rw[g1];exact xy _
 | cell p t=>
  rw[g2]
  simp only[YB]at hy
  split at hy
  ·rename_i b q hgt
   split at hy
   ·rename_i k hk
    cases hp:partT P t k.own q with
    | none=>rw[hp]at hy;simp at hy
    | some u=>
     obtain⟨rp,h1,h2⟩:=R.tmps p _ hgt
     simp only[denV,den,oM]at h2
     obtain⟨r,hr,rfl⟩:=h2
     have hra:a.tmps.getD p undef = .pointer (some ⟨r.1,q,none⟩):=by simp[Array.getD_eq_getD_getElem?,h1]
     rw[hra]
     refine xX (a:=⟨r.1,q,none⟩) (yb _).tm (fun _=>rfl) (jD hp fun hc =>?_)
     cases ht:k.tab with
     | none=>exact jh R.emb hF hk hr (Blk.win_none ht) (Blk.virt_none ht) (Blk.mapped_none ht)
     | some tb=>rw[Blk.own_some ht]at hc;exact absurd rfl hc
   ·cases hy
  ·cases hy
end
end Go.Proofs.YtealkpadijffoaaGreatDoor.Kx
namespace Go.Proofs.YtealkpadijffoaaGreatDoor.Kx
open Go Go.Conc Lx
section
variable{P:Program}{σ:Type}{J:KBase P σ}{Γ:yc}
theorem stepG_leaveE{main:Bool}{b:Frame}{a:Act}{cs:List Frame}{w:World}{fn:Func}{todo:List Item}{c:Frame}{v:Value}(hn:b.kind = .normal)(hd:a.defers = [])(hf:P.funcs[b.fn]? = some fn)
  (hr:(results fn a.tmps).run P w = .ok v w):stepG P main (G {b.at a todo with mode :=.returning} (c::cs)) w = .go (G (c.finish v) cs) w (seen P b.fn ((results fn a.tmps).events P w #[])):=by
 simp[G,stepG,unwind,doReturn,Frame.at,hn,hd,hf,hr,GStep.after]
theorem wz (hΓ : ∀f m,Γ f=some m->xE J f m) (hq:OpsQuiet P) (hr:qh P) (hm:P.follows .mixedOrders=true) {f:FuncId} {fn:Func} (hbad:J.bad f=false) (hf:P.funcs[f]? = some fn) (hname:(fn.name == "runtime.NumGoroutine")=false) (hbody:fn.body.isSome=true) (n:Fu) :
  xE J f (fun args H=>some (mkS (V×Heap) (evF P Γ n fn args H) some)):=by
 obtain⟨c,hb⟩:=Option.isSome_iff_exists.1 hbody
 refine⟨⟨fn,c,hf,hname,hb⟩,?_⟩
 intro args H S ht e w s F vs E hv hR hF x v H' s' hrun hfx
 cases ht
 simp only[oI]at hfx
 subst hfx
 simp only[evF,hb,E.len]at hrun
 have hlen:=xQ _ _ _ hv
 intro O caller cs hpl hcont
 rw[enter_at _ hf hb]
 refine yU (fn:=f) (S0:=fun q b=>Own q e H b\/F b) (w0:=w) (e0:=e) hΓ hq hm n c _ _ (fun ex a' s1 F' w'=>s1=s'/\(ex = .normal\/ex = .ret)/\ ∃e' st' u,resV P fn st'=some u/\finish e.length u st'.heap=some (v,H')/\CfgK J (fun q b=>Own q e H b\/F b) w e e' st' s1 F' a' w')
  (fun ex e' st' s1 F' a' w' hk C =>?_) e ⟨Lx.begun fn args,H⟩ s F _ w ?_ hrun (O.from F.A) (base f) [] (caller::cs) ⟨rfl,hbad⟩ rfl ?_ (Toks.le.refl _)
 ·have hend : ∃u,resV P fn st'=some u/\ ∃r',finish e.length u st'.heap=some r'/\r'=(v,H')/\s1=s':=by
   cases ex with
   | exit i=>simp[endF,T.run]at hk
   | normal=>
    simp only[endF]at hk
    split at hk
    ·rename_i u hu
     split at hk
     ·rename_i r' hr'
      simp only[T.run,oI,Prod.mk.injEq]at hk
      exact⟨u,hu,r',hr',hk.1,hk.2⟩
     ·cases hk
    ·cases hk
   | ret=>
    simp only[endF]at hk
    split at hk
    ·rename_i u hu
     split at hk
     ·rename_i r' hr'
      simp only[T.run,oI,Prod.mk.injEq]at hk
      exact⟨u,hu,r',hr',hk.1,hk.2⟩
     ·cases hk
    ·cases hk
  obtain⟨u,hu,r',hr',rfl,rfl⟩:=hend
  refine⟨rfl,?_,e',st',u,hu,hr',C⟩
  cases ex with
  | exit i=>simp[endF,T.run]at hk
  | normal=>exact .inl rfl
  | ret=>exact .inr rfl
 ·refine⟨⟨E,?_,fun t u hu =>?_,rfl⟩,hR,hF,Keeps.refl _ w,fun q b hb =>.inl hb,Ext.refl e⟩
  ·simp[Lx.begun,hlen];omega
  ·obtain⟨_,hu⟩:=vB hu
   rcases kI args 0 .tip t u hu with⟨_,h1⟩|h1
   ·rw[Nat.sub_zero]at h1
    have ht:=(List.getElem?_eq_some_iff.1 h1).1
    obtain⟨y,h2,h3⟩:=yw _ _ _ hv t _ h1
    refine⟨y,?_,h2⟩
    rw[Array.getElem?_append_left (by simpa[hlen]using ht)]
    simpa using h3
   ·rw[wG]at h1;cases h1
 ·rintro ex a' s1 F' w' ⟨rfl,hex,e',st',u,hu,hfin,C⟩
  have leave : ∀todo,(O.from F.A).Ok s1 F' {(base f).at a' todo with mode :=.returning} (caller::cs) w':=fun todo=>(O.from F.A).okStep hbad fun F₁ w₁ h₁=>by
   have C1:=relyK C h₁
   obtain⟨rv,h1,h2⟩:=qf (P:=P) C1.rel hu
   obtain⟨e2,h3,h4,h5,h6⟩:=jA C1.rel.emb h2 C1.ext hfin
   refine⟨_,_,_,_,stepG_leaveE rfl C1.rel.defers hf h1,J.dOwn (Keeps.refl _ w₁) (fun ev he=>hr (J.at F₁).toPortB C1.rel hu F₁ C1.disj ev (mem_seen he)),O.csTail hpl,fun hA=>hcont rv F₁ w₁ ⟨hA,e2,h3,h4,h5,C1.rep,fun b hb=>C1.disj b (h6 _ b hb),C1.keeps,fun q b hb =>?_⟩⟩
   rcases C1.mine _ b (hb.imp (h6 _ b) id)with(h|h)|h
   ·exact .inl h
   ·exact .inr (.inl h)
   ·exact .inr (.inr h)
  rcases hex with rfl|rfl
  ·exact vj hbad (fun _=>stepG_end) (leave [])
  ·exact leave
theorem xcy (hΓ : ∀f m,Γ f=some m->xE J f m) (hq:OpsQuiet P) (hr:qh P) (hm:P.follows .mixedOrders=true) {f:FuncId} {fn:Func} (hbad:J.bad f=false) (hf:P.funcs[f]? = some fn) (hname:(fn.name == "runtime.NumGoroutine")=false) (hbody:fn.body.isSome=true) (n:Fu):xE J f (inl P Γ n fn):=by
 have h:=wz (J:=J) hΓ hq hr hm hbad hf hname hbody n
 refine⟨h.1,fun args H S hS =>?_⟩
 have:=h.2 args H _ rfl
 cases hS
 exact this
end
end Go.Proofs.YtealkpadijffoaaGreatDoor.Kx
namespace Go.Proofs.YtealkpadijffoaaGreatDoor.Tx
open Go Go.Conc Lx Kx
structure WC where
 tb:Nat
 pb:Nat
 wb:Nat
 wc:Nat
 db:Nat
 ask:Nat
 grant:Nat
 quit:Nat
 done:Nat
 self:Int
 r0:List Value
structure Ask where
 k:Int
 at_:Int
 a:Int
 b:Int
 told:Option (List C)
 v:Int
structure WS where
 steps:Int
 told:Option (List C)
 orc:List Ask
def eqI:C->C->Bool
 | .int k n,.int k' n'=>decide (k=k')&&decide (n=n')
 | _,_=>false
def eqIs:List C->List C->Bool
 | [],[]=>true
 | x::l,y::m=>eqI x y&&eqIs l m
 | _,_=>false
def eqT:Option (List C)->Option (List C)->Bool
 | none,none=>true
 | some l,some m=>eqIs l m
 | _,_=>false
theorem eqI_eq{x y:C}(h:eqI x y=true):x=y:=by
 unfold eqI at h
 split at h
 ·simp only[Bool.and_eq_true,decide_eq_true_eq]at h;rw[h.1,h.2]
 ·cases h
theorem xac : ∀ {l m:List C},eqIs l m=true->l=m
 | [],[],_=>rfl
 | x::l,y::m,h=>by
  simp only[eqIs,Bool.and_eq_true]at h
  rw[eqI_eq h.1,xac h.2]
 | [],_::_,h=>by cases h
 | _::_,[],h=>by cases h
theorem xad{x y:Option (List C)}(h:eqT x y=true):x=y:=by
 cases x<;>cases y<;>simp only[eqT]at h
 ·rfl
 ·cases h
 ·cases h
 ·rw[xac h]
def waitsC(c:WC)(n:Int)(told:Value):Array Value:= #[.int .i64 c.self,.int .i64 n,told,.chan (some c.ask),.chan (some c.grant),.chan (some c.quit)]
def waitsO(c:WC)(n:Int)(told:Value):Obj :=.cells (waitsC c n told) 107 (0,0)
def ToldAt(c:WC)(F:Fo)(w:World)(told:Value):Option (List C)->Prop
 | none=>told = .pointer none
 | some r =>∃x vs,told = .pointer (some ⟨x,0,none⟩)/\(F x/\F.A.cap x=none)/\x≠c.tb/\x≠c.pb/\x≠c.wb/\denL undef [] r=some vs/\w.heap[x]? = some (.cells vs.toArray 35 (0,0))
structure PinAt(c:WC)(x:Nat)(o:Obj)(F:Fo)(w:World):Prop where
 hF:F x
 t:x≠c.tb
 p:x≠c.pb
 wbn:x≠c.wb
 at_:w.heap[x]? = some o
theorem PinAt.same{c:WC}{x:Nat}{o:Obj}{F F':Fo}{w w':World}(h:PinAt c x o F w)(hF:F x->F' x)(hs:w'.heap[x]? = w.heap[x]?):PinAt c x o F' w':=⟨hF h.hF,h.t,h.p,h.wbn,hs.trans h.at_⟩
def capO(c:WC):Obj :=.cells #[.pointer (some ⟨c.wb,0,none⟩)] 76 (0,0)
def dnO(c:WC):Obj :=.cells #[.chan (some c.done)] 146 (0,0)
def WorkAt(c:WC)(pre r:List Value)(w:World):Prop:=(pre.length=3/\r.length=11)/\w.heap[c.wb]? = some (.cells (pre++r).toArray 81 (0,0))
structure RepW(c:WC)(s:WS)(F:Fo)(w:World):Prop where
 lt : ∀b,F b->b<w.heap.size
 tb:F c.tb
 pb:F c.pb
 wb:F c.wb
 ne:c.pb≠c.tb
 nw:c.pb≠c.wb
 wt:c.wb≠c.tb
 tok:F.A.tok 0=some c.pb
 ml : ∀b y,F.A.cap b=some y->F b
 cap:PinAt c c.wc (capO c) F w
 dn:PinAt c c.db (dnO c) F w
 wk : ∃pre r,WorkAt c pre r w/\(s.orc ≠ []->r=c.r0)
 obj : ∃told,w.heap[c.pb]? = some (waitsO c s.steps told)/\ToldAt c F w told s.told
def RFw(c:WC)(F:Fo)(w:World)(F₁:Fo)(w₁:World):Prop:=F₁=F/\Keeps (fun b=>b=c.tb/\F b) w w₁/\w₁.heap.size=w.heap.size
def StillAt(c:WC)(w:World):Prop :=∃n told,w.heap[c.pb]? = some (waitsO c n told)
def xcz(c:WC)(k:Nat):Prop:=3<=k
def EvWk(c:WC)(F:Fo)(n:Nat)(e:Event):Prop:=match e.loc with
 | .cell a=>a.block<n/\a.block≠c.tb/\(e.write=true ->¬F a.block\/(a.block=c.pb/\ ¬xcz c a.off)\/a.block=c.wb)
 | .obj r=> ¬F r/\r<n
 | .mark m=>m = .noRoom
 | _=>False
structure DWk(c:WC)(F:Fo)(w w':World)(es:Array Event):Prop where
 keeps:Keeps (fun b=> ¬F b\/b=c.pb\/b=c.wb) w w'
 still:StillAt c w->StillAt c w'
 work : ∀pre r,WorkAt c pre r w ->∃r',WorkAt c pre r' w'
 ev : ∀e∈es,EvWk c F w'.heap.size e
def Dw(c:WC)(F:Fo)(w w':World)(es:Array Event):Prop:=F c.tb->F c.pb->F c.wb->DWk c F w w' es
variable{c:WC}{s s':WS}{F:Fo}{w w':World}
theorem xae{es:Array Event}(h:Keeps (fun b=> ¬F b) w w')(he : ∀e∈es,EvOff F w.heap.size e):Dw c F w w' es:=fun ht hp hwb=>by
 have same : ∀b o,F b->w.heap[b]? = some o->w'.heap[b]? = some o:=fun b o hb ho=>by
  rw[h.block b (Array.getElem?_eq_some_iff.1 ho).1 (fun x=>x hb)];exact ho
 refine⟨h.mono fun b hb =>.inl hb,fun⟨n,told,x⟩=>⟨n,told,same _ _ hp x⟩,fun pre r x=>⟨r,x.1,same _ _ hwb x.2⟩,fun e hm =>?_⟩
 ·have:=he e hm
  unfold EvOff at this
  unfold EvWk
  split at this
  ·rename_i a ha
   rw[ha]
   exact⟨Nat.lt_of_lt_of_le this.2 h.size,fun x=>this.1 (x▸ht),fun _ =>.inl this.1⟩
  ·rename_i r hr
   rw[hr]
   exact⟨this.1,Nat.lt_of_lt_of_le this.2 h.size⟩
  ·rename_i m hm'
   rw[hm']
   exact this
  ·exact this.elim
theorem RFw.refl(F:Fo)(w:World):RFw c F w F w:=⟨rfl,Keeps.refl _ w,rfl⟩
theorem RFw.trans{F₁ F₂:Fo}{w₁ w₂:World}(h:RFw c F w F₁ w₁)(h':RFw c F₁ w₁ F₂ w₂):RFw c F w F₂ w₂:=by
 obtain⟨rfl,a,b⟩:=h
 obtain⟨rfl,a',b'⟩:=h'
 exact⟨rfl,a.trans a' fun x hx =>.inl hx,b'.trans b⟩
theorem RepW.lt_pb(h:RepW c s F w):c.pb<w.heap.size:=h.lt _ h.pb
theorem RepW.rely(h:RepW c s F w){F₁:Fo}{w₁:World}(r:RFw c F w F₁ w₁):RepW c s F₁ w₁:=by
 obtain⟨rfl,k,z⟩:=r
 obtain⟨told,h1,h2⟩:=h.obj
 refine⟨fun b hb=>by rw[z];exact h.lt b hb,h.tb,h.pb,h.wb,h.ne,h.nw,h.wt,h.tok,h.ml,h.cap.same id (k.block _ (h.lt _ h.cap.hF) fun x=>h.cap.t x.1),h.dn.same id (k.block _ (h.lt _ h.dn.hF) fun x=>h.dn.t x.1),h.wk.imp fun pre ⟨r,y,z⟩=>⟨r,⟨y.1,by rw[k.block _ (h.lt _ h.wb) fun x=>h.wt x.1];exact y.2⟩,z⟩,told,?_,?_⟩
 ·rw[k.block _ h.lt_pb (fun x=>h.ne x.1)];exact h1
 ·cases hs:s.told with
  | none=>rw[hs]at h2;exact h2
  | some r=>
   rw[hs]at h2
   obtain⟨x,vs,a1,a2,a3,a4,a5,a6,a7⟩:=h2
   exact⟨x,vs,a1,a2,a3,a4,a5,a6,by rw[k.block _ (h.lt _ a2.1) (fun y=>a3 y.1)];exact a7⟩
theorem RepW.stable(h:RepW c s F w)(hs : ∀b,F b->w'.heap[b]? = w.heap[b]?):RepW c s F w':=by
 have hlt : ∀b,F b->b<w'.heap.size:=fun b hb=>by
  have:=hs b hb
  rw[Array.getElem?_eq_getElem (h.lt b hb)]at this
  exact(Array.getElem?_eq_some_iff.1 this).1
 obtain⟨told,h1,h2⟩:=h.obj
 refine⟨hlt,h.tb,h.pb,h.wb,h.ne,h.nw,h.wt,h.tok,h.ml,h.cap.same id (hs _ h.cap.hF),h.dn.same id (hs _ h.dn.hF),h.wk.imp fun pre ⟨r,y,z⟩=>⟨r,⟨y.1,by rw[hs _ h.wb];exact y.2⟩,z⟩,told,by rw[hs _ h.pb];exact h1,?_⟩
 cases ht:s.told with
 | none=>rw[ht]at h2;exact h2
 | some r=>
  rw[ht]at h2
  obtain⟨x,vs,a1,a2,a3,a4,a5,a6,a7⟩:=h2
  exact⟨x,vs,a1,a2,a3,a4,a5,a6,by rw[hs _ a2.1];exact a7⟩
def WS.next(s:WS)(L:List Ask):WS:=⟨IntKind.wrap .i64 (s.steps+1),s.told,L⟩
def WS.tell(s:WS)(r:List C):WS:=⟨s.steps,some r,s.orc⟩
def okU(v:Int):Bool:=decide (0<=v/\v<18446744073709551616)
def Ask.is(e:Ask)(k at_ a b:Int):Bool:=decide (e.k=k)&&decide (e.at_=at_)&&decide (e.a=a)&&decide (e.b=b)
theorem Ask.is_eq{e:Ask}{k at_ a b:Int}(h:e.is k at_ a b=true):e.k=k/\e.at_=at_/\e.a=a/\e.b=b:=by
 simp only[Ask.is,Bool.and_eq_true,decide_eq_true_eq]at h
 exact⟨h.1.1.1,h.1.1.2,h.1.2,h.2⟩
def WS.use{α:Type}(s:WS)(k at_ a b:Int)(f:Int->α):Option (α×WS):=match s.orc with
 | e::L=>if(okU e.v&&e.is k at_ a b&&eqT e.told s.told)=true then some (f e.v,s.next L)else none
 | []=>none
def stepW(c:WC):PStep WS
 | .load i,s=>s.use 1 i 0 0 id
 | .store i x,s=>s.use 2 i x 0 fun _=>()
 | .cas i x y,s=>s.use 3 i x y fun v=>v != 0
 | .add i x,s=>s.use 4 i x 0 id
 | .get i,s=>s.use 5 i 0 0 fun v=>IntKind.wrap .u8 v
 | .put i x,s=>s.use 6 i (IntKind.wrap .u64 x) 0 fun _=>()
 | .self,s=>some (c.self,s)
 | .steps,s=>some (s.steps,s)
 | .tell r,s=>some ((),s.tell r)
 | .ask _ _,s=>none
def xdv:PStep WS
 | .ask _ [k,at_,a,b],s=>s.use k at_ a b fun v =>[v]
 | _,_=>none
def pvW(c:WC):Value :=.iface 97 (.pointer (some ⟨c.pb,0,none⟩))
theorem pmeth{name:String}(h:portMeth name=true):name = "Load" \/ name = "Store" \/ name = "CAS" \/ name = "Add" \/ name = "Get" \/ name = "Put" \/ name = "Self" \/ name = "Steps" \/ name = "Tell" :=by
 simpa[portMeth]using h
theorem sureW(c:WC)(name:String)(h:portMeth name=true)(w:World):(nilAhead (Tryz.prog.types.size+Made.depth) 97 (.pointer (some ⟨c.pb,0,none⟩)) name).run Tryz.prog w = .ok (some false) w:=by
 rcases pmeth h with rfl|rfl|rfl|rfl|rfl|rfl|rfl|rfl|rfl<;>kernel_rfl
def xbw(c:WC):PortB Tryz.prog where
 pv:=⟨pvW c,⟨fun _=>none,fun _=>none⟩⟩
 t:= 97
 u :=.pointer (some ⟨c.pb,0,none⟩)
 isIface:=rfl
 sure:=fun name h _ w=>sureW c name h w
end Go.Proofs.YtealkpadijffoaaGreatDoor.Tx
namespace Go.Proofs.YtealkpadijffoaaGreatDoor.Tx
open Go Go.Conc Lx Kx
def zq:Value :=.agg #[]
def accV(k at_ a b:Int):Value :=.agg #[.int .u8 k,.int .i64 at_,.int .u64 a,.int .u64 b]
def seatCases(c:WC):Array CommCase:= #[rcase c.grant (.int .u64 0),rcase c.quit zq]
def seatW(c:WC)(home:Goroutine->Prop):Seat :={cases:=seatCases c,shape :=.select,home:=home}
def askCases(c:WC)(acc:Value):Array CommCase:= #[scase c.ask acc (accV 0 0 0 0),rcase c.quit zq]
def ToSeat(c:WC)(n:Nat)(g g₃:Goroutine):Prop :=∀ (K:World->Prop) (Still:Loc->Prop) (B:Nat),(∀w,K w->StillAt c w)->Still (.cell ⟨c.pb,4,none⟩)->Still (.cell ⟨c.pb,5,none⟩)->c.pb<B->Sits Tryz.prog false K Still B (seatW c (· = g₃)) n g
structure Later(c:WC)(s:WS)(F:Fo)(w:World)(F₂:Fo)(w₂:World):Prop where
 A:F.A.le F₂.A
 has : ∀b,F₂ b↔F b\/(w.heap.size<=b/\b<w₂.heap.size)
 keeps:Keeps F w w₂
 rep:RepW c s F₂ w₂
def AtLast(c:WC)(F:Fo)(g:Goroutine)(w:World):Prop:=g.status = .running/\ ∃b₂ z es n,stepG Tryz.prog false g w = .comm b₂ #[scase c.done .nilIface z] true .send w es/\(∀e∈es,EvWk c F w.heap.size e)/\QuitsD Tryz.prog n 0 (Go.Conc.served b₂ undef)
def Dq(c:WC)(F:Fo)(w w':World)(es:Array Event):Prop:=Dw c F w w' es/\(c.wb<w.heap.size->w'.heap[c.wb]? = w.heap[c.wb]?)
def QOk(c:WC)(F:Fo)(g:Goroutine)(w:World):Prop:=GW Tryz.prog false (fun w w₁=>RFw c F w F w₁) (Dq c F) (AtLast c F) g w
inductive WOk(c:WC)(rv:List Value)(tf:Option (List C)):WS->Fo->Goroutine->World->Prop
 | step {s:WS} {F:Fo} {g:Goroutine} {w:World} (hr:g.status = .running) (h : ∀w₁,RFw c F w F w₁ ->∃g' w' es,stepG Tryz.prog false g w₁ = .go g' w' es/\Dw c F w₁ w' es)
   (h' : ∀w₁ g' w' es,RFw c F w F w₁->stepG Tryz.prog false g w₁ = .go g' w' es->WOk c rv tf s F g' w'):WOk c rv tf s F g w
 | ask {s:WS} {F:Fo} {g:Goroutine} {w:World} (e:Ask) (L:List Ask) (g₂ g₃:Goroutine) (hr:g.status = .running) (hR:RepW c s F w) (hL:s.orc=e::L) (ht:s.told=e.told)
   (h : ∀w₁,RFw c F w F w₁ ->∃es,stepG Tryz.prog false g w₁ = .comm g₂ (askCases c (accV e.k e.at_ e.a e.b)) true .select w₁ es/\ ∀e∈es,EvWk c F w₁.heap.size e)
   (hsit : ∃n,ToSeat c n (Go.Conc.served g₂ (commResult (askCases c (accV e.k e.at_ e.a e.b)) .select 0 undef false)) g₃)
   (hgrant : ∀F₂ w₂,Later c s F w F₂ w₂->WOk c rv tf (s.next L) F₂ (Go.Conc.served g₃ (commResult (seatCases c) .select 0 (.int .u64 e.v) true)) w₂)
   (hquit : ∀F₂ w₂,Later c s F w F₂ w₂->QOk c F₂ (Go.Conc.served g₃ (commResult (seatCases c) .select 1 zq false)) w₂):WOk c rv tf s F g w
 | give {s:WS} {F F':Fo} {g:Goroutine} {w:World} (hF : ∀b,F b->F' b) (hn : ∀b,F' b->F b\/b<w.heap.size) (hA:F'.A=F.A) (h:WOk c rv tf s F' g w):WOk c rv tf s F g w
 | tell {s:WS} {F:Fo} {g:Goroutine} {w:World} (r:List C) (h:WOk c rv tf (s.tell r) F g w):WOk c rv tf s F g w
 | done {s:WS} {F:Fo} {g:Goroutine} {w:World} (hr:g.status = .running) (hR:RepW c s F w) (ht:s.told=tf) (fin:s.orc = []) (h : ∀w₁,RFw c F w F w₁->AtLast c F g w₁) (hres : ∃pre,WorkAt c pre rv w):WOk c rv tf s F g w
variable{c:WC}{rv:List Value}{tf:Option (List C)}{s s':WS}{F:Fo}{g g':Goroutine}{w w':World}
theorem WOk.go(hr:g.status = .running)(h : ∀w₁,RFw c F w F w₁ ->∃g' w' es,stepG Tryz.prog false g w₁ = .go g' w' es/\Dw c F w₁ w' es/\WOk c rv tf s F g' w'):WOk c rv tf s F g w:=
 .step hr (fun w₁ h₁=>by obtain⟨g',w',es,a,b,_⟩:=h w₁ h₁;exact⟨g',w',es,a,b⟩) fun w₁ g' w' es h₁ hs=>by
  obtain⟨g₂,w₂,es₂,a,_,d⟩:=h w₁ h₁
  rw[hs]at a;cases a;exact d
theorem Keeps.tb(hF:F c.tb){w₁:World}(r:RFw c F w F w₁):Keeps F w w₁:=r.2.1.mono fun b hb=>hb.2
theorem Later.rely{F₂:Fo}{w₁ w₂:World}(hF:F c.tb)(r:RFw c F w F w₁)(h:Later c s F w₁ F₂ w₂):Later c s F w F₂ w₂:=
 ⟨h.A,fun b=>by rw[h.has b,r.2.2],(Keeps.tb hF r).trans h.keeps fun b hb =>.inl hb,h.rep⟩
theorem RFw.more{F':Fo}{w₁:World}(hF : ∀b,F b->F' b)(r:RFw c F w F w₁):RFw c F' w F' w₁:=⟨rfl,r.2.1.mono fun b hb=>⟨hb.1,hF b hb.2⟩,r.2.2⟩
theorem WOk.rely{w₁:World}(h:WOk c rv tf s F g w)(r:RFw c F w F w₁):WOk c rv tf s F g w₁:=by
 induction h generalizing w₁ with
 | step hr h h'=>exact .step hr (fun w₂ h₂=>h w₂ (r.trans h₂)) fun w₂ g' w' es h₂=>h' w₂ g' w' es (r.trans h₂)
 | ask e L g₂ g₃ hr hR hL ht h hsit hgrant hquit=>
  exact .ask e L g₂ g₃ hr (hR.rely r) hL ht (fun w₂ h₂=>h w₂ (r.trans h₂)) hsit (fun F₂ w₂ d=>hgrant F₂ w₂ (d.rely hR.tb r)) fun F₂ w₂ d=>hquit F₂ w₂ (d.rely hR.tb r)
 | give hF hn hA h ih=>exact .give hF (fun b hb=>(hn b hb).imp id fun x=>by rw[r.2.2];exact x) hA (ih (r.more hF))
 | tell q h ih=>exact .tell q (ih r)
 | done hr hR ht fin h hres=>
  refine .done hr (hR.rely r) ht fin (fun w₂ h₂=>h w₂ (r.trans h₂)) ?_
  obtain⟨pre,x,y⟩:=hres
  exact⟨pre,x,by rw[r.2.1.block _ (hR.lt _ hR.wb) fun z=>hR.wt z.1];exact y⟩
theorem QOk.rely{w₁:World}(h:QOk c F g w)(r:RFw c F w F w₁):QOk c F g w₁:=by
 unfold QOk at h |-
 cases h with
 | stop h=>exact .stop fun w₂ h₂=>h w₂ (r.trans h₂)
 | step hr h h'=>exact .step hr (fun w₂ h₂=>h w₂ (r.trans h₂)) fun w₂ g' w' es h₂=>h' w₂ g' w' es (r.trans h₂)
theorem xdw(w:World):Dw c F w w #[]:=xae (Keeps.refl _ w) (by simp)
theorem xo(h : ∀w₁,stepG Tryz.prog false g w₁ = .go g' w₁)(hr:g.status = .running)(hw:WOk c rv tf s F g' w):WOk c rv tf s F g w:=
 .go hr fun w₁ h₁=>⟨g',w₁,#[],h w₁,xdw w₁,hw.rely h₁⟩
section
variable{b:Frame}{a:Act}{ops:Array Oper}{i:Nat}{rest:List Nat}{o:Oper}{k:List Item}{cs:List Frame}{v:Value}
theorem ZQ(ho:ops[i]? = some o)(hw:Region.wanted o (yielded ops a.tmps)=true)(hk:b.kind ≠ .early)
  (h : ∀w₁,RFw c F w F w₁ ->∃v w',(execOp a.eval o).run Tryz.prog w₁ = .ok (.value v) w'/\Dw c F w₁ w' (listed Tryz.prog b.fn a o w₁)/\WOk c rv tf s F (G (b.at (a.put o.dst v) (.inRegion ops rest::k)) cs) w'):WOk c rv tf s F (G (b.at a (.inRegion ops (i::rest)::k)) cs) w:=
 .go rfl fun w₁ h₁=>by
  obtain⟨v,w',h2,h3,h4⟩:=h w₁ h₁
  exact⟨_,_,_,stepG_value ho hw hk h2,h3,h4⟩
theorem WG(ho:ops[i]? = some o)(hw:Region.wanted o (yielded ops a.tmps)=true)(hk:b.kind ≠ .early)
  (h : ∀w₁,RFw c F w F w₁ ->∃w',(execOp a.eval o).run Tryz.prog w₁ = .ok .skip w'/\Dw c F w₁ w' (listed Tryz.prog b.fn a o w₁)/\WOk c rv tf s F (G (b.at (a.put o.dst undef) (.inRegion ops rest::k)) cs) w'):WOk c rv tf s F (G (b.at a (.inRegion ops (i::rest)::k)) cs) w:=
 .go rfl fun w₁ h₁=>by
  obtain⟨w',h2,h3,h4⟩:=h w₁ h₁
  exact⟨_,_,_,stepG_none ho hw hk h2,h3,h4⟩
theorem wL{es:Array Event}{n:Nat}(h : ∀e∈es,EvWk c F w.heap.size e):Dw c F w w es:=fun _ _ _=>⟨Keeps.refl _ w,id,fun pre r x=>⟨r,x⟩,h⟩
theorem xO(ho:ops[i]? = some o)(hw:Region.wanted o (yielded ops a.tmps)=true)(hk:b.kind ≠ .early)
  (h : ∀w₁,RFw c F w F w₁->(execOp a.eval o).run Tryz.prog w₁ = .ok (.value v) w₁/\ ∀e∈(execOp a.eval o).events Tryz.prog w₁ #[],EvWk c F w₁.heap.size e)
  (hn:WOk c rv tf s F (G (b.at (a.put o.dst v) (.inRegion ops rest::k)) cs) w):WOk c rv tf s F (G (b.at a (.inRegion ops (i::rest)::k)) cs) w:=
 ZQ ho hw hk fun w₁ h₁=>⟨v,w₁,(h w₁ h₁).1,wL (n:=0) fun e he=>(h w₁ h₁).2 e (Kx.mem_seen he),hn.rely h₁⟩
end
end Go.Proofs.YtealkpadijffoaaGreatDoor.Tx
namespace Go.Proofs.YtealkpadijffoaaGreatDoor.Tx
open Go Go.Conc Lx Kx
def vW:List PanicEntry :=[{v :=.iface 148 (.agg #[]),recovered:=false}]
noncomputable def xcA:Code:= Tryz.f282.body.getD .skip
variable{c:WC}{rv:List Value}{tf:Option (List C)}{s s':WS}{F:Fo}{g g':Goroutine}{w w':World}
theorem xfs(args:Array Value):Frame.enter Tryz.prog 282 args .normal=(base 282).at {tmps:=args++Array.replicate (44-args.size) undef,defers :=[]} [.code xcA]:=
 enter_at args Tryz.func282 (c:=xcA) rfl
theorem wl(hR:RepW c s F w) : ∃told,w.heap[c.pb]? = some (waitsO c s.steps told):=by obtain⟨t,h,_⟩:=hR.obj;exact⟨t,h⟩
theorem xl{x off:Nat}{cs:Array Value}{T:TypeId}(h:w.heap[x]? = some (.cells cs T (0,0))):w.cell? ⟨x,off,none⟩=cs[off]? :=by simp[World.cell?,h]
theorem xh{x off:Nat}{cs:Array Value}{T:TypeId}(h:w.heap[x]? = some (.cells cs T (0,0))):w.frozen? ⟨x,off,none⟩=false:=by simp[World.frozen?,h]
theorem yv{n:Int}{told:Value}(hp:w.heap[c.pb]? = some (waitsO c n told))(k:Nat):w.cell? ⟨c.pb,k,none⟩=(waitsC c n told)[k]? /\ w.frozen? ⟨c.pb,k,none⟩=false:=⟨xl hp,xh hp⟩
theorem alloc_old{o:Obj}{b:Nat}(h:b<w.heap.size):(w.alloc o).heap[b]? = w.heap[b]? :=heap_alloc_old _ _ h
theorem qo{o:Obj}{es:Array Event}{fn:FuncId}(he : ∀e∈es,False):Dw c F w (w.alloc o) (seen Tryz.prog fn es):=
 xae ⟨rfl,rfl,rfl,by rw[World.size_alloc];omega,fun b hb _=>alloc_old hb⟩ fun ev h=>(he ev (Kx.mem_seen h)).elim
theorem wD{n:Nat}{a:Addr}(h:a.block<n)(ht:a.block≠c.tb):EvWk c F n ⟨.cell a,false,false⟩:=⟨h,ht,fun x=>by cases x⟩
section
variable{K:World->Prop}{Still:Loc->Prop}{B:Nat}{Stop:Goroutine->World->Prop}{b:Frame}{a:Act}{ops:Array Oper}{i n:Nat}{rest:List Nat}{o:Oper}{k:List Item}{cs:List Frame}{v:Value}
theorem vD(h : ∀w₁,stepG Tryz.prog false g w₁ = .go g' w₁)(hr:g.status = .running)(hn:Goes Tryz.prog false (RK K) (DS Still B) Stop n g' w):Goes Tryz.prog false (RK K) (DS Still B) Stop (n+1) g w:=
 Goes.step hr fun w₁ h₁=>by
  rw[h w₁]
  simp only[goes_go]
  exact⟨⟨rfl,by simp⟩,Goes.anyWorld w₁ hn⟩
theorem kD(ho:ops[i]? = some o)(hw:Region.wanted o (yielded ops a.tmps)=true)(hk:b.kind ≠ .early)(h : ∀w₁,K w₁->(execOp a.eval o).run Tryz.prog w₁ = .ok (.value v) w₁/\ ∀e∈(execOp a.eval o).events Tryz.prog w₁ #[],EvC Still B e)
  (hn:Goes Tryz.prog false (RK K) (DS Still B) Stop n (G (b.at (a.put o.dst v) (.inRegion ops rest::k)) cs) w):Goes Tryz.prog false (RK K) (DS Still B) Stop (n+1) (G (b.at a (.inRegion ops (i::rest)::k)) cs) w:=
 Goes.step rfl fun w₁ h₁=>by
  rw[stepG_value ho hw hk (h w₁ h₁).1]
  simp only[goes_go]
  exact⟨⟨rfl,fun ev he=>(h w₁ h₁).2 ev (Kx.mem_seen he)⟩,Goes.anyWorld w₁ hn⟩
theorem yA(h : ∀w₁,stepG Tryz.prog false g w₁ = .go g' w₁)(hr:g.status = .running)(hn:QOk c F g' w):QOk c F g w:=
 GW.go hr fun w₁ h₁=>⟨g',w₁,#[],h w₁,⟨xdw w₁,fun _=>rfl⟩,QOk.rely hn h₁⟩
theorem xbx(ho:ops[i]? = some o)(hw:Region.wanted o (yielded ops a.tmps)=true)(hk:b.kind ≠ .early)(h : ∀w₁,(execOp a.eval o).run Tryz.prog w₁ = .ok (.value v) w₁/\(execOp a.eval o).events Tryz.prog w₁ #[] = #[])
  (hn:QOk c F (G (b.at (a.put o.dst v) (.inRegion ops rest::k)) cs) w):QOk c F (G (b.at a (.inRegion ops (i::rest)::k)) cs) w:=
 GW.go rfl fun w₁ h₁=>⟨_,w₁,_,stepG_value ho hw hk (h w₁).1,⟨wL (n:=0) (fun ev he=>by have:=Kx.mem_seen he;rw[(h w₁).2]at this;simp at this),fun _=>rfl⟩,QOk.rely hn h₁⟩
end
theorem ask_res{acc:Value}:commResult (askCases c acc) .select 0 undef false = .tuple #[.int .i64 0,.bool false,zq]:=by kernel_rfl
theorem xey{x:Int}:commResult (seatCases c) .select 0 (.int .u64 x) true = .tuple #[.int .i64 0,.bool true,.int .u64 x,zq]:=by kernel_rfl
theorem xft:commResult (seatCases c) .select 1 zq false = .tuple #[.int .i64 1,.bool false,.int .u64 0,zq]:=by kernel_rfl
theorem qI{n m:Int}{told:Value}(hp:w.heap[c.pb]? = some (waitsO c n told)):(w.setCell ⟨c.pb,1,none⟩ (.int .i64 m)).heap[c.pb]? = some (waitsO c m told)/\(∀x,x≠c.pb->(w.setCell ⟨c.pb,1,none⟩ (.int .i64 m)).heap[x]? = w.heap[x]?)/\(w.setCell ⟨c.pb,1,none⟩ (.int .i64 m)).heap.size=w.heap.size:=by
 refine⟨?_,fun x hx =>?_,?_⟩
 ·simp[World.setCell,Array.getElem?_modify,hp,waitsO,waitsC]
 ·show(w.heap.modify c.pb _)[x]? = _
  rw[Array.getElem?_modify,if_neg fun h=>hx h.symm]
 ·simp[World.setCell]
theorem VY(hR:RepW c s F w){L:List Ask}(hL:s.orc ≠ []):RepW c (s.next L) F (w.setCell ⟨c.pb,1,none⟩ (.int .i64 (IntKind.wrap .i64 (s.steps+1)))):=by
 obtain⟨told,hp,ht⟩:=hR.obj
 obtain⟨h1,h2,h3⟩:=qI (m:=IntKind.wrap .i64 (s.steps+1)) hp
 refine⟨fun b hb=>by rw[h3];exact hR.lt b hb,hR.tb,hR.pb,hR.wb,hR.ne,hR.nw,hR.wt,hR.tok,hR.ml,hR.cap.same id (h2 _ hR.cap.p),hR.dn.same id (h2 _ hR.dn.p),hR.wk.imp fun pre ⟨r,y,z⟩=>⟨r,⟨y.1,by rw[h2 _ hR.nw.symm];exact y.2⟩,fun _=>z hL⟩,told,h1,?_⟩
 show ToldAt c F _ told s.told
 cases hs:s.told with
 | none=>rw[hs]at ht;exact ht
 | some r=>
  rw[hs]at ht
  obtain⟨x,vs,a1,a2,a3,a4,a5,a6,a7⟩:=ht
  exact⟨x,vs,a1,a2,a3,a4,a5,a6,by rw[h2 x a4];exact a7⟩
theorem xfu(hR:RepW c s F w){m:Int}{es:Array Event}(he : ∀ev∈es,ev=⟨.cell ⟨c.pb,1,none⟩,true,false⟩):Dw c F w (w.setCell ⟨c.pb,1,none⟩ (.int .i64 m)) es:=fun _ _ _=>by
 obtain⟨told,hp,ht⟩:=hR.obj
 obtain⟨h1,h2,h3⟩:=qI (m:=m) hp
 refine⟨⟨rfl,rfl,rfl,Nat.le_of_eq h3.symm,fun b _ hn=>h2 b fun e=>hn (.inr (.inl e))⟩,fun _=>⟨m,told,h1⟩,fun pre r x=>⟨r,x.1,by rw[h2 _ fun e=>hR.nw e.symm];exact x.2⟩,fun ev hm =>?_⟩
 rw[he ev hm]
 exact⟨by rw[h3];exact hR.lt_pb,hR.ne,fun _ =>.inr (.inl ⟨rfl,by simp[xcz]⟩)⟩
theorem xaf{main:Bool}{P:Program}{b:Frame}{a:Act}{ops:Array Oper}{i:Nat}{rest:List Nat}{o:Oper}{k:List Item}{cs:List Frame}{v:Value}(ho:ops[i]? = some o)(hw:Region.wanted o (yielded ops a.tmps)=true)(hk:b.kind ≠ .early)(hr:(execOp a.eval o).run P w = .halt (.panic v) w)(he:(execOp a.eval o).events P w #[] = #[]) :
  stepG P main (G (b.at a (.inRegion ops (i::rest)::k)) cs) w = .go (G {b.at a (.inRegion ops (i::rest)::k)with mode :=.panicking [{v,recovered:=false}]} cs) w #[]:=by
 have hk':(b.kind==CallKind.early)=false:=by simpa using hk
 rw[stepG_oper ho hw]
 simp[stepG.apply,hr,he,G,Frame.at,hk',GStep.after,seen,Frame.raise]
theorem Xt{main:Bool}{P:Program}{fr c:Frame}{cs:List Frame}{ch:List PanicEntry}(hd:fr.defers = [])(hm:fr.mode = .panicking ch)(ht : ∃ops is k,fr.todo = .inRegion ops is::k)(hc:c.mode = .run) :
  stepG P main (G fr (c::cs)) w = .go (G {c with mode :=.panicking ch} cs) w:=by
 obtain⟨ops,is,k,ht⟩:=ht
 have hca:fr.catches P=false:=by
  unfold Frame.catches
  rw[ht]
  split
  ·rename_i h;cases h
  ·rfl
 simp[G,stepG,unwind,hd,hm,hca,Frame.raise,hc]
theorem do_ok(hR:RepW c s F w){e:Ask}{L0:List Ask}(ho:s.orc=e::L0)(htd:s.told=e.told)(caller:Frame)(cs:List Frame)(hp:PlainF caller)(hq : ∀F₂ w₂,RepW c s F₂ w₂->QOk c F₂ (G {caller with mode :=.panicking vW} cs) w₂)
  (hc' : ∀F' w',RepW c (s.next L0) F' w'->Keeps F w w'->(∀b,F' b->F b\/w.heap.size<=b)->F.A.le F'.A->WOk c rv tf (s.next L0) F' (G (caller.finish (.int .u64 e.v)) cs) w'):WOk c rv tf s F (G (Frame.enter Tryz.prog 282 #[.pointer (some ⟨c.pb,0,none⟩),accV e.k e.at_ e.a e.b] .normal) (caller::cs)) w:=by
 rw[xfs]
 simp only[xcA,Tryz.f282,Option.getD_some]
 refine xo (fun _=>stepG_seq) rfl ?_
 refine xo (fun _=>stepG_region) rfl ?_
 simp only[List.size_toArray,List.length_cons,List.length_nil,Nat.reduceAdd,Nat.zero_add,List.range,List.range.loop]
 refine ZQ rfl rfl (by decide) fun w₁ h₁=>⟨.pointer (some ⟨w₁.heap.size,0,none⟩),w₁.alloc (.cells (accV e.k e.at_ e.a e.b).cells 118),by simp[execOp,Act.eval,Instr.box,newVar,newRow],?_,?_⟩
 ·refine qo fun ev he =>?_
  simp[execOp,Act.eval,Instr.box,newVar,newRow]at he
 have hR₁:=hR.rely h₁
 have hx:(w₁.alloc (.cells (accV e.k e.at_ e.a e.b).cells 118)).heap[w₁.heap.size]? = some (.cells #[.int .u8 e.k,.int .i64 e.at_,.int .u64 e.a,.int .u64 e.b] 118 (0,0)):=heap_alloc_new _ _
 have hR₂:RepW c s F (w₁.alloc (.cells (accV e.k e.at_ e.a e.b).cells 118)):=hR₁.stable fun b hb=>by
  exact alloc_old (hR₁.lt b hb)
 have hKW:Keeps F w (w₁.alloc (.cells (accV e.k e.at_ e.a e.b).cells 118)):=(Keeps.tb hR.tb h₁).trans (S':=fun _=>False) ⟨rfl,rfl,rfl,by rw[World.size_alloc];omega,fun b hb _=>alloc_old hb⟩ (fun b hb=>hb.elim)
 have hxF:w₁.heap.size≠c.tb:=fun e=>by have:=hR₁.lt _ hR₁.tb;omega
 generalize hW:w₁.alloc (.cells (accV e.k e.at_ e.a e.b).cells 118)=W at hx hR₂ hKW |-
 generalize hN:w₁.heap.size=N at hx hxF |-
 have hNW:N<W.heap.size:=(Array.getElem?_eq_some_iff.1 hx).1
 clear hW hN hR₁ h₁ hR
 have hR:=hR₂
 clear hR₂
 walk_nrm
 refine xO rfl rfl (by decide) (fun w₂ h₂=>⟨by simp[go_sem,execOp,Act.eval];rfl,by simp[go_sem,execOp,Act.eval]⟩) ?_
 walk_nrm
 refine xo (fun _=>stepG_region_end) rfl ?_
 refine xo (fun _=>stepG_seq) rfl ?_
 refine xo (fun _=>stepG_seq) rfl ?_
 refine xo (fun _=>stepG_seq) rfl ?_
 refine xo (fun _=>stepG_seq) rfl ?_
 refine xo (fun _=>stepG_region) rfl ?_
 simp only[List.size_toArray,List.length_cons,List.length_nil,Nat.reduceAdd,Nat.zero_add,List.range,List.range.loop]
 refine xO rfl rfl (by decide) (fun w₂ h₂=>⟨by simp[go_sem,execOp,Act.eval];rfl,by simp[go_sem,execOp,Act.eval]⟩) ?_
 walk_nrm
 refine xO rfl rfl (by decide) (fun w₂ h₂=>⟨by simp[go_sem,execOp,Act.eval];rfl,by simp[go_sem,execOp,Act.eval]⟩) ?_
 walk_nrm
 refine xO rfl rfl (by decide) (fun w₂ h₂=>⟨by simp[go_sem,execOp,Act.eval];rfl,by simp[go_sem,execOp,Act.eval]⟩) ?_
 walk_nrm
 refine xO (v :=.chan (some c.ask)) rfl rfl (by decide) (fun w₂ h₂ =>?_) ?_
 ·obtain⟨told,hp⟩:=wl (hR.rely h₂)
  obtain⟨hc,hz⟩:=yv hp 3
  simp only[waitsC]at hc
  exact⟨by simp[go_sem,execOp,Act.eval,hc,hz],fun ev he=>by
   simp[go_sem,execOp,Act.eval,hc,hz]at he
   subst he
   exact wD (hR.rely h₂).lt_pb hR.ne⟩
 walk_nrm
 refine xo (fun _=>stepG_region_end) rfl ?_
 refine xo (fun _=>stepG_region) rfl ?_
 simp only[List.size_toArray,List.length_cons,List.length_nil,Nat.reduceAdd,Nat.zero_add,List.range,List.range.loop]
 refine xO (v:=accV e.k e.at_ e.a e.b) rfl rfl (by decide) (fun w₂ h₂ =>?_) ?_
 ·have hx₂:=hx
  rw[<- h₂.2.1.block N hNW (fun z=>hxF z.1)]at hx₂
  have c0:=xl (off:=0) hx₂
  have c1:=xl (off:=1) hx₂
  have c2:=xl (off:=2) hx₂
  have c3:=xl (off:=3) hx₂
  have z0:=xh (off:=0) hx₂
  have z1:=xh (off:=1) hx₂
  have z2:=xh (off:=2) hx₂
  have z3:=xh (off:=3) hx₂
  simp only[List.getElem?_toArray,List.getElem?_cons_zero,List.getElem?_cons_succ]at c0 c1 c2 c3
  exact⟨by simp[go_sem,execOp,Act.eval,c0,c1,c2,c3,z0,z1,z2,z3,accV],fun ev he=>by
   simp[go_sem,execOp,Act.eval,c0,c1,c2,c3,z0,z1,z2,z3]at he
   rcases he with rfl|rfl|rfl|rfl<;>exact wD (by rw[h₂.2.2];exact hNW) hxF⟩
 walk_nrm
 refine xo (fun _=>stepG_region_end) rfl ?_
 refine xo (fun _=>stepG_region) rfl ?_
 simp only[List.size_toArray,List.length_cons,List.length_nil,Nat.reduceAdd,Nat.zero_add,List.range,List.range.loop]
 refine xO rfl rfl (by decide) (fun w₂ h₂=>⟨by simp[go_sem,execOp,Act.eval];rfl,by simp[go_sem,execOp,Act.eval]⟩) ?_
 walk_nrm
 refine xO rfl rfl (by decide) (fun w₂ h₂=>⟨by simp[go_sem,execOp,Act.eval];rfl,by simp[go_sem,execOp,Act.eval]⟩) ?_
 walk_nrm
 refine xO rfl rfl (by decide) (fun w₂ h₂=>⟨by simp[go_sem,execOp,Act.eval];rfl,by simp[go_sem,execOp,Act.eval]⟩) ?_
 walk_nrm
 refine xO (v :=.chan (some c.quit)) rfl rfl (by decide) (fun w₂ h₂ =>?_) ?_
 ·obtain⟨told,hp⟩:=wl (hR.rely h₂)
  obtain⟨hc,hz⟩:=yv hp 5
  simp only[waitsC]at hc
  exact⟨by simp[go_sem,execOp,Act.eval,hc,hz],fun ev he=>by
   simp[go_sem,execOp,Act.eval,hc,hz]at he
   subst he
   exact wD (hR.rely h₂).lt_pb hR.ne⟩
 walk_nrm
 refine xo (fun _=>stepG_region_end) rfl ?_
 refine xo (fun _=>stepG_seq) rfl ?_
 refine xo (fun _=>stepG_region) rfl ?_
 simp only[List.size_toArray,List.length_cons,List.length_nil,Nat.reduceAdd,Nat.zero_add,List.range,List.range.loop]
 apply WOk.ask e L0 _ _ rfl hR ho htd (fun w₁ h₁=>⟨_,stepG_comm rfl rfl (by decide) (by simp[go_sem,execOp,Act.eval];rfl),fun ev he=>by
  have:=Kx.mem_seen he
  simp[go_sem,execOp,Act.eval]at this⟩) ⟨25,fun K Still B hK hS4 hS5 hB =>.inl ⟨24,W,rfl,?sit⟩⟩ ?grant ?quit
 case sit=>
  rw[served_fr,Frame.finish_at]
  rw[ask_res]
  walk_nrm
  refine kD (v :=.int .i64 0) rfl rfl (by decide) (fun w₂ h₂=>⟨by simp[go_sem,execOp,Act.eval],by simp[go_sem,execOp,Act.eval]⟩) ?_
  walk_nrm
  refine kD (v :=.bool true) rfl rfl (by decide) (fun w₂ h₂=>⟨by simp[go_sem,execOp,Act.eval],by simp[go_sem,execOp,Act.eval]⟩) ?_
  walk_nrm
  refine kD (v :=.bool false) rfl rfl (by decide) (fun w₂ h₂=>⟨by simp[go_sem,execOp,Act.eval],by simp[go_sem,execOp,Act.eval]⟩) ?_
  walk_nrm
  refine vD (fun _=>stepG_region_end) rfl ?_
  refine vD (fun _=>stepG_block) rfl ?_
  refine vD (fun _=>stepG_cond (t:=true) rfl) rfl ?_
  simp only[if_true]
  refine vD (fun _=>stepG_skip) rfl ?_
  refine vD (fun _=>stepG_inBlock) rfl ?_
  refine vD (fun _=>stepG_seq) rfl ?_
  refine vD (fun _=>stepG_seq) rfl ?_
  refine vD (fun _=>stepG_region) rfl ?_
  simp only[List.size_toArray,List.length_cons,List.length_nil,Nat.reduceAdd,Nat.zero_add,List.range,List.range.loop]
  refine kD rfl rfl (by decide) (fun w₂ h₂=>⟨by simp[go_sem,execOp,Act.eval];rfl,by simp[go_sem,execOp,Act.eval]⟩) ?_
  walk_nrm
  refine kD rfl rfl (by decide) (fun w₂ h₂=>⟨by simp[go_sem,execOp,Act.eval];rfl,by simp[go_sem,execOp,Act.eval]⟩) ?_
  walk_nrm
  refine kD rfl rfl (by decide) (fun w₂ h₂=>⟨by simp[go_sem,execOp,Act.eval];rfl,by simp[go_sem,execOp,Act.eval]⟩) ?_
  walk_nrm
  refine kD (v :=.chan (some c.grant)) rfl rfl (by decide) (fun w₂ h₂ =>?_) ?_
  ·obtain⟨n,told,hp⟩:=hK w₂ h₂
   obtain⟨hc,hz⟩:=yv hp 4
   simp only[waitsC]at hc
   exact⟨by simp[go_sem,execOp,Act.eval,hc,hz],fun ev he=>by
    simp[go_sem,execOp,Act.eval,hc,hz]at he
    subst he
    exact evC_read _ hS4 hB⟩
  walk_nrm
  refine vD (fun _=>stepG_region_end) rfl ?_
  refine vD (fun _=>stepG_region) rfl ?_
  simp only[List.size_toArray,List.length_cons,List.length_nil,Nat.reduceAdd,Nat.zero_add,List.range,List.range.loop]
  refine kD rfl rfl (by decide) (fun w₂ h₂=>⟨by simp[go_sem,execOp,Act.eval];rfl,by simp[go_sem,execOp,Act.eval]⟩) ?_
  walk_nrm
  refine kD rfl rfl (by decide) (fun w₂ h₂=>⟨by simp[go_sem,execOp,Act.eval];rfl,by simp[go_sem,execOp,Act.eval]⟩) ?_
  walk_nrm
  refine kD rfl rfl (by decide) (fun w₂ h₂=>⟨by simp[go_sem,execOp,Act.eval];rfl,by simp[go_sem,execOp,Act.eval]⟩) ?_
  walk_nrm
  refine kD (v :=.chan (some c.quit)) rfl rfl (by decide) (fun w₂ h₂ =>?_) ?_
  ·obtain⟨n,told,hp⟩:=hK w₂ h₂
   obtain⟨hc,hz⟩:=yv hp 5
   simp only[waitsC]at hc
   exact⟨by simp[go_sem,execOp,Act.eval,hc,hz],fun ev he=>by
    simp[go_sem,execOp,Act.eval,hc,hz]at he
    subst he
    exact evC_read _ hS5 hB⟩
  walk_nrm
  refine vD (fun _=>stepG_region_end) rfl ?_
  refine vD (fun _=>stepG_seq) rfl ?_
  refine vD (fun _=>stepG_region) rfl ?_
  simp only[List.size_toArray,List.length_cons,List.length_nil,Nat.reduceAdd,Nat.zero_add,List.range,List.range.loop]
  refine fun w₂ h₂=>⟨_,rfl,rfl,rfl,rfl,rfl,#[],by simp,fun w₃ h₃ =>?_⟩
  rw[stepG_comm rfl rfl (by decide) (cases:=seatCases c) (blocking:=true) (shape :=.select) (w':=w₃) (by simp[go_sem,execOp,Act.eval];rfl),listed_none (by simp[go_sem,execOp,Act.eval])]
  rfl
 case grant=>
  intro F₂ w₂ hl
  have hR₂:=hl.rep
  rw[served_fr,Frame.finish_at,xey]
  walk_nrm
  refine xO (v :=.int .i64 0) rfl rfl (by decide) (fun w₂ h₂=>⟨by simp[go_sem,execOp,Act.eval],by simp[go_sem,execOp,Act.eval]⟩) ?_
  walk_nrm
  refine xO (v :=.bool true) rfl rfl (by decide) (fun w₂ h₂=>⟨by simp[go_sem,execOp,Act.eval],by simp[go_sem,execOp,Act.eval]⟩) ?_
  walk_nrm
  refine xO (v :=.bool false) rfl rfl (by decide) (fun w₂ h₂=>⟨by simp[go_sem,execOp,Act.eval],by simp[go_sem,execOp,Act.eval]⟩) ?_
  walk_nrm
  refine xo (fun _=>stepG_region_end) rfl ?_
  refine xo (fun _=>stepG_block) rfl ?_
  refine xo (fun _=>stepG_cond (t:=true) rfl) rfl ?_
  simp only[if_true]
  refine xo (fun _=>stepG_seq) rfl ?_
  refine xo (fun _=>stepG_region) rfl ?_
  simp only[List.size_toArray,List.length_cons,List.length_nil,Nat.reduceAdd,Nat.zero_add,List.range,List.range.loop]
  refine xO (v :=.int .u64 e.v) rfl rfl (by decide) (fun w₂ h₂=>⟨by simp[go_sem,execOp,Act.eval],by simp[go_sem,execOp,Act.eval]⟩) ?_
  walk_nrm
  refine xO (v :=.int .u64 e.v) rfl rfl (by decide) (fun w₂ h₂=>⟨by simp[go_sem,execOp,Act.eval],by simp[go_sem,execOp,Act.eval]⟩) ?_
  walk_nrm
  refine xo (fun _=>stepG_region_end) rfl ?_
  refine xo (fun _=>stepG_seq) rfl ?_
  refine xo (fun _=>stepG_region) rfl ?_
  simp only[List.size_toArray,List.length_cons,List.length_nil,Nat.reduceAdd,Nat.zero_add,List.range,List.range.loop]
  refine xO rfl rfl (by decide) (fun w₂ h₂=>⟨by simp[go_sem,execOp,Act.eval];rfl,by simp[go_sem,execOp,Act.eval]⟩) ?_
  walk_nrm
  refine xO rfl rfl (by decide) (fun w₂ h₂=>⟨by simp[go_sem,execOp,Act.eval];rfl,by simp[go_sem,execOp,Act.eval]⟩) ?_
  walk_nrm
  refine xO rfl rfl (by decide) (fun w₂ h₂=>⟨by simp[go_sem,execOp,Act.eval];rfl,by simp[go_sem,execOp,Act.eval]⟩) ?_
  walk_nrm
  refine xO (v :=.int .i64 s.steps) rfl rfl (by decide) (fun w₃ h₃ =>?_) ?_
  ·obtain⟨told,hp⟩:=wl (hR₂.rely h₃)
   obtain⟨hc,hz⟩:=yv hp 1
   simp only[waitsC]at hc
   exact⟨by simp[go_sem,execOp,Act.eval,hc,hz],fun ev he=>by
    simp[go_sem,execOp,Act.eval,hc,hz]at he
    subst he
    exact wD (hR₂.rely h₃).lt_pb hR₂.ne⟩
  walk_nrm
  refine xO (v :=.int .i64 (IntKind.wrap .i64 (s.steps+1))) rfl rfl (by decide) (fun w₂ h₂=>⟨by simp[go_sem,execOp,Act.eval],by simp[go_sem,execOp,Act.eval]⟩) ?_
  walk_nrm
  refine xO rfl rfl (by decide) (fun w₂ h₂=>⟨by simp[go_sem,execOp,Act.eval];rfl,by simp[go_sem,execOp,Act.eval]⟩) ?_
  walk_nrm
  refine xO rfl rfl (by decide) (fun w₂ h₂=>⟨by simp[go_sem,execOp,Act.eval];rfl,by simp[go_sem,execOp,Act.eval]⟩) ?_
  walk_nrm
  refine WG rfl rfl (by decide) fun w₃ h₃ =>?_
  have hR₃:=hR₂.rely h₃
  obtain⟨told,hp⟩:=wl hR₃
  obtain⟨hc,hz⟩:=yv hp 1
  simp only[waitsC]at hc
  refine⟨w₃.setCell ⟨c.pb,1,none⟩ (.int .i64 (IntKind.wrap .i64 (s.steps+1))),by simp[go_sem,execOp,Act.eval,hc,hz],xfu hR₃ (fun ev he=>by
   have:=Kx.mem_seen he
   simp[go_sem,execOp,Act.eval,hc,hz,storedEv]at this
   rw[this]
   rfl),?_⟩
  walk_nrm
  refine xo (fun _=>stepG_region_end) rfl ?_
  refine xo (fun _=>stepG_seq) rfl ?_
  refine xo (fun _=>stepG_region) rfl ?_
  simp only[List.size_toArray,List.length_cons,List.length_nil,Nat.reduceAdd,Nat.zero_add,List.range,List.range.loop]
  refine xO (v :=.int .u64 e.v) rfl rfl (by decide) (fun w₂ h₂=>⟨by simp[go_sem,execOp,Act.eval],by simp[go_sem,execOp,Act.eval]⟩) ?_
  walk_nrm
  refine xO (v :=.int .u64 e.v) rfl rfl (by decide) (fun w₂ h₂=>⟨by simp[go_sem,execOp,Act.eval],by simp[go_sem,execOp,Act.eval]⟩) ?_
  walk_nrm
  refine xo (fun _=>stepG_region_end) rfl ?_
  refine xo (fun _=>stepG_ret') rfl ?_
  refine xo (fun w₄=>stepG_leave rfl rfl Tryz.func282 (results_tmp rfl _ _ _) (events_results_tmp rfl _ _)) rfl ?_
  have k1:Keeps F w w₃:=(hKW.trans hl.keeps fun b hb =>.inl hb).trans (Keeps.tb hR₂.tb h₃) fun b hb=>(hl.has b).1 hb |>.imp id fun h=>Nat.le_trans hKW.size h.1
  obtain⟨p1,p2,p3⟩:=qI (m:=IntKind.wrap .i64 (s.steps+1)) hp
  have k2:Keeps F w₃ (w₃.setCell ⟨c.pb,1,none⟩ (.int .i64 (IntKind.wrap .i64 (s.steps+1)))):=⟨rfl,rfl,rfl,Nat.le_of_eq p3.symm,fun b _ hn=>p2 b fun e=>hn (e▸hR.pb)⟩
  refine hc' F₂ _ (VY hR₃ (by simp[ho])) (k1.trans k2 fun b hb =>.inl hb) (fun b hb =>?_) hl.A
  rcases(hl.has b).1 hb with h|h
  ·exact .inl h
  ·exact .inr (Nat.le_trans hKW.size h.1)
 case quit=>
  intro F₂ w₂ hl
  rw[served_fr,Frame.finish_at,xft]
  walk_nrm
  refine xbx (v :=.int .i64 1) rfl rfl (by decide) (fun w₂=>⟨by simp[go_sem,execOp,Act.eval],by simp[go_sem,execOp,Act.eval]⟩) ?_
  walk_nrm
  refine xbx (v :=.bool false) rfl rfl (by decide) (fun w₂=>⟨by simp[go_sem,execOp,Act.eval],by simp[go_sem,execOp,Act.eval]⟩) ?_
  walk_nrm
  refine xbx (v :=.bool true) rfl rfl (by decide) (fun w₂=>⟨by simp[go_sem,execOp,Act.eval],by simp[go_sem,execOp,Act.eval]⟩) ?_
  walk_nrm
  refine yA (fun _=>stepG_region_end) rfl ?_
  refine yA (fun _=>stepG_block) rfl ?_
  refine yA (fun _=>stepG_cond (t:=false) rfl) rfl ?_
  simp only[if_false,Bool.false_eq_true,reduceIte]
  refine yA (fun _=>stepG_cond (t:=true) rfl) rfl ?_
  simp only[if_true]
  refine yA (fun _=>stepG_region) rfl ?_
  simp only[List.size_toArray,List.length_cons,List.length_nil,Nat.reduceAdd,Nat.zero_add,List.range,List.range.loop]
  refine xbx (v :=.agg #[]) rfl rfl (by decide) (fun w₂=>⟨by simp[go_sem,execOp,Act.eval],by simp[go_sem,execOp,Act.eval]⟩) ?_
  walk_nrm
  refine xbx (v :=.iface 148 (.agg #[])) rfl rfl (by decide) (fun w₂=>⟨by simp[go_sem,execOp,Act.eval,Instr.makeInterface,Tryz.underlying148],by simp[go_sem,execOp,Act.eval,Instr.makeInterface,Tryz.underlying148]⟩) ?_
  walk_nrm
  refine yA (fun w₄=>xaf rfl rfl (by decide) (v :=.iface 148 (.agg #[])) (by simp[go_sem,execOp,Act.eval,Instr.panic,goPanic]) (by simp[go_sem,execOp,Act.eval,Instr.panic,goPanic])) rfl ?_
  exact yA (fun w₄=>Xt rfl rfl ⟨_,_,_,rfl⟩ hp.2.2.1) rfl (hq F₂ w₂ hl.rep)
end Go.Proofs.YtealkpadijffoaaGreatDoor.Tx
namespace Go.Proofs.YtealkpadijffoaaGreatDoor.Tx
open Go Go.Conc Lx Kx
theorem ZR{name:String}{args:List V}{k:Nat}{l:List Int}(h:popOf name args=some (.ask k l)):False:=by
 unfold popOf at h
 (repeat' (split at h))<;>cases h
def primDo(c:WC)(f:FuncId)(s:WS)(F:Fo)(w:World)(vs:Array Value)(s':WS)(Post:Value->Fo->World->Prop):Prop:=
 f = 282 /\ ∃e L,vs = #[.pointer (some ⟨c.pb,0,none⟩),accV e.k e.at_ e.a e.b]/\RepW c s F w/\s.orc=e::L/\s.told=e.told/\s'=s.next L/\
  ∀F' w',RepW c (s.next L) F' w'->Keeps F w w'->(∀b,F' b->F b\/w.heap.size<=b)->F.A.le F'.A->Post (.int .u64 e.v) F' w'
theorem xfv{c:WC}{s:WS}{F:Fo}{w:World}(hR:RepW c s F w)(L:List Ask)(hL:s.orc ≠ []) : ∃w',RepW c (s.next L) F w'/\Keeps F w w':=by
 obtain⟨told,hp⟩:=wl hR
 obtain⟨_,p2,p3⟩:=qI (m:=IntKind.wrap .i64 (s.steps+1)) hp
 exact⟨_,VY hR hL,rfl,rfl,rfl,Nat.le_of_eq p3.symm,fun b _ hn=>p2 b fun e=>hn (e▸hR.pb)⟩
def JM(c:WC):KBase Tryz.prog WS where
 base:=xbw c
 step:=xdv
 Rep:=RepW c
 lt:=fun h=>h.lt
 stable:=fun h=>h.stable
 main:=false
 RF:=RFw c
 rRefl:=RFw.refl
 rKeeps:=fun h=>h.2.1.mono fun b hb=>hb.2
 rNew:=fun h b hb =>.inl (h.1▸hb)
 rRep:=fun h r=>h.rely r
 rTok:=fun h=>by rw[h.1]
 D:=Dw c
 dOwn:=xae
 meth:=fun {name args p s s' x F w vs} h h'=>by
  cases p<;>first|(cases h';done)|exact(ZR h).elim
 bad:=fun _=>false
 some_:=⟨0,rfl⟩
 prim:=primDo c
 primSome:=fun⟨_,e,L,_,hR,hLe,_,_,hp⟩=>by
  obtain⟨w',h1,h2⟩:=xfv hR L (by simp[hLe])
  exact⟨_,_,w',hp _ w' h1 h2 (fun b hb =>.inl hb) (Toks.le.refl _),Toks.le.refl _⟩
def tokB:Blk:=⟨[],0,false,some (.tok 0 0)⟩
def mDo:Sm:=fun
 | [.c (.ptr 0 0),.agg [.int .u8 k,.int .i64 at_,.int .u64 a,.int .u64 b]],[some ⟨[],0,false,some (.tok 0 0)⟩]=>
  some (mkS (List Int) (.op (.ask 0 [k,at_,a,b]) .ret) fun l=>match l with
   | [v]=>some (.c (.int .u64 v),[some tokB])
   | _=>none)
 | _,_=>none
theorem jj{q:Bool}{e:Env}{b:Nat} : ¬Own q e [some tokB] b:=by
 rintro ⟨i,k,r,h1,_,_,h4,_⟩
 match i,h1 with
 | 0,h1=>cases h1;cases h4
 | _+1,h1=>simp[blkAt]at h1
theorem emb_tok{pv:Pv}{e:Env}{w w':World}(E:Emb pv e [some tokB] w):Emb pv e [some tokB] w':=E.ofSame fun b hb=>(jj hb).elim
theorem emb_pb{c:WC}{s:WS}{F:Fo}{e:Env}{w w':World}(hR:RepW c s F w')(E:Emb ((JM c).pv F) e [some tokB] w) : ∃y,e[0]? = some (c.pb,y):=by
 obtain⟨r,cs,h1,_,h3,_⟩:=E.lies 0 tokB rfl
 obtain⟨h4,_⟩:=h3 0 0 rfl
 have:F.A.tok 0=some r.1:=h4
 rw[hR.tok]at this
 obtain⟨x,y⟩:=r
 cases this
 exact⟨y,h1⟩
theorem xfw(c:WC):xE (JM c) 282 mDo:=by
 refine⟨⟨_,_,Tryz.func282,by kernel_rfl,rfl⟩,fun args H S hm e w s F vs E hv hR hF x v H' s' hrun hfx =>?_⟩
 unfold mDo at hm
 split at hm
 rotate_left
 ·cases hm
 rename_i k at_ a b
 cases hm
 have E:Emb ((JM c).pv F) e [some tokB] w:=E
 obtain⟨y,hy⟩:=emb_pb hR E
 simp only[mkS,T.run,JM,xdv,WS.use]at hrun
 split at hrun
 rotate_left
 ·cases hrun
 rename_i x' s1 hu
 split at hu
 rotate_left
 ·cases hu
 rename_i e0 L hL
 split at hu
 rotate_left
 ·cases hu
 rename_i hok
 cases hu
 simp only[Bool.and_eq_true]at hok
 obtain⟨i1,i2,i3,i4⟩:=Ask.is_eq hok.1.2
 have i5:=(xad hok.2).symm
 simp only[T.run,oI,Prod.mk.injEq]at hrun
 obtain⟨rfl,rfl⟩:=hrun
 simp only[mkS,oI,Prod.mk.injEq]at hfx
 obtain⟨rfl,rfl⟩:=hfx
 simp only[allSome,denV,den,denL,hy,Option.map_some,oI]at hv
 subst hv
 intro O caller cs hp hk
 refine O.prim (Post:=fun rv F' w'=>rv = .int .u64 e0.v/\RepW c (s.next L) F' w'/\Keeps F w w'/\(∀b,F' b->F b\/w.heap.size<=b)/\F.A.le F'.A) ⟨rfl,e0,L,by rw[i1,i2,i3,i4];rfl,hR,hL,i5,rfl,fun F' w' h1 h2 h3 h4=>⟨rfl,h1,h2,h3,h4⟩⟩ caller cs hp fun rv F' w' ⟨h0,h1,h2,h3,h4⟩ h5 =>?_
 subst h0
 refine hk _ F' w' ⟨h5,e,Ext.refl e,rfl,emb_tok (E.grow h5),h1,fun b hb=>(jj hb).elim,h2.mono fun b hb =>.inr hb,fun q b hb=>hb.elim (fun h=>(jj h).elim) fun h =>.inr (h3 b h)⟩
noncomputable def knM:yc:=fun f=>if f = 282 then some mDo else none
theorem known_m(c:WC) : ∀f m,knM f=some m->xE (JM c) f m:=fun f m h=>by
 unfold knM at h
 split at h
 ·rename_i e;subst e;cases h;exact xfw c
 ·cases h
def qT(t:T (V×Heap))(v:Int):Option (List Int×(V×Heap)):=match t with
 | .op (.ask 0 l) k=>match k [v] with
  | .ret r=>some (l,r)
  | _=>none
 | _=>none
theorem ask_run{t:T (V×Heap)}{v:Int}{l:List Int}{r:V×Heap}(h:qT t v=some (l,r)){s:WS}{L:List Ask}{e:Ask}(ho:s.orc=e::L)(hv:e.v=v)(hu : ∃k at_ a b,l = [k,at_,a,b]/\(okU e.v&&e.is k at_ a b&&eqT e.told s.told)=true):t.run xdv s=some (r,s.next L):=by
 unfold qT at h
 split at h
 ·rename_i l' k'
  split at h
  ·rename_i r' hr
   cases h
   obtain⟨k,at_,a,b,rfl,hu⟩:=hu
   simp only[T.run,xdv,WS.use,ho,hu,if_true]
   rw[hv,hr]
   rfl
  ·cases h
 ·cases h
theorem xcB (c:WC) {f:FuncId} {fn:Func} (hf : Tryz.prog.funcs[f]? = some fn) (hname:(fn.name == "runtime.NumGoroutine")=false) (hbody:fn.body.isSome=true) {args:List V} {vs:List Value} {k at_ a b v:Int} {R:Int->V} {rv:Value} {s:WS} {F:Fo} {w:World} {L:List Ask} {e:Ask}
  (ht:qT (evF Tryz.prog knM 20 fn (.c (.ptr 0 0)::args) [some tokB]) v=some ([k,at_,a,b],(R v,[some tokB]))) (hR:RepW c s F w) (hv : ∀e,allSome (denV undef e) args=some vs) (ho:s.orc=e::L) (he:e.v=v) (hu:(okU e.v&&e.is k at_ a b&&eqT e.told s.told)=true) (hr : ∀e,denV (pvW c) e (R v)=some rv) (hp : ∀e,allSome (denV (pvW c) e) args=allSome (denV undef e) args) :
  KCalls (JM c) f (#[.pointer (some ⟨c.pb,0,none⟩)]++vs.toArray) s F w (s.next L) fun rv' F' w'=>rv'=rv/\RepW c (s.next L) F' w'/\Keeps F w w'/\(∀b,F' b->F b\/w.heap.size<=b)/\F.A.le F'.A:=by
 have h:=wz (known_m c) yV wj (by kernel_rfl) (J:=JM c) (f:=f) rfl hf hname hbody 20
 have hE:Emb ((JM c).pv F) [(c.pb,0)] [some tokB] w:=by
  refine⟨rfl,fun i k hk =>?_,fun i j k k' r r' h1 h2 _ _ _ v1 =>?_,fun i k hk =>?_⟩
  ·match i,hk with
   | 0,hk=>cases hk;exact⟨(c.pb,0),[],rfl,rfl,fun id n ht=>by cases ht;exact⟨hR.tok,.inl rfl⟩,.inl rfl⟩
   | _+1,hk=>simp[blkAt]at hk
  ·match i,h1 with
   | 0,h1=>cases h1;cases v1
   | _+1,h1=>simp[blkAt]at h1
  ·match i,hk with
   | 0,hk=>cases hk;intro t ht hq;rfl
   | _+1,hk=>simp[blkAt]at hk
 have hrun:=ask_run ht ho he ⟨k,at_,a,b,rfl,hu⟩
 have hvs:allSome (denV ((JM c).pv F) [(c.pb,0)]) (.c (.ptr 0 0)::args)=some (.pointer (some ⟨c.pb,0,none⟩)::vs):=by
  have h1:=hv [(c.pb,0)]
  rw[<- hp]at h1
  have h1:allSome (denV ((JM c).pv F) [(c.pb,0)]) args=some vs:=h1
  simp only[allSome,h1]
  rfl
 have key:=h.2 (.c (.ptr 0 0)::args) [some tokB] _ rfl [(c.pb,0)] w s F (.pointer (some ⟨c.pb,0,none⟩)::vs) hE hvs hR (fun b hb=>(jj hb).elim) (R v,[some tokB]) (R v) [some tokB] (s.next L) hrun rfl
 have e:(Value.pointer (some ⟨c.pb,0,none⟩)::vs).toArray = #[Value.pointer (some ⟨c.pb,0,none⟩)]++vs.toArray:=by simp
 rw[e]at key
 refine key.mono fun rv' F' w' ⟨hA,e',_,h2,_,h4,_,h6,h7⟩ =>?_
 have:denV (pvW c) e' (R v)=some rv':=h2
 rw[hr e']at this
 refine⟨(Option.some.inj this).symm,h4,h6.mono fun b hb=>hb.elim (fun h=>(jj h).elim) id,fun b hb =>?_,hA⟩
 rcases h7 true b (.inr hb)with h|h
 ·exact(jj h).elim
 ·exact h
variable(at_ a b v:Int)
theorem t_load:qT (evF Tryz.prog knM 20 Tryz.f276 [.c (.ptr 0 0),.c (.int .i64 at_)] [some tokB]) v=some ([1,at_,0,0],(.c (.int .u64 v),[some tokB])):=by kernel_rfl
theorem t_store:qT (evF Tryz.prog knM 20 Tryz.f280 [.c (.ptr 0 0),.c (.int .i64 at_),.c (.int .u64 a)] [some tokB]) v=some ([2,at_,a,0],(.tup [],[some tokB])):=by kernel_rfl
theorem t_cas:qT (evF Tryz.prog knM 20 Tryz.f274 [.c (.ptr 0 0),.c (.int .i64 at_),.c (.int .u64 a),.c (.int .u64 b)] [some tokB]) v=some ([3,at_,a,b],(.c (.bool (v != 0)),[some tokB])):=by kernel_rfl
theorem t_add:qT (evF Tryz.prog knM 20 Tryz.f273 [.c (.ptr 0 0),.c (.int .i64 at_),.c (.int .u64 a)] [some tokB]) v=some ([4,at_,a,0],(.c (.int .u64 v),[some tokB])):=by kernel_rfl
theorem t_get:qT (evF Tryz.prog knM 20 Tryz.f275 [.c (.ptr 0 0),.c (.int .i64 at_)] [some tokB]) v=some ([5,at_,0,0],(.c (.int .u8 (IntKind.wrap .u8 v)),[some tokB])):=by kernel_rfl
theorem t_put:qT (evF Tryz.prog knM 20 Tryz.f277 [.c (.ptr 0 0),.c (.int .i64 at_),.c (.int .u8 a)] [some tokB]) v=some ([6,at_,IntKind.wrap .u64 a,0],(.tup [],[some tokB])):=by kernel_rfl
end Go.Proofs.YtealkpadijffoaaGreatDoor.Tx
namespace Go.Proofs.YtealkpadijffoaaGreatDoor.Tx
open Go Go.Conc Lx Kx
variable{c:WC}{rv:List Value}{tf:Option (List C)}{s s':WS}{F:Fo}{g g':Goroutine}{w w':World}
theorem self_ok(hR:RepW c s F w)(caller:Frame)(cs:List Frame)(hc:WOk c rv tf s F (G (caller.finish (.int .i64 c.self)) cs) w):WOk c rv tf s F (G (Frame.enter Tryz.prog 278 #[.pointer (some ⟨c.pb,0,none⟩)] .normal) (caller::cs)) w:=by
 rw[enter_at _ Tryz.func278 (by rfl)]
 simp only[Tryz.f278]
 refine xo (fun _=>stepG_seq) rfl ?_
 refine xo (fun _=>stepG_region) rfl ?_
 simp only[List.size_toArray,List.length_cons,List.length_nil,Nat.reduceAdd,Nat.zero_add,List.range,List.range.loop]
 refine xO (v :=.int .i64 0) rfl rfl (by decide) (fun w₂ h₂=>⟨by simp[go_sem,execOp,Act.eval],by simp[go_sem,execOp,Act.eval]⟩) ?_
 walk_nrm
 refine xo (fun _=>stepG_region_end) rfl ?_
 refine xo (fun _=>stepG_seq) rfl ?_
 refine xo (fun _=>stepG_region) rfl ?_
 simp only[List.size_toArray,List.length_cons,List.length_nil,Nat.reduceAdd,Nat.zero_add,List.range,List.range.loop]
 refine xO rfl rfl (by decide) (fun w₂ h₂=>⟨by simp[go_sem,execOp,Act.eval];rfl,by simp[go_sem,execOp,Act.eval]⟩) ?_
 walk_nrm
 refine xO rfl rfl (by decide) (fun w₂ h₂=>⟨by simp[go_sem,execOp,Act.eval];rfl,by simp[go_sem,execOp,Act.eval]⟩) ?_
 walk_nrm
 refine xO rfl rfl (by decide) (fun w₂ h₂=>⟨by simp[go_sem,execOp,Act.eval];rfl,by simp[go_sem,execOp,Act.eval]⟩) ?_
 walk_nrm
 refine xO (v :=.int .i64 c.self) rfl rfl (by decide) (fun w₂ h₂ =>?_) ?_
 ·obtain⟨told,hp⟩:=wl (hR.rely h₂)
  obtain⟨hc,hz⟩:=yv hp 0
  simp only[waitsC]at hc
  exact⟨by simp[go_sem,execOp,Act.eval,hc,hz],fun e he=>by
   simp[go_sem,execOp,Act.eval,hc,hz]at he
   subst he
   exact wD (hR.rely h₂).lt_pb hR.ne⟩
 walk_nrm
 refine xO (v :=.int .i64 c.self) rfl rfl (by decide) (fun w₂ h₂=>⟨by simp[go_sem,execOp,Act.eval],by simp[go_sem,execOp,Act.eval]⟩) ?_
 walk_nrm
 refine xo (fun _=>stepG_region_end) rfl ?_
 refine xo (fun _=>stepG_ret') rfl ?_
 refine xo (fun w₄=>stepG_leave rfl rfl Tryz.func278 (results_tmp rfl _ _ _) (events_results_tmp rfl _ _)) rfl ?_
 exact hc
theorem xfx(hR:RepW c s F w)(caller:Frame)(cs:List Frame)(hc:WOk c rv tf s F (G (caller.finish (.int .i64 s.steps)) cs) w):WOk c rv tf s F (G (Frame.enter Tryz.prog 279 #[.pointer (some ⟨c.pb,0,none⟩)] .normal) (caller::cs)) w:=by
 rw[enter_at _ Tryz.func279 (by rfl)]
 simp only[Tryz.f279]
 refine xo (fun _=>stepG_seq) rfl ?_
 refine xo (fun _=>stepG_region) rfl ?_
 simp only[List.size_toArray,List.length_cons,List.length_nil,Nat.reduceAdd,Nat.zero_add,List.range,List.range.loop]
 refine xO (v :=.int .i64 0) rfl rfl (by decide) (fun w₂ h₂=>⟨by simp[go_sem,execOp,Act.eval],by simp[go_sem,execOp,Act.eval]⟩) ?_
 walk_nrm
 refine xo (fun _=>stepG_region_end) rfl ?_
 refine xo (fun _=>stepG_seq) rfl ?_
 refine xo (fun _=>stepG_region) rfl ?_
 simp only[List.size_toArray,List.length_cons,List.length_nil,Nat.reduceAdd,Nat.zero_add,List.range,List.range.loop]
 refine xO rfl rfl (by decide) (fun w₂ h₂=>⟨by simp[go_sem,execOp,Act.eval];rfl,by simp[go_sem,execOp,Act.eval]⟩) ?_
 walk_nrm
 refine xO rfl rfl (by decide) (fun w₂ h₂=>⟨by simp[go_sem,execOp,Act.eval];rfl,by simp[go_sem,execOp,Act.eval]⟩) ?_
 walk_nrm
 refine xO rfl rfl (by decide) (fun w₂ h₂=>⟨by simp[go_sem,execOp,Act.eval];rfl,by simp[go_sem,execOp,Act.eval]⟩) ?_
 walk_nrm
 refine xO (v :=.int .i64 s.steps) rfl rfl (by decide) (fun w₂ h₂ =>?_) ?_
 ·obtain⟨told,hp⟩:=wl (hR.rely h₂)
  obtain⟨hc,hz⟩:=yv hp 1
  simp only[waitsC]at hc
  exact⟨by simp[go_sem,execOp,Act.eval,hc,hz],fun e he=>by
   simp[go_sem,execOp,Act.eval,hc,hz]at he
   subst he
   exact wD (hR.rely h₂).lt_pb hR.ne⟩
 walk_nrm
 refine xO (v :=.int .i64 s.steps) rfl rfl (by decide) (fun w₂ h₂=>⟨by simp[go_sem,execOp,Act.eval],by simp[go_sem,execOp,Act.eval]⟩) ?_
 walk_nrm
 refine xo (fun _=>stepG_region_end) rfl ?_
 refine xo (fun _=>stepG_ret') rfl ?_
 refine xo (fun w₄=>stepG_leave rfl rfl Tryz.func279 (results_tmp rfl _ _ _) (events_results_tmp rfl _ _)) rfl ?_
 exact hc
theorem WH{n:Int}{told v:Value}(hp:w.heap[c.pb]? = some (waitsO c n told)):(w.setCell ⟨c.pb,2,none⟩ v).heap[c.pb]? = some (waitsO c n v)/\(∀x,x≠c.pb->(w.setCell ⟨c.pb,2,none⟩ v).heap[x]? = w.heap[x]?)/\(w.setCell ⟨c.pb,2,none⟩ v).heap.size=w.heap.size:=by
 refine⟨?_,fun x hx =>?_,?_⟩
 ·simp[World.setCell,Array.getElem?_modify,hp,waitsO,waitsC]
 ·show(w.heap.modify c.pb _)[x]? = _
  rw[Array.getElem?_modify,if_neg fun h=>hx h.symm]
 ·simp[World.setCell]
theorem Xu(P:Program)(w:World)(es:Array Event)(a:Addr)(m:Mode)(p:Option Addr):(store a (.pointer p) m).events P w es=storedEv P w es a (.pointer p) m:=events_store P w es a _ m rfl
theorem dw_told(hR:RepW c s F w){v:Value}{es:Array Event}(he : ∀e∈es,e=⟨.cell ⟨c.pb,2,none⟩,true,false⟩):Dw c F w (w.setCell ⟨c.pb,2,none⟩ v) es:=fun _ _ _=>by
 obtain⟨told,hp,ht⟩:=hR.obj
 obtain⟨h1,h2,h3⟩:=WH (v:=v) hp
 refine⟨⟨rfl,rfl,rfl,Nat.le_of_eq h3.symm,fun b _ hn=>h2 b fun e=>hn (.inr (.inl e))⟩,fun _=>⟨_,v,h1⟩,fun pre r x=>⟨r,x.1,by rw[h2 _ fun e=>hR.nw e.symm];exact x.2⟩,fun e hm =>?_⟩
 rw[he e hm]
 exact⟨by rw[h3];exact hR.lt_pb,hR.ne,fun _ =>.inr (.inl ⟨rfl,by simp[xcz]⟩)⟩
theorem tell_ok(hR:RepW c s F w){r:List C}{vals:List Value}(hr:denL undef [] r=some vals)(caller:Frame)(cs:List Frame)(hc : ∀F' w',RepW c (s.tell r) F' w'->Keeps F w w'->(∀b,F' b->F b\/w.heap.size<=b)->F'.A=F.A->WOk c rv tf (s.tell r) F' (G (caller.finish (.tuple #[])) cs) w'):WOk c rv tf s F (G (Frame.enter Tryz.prog 281 #[.pointer (some ⟨c.pb,0,none⟩),.agg vals.toArray] .normal) (caller::cs)) w:=by
 rw[enter_at _ Tryz.func281 (by rfl)]
 simp only[Tryz.f281]
 refine xo (fun _=>stepG_seq) rfl ?_
 refine xo (fun _=>stepG_region) rfl ?_
 simp only[List.size_toArray,List.length_cons,List.length_nil,Nat.reduceAdd,Nat.zero_add,List.range,List.range.loop]
 refine ZQ rfl rfl (by decide) fun w₁ h₁=>⟨.pointer (some ⟨w₁.heap.size,0,none⟩),w₁.alloc (.cells vals.toArray 35),by simp[execOp,Act.eval,Instr.box,newVar,newRow,Value.cells],?_,?_⟩
 ·refine qo fun e he =>?_
  simp[execOp,Act.eval,Instr.box,newVar,newRow]at he
 have hR₁:=hR.rely h₁
 have hx:(w₁.alloc (.cells vals.toArray 35)).heap[w₁.heap.size]? = some (.cells vals.toArray 35 (0,0)):=heap_alloc_new _ _
 have hR₂:RepW c s F (w₁.alloc (.cells vals.toArray 35)):=hR₁.stable fun b hb=>alloc_old (hR₁.lt b hb)
 have hNF : ∀b,F b->b≠w₁.heap.size:=fun b hb e=>by have:=hR₁.lt _ hb;omega
 have hKW:Keeps F w (w₁.alloc (.cells vals.toArray 35)):=(Keeps.tb hR.tb h₁).trans (S':=fun _=>False) ⟨rfl,rfl,rfl,by rw[World.size_alloc];omega,fun b hb _=>alloc_old hb⟩ (fun b hb=>hb.elim)
 have hsz:w.heap.size<=w₁.heap.size:=Nat.le_of_eq h₁.2.2.symm
 generalize hW:w₁.alloc (.cells vals.toArray 35)=W at hx hR₂ hKW |-
 generalize hN:w₁.heap.size=N at hx hNF hsz |-
 have hNW:N<W.heap.size:=(Array.getElem?_eq_some_iff.1 hx).1
 clear hW hN hR₁ h₁ hR
 have hR:=hR₂
 clear hR₂
 walk_nrm
 refine xo (fun _=>stepG_region_end) rfl ?_
 refine xo (fun _=>stepG_region) rfl ?_
 simp only[List.size_toArray,List.length_cons,List.length_nil,Nat.reduceAdd,Nat.zero_add,List.range,List.range.loop]
 refine xO rfl rfl (by decide) (fun w₂ h₂=>⟨by simp[go_sem,execOp,Act.eval];rfl,by simp[go_sem,execOp,Act.eval]⟩) ?_
 walk_nrm
 refine xO rfl rfl (by decide) (fun w₂ h₂=>⟨by simp[go_sem,execOp,Act.eval];rfl,by simp[go_sem,execOp,Act.eval]⟩) ?_
 walk_nrm
 refine xO rfl rfl (by decide) (fun w₂ h₂=>⟨by simp[go_sem,execOp,Act.eval];rfl,by simp[go_sem,execOp,Act.eval]⟩) ?_
 walk_nrm
 refine WG rfl rfl (by decide) fun w₃ h₃ =>?_
 have hR₃:=hR.rely h₃
 obtain⟨told,hp⟩:=wl hR₃
 obtain⟨hc₂,hz⟩:=yv hp 2
 simp only[waitsC]at hc₂
 obtain⟨p1,p2,p3⟩:=WH (v :=.pointer (some ⟨N,0,none⟩)) hp
 have hx₃:(w₃.setCell ⟨c.pb,2,none⟩ (.pointer (some ⟨N,0,none⟩))).heap[N]? = some (.cells vals.toArray 35 (0,0)):=by
  rw[p2 N (fun e=>hNF c.pb hR.pb e.symm),h₃.2.1.block N hNW (fun z=>hNF _ z.2 rfl)]
  exact hx
 have k1:Keeps F w w₃:=hKW.trans (Keeps.tb hR.tb h₃) fun b hb =>.inl hb
 have k2:Keeps F w₃ (w₃.setCell ⟨c.pb,2,none⟩ (.pointer (some ⟨N,0,none⟩))):=⟨rfl,rfl,rfl,Nat.le_of_eq p3.symm,fun b _ hn=>p2 b fun e=>hn (e▸hR.pb)⟩
 refine⟨w₃.setCell ⟨c.pb,2,none⟩ (.pointer (some ⟨N,0,none⟩)),by simp[go_sem,execOp,Act.eval,hc₂,hz],dw_told hR₃ (fun e he=>by
  have:=Kx.mem_seen he
  simp[go_sem,execOp,Act.eval,hc₂,hz,storedEv,Xu]at this
  rw[this]
  rfl),?_⟩
 have hcN:F.A.cap N=none:=by
  cases h:F.A.cap N with
  | none=>rfl
  | some y=>exact absurd rfl (hNF _ (hR.ml _ y h))
 have hR':RepW c (s.tell r) ⟨fun b=>F b\/b=N,F.A⟩ (w₃.setCell ⟨c.pb,2,none⟩ (.pointer (some ⟨N,0,none⟩))):=
  ⟨fun b hb=>hb.elim (fun h=>by rw[p3];exact hR₃.lt b h) (fun h=>by subst h;exact(Array.getElem?_eq_some_iff.1 hx₃).1),.inl hR.tb,.inl hR.pb,.inl hR.wb,hR.ne,hR.nw,hR.wt,hR.tok,fun b y h =>.inl (hR.ml b y h),hR₃.cap.same .inl (p2 _ hR.cap.p),hR₃.dn.same .inl (p2 _ hR.dn.p),hR₃.wk.imp fun pre ⟨r,y,z⟩=>⟨r,⟨y.1,by rw[p2 _ hR.nw.symm];exact y.2⟩,z⟩,_,p1,N,vals,rfl,⟨.inr rfl,hcN⟩,(hNF _ hR.tb).symm,(hNF _ hR.pb).symm,(hNF _ hR.wb).symm,hr,hx₃⟩
 have key:=hc ⟨fun b=>F b\/b=N,F.A⟩ _ hR' (k1.trans k2 fun b hb =>.inl hb) (fun b hb=>hb.imp id fun h=>by subst h;exact hsz) rfl
 walk_nrm
 refine xo (fun _=>stepG_region_end) rfl ?_
 refine xo (fun _=>stepG_end) rfl ?_
 refine xo (fun w₄=>stepG_leave rfl rfl Tryz.func281 (results_none rfl _ _ _) (events_results_none rfl _ _)) rfl ?_
 exact .tell r (.give (F':=⟨fun b=>F b\/b=N,F.A⟩) (fun b hb =>.inl hb) (fun b hb=>hb.imp id fun h=>by subst h;exact(Array.getElem?_eq_some_iff.1 hx₃).1) rfl key)
end Go.Proofs.YtealkpadijffoaaGreatDoor.Tx
namespace Go.Proofs.YtealkpadijffoaaGreatDoor.Tx
open Go Go.Conc Lx Kx
variable{c:WC}{rv:List Value}{tf:Option (List C)}{s s':WS}{F:Fo}{g g':Goroutine}{w w':World}
def recvW(c:WC):Value :=.pointer (some ⟨c.pb,0,none⟩)
def fOf:POp->FuncId
 | .load _=> 276
 | .store _ _=> 280
 | .cas _ _ _=> 274
 | .add _ _=> 273
 | .get _=> 275
 | .put _ _=> 277
 | .self=> 278
 | .steps=> 279
 | .tell _=> 281
 | .ask _ _=>0
def kS(c:WC)(name:String)(f:FuncId):Prop :=∀ (args:List Value) (w:World),(callMethod (pvW c) name args.toArray).run Tryz.prog w = .ok (.enter f (#[recvW c]++args.toArray)) w/\(callMethod (pvW c) name args.toArray).events Tryz.prog w #[] = #[]
theorem w_load(c:WC):kS c "Load" 276 :=fun args w=>⟨by kernel_rfl,by kernel_rfl⟩
theorem w_store(c:WC):kS c "Store" 280 :=fun args w=>⟨by kernel_rfl,by kernel_rfl⟩
theorem w_cas(c:WC):kS c "CAS" 274 :=fun args w=>⟨by kernel_rfl,by kernel_rfl⟩
theorem w_add(c:WC):kS c "Add" 273 :=fun args w=>⟨by kernel_rfl,by kernel_rfl⟩
theorem w_get(c:WC):kS c "Get" 275 :=fun args w=>⟨by kernel_rfl,by kernel_rfl⟩
theorem w_put(c:WC):kS c "Put" 277 :=fun args w=>⟨by kernel_rfl,by kernel_rfl⟩
theorem w_self(c:WC):kS c "Self" 278 :=fun args w=>⟨by kernel_rfl,by kernel_rfl⟩
theorem w_steps(c:WC):kS c "Steps" 279 :=fun args w=>⟨by kernel_rfl,by kernel_rfl⟩
theorem w_tell(c:WC):kS c "Tell" 281 :=fun args w=>⟨by kernel_rfl,by kernel_rfl⟩
def jI(name:String)(args:List V):POp->Prop
 | .load a=>name = "Load" /\ args = [.c (.int .i64 a)]
 | .store a b=>name = "Store" /\ args = [.c (.int .i64 a),.c (.int .u64 b)]
 | .cas a b d=>name = "CAS" /\ args = [.c (.int .i64 a),.c (.int .u64 b),.c (.int .u64 d)]
 | .add a b=>name = "Add" /\ args = [.c (.int .i64 a),.c (.int .u64 b)]
 | .get a=>name = "Get" /\ args = [.c (.int .i64 a)]
 | .put a b=>name = "Put" /\ args = [.c (.int .i64 a),.c (.int .u8 b)]
 | .self=>name = "Self" /\ args = []
 | .steps=>name = "Steps" /\ args = []
 | .tell l=>name = "Tell" /\ args = [.agg l]/\l.all ku=true
 | .ask _ _=>False
theorem xcC{name:String}{args:List V}{p:POp}(h:popOf name args=some p):jI name args p:=by
 unfold popOf at h
 split at h
 all_goals (repeat' (split at h))
 all_goals first
  | (cases h;done)
  | (cases h;first|exact⟨‹_›,rfl⟩|exact⟨‹_›,rfl,‹_›⟩)
theorem xfy{name:String}{args:List V}{p:POp}(h:popOf name args=some p):kS c name (fOf p):=by
 have:=xcC h
 cases p<;>simp only[jI]at this
 ·rw[this.1];exact w_load c
 ·rw[this.1];exact w_store c
 ·rw[this.1];exact w_cas c
 ·rw[this.1];exact w_add c
 ·rw[this.1];exact w_get c
 ·rw[this.1];exact w_put c
 ·rw[this.1];exact w_self c
 ·rw[this.1];exact w_steps c
 ·rw[this.1];exact w_tell c
theorem vf{α:Type}{k at_ a b:Int}{f:Int->α}{x:α}(h:s.use k at_ a b f=some (x,s')) : ∃e L,s.orc=e::L/\(okU e.v&&e.is k at_ a b&&eqT e.told s.told)=true/\x=f e.v/\s'=s.next L:=by
 unfold WS.use at h
 split at h
 ·rename_i v L hL
  split at h
  ·rename_i hu;cases h;exact⟨v,L,hL,hu,rfl,rfl⟩
  ·cases h
 ·cases h
theorem xby{c:WC}{l:List C}(hf:l.all ku=true){vs:List Value}(hv:allSome (denV (pvW c) []) [.agg l]=some vs) : ∃vals,denL undef [] l=some vals/\vs = [.agg vals.toArray]:=by
 simp only[allSome]at hv
 split at hv
 ·rename_i y hy
  simp only[denV,oM]at hy
  obtain⟨vals,h1,rfl⟩:=hy
  cases hv
  exact⟨vals,by rw[Xc (pv:=pvW c) (e :=[]) hf];exact h1,rfl⟩
 ·cases hv
theorem xfz(hR:RepW c s F w){r:List C}{vals:List Value}(hr:denL undef [] r=some vals) : ∃F' w',RepW c (s.tell r) F' w'/\Keeps F w w'/\(∀b,F' b->F b\/w.heap.size<=b)/\F'.A=F.A:=by
 have hR₂:RepW c s F (w.alloc (.cells vals.toArray 35)):=hR.stable fun b hb=>alloc_old (hR.lt b hb)
 have hx:(w.alloc (.cells vals.toArray 35)).heap[w.heap.size]? = some (.cells vals.toArray 35 (0,0)):=heap_alloc_new _ _
 have hNF : ∀b,F b->b≠w.heap.size:=fun b hb e=>by have:=hR.lt _ hb;omega
 have hcN:F.A.cap w.heap.size=none:=by
  cases h:F.A.cap w.heap.size with
  | none=>rfl
  | some y=>exact absurd rfl (hNF _ (hR.ml _ y h))
 have k1:Keeps F w (w.alloc (.cells vals.toArray 35)):=⟨rfl,rfl,rfl,by rw[World.size_alloc];omega,fun b hb _=>alloc_old hb⟩
 obtain⟨told,hp⟩:=wl hR₂
 obtain⟨p1,p2,p3⟩:=WH (v :=.pointer (some ⟨w.heap.size,0,none⟩)) hp
 have k2:Keeps F w ((w.alloc (.cells vals.toArray 35)).setCell ⟨c.pb,2,none⟩ (.pointer (some ⟨w.heap.size,0,none⟩))):=k1.trans (S':=F) ⟨rfl,rfl,rfl,Nat.le_of_eq p3.symm,fun b _ hn=>p2 b fun e=>hn (e▸hR.pb)⟩ fun b hb =>.inl hb
 have hx':=hx
 rw[<- p2 _ (fun e=>hNF c.pb hR.pb e.symm)]at hx'
 exact⟨⟨fun b=>F b\/b=w.heap.size,F.A⟩,_,⟨fun b hb=>hb.elim (fun h=>by rw[p3];exact hR₂.lt b h) (fun h=>by subst h;exact(Array.getElem?_eq_some_iff.1 hx').1),.inl hR.tb,.inl hR.pb,.inl hR.wb,hR.ne,hR.nw,hR.wt,hR.tok,fun b y h =>.inl (hR.ml b y h),hR₂.cap.same .inl (p2 _ hR.cap.p),hR₂.dn.same .inl (p2 _ hR.dn.p),hR₂.wk.imp fun pre ⟨r,y,z⟩=>⟨r,⟨y.1,by rw[p2 _ hR.nw.symm];exact y.2⟩,z⟩,_,p1,w.heap.size,vals,rfl,⟨.inr rfl,hcN⟩,(hNF _ hR.tb).symm,(hNF _ hR.pb).symm,(hNF _ hR.wb).symm,hr,hx'⟩,k2,fun b hb=>hb.imp id fun h=>by omega,rfl⟩
def JW(c:WC):KBase Tryz.prog WS where
 base:=xbw c
 step:=stepW c
 Rep:=RepW c
 lt:=fun h=>h.lt
 stable:=fun h=>h.stable
 main:=false
 RF:=RFw c
 rRefl:=RFw.refl
 rKeeps:=fun h=>h.2.1.mono fun b hb=>hb.2
 rNew:=fun h b hb =>.inl (h.1▸hb)
 rRep:=fun h r=>h.rely r
 rTok:=fun h=>by rw[h.1]
 D:=Dw c
 dOwn:=xae
 meth:=fun {name args p s s' x F w vs} h h' hv hR=>by
  refine⟨fOf p,recvW c,?_⟩
  have hm:=xfy (c:=c) h
  have key : ∃rv,Flat (xbw c).pv (ansV p x) rv/\ ∃F' w',RepW c s' F' w'/\Keeps F w w'/\(∀b,F' b->F b\/w.heap.size<=b)/\F.A.le F'.A:=by
   have acc : ∀ (L:List Ask),s.orc ≠ []->s'=s.next L ->∃F' w',RepW c s' F' w'/\Keeps F w w'/\(∀b,F' b->F b\/w.heap.size<=b)/\F.A.le F'.A:=fun L hL e=>by
    obtain⟨w',h1,h2⟩:=xfv hR L hL
    exact⟨F,w',e▸h1,h2,fun b hb =>.inl hb,Toks.le.refl _⟩
   cases p with
   | self=>simp only[stepW,oI,Prod.mk.injEq]at h';obtain⟨rfl,rfl⟩:=h';exact⟨_,fun e=>rfl,F,w,hR,Keeps.refl _ w,fun b hb =>.inl hb,Toks.le.refl _⟩
   | steps=>simp only[stepW,oI,Prod.mk.injEq]at h';obtain⟨rfl,rfl⟩:=h';exact⟨_,fun e=>rfl,F,w,hR,Keeps.refl _ w,fun b hb =>.inl hb,Toks.le.refl _⟩
   | tell l=>
    change some ((),s.tell l)=some (x,s')at h'
    cases h'
    have hp:=xcC h
    simp only[jI]at hp
    obtain⟨vals,h1,_⟩:=xby (c:=c) hp.2.2 (by rw[<- hp.2.1];exact hv)
    obtain⟨F',w',a1,a2,a3,a4⟩:=xfz hR h1
    exact⟨_,fun e=>rfl,F',w',a1,a2,a3,by rw[a4];exact Toks.le.refl _⟩
   | ask k l=>cases h'
   | load i=>obtain⟨v,L,hL,_,rfl,e⟩:=vf (show s.use 1 i 0 0 id=some (x,s')from h');exact⟨_,fun e=>rfl,acc L (by simp[hL]) e⟩
   | store i y=>obtain⟨v,L,hL,_,_,e⟩:=vf (show s.use 2 i y 0 (fun _=>())=some (x,s')from h');exact⟨_,fun e=>rfl,acc L (by simp[hL]) e⟩
   | cas i y z=>obtain⟨v,L,hL,_,rfl,e⟩:=vf (show s.use 3 i y z (fun v=>v != 0)=some (x,s')from h');exact⟨_,fun e=>rfl,acc L (by simp[hL]) e⟩
   | add i y=>obtain⟨v,L,hL,_,rfl,e⟩:=vf (show s.use 4 i y 0 id=some (x,s')from h');exact⟨_,fun e=>rfl,acc L (by simp[hL]) e⟩
   | get i=>obtain⟨v,L,hL,_,rfl,e⟩:=vf (show s.use 5 i 0 0 (fun v=>IntKind.wrap .u8 v)=some (x,s')from h');exact⟨_,fun e=>rfl,acc L (by simp[hL]) e⟩
   | put i y=>obtain⟨v,L,hL,_,_,e⟩:=vf (show s.use 6 i (IntKind.wrap .u64 y) 0 (fun _=>())=some (x,s')from h');exact⟨_,fun e=>rfl,acc L (by simp[hL]) e⟩
  obtain⟨rv,h1,h2⟩:=key
  exact⟨rv,fun w=>(hm vs w).1,fun w=>(hm vs w).2,h1,h2⟩
 bad:=fun _=>false
 some_:=⟨0,rfl⟩
 prim:=fun _ _ _ _ _ _ _=>False
 primSome:=fun h=>h.elim
def CsW(t0:Frame)(rest:List Frame)(cs:List Frame):Prop :=∃pre,cs=pre++t0::rest/\ ∀f∈pre,PlainF f
def VZ(c:WC)(t0:Frame)(rest:List Frame):Prop:=t0.defers ≠ []/\t0.mode = .run/\ ∀s F w,RepW c s F w->QOk c F (G {t0 with mode :=.panicking vW} rest) w
theorem q_out{t0:Frame}{rest:List Frame}(hT:VZ c t0 rest) : ∀ (pre:List Frame) (fr:Frame),PlainF fr->(∀f∈pre,PlainF f) ->∀s F w,RepW c s F w->QOk c F (G {fr with mode :=.panicking vW} (pre++t0::rest)) w
 | [],fr,hf,_,s,F,w,hR=>yA (fun _=>Xt (fr :={fr with mode :=.panicking vW}) hf.1 rfl hf.2.2.2 hT.2.1) rfl (hT.2.2 s F w hR)
 | x::pre,fr,hf,hp,s,F,w,hR=>yA (fun _=>Xt (fr :={fr with mode :=.panicking vW}) hf.1 rfl hf.2.2.2 (hp x (by simp)).2.2.1) rfl (q_out hT pre x (hp x (by simp)) (fun f hf=>hp f (by simp[hf])) s F w hR)
theorem xbz{t0 x:Frame}{rest cs:List Frame}(hx:PlainF x)(h:CsW t0 rest cs):CsW t0 rest (x::cs):=by
 obtain⟨pre,rfl,h⟩:=h
 exact⟨x::pre,rfl,fun f hf=>by rcases List.mem_cons.1 hf with rfl|hf;exact hx;exact h f hf⟩
theorem kE{t0 x:Frame}{rest cs:List Frame}(h0:t0.defers ≠ [])(hx:PlainF x)(h:CsW t0 rest (x::cs)):CsW t0 rest cs:=by
 obtain⟨pre,e,h⟩:=h
 cases pre with
 | nil=>cases e;exact absurd hx.1 h0
 | cons y pre=>cases e;exact⟨pre,rfl,fun f hf=>h f (by simp[hf])⟩
theorem csW_q{t0 x:Frame}{rest cs:List Frame}(hT:VZ c t0 rest)(hx:PlainF x)(h:CsW t0 rest (x::cs))(s:WS)(F:Fo)(w:World)(hR:RepW c s F w):QOk c F (G {x with mode :=.panicking vW} cs) w:=by
 obtain⟨pre,rfl,h'⟩:=kE hT.1 hx h
 exact q_out hT pre x hx h' s F w hR
def OkW(c:WC)(rv:List Value)(tf:Option (List C))(t0:Frame)(rest:List Frame)(s:WS)(F:Fo)(fr:Frame)(cs:List Frame)(w:World):Prop:=CsW t0 rest cs->WOk c rv tf s F (G fr cs) w
def OM(c:WC)(rv:List Value)(tf:Option (List C))(t0:Frame)(rest:List Frame)(hT:VZ c t0 rest):KOk (JM c) where
 Ok:=OkW c rv tf t0 rest
 Cs:=CsW t0 rest
 csCons:=xbz
 csTail:=kE hT.1
 okStep:=fun _ h hcs =>.go rfl fun w₁ h₁=>by
  obtain⟨fr',cs',w',es,h2,h3,h4,h5⟩:=h _ w₁ h₁
  exact⟨_,w',es,h2,h3,h5 (h4 hcs)⟩
 okRely:=fun h hr hcs=>by
  obtain⟨rfl,a,b⟩:=hr
  exact(h hcs).rely ⟨rfl,a,b⟩
 does:=fun {name args p s s' x F w f recv rv vs} h h'=>by
  cases p<;>first|(cases h';done)|exact(ZR h).elim
 prim:=fun {f s F w vs s' Post} h caller cs hp hk hcs=>by
  obtain⟨rfl,e,L,rfl,hR,ho,ht,rfl,hpost⟩:=h
  exact(do_ok hR ho ht caller cs hp (csW_q hT hp hcs s) fun F' w' h1 h2 h3 h4=>hk _ F' w' (hpost F' w' h1 h2 h3 h4) h4 (kE hT.1 hp hcs))
variable{t0:Frame}{rest:List Frame}
theorem jk (hT:VZ c t0 rest) {f:FuncId} {fn:Func} (hf : Tryz.prog.funcs[f]? = some fn) (hname:(fn.name == "runtime.NumGoroutine")=false) (hbody:fn.body.isSome=true) {args:List V} {vs:List Value} {k at_ a b:Int} {R:Int->V} {rv':Value} {L:List Ask} {e:Ask}
  (ht : ∀v,qT (evF Tryz.prog knM 20 fn (.c (.ptr 0 0)::args) [some tokB]) v=some ([k,at_,a,b],(R v,[some tokB]))) (hR:RepW c s F w) (hv : ∀e,allSome (denV undef e) args=some vs) (ho:s.orc=e::L) (hu:(okU e.v&&e.is k at_ a b&&eqT e.told s.told)=true) (hr : ∀e',denV (pvW c) e' (R e.v)=some rv') (hp : ∀e,allSome (denV (pvW c) e) args=allSome (denV undef e) args)
  (caller:Frame) (cs:List Frame) (hpl:PlainF caller) (hc : ∀F' w',RepW c (s.next L) F' w'->Keeps F w w'->(∀b,F' b->F b\/w.heap.size<=b)->F.A.le F'.A->OkW c rv tf t0 rest (s.next L) F' (caller.finish rv') cs w'):OkW c rv tf t0 rest s F (Frame.enter Tryz.prog f (#[recvW c]++vs.toArray) .normal) (caller::cs) w:=
 xcB c hf hname hbody (ht e.v) hR hv ho rfl hu hr hp (OM c rv tf t0 rest hT) caller cs hpl fun rv₁ F' w' ⟨h1,h2,h3,h4,h5⟩=>by
  subst h1
  exact hc F' w' h2 h3 h4 h5
theorem xcD{rv':Value}{pv:Value}(h:Flat pv (.tup []) rv'):rv' = .tuple #[]:=by
 have:=h []
 cases this
 rfl
def OW(c:WC)(rv:List Value)(tf:Option (List C))(t0:Frame)(rest:List Frame)(hT:VZ c t0 rest):KOk (JW c) where
 Ok:=OkW c rv tf t0 rest
 Cs:=CsW t0 rest
 csCons:=xbz
 csTail:=kE hT.1
 okStep:=fun _ h hcs =>.go rfl fun w₁ h₁=>by
  obtain⟨fr',cs',w',es,h2,h3,h4,h5⟩:=h _ w₁ h₁
  exact⟨_,w',es,h2,h3,h5 (h4 hcs)⟩
 okRely:=fun h hr hcs=>by
  obtain⟨rfl,a,b⟩:=hr
  exact(h hcs).rely ⟨rfl,a,b⟩
 does:=fun {name args p s s' x F w f recv rv'} {vs} h h' hv hR hm hfl caller cs hpl hc=>by
  have hm':=(xfy (c:=c) h vs w).1
  have hmw:=hm w
  rw[show callMethod (JW c).base.pv name vs.toArray=callMethod (pvW c) name vs.toArray from rfl,hm']at hmw
  simp only[Result.ok.injEq,Next.enter.injEq,and_true]at hmw
  obtain⟨e1,e2⟩:=hmw
  rw[<- e1,<- e2]
  have hp:=xcC h
  cases p with
  | self=>
   simp only[jI]at hp
   obtain⟨rfl,rfl⟩:=hp
   cases hv
   change some (c.self,s)=some (x,s')at h'
   cases h'
   have e3:rv' = .int .i64 c.self:=by have:=hfl [];cases this;rfl
   subst e3
   intro hcs
   exact self_ok hR caller cs (hc F w hR (Keeps.refl _ w) (fun b hb =>.inl hb) (Toks.le.refl _) (kE hT.1 hpl hcs))
  | steps=>
   simp only[jI]at hp
   obtain⟨rfl,rfl⟩:=hp
   cases hv
   change some (s.steps,s)=some (x,s')at h'
   cases h'
   have e3:rv' = .int .i64 s.steps:=by have:=hfl [];cases this;rfl
   subst e3
   intro hcs
   exact xfx hR caller cs (hc F w hR (Keeps.refl _ w) (fun b hb =>.inl hb) (Toks.le.refl _) (kE hT.1 hpl hcs))
  | tell l=>
   simp only[jI]at hp
   obtain⟨rfl,rfl,hf⟩:=hp
   change some ((),s.tell l)=some (x,s')at h'
   cases h'
   obtain⟨vals,h1,rfl⟩:=xby (c:=c) hf hv
   have e3:=xcD hfl
   subst e3
   intro hcs
   exact tell_ok hR h1 caller cs fun F' w' a1 a2 a3 a4=>hc F' w' a1 a2 a3 (by rw[a4];exact Toks.le.refl _) (kE hT.1 hpl hcs)
  | ask k l=>exact hp.elim
  | load i=>
   simp only[jI]at hp
   obtain⟨rfl,rfl⟩:=hp
   obtain⟨e,L,ho,hu,rfl,rfl⟩:=vf (show s.use 1 i 0 0 id=some (x,s')from h')
   have e3:rv' = .int .u64 e.v:=by have:=hfl [];cases this;rfl
   subst e3
   cases hv
   exact jk hT Tryz.func276 (by kernel_rfl) (by rfl) (args :=[.c (.int .i64 i)]) (vs :=[.int .i64 i]) (t_load i) hR (fun e=>rfl) ho hu (fun e=>rfl) (fun e=>rfl) caller cs hpl hc
  | store i y=>
   simp only[jI]at hp
   obtain⟨rfl,rfl⟩:=hp
   obtain⟨e,L,ho,hu,_,rfl⟩:=vf (show s.use 2 i y 0 (fun _=>())=some (x,s')from h')
   have e3:=xcD hfl
   subst e3
   cases hv
   exact jk hT Tryz.func280 (by kernel_rfl) (by rfl) (args :=[.c (.int .i64 i),.c (.int .u64 y)]) (vs :=[.int .i64 i,.int .u64 y]) (t_store i y) hR (fun e=>rfl) ho hu (fun e=>rfl) (fun e=>rfl) caller cs hpl hc
  | cas i y z=>
   simp only[jI]at hp
   obtain⟨rfl,rfl⟩:=hp
   obtain⟨e,L,ho,hu,rfl,rfl⟩:=vf (show s.use 3 i y z (fun v=>v != 0)=some (x,s')from h')
   have e3:rv' = .bool (e.v != 0):=by have:=hfl [];cases this;rfl
   subst e3
   cases hv
   exact jk hT Tryz.func274 (by kernel_rfl) (by rfl) (args :=[.c (.int .i64 i),.c (.int .u64 y),.c (.int .u64 z)]) (vs :=[.int .i64 i,.int .u64 y,.int .u64 z]) (t_cas i y z) hR (fun e=>rfl) ho hu (fun e=>rfl) (fun e=>rfl) caller cs hpl hc
  | add i y=>
   simp only[jI]at hp
   obtain⟨rfl,rfl⟩:=hp
   obtain⟨e,L,ho,hu,rfl,rfl⟩:=vf (show s.use 4 i y 0 id=some (x,s')from h')
   have e3:rv' = .int .u64 e.v:=by have:=hfl [];cases this;rfl
   subst e3
   cases hv
   exact jk hT Tryz.func273 (by kernel_rfl) (by rfl) (args :=[.c (.int .i64 i),.c (.int .u64 y)]) (vs :=[.int .i64 i,.int .u64 y]) (t_add i y) hR (fun e=>rfl) ho hu (fun e=>rfl) (fun e=>rfl) caller cs hpl hc
  | get i=>
   simp only[jI]at hp
   obtain⟨rfl,rfl⟩:=hp
   obtain⟨e,L,ho,hu,rfl,rfl⟩:=vf (show s.use 5 i 0 0 (fun v=>IntKind.wrap .u8 v)=some (x,s')from h')
   have e3:rv' = .int .u8 (IntKind.wrap .u8 e.v):=by have:=hfl [];cases this;rfl
   subst e3
   cases hv
   exact jk hT Tryz.func275 (by kernel_rfl) (by rfl) (args :=[.c (.int .i64 i)]) (vs :=[.int .i64 i]) (t_get i) hR (fun e=>rfl) ho hu (fun e=>rfl) (fun e=>rfl) caller cs hpl hc
  | put i y=>
   simp only[jI]at hp
   obtain⟨rfl,rfl⟩:=hp
   obtain⟨e,L,ho,hu,_,rfl⟩:=vf (show s.use 6 i (IntKind.wrap .u64 y) 0 (fun _=>())=some (x,s')from h')
   have e3:=xcD hfl
   subst e3
   cases hv
   exact jk hT Tryz.func277 (by kernel_rfl) (by rfl) (args :=[.c (.int .i64 i),.c (.int .u8 y)]) (vs :=[.int .i64 i,.int .u8 y]) (t_put i y) hR (fun e=>rfl) ho hu (fun e=>rfl) (fun e=>rfl) caller cs hpl hc
 prim:=fun h=>h.elim
end Go.Proofs.YtealkpadijffoaaGreatDoor.Tx
