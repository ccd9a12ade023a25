/- Part. -/
import Derived.Conc.TokenTrace
import Derived.Conc.Token
import Derived.Conc.CrowdSel
import Derived.Conc.Pipeline
import Derived.Test.YtfagfflkgmcnpaaGreatDoorStM2
import Derived.Conc.CompanyDraw
set_option linter.all false
namespace Go.Proofs.YtfagfflkgmcnpaaGreatDoor
open Go Go.Conc
inductive Hd where
 | gor (g:Nat)
 | msg (m:Nat)
def KnowsH(t:Trace):Hd->Nat->Prop
 | .gor g,i=>Knows t g i
 | .msg m,i=>Before t i m
theorem KnowsH.app{t:Trace}{h:Hd}{i:Nat}(u:Trace)(k:KnowsH t h i):KnowsH (t++u) h i:=by
 cases h with
 | gor g=>exact Knows.app u k
 | msg m=>exact Before.app u k
structure Pm where
 w:Hd->Loc->Prop
 r:Hd->Loc->Prop
structure Pm.Ok(p:Pm):Prop where
 ww : ∀h h' l,p.w h l->p.w h' l->h=h'
 wr : ∀h h' l,p.w h l->p.r h' l->h=h'
structure PastP(p:Pm)(gone:Nat->Prop)(B:Nat)(t:Trace):Prop where
 clean : ∀said,¬Race said t
 wk : ∀h i a,touchAt t i=some a->a.loc.isMemory=true->p.w h a.loc->KnowsH t h i
 rk : ∀h i a,touchAt t i=some a->a.loc.isMemory=true->a.write=true->p.r h a.loc->KnowsH t h i
 gone : ∀g i a,touchAt t i=some a->a.loc.isMemory=true->t.g? i=some g->gone g->Knows t 0 i
 hears : ∀g,Deaf t g=0
 seen : ∀op∈t,op.act.low B
def Pm.may(p:Pm)(g:Nat)(b:Touch):Prop:=b.loc.isMemory=true->p.w (.gor g) b.loc\/(b.write=false/\p.r (.gor g) b.loc)
theorem allHear{t u:Trace}{g:Nat}(H : ∀x,Deaf t x=0)(hu : ∀op∈u,op.g=g)(hd:Deaf (t++u) g=Deaf t g) : ∀x,Deaf (t++u) x=0:=fun x=>by
 by_cases e:x=g
 .subst e;exact hd.trans (H x)
 .exact(Deaf_other t (fun y=>e y.symm) u hu).trans (H x)
section
variable{p p':Pm}{gone Ag:Nat->Prop}{B:Nat}{t u:Trace}
theorem PastP.mono{B':Nat}(H:PastP p gone B t)(hB:B<=B'):PastP p gone B' t:=⟨H.clean,H.wk,H.rk,H.gone,H.hears,fun op ab=>MemAct.low_mono hB (H.seen op ab)⟩
theorem PastP.fresh(H:PastP p gone B t)(hn : ∀i a,touchAt t i=some a->a.loc.isMemory=true ->∀h,(p'.w h a.loc->p.w h a.loc)/\(p'.r h a.loc->p.r h a.loc)):PastP p' gone B t:=
 ⟨H.clean,fun h i a h1 h2 h3=>H.wk h i a h1 h2 ((hn i a h1 h2 h).1 h3),fun h i a h1 h2 h3 h4=>H.rk h i a h1 h2 h3 ((hn i a h1 h2 h).2 h4),H.gone,H.hears,H.seen⟩
theorem PastP.own{g:Nat}(ok:p.Ok)(H:PastP p gone B t)(hg : ¬gone g)(hu : ∀op∈u,op.g=g)(hm : ∀op∈u,∀b,op.act.touch? = some b->p.may g b)(hd:Deaf (t++u) g=Deaf t g)(hl : ∀op∈u,op.act.low B):PastP p gone B (t++u):=by
 refine⟨fun said=>noRace_append (H.clean said) hu fun i a ha op ab b hb hc =>?_,fun h i a ha ap hw =>?_,fun h i a ha ap mr hr =>?_,fun x i a ha ap hx co =>?_,allHear H.hears hu hd,seen_app H.seen hl⟩
 .have ap:b.loc.isMemory=true:=hc.1▸hc.2.1
  rcases hm op ab b hb ap with h|⟨ff,h⟩
  .exact H.wk _ i a ha hc.2.1 (hc.1▸h)
  .rcases hc.2.2.1 with x|x
   .exact H.rk _ i a ha hc.2.1 x (hc.1▸h)
   .rw[ff]at x;cases x
 .obtain⟨x,hx,ck⟩:=touch_of ha
  rcases getElem?_append_cases hx with⟨_,cr⟩|⟨_,dv⟩
  .exact(H.wk h i a (by rw[touchAt_of cr];exact ck) ap hw).app u
  .have hh:h = .gor g:=by
    rcases hm x dv a ck ap with k|⟨_,k⟩
    .exact ok.ww _ _ _ hw k
    .exact ok.wr _ _ _ hw k
   subst hh
   have:=knows_own hx
   rw[hu x dv]at this
   exact this
 .obtain⟨x,hx,ck⟩:=touch_of ha
  rcases getElem?_append_cases hx with⟨_,cr⟩|⟨_,dv⟩
  .exact(H.rk h i a (by rw[touchAt_of cr];exact ck) ap mr hr).app u
  .have hh:h = .gor g:=by
    rcases hm x dv a ck ap with k|⟨k,_⟩
    .exact(ok.wr _ _ _ k hr).symm
    .rw[mr]at k;cases k
   subst hh
   have:=knows_own hx
   rw[hu x dv]at this
   exact this
 .obtain⟨y,hy,I7⟩:=touch_of ha
  rcases getElem?_append_cases hy with⟨hi,er⟩|⟨_,I4⟩
  .exact(H.gone x i a (by rw[touchAt_of er];exact I7) ap (by rw[<- g?_old (u:=u) hi];exact hx) co).app u
  .rw[g?_of hy,hu y I4]at hx
   cases hx
   exact absurd co hg
theorem PastP.edge(H:PastP p gone B t)(hn : ∀op∈u,op.act.touch? = none)(hq : ∀g,∀op∈u,∀d,deafStep g d op=d)(hl : ∀op∈u,op.act.low B)
  (hw : ∀h l,p'.w h l->p.w h l\/ ∃h',p.w h' l/\ ∀i,KnowsH t h' i->KnowsH (t++u) h i) (hr : ∀h l,p'.r h l->p.r h l\/p.w h l\/ ∃h',(p.r h' l\/p.w h' l)/\ ∀i,KnowsH t h' i->KnowsH (t++u) h i)
  (hg : ∀g,Ag g->gone g\/ ∀i,t.g? i=some g->Knows (t++u) 0 i):PastP p' Ag B (t++u):=by
 have old : ∀i a,touchAt (t++u) i=some a->i<t.size/\touchAt t i=some a:=fun i a ha=>by
  obtain⟨x,hx,ck⟩:=touch_of ha
  rcases getElem?_append_cases hx with⟨hi,cr⟩|⟨_,dv⟩
  .exact⟨hi,by rw[touchAt_of cr];exact ck⟩
  .rw[hn x dv]at ck;cases ck
 refine⟨fun said=>noRace_appendMute (H.clean said) hn,fun h i a ha ap h3 =>?_,fun h i a ha ap mr h4 =>?_,fun x i a ha ap hx co =>?_,fun g=>(Deaf_quiet (hq g)).trans (H.hears g),seen_app H.seen hl⟩
 .rcases hw h _ h3 with k|⟨h',k1,k2⟩
  .exact(H.wk h i a (old i a ha).2 ap k).app u
  .exact k2 i (H.wk h' i a (old i a ha).2 ap k1)
 .rcases hr h _ h4 with k|k|⟨h',k1,k2⟩
  .exact(H.rk h i a (old i a ha).2 ap mr k).app u
  .exact(H.wk h i a (old i a ha).2 ap k).app u
  .exact k2 i (k1.elim (H.rk h' i a (old i a ha).2 ap mr) (H.wk h' i a (old i a ha).2 ap))
 .have cr:t.g? i=some x:=by rw[<- g?_old (u:=u) (old i a ha).1];exact hx
  rcases hg x co with k|k
  .exact(H.gone x i a (old i a ha).2 ap cr k).app u
  .exact k i cr
/-! ### the edges -/
theorem xao{h j c k cap:Nat}(hears:Deaf t h=0)(Bi:Deaf t j=0)(fh:FuncId)(ph:String)(fj:FuncId)(pj:String) : ∀i,Knows t h i->Knows (t++met h j fh ph fj pj c k cap) j i:=fun i hk=>by
 have e0:(t++met h j fh ph fj pj c k cap)[t.size]? = some {g:=h,fn:=fh,pos:=ph,act :=.send c k}:=by simp[met]
 have e3:(t++met h j fh ph fj pj c k cap)[t.size+3]? = some {g:=j,fn:=fj,pos:=pj,act :=.recvDone c k}:=by simp[met]
 have hq:=met_quiet h j fh ph fj pj c k cap
 have edge:HappensBefore (t++met h j fh ph fj pj c k cap) t.size (t.size+3):=
  Relation.TransGen.single (.inr ⟨.handOver (act?_of e0) (act?_of e3),⟨h,g?_of e0,by rw[deaf_old (dJ _)];exact hears⟩,⟨j,g?_of e3,by rw[deaf_quiet (hq j) 3 (by simp[met])];exact Bi⟩⟩)
 exact⟨t.size+3,_,e3,rfl,.inr ((hk.hb_new (dJ _) e0 rfl).trans edge)⟩
theorem xcG{h c:Nat}(hears:Deaf t h=0)(Bj:Deaf t c=0)(fh:FuncId)(ph:String)(fc:FuncId) : ∀i,Knows t h i->Knows (t ++ #[{g:=h,fn:=fh,pos:=ph,act :=.go c},{g:=c,fn:=fc,pos:=ph,act :=.start}]) c i:=fun i hk=>by
 generalize hu:(#[{g:=h,fn:=fh,pos:=ph,act :=.go c},{g:=c,fn:=fc,pos:=ph,act :=.start}]:Trace)=u
 have hq : ∀g,∀op∈u,∀d,deafStep g d op=d:=by
  intro g op ab
  subst hu
  simp only[List.mem_toArray,List.mem_cons,List.not_mem_nil,or_false]at ab
  rcases ab with rfl|rfl<;>exact fun d=>rfl
 have e0:(t++u)[t.size]? = some {g:=h,fn:=fh,pos:=ph,act :=.go c}:=by subst hu;simp
 have e1:(t++u)[t.size+1]? = some {g:=c,fn:=fc,pos:=ph,act :=.start}:=by subst hu;simp
 have edge:HappensBefore (t++u) t.size (t.size+1):=
  Relation.TransGen.single (.inr ⟨.spawn (act?_of e0) (act?_of e1) (g?_of e1),⟨h,g?_of e0,by rw[deaf_old (dJ _)];exact hears⟩,⟨c,g?_of e1,by rw[deaf_quiet (hq c) 1 (by subst hu;simp)];exact Bj⟩⟩)
 exact⟨t.size+1,_,e1,rfl,.inr ((hk.hb_new (dJ _) e0 rfl).trans edge)⟩
end
#print axioms PastP.own
#print axioms PastP.edge
#print axioms xao
#print axioms xcG
end Go.Proofs.YtfagfflkgmcnpaaGreatDoor
namespace Go.Proofs.YtfagfflkgmcnpaaGreatDoor
open Go Go.Conc
def KD(M0:Loc->Prop)(h j:Nat)(t:Trace)(i:Nat):Prop :=∃a,touchAt t i=some a/\(M0 a.loc->Knows t h i)/\(¬M0 a.loc->Knows t j i)
theorem jy{t:Trace}{i:Nat}{a:Touch}(u:Trace)(h:touchAt t i=some a):touchAt (t++u) i=some a:=by
 obtain⟨x,hx,ck⟩:=touch_of h
 rw[touchAt_of (show(t++u)[i]? = some x by rw[getElem?_append_old (lt_size_of_getElem? hx)];exact hx)]
 exact ck
theorem KD.app{M0:Loc->Prop}{h j:Nat}{t:Trace}{i:Nat}(u:Trace)(k:KD M0 h j t i):KD M0 h j (t++u) i:=by
 obtain⟨a,h1,h2,h3⟩:=k
 exact⟨a,jy u h1,fun x=>(h2 x).app u,fun x=>(h3 x).app u⟩
section
variable{Still M0:Loc->Prop}{Mem Loose:Nat->Prop}{B h j:Nat}{t u:Trace}
theorem KD.of{i:Nat}{a:Touch}(ha:touchAt t i=some a)(k:KD M0 h j t i):(M0 a.loc->Knows t h i)/\(¬M0 a.loc->Knows t j i):=by
 obtain⟨b,h1,h2⟩:=k
 rw[ha]at h1
 obtain rfl:=Option.some.inj h1
 exact h2
theorem VJ(hMS : ∀l,M0 l ->¬Still l)(H:PastG Still Mem Loose B (KD M0 h j t) t)(hh:Mem h)(hL:Loose h)(hu : ∀op∈u,op.g=h)(hs : ∀op∈u,∀b,op.act.touch? = some b->b.loc.isMemory=true->M0 b.loc\/(b.write=false/\Still b.loc))
  (hw : ∀op∈u,∀b,op.act.touch? = some b->Still b.loc->b.write=false) (hd:Deaf (t++u) h=Deaf t h) (hl : ∀op∈u,op.act.low B):PastG Still Mem Loose B (KD M0 h j (t++u)) (t++u):=by
 refine⟨fun said=>noRace_append (H.clean said) hu fun i a ha op ab b hb hc =>?_,fun i a ha hm =>?_,fun i a ha mr hS g hg =>?_,H.old_hears hu (fun _=>hd),seen_app H.seen hl⟩
 .have ap:b.loc.isMemory=true:=hc.1▸hc.2.1
  rcases hs op ab b hb ap with hM|⟨ff,hS⟩
  .rcases H.known i a ha hc.2.1 with hk|⟨_,hS,_⟩
   .exact(hk.of ha).1 (hc.1▸hM)
   .exact absurd hS (hMS _ (hc.1▸hM))
  .rcases hc.2.2.1 with x|x
   .exact H.wrote i a ha x (hc.1▸hS) h hh
   .rw[ff]at x;cases x
 .obtain⟨x,hx,ck⟩:=touch_of ha
  rcases getElem?_append_cases hx with⟨_,cr⟩|⟨_,dv⟩
  .exact H.old_known (fun i=>KD.app u) cr ck hm
  .have:=knows_own hx
   rw[hu x dv]at this
   rcases hs x dv a ck hm with hM|⟨ff,hS⟩
   .exact .inl ⟨a,ha,fun _=>this,fun k=>absurd hM k⟩
   .exact .inr ⟨ff,hS,h,by rw[g?_of hx,hu x dv],hL⟩
 .obtain⟨x,hx,ck⟩:=touch_of ha
  rcases getElem?_append_cases hx with⟨_,cr⟩|⟨_,dv⟩
  .exact(H.wrote i a (by rw[touchAt_of cr];exact ck) mr hS g hg).app u
  .rw[hw x dv a ck hS]at mr;cases mr
theorem xap(H:PastG Still Mem Loose B (KD M0 h j t) t)(hj:Mem j)(hu : ∀op∈u,op.g=j)(hs : ∀op∈u,∀b,op.act.touch? = some b->b.loc.isMemory=true ->¬M0 b.loc)
  (hw : ∀op∈u,∀b,op.act.touch? = some b->Still b.loc->b.write=false) (hd:Deaf (t++u) j=Deaf t j) (hl : ∀op∈u,op.act.low B):PastG Still Mem Loose B (KD M0 h j (t++u)) (t++u):=by
 refine⟨fun said=>noRace_append (H.clean said) hu fun i a ha op ab b hb hc =>?_,fun i a ha hm =>?_,fun i a ha mr hS g hg =>?_,H.old_hears hu (fun _=>hd),seen_app H.seen hl⟩
 .have ap:b.loc.isMemory=true:=hc.1▸hc.2.1
  rcases H.known i a ha hc.2.1 with hk|⟨Lg,hS,_⟩
  .exact(hk.of ha).2 (hc.1▸hs op ab b hb ap)
  .rcases hc.2.2.1 with x|x
   .rw[Lg]at x;cases x
   .rw[hw op ab b hb (hc.1▸hS)]at x;cases x
 .obtain⟨x,hx,ck⟩:=touch_of ha
  rcases getElem?_append_cases hx with⟨_,cr⟩|⟨_,dv⟩
  .exact H.old_known (fun i=>KD.app u) cr ck hm
  .have:=knows_own hx
   rw[hu x dv]at this
   exact .inl ⟨a,ha,fun k=>absurd k (hs x dv a ck hm),fun _=>this⟩
 .obtain⟨x,hx,ck⟩:=touch_of ha
  rcases getElem?_append_cases hx with⟨_,cr⟩|⟨_,dv⟩
  .exact(H.wrote i a (by rw[touchAt_of cr];exact ck) mr hS g hg).app u
  .rw[hw x dv a ck hS]at mr;cases mr
theorem xaq(hMS : ∀l,M0 l ->¬Still l)(H:PastH Still Mem Loose B h t)(hh:Mem h)(hj:Mem j)(fh:FuncId)(ph:String)(fj:FuncId)(pj:String){c:Nat}(k cap:Nat)(hc:c<B) :
  PastG Still Mem (fun g=>g=h\/(Loose g/\g≠j)) B (KD M0 h j (t++met h j fh ph fj pj c k cap)) (t++met h j fh ph fj pj c k cap):=by
 have G:=H.give hh hj fh ph fj pj k cap hc
 refine⟨G.clean,fun i a ha hm =>?_,G.wrote,G.hears,G.seen⟩
 rcases G.known i a ha hm with hk|⟨p,q,g,hg,hl⟩
 .by_cases hM:M0 a.loc
  .have old:touchAt t i=some a:=by
    obtain⟨x,hx,ck⟩:=touch_of ha
    rcases getElem?_append_cases hx with⟨_,cr⟩|⟨_,dv⟩
    .rw[touchAt_of cr];exact ck
    .rw[met_mute h j fh ph fj pj c k cap x dv]at ck;cases ck
   rcases H.known i a old hm with am|⟨_,hS,_⟩
   .exact .inl ⟨a,ha,fun _=>am.app _,fun x=>absurd hM x⟩
   .exact absurd hS (hMS _ hM)
  .exact .inl ⟨a,ha,fun x=>absurd x hM,fun _=>hk⟩
 .exact .inr ⟨p,q,g,hg,.inr hl⟩
theorem xbj(H:PastG Still Mem Loose B (KD M0 h j t) t)(hh:Mem h)(hj:Mem j)(fj:FuncId)(pj:String)(fh:FuncId)(ph:String){c:Nat}(k cap:Nat)(hc:c<B) :
  PastH Still Mem (fun g=>Loose g/\g≠h) B h (t++met j h fj pj fh ph c k cap):=by
 have hn:=met_mute j h fj pj fh ph c k cap
 have hq:=met_quiet j h fj pj fh ph c k cap
 refine⟨fun said=>noRace_appendMute (H.clean said) hn,fun i a ha hm =>?_,fun i a ha hw hS g hg =>?_,fun g hg=>(Deaf_quiet (hq g)).trans (H.hears g hg),seen_app H.seen fun op ab =>?_⟩
 .obtain⟨x,hx,ck⟩:=touch_of ha
  rcases getElem?_append_cases hx with⟨hi,cr⟩|⟨_,dv⟩
  .have old:touchAt t i=some a:=by rw[touchAt_of cr];exact ck
   rcases H.known i a old hm with hk|⟨p,q,g,hg,hl⟩
   .by_cases hM:M0 a.loc
    .exact .inl (((hk.of old).1 hM).app _)
    .exact .inl (xao (H.hears j hj) (H.hears h hh) fj pj fh ph i ((hk.of old).2 hM))
   .by_cases e:g=h
    .subst e
     have:=knows_own hx
     rw[show x.g=g from by have:=g?_of cr;rw[hg]at this;exact(Option.some.inj this).symm]at this
     exact .inl this
    .exact .inr ⟨p,q,g,by rw[g?_old hi];exact hg,hl,e⟩
  .rw[hn x dv]at ck;cases ck
 .obtain⟨x,hx,ck⟩:=touch_of ha
  rcases getElem?_append_cases hx with⟨_,cr⟩|⟨_,dv⟩
  .exact(H.wrote i a (by rw[touchAt_of cr];exact ck) hw hS g hg).app _
  .rw[hn x dv]at ck;cases ck
 .simp only[met,List.mem_toArray,List.mem_cons,List.not_mem_nil,or_false]at ab
  rcases ab with rfl|rfl|rfl|rfl<;>exact hc
end
#print axioms VJ
#print axioms xap
#print axioms xaq
#print axioms xbj
end Go.Proofs.YtfagfflkgmcnpaaGreatDoor
namespace Go.Proofs.YtfagfflkgmcnpaaGreatDoor
open Go Go.Conc
def KS(M0:Loc->Prop)(h m:Nat)(t:Trace)(i:Nat):Prop :=∃a,touchAt t i=some a/\(M0 a.loc->Knows t h i)/\(¬M0 a.loc->Before t i m)
theorem KS.app{M0:Loc->Prop}{h m:Nat}{t:Trace}{i:Nat}(u:Trace)(k:KS M0 h m t i):KS M0 h m (t++u) i:=by
 obtain⟨a,h1,h2,h3⟩:=k
 exact⟨a,jy u h1,fun x=>(h2 x).app u,fun x=>(h3 x).app u⟩
section
variable{Still M0:Loc->Prop}{Mem Loose Loose':Nat->Prop}{B h j m c k:Nat}{t u:Trace}{K:Nat->Prop}
theorem PastG.tight(H:PastG Still Mem Loose B K t)(hL : ∀i g a,touchAt t i=some a->a.loc.isMemory=true->Still a.loc->t.g? i=some g->Loose g->K i\/Loose' g):PastG Still Mem Loose' B K t:=
 ⟨H.clean,fun i a ha hm=>(H.known i a ha hm).elim .inl fun⟨x,y,g,hg,hl⟩=>(hL i g a ha hm y hg hl).imp id fun z=>⟨x,y,g,hg,z⟩,H.wrote,H.hears,H.seen⟩
theorem xcH(hMS : ∀l,M0 l ->¬Still l)(H:PastG Still Mem Loose B (KD M0 h j t) t)(hj:Mem j)(fj:FuncId)(pj:String)(k:Nat)(hc:c<B) :
  PastG Still Mem (fun g=>Loose g/\g≠j) B (KS M0 h t.size (t ++ #[{g:=j,fn:=fj,pos:=pj,act :=.send c k},{g:=j,fn:=fj,pos:=pj,act :=.sendDone c k}])) (t ++ #[{g:=j,fn:=fj,pos:=pj,act :=.send c k},{g:=j,fn:=fj,pos:=pj,act :=.sendDone c k}])/\
   SentAt c k t.size (t ++ #[{g:=j,fn:=fj,pos:=pj,act :=.send c k},{g:=j,fn:=fj,pos:=pj,act :=.sendDone c k}]):=by
 generalize hu:(#[{g:=j,fn:=fj,pos:=pj,act :=.send c k},{g:=j,fn:=fj,pos:=pj,act :=.sendDone c k}]:Trace)=u
 have nu : ∀op∈u,op.g=j/\op.act.touch? = none/\op.act.low B/\ ∀g d,deafStep g d op=d:=by
  intro op ab
  subst hu
  simp only[List.mem_toArray,List.mem_cons,List.not_mem_nil,or_false]at ab
  rcases ab with rfl|rfl<;>exact⟨rfl,rfl,hc,fun _ _=>rfl⟩
 have e0:(t++u)[t.size]? = some {g:=j,fn:=fj,pos:=pj,act :=.send c k}:=by subst hu;simp
 have old : ∀i a,touchAt (t++u) i=some a->touchAt t i=some a/\i<t.size:=fun i a ha=>by
  obtain⟨x,hx,ck⟩:=touch_of ha
  rcases getElem?_append_cases hx with⟨hi,cr⟩|⟨_,dv⟩
  .exact⟨by rw[touchAt_of cr];exact ck,hi⟩
  .rw[(nu x dv).2.1]at ck;cases ck
 refine⟨?_,act?_of e0,j,g?_of e0,by rw[deaf_old (dJ _)];exact H.hears j hj⟩
 have G:PastG Still Mem Loose B (KS M0 h t.size (t++u)) (t++u):=
  H.appMute (fun i ⟨a,h1,h2,h3⟩=>⟨a,jy u h1,fun x=>(h2 x).app u,fun x =>.inr ((h3 x).hb_new (dJ _) e0 rfl)⟩) (fun op ab=>(nu op ab).1) (fun op ab=>(nu op ab).2.1) (fun _=>Deaf_quiet fun op ab=>(nu op ab).2.2.2 j) (fun op ab=>(nu op ab).2.2.1)
 refine PastG.tight G fun i g a ha hm hS hg hl =>?_
 by_cases e:g=j
 .subst e
  obtain⟨zn,hi⟩:=old i a ha
  rw[g?_old hi]at hg
  obtain⟨x,hx,_⟩:=touch_of zn
  have hk:=knows_own hx
  rw[show x.g=g from by have:=g?_of hx;rw[hg]at this;exact(Option.some.inj this).symm]at hk
  exact .inl ⟨a,ha,fun hM=>absurd hS (hMS _ hM),fun _ =>.inr (hk.hb_new (dJ _) e0 rfl)⟩
 .exact .inr ⟨hl,e⟩
theorem xcI(hMS : ∀l,M0 l ->¬Still l)(H:PastG Still Mem Loose B (KS M0 h m t) t)(hh:Mem h)(hL:Loose h)(hu : ∀op∈u,op.g=h)(hs : ∀op∈u,∀b,op.act.touch? = some b->b.loc.isMemory=true->M0 b.loc\/(b.write=false/\Still b.loc))
  (hw : ∀op∈u,∀b,op.act.touch? = some b->Still b.loc->b.write=false) (hd:Deaf (t++u) h=Deaf t h) (hl : ∀op∈u,op.act.low B):PastG Still Mem Loose B (KS M0 h m (t++u)) (t++u):=by
 refine⟨fun said=>noRace_append (H.clean said) hu fun i a ha op ab b hb hc =>?_,fun i a ha hm =>?_,fun i a ha mr hS g hg =>?_,H.old_hears hu (fun _=>hd),seen_app H.seen hl⟩
 .have ap:b.loc.isMemory=true:=hc.1▸hc.2.1
  rcases hs op ab b hb ap with hM|⟨ff,hS⟩
  .rcases H.known i a ha hc.2.1 with⟨a',h1,h2,_⟩|⟨_,hS,_⟩
   .rw[ha]at h1
    obtain rfl:=Option.some.inj h1
    exact h2 (hc.1▸hM)
   .exact absurd hS (hMS _ (hc.1▸hM))
  .rcases hc.2.2.1 with x|x
   .exact H.wrote i a ha x (hc.1▸hS) h hh
   .rw[ff]at x;cases x
 .obtain⟨x,hx,ck⟩:=touch_of ha
  rcases getElem?_append_cases hx with⟨_,cr⟩|⟨_,dv⟩
  .exact H.old_known (fun i=>KS.app u) cr ck hm
  .have:=knows_own hx
   rw[hu x dv]at this
   rcases hs x dv a ck hm with hM|⟨ff,hS⟩
   .exact .inl ⟨a,ha,fun _=>this,fun k=>absurd hM k⟩
   .exact .inr ⟨ff,hS,h,by rw[g?_of hx,hu x dv],hL⟩
 .obtain⟨x,hx,ck⟩:=touch_of ha
  rcases getElem?_append_cases hx with⟨_,cr⟩|⟨_,dv⟩
  .exact(H.wrote i a (by rw[touchAt_of cr];exact ck) mr hS g hg).app u
  .rw[hw x dv a ck hS]at mr;cases mr
theorem xcJ(H:PastG Still Mem Loose B (KS M0 h m t) t)(sa:SentAt c k m t)(hh:Mem h)(fh:FuncId)(ph:String)(cap:Nat)(hc:c<B) :
  PastH Still Mem (fun g=>Loose g/\g≠h) B h (t ++ #[{g:=h,fn:=fh,pos:=ph,act :=.recv c k cap},{g:=h,fn:=fh,pos:=ph,act :=.recvDone c k}]):=by
 obtain⟨ud,F8⟩:=sa
 generalize hu:(#[{g:=h,fn:=fh,pos:=ph,act :=.recv c k cap},{g:=h,fn:=fh,pos:=ph,act :=.recvDone c k}]:Trace)=u
 obtain⟨z,hz,_⟩:=oM.1 (show(t[m]?).map (·.act)=some (.send c k)from ud)
 have ao:=lt_size_of_getElem? hz
 have nu : ∀op∈u,op.g=h/\op.act.touch? = none/\op.act.low B/\ ∀g d,deafStep g d op=d:=by
  intro op ab
  subst hu
  simp only[List.mem_toArray,List.mem_cons,List.not_mem_nil,or_false]at ab
  rcases ab with rfl|rfl<;>exact⟨rfl,rfl,hc,fun _ _=>rfl⟩
 have e1:(t++u)[t.size+1]? = some {g:=h,fn:=fh,pos:=ph,act :=.recvDone c k}:=by subst hu;simp
 have Ba:(t++u).heard m:=by
  obtain⟨g',uq,eq⟩:=F8
  exact⟨g',by rw[g?_old ao];exact uq,by rw[deaf_old (Nat.le_of_lt ao)];exact eq⟩
 have edge:HappensBefore (t++u) m (t.size+1):=
  Relation.TransGen.single (.inr ⟨.handOver (by simpa[Trace.act?,getElem?_append_old ao]using ud) (act?_of e1),Ba,⟨h,g?_of e1,by rw[deaf_quiet (fun op ab=>(nu op ab).2.2.2 h) 1 (by subst hu;simp)];exact H.hears h hh⟩⟩)
 have G:PastG Still Mem Loose B (Knows (t++u) h) (t++u):=
  H.appMute (fun i ⟨a,h1,h2,h3⟩=>by
   by_cases hM:M0 a.loc
   .exact(h2 hM).app u
   .exact⟨t.size+1,_,e1,rfl,.inr (((h3 hM).app u).hb edge)⟩) (fun op ab=>(nu op ab).1) (fun op ab=>(nu op ab).2.1) (fun _=>Deaf_quiet fun op ab=>(nu op ab).2.2.2 h) (fun op ab=>(nu op ab).2.2.1)
 refine PastG.tight G fun i g a ha hm hS hg hl =>?_
 by_cases e:g=h
 .subst e
  obtain⟨x,hx,_⟩:=touch_of ha
  have hk:=knows_own hx
  rw[show x.g=g from by have:=g?_of hx;rw[hg]at this;exact(Option.some.inj this).symm]at hk
  exact .inl hk
 .exact .inr ⟨hl,e⟩
end
#print axioms xcH
#print axioms xcI
#print axioms xcJ
end Go.Proofs.YtfagfflkgmcnpaaGreatDoor
namespace Go.Proofs.YtfagfflkgmcnpaaGreatDoor
open Go Go.Conc
section
variable{Still M0:Loc->Prop}{Mem Loose:Nat->Prop}{B h j m c:Nat}{t:Trace}
theorem Wn{op:MemOp}(H:PastH Still Mem Loose B h t)(hm:t[m]? = some op)(hg:op.g=h)(ha:op.act = .close c)(Cx:m+1=t.size)(hd:t.deaf h m=0) :
  PastG Still Mem (fun g=>g=h\/Loose g) B (KS M0 h m t) t/\ClosedAt c m t:=by
 obtain⟨G,h1,h2⟩:=H.toC hm hg ha Cx hd
 refine⟨⟨H.clean,fun i a hi ap =>?_,H.wrote,H.hears,H.seen⟩,h1,h2⟩
 rcases H.known i a hi ap with hk|⟨p,r,g,uq,hl⟩
 .rcases G.known i a hi ap with hb|⟨p,r,g,uq,hl⟩
  .exact .inl ⟨a,hi,fun _=>hk,fun _=>hb⟩
  .exact .inr ⟨p,r,g,uq,.inr hl⟩
 .exact .inr ⟨p,r,g,uq,.inr hl⟩
theorem VK{u:Trace}(H:PastG Still Mem Loose B (KS M0 h m t) t)(hj:Mem j)(hL:Loose j)(hu : ∀op∈u,op.g=j)(hr : ∀op∈u,∀b,op.act.touch? = some b->b.write=false/\Still b.loc)(hd:Deaf (t++u) j=Deaf t j)
  (hl : ∀op∈u,op.act.low B):PastG Still Mem Loose B (KS M0 h m (t++u)) (t++u):=PastG.appRead H (fun _=>KS.app u) hj hL hu hr hd hl
theorem VL(hMS : ∀l,M0 l ->¬Still l)(H:PastG Still Mem Loose B (KS M0 h m t) t)(ca:ClosedAt c m t)(hj:Mem j)(fj:FuncId)(pj:String)(hc:c<B) :
  PastG Still Mem (fun g=>Loose g/\g≠j) B (KD M0 h j (t ++ #[{g:=j,fn:=fj,pos:=pj,act :=.recvClosed c}])) (t ++ #[{g:=j,fn:=fj,pos:=pj,act :=.recvClosed c}]):=by
 obtain⟨ud,F8⟩:=ca
 generalize hu:(#[{g:=j,fn:=fj,pos:=pj,act :=.recvClosed c}]:Trace)=u
 obtain⟨z,hz,_⟩:=oM.1 (show(t[m]?).map (·.act)=some (.close c)from ud)
 have ao:=lt_size_of_getElem? hz
 have nu : ∀op∈u,op.g=j/\op.act.touch? = none/\op.act.low B/\ ∀g d,deafStep g d op=d:=by
  intro op ab
  subst hu
  simp only[List.mem_toArray,List.mem_cons,List.not_mem_nil,or_false]at ab
  subst ab
  exact⟨rfl,rfl,hc,fun _ _=>rfl⟩
 have e0:(t++u)[t.size]? = some {g:=j,fn:=fj,pos:=pj,act :=.recvClosed c}:=by subst hu;simp
 have Ba:(t++u).heard m:=by
  obtain⟨g',uq,eq⟩:=F8
  exact⟨g',by rw[g?_old ao];exact uq,by rw[deaf_old (Nat.le_of_lt ao)];exact eq⟩
 have edge:HappensBefore (t++u) m t.size:=
  Relation.TransGen.single (.inr ⟨.closed (by simpa[Trace.act?,getElem?_append_old ao]using ud) (act?_of e0),Ba,⟨j,g?_of e0,by rw[deaf_old (dJ _)];exact H.hears j hj⟩⟩)
 have G:PastG Still Mem Loose B (KD M0 h j (t++u)) (t++u):=
  H.appMute (fun i ⟨a,h1,h2,h3⟩=>⟨a,jy u h1,fun x=>(h2 x).app u,fun x=>⟨t.size,_,e0,rfl,.inr (((h3 x).app u).hb edge)⟩⟩) (fun op ab=>(nu op ab).1) (fun op ab=>(nu op ab).2.1) (fun _=>Deaf_quiet fun op ab=>(nu op ab).2.2.2 j) (fun op ab=>(nu op ab).2.2.1)
 refine PastG.tight G fun i g a ha hm hS hg hl =>?_
 by_cases e:g=j
 .subst e
  obtain⟨x,hx,_⟩:=touch_of ha
  have hk:=knows_own hx
  rw[show x.g=g from by have:=g?_of hx;rw[hg]at this;exact(Option.some.inj this).symm]at hk
  exact .inl ⟨a,ha,fun hM=>absurd hS (hMS _ hM),fun _=>hk⟩
 .exact .inr ⟨hl,e⟩
end
#print axioms Wn
#print axioms VL
end Go.Proofs.YtfagfflkgmcnpaaGreatDoor
namespace Go.Proofs.YtfagfflkgmcnpaaGreatDoor
open Go Go.Conc
section
variable{P:Program}{gs:Array Goroutine}{w w₁:World}{sl:Option (Nat×Nat)}{i j k kj:Nat}{g g₂ gj:Goroutine}{es:Array Event}{c cap s r:Nat}{buf:Array Value}{tm:Bool}{v z zj:Value}
 {blocking:Bool} {shape shj:CommShape} {cs cases:Array CommCase}
theorem kH(hi:gs[i]? = some g)(h:stepG P (i==0) g w = .comm g₂ cases blocking shape w₁ es)(hk:cases[k]? = some (scase c v z))
  (ho : ∀ (m:Nat) (c':CommCase),m≠k->cases[m]? = some c'->NoWays w₁ (gs.setIfInBounds i ph) c')
  (hc:w₁.heap[c]? = some (.chan cap buf false s r tm)) (gz:j≠i) (hj:gs[j]? = some (parked gj cs shj)) (d6:cs[kj]? = some (rcase c zj)) (hp:partners (gs.setIfInBounds i ph) c false = [(j,kj)]) :
  runT P (crowd gs w sl) i=(.next (crowd ((gs.setIfInBounds j (gj.finishComm P cs shj kj v true)).setIfInBounds i (g₂.finishComm P cases shape k undef false)) (w₁.setChan c cap buf false (s+1) (r+1) tm) sl),
   MemOp.ofEvents i g.frame.fn g.frame.place es ++ #[{g:=i,fn:=g₂.frame.fn,pos:=g₂.frame.place,act :=.send c s},{g:=j,fn:=gj.frame.fn,pos:=gj.frame.place,act :=.recv c r cap},
    {g:=i,fn:=g₂.frame.fn,pos:=g₂.frame.place,act :=.sendDone c s},{g:=j,fn:=gj.frame.fn,pos:=gj.frame.place,act :=.recvDone c r}]):=by
 have hw:ways w₁ (gs.setIfInBounds i ph) (scase c v z) = [.partner j kj]:=by simp[ways,scase,hc,hp]
 have ov:=stand_get (i:=i) gz hj
 have Gc:=finishPartner_at P (gs.setIfInBounds i ph) ov (cs:=cs) (sh:=shj) rfl kj v
 have Ad:(gs.setIfInBounds i ph).getD j default=parked gj cs shj:=by rw[Array.getD_eq_getD_getElem?,ov];rfl
 rw[runT_crowd_comm hi h]
 unfold communicate
 simp only[ready_one hk (by rw[hw];simp) ho,hw]
 rw[dA]
 .simp[choose,Sem.run,Question.forced,bind,Sem.bind,pure,rcase,crowd,hc,Gc,Ad,set_stand2,finishComm_parked,scase,parked,World.setChan,d6]
  rfl
 .rw[Bool.not_eq_true];exact any_ill (made_of_one hk (made_send v z hc) ho)
theorem kI(hi:gs[i]? = some g)(h:stepG P (i==0) g w = .comm g₂ cases blocking shape w₁ es)(hk:cases[k]? = some (rcase c z))
  (ho : ∀ (m:Nat) (c':CommCase),m≠k->cases[m]? = some c'->NoWays w₁ (gs.setIfInBounds i ph) c')
  (hc:w₁.heap[c]? = some (.chan cap #[] false s r tm)) (gz:j≠i) (hj:gs[j]? = some (parked gj cs shj)) (d6:cs[kj]? = some (scase c v zj)) (hp:partners (gs.setIfInBounds i ph) c true = [(j,kj)]) :
  runT P (crowd gs w sl) i=(.next (crowd ((gs.setIfInBounds j (gj.finishComm P cs shj kj undef false)).setIfInBounds i (g₂.finishComm P cases shape k v true)) (w₁.setChan c cap #[] false (s+1) (r+1) tm) sl),
   MemOp.ofEvents i g.frame.fn g.frame.place es ++ #[{g:=j,fn:=gj.frame.fn,pos:=gj.frame.place,act :=.send c s},{g:=i,fn:=g₂.frame.fn,pos:=g₂.frame.place,act :=.recv c r cap},
    {g:=j,fn:=gj.frame.fn,pos:=gj.frame.place,act :=.sendDone c s},{g:=i,fn:=g₂.frame.fn,pos:=g₂.frame.place,act :=.recvDone c r}]):=by
 have hw:ways w₁ (gs.setIfInBounds i ph) (rcase c z) = [.partner j kj]:=by simp[ways,rcase,hc,hp]
 have ov:=stand_get (i:=i) gz hj
 have Gc:=finishPartner_at P (gs.setIfInBounds i ph) ov (cs:=cs) (sh:=shj) rfl kj undef
 have Ad:(gs.setIfInBounds i ph).getD j default=parked gj cs shj:=by rw[Array.getD_eq_getD_getElem?,ov];rfl
 have Ju:offeredValue (gs.setIfInBounds i ph) j kj=v:=by simp[offeredValue,ov,parked,scase,d6]
 rw[runT_crowd_comm hi h]
 unfold communicate
 simp only[ready_one hk (by rw[hw];simp) ho,hw]
 rw[dA]
 .simp[choose,Sem.run,Question.forced,bind,Sem.bind,pure,rcase,crowd,hc,Gc,Ad,Ju,set_stand2,finishComm_parked,scase,parked,World.setChan,d6]
  rfl
 .rw[Bool.not_eq_true];exact any_ill (made_of_one hk (made_recv z hc) ho)
end
#print axioms kH
#print axioms kI
end Go.Proofs.YtfagfflkgmcnpaaGreatDoor
namespace Go.Proofs.YtfagfflkgmcnpaaGreatDoor
open Go Go.Conc
/-! ### a select with one send among its cases -/
section
variable{g:Goroutine}{w:World}{cs:Array CommCase}{sh:CommShape}{c k:Nat}{v z:Value}
structure OneSend(cs:Array CommCase)(k c:Nat)(v z:Value)(Has:Nat->Prop):Prop where
 at_:cs[k]? = some (scase c v z)
 rest : ∀ (m:Nat) (cc:CommCase),m≠k->cs[m]? = some cc ->∃c' z',cc=rcase c' z'/\Has c'
variable{Has:Nat->Prop}
theorem OneSend.cases(h:OneSend cs k c v z Has){cc:CommCase}(hc:cc∈cs):cc=scase c v z\/ ∃c' z',cc=rcase c' z'/\Has c':=by
 obtain⟨m,hm,e⟩:=Array.mem_iff_getElem.1 hc
 have hg:cs[m]? = some cc:=by rw[<- e];exact Array.getElem?_eq_getElem hm
 by_cases hk:m=k
 .subst hk;rw[h.at_]at hg;exact .inl (Option.some.inj hg).symm
 .exact .inr (h.rest m cc hk hg)
theorem OneSend.again(h:OneSend cs k c v z Has)(hc : ∃cap buf s r tm,w.heap[c]? = some (.chan cap buf false s r tm))(hr : ∀c',Has c' ->∃cap buf s r tm,w.heap[c']? = some (.chan cap buf false s r tm)):(parked g cs sh).again w=parked g cs sh:=by
 simp[Goroutine.again,parked]
 intro x hx
 rcases h.cases (Array.getElem_mem hx)with e|⟨c',z',e,hh⟩
 .obtain⟨cap,buf,s,r,tm,hc⟩:=hc
  rw[e];simp[scase,hc]
 .obtain⟨cap,buf,s,r,tm,hc⟩:=hr c' hh
  rw[e];simp[rcase,hc]
theorem OneSend.off(h:OneSend cs k c v z Has){c':Nat}(hc:c'≠c):offersAt (parked g cs sh) c' true = []:=by
 simp only[offersAt,parked]
 rw[List.map_eq_nil_iff,List.filter_eq_nil_iff]
 rintro ⟨cc,m⟩ hm
 rcases h.cases (Array.mem_of_getElem? (mem_of_zipIdx hm))with rfl|⟨c₂,z₂,rfl,_⟩
 .simp[scase];exact fun e=>hc e.symm
 .simp[rcase]
theorem OneSend.offers(h:OneSend cs k c v z Has):offersAt (parked g cs sh) c true = [k]:=by
 simp only[offersAt,parked]
 have hz : ∀m:Nat,cs.zipIdx.toList[m]? = (cs[m]?).map fun x=>(x,m):=by intro m;simp
 have:=filter_map_one (id:CommCase×Nat->CommCase×Nat) (fun(x:CommCase×Nat)=>x.1.send.isSome==true&&(match x.1.chan with | .chan (some r')=>r'==c|_=>false)) cs.zipIdx.toList k (scase c v z,k) (by rw[hz,h.at_];rfl) (by simp[scase])
  (fun m x hm hx=>by
   rw[hz]at hx
   cases e:cs[m]? with
   | none=>rw[e]at hx;cases hx
   | some y=>
    rw[e]at hx
    simp only[dN,oI]at hx
    subst hx
    obtain⟨c',z',rfl,_⟩:=h.rest m y hm e
    simp[rcase])
 simp only[List.map_id,id]at this
 exact(congrArg (List.map fun x=>x.snd) this).trans rfl
theorem OneSend.recv(h:OneSend cs k c v z Has){c':Nat}(hc : ¬Has c'):offersAt (parked g cs sh) c' false = []:=by
 simp only[offersAt,parked]
 rw[List.map_eq_nil_iff,List.filter_eq_nil_iff]
 rintro ⟨cc,m⟩ hm
 rcases h.cases (Array.mem_of_getElem? (mem_of_zipIdx hm))with rfl|⟨c₂,z₂,rfl,hh⟩
 .simp[scase]
 .simp[rcase];exact fun e=>hc (e▸hh)
end
/-! ### the frame -/
section
variable{P:Program}{K:World->Prop}{Still M0:Loc->Prop}{B:Nat}{Mem:Nat->Prop}{Inb:Nat->Option Seat}{h j:Nat}{T:Trace}{gs:Array Goroutine}{w:World}{q:Nat->Nat}
def Duo(P:Program)(K:World->Prop)(Still M0:Loc->Prop)(B:Nat)(Mem:Nat->Prop)(Inb:Nat->Option Seat)(h j:Nat)(T:Trace)(gs:Array Goroutine)(w:World)(q:Nat->Nat):Prop:=
 TokCore P K Still B (KD M0 h j) Mem (fun g=>g=h\/(g≠h/\(Inb g).isSome)/\g≠j) Inb (fun x=>x=h\/x=j) (fun _=>False) T gs w q
theorem vN{Kf:Trace->Nat->Prop}{Lo Sp:Nat->Prop}(C:TokCore P K Still B Kf Mem Lo Inb Sp (fun _=>False) T gs w q){i:Nat}{a a':Goroutine}{w':World}{es:Array Event}(hi:gs[i]? = some a)(hS:Sp i)
  (hK:K w->K w') (hc : ∀i s c,Inb i=some s->s.has c->w'.heap[c]? = w.heap[c]?) (k9 : ∀x y,Sp x->x≠i->gs[x]? = some y->y.again w'=y)
  (hp:PastG Still Mem Lo B (Kf (T++MemOp.ofEvents i a.frame.fn a.frame.place es)) (T++MemOp.ofEvents i a.frame.fn a.frame.place es)) :
  TokCore P K Still B Kf Mem Lo Inb Sp (fun _=>False) (T++MemOp.ofEvents i a.frame.fn a.frame.place es) ((gs.map (woken P a a' w')).setIfInBounds i a') w' q/\((gs.map (woken P a a' w')).setIfInBounds i a')[i]? = some a'/\
   ∀x y,Sp x->x≠i->gs[x]? = some y->((gs.map (woken P a a' w')).setIfInBounds i a')[x]? = some y:=by
 have ao:i<gs.size:=(Array.getElem?_eq_some_iff.1 hi).1
 have au : ∀op∈MemOp.ofEvents i a.frame.fn a.frame.place es,op.g=i:=fun op ab=>by obtain⟨e,_,rfl⟩:=Go.Conc.mem_ofEvents ab;rfl
 have C':TokCore P K Still B Kf Mem Lo Inb Sp (fun _=>False) T gs w' q:=
  ⟨C.idle,fun i s c hi e ah=>by obtain⟨cap,k,hk⟩:=C.chans i s c hi e ah;exact⟨cap,k,by rw[hc i s c e ah];exact hk⟩,C.wf,C.live,C.inj,C.above,C.mem,C.nomem,C.lo,C.past,hK C.keep⟩
 refine⟨⟨fun x y hx hy =>?_,C'.chans,C.wf,fun _ _ hx=>hx.elim,C.inj,fun k hk =>?_,C.mem,C.nomem,C.lo,hp,C'.keep⟩,Array.getElem?_setIfInBounds_self_of_lt (by simpa using ao),fun x y hx fa hy =>?_⟩
 .have fa:x≠i:=fun e=>hx (e▸hS)
  rw[Array.getElem?_setIfInBounds_ne (fun e=>fa e.symm),Array.getElem?_map]at hy
  obtain⟨y₀,hy₀,rfl⟩:=oM.1 hy
  rw[woken_of_again (C'.fixed hx hy₀)]
  have hi:=C.idle x y₀ hx hy₀
  cases Du:Inb x with
  | none=>rw[Du]at hi;exact⟨hi.1,by rw[Deaf_other T (fun z=>fa z.symm) _ au];exact hi.2⟩
  | some s=>rw[Du]at hi;exact hi
 .simp only[Array.size_setIfInBounds,Array.size_map]at hk
  rw[Deaf_other T (g':=i) (by omega) _ au]
  exact C.above k hk
 .rw[Array.getElem?_setIfInBounds_ne (fun e=>fa e.symm),Array.getElem?_map,hy,dN,woken_of_again (k9 x y hx fa hy)]
theorem jR{Kf:Trace->Nat->Prop}{Lo Sp:Nat->Prop}(C:TokCore P K Still B Kf Mem Lo Inb Sp (fun _=>False) T gs w q){i:Nat}(x:Goroutine){fn:FuncId}{pos:String}{es:Array Event}(hi:i<gs.size)(hS:Sp i)
  (hp:PastG Still Mem Lo B (Kf (T++MemOp.ofEvents i fn pos es)) (T++MemOp.ofEvents i fn pos es)) :
  TokCore P K Still B Kf Mem Lo Inb Sp (fun _=>False) (T++MemOp.ofEvents i fn pos es) (gs.setIfInBounds i x) w q:=by
 have au : ∀op∈MemOp.ofEvents i fn pos es,op.g=i:=fun op ab=>by obtain⟨e,_,rfl⟩:=Go.Conc.mem_ofEvents ab;rfl
 refine⟨fun y g hy hg =>?_,C.chans,C.wf,fun _ _ z=>z.elim,C.inj,fun k hk =>?_,C.mem,C.nomem,C.lo,hp,C.keep⟩
 .have He:y≠i:=fun e=>hy (e▸hS)
  rw[Array.getElem?_setIfInBounds_ne (fun e=>He e.symm)]at hg
  have hi:=C.idle y g hy hg
  cases e:Inb y with
  | none=>rw[e]at hi;exact⟨hi.1,by rw[Deaf_other T (fun z=>He z.symm) _ au];exact hi.2⟩
  | some s=>rw[e]at hi;exact hi
 .simp only[Array.size_setIfInBounds]at hk
  rw[Deaf_other T (g':=i) (by omega) _ au]
  exact C.above k hk
end
#print axioms vN
#print axioms jR
#print axioms OneSend.offers
end Go.Proofs.YtfagfflkgmcnpaaGreatDoor
namespace Go.Proofs.YtfagfflkgmcnpaaGreatDoor
open Go Go.Conc
open Go.ConcN (sumTo upd sumTo_upd upd_ne upd_same)
def EvH(Still M0:Loc->Prop)(B:Nat)(e:Event):Prop:=EvHd Still B e/\ ∀x,(MemAct.ofEvent e).touch? = some x->x.loc.isMemory=true->M0 x.loc\/(x.write=false/\Still x.loc)
def EvJ(Still M0:Loc->Prop)(B:Nat)(e:Event):Prop:=EvHd Still B e/\ ∀x,(MemAct.ofEvent e).touch? = some x->x.loc.isMemory=true ->¬M0 x.loc
def DG(K:World->Prop)(Inb:Nat->Option Seat)(Ev:Event->Prop)(R:World->World->Prop)(w w':World)(es:Array Event):Prop:=
 (K w->K w')/\(∀i s c,Inb i=some s->s.has c->w'.heap[c]? = w.heap[c]?)/\R w w'/\ ∀e∈es,Ev e
def AtH(P:Program)(Still M0:Loc->Prop)(B:Nat)(main:Bool)(s:Seat)(Home:Goroutine->World->Prop)(a:Goroutine)(w:World):Prop:=
 a.status = .running/\ ∃a₂ es,Home a₂ w/\(∀e∈es,EvH Still M0 B e)/\stepG P main a w = .comm a₂ s.cases true s.shape w es
def AtJ(P:Program)(Still M0:Loc->Prop)(B:Nat)(main:Bool)(s:Seat)(c:Nat)(Home:Value->Goroutine->World->Prop)(b:Goroutine)(w:World):Prop:=
 b.status = .running/\ ∃b₂ cs sh k v z es,OneSend cs k c v z s.has/\Home v (Go.Conc.served b₂ (commResult cs sh k undef false)) w/\(∀e∈es,EvJ Still M0 B e)/\stepG P main b w = .comm b₂ cs true sh w es
section
variable(P:Program)(K:World->Prop)(Still M0:Loc->Prop)(B:Nat)(Inb:Nat->Option Seat)(RH RJ:World->World->Prop)(main:Bool)(s:Seat)(c:Nat)(HomeH:Goroutine->World->Prop)(HomeJ:Value->Goroutine->World->Prop)
def ModeH(μ:Nat)(a:Goroutine)(w:World):Prop:=
 (∃n,μ=n+1/\Goes P main RH (DG K Inb (EvH Still M0 B) RJ) (AtH P Still M0 B main s HomeH) n a w)\/(μ=0/\ ∃a₂,a=parked a₂ s.cases s.shape/\HomeH a₂ w)
def ModeJ(μ:Nat)(b:Goroutine)(w:World):Prop:=
 (∃n,μ=n+1/\Goes P main RJ (DG K Inb (EvJ Still M0 B) RH) (AtJ P Still M0 B main s c HomeJ) n b w)\/
 (μ=0/\ ∃b₂ cs sh k v z,b=parked b₂ cs sh/\OneSend cs k c v z s.has/\HomeJ v (Go.Conc.served b₂ (commResult cs sh k undef false)) w)
end
section
variable{P:Program}{K:World->Prop}{Still M0:Loc->Prop}{B:Nat}{Inb:Nat->Option Seat}{RH RJ:World->World->Prop}{main:Bool}{s:Seat}{c:Nat}{HomeH:Goroutine->World->Prop}{HomeJ:Value->Goroutine->World->Prop}
theorem ModeH.status{μ:Nat}{a:Goroutine}{w:World}(aH : ∀w d,RH w (w.at d))(m:ModeH P K Still M0 B Inb RH RJ main s HomeH μ a w):(a.status = .running/\0<μ)\/(a.status = .blocked/\μ=0):=by
 rcases m with⟨n,rfl,g⟩|⟨rfl,a₂,rfl,_⟩
 .refine .inl ⟨?_,by omega⟩
  cases n with
  | zero=>exact(g _ (aH w 0)).1
  | succ n=>exact g.elim (fun x=>(x _ (aH w 0)).1) (·.1)
 .exact .inr ⟨rfl,rfl⟩
theorem ModeJ.status{μ:Nat}{b:Goroutine}{w:World}(aJ : ∀w d,RJ w (w.at d))(m:ModeJ P K Still M0 B Inb RH RJ main s c HomeJ μ b w):(b.status = .running/\0<μ)\/(b.status = .blocked/\μ=0):=by
 rcases m with⟨n,rfl,g⟩|⟨rfl,b₂,_,_,_,_,_,rfl,_⟩
 .refine .inl ⟨?_,by omega⟩
  cases n with
  | zero=>exact(g _ (aJ w 0)).1
  | succ n=>exact g.elim (fun x=>(x _ (aJ w 0)).1) (·.1)
 .exact .inr ⟨rfl,rfl⟩
theorem ModeH.rely{μ:Nat}{a:Goroutine}{w w':World}(tH : ∀a b c,RH a b->RH b c->RH a c)(hH : ∀a w w',HomeH a w->RH w w'->HomeH a w')(m:ModeH P K Still M0 B Inb RH RJ main s HomeH μ a w)(r:RH w w'):ModeH P K Still M0 B Inb RH RJ main s HomeH μ a w':=by
 rcases m with⟨n,e,g⟩|⟨e,a₂,e',x⟩
 .exact .inl ⟨n,e,g.rely tH r⟩
 .exact .inr ⟨e,a₂,e',hH _ _ _ x r⟩
theorem ModeJ.rely{μ:Nat}{b:Goroutine}{w w':World}(tJ : ∀a b c,RJ a b->RJ b c->RJ a c)(hJ : ∀v a w w',HomeJ v a w->RJ w w'->HomeJ v a w')(m:ModeJ P K Still M0 B Inb RH RJ main s c HomeJ μ b w)(r:RJ w w'):ModeJ P K Still M0 B Inb RH RJ main s c HomeJ μ b w':=by
 rcases m with⟨n,e,g⟩|⟨e,b₂,cs,sh,k,v,z,e',o,x⟩
 .exact .inl ⟨n,e,g.rely tJ r⟩
 .exact .inr ⟨e,b₂,cs,sh,k,v,z,e',o,hJ _ _ _ _ x r⟩
theorem vW{Still:Loc->Prop}{B i:Nat}{fn:FuncId}{pos:String}{es:Array Event}{Q:Touch->Prop}(he : ∀e∈es,EvHd Still B e/\ ∀x,(MemAct.ofEvent e).touch? = some x->x.loc.isMemory=true->Q x) :
  ∀op∈MemOp.ofEvents i fn pos es,∀b,op.act.touch? = some b->b.loc.isMemory=true->Q b:=fun op ab b hb hm=>by
 obtain⟨e,h,rfl⟩:=Go.Conc.mem_ofEvents ab
 exact(he e h).2 b hb hm
end
#print axioms ModeH.status
#print axioms vW
section
variable{P:Program}{K:World->Prop}{Still M0:Loc->Prop}{B:Nat}{Mem:Nat->Prop}{Inb:Nat->Option Seat}{h j:Nat}{T:Trace}{gs:Array Goroutine}{w:World}{q:Nat->Nat}
def MetD(P:Program)(K:World->Prop)(Still:Loc->Prop)(B:Nat)(Mem:Nat->Prop)(Inb:Nat->Option Seat)(h c kk k n:Nat)(sH:Seat)(HomeH:Goroutine->World->Prop)(HomeJ:Value->Goroutine->World->Prop)(m:Machine)(t:Trace):Prop:=
 ∃ (ak:Array Goroutine) (w':World) (aq:Option (Nat×Nat)) (q':Nat->Nat) (a₂ b':Goroutine) (v:Value),m=crowd ak (w'.setChan c 0 #[] false (k+1) (k+1) false) aq/\ak.size=n/\ak[h]? = some (Go.Conc.served a₂ (commResult sH.cases sH.shape kk v true))/\HomeH a₂ w'/\HomeJ v b' w'/\
 w'.heap[c]? = some (.chan 0 #[] false k k false)/\Ring P K Still B Mem Inb h t ak (w'.setChan c 0 #[] false (k+1) (k+1) false) q'
theorem xcK(hKc : ∀w i s c cap buf cl a b tm,Inb i=some s->s.has c->K w->K (w.setChan c cap buf cl a b tm))(C:Duo P K Still M0 B Mem Inb h j T gs w q){sH sJ:Seat}{c k n:Nat}(ae:h≠j)(hh:Inb h=some sH)(hj:Inb j=some sJ)(fe:sH.has c)
  (hc:w.heap[c]? = some (.chan 0 #[] false k k false)) {ak:Array Goroutine} {b':Goroutine} {ops₀:Array MemOp} (ai:ak.size=gs.size) (da : ∀x,x≠h->x≠j->ak[x]? = gs[x]?) (hJ:ak[j]? = some b') (hS:Sits P (j==0) K Still B sJ n b')
  (hp:PastG Still Mem (fun g=>g=h\/(g≠h/\(Inb g).isSome)/\g≠j) B (KD M0 h j (T++ops₀)) (T++ops₀)) (hD : ∀x,Deaf (T++ops₀) x=Deaf T x) (fj:FuncId) (pj:String) (fh:FuncId) (ph:String) :
  Ring P K Still B Mem Inb h (T++(ops₀++met j h fj pj fh ph c k 0)) ak (w.setChan c 0 #[] false (k+1) (k+1) false) (upd q j n):=by
 have hMh:=(C.mem h sH hh).1
 have hMj:=(C.mem j sJ hj).1
 have hcB:=(C.mem h sH hh).2 c fe
 have p2:=xbj hp hMh hMj fj pj fh ph k 0 hcB
 rw[Array.append_assoc]at p2
 have hDeaf : ∀x,Deaf (T++(ops₀++met j h fj pj fh ph c k 0)) x=Deaf T x:=fun x=>by rw[<- Array.append_assoc,Deaf_quiet (met_quiet _ _ _ _ _ _ _ _ _ x),hD]
 refine⟨fun x y hx hy =>?_,fun i s' c' _ e ah =>?_,C.wf,fun _ _ hx=>hx.elim,C.inj,fun x hx=>by rw[hDeaf];exact C.above x (by omega),C.mem,fun i hM =>?_,fun i s' hi e=>⟨hi,by rw[e];rfl⟩,?_,hKc _ h sH c _ _ _ _ _ _ hh fe C.keep⟩
 .by_cases e:x=j
  .subst e
   rw[hJ]at hy
   obtain rfl:=Option.some.inj hy
   rw[hj,upd_same];exact hS
  .rw[da x hx e]at hy
   rw[upd_ne q n e]
   have hi:=C.idle x y (fun z=>z.elim hx e) hy
   cases es:Inb x with
   | none=>rw[es]at hi;exact⟨hi.1,by rw[hDeaf];exact hi.2⟩
   | some s'=>rw[es]at hi;exact hi
 .by_cases ec:c=c'
  .exact⟨0,k+1,by rw[<- ec];exact heap_setChan_self w hc _ _ _ _ _ _⟩
  .obtain⟨br,k',am⟩:=C.chans i s' c' (fun z=>z) e ah
   exact⟨br,k',by rw[heap_setChan_ne w _ _ _ _ _ _ ec];exact am⟩
 .rcases C.nomem i hM with z|rfl|rfl
  .exact .inl z
  .exact .inr rfl
  .exact .inl (by rw[hj];simp)
 .exact PastG.loosen p2 fun g ⟨hg,ep⟩=>hg.elim (fun e=>absurd e ep) fun x=>x.1
end
#print axioms xcK
end Go.Proofs.YtfagfflkgmcnpaaGreatDoor
namespace Go.Proofs.YtfagfflkgmcnpaaGreatDoor
open Go Go.Conc
open Go.ConcN (sumTo upd sumTo_upd upd_ne upd_same)
theorem wD{P:Program}{main:Bool}{R:World->World->Prop}{D:World->World->Array Event->Prop}{Stop:Goroutine->World->Prop}{n:Nat}{g:Goroutine}{w:World}(r:R w w)(hG:Goes P main R D Stop n g w) :
  Stop g w\/ ∃n' g' w' es,n=n'+1/\stepG P main g w = .go g' w' es/\D w w' es/\Goes P main R D Stop n' g' w':=by
 rcases hG.cases with x|⟨n',e,x⟩
 .exact .inl (x w r)
 .obtain⟨g',w',es,a,b,c⟩:=x w r
  exact .inr ⟨n',g',w',es,e,a,b,c⟩
section
variable{P:Program}{K:World->Prop}{Still M0:Loc->Prop}{B:Nat}{Inb:Nat->Option Seat}{RH RJ:World->World->Prop}{main:Bool}{s:Seat}{c:Nat}{HomeH:Goroutine->World->Prop}{HomeJ:Value->Goroutine->World->Prop}{μ:Nat}{a b:Goroutine}{w w':World}
theorem ModeH.again(aH : ∀w d,RH w (w.at d))(m:ModeH P K Still M0 B Inb RH RJ main s HomeH μ a w)(wf:s.Wf)(hc : ∀c,s.has c ->∃cap k,w'.heap[c]? = some (.chan cap #[] false k k false)):a.again w'=a:=by
 rcases m.status aH with⟨h,_⟩|⟨_,e⟩
 .exact again_of_running (.inl h) _
 .rcases m with⟨n,e',_⟩|⟨_,a₂,rfl,_⟩
  .omega
  .refine again_all_open fun cc bx =>?_
   obtain⟨c,z,rfl⟩:=wf.recvs cc bx
   obtain⟨cap,k,h⟩:=hc c (Seat.has_of_mem bx)
   exact⟨c,z,cap,_,k,k,_,rfl,h⟩
theorem ModeH.sends(aH : ∀w d,RH w (w.at d))(m:ModeH P K Still M0 B Inb RH RJ main s HomeH μ a w)(wf:s.Wf)(c':Nat):offersAt a c' true = []:=by
 rcases m.status aH with⟨h,_⟩|⟨_,e⟩
 .exact offersAt_of_not_blocked (by rw[h];simp) _ _
 .rcases m with⟨n,e',_⟩|⟨_,a₂,rfl,_⟩
  .omega
  .exact offersAt_parked_sends (fun cc bx=>by obtain⟨c',z',rfl⟩:=wf.recvs cc bx;rfl) _
theorem ModeJ.again(aJ : ∀w d,RJ w (w.at d))(m:ModeJ P K Still M0 B Inb RH RJ main s c HomeJ μ b w)(h0 : ∃cap buf s r tm,w'.heap[c]? = some (.chan cap buf false s r tm))(hc : ∀c,s.has c ->∃cap k,w'.heap[c]? = some (.chan cap #[] false k k false)):b.again w'=b:=by
 rcases m.status aJ with⟨h,_⟩|⟨_,e⟩
 .exact again_of_running (.inl h) _
 .rcases m with⟨n,e',_⟩|⟨_,b₂,cs,sh,k,v,z,rfl,o,_⟩
  .omega
  .exact o.again h0 fun c' hh=>by obtain⟨cap,k,h⟩:=hc c' hh;exact⟨_,_,_,_,_,h⟩
theorem ModeJ.sends(aJ : ∀w d,RJ w (w.at d))(m:ModeJ P K Still M0 B Inb RH RJ main s c HomeJ μ b w){c':Nat}(hc:c'≠c):offersAt b c' true = []:=by
 rcases m.status aJ with⟨h,_⟩|⟨_,e⟩
 .exact offersAt_of_not_blocked (by rw[h];simp) _ _
 .rcases m with⟨n,e',_⟩|⟨_,b₂,cs,sh,k,v,z,rfl,o,_⟩
  .omega
  .exact o.off hc
end
section
variable{P:Program}{K:World->Prop}{Still M0:Loc->Prop}{B:Nat}{Mem:Nat->Prop}{Inb:Nat->Option Seat}{h j:Nat}{T:Trace}{gs:Array Goroutine}{w:World}{q:Nat->Nat}
theorem YC(C:Duo P K Still M0 B Mem Inb h j T gs w q){a b:Goroutine}(ha:gs[h]? = some a)(hb:gs[j]? = some b)(h1:a.status = .running\/a.status = .blocked)(h2:b.status = .running\/b.status = .blocked) : ∀g∈gs,awake g:=by
 intro g hg
 obtain⟨i,hi,rfl⟩:=Array.mem_iff_getElem.1 hg
 by_cases e:i=h
 .subst e
  have:gs[i]=a:=by simpa[Array.getElem?_eq_getElem hi]using ha
  rw[this];exact awake_of (h1.elim .inl fun x =>.inr (.inl x))
 by_cases e':i=j
 .subst e'
  have:gs[i]=b:=by simpa[Array.getElem?_eq_getElem hi]using hb
  rw[this];exact awake_of (h2.elim .inl fun x =>.inr (.inl x))
 .have hid:=C.idle i _ (fun z=>z.elim e e') (Array.getElem?_eq_getElem hi)
  cases es:Inb i with
  | none=>rw[es]at hid;exact awake_of (hid.2.status.elim .inl fun x =>.inr (.inr x))
  | some s=>rw[es]at hid;exact awake_of ((Sits.status C.keep hid).elim (fun x =>.inl x.1) fun x =>.inr (.inl x.1))
def MetX(P:Program)(K:World->Prop)(Still M0:Loc->Prop)(B:Nat)(Mem:Nat->Prop)(Inb:Nat->Option Seat)(h j c kk k n:Nat)(sH:Seat)(HomeH:Goroutine->World->Prop)(HomeJ:Value->Goroutine->World->Prop)(m:Machine)(t:Trace):Prop:=
 ∃ (gs₀ ak:Array Goroutine) (w':World) (aq:Option (Nat×Nat)) (q':Nat->Nat) (t₀:Trace) (ops₀:Array MemOp) (a₂ b':Goroutine) (v:Value) (fj:FuncId) (pj:String) (fh:FuncId) (ph:String),m=crowd ak (w'.setChan c 0 #[] false (k+1) (k+1) false) aq/\t=t₀++(ops₀++met j h fj pj fh ph c k 0)/\
 gs₀.size=n/\ak.size=gs₀.size/\(∀x,x≠h->x≠j->ak[x]? = gs₀[x]?)/\ak[h]? = some (Go.Conc.served a₂ (commResult sH.cases sH.shape kk v true))/\ak[j]? = some b'/\HomeH a₂ w'/\HomeJ v b' w'/\w'.heap[c]? = some (.chan 0 #[] false k k false)/\Duo P K Still M0 B Mem Inb h j t₀ gs₀ w' q'/\
 PastG Still Mem (fun g=>g=h\/(g≠h/\(Inb g).isSome)/\g≠j) B (KD M0 h j (t₀++ops₀)) (t₀++ops₀)/\ ∀x,Deaf (t₀++ops₀) x=Deaf t₀ x
theorem VM(hKat : ∀w d,K w->K (w.at d)){RH RJ:World->World->Prop}(tH : ∀a b c,RH a b->RH b c->RH a c)(tJ : ∀a b c,RJ a b->RJ b c->RJ a c)
  (aH : ∀w d,RH w (w.at d)) (aJ : ∀w d,RJ w (w.at d)) (hMS : ∀l,M0 l ->¬Still l) {HomeH:Goroutine->World->Prop} {HomeJ:Value->Goroutine->World->Prop} (hH : ∀a w w',HomeH a w->RH w w'->HomeH a w') (hJ : ∀v a w w',HomeJ v a w->RJ w w'->HomeJ v a w')
  {sH sJ:Seat} {c kk k μh μj:Nat} {z:Value} {a b:Goroutine} {sl:Option (Nat×Nat)} (ae:h≠j) (hh:Inb h=some sH) (hj:Inb j=some sJ) (hk:sH.cases[kk]? = some (rcase c z)) (ha:gs[h]? = some a) (hb:gs[j]? = some b)
  (C:Duo P K Still M0 B Mem Inb h j T gs w q) (hc:w.heap[c]? = some (.chan 0 #[] false k k false)) (GH:ModeH P K Still M0 B Inb RH RJ (h==0) sH HomeH μh a w) (GJ:ModeJ P K Still M0 B Inb RH RJ (j==0) sJ c HomeJ μj b w) (ro:0<μh\/0<μj) :
  ∃N m' T',runNT P N (crowd gs w sl) T=(.next m',T')/\MetX P K Still M0 B Mem Inb h j c kk k gs.size sH HomeH HomeJ m' T':=by
 have fe:sH.has c:=⟨kk,z,hk⟩
 have hwfH:=C.wf h sH hh
 have hwfJ:=C.wf j sJ hj
 have hMh:=(C.mem h sH hh).1
 have hMj:=(C.mem j sJ hj).1
 have hu : ∀ (m:Nat) (cc:CommCase),m≠kk->sH.cases[m]? = some cc->cc.chan ≠ .chan (some c):=by
  intro m cc hm bx ec
  obtain⟨c₂,z₂,rfl⟩:=hwfH.recvs cc (Array.mem_of_getElem? bx)
  simp only[rcase,Value.chan.injEq,oI]at ec
  subst ec
  exact hm (hwfH.apart m kk _ _ _ bx hk)
 refine runs_until (P:=P)
  (Inv:=fun μ m t=>MetX P K Still M0 B Mem Inb h j c kk k gs.size sH HomeH HomeJ m t\/ ∃gs₁ w₁ sl₁ q₁ a₁ b₁ μh μj,m=crowd gs₁ w₁ sl₁/\gs₁.size=gs.size/\gs₁[h]? = some a₁/\gs₁[j]? = some b₁/\Duo P K Still M0 B Mem Inb h j t gs₁ w₁ q₁/\
   w₁.heap[c]? = some (.chan 0 #[] false k k false)/\ModeH P K Still M0 B Inb RH RJ (h==0) sH HomeH μh a₁ w₁/\ModeJ P K Still M0 B Inb RH RJ (j==0) sJ c HomeJ μj b₁ w₁/\(0<μh\/0<μj)/\μ=sumTo gs₁.size q₁+μh+μj)
  (fun μ m t hInv =>?_) _ _ T (.inr ⟨gs,w,sl,q,a,b,μh,μj,rfl,rfl,ha,hb,C,hc,GH,GJ,ro,rfl⟩)
 rcases hInv with bl|⟨gs₁,w₁,sl₁,q₁,a₁,b₁,μh,μj,rfl,ai,ha₁,hb₁,C₁,hc₁,GH₁,GJ₁,ro,hμ⟩
 .exact .inl bl
 refine .inr ?_
 have cu:h<gs₁.size:=(Array.getElem?_eq_some_iff.1 ha₁).1
 have gl:j<gs₁.size:=(Array.getElem?_eq_some_iff.1 hb₁).1
 have Ce : ∃ (i:Nat) (g:Goroutine),gs₁[i]? = some g/\g.status = .running:=by
  rcases ro with x|x
  .exact⟨h,a₁,ha₁,(GH₁.status aH).elim (·.1) (fun y=>by omega)⟩
  .exact⟨j,b₁,hb₁,(GJ₁.status aJ).elim (·.1) (fun y=>by omega)⟩
 obtain⟨i,g,d,aq,hi,hg,az⟩:=crowd_pick (P:=P) (w:=w₁) (sl:=sl₁) (YC C₁ ha₁ hb₁ ((GH₁.status aH).imp (·.1) (·.1)) ((GJ₁.status aJ).imp (·.1) (·.1))) Ce
 have Cd:Duo P K Still M0 B Mem Inb h j t gs₁ (w₁.at d) q₁:=TokCore.at hKat C₁ d
 have dw:(w₁.at d).heap[c]? = some (.chan 0 #[] false k k false):=hc₁
 have GHd:=GH₁.rely tH hH (aH w₁ d)
 have GJd:=GJ₁.rely tJ hJ (aJ w₁ d)
 have rH:RH (w₁.at d) (w₁.at d):=aH (w₁.at d) d
 have rJ:RJ (w₁.at d) (w₁.at d):=aJ (w₁.at d) d
 have chH : ∀c',sH.has c' ->∃cap k,(w₁.at d).heap[c']? = some (.chan cap #[] false k k false):=fun c' x=>Cd.chans h sH c' (fun z=>z) hh x
 have chJ : ∀c',sJ.has c' ->∃cap k,(w₁.at d).heap[c']? = some (.chan cap #[] false k k false):=fun c' x=>Cd.chans j sJ c' (fun z=>z) hj x
 have ot : ∀x s',x≠h->Inb x=some s' ->¬s'.has c:=fun x s' hx d5 ah=>hx (C.inj x h s' sH c d5 hh ah fe)
 have fin : ∀ (ak:Array Goroutine) (ops₀:Array MemOp) (a₂ b':Goroutine) (v:Value) (fj:FuncId) (pj:String) (fh:FuncId) (ph:String),ak.size=gs₁.size->(∀x,x≠h->x≠j->ak[x]? = gs₁[x]?)->ak[h]? = some (Go.Conc.served a₂ (commResult sH.cases sH.shape kk v true))->ak[j]? = some b'->
   HomeH a₂ (w₁.at d)->HomeJ v b' (w₁.at d)->PastG Still Mem (fun g=>g=h\/(g≠h/\(Inb g).isSome)/\g≠j) B (KD M0 h j (t++ops₀)) (t++ops₀)->(∀x,Deaf (t++ops₀) x=Deaf t x)->
   MetX P K Still M0 B Mem Inb h j c kk k gs.size sH HomeH HomeJ (crowd ak ((w₁.at d).setChan c 0 #[] false (k+1) (k+1) false) aq) (t++(ops₀++met j h fj pj fh ph c k 0)):=by
  intro ak ops₀ a₂ b' v fj pj fh ph ax da ep ir hHh hHj hp hD
  exact⟨gs₁,ak,w₁.at d,aq,q₁,t,ops₀,a₂,b',v,fj,pj,fh,ph,rfl,rfl,ai,ax,da,ep,ir,hHh,hHj,dw,Cd,hp,hD⟩
 have bw : ∀ (i x:Nat) (y:Goroutine) (c':Nat),x≠h->x≠j->(gs₁.setIfInBounds i ph)[x]? = some y->offersAt y c' true = []:=by
  intro i x y c' cy dp hy
  rcases getElem?_stand gs₁ i x y hy with⟨_,rfl⟩|⟨_,er⟩
  .exact offersAt_ph _ _
  .exact TokCore.noSend Cd (fun z=>z.elim cy dp) er _
 by_cases e:i=h
 ·-- h's step
  subst e
  obtain rfl:g=a₁:=by rw[ha₁]at hi;exact(Option.some.inj hi).symm
  obtain⟨n,hn,G⟩ : ∃n,μh=n+1/\Goes P (i==0) RH (DG K Inb (EvH Still M0 B) RJ) (AtH P Still M0 B (i==0) sH HomeH) n g (w₁.at d):=by
   rcases GHd with x|⟨_,a₂,rfl,_⟩
   .exact x
   .cases hg
  rcases wD rH G with⟨_,a₂,es,hHome,hEv,dq⟩|⟨n',a',w',es,rfl,fu,⟨dK,dC,dR,dE⟩,G'⟩
  .obtain⟨au,hs,hl,bf⟩:=evHd_ops (i:=i) (fn:=g.frame.fn) (pos:=g.frame.place) (fun e he=>(hEv e he).1)
   have hp:=VJ hMS Cd.past hMh (.inl rfl) au (vW hEv) hs (bf t) hl
   have hDf : ∀x,Deaf (t++MemOp.ofEvents i g.frame.fn g.frame.place es) x=Deaf t x:=fun x=>by
    by_cases ex:x=i
    .subst ex;exact bf t
    .exact Deaf_other t (fun z=>ex z.symm) _ au
   rcases GJd with⟨m,hm,Gm⟩|⟨hm,b₂,cs,sh,kj,v,zj,rfl,hO,hHj⟩
   ·-- j is on its way: h is parked
    have B2:b₁.status = .running:=(ModeJ.status aJ (.inl ⟨m,hm,Gm⟩:ModeJ P K Still M0 B Inb RH RJ (j==0) sJ c HomeJ μj b₁ (w₁.at d))).elim (·.1) (fun y=>by omega)
    have hw : ∀cc∈sH.cases,NoWays (w₁.at d) (gs₁.setIfInBounds i ph) cc:=by
     intro cc bx
     obtain⟨c',z',rfl⟩:=hwfH.recvs cc bx
     obtain⟨cap,k',ah⟩:=chH c' (Seat.has_of_mem bx)
     refine ways_recv_none ah (partners_nil fun x y hy =>?_)
     by_cases cy:x=i
     .subst cy
      rw[Array.getElem?_setIfInBounds_self_of_lt cu]at hy
      obtain rfl:=Option.some.inj hy
      exact offersAt_ph _ _
     by_cases dp:x=j
     .subst dp
      rw[stand_get (Ne.symm ae) hb₁]at hy
      obtain rfl:=Option.some.inj hy
      exact offersAt_of_not_blocked (by rw[B2];simp) _ _
     .exact bw i x y c' cy dp hy
    exact⟨_,_,sumTo gs₁.size q₁+0+μj,by rw[az];exact crowd_waits (sl:=aq) hi dq hw,by omega,.inr ⟨_,w₁.at d,aq,q₁,parked a₂ sH.cases sH.shape,b₁,0,μj,rfl,by simpa using ai,Array.getElem?_setIfInBounds_self_of_lt cu,by rw[Array.getElem?_setIfInBounds_ne ae];exact hb₁,jR Cd _ cu (.inl rfl) hp,dw,
     .inr ⟨rfl,a₂,rfl,hHome⟩,.inl ⟨m,hm,Gm⟩,by omega,by simp⟩⟩
   ·-- j is parked: they meet
    have ho : ∀ (m:Nat) (c':CommCase),m≠kk->sH.cases[m]? = some c'->NoWays (w₁.at d) (gs₁.setIfInBounds i ph) c':=by
     intro m cc hm bx
     obtain⟨c₂,z₂,rfl⟩:=hwfH.recvs cc (Array.mem_of_getElem? bx)
     have hne₂:c₂≠c:=fun ec=>hu m _ hm bx (by rw[<- ec];rfl)
     obtain⟨cap,k',ah⟩:=chH c₂ ⟨m,z₂,bx⟩
     refine ways_recv_none ah (partners_nil fun x y hy =>?_)
     by_cases cy:x=i
     .subst cy
      rw[Array.getElem?_setIfInBounds_self_of_lt cu]at hy
      obtain rfl:=Option.some.inj hy
      exact offersAt_ph _ _
     by_cases dp:x=j
     .subst dp
      rw[stand_get (Ne.symm ae) hb₁]at hy
      obtain rfl:=Option.some.inj hy
      exact hO.off hne₂
     .exact bw i x y c₂ cy dp hy
    have Ax:partners (gs₁.setIfInBounds i ph) c true = [(j,kj)]:=by
     rw[partners_one (stand_get (Ne.symm ae) hb₁) fun x y dp hy=>by
      by_cases cy:x=i
      .subst cy
       rw[Array.getElem?_setIfInBounds_self_of_lt cu]at hy
       obtain rfl:=Option.some.inj hy
       exact offersAt_ph _ _
      .exact bw i x y c cy dp hy,hO.offers]
     rfl
    refine⟨_,_,0,by rw[az];exact kI (sl:=aq) hi dq hk ho dw (Ne.symm ae) hb₁ hO.at_ Ax,by omega,.inl ?_⟩
    exact fin _ _ a₂ _ v b₂.frame.fn b₂.frame.place a₂.frame.fn a₂.frame.place (by simp) (fun x hx dp=>by rw[Array.getElem?_setIfInBounds_ne (fun z=>hx z.symm),Array.getElem?_setIfInBounds_ne (fun z=>dp z.symm)])
     (by rw[Array.getElem?_setIfInBounds_self_of_lt (by simpa using cu),finishComm_served]) (by rw[Array.getElem?_setIfInBounds_ne ae,Array.getElem?_setIfInBounds_self_of_lt gl,finishComm_served]) hHome hHj hp hDf
  ·-- h's own step
   obtain⟨au,hs,hl,bf⟩:=evHd_ops (i:=i) (fn:=g.frame.fn) (pos:=g.frame.place) (fun e he=>(dE e he).1)
   have hp:=VJ hMS Cd.past hMh (.inl rfl) au (vW dE) hs (bf t) hl
   obtain⟨C',h1,h2⟩:=vN (a':=a') Cd ha₁ (.inl rfl) dK dC (fun x y hx fa hy=>by
    rcases hx with rfl|rfl
    .exact absurd rfl fa
    .rw[hb₁]at hy
     obtain rfl:=Option.some.inj hy
     exact GJd.again aJ ⟨_,_,_,_,_,by rw[dC i sH c hh fe];exact dw⟩ fun c' ah=>by obtain⟨cap,k',am⟩:=chJ c' ah;exact⟨cap,k',by rw[dC _ sJ c' hj ah];exact am⟩) hp
   exact⟨_,_,sumTo gs₁.size q₁+(n'+1)+μj,by rw[az];exact runT_crowd_go (sl:=aq) hi fu,by omega,.inr ⟨_,w',aq,q₁,a',b₁,n'+1,μj,rfl,by simpa using ai,h1,h2 j b₁ (.inr rfl) (Ne.symm ae) hb₁,C',by rw[dC i sH c hh fe];exact dw,
    .inl ⟨n',rfl,G'⟩,GJd.rely tJ hJ dR,by omega,by simp⟩⟩
 by_cases ej:i=j
 ·-- j's step
  subst ej
  obtain rfl:g=b₁:=by rw[hb₁]at hi;exact(Option.some.inj hi).symm
  obtain⟨n,hn,G⟩ : ∃n,μj=n+1/\Goes P (i==0) RJ (DG K Inb (EvJ Still M0 B) RH) (AtJ P Still M0 B (i==0) sJ c HomeJ) n g (w₁.at d):=by
   rcases GJd with x|⟨_,b₂,_,_,_,_,_,rfl,_⟩
   .exact x
   .cases hg
  rcases wD rJ G with⟨_,b₂,cs,sh,kj,v,zj,es,hO,hHome,hEv,dq⟩|⟨n',b',w',es,rfl,fu,⟨dK,dC,dR,dE⟩,G'⟩
  .obtain⟨au,hs,hl,bf⟩:=evHd_ops (i:=i) (fn:=g.frame.fn) (pos:=g.frame.place) (fun e he=>(hEv e he).1)
   have hp:=xap Cd.past hMj au (vW hEv) hs (bf t) hl
   have hDf : ∀x,Deaf (t++MemOp.ofEvents i g.frame.fn g.frame.place es) x=Deaf t x:=fun x=>by
    by_cases ex:x=i
    .subst ex;exact bf t
    .exact Deaf_other t (fun z=>ex z.symm) _ au
   -- no receive of j's has a way
   have cf : ∀c' z',sJ.has c'->NoWays (w₁.at d) (gs₁.setIfInBounds i ph) (rcase c' z'):=by
    intro c' z' ah
    obtain⟨cap,k',am⟩:=chJ c' ah
    refine ways_recv_none am (partners_nil fun x y hy =>?_)
    by_cases dp:x=i
    .subst dp
     rw[Array.getElem?_setIfInBounds_self_of_lt gl]at hy
     obtain rfl:=Option.some.inj hy
     exact offersAt_ph _ _
    by_cases cy:x=h
    .subst cy
     rw[stand_get ae ha₁]at hy
     obtain rfl:=Option.some.inj hy
     exact GHd.sends aH hwfH _
    .exact bw i x y c' cy dp hy
   have Ci : ∀ (x:Nat) (y:Goroutine),x≠h->(gs₁.setIfInBounds i ph)[x]? = some y->offersAt y c false = []:=by
    intro x y cy hy
    rcases getElem?_stand gs₁ i x y hy with⟨_,rfl⟩|⟨hx,er⟩
    .exact offersAt_ph _ _
    .exact TokCore.noRecvAt Cd (fun z=>z.elim cy hx) er fun s' d5=>ot x s' cy d5
   rcases GHd with⟨m,hm,Gm⟩|⟨hm,a₂,rfl,hHh⟩
   ·-- h is on its way: j is parked
    have F6:a₁.status = .running:=(ModeH.status aH (.inl ⟨m,hm,Gm⟩:ModeH P K Still M0 B Inb RH RJ (h==0) sH HomeH μh a₁ (w₁.at d))).elim (·.1) (fun y=>by omega)
    have hw : ∀cc∈cs,NoWays (w₁.at d) (gs₁.setIfInBounds i ph) cc:=by
     intro cc bx
     rcases hO.cases bx with rfl|⟨c',z',rfl,ah⟩
     .refine ways_send_none dw (dJ _) (partners_nil fun x y hy =>?_)
      by_cases cy:x=h
      .subst cy
       rw[stand_get ae ha₁]at hy
       obtain rfl:=Option.some.inj hy
       exact offersAt_of_not_blocked (by rw[F6];simp) _ _
      .exact Ci x y cy hy
     .exact cf c' z' ah
    exact⟨_,_,sumTo gs₁.size q₁+μh+0,by rw[az];exact crowd_waits (sl:=aq) hi dq hw,by omega,.inr ⟨_,w₁.at d,aq,q₁,a₁,parked b₂ cs sh,μh,0,rfl,by simpa using ai,by rw[Array.getElem?_setIfInBounds_ne e];exact ha₁,Array.getElem?_setIfInBounds_self_of_lt gl,jR Cd _ gl (.inr rfl) hp,dw,
     .inl ⟨m,hm,Gm⟩,.inr ⟨rfl,b₂,cs,sh,kj,v,zj,rfl,hO,hHome⟩,by omega,by simp⟩⟩
   ·-- h is parked: they meet
    have ho : ∀ (m:Nat) (c':CommCase),m≠kj->cs[m]? = some c'->NoWays (w₁.at d) (gs₁.setIfInBounds i ph) c':=by
     intro m cc hm bx
     obtain⟨c',z',rfl,ah⟩:=hO.rest m cc hm bx
     exact cf c' z' ah
    have Ax:partners (gs₁.setIfInBounds i ph) c false = [(h,kk)]:=by
     rw[partners_one (stand_get ae ha₁) fun x y cy hy=>Ci x y cy hy,offersAt_parked_at hk hu]
     rfl
    refine⟨_,_,0,by rw[az];exact kH (sl:=aq) hi dq hO.at_ ho dw ae ha₁ hk Ax,by omega,.inl ?_⟩
    exact fin _ _ a₂ _ v b₂.frame.fn b₂.frame.place a₂.frame.fn a₂.frame.place (by simp) (fun x hx dp=>by rw[Array.getElem?_setIfInBounds_ne (fun z=>dp z.symm),Array.getElem?_setIfInBounds_ne (fun z=>hx z.symm)])
     (by rw[Array.getElem?_setIfInBounds_ne e,Array.getElem?_setIfInBounds_self_of_lt cu,finishComm_served]) (by rw[Array.getElem?_setIfInBounds_self_of_lt (by simpa using gl),finishComm_served]) hHh hHome hp hDf
  ·-- j's own step
   obtain⟨au,hs,hl,bf⟩:=evHd_ops (i:=i) (fn:=g.frame.fn) (pos:=g.frame.place) (fun e he=>(dE e he).1)
   have hp:=xap Cd.past hMj au (vW dE) hs (bf t) hl
   obtain⟨C',h1,h2⟩:=vN (a':=b') Cd hb₁ (.inr rfl) dK dC (fun x y hx fa hy=>by
    rcases hx with rfl|rfl
    .rw[ha₁]at hy
     obtain rfl:=Option.some.inj hy
     exact GHd.again aH hwfH fun c' ah=>by obtain⟨cap,k',am⟩:=chH c' ah;exact⟨cap,k',by rw[dC _ sH c' hh ah];exact am⟩
    .exact absurd rfl fa) hp
   exact⟨_,_,sumTo gs₁.size q₁+μh+(n'+1),by rw[az];exact runT_crowd_go (sl:=aq) hi fu,by omega,.inr ⟨_,w',aq,q₁,a₁,b',μh,n'+1,rfl,by simpa using ai,h2 h a₁ (.inl rfl) ae ha₁,h1,C',by rw[dC h sH c hh fe];exact dw,
    GHd.rely tH hH dR,.inl ⟨n',rfl,G'⟩,by omega,by simp⟩⟩
 ·-- a bystander's step
  obtain⟨ak,ops,q',gf,ax,k9,_,_,C',ao⟩:=TokCore.by_step (sl:=aq) (fun t u i=>KD.app u) Cd hi (fun z=>z.elim e ej) hg
   (fun x gx hx co=>by
    rcases hx with rfl|rfl
    .rw[ha₁]at co
     obtain rfl:=Option.some.inj co
     exact GHd.again aH hwfH chH
    .rw[hb₁]at co
     obtain rfl:=Option.some.inj co
     exact GJd.again aJ ⟨_,_,_,_,_,dw⟩ chJ) (fun hD=>hD.elim)
   (fun s' g₂ d5 pg=>⟨fun hD=>hD,fun x gx c' hx co ah=>by
    rcases hx with rfl|rfl
    .rw[ha₁]at co
     obtain rfl:=Option.some.inj co
     exact GHd.sends aH hwfH _
    .rw[hb₁]at co
     obtain rfl:=Option.some.inj co
     exact GJd.sends aJ fun ec=>ot i s' e d5 (ec▸ah)⟩)
  exact⟨_,_,sumTo ak.size q'+μh+μj,by rw[az];exact gf,by rw[ax];omega,.inr ⟨ak,w₁.at d,aq,q',a₁,b₁,μh,μj,rfl,ax.trans ai,by rw[k9 h (.inl rfl)];exact ha₁,by rw[k9 j (.inr rfl)];exact hb₁,C',dw,GHd,GJd,ro,rfl⟩⟩
theorem MetX.ring(hKc : ∀w i s c cap buf cl a b tm,Inb i=some s->s.has c->K w->K (w.setChan c cap buf cl a b tm)){sH sJ:Seat}{c kk k n:Nat}{z:Value}{HomeH:Goroutine->World->Prop}{HomeJ:Value->Goroutine->World->Prop}{m:Machine}{t:Trace}
  (ae:h≠j) (hh:Inb h=some sH) (hj:Inb j=some sJ) (hk:sH.cases[kk]? = some (rcase c z)) (oy : ∀v b' w',HomeJ v b' w'->K w' ->∃n,Sits P (j==0) K Still B sJ n b') (M:MetX P K Still M0 B Mem Inb h j c kk k n sH HomeH HomeJ m t) :
  MetD P K Still B Mem Inb h c kk k n sH HomeH HomeJ m t:=by
 obtain⟨gs₀,ak,w',aq,q',t₀,ops₀,a₂,b',v,fj,pj,fh,ph,rfl,rfl,hn,ax,da,ep,ir,hHh,hHj,hc,C,hp,hD⟩:=M
 obtain⟨x,hS⟩:=oy v b' w' hHj C.keep
 exact⟨ak,w',aq,upd q' j x,a₂,b',v,rfl,ax.trans hn,ep,hHh,hHj,hc,xcK hKc C ae hh hj ⟨kk,z,hk⟩ hc ax da ir hS hp hD fj pj fh ph⟩
theorem MetX.duo(hKc : ∀w i s c cap buf cl a b tm,Inb i=some s->s.has c->K w->K (w.setChan c cap buf cl a b tm)){M1:Loc->Prop}(hMS : ∀l,M1 l ->¬Still l){sH sJ:Seat}{c kk k n:Nat}{z:Value}{HomeH:Goroutine->World->Prop}{HomeJ:Value->Goroutine->World->Prop}{m:Machine}{t:Trace}
  (ae:h≠j) (hh:Inb h=some sH) (hj:Inb j=some sJ) (hk:sH.cases[kk]? = some (rcase c z)) (M:MetX P K Still (fun _=>False) B Mem Inb h j c kk k n sH HomeH HomeJ m t) :
  ∃ (ak:Array Goroutine) (w':World) (aq:Option (Nat×Nat)) (q':Nat->Nat) (a₂ b':Goroutine) (v:Value),m=crowd ak (w'.setChan c 0 #[] false (k+1) (k+1) false) aq/\ak.size=n/\ak[h]? = some (Go.Conc.served a₂ (commResult sH.cases sH.shape kk v true))/\ak[j]? = some b'/\HomeH a₂ w'/\HomeJ v b' w'/\
   w'.heap[c]? = some (.chan 0 #[] false k k false)/\Duo P K Still M1 B Mem Inb j h t ak (w'.setChan c 0 #[] false (k+1) (k+1) false) q':=by
 obtain⟨gs₀,ak,w',aq,q',t₀,ops₀,a₂,b',v,fj,pj,fh,ph,rfl,rfl,hn,ax,da,ep,ir,hHh,hHj,hc,C,hp,hD⟩:=M
 have hMh:=(C.mem h sH hh).1
 have hMj:=(C.mem j sJ hj).1
 have hcB:=(C.mem h sH hh).2 c ⟨kk,z,hk⟩
 have pH:PastH Still Mem (fun g=>g=h\/(g≠h/\(Inb g).isSome)/\g≠j) B j (t₀++ops₀):=⟨hp.clean,fun i a ha hm=>(hp.known i a ha hm).imp (fun x=>(x.of ha).2 id) id,hp.wrote,hp.hears,hp.seen⟩
 have p2:=xaq hMS pH hMj hMh fj pj fh ph k 0 hcB
 rw[Array.append_assoc]at p2
 have hDeaf : ∀x,Deaf (t₀++(ops₀++met j h fj pj fh ph c k 0)) x=Deaf t₀ x:=fun x=>by rw[<- Array.append_assoc,Deaf_quiet (met_quiet _ _ _ _ _ _ _ _ _ x),hD]
 refine⟨ak,w',aq,q',a₂,b',v,rfl,ax.trans hn,ep,ir,hHh,hHj,hc,?_⟩
 refine⟨fun x y hx hy =>?_,fun i s' c' _ e ah =>?_,C.wf,fun _ _ hx=>hx.elim,C.inj,fun x hx=>by rw[hDeaf];exact C.above x (by omega),C.mem,fun i hM=>(C.nomem i hM).imp id Or.symm,fun i s' hi e =>?_,?_,hKc _ h sH c _ _ _ _ _ _ hh ⟨kk,z,hk⟩ C.keep⟩
 .have dp:x≠j:=fun e=>hx (.inl e)
  have cy:x≠h:=fun e=>hx (.inr e)
  rw[da x cy dp]at hy
  have hi:=C.idle x y (fun z=>z.elim cy dp) hy
  cases es:Inb x with
  | none=>rw[es]at hi;exact⟨hi.1,by rw[hDeaf];exact hi.2⟩
  | some s'=>rw[es]at hi;exact hi
 .by_cases ec:c=c'
  .exact⟨0,k+1,by rw[<- ec];exact heap_setChan_self w' hc _ _ _ _ _ _⟩
  .obtain⟨br,k',am⟩:=C.chans i s' c' (fun z=>z) e ah
   exact⟨br,k',by rw[heap_setChan_ne w' _ _ _ _ _ _ ec];exact am⟩
 .exact .inr ⟨⟨fun e'=>hi (.inl e'),by rw[e];rfl⟩,fun e'=>hi (.inr e')⟩
 .refine PastG.loosen p2 fun g hg =>?_
  rcases hg with e|⟨hg,zc⟩
  .exact .inl e
  .rcases hg with e|⟨⟨_,hs⟩,t7⟩
   .exact absurd e zc
   .exact .inr ⟨⟨t7,hs⟩,zc⟩
end
#print axioms VM
#print axioms MetX.ring
#print axioms MetX.duo
end Go.Proofs.YtfagfflkgmcnpaaGreatDoor
namespace Go.Proofs.YtfagfflkgmcnpaaGreatDoor
open Go Go.Conc
open Go.ConcN (sumTo upd sumTo_upd upd_ne upd_same)
section
variable{P:Program}{K:World->Prop}{Still M0:Loc->Prop}{B:Nat}{Mem:Nat->Prop}{Inb Inb':Nat->Option Seat}{h j:Nat}{T:Trace}{gs:Array Goroutine}{w:World}{q:Nat->Nat}
def Fly(P:Program)(K:World->Prop)(Still M0:Loc->Prop)(B:Nat)(Mem:Nat->Prop)(Inb:Nat->Option Seat)(h m:Nat)(T:Trace)(gs:Array Goroutine)(w:World)(q:Nat->Nat):Prop:=
 TokCore P K Still B (KS M0 h m) Mem (fun g=>g=h\/(g≠h/\(Inb g).isSome)) Inb (fun x=>x=h) (fun _=>False) T gs w q
theorem xgK{m:Nat}(C:Fly P K Still M0 B Mem Inb h m T gs w q){a:Goroutine}(ha:gs[h]? = some a)(h1:a.status = .running) : ∀g∈gs,awake g:=by
 intro g hg
 obtain⟨i,hi,rfl⟩:=Array.mem_iff_getElem.1 hg
 by_cases e:i=h
 .subst e
  have:gs[i]=a:=by simpa[Array.getElem?_eq_getElem hi]using ha
  rw[this];exact awake_of (.inl h1)
 .have hid:=C.idle i _ e (Array.getElem?_eq_getElem hi)
  cases es:Inb i with
  | none=>rw[es]at hid;exact awake_of (hid.2.status.elim .inl fun x =>.inr (.inr x))
  | some s=>rw[es]at hid;exact awake_of ((Sits.status C.keep hid).elim (fun x =>.inl x.1) fun x =>.inr (.inl x.1))
def xcL(P:Program)(K:World->Prop)(Still:Loc->Prop)(B:Nat)(Mem:Nat->Prop)(Inb:Nat->Option Seat)(h c kk k cap n:Nat)(sH:Seat)(v:Value)(HomeH:Goroutine->World->Prop)(X:World->Prop)(m:Machine)(t:Trace):Prop:=
 ∃ (ak:Array Goroutine) (w':World) (aq:Option (Nat×Nat)) (q':Nat->Nat) (a₂:Goroutine),m=crowd ak (w'.setChan c cap #[] false (k+1) (k+1) false) aq/\ak.size=n/\ak[h]? = some (Go.Conc.served a₂ (commResult sH.cases sH.shape kk v true))/\HomeH a₂ w'/\X w'/\
 Ring P K Still B Mem Inb h t ak (w'.setChan c cap #[] false (k+1) (k+1) false) q'
theorem xfm(hKat : ∀w d,K w->K (w.at d))(hKc : ∀w i s c cap buf cl a b tm,Inb i=some s->s.has c->K w->K (w.setChan c cap buf cl a b tm)){RH RJ:World->World->Prop}(tH : ∀a b c,RH a b->RH b c->RH a c)(aH : ∀w d,RH w (w.at d))(aJ : ∀w d,RJ w (w.at d))(hMS : ∀l,M0 l ->¬Still l){HomeH:Goroutine->World->Prop}{X:World->Prop}(hX : ∀w w',X w->RJ w w'->X w')(x0:X w)
  {sH:Seat} {c kk k cap m n:Nat} {z v:Value} {a:Goroutine} {sl:Option (Nat×Nat)} (hh:Inb h=some sH) (uz:sH.Wf) (hcB:c<B) (hMh:Mem h) (av : ∀x s,Inb' x=some s->Inb x=some s) (hk:sH.cases[kk]? = some (rcase c z)) (ha:gs[h]? = some a)
  (C:Fly P K Still M0 B Mem Inb' h m T gs w q) (sa:SentAt c k m T) (hc:w.heap[c]? = some (.chan cap #[v] false (k+1) k false)) (da : ∀c',sH.has c'->c'≠c ->∃br k',w.heap[c']? = some (.chan br #[] false k' k' false))
  (G:Goes P (h==0) RH (DG K Inb (EvH Still M0 B) RJ) (AtH P Still M0 B (h==0) sH HomeH) n a w) :
  ∃N m' T',runNT P N (crowd gs w sl) T=(.next m',T')/\xcL P K Still B Mem Inb' h c kk k cap gs.size sH v HomeH X m' T':=by
 have fe:sH.has c:=⟨kk,z,hk⟩
 refine runs_until (P:=P)
  (Inv:=fun μ mm t=>xcL P K Still B Mem Inb' h c kk k cap gs.size sH v HomeH X mm t\/ ∃gs₁ w₁ sl₁ q₁ a₁ n₁,mm=crowd gs₁ w₁ sl₁/\gs₁.size=gs.size/\gs₁[h]? = some a₁/\Fly P K Still M0 B Mem Inb' h m t gs₁ w₁ q₁/\SentAt c k m t/\
   w₁.heap[c]? = some (.chan cap #[v] false (k+1) k false)/\(∀c',sH.has c'->c'≠c ->∃br k',w₁.heap[c']? = some (.chan br #[] false k' k' false))/\Goes P (h==0) RH (DG K Inb (EvH Still M0 B) RJ) (AtH P Still M0 B (h==0) sH HomeH) n₁ a₁ w₁/\X w₁/\μ=sumTo gs₁.size q₁+(n₁+1))
  (fun μ mm t hInv =>?_) _ _ T (.inr ⟨gs,w,sl,q,a,n,rfl,rfl,ha,C,sa,hc,da,G,x0,rfl⟩)
 rcases hInv with bl|⟨gs₁,w₁,sl₁,q₁,a₁,n₁,rfl,ai,ha₁,C₁,sa₁,hc₁,hoth₁,G₁,x₁,hμ⟩
 .exact .inl bl
 refine .inr ?_
 have cu:h<gs₁.size:=(Array.getElem?_eq_some_iff.1 ha₁).1
 have hr₁:a₁.status = .running:=by
  cases n₁ with
  | zero=>exact(G₁ _ (aH w₁ 0)).1
  | succ n=>exact G₁.elim (fun x=>(x _ (aH w₁ 0)).1) (·.1)
 obtain⟨i,g,d,aq,hi,hg,az⟩:=crowd_pick (P:=P) (w:=w₁) (sl:=sl₁) (xgK C₁ ha₁ hr₁) ⟨h,a₁,ha₁,hr₁⟩
 have Cd:Fly P K Still M0 B Mem Inb' h m t gs₁ (w₁.at d) q₁:=TokCore.at hKat C₁ d
 have dw:(w₁.at d).heap[c]? = some (.chan cap #[v] false (k+1) k false):=hc₁
 have Gd:=G₁.rely tH (aH w₁ d)
 by_cases e:i=h
 .subst e
  obtain rfl:g=a₁:=by rw[ha₁]at hi;exact(Option.some.inj hi).symm
  have bw : ∀ (x:Nat) (y:Goroutine) (c':Nat),(gs₁.setIfInBounds i ph)[x]? = some y->offersAt y c' true = []:=by
   intro x y c' hy
   rcases getElem?_stand gs₁ i x y hy with⟨_,rfl⟩|⟨hx,er⟩
   .exact offersAt_ph _ _
   .exact TokCore.noSend Cd hx er _
  rcases wD (aH (w₁.at d) d:RH (w₁.at d) (w₁.at d)) Gd with⟨_,a₂,es,hHome,hEv,dq⟩|⟨n',a',w',es,rfl,fu,⟨dK,dC,dR,dE⟩,G'⟩
  ·-- it takes the value
   obtain⟨au,hs,hl,bf⟩:=evHd_ops (i:=i) (fn:=g.frame.fn) (pos:=g.frame.place) (fun e he=>(hEv e he).1)
   have hp:=xcI hMS Cd.past hMh (.inl rfl) au (vW hEv) hs (bf t) hl
   have ho : ∀ (m':Nat) (c':CommCase),m'≠kk->sH.cases[m']? = some c'->NoWays (w₁.at d) (gs₁.setIfInBounds i ph) c':=by
    intro m' c' hm ah
    obtain⟨c₂,z₂,rfl⟩:=uz.recvs c' (Array.mem_of_getElem? ah)
    have ae:c₂≠c:=fun ec=>hm (uz.apart m' kk c z₂ z (ec▸ah) hk)
    obtain⟨cap₂,k₂,hc₂⟩:=hoth₁ c₂ ⟨m',z₂,ah⟩ ae
    exact ways_recv_none (w₁:=w₁.at d) hc₂ (partners_nil fun x y hy=>bw x y c₂ hy)
   have bo:=crowd_sel_recv_buf (sl:=aq) hi dq hk ho (w₁:=w₁.at d) dw (by simp) (partners_nil fun x y hy=>bw x y c hy)
   have hx:(#[v]:Array Value).extract 1 (#[v]:Array Value).size = #[]:=by simp
   rw[hx]at bo
   have dm : ∀op∈MemOp.ofEvents i g.frame.fn g.frame.place es ++ #[{g:=i,fn:=a₂.frame.fn,pos:=a₂.frame.place,act :=.recv c k cap},{g:=i,fn:=a₂.frame.fn,pos:=a₂.frame.place,act :=.recvDone c k}],op.g=i:=by
    intro op ab
    rcases Array.mem_append.1 ab with z|z
    .exact au op z
    .simp only[List.mem_toArray,List.mem_cons,List.not_mem_nil,or_false]at z;rcases z with rfl|rfl<;>rfl
   have p2:=xcJ hp (sa₁.app _) hMh a₂.frame.fn a₂.frame.place cap hcB
   rw[Array.append_assoc]at p2
   refine⟨_,_,0,by rw[az];exact bo,by omega,.inl ⟨_,w₁.at d,aq,q₁,a₂,rfl,by simpa using ai,by rw[Array.getElem?_setIfInBounds_self_of_lt cu,finishComm_served];rfl,hHome,hX _ _ x₁ (aJ _ _),?_⟩⟩
   refine⟨fun x y hx hy =>?_,fun x s' c' _ e ah =>?_,Cd.wf,fun _ _ z=>z.elim,Cd.inj,fun x hx =>?_,Cd.mem,fun x hM=>Cd.nomem x hM,fun x s' hx e=>⟨hx,by rw[e];rfl⟩,PastG.loosen p2 fun g ⟨hs,hg⟩=>hs.elim (fun e=>absurd e hg) id,hKc _ i sH c _ _ _ _ _ _ hh fe Cd.keep⟩
   .rw[Array.getElem?_setIfInBounds_ne (fun z=>hx z.symm)]at hy
    have hid:=Cd.idle x y hx hy
    cases e:Inb' x with
    | none=>rw[e]at hid;exact⟨hid.1,by rw[Deaf_other t (fun z=>hx z.symm) _ dm];exact hid.2⟩
    | some s'=>rw[e]at hid;exact hid
   .by_cases ec:c=c'
    .exact⟨cap,k+1,by rw[<- ec];exact heap_setChan_self (w₁.at d) dw _ _ _ _ _ _⟩
    .rw[heap_setChan_ne _ _ _ _ _ _ _ ec]
     exact Cd.chans x s' c' (fun z=>z) e ah
   .simp only[Array.size_setIfInBounds]at hx
    rw[Deaf_other t (g':=i) (by omega) _ dm]
    exact Cd.above x hx
  ·-- its own step
   obtain⟨au,hs,hl,bf⟩:=evHd_ops (i:=i) (fn:=g.frame.fn) (pos:=g.frame.place) (fun e he=>(dE e he).1)
   have hp:=xcI hMS Cd.past hMh (.inl rfl) au (vW dE) hs (bf t) hl
   obtain⟨C',h1,_⟩:=vN (a':=a') Cd ha₁ rfl dK (fun x s' c' e ah=>dC x s' c' (av x s' e) ah) (fun x y hx fa _=>absurd hx fa) hp
   exact⟨_,_,sumTo gs₁.size q₁+(n'+1),by rw[az];exact runT_crowd_go (sl:=aq) hi fu,by omega,.inr ⟨_,w',aq,q₁,a',n',rfl,by simpa using ai,h1,C',sa₁.app _,by rw[dC i sH c hh fe];exact dw,
    fun c' ah ae=>by obtain⟨br,k',am⟩:=hoth₁ c' ah ae;exact⟨br,k',by rw[dC i sH c' hh ah];exact am⟩,G',hX _ _ (hX _ _ x₁ (aJ _ d)) dR,by simp⟩⟩
 ·-- a bystander's step
  obtain⟨ak,ops,q',gf,ax,k9,_,_,C',ao⟩:=TokCore.by_step (sl:=aq) (fun t u i=>KS.app u) Cd hi e hg
   (fun x gx hx co=>by subst hx;rw[ha₁]at co;obtain rfl:=Option.some.inj co;exact again_of_running (.inl hr₁) _) (fun hD=>hD.elim)
   (fun s' g₂ d5 pg=>⟨fun hD=>hD,fun x gx c' hx co ah=>by subst hx;rw[ha₁]at co;obtain rfl:=Option.some.inj co;exact offersAt_of_not_blocked (by rw[hr₁];simp) _ _⟩)
  exact⟨_,_,sumTo ak.size q'+(n₁+1),by rw[az];exact gf,by rw[ax];omega,.inr ⟨ak,w₁.at d,aq,q',a₁,n₁,rfl,ax.trans ai,by rw[k9 h rfl];exact ha₁,C',sa₁.app ops,dw,hoth₁,Gd,hX _ _ x₁ (aJ _ d),rfl⟩⟩
end
#print axioms xfm
end Go.Proofs.YtfagfflkgmcnpaaGreatDoor
namespace Go.Proofs.YtfagfflkgmcnpaaGreatDoor
open Go Go.Conc
open Go.ConcN (sumTo upd sumTo_upd upd_ne upd_same)
def AtD(P:Program)(Still M0:Loc->Prop)(B:Nat)(main:Bool)(c:Nat)(Home:Value->Goroutine->World->Prop)(b:Goroutine)(w:World):Prop:=
 b.status = .running/\ ∃b₂ v z es,Home v (Go.Conc.served b₂ undef) w/\(∀e∈es,EvJ Still M0 B e)/\stepG P main b w = .comm b₂ #[scase c v z] true .send w es
def cutI(Inb:Nat->Option Seat)(h j x:Nat):Option Seat:=if x=h\/x=j then none else Inb x
theorem yf{Inb:Nat->Option Seat}{h j x:Nat}{s:Seat}(e:cutI Inb h j x=some s):x≠h/\x≠j/\Inb x=some s:=by
 unfold cutI at e
 split at e
 .cases e
 .rename_i n
  exact⟨fun z=>n (.inl z),fun z=>n (.inr z),e⟩
theorem vh{Inb:Nat->Option Seat}{h j x:Nat}(hx:x≠h)(hj:x≠j):cutI Inb h j x=Inb x:=by
 unfold cutI
 rw[dA]
 rintro (e|e)
 .exact hx e
 .exact hj e
section
variable{P:Program}{K:World->Prop}{Still M0:Loc->Prop}{B:Nat}{Mem:Nat->Prop}{Inb:Nat->Option Seat}{h j:Nat}{T:Trace}{gs:Array Goroutine}{w:World}{q:Nat->Nat}
theorem Duo.leave{Kf:Trace->Nat->Prop}{Lo:Nat->Prop}(C:Duo P K Still M0 B Mem Inb h j T gs w q)(ae:h≠j)(Ds:0<j){n:Nat}{b':Goroutine}{ak:Array Goroutine}{T':Trace}{w':World}(ai:ak.size=gs.size)(da : ∀x,x≠h->x≠j->ak[x]? = gs[x]?)(hJ:ak[j]? = some b')
  (hQ:QuitsD P n 0 b') (hDj:Deaf T' j=0) (hD : ∀x,Deaf T' x=Deaf T x) (de : ∀i s c,i≠h->i≠j->Inb i=some s->s.has c->w'.heap[c]? = w.heap[c]?) (hp:PastG Still (fun g=>Mem g/\g≠j) Lo B (Kf T') T') (hLo : ∀g,g≠h->g≠j->(Inb g).isSome->Lo g) (hK:K w') :
  TokCore P K Still B Kf (fun g=>Mem g/\g≠j) Lo (cutI Inb h j) (fun x=>x=h) (fun _=>False) T' ak w' (upd q j n):=by
 refine⟨fun x y hx hy =>?_,fun i s c _ e hc =>?_,fun i s e=>C.wf i s (yf e).2.2,fun _ _ hx=>hx.elim,fun i i' s s' c e e'=>C.inj i i' s s' c (yf e).2.2 (yf e').2.2,fun x hx=>by rw[hD];exact C.above x (by omega),
  fun i s e=>⟨⟨(C.mem i s (yf e).2.2).1,(yf e).2.1⟩,(C.mem i s (yf e).2.2).2⟩,fun i hM =>?_,fun i s hi e=>hLo i (yf e).1 (yf e).2.1 (by rw[(yf e).2.2];rfl),hp,hK⟩
 .by_cases e:x=j
  .subst e
   rw[hJ]at hy
   obtain rfl:=Option.some.inj hy
   rw[show cutI Inb h x x=none from by simp[cutI],upd_same]
   exact⟨Ds,by rw[hDj];exact hQ⟩
  .rw[da x hx e]at hy
   rw[upd_ne q n e,vh hx e]
   have hi:=C.idle x y (fun z=>z.elim hx e) hy
   cases es:Inb x with
   | none=>rw[es]at hi;exact⟨hi.1,by rw[hD];exact hi.2⟩
   | some s'=>rw[es]at hi;exact hi
 .obtain⟨h1,h2,h3⟩:=yf e
  obtain⟨cap,k,hk⟩:=C.chans i s c (fun z=>z) h3 hc
  exact⟨cap,k,by rw[de i s c h1 h2 h3 hc];exact hk⟩
 .rcases C.nomem i hM.1 with z|rfl|rfl
  .by_cases e:i=h
   .exact .inr e
   .exact .inl (by rw[vh e hM.2];exact z)
  .exact .inr rfl
  .exact absurd rfl hM.2
def FlyS(P:Program)(K:World->Prop)(Still M0:Loc->Prop)(B:Nat)(Mem:Nat->Prop)(Inb Inb':Nat->Option Seat)(RH RJ:World->World->Prop)(h c k cap n:Nat)(sH:Seat)(HomeH:Goroutine->World->Prop)(X:Value->World->Prop)(m:Machine)(t:Trace):Prop:=
 ∃ (ak:Array Goroutine) (w':World) (aq:Option (Nat×Nat)) (q':Nat->Nat) (a₁:Goroutine) (n₁ m₀:Nat) (v:Value),m=crowd ak w' aq/\ak.size=n/\ak[h]? = some a₁/\Fly P K Still M0 B Mem Inb' h m₀ t ak w' q'/\SentAt c k m₀ t/\w'.heap[c]? = some (.chan cap #[v] false (k+1) k false)/\
 (∀c',sH.has c'->c'≠c ->∃br k',w'.heap[c']? = some (.chan br #[] false k' k' false))/\X v w'/\Goes P (h==0) RH (DG K Inb (EvH Still M0 B) RJ) (AtH P Still M0 B (h==0) sH HomeH) n₁ a₁ w'
end
#print axioms Duo.leave
end Go.Proofs.YtfagfflkgmcnpaaGreatDoor
namespace Go.Proofs.YtfagfflkgmcnpaaGreatDoor
open Go Go.Conc
open Go.ConcN (sumTo upd sumTo_upd upd_ne upd_same)
section
variable{P:Program}{K:World->Prop}{Still:Loc->Prop}{B:Nat}{Mem:Nat->Prop}{Inb:Nat->Option Seat}{h j:Nat}{T:Trace}{gs:Array Goroutine}{w:World}{q:Nat->Nat}
theorem Ring.pair(C:Ring P K Still B Mem Inb h T gs w q):Duo P K Still (fun _=>False) B Mem Inb j h T gs w q:=by
 refine⟨fun i g hi hg=>C.idle i g (fun e=>hi (.inr e)) hg,C.chans,C.wf,fun _ _ z=>z.elim,C.inj,C.above,C.mem,fun i hM=>(C.nomem i hM).imp id .inr,fun i s hi e =>.inr ⟨⟨fun e'=>hi (.inl e'),by rw[e];rfl⟩,fun e'=>hi (.inr e')⟩,?_,C.keep⟩
 refine⟨C.past.clean,fun i a ha hm=>(C.past.known i a ha hm).imp (fun x=>⟨a,ha,fun z=>z.elim,fun _=>x⟩) ?_,C.past.wrote,C.past.hears,C.past.seen⟩
 rintro ⟨p,r,g,hg,hl⟩
 refine⟨p,r,g,hg,?_⟩
 by_cases e:g=j
 .exact .inl e
 .exact .inr ⟨⟨e,hl.2⟩,hl.1⟩
def RKK(K:World->Prop)(w w':World):Prop:=K w->K w'
theorem xfn{M0:Loc->Prop}{e:Event}(h:EvC Still B e):EvH Still M0 B e:=by
 obtain⟨a,rfl,hS,hB⟩:=h
 have ht : ∀x,(MemAct.ofEvent ⟨.cell a,false,false⟩).touch? = some x->x.write=false/\Still x.loc:=fun x hx=>by
  simp only[ofEvent_cell0,MemAct.touch?,oI]at hx
  subst hx
  exact⟨rfl,hS⟩
 refine⟨⟨fun x hx _=>(ht x hx).1,by simp,by simp,?_⟩,fun x hx _ =>.inr (ht x hx)⟩
 rw[ofEvent_cell0];exact hB
theorem Sits.mode{main:Bool}{s:Seat}{n:Nat}{g:Goroutine}(hK:K w)(hs:Sits P main K Still B s n g):ModeH P K Still (fun _=>False) B Inb (RKK K) AtRel main s (fun g _=>s.home g) n g w:=by
 have conv : ∀ (k:Nat) (g:Goroutine) (w₀ w:World),K w->Goes P main (RK K) (DS Still B) (fun g _ =>∃g₂,AtIn P main K Still B s g g₂) k g w₀->
   Goes P main (RKK K) (DG K Inb (EvH Still (fun _=>False) B) AtRel) (AtH P Still (fun _=>False) B main s (fun g _=>s.home g)) k g w:=by
  have stop : ∀ (g:Goroutine) (w₁:World),K w₁->(∃g₂,AtIn P main K Still B s g g₂)->AtH P Still (fun _=>False) B main s (fun g _=>s.home g) g w₁:=by
   rintro g w₁ hK₁ ⟨g₂,hr,_,_,_,hh,es,r7,az⟩
   exact⟨hr,g₂,es,hh,fun e he=>xfn (r7 e he),az w₁ hK₁⟩
  intro k
  induction k with
  | zero=>exact fun g w₀ w hK hg w₁ h₁=>stop g w₁ (h₁ hK) (hg w₁ (h₁ hK))
  | succ k ih=>
   intro g w₀ w hK hg
   rcases hg with hg|⟨hr,hg⟩
   .exact .inl fun w₁ h₁=>stop g w₁ (h₁ hK) (hg w₁ (h₁ hK))
   .refine .inr ⟨hr,fun w₁ h₁ =>?_⟩
    have:=hg w₁ (h₁ hK)
    revert this
    cases stepG P main g w₁ with
    | go g' w' es=>
     simp only[goes_go]
     rintro ⟨⟨rfl,r7⟩,hG⟩
     exact⟨⟨id,fun _ _ _ _ _=>rfl,atRel_refl _,fun e he=>xfn (r7 e he)⟩,ih _ _ _ (h₁ hK) hG⟩
    | _=>exact fun x=>x.elim
 rcases hs with⟨k,w₀,rfl,hg⟩|⟨rfl,g₀,g₂,rfl,pg⟩
 .exact .inl ⟨k,rfl,conv k g w₀ w hK hg⟩
 .exact .inr ⟨rfl,g₂,rfl,pg.2.2.2.2.1⟩
theorem xfo(hKat : ∀w d,K w->K (w.at d))(hKc : ∀w i s c cap buf cl a b tm,Inb i=some s->s.has c->K w->K (w.setChan c cap buf cl a b tm)){M1:Loc->Prop}(hMS : ∀l,M1 l ->¬Still l)
  {a a₂:Goroutine} {sH sJ:Seat} {c kk k:Nat} {v z z':Value} {es:Array Event} {sl:Option (Nat×Nat)} (ae:j≠h) (zb:j<gs.size) (hh:Inb h=some sH) (hj:Inb j=some sJ) (hk:sJ.cases[kk]? = some (rcase c z)) (ha:gs[h]? = some a) (aa:a.status = .running)
  (tj : ∀d,stepG P (h==0) a (w.at d) = .comm a₂ #[scase c v z'] true .send (w.at d) es) (r7 : ∀e∈es,EvHd Still B e) (C:Ring P K Still B Mem Inb h T gs w q) (hc:w.heap[c]? = some (.chan 0 #[] false k k false)) :
  ∃ (N:Nat) (ak:Array Goroutine) (d:Nat) (aq:Option (Nat×Nat)) (q':Nat->Nat) (g₂:Goroutine) (T':Trace),runNT P N (crowd gs w sl) T=(.next (crowd ak ((w.at d).setChan c 0 #[] false (k+1) (k+1) false) aq),T')/\ak.size=gs.size/\
   ak[j]? = some (Go.Conc.served g₂ (commResult sJ.cases sJ.shape kk v true))/\ak[h]? = some (Go.Conc.served a₂ undef)/\sJ.home g₂/\Duo P K Still M1 B Mem Inb h j T' ak ((w.at d).setChan c 0 #[] false (k+1) (k+1) false) q':=by
 obtain⟨gj,ir⟩ : ∃gj,gs[j]? = some gj:=⟨gs[j],Array.getElem?_eq_getElem zb⟩
 have hSj:Sits P (j==0) K Still B sJ (q j) gj:=by have:=C.idle j gj ae ir;rwa [hj]at this
 have D:Duo P K Still (fun _=>False) B Mem Inb j h T gs w q:=Ring.pair C
 have GJ:ModeJ P K Still (fun _=>False) B Inb (RKK K) (fun w₁ w₂=>AtRel w₁ w₂) (h==0) sH c (fun v' b' w'=>v'=v/\b'=Go.Conc.served a₂ undef/\ ∃d,w'=w.at d) 1 a w:=by
  refine .inl ⟨0,rfl,fun w₁ h₁ =>?_⟩
  obtain⟨d,rfl⟩:=h₁
  refine⟨aa,a₂,#[scase c v z'],.send,0,v,z',es,⟨rfl,fun m cc hm bx =>?_⟩,⟨rfl,rfl,d,rfl⟩,fun e he=>⟨r7 e he,fun _ _ _ x=>x⟩,tj d⟩
  rcases m with _|m
  .exact absurd rfl hm
  .simp at bx
 obtain⟨N,m',T',hr,M⟩:=VM hKat (RH:=RKK K) (RJ:=fun w₁ w₂=>AtRel w₁ w₂) (fun a b c x y z=>y (x z)) atRel_trans (fun w d=>hKat w d) (fun w d=>⟨d,rfl⟩) (fun l x=>x.elim) (HomeH:=fun g _=>sJ.home g) (HomeJ:=fun v' b' w'=>v'=v/\b'=Go.Conc.served a₂ undef/\ ∃d,w'=w.at d)
  (fun _ _ _ x _=>x) (fun v' b' w₁ w₂ ⟨x,y,d,e⟩ r=>⟨x,y,by obtain⟨d',rfl⟩:=r;exact⟨d',by rw[e];rfl⟩⟩) (sl:=sl) ae hj hh hk ir ha D hc (Sits.mode C.keep hSj) GJ (.inr (by omega))
 obtain⟨ak,w',aq,q',g₂,b',v',rfl,ai,t7,zc,hH2,⟨rfl,rfl,d,rfl⟩,_,D'⟩:=M.duo hKc hMS ae hj hh hk
 exact⟨N,ak,d,aq,q',g₂,T',hr,ai,t7,zc,hH2,D'⟩
end
#print axioms Ring.pair
#print axioms Sits.mode
#print axioms xfo
end Go.Proofs.YtfagfflkgmcnpaaGreatDoor
namespace Go.Proofs.YtfagfflkgmcnpaaGreatDoor
open Go Go.Conc
open Go.ConcN (sumTo upd sumTo_upd upd_ne upd_same)
section
variable{P:Program}{K:World->Prop}{Still M0:Loc->Prop}{B:Nat}{Mem:Nat->Prop}{Inb:Nat->Option Seat}{h j:Nat}{T:Trace}{gs:Array Goroutine}{w:World}{q:Nat->Nat}
def Shut(P:Program)(K:World->Prop)(Still M0:Loc->Prop)(B:Nat)(Mem:Nat->Prop)(Inb:Nat->Option Seat)(h j m:Nat)(T:Trace)(gs:Array Goroutine)(w:World)(q:Nat->Nat):Prop:=
 TokCore P K Still B (KS M0 h m) Mem (fun g=>g=h\/g=j\/(g≠h/\(Inb g).isSome)) Inb (fun x=>x=h\/x=j) (fun _=>False) T gs w q
theorem xec{m:Nat}(C:Shut P K Still M0 B Mem Inb h j m T gs w q){a b:Goroutine}(ha:gs[h]? = some a)(hb:gs[j]? = some b)(h1:a.status = .running\/a.status = .blocked)(h2:b.status = .running) : ∀g∈gs,awake g:=by
 intro g hg
 obtain⟨i,hi,rfl⟩:=Array.mem_iff_getElem.1 hg
 by_cases e:i=h
 .subst e
  have:gs[i]=a:=by simpa[Array.getElem?_eq_getElem hi]using ha
  rw[this];exact awake_of (h1.elim .inl fun x =>.inr (.inl x))
 by_cases e':i=j
 .subst e'
  have:gs[i]=b:=by simpa[Array.getElem?_eq_getElem hi]using hb
  rw[this];exact awake_of (.inl h2)
 .have hid:=C.idle i _ (fun z=>z.elim e e') (Array.getElem?_eq_getElem hi)
  cases es:Inb i with
  | none=>rw[es]at hid;exact awake_of (hid.2.status.elim .inl fun x =>.inr (.inr x))
  | some s=>rw[es]at hid;exact awake_of ((Sits.status C.keep hid).elim (fun x =>.inl x.1) fun x =>.inr (.inl x.1))
def xhU(P:Program)(K:World->Prop)(Still M0:Loc->Prop)(B:Nat)(Mem:Nat->Prop)(Inb:Nat->Option Seat)(RH RJ:World->World->Prop)(h j c kk n:Nat)(sH sJ:Seat)(z:Value)(HomeH:Goroutine->World->Prop)(X:World->Prop)(mm:Machine)(t:Trace):Prop:=
 ∃ (ak:Array Goroutine) (w':World) (aq:Option (Nat×Nat)) (q':Nat->Nat) (a₁ g₂:Goroutine) (μh:Nat),X w'/\mm=crowd ak w' aq/\ak.size=n/\ak[h]? = some a₁/\ak[j]? = some (Go.Conc.served g₂ (commResult sJ.cases sJ.shape kk z false))/\sJ.home g₂/\
 ModeH P K Still M0 B Inb RH RJ (h==0) sH HomeH μh a₁ w'/\Duo P K Still M0 B Mem Inb h j t ak w' q'
theorem xcM(hKat : ∀w d,K w->K (w.at d)){RH RJ:World->World->Prop}(tH : ∀a b c,RH a b->RH b c->RH a c)(aH : ∀w d,RH w (w.at d))(aJ : ∀w d,RJ w (w.at d)){X:World->Prop}(hX : ∀w w',X w->RJ w w'->X w')(x0:X w)(hMS : ∀l,M0 l ->¬Still l){HomeH:Goroutine->World->Prop}(hH : ∀a w w',HomeH a w->RH w w'->HomeH a w')
  {sH sJ:Seat} {c kk k cap m μh n:Nat} {z:Value} {a b:Goroutine} {w₀:World} {sl:Option (Nat×Nat)} (ae:h≠j) (hh:Inb h=some sH) (uz:sJ.Wf) (hMj:Mem j) (hcB:c<B) (hk:sJ.cases[kk]? = some (rcase c z)) (ha:gs[h]? = some a) (hb:gs[j]? = some b)
  (hJc : ∀w w' c',sJ.has c'->RJ w w'->w'.heap[c']? = w.heap[c']?) (C:Shut P K Still M0 B Mem Inb h j m T gs w q) (ca:ClosedAt c m T) (cq:w.heap[c]? = some (.chan cap #[] true k k false)) (da : ∀c',sJ.has c'->c'≠c ->∃br k',w.heap[c']? = some (.chan br #[] false k' k' false))
  (GH:ModeH P K Still M0 B Inb RH RJ (h==0) sH HomeH μh a w) (GJ:Goes P (j==0) (RK K) (DS Still B) (fun g _ =>∃g₂,AtIn P (j==0) K Still B sJ g g₂) n b w₀) :
  ∃N m' T',runNT P N (crowd gs w sl) T=(.next m',T')/\xhU P K Still M0 B Mem Inb RH RJ h j c kk gs.size sH sJ z HomeH X m' T':=by
 have fe:sJ.has c:=⟨kk,z,hk⟩
 have hwfH:=C.wf h sH hh
 have hMh:=(C.mem h sH hh).1
 refine runs_until (P:=P)
  (Inv:=fun μ mm t=>xhU P K Still M0 B Mem Inb RH RJ h j c kk gs.size sH sJ z HomeH X mm t\/ ∃gs₁ w₁ sl₁ q₁ a₁ b₁ w₂ μh n₁,X w₁/\mm=crowd gs₁ w₁ sl₁/\gs₁.size=gs.size/\gs₁[h]? = some a₁/\gs₁[j]? = some b₁/\Shut P K Still M0 B Mem Inb h j m t gs₁ w₁ q₁/\ClosedAt c m t/\
   w₁.heap[c]? = some (.chan cap #[] true k k false)/\(∀c',sJ.has c'->c'≠c ->∃br k',w₁.heap[c']? = some (.chan br #[] false k' k' false))/\ModeH P K Still M0 B Inb RH RJ (h==0) sH HomeH μh a₁ w₁/\
   Goes P (j==0) (RK K) (DS Still B) (fun g _ =>∃g₂,AtIn P (j==0) K Still B sJ g g₂) n₁ b₁ w₂/\μ=sumTo gs₁.size q₁+μh+(n₁+1))
  (fun μ mm t hInv =>?_) _ _ T (.inr ⟨gs,w,sl,q,a,b,w₀,μh,n,x0,rfl,rfl,ha,hb,C,ca,cq,da,GH,GJ,rfl⟩)
 rcases hInv with bl|⟨gs₁,w₁,sl₁,q₁,a₁,b₁,w₂,μh,n₁,x₁,rfl,ai,ha₁,hb₁,C₁,ca₁,hc₁,ho₁,GH₁,GJ₁,hμ⟩
 .exact .inl bl
 refine .inr ?_
 have cu:h<gs₁.size:=(Array.getElem?_eq_some_iff.1 ha₁).1
 have gl:j<gs₁.size:=(Array.getElem?_eq_some_iff.1 hb₁).1
 have si:b₁.status = .running:=by
  cases n₁ with
  | zero=>exact(GJ₁ _ C₁.keep).choose_spec.1
  | succ n=>exact GJ₁.elim (fun x=>(x _ C₁.keep).choose_spec.1) (·.1)
 obtain⟨i,g,d,aq,hi,hg,az⟩:=crowd_pick (P:=P) (w:=w₁) (sl:=sl₁) (xec C₁ ha₁ hb₁ ((GH₁.status aH).imp (·.1) (·.1)) si) ⟨j,b₁,hb₁,si⟩
 have Cd:Shut P K Still M0 B Mem Inb h j m t gs₁ (w₁.at d) q₁:=TokCore.at hKat C₁ d
 have GHd:=GH₁.rely tH hH (aH w₁ d)
 have xd:X (w₁.at d):=hX _ _ x₁ (aJ w₁ d)
 have chH : ∀c',sH.has c' ->∃cap k,(w₁.at d).heap[c']? = some (.chan cap #[] false k k false):=fun c' x=>Cd.chans h sH c' (fun z=>z) hh x
 have Fh : ∀ (x:Nat) (y:Goroutine) (c':Nat),(gs₁.setIfInBounds i ph)[x]? = some y->offersAt y c' true = []:=by
  intro x y c' hy
  rcases getElem?_stand gs₁ i x y hy with⟨_,rfl⟩|⟨hx,er⟩
  .exact offersAt_ph _ _
  by_cases cy:x=h
  .subst cy
   rw[ha₁]at er
   obtain rfl:=Option.some.inj er
   exact GHd.sends aH hwfH _
  by_cases dp:x=j
  .subst dp
   rw[hb₁]at er
   obtain rfl:=Option.some.inj er
   exact offersAt_of_not_blocked (by rw[si];simp) _ _
  .exact TokCore.noSend Cd (fun z=>z.elim cy dp) er _
 by_cases e:i=h
 ·-- h's step
  subst e
  obtain rfl:g=a₁:=by rw[ha₁]at hi;exact(Option.some.inj hi).symm
  obtain⟨n,hn,G⟩ : ∃n,μh=n+1/\Goes P (i==0) RH (DG K Inb (EvH Still M0 B) RJ) (AtH P Still M0 B (i==0) sH HomeH) n g (w₁.at d):=by
   rcases GHd with x|⟨_,a₂,rfl,_⟩
   .exact x
   .cases hg
  rcases wD (aH (w₁.at d) d:RH (w₁.at d) (w₁.at d)) G with⟨_,a₂,es,hHome,hEv,dq⟩|⟨n',a',w',es,rfl,fu,⟨dK,dC,dR,dE⟩,G'⟩
  .obtain⟨au,hs,hl,bf⟩:=evHd_ops (i:=i) (fn:=g.frame.fn) (pos:=g.frame.place) (fun e he=>(hEv e he).1)
   have hp:=xcI hMS Cd.past hMh (.inl rfl) au (vW hEv) hs (bf t) hl
   have hw : ∀cc∈sH.cases,NoWays (w₁.at d) (gs₁.setIfInBounds i ph) cc:=by
    intro cc bx
    obtain⟨c',z',rfl⟩:=hwfH.recvs cc bx
    obtain⟨cap,k',ah⟩:=chH c' (Seat.has_of_mem bx)
    exact ways_recv_none ah (partners_nil fun x y hy=>Fh x y c' hy)
   exact⟨_,_,sumTo gs₁.size q₁+0+(n₁+1),by rw[az];exact crowd_waits (sl:=aq) hi dq hw,by omega,.inr ⟨_,w₁.at d,aq,q₁,parked a₂ sH.cases sH.shape,b₁,w₂,0,n₁,xd,rfl,by simpa using ai,Array.getElem?_setIfInBounds_self_of_lt cu,by rw[Array.getElem?_setIfInBounds_ne ae];exact hb₁,jR Cd _ cu (.inl rfl) hp,ca₁.app _,hc₁,ho₁,
    .inr ⟨rfl,a₂,rfl,hHome⟩,GJ₁,by simp⟩⟩
  .obtain⟨au,hs,hl,bf⟩:=evHd_ops (i:=i) (fn:=g.frame.fn) (pos:=g.frame.place) (fun e he=>(dE e he).1)
   have hp:=xcI hMS Cd.past hMh (.inl rfl) au (vW dE) hs (bf t) hl
   obtain⟨C',h1,h2⟩:=vN (a':=a') Cd ha₁ (.inl rfl) dK dC (fun x y hx fa hy=>by
    rcases hx with rfl|rfl
    .exact absurd rfl fa
    .rw[hb₁]at hy
     obtain rfl:=Option.some.inj hy
     exact again_of_running (.inl si) _) hp
   exact⟨_,_,sumTo gs₁.size q₁+(n'+1)+(n₁+1),by rw[az];exact runT_crowd_go (sl:=aq) hi fu,by omega,.inr ⟨_,w',aq,q₁,a',b₁,w₂,n'+1,n₁,hX _ _ xd dR,rfl,by simpa using ai,h1,h2 j b₁ (.inr rfl) (Ne.symm ae) hb₁,C',ca₁.app _,by rw[hJc _ _ c fe dR];exact hc₁,
    fun c' ah bx=>by obtain⟨br,k',am⟩:=ho₁ c' ah bx;exact⟨br,k',by rw[hJc _ _ c' ah dR];exact am⟩,.inl ⟨n',rfl,G'⟩,GJ₁,by simp⟩⟩
 by_cases ej:i=j
 ·-- j's step
  subst ej
  obtain rfl:g=b₁:=by rw[hb₁]at hi;exact(Option.some.inj hi).symm
  rcases wD (R:=RK K) (w:=w₁.at d) Cd.keep (Goes.anyWorld (w₁.at d) GJ₁)with⟨g₂,_,_,_,_,nf,es,r7,dq⟩|⟨n',b',w',es,rfl,fu,⟨rfl,r7⟩,G'⟩
  ·-- it finds the channel closed
   obtain⟨au,E7,hl,hd⟩:=evC_ops (i:=i) (fn:=g.frame.fn) (pos:=g.frame.place) r7
   have hp:=VK Cd.past hMj (.inr (.inl rfl)) au E7 (hd t) hl
   have ho : ∀ (m':Nat) (c':CommCase),m'≠kk->sJ.cases[m']? = some c'->NoWays (w₁.at d) (gs₁.setIfInBounds i ph) c':=by
    intro m' c' hm ah
    obtain⟨c₂,z₂,rfl⟩:=uz.recvs c' (Array.mem_of_getElem? ah)
    have w8:c₂≠c:=fun ec=>hm (uz.apart m' kk c z₂ z (ec▸ah) hk)
    obtain⟨cap₂,k₂,hc₂⟩:=ho₁ c₂ ⟨m',z₂,ah⟩ w8
    exact ways_recv_none (w₁:=w₁.at d) hc₂ (partners_nil fun x y hy=>Fh x y c₂ hy)
   have bo:=crowd_sel_recv_closed (sl:=aq) hi (dq _ Cd.keep) hk ho (w₁:=w₁.at d) hc₁ (partners_nil fun x y hy=>Fh x y c hy)
   have p2:=VL hMS hp (ca₁.app _) hMj g₂.frame.fn g₂.frame.place hcB
   rw[Array.append_assoc]at p2
   have dm : ∀op∈MemOp.ofEvents i g.frame.fn g.frame.place es ++ #[{g:=i,fn:=g₂.frame.fn,pos:=g₂.frame.place,act :=.recvClosed c}],op.g=i:=by
    intro op ab
    rcases Array.mem_append.1 ab with z|z
    .exact au op z
    .simp only[List.mem_toArray,List.mem_cons,List.not_mem_nil,or_false]at z;subst z;rfl
   refine⟨_,_,0,by rw[az];exact bo,by omega,.inl ⟨_,w₁.at d,aq,q₁,a₁,g₂,μh,xd,rfl,by simpa using ai,by rw[Array.getElem?_setIfInBounds_ne e];exact ha₁,by rw[Array.getElem?_setIfInBounds_self_of_lt gl,finishComm_served],nf,GHd,?_⟩⟩
   refine⟨fun x y hx hy =>?_,Cd.chans,Cd.wf,fun _ _ z=>z.elim,Cd.inj,fun x hx =>?_,Cd.mem,Cd.nomem,fun x s' hx e' =>.inr ⟨⟨fun z=>hx (.inl z),by rw[e'];rfl⟩,fun z=>hx (.inr z)⟩,PastG.loosen p2 fun g ⟨hg,ir⟩ =>?_,Cd.keep⟩
   .have fa:x≠i:=fun z=>hx (.inr z)
    rw[Array.getElem?_setIfInBounds_ne (fun z=>fa z.symm)]at hy
    have hid:=Cd.idle x y hx hy
    cases e':Inb x with
    | none=>rw[e']at hid;exact⟨hid.1,by rw[Deaf_other t (fun z=>fa z.symm) _ dm];exact hid.2⟩
    | some s'=>rw[e']at hid;exact hid
   .simp only[Array.size_setIfInBounds]at hx
    rw[Deaf_other t (g':=i) (by omega) _ dm]
    exact Cd.above x hx
   .rcases hg with e'|e'|x
    .exact .inl e'
    .exact absurd e' ir
    .exact .inr ⟨x,ir⟩
  .obtain⟨au,E7,hl,hd⟩:=evC_ops (i:=i) (fn:=g.frame.fn) (pos:=g.frame.place) r7
   have hp:=VK Cd.past hMj (.inr (.inl rfl)) au E7 (hd t) hl
   obtain⟨C',h1,h2⟩:=vN (a':=b') (w':=w₁.at d) Cd hb₁ (.inr rfl) id (fun _ _ _ _ _=>rfl) (fun x y hx fa hy=>by
    rcases hx with rfl|rfl
    .rw[ha₁]at hy
     obtain rfl:=Option.some.inj hy
     exact GHd.again aH hwfH chH
    .exact absurd rfl fa) hp
   exact⟨_,_,sumTo gs₁.size q₁+μh+(n'+1),by rw[az];exact runT_crowd_go (sl:=aq) hi fu,by omega,.inr ⟨_,w₁.at d,aq,q₁,a₁,b',w₁.at d,μh,n',xd,rfl,by simpa using ai,h2 h a₁ (.inl rfl) ae ha₁,h1,C',ca₁.app _,hc₁,ho₁,GHd,G',by simp⟩⟩
 ·-- a bystander's step
  obtain⟨ak,ops,q',gf,ax,k9,_,_,C',ao⟩:=TokCore.by_step (sl:=aq) (fun t u i=>KS.app u) Cd hi (fun z=>z.elim e ej) hg
   (fun x gx hx co=>by
    rcases hx with rfl|rfl
    .rw[ha₁]at co
     obtain rfl:=Option.some.inj co
     exact GHd.again aH hwfH chH
    .rw[hb₁]at co
     obtain rfl:=Option.some.inj co
     exact again_of_running (.inl si) _) (fun hD=>hD.elim)
   (fun s' g₂ d5 pg=>⟨fun hD=>hD,fun x gx c' hx co ah=>by
    rcases hx with rfl|rfl
    .rw[ha₁]at co
     obtain rfl:=Option.some.inj co
     exact GHd.sends aH hwfH _
    .rw[hb₁]at co
     obtain rfl:=Option.some.inj co
     exact offersAt_of_not_blocked (by rw[si];simp) _ _⟩)
  exact⟨_,_,sumTo ak.size q'+μh+(n₁+1),by rw[az];exact gf,by rw[ax];omega,.inr ⟨ak,w₁.at d,aq,q',a₁,b₁,w₂,μh,n₁,xd,rfl,ax.trans ai,by rw[k9 h (.inl rfl)];exact ha₁,by rw[k9 j (.inr rfl)];exact hb₁,C',ca₁.app ops,hc₁,ho₁,GHd,GJ₁,rfl⟩⟩
end
#print axioms xcM
end Go.Proofs.YtfagfflkgmcnpaaGreatDoor
namespace Go.Proofs.YtfagfflkgmcnpaaGreatDoor
open Go Go.Conc
open Go.ConcN (sumTo upd sumTo_upd upd_ne upd_same)
section
variable{P:Program}{K:World->Prop}{Still M0:Loc->Prop}{B:Nat}{Mem:Nat->Prop}{Inb:Nat->Option Seat}{h:Nat}{T:Trace}{gs:Array Goroutine}{w:World}{q:Nat->Nat}
theorem xcN(hKat : ∀w d,K w->K (w.at d))(hKc : ∀w i s c cap buf cl a b tm,Inb i=some s->s.has c->K w->K (w.setChan c cap buf cl a b tm)){a a':Goroutine}{j k c kk cap:Nat}{z:Value}{s:Seat}{sl:Option (Nat×Nat)}
  (Ht:j≠h) (zb:j<gs.size) (hj:Inb j=some s) (hk:s.cases[kk]? = some (rcase c z)) (hMh:Mem h) (ha:gs[h]? = some a) (aa:a.status = .running) (ms:mayWake P a=true) (zn:a'.status = .running)
  (hc:w.heap[c]? = some (.chan cap #[] false k k false)) (gq : ∀d,stepG P (h==0) a (w.at d) = .go a' ((w.at d).setChan c cap #[] true k k false) (closeEvents c)) (C:Ring P K Still B Mem Inb h T gs w q) :
  ∃ (N:Nat) (ak:Array Goroutine) (b':Goroutine) (nb:Nat) (w₀:World) (d:Nat) (aq:Option (Nat×Nat)) (T':Trace) (q':Nat->Nat) (m:Nat),runNT P N (crowd gs w sl) T=(.next (crowd ak ((w.at d).setChan c cap #[] true k k false) aq),T')/\ak.size=gs.size/\ak[h]? = some a'/\ak[j]? = some b'/\ClosedAt c m T'/\
   Goes P (j==0) (RK K) (DS Still B) (fun g _ =>∃g₂,AtIn P (j==0) K Still B s g g₂) nb b' w₀/\Shut P K Still M0 B Mem (cutI Inb j j) h j m T' ak ((w.at d).setChan c cap #[] true k k false) q':=by
 have fe:s.has c:=⟨kk,z,hk⟩
 have hcB:=(C.mem j s hj).2 c fe
 obtain⟨N,gs₁,d,d',sl₁,sl₂,T₁,q₁,hr,az,ai,ha₁,C₁⟩:=picked (sl:=sl) hKat ha aa C
 have cu:h<gs₁.size:=(Array.getElem?_eq_some_iff.1 ha₁).1
 have gf:=runT_crowd_go (P:=P) (sl:=sl₂) ha₁ (gq d')
 generalize hW:(w.at d').setChan c cap #[] true k k false=W at gf
 have hKW:K W:=hW▸hKc _ j s c _ _ _ _ _ _ hj fe C₁.keep
 have hcW:W.heap[c]? = some (.chan cap #[] true k k false):=hW▸heap_setChan_self (w.at d') (o :=.chan cap #[] false k k false) hc _ _ _ _ _ _
 have zz : ∀x s' c',x≠j->Inb x=some s'->s'.has c' ->∃br k',W.heap[c']? = some (.chan br #[] false k' k' false):=by
  intro x s' c' hx e ah
  have bx:c'≠c:=fun ec=>hx (C₁.inj x j s' s c e hj (ec▸ah) fe)
  obtain⟨br,k',am⟩:=C₁.chans x s' c' (fun z=>z) e ah
  exact⟨br,k',by rw[<- hW,heap_setChan_ne _ _ _ _ _ _ _ (fun ec=>bx ec.symm)];exact am⟩
 have im : ∀y,woken P a a' W y=y.again W:=by intro y;simp[woken,ms,zn]
 obtain⟨gj,ir⟩ : ∃gj,gs₁[j]? = some gj:=⟨gs₁[j]'(by omega),Array.getElem?_eq_getElem (by omega)⟩
 have hSj:Sits P (j==0) K Still B s (q₁ j) gj:=by have:=C₁.idle j gj Ht ir;rwa [hj]at this
 obtain⟨Dt,nj,w₀,t7,hSj'⟩ : ∃Dt nj w₀,woken P a a' W gj=Dt/\Goes P (j==0) (RK K) (DS Still B) (fun g _ =>∃g₂,AtIn P (j==0) K Still B s g g₂) nj Dt w₀:=by
  rcases hSj with⟨n,w₀,hq,hG⟩|⟨_,g₀,g₂,rfl,pg⟩
  .have B2:gj.status = .running:=(Sits.status C₁.keep (.inl ⟨n,w₀,hq,hG⟩)).elim (·.1) (fun z=>by omega)
   exact⟨gj,n,w₀,by rw[im];exact again_of_running (.inl B2) _,hG⟩
  .exact⟨_,0,W,by rw[im,again_some_closed hk hcW],fun _ _=>⟨g₂,pg.tries _ _⟩⟩
 obtain⟨au,hs,hl,bf⟩:=evHd_ops (Still:=Still) (B:=B) (i:=h) (fn:=a.frame.fn) (pos:=a.frame.place) (closeEvents_ok hcB)
 have hDeaf : ∀x,Deaf (T₁++MemOp.ofEvents h a.frame.fn a.frame.place (closeEvents c)) x=Deaf T₁ x:=fun x=>by
  by_cases ex:x=h
  .subst ex;exact bf T₁
  .exact Deaf_other T₁ (fun z=>ex z.symm) _ au
 have p1:=PastH.appH C₁.past au hs (bf T₁) hl
 have hm:(T₁++MemOp.ofEvents h a.frame.fn a.frame.place (closeEvents c))[T₁.size+1]? = some {g:=h,fn:=a.frame.fn,pos:=a.frame.place,act :=.close c}:=by rw[at_new,closeOps];rfl
 obtain⟨pc,ca⟩:=Wn (M0:=M0) (c:=c) p1 hm rfl rfl (by rw[closeOps];simp) (by
  rw[deaf_quiet (fun op ab dd=>by
   rw[closeOps]at ab
   simp only[List.mem_toArray,List.mem_cons,List.not_mem_nil,or_false]at ab
   rcases ab with rfl|rfl<;>rfl) 1 (by rw[closeOps];simp)]
  exact C₁.past.hears h hMh)
 refine⟨N+1,_,Dt,nj,w₀,d',sl₂,_,q₁,T₁.size+1,by rw[hW];exact runNT_succ_of hr (az.trans gf),by simpa using ai,Array.getElem?_setIfInBounds_self_of_lt (by simpa using cu),
  by rw[Array.getElem?_setIfInBounds_ne (fun z=>Ht z.symm),Array.getElem?_map,ir,dN,t7],ca,hSj',?_⟩
 rw[hW]
 refine⟨fun x y hx hy =>?_,fun i s' c' _ e ah=>zz i s' c' (yf e).1 (yf e).2.2 ah,fun i s' e=>C₁.wf i s' (yf e).2.2,fun _ _ z=>z.elim,fun i i' s₁ s₂ c' e₁ e₂=>C₁.inj i i' s₁ s₂ c' (yf e₁).2.2 (yf e₂).2.2,fun x hx =>?_,
  fun i s' e=>C₁.mem i s' (yf e).2.2,fun i hM =>?_,fun i s' hi e =>.inr (.inr ⟨fun z=>hi (.inl z),by rw[e];rfl⟩),PastG.loosen pc fun g hg =>?_,hKW⟩
 .have cy:x≠h:=fun z=>hx (.inl z)
  have dp:x≠j:=fun z=>hx (.inr z)
  rw[Array.getElem?_setIfInBounds_ne (fun z=>cy z.symm),Array.getElem?_map]at hy
  obtain⟨y₀,hy₀,rfl⟩:=oM.1 hy
  have hi:=C₁.idle x y₀ cy hy₀
  rw[vh dp dp]
  cases es:Inb x with
  | none=>
   rw[es]at hi
   rw[woken_of_again (again_of_running hi.2.status W)]
   exact⟨hi.1,by rw[hDeaf];exact hi.2⟩
  | some s'=>
   rw[es]at hi
   rw[woken_of_again (Sits.again hKW hi (C₁.wf x s' es) fun c' ah=>by obtain⟨br,k',am⟩:=zz x s' c' dp es ah;exact⟨_,_,_,_,_,am⟩)]
   exact hi
 .simp only[Array.size_setIfInBounds,Array.size_map]at hx
  rw[hDeaf];exact C₁.above x hx
 .by_cases e:i=j
  .exact .inr (.inr e)
  .exact(C₁.nomem i hM).imp (fun z=>by rw[vh e e];exact z) .inl
 .rcases hg with e|⟨e,d5⟩
  .exact .inl e
  .by_cases ej:g=j
   .exact .inr (.inl ej)
   .exact .inr (.inr ⟨e,by rw[vh ej ej];exact d5⟩)
end
#print axioms xcN
end Go.Proofs.YtfagfflkgmcnpaaGreatDoor
namespace Go.Proofs.YtfagfflkgmcnpaaGreatDoor
open Go Go.Conc
open Go.ConcN (sumTo upd sumTo_upd upd_ne upd_same)
section
variable{P:Program}{K:World->Prop}{Still M0:Loc->Prop}{B:Nat}{Mem:Nat->Prop}{Inb:Nat->Option Seat}{h j:Nat}{T:Trace}{gs:Array Goroutine}{w:World}{q:Nat->Nat}
theorem VN(hKat : ∀w d,K w->K (w.at d))(hKc : ∀w i s c cap buf cl a b tm,Inb i=some s->s.has c->K w->K (w.setChan c cap buf cl a b tm)){RH RJ:World->World->Prop}(tH : ∀a b c,RH a b->RH b c->RH a c)(tJ : ∀a b c,RJ a b->RJ b c->RJ a c)
  (aH : ∀w d,RH w (w.at d)) (aJ : ∀w d,RJ w (w.at d)) (hMS : ∀l,M0 l ->¬Still l) {HomeH:Goroutine->World->Prop} {HomeD:Value->Goroutine->World->Prop} {X:Value->World->Prop} (hH : ∀a w w',HomeH a w->RH w w'->HomeH a w') (hX : ∀v w w',X v w->RJ w w'->X v w')
  {sH:Seat} {c kk k cap μh n:Nat} {z:Value} {a b:Goroutine} {sl:Option (Nat×Nat)} (ae:h≠j) (Ds:0<j) (hh:Inb h=some sH) (hMj:Mem j) (hk:sH.cases[kk]? = some (rcase c z)) (ha:gs[h]? = some a) (hb:gs[j]? = some b)
  (C:Duo P K Still M0 B Mem Inb h j T gs w q) (hc:w.heap[c]? = some (.chan cap #[] false k k false)) (cb:0<cap) (hRc : ∀w v,RH w (w.setChan c cap #[v] false (k+1) k false)) (hDX : ∀v b' w,HomeD v b' w->X v w/\X v (w.setChan c cap #[v] false (k+1) k false))
  (oy : ∀v b' w,HomeD v b' w ->∃n,QuitsD P n 0 b') (GH:ModeH P K Still M0 B Inb RH RJ (h==0) sH HomeH μh a w) (GJ:Goes P (j==0) RJ (DG K Inb (EvJ Still M0 B) RH) (AtD P Still M0 B (j==0) c HomeD) n b w) :
  ∃N m' T' v,runNT P N (crowd gs w sl) T=(.next m',T')/\xcL P K Still B (fun g=>Mem g/\g≠j) (cutI Inb h j) h c kk k cap gs.size sH v HomeH (X v) m' T':=by
 have fe:sH.has c:=⟨kk,z,hk⟩
 have hwfH:=C.wf h sH hh
 have hMh:=(C.mem h sH hh).1
 have hcB:=(C.mem h sH hh).2 c fe
 have hu : ∀ (m:Nat) (cc:CommCase),m≠kk->sH.cases[m]? = some cc->cc.chan ≠ .chan (some c):=by
  intro m cc hm bx ec
  obtain⟨c₂,z₂,rfl⟩:=hwfH.recvs cc (Array.mem_of_getElem? bx)
  simp only[rcase,Value.chan.injEq,oI]at ec
  subst ec
  exact hm (hwfH.apart m kk _ _ _ bx hk)
 have key : ∃N m' T',runNT P N (crowd gs w sl) T=(.next m',T')/\((∃v,xcL P K Still B (fun g=>Mem g/\g≠j) (cutI Inb h j) h c kk k cap gs.size sH v HomeH (X v) m' T')\/
   FlyS P K Still M0 B (fun g=>Mem g/\g≠j) Inb (cutI Inb h j) RH RJ h c k cap gs.size sH HomeH X m' T'):=by
  refine runs_until (P:=P)
   (Inv:=fun μ m t=>((∃v,xcL P K Still B (fun g=>Mem g/\g≠j) (cutI Inb h j) h c kk k cap gs.size sH v HomeH (X v) m t)\/FlyS P K Still M0 B (fun g=>Mem g/\g≠j) Inb (cutI Inb h j) RH RJ h c k cap gs.size sH HomeH X m t)\/
    ∃gs₁ w₁ sl₁ q₁ a₁ b₁ μh n₁,m=crowd gs₁ w₁ sl₁/\gs₁.size=gs.size/\gs₁[h]? = some a₁/\gs₁[j]? = some b₁/\Duo P K Still M0 B Mem Inb h j t gs₁ w₁ q₁/\
    w₁.heap[c]? = some (.chan cap #[] false k k false)/\ModeH P K Still M0 B Inb RH RJ (h==0) sH HomeH μh a₁ w₁/\Goes P (j==0) RJ (DG K Inb (EvJ Still M0 B) RH) (AtD P Still M0 B (j==0) c HomeD) n₁ b₁ w₁/\μ=sumTo gs₁.size q₁+μh+(n₁+1))
   (fun μ m t hInv =>?_) _ _ T (.inr ⟨gs,w,sl,q,a,b,μh,n,rfl,rfl,ha,hb,C,hc,GH,GJ,rfl⟩)
  rcases hInv with bl|⟨gs₁,w₁,sl₁,q₁,a₁,b₁,μh,n₁,rfl,ai,ha₁,hb₁,C₁,hc₁,GH₁,GJ₁,hμ⟩
  .exact .inl bl
  refine .inr ?_
  have cu:h<gs₁.size:=(Array.getElem?_eq_some_iff.1 ha₁).1
  have gl:j<gs₁.size:=(Array.getElem?_eq_some_iff.1 hb₁).1
  have si:b₁.status = .running:=by
   cases n₁ with
   | zero=>exact(GJ₁ _ (aJ w₁ 0)).1
   | succ n=>exact GJ₁.elim (fun x=>(x _ (aJ w₁ 0)).1) (·.1)
  obtain⟨i,g,d,aq,hi,hg,az⟩:=crowd_pick (P:=P) (w:=w₁) (sl:=sl₁) (YC C₁ ha₁ hb₁ ((GH₁.status aH).imp (·.1) (·.1)) (.inl si)) ⟨j,b₁,hb₁,si⟩
  have Cd:Duo P K Still M0 B Mem Inb h j t gs₁ (w₁.at d) q₁:=TokCore.at hKat C₁ d
  have dw:(w₁.at d).heap[c]? = some (.chan cap #[] false k k false):=hc₁
  have GHd:=GH₁.rely tH hH (aH w₁ d)
  have GJd:=GJ₁.rely tJ (aJ w₁ d)
  have chH : ∀c',sH.has c' ->∃cap k,(w₁.at d).heap[c']? = some (.chan cap #[] false k k false):=fun c' x=>Cd.chans h sH c' (fun z=>z) hh x
  have ot : ∀x s',x≠h->Inb x=some s' ->¬s'.has c:=fun x s' hx d5 ah=>hx (C.inj x h s' sH c d5 hh ah fe)
  by_cases e:i=h
  ·-- h's step
   subst e
   obtain rfl:g=a₁:=by rw[ha₁]at hi;exact(Option.some.inj hi).symm
   obtain⟨n,hn,G⟩ : ∃n,μh=n+1/\Goes P (i==0) RH (DG K Inb (EvH Still M0 B) RJ) (AtH P Still M0 B (i==0) sH HomeH) n g (w₁.at d):=by
    rcases GHd with x|⟨_,a₂,rfl,_⟩
    .exact x
    .cases hg
   rcases wD (aH (w₁.at d) d:RH (w₁.at d) (w₁.at d)) G with⟨_,a₂,es,hHome,hEv,dq⟩|⟨n',a',w',es,rfl,fu,⟨dK,dC,dR,dE⟩,G'⟩
   .obtain⟨au,hs,hl,bf⟩:=evHd_ops (i:=i) (fn:=g.frame.fn) (pos:=g.frame.place) (fun e he=>(hEv e he).1)
    have hp:=VJ hMS Cd.past hMh (.inl rfl) au (vW hEv) hs (bf t) hl
    have hw : ∀cc∈sH.cases,NoWays (w₁.at d) (gs₁.setIfInBounds i ph) cc:=by
     intro cc bx
     obtain⟨c',z',rfl⟩:=hwfH.recvs cc bx
     obtain⟨cap,k',ah⟩:=chH c' (Seat.has_of_mem bx)
     refine ways_recv_none ah (partners_nil fun x y hy =>?_)
     rcases getElem?_stand gs₁ i x y hy with⟨_,rfl⟩|⟨hx,er⟩
     .exact offersAt_ph _ _
     by_cases dp:x=j
     .subst dp
      rw[hb₁]at er
      obtain rfl:=Option.some.inj er
      exact offersAt_of_not_blocked (by rw[si];simp) _ _
     .exact TokCore.noSend Cd (fun z=>z.elim hx dp) er _
    exact⟨_,_,sumTo gs₁.size q₁+0+(n₁+1),by rw[az];exact crowd_waits (sl:=aq) hi dq hw,by omega,.inr ⟨_,w₁.at d,aq,q₁,parked a₂ sH.cases sH.shape,b₁,0,n₁,rfl,by simpa using ai,Array.getElem?_setIfInBounds_self_of_lt cu,by rw[Array.getElem?_setIfInBounds_ne ae];exact hb₁,jR Cd _ cu (.inl rfl) hp,dw,
     .inr ⟨rfl,a₂,rfl,hHome⟩,GJd,by simp⟩⟩
   .obtain⟨au,hs,hl,bf⟩:=evHd_ops (i:=i) (fn:=g.frame.fn) (pos:=g.frame.place) (fun e he=>(dE e he).1)
    have hp:=VJ hMS Cd.past hMh (.inl rfl) au (vW dE) hs (bf t) hl
    obtain⟨C',h1,h2⟩:=vN (a':=a') Cd ha₁ (.inl rfl) dK dC (fun x y hx fa hy=>by
     rcases hx with rfl|rfl
     .exact absurd rfl fa
     .rw[hb₁]at hy
      obtain rfl:=Option.some.inj hy
      exact again_of_running (.inl si) _) hp
    exact⟨_,_,sumTo gs₁.size q₁+(n'+1)+(n₁+1),by rw[az];exact runT_crowd_go (sl:=aq) hi fu,by omega,.inr ⟨_,w',aq,q₁,a',b₁,n'+1,n₁,rfl,by simpa using ai,h1,h2 j b₁ (.inr rfl) (Ne.symm ae) hb₁,C',by rw[dC i sH c hh fe];exact dw,
     .inl ⟨n',rfl,G'⟩,GJd.rely tJ dR,by simp⟩⟩
  by_cases ej:i=j
  ·-- j's step
   subst ej
   obtain rfl:g=b₁:=by rw[hb₁]at hi;exact(Option.some.inj hi).symm
   rcases wD (aJ (w₁.at d) d:RJ (w₁.at d) (w₁.at d)) GJd with⟨_,b₂,v,zj,es,hHome,hEv,dq⟩|⟨n',b',w',es,rfl,fu,⟨dK,dC,dR,dE⟩,G'⟩
   .obtain⟨au,hs,hl,bf⟩:=evHd_ops (i:=i) (fn:=g.frame.fn) (pos:=g.frame.place) (fun e he=>(hEv e he).1)
    have hp:=xap Cd.past hMj au (vW hEv) hs (bf t) hl
    have hDf : ∀x,Deaf (t++MemOp.ofEvents i g.frame.fn g.frame.place es) x=Deaf t x:=fun x=>by
     by_cases ex:x=i
     .subst ex;exact bf t
     .exact Deaf_other t (fun z=>ex z.symm) _ au
    obtain⟨nq,hQ⟩:=oy v _ _ hHome
    obtain⟨hX1,hX2⟩:=hDX v _ _ hHome
    have Ci : ∀ (x:Nat) (y:Goroutine),x≠h->(gs₁.setIfInBounds i ph)[x]? = some y->offersAt y c false = []:=by
     intro x y cy hy
     rcases getElem?_stand gs₁ i x y hy with⟨_,rfl⟩|⟨hx,er⟩
     .exact offersAt_ph _ _
     .exact TokCore.noRecvAt Cd (fun z=>z.elim cy hx) er fun s' d5=>ot x s' cy d5
    rcases GHd with⟨m,hm,Gm⟩|⟨hm,a₂,rfl,hHh⟩
    ·-- h is on its way: the value goes into the buffer
     have F6:a₁.status = .running:=(ModeH.status aH (.inl ⟨m,hm,Gm⟩:ModeH P K Still M0 B Inb RH RJ (h==0) sH HomeH μh a₁ (w₁.at d))).elim (·.1) (fun y=>by omega)
     have Ax:partners (gs₁.setIfInBounds i ph) c false = []:=partners_nil fun x y hy=>by
      by_cases cy:x=h
      .subst cy
       rw[stand_get ae ha₁]at hy
       obtain rfl:=Option.some.inj hy
       exact offersAt_of_not_blocked (by rw[F6];simp) _ _
      .exact Ci x y cy hy
     have bo:=crowd_send_room (sl:=aq) hi dq dw (by simpa using cb) Ax
     rw[show(#[]:Array Value).push v = #[v]from rfl,finishComm_send]at bo
     obtain⟨pS,sa⟩:=xcH hMS hp hMj b₂.frame.fn b₂.frame.place k hcB
     rw[Array.append_assoc]at pS sa
     have hD2 : ∀x,Deaf (t++(MemOp.ofEvents i g.frame.fn g.frame.place es ++ #[{g:=i,fn:=b₂.frame.fn,pos:=b₂.frame.place,act :=.send c k},{g:=i,fn:=b₂.frame.fn,pos:=b₂.frame.place,act :=.sendDone c k}])) x=Deaf t x:=fun x=>by
      rw[<- Array.append_assoc,Deaf_quiet (fun op ab dd=>by
       simp only[List.mem_toArray,List.mem_cons,List.not_mem_nil,or_false]at ab
       rcases ab with rfl|rfl<;>rfl),hDf]
     refine⟨_,_,0,by rw[az];exact bo,by omega,.inl (.inr ⟨_,_,aq,upd q₁ i nq,a₁,m,_,v,rfl,by simpa using ai,by rw[Array.getElem?_setIfInBounds_ne e];exact ha₁,?_,sa,heap_setChan_self _ dw _ _ _ _ _ _,fun c' ah bx =>?_,hX2,Gm.rely tH (hRc _ v)⟩)⟩
     .exact Duo.leave (Kf:=KS M0 h (t++MemOp.ofEvents i g.frame.fn g.frame.place es).size) Cd ae Ds (by simp) (fun x hx dp=>by rw[Array.getElem?_setIfInBounds_ne (fun z=>dp z.symm)]) (Array.getElem?_setIfInBounds_self_of_lt gl) hQ (by rw[hD2];exact Cd.past.hears i hMj) hD2
       (fun x s' c' hx dp e' ah=>heap_setChan_ne _ _ _ _ _ _ _ (fun ec=>ot x s' hx e' (ec▸ah)))
       (PastG.loosen (PastG.fewer pS fun g hg=>hg.1) fun g ⟨hg,ir⟩=>hg.imp id fun x=>⟨x.1.1,by rw[vh x.1.1 ir];exact x.1.2⟩) (fun g h1 h2 h3 =>.inr ⟨h1,by rw[vh h1 h2];exact h3⟩) (hKc _ h sH c _ _ _ _ _ _ hh fe Cd.keep)
     .obtain⟨br,k',am⟩:=chH c' ah
      exact⟨br,k',by rw[heap_setChan_ne _ _ _ _ _ _ _ (fun ec=>bx ec.symm)];exact am⟩
    ·-- h is parked: they meet
     have Ax:partners (gs₁.setIfInBounds i ph) c false = [(h,kk)]:=by
      rw[partners_one (stand_get ae ha₁) fun x y cy hy=>Ci x y cy hy,offersAt_parked_at hk hu]
      rfl
     have bo:=crowd_send_meets_sel (sl:=aq) hi dq dw ae ha₁ hk Ax
     have p2:=xbj hp hMh hMj b₂.frame.fn b₂.frame.place a₂.frame.fn a₂.frame.place k cap hcB
     rw[Array.append_assoc]at p2
     have hD2 : ∀x,Deaf (t++(MemOp.ofEvents i g.frame.fn g.frame.place es++met i h b₂.frame.fn b₂.frame.place a₂.frame.fn a₂.frame.place c k cap)) x=Deaf t x:=fun x=>by rw[<- Array.append_assoc,Deaf_quiet (met_quiet _ _ _ _ _ _ _ _ _ x),hDf]
     refine⟨_,_,0,by rw[az];exact bo,by omega,.inl (.inl ⟨v,_,w₁.at d,aq,upd q₁ i nq,a₂,rfl,by simpa using ai,by rw[Array.getElem?_setIfInBounds_ne (Ne.symm ae),Array.getElem?_setIfInBounds_self_of_lt cu,finishComm_served],hHh,hX1,?_⟩)⟩
     exact Duo.leave (Kf:=fun t=>Knows t h) Cd ae Ds (by simp) (fun x hx dp=>by rw[Array.getElem?_setIfInBounds_ne (fun z=>dp z.symm),Array.getElem?_setIfInBounds_ne (fun z=>hx z.symm)]) (by rw[Array.getElem?_setIfInBounds_self_of_lt (by simpa using gl),finishComm_send]) hQ (by
       have:=hD2 i
       exact this.trans (Cd.past.hears i hMj)) hD2
      (fun x s' c' hx dp e' ah=>heap_setChan_ne _ _ _ _ _ _ _ (fun ec=>ot x s' hx e' (ec▸ah)))
      (PastG.loosen (PastG.fewer p2 fun g hg=>hg.1) fun g ⟨hg,ep⟩=>⟨ep,by
       rcases hg with e'|⟨⟨_,d5⟩,ir⟩
       .exact absurd e' ep
       .rw[vh ep ir];exact d5⟩) (fun g h1 h2 h3=>⟨h1,by rw[vh h1 h2];exact h3⟩) (hKc _ h sH c _ _ _ _ _ _ hh fe Cd.keep)
   .obtain⟨au,hs,hl,bf⟩:=evHd_ops (i:=i) (fn:=g.frame.fn) (pos:=g.frame.place) (fun e he=>(dE e he).1)
    have hp:=xap Cd.past hMj au (vW dE) hs (bf t) hl
    obtain⟨C',h1,h2⟩:=vN (a':=b') Cd hb₁ (.inr rfl) dK dC (fun x y hx fa hy=>by
     rcases hx with rfl|rfl
     .rw[ha₁]at hy
      obtain rfl:=Option.some.inj hy
      exact GHd.again aH hwfH fun c' ah=>by obtain⟨br,k',am⟩:=chH c' ah;exact⟨br,k',by rw[dC _ sH c' hh ah];exact am⟩
     .exact absurd rfl fa) hp
    exact⟨_,_,sumTo gs₁.size q₁+μh+(n'+1),by rw[az];exact runT_crowd_go (sl:=aq) hi fu,by omega,.inr ⟨_,w',aq,q₁,a₁,b',μh,n',rfl,by simpa using ai,h2 h a₁ (.inl rfl) ae ha₁,h1,C',by rw[dC h sH c hh fe];exact dw,
     GHd.rely tH hH dR,G',by simp⟩⟩
  ·-- a bystander's step
   obtain⟨ak,ops,q',gf,ax,k9,_,_,C',ao⟩:=TokCore.by_step (sl:=aq) (fun t u i=>KD.app u) Cd hi (fun z=>z.elim e ej) hg
    (fun x gx hx co=>by
     rcases hx with rfl|rfl
     .rw[ha₁]at co
      obtain rfl:=Option.some.inj co
      exact GHd.again aH hwfH chH
     .rw[hb₁]at co
      obtain rfl:=Option.some.inj co
      exact again_of_running (.inl si) _) (fun hD=>hD.elim)
    (fun s' g₂ d5 pg=>⟨fun hD=>hD,fun x gx c' hx co ah=>by
     rcases hx with rfl|rfl
     .rw[ha₁]at co
      obtain rfl:=Option.some.inj co
      exact GHd.sends aH hwfH _
     .rw[hb₁]at co
      obtain rfl:=Option.some.inj co
      exact offersAt_of_not_blocked (by rw[si];simp) _ _⟩)
   exact⟨_,_,sumTo ak.size q'+μh+(n₁+1),by rw[az];exact gf,by rw[ax];omega,.inr ⟨ak,w₁.at d,aq,q',a₁,b₁,μh,n₁,rfl,ax.trans ai,by rw[k9 h (.inl rfl)];exact ha₁,by rw[k9 j (.inr rfl)];exact hb₁,C',dw,GHd,GJd,rfl⟩⟩
 obtain⟨N,m',T',hr,⟨v,hT⟩|⟨ak,w',aq,q',a₁,n₁,m₀,v,rfl,ai,ha₁,F,sa,ah,da,hXv,G⟩⟩:=key
 .exact⟨N,m',T',v,hr,hT⟩
 .obtain⟨N₂,m₂,T₂,hr₂,hT⟩:=xfm (Inb:=Inb) hKat hKc tH aH aJ hMS (hX v) hXv (sl:=aq) hh hwfH hcB ⟨hMh,ae⟩ (fun x s e=>(yf e).2.2) hk ha₁ F sa ah da G
  rw[ai]at hT
  exact⟨N+N₂,m₂,T₂,v,runNT_then hr hr₂,hT⟩
end
#print axioms VN
end Go.Proofs.YtfagfflkgmcnpaaGreatDoor
namespace Go.Proofs.YtfagfflkgmcnpaaGreatDoor
open Go Go.Conc
open Go.ConcN (sumTo upd sumTo_upd upd_ne upd_same)
section
variable{Still M0:Loc->Prop}{Mem Loose:Nat->Prop}{B h c:Nat}{t:Trace}
theorem xcO(H:PastH Still Mem Loose B h t)(hh:Mem h)(Df:Deaf t c=0)(fh:FuncId)(ph:String)(fc:FuncId) :
  PastG Still (fun g=>Mem g\/g=c) (fun g=>g=h\/Loose g) B (KD M0 h c (t ++ #[{g:=h,fn:=fh,pos:=ph,act :=.go c},{g:=c,fn:=fc,pos:=ph,act :=.start}])) (t ++ #[{g:=h,fn:=fh,pos:=ph,act :=.go c},{g:=c,fn:=fc,pos:=ph,act :=.start}]):=by
 have G:=H.hire hh Df fh ph fc
 have kg:=xcG (t:=t) (h:=h) (c:=c) (H.hears h hh) Df fh ph fc
 generalize hu:(#[{g:=h,fn:=fh,pos:=ph,act :=.go c},{g:=c,fn:=fc,pos:=ph,act :=.start}]:Trace)=u at G kg |-
 refine⟨G.clean,fun i a ha hm =>?_,G.wrote,G.hears,G.seen⟩
 obtain⟨x,hx,ck⟩:=touch_of ha
 rcases getElem?_append_cases hx with⟨hi,cr⟩|⟨_,dv⟩
 .rcases H.known i a (by rw[touchAt_of cr];exact ck) hm with hk|⟨p,q,g,hg,hl⟩
  .exact .inl ⟨a,ha,fun _=>hk.app u,fun _=>kg i hk⟩
  .exact .inr ⟨p,q,g,by rw[g?_old hi];exact hg,.inr hl⟩
 .subst hu
  simp only[List.mem_toArray,List.mem_cons,List.not_mem_nil,or_false]at dv
  rcases dv with rfl|rfl<;>cases ck
end
section
variable{P:Program}{K:World->Prop}{Still M1:Loc->Prop}{B:Nat}{Mem:Nat->Prop}{Inb:Nat->Option Seat}{h:Nat}{T:Trace}{gs:Array Goroutine}{w:World}{q:Nat->Nat}
theorem xfp(hKat : ∀w d,K w->K (w.at d)){a a' child:Goroutine}{es:Array Event}{sl:Option (Nat×Nat)}(hMh:Mem h)(ha:gs[h]? = some a)(aa:a.status = .running)
  (fu : ∀d,stepG P (h==0) a (w.at d) = .spawn a' child (w.at d) es) (r7 : ∀e∈es,EvHd Still B e) (C:Ring P K Still B Mem Inb h T gs w q) (ci:Inb gs.size=none)
  (sn:Seat) (Ep:sn.Wf) (t9 : ∀i s c,Inb i=some s->s.has c ->¬sn.has c) (ur : ∀c,sn.has c ->∃cap k,w.heap[c]? = some (.chan cap #[] false k k false)) (hcB : ∀c,sn.has c->c<B) :
  ∃ (N:Nat) (ak:Array Goroutine) (d:Nat) (aq:Option (Nat×Nat)) (T':Trace) (q':Nat->Nat),runNT P N (crowd gs w sl) T=(.next (crowd ak (w.at d) aq),T')/\ak.size=gs.size+1/\ak[h]? = some a'/\ak[gs.size]? = some child/\
   Duo P K Still M1 B (fun g=>Mem g\/g=gs.size) (upd Inb gs.size (some sn)) h gs.size T' ak (w.at d) q':=by
 obtain⟨N,gs₁,d,d',sl₁,sl₂,T₁,q₁,hr,az,ai,ha₁,C₁⟩:=picked (sl:=sl) hKat ha aa C
 have ao:h<gs₁.size:=(Array.getElem?_eq_some_iff.1 ha₁).1
 obtain⟨au,hs,hl,bf⟩:=evHd_ops (i:=h) (fn:=a.frame.fn) (pos:=a.frame.place) r7
 have gf:=runT_crowd_spawn (P:=P) (sl:=sl₂) ha₁ (fu d')
 have Ck:((MemOp.ofEvents h a.frame.fn a.frame.place es).push {g:=h,fn:=a.frame.fn,pos:=a.frame.place,act :=.go gs₁.size} |>.push {g:=gs₁.size,fn:=child.frame.fn,pos:=a.frame.place,act :=.start}) =
   MemOp.ofEvents h a.frame.fn a.frame.place es ++ #[{g:=h,fn:=a.frame.fn,pos:=a.frame.place,act :=.go gs₁.size},{g:=gs₁.size,fn:=child.frame.fn,pos:=a.frame.place,act :=.start}]:=by
  apply Array.ext';simp
 rw[Ck]at gf
 have hD1 : ∀x,Deaf (T₁++MemOp.ofEvents h a.frame.fn a.frame.place es) x=Deaf T₁ x:=fun x=>by
  by_cases ex:x=h
  .subst ex;exact bf T₁
  .exact Deaf_other T₁ (fun z=>ex z.symm) _ au
 have p2:=xcO (M0:=M1) (c:=gs₁.size) (PastH.appH C₁.past au hs (bf T₁) hl) hMh (by rw[hD1];exact C₁.above _ (dJ _)) a.frame.fn a.frame.place child.frame.fn
 rw[Array.append_assoc]at p2
 have hD2 : ∀x,Deaf (T₁++(MemOp.ofEvents h a.frame.fn a.frame.place es ++ #[{g:=h,fn:=a.frame.fn,pos:=a.frame.place,act :=.go gs₁.size},{g:=gs₁.size,fn:=child.frame.fn,pos:=a.frame.place,act :=.start}])) x=Deaf T₁ x:=fun x=>by
  rw[<- Array.append_assoc,Deaf_quiet (fun op ab d=>by
   simp only[List.mem_toArray,List.mem_cons,List.not_mem_nil,or_false]at ab
   rcases ab with rfl|rfl<;>rfl),hD1]
 refine⟨N+1,_,d',sl₂,_,q₁,runNT_succ_of hr (az.trans gf),by simp[ai],(by rw[Array.getElem?_push,dA (by simp;omega)];exact Array.getElem?_setIfInBounds_self_of_lt ao),(by rw[<- ai,Array.getElem?_push,dB (by simp)]),?_⟩
 rw[<- ai]
 rw[<- ai]at ci
 have o8 : ∀x,x≠gs₁.size->upd Inb gs₁.size (some sn) x=Inb x:=fun x hx=>upd_ne Inb _ hx
 have inv : ∀i s,upd Inb gs₁.size (some sn) i=some s->(i=gs₁.size/\s=sn)\/(i≠gs₁.size/\Inb i=some s):=fun i s e=>by
  by_cases ei:i=gs₁.size
  .subst ei
   rw[upd_same]at e
   exact .inl ⟨rfl,(Option.some.inj e).symm⟩
  .exact .inr ⟨ei,by rw[<- o8 i ei];exact e⟩
 refine⟨fun x y hx hy =>?_,fun i s c _ e hc =>?_,fun i s e =>?_,fun _ _ z=>z.elim,fun i i' s₁ s₂ c e₁ e₂ h₁ h₂ =>?_,fun x hx =>?_,fun i s e =>?_,fun i hM =>?_,fun i s hi e =>.inr ⟨⟨fun z=>hi (.inl z),by rw[e];rfl⟩,fun z=>hi (.inr z)⟩,?_,C₁.keep⟩
 .have cy:x≠h:=fun z=>hx (.inl z)
  have ex:x≠gs₁.size:=fun z=>hx (.inr z)
  have Dm:x<gs₁.size:=by
   have:=(Array.getElem?_eq_some_iff.1 hy).1
   simp at this;omega
  rw[Array.getElem?_push,dA (by simp;omega),Array.getElem?_setIfInBounds_ne (fun z=>cy z.symm)]at hy
  rw[o8 x ex]
  have hi:=C₁.idle x y cy hy
  cases e:Inb x with
  | none=>rw[e]at hi;exact⟨hi.1,by rw[hD2];exact hi.2⟩
  | some s=>rw[e]at hi;exact hi
 .rcases inv i s e with⟨_,rfl⟩|⟨_,e'⟩
  .exact ur c hc
  .exact C₁.chans i s c (fun z=>z) e' hc
 .rcases inv i s e with⟨_,rfl⟩|⟨_,e'⟩
  .exact Ep
  .exact C₁.wf i s e'
 .rcases inv i s₁ e₁ with⟨e1,rfl⟩|⟨_,e1⟩<;>rcases inv i' s₂ e₂ with⟨e2,rfl⟩|⟨_,e2⟩
  .rw[e1,e2]
  .exact absurd h₁ (t9 i' s₂ c e2 h₂)
  .exact absurd h₂ (t9 i s₁ c e1 h₁)
  .exact C₁.inj i i' s₁ s₂ c e1 e2 h₁ h₂
 .rw[hD2]
  exact C₁.above x (by simp at hx;omega)
 .rcases inv i s e with⟨e1,rfl⟩|⟨_,e'⟩
  .exact⟨.inr e1,hcB⟩
  .exact⟨.inl (C₁.mem i s e').1,(C₁.mem i s e').2⟩
 .by_cases ei:i=gs₁.size
  .exact .inr (.inr ei)
  .rw[o8 i ei]
   exact(C₁.nomem i (hM.elim id fun z=>absurd z ei)).imp id .inl
 .refine PastG.loosen p2 fun g hg=>hg.imp id fun⟨ep,d5⟩ =>?_
  have eg:g≠gs₁.size:=fun z=>by rw[z,ci]at d5;cases d5
  exact⟨⟨ep,by rw[o8 g eg];exact d5⟩,eg⟩
end
#print axioms xcO
#print axioms xfp
end Go.Proofs.YtfagfflkgmcnpaaGreatDoor
namespace Go.Proofs.YtfagfflkgmcnpaaGreatDoor
open Go Go.Conc
open Go.ConcN (sumTo upd sumTo_upd upd_ne upd_same)
section
variable{P:Program}{K:World->Prop}{Still:Loc->Prop}{B B':Nat}{Mem:Nat->Prop}{Inb:Nat->Option Seat}{h:Nat}{T:Trace}{gs:Array Goroutine}{w:World}{q:Nat->Nat}
theorem Ring.unseat(C:Ring P K Still B Mem Inb h T gs w q):Ring P K Still B Mem (upd Inb h none) h T gs w q:=by
 have o8 : ∀x,x≠h->upd Inb h none x=Inb x:=fun x hx=>upd_ne Inb _ hx
 have hs : ∀i s,upd Inb h none i=some s->i≠h/\Inb i=some s:=fun i s e=>by
  by_cases ei:i=h
  .subst ei;rw[upd_same]at e;cases e
  .exact⟨ei,by rw[<- o8 i ei];exact e⟩
 refine⟨fun x y hx hy=>by rw[o8 x hx];exact C.idle x y hx hy,fun i s c hi e hc=>C.chans i s c hi (hs i s e).2 hc,fun i s e=>C.wf i s (hs i s e).2,fun _ _ z=>z.elim,fun i i' s₁ s₂ c e₁ e₂=>C.inj i i' s₁ s₂ c (hs i s₁ e₁).2 (hs i' s₂ e₂).2,C.above,
  fun i s e=>C.mem i s (hs i s e).2,fun i hM =>?_,fun i s hi e=>⟨hi,by rw[e];rfl⟩,PastG.loosen C.past fun g ⟨hg,uq⟩=>⟨hg,by rw[o8 g hg];exact uq⟩,C.keep⟩
 by_cases e:i=h
 .exact .inr e
 .exact .inl (by rw[o8 i e];exact(C.nomem i hM).elim id fun z=>absurd z e)
theorem goes_mono{main:Bool}{R:World->World->Prop}{D D':World->World->Array Event->Prop}{Stop Stop':Goroutine->World->Prop}(hD : ∀w w' es,D w w' es->D' w w' es)(hS : ∀g w,Stop g w->Stop' g w) : ∀ (n:Nat) (g:Goroutine) (w:World),Goes P main R D Stop n g w->Goes P main R D' Stop' n g w
 | 0,g,w,H=>fun w₁ h₁=>hS _ _ (H w₁ h₁)
 | n+1,g,w,H=>by
  rcases H with H|⟨hr,H⟩
  .exact .inl fun w₁ h₁=>hS _ _ (H w₁ h₁)
  .refine .inr ⟨hr,fun w₁ h₁ =>?_⟩
   have:=H w₁ h₁
   revert this
   cases stepG P main g w₁ with
   | go g' w' es=>
    simp only[goes_go]
    exact fun⟨d,x⟩=>⟨hD _ _ _ d,goes_mono hD hS n _ _ x⟩
   | _=>exact fun x=>x.elim
theorem xcP(hB:B<=B'){e:Event}(x:EvC Still B e):EvC Still B' e:=by
 obtain⟨a,h1,h2,h3⟩:=x
 exact⟨a,h1,h2,Nat.lt_of_lt_of_le h3 hB⟩
theorem xar(hB:B<=B'){main:Bool}{s:Seat}{g g₂:Goroutine}(x:AtIn P main K Still B s g g₂):AtIn P main K Still B' s g g₂:=by
 obtain⟨h1,h2,h3,h4,h5,es,h6,h7⟩:=x
 exact⟨h1,h2,h3,h4,h5,es,fun e he=>xcP hB (h6 e he),h7⟩
theorem xas(hB:B<=B'){main:Bool}{s:Seat}{n:Nat}{g:Goroutine}(x:Sits P main K Still B s n g):Sits P main K Still B' s n g:=by
 rcases x with⟨k,w,e,G⟩|⟨e,g₀,g₂,e',x⟩
 .exact .inl ⟨k,w,e,goes_mono (fun w w' es ⟨a,b⟩=>⟨a,fun e he=>xcP hB (b e he)⟩) (fun g w ⟨g₂,x⟩=>⟨g₂,xar hB x⟩) k g w G⟩
 .exact .inr ⟨e,g₀,g₂,e',xar hB x⟩
theorem Ring.grow(C:Ring P K Still B Mem Inb h T gs w q)(hB:B<=B'):Ring P K Still B' Mem Inb h T gs w q:=by
 refine Ring.mono C hB fun i g hi hg =>?_
 have x:=C.idle i g hi hg
 cases e:Inb i with
 | none=>rw[e]at x;exact x
 | some s=>rw[e]at x;exact xas hB x
end
#print axioms Ring.unseat
#print axioms Ring.grow
end Go.Proofs.YtfagfflkgmcnpaaGreatDoor
namespace Go.Proofs.YtfagfflkgmcnpaaGreatDoor
open Go Go.Conc
open Go.ConcN (sumTo upd sumTo_upd upd_ne upd_same)
inductive GW(P:Program)(main:Bool)(R:World->World->Prop)(D:World->World->Array Event->Prop)(Stop:Goroutine->World->Prop):Goroutine->World->Prop
 | stop {g:Goroutine} {w:World} (h : ∀w₁,R w w₁->Stop g w₁):GW P main R D Stop g w
 | step {g:Goroutine} {w:World} (hr:g.status = .running) (h : ∀w₁,R w w₁ ->∃g' w' es,stepG P main g w₁ = .go g' w' es/\D w₁ w' es) (h' : ∀w₁ g' w' es,R w w₁->stepG P main g w₁ = .go g' w' es->GW P main R D Stop g' w'):GW P main R D Stop g w
theorem GW.go{P:Program}{main:Bool}{R:World->World->Prop}{D:World->World->Array Event->Prop}{Stop:Goroutine->World->Prop}{g:Goroutine}{w:World}(hr:g.status = .running)(h : ∀w₁,R w w₁ ->∃g' w' es,stepG P main g w₁ = .go g' w' es/\D w₁ w' es/\GW P main R D Stop g' w'):GW P main R D Stop g w:=
 .step hr (fun w₁ h₁=>by obtain⟨g',w',es,a,b,_⟩:=h w₁ h₁;exact⟨g',w',es,a,b⟩) fun w₁ g' w' es h₁ hs=>by
  obtain⟨g₂,w₂,es₂,a,_,c⟩:=h w₁ h₁
  rw[hs]at a;cases a;exact c
def DW(K:World->Prop)(Inb:Nat->Option Seat)(Still M0:Loc->Prop)(RH:World->World->Prop)(w w':World)(es:Array Event):Prop:=
 (K w->K w')/\(∀i s c,Inb i=some s->s.has c->w'.heap[c]? = w.heap[c]?)/\RH w w'/\w.heap.size<=w'.heap.size/\ ∀e∈es,EvJ Still M0 w'.heap.size e
def Grown(B B':Nat)(w w':World):Prop:=B<=B'/\B'<=max B w'.heap.size/\w.heap.size<=w'.heap.size
theorem Grown.refl(B:Nat)(w:World):Grown B B w w:=⟨dJ _,Nat.le_max_left _ _,dJ _⟩
theorem Grown.trans{B B₁ B':Nat}{w w₁ w':World}(h:Grown B B₁ w w₁)(h':Grown B₁ B' w₁ w'):Grown B B' w w':=by
 obtain⟨a,b,c⟩:=h
 obtain⟨a',b',c'⟩:=h'
 exact⟨by omega,by omega,by omega⟩
theorem Grown.same{B B':Nat}{w w' w₁ w₁':World}(h:Grown B B' w w')(e:w₁.heap.size=w.heap.size)(e':w₁'.heap.size=w'.heap.size):Grown B B' w₁ w₁':=by
 unfold Grown at h |-
 rw[e,e']
 exact h
section
variable{P:Program}{K:World->Prop}{Still M0:Loc->Prop}{B B':Nat}{Mem:Nat->Prop}{Inb:Nat->Option Seat}{h j:Nat}{T:Trace}{gs:Array Goroutine}{w:World}{q:Nat->Nat}
theorem kX(hB:B<=B'){e:Event}(x:EvHd Still B e):EvHd Still B' e:=⟨x.1,x.2.1,x.2.2.1,MemAct.low_mono hB x.2.2.2⟩
theorem Duo.grow(C:Duo P K Still M0 B Mem Inb h j T gs w q)(hB:B<=B'):Duo P K Still M0 B' Mem Inb h j T gs w q:=by
 refine⟨fun i g hi hg =>?_,C.chans,C.wf,C.live,C.inj,C.above,fun i s e=>⟨(C.mem i s e).1,fun c hc=>Nat.lt_of_lt_of_le ((C.mem i s e).2 c hc) hB⟩,C.nomem,C.lo,PastG.mono C.past hB,C.keep⟩
 have x:=C.idle i g hi hg
 cases e:Inb i with
 | none=>rw[e]at x;exact x
 | some s=>rw[e]at x;exact xas hB x
theorem ModeH.grow{RH RJ:World->World->Prop}{main:Bool}{s:Seat}{HomeH:Goroutine->World->Prop}{μ:Nat}{a:Goroutine}(hB:B<=B')(m:ModeH P K Still M0 B Inb RH RJ main s HomeH μ a w):ModeH P K Still M0 B' Inb RH RJ main s HomeH μ a w:=by
 rcases m with⟨n,e,G⟩|x
 .refine .inl ⟨n,e,goes_mono (fun w w' es ⟨a,b,c,d⟩=>⟨a,b,c,fun e he=>⟨kX hB (d e he).1,(d e he).2⟩⟩) (fun g w ⟨hr,a₂,es,y1,y2,y3⟩=>⟨hr,a₂,es,y1,fun e he=>⟨kX hB (y2 e he).1,(y2 e he).2⟩,y3⟩) _ _ _ G⟩
 .exact .inr x
end
section
variable{P:Program}{K:World->Prop}{Still M0:Loc->Prop}{Mem:Nat->Prop}{Inb:Nat->Option Seat}{h j:Nat}
theorem VO(hKat : ∀w d,K w->K (w.at d)){RH RJ:World->World->Prop}(tH : ∀a b c,RH a b->RH b c->RH a c)(tJ : ∀a b c,RJ a b->RJ b c->RJ a c)
  (aH : ∀w d,RH w (w.at d)) (aJ : ∀w d,RJ w (w.at d)) (rJ : ∀w,RJ w w) (zJ : ∀w w',RJ w w'->w'.heap.size=w.heap.size) (hMS : ∀l,M0 l ->¬Still l) {HomeH:Goroutine->World->Prop} (hH : ∀a w w',HomeH a w->RH w w'->HomeH a w') {Stop:Goroutine->World->Prop} {X:World->Prop} (hX : ∀w w',X w->RH w w'\/RJ w w'->X w')
  {sH:Seat} (ae:h≠j) (hh:Inb h=some sH) (hMj:Mem j) {b:Goroutine} {wb:World} (GJ:GW P (j==0) RJ (DW K Inb Still M0 RH) Stop b wb) :
  ∀ (w:World),RJ wb w ->∀ (B:Nat) (gs:Array Goroutine) (T:Trace) (sl:Option (Nat×Nat)) (q:Nat->Nat) (μ:Nat) (a:Goroutine),w.heap.size<=B->Duo P K Still M0 B Mem Inb h j T gs w q->gs[h]? = some a->gs[j]? = some b->ModeH P K Still M0 B Inb RH RJ (h==0) sH HomeH μ a w->X w->
  ∃N ak w' aq q' T' a' b' μ' B',runNT P N (crowd gs w sl) T=(.next (crowd ak w' aq),T')/\ak.size=gs.size/\ak[h]? = some a'/\ak[j]? = some b'/\Grown B B' w w'/\w'.heap.size<=B'/\Duo P K Still M0 B' Mem Inb h j T' ak w' q'/\ModeH P K Still M0 B' Inb RH RJ (h==0) sH HomeH μ' a' w'/\X w'/\ ∀w₁,RJ w' w₁->Stop b' w₁:=by
 induction GJ with
 | stop hs=>
  rename_i b wb
  intro w hw B gs T sl q μ a hB C ha hb GH x0
  exact⟨0,gs,w,sl,q,T,a,b,μ,B,rfl,rfl,ha,hb,Grown.refl _ _,hB,C,GH,x0,fun w₁ h₁=>hs w₁ (tJ _ _ _ hw h₁)⟩
 | step hr bo Hw ih=>
  rename_i b wb
  intro w hw B gs T sl q μ a hB C ha hb GH x0
  obtain⟨m,hm⟩ : ∃m,m=sumTo gs.size q+μ:=⟨_,rfl⟩
  induction m using Nat.strongRecOn generalizing w B gs T sl q μ a with
  | _ m ihm=>
  subst hm
  have cu:h<gs.size:=(Array.getElem?_eq_some_iff.1 ha).1
  have gl:j<gs.size:=(Array.getElem?_eq_some_iff.1 hb).1
  have hwfH:=C.wf h sH hh
  have hMh:=(C.mem h sH hh).1
  obtain⟨i,g,d,aq,hi,hg,az⟩:=crowd_pick (P:=P) (w:=w) (sl:=sl) (YC C ha hb ((GH.status aH).imp (·.1) (·.1)) (.inl hr)) ⟨j,b,hb,hr⟩
  have Cd:Duo P K Still M0 B Mem Inb h j T gs (w.at d) q:=TokCore.at hKat C d
  have GHd:=GH.rely tH hH (aH w d)
  have rHd:RH (w.at d) (w.at d):=aH (w.at d) d
  have xd:X (w.at d):=hX _ _ x0 (.inl (aH w d))
  have pq:RJ wb (w.at d):=tJ _ _ _ hw (aJ w d)
  have chH : ∀c',sH.has c' ->∃cap k,(w.at d).heap[c']? = some (.chan cap #[] false k k false):=fun c' x=>Cd.chans h sH c' (fun z=>z) hh x
  have on : ∀ {m':Machine} {ops:Array MemOp} {gs₁:Array Goroutine} {B₁:Nat} {w₁:World},stepT P (crowd gs w sl)=(.next m',ops)->Grown B B₁ w w₁->
    (∃N ak w' aq q' T' a' b' μ' B',runNT P N m' (T++ops)=(.next (crowd ak w' aq),T')/\ak.size=gs₁.size/\ak[h]? = some a'/\ak[j]? = some b'/\Grown B₁ B' w₁ w'/\w'.heap.size<=B'/\Duo P K Still M0 B' Mem Inb h j T' ak w' q'/\ModeH P K Still M0 B' Inb RH RJ (h==0) sH HomeH μ' a' w'/\X w'/\ ∀w₁,RJ w' w₁->Stop b' w₁)->gs₁.size=gs.size->
    ∃N ak w' aq q' T' a' b' μ' B',runNT P N (crowd gs w sl) T=(.next (crowd ak w' aq),T')/\ak.size=gs.size/\ak[h]? = some a'/\ak[j]? = some b'/\Grown B B' w w'/\w'.heap.size<=B'/\Duo P K Still M0 B' Mem Inb h j T' ak w' q'/\ModeH P K Still M0 B' Inb RH RJ (h==0) sH HomeH μ' a' w'/\X w'/\ ∀w₁,RJ w' w₁->Stop b' w₁:=by
   rintro m' ops gs₁ B₁ w₁ hs hB1 ⟨N,ak,w',aq,q',T',a',b',μ',B',x1,x2,x3,x4,x5,x6,x7,x8,x10,x9⟩ hz
   refine⟨N+1,ak,w',aq,q',T',a',b',μ',B',?_,x2.trans hz,x3,x4,hB1.trans x5,x6,x7,x8,x10,x9⟩
   simp only[runNT,hs]
   exact x1
  by_cases e:i=h
  ·-- h's step
   subst e
   obtain rfl:g=a:=by rw[ha]at hi;exact(Option.some.inj hi).symm
   obtain⟨n,hn,G⟩ : ∃n,μ=n+1/\Goes P (i==0) RH (DG K Inb (EvH Still M0 B) RJ) (AtH P Still M0 B (i==0) sH HomeH) n g (w.at d):=by
    rcases GHd with x|⟨_,a₂,rfl,_⟩
    .exact x
    .cases hg
   rcases wD rHd G with⟨_,a₂,es,hHome,hEv,dq⟩|⟨n',a',w',es,rfl,fu,⟨dK,dC,dR,dE⟩,G'⟩
   .obtain⟨au,hs,hl,bf⟩:=evHd_ops (i:=i) (fn:=g.frame.fn) (pos:=g.frame.place) (fun e he=>(hEv e he).1)
    have hp:=VJ hMS Cd.past hMh (.inl rfl) au (vW hEv) hs (bf T) hl
    have f6 : ∀cc∈sH.cases,NoWays (w.at d) (gs.setIfInBounds i ph) cc:=by
     intro cc bx
     obtain⟨c',z',rfl⟩:=hwfH.recvs cc bx
     obtain⟨cap,k',ah⟩:=chH c' (Seat.has_of_mem bx)
     refine ways_recv_none ah (partners_nil fun x y hy =>?_)
     by_cases cy:x=i
     .subst cy
      rw[Array.getElem?_setIfInBounds_self_of_lt cu]at hy
      obtain rfl:=Option.some.inj hy
      exact offersAt_ph _ _
     by_cases dp:x=j
     .subst dp
      rw[stand_get (Ne.symm ae) hb]at hy
      obtain rfl:=Option.some.inj hy
      exact offersAt_of_not_blocked (by rw[hr];simp) _ _
     .rcases getElem?_stand gs i x y hy with⟨_,rfl⟩|⟨_,er⟩
      .exact offersAt_ph _ _
      .exact TokCore.noSend Cd (fun z=>z.elim cy dp) er _
    refine on (az.trans (crowd_waits (sl:=aq) hi dq f6)) (Grown.refl B (w.at d)) (ihm (sumTo gs.size q+0) (by omega) (w.at d) pq B _ _ aq q 0 _ hB (jR Cd _ cu (.inl rfl) hp) (Array.getElem?_setIfInBounds_self_of_lt cu) (by rw[Array.getElem?_setIfInBounds_ne ae];exact hb) (.inr ⟨rfl,a₂,rfl,hHome⟩) xd (by simp)) (by simp)
   .obtain⟨au,hs,hl,bf⟩:=evHd_ops (i:=i) (fn:=g.frame.fn) (pos:=g.frame.place) (fun e he=>(dE e he).1)
    have hp:=VJ hMS Cd.past hMh (.inl rfl) au (vW dE) hs (bf T) hl
    obtain⟨C',h1,h2⟩:=vN (a':=a') Cd ha (.inl rfl) dK dC (fun x y hx fa hy=>by
     rcases hx with rfl|rfl
     .exact absurd rfl fa
     .rw[hb]at hy
      obtain rfl:=Option.some.inj hy
      exact again_of_running (.inl hr) _) hp
    refine on (az.trans (runT_crowd_go (sl:=aq) hi fu)) ((Grown.refl B (w.at d)).same rfl (zJ _ _ dR)) (ihm (sumTo gs.size q+(n'+1)) (by omega) w' (tJ _ _ _ pq dR) B _ _ aq q (n'+1) a' (by rw[zJ _ _ dR];exact hB) C' h1 (h2 j b (.inr rfl) (Ne.symm ae) hb) (.inl ⟨n',rfl,G'⟩) (hX _ _ xd (.inr dR)) (by simp)) (by simp)
  by_cases ej:i=j
  ·-- j's step
   subst ej
   obtain rfl:g=b:=by rw[hb]at hi;exact(Option.some.inj hi).symm
   obtain⟨g',w',es,fu,⟨dK,dC,dR,dS,dE⟩⟩:=bo _ pq
   have hBB:B<=max B w'.heap.size:=Nat.le_max_left _ _
   have dE' : ∀e∈es,EvJ Still M0 (max B w'.heap.size) e:=fun e he=>⟨kX (Nat.le_max_right _ _) (dE e he).1,(dE e he).2⟩
   have Cg:=Cd.grow hBB
   obtain⟨au,hs,hl,bf⟩:=evHd_ops (i:=i) (fn:=g.frame.fn) (pos:=g.frame.place) (fun e he=>(dE' e he).1)
   have hp:=xap Cg.past hMj au (vW dE') hs (bf T) hl
   obtain⟨C',h1,h2⟩:=vN (a':=g') Cg hb (.inr rfl) dK dC (fun x y hx fa hy=>by
    rcases hx with rfl|rfl
    .rw[ha]at hy
     obtain rfl:=Option.some.inj hy
     exact GHd.again aH hwfH fun c' ah=>by obtain⟨cap,k',am⟩:=chH c' ah;exact⟨cap,k',by rw[dC _ sH c' hh ah];exact am⟩
    .exact absurd rfl fa) hp
   refine on (az.trans (runT_crowd_go (sl:=aq) hi fu)) (w₁:=w') ⟨hBB,dJ _,dS⟩ (ih (w.at d) g' w' es pq fu w' (rJ _) _ _ _ aq q μ a (Nat.le_max_right _ _) C' (h2 h a (.inl rfl) ae ha) h1 ((GHd.grow hBB).rely tH hH dR) (hX _ _ xd (.inl dR))) (by simp)
  ·-- a bystander's step
   obtain⟨ak,ops,q',gf,ax,k9,_,_,C',ao⟩:=TokCore.by_step (sl:=aq) (fun t u i=>KD.app u) Cd hi (fun z=>z.elim e ej) hg
    (fun x gx hx co=>by
     rcases hx with rfl|rfl
     .rw[ha]at co
      obtain rfl:=Option.some.inj co
      exact GHd.again aH hwfH chH
     .rw[hb]at co
      obtain rfl:=Option.some.inj co
      exact again_of_running (.inl hr) _) (fun hD=>hD.elim)
    (fun s' g₂ d5 pg=>⟨fun hD=>hD,fun x gx c' hx co ah=>by
     rcases hx with rfl|rfl
     .rw[ha]at co
      obtain rfl:=Option.some.inj co
      exact GHd.sends aH hwfH _
     .rw[hb]at co
      obtain rfl:=Option.some.inj co
      exact offersAt_of_not_blocked (by rw[hr];simp) _ _⟩)
   refine on (az.trans gf) (Grown.refl B (w.at d)) ?_ ax
   exact ihm (sumTo ak.size q'+μ) (by rw[ax];omega) (w.at d) pq B ak _ aq q' μ a hB C' (by rw[k9 h (.inl rfl)];exact ha) (by rw[k9 j (.inr rfl)];exact hb) GHd xd rfl
end
#print axioms VO
end Go.Proofs.YtfagfflkgmcnpaaGreatDoor
namespace Go.Proofs.YtfagfflkgmcnpaaGreatDoor.Kx
open Go Go.Conc Lx
def EvOff(F:Nat->Prop)(n:Nat)(e:Event):Prop:=match e.loc with
 | .cell a=> ¬F a.block/\a.block<n
 | .obj r=> ¬F r/\r<n
 | .mark m=>m = .noRoom
 | _=>False
structure Fo where
 has:Nat->Prop
 A:Toks
instance:CoeFun Fo (fun _=>Nat->Prop):=⟨Fo.has⟩
instance:Coe Fo (Nat->Prop):=⟨Fo.has⟩
structure KBase(P:Program)(σ:Type) where
 base:PortB P
 step:PStep σ
 Rep:σ->Fo->World->Prop
 lt : ∀ {s} {F:Fo} {w:World},Rep s F w ->∀b,F b->b<w.heap.size
 stable : ∀ {s F w w'},Rep s F w->(∀b,F b->w'.heap[b]? = w.heap[b]?)->Rep s F w'
 main:Bool
 RF:Fo->World->Fo->World->Prop
 rRefl : ∀F w,RF F w F w
 rKeeps : ∀ {F:Fo} {w:World} {F₁:Fo} {w₁:World},RF F w F₁ w₁->Keeps F w w₁
 rNew : ∀ {F w F₁ w₁},RF F w F₁ w₁ ->∀b,F₁ b->F b\/w.heap.size<=b
 rRep : ∀ {s F w F₁ w₁},Rep s F w->RF F w F₁ w₁->Rep s F₁ w₁
 rTok : ∀ {F w F₁ w₁},RF F w F₁ w₁->F₁.A=F.A
 D:Fo->World->World->Array Event->Prop
 rd:Nat->Prop
 std:World->Prop
 rdLt : ∀ {w},std w ->∀b,rd b->b<w.heap.size
 stdK : ∀ {w w'},std w->(∀b,rd b->w'.heap[b]? = w.heap[b]?)->std w'
 rdOff : ∀ {s} {F:Fo} {w:World},Rep s F w ->∀b,rd b ->¬F b
 dOwn : ∀ {F:Fo} {w w' es},Keeps (fun b=> ¬F b/\ ¬rd b) w w'->(∀e∈es,EvOff F w.heap.size e)->D F w w' es
 meth : ∀ {name args p s s' x F w} {vs:List Value},popOf name args=some p->step p s=some (x,s')->allSome (denV base.pv []) args=some vs->Rep s F w->
  ∃f recv rv,(∀w,(callMethod base.pv name vs.toArray).run P w = .ok (.enter f (#[recv]++vs.toArray)) w)/\(∀w,(callMethod base.pv name vs.toArray).events P w #[] = #[])/\Flat base.pv (ansV p x) rv/\
   ∃F' w',Rep s' F' w'/\Keeps F w w'/\(∀b,F' b->F b\/w.heap.size<=b)/\F.A.le F'.A
 bad:FuncId->Bool
 some_ : ∃f,bad f=false
 prim:FuncId->σ->Fo->World->Array Value->σ->(Value->Fo->World->Prop)->Prop
 primSome : ∀ {f s F w vs s' Post},prim f s F w vs s' Post ->∃rv F' w',Post rv F' w'/\F.A.le F'.A
def KBase.pv{P:Program}{σ:Type}(J:KBase P σ)(F:Fo):Pv:=⟨J.base.pv.val,F.A⟩
def KBase.at{P:Program}{σ:Type}(J:KBase P σ)(F:Fo):PortR P σ:=
 {pv:=J.pv F,t:=J.base.t,u:=J.base.u,isIface:=J.base.isIface,sure:=J.base.sure,step:=J.step,Rep:=fun s X w=>J.Rep s ⟨X,F.A⟩ w,lt:=fun h=>J.lt h,stable:=fun h h'=>J.stable h h'}
theorem KBase.at_eq{P:Program}{σ:Type}{J:KBase P σ}{F F':Fo}(h:F'.A=F.A):J.at F'=J.at F:=by
 obtain⟨X,A⟩:=F;obtain⟨X',A'⟩:=F';subst h;rfl
theorem KBase.one{P:Program}{σ:Type}(J:KBase P σ)(F:Fo):One (J.pv F):=PortB.one (J.at F).toPortB
abbrev CfgK{P:Program}{σ:Type}(J:KBase P σ)(S0:Bool->Nat->Prop)(w0:World)(e0 e:Env)(st:St)(s:σ)(F:Fo)(a:Act)(w:World):Prop:=Cfg (J.at F) S0 w0 e0 e st s F.has a w
class OffS {P:Program} {σ:Type} (J:KBase P σ) (S0:Bool->Nat->Prop) (w0:World):Prop where
 own : ∀b,S0 true b ->¬J.rd b
 std:J.std w0
structure KBase.Off{P:Program}{σ:Type}(J:KBase P σ)(e:Env)(H:Heap)(w:World):Prop where
 own : ∀b,Own true e H b ->¬J.rd b
 std:J.std w
theorem CfgK.off{P:Program}{σ:Type}{J:KBase P σ}{S0:Bool->Nat->Prop}{w0:World}[h:OffS J S0 w0]{e0 e:Env}{st:St}{s:σ}{F:Fo}{a:Act}{w:World}(C:CfgK J S0 w0 e0 e st s F a w){b:Nat}(hb:Own true e st.heap b) : ¬J.rd b:=fun hr=>
 (C.mine true b (.inl hb)).elim (fun x=>h.own b x hr) fun x=>by have:=J.rdLt h.std b hr;omega
theorem CfgK.std{P:Program}{σ:Type}{J:KBase P σ}{S0:Bool->Nat->Prop}{w0:World}[h:OffS J S0 w0]{e0 e:Env}{st:St}{s:σ}{F:Fo}{a:Act}{w:World}(C:CfgK J S0 w0 e0 e st s F a w):J.std w:=
 J.stdK h.std fun b hb=>C.keeps.block b (J.rdLt h.std b hb) fun x=>h.own b x hb
theorem CfgK.offK{P:Program}{σ:Type}{J:KBase P σ}{S0:Bool->Nat->Prop}{w0:World}[h:OffS J S0 w0]{e0 e:Env}{st:St}{s:σ}{F:Fo}{a:Act}{w:World}(C:CfgK J S0 w0 e0 e st s F a w):J.Off e st.heap w:=⟨fun _ hb=>CfgK.off C hb,CfgK.std C⟩
theorem OffS.of{P:Program}{σ:Type}{J:KBase P σ}{e:Env}{H:Heap}{s:σ}{F:Fo}{w:World}(hR:J.Rep s F w)(hO:J.Off e H w):OffS J (fun q b=>Own q e H b\/F b) w:=
 ⟨fun b hb hr=>hb.elim (fun h=>hO.own b h hr) (J.rdOff hR b hr),hO.std⟩
theorem CfgK.grow{P:Program}{σ:Type}{J:KBase P σ}{S0:Bool->Nat->Prop}{w0:World}{e0 e:Env}{st:St}{s s':σ}{F F':Fo}{X:Nat->Prop}{a:Act}{w:World}(hA:F.A.le F'.A)(C:Cfg (J.at F) S0 w0 e0 e st s X a w)(hR:J.Rep s' ⟨X,F'.A⟩ w):Cfg (J.at F') S0 w0 e0 e st s' X a w:=
 ⟨⟨C.rel.emb.grow hA,C.rel.len,C.rel.tmps,C.rel.defers⟩,hR,C.disj,C.keeps,C.mine,C.ext⟩
def PlainF(c:Frame):Prop:=c.defers = []/\c.kind = .normal/\c.mode = .run/\ ∃ops is k,c.todo = .inRegion ops is::k
structure KOk{P:Program}{σ:Type}(J:KBase P σ) where
 Ok:σ->Fo->Frame->List Frame->World->Prop
 Cs:List Frame->Prop
 csCons : ∀ {c cs},PlainF c->Cs cs->Cs (c::cs)
 csTail : ∀ {c cs},PlainF c->Cs (c::cs)->Cs cs
 okStep : ∀ {s} {F:Fo} {fr cs w},J.bad fr.fn=false->(∀F₁ w₁,J.RF F w F₁ w₁ ->∃oz cs' w' es,stepG P J.main (G fr cs) w₁ = .go (G oz cs') w' es/\J.D F₁ w₁ w' es/\(Cs cs->Cs cs')/\Ok s F₁ oz cs' w')->Ok s F fr cs w
 okRely : ∀ {s F fr cs w F₁ w₁},Ok s F fr cs w->J.RF F w F₁ w₁->Ok s F₁ fr cs w₁
 does : ∀ {name args p s s' x F w f recv rv} {vs:List Value},popOf name args=some p->J.step p s=some (x,s')->allSome (denV J.base.pv []) args=some vs->J.Rep s F w->
  (∀w,(callMethod J.base.pv name vs.toArray).run P w = .ok (.enter f (#[recv]++vs.toArray)) w)->Flat J.base.pv (ansV p x) rv ->∀caller cs,PlainF caller->
   (∀F' w',J.Rep s' F' w'->Keeps F w w'->(∀b,F' b->F b\/w.heap.size<=b)->F.A.le F'.A->Ok s' F' (caller.finish rv) cs w')->Ok s F (Frame.enter P f (#[recv]++vs.toArray) .normal) (caller::cs) w
 prim : ∀ {f s F w vs s' Post},J.prim f s F w vs s' Post ->∀caller cs,PlainF caller->(∀rv F' w',Post rv F' w'->F.A.le F'.A->Ok s' F' (caller.finish rv) cs w')->Ok s F (Frame.enter P f vs .normal) (caller::cs) w
variable{P:Program}{σ:Type}{J:KBase P σ}
def KOk.from(O:KOk J)(A0:Toks):KOk J where
 Ok:=fun s F fr cs w=>A0.le F.A->O.Ok s F fr cs w
 Cs:=O.Cs
 csCons:=O.csCons
 csTail:=O.csTail
 okStep:=fun hb h hA=>O.okStep hb fun F₁ w₁ h₁=>by
  obtain⟨oz,cs',w',es,h2,h3,h4,h5⟩:=h F₁ w₁ h₁
  exact⟨oz,cs',w',es,h2,h3,h4,h5 (by rw[J.rTok h₁];exact hA)⟩
 okRely:=fun h hr hA=>O.okRely (h (by rw[<- J.rTok hr];exact hA)) hr
 does:=fun h1 h2 h3 h4 h5 h6 caller cs hp hc hA=>O.does h1 h2 h3 h4 h5 h6 caller cs hp fun F' w' a b c d=>hc F' w' a b c d (hA.trans d)
 prim:=fun h1 caller cs hp hc hA=>O.prim h1 caller cs hp fun rv F' w' a b=>hc rv F' w' a b (hA.trans b)
def KAfter(O:KOk J)(b:Frame)(k:List Item)(cs:List Frame):Exit->Act->σ->Fo->World->Prop
 | .normal,a,s,F,w=>O.Ok s F (b.at a k) cs w
 | .exit id,a,s,F,w =>∃k',exitTo id k=some k'/\O.Ok s F (b.at a k') cs w
 | .ret,a,s,F,w =>∀todo,O.Ok s F {b.at a todo with mode :=.returning} cs w
 | _,_,_,_,_=>False
abbrev wN(σ:Type):=Exit->Act->σ->Fo->World->Prop
def At(J:KBase P σ)(fn:FuncId)(b:Frame):Prop:=b.fn=fn/\J.bad fn=false
theorem At.bad{fn:FuncId}{b:Frame}(h:At J fn b):J.bad b.fn=false:=by rw[h.1];exact h.2
def KWp(J:KBase P σ)(fn:FuncId)(c:Code)(Q:wN σ)(a:Act)(s:σ)(F:Fo)(w:World):Prop:=
 ∀ (O:KOk J) (b:Frame) (k:List Item) (cs:List Frame),At J fn b->b.kind = .normal->(∀e a' s' F' w',Q e a' s' F' w'->KAfter O b k cs e a' s' F' w')->O.Ok s F (b.at a (.code c::k)) cs w
def KOps(J:KBase P σ)(fn:FuncId)(ops:Array Oper)(todo:List Nat)(Q:wN σ)(a:Act)(s:σ)(F:Fo)(w:World):Prop:=
 ∀ (O:KOk J) (b:Frame) (k:List Item) (cs:List Frame),At J fn b->b.kind = .normal->(∀e a' s' F' w',Q e a' s' F' w'->KAfter O b k cs e a' s' F' w')->O.Ok s F (b.at a (.inRegion ops todo::k)) cs w
def KCalls(J:KBase P σ)(f:FuncId)(args:Array Value)(s:σ)(F:Fo)(w:World)(s':σ)(Post:Value->Fo->World->Prop):Prop:=
 ∀ (O:KOk J) (caller:Frame) (cs:List Frame),PlainF caller->(∀rv F' w',Post rv F' w'->O.Ok s' F' (caller.finish rv) cs w')->O.Ok s F (Frame.enter P f args .normal) (caller::cs) w
theorem KCalls.mono{f:FuncId}{args:Array Value}{s s':σ}{F:Fo}{w:World}{Post Post':Value->Fo->World->Prop}(h:KCalls J f args s F w s' Post)(hp : ∀rv F' w',Post rv F' w'->Post' rv F' w'):KCalls J f args s F w s' Post':=
 fun O caller cs Bx hk=>h O caller cs Bx fun rv F' w' hq=>hk rv F' w' (hp rv F' w' hq)
theorem D_idle{F:Fo}(w:World):J.D F w w #[]:=J.dOwn (Keeps.refl _ w) (by simp)
theorem D_draw{F:Fo}(w:World):J.D F w {w with drawn:=w.drawn+1} #[]:=J.dOwn ⟨rfl,rfl,rfl,dJ _,fun _ _ _=>rfl⟩ (by simp)
section
variable{fn:FuncId}{Q:wN σ}{a:Act}{s:σ}{F:Fo}{w:World}
theorem KAfter.push{O:KOk J}{b:Frame}{x:Item}{k:List Item}{cs:List Frame}{e:Exit}(hx:x.plain=true)(he:e ≠ .normal)(h:KAfter O b k cs e a s F w):KAfter O b (x::k) cs e a s F w:=by
 cases e with
 | normal=>exact absurd rfl he
 | exit id=>obtain⟨k',hk,hg⟩:=h;exact⟨k',by cases x<;>simp_all[exitTo,Item.plain],hg⟩
 | ret=>exact h
 | goto l=>exact h
 | panic ch=>exact h
 | outgrown=>exact h
theorem vE{O:KOk J}{fr oz:Frame}{cs cs':List Frame}(hm:J.bad fr.fn=false)(hs : ∀w₁,stepG P J.main (G fr cs) w₁ = .go (G oz cs') w₁)(h:O.Ok s F oz cs' w)(bk:O.Cs cs->O.Cs cs':=by exact fun h=>h):O.Ok s F fr cs w:=
 O.okStep hm fun F₁ w₁ h₁=>⟨_,_,_,_,hs w₁,D_idle w₁,bk,O.okRely h h₁⟩
theorem xhV(h:Q .normal a s F w):KWp J fn .skip Q a s F w:=fun O b k cs hb _ hc=>vE hb.bad (fun _=>stepG_skip) (hc _ _ _ _ _ h)
theorem xgL{l:Nat}(h:Q .normal a s F w):KWp J fn (.label l) Q a s F w:=fun O b k cs hb _ hc=>vE hb.bad (fun _=>stepG_label) (hc _ _ _ _ _ h)
theorem xbk(h:Q .ret a s F w):KWp J fn .ret Q a s F w:=fun O b k cs hb _ hc=>vE hb.bad (fun _=>stepG_ret') (hc _ _ _ _ _ h _)
theorem xhW{id:Nat}(h:Q (.exit id) a s F w):KWp J fn (.exit id) Q a s F w:=fun O b k cs hb _ hc=>by
 obtain⟨k',am,hg⟩:=hc _ _ _ _ _ h
 exact vE hb.bad (fun _=>stepG_exit am) hg
def xfq(K:Act->σ->Fo->World->Prop)(Q:wN σ):wN σ
 | .normal,a,s,F,w=>K a s F w
 | e,a,s,F,w=>Q e a s F w
theorem qr{x y:Code}(h:KWp J fn x (xfq (fun a' s' F' w'=>KWp J fn y Q a' s' F' w') Q) a s F w):KWp J fn (.seq x y) Q a s F w:=by
 intro O b k cs hb hk hc
 refine vE hb.bad (fun _=>stepG_seq) (h O b (.code y::k) cs hb hk fun e a' s' F' w' q =>?_)
 cases e with
 | normal=>exact q O b k cs hb hk hc
 | exit id=>exact(hc _ _ _ _ _ q).push rfl (by simp)
 | ret=>exact(hc _ _ _ _ _ q).push (x :=.code y) rfl (by simp)
 | goto l=>exact hc _ _ _ _ _ q
 | panic ch=>exact hc _ _ _ _ _ q
 | outgrown=>exact hc _ _ _ _ _ q
theorem xcQ{c:Operand}{x y:Code}{t:Bool}(hc:a.eval c = .bool t)(h:KWp J fn (if t then x else y) Q a s F w):KWp J fn (.cond c x y) Q a s F w:=
 fun O b k cs hb hk hq=>vE hb.bad (fun _=>stepG_cond hc) (h O b k cs hb hk hq)
def KIn(id:Nat)(Q:wN σ):wN σ
 | .exit id',a,s,F,w=>if id'=id then Q .normal a s F w else Q (.exit id') a s F w
 | e,a,s,F,w=>Q e a s F w
theorem xgM{id:Nat}{c:Code}(h:KWp J fn c (KIn id Q) a s F w):KWp J fn (.block id c) Q a s F w:=by
 intro O b k cs hb hk hc
 refine vE hb.bad (fun _=>stepG_block) (h O b (.inBlock id::k) cs hb hk fun e a' s' F' w' q =>?_)
 cases e with
 | normal=>exact vE hb.bad (fun _=>stepG_inBlock) (hc _ _ _ _ _ q)
 | exit id'=>
  by_cases hid:id'=id
  .simp only[KIn,hid,if_true]at q
   exact⟨k,by simp[exitTo,hid],hc _ _ _ _ _ q⟩
  .simp only[KIn,hid,if_false]at q
   obtain⟨k',am,hg⟩:=hc _ _ _ _ _ q
   have:(id==id')=false:=by simp;exact fun h=>hid h.symm
   exact⟨k',by simp[exitTo,this,am],hg⟩
 | ret=>exact fun todo=>hc _ _ _ _ _ q todo
 | goto l=>exact hc _ _ _ _ _ q
 | panic ch=>exact hc _ _ _ _ _ q
 | outgrown=>exact hc _ _ _ _ _ q
theorem VP{id:Nat}{ops:Array Oper}(h:KOps J fn ops (List.range ops.size) Q a s F w):KWp J fn (.region id ops false) Q a s F w:=
 fun O b k cs hb hk hc=>vE hb.bad (fun _=>stepG_region) (h O b k cs hb hk hc)
theorem XS{ops:Array Oper}(h:Q .normal a s F w):KOps J fn ops [] Q a s F w:=fun O b k cs hb _ hc=>vE hb.bad (fun _=>stepG_region_end) (hc _ _ _ _ _ h)
theorem Ww{id:Nat}{ops:Array Oper}(h : ∀F₁ w₁,J.RF F w F₁ w₁ ->∀t,KOps J fn ops (Region.schedule (P.follows .mixedOrders) ops t) Q a s F₁ {w₁ with drawn:=w₁.drawn+1}):KWp J fn (.region id ops true) Q a s F w:=
 fun O b k cs hb hk hc=>O.okStep hb.bad fun F₁ w₁ h₁=>⟨_,_,_,_,stepG_region_draw,D_draw w₁,fun x=>x,h F₁ w₁ h₁ _ O b k cs hb hk hc⟩
def KOper(J:KBase P σ)(fn:FuncId)(ops:Array Oper)(o:Oper)(K:Act->σ->Fo->World->Prop)(a:Act)(s:σ)(F:Fo)(w:World):Prop:=
 ∀ (O:KOk J) (b:Frame) (i:Nat) (rest:List Nat) (k:List Item) (cs:List Frame),At J fn b->b.kind = .normal->ops[i]? = some o->
 (∀a' s' F' w',K a' s' F' w'->O.Ok s' F' (b.at a' (.inRegion ops rest::k)) cs w')->O.Ok s F (b.at a (.inRegion ops (i::rest)::k)) cs w
theorem KOper.mono{ops:Array Oper}{o:Oper}{K K':Act->σ->Fo->World->Prop}(h:KOper J fn ops o K a s F w)(hk : ∀a' s' F' w',K a' s' F' w'->K' a' s' F' w'):KOper J fn ops o K' a s F w:=
 fun O b i rest k cs hb ft ho hc=>h O b i rest k cs hb ft ho fun a' s' F' w' q=>hc a' s' F' w' (hk a' s' F' w' q)
theorem YD{ops:Array Oper}{i:Nat}{rest:List Nat}{o:Oper}(ho:ops[i]? = some o)(h:KOper J fn ops o (fun a' s' F' w'=>KOps J fn ops rest Q a' s' F' w') a s F w):KOps J fn ops (i::rest) Q a s F w:=
 fun O b k cs hb hk hc=>h O b i rest k cs hb hk ho fun a' s' F' w' q=>q O b k cs hb hk hc
theorem xed{ops:Array Oper}{o:Oper}{K:Act->σ->Fo->World->Prop}(hw:Region.wanted o (yielded ops a.tmps)=false)(h:K (a.put o.dst undef) s F w):KOper J fn ops o K a s F w:=
 fun O b i rest k cs hb hk ho hc=>vE hb.bad (fun _=>stepG_unwanted ho hw) (hc _ _ _ _ h)
theorem jS{ops:Array Oper}{o:Oper}{K:Act->σ->Fo->World->Prop}(hw:Region.wanted o (yielded ops a.tmps)=true)
  (h : ∀F₁ w₁,J.RF F w F₁ w₁ ->∃nx w' rv,(execOp a.eval o).run P w₁ = .ok nx w'/\(nx = .value rv\/nx = .skip/\rv=undef)/\J.D F₁ w₁ w' (listed P fn a o w₁)/\K (a.put o.dst rv) s F₁ w'):KOper J fn ops o K a s F w:=by
 intro O b i rest k cs hb hk ho hc
 refine O.okStep hb.bad fun F₁ w₁ h₁ =>?_
 obtain⟨nx,w',rv,hr,bn,hD,hK⟩:=h F₁ w₁ h₁
 have du:=hb
 obtain⟨hb,_⟩:=hb
 subst hb
 rcases bn with rfl|⟨rfl,rfl⟩
 .exact⟨_,_,_,_,stepG_value ho hw (by rw[hk];simp) hr,hD,id,hc _ _ _ _ hK⟩
 .exact⟨_,_,_,_,stepG_none ho hw (by rw[hk];simp) hr,hD,id,hc _ _ _ _ hK⟩
theorem jz(oc:a.defers = []){ops:Array Oper}{o:Oper}{K:Act->σ->Fo->World->Prop}{s':σ}(hw:Region.wanted o (yielded ops a.tmps)=true)
  (h : ∀F₁ w₁,J.RF F w F₁ w₁ ->∃f args,(execOp a.eval o).run P w₁ = .ok (.enter f args) w₁/\J.D F₁ w₁ w₁ (listed P fn a o w₁)/\ ∀ (O:KOk J) caller cs,PlainF caller->(∀rv F' w',K (a.put o.dst rv) s' F' w'->O.Ok s' F' (caller.finish rv) cs w')->O.Ok s F₁ (Frame.enter P f args .normal) (caller::cs) w₁):KOper J fn ops o K a s F w:=by
 intro O b i rest k cs hb hk ho hc
 refine O.okStep hb.bad fun F₁ w₁ h₁ =>?_
 obtain⟨f,args,hr,hD,ew⟩:=h F₁ w₁ h₁
 have du:=hb
 obtain⟨hb,_⟩:=hb
 subst hb
 have gn : ∀v,(b.at a (.inRegion ops (i::rest)::k)).finish v=b.at (a.put o.dst v) (.inRegion ops rest::k):=fun v=>by rw[Frame.finish_at,ho];rfl
 have hp:PlainF (b.at a (.inRegion ops (i::rest)::k)):=⟨oc,hk,rfl,_,_,_,rfl⟩
 refine⟨_,_,_,_,stepG_enter ho hw (by rw[hk];simp) hr,hD,O.csCons hp,ew O _ cs hp fun rv F' w' hq =>?_⟩
 rw[gn]
 exact hc _ _ _ _ hq
end
end Go.Proofs.YtfagfflkgmcnpaaGreatDoor.Kx
namespace Go.Proofs.YtfagfflkgmcnpaaGreatDoor.Kx
open Go Go.Conc Lx
def xx{P:Program}{σ:Type}(J:KBase P σ)(f:FuncId)(m:List V->Heap->Option Sum):Prop:=
 (∃fn c,P.funcs[f]? = some fn/\(fn.name == "runtime.NumGoroutine")=false/\fn.body=some c)/\
 ∀args H S,m args H=some S ->∀e w s F vs,Emb (J.pv F) e H w->allSome (denV (J.pv F) e) args=some vs->J.Rep s F w->(∀b,Own false e H b ->¬F b)->J.Off e H w->
 ∀x v H' s',S.t.run J.step s=some (x,s')->S.f x=some (v,H')->
 KCalls J f vs.toArray s F w s' fun rv F' w'=>F.A.le F'.A/\ ∃e',Ext e e'/\denV (J.pv F') e' v=some rv/\Emb (J.pv F') e' H' w'/\J.Rep s' F' w'/\(∀b,Own false e' H' b ->¬F' b)/\
 Keeps (fun b=>Own true e H b\/F b) w w'/\ ∀q b,Own q e' H' b\/F' b->Own q e H b\/F b\/w.heap.size<=b
theorem xcR{P:Program}{σ:Type}(J:KBase P σ){Γ:xK}(hΓ : ∀f m,Γ f=some m->xx J f m){f:FuncId}{args:List V}{H:Heap}{S:Sum}(h:wJ Γ f args H=some S)
  {e:Env} {w:World} {s s':σ} {F:Fo} {vs:List Value} (E:Emb (J.pv F) e H w) (hv:allSome (denV (J.pv F) e) args=some vs) (hR:J.Rep s F w) (hF : ∀b,Own false e H b ->¬F b) (hO:J.Off e H w) {v:V} {H':Heap} {x:S.α} (aa:S.t.run J.step s=some (x,s')) (aw:S.f x=some (v,H')) :
  (∃fn c,P.funcs[f]? = some fn/\(fn.name == "runtime.NumGoroutine")=false/\fn.body=some c)/\
  KCalls J f vs.toArray s F w s' fun rv F' w'=>F.A.le F'.A/\ ∃e',Ext e e'/\denV (J.pv F') e' v=some rv/\Emb (J.pv F') e' H' w'/\J.Rep s' F' w'/\(∀b,Own false e' H' b ->¬F' b)/\
    Keeps (fun b=>Own true e H b\/F b) w w'/\ ∀q b,Own q e' H' b\/F' b->Own q e H b\/F b\/w.heap.size<=b:=by
 unfold wJ at h
 split at h
 .cases h
 .rename_i m hm
  obtain⟨an,ef⟩:=hΓ f m hm
  refine⟨an,?_⟩
  split at h
  .cases h
  .rename_i l hl
   obtain⟨hn,hk,_⟩:=jN H _ _ [] l hl (by simp) (by simp)
   split at h
   .rename_i cz H0 bh hH0
    split at h
    .cases h
    .rename_i t0 Ap
     cases h
     obtain⟨e0,tu,nh,E0,m8⟩:=E.sub hn (fun b hb=>(hk b hb).elim fun k h=>by rw[xI]at h;exact(List.getElem?_eq_some_iff.1 h).1) hH0
     have ea:=aa
     have cj:=aw
     have hr : ∀b b' x,idx l b=some b'->e[b]? = some x->e0[b']? = some x:=fun b b' x h1 h2=>(nh b' b (Zx l b b' h1)).trans h2
     have ox:allSome (denV (J.pv F) e0) cz=some vs:=by
      have:=kP (h:=denV (J.pv F) e0) (j:=id) (fun x y z hy hz=>jM hr x y z hy hz) args cz vs bh hv
      simpa using this
     have mo : ∀q x,Own q e0 H0 x->Own q e H x:=by
      intro q x hx
      obtain⟨i,hi,k,r,h1,h2,h3,hv,h4⟩:=m8 q x hx
      exact⟨i,k,r,h1,h2,h3,hv,h4⟩
     simp only at cj
     split at cj
     .cases cj
     rename_i r0 my
     obtain⟨v0,H1⟩:=r0
     simp only at cj
     split at cj
     .rename_i v1 H2 ti hH2
      split at cj
      .rename_i bu
       simp only[oI,dI]at cj
       obtain⟨rfl,rfl⟩:=cj
       refine(ef cz H0 t0 Ap e0 w s F vs E0 ox hR (fun b hb=>hF b (mo _ b hb)) ⟨fun b hb=>hO.own b (mo _ b hb),hO.std⟩ x v0 H1 _ ea my).mono ?_
       rintro rv F' w' ⟨hA,L9,⟨xs,hx⟩,hd,E1,hR',hF',hK,ci⟩
       subst hx
       have E:Emb (J.pv F') e H w:=E.grow hA
       have Fw:=E.len
       have lj:Ext e (e++xs):=⟨xs,rfl⟩
       have hb : ∀i i' y,(fun i=>some (vD l H.length i)) i=some i'->(e0++xs)[i]? = some y->(e++xs)[i']? = some y:=by
        intro i i' y h1 h2
        simp only[oI]at h1
        subst h1
        unfold vD
        split
        .rename_i hi
         rw[List.getElem?_append_left (by omega)]at h2
         rw[nh i l[i] (List.getElem?_eq_getElem hi)]at h2
         rw[List.getD_eq_getElem?_getD,List.getElem?_eq_getElem hi]
         exact lj.get h2
        .rename_i hi
         rw[List.getElem?_append_right (by omega)]at h2
         rw[List.getElem?_append_right (by omega),<- h2]
         congr 1
         omega
       have f7:=xV _ _ _ hH2
       have orig : ∀i k,H2[i]? = some (some k) ->∃k',blkAt H1 i=some k'/\wI (fun i=>some (vD l H.length i)) k'.cells=some k.cells/\k.elem=k'.elem/\k.grown=k'.grown/\k.tab=k'.tab:=by
        intro i k hk
        have hi:i<H1.length:=by rw[<- f7];exact(List.getElem?_eq_some_iff.1 hk).1
        obtain⟨y,h1,h2⟩:=yD _ _ _ hH2 i _ (List.getElem?_eq_getElem hi)
        rw[hk]at h2
        cases h2
        obtain⟨k',h3,h4,h5,h6,h7⟩:=Yw h1
        exact⟨k',by rw[xI,List.getElem?_eq_getElem hi,h3],h4,h5,h6,h7⟩
       -- where a block behind the call comes from
       have from_ : ∀j k,blkAt (vF H l H2++H2.drop l.length) j=some k->(j∉l/\blkAt H j=some k)\/ ∃i,vD l H.length i=j/\H2[i]? = some (some k):=by
        intro j k hj
        rw[xI]at hj
        by_cases ou:j<H.length
        .rw[List.getElem?_append_left (by rw[yA];exact ou)]at hj
         by_cases ap:j∈l
         .right
          obtain⟨i,hi⟩:=List.getElem?_of_mem ap
          have um:=(List.getElem?_eq_some_iff.1 hi).1
          have em:i<H2.length:=by omega
          rw[Yv l H2 H i j _ hn hi (List.getElem?_eq_getElem em) ou]at hj
          refine⟨i,?_,by rw[List.getElem?_eq_getElem em,hj]⟩
          unfold vD
          rw[dB um,List.getD_eq_getElem?_getD,hi]
          rfl
         .left
          rw[jr l H2 H j ap]at hj
          exact⟨ap,by rw[xI];exact hj⟩
        .right
         rw[List.getElem?_append_right (by rw[yA];omega),yA,List.getElem?_drop]at hj
         refine⟨l.length+(j-H.length),?_,hj⟩
         unfold vD
         rw[dA (by omega)]
         omega
       have away : ∀q j k r,j∉l->blkAt H j=some k->e[j]? = some r->k.virt=false->(q=false->k.win=none) ->¬ (Own q e0 H0 r.1\/F r.1)/\r.1<w.heap.size:=by
        intro q j k r hj d6 Au hv hq
        refine⟨fun h =>?_,E.own_lt (vS d6 Au hv)⟩
        rcases h with h|h
        .obtain⟨i,hi,k',r',h1,h2,h3,dt,h4⟩:=m8 _ _ h
         refine hj (E.inj i j k' k r' r h1 d6 h2 Au h3 dt hv ?_▸hi)
         cases q with
         | false=>exact .inr (hq rfl)
         | true=>exact .inl (h4 rfl)
        .exact hF _ (vS d6 Au hv) h
       have te : ∀q b,Own q (e++xs) (vF H l H2++H2.drop l.length) b->Own q (e0++xs) H1 b\/(∃j k r,j∉l/\blkAt H j=some k/\e[j]? = some r/\r.1=b/\k.virt=false/\(q=true->k.win=none)):=by
        rintro q b ⟨j,k,r,h1,h2,h3,hv,h4⟩
        rcases from_ j k h1 with⟨hj,d6⟩|⟨i,hi,tv⟩
        .right
         refine⟨j,k,r,hj,d6,?_,h3,hv,h4⟩
         have:j<H.length:=(List.getElem?_eq_some_iff.1 (xI.1 d6)).1
         rwa [List.getElem?_append_left (by omega)]at h2
        .left
         obtain⟨k',g1,_,_,g4,g5⟩:=orig i k tv
         obtain⟨r',g2⟩:=E1.get g1
         have:=hb i j r' (congrArg some hi) g2
         rw[h2]at this
         cases this
         exact⟨i,k',r,g1,g2,h3,by rw[<- Blk.virt_of g5 g4];exact hv,fun hq=>by rw[<- Blk.win_of g5];exact h4 hq⟩
       refine⟨hA,e++xs,lj,jM hb v0 v1 rv ti hd,⟨?_,?_,?_,?_⟩,hR',?_,hK.mono (fun b hb=>hb.imp (mo _ b) id),?_⟩
       .have:=E1.len
        simp only[dO,yA,List.length_drop]at this |-
        omega
       .intro j k hj
        rcases from_ j k hj with⟨ou,d6⟩|⟨i,hi,tv⟩
        .obtain⟨r,cs,g1,g2,g3⟩:=E.lies j k d6
         refine⟨r,cs,lj.get g1,yE lj _ _ g2,g3.same fun hv =>?_⟩
         obtain⟨a1,a2⟩:=away true j k r ou d6 g1 hv (fun h=>by cases h)
         exact hK.block r.1 a2 a1
        .obtain⟨k',g1,g2,g3,g4,g5⟩:=orig i k tv
         obtain⟨r,cs,a1,a2,a3⟩:=E1.lies i k' g1
         exact⟨r,cs,hb i j r (congrArg some hi) a1,Vt hb g2 g5 a2,a3.like g3 g4 g5⟩
       .intro i j k k' r r' h1 h2 h3 h4 h5 v1 v2
        have mixed : ∀i j k k' r r',(i∉l/\blkAt H i=some k)->(∃q,vD l H.length q=j/\H2[q]? = some (some k'))->(e++xs)[i]? = some r->(e++xs)[j]? = some r'->r.1=r'.1->k.virt=false->k'.virt=false->k.win.isSome=true/\k'.win.isSome=true:=by
         rintro i j k k' r r' ⟨h1,h2⟩ ⟨q,h3,h4⟩ h5 h6 h7 v1 v2
         obtain⟨kq,g1,_,_,g4,g5⟩:=orig q k' h4
         obtain⟨rq,g2⟩:=E1.get g1
         have g3:=hb q j rq (congrArg some h3) g2
         rw[h6]at g3
         cases g3
         have:i<H.length:=(List.getElem?_eq_some_iff.1 (xI.1 h2)).1
         rw[List.getElem?_append_left (by omega)]at h5
         have bad : ∀q',(q'=false->k.win=none)->(q'=true->kq.win=none)->False:=by
          intro q' Av tq
          obtain⟨a1,a2⟩:=away q' i k r h1 h2 h5 v1 Av
          rcases ci q' r'.1 (.inl ⟨q,kq,r',g1,g2,rfl,by rw[<- Blk.virt_of g5 g4];exact v2,tq⟩)with h|h|h
          .exact a1 (.inl (h7▸h))
          .exact a1 (.inr (h7▸h))
          .omega
         rw[Blk.win_of g5]
         constructor
         .cases hk:k.win with
          | some _=>rfl
          | none=>exact(bad false (fun _=>hk) (fun h=>by cases h)).elim
         .cases hk:kq.win with
          | some _=>rfl
          | none=>exact(bad true (fun h=>by cases h) (fun _=>hk)).elim
        rcases from_ i k h1 with g1|g1<;>rcases from_ j k' h2 with g2|g2
        .have hi:i<H.length:=(List.getElem?_eq_some_iff.1 (xI.1 g1.2)).1
         have hj:j<H.length:=(List.getElem?_eq_some_iff.1 (xI.1 g2.2)).1
         rw[List.getElem?_append_left (by omega)]at h3 h4
         exact E.alone i j k k' r r' g1.2 g2.2 h3 h4 h5 v1 v2
        .exact .inr (mixed i j k k' r r' g1 g2 h3 h4 h5 v1 v2)
        .exact .inr (mixed j i k' k r' r g2 g1 h4 h3 h5.symm v2 v1).symm
        .obtain⟨p,p1,p2⟩:=g1
         obtain⟨q,q1,q2⟩:=g2
         obtain⟨kp,a1,_,_,u1,w1⟩:=orig p k p2
         obtain⟨kq,b1,_,_,u2,w2⟩:=orig q k' q2
         rw[Blk.virt_of w1 u1]at v1
         rw[Blk.virt_of w2 u2]at v2
         obtain⟨rp,a2⟩:=E1.get a1
         obtain⟨rq,b2⟩:=E1.get b1
         have a3:=hb p i rp (congrArg some p1) a2
         have b3:=hb q j rq (congrArg some q1) b2
         rw[h3]at a3
         rw[h4]at b3
         cases a3;cases b3
         rcases E1.alone p q kp kq r r' a1 b1 a2 b2 h5 v1 v2 with this|this
         .left;rw[<- p1,<- q1,this]
         .right;rw[Blk.win_of w1,Blk.win_of w2];exact this
       .intro j k hj
        rcases from_ j k hj with⟨ou,d6⟩|⟨i,hi,tv⟩
        .exact E.ok j k d6
        .obtain⟨k',g1,g2,g3,g4,g5⟩:=orig i k tv
         exact xd1 g2 g5 (E1.ok i k' g1)
       .intro b du hf
        rcases te _ b du with h|⟨j,k,r,h1,h2,h3,rfl,hv,_⟩
        .exact hF' b h hf
        .obtain⟨a1,a2⟩:=away true j k r h1 h2 h3 hv (fun h=>by cases h)
         rcases ci true r.1 (.inr hf)with h|h|h
         .exact a1 (.inl h)
         .exact a1 (.inr h)
         .omega
       .intro q b du
        have fin:(Own q e0 H0 b\/F b\/w.heap.size<=b)->Own q e H b\/F b\/w.heap.size<=b:=fun h=>h.imp (mo _ b) id
        rcases du with du|du
        .rcases te _ b du with h|⟨j,k,r,h1,h2,h3,rfl,hv,h4⟩
         .exact fin (ci _ b (.inl h))
         .exact .inl ⟨j,k,r,h2,h3,rfl,hv,h4⟩
        .exact fin (ci _ b (.inr du))
      .cases cj
     .cases cj
   .cases h
section
variable{P:Program}{σ:Type}{Γ:xK}{e:Env}{s:σ}{F:Fo}{w:World}
theorem xcS{J:KBase P σ}(hΓ : ∀f m,Γ f=some m->xx J f m){f:FuncId}{args:List V}{S:Sum}(h:jF Γ f args=some S){vs:List Value}{s':σ}(hv:allSome (denV (J.pv F) e) args=some vs)(hR:J.Rep s F w)(hO:J.std w){v:V}{H':Heap}{x:S.α}(aa:S.t.run J.step s=some (x,s'))(aw:S.f x=some (v,H')) :
  (∃fn c,P.funcs[f]? = some fn/\(fn.name == "runtime.NumGoroutine")=false/\fn.body=some c)/\H' = []/\idsV v = []/\
  KCalls J f vs.toArray s F w s' fun rv F' w'=>F.A.le F'.A/\Flat (J.pv F) v rv/\J.Rep s' F' w'/\Keeps F w w'/\ ∀b,F' b->F b\/w.heap.size<=b:=by
 unfold jF at h
 split at h
 .cases h
 .rename_i tw
  split at h
  .cases h
  .rename_i m hm
   obtain⟨an,ef⟩:=hΓ f m hm
   split at h
   .cases h
   .rename_i t0 Ap
    cases h
    have ea:=aa
    have cj:=aw
    simp only at cj
    split at cj
    .cases cj
    rename_i r0 my
    obtain⟨v0,H1⟩:=r0
    simp only at cj
    split at cj
    .rename_i oo
     simp only[oI,dI]at cj
     obtain⟨rfl,rfl⟩:=cj
     refine⟨an,rfl,oo,?_⟩
     have dt:allSome (denV (J.pv F) []) args=some vs:=by
      rw[<- hv]
      rw[List.flatMap_eq_nil_iff]at tw
      exact(yR fun x hx=>wA x (tw x hx)).symm
     refine(ef args [] t0 Ap [] w s F vs (xba _ _) dt hR (fun b hb=>(jt b hb).elim) ⟨fun b hb=>(jt b hb).elim,hO⟩ x v0 [] _ ea my).mono ?_
     rintro rv F' w' ⟨hA,e',h2,h3,h4,h5,h6,h7,h8⟩
     refine⟨hA,fun e =>?_,h5,h7.mono fun b hb=>hb.resolve_left (jt b),fun b hb =>?_⟩
     .rw[wA v0 oo,<- wA (e:=e') v0 oo]
      exact h3
     .rcases h8 true b (.inr hb)with h|h
      .exact(jt b h).elim
      .exact h
    .cases cj
end
end Go.Proofs.YtfagfflkgmcnpaaGreatDoor.Kx
namespace Go.Proofs.YtfagfflkgmcnpaaGreatDoor.Kx
open Go Go.Conc Lx
structure OpsQuiet(P:Program):Prop where
 val : ∀ (I:PortB P) {ρ:Operand->Option V} {ra:Operand->Value} {o:Oper} {e:Env} {H:Heap} {w:World} {v:V} {H':Heap},Says I.pv e ρ ra->Emb I.pv e H w->evStep P o.op ρ H=some (.val true v H')->
  ∀F:Nat->Prop,(∀b,Own false e H b ->¬F b)->(∀b,F b->b<w.heap.size) ->∀ev∈(execOp ra o).events P w #[],EvOff F w.heap.size ev
 call : ∀ (I:PortB P) {ρ:Operand->Option V} {ra:Operand->Value} {o:Oper} {e:Env} {H:Heap} {w:World} {f:FuncId} {args:List V},Says I.pv e ρ ra->evStep P o.op ρ H=some (.call f args)->
  (∃fn c,P.funcs[f]? = some fn/\(fn.name == "runtime.NumGoroutine")=false/\fn.body=some c)->(execOp ra o).events P w #[] = #[]
 port : ∀ (I:PortB P) {ρ:Operand->Option V} {ra:Operand->Value} {o:Oper} {e:Env} {H:Heap} {w:World} {p:POp},Says I.pv e ρ ra->evStep P o.op ρ H=some (.port p)->
  ∃name args vs,popOf name args=some p/\allSome (denV I.pv []) args=some vs/\(∀w,(execOp ra o).run P w=(callMethod I.pv name vs.toArray).run P w)/\ ∀w,(execOp ra o).events P w #[]=(callMethod I.pv name vs.toArray).events P w #[]
def Ze(P:Program):Prop :=∀ (I:PortB P) {e:Env} {st:St} {a:Act} {w:World} {fn:Func} {v:V},Rel I.pv e st a w->resV P fn st=some v ->∀F:Nat->Prop,(∀b,Own false e st.heap b ->¬F b) ->∀ev∈(results fn a.tmps).events P w #[],EvOff F w.heap.size ev
theorem mem_seen{P:Program}{fn:FuncId}{es:Array Event}{e:Event}(h:e∈seen P fn es):e∈es:=by
 have key : ∀ (l:List Event) (q:Bool) (kept:Array Event) (f:Bool×Array Event->Event->Bool×Array Event),(∀x e',∀y∈(f x e').2,y∈x.2\/y=e') ->∀y∈(l.foldl f (q,kept)).2,y∈kept\/y∈l:=by
  intro l
  induction l with
  | nil=>intro q kept f _ y hy;exact .inl hy
  | cons a l ih=>
   intro q kept f hf y hy
   rw[List.foldl_cons]at hy
   rcases ih _ _ f hf y hy with h1|h1
   .rcases hf (q,kept) a y h1 with h2|rfl
    .exact .inl h2
    .exact .inr (by simp)
   .exact .inr (List.mem_cons_of_mem _ h1)
 dsimp only[seen]at h
 rw[<- Array.foldl_toList]at h
 rcases key _ _ _ _ (by
  rintro ⟨q,kept⟩ e' y hy
  dsimp only at hy
  split at hy
  .exact .inl hy
  .dsimp only at hy
   split at hy
   .exact .inl hy
   .rcases Array.mem_push.1 hy with h|h
    .exact .inl h
    .exact .inr h) e h with h1|h1
 .simp at h1
 .exact Array.mem_toList_iff.1 h1
theorem VQ{P:Program}{fn:FuncId}{a:Act}{o:Oper}{w:World}{F:Nat->Prop}{n:Nat}(h : ∀ev∈(execOp a.eval o).events P w #[],EvOff F n ev) : ∀ev∈listed P fn a o w,EvOff F n ev:=fun ev he=>h ev (mem_seen he)
section
variable{P:Program}{σ:Type}{J:KBase P σ}{Γ:xK}{S0:Bool->Nat->Prop}{w0:World}{e0:Env}{e:Env}{st:St}{s:σ}{F:Fo}{a:Act}{w:World}{ops:Array Oper}
theorem relyK(C:CfgK J S0 w0 e0 e st s F a w){F₁:Fo}{w₁:World}(h:J.RF F w F₁ w₁):CfgK J S0 w0 e0 e st s F₁ a w₁:=by
 have hK:=J.rKeeps h
 have hN:=J.rNew h
 have ht:=J.rTok h
 have hR:J.Rep s ⟨F₁.has,F.A⟩ w₁:=by rw[<- ht];exact J.rRep C.rep h
 unfold CfgK
 rw[KBase.at_eq ht]
 refine⟨⟨C.rel.emb.ofSame fun b hb=>hK.block b (C.rel.emb.own_lt hb) (C.disj b hb),C.rel.len,C.rel.tmps,C.rel.defers⟩,hR,fun b hb hf =>?_,C.keeps.trans hK fun b hb=>C.mine _ b (.inr hb),fun q b hb =>?_,C.ext⟩
 .rcases hN b hf with h1|h1
  .exact C.disj b hb h1
  .have:=C.rel.emb.own_lt hb;omega
 .rcases hb with hb|hb
  .exact C.mine _ b (.inl hb)
  .rcases hN b hb with h1|h1
   .exact C.mine _ b (.inr h1)
   .have:=C.keeps.size
    exact .inr (by omega)
theorem ZD{e':Env}{H':Heap}{w':World}{F':Fo}{s':σ}{v:V}{rv:Value}(C:CfgK J S0 w0 e0 e st s F a w)(hA:F.A.le F'.A)(hx:Ext e e')(hv:denV (J.pv F') e' v=some rv)(E:Emb (J.pv F') e' H' w')(hR:J.Rep s' F' w')(hd : ∀b,Own false e' H' b ->¬F' b)
  (hK:Keeps (fun b=>Own true e st.heap b\/F b) w w') (hn : ∀q b,Own q e' H' b\/F' b->Own q e st.heap b\/F b\/w.heap.size<=b) (dst:Option Tmp):CfgK J S0 w0 e0 e' ⟨putT st.tmps dst v,H'⟩ s' F' (a.put dst rv) w':=by
 refine⟨?_,hR,hd,C.keeps.trans hK fun b hb=>C.mine _ b hb,fun q b hb =>?_,C.ext.trans hx⟩
 .exact Rel.put (pv:=(J.at F').pv) ⟨C.rel.emb.grow hA,C.rel.len,C.rel.tmps,C.rel.defers⟩ hx E hv dst
 rcases hn _ b hb with h|h|h
 .exact C.mine _ b (.inl h)
 .exact C.mine _ b (.inr h)
 .right
  have:=C.keeps.size
  omega
theorem XT[OffS J S0 w0](hΓ : ∀f m,Γ f=some m->xx J f m)(hq:OpsQuiet P){β:Type}{pu:PM}{o:Oper}{k:St->T β}{r:β×σ}(C:CfgK J S0 w0 e0 e st s F a w)(h:(yQ P Γ pu o st k).run J.step s=some r) :
  ∃ac s',(k ac).run J.step s'=some r/\(yQ P Γ pu o st T.ret).run J.step s=some (ac,s')/\
   ∀fn K,Region.wanted o (yielded ops a.tmps)=true->(∀e' F' a' w',(∃rv,a'=a.put o.dst rv)->CfgK J S0 w0 e0 e' ac s' F' a' w'->K a' s' F' w')->KOper J fn ops o K a s F w:=by
 have hρ:=C.rel.says
 unfold yQ at h
 split at h
 .rename_i g v H' bt
  cases hg:okV pu st.heap H'
  .rw[hg]at h;simp[T.run]at h
  cases g
  .rw[hg]at h;simp[T.run]at h
  .rw[hg]at h
   refine⟨⟨putT st.tmps o.dst v,H'⟩,s,h,by simp only[yQ,bt,hg,cond_true,T.run],fun fn K hw hK=>jS hw fun F₁ w₁ h₁ =>?_⟩
   have C1:=relyK C h₁
   obtain⟨nx,w',e',rv,h1,h2,h3,h4,h5,h6,h7⟩:=Vs (J.at F₁).toPortB hρ C1.rel.emb bt
   exact⟨nx,w',rv,h1,h2,J.dOwn (h6.mono fun b hb=>⟨C1.disj b hb.weak,CfgK.off C1 hb⟩) (VQ (hq.val (J.at F₁).toPortB hρ C1.rel.emb bt F₁ C1.disj (J.lt C1.rep))),hK _ _ _ _ ⟨_,rfl⟩ (C1.did h3 h4 h5 h6 h7 o.dst)⟩
 .rename_i p bt
  simp only[T.run]at h
  split at h
  .rename_i x s1 bo
   refine⟨⟨putT st.tmps o.dst (ansV p x),st.heap⟩,s1,h,by simp only[yQ,bt,T.run,bo],fun fn K hw hK=>jz C.rel.defers (s':=s1) hw fun F₁ w₁ h₁ =>?_⟩
   have C1:=relyK C h₁
   have E1:=C1.rel.emb
   obtain⟨name,args,vs,g1,g2,g3,g4⟩:=hq.port J.base hρ bt (e:=e) (w:=w₁)
   obtain⟨f,recv,rv,m1,m2,m3,_⟩:=J.meth g1 bo g2 C1.rep
   refine⟨f,_,by rw[g3,m1],by unfold listed;rw[g4,m2];exact J.dOwn (Keeps.refl _ w₁) (fun ev he=>by have:=mem_seen he;simp at this),fun O caller cs hp hc=>O.does g1 bo g2 C1.rep m1 m3 caller cs hp fun F' w' h7 h8 h9 hA =>?_⟩
   refine hc rv F' w' (hK e F' _ _ ⟨_,rfl⟩ (ZD C1 hA (Ext.refl e) (m3 e) ((E1.ofSame fun b hb=>h8.block b (E1.own_lt hb) fun hf=>C1.disj b hb hf).grow hA) h7 (fun b hb hf =>?_) (h8.mono fun b hb =>.inr hb) (fun q b hb =>?_) o.dst))
   .rcases h9 b hf with h|h
    .exact C1.disj b hb h
    .have:=E1.own_lt hb;omega
   .rcases hb with hb|hb
    .exact .inl hb
    .exact .inr (h9 b hb)
  .cases h
 .rename_i f args bt
  have main : ∀ (st1:T β) (k:St->T β),st1=vz Γ f args o st k->st1.run J.step s=some r->
    (∃ac s',(k ac).run J.step s'=some r/\(vz Γ f args o st T.ret).run J.step s=some (ac,s')/\
     ∀fn K,Region.wanted o (yielded ops a.tmps)=true->(∀e' F' a' w',(∃rv,a'=a.put o.dst rv)->CfgK J S0 w0 e0 e' ac s' F' a' w'->K a' s' F' w')->KOper J fn ops o K a s F w):=by
   intro st1 k az h
   subst az
   unfold vz at h
   split at h
   .rename_i t ht
    rw[t.hb]at h
    obtain⟨x,s1,h1,h2⟩:=T.run_bind_some h
    split at h2
    rotate_left
    .cases h2
    rename_i r0 aw
    obtain⟨v,H'⟩:=r0
    simp only at h2
    refine⟨⟨putT st.tmps o.dst v,H'⟩,s1,h2,by simp only[vz,ht,t.hb,T.run_bind,h1,aw,T.run],fun fn K hw hK=>jz C.rel.defers (s':=s1) hw fun F₁ w₁ h₁ =>?_⟩
    have C1:=relyK C h₁
    have an : ∃fn c,P.funcs[f]? = some fn/\(fn.name == "runtime.NumGoroutine")=false/\fn.body=some c:=by
     unfold wJ at ht
     split at ht
     .cases ht
     .exact(hΓ f _ ‹_›).1
    obtain⟨vs,g1,g2⟩:=Zz (w:=w₁) hρ bt an
    obtain⟨_,ew⟩:=xcR J hΓ ht C1.rel.emb g1 C1.rep C1.disj (CfgK.offK C1) h1 aw
    refine⟨f,_,g2,by unfold listed;rw[hq.call (J.at F₁).toPortB (e:=e) hρ bt an];exact J.dOwn (Keeps.refl _ w₁) (fun ev he=>by have:=mem_seen he;simp at this),fun O caller cs hp hc=>ew O caller cs hp fun rv F' w' hp =>?_⟩
    obtain⟨hA,e',h3,h4,h5,h6,h7,h8,h9⟩:=hp
    exact hc rv F' w' (hK _ _ _ _ ⟨_,rfl⟩ (ZD C1 hA h3 h4 h5 h6 h7 h8 h9 o.dst))
   .cases h
  cases pu
  .simp only at h
   obtain⟨ac,s',g1,g2,g3⟩:=main _ _ rfl h
   exact⟨ac,s',g1,by simp only[yQ,bt];exact g2,g3⟩
  .simp only at h
   split at h
   .rename_i t ht
    rw[t.hb]at h
    obtain⟨x,s1,h1,h2⟩:=T.run_bind_some h
    split at h2
    rotate_left
    .cases h2
    rename_i r0 aw
    obtain⟨v,H'⟩:=r0
    simp only at h2
    refine⟨⟨putT st.tmps o.dst v,st.heap⟩,s1,h2,by simp only[yQ,bt,ht,t.hb,T.run_bind,h1,aw,T.run],fun fn K hw hK=>jz C.rel.defers (s':=s1) hw fun F₁ w₁ h₁ =>?_⟩
    have C1:=relyK C h₁
    have E1:=C1.rel.emb
    have an : ∃fn c,P.funcs[f]? = some fn/\(fn.name == "runtime.NumGoroutine")=false/\fn.body=some c:=by
     unfold jF at ht
     split at ht
     .cases ht
     .split at ht
      .cases ht
      .exact(hΓ f _ ‹_›).1
    obtain⟨vs,g1,g2⟩:=Zz (w:=w₁) hρ bt an
    obtain⟨_,_,_,ew⟩:=xcS (F:=F₁) hΓ ht g1 C1.rep (CfgK.std C1) h1 aw
    refine⟨f,_,g2,by unfold listed;rw[hq.call (J.at F₁).toPortB (e:=e) hρ bt an];exact J.dOwn (Keeps.refl _ w₁) (fun ev he=>by have:=mem_seen he;simp at this),fun O caller cs hp hc=>ew O caller cs hp fun rv F' w' hp =>?_⟩
    obtain⟨hA,h5,h7,h8,h9⟩:=hp
    refine hc rv F' w' (hK e F' _ _ ⟨_,rfl⟩ (ZD C1 hA (Ext.refl e) (h5 e) ((E1.ofSame fun b hb=>h8.block b (E1.own_lt hb) fun hf=>C1.disj b hb hf).grow hA) h7 (fun b hb hf =>?_) (h8.mono fun b hb =>.inr hb) (fun q b hb =>?_) o.dst))
    .rcases h9 b hf with h|h
     .exact C1.disj b hb h
     .have:=E1.own_lt hb;omega
    .rcases hb with hb|hb
     .exact .inl hb
     .exact .inr (h9 b hb)
   .cases h
  .rename_i A
   simp only at h
   split at h
   .rename_i sj
    obtain⟨ac,s',g1,g2,g3⟩:=main _ _ rfl h
    exact⟨ac,s',g1,by simp only[yQ,bt,sj];exact g2,g3⟩
   .rename_i sj
    obtain⟨ac,s',g1,g2,g3⟩:=main _ _ rfl h
    cases za:kA A st.heap ac.heap
    .rw[za]at g1;simp[T.run]at g1
    .rw[za]at g1
     exact⟨ac,s',g1,by simp only[yQ,bt,sj];rw[Yx,g2];simp only[za,cond_true,T.run],g3⟩
  .rename_i A
   simp only at h
   split at h
   .rename_i t ht
    rw[t.hb]at h
    obtain⟨x,s1,h1,h2⟩:=T.run_bind_some h
    split at h2
    rotate_left
    .cases h2
    rename_i r0 aw
    obtain⟨f2,hc,hf⟩:=Vu ht
    have t8:=hf x r0 aw
    obtain⟨ac,s',g1,g2,g3⟩:=main (vz Γ f args o st k) k rfl (by simp only[vz,hc,t.hb,T.run_bind,h1,t8];exact h2)
    simp only[vz,hc,t.hb,T.run_bind,h1,t8,T.run,oI,dI]at g2
    obtain⟨rfl,rfl⟩:=g2
    exact⟨_,_,g1,by simp only[yQ,bt,ht,t.hb,T.run_bind,h1,aw,T.run],g3⟩
   .cases h
  .cases h
  .cases h
 .cases h
end
end Go.Proofs.YtfagfflkgmcnpaaGreatDoor.Kx
namespace Go.Proofs.YtfagfflkgmcnpaaGreatDoor.Kx
open Go Go.Conc Lx
section
variable{P:Program}{σ:Type}{J:KBase P σ}{Γ:xK}{S0:Bool->Nat->Prop}{w0:World}{e0:Env}{e:Env}{st:St}{s:σ}{F:Fo}{a:Act}{w:World}{ops:Array Oper}
theorem vO[OffS J S0 w0](hΓ : ∀f m,Γ f=some m->xx J f m)(hq:OpsQuiet P){β:Type}{pu:PM}{o:Oper}{k:St->T β}{r:β×σ}(C:CfgK J S0 w0 e0 e st s F a w)(h:(yl P Γ ops pu o st k).run J.step s=some r) :
  ∃ac s',(k ac).run J.step s'=some r/\(yl P Γ ops pu o st T.ret).run J.step s=some (ac,s')/\
   ∀fn K,(∀e' F' a' w',(∃rv,a'=a.put o.dst rv)->CfgK J S0 w0 e0 e' ac s' F' a' w'->K a' s' F' w')->KOper J fn ops o K a s F w:=by
 unfold yl at h
 split at h
 .rename_i hg
  obtain⟨ac,s',h1,h2,h3⟩:=XT (ops:=ops) hΓ hq C h
  refine⟨ac,s',h1,by simp only[yl,hg];exact h2,fun fn K hK=>h3 fn K (by simp[Region.wanted,hg]) hK⟩
 .rename_i j want hg
  split at h
  .cases h
  .rename_i sl ri
   have hy : ∀rv,a.tmps[sl]? = some rv->yielded ops a.tmps j=match rv with | .bool b=>some b|_=>none:=by
    intro rv cf
    unfold yielded
    rw[ri]
    simp only[Option.bind_some,cf]
    cases rv<;>rfl
   have skipped : ∀ (b:Option Bool),yielded ops a.tmps j=b->b≠some want ->∀fn K,(∀e' F' a' w',(∃rv,a'=a.put o.dst rv)->CfgK J S0 w0 e0 e' ⟨putT st.tmps o.dst .undef,st.heap⟩ s F' a' w'->K a' s F' w')->KOper J fn ops o K a s F w:=by
    intro b hb ae fn K hK
    exact xed (by simp only[Region.wanted,hg,hb];simpa using ae) (hK _ _ _ _ ⟨_,rfl⟩ (C.skip o.dst))
   split at h
   .rename_i b hb
    obtain⟨rv,h1,h2⟩:=C.rel.tmps sl _ hb
    simp only[denV,den,oI]at h2
    subst h2
    have po:=hy _ h1
    simp only at po
    have e1 : ∀b',b'=b->(⟨setT st.tmps sl (.c (.bool b')),st.heap⟩:St)=st:=by
     rintro b' rfl
     rw[Zy hb]
    have he:(yl P Γ ops pu o st (T.ret:St->T St))=if b=want then yQ P Γ pu o st T.ret else WZ o st T.ret:=by
     simp only[yl,hg,ri,hb]
     cases b<;>cases want<;>simp only[cond_true,cond_false,e1 _ rfl]<;>rfl
    have hk:(if b=want then yQ P Γ pu o st k else WZ o st k).run J.step s=some r:=by
     rw[<- h]
     cases b<;>cases want<;>simp only[cond_true,cond_false,e1 _ rfl]<;>rfl
    by_cases zm:b=want
    .rw[dB zm]at hk he
     obtain⟨ac,s',g1,g2,g3⟩:=XT (ops:=ops) hΓ hq C hk
     refine⟨ac,s',g1,by rw[he];exact g2,fun fn K hK=>g3 fn K (by simp[Region.wanted,hg,po,zm]) hK⟩
    .rw[dA zm]at hk he
     exact⟨_,s,hk,by rw[he];rfl,skipped _ po (by simpa using zm)⟩
   .rename_i hb
    obtain⟨rv,h1,h2⟩:=C.rel.tmps sl _ hb
    simp only[denV,allSome,dN,oI]at h2
    subst h2
    have po:=hy _ h1
    simp only at po
    exact⟨_,s,h,by simp only[yl,hg,ri,hb];rfl,skipped _ po (by simp)⟩
   .cases h
theorem XU[OffS J S0 w0](hΓ : ∀f m,Γ f=some m->xx J f m)(hq:OpsQuiet P){fn:FuncId}{β:Type}{k:St->T β}{r:β×σ}{Q:wN σ}(hQ : ∀e' ac s' F' a' w',(k ac).run J.step s'=some r->CfgK J S0 w0 e0 e' ac s' F' a' w'->Q .normal a' s' F' w') :
  ∀ (l:List Oper) (is:List Nat) {e:Env} {st:St} {s:σ} {F:Fo} {a:Act} {w:World},is.map (fun i=>ops[i]?)=l.map some->CfgK J S0 w0 e0 e st s F a w->(KP P Γ ops l st k).run J.step s=some r->KOps J fn ops is Q a s F w
 | [],is,e,st,s,F,a,w,hl,C,h=>by
  obtain rfl:is = []:=by simpa using hl
  exact XS (hQ e st s F a w h C)
 | o::l,[],e,st,s,F,a,w,hl,C,h=>by simp at hl
 | o::l,i::is,e,st,s,F,a,w,hl,C,h=>by
  simp only[List.map_cons,List.cons.injEq]at hl
  obtain⟨ac,s',h1,_,h3⟩:=vO hΓ hq C h
  exact YD hl.1 (h3 fn _ fun e' F' a' w' _ C'=>XU hΓ hq hQ l is hl.2 C' h1)
theorem xgN(ops:Array Oper):(List.range ops.size).map (fun i=>ops[i]?)=ops.toList.map some:=by
 apply List.ext_getElem?
 intro i
 rw[List.getElem?_map,List.getElem?_map]
 by_cases h:i<ops.size
 .rw[List.getElem?_range h]
  simp[h]
 .rw[List.getElem?_eq_none (by simp;omega),List.getElem?_eq_none (by simp;omega)];rfl
end
end Go.Proofs.YtfagfflkgmcnpaaGreatDoor.Kx
