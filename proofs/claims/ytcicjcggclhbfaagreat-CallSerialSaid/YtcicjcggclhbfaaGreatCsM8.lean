/- Part. -/
import Derived.Test.YtcicjcggclhbfaaGreatCsM7
set_option linter.all false
open Go.IntKind (i64 u64 u32 u8)
namespace Go.Proofs.YtcicjcggclhbfaaGreat
section
open Go Go.RowKit Lx
theorem xB3{held:Nat->Option HK}{g:Nat}{x:Option HK}(h:held g=none):upd (upd held g x) g none=held:=by
 funext q
 by_cases hq:q=g
 .subst hq;rw[xC,h]
 .rw[upd_ne _ _ hq,upd_ne _ _ hq]
def sumTo(f:Nat->Nat):Nat->Nat
 | 0=>0
 | G+1=>sumTo f G+f G
theorem sumTo_le{f:Nat->Nat} : ∀ {G:Nat},(∀g,g<G->f g<=1)->sumTo f G<=G
 | 0,h=>dI _
 | G+1,h=>by have:=sumTo_le (G:=G) fun g hg=>h g (by omega);have:=h G (by omega);simp only[sumTo];omega
theorem xkS{f h:Nat->Nat} : ∀ (G:Nat),sumTo (fun g=>f g+h g) G=sumTo f G+sumTo h G
 | 0=>rfl
 | G+1=>by simp only[sumTo,xkS G];omega
theorem xkT{x:Nat} : ∀ (G:Nat),sumTo (fun g=>if x=g then 1 else 0) G=if x<G then 1 else 0
 | 0=>rfl
 | G+1=>by
  simp only[sumTo,xkT G]
  by_cases h:x<G
  .rw[dB h,dA (by omega),dB (by omega)]
  .by_cases h2:x=G
   .rw[dA h,dB h2,dB (by omega)]
   .rw[dA h,dA h2,dA (by omega)]
theorem Kv : ∀ (G:Nat),sumTo (fun _=>0) G=0
 | 0=>rfl
 | G+1=>by simp only[sumTo,Kv G]
theorem xB4{f:Nat->Int}{G:Nat} : ∀ (N:Nat),(∀i,i<N->f i=0\/ ∃g:Nat,g<G/\f i=((g+1:Nat):Int))->va f N=sumTo (fun g=>cntR f N ((g+1:Nat):Int)) G
 | 0,h=>(Kv G).symm
 | N+1,h=>by
  have ih:=xB4 (G:=G) N fun i hi=>h i (by omega)
  have e:sumTo (fun g=>cntR f (N+1) ((g+1:Nat):Int)) G=sumTo (fun g=>cntR f N ((g+1:Nat):Int)) G+sumTo (fun g=>if f N=((g+1:Nat):Int)then 1 else 0) G:=xkS (f:=fun g=>cntR f N ((g+1:Nat):Int)) (h:=fun g=>if f N=((g+1:Nat):Int)then 1 else 0) G
  rw[e,<- ih]
  simp only[va]
  rcases h N (by omega)with h0|⟨x,hx,h0⟩
  .rw[dB h0]
   have:(fun g:Nat=>if f N=((g+1:Nat):Int)then 1 else 0)=fun _=>0:=by funext g;rw[dA (by rw[h0];omega)]
   rw[this,Kv]
  .rw[dA (by rw[h0];omega)]
   have:(fun g:Nat=>if f N=((g+1:Nat):Int)then 1 else 0)=fun g=>if x=g then 1 else 0:=by
    funext g
    by_cases ui:x=g
    .rw[dB ui,dB (by rw[h0,ui])]
    .rw[dA ui,dA (by rw[h0];omega)]
   rw[this,xkT,dB hx]
section
variable{n t:Nat}(hf:Small n t){A:AS}{held:Nat->Option HK}{S:List Sg}{mp vr:Nat->Nat}{rem bag:Nat->List Nat}{pl:List Nat}
include hf
theorem xdb(h:HI n t A held S mp vr rem bag pl){g c:Nat}(hb:isBlk S g c):g<n*8/\c<4:=by
 obtain⟨p,o,j,hs,hj,rfl⟩:=hb
 obtain⟨hp,hc,_⟩:=wz hf h hs
 have:=yi hj
 exact⟨by omega,hc⟩
theorem xB5(h:HI n t A held S mp vr rem bag pl):va (fun i=>A.w 18 (0+i)) (8*nodesN n t)<=n*8:=by
 have e:(fun i=>A.w 18 (0+i))=A.w 18:=by funext i;rw[Nat.zero_add]
 have de : ∀i,i<8*nodesN n t->A.w 18 i=0\/ ∃g c:Nat,A.w 18 i=((g+1:Nat):Int)/\isBlk S g c:=by
  intro i hi
  have e2:i=(i / 8+1-1)*8+i%8:=by omega
  rcases h.item (i / 8+1) (i%8) (by omega) (by omega) (by omega)with h0|⟨x,g,_,_,h1,h2⟩
  .rw[<- e2]at h0;exact .inl h0
  .rw[<- e2]at h1;exact .inr ⟨g,_,h1,h2⟩
 rw[e,xB4 (G:=n*8) (8*nodesN n t) fun i hi=>by
  rcases de i hi with h0|⟨g,c,h1,h2⟩
  .exact .inl h0
  .exact .inr ⟨g,(xdb hf h h2).1,h1⟩]
 refine sumTo_le fun g hg =>?_
 by_cases hb : ∃c,isBlk S g c
 .obtain⟨c,hb⟩:=hb
  obtain⟨p,o,j,h1,h2,h3,h4⟩:=h.places hb
  omega
 .rw[jg fun i hi hv =>?_]
  .omega
  .rcases de i hi with h0|⟨g',c,h1,h2⟩
   .rw[h0]at hv;omega
   .rw[h1]at hv;obtain rfl:g'=g:=by omega
    exact hb ⟨c,h2⟩
theorem Xo{β:Type}{R:List Nat}{K reg b N c me M:Nat}{τ:T (Int×Bool)}{E:(Nat->Int)->Prop}{B:Int×Bool×Int->(Int×Bool×Int->T β)->T β}{κ0:Int->T β}{Q:β->AS->Prop}
  (hB : ∀i k,B i k=bif i.2.1 then((yq (xd n t) i.2.2 (i64.wrap (i64.wrap i.1-1))).bind fun r1=>τ.bind fun r2=>k (r2.1,r2.2,r1.2))else κ0 i.2.2)
  (Jw:reg≠1/\reg≠8) (hR1:1∉R)
  (hτ : ∀ (A:AS) (mp:Nat->Nat),A.self=(me:Int)->HI n t A held S mp vr rem bag pl->Rn n t τ A fun r A'=>(∃g:Nat,r=(((g+1:Nat):Int),true)/\held g=none/\isBlk S g c/\HI n t A' (upd held g (some (.blk c))) S mp vr rem bag pl/\Fr R K A A'/\LessB reg b N A A')\/
   (r=(0,false)/\Fr R K A A'/\HI n t A' held S mp vr rem bag pl/\E (A'.w reg)/\ ∀q,A'.w reg q=A.w reg q))
  (hM:M<=3000) (o:Nat) (ho:o<=100000000) (aa:A.self=(me:Int)) (h:HI n t A held S mp vr rem bag pl) (hnz:va (fun i=>A.w reg (b+i)) N<=M)
  (hκ : ∀A' bm k,k<=M->HI n t A' held S bm vr rem bag pl->E (A'.w reg)->A'.w 1 0=u64.wrap (A.w 1 0+(k:Int))->Fr (1::8::R) ((K+5)*(M+1)) A A'->(∀q,A.w reg q=0->A'.w reg q=0)->Rn n t (κ0 ((o+k:Nat):Int)) A' Q) :
  Rn n t (τ.bind fun r=>xu xa B (r.1,r.2,(o:Int))) A Q:=by
 have hn:=hf.n2
 have e0:A.w 1 0=u64.wrap (A.w 1 0+((0:Nat):Int)):=by have:=h.ep;rw[dJ];omega
 have lout : ∀ {B B':AS},LessB reg b N B B' ->∀q,B.w reg q=0->B'.w reg q=0:=by
  rintro B B' ⟨i,hi,_,h2⟩ q hq
  rw[h2];split
  .rfl
  .exact hq
 have loop : ∀ (r:Nat) (i:Int×Bool×Int) (A1:AS),r<xa->(∃k bm,i.2.2=((o+k:Nat):Int)/\A1.self=(me:Int)/\A1.w 1 0=u64.wrap (A.w 1 0+(k:Int))/\Fr (1::8::R) ((K+5)*(k+1)) A A1/\(∀q,A.w reg q=0->A1.w reg q=0)/\
   ((i.2.1=true/\ ∃g:Nat,i.1=((g+1:Nat):Int)/\held g=none/\isBlk S g c/\HI n t A1 (upd held g (some (.blk c))) S bm vr rem bag pl/\r=va (fun i=>A1.w reg (b+i)) N+1/\k+r<=M)\/(i.2.1=false/\HI n t A1 held S bm vr rem bag pl/\E (A1.w reg)/\r=0/\k<=M)))->Rn n t (xu xa B i) A1 Q:=by
  intro r i A1 hr hI
  refine Rn.loop (B:=B) (Q:=Q) (fun r i A1 =>∃k bm,i.2.2=((o+k:Nat):Int)/\A1.self=(me:Int)/\A1.w 1 0=u64.wrap (A.w 1 0+(k:Int))/\Fr (1::8::R) ((K+5)*(k+1)) A A1/\(∀q,A.w reg q=0->A1.w reg q=0)/\
   ((i.2.1=true/\ ∃g:Nat,i.1=((g+1:Nat):Int)/\held g=none/\isBlk S g c/\HI n t A1 (upd held g (some (.blk c))) S bm vr rem bag pl/\r=va (fun i=>A1.w reg (b+i)) N+1/\k+r<=M)\/(i.2.1=false/\HI n t A1 held S bm vr rem bag pl/\E (A1.w reg)/\r=0/\k<=M))) ?_ xa r i A1 hr hI
  rintro r ⟨i1,i2,i3⟩ A1 κ ⟨k,bm,rfl,cq,he,ao,sj,de⟩ ap
  simp only at de ap
  rw[hB]
  simp only
  rcases de with⟨rfl,g,rfl,hg,hb,h1,rfl,hkM⟩|⟨rfl,h1,hE,rfl,hkM⟩
  .have dc:=xdb hf h1 hb
   refine Rn.yes rfl ?_
   rw[xby (by omega)]
   refine Rn.bind (xso hf h1 (g:=g) (c:=c) (by rw[xC]) _) ?_
   rintro r A2 ⟨rfl,gv,m2,h2,ae⟩
   rw[xB3 hg]at h2
   have eo:u64.wrap (((o+k:Nat):Int)+1)=((o+(k+1):Nat):Int):=by rw[dJ];omega
   have et:A2.self=(me:Int):=by rw[ae.self,cq]
   have oj : ∀i,A2.w reg i=A1.w reg i:=ae.w reg (by simp only[List.mem_cons,List.not_mem_nil,or_false,not_or];exact Jw)
   have og:va (fun i=>A2.w reg (b+i)) N=va (fun i=>A1.w reg (b+i)) N:=qv fun i _=>oj _
   refine Rn.bind (hτ A2 _ et h2) ?_
   rintro r A3 (⟨g3,rfl,k1,k2,k3,k4,k5⟩|⟨rfl,k1,k2,k3,k4⟩)
   .simp only[eo]
    have Mh:=k5.nz
    refine ap (va (fun i=>A3.w reg (b+i)) N+1) _ _ (by omega) ⟨k+1,_,rfl,by rw[k4.self,et],?_,?_,fun q hq =>?_,.inl ⟨rfl,g3,rfl,k1,k2,k3,rfl,by omega⟩⟩
    .rw[k4.w 1 hR1,gv,he,dJ,dJ,dJ];omega
    .refine(ao.trans ae (S:=1::8::R) (e:=(K+5)*(k+1)+5) (fun _ h=>h) (by simp) (dI _)).trans k4 (fun _ h=>h) (fun r hr=>by simp[hr]) ?_
     rw[Nat.mul_add (K+5) (k+1) 1];omega
    .exact lout k5 q (by rw[oj];exact sj q hq)
   .simp only[eo]
    refine ap 0 _ _ (by omega) ⟨k+1,_,rfl,by rw[k1.self,et],?_,?_,fun q hq =>?_,.inr ⟨rfl,k2,k3,rfl,by omega⟩⟩
    .rw[k1.w 1 hR1,gv,he,dJ,dJ,dJ];omega
    .refine(ao.trans ae (S:=1::8::R) (e:=(K+5)*(k+1)+5) (fun _ h=>h) (by simp) (dI _)).trans k1 (fun _ h=>h) (fun r hr=>by simp[hr]) ?_
     rw[Nat.mul_add (K+5) (k+1) 1];omega
    .rw[k4,oj];exact sj q hq
  .refine Rn.no rfl ?_
   exact hκ A1 bm k hkM h1 hE he (ao.mono (fun _ h=>h) (Nat.mul_le_mul_left _ (by omega))) sj
 refine Rn.bind (hτ A mp aa h) ?_
 rintro r A1 (⟨g,rfl,k1,k2,k3,k4,k5⟩|⟨rfl,k1,k2,k3,k4⟩)
 .have hz:=k5.nz
  refine loop (va (fun i=>A1.w reg (b+i)) N+1) _ A1 (by unfold xa;omega) ⟨0,_,rfl,by rw[k4.self,aa],by rw[k4.w 1 hR1];exact e0,k4.mono (fun r hr=>by simp[hr]) (by omega),lout k5,.inl ⟨rfl,g,rfl,k1,k2,k3,rfl,by omega⟩⟩
 .exact loop 0 _ A1 (by unfold xa;omega) ⟨0,_,rfl,by rw[k1.self,aa],by rw[k1.w 1 hR1];exact e0,k1.mono (fun r hr=>by simp[hr]) (by omega),fun q hq=>by rw[k4];exact hq,.inr ⟨rfl,k2,k3,rfl,by omega⟩⟩
theorem xsp{β:Type}{κ:Int->T β}{Q:β->AS->Prop}{th me o:Nat}{x y:Int}(C9:th<t)(ho:o<=10000000)(aa:A.self=(me:Int))(h:HI n t A held S mp vr rem bag pl)
  (hκ : ∀ (A':AS) (bm:Nat->Nat) (k:Nat),k<=8->HI n t A' held S bm vr rem bag pl->(∀c,c<4->A'.w 12 ((th*4+c)*2)=0/\A'.w 12 ((th*4+c)*2+1)=0)->A'.w 1 0=u64.wrap (A.w 1 0+(k:Int))->Fr [1,8,12] 200 A A'->(∀q,A.w 12 q=0->A'.w 12 q=0)->Rn n t (κ ((o+k:Nat):Int)) A' Q) :
  Rn n t (vB (th:Int) x y (xd n t) 0 (o:Int) κ) A Q:=by
 have e0:A.w 1 0=u64.wrap (A.w 1 0+((0:Nat):Int)):=by have:=h.ep;rw[dJ];omega
 unfold vB
 refine Rn.loop (fun r i A1 =>∃ (c k:Nat) (bm:Nat->Nat),i=((c:Int),((o+k:Nat):Int))/\c<=4/\r=4-c/\k<=2*c/\A1.self=(me:Int)/\HI n t A1 held S bm vr rem bag pl/\(∀d,d<c->A1.w 12 ((th*4+d)*2)=0/\A1.w 12 ((th*4+d)*2+1)=0)/\A1.w 1 0=u64.wrap (A.w 1 0+(k:Int))/\Fr [1,8,12] (40*c) A A1/\ ∀q,A.w 12 q=0->A1.w 12 q=0) ?_ xa 4 _ A (by unfold xa;omega)
  ⟨0,0,mp,rfl,by omega,rfl,by omega,aa,h,fun d hd=>by omega,e0,(Fr.refl [] A).mono,fun q hq=>hq⟩
 rintro r i A1 κ' ⟨c,k,lq,rfl,hc,rfl,hk,cq,h1,hz,he,ao,hm⟩ ap
 unfold VQ
 simp only
 by_cases ss:c<4
 .refine Rn.yes (by rw[dT];omega) ?_
  unfold vV
  refine Xo hf (τ:=Zv (xd n t) (th:Int) (c:Int)) (B:=VP (th:Int) (c:Int) x y (c:Int) (xd n t) fun y2=>κ' (i64.wrap ((c:Int)+1),y2)) (κ0:=fun y2=>κ' (i64.wrap ((c:Int)+1),y2)) (R :=[12]) (K:=4) (reg:=12) (b:=(th*4+c)*2) (N:=2) (c:=c) (me:=me) (M:=2) (E:=fun f=>f ((th*4+c)*2)=0/\f ((th*4+c)*2+1)=0) (fun _ _=>rfl) ⟨by decide,by decide⟩ (by decide) (fun B mpB hsB hB =>?_) (by omega) (o+k) (by omega) cq h1 (xik _ _) fun A2 sb k2 ef h2 hE2 gv ae br =>?_
  .refine(xc6 hf.toFew hB C9 ss).mono ?_
   rintro r A' (hr|⟨rfl,q1,q2,q3⟩)
   .exact .inl hr
   .refine .inr ⟨rfl,q1.mono,hB.fr q1 (by simp),?_,fun q=>q1.w 12 (by simp) q⟩
    exact⟨by rw[q1.w 12 (by simp)];exact q2,by rw[q1.w 12 (by simp)];exact q3⟩
  .rw[xL hf.toFew (x:=c) (by omega),show o+k+k2=o+(k+k2)by omega]
   refine ap (4-(c+1)) _ _ (by omega) ⟨c+1,k+k2,sb,rfl,by omega,rfl,by omega,by rw[ae.self,cq],h2,fun d hd =>?_,?_,ao.trans ae,fun q hq=>br q (hm q hq)⟩
   .by_cases Hd:d=c
    .subst Hd;exact hE2
    .obtain⟨g1,g2⟩:=hz d (by omega)
     exact⟨br _ g1,br _ g2⟩
   .rw[gv,he,dJ,dJ,dJ];omega
 .obtain rfl:c=4:=by omega
  refine Rn.no (by rw[dF];omega) ?_
  exact hκ A1 lq k (by omega) h1 hz he ao.mono hm
theorem xv3{me o:Nat}(ho:o<=1000000)(aa:A.self=(me:Int))(h:HI n t A held S mp vr rem bag pl):Rn n t (YZ (xd n t) (o:Int)) A fun r A'=>
  ∃ (bm:Nat->Nat) (k:Nat),k<=512/\r=((),((o+k:Nat):Int))/\HI n t A' held S bm vr rem bag pl/\(∀q,q<8*t->A'.w 12 q=0)/\A'.w 1 0=u64.wrap (A.w 1 0+(k:Int))/\Fr [1,8,12] 20000 A A':=by
 have e0:A.w 1 0=u64.wrap (A.w 1 0+((0:Nat):Int)):=by have:=h.ep;rw[dJ];omega
 have zj:=hf.t2
 unfold YZ xax vW
 refine Rn.loop (fun r i A1 =>∃ (th k:Nat) (bm:Nat->Nat),i=((th:Int),((o+k:Nat):Int))/\th<=t/\r=t-th/\k<=8*th/\A1.self=(me:Int)/\HI n t A1 held S bm vr rem bag pl/\(∀q,q<8*th->A1.w 12 q=0)/\A1.w 1 0=u64.wrap (A.w 1 0+(k:Int))/\Fr [1,8,12] (200*th) A A1) ?_ xa t _ A (by unfold xa;omega)
  ⟨0,0,mp,rfl,by omega,rfl,by omega,aa,h,fun d hd=>by omega,e0,(Fr.refl [] A).mono⟩
 rintro r i A1 κ' ⟨th,k,lq,rfl,C9,rfl,hk,cq,h1,hz,he,ao⟩ ap
 unfold VR
 simp only
 by_cases an:th<t
 .refine Rn.yes (by rw[dT];show((th:Nat):Int)<((t:Nat):Int);omega) ?_
  refine xsp hf an (by omega) cq h1 fun A2 sb k2 ef h2 hE2 gv ae br =>?_
  rw[xL hf.toFew (x:=th) (by omega),show o+k+k2=o+(k+k2)by omega]
  refine ap (t-(th+1)) _ _ (by omega) ⟨th+1,k+k2,sb,rfl,by omega,rfl,by omega,by rw[ae.self,cq],h2,fun q hq =>?_,?_,ao.trans ae⟩
  .by_cases mf:q<8*th
   .exact br q (hz q mf)
   .obtain⟨g1,g2⟩:=hE2 ((q-8*th) / 2) (by omega)
    by_cases Pd:q%2=0
    .rw[show(th*4+(q-8*th) / 2)*2=q by omega]at g1;exact g1
    .rw[show(th*4+(q-8*th) / 2)*2+1=q by omega]at g2;exact g2
  .rw[gv,he,dJ,dJ,dJ];omega
 .obtain rfl:th=t:=by omega
  refine Rn.no (by rw[dF];show ¬ ((th:Nat):Int)<((th:Nat):Int);omega) ?_
  exact Rn.ret ⟨lq,k,by omega,rfl,h1,hz,he,ao.mono⟩
theorem xB6{me o:Nat}(ho:o<=10000000)(ah:me<t)(aa:A.self=(me:Int))(h:HI n t A held S mp vr rem bag pl):Rn n t (xj8 (xd n t) (o:Int)) A fun r A'=>
  ∃ (bm:Nat->Nat) (k:Nat),k<=9000/\r=((),((o+k:Nat):Int))/\HI n t A' held S bm vr rem bag pl/\(∀m k,1<=m->m<=nodesN n t->k<8->A'.w 18 ((m-1)*8+k)=0)/\A'.w 1 0=u64.wrap (A.w 1 0+(k:Int))/\Fr [1,8,14,18] 50000000000 A A':=by
 have e0:A.w 1 0=u64.wrap (A.w 1 0+((0:Nat):Int)):=by have:=h.ep;rw[dJ];omega
 have hn:=hf.n2
 unfold xj8 xnh jJ
 refine Rn.loop (fun r i A1 =>∃ (c k:Nat) (bm:Nat->Nat),i=((c:Int),((o+k:Nat):Int))/\c<=4/\r=4-c/\k<=2048*c/\A1.self=(me:Int)/\HI n t A1 held S bm vr rem bag pl/\(∀x,x<4*t->x%4<c ->∀m∈bag x,Yn A1 m)/\A1.w 1 0=u64.wrap (A.w 1 0+(k:Int))/\Fr [1,8,14,18] (10250000000*c) A A1) ?_ xa 4 _ A (by unfold xa;omega)
  ⟨0,0,mp,rfl,by omega,rfl,by omega,aa,h,fun x _ hx=>by omega,e0,(Fr.refl [] A).mono⟩
 rintro r i A1 κ' ⟨c,k,lq,rfl,hc,rfl,hk,cq,h1,hz,he,ao⟩ ap
 unfold xhe
 simp only
 by_cases ss:c<4
 .refine Rn.yes (by rw[dT];omega) ?_
  unfold jI
  refine Xo hf (τ:=ZK (xd n t) (c:Int)) (B:=xhd (c:Int) (c:Int) (xd n t) fun y2=>κ' (i64.wrap ((c:Int)+1),y2)) (κ0:=fun y2=>κ' (i64.wrap ((c:Int)+1),y2)) (R :=[14,18]) (K:=5000000) (reg:=18) (b:=0) (N:=8*nodesN n t) (c:=c) (me:=me) (M:=2048) (E:=fun f =>∀x,x<4*t->x%4=c ->∀m∈bag x,∀k,k<8->f ((m-1)*8+k)=0) (fun _ _=>rfl) ⟨by decide,by decide⟩ (by decide) (fun B mpB hsB hB =>?_) (by omega) (o+k) (by omega) cq h1 (by have:=xB5 hf h1;omega) fun A2 sb k2 ef h2 hE2 gv ae br =>?_
  .refine(xkP hf hB ss ah hsB).mono ?_
   rintro r A' (hr|⟨rfl,q1,q2⟩)
   .exact .inl hr
   .refine .inr ⟨rfl,q1.mono,hB.fr q1 (by simp),fun x hx Aa m hm k hk =>?_,fun q=>q1.w 18 (by simp) q⟩
    rw[q1.w 18 (by simp)];exact q2 x hx Aa m hm k hk
  .rw[xL hf.toFew (x:=c) (by omega),show o+k+k2=o+(k+k2)by omega]
   refine ap (4-(c+1)) _ _ (by omega) ⟨c+1,k+k2,sb,rfl,by omega,rfl,by omega,by rw[ae.self,cq],h2,fun x hx Aa m hm j hj =>?_,?_,ao.trans ae⟩
   .by_cases Ot:x%4=c
    .exact hE2 x hx Ot m hm j hj
    .exact br _ (hz x hx (by omega) m hm j hj)
   .rw[gv,he,dJ,dJ,dJ];omega
 .obtain rfl:c=4:=by omega
  refine Rn.no (by rw[dF];omega) ?_
  refine Rn.ret ⟨lq,k,by omega,rfl,h1,fun m j hm br hj =>?_,he,ao.mono⟩
  rcases h1.item m j hm br hj with h0|⟨x,g,hx,mh,_,_⟩
  .exact h0
  .exact hz x hx (Nat.mod_lt _ (by omega)) m mh j hj
end
end
section
open Go Go.RowKit Lx
theorem xsq{β:Type}(a0:Int)(g:Geo)(κ0:Int->T β)(i:Int×Int)(k:Int×Int->T β):XI a0 g κ0 i k =
  bif decide (i.1<a0)then((isT g i.1 0).bind fun r1=>bif !r1 then k (i64.wrap (i.1+1),i.2)else .op (.load (atF g 9 i.1)) fun x=>yv i.1 g i.1 x fun y=>Kt g (fun l=>xc9 g (fun o=>k (i64.wrap (i.1+1),o)) l i.2) 8 y [])else κ0 i.2:=by rfl
def xxn{β:Type}(g:Geo)(c:Int)(κ0:Int->Int->T β)(k:Int->T β)(o:Int):List Int->T β
 | []=>k o
 | y::l=>(ks g (i64.wrap (i64.wrap y-1))).bind fun f=>bif f.cls != c then xc9 g k (y::l) o else xc9 g (fun o=>κ0 o (i64.wrap (i64.wrap y-1))) l o
theorem xv4{β:Type}(a0 a1:Int)(g:Geo)(a5:Int)(b6:Bool)(a7:Int)(κ0:Int->Int->T β)(κ1:Int->T β)(i:Int×Int)(k:Int×Int->T β):VO a0 a1 g a5 b6 a7 κ0 κ1 i k =
  bif decide (i.1<a1)then((hofT g i.2 i.1 a0).bind fun r1=>bif !r1.1 then k (i64.wrap (i.1+1),r1.2)else(isT g i.1 0).bind fun r3=>bif !r3 then k (i64.wrap (i.1+1),r1.2) else
   .op (.load (atF g 9 i.1)) fun x=>yv i.1 g i.1 x fun y=>Kt g (xxn g a0 κ0 (fun o=>k (i64.wrap (i.1+1),o)) r1.2) 8 y [])else κ1 i.2:=by rfl
section
variable{n t:Nat}(hf:Small n t){A:AS}{held:Nat->Option HK}{S:List Sg}{mp vr:Nat->Nat}{rem bag:Nat->List Nat}{pl:List Nat}
include hf
theorem xsr(h:HI n t A held S mp vr rem bag pl){p:Nat}(hp:p<n)(hs:slabAt S p=none):rem p = []:=by
 cases hr:rem p with
 | nil=>rfl
 | cons g l=>
  obtain⟨e,c,hb⟩:=h.remb p hp g (by rw[hr];simp)
  obtain⟨o,j,h1,_⟩:=yj hb
  rw[e,hs]at h1;cases h1
theorem xv5(h:HI n t A held S mp vr rem bag pl){p:Nat}(hp:p<n)(hr:rem p = []){β:Type}{F:List Int->T β}{Q:β->AS->Prop}
  (hF : ∀A',Fr [] 1 A A'->Rn n t (F []) A' Q) :
  Rn n t (.op (.load (atF (xd n t) 9 (p:Int))) fun x=>yv (p:Int) (xd n t) (p:Int) x fun y=>Kt (xd n t) F 8 y []) A Q:=by
 obtain⟨G1,nv⟩:=h.remw p hp
 refine Rn.load (at9 hf.toFew hp) (by omega) hp ?_
 rw[G1,hr]
 unfold yv
 rw[show xa=4095+1 from rfl,xu]
 unfold YL
 refine Rn.no (by simp[hdw]) ?_
 exact Xn hf [] 8 [] A.tick (by simp) trivial (by simp) fun A' hA'=>hF A' ((Fr.tick [] A).trans hA' (by simp) (by simp) (by simp))
theorem xv6{L:List Nat}{c:Nat}(h : ∀g∈L,held g=none):(fun g=>if g∈L then none else(fun g=>if g∈L then some (HK.blk c)else held g) g)=held:=by
 funext g
 by_cases hg:g∈L
 .simp only[dB hg,h g hg]
 .simp only[dA hg]
theorem xss{me o:Nat}(ho:o<=10000000)(aa:A.self=(me:Int))(h:HI n t A held S mp vr rem bag pl):Rn n t (qP (xd n t) (o:Int)) A fun r A'=>
  ∃ (bm:Nat->Nat) (az:Nat->List Nat) (k:Nat),k<=2048/\r=((),((o+k:Nat):Int))/\HI n t A' held S bm vr az bag pl/\(∀q,q<n->az q = [])/\A'.w 1 0=u64.wrap (A.w 1 0+(k:Int))/\Fr [1,8,9] 20000 A A':=by
 have e0:A.w 1 0=u64.wrap (A.w 1 0+((0:Nat):Int)):=by have:=h.ep;rw[dJ];omega
 have hn:=hf.n2
 unfold qP YX vz
 refine Rn.loop (fun r i A1 =>∃ (p k:Nat) (bm:Nat->Nat) (az:Nat->List Nat),i=((p:Int),((o+k:Nat):Int))/\p<=n/\r=n-p/\k<=8*p/\A1.self=(me:Int)/\HI n t A1 held S bm vr az bag pl/\(∀q,q<p->az q = [])/\A1.w 1 0=u64.wrap (A.w 1 0+(k:Int))/\Fr [1,8,9] (70*p) A A1) ?_ xa n _ A (by unfold xa;omega)
  ⟨0,0,mp,rem,rfl,by omega,rfl,by omega,aa,h,fun x hx=>by omega,e0,(Fr.refl [] A).mono⟩
 rintro r i A1 κ' ⟨p,k,lq,dt,rfl,Fh,rfl,hk,cq,h1,hz,he,ao⟩ ap
 rw[xsq]
 simp only
 by_cases hp:p<n
 .refine Rn.yes (by rw[dT];show((p:Nat):Int)<((n:Nat):Int);omega) ?_
  refine Rn.run (xbx hf hp (k:=0) (by omega)) (Rn.no rfl ?_)
  rw[xL hf.toFew (x:=p) (by omega)]
  cases hs:slabAt S p with
  | none=>
   have hr:=xsr hf h1 hp hs
   refine xv5 hf h1 hp hr fun A2 ae =>?_
   refine ap (n-(p+1)) _ _ (by omega) ⟨p+1,k,lq,dt,rfl,by omega,rfl,by omega,by rw[ae.self,cq],h1.fr ae (by simp),fun q hq =>?_,by rw[ae.w 1 (by simp)];exact he,ao.trans ae⟩
   by_cases bf:q=p
   .subst bf;exact hr
   .exact hz q (by omega)
  | some x=>
   obtain⟨c,ow⟩:=x
   obtain⟨mg,cf,_⟩:=h1.drain hs hp
   obtain⟨Dl,so⟩:=xoD hf h1 hs
   refine xkR hf h1 hs fun A2 h2 gv ae =>?_
   refine xda hf (c:=c) (dt p) (o+k) A2 _ _ h2 cf (fun g hg=>⟨by rw[dB hg],so g hg⟩) (by omega) fun A3 zh h3 rk ar =>?_
   rw[xv6 hf mg]at h3
   rw[show o+k+(dt p).length=o+(k+(dt p).length)by omega]
   refine ap (n-(p+1)) _ _ (by omega) ⟨p+1,k+(dt p).length,zh,updL dt p [],rfl,by omega,rfl,by omega,by rw[ar.self,ae.self,cq],h3,fun q hq =>?_,?_,(ao.trans ae (S :=[1,8,9]) (e:=70*p+20)).trans ar⟩
   .by_cases bf:q=p
    .simp only[updL,dB bf]
    .simp only[updL,dA bf];exact hz q (by omega)
   .rw[rk,gv,he,dJ,dJ,dJ];omega
 .obtain rfl:p=n:=by omega
  refine Rn.no (by rw[dF];show ¬ ((p:Nat):Int)<((p:Nat):Int);omega) ?_
  exact Rn.ret ⟨lq,dt,k,by omega,rfl,h1,hz,he,ao.mono⟩
theorem Yp{g:Nat}(hg:g<n*8):(ks (xd n t) (g:Int)).run (xo n t) A=some (pgOf (A.w 7 (g / 8)),A.tick):=by
 have hn:=hf.n2
 have hp:g / 8<n:=by omega
 have Fj:i64.wrap ((xd n t).pages*8)=((n*8:Nat):Int):=by
  show i64.wrap (((n:Nat):Int)*8)=_
  rw[show((n:Nat):Int)*8=((n*8:Nat):Int)by omega,wN _ (by omega)]
 have ed:i64.wrap (Int.tdiv (g:Int) 8)=((g / 8:Nat):Int):=by
  rw[dS (by omega)]
  have:(g:Int) / 8=((g / 8:Nat):Int):=by omega
  rw[this,wN _ (by omega)]
 unfold ks xmc
 rw[dC (show ¬ ((g:Int)<0)by omega),dC (show ¬ ((g:Int)>=i64.wrap ((xd n t).pages*8))by rw[Fj];omega)]
 simp only[cond_false,T.run,xo,ed,at7 hf.toFew hp,xK (show g / 8<Zr n t 7 from hp) 19 (by omega)]
 rfl
theorem xdc(h:HI n t A held S mp vr rem bag pl){p c o:Nat}(hs:slabAt S p=some (c,o)):pgOf (A.w 7 p)=⟨3,1,(c:Int),(o:Int)⟩:=by
 obtain⟨L,R,rfl,rfl⟩:=kW S p c o h.laid.ok hs
 obtain⟨hw,_⟩:=h.laid.at_
 have bl:=(h.laid.ok ⟨1,.slab c o⟩ (by simp)).2 c o rfl
 rw[hw]
 exact vu 3 1 c o (by omega) (by omega) (by omega) (by omega)
theorem xv7{me o c:Nat}(ho:o<=10000000)(hc:c<4)(aa:A.self=(me:Int))(h:HI n t A held S mp vr rem bag pl):Rn n t (YW (xd n t) (o:Int) (c:Int)) A fun r A'=>
  ∃ (bm:Nat->Nat) (az:Nat->List Nat) (k:Nat),k<=2048/\r.2=((o+k:Nat):Int)/\r.1.e=0/\A'.w 1 0=u64.wrap (A.w 1 0+(k:Int))/\Fr [1,8,9] 20000 A A'/\
   ((∃g:Nat,r.1.ok=true/\r.1.grain=(g:Int)/\held g=none/\isBlk S g c/\HI n t A' (upd held g (some (.blk c))) S bm vr az bag pl)\/(r.1.ok=false/\HI n t A' held S bm vr az bag pl)):=by
 have e0:A.w 1 0=u64.wrap (A.w 1 0+((0:Nat):Int)):=by have:=h.ep;rw[dJ];omega
 have hn:=hf.n2
 unfold YW xau vU
 refine Rn.loop (fun r i A1 =>∃ (p k:Nat) (bm:Nat->Nat) (az:Nat->List Nat),i=((p:Int),((o+k:Nat):Int))/\p<=n/\r=n-p/\k<=8*p/\A1.self=(me:Int)/\HI n t A1 held S bm vr az bag pl/\A1.w 1 0=u64.wrap (A.w 1 0+(k:Int))/\Fr [1,8,9] (75*p) A A1) ?_ xa n _ A (by unfold xa;omega)
  ⟨0,0,mp,rem,rfl,by omega,rfl,by omega,aa,h,e0,(Fr.refl [] A).mono⟩
 rintro r i A1 κ' ⟨p,k,lq,dt,rfl,Fh,rfl,hk,cq,h1,he,ao⟩ ap
 rw[xv4]
 simp only
 by_cases hp:p<n
 .refine Rn.yes (by rw[dT];show((p:Nat):Int)<((n:Nat):Int);omega) ?_
  refine Rn.run (xxm hf h1 hp hc _) ?_
  simp only
  rw[xL hf.toFew (x:=p) (by omega)]
  have pz : ∀A2,Fr [] 20 A1 A2->Rn n t (κ' (((p+1:Nat):Int),((o+k:Nat):Int))) A2 fun r A'=>
    ∃ (bm:Nat->Nat) (az:Nat->List Nat) (k:Nat),k<=2048/\r.2=((o+k:Nat):Int)/\r.1.e=0/\A'.w 1 0=u64.wrap (A.w 1 0+(k:Int))/\Fr [1,8,9] 20000 A A'/\
     ((∃g:Nat,r.1.ok=true/\r.1.grain=(g:Int)/\held g=none/\isBlk S g c/\HI n t A' (upd held g (some (.blk c))) S bm vr az bag pl)\/(r.1.ok=false/\HI n t A' held S bm vr az bag pl)):=fun A2 ae=>
   ap (n-(p+1)) _ _ (by omega) ⟨p+1,k,lq,dt,rfl,by omega,rfl,by omega,by rw[ae.self,cq],h1.fr ae (by simp),by rw[ae.w 1 (by simp)];exact he,ao.trans ae⟩
  cases d8:Xm S p c with
  | false=>exact Rn.yes rfl (pz _ ((Fr.tick [] A1).mono))
  | true=>
   obtain⟨ow,hs⟩:=xin d8
   refine Rn.no rfl ?_
   refine Rn.run (xbx hf hp (k:=0) (by omega)) (Rn.no rfl ?_)
   have Ls:HI n t A1.tick held S lq vr dt bag pl:=h1.same fun r i _=>rfl
   obtain⟨mg,cf,_⟩:=h1.drain hs hp
   obtain⟨Dl,so⟩:=xoD hf h1 hs
   refine xkR hf Ls hs fun A2 h2 gv ae =>?_
   have du:=(Fr.tick [] A1).trans ae (S :=[9]) (e:=21)
   cases hr:dt p with
   | nil=>
    have e1:(fun g=>if g∈dt p then some (HK.blk c)else held g)=held:=by funext g;rw[hr];simp
    rw[e1]at h2
    exact ap (n-(p+1)) _ _ (by omega) ⟨p+1,k,lq,_,rfl,by omega,rfl,by omega,by rw[du.self,cq],h2,by rw[gv];exact he,ao.trans du⟩
   | cons g L=>
    rw[hr]at cf Dl
    rw[List.nodup_cons]at cf
    have Bp:g∈dt p:=by rw[hr];simp
    have dc:=so g Bp
    obtain⟨lx,d,Eg⟩:=h1.remb p hp g Bp
    have Al:isBlk S g c:=by
     obtain⟨o',j,q1,_⟩:=yj Eg
     rw[lx,hs]at q1;cases q1;exact Eg
    simp only[tops,List.map_cons,xxn]
    rw[xby (by omega)]
    refine Rn.run (Yp hf dc) ?_
    rw[lx,ae.w 7 (by simp),AS.tick_w,xdc hf h1 hs]
    refine Rn.no (by simp) ?_
    refine xda hf (c:=c) L (o+k) A2.tick _ _ (h2.same fun r i _=>rfl) cf.2 (fun x hx=>⟨by rw[dB (by rw[hr];simp[hx])],so x (by rw[hr];simp[hx])⟩) (by simp at Dl;omega) fun A3 zh h3 rk ar =>?_
    have e3:(fun x=>if x∈L then none else(fun g=>if g∈dt p then some (HK.blk c)else held g) x)=upd held g (some (.blk c)):=by
     funext x
     by_cases hx:x∈L
     .have aq:x≠g:=fun hh=>cf.1 (hh▸hx)
      rw[upd_ne _ _ aq]
      simp only[dB hx]
      exact(mg x (by rw[hr];simp[hx])).symm
     .simp only[dA hx]
      by_cases ui:x=g
      .subst ui;rw[xC,dB Bp]
      .rw[upd_ne _ _ ui,dA (by rw[hr];simp[ui,hx])]
    rw[e3]at h3
    refine Rn.ret ⟨zh,_,k+L.length,by simp at Dl;omega,by simp only;rw[show o+k+L.length=o+(k+L.length)by omega],rfl,?_,?_,.inl ⟨g,rfl,rfl,mg g Bp,Al,h3⟩⟩
    .rw[rk,AS.tick_w,gv,AS.tick_w,he,dJ,dJ,dJ];omega
    .simp at Dl
     exact((ao.trans du (S :=[1,8,9]) (e:=75*p+21)).trans (Fr.tick [] _) (S :=[1,8,9]) (e:=75*p+22)).trans ar
 .refine Rn.no (by rw[dF];show ¬ ((p:Nat):Int)<((n:Nat):Int);omega) ?_
  exact Rn.ret ⟨lq,dt,k,by omega,rfl,rfl,he,ao.mono,.inr ⟨rfl,h1⟩⟩
theorem xkU{me o c:Nat}(hc:c<4)(aa:A.self=(me:Int))(h:HI n t A held S mp vr rem bag pl):Rn n t (xcj (xd n t) (o:Int) (c:Int)) A fun r A'=>
  r.2=((o:Nat):Int)/\r.1.e=0/\Fr [8] 20000 A A'/\
   ((∃ (g:Nat) (bm:Nat->Nat),r.1.ok=true/\r.1.grain=(g:Int)/\held g=none/\isBlk S g c/\HI n t A' (upd held g (some (.blk c))) S bm vr rem bag pl)\/(r.1.ok=false/\Fr [] 20000 A A'/\ ∀p ow,slabAt S p=some (c,ow)->mp p=0)):=by
 have hn:=hf.n2
 unfold xcj xeD wL
 refine Rn.loop (fun r i A1 =>∃ (p:Nat),i=((p:Int),((o:Nat):Int))/\p<=n/\r=n-p/\Fr [] (10*p) A A1/\ ∀q ow,q<p->slabAt S q=some (c,ow)->mp q=0) ?_ xa n _ A (by unfold xa;omega)
  ⟨0,rfl,by omega,rfl,Fr.refl _ _,fun q ow hq=>by omega⟩
 rintro r i A1 κ' ⟨p,rfl,Fh,rfl,ao,hz⟩ ap
 have h1:HI n t A1 held S mp vr rem bag pl:=h.fr ao (by simp)
 unfold xci
 simp only
 by_cases hp:p<n
 .refine Rn.yes (by rw[dT];show((p:Nat):Int)<((n:Nat):Int);omega) ?_
  refine Rn.run (xxm hf h1 hp hc _) ?_
  simp only
  rw[xL hf.toFew (x:=p) (by omega)]
  cases d8:Xm S p c with
  | false=>
   refine Rn.yes rfl (ap (n-(p+1)) _ _ (by omega) ⟨p+1,rfl,by omega,rfl,ao.trans (Fr.tick [] A1),fun q ow hq hs =>?_⟩)
   by_cases bf:q=p
   .subst bf;exact absurd hs (xzG d8 ow)
   .exact hz q ow (by omega) hs
  | true=>
   obtain⟨ow,hs⟩:=xin d8
   refine Rn.no rfl ?_
   have Ls:HI n t A1.tick held S mp vr rem bag pl:=h1.same fun r i _=>rfl
   refine Rn.bind (xzH hf Ls hs) ?_
   rintro r A2 (⟨g,m',rfl,k1,k2,k3,k4⟩|⟨rfl,k1,k2⟩)
   .exact Rn.yes rfl (Rn.ret ⟨rfl,rfl,(ao.trans (Fr.tick [] A1) (S :=[]) (e:=10*p+1)).trans k4,.inl ⟨g,_,rfl,rfl,k1,k2,k3⟩⟩)
   .refine Rn.no rfl (ap (n-(p+1)) _ _ (by omega) ⟨p+1,rfl,by omega,rfl,(ao.trans (Fr.tick [] A1) (S :=[]) (e:=10*p+1)).trans k1,fun q Ew hq Bh =>?_⟩)
    by_cases bf:q=p
    .subst bf;exact k2
    .exact hz q Ew (by omega) Bh
 .refine Rn.no (by rw[dF];show ¬ ((p:Nat):Int)<((n:Nat):Int);omega) ?_
  refine Rn.ret ⟨rfl,rfl,ao.mono,.inr ⟨rfl,ao.mono,fun q ow hs=>hz q ow ?_ hs⟩⟩
  have:=(wz hf h hs).1
  omega
end
end
section
open Go Go.RowKit Lx
theorem Xp(m:Nat)(M:List Sg)(q:Nat):slabAt (frs m++M) q=if q<m then none else slabAt M (q-m):=by
 rw[yR,yM]
 by_cases h:q<m
 .rw[dB h,dB h,frs,dA (by omega)];simp[slabAt]
 .rw[dA h,dA h]
theorem WY(m:Nat)(M:List Sg)(q:Nat):runAt (frs m++M) q=if q<m then none else runAt M (q-m):=by
 rw[vj,yM]
 by_cases h:q<m
 .rw[dB h,dB h,frs,dA (by omega)];simp[runAt]
 .rw[dA h,dA h]
def Kd.slabOf:Kd->Option (Nat×Nat)
 | .slab c o=>some (c,o)
 | _=>none
theorem vF(s:Sg)(l:List Sg)(p:Nat):slabAt (s::l) p=if p<s.len then s.kd.slabOf else slabAt l (p-s.len):=by cases h:s.kd<;>simp[slabAt,h,Kd.slabOf]
theorem vG(s:Sg)(l:List Sg)(p:Nat):runAt (s::l) p=if p<s.len then(if p=0/\s.kd = .run then some s.len else none)else runAt l (p-s.len):=rfl
theorem xio{L R:List Sg}{s:Sg}{x k y:Nat}{kd:Kd}(hs:s.kd = .free)(hl:x+k+y=s.len)(q:Nat) :
  slabAt (L++(frs x++(⟨k,kd⟩::(frs y++R)))) q=if plen L+x<=q/\q<plen L+x+k then kd.slabOf else slabAt (L++(s::R)) q:=by
 rw[yR L (frs x++_),yR L (s::R)]
 by_cases c1:q<plen L
 .rw[dB c1,dB c1,dA (by omega)]
 .rw[dA c1,dA c1,Xp,vF,vF,Xp,hs]
  simp only
  by_cases c2:q-plen L<x
  .rw[dB c2,dA (by omega),dB (by omega)];rfl
  .rw[dA c2]
   by_cases c3:q-plen L-x<k
   .rw[dB c3,dB (by omega)]
   .rw[dA c3,dA (show ¬ (plen L+x<=q/\q<plen L+x+k)by omega)]
    by_cases c4:q-plen L-x-k<y
    .rw[dB c4,dB (by omega)];rfl
    .rw[dA c4,dA (by omega)];congr 1;omega
theorem xkV{L R:List Sg}{s:Sg}{x k y:Nat}{kd:Kd}(hs:s.kd = .free)(hl:x+k+y=s.len)(hk:1<=k)(q:Nat) :
  runAt (L++(frs x++(⟨k,kd⟩::(frs y++R)))) q=if q=plen L+x/\kd = .run then some k else runAt (L++(s::R)) q:=by
 rw[vj L (frs x++_),vj L (s::R)]
 by_cases c1:q<plen L
 .rw[dB c1,dB c1,dA (by omega)]
 .rw[dA c1,dA c1,WY,vG,vG,WY,hs]
  simp only
  by_cases c2:q-plen L<x
  .rw[dB c2,dA (by omega),dB (by omega),dA (by rintro ⟨_,hh⟩;cases hh)]
  .rw[dA c2]
   by_cases c3:q-plen L-x<k
   .rw[dB c3,dB (show q-plen L<s.len by omega),dA (show ¬ (q-plen L=0/\Kd.free=Kd.run)by rintro ⟨_,hh⟩;cases hh)]
    by_cases c4:q=plen L+x
    .have e:q-plen L-x=0:=by omega
     by_cases oo:kd = .run
     .rw[dB ⟨e,oo⟩,dB ⟨c4,oo⟩]
     .rw[dA (fun hh=>oo hh.2),dA (fun hh=>oo hh.2)]
    .rw[dA (by omega),dA (fun hh=>c4 hh.1)]
   .rw[dA c3,dA (show ¬ (q=plen L+x/\kd = .run)from fun hh=>by omega)]
    by_cases c4:q-plen L-x-k<y
    .rw[dB c4,dB (show q-plen L<s.len by omega),dA (show ¬ (q-plen L=0/\Kd.free=Kd.run)by rintro ⟨_,hh⟩;cases hh)]
    .rw[dA c4,dA (by omega)];congr 1;omega
theorem xdZ{L0 R0:List Sg}{s:Sg}{b a:Nat}(q:Nat) :
  slabAt (L0++(⟨b+s.len+a,.free⟩::R0)) q=if plen L0+b<=q/\q<plen L0+b+s.len then none else slabAt (L0++(frs b++(s::(frs a++R0)))) q:=by
 rw[yR L0 (_::R0),yR L0 (frs b++_)]
 by_cases c1:q<plen L0
 .rw[dB c1,dB c1,dA (by omega)]
 .rw[dA c1,dA c1,vF,Xp,vF,Xp]
  simp only
  by_cases c2:q-plen L0<b
  .rw[dB (by omega),dA (by omega),dB c2];rfl
  .by_cases c3:q-plen L0-b<s.len
   .rw[dB (by omega),dB (by omega)];rfl
   .rw[dA (show ¬ (plen L0+b<=q/\q<plen L0+b+s.len)by omega),dA c2,dA c3]
    by_cases c4:q-plen L0-b-s.len<a
    .rw[dB (by omega),dB c4];rfl
    .rw[dA (by omega),dA c4];congr 1;omega
theorem xip{L0 R0:List Sg}{s:Sg}{b a:Nat}(q:Nat) :
  runAt (L0++(⟨b+s.len+a,.free⟩::R0)) q=if plen L0+b<=q/\q<plen L0+b+s.len then none else runAt (L0++(frs b++(s::(frs a++R0)))) q:=by
 have Hc : ∀z:Nat,¬ (z=0/\Kd.free=Kd.run):=by rintro z ⟨_,hh⟩;cases hh
 rw[vj L0 (_::R0),vj L0 (frs b++_)]
 by_cases c1:q<plen L0
 .rw[dB c1,dB c1,dA (by omega)]
 .rw[dA c1,dA c1,vG,WY,vG,WY]
  simp only[dA (Hc _)]
  by_cases c2:q-plen L0<b
  .rw[dB (show q-plen L0<b+s.len+a by omega),dA (by omega),dB c2]
  .by_cases c3:q-plen L0-b<s.len
   .rw[dB (show q-plen L0<b+s.len+a by omega),dB (by omega)]
   .rw[dA (show ¬ (plen L0+b<=q/\q<plen L0+b+s.len)by omega),dA c2,dA c3]
    by_cases c4:q-plen L0-b-s.len<a
    .rw[dB (show q-plen L0<b+s.len+a by omega),dB c4]
    .rw[dA (show ¬q-plen L0<b+s.len+a by omega),dA c4];congr 1;omega
theorem xst(m:Nat):Norm (frs m):=by unfold frs;split<;>simp[Norm,firstFree]
theorem xsu{L R:List Sg}{s:Sg}{x k y:Nat}{kd:Kd}(hN:Norm (L++(s::R)))(hs:s.kd = .free)(oo:kd ≠ .free):Norm (L++(frs x++(⟨k,kd⟩::(frs y++R)))):=by
 obtain⟨h1,h2,h3⟩:=(xO _ _).1 hN
 have hl:yh L=false:=by
  cases hh:yh L with
  | false=>rfl
  | true=>have:=h3 hh;simp[firstFree,hs]at this
 have hr:firstFree R=false:=h2.1 hs
 have K5 : ¬ ((⟨k,kd⟩:Sg).kd = .free):=oo
 refine(xO _ _).2 ⟨h1,(xO _ _).2 ⟨xst x,⟨fun hh=>absurd hh K5,(xO _ _).2 ⟨xst y,h2.2,fun _=>hr⟩⟩,fun _=>by simp[firstFree,oo]⟩,fun hh=>by rw[hl]at hh;cases hh⟩
theorem xkW{L0 R0:List Sg}{m:Nat}(h1:Norm L0)(h2:Norm R0)(hl:yh L0=false)(hr:firstFree R0=false):Norm (L0++(⟨m,.free⟩::R0)):=
 (xO _ _).2 ⟨h1,⟨fun _=>hr,h2⟩,fun hh=>by rw[hl]at hh;cases hh⟩
theorem xkX{n:Nat}{A:AS}{L R:List Sg}{k:Nat}{kd kd':Kd}(h:Laid n A (L++(⟨k,kd⟩::R)))(h1:kd ≠ .free)(h2:kd' ≠ .free)(bl:(⟨k,kd'⟩:Sg).ok):Laid n (A.set 7 (plen L) (kd'.head k)) (L++(⟨k,kd'⟩::R)):=by
 refine⟨by have:=h.len;simpa[xz,xP]using this,fun z hz =>?_,fun p hp =>?_,fun b hb =>?_⟩
 .simp only[List.mem_append,List.mem_cons]at hz
  rcases hz with hz|rfl|hz
  .exact h.ok z (by simp[hz])
  .exact bl
  .exact h.ok z (by simp[hz])
 .have hw:=h.w p hp
  rw[yt]
  rw[yg,vi]at hw |-
  simp only at hw |-
  have iw:=bl.1
  simp only at iw
  by_cases c1:p=plen L
  .rw[dB c1,dA (by omega),c1,Nat.sub_self,dB (by omega)];rfl
  .rw[dA c1,hw]
   by_cases c2:p<plen L
   .rw[dB c2,dB c2]
   .rw[dA c2,dA c2]
    by_cases c3:p-plen L<k
    .rw[dB c3,dB c3,WU (s:=⟨k,kd⟩) (h.ok _ (by simp)) h1 (by omega),WU bl h2 (by omega)]
    .rw[dA c3,dA c3]
 .rw[xV A _ _ (show 3≠7 by decide),h.bins b hb]
  simp only[kz,cntF]
  rw[dA (fun hh=>h1 hh.1),dA (fun hh=>h2 hh.1)]
def qC(c:Nat):Nat:=2 ^ blc c-2
theorem xzI : ∀c:Nat,c<4->qC c<2 ^ blc c/\(∀j:Nat,j<blc c->(qC c).testBit j=decide (j≠0)):=by decide
theorem Xq{S S':List Sg}(h : ∀p x,slabAt S p=some x->slabAt S' p=some x){g c:Nat}(hb:isBlk S g c):isBlk S' g c:=by
 obtain⟨p,o,j,h1,h2,h3⟩:=hb
 exact⟨p,o,j,h p _ h1,h2,h3⟩
section
variable{n t:Nat}{A:AS}{held:Nat->Option HK}{S:List Sg}{mp vr:Nat->Nat}{rem bag:Nat->List Nat}{pl:List Nat}
theorem HI.nowhere(h:HI n t A held S mp vr rem bag pl){p g:Nat}(hg:g / 8=p)(hs:slabAt S p=none)(hr:runAt S p=none):held g=none/\cntR (A.w 12) (8*t) ((g+1:Nat):Int)=0/\cntR (A.w 18) (8*nodesN n t) ((g+1:Nat):Int)=0/\ ∀c,¬isBlk S g c:=by
 have bg : ∀c,¬isBlk S g c:=by
  intro c hb
  obtain⟨o,j,h1,_⟩:=yj hb
  rw[hg,hs]at h1;cases h1
 refine⟨?_,jg fun i hi hv =>?_,jg fun i hi hv =>?_,bg⟩
 .cases hh:held g with
  | none=>rfl
  | some x=>
   cases x with
   | blk c=>exact absurd (h.hblk g c hh) (bg c)
   | run k=>
    obtain⟨_,h2⟩:=(h.hrun g k).1 hh
    rw[hg,hr]at h2;cases h2
 .rcases h.cach i hi with h0|⟨g',h1,h2⟩
  .rw[h0]at hv;omega
  .rw[h1]at hv;obtain rfl:g'=g:=by omega
   exact bg _ h2
 .have e2:i=(i / 8+1-1)*8+i%8:=by omega
  rcases h.item (i / 8+1) (i%8) (by omega) (by omega) (by omega)with h0|⟨x,g',_,_,h1,h2⟩
  .rw[<- e2,hv]at h0;omega
  .rw[<- e2,hv]at h1;obtain rfl:g=g':=by omega
   exact bg _ h2
theorem HI.fresh(h:HI n t A held S mp vr rem bag pl){A':AS}{S':List Sg}{p c o v:Nat}(hp:p<n)(hc:c<4)(hv:v<4294967296)(hs:slabAt S p=none)(hr:runAt S p=none)(Dg:rem p = [])
  (hl:Laid n A' S') (hN:Norm S') (hd : ∀s∈S',s.kd ≠ .dfr) (d8 : ∀q,slabAt S' q=if q=p then some (c,o)else slabAt S q) (gu : ∀q,runAt S' q=runAt S q)
  (hw : ∀r i,(r=1/\i=0)\/r=4\/(8<=r/\r<=10)\/r=12\/r=13\/(15<=r/\r<=18)->A'.w r i=if r=8/\i=p then btw (qC c) c v else A.w r i) :
  held (8*p)=none/\HI n t A' (upd held (8*p) (some (.blk c))) S' (updN mp p (qC c)) (updN vr p v) rem bag pl:=by
 have e : ∀r,(r=9\/r=10\/r=12\/r=13\/r=17\/r=18)->A'.w r=A.w r:=fun r hr=>funext fun i=>by rw[hw r i (by omega),dA (by omega)]
 have e1:A'.w 1 0=A.w 1 0:=by rw[hw 1 0 (by omega),dA (by omega)]
 have e4:A'.w 4 0=A.w 4 0:=by rw[hw 4 0 (by omega),dA (by omega)]
 have e8 : ∀q,A'.w 8 q=if q=p then btw (qC c) c v else A.w 8 q:=fun q=>by
  rw[hw 8 q (by omega)]
  by_cases hq:q=p
  .rw[dB ⟨rfl,hq⟩,dB hq]
  .rw[dA (fun hh=>hq hh.2),dA hq]
 obtain⟨nu,br⟩:=xzI c hc
 have rf : ∀q x,slabAt S q=some x->slabAt S' q=some x:=fun q x hx=>by
  rw[d8,dA (fun hh=>by rw[hh,hs]at hx;cases hx)];exact hx
 have Qq:0<blc c:=blc_pos hc
 have P3:=(h.nowhere (g:=8*p) (by omega) hs hr).1
 refine⟨P3,hl,hN,hd,by rw[e1];exact h.ep,fun q hq =>?_,fun q d o' hq =>?_,fun q hq fo =>?_,by rw[e 9 (by omega),e 10 (by omega)];exact h.remw,fun q hq g hg =>?_,fun i hi =>?_,by rw[e 13 (by omega),e 17 (by omega)];exact h.bagw,h.bagn,h.bagd,fun m k h1 h2 h3 =>?_,by rw[e4,e 17 (by omega)];exact h.polw,h.poln,fun g d hg =>?_,fun g k =>?_,fun q d o' j hq hj =>?_,h.gon.of (fun i=>by rw[hw 15 i (by omega),dA (by omega)]) (fun i=>by rw[hw 16 i (by omega),dA (by omega)])⟩
 .by_cases bf:q=p
  .simp only[updN,dB bf];exact hv
  .simp only[updN,dA bf];exact h.ver q hq
 .rw[e8]
  rw[d8]at hq
  by_cases bf:q=p
  .rw[dB bf]at hq;cases hq
   simp only[updN,dB bf]
   exact⟨nu,trivial⟩
  .rw[dA bf]at hq
   simp only[updN,dA bf];exact h.bitS q d o' hq
 .rw[d8]at fo
  have bf:q≠p:=fun hh=>by rw[dB hh]at fo;cases fo
  rw[dA bf]at fo
  rw[e8,dA bf]
  simp only[updN,dA bf];exact h.bitN q hq fo
 .obtain⟨g1,d,g2⟩:=h.remb q hq g hg
  exact⟨g1,d,Xq rf g2⟩
 .rw[e 12 (by omega)]
  rcases h.cach i hi with h0|⟨g,h1,h2⟩
  .exact .inl h0
  .exact .inr ⟨g,h1,Xq rf h2⟩
 .rw[e 18 (by omega)]
  rcases h.item m k h1 h2 h3 with h0|⟨x,g,hx,mh,h4,h5⟩
  .exact .inl h0
  .exact .inr ⟨x,g,hx,mh,h4,Xq rf h5⟩
 .by_cases lx:g=8*p
  .rw[lx,xC]at hg;cases hg
   exact⟨p,o,0,by rw[d8,dB rfl],Qq,by omega⟩
  .rw[upd_ne _ _ lx]at hg
   exact Xq rf (h.hblk g d hg)
 .rw[gu]
  by_cases lx:g=8*p
  .rw[lx,xC,show 8*p / 8=p by omega,hr];simp
  .rw[upd_ne _ _ lx];exact h.hrun g k
 .rw[e 12 (by omega),e 18 (by omega)]
  rw[d8]at hq
  have an:=yi hj
  by_cases bf:q=p
  .rw[dB bf]at hq;cases hq
   subst bf
   obtain⟨n1,n2,n3,_⟩:=h.nowhere (g:=8*q+j*(c+1)) (by omega) hs hr
   simp only[updN,if_true]
   rw[n2,n3,Dg,br j hj]
   by_cases Ha:j=0
   .subst Ha
    rw[show 8*q+0*(c+1)=8*q by omega,xC]
    simp[b2n]
   .have aq:8*q+j*(c+1)≠8*q:=by
     have:0<j*(c+1):=Nat.mul_pos (by omega) (by omega)
     omega
    rw[upd_ne _ _ aq,n1]
    simp[b2n,Ha]
  .rw[dA bf]at hq
   simp only[updN,dA bf]
   rw[upd_ne _ _ (by omega)]
   exact h.tok q d o' j hq hj
theorem HI.retire(h:HI n t A held S mp vr rem bag pl){A':AS}{S':List Sg}{p c o v:Nat}(hs:slabAt S p=some (c,o))(hv:v<4294967296)(rj : ∀j,j<blc c->(mp p).testBit j=true)
  (hl:Laid n A' S') (hN:Norm S') (hd : ∀s∈S',s.kd ≠ .dfr) (d8 : ∀q,slabAt S' q=if q=p then none else slabAt S q) (gu : ∀q,runAt S' q=runAt S q)
  (hw : ∀r i,(r=1/\i=0)\/r=4\/(8<=r/\r<=10)\/r=12\/r=13\/(15<=r/\r<=18)->A'.w r i=if r=8/\i=p then bt0 v else A.w r i):HI n t A' held S' mp (updN vr p v) rem bag pl:=by
 have e : ∀r,(r=9\/r=10\/r=12\/r=13\/r=17\/r=18)->A'.w r=A.w r:=fun r hr=>funext fun i=>by rw[hw r i (by omega),dA (by omega)]
 have e1:A'.w 1 0=A.w 1 0:=by rw[hw 1 0 (by omega),dA (by omega)]
 have e4:A'.w 4 0=A.w 4 0:=by rw[hw 4 0 (by omega),dA (by omega)]
 have e8 : ∀q,A'.w 8 q=if q=p then bt0 v else A.w 8 q:=fun q=>by
  rw[hw 8 q (by omega)]
  by_cases hq:q=p
  .rw[dB ⟨rfl,hq⟩,dB hq]
  .rw[dA (fun hh=>hq hh.2),dA hq]
 have fu : ∀ {g d:Nat},isBlk S g d->g / 8=p->held g=none/\cntR (A.w 12) (8*t) ((g+1:Nat):Int)=0/\cntR (A.w 18) (8*nodesN n t) ((g+1:Nat):Int)=0/\(rem p).count g=0:=by
  intro g d hb lx
  obtain⟨q,o',j,h1,h2,h3,h4⟩:=h.places hb
  have:=yi h2
  obtain rfl:q=p:=by omega
  rw[hs]at h1;cases h1
  rw[rj j h2,show b2n true=1 from rfl]at h4
  exact⟨isSome_none (by omega),by omega,by omega,by omega⟩
 have Ec : ∀ {g d:Nat},isBlk S g d->g / 8≠p->isBlk S' g d:=by
  rintro g d ⟨q,o',j,h1,h2,rfl⟩ lx
  have:=yi h2
  exact⟨q,o',j,by rw[d8,dA (by omega)];exact h1,h2,rfl⟩
 refine⟨hl,hN,hd,by rw[e1];exact h.ep,fun q hq =>?_,fun q d o' hq =>?_,fun q hq fo =>?_,by rw[e 9 (by omega),e 10 (by omega)];exact h.remw,fun q hq g hg =>?_,fun i hi =>?_,by rw[e 13 (by omega),e 17 (by omega)];exact h.bagw,h.bagn,h.bagd,fun m k h1 h2 h3 =>?_,by rw[e4,e 17 (by omega)];exact h.polw,h.poln,fun g d hg =>?_,fun g k=>by rw[gu];exact h.hrun g k,fun q d o' j hq hj =>?_,h.gon.of (fun i=>by rw[hw 15 i (by omega),dA (by omega)]) (fun i=>by rw[hw 16 i (by omega),dA (by omega)])⟩
 .by_cases bf:q=p
  .simp only[updN,dB bf];exact hv
  .simp only[updN,dA bf];exact h.ver q hq
 .rw[d8]at hq
  have bf:q≠p:=fun hh=>by rw[dB hh]at hq;cases hq
  rw[dA bf]at hq
  rw[e8,dA bf]
  simp only[updN,dA bf];exact h.bitS q d o' hq
 .rw[d8]at fo
  rw[e8]
  by_cases bf:q=p
  .simp only[updN,dB bf]
  .rw[dA bf]at fo
   simp only[updN,dA bf];exact h.bitN q hq fo
 .obtain⟨g1,d,g2⟩:=h.remb q hq g hg
  refine⟨g1,d,Ec g2 fun lx =>?_⟩
  have:=(fu g2 lx).2.2.2
  rw[<- lx,g1]at this
  exact absurd (List.count_pos_iff.2 hg) (by omega)
 .rw[e 12 (by omega)]
  rcases h.cach i hi with h0|⟨g,h1,h2⟩
  .exact .inl h0
  .refine .inr ⟨g,h1,Ec h2 fun lx =>?_⟩
   exact xkN (fu h2 lx).2.1 hi h1
 .rw[e 18 (by omega)]
  rcases h.item m k h1 h2 h3 with h0|⟨x,g,hx,mh,h4,h5⟩
  .exact .inl h0
  .refine .inr ⟨x,g,hx,mh,h4,Ec h5 fun lx =>?_⟩
   exact xkN (fu h5 lx).2.2.1 (show(m-1)*8+k<8*nodesN n t by omega) h4
 .have hb:=h.hblk g d hg
  exact Ec hb fun lx=>by have:=(fu hb lx).1;rw[hg]at this;cases this
 .rw[e 12 (by omega),e 18 (by omega)]
  rw[d8]at hq
  have bf:q≠p:=fun hh=>by rw[dB hh]at hq;cases hq
  rw[dA bf]at hq
  exact h.tok q d o' j hq hj
end
end
section
open Go Go.RowKit Lx
theorem Kw{σ β:Type}(N:Nat)(B:σ->(σ->T β)->T β)(i:σ):xu (N+1) B i=B i (xu N B):=rfl
theorem xkY : ∀ (S:List Sg) (q:Nat),(∀s∈S,s.ok/\s.kd ≠ .dfr/\s.len<=256)->q<plen S ->∃m,1<=m/\q+m<=plen S/\((pgOf (pageW S q)).kind==5)=false/\kE (pgOf (pageW S q)) = .ret (m:Int)
 | [],q,_,h=>by simp[plen]at h
 | s::l,q,bl,h=>by
  obtain⟨h1,h2,h3⟩:=bl s (by simp)
  rw[xP]at h |-
  rw[vi]
  by_cases hq:q<s.len
  .rw[dB hq]
   by_cases h0:q=0
   .subst h0
    obtain⟨g1,g2⟩:=xbt h1 h3
    rw[show s.word 0=s.kd.head s.len by rw[Sg.word,dB rfl]]
    refine⟨s.len,h1.1,by omega,?_,?_⟩
    .rw[g1];cases hk:s.kd<;>first|(exact absurd hk h2)|rfl
    .unfold kE xbK
     have hl:=h1.1
     rw[g1,g2,show((kindOf s.kd:Int)==0)=false by cases s.kd<;>rfl,show((kindOf s.kd:Int)==2)=false by cases s.kd<;>rfl,dA (by omega)]
     rfl
   .refine⟨1,by omega,by omega,?_⟩
    unfold Sg.word
    rw[dA h0]
    split
    .rw[vu 2 s.len 0 0 (by omega) (by omega) (by omega) (by omega)];exact⟨rfl,rfl⟩
    .unfold body
     rw[vu 0 0 0 0 (by omega) (by omega) (by omega) (by omega)];exact⟨rfl,rfl⟩
  .rw[dA hq]
   obtain⟨m,k1,k2,k3⟩:=xkY l (q-s.len) (fun x hx=>bl x (by simp[hx])) (by omega)
   exact⟨m,k1,by omega,k3⟩
theorem xsv{β:Type}(a0:Int)(g:Geo)(κ0:Int->T β)(i:Int×Int)(k:Int×Int->T β):XJ a0 g κ0 i k =
  bif decide (i.1<a0)then(.op (.load (atF g 8 i.1)) fun x=>bif (btOf x).has then(bif decide ((btOf x).cls<4)then(bif decide (0<=(btOf x).cls/\(btOf x).cls<4)then((xdl (btOf x) (bif (btOf x).cls==0 then 8 else bif (btOf x).cls==0+1 then 4 else bif (btOf x).cls==0+1+1 then 2 else(2:Int))).bind fun r5=>
   bif r5 then((jx g i.1).bind fun r7=>bif r7 then((yX g i.2 1).bind fun r9=>k (i64.wrap (i.1+1),r9.2))else k (i64.wrap (i.1+1),i.2))else k (i64.wrap (i.1+1),i.2))else .fail) else
   k (i64.wrap (i.1+1),i.2))else k (i64.wrap (i.1+1),i.2))else κ0 i.2:=by rfl
theorem xkZ : ∀c:Nat,c<4->(bif (c:Int)==0 then(8:Int)else bif (c:Int)==0+1 then(4:Int)else bif (c:Int)==0+1+1 then(2:Int)else(2:Int))=(blc c:Int):=by decide
theorem wrap_u32(v:Nat):u32.wrap ((v:Int)+1)=(((v+1)%4294967296:Nat):Int):=by
 rw[show u32.wrap ((v:Int)+1)=((v:Int)+1)%4294967296 from by simp[IntKind.wrap,IntKind.signed,IntKind.bits]];omega
section
variable{n t:Nat}(hf:Small n t){A:AS}{held:Nat->Option HK}{S:List Sg}{mp vr:Nat->Nat}{rem bag:Nat->List Nat}{pl:List Nat}
include hf
theorem xxo{me:Nat}(ah:me<t):u64.wrap (u64.wrap (me:Int)+1)=((me+1:Nat):Int):=by
 have:=hf.t2
 rw[dJ,dJ];omega
theorem xfq{me:Nat}(ah:me<t)(aa:A.self=(me:Int))(h0:A.w 0 0=0):(tryT (xd n t)).run (xo n t) A=some (true,(A.set 0 0 ((me+1:Nat):Int)).tick):=by
 unfold tryT xww
 simp only[T.run,xo,at0 hf.toFew,xK (show 0<Zr n t 0 by simp[Zr]) 19 (by omega),aa,xxo hf ah]
 rw[dB h0]
 rfl
theorem Zk{me:Nat}(ah:me<t)(aa:A.self=(me:Int))(h0:A.w 0 0=((me+1:Nat):Int)):(XC (xd n t)).run (xo n t) A=some (true,(A.set 0 0 0).tick):=by
 unfold XC xlJ
 simp only[T.run,xo,at0 hf.toFew,xK (show 0<Zr n t 0 by simp[Zr]) 19 (by omega),aa,xxo hf ah]
 rw[dB h0]
theorem xiq{o:Int}:(yX (xd n t) o 0).run (xo n t) A=some (((),o),A):=by
 unfold yX xah
 rfl
theorem qD{β:Type}{Q:β->AS->Prop}{κ0:Int->T β}{a0:Int} : ∀ (d:Nat) (N q:Nat) (c:Int) (A:AS) {L M:List Sg},Laid n A (L++M)->(∀s∈L,s.kd ≠ .dfr)->q+d=plen L->d<N->
  (∀N' A',N<=N'+d->Fr [] d A A'->Rn n t (xu N' (yY a0 (xd n t) (xd n t) κ0) (c,((plen L:Nat):Int))) A' Q)->Rn n t (xu N (yY a0 (xd n t) (xd n t) κ0) (c,(q:Int))) A Q:=by
 intro d
 induction d using Nat.strongRecOn with
 | _ d ih=>
  intro N q c A L M h hL hq hN hk
  by_cases hd:d=0
  .subst hd
   rw[show q=plen L by omega]
   exact hk N A (by omega) (Fr.refl [] A)
  .obtain⟨N1,rfl⟩ : ∃N1,N=N1+1:=⟨N-1,by omega⟩
   have hn:=hf.n2
   have af:=h.len
   rw[xz]at af
   obtain⟨m,m1,m2,m3,m4⟩:=xkY L q (fun s hs=>⟨h.ok s (by simp[hs]),hL s hs,by have:=xxh hs;omega⟩) (by omega)
   have hw:=h.w q (by omega)
   rw[yg,dB (by omega)]at hw
   rw[Kw]
   unfold yY
   refine Rn.yes (by rw[dT];show((q:Nat):Int)<((n:Nat):Int);omega) ?_
   refine Rn.run (WS hf.toFew (p:=q) (by omega)) ?_
   rw[hw]
   refine Rn.no m3 ?_
   show Rn n t ((kE (pgOf (pageW L q))).bind _) A.tick Q
   rw[m4]
   simp only[T.bind]
   rw[wrap_add hf.toFew (x:=q) (y:=m) (by omega)]
   exact ih (d-m) (by omega) N1 (q+m) c A.tick (h.of (fun _=>rfl) (fun _=>rfl)) hL (by omega) (by omega) fun N' A' hN' hA'=>hk N' A' (by omega) ((Fr.tick [] A).trans hA')
theorem xd0{β:Type}{Q:β->AS->Prop}{κ0:Int->T β}{a0:Int}{N:Nat}{c:Int}(hQ:Rn n t (κ0 c) A Q):Rn n t (xu (N+1) (yY a0 (xd n t) (xd n t) κ0) (c,(n:Int))) A Q:=by
 rw[Kw]
 unfold yY
 exact Rn.no (by rw[dF];show ¬ ((n:Nat):Int)<((n:Nat):Int);omega) hQ
theorem xbz(h:Laid n A S)(hS : ∀s∈S,s.kd ≠ .dfr):Rn n t (vM (xd n t)) A fun r A'=>r=0/\Fr [] 300 A A':=by
 have hn:=hf.n2
 unfold vM qO yZ
 refine qD hf (a0:=0) n xa 0 0 A (L:=S) (M :=[]) (by simpa using h) hS (by rw[h.len];omega) (by unfold xa;omega) fun N' A' hN' hA' =>?_
 rw[h.len]
 obtain⟨N1,rfl⟩ : ∃N1,N'=N1+1:=⟨N'-1,by unfold xa at hN';omega⟩
 exact xd0 hf (Rn.ret ⟨rfl,hA'.mono⟩)
theorem xsw{m c v:Nat}(hm:m<2 ^ blc c)(hc:c<4){b:Int}(hb:b=(blc c:Int)):(xdl ⟨(m:Int),true,(c:Int),(v:Int)⟩ b).run (xo n t) A=some (decide (m=2 ^ blc c-1),A):=by
 have M9:=xB1 hm
 have hx:=xor_ok m M9
 have h8:blc c<=8:=xoC
 subst hb
 unfold xdl xlU
 have e:(if IntKind.signed u8=true then -1 else Int.ofNat (2 ^ 8-1))=(255:Int):=rfl
 have e':(if IntKind.signed u8=true then -1 else IntKind.max u8)=(255:Int):=rfl
 simp only[e,e']
 rw[dC (show ¬ ((blc c:Int)>8)by omega),dD hx.1,dD hx.2,dA (show ¬ ((blc c:Int)<0)by omega),full_ok m M9 (blc c) (by omega) hm]
 rfl
theorem run_make{p c me v:Nat}(hp:p<n)(hc:c<4)(aa:A.self=(me:Int))(hv:v<4294967296)(hw:A.w 8 p=bt0 v):(xjN (xd n t) (p:Int) (c:Int)).run (xo n t) A =
  some (((8*p:Nat):Int),((A.set 7 p (pw 3 1 c me)).tick.tick.set 8 p (btw (qC c) c ((v+1)%4294967296))).tick):=by
 have hn:=hf.n2
 have key : ∀c:Nat,c<4 ->∀ (x:Int),xjN (xd n t) x (c:Int)=(isT (xd n t) x (c:Int)).bind fun r0=>bif !r0 then .ret (-1)else .op .self fun x3 =>.op (.store (atF (xd n t) 7 x) (Pg.word (Pg.mk 3 1 (c:Int) x3))) fun _=>(Vd (xd n t) x).bind fun r5=>
   .op (.store (atF (xd n t) 8 x) (Bt.word (Bt.mk (qC c:Int) true (c:Int) (u32.wrap (r5.ver+1))))) fun _ =>.ret (i64.wrap (i64.wrap (x*8)+0)):=by
  intro c hc x
  have zc:c=0\/c=1\/c=2\/c=3:=by omega
  rcases zc with rfl|rfl|rfl|rfl<;>rfl
 rw[key c hc,T.run_bind,xbx hf hp hc]
 have e1:i64.wrap (i64.wrap ((p:Int)*8)+0)=((8*p:Nat):Int):=by
  rw[show(p:Int)*8=((8*p:Nat):Int)by omega,wN _ (by omega),Int.add_zero,wN _ (by omega)]
 have e2:((A.set 7 p (Pg.word (Pg.mk 3 1 (c:Int) (me:Int)))).tick).w 8 p=bt0 v:=by simpa using hw
 have e3:(btOf (bt0 v)).ver=(v:Int):=by rw[xim hv]
 have e4:=wrap_u32 v
 simp only[cond_false,Bool.not_true,T.run,T.run_bind,xo,aa,at7 hf.toFew hp,at8 hf.toFew hp,xK (show p<Zr n t 7 from hp) 19 (by omega),xK (show p<Zr n t 8 from hp) 19 (by omega),WX hf hp,e1,e2,e3,e4]
 rfl
theorem xk0{me o c:Nat}(ho:o<=100000000)(hc:c<4)(ah:me<t)(aa:A.self=(me:Int))(h0:A.w 0 0=0)(h:HI n t A held S mp vr rem bag pl):Rn n t (xck (xd n t) (o:Int) (c:Int)) A fun r A'=>
  r.1.e=0/\A'.w 0 0=0/\((∃ (g:Nat) (S':List Sg) (bm fq:Nat->Nat),r.1.ok=true/\r.1.grain=(g:Int)/\r.2=((o+1:Nat):Int)/\held g=none/\HI n t A' (upd held g (some (.blk c))) S' bm fq rem bag pl/\A'.w 1 0=u64.wrap (A.w 1 0+1)/\Fr [0,1,3,7,8] 2000 A A')\/
   (r.1.ok=false/\r.2=(o:Int)/\Fr [0] 2000 A A'/\kF 1 1 0 S)):=by
 have hn:=hf.n2
 have zj:=hf.t2
 unfold xck xeE
 refine Rn.run (xfq hf ah aa h0) (Rn.no rfl ?_)
 have ag:Fr [0] 1 A (A.set 0 0 ((me+1:Nat):Int)).tick:=Fr.sett A _ (by simp)
 have fg:(A.set 0 0 ((me+1:Nat):Int)).tick.w 0 0=((me+1:Nat):Int):=by simp
 generalize(A.set 0 0 ((me+1:Nat):Int)).tick=A1 at *
 have h1:HI n t A1 held S mp vr rem bag pl:=h.fr ag (by simp)
 have cq:A1.self=(me:Int):=by rw[ag.self,aa]
 refine Rn.bind (xii hf.toFew h1.laid (k:=1) (a:=1) (by omega) hf.n1 (by omega) (by omega)) ?_
 rintro r A2 (⟨rfl,ae,bg⟩|⟨L,s,R,rfl,eg,rfl,ae,fp⟩)
 .refine Rn.no rfl ?_
  refine Rn.run (Zk hf (A:=A2) ah (by rw[ae.self,cq]) (by rw[ae.w 0 (by simp),fg])) (Rn.ret ⟨rfl,by simp,.inr ⟨rfl,rfl,?_,bg⟩⟩)
  exact(ag.trans ae (S :=[0]) (e:=301)).trans (Fr.sett (R :=[0]) A2 _ (by simp))
 .refine Rn.yes rfl ?_
  simp only
  obtain⟨Db,D8⟩:=eg
  have Gb:=xxi (plen L) (min 1 256) (by omega)
  generalize up (plen L) (min 1 256)=p at *
  have af:=h.laid.len
  rw[xz,xP]at af
  have hp:p<n:=by omega
  have Da:slabAt (L++s::R) p=none:=by
   rw[yR,dA (by omega),vF,dB (by omega),Db];rfl
  have Jt:runAt (L++s::R) p=none:=by
   rw[vj,dA (by omega),vG,dB (by omega),Db,dA (by rintro ⟨_,hh⟩;cases hh)]
  have Dg:=xsr hf h hp Da
  have Ow:A2.w 8 p=bt0 (vr p):=by rw[ae.w 8 (by simp),h1.bitN p hp Da]
  have hv:=h.ver p hp
  refine Rn.run (run_make hf hp hc (by rw[ae.self,cq]) hv Ow) ?_
  have bw:plen (L++frs (p-plen L))=p:=by rw[xz,yM];omega
  have sm:=xkX (kd' :=.slab c me) (L:=L++frs (p-plen L)) (k:=1) (kd :=.run) (R:=frs (plen L+s.len-p-1)++R) (by simpa using fp) (by simp) (by simp) ⟨by simp,fun c' o' hh=>by cases hh;exact⟨rfl,hc,by omega⟩⟩
  rw[bw,show(Kd.slab c me).head 1=pw 3 1 c me from rfl]at sm
  have ar:Fr [7,8] 3 A2 ((A2.set 7 p (pw 3 1 c me)).tick.tick.set 8 p (btw (qC c) c ((vr p+1)%4294967296))).tick:=
   ((Fr.sett (R :=[7,8]) A2 _ (by simp)).trans (Fr.tick [7,8] _) (S :=[7,8]) (e:=2)).trans (Fr.sett (R :=[7,8]) _ _ (by simp))
  have hH:=h1.fresh (A':=((A2.set 7 p (pw 3 1 c me)).tick.tick.set 8 p (btw (qC c) c ((vr p+1)%4294967296))).tick) (S':=(L++frs (p-plen L))++(⟨1,.slab c me⟩::(frs (plen L+s.len-p-1)++R))) (p:=p) (c:=c) (o:=me) (v:=(vr p+1)%4294967296) hp hc (Nat.mod_lt _ (by omega)) Da Jt Dg
   (sm.of (fun i=>by simp) (fun i=>by simp)) (by rw[List.append_assoc];exact xsu h.norm Db (by simp)) (fun x hx =>?_) (fun q =>?_) (fun q =>?_) (fun r i hr =>?_)
  .obtain⟨ou,hH⟩:=hH
   have zl:=ar.self
   rw[ae.self,cq]at zl
   have ny:=ar.w 0 (by simp) 0
   rw[ae.w 0 (by simp),fg]at ny
   have rk:=ar.w 1 (by simp) 0
   rw[ae.w 1 (by simp),ag.w 1 (by simp)]at rk
   generalize((A2.set 7 p (pw 3 1 c me)).tick.tick.set 8 p (btw (qC c) c ((vr p+1)%4294967296))).tick=A3 at *
   refine Rn.run (ji hf (A:=A3) (o:=(o:Int)) (k:=1) (by omega) (by omega)) ?_
   refine Rn.run (Zk hf ah (by simpa using zl) (by simpa using ny)) (Rn.ret ⟨rfl,by simp,.inl ⟨8*p,_,_,_,rfl,rfl,?_,ou,(hH.moved hf (A3.w 1 0+((1:Nat):Int))).same fun r i hr =>?_,?_,?_⟩⟩)
   .simp only;rw[dJ];omega
   .simp only[AS.tick_w,AS.set_w];rw[dA (by omega)]
   .simp[rk]
   .refine((((ag.trans ae (S :=[0,3,7]) (e:=1001)).trans ar (S :=[0,3,7,8]) (e:=1004)).trans (Fr.sett (R :=[1]) A3 _ (by simp)) (S :=[0,1,3,7,8]) (e:=1005)).trans (Fr.sett (R :=[0]) _ _ (by simp)))
  .simp only[List.append_assoc,List.mem_append,List.mem_cons]at hx
   rcases hx with hx|hx|rfl|hx|hx
   .exact h.nodf x (by simp[hx])
   .rw[(xc5 hx).2];simp
   .simp
   .rw[(xc5 hx).2];simp
   .exact h.nodf x (by simp[hx])
  .rw[List.append_assoc,xio Db (by omega)]
   by_cases hq:q=p
   .rw[dB (by omega),dB hq];rfl
   .rw[dA (by omega),dA hq]
  .rw[List.append_assoc,xkV Db (by omega) (by omega),dA (by rintro ⟨_,hh⟩;cases hh)]
  .simp only[AS.tick_w,AS.set_w]
   by_cases h8:r=8/\i=p
   .rw[dB h8,dB h8]
   .rw[dA h8,dA h8,dA (by omega),ae.w r (by simp;omega)]
theorem xsx{p c o:Nat}(h:HI n t A held S mp vr rem bag pl)(hs:slabAt S p=some (c,o))(rj:mp p=2 ^ blc c-1):Rn n t (jx (xd n t) (p:Int)) A fun r A'=>
  r=true/\ ∃ (S':List Sg) (fq:Nat->Nat),HI n t A' held S' mp fq rem bag pl/\(∀q,slabAt S' q=if q=p then none else slabAt S q)/\Fr [3,7,8] 60 A A':=by
 have hn:=hf.n2
 obtain⟨hp,hc,hm,hv,hw⟩:=wz hf h hs
 have om:=(h.bitS p c o hs).1
 have gu:=yN hs
 obtain⟨L,R,rfl,bw⟩:=kW S p c o h.laid.ok hs
 unfold jx YR
 refine Rn.run (xbx hf hp (k:=0) (by omega)) (Rn.no rfl ?_)
 refine Rn.run (WX hf hp) ?_
 rw[hw,Yo hm hc hv]
 refine Rn.no rfl (Rn.no (by rw[dF];simp only;omega) (Rn.yes (by rw[dT];simp only;omega) ?_))
 refine Rn.run (xsw hf om hc (xkZ c hc)) ?_
 refine Rn.no (by rw[dD rj];rfl) ?_
 rw[wrap_u32]
 refine Rn.run (xc8 hf (A:=A.tick) hp (by rw[AS.tick_w,hw];rfl)) (Rn.yes rfl ?_)
 have fp:Laid n ((A.tick.set 8 p (Bt.word ⟨0,false,0,(((vr p+1)%4294967296:Nat):Int)⟩)).tick) (L++(⟨1,.slab c o⟩::R)):=h.laid.of (fun i=>by simp) (fun i=>by simp)
 have ae:Fr [8] 2 A ((A.tick.set 8 p (Bt.word ⟨0,false,0,(((vr p+1)%4294967296:Nat):Int)⟩)).tick):=(Fr.tick [8] A).trans (Fr.sett (R :=[8]) _ _ (by simp))
 have oj : ∀r i,((A.tick.set 8 p (Bt.word ⟨0,false,0,(((vr p+1)%4294967296:Nat):Int)⟩)).tick).w r i=if r=8/\i=p then bt0 ((vr p+1)%4294967296)else A.w r i:=fun r i=>rfl
 generalize(A.tick.set 8 p (Bt.word ⟨0,false,0,(((vr p+1)%4294967296:Nat):Int)⟩)).tick=A2 at *
 have G4:=xkM hf.toFew fp h.norm (by simp)
 rw[bw]at G4
 refine Rn.bind G4 ?_
 rintro r A3 ⟨rfl,ar,L0,b,a,R0,rfl,rfl,ms,df,ny⟩
 obtain⟨hN1,hN2,_⟩:=(xO _ _).1 h.norm
 have hNL:=((xO _ _).1 hN1).1
 have hNR:=((xO _ _).1 hN2.2).2.1
 have M2:plen L0+b=p:=by rw[<- bw,xz,yM]
 have eS:L0++frs b++(⟨1,.slab c o⟩::(frs a++R0))=L0++(frs b++(⟨1,.slab c o⟩::(frs a++R0))):=List.append_assoc _ _ _
 have d8 : ∀q,slabAt (L0++(⟨b+1+a,.free⟩::R0)) q=if q=p then none else slabAt (L0++frs b++(⟨1,.slab c o⟩::(frs a++R0))) q:=fun q=>by
  have:=xdZ (L0:=L0) (R0:=R0) (s:=⟨1,.slab c o⟩) (b:=b) (a:=a) q
  simp only at this
  rw[this,eS]
  by_cases hq:q=p
  .rw[dB (by omega),dB hq]
  .rw[dA (by omega),dA hq]
 refine Rn.ret ⟨rfl,_,_,h.retire hs (v:=(vr p+1)%4294967296) (Nat.mod_lt _ (by omega)) (fun j hj =>?_) ny (xkW hNL hNR ms df) (fun x hx =>?_) d8 (fun q =>?_) (fun r i hr =>?_),d8,ae.trans ar⟩
 .rw[rj,Nat.testBit_two_pow_sub_one];simpa using hj
 .simp only[List.mem_append,List.mem_cons]at hx
  rcases hx with hx|rfl|hx
  .exact h.nodf x (by simp[hx])
  .simp
  .exact h.nodf x (by simp[hx])
 .have:=xip (L0:=L0) (R0:=R0) (s:=⟨1,.slab c o⟩) (b:=b) (a:=a) q
  simp only at this
  rw[this,eS]
  by_cases hq:q=p
  .rw[dB (by omega),hq,<- eS,gu]
  .rw[dA (by omega)]
 .rw[ar.w r (by simp;omega),oj]
theorem xsy{o:Nat}(ho:o<=100000000)(h:HI n t A held S mp vr rem bag pl):Rn n t (qQ (xd n t) (o:Int)) A fun r A'=>
  ∃ (S':List Sg) (fq:Nat->Nat) (k:Nat),k<=256/\r=((),((o+k:Nat):Int))/\HI n t A' held S' mp fq rem bag pl/\(∀q c ow,slabAt S' q=some (c,ow)->mp q≠2 ^ blc c-1)/\A'.w 1 0=u64.wrap (A.w 1 0+(k:Int))/\Fr [1,3,7,8] 30000 A A':=by
 have e0:A.w 1 0=u64.wrap (A.w 1 0+((0:Nat):Int)):=by have:=h.ep;rw[dJ];omega
 have hn:=hf.n2
 unfold qQ YY vA
 refine Rn.loop (fun r i A1 =>∃ (p k:Nat) (S':List Sg) (fq:Nat->Nat),i=((p:Int),((o+k:Nat):Int))/\p<=n/\r=n-p/\k<=p/\HI n t A1 held S' mp fq rem bag pl/\(∀q c ow,q<p->slabAt S' q=some (c,ow)->mp q≠2 ^ blc c-1)/\A1.w 1 0=u64.wrap (A.w 1 0+(k:Int))/\Fr [1,3,7,8] (80*p) A A1) ?_ xa n _ A (by unfold xa;omega)
  ⟨0,0,S,vr,rfl,by omega,rfl,by omega,h,fun x _ _ hx=>by omega,e0,(Fr.refl [] A).mono⟩
 rintro r i A1 κ' ⟨p,k,S1,Ax,rfl,Fh,rfl,hk,h1,hz,he,ao⟩ ap
 rw[xsv]
 simp only
 by_cases hp:p<n
 .refine Rn.yes (by rw[dT];show((p:Nat):Int)<((n:Nat):Int);omega) ?_
  refine Rn.load (at8 hf.toFew hp) (by omega) hp ?_
  rw[xL hf.toFew (x:=p) (by omega)]
  cases hs:slabAt S1 p with
  | none=>
   have hw:=h1.bitN p hp hs
   rw[hw,xim (h1.ver p hp)]
   refine Rn.no rfl (ap (n-(p+1)) _ _ (by omega) ⟨p+1,k,S1,Ax,rfl,by omega,rfl,by omega,h1.same fun r i _=>rfl,fun q c ow hq fo =>?_,he,ao.trans (Fr.tick [] A1)⟩)
   by_cases bf:q=p
   .rw[bf,hs]at fo;cases fo
   .exact hz q c ow (by omega) fo
  | some x=>
   obtain⟨c,ow⟩:=x
   obtain⟨_,hc,hm,hv,hw⟩:=wz hf h1 hs
   have om:=(h1.bitS p c ow hs).1
   rw[hw,Yo hm hc hv]
   refine Rn.yes rfl (Rn.yes (by rw[dT];simp only;omega) (Rn.yes (by rw[dT];simp only;omega) ?_))
   refine Rn.run (xsw hf om hc (xkZ c hc)) ?_
   by_cases mw:mp p=2 ^ blc c-1
   .refine Rn.yes (dD mw) ?_
    refine Rn.bind (xsx hf (A:=A1.tick) (h1.same fun r i _=>rfl) hs mw) ?_
    rintro r A2 ⟨rfl,S2,D4,h2,un,ae⟩
    refine Rn.yes rfl ?_
    refine Rn.run (ji hf (A:=A2) (o:=((o+k:Nat):Int)) (k:=1) (by omega) (by omega)) ?_
    simp only
    rw[show u64.wrap (((o+k:Nat):Int)+((1:Nat):Int))=((o+(k+1):Nat):Int)by rw[dJ];omega]
    refine ap (n-(p+1)) _ _ (by omega) ⟨p+1,k+1,S2,D4,rfl,by omega,rfl,by omega,h2.moved hf _,fun q c' Ew hq fo =>?_,?_,((ao.trans (Fr.tick [] A1) (S :=[1,3,7,8]) (e:=80*p+1)).trans ae (S :=[1,3,7,8]) (e:=80*p+61)).trans (Fr.sett (R :=[1]) A2 _ (by simp))⟩
    .rw[un]at fo
     by_cases bf:q=p
     .rw[dB bf]at fo;cases fo
     .rw[dA bf]at fo
      exact hz q c' Ew (by omega) fo
    .simp only[AS.tick_w,AS.set_w,and_self,if_true]
     rw[ae.w 1 (by simp),AS.tick_w,he,dJ,dJ,dJ];omega
   .refine Rn.no (dC mw) (ap (n-(p+1)) _ _ (by omega) ⟨p+1,k,S1,Ax,rfl,by omega,rfl,by omega,h1.same fun r i _=>rfl,fun q c' Ew hq fo =>?_,he,ao.trans (Fr.tick [] A1)⟩)
    by_cases bf:q=p
    .subst bf;rw[hs]at fo;cases fo;exact mw
    .exact hz q c' Ew (by omega) fo
 .obtain rfl:p=n:=by omega
  refine Rn.no (by rw[dF];show ¬ ((p:Nat):Int)<((p:Nat):Int);omega) ?_
  refine Rn.ret ⟨S1,Ax,k,by omega,rfl,h1,fun q c ow fo=>hz q c ow ?_ fo,he,ao.mono⟩
  exact(wz hf h1 fo).1
end
end
section
open Go Go.RowKit Lx
theorem xxp : ∀ (S:List Sg) (p:Nat),p<plen S ->∃L s R,S=L++s::R/\plen L<=p/\p<plen L+s.len
 | [],p,h=>by simp[plen]at h
 | s::l,p,h=>by
  rw[xP]at h
  by_cases hp:p<s.len
  .exact⟨[],s,l,rfl,by simp[plen],by simp[plen];exact hp⟩
  .obtain⟨L,x,R,h1,h2,h3⟩:=xxp l (p-s.len) (by omega)
   exact⟨s::L,x,R,by rw[h1];rfl,by rw[xP];omega,by rw[xP];omega⟩
theorem ke{L R:List Sg}{s:Sg}{p:Nat}(h1:plen L<=p)(h2:p<plen L+s.len):slabAt (L++s::R) p=s.kd.slabOf:=by
 rw[yR,dA (by omega),vF,dB (by omega)]
theorem Zl{L R:List Sg}{s:Sg}{p:Nat}(h1:plen L<=p)(h2:p<plen L+s.len):runAt (L++s::R) p=if p=plen L/\s.kd = .run then some s.len else none:=by
 rw[vj,dA (by omega),vG,dB (by omega)]
 by_cases hp:p=plen L
 .by_cases hk:s.kd = .run
  .rw[dB ⟨by omega,hk⟩,dB ⟨hp,hk⟩]
  .rw[dA (fun hh=>hk hh.2),dA (fun hh=>hk hh.2)]
 .rw[dA (by omega),dA (fun hh=>hp hh.1)]
theorem Yq{k a:Nat} : ∀ {p:Nat} {L:List Sg} {s:Sg} {R:List Sg},kF k a p (L++s::R) ->¬xbu s (p+plen L) k a
 | p,[],s,R,h=>by simpa[plen]using h.1
 | p,x::l,s,R,h=>by
  have:=Yq (p:=p+x.len) (L:=l) h.2
  rw[xP,<- Nat.add_assoc];exact this
theorem kA : ∀ (S:List Sg) (p k:Nat),runAt S p=some k ->∃L R,S=L++(⟨k,.run⟩::R)/\plen L=p
 | [],p,k,h=>by cases h
 | s::l,p,k,h=>by
  rw[vG]at h
  by_cases hp:p<s.len
  .rw[dB hp]at h
   split at h
   .rename_i hc
    cases h
    obtain⟨len,kd⟩:=s
    obtain⟨h1,h2⟩:=hc
    simp only at h2
    subst h2
    exact⟨[],l,rfl,by simp[plen];exact h1.symm⟩
   .cases h
  .rw[dA hp]at h
   obtain⟨L,R,h1,h2⟩:=kA l _ k h
   exact⟨s::L,R,by rw[h1];rfl,by rw[xP,h2];omega⟩
def HK.ext:HK->Nat
 | .blk c=>c+1
 | .run k=>8*k
def Used(held:Nat->Option HK)(p:Nat):Prop:=(∃q k,held (8*q)=some (.run k)/\q<=p/\p<q+k)\/ ∃d j,d<4/\j<blc d/\held (8*p+j*(d+1))=some (.blk d)
section
variable{n t:Nat}{A:AS}{held:Nat->Option HK}{S:List Sg}{mp vr:Nat->Nat}{rem bag:Nat->List Nat}{pl:List Nat}
theorem HI.geo(h:HI n t A held S mp vr rem bag pl){g:Nat}{x:HK}(hg:held g=some x):match x with
  | .blk c=>c<4/\ ∃p j,p<n/\j<blc c/\g=8*p+j*(c+1)
  | .run k=>1<=k/\ ∃p,p+k<=n/\g=8*p:=by
 cases x with
 | blk c=>
  obtain⟨p,o,j,h1,h2,h3⟩:=h.hblk g c hg
  have h4:=WV h1
  rw[h.laid.len]at h4
  exact⟨(WW h.laid.ok h1).1,p,j,h4,h2,h3⟩
 | run k=>
  obtain⟨h1,h2⟩:=(h.hrun g k).1 hg
  obtain⟨L,R,rfl,h3⟩:=kA _ _ _ h2
  have h4:=(h.laid.ok ⟨k,.run⟩ (by simp)).1
  have h5:=h.laid.len
  rw[xz,xP]at h5
  simp only at h4 h5
  exact⟨h4,g / 8,by omega,by omega⟩
theorem HI.disj(h:HI n t A held S mp vr rem bag pl){g g':Nat}{x y:HK}(hg:held g=some x)(iy:held g'=some y)(aq:g<g'):g+x.ext<=g':=by
 cases x with
 | blk c=>
  obtain⟨p,o,j,h1,h2,rfl⟩:=h.hblk g c hg
  have hl:=yi h2
  simp only[HK.ext]
  by_cases hp:g' / 8=p
  .cases y with
   | blk d=>
    obtain⟨q,o',i,k1,k2,rfl⟩:=h.hblk g' d iy
    have:=yi k2
    obtain rfl:q=p:=by omega
    rw[h1]at k1;cases k1
    have rh:j<i:=by
     by_cases an:j<i
     .exact an
     .have:=Nat.mul_le_mul_right (c+1) (show i<=j by omega);omega
    have:=Nat.mul_le_mul_right (c+1) (show j+1<=i by omega)
    rw[Nat.add_mul]at this;omega
   | run k=>
    have:=((h.hrun g' k).1 iy).2
    rw[hp,yN h1]at this;cases this
  .omega
 | run k=>
  obtain⟨h1,h2⟩:=(h.hrun g k).1 hg
  simp only[HK.ext]
  by_cases an:g+8*k<=g'
  .exact an
  .exfalso
   obtain⟨L,R,rfl,h3⟩:=kA _ _ _ h2
   have hs:=ke (L:=L) (R:=R) (s:=⟨k,.run⟩) (p:=g' / 8) (by omega) (by simp only;omega)
   have hr:=Zl (L:=L) (R:=R) (s:=⟨k,.run⟩) (p:=g' / 8) (by omega) (by simp only;omega)
   cases y with
   | blk d=>
    obtain⟨q,o',i,k1,k2,rfl⟩:=h.hblk g' d iy
    have:=yi k2
    rw[show(8*q+i*(d+1)) / 8=q by omega,k1]at hs
    cases hs
   | run k'=>
    obtain⟨k1,k2⟩:=(h.hrun g' k').1 iy
    rw[hr]at k2
    rw[dA (by omega)]at k2
    cases k2
theorem HI.pages(h:HI n t A held S mp vr rem bag pl){A':AS}{ab:Nat->Option HK}{S':List Sg}(hl:Laid n A' S')(hN:Norm S')(hd : ∀s∈S',s.kd ≠ .dfr)(d8 : ∀q,slabAt S' q=slabAt S q)
  (hb : ∀g c,ab g=some (.blk c)↔held g=some (.blk c)) (hr : ∀g k,ab g=some (.run k)↔g%8=0/\runAt S' (g / 8)=some k)
  (hw : ∀r i,(r=1/\i=0)\/r=4\/(8<=r/\r<=10)\/r=12\/r=13\/(15<=r/\r<=18)->A'.w r i=A.w r i):HI n t A' ab S' mp vr rem bag pl:=by
 have e : ∀r,(r=8\/r=9\/r=10\/r=12\/r=13\/r=17\/r=18)->A'.w r=A.w r:=fun r hr=>funext fun i=>hw r i (by omega)
 have Ef : ∀ {g c},isBlk S' g c↔isBlk S g c:=by intro g c;unfold isBlk;simp only[d8]
 refine⟨hl,hN,hd,by rw[hw 1 0 (by omega)];exact h.ep,h.ver,fun p c o hs=>by rw[e 8 (by omega)];exact h.bitS p c o (by rw[<- d8];exact hs),fun p hp hs=>by rw[e 8 (by omega)];exact h.bitN p hp (by rw[<- d8];exact hs),by rw[e 9 (by omega),e 10 (by omega)];exact h.remw,
  fun p hp g hg =>?_,fun i hi =>?_,by rw[e 13 (by omega),e 17 (by omega)];exact h.bagw,h.bagn,h.bagd,fun m k h1 h2 h3 =>?_,by rw[hw 4 0 (by omega),e 17 (by omega)];exact h.polw,h.poln,fun g c hg=>Ef.2 (h.hblk g c ((hb g c).1 hg)),hr,fun p c o j hs hj =>?_,h.gon.of (fun i=>hw 15 i (by omega)) (fun i=>hw 16 i (by omega))⟩
 .obtain⟨g1,c,g2⟩:=h.remb p hp g hg
  exact⟨g1,c,Ef.2 g2⟩
 .rw[e 12 (by omega)]
  rcases h.cach i hi with h0|⟨g,h1,h2⟩
  .exact .inl h0
  .exact .inr ⟨g,h1,Ef.2 h2⟩
 .rw[e 18 (by omega)]
  rcases h.item m k h1 h2 h3 with h0|⟨x,g,hx,mh,h4,h5⟩
  .exact .inl h0
  .exact .inr ⟨x,g,hx,mh,h4,Ef.2 h5⟩
 .have Bh:slabAt S p=some (c,o):=by rw[<- d8];exact hs
  have ht:=h.tok p c o j Bh hj
  have an:=yi hj
  have ep:(8*p+j*(c+1)) / 8=p:=by omega
  have eh:(ab (8*p+j*(c+1))).isSome=(held (8*p+j*(c+1))).isSome:=by
   generalize 8*p+j*(c+1)=g at *
   cases h1:held g with
   | none=>
    cases h2:ab g with
    | none=>rfl
    | some y=>
     cases y with
     | blk d=>have:=(hb g d).1 h2;rw[h1]at this;cases this
     | run k=>have:=((hr g k).1 h2).2;rw[ep,yN hs]at this;cases this
   | some x=>
    cases x with
    | blk d=>rw[(hb g d).2 h1]
    | run k=>have:=((h.hrun g k).1 h1).2;rw[ep,yN Bh]at this;cases this
  rw[e 12 (by omega),e 18 (by omega),eh];exact ht
theorem HI.span{L R:List Sg}{s:Sg}{u k:Nat}(h:HI n t A held (L++s::R) mp vr rem bag pl)(hs:s.kd = .free)(hk:1<=k)(hu:plen L<=u)(G2:u+k<=plen L+s.len){A':AS}
  (hl:Laid n A' (L++(frs (u-plen L)++(⟨k,.run⟩::(frs (plen L+s.len-u-k)++R))))) (hw : ∀r i,(r=1/\i=0)\/r=4\/(8<=r/\r<=10)\/r=12\/r=13\/(15<=r/\r<=18)->A'.w r i=A.w r i) :
  held (8*u)=none/\HI n t A' (upd held (8*u) (some (.run k))) (L++(frs (u-plen L)++(⟨k,.run⟩::(frs (plen L+s.len-u-k)++R)))) mp vr rem bag pl:=by
 have ll:held (8*u)=none:=(h.nowhere (g:=8*u) (p:=u) (by omega) (by rw[ke hu (by omega),hs];rfl) (by rw[Zl hu (by omega),dA (by rw[hs];rintro ⟨_,hh⟩;cases hh)])).1
 refine⟨ll,h.pages hl (xsu h.norm hs (by simp)) (fun x hx =>?_) (fun q =>?_) (fun g c =>?_) (fun g k' =>?_) hw⟩
 .simp only[List.mem_append,List.mem_cons]at hx
  rcases hx with hx|hx|rfl|hx|hx
  .exact h.nodf x (by simp[hx])
  .rw[(xc5 hx).2];simp
  .simp
  .rw[(xc5 hx).2];simp
  .exact h.nodf x (by simp[hx])
 .rw[xio hs (by omega)]
  by_cases hq:plen L+(u-plen L)<=q/\q<plen L+(u-plen L)+k
  .rw[dB hq,ke (by omega) (by omega),hs];rfl
  .rw[dA hq]
 .by_cases hg:g=8*u
  .rw[hg,xC,ll];simp
  .rw[upd_ne _ _ hg]
 .rw[xkV hs (by omega) hk]
  by_cases hg:g=8*u
  .rw[hg,xC,dB ⟨by omega,rfl⟩]
   simp
  .rw[upd_ne _ _ hg,h.hrun]
   constructor
   .rintro ⟨h1,h2⟩;exact⟨h1,by rw[dA (by omega)];exact h2⟩
   .rintro ⟨h1,h2⟩;rw[dA (by omega)]at h2;exact⟨h1,h2⟩
theorem HI.unspan{L0 R0:List Sg}{b k a:Nat}(h:HI n t A held (L0++(frs b++(⟨k,.run⟩::(frs a++R0)))) mp vr rem bag pl)(ms:yh L0=false)(df:firstFree R0=false){A':AS}
  (hl:Laid n A' (L0++(⟨b+k+a,.free⟩::R0))) (hw : ∀r i,(r=1/\i=0)\/r=4\/(8<=r/\r<=10)\/r=12\/r=13\/(15<=r/\r<=18)->A'.w r i=A.w r i) :
  HI n t A' (upd held (8*(plen L0+b)) none) (L0++(⟨b+k+a,.free⟩::R0)) mp vr rem bag pl:=by
 obtain⟨hN1,hN2,_⟩:=(xO _ _).1 h.norm
 have hN3:=((xO _ _).1 hN2).2.1
 have hNR:=((xO _ _).1 hN3.2).2.1
 have hk:=(h.laid.ok ⟨k,.run⟩ (by simp)).1
 simp only at hk
 have eS:L0++(frs b++(⟨k,.run⟩::(frs a++R0)))=(L0++frs b)++(⟨k,.run⟩::(frs a++R0)):=by rw[List.append_assoc]
 have bw:plen (L0++frs b)=plen L0+b:=by rw[xz,yM]
 have dm : ∀q,plen L0+b<=q->q<plen L0+b+k->slabAt (L0++(frs b++(⟨k,.run⟩::(frs a++R0)))) q=none/\runAt (L0++(frs b++(⟨k,.run⟩::(frs a++R0)))) q=if q=plen L0+b then some k else none:=by
  intro q h1 h2
  rw[eS,ke (by omega) (by simp only;omega),Zl (by omega) (by simp only;omega),bw]
  exact⟨rfl,by simp⟩
 have gu:held (8*(plen L0+b))=some (.run k):=(h.hrun _ k).2 ⟨by omega,by rw[show 8*(plen L0+b) / 8=plen L0+b by omega,(dm _ (by omega) (by omega)).2,dB rfl]⟩
 refine h.pages hl (xkW hN1 hNR ms df) (fun x hx =>?_) (fun q =>?_) (fun g c =>?_) (fun g k' =>?_) hw
 .simp only[List.mem_append,List.mem_cons]at hx
  rcases hx with hx|rfl|hx
  .exact h.nodf x (by simp[hx])
  .simp
  .exact h.nodf x (by simp[hx])
 .have:=xdZ (L0:=L0) (R0:=R0) (s:=⟨k,.run⟩) (b:=b) (a:=a) q
  simp only at this
  rw[this]
  by_cases hq:plen L0+b<=q/\q<plen L0+b+k
  .rw[dB hq,(dm q hq.1 hq.2).1]
  .rw[dA hq]
 .by_cases hg:g=8*(plen L0+b)
  .rw[hg,xC,gu];simp
  .rw[upd_ne _ _ hg]
 .have:=xip (L0:=L0) (R0:=R0) (s:=⟨k,.run⟩) (b:=b) (a:=a) (g / 8)
  simp only at this
  rw[this]
  by_cases hg:g=8*(plen L0+b)
  .rw[hg,xC,dB (by omega)];simp
  .rw[upd_ne _ _ hg,h.hrun]
   by_cases hq:plen L0+b<=g / 8/\g / 8<plen L0+b+k
   .rw[dB hq,(dm _ hq.1 hq.2).2]
    constructor
    .rintro ⟨h1,h2⟩;rw[dA (by omega)]at h2;cases h2
    .rintro ⟨_,h2⟩;cases h2
   .rw[dA hq]
structure Bare(n t:Nat)(A:AS)(S:List Sg)(mp:Nat->Nat)(rem:Nat->List Nat):Prop where
 cach : ∀q,q<8*t->A.w 12 q=0
 item : ∀q,q<8*nodesN n t->A.w 18 q=0
 rems : ∀q,q<n->rem q = []
 full : ∀q c o,slabAt S q=some (c,o)->mp q≠2 ^ blc c-1
theorem HI.bare(h:HI n t A held S mp vr rem bag pl)(hB:Bare n t A S mp rem){p c o j:Nat}(hs:slabAt S p=some (c,o))(hj:j<blc c)(hb:(mp p).testBit j=false):held (8*p+j*(c+1))=some (.blk c):=by
 have hp:=WV hs
 rw[h.laid.len]at hp
 have ht:=h.tok p c o j hs hj
 have Q9:cntR (A.w 12) (8*t) ((8*p+j*(c+1)+1:Nat):Int)=0:=jg fun i hi hv=>by rw[hB.cach i hi]at hv;omega
 have Ly:cntR (A.w 18) (8*nodesN n t) ((8*p+j*(c+1)+1:Nat):Int)=0:=jg fun i hi hv=>by rw[hB.item i hi]at hv;omega
 rw[hb,Q9,Ly,hB.rems p hp]at ht
 have an:=yi hj
 have ep:(8*p+j*(c+1)) / 8=p:=by omega
 have hk:isBlk S (8*p+j*(c+1)) c:=⟨p,o,j,hs,hj,rfl⟩
 generalize 8*p+j*(c+1)=g at *
 cases hh:held g with
 | none=>rw[hh]at ht;simp[b2n]at ht
 | some x=>
  cases x with
  | blk d=>rw[xzC (h.hblk g d hh) hk]
  | run k=>have:=((h.hrun g k).1 hh).2;rw[ep,yN hs]at this;cases this
theorem HI.used(h:HI n t A held S mp vr rem bag pl)(hB:Bare n t A S mp rem){p:Nat}(hp:p<n) : ∃L s R,S=L++s::R/\plen L<=p/\p<plen L+s.len/\(s.kd = .free\/Used held p):=by
 obtain⟨L,s,R,rfl,h1,h2⟩:=xxp S p (by rw[h.laid.len];exact hp)
 refine⟨L,s,R,rfl,h1,h2,?_⟩
 cases hk:s.kd with
 | free=>exact .inl rfl
 | run=>
  refine .inr (.inl ⟨plen L,s.len,(h.hrun _ _).2 ⟨by omega,?_⟩,h1,h2⟩)
  rw[show 8*plen L / 8=plen L by omega,Zl (by omega) (by omega),dB ⟨rfl,hk⟩]
 | dfr=>exact absurd hk (h.nodf s (by simp))
 | slab c o=>
  have hs:slabAt (L++s::R) p=some (c,o):=by rw[ke h1 h2,hk];rfl
  have hm:=(h.bitS p c o hs).1
  have hf:=hB.full p c o hs
  have hc:=(WW h.laid.ok hs).1
  by_cases ga : ∀j,j<blc c->(mp p).testBit j=true
  .exfalso
   refine hf (Nat.eq_of_testBit_eq fun j =>?_)
   rw[Nat.testBit_two_pow_sub_one]
   by_cases hj:j<blc c
   .rw[ga j hj];simp[hj]
   .rw[Nat.testBit_lt_two_pow (Nat.lt_of_lt_of_le hm (Nat.pow_le_pow_right (n:=2) (by omega) (show blc c<=j by omega)))];simp[hj]
  .simp only[Classical.not_forall]at ga
   obtain⟨j,hj,hb⟩:=ga
   exact .inr (.inr ⟨c,j,hc,hj,h.bare hB hs hj (by simpa using hb)⟩)
theorem HI.noRun(h:HI n t A held S mp vr rem bag pl)(hB:Bare n t A S mp rem)(hn:n<=256){k a:Nat}(hk:1<=k)(ha:1<=a)(bg:kF k (min a 256) 0 S){u:Nat}(hu:u%a=0)(G2:u+k<=n) : ∃p,u<=p/\p<u+k/\Used held p:=by
 obtain⟨L,s,R,hS,h1,h2,h3⟩:=h.used hB (p:=u) (by omega)
 rcases h3 with h3|h3
 .rw[hS]at bg
  have Fq:=Yq bg
  rw[Nat.zero_add]at Fq
  have O0:u%min a 256=0:=by
   by_cases s8:a<=256
   .rw[Nat.min_eq_left s8];exact hu
   .have:u=0:=by rw[Nat.mod_eq_of_lt (by omega)]at hu;exact hu
    rw[this];exact Nat.zero_mod _
  have ff:=xBS (p:=plen L) (q:=u) (a:=min a 256) (by omega) O0 h1
  by_cases fu:u+k<=plen L+s.len
  .exact absurd ⟨h3,by omega⟩ Fq
  .refine⟨plen L+s.len,by omega,by omega,?_⟩
   obtain⟨L2,s2,R2,hS2,k1,k2,k3⟩:=h.used hB (p:=plen L+s.len) (by omega)
   rcases k3 with k3|k3
   .exfalso
    have hN:=h.norm
    have af:=h.laid.len
    rw[hS]at hN af
    obtain⟨_,hN2,_⟩:=(xO _ _).1 hN
    have Hc:=hN2.1 h3
    cases R with
    | nil=>rw[xz,xP]at af;simp[plen]at af;omega
    | cons y R'=>
     simp only[firstFree,dF]at Hc
     -- both rows have the page: its segment's kind, by its word
     have I7:=h.laid.ok y (by rw[hS];simp)
     have hy1:=I7.1
     have w1:A.w 7 (plen L+s.len)=y.kd.head y.len:=by
      have:=(show Laid n A ((L ++ [s])++y::R')by rw[List.append_assoc];simp only[List.singleton_append];rw[<- hS];exact h.laid).at_.1
      rw[xz]at this;simpa[plen]using this
     have oo : ∀x:Nat×Nat,slabAt S (plen L+s.len)=y.kd.slabOf/\runAt S (plen L+s.len)=if y.kd = .run then some y.len else none:=fun _=>by
      have eS:S=(L ++ [s])++y::R':=by rw[List.append_assoc];simpa using hS
      have ep:plen (L ++ [s])=plen L+s.len:=by simp[xz,plen]
      rw[eS,ke (by omega) (by omega),Zl (by omega) (by omega),ep]
      exact⟨rfl,by simp⟩
     obtain⟨q1,q2⟩:=oo (0,0)
     rw[hS2,ke k1 k2,k3]at q1
     rw[hS2,Zl k1 k2,k3]at q2
     cases hyk:y.kd with
     | free=>exact Hc hyk
     | run=>rw[hyk]at q2;simp at q2
     | dfr=>exact h.nodf y (by rw[hS];simp) hyk
     | slab c o=>rw[hyk]at q1;simp[Kd.slabOf]at q1
   .exact k3
 .exact⟨u,by omega,by omega,h3⟩
theorem HI.noBlk(h:HI n t A held S mp vr rem bag pl)(hB:Bare n t A S mp rem){c:Nat}(bg:kF 1 1 0 S)(hz : ∀p o,slabAt S p=some (c,o)->mp p=0){p:Nat}(hp:p<n) :
  (∃q k,held (8*q)=some (.run k)/\q<=p/\p<q+k)\/ ∃d j,d<4/\j<blc d/\held (8*p+j*(d+1))=some (.blk d)/\(d=c ->∀i,i<blc c->held (8*p+i*(c+1))=some (.blk c)):=by
 obtain⟨L,s,R,hS,h1,h2,h3⟩:=h.used hB hp
 rcases h3 with h3|h3|⟨d,j,h3,h4,h5⟩
 .exfalso
  rw[hS]at bg
  have Fq:=Yq bg
  rw[Nat.zero_add]at Fq
  have:=xxj (plen L) 1 (by omega)
  exact Fq ⟨h3,by omega⟩
 .exact .inl h3
 .refine .inr ⟨d,j,h3,h4,h5,?_⟩
  rintro rfl i hi
  have hb:=h.hblk _ _ h5
  obtain⟨o',i',q1,q2,q3⟩:=yj hb
  have:=yi h4
  rw[show(8*p+j*(d+1)) / 8=p by omega]at q1
  exact h.bare hB q1 hi (by rw[hz p o' q1];simp)
end
end
end Go.Proofs.YtcicjcggclhbfaaGreat
