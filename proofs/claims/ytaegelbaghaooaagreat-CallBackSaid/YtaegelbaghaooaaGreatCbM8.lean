/- Part. -/
import Derived.Test.YtaegelbaghaooaaGreatCbM7
set_option linter.all false
open Go.IntKind (i64 u64 u32 u8)
namespace Go.Proofs.YtaegelbaghaooaaGreat
section
open Go Go.RowKit Lx
theorem xxI{held:Nat->Option HK}{g:Nat}{x:Option HK}(h:held g=none):upd (upd held g x) g none=held:=by
 funext q
 by_cases hq:q=g
 ·subst hq;rw[xC,h]
 ·rw[upd_ne _ _ hq,upd_ne _ _ hq]
def sumTo(f:Nat->Nat):Nat->Nat
 | 0=>0
 | G+1=>sumTo f G+f G
theorem sumTo_le{f:Nat->Nat} : ∀ {G:Nat},(∀g,g<G->f g<=1)->sumTo f G<=G
 | 0,h=>Nat.le_refl _
 | G+1,h=>by have:=sumTo_le (G:=G) fun g hg=>h g (by omega);have:=h G (by omega);simp only[sumTo];omega
theorem xiE{f h:Nat->Nat} : ∀ (G:Nat),sumTo (fun g=>f g+h g) G=sumTo f G+sumTo h G
 | 0=>rfl
 | G+1=>by simp only[sumTo,xiE G];omega
theorem xiF{x:Nat} : ∀ (G:Nat),sumTo (fun g=>if x=g then 1 else 0) G=if x<G then 1 else 0
 | 0=>rfl
 | G+1=>by
  simp only[sumTo,xiF G]
  by_cases h:x<G
  ·rw[if_pos h,if_neg (by omega),if_pos (by omega)]
  ·by_cases h2:x=G
   ·rw[if_neg h,if_pos h2,if_pos (by omega)]
   ·rw[if_neg h,if_neg h2,if_neg (by omega)]
theorem Vj : ∀ (G:Nat),sumTo (fun _=>0) G=0
 | 0=>rfl
 | G+1=>by simp only[sumTo,Vj G]
theorem xxJ{f:Nat->Int}{G:Nat} : ∀ (N:Nat),(∀i,i<N->f i=0\/ ∃g:Nat,g<G/\f i=((g+1:Nat):Int))->yN f N=sumTo (fun g=>cntR f N ((g+1:Nat):Int)) G
 | 0,h=>(Vj G).symm
 | N+1,h=>by
  have ih:=xxJ (G:=G) N fun i hi=>h i (by omega)
  have e:sumTo (fun g=>cntR f (N+1) ((g+1:Nat):Int)) G=sumTo (fun g=>cntR f N ((g+1:Nat):Int)) G+sumTo (fun g=>if f N=((g+1:Nat):Int)then 1 else 0) G:=xiE (f:=fun g=>cntR f N ((g+1:Nat):Int)) (h:=fun g=>if f N=((g+1:Nat):Int)then 1 else 0) G
  rw[e,<- ih]
  simp only[yN]
  rcases h N (by omega)with h0|⟨x,hx,h0⟩
  ·rw[if_pos h0]
   have:(fun g:Nat=>if f N=((g+1:Nat):Int)then 1 else 0)=fun _=>0:=by funext g;rw[if_neg (by rw[h0];omega)]
   rw[this,Vj]
  ·rw[if_neg (by rw[h0];omega)]
   have:(fun g:Nat=>if f N=((g+1:Nat):Int)then 1 else 0)=fun g=>if x=g then 1 else 0:=by
    funext g
    by_cases hxg:x=g
    ·rw[if_pos hxg,if_pos (by rw[h0,hxg])]
    ·rw[if_neg hxg,if_neg (by rw[h0];omega)]
   rw[this,xiF,if_pos hx]
section
variable{n t:Nat}(hf:Small n t){A:AS}{held:Nat->Option HK}{S:List Sg}{mp vr:Nat->Nat}{rem bag:Nat->List Nat}{pl:List Nat}
include hf
theorem xbR(h:HI n t A held S mp vr rem bag pl){g c:Nat}(hb:isBlk S g c):g<n*8/\c<4:=by
 obtain⟨p,o,j,hs,hj,rfl⟩:=hb
 obtain⟨hp,hc,_⟩:=vU hf h hs
 have:=xW hj
 exact⟨by omega,hc⟩
theorem xxK(h:HI n t A held S mp vr rem bag pl):yN (fun i=>A.w 18 (0+i)) (8*nodesN n t)<=n*8:=by
 have e:(fun i=>A.w 18 (0+i))=A.w 18:=by funext i;rw[Nat.zero_add]
 have hcase : ∀i,i<8*nodesN n t->A.w 18 i=0\/ ∃g c:Nat,A.w 18 i=((g+1:Nat):Int)/\isBlk S g c:=by
  intro i hi
  have e2:i=(i / 8+1-1)*8+i%8:=by omega
  rcases h.item (i / 8+1) (i%8) (by omega) (by omega) (by omega)with h0|⟨x,g,_,_,h1,h2⟩
  ·rw[<- e2]at h0;exact .inl h0
  ·rw[<- e2]at h1;exact .inr ⟨g,_,h1,h2⟩
 rw[e,xxJ (G:=n*8) (8*nodesN n t) fun i hi=>by
  rcases hcase i hi with h0|⟨g,c,h1,h2⟩
  ·exact .inl h0
  ·exact .inr ⟨g,(xbR hf h h2).1,h1⟩]
 refine sumTo_le fun g hg =>?_
 by_cases hb : ∃c,isBlk S g c
 ·obtain⟨c,hb⟩:=hb
  obtain⟨p,o,j,h1,h2,h3,h4⟩:=h.places hb
  omega
 ·rw[kr fun i hi hv =>?_]
  ·omega
  ·rcases hcase i hi with h0|⟨g',c,h1,h2⟩
   ·rw[h0]at hv;omega
   ·rw[h1]at hv;obtain rfl:g'=g:=by omega
    exact hb ⟨c,h2⟩
theorem Zh{β:Type}{R:List Nat}{K reg b N c me M:Nat}{τ:T (Int×Bool)}{E:(Nat->Int)->Prop}{B:Int×Bool×Int->(Int×Bool×Int->T β)->T β}{κ0:Int->T β}{Q:β->AS->Prop}
  (hB : ∀i k,B i k=bif i.2.1 then((xh (xb n t) i.2.2 (i64.wrap (i64.wrap i.1-1))).bind fun r1=>τ.bind fun r2=>k (r2.1,r2.2,r1.2))else κ0 i.2.2)
  (hreg:reg≠1/\reg≠8) (hR1:1∉R)
  (hτ : ∀ (A:AS) (mp:Nat->Nat),A.self=(me:Int)->HI n t A held S mp vr rem bag pl->Rn n t τ A fun r A'=>(∃g:Nat,r=(((g+1:Nat):Int),true)/\held g=none/\isBlk S g c/\HI n t A' (upd held g (some (.blk c))) S mp vr rem bag pl/\Fr R K A A'/\LessB reg b N A A')\/
   (r=(0,false)/\Fr R K A A'/\HI n t A' held S mp vr rem bag pl/\E (A'.w reg)/\ ∀q,A'.w reg q=A.w reg q))
  (hM:M<=3000) (o:Nat) (ho:o<=100000000) (hself:A.self=(me:Int)) (h:HI n t A held S mp vr rem bag pl) (hnz:yN (fun i=>A.w reg (b+i)) N<=M)
  (hκ : ∀A' mp' k,k<=M->HI n t A' held S mp' vr rem bag pl->E (A'.w reg)->A'.w 1 0=u64.wrap (A.w 1 0+(k:Int))->Fr (1::8::R) ((K+5)*(M+1)) A A'->(∀q,A.w reg q=0->A'.w reg q=0)->Rn n t (κ0 ((o+k:Nat):Int)) A' Q) :
  Rn n t (τ.bind fun r=>xr xa B (r.1,r.2,(o:Int))) A Q:=by
 have hn:=hf.n2
 have e0:A.w 1 0=u64.wrap (A.w 1 0+((0:Nat):Int)):=by have:=h.ep;rw[IntKind.wrap_u64];omega
 have lout : ∀ {B B':AS},LessB reg b N B B' ->∀q,B.w reg q=0->B'.w reg q=0:=by
  rintro B B' ⟨i,hi,_,h2⟩ q hq
  rw[h2];split
  ·rfl
  ·exact hq
 have loop : ∀ (r:Nat) (i:Int×Bool×Int) (A1:AS),r<xa->(∃k mp',i.2.2=((o+k:Nat):Int)/\A1.self=(me:Int)/\A1.w 1 0=u64.wrap (A.w 1 0+(k:Int))/\Fr (1::8::R) ((K+5)*(k+1)) A A1/\(∀q,A.w reg q=0->A1.w reg q=0)/\
   ((i.2.1=true/\ ∃g:Nat,i.1=((g+1:Nat):Int)/\held g=none/\isBlk S g c/\HI n t A1 (upd held g (some (.blk c))) S mp' vr rem bag pl/\r=yN (fun i=>A1.w reg (b+i)) N+1/\k+r<=M)\/(i.2.1=false/\HI n t A1 held S mp' vr rem bag pl/\E (A1.w reg)/\r=0/\k<=M)))->Rn n t (xr xa B i) A1 Q:=by
  intro r i A1 hr hI
  refine Rn.loop (B:=B) (Q:=Q) (fun r i A1 =>∃k mp',i.2.2=((o+k:Nat):Int)/\A1.self=(me:Int)/\A1.w 1 0=u64.wrap (A.w 1 0+(k:Int))/\Fr (1::8::R) ((K+5)*(k+1)) A A1/\(∀q,A.w reg q=0->A1.w reg q=0)/\
   ((i.2.1=true/\ ∃g:Nat,i.1=((g+1:Nat):Int)/\held g=none/\isBlk S g c/\HI n t A1 (upd held g (some (.blk c))) S mp' vr rem bag pl/\r=yN (fun i=>A1.w reg (b+i)) N+1/\k+r<=M)\/(i.2.1=false/\HI n t A1 held S mp' vr rem bag pl/\E (A1.w reg)/\r=0/\k<=M))) ?_ xa r i A1 hr hI
  rintro r ⟨i1,i2,i3⟩ A1 κ ⟨k,mp',rfl,hs1,he,hfr,hout,hcase⟩ hloop
  simp only at hcase hloop
  rw[hB]
  simp only
  rcases hcase with⟨rfl,g,rfl,hg,hb,h1,rfl,hkM⟩|⟨rfl,h1,hE,rfl,hkM⟩
  ·have hgn:=xbR hf h1 hb
   refine Rn.yes rfl ?_
   rw[xal (by omega)]
   refine Rn.bind (xo6 hf h1 (g:=g) (c:=c) (by rw[xC]) _) ?_
   rintro r A2 ⟨rfl,he2,m2,h2,hfr2⟩
   rw[xxI hg]at h2
   have eo:u64.wrap (((o+k:Nat):Int)+1)=((o+(k+1):Nat):Int):=by rw[IntKind.wrap_u64];omega
   have hs2:A2.self=(me:Int):=by rw[hfr2.self,hs1]
   have hw2 : ∀i,A2.w reg i=A1.w reg i:=hfr2.w reg (by simp only[List.mem_cons,List.not_mem_nil,or_false,not_or];exact hreg)
   have hz2:yN (fun i=>A2.w reg (b+i)) N=yN (fun i=>A1.w reg (b+i)) N:=jx fun i _=>hw2 _
   refine Rn.bind (hτ A2 _ hs2 h2) ?_
   rintro r A3 (⟨g3,rfl,k1,k2,k3,k4,k5⟩|⟨rfl,k1,k2,k3,k4⟩)
   ·simp only[eo]
    have hz3:=k5.nz
    refine hloop (yN (fun i=>A3.w reg (b+i)) N+1) _ _ (by omega) ⟨k+1,_,rfl,by rw[k4.self,hs2],?_,?_,fun q hq =>?_,.inl ⟨rfl,g3,rfl,k1,k2,k3,rfl,by omega⟩⟩
    ·rw[k4.w 1 hR1,he2,he,IntKind.wrap_u64,IntKind.wrap_u64,IntKind.wrap_u64];omega
    ·refine(hfr.trans hfr2 (S:=1::8::R) (e:=(K+5)*(k+1)+5) (fun _ h=>h) (by simp) (Nat.le_refl _)).trans k4 (fun _ h=>h) (fun r hr=>by simp[hr]) ?_
     rw[Nat.mul_add (K+5) (k+1) 1];omega
    ·exact lout k5 q (by rw[hw2];exact hout q hq)
   ·simp only[eo]
    refine hloop 0 _ _ (by omega) ⟨k+1,_,rfl,by rw[k1.self,hs2],?_,?_,fun q hq =>?_,.inr ⟨rfl,k2,k3,rfl,by omega⟩⟩
    ·rw[k1.w 1 hR1,he2,he,IntKind.wrap_u64,IntKind.wrap_u64,IntKind.wrap_u64];omega
    ·refine(hfr.trans hfr2 (S:=1::8::R) (e:=(K+5)*(k+1)+5) (fun _ h=>h) (by simp) (Nat.le_refl _)).trans k1 (fun _ h=>h) (fun r hr=>by simp[hr]) ?_
     rw[Nat.mul_add (K+5) (k+1) 1];omega
    ·rw[k4,hw2];exact hout q hq
  ·refine Rn.no rfl ?_
   exact hκ A1 mp' k hkM h1 hE he (hfr.mono (fun _ h=>h) (Nat.mul_le_mul_left _ (by omega))) hout
 refine Rn.bind (hτ A mp hself h) ?_
 rintro r A1 (⟨g,rfl,k1,k2,k3,k4,k5⟩|⟨rfl,k1,k2,k3,k4⟩)
 ·have hz:=k5.nz
  refine loop (yN (fun i=>A1.w reg (b+i)) N+1) _ A1 (by unfold xa;omega) ⟨0,_,rfl,by rw[k4.self,hself],by rw[k4.w 1 hR1];exact e0,k4.mono (fun r hr=>by simp[hr]) (by omega),lout k5,.inl ⟨rfl,g,rfl,k1,k2,k3,rfl,by omega⟩⟩
 ·exact loop 0 _ A1 (by unfold xa;omega) ⟨0,_,rfl,by rw[k1.self,hself],by rw[k1.w 1 hR1];exact e0,k1.mono (fun r hr=>by simp[hr]) (by omega),fun q hq=>by rw[k4];exact hq,.inr ⟨rfl,k2,k3,rfl,by omega⟩⟩
theorem xo7{β:Type}{κ:Int->T β}{Q:β->AS->Prop}{th me o:Nat}{x y:Int}(hth:th<t)(ho:o<=10000000)(hself:A.self=(me:Int))(h:HI n t A held S mp vr rem bag pl)
  (hκ : ∀ (A':AS) (mp':Nat->Nat) (k:Nat),k<=8->HI n t A' held S mp' vr rem bag pl->(∀c,c<4->A'.w 12 ((th*4+c)*2)=0/\A'.w 12 ((th*4+c)*2+1)=0)->A'.w 1 0=u64.wrap (A.w 1 0+(k:Int))->Fr [1,8,12] 200 A A'->(∀q,A.w 12 q=0->A'.w 12 q=0)->Rn n t (κ ((o+k:Nat):Int)) A' Q) :
  Rn n t (vd (th:Int) x y (xb n t) 0 (o:Int) κ) A Q:=by
 have e0:A.w 1 0=u64.wrap (A.w 1 0+((0:Nat):Int)):=by have:=h.ep;rw[IntKind.wrap_u64];omega
 unfold vd
 refine Rn.loop (fun r i A1 =>∃ (c k:Nat) (mp':Nat->Nat),i=((c:Int),((o+k:Nat):Int))/\c<=4/\r=4-c/\k<=2*c/\A1.self=(me:Int)/\HI n t A1 held S mp' vr rem bag pl/\(∀d,d<c->A1.w 12 ((th*4+d)*2)=0/\A1.w 12 ((th*4+d)*2+1)=0)/\A1.w 1 0=u64.wrap (A.w 1 0+(k:Int))/\Fr [1,8,12] (40*c) A A1/\ ∀q,A.w 12 q=0->A1.w 12 q=0) ?_ xa 4 _ A (by unfold xa;omega)
  ⟨0,0,mp,rfl,by omega,rfl,by omega,hself,h,fun d hd=>by omega,e0,(Fr.refl [] A).mono,fun q hq=>hq⟩
 rintro r i A1 κ' ⟨c,k,mp1,rfl,hc,rfl,hk,hs1,h1,hz,he,hfr,hm⟩ hloop
 unfold WJ
 simp only
 by_cases hc4:c<4
 ·refine Rn.yes (by rw[dT];omega) ?_
  unfold vv
  refine Zh hf (τ:=qu (xb n t) (th:Int) (c:Int)) (B:=WI (th:Int) (c:Int) x y (c:Int) (xb n t) fun y2=>κ' (i64.wrap ((c:Int)+1),y2)) (κ0:=fun y2=>κ' (i64.wrap ((c:Int)+1),y2)) (R :=[12]) (K:=4) (reg:=12) (b:=(th*4+c)*2) (N:=2) (c:=c) (me:=me) (M:=2) (E:=fun f=>f ((th*4+c)*2)=0/\f ((th*4+c)*2+1)=0) (fun _ _=>rfl) ⟨by decide,by decide⟩ (by decide) (fun B mpB hsB hB =>?_) (by omega) (o+k) (by omega) hs1 h1 (xge _ _) fun A2 mp2 k2 hk2 h2 hE2 he2 hfr2 hm2 =>?_
  ·refine(xbM hf.toFew hB hth hc4).mono ?_
   rintro r A' (hr|⟨rfl,q1,q2,q3⟩)
   ·exact .inl hr
   ·refine .inr ⟨rfl,q1.mono,hB.fr q1 (by simp),?_,fun q=>q1.w 12 (by simp) q⟩
    exact⟨by rw[q1.w 12 (by simp)];exact q2,by rw[q1.w 12 (by simp)];exact q3⟩
  ·rw[xF hf.toFew (x:=c) (by omega),show o+k+k2=o+(k+k2)by omega]
   refine hloop (4-(c+1)) _ _ (by omega) ⟨c+1,k+k2,mp2,rfl,by omega,rfl,by omega,by rw[hfr2.self,hs1],h2,fun d hd =>?_,?_,hfr.trans hfr2,fun q hq=>hm2 q (hm q hq)⟩
   ·by_cases hdc:d=c
    ·subst hdc;exact hE2
    ·obtain⟨g1,g2⟩:=hz d (by omega)
     exact⟨hm2 _ g1,hm2 _ g2⟩
   ·rw[he2,he,IntKind.wrap_u64,IntKind.wrap_u64,IntKind.wrap_u64];omega
 ·obtain rfl:c=4:=by omega
  refine Rn.no (by rw[dF];omega) ?_
  exact hκ A1 mp1 k (by omega) h1 hz he (hfr.mono) hm
theorem xsr{me o:Nat}(ho:o<=1000000)(hself:A.self=(me:Int))(h:HI n t A held S mp vr rem bag pl):Rn n t (Yc (xb n t) (o:Int)) A fun r A'=>
  ∃ (mp':Nat->Nat) (k:Nat),k<=512/\r=((),((o+k:Nat):Int))/\HI n t A' held S mp' vr rem bag pl/\(∀q,q<8*t->A'.w 12 q=0)/\A'.w 1 0=u64.wrap (A.w 1 0+(k:Int))/\Fr [1,8,12] 20000 A A':=by
 have e0:A.w 1 0=u64.wrap (A.w 1 0+((0:Nat):Int)):=by have:=h.ep;rw[IntKind.wrap_u64];omega
 have ht2:=hf.t2
 unfold Yc Kn vw
 refine Rn.loop (fun r i A1 =>∃ (th k:Nat) (mp':Nat->Nat),i=((th:Int),((o+k:Nat):Int))/\th<=t/\r=t-th/\k<=8*th/\A1.self=(me:Int)/\HI n t A1 held S mp' vr rem bag pl/\(∀q,q<8*th->A1.w 12 q=0)/\A1.w 1 0=u64.wrap (A.w 1 0+(k:Int))/\Fr [1,8,12] (200*th) A A1) ?_ xa t _ A (by unfold xa;omega)
  ⟨0,0,mp,rfl,by omega,rfl,by omega,hself,h,fun d hd=>by omega,e0,(Fr.refl [] A).mono⟩
 rintro r i A1 κ' ⟨th,k,mp1,rfl,hth,rfl,hk,hs1,h1,hz,he,hfr⟩ hloop
 unfold WK
 simp only
 by_cases hlt:th<t
 ·refine Rn.yes (by rw[dT];show((th:Nat):Int)<((t:Nat):Int);omega) ?_
  refine xo7 hf hlt (by omega) hs1 h1 fun A2 mp2 k2 hk2 h2 hE2 he2 hfr2 hm2 =>?_
  rw[xF hf.toFew (x:=th) (by omega),show o+k+k2=o+(k+k2)by omega]
  refine hloop (t-(th+1)) _ _ (by omega) ⟨th+1,k+k2,mp2,rfl,by omega,rfl,by omega,by rw[hfr2.self,hs1],h2,fun q hq =>?_,?_,hfr.trans hfr2⟩
  ·by_cases hq2:q<8*th
   ·exact hm2 q (hz q hq2)
   ·obtain⟨g1,g2⟩:=hE2 ((q-8*th) / 2) (by omega)
    by_cases hpar:q%2=0
    ·rw[show(th*4+(q-8*th) / 2)*2=q by omega]at g1;exact g1
    ·rw[show(th*4+(q-8*th) / 2)*2+1=q by omega]at g2;exact g2
  ·rw[he2,he,IntKind.wrap_u64,IntKind.wrap_u64,IntKind.wrap_u64];omega
 ·obtain rfl:th=t:=by omega
  refine Rn.no (by rw[dF];show ¬ ((th:Nat):Int)<((th:Nat):Int);omega) ?_
  exact Rn.ret ⟨mp1,k,by omega,rfl,h1,hz,he,hfr.mono⟩
theorem xxL{me o:Nat}(ho:o<=10000000)(hme:me<t)(hself:A.self=(me:Int))(h:HI n t A held S mp vr rem bag pl):Rn n t (xh2 (xb n t) (o:Int)) A fun r A'=>
  ∃ (mp':Nat->Nat) (k:Nat),k<=9000/\r=((),((o+k:Nat):Int))/\HI n t A' held S mp' vr rem bag pl/\(∀m k,1<=m->m<=nodesN n t->k<8->A'.w 18 ((m-1)*8+k)=0)/\A'.w 1 0=u64.wrap (A.w 1 0+(k:Int))/\Fr [1,8,14,18] 50000000000 A A':=by
 have e0:A.w 1 0=u64.wrap (A.w 1 0+((0:Nat):Int)):=by have:=h.ep;rw[IntKind.wrap_u64];omega
 have hn:=hf.n2
 unfold xh2 xk1 kT
 refine Rn.loop (fun r i A1 =>∃ (c k:Nat) (mp':Nat->Nat),i=((c:Int),((o+k:Nat):Int))/\c<=4/\r=4-c/\k<=2048*c/\A1.self=(me:Int)/\HI n t A1 held S mp' vr rem bag pl/\(∀x,x<4*t->x%4<c ->∀m∈bag x,Xn A1 m)/\A1.w 1 0=u64.wrap (A.w 1 0+(k:Int))/\Fr [1,8,14,18] (10250000000*c) A A1) ?_ xa 4 _ A (by unfold xa;omega)
  ⟨0,0,mp,rfl,by omega,rfl,by omega,hself,h,fun x _ hx=>by omega,e0,(Fr.refl [] A).mono⟩
 rintro r i A1 κ' ⟨c,k,mp1,rfl,hc,rfl,hk,hs1,h1,hz,he,hfr⟩ hloop
 unfold xfv
 simp only
 by_cases hc4:c<4
 ·refine Rn.yes (by rw[dT];omega) ?_
  unfold kS
  refine Zh hf (τ:=qL (xb n t) (c:Int)) (B:=xfu (c:Int) (c:Int) (xb n t) fun y2=>κ' (i64.wrap ((c:Int)+1),y2)) (κ0:=fun y2=>κ' (i64.wrap ((c:Int)+1),y2)) (R :=[14,18]) (K:=5000000) (reg:=18) (b:=0) (N:=8*nodesN n t) (c:=c) (me:=me) (M:=2048) (E:=fun f =>∀x,x<4*t->x%4=c ->∀m∈bag x,∀k,k<8->f ((m-1)*8+k)=0) (fun _ _=>rfl) ⟨by decide,by decide⟩ (by decide) (fun B mpB hsB hB =>?_) (by omega) (o+k) (by omega) hs1 h1 (by have:=xxK hf h1;omega) fun A2 mp2 k2 hk2 h2 hE2 he2 hfr2 hm2 =>?_
  ·refine(xiB hf hB hc4 hme hsB).mono ?_
   rintro r A' (hr|⟨rfl,q1,q2⟩)
   ·exact .inl hr
   ·refine .inr ⟨rfl,q1.mono,hB.fr q1 (by simp),fun x hx hxc m hm k hk =>?_,fun q=>q1.w 18 (by simp) q⟩
    rw[q1.w 18 (by simp)];exact q2 x hx hxc m hm k hk
  ·rw[xF hf.toFew (x:=c) (by omega),show o+k+k2=o+(k+k2)by omega]
   refine hloop (4-(c+1)) _ _ (by omega) ⟨c+1,k+k2,mp2,rfl,by omega,rfl,by omega,by rw[hfr2.self,hs1],h2,fun x hx hxc m hm j hj =>?_,?_,hfr.trans hfr2⟩
   ·by_cases hxe:x%4=c
    ·exact hE2 x hx hxe m hm j hj
    ·exact hm2 _ (hz x hx (by omega) m hm j hj)
   ·rw[he2,he,IntKind.wrap_u64,IntKind.wrap_u64,IntKind.wrap_u64];omega
 ·obtain rfl:c=4:=by omega
  refine Rn.no (by rw[dF];omega) ?_
  refine Rn.ret ⟨mp1,k,by omega,rfl,h1,fun m j hm hm2 hj =>?_,he,hfr.mono⟩
  rcases h1.item m j hm hm2 hj with h0|⟨x,g,hx,hmx,_,_⟩
  ·exact h0
  ·exact hz x hx (Nat.mod_lt _ (by omega)) m hmx j hj
end
end
section
open Go Go.RowKit Lx
theorem xo8{β:Type}(a0:Int)(g:Geo)(κ0:Int->T β)(i:Int×Int)(k:Int×Int->T β):ZI a0 g κ0 i k =
  bif decide (i.1<a0)then((isT g i.1 0).bind fun r1=>bif !r1 then k (i64.wrap (i.1+1),i.2)else .op (.load (atF g 9 i.1)) fun x=>yh i.1 g i.1 x fun y=>Vh g (fun l=>xbP g (fun o=>k (i64.wrap (i.1+1),o)) l i.2) 8 y [])else κ0 i.2:=by rfl
def xtG{β:Type}(g:Geo)(c:Int)(κ0:Int->Int->T β)(k:Int->T β)(o:Int):List Int->T β
 | []=>k o
 | y::l=>(vY g (i64.wrap (i64.wrap y-1))).bind fun f=>bif f.cls != c then xbP g k (y::l) o else xbP g (fun o=>κ0 o (i64.wrap (i64.wrap y-1))) l o
theorem xss{β:Type}(a0 a1:Int)(g:Geo)(a5:Int)(b6:Bool)(a7:Int)(κ0:Int->Int->T β)(κ1:Int->T β)(i:Int×Int)(k:Int×Int->T β):WH a0 a1 g a5 b6 a7 κ0 κ1 i k =
  bif decide (i.1<a1)then((hofT g i.2 i.1 a0).bind fun r1=>bif !r1.1 then k (i64.wrap (i.1+1),r1.2)else(isT g i.1 0).bind fun r3=>bif !r3 then k (i64.wrap (i.1+1),r1.2) else
   .op (.load (atF g 9 i.1)) fun x=>yh i.1 g i.1 x fun y=>Vh g (xtG g a0 κ0 (fun o=>k (i64.wrap (i.1+1),o)) r1.2) 8 y [])else κ1 i.2:=by rfl
section
variable{n t:Nat}(hf:Small n t){A:AS}{held:Nat->Option HK}{S:List Sg}{mp vr:Nat->Nat}{rem bag:Nat->List Nat}{pl:List Nat}
include hf
theorem xo9(h:HI n t A held S mp vr rem bag pl){p:Nat}(hp:p<n)(hs:slabAt S p=none):rem p = []:=by
 cases hr:rem p with
 | nil=>rfl
 | cons g l=>
  obtain⟨e,c,hb⟩:=h.remb p hp g (by rw[hr];simp)
  obtain⟨o,j,h1,_⟩:=xX hb
  rw[e,hs]at h1;cases h1
theorem xst(h:HI n t A held S mp vr rem bag pl){p:Nat}(hp:p<n)(hr:rem p = []){β:Type}{F:List Int->T β}{Q:β->AS->Prop}
  (hF : ∀A',Fr [] 1 A A'->Rn n t (F []) A' Q) :
  Rn n t (.op (.load (atF (xb n t) 9 (p:Int))) fun x=>yh (p:Int) (xb n t) (p:Int) x fun y=>Vh (xb n t) F 8 y []) A Q:=by
 obtain⟨hw9,hlk⟩:=h.remw p hp
 refine Rn.load (at9 hf.toFew hp) (by omega) hp ?_
 rw[hw9,hr]
 unfold yh
 rw[show xa=4095+1 from rfl,xr]
 unfold XO
 refine Rn.no (by simp[hdw]) ?_
 exact Zg hf [] 8 [] A.tick (by simp) trivial (by simp) fun A' hA'=>hF A' ((Fr.tick [] A).trans hA' (by simp) (by simp) (by simp))
theorem xsu{L:List Nat}{c:Nat}(h : ∀g∈L,held g=none):(fun g=>if g∈L then none else(fun g=>if g∈L then some (HK.blk c)else held g) g)=held:=by
 funext g
 by_cases hg:g∈L
 ·simp only[if_pos hg,h g hg]
 ·simp only[if_neg hg]
theorem xpa{me o:Nat}(ho:o<=10000000)(hself:A.self=(me:Int))(h:HI n t A held S mp vr rem bag pl):Rn n t (jR (xb n t) (o:Int)) A fun r A'=>
  ∃ (mp':Nat->Nat) (rem':Nat->List Nat) (k:Nat),k<=2048/\r=((),((o+k:Nat):Int))/\HI n t A' held S mp' vr rem' bag pl/\(∀q,q<n->rem' q = [])/\A'.w 1 0=u64.wrap (A.w 1 0+(k:Int))/\Fr [1,8,9] 20000 A A':=by
 have e0:A.w 1 0=u64.wrap (A.w 1 0+((0:Nat):Int)):=by have:=h.ep;rw[IntKind.wrap_u64];omega
 have hn:=hf.n2
 unfold jR Ya vb
 refine Rn.loop (fun r i A1 =>∃ (p k:Nat) (mp':Nat->Nat) (rem':Nat->List Nat),i=((p:Int),((o+k:Nat):Int))/\p<=n/\r=n-p/\k<=8*p/\A1.self=(me:Int)/\HI n t A1 held S mp' vr rem' bag pl/\(∀q,q<p->rem' q = [])/\A1.w 1 0=u64.wrap (A.w 1 0+(k:Int))/\Fr [1,8,9] (70*p) A A1) ?_ xa n _ A (by unfold xa;omega)
  ⟨0,0,mp,rem,rfl,by omega,rfl,by omega,hself,h,fun x hx=>by omega,e0,(Fr.refl [] A).mono⟩
 rintro r i A1 κ' ⟨p,k,mp1,rem1,rfl,hpn,rfl,hk,hs1,h1,hz,he,hfr⟩ hloop
 rw[xo8]
 simp only
 by_cases hp:p<n
 ·refine Rn.yes (by rw[dT];show((p:Nat):Int)<((n:Nat):Int);omega) ?_
  refine Rn.run (xak hf hp (k:=0) (by omega)) (Rn.no rfl ?_)
  rw[xF hf.toFew (x:=p) (by omega)]
  cases hs:slabAt S p with
  | none=>
   have hr:=xo9 hf h1 hp hs
   refine xst hf h1 hp hr fun A2 hfr2 =>?_
   refine hloop (n-(p+1)) _ _ (by omega) ⟨p+1,k,mp1,rem1,rfl,by omega,rfl,by omega,by rw[hfr2.self,hs1],h1.fr hfr2 (by simp),fun q hq =>?_,by rw[hfr2.w 1 (by simp)];exact he,hfr.trans hfr2⟩
   by_cases hqp:q=p
   ·subst hqp;exact hr
   ·exact hz q (by omega)
  | some x=>
   obtain⟨c,ow⟩:=x
   obtain⟨hnone,hnd,_⟩:=h1.drain hs hp
   obtain⟨hl8,hgl⟩:=xlE hf h1 hs
   refine xiD hf h1 hs fun A2 h2 he2 hfr2 =>?_
   refine xbQ hf (c:=c) (rem1 p) (o+k) A2 _ _ h2 hnd (fun g hg=>⟨by rw[if_pos hg],hgl g hg⟩) (by omega) fun A3 mp3 h3 he3 hfr3 =>?_
   rw[xsu hf hnone]at h3
   rw[show o+k+(rem1 p).length=o+(k+(rem1 p).length)by omega]
   refine hloop (n-(p+1)) _ _ (by omega) ⟨p+1,k+(rem1 p).length,mp3,updL rem1 p [],rfl,by omega,rfl,by omega,by rw[hfr3.self,hfr2.self,hs1],h3,fun q hq =>?_,?_,(hfr.trans hfr2 (S :=[1,8,9]) (e:=70*p+20)).trans hfr3⟩
   ·by_cases hqp:q=p
    ·simp only[updL,if_pos hqp]
    ·simp only[updL,if_neg hqp];exact hz q (by omega)
   ·rw[he3,he2,he,IntKind.wrap_u64,IntKind.wrap_u64,IntKind.wrap_u64];omega
 ·obtain rfl:p=n:=by omega
  refine Rn.no (by rw[dF];show ¬ ((p:Nat):Int)<((p:Nat):Int);omega) ?_
  exact Rn.ret ⟨mp1,rem1,k,by omega,rfl,h1,hz,he,hfr.mono⟩
theorem Xp{g:Nat}(hg:g<n*8):(vY (xb n t) (g:Int)).run (xl n t) A=some (pgOf (A.w 7 (g / 8)),A.tick):=by
 have hn:=hf.n2
 have hp:g / 8<n:=by omega
 have hpg:i64.wrap ((xb n t).pages*8)=((n*8:Nat):Int):=by
  show i64.wrap (((n:Nat):Int)*8)=_
  rw[show((n:Nat):Int)*8=((n*8:Nat):Int)by omega,wN _ (by omega)]
 have ed:i64.wrap (Int.tdiv (g:Int) 8)=((g / 8:Nat):Int):=by
  rw[Int.tdiv_eq_ediv_of_nonneg (by omega)]
  have:(g:Int) / 8=((g / 8:Nat):Int):=by omega
  rw[this,wN _ (by omega)]
 unfold vY xjY
 rw[decide_eq_false (show ¬ ((g:Int)<0)by omega),decide_eq_false (show ¬ ((g:Int)>=i64.wrap ((xb n t).pages*8))by rw[hpg];omega)]
 simp only[cond_false,T.run,xl,ed,at7 hf.toFew hp,xB (show g / 8<Zr n t 7 from hp) 19 (by omega)]
 rfl
theorem xbS(h:HI n t A held S mp vr rem bag pl){p c o:Nat}(hs:slabAt S p=some (c,o)):pgOf (A.w 7 p)=⟨3,1,(c:Int),(o:Int)⟩:=by
 obtain⟨L,R,rfl,rfl⟩:=ke S p c o h.laid.ok hs
 obtain⟨hw,_⟩:=h.laid.at_
 have hok:=(h.laid.ok ⟨1,.slab c o⟩ (by simp)).2 c o rfl
 rw[hw]
 exact yW 3 1 c o (by omega) (by omega) (by omega) (by omega)
theorem xsv{me o c:Nat}(ho:o<=10000000)(hc:c<4)(hself:A.self=(me:Int))(h:HI n t A held S mp vr rem bag pl):Rn n t (XZ (xb n t) (o:Int) (c:Int)) A fun r A'=>
  ∃ (mp':Nat->Nat) (rem':Nat->List Nat) (k:Nat),k<=2048/\r.2=((o+k:Nat):Int)/\r.1.e=0/\A'.w 1 0=u64.wrap (A.w 1 0+(k:Int))/\Fr [1,8,9] 20000 A A'/\
   ((∃g:Nat,r.1.ok=true/\r.1.grain=(g:Int)/\held g=none/\isBlk S g c/\HI n t A' (upd held g (some (.blk c))) S mp' vr rem' bag pl)\/(r.1.ok=false/\HI n t A' held S mp' vr rem' bag pl)):=by
 have e0:A.w 1 0=u64.wrap (A.w 1 0+((0:Nat):Int)):=by have:=h.ep;rw[IntKind.wrap_u64];omega
 have hn:=hf.n2
 unfold XZ Kk vu
 refine Rn.loop (fun r i A1 =>∃ (p k:Nat) (mp':Nat->Nat) (rem':Nat->List Nat),i=((p:Int),((o+k:Nat):Int))/\p<=n/\r=n-p/\k<=8*p/\A1.self=(me:Int)/\HI n t A1 held S mp' vr rem' bag pl/\A1.w 1 0=u64.wrap (A.w 1 0+(k:Int))/\Fr [1,8,9] (75*p) A A1) ?_ xa n _ A (by unfold xa;omega)
  ⟨0,0,mp,rem,rfl,by omega,rfl,by omega,hself,h,e0,(Fr.refl [] A).mono⟩
 rintro r i A1 κ' ⟨p,k,mp1,rem1,rfl,hpn,rfl,hk,hs1,h1,he,hfr⟩ hloop
 rw[xss]
 simp only
 by_cases hp:p<n
 ·refine Rn.yes (by rw[dT];show((p:Nat):Int)<((n:Nat):Int);omega) ?_
  refine Rn.run (xtF hf h1 hp hc _) ?_
  simp only
  rw[xF hf.toFew (x:=p) (by omega)]
  have hstep : ∀A2,Fr [] 20 A1 A2->Rn n t (κ' (((p+1:Nat):Int),((o+k:Nat):Int))) A2 fun r A'=>
    ∃ (mp':Nat->Nat) (rem':Nat->List Nat) (k:Nat),k<=2048/\r.2=((o+k:Nat):Int)/\r.1.e=0/\A'.w 1 0=u64.wrap (A.w 1 0+(k:Int))/\Fr [1,8,9] 20000 A A'/\
     ((∃g:Nat,r.1.ok=true/\r.1.grain=(g:Int)/\held g=none/\isBlk S g c/\HI n t A' (upd held g (some (.blk c))) S mp' vr rem' bag pl)\/(r.1.ok=false/\HI n t A' held S mp' vr rem' bag pl)):=fun A2 hfr2=>
   hloop (n-(p+1)) _ _ (by omega) ⟨p+1,k,mp1,rem1,rfl,by omega,rfl,by omega,by rw[hfr2.self,hs1],h1.fr hfr2 (by simp),by rw[hfr2.w 1 (by simp)];exact he,hfr.trans hfr2⟩
  cases hsl:Zf S p c with
  | false=>exact Rn.yes rfl (hstep _ ((Fr.tick [] A1).mono))
  | true=>
   obtain⟨ow,hs⟩:=xgh hsl
   refine Rn.no rfl ?_
   refine Rn.run (xak hf hp (k:=0) (by omega)) (Rn.no rfl ?_)
   have h1t:HI n t A1.tick held S mp1 vr rem1 bag pl:=h1.same fun r i _=>rfl
   obtain⟨hnone,hnd,_⟩:=h1.drain hs hp
   obtain⟨hl8,hgl⟩:=xlE hf h1 hs
   refine xiD hf h1t hs fun A2 h2 he2 hfr2 =>?_
   have hfr12:=(Fr.tick [] A1).trans hfr2 (S :=[9]) (e:=21)
   cases hr:rem1 p with
   | nil=>
    have e1:(fun g=>if g∈rem1 p then some (HK.blk c)else held g)=held:=by funext g;rw[hr];simp
    rw[e1]at h2
    exact hloop (n-(p+1)) _ _ (by omega) ⟨p+1,k,mp1,_,rfl,by omega,rfl,by omega,by rw[hfr12.self,hs1],h2,by rw[he2];exact he,hfr.trans hfr12⟩
   | cons g L=>
    rw[hr]at hnd hl8
    rw[List.nodup_cons]at hnd
    have hgm:g∈rem1 p:=by rw[hr];simp
    have hgn:=hgl g hgm
    obtain⟨hgp,d,hbd⟩:=h1.remb p hp g hgm
    have hgb:isBlk S g c:=by
     obtain⟨o',j,q1,_⟩:=xX hbd
     rw[hgp,hs]at q1;cases q1;exact hbd
    simp only[tops,List.map_cons,xtG]
    rw[xal (by omega)]
    refine Rn.run (Xp hf hgn) ?_
    rw[hgp,hfr2.w 7 (by simp),AS.tick_w,xbS hf h1 hs]
    refine Rn.no (by simp) ?_
    refine xbQ hf (c:=c) L (o+k) A2.tick _ _ (h2.same fun r i _=>rfl) hnd.2 (fun x hx=>⟨by rw[if_pos (by rw[hr];simp[hx])],hgl x (by rw[hr];simp[hx])⟩) (by simp at hl8;omega) fun A3 mp3 h3 he3 hfr3 =>?_
    have e3:(fun x=>if x∈L then none else(fun g=>if g∈rem1 p then some (HK.blk c)else held g) x)=upd held g (some (.blk c)):=by
     funext x
     by_cases hx:x∈L
     ·have hne:x≠g:=fun hh=>hnd.1 (hh▸hx)
      rw[upd_ne _ _ hne]
      simp only[if_pos hx]
      exact(hnone x (by rw[hr];simp[hx])).symm
     ·simp only[if_neg hx]
      by_cases hxg:x=g
      ·subst hxg;rw[xC,if_pos hgm]
      ·rw[upd_ne _ _ hxg,if_neg (by rw[hr];simp[hxg,hx])]
    rw[e3]at h3
    refine Rn.ret ⟨mp3,_,k+L.length,by simp at hl8;omega,by simp only;rw[show o+k+L.length=o+(k+L.length)by omega],rfl,?_,?_,.inl ⟨g,rfl,rfl,hnone g hgm,hgb,h3⟩⟩
    ·rw[he3,AS.tick_w,he2,AS.tick_w,he,IntKind.wrap_u64,IntKind.wrap_u64,IntKind.wrap_u64];omega
    ·simp at hl8
     exact((hfr.trans hfr12 (S :=[1,8,9]) (e:=75*p+21)).trans (Fr.tick [] _) (S :=[1,8,9]) (e:=75*p+22)).trans hfr3
 ·refine Rn.no (by rw[dF];show ¬ ((p:Nat):Int)<((n:Nat):Int);omega) ?_
  exact Rn.ret ⟨mp1,rem1,k,by omega,rfl,rfl,he,hfr.mono,.inr ⟨rfl,h1⟩⟩
theorem xiG{me o c:Nat}(hc:c<4)(hself:A.self=(me:Int))(h:HI n t A held S mp vr rem bag pl):Rn n t (Wy (xb n t) (o:Int) (c:Int)) A fun r A'=>
  r.2=((o:Nat):Int)/\r.1.e=0/\Fr [8] 20000 A A'/\
   ((∃ (g:Nat) (mp':Nat->Nat),r.1.ok=true/\r.1.grain=(g:Int)/\held g=none/\isBlk S g c/\HI n t A' (upd held g (some (.blk c))) S mp' vr rem bag pl)\/(r.1.ok=false/\Fr [] 20000 A A'/\ ∀p ow,slabAt S p=some (c,ow)->mp p=0)):=by
 have hn:=hf.n2
 unfold Wy xdd wj
 refine Rn.loop (fun r i A1 =>∃ (p:Nat),i=((p:Int),((o:Nat):Int))/\p<=n/\r=n-p/\Fr [] (10*p) A A1/\ ∀q ow,q<p->slabAt S q=some (c,ow)->mp q=0) ?_ xa n _ A (by unfold xa;omega)
  ⟨0,rfl,by omega,rfl,Fr.refl _ _,fun q ow hq=>by omega⟩
 rintro r i A1 κ' ⟨p,rfl,hpn,rfl,hfr,hz⟩ hloop
 have h1:HI n t A1 held S mp vr rem bag pl:=h.fr hfr (by simp)
 unfold xa4
 simp only
 by_cases hp:p<n
 ·refine Rn.yes (by rw[dT];show((p:Nat):Int)<((n:Nat):Int);omega) ?_
  refine Rn.run (xtF hf h1 hp hc _) ?_
  simp only
  rw[xF hf.toFew (x:=p) (by omega)]
  cases hsl:Zf S p c with
  | false=>
   refine Rn.yes rfl (hloop (n-(p+1)) _ _ (by omega) ⟨p+1,rfl,by omega,rfl,hfr.trans (Fr.tick [] A1),fun q ow hq hs =>?_⟩)
   by_cases hqp:q=p
   ·subst hqp;exact absurd hs (xvQ hsl ow)
   ·exact hz q ow (by omega) hs
  | true=>
   obtain⟨ow,hs⟩:=xgh hsl
   refine Rn.no rfl ?_
   have h1t:HI n t A1.tick held S mp vr rem bag pl:=h1.same fun r i _=>rfl
   refine Rn.bind (xvR hf h1t hs) ?_
   rintro r A2 (⟨g,m',rfl,k1,k2,k3,k4⟩|⟨rfl,k1,k2⟩)
   ·exact Rn.yes rfl (Rn.ret ⟨rfl,rfl,(hfr.trans (Fr.tick [] A1) (S :=[]) (e:=10*p+1)).trans k4,.inl ⟨g,_,rfl,rfl,k1,k2,k3⟩⟩)
   ·refine Rn.no rfl (hloop (n-(p+1)) _ _ (by omega) ⟨p+1,rfl,by omega,rfl,(hfr.trans (Fr.tick [] A1) (S :=[]) (e:=10*p+1)).trans k1,fun q ow' hq hs' =>?_⟩)
    by_cases hqp:q=p
    ·subst hqp;exact k2
    ·exact hz q ow' (by omega) hs'
 ·refine Rn.no (by rw[dF];show ¬ ((p:Nat):Int)<((n:Nat):Int);omega) ?_
  refine Rn.ret ⟨rfl,rfl,hfr.mono,.inr ⟨rfl,hfr.mono,fun q ow hs=>hz q ow ?_ hs⟩⟩
  have:=(vU hf h hs).1
  omega
end
end
section
open Go Go.RowKit Lx
theorem Zi(m:Nat)(M:List Sg)(q:Nat):slabAt (frs m++M) q=if q<m then none else slabAt M (q-m):=by
 rw[yC,yy]
 by_cases h:q<m
 ·rw[if_pos h,if_pos h,frs,if_neg (by omega)];simp[slabAt]
 ·rw[if_neg h,if_neg h]
theorem YP(m:Nat)(M:List Sg)(q:Nat):runAt (frs m++M) q=if q<m then none else runAt M (q-m):=by
 rw[yR,yy]
 by_cases h:q<m
 ·rw[if_pos h,if_pos h,frs,if_neg (by omega)];simp[runAt]
 ·rw[if_neg h,if_neg h]
def Kd.slabOf:Kd->Option (Nat×Nat)
 | .slab c o=>some (c,o)
 | _=>none
theorem vg(s:Sg)(l:List Sg)(p:Nat):slabAt (s::l) p=if p<s.len then s.kd.slabOf else slabAt l (p-s.len):=by cases h:s.kd<;>simp[slabAt,h,Kd.slabOf]
theorem vh(s:Sg)(l:List Sg)(p:Nat):runAt (s::l) p=if p<s.len then(if p=0/\s.kd = .run then some s.len else none)else runAt l (p-s.len):=rfl
theorem xgi{L R:List Sg}{s:Sg}{x k y:Nat}{kd:Kd}(hs:s.kd = .free)(hl:x+k+y=s.len)(q:Nat) :
  slabAt (L++(frs x++(⟨k,kd⟩::(frs y++R)))) q=if plen L+x<=q/\q<plen L+x+k then kd.slabOf else slabAt (L++(s::R)) q:=by
 rw[yC L (frs x++_),yC L (s::R)]
 by_cases c1:q<plen L
 ·rw[if_pos c1,if_pos c1,if_neg (by omega)]
 ·rw[if_neg c1,if_neg c1,Zi,vg,vg,Zi,hs]
  simp only
  by_cases c2:q-plen L<x
  ·rw[if_pos c2,if_neg (by omega),if_pos (by omega)];rfl
  ·rw[if_neg c2]
   by_cases c3:q-plen L-x<k
   ·rw[if_pos c3,if_pos (by omega)]
   ·rw[if_neg c3,if_neg (show ¬ (plen L+x<=q/\q<plen L+x+k)by omega)]
    by_cases c4:q-plen L-x-k<y
    ·rw[if_pos c4,if_pos (by omega)];rfl
    ·rw[if_neg c4,if_neg (by omega)];congr 1;omega
theorem xiH{L R:List Sg}{s:Sg}{x k y:Nat}{kd:Kd}(hs:s.kd = .free)(hl:x+k+y=s.len)(hk:1<=k)(q:Nat) :
  runAt (L++(frs x++(⟨k,kd⟩::(frs y++R)))) q=if q=plen L+x/\kd = .run then some k else runAt (L++(s::R)) q:=by
 rw[yR L (frs x++_),yR L (s::R)]
 by_cases c1:q<plen L
 ·rw[if_pos c1,if_pos c1,if_neg (by omega)]
 ·rw[if_neg c1,if_neg c1,YP,vh,vh,YP,hs]
  simp only
  by_cases c2:q-plen L<x
  ·rw[if_pos c2,if_neg (by omega),if_pos (by omega),if_neg (by rintro ⟨_,hh⟩;cases hh)]
  ·rw[if_neg c2]
   by_cases c3:q-plen L-x<k
   ·rw[if_pos c3,if_pos (show q-plen L<s.len by omega),if_neg (show ¬ (q-plen L=0/\Kd.free=Kd.run)by rintro ⟨_,hh⟩;cases hh)]
    by_cases c4:q=plen L+x
    ·have e:q-plen L-x=0:=by omega
     by_cases hkd:kd = .run
     ·rw[if_pos ⟨e,hkd⟩,if_pos ⟨c4,hkd⟩]
     ·rw[if_neg (fun hh=>hkd hh.2),if_neg (fun hh=>hkd hh.2)]
    ·rw[if_neg (by omega),if_neg (fun hh=>c4 hh.1)]
   ·rw[if_neg c3,if_neg (show ¬ (q=plen L+x/\kd = .run)from fun hh=>by omega)]
    by_cases c4:q-plen L-x-k<y
    ·rw[if_pos c4,if_pos (show q-plen L<s.len by omega),if_neg (show ¬ (q-plen L=0/\Kd.free=Kd.run)by rintro ⟨_,hh⟩;cases hh)]
    ·rw[if_neg c4,if_neg (by omega)];congr 1;omega
theorem xcw{L0 R0:List Sg}{s:Sg}{b a:Nat}(q:Nat) :
  slabAt (L0++(⟨b+s.len+a,.free⟩::R0)) q=if plen L0+b<=q/\q<plen L0+b+s.len then none else slabAt (L0++(frs b++(s::(frs a++R0)))) q:=by
 rw[yC L0 (_::R0),yC L0 (frs b++_)]
 by_cases c1:q<plen L0
 ·rw[if_pos c1,if_pos c1,if_neg (by omega)]
 ·rw[if_neg c1,if_neg c1,vg,Zi,vg,Zi]
  simp only
  by_cases c2:q-plen L0<b
  ·rw[if_pos (by omega),if_neg (by omega),if_pos c2];rfl
  ·by_cases c3:q-plen L0-b<s.len
   ·rw[if_pos (by omega),if_pos (by omega)];rfl
   ·rw[if_neg (show ¬ (plen L0+b<=q/\q<plen L0+b+s.len)by omega),if_neg c2,if_neg c3]
    by_cases c4:q-plen L0-b-s.len<a
    ·rw[if_pos (by omega),if_pos c4];rfl
    ·rw[if_neg (by omega),if_neg c4];congr 1;omega
theorem xgj{L0 R0:List Sg}{s:Sg}{b a:Nat}(q:Nat) :
  runAt (L0++(⟨b+s.len+a,.free⟩::R0)) q=if plen L0+b<=q/\q<plen L0+b+s.len then none else runAt (L0++(frs b++(s::(frs a++R0)))) q:=by
 have hff : ∀z:Nat,¬ (z=0/\Kd.free=Kd.run):=by rintro z ⟨_,hh⟩;cases hh
 rw[yR L0 (_::R0),yR L0 (frs b++_)]
 by_cases c1:q<plen L0
 ·rw[if_pos c1,if_pos c1,if_neg (by omega)]
 ·rw[if_neg c1,if_neg c1,vh,YP,vh,YP]
  simp only[if_neg (hff _)]
  by_cases c2:q-plen L0<b
  ·rw[if_pos (show q-plen L0<b+s.len+a by omega),if_neg (by omega),if_pos c2]
  ·by_cases c3:q-plen L0-b<s.len
   ·rw[if_pos (show q-plen L0<b+s.len+a by omega),if_pos (by omega)]
   ·rw[if_neg (show ¬ (plen L0+b<=q/\q<plen L0+b+s.len)by omega),if_neg c2,if_neg c3]
    by_cases c4:q-plen L0-b-s.len<a
    ·rw[if_pos (show q-plen L0<b+s.len+a by omega),if_pos c4]
    ·rw[if_neg (show ¬q-plen L0<b+s.len+a by omega),if_neg c4];congr 1;omega
theorem xpb(m:Nat):Norm (frs m):=by unfold frs;split<;>simp[Norm,firstFree]
theorem xpc{L R:List Sg}{s:Sg}{x k y:Nat}{kd:Kd}(hN:Norm (L++(s::R)))(hs:s.kd = .free)(hkd:kd ≠ .free):Norm (L++(frs x++(⟨k,kd⟩::(frs y++R)))):=by
 obtain⟨h1,h2,h3⟩:=(xI _ _).1 hN
 have hl:xV L=false:=by
  cases hh:xV L with
  | false=>rfl
  | true=>have:=h3 hh;simp[firstFree,hs]at this
 have hr:firstFree R=false:=h2.1 hs
 have hkd' : ¬ ((⟨k,kd⟩:Sg).kd = .free):=hkd
 refine(xI _ _).2 ⟨h1,(xI _ _).2 ⟨xpb x,⟨fun hh=>absurd hh hkd',(xI _ _).2 ⟨xpb y,h2.2,fun _=>hr⟩⟩,fun _=>by simp[firstFree,hkd]⟩,fun hh=>by rw[hl]at hh;cases hh⟩
theorem xiI{L0 R0:List Sg}{m:Nat}(h1:Norm L0)(h2:Norm R0)(hl:xV L0=false)(hr:firstFree R0=false):Norm (L0++(⟨m,.free⟩::R0)):=
 (xI _ _).2 ⟨h1,⟨fun _=>hr,h2⟩,fun hh=>by rw[hl]at hh;cases hh⟩
theorem xiJ{n:Nat}{A:AS}{L R:List Sg}{k:Nat}{kd kd':Kd}(h:Laid n A (L++(⟨k,kd⟩::R)))(h1:kd ≠ .free)(h2:kd' ≠ .free)(hok:(⟨k,kd'⟩:Sg).ok):Laid n (A.set 7 (plen L) (kd'.head k)) (L++(⟨k,kd'⟩::R)):=by
 refine⟨by have:=h.len;simpa[xp,xJ]using this,fun z hz =>?_,fun p hp =>?_,fun b hb =>?_⟩
 ·simp only[List.mem_append,List.mem_cons]at hz
  rcases hz with hz|rfl|hz
  ·exact h.ok z (by simp[hz])
  ·exact hok
  ·exact h.ok z (by simp[hz])
 ·have hw:=h.w p hp
  rw[yf]
  rw[xU,yQ]at hw |-
  simp only at hw |-
  have hk1:=hok.1
  simp only at hk1
  by_cases c1:p=plen L
  ·rw[if_pos c1,if_neg (by omega),c1,Nat.sub_self,if_pos (by omega)];rfl
  ·rw[if_neg c1,hw]
   by_cases c2:p<plen L
   ·rw[if_pos c2,if_pos c2]
   ·rw[if_neg c2,if_neg c2]
    by_cases c3:p-plen L<k
    ·rw[if_pos c3,if_pos c3,YL (s:=⟨k,kd⟩) (h.ok _ (by simp)) h1 (by omega),YL hok h2 (by omega)]
    ·rw[if_neg c3,if_neg c3]
 ·rw[xM A _ _ (show 3≠7 by decide),h.bins b hb]
  simp only[wG,cntF]
  rw[if_neg (fun hh=>h1 hh.1),if_neg (fun hh=>h2 hh.1)]
def jH(c:Nat):Nat:=2 ^ blc c-2
theorem xvS : ∀c:Nat,c<4->jH c<2 ^ blc c/\(∀j:Nat,j<blc c->(jH c).testBit j=decide (j≠0)):=by decide
theorem Zj{S S':List Sg}(h : ∀p x,slabAt S p=some x->slabAt S' p=some x){g c:Nat}(hb:isBlk S g c):isBlk S' g c:=by
 obtain⟨p,o,j,h1,h2,h3⟩:=hb
 exact⟨p,o,j,h p _ h1,h2,h3⟩
section
variable{n t:Nat}{A:AS}{held:Nat->Option HK}{S:List Sg}{mp vr:Nat->Nat}{rem bag:Nat->List Nat}{pl:List Nat}
theorem HI.nowhere(h:HI n t A held S mp vr rem bag pl){p g:Nat}(hg:g / 8=p)(hs:slabAt S p=none)(hr:runAt S p=none):held g=none/\cntR (A.w 12) (8*t) ((g+1:Nat):Int)=0/\cntR (A.w 18) (8*nodesN n t) ((g+1:Nat):Int)=0/\ ∀c,¬isBlk S g c:=by
 have hno : ∀c,¬isBlk S g c:=by
  intro c hb
  obtain⟨o,j,h1,_⟩:=xX hb
  rw[hg,hs]at h1;cases h1
 refine⟨?_,kr fun i hi hv =>?_,kr fun i hi hv =>?_,hno⟩
 ·cases hh:held g with
  | none=>rfl
  | some x=>
   cases x with
   | blk c=>exact absurd (h.hblk g c hh) (hno c)
   | run k=>
    obtain⟨_,h2⟩:=(h.hrun g k).1 hh
    rw[hg,hr]at h2;cases h2
 ·rcases h.cach i hi with h0|⟨g',h1,h2⟩
  ·rw[h0]at hv;omega
  ·rw[h1]at hv;obtain rfl:g'=g:=by omega
   exact hno _ h2
 ·have e2:i=(i / 8+1-1)*8+i%8:=by omega
  rcases h.item (i / 8+1) (i%8) (by omega) (by omega) (by omega)with h0|⟨x,g',_,_,h1,h2⟩
  ·rw[<- e2,hv]at h0;omega
  ·rw[<- e2,hv]at h1;obtain rfl:g=g':=by omega
   exact hno _ h2
theorem HI.fresh(h:HI n t A held S mp vr rem bag pl){A':AS}{S':List Sg}{p c o v:Nat}(hp:p<n)(hc:c<4)(hv:v<4294967296)(hs:slabAt S p=none)(hr:runAt S p=none)(hrem:rem p = [])
  (hl:Laid n A' S') (hN:Norm S') (hd : ∀s∈S',s.kd ≠ .dfr) (hsl : ∀q,slabAt S' q=if q=p then some (c,o)else slabAt S q) (hrn : ∀q,runAt S' q=runAt S q)
  (hw : ∀r i,(r=1/\i=0)\/r=4\/(8<=r/\r<=10)\/r=12\/r=13\/(15<=r/\r<=18)->A'.w r i=if r=8/\i=p then btw (jH c) c v else A.w r i) :
  held (8*p)=none/\HI n t A' (upd held (8*p) (some (.blk c))) S' (updN mp p (jH c)) (updN vr p v) rem bag pl:=by
 have e : ∀r,(r=9\/r=10\/r=12\/r=13\/r=17\/r=18)->A'.w r=A.w r:=fun r hr=>funext fun i=>by rw[hw r i (by omega),if_neg (by omega)]
 have e1:A'.w 1 0=A.w 1 0:=by rw[hw 1 0 (by omega),if_neg (by omega)]
 have e4:A'.w 4 0=A.w 4 0:=by rw[hw 4 0 (by omega),if_neg (by omega)]
 have e8 : ∀q,A'.w 8 q=if q=p then btw (jH c) c v else A.w 8 q:=fun q=>by
  rw[hw 8 q (by omega)]
  by_cases hq:q=p
  ·rw[if_pos ⟨rfl,hq⟩,if_pos hq]
  ·rw[if_neg (fun hh=>hq hh.2),if_neg hq]
 obtain⟨hm1,hm2⟩:=xvS c hc
 have hmono : ∀q x,slabAt S q=some x->slabAt S' q=some x:=fun q x hx=>by
  rw[hsl,if_neg (fun hh=>by rw[hh,hs]at hx;cases hx)];exact hx
 have hbp:0<blc c:=blc_pos hc
 have hh0:=(h.nowhere (g:=8*p) (by omega) hs hr).1
 refine⟨hh0,hl,hN,hd,by rw[e1];exact h.ep,fun q hq =>?_,fun q d o' hq =>?_,fun q hq hqs =>?_,by rw[e 9 (by omega),e 10 (by omega)];exact h.remw,fun q hq g hg =>?_,fun i hi =>?_,by rw[e 13 (by omega),e 17 (by omega)];exact h.bagw,h.bagn,h.bagd,fun m k h1 h2 h3 =>?_,by rw[e4,e 17 (by omega)];exact h.polw,h.poln,fun g d hg =>?_,fun g k =>?_,fun q d o' j hq hj =>?_,h.gon.of (fun i=>by rw[hw 15 i (by omega),if_neg (by omega)]) (fun i=>by rw[hw 16 i (by omega),if_neg (by omega)])⟩
 ·by_cases hqp:q=p
  ·simp only[updN,if_pos hqp];exact hv
  ·simp only[updN,if_neg hqp];exact h.ver q hq
 ·rw[e8]
  rw[hsl]at hq
  by_cases hqp:q=p
  ·rw[if_pos hqp]at hq;cases hq
   simp only[updN,if_pos hqp]
   exact⟨hm1,trivial⟩
  ·rw[if_neg hqp]at hq
   simp only[updN,if_neg hqp];exact h.bitS q d o' hq
 ·rw[hsl]at hqs
  have hqp:q≠p:=fun hh=>by rw[if_pos hh]at hqs;cases hqs
  rw[if_neg hqp]at hqs
  rw[e8,if_neg hqp]
  simp only[updN,if_neg hqp];exact h.bitN q hq hqs
 ·obtain⟨g1,d,g2⟩:=h.remb q hq g hg
  exact⟨g1,d,Zj hmono g2⟩
 ·rw[e 12 (by omega)]
  rcases h.cach i hi with h0|⟨g,h1,h2⟩
  ·exact .inl h0
  ·exact .inr ⟨g,h1,Zj hmono h2⟩
 ·rw[e 18 (by omega)]
  rcases h.item m k h1 h2 h3 with h0|⟨x,g,hx,hmx,h4,h5⟩
  ·exact .inl h0
  ·exact .inr ⟨x,g,hx,hmx,h4,Zj hmono h5⟩
 ·by_cases hgp:g=8*p
  ·rw[hgp,xC]at hg;cases hg
   exact⟨p,o,0,by rw[hsl,if_pos rfl],hbp,by omega⟩
  ·rw[upd_ne _ _ hgp]at hg
   exact Zj hmono (h.hblk g d hg)
 ·rw[hrn]
  by_cases hgp:g=8*p
  ·rw[hgp,xC,show 8*p / 8=p by omega,hr];simp
  ·rw[upd_ne _ _ hgp];exact h.hrun g k
 ·rw[e 12 (by omega),e 18 (by omega)]
  rw[hsl]at hq
  have hlt:=xW hj
  by_cases hqp:q=p
  ·rw[if_pos hqp]at hq;cases hq
   subst hqp
   obtain⟨n1,n2,n3,_⟩:=h.nowhere (g:=8*q+j*(c+1)) (by omega) hs hr
   simp only[updN,if_true]
   rw[n2,n3,hrem,hm2 j hj]
   by_cases hj0:j=0
   ·subst hj0
    rw[show 8*q+0*(c+1)=8*q by omega,xC]
    simp[b2n]
   ·have hne:8*q+j*(c+1)≠8*q:=by
     have:0<j*(c+1):=Nat.mul_pos (by omega) (by omega)
     omega
    rw[upd_ne _ _ hne,n1]
    simp[b2n,hj0]
  ·rw[if_neg hqp]at hq
   simp only[updN,if_neg hqp]
   rw[upd_ne _ _ (by omega)]
   exact h.tok q d o' j hq hj
theorem HI.retire(h:HI n t A held S mp vr rem bag pl){A':AS}{S':List Sg}{p c o v:Nat}(hs:slabAt S p=some (c,o))(hv:v<4294967296)(hfull : ∀j,j<blc c->(mp p).testBit j=true)
  (hl:Laid n A' S') (hN:Norm S') (hd : ∀s∈S',s.kd ≠ .dfr) (hsl : ∀q,slabAt S' q=if q=p then none else slabAt S q) (hrn : ∀q,runAt S' q=runAt S q)
  (hw : ∀r i,(r=1/\i=0)\/r=4\/(8<=r/\r<=10)\/r=12\/r=13\/(15<=r/\r<=18)->A'.w r i=if r=8/\i=p then bt0 v else A.w r i):HI n t A' held S' mp (updN vr p v) rem bag pl:=by
 have e : ∀r,(r=9\/r=10\/r=12\/r=13\/r=17\/r=18)->A'.w r=A.w r:=fun r hr=>funext fun i=>by rw[hw r i (by omega),if_neg (by omega)]
 have e1:A'.w 1 0=A.w 1 0:=by rw[hw 1 0 (by omega),if_neg (by omega)]
 have e4:A'.w 4 0=A.w 4 0:=by rw[hw 4 0 (by omega),if_neg (by omega)]
 have e8 : ∀q,A'.w 8 q=if q=p then bt0 v else A.w 8 q:=fun q=>by
  rw[hw 8 q (by omega)]
  by_cases hq:q=p
  ·rw[if_pos ⟨rfl,hq⟩,if_pos hq]
  ·rw[if_neg (fun hh=>hq hh.2),if_neg hq]
 have hin : ∀ {g d:Nat},isBlk S g d->g / 8=p->held g=none/\cntR (A.w 12) (8*t) ((g+1:Nat):Int)=0/\cntR (A.w 18) (8*nodesN n t) ((g+1:Nat):Int)=0/\(rem p).count g=0:=by
  intro g d hb hgp
  obtain⟨q,o',j,h1,h2,h3,h4⟩:=h.places hb
  have:=xW h2
  obtain rfl:q=p:=by omega
  rw[hs]at h1;cases h1
  rw[hfull j h2,show b2n true=1 from rfl]at h4
  exact⟨isSome_none (by omega),by omega,by omega,by omega⟩
 have hmv : ∀ {g d:Nat},isBlk S g d->g / 8≠p->isBlk S' g d:=by
  rintro g d ⟨q,o',j,h1,h2,rfl⟩ hgp
  have:=xW h2
  exact⟨q,o',j,by rw[hsl,if_neg (by omega)];exact h1,h2,rfl⟩
 refine⟨hl,hN,hd,by rw[e1];exact h.ep,fun q hq =>?_,fun q d o' hq =>?_,fun q hq hqs =>?_,by rw[e 9 (by omega),e 10 (by omega)];exact h.remw,fun q hq g hg =>?_,fun i hi =>?_,by rw[e 13 (by omega),e 17 (by omega)];exact h.bagw,h.bagn,h.bagd,fun m k h1 h2 h3 =>?_,by rw[e4,e 17 (by omega)];exact h.polw,h.poln,fun g d hg =>?_,fun g k=>by rw[hrn];exact h.hrun g k,fun q d o' j hq hj =>?_,h.gon.of (fun i=>by rw[hw 15 i (by omega),if_neg (by omega)]) (fun i=>by rw[hw 16 i (by omega),if_neg (by omega)])⟩
 ·by_cases hqp:q=p
  ·simp only[updN,if_pos hqp];exact hv
  ·simp only[updN,if_neg hqp];exact h.ver q hq
 ·rw[hsl]at hq
  have hqp:q≠p:=fun hh=>by rw[if_pos hh]at hq;cases hq
  rw[if_neg hqp]at hq
  rw[e8,if_neg hqp]
  simp only[updN,if_neg hqp];exact h.bitS q d o' hq
 ·rw[hsl]at hqs
  rw[e8]
  by_cases hqp:q=p
  ·simp only[updN,if_pos hqp]
  ·rw[if_neg hqp]at hqs
   simp only[updN,if_neg hqp];exact h.bitN q hq hqs
 ·obtain⟨g1,d,g2⟩:=h.remb q hq g hg
  refine⟨g1,d,hmv g2 fun hgp =>?_⟩
  have:=(hin g2 hgp).2.2.2
  rw[<- hgp,g1]at this
  exact absurd (List.count_pos_iff.2 hg) (by omega)
 ·rw[e 12 (by omega)]
  rcases h.cach i hi with h0|⟨g,h1,h2⟩
  ·exact .inl h0
  ·refine .inr ⟨g,h1,hmv h2 fun hgp =>?_⟩
   exact xiz (hin h2 hgp).2.1 hi h1
 ·rw[e 18 (by omega)]
  rcases h.item m k h1 h2 h3 with h0|⟨x,g,hx,hmx,h4,h5⟩
  ·exact .inl h0
  ·refine .inr ⟨x,g,hx,hmx,h4,hmv h5 fun hgp =>?_⟩
   exact xiz (hin h5 hgp).2.2.1 (show(m-1)*8+k<8*nodesN n t by omega) h4
 ·have hb:=h.hblk g d hg
  exact hmv hb fun hgp=>by have:=(hin hb hgp).1;rw[hg]at this;cases this
 ·rw[e 12 (by omega),e 18 (by omega)]
  rw[hsl]at hq
  have hqp:q≠p:=fun hh=>by rw[if_pos hh]at hq;cases hq
  rw[if_neg hqp]at hq
  exact h.tok q d o' j hq hj
end
end
section
open Go Go.RowKit Lx
theorem Vk{σ β:Type}(N:Nat)(B:σ->(σ->T β)->T β)(i:σ):xr (N+1) B i=B i (xr N B):=rfl
theorem xiK : ∀ (S:List Sg) (q:Nat),(∀s∈S,s.ok/\s.kd ≠ .dfr/\s.len<=256)->q<plen S ->∃m,1<=m/\q+m<=plen S/\((pgOf (pageW S q)).kind==5)=false/\vM (pgOf (pageW S q)) = .ret (m:Int)
 | [],q,_,h=>by simp[plen]at h
 | s::l,q,hok,h=>by
  obtain⟨h1,h2,h3⟩:=hok s (by simp)
  rw[xJ]at h |-
  rw[yQ]
  by_cases hq:q<s.len
  ·rw[if_pos hq]
   by_cases h0:q=0
   ·subst h0
    obtain⟨g1,g2⟩:=xag h1 h3
    rw[show s.word 0=s.kd.head s.len by rw[Sg.word,if_pos rfl]]
    refine⟨s.len,h1.1,by omega,?_,?_⟩
    ·rw[g1];cases hk:s.kd<;>first|(exact absurd hk h2)|rfl
    ·unfold vM xax
     have hl:=h1.1
     rw[g1,g2,show((kindOf s.kd:Int)==0)=false by cases s.kd<;>rfl,show((kindOf s.kd:Int)==2)=false by cases s.kd<;>rfl,if_neg (by omega)]
     rfl
   ·refine⟨1,by omega,by omega,?_⟩
    unfold Sg.word
    rw[if_neg h0]
    split
    ·rw[yW 2 s.len 0 0 (by omega) (by omega) (by omega) (by omega)];exact⟨rfl,rfl⟩
    ·unfold body
     rw[yW 0 0 0 0 (by omega) (by omega) (by omega) (by omega)];exact⟨rfl,rfl⟩
  ·rw[if_neg hq]
   obtain⟨m,k1,k2,k3⟩:=xiK l (q-s.len) (fun x hx=>hok x (by simp[hx])) (by omega)
   exact⟨m,k1,by omega,k3⟩
theorem xpd{β:Type}(a0:Int)(g:Geo)(κ0:Int->T β)(i:Int×Int)(k:Int×Int->T β):ZJ a0 g κ0 i k =
  bif decide (i.1<a0)then(.op (.load (atF g 8 i.1)) fun x=>bif (btOf x).has then(bif decide ((btOf x).cls<4)then(bif decide (0<=(btOf x).cls/\(btOf x).cls<4)then((xb0 (btOf x) (bif (btOf x).cls==0 then 8 else bif (btOf x).cls==0+1 then 4 else bif (btOf x).cls==0+1+1 then 2 else(2:Int))).bind fun r5=>
   bif r5 then((kI g i.1).bind fun r7=>bif r7 then((yJ g i.2 1).bind fun r9=>k (i64.wrap (i.1+1),r9.2))else k (i64.wrap (i.1+1),i.2))else k (i64.wrap (i.1+1),i.2))else .fail) else
   k (i64.wrap (i.1+1),i.2))else k (i64.wrap (i.1+1),i.2))else κ0 i.2:=by rfl
theorem xiL : ∀c:Nat,c<4->(bif (c:Int)==0 then(8:Int)else bif (c:Int)==0+1 then(4:Int)else bif (c:Int)==0+1+1 then(2:Int)else(2:Int))=(blc c:Int):=by decide
theorem wrap_u32(v:Nat):u32.wrap ((v:Int)+1)=(((v+1)%4294967296:Nat):Int):=by
 rw[show u32.wrap ((v:Int)+1)=((v:Int)+1)%4294967296 from by simp[IntKind.wrap,IntKind.signed,IntKind.bits]];omega
section
variable{n t:Nat}(hf:Small n t){A:AS}{held:Nat->Option HK}{S:List Sg}{mp vr:Nat->Nat}{rem bag:Nat->List Nat}{pl:List Nat}
include hf
theorem xtH{me:Nat}(hme:me<t):u64.wrap (u64.wrap (me:Int)+1)=((me+1:Nat):Int):=by
 have:=hf.t2
 rw[IntKind.wrap_u64,IntKind.wrap_u64];omega
theorem xdG{me:Nat}(hme:me<t)(hself:A.self=(me:Int))(h0:A.w 0 0=0):(tryT (xb n t)).run (xl n t) A=some (true,(A.set 0 0 ((me+1:Nat):Int)).tick):=by
 unfold tryT xs1
 simp only[T.run,xl,at0 hf.toFew,xB (show 0<Zr n t 0 by simp[Zr]) 19 (by omega),hself,xtH hf hme]
 rw[if_pos h0]
 rfl
theorem qj{me:Nat}(hme:me<t)(hself:A.self=(me:Int))(h0:A.w 0 0=((me+1:Nat):Int)):(ZC (xb n t)).run (xl n t) A=some (true,(A.set 0 0 0).tick):=by
 unfold ZC xjw
 simp only[T.run,xl,at0 hf.toFew,xB (show 0<Zr n t 0 by simp[Zr]) 19 (by omega),hself,xtH hf hme]
 rw[if_pos h0]
theorem xgk{o:Int}:(yJ (xb n t) o 0).run (xl n t) A=some (((),o),A):=by
 unfold yJ VV
 rfl
theorem jI{β:Type}{Q:β->AS->Prop}{κ0:Int->T β}{a0:Int} : ∀ (d:Nat) (N q:Nat) (c:Int) (A:AS) {L M:List Sg},Laid n A (L++M)->(∀s∈L,s.kd ≠ .dfr)->q+d=plen L->d<N->
  (∀N' A',N<=N'+d->Fr [] d A A'->Rn n t (xr N' (yL a0 (xb n t) (xb n t) κ0) (c,((plen L:Nat):Int))) A' Q)->Rn n t (xr N (yL a0 (xb n t) (xb n t) κ0) (c,(q:Int))) A Q:=by
 intro d
 induction d using Nat.strongRecOn with
 | _ d ih=>
  intro N q c A L M h hL hq hN hk
  by_cases hd:d=0
  ·subst hd
   rw[show q=plen L by omega]
   exact hk N A (by omega) (Fr.refl [] A)
  ·obtain⟨N1,rfl⟩ : ∃N1,N=N1+1:=⟨N-1,by omega⟩
   have hn:=hf.n2
   have hlen:=h.len
   rw[xp]at hlen
   obtain⟨m,m1,m2,m3,m4⟩:=xiK L q (fun s hs=>⟨h.ok s (by simp[hs]),hL s hs,by have:=xtA hs;omega⟩) (by omega)
   have hw:=h.w q (by omega)
   rw[xU,if_pos (by omega)]at hw
   rw[Vk]
   unfold yL
   refine Rn.yes (by rw[dT];show((q:Nat):Int)<((n:Nat):Int);omega) ?_
   refine Rn.run (YJ hf.toFew (p:=q) (by omega)) ?_
   rw[hw]
   refine Rn.no m3 ?_
   show Rn n t ((vM (pgOf (pageW L q))).bind _) A.tick Q
   rw[m4]
   simp only[T.bind]
   rw[wrap_add hf.toFew (x:=q) (y:=m) (by omega)]
   exact ih (d-m) (by omega) N1 (q+m) c A.tick (h.of (fun _=>rfl) (fun _=>rfl)) hL (by omega) (by omega) fun N' A' hN' hA'=>hk N' A' (by omega) ((Fr.tick [] A).trans hA')
theorem xcx{β:Type}{Q:β->AS->Prop}{κ0:Int->T β}{a0:Int}{N:Nat}{c:Int}(hQ:Rn n t (κ0 c) A Q):Rn n t (xr (N+1) (yL a0 (xb n t) (xb n t) κ0) (c,(n:Int))) A Q:=by
 rw[Vk]
 unfold yL
 exact Rn.no (by rw[dF];show ¬ ((n:Nat):Int)<((n:Nat):Int);omega) hQ
theorem xam(h:Laid n A S)(hS : ∀s∈S,s.kd ≠ .dfr):Rn n t (vn (xb n t)) A fun r A'=>r=0/\Fr [] 300 A A':=by
 have hn:=hf.n2
 unfold vn jQ yM
 refine jI hf (a0:=0) n xa 0 0 A (L:=S) (M :=[]) (by simpa using h) hS (by rw[h.len];omega) (by unfold xa;omega) fun N' A' hN' hA' =>?_
 rw[h.len]
 obtain⟨N1,rfl⟩ : ∃N1,N'=N1+1:=⟨N'-1,by unfold xa at hN';omega⟩
 exact xcx hf (Rn.ret ⟨rfl,hA'.mono⟩)
theorem xpe{m c v:Nat}(hm:m<2 ^ blc c)(hc:c<4){b:Int}(hb:b=(blc c:Int)):(xb0 ⟨(m:Int),true,(c:Int),(v:Int)⟩ b).run (xl n t) A=some (decide (m=2 ^ blc c-1),A):=by
 have hm8:=xxG hm
 have hx:=xor_ok m hm8
 have h8:blc c<=8:=xlD
 subst hb
 unfold xb0 xjH
 have e:(if IntKind.signed u8=true then -1 else Int.ofNat (2 ^ 8-1))=(255:Int):=rfl
 have e':(if IntKind.signed u8=true then -1 else IntKind.max u8)=(255:Int):=rfl
 simp only[e,e']
 rw[decide_eq_false (show ¬ ((blc c:Int)>8)by omega),decide_eq_true hx.1,decide_eq_true hx.2,if_neg (show ¬ ((blc c:Int)<0)by omega),full_ok m hm8 (blc c) (by omega) hm]
 rfl
theorem run_make{p c me v:Nat}(hp:p<n)(hc:c<4)(hself:A.self=(me:Int))(hv:v<4294967296)(hw:A.w 8 p=bt0 v):(xhH (xb n t) (p:Int) (c:Int)).run (xl n t) A =
  some (((8*p:Nat):Int),((A.set 7 p (pw 3 1 c me)).tick.tick.set 8 p (btw (jH c) c ((v+1)%4294967296))).tick):=by
 have hn:=hf.n2
 have key : ∀c:Nat,c<4 ->∀ (x:Int),xhH (xb n t) x (c:Int)=(isT (xb n t) x (c:Int)).bind fun r0=>bif !r0 then .ret (-1)else .op .self fun x3 =>.op (.store (atF (xb n t) 7 x) (Pg.word (Pg.mk 3 1 (c:Int) x3))) fun _=>(YU (xb n t) x).bind fun r5=>
   .op (.store (atF (xb n t) 8 x) (Bt.word (Bt.mk (jH c:Int) true (c:Int) (u32.wrap (r5.ver+1))))) fun _ =>.ret (i64.wrap (i64.wrap (x*8)+0)):=by
  intro c hc x
  have hc':c=0\/c=1\/c=2\/c=3:=by omega
  rcases hc' with rfl|rfl|rfl|rfl<;>rfl
 rw[key c hc,T.run_bind,xak hf hp hc]
 have e1:i64.wrap (i64.wrap ((p:Int)*8)+0)=((8*p:Nat):Int):=by
  rw[show(p:Int)*8=((8*p:Nat):Int)by omega,wN _ (by omega),Int.add_zero,wN _ (by omega)]
 have e2:((A.set 7 p (Pg.word (Pg.mk 3 1 (c:Int) (me:Int)))).tick).w 8 p=bt0 v:=by simpa using hw
 have e3:(btOf (bt0 v)).ver=(v:Int):=by rw[xgg hv]
 have e4:=wrap_u32 v
 simp only[cond_false,Bool.not_true,T.run,T.run_bind,xl,hself,at7 hf.toFew hp,at8 hf.toFew hp,xB (show p<Zr n t 7 from hp) 19 (by omega),xB (show p<Zr n t 8 from hp) 19 (by omega),YO hf hp,e1,e2,e3,e4]
 rfl
theorem xiM{me o c:Nat}(ho:o<=100000000)(hc:c<4)(hme:me<t)(hself:A.self=(me:Int))(h0:A.w 0 0=0)(h:HI n t A held S mp vr rem bag pl):Rn n t (Wz (xb n t) (o:Int) (c:Int)) A fun r A'=>
  r.1.e=0/\A'.w 0 0=0/\((∃ (g:Nat) (S':List Sg) (mp' vr':Nat->Nat),r.1.ok=true/\r.1.grain=(g:Int)/\r.2=((o+1:Nat):Int)/\held g=none/\HI n t A' (upd held g (some (.blk c))) S' mp' vr' rem bag pl/\A'.w 1 0=u64.wrap (A.w 1 0+1)/\Fr [0,1,3,7,8] 2000 A A')\/
   (r.1.ok=false/\r.2=(o:Int)/\Fr [0] 2000 A A'/\wJ 1 1 0 S)):=by
 have hn:=hf.n2
 have ht2:=hf.t2
 unfold Wz xde
 refine Rn.run (xdG hf hme hself h0) (Rn.no rfl ?_)
 have hfr1:Fr [0] 1 A (A.set 0 0 ((me+1:Nat):Int)).tick:=Fr.sett A _ (by simp)
 have hl1:(A.set 0 0 ((me+1:Nat):Int)).tick.w 0 0=((me+1:Nat):Int):=by simp
 generalize(A.set 0 0 ((me+1:Nat):Int)).tick=A1 at *
 have h1:HI n t A1 held S mp vr rem bag pl:=h.fr hfr1 (by simp)
 have hs1:A1.self=(me:Int):=by rw[hfr1.self,hself]
 refine Rn.bind (xgc hf.toFew h1.laid (k:=1) (a:=1) (by omega) hf.n1 (by omega) (by omega)) ?_
 rintro r A2 (⟨rfl,hfr2,hno⟩|⟨L,s,R,rfl,hfit,rfl,hfr2,hl2⟩)
 ·refine Rn.no rfl ?_
  refine Rn.run (qj hf (A:=A2) hme (by rw[hfr2.self,hs1]) (by rw[hfr2.w 0 (by simp),hl1])) (Rn.ret ⟨rfl,by simp,.inr ⟨rfl,rfl,?_,hno⟩⟩)
  exact(hfr1.trans hfr2 (S :=[0]) (e:=301)).trans (Fr.sett (R :=[0]) A2 _ (by simp))
 ·refine Rn.yes rfl ?_
  simp only
  obtain⟨hsf,hup⟩:=hfit
  have hge:=xtB (plen L) (min 1 256) (by omega)
  generalize up (plen L) (min 1 256)=p at *
  have hlen:=h.laid.len
  rw[xp,xJ]at hlen
  have hp:p<n:=by omega
  have hsl0:slabAt (L++s::R) p=none:=by
   rw[yC,if_neg (by omega),vg,if_pos (by omega),hsf];rfl
  have hrn0:runAt (L++s::R) p=none:=by
   rw[yR,if_neg (by omega),vh,if_pos (by omega),hsf,if_neg (by rintro ⟨_,hh⟩;cases hh)]
  have hrem:=xo9 hf h hp hsl0
  have hw8:A2.w 8 p=bt0 (vr p):=by rw[hfr2.w 8 (by simp),h1.bitN p hp hsl0]
  have hv:=h.ver p hp
  refine Rn.run (run_make hf hp hc (by rw[hfr2.self,hs1]) hv hw8) ?_
  have hpl:plen (L++frs (p-plen L))=p:=by rw[xp,yy];omega
  have hlh:=xiJ (kd' :=.slab c me) (L:=L++frs (p-plen L)) (k:=1) (kd :=.run) (R:=frs (plen L+s.len-p-1)++R) (by simpa using hl2) (by simp) (by simp) ⟨by simp,fun c' o' hh=>by cases hh;exact⟨rfl,hc,by omega⟩⟩
  rw[hpl,show(Kd.slab c me).head 1=pw 3 1 c me from rfl]at hlh
  have hfr3:Fr [7,8] 3 A2 ((A2.set 7 p (pw 3 1 c me)).tick.tick.set 8 p (btw (jH c) c ((vr p+1)%4294967296))).tick:=
   ((Fr.sett (R :=[7,8]) A2 _ (by simp)).trans (Fr.tick [7,8] _) (S :=[7,8]) (e:=2)).trans (Fr.sett (R :=[7,8]) _ _ (by simp))
  have hH:=h1.fresh (A':=((A2.set 7 p (pw 3 1 c me)).tick.tick.set 8 p (btw (jH c) c ((vr p+1)%4294967296))).tick) (S':=(L++frs (p-plen L))++(⟨1,.slab c me⟩::(frs (plen L+s.len-p-1)++R))) (p:=p) (c:=c) (o:=me) (v:=(vr p+1)%4294967296) hp hc (Nat.mod_lt _ (by omega)) hsl0 hrn0 hrem
   (hlh.of (fun i=>by simp) (fun i=>by simp)) (by rw[List.append_assoc];exact xpc h.norm hsf (by simp)) (fun x hx =>?_) (fun q =>?_) (fun q =>?_) (fun r i hr =>?_)
  ·obtain⟨hg0,hH⟩:=hH
   have hs3:=hfr3.self
   rw[hfr2.self,hs1]at hs3
   have hl3:=hfr3.w 0 (by simp) 0
   rw[hfr2.w 0 (by simp),hl1]at hl3
   have he3:=hfr3.w 1 (by simp) 0
   rw[hfr2.w 1 (by simp),hfr1.w 1 (by simp)]at he3
   generalize((A2.set 7 p (pw 3 1 c me)).tick.tick.set 8 p (btw (jH c) c ((vr p+1)%4294967296))).tick=A3 at *
   refine Rn.run (ku hf (A:=A3) (o:=(o:Int)) (k:=1) (by omega) (by omega)) ?_
   refine Rn.run (qj hf hme (by simpa using hs3) (by simpa using hl3)) (Rn.ret ⟨rfl,by simp,.inl ⟨8*p,_,_,_,rfl,rfl,?_,hg0,(hH.moved hf (A3.w 1 0+((1:Nat):Int))).same fun r i hr =>?_,?_,?_⟩⟩)
   ·simp only;rw[IntKind.wrap_u64];omega
   ·simp only[AS.tick_w,AS.set_w];rw[if_neg (by omega)]
   ·simp[he3]
   ·refine((((hfr1.trans hfr2 (S :=[0,3,7]) (e:=1001)).trans hfr3 (S :=[0,3,7,8]) (e:=1004)).trans (Fr.sett (R :=[1]) A3 _ (by simp)) (S :=[0,1,3,7,8]) (e:=1005)).trans (Fr.sett (R :=[0]) _ _ (by simp)))
  ·simp only[List.append_assoc,List.mem_append,List.mem_cons]at hx
   rcases hx with hx|hx|rfl|hx|hx
   ·exact h.nodf x (by simp[hx])
   ·rw[(xbL hx).2];simp
   ·simp
   ·rw[(xbL hx).2];simp
   ·exact h.nodf x (by simp[hx])
  ·rw[List.append_assoc,xgi hsf (by omega)]
   by_cases hq:q=p
   ·rw[if_pos (by omega),if_pos hq];rfl
   ·rw[if_neg (by omega),if_neg hq]
  ·rw[List.append_assoc,xiH hsf (by omega) (by omega),if_neg (by rintro ⟨_,hh⟩;cases hh)]
  ·simp only[AS.tick_w,AS.set_w]
   by_cases h8:r=8/\i=p
   ·rw[if_pos h8,if_pos h8]
   ·rw[if_neg h8,if_neg h8,if_neg (by omega),hfr2.w r (by simp;omega)]
theorem xpf{p c o:Nat}(h:HI n t A held S mp vr rem bag pl)(hs:slabAt S p=some (c,o))(hfull:mp p=2 ^ blc c-1):Rn n t (kI (xb n t) (p:Int)) A fun r A'=>
  r=true/\ ∃ (S':List Sg) (vr':Nat->Nat),HI n t A' held S' mp vr' rem bag pl/\(∀q,slabAt S' q=if q=p then none else slabAt S q)/\Fr [3,7,8] 60 A A':=by
 have hn:=hf.n2
 obtain⟨hp,hc,hm,hv,hw⟩:=vU hf h hs
 have hpw:=(h.bitS p c o hs).1
 have hrn:=yz hs
 obtain⟨L,R,rfl,hpl⟩:=ke S p c o h.laid.ok hs
 unfold kI XU
 refine Rn.run (xak hf hp (k:=0) (by omega)) (Rn.no rfl ?_)
 refine Rn.run (YO hf hp) ?_
 rw[hw,Xo hm hc hv]
 refine Rn.no rfl (Rn.no (by rw[dF];simp only;omega) (Rn.yes (by rw[dT];simp only;omega) ?_))
 refine Rn.run (xpe hf hpw hc (xiL c hc)) ?_
 refine Rn.no (by rw[decide_eq_true hfull];rfl) ?_
 rw[wrap_u32]
 refine Rn.run (xbO hf (A:=A.tick) hp (by rw[AS.tick_w,hw];rfl)) (Rn.yes rfl ?_)
 have hl2:Laid n ((A.tick.set 8 p (Bt.word ⟨0,false,0,(((vr p+1)%4294967296:Nat):Int)⟩)).tick) (L++(⟨1,.slab c o⟩::R)):=h.laid.of (fun i=>by simp) (fun i=>by simp)
 have hfr2:Fr [8] 2 A ((A.tick.set 8 p (Bt.word ⟨0,false,0,(((vr p+1)%4294967296:Nat):Int)⟩)).tick):=(Fr.tick [8] A).trans (Fr.sett (R :=[8]) _ _ (by simp))
 have hw2 : ∀r i,((A.tick.set 8 p (Bt.word ⟨0,false,0,(((vr p+1)%4294967296:Nat):Int)⟩)).tick).w r i=if r=8/\i=p then bt0 ((vr p+1)%4294967296)else A.w r i:=fun r i=>rfl
 generalize(A.tick.set 8 p (Bt.word ⟨0,false,0,(((vr p+1)%4294967296:Nat):Int)⟩)).tick=A2 at *
 have hrf:=xiy hf.toFew hl2 h.norm (by simp)
 rw[hpl]at hrf
 refine Rn.bind hrf ?_
 rintro r A3 ⟨rfl,hfr3,L0,b,a,R0,rfl,rfl,hl0,hr0,hl3⟩
 obtain⟨hN1,hN2,_⟩:=(xI _ _).1 h.norm
 have hNL:=((xI _ _).1 hN1).1
 have hNR:=((xI _ _).1 hN2.2).2.1
 have hplen:plen L0+b=p:=by rw[<- hpl,xp,yy]
 have eS:L0++frs b++(⟨1,.slab c o⟩::(frs a++R0))=L0++(frs b++(⟨1,.slab c o⟩::(frs a++R0))):=List.append_assoc _ _ _
 have hsl : ∀q,slabAt (L0++(⟨b+1+a,.free⟩::R0)) q=if q=p then none else slabAt (L0++frs b++(⟨1,.slab c o⟩::(frs a++R0))) q:=fun q=>by
  have:=xcw (L0:=L0) (R0:=R0) (s:=⟨1,.slab c o⟩) (b:=b) (a:=a) q
  simp only at this
  rw[this,eS]
  by_cases hq:q=p
  ·rw[if_pos (by omega),if_pos hq]
  ·rw[if_neg (by omega),if_neg hq]
 refine Rn.ret ⟨rfl,_,_,h.retire hs (v:=(vr p+1)%4294967296) (Nat.mod_lt _ (by omega)) (fun j hj =>?_) hl3 (xiI hNL hNR hl0 hr0) (fun x hx =>?_) hsl (fun q =>?_) (fun r i hr =>?_),hsl,hfr2.trans hfr3⟩
 ·rw[hfull,Nat.testBit_two_pow_sub_one];simpa using hj
 ·simp only[List.mem_append,List.mem_cons]at hx
  rcases hx with hx|rfl|hx
  ·exact h.nodf x (by simp[hx])
  ·simp
  ·exact h.nodf x (by simp[hx])
 ·have:=xgj (L0:=L0) (R0:=R0) (s:=⟨1,.slab c o⟩) (b:=b) (a:=a) q
  simp only at this
  rw[this,eS]
  by_cases hq:q=p
  ·rw[if_pos (by omega),hq,<- eS,hrn]
  ·rw[if_neg (by omega)]
 ·rw[hfr3.w r (by simp;omega),hw2]
theorem xpg{o:Nat}(ho:o<=100000000)(h:HI n t A held S mp vr rem bag pl):Rn n t (jS (xb n t) (o:Int)) A fun r A'=>
  ∃ (S':List Sg) (vr':Nat->Nat) (k:Nat),k<=256/\r=((),((o+k:Nat):Int))/\HI n t A' held S' mp vr' rem bag pl/\(∀q c ow,slabAt S' q=some (c,ow)->mp q≠2 ^ blc c-1)/\A'.w 1 0=u64.wrap (A.w 1 0+(k:Int))/\Fr [1,3,7,8] 30000 A A':=by
 have e0:A.w 1 0=u64.wrap (A.w 1 0+((0:Nat):Int)):=by have:=h.ep;rw[IntKind.wrap_u64];omega
 have hn:=hf.n2
 unfold jS Yb vc
 refine Rn.loop (fun r i A1 =>∃ (p k:Nat) (S':List Sg) (vr':Nat->Nat),i=((p:Int),((o+k:Nat):Int))/\p<=n/\r=n-p/\k<=p/\HI n t A1 held S' mp vr' rem bag pl/\(∀q c ow,q<p->slabAt S' q=some (c,ow)->mp q≠2 ^ blc c-1)/\A1.w 1 0=u64.wrap (A.w 1 0+(k:Int))/\Fr [1,3,7,8] (80*p) A A1) ?_ xa n _ A (by unfold xa;omega)
  ⟨0,0,S,vr,rfl,by omega,rfl,by omega,h,fun x _ _ hx=>by omega,e0,(Fr.refl [] A).mono⟩
 rintro r i A1 κ' ⟨p,k,S1,vr1,rfl,hpn,rfl,hk,h1,hz,he,hfr⟩ hloop
 rw[xpd]
 simp only
 by_cases hp:p<n
 ·refine Rn.yes (by rw[dT];show((p:Nat):Int)<((n:Nat):Int);omega) ?_
  refine Rn.load (at8 hf.toFew hp) (by omega) hp ?_
  rw[xF hf.toFew (x:=p) (by omega)]
  cases hs:slabAt S1 p with
  | none=>
   have hw:=h1.bitN p hp hs
   rw[hw,xgg (h1.ver p hp)]
   refine Rn.no rfl (hloop (n-(p+1)) _ _ (by omega) ⟨p+1,k,S1,vr1,rfl,by omega,rfl,by omega,h1.same fun r i _=>rfl,fun q c ow hq hqs =>?_,he,hfr.trans (Fr.tick [] A1)⟩)
   by_cases hqp:q=p
   ·rw[hqp,hs]at hqs;cases hqs
   ·exact hz q c ow (by omega) hqs
  | some x=>
   obtain⟨c,ow⟩:=x
   obtain⟨_,hc,hm,hv,hw⟩:=vU hf h1 hs
   have hpw:=(h1.bitS p c ow hs).1
   rw[hw,Xo hm hc hv]
   refine Rn.yes rfl (Rn.yes (by rw[dT];simp only;omega) (Rn.yes (by rw[dT];simp only;omega) ?_))
   refine Rn.run (xpe hf hpw hc (xiL c hc)) ?_
   by_cases hfl:mp p=2 ^ blc c-1
   ·refine Rn.yes (decide_eq_true hfl) ?_
    refine Rn.bind (xpf hf (A:=A1.tick) (h1.same fun r i _=>rfl) hs hfl) ?_
    rintro r A2 ⟨rfl,S2,vr2,h2,hsl2,hfr2⟩
    refine Rn.yes rfl ?_
    refine Rn.run (ku hf (A:=A2) (o:=((o+k:Nat):Int)) (k:=1) (by omega) (by omega)) ?_
    simp only
    rw[show u64.wrap (((o+k:Nat):Int)+((1:Nat):Int))=((o+(k+1):Nat):Int)by rw[IntKind.wrap_u64];omega]
    refine hloop (n-(p+1)) _ _ (by omega) ⟨p+1,k+1,S2,vr2,rfl,by omega,rfl,by omega,h2.moved hf _,fun q c' ow' hq hqs =>?_,?_,((hfr.trans (Fr.tick [] A1) (S :=[1,3,7,8]) (e:=80*p+1)).trans hfr2 (S :=[1,3,7,8]) (e:=80*p+61)).trans (Fr.sett (R :=[1]) A2 _ (by simp))⟩
    ·rw[hsl2]at hqs
     by_cases hqp:q=p
     ·rw[if_pos hqp]at hqs;cases hqs
     ·rw[if_neg hqp]at hqs
      exact hz q c' ow' (by omega) hqs
    ·simp only[AS.tick_w,AS.set_w,and_self,if_true]
     rw[hfr2.w 1 (by simp),AS.tick_w,he,IntKind.wrap_u64,IntKind.wrap_u64,IntKind.wrap_u64];omega
   ·refine Rn.no (decide_eq_false hfl) (hloop (n-(p+1)) _ _ (by omega) ⟨p+1,k,S1,vr1,rfl,by omega,rfl,by omega,h1.same fun r i _=>rfl,fun q c' ow' hq hqs =>?_,he,hfr.trans (Fr.tick [] A1)⟩)
    by_cases hqp:q=p
    ·subst hqp;rw[hs]at hqs;cases hqs;exact hfl
    ·exact hz q c' ow' (by omega) hqs
 ·obtain rfl:p=n:=by omega
  refine Rn.no (by rw[dF];show ¬ ((p:Nat):Int)<((p:Nat):Int);omega) ?_
  refine Rn.ret ⟨S1,vr1,k,by omega,rfl,h1,fun q c ow hqs=>hz q c ow ?_ hqs,he,hfr.mono⟩
  exact(vU hf h1 hqs).1
end
end
section
open Go Go.RowKit Lx
theorem xtI : ∀ (S:List Sg) (p:Nat),p<plen S ->∃L s R,S=L++s::R/\plen L<=p/\p<plen L+s.len
 | [],p,h=>by simp[plen]at h
 | s::l,p,h=>by
  rw[xJ]at h
  by_cases hp:p<s.len
  ·exact⟨[],s,l,rfl,by simp[plen],by simp[plen];exact hp⟩
  ·obtain⟨L,x,R,h1,h2,h3⟩:=xtI l (p-s.len) (by omega)
   exact⟨s::L,x,R,by rw[h1];rfl,by rw[xJ];omega,by rw[xJ];omega⟩
theorem wz{L R:List Sg}{s:Sg}{p:Nat}(h1:plen L<=p)(h2:p<plen L+s.len):slabAt (L++s::R) p=s.kd.slabOf:=by
 rw[yC,if_neg (by omega),vg,if_pos (by omega)]
theorem qk{L R:List Sg}{s:Sg}{p:Nat}(h1:plen L<=p)(h2:p<plen L+s.len):runAt (L++s::R) p=if p=plen L/\s.kd = .run then some s.len else none:=by
 rw[yR,if_neg (by omega),vh,if_pos (by omega)]
 by_cases hp:p=plen L
 ·by_cases hk:s.kd = .run
  ·rw[if_pos ⟨by omega,hk⟩,if_pos ⟨hp,hk⟩]
  ·rw[if_neg (fun hh=>hk hh.2),if_neg (fun hh=>hk hh.2)]
 ·rw[if_neg (by omega),if_neg (fun hh=>hp hh.1)]
theorem Xq{k a:Nat} : ∀ {p:Nat} {L:List Sg} {s:Sg} {R:List Sg},wJ k a p (L++s::R) ->¬xah s (p+plen L) k a
 | p,[],s,R,h=>by simpa[plen]using h.1
 | p,x::l,s,R,h=>by
  have:=Xq (p:=p+x.len) (L:=l) h.2
  rw[xJ,<- Nat.add_assoc];exact this
theorem wH : ∀ (S:List Sg) (p k:Nat),runAt S p=some k ->∃L R,S=L++(⟨k,.run⟩::R)/\plen L=p
 | [],p,k,h=>by cases h
 | s::l,p,k,h=>by
  rw[vh]at h
  by_cases hp:p<s.len
  ·rw[if_pos hp]at h
   split at h
   ·rename_i hc
    cases h
    obtain⟨len,kd⟩:=s
    obtain⟨h1,h2⟩:=hc
    simp only at h2
    subst h2
    exact⟨[],l,rfl,by simp[plen];exact h1.symm⟩
   ·cases h
  ·rw[if_neg hp]at h
   obtain⟨L,R,h1,h2⟩:=wH l _ k h
   exact⟨s::L,R,by rw[h1];rfl,by rw[xJ,h2];omega⟩
def HK.ext:HK->Nat
 | .blk c=>c+1
 | .run k=>8*k
def Used(held:Nat->Option HK)(p:Nat):Prop:=(∃q k,held (8*q)=some (.run k)/\q<=p/\p<q+k)\/ ∃d j,d<4/\j<blc d/\held (8*p+j*(d+1))=some (.blk d)
section
variable{n t:Nat}{A:AS}{held:Nat->Option HK}{S:List Sg}{mp vr:Nat->Nat}{rem bag:Nat->List Nat}{pl:List Nat}
theorem HI.geo(h:HI n t A held S mp vr rem bag pl){g:Nat}{x:HK}(hg:held g=some x):match x with
  | .blk c=>c<4/\ ∃p j,p<n/\j<blc c/\g=8*p+j*(c+1)
  | .run k=>1<=k/\ ∃p,p+k<=n/\g=8*p:=by
 cases x with
 | blk c=>
  obtain⟨p,o,j,h1,h2,h3⟩:=h.hblk g c hg
  have h4:=YM h1
  rw[h.laid.len]at h4
  exact⟨(YN h.laid.ok h1).1,p,j,h4,h2,h3⟩
 | run k=>
  obtain⟨h1,h2⟩:=(h.hrun g k).1 hg
  obtain⟨L,R,rfl,h3⟩:=wH _ _ _ h2
  have h4:=(h.laid.ok ⟨k,.run⟩ (by simp)).1
  have h5:=h.laid.len
  rw[xp,xJ]at h5
  simp only at h4 h5
  exact⟨h4,g / 8,by omega,by omega⟩
theorem HI.disj(h:HI n t A held S mp vr rem bag pl){g g':Nat}{x y:HK}(hg:held g=some x)(hg':held g'=some y)(hne:g<g'):g+x.ext<=g':=by
 cases x with
 | blk c=>
  obtain⟨p,o,j,h1,h2,rfl⟩:=h.hblk g c hg
  have hl:=xW h2
  simp only[HK.ext]
  by_cases hp:g' / 8=p
  ·cases y with
   | blk d=>
    obtain⟨q,o',i,k1,k2,rfl⟩:=h.hblk g' d hg'
    have:=xW k2
    obtain rfl:q=p:=by omega
    rw[h1]at k1;cases k1
    have hji:j<i:=by
     by_cases hlt:j<i
     ·exact hlt
     ·have:=Nat.mul_le_mul_right (c+1) (show i<=j by omega);omega
    have:=Nat.mul_le_mul_right (c+1) (show j+1<=i by omega)
    rw[Nat.add_mul]at this;omega
   | run k=>
    have:=((h.hrun g' k).1 hg').2
    rw[hp,yz h1]at this;cases this
  ·omega
 | run k=>
  obtain⟨h1,h2⟩:=(h.hrun g k).1 hg
  simp only[HK.ext]
  by_cases hlt:g+8*k<=g'
  ·exact hlt
  ·exfalso
   obtain⟨L,R,rfl,h3⟩:=wH _ _ _ h2
   have hs:=wz (L:=L) (R:=R) (s:=⟨k,.run⟩) (p:=g' / 8) (by omega) (by simp only;omega)
   have hr:=qk (L:=L) (R:=R) (s:=⟨k,.run⟩) (p:=g' / 8) (by omega) (by simp only;omega)
   cases y with
   | blk d=>
    obtain⟨q,o',i,k1,k2,rfl⟩:=h.hblk g' d hg'
    have:=xW k2
    rw[show(8*q+i*(d+1)) / 8=q by omega,k1]at hs
    cases hs
   | run k'=>
    obtain⟨k1,k2⟩:=(h.hrun g' k').1 hg'
    rw[hr]at k2
    rw[if_neg (by omega)]at k2
    cases k2
theorem HI.pages(h:HI n t A held S mp vr rem bag pl){A':AS}{held':Nat->Option HK}{S':List Sg}(hl:Laid n A' S')(hN:Norm S')(hd : ∀s∈S',s.kd ≠ .dfr)(hsl : ∀q,slabAt S' q=slabAt S q)
  (hb : ∀g c,held' g=some (.blk c)↔held g=some (.blk c)) (hr : ∀g k,held' g=some (.run k)↔g%8=0/\runAt S' (g / 8)=some k)
  (hw : ∀r i,(r=1/\i=0)\/r=4\/(8<=r/\r<=10)\/r=12\/r=13\/(15<=r/\r<=18)->A'.w r i=A.w r i):HI n t A' held' S' mp vr rem bag pl:=by
 have e : ∀r,(r=8\/r=9\/r=10\/r=12\/r=13\/r=17\/r=18)->A'.w r=A.w r:=fun r hr=>funext fun i=>hw r i (by omega)
 have hbk : ∀ {g c},isBlk S' g c↔isBlk S g c:=by intro g c;unfold isBlk;simp only[hsl]
 refine⟨hl,hN,hd,by rw[hw 1 0 (by omega)];exact h.ep,h.ver,fun p c o hs=>by rw[e 8 (by omega)];exact h.bitS p c o (by rw[<- hsl];exact hs),fun p hp hs=>by rw[e 8 (by omega)];exact h.bitN p hp (by rw[<- hsl];exact hs),by rw[e 9 (by omega),e 10 (by omega)];exact h.remw,
  fun p hp g hg =>?_,fun i hi =>?_,by rw[e 13 (by omega),e 17 (by omega)];exact h.bagw,h.bagn,h.bagd,fun m k h1 h2 h3 =>?_,by rw[hw 4 0 (by omega),e 17 (by omega)];exact h.polw,h.poln,fun g c hg=>hbk.2 (h.hblk g c ((hb g c).1 hg)),hr,fun p c o j hs hj =>?_,h.gon.of (fun i=>hw 15 i (by omega)) (fun i=>hw 16 i (by omega))⟩
 ·obtain⟨g1,c,g2⟩:=h.remb p hp g hg
  exact⟨g1,c,hbk.2 g2⟩
 ·rw[e 12 (by omega)]
  rcases h.cach i hi with h0|⟨g,h1,h2⟩
  ·exact .inl h0
  ·exact .inr ⟨g,h1,hbk.2 h2⟩
 ·rw[e 18 (by omega)]
  rcases h.item m k h1 h2 h3 with h0|⟨x,g,hx,hmx,h4,h5⟩
  ·exact .inl h0
  ·exact .inr ⟨x,g,hx,hmx,h4,hbk.2 h5⟩
 ·have hs':slabAt S p=some (c,o):=by rw[<- hsl];exact hs
  have ht:=h.tok p c o j hs' hj
  have hlt:=xW hj
  have ep:(8*p+j*(c+1)) / 8=p:=by omega
  have eh:(held' (8*p+j*(c+1))).isSome=(held (8*p+j*(c+1))).isSome:=by
   generalize 8*p+j*(c+1)=g at *
   cases h1:held g with
   | none=>
    cases h2:held' g with
    | none=>rfl
    | some y=>
     cases y with
     | blk d=>have:=(hb g d).1 h2;rw[h1]at this;cases this
     | run k=>have:=((hr g k).1 h2).2;rw[ep,yz hs]at this;cases this
   | some x=>
    cases x with
    | blk d=>rw[(hb g d).2 h1]
    | run k=>have:=((h.hrun g k).1 h1).2;rw[ep,yz hs']at this;cases this
  rw[e 12 (by omega),e 18 (by omega),eh];exact ht
theorem HI.span{L R:List Sg}{s:Sg}{u k:Nat}(h:HI n t A held (L++s::R) mp vr rem bag pl)(hs:s.kd = .free)(hk:1<=k)(hu:plen L<=u)(hu2:u+k<=plen L+s.len){A':AS}
  (hl:Laid n A' (L++(frs (u-plen L)++(⟨k,.run⟩::(frs (plen L+s.len-u-k)++R))))) (hw : ∀r i,(r=1/\i=0)\/r=4\/(8<=r/\r<=10)\/r=12\/r=13\/(15<=r/\r<=18)->A'.w r i=A.w r i) :
  held (8*u)=none/\HI n t A' (upd held (8*u) (some (.run k))) (L++(frs (u-plen L)++(⟨k,.run⟩::(frs (plen L+s.len-u-k)++R)))) mp vr rem bag pl:=by
 have hn0:held (8*u)=none:=(h.nowhere (g:=8*u) (p:=u) (by omega) (by rw[wz hu (by omega),hs];rfl) (by rw[qk hu (by omega),if_neg (by rw[hs];rintro ⟨_,hh⟩;cases hh)])).1
 refine⟨hn0,h.pages hl (xpc h.norm hs (by simp)) (fun x hx =>?_) (fun q =>?_) (fun g c =>?_) (fun g k' =>?_) hw⟩
 ·simp only[List.mem_append,List.mem_cons]at hx
  rcases hx with hx|hx|rfl|hx|hx
  ·exact h.nodf x (by simp[hx])
  ·rw[(xbL hx).2];simp
  ·simp
  ·rw[(xbL hx).2];simp
  ·exact h.nodf x (by simp[hx])
 ·rw[xgi hs (by omega)]
  by_cases hq:plen L+(u-plen L)<=q/\q<plen L+(u-plen L)+k
  ·rw[if_pos hq,wz (by omega) (by omega),hs];rfl
  ·rw[if_neg hq]
 ·by_cases hg:g=8*u
  ·rw[hg,xC,hn0];simp
  ·rw[upd_ne _ _ hg]
 ·rw[xiH hs (by omega) hk]
  by_cases hg:g=8*u
  ·rw[hg,xC,if_pos ⟨by omega,rfl⟩]
   simp
  ·rw[upd_ne _ _ hg,h.hrun]
   constructor
   ·rintro ⟨h1,h2⟩;exact⟨h1,by rw[if_neg (by omega)];exact h2⟩
   ·rintro ⟨h1,h2⟩;rw[if_neg (by omega)]at h2;exact⟨h1,h2⟩
theorem HI.unspan{L0 R0:List Sg}{b k a:Nat}(h:HI n t A held (L0++(frs b++(⟨k,.run⟩::(frs a++R0)))) mp vr rem bag pl)(hl0:xV L0=false)(hr0:firstFree R0=false){A':AS}
  (hl:Laid n A' (L0++(⟨b+k+a,.free⟩::R0))) (hw : ∀r i,(r=1/\i=0)\/r=4\/(8<=r/\r<=10)\/r=12\/r=13\/(15<=r/\r<=18)->A'.w r i=A.w r i) :
  HI n t A' (upd held (8*(plen L0+b)) none) (L0++(⟨b+k+a,.free⟩::R0)) mp vr rem bag pl:=by
 obtain⟨hN1,hN2,_⟩:=(xI _ _).1 h.norm
 have hN3:=((xI _ _).1 hN2).2.1
 have hNR:=((xI _ _).1 hN3.2).2.1
 have hk:=(h.laid.ok ⟨k,.run⟩ (by simp)).1
 simp only at hk
 have eS:L0++(frs b++(⟨k,.run⟩::(frs a++R0)))=(L0++frs b)++(⟨k,.run⟩::(frs a++R0)):=by rw[List.append_assoc]
 have hpl:plen (L0++frs b)=plen L0+b:=by rw[xp,yy]
 have hat : ∀q,plen L0+b<=q->q<plen L0+b+k->slabAt (L0++(frs b++(⟨k,.run⟩::(frs a++R0)))) q=none/\runAt (L0++(frs b++(⟨k,.run⟩::(frs a++R0)))) q=if q=plen L0+b then some k else none:=by
  intro q h1 h2
  rw[eS,wz (by omega) (by simp only;omega),qk (by omega) (by simp only;omega),hpl]
  exact⟨rfl,by simp⟩
 have hrn:held (8*(plen L0+b))=some (.run k):=(h.hrun _ k).2 ⟨by omega,by rw[show 8*(plen L0+b) / 8=plen L0+b by omega,(hat _ (by omega) (by omega)).2,if_pos rfl]⟩
 refine h.pages hl (xiI hN1 hNR hl0 hr0) (fun x hx =>?_) (fun q =>?_) (fun g c =>?_) (fun g k' =>?_) hw
 ·simp only[List.mem_append,List.mem_cons]at hx
  rcases hx with hx|rfl|hx
  ·exact h.nodf x (by simp[hx])
  ·simp
  ·exact h.nodf x (by simp[hx])
 ·have:=xcw (L0:=L0) (R0:=R0) (s:=⟨k,.run⟩) (b:=b) (a:=a) q
  simp only at this
  rw[this]
  by_cases hq:plen L0+b<=q/\q<plen L0+b+k
  ·rw[if_pos hq,(hat q hq.1 hq.2).1]
  ·rw[if_neg hq]
 ·by_cases hg:g=8*(plen L0+b)
  ·rw[hg,xC,hrn];simp
  ·rw[upd_ne _ _ hg]
 ·have:=xgj (L0:=L0) (R0:=R0) (s:=⟨k,.run⟩) (b:=b) (a:=a) (g / 8)
  simp only at this
  rw[this]
  by_cases hg:g=8*(plen L0+b)
  ·rw[hg,xC,if_pos (by omega)];simp
  ·rw[upd_ne _ _ hg,h.hrun]
   by_cases hq:plen L0+b<=g / 8/\g / 8<plen L0+b+k
   ·rw[if_pos hq,(hat _ hq.1 hq.2).2]
    constructor
    ·rintro ⟨h1,h2⟩;rw[if_neg (by omega)]at h2;cases h2
    ·rintro ⟨_,h2⟩;cases h2
   ·rw[if_neg hq]
structure Bare(n t:Nat)(A:AS)(S:List Sg)(mp:Nat->Nat)(rem:Nat->List Nat):Prop where
 cach : ∀q,q<8*t->A.w 12 q=0
 item : ∀q,q<8*nodesN n t->A.w 18 q=0
 rems : ∀q,q<n->rem q = []
 full : ∀q c o,slabAt S q=some (c,o)->mp q≠2 ^ blc c-1
theorem HI.bare(h:HI n t A held S mp vr rem bag pl)(hB:Bare n t A S mp rem){p c o j:Nat}(hs:slabAt S p=some (c,o))(hj:j<blc c)(hb:(mp p).testBit j=false):held (8*p+j*(c+1))=some (.blk c):=by
 have hp:=YM hs
 rw[h.laid.len]at hp
 have ht:=h.tok p c o j hs hj
 have e12:cntR (A.w 12) (8*t) ((8*p+j*(c+1)+1:Nat):Int)=0:=kr fun i hi hv=>by rw[hB.cach i hi]at hv;omega
 have e18:cntR (A.w 18) (8*nodesN n t) ((8*p+j*(c+1)+1:Nat):Int)=0:=kr fun i hi hv=>by rw[hB.item i hi]at hv;omega
 rw[hb,e12,e18,hB.rems p hp]at ht
 have hlt:=xW hj
 have ep:(8*p+j*(c+1)) / 8=p:=by omega
 have hk:isBlk S (8*p+j*(c+1)) c:=⟨p,o,j,hs,hj,rfl⟩
 generalize 8*p+j*(c+1)=g at *
 cases hh:held g with
 | none=>rw[hh]at ht;simp[b2n]at ht
 | some x=>
  cases x with
  | blk d=>rw[xvM (h.hblk g d hh) hk]
  | run k=>have:=((h.hrun g k).1 hh).2;rw[ep,yz hs]at this;cases this
theorem HI.used(h:HI n t A held S mp vr rem bag pl)(hB:Bare n t A S mp rem){p:Nat}(hp:p<n) : ∃L s R,S=L++s::R/\plen L<=p/\p<plen L+s.len/\(s.kd = .free\/Used held p):=by
 obtain⟨L,s,R,rfl,h1,h2⟩:=xtI S p (by rw[h.laid.len];exact hp)
 refine⟨L,s,R,rfl,h1,h2,?_⟩
 cases hk:s.kd with
 | free=>exact .inl rfl
 | run=>
  refine .inr (.inl ⟨plen L,s.len,(h.hrun _ _).2 ⟨by omega,?_⟩,h1,h2⟩)
  rw[show 8*plen L / 8=plen L by omega,qk (by omega) (by omega),if_pos ⟨rfl,hk⟩]
 | dfr=>exact absurd hk (h.nodf s (by simp))
 | slab c o=>
  have hs:slabAt (L++s::R) p=some (c,o):=by rw[wz h1 h2,hk];rfl
  have hm:=(h.bitS p c o hs).1
  have hf:=hB.full p c o hs
  have hc:=(YN h.laid.ok hs).1
  by_cases hall : ∀j,j<blc c->(mp p).testBit j=true
  ·exfalso
   refine hf (Nat.eq_of_testBit_eq fun j =>?_)
   rw[Nat.testBit_two_pow_sub_one]
   by_cases hj:j<blc c
   ·rw[hall j hj];simp[hj]
   ·rw[Nat.testBit_lt_two_pow (Nat.lt_of_lt_of_le hm (Nat.pow_le_pow_right (n:=2) (by omega) (show blc c<=j by omega)))];simp[hj]
  ·simp only[Classical.not_forall]at hall
   obtain⟨j,hj,hb⟩:=hall
   exact .inr (.inr ⟨c,j,hc,hj,h.bare hB hs hj (by simpa using hb)⟩)
theorem HI.noRun(h:HI n t A held S mp vr rem bag pl)(hB:Bare n t A S mp rem)(hn:n<=256){k a:Nat}(hk:1<=k)(ha:1<=a)(hno:wJ k (min a 256) 0 S){u:Nat}(hu:u%a=0)(hu2:u+k<=n) : ∃p,u<=p/\p<u+k/\Used held p:=by
 obtain⟨L,s,R,hS,h1,h2,h3⟩:=h.used hB (p:=u) (by omega)
 rcases h3 with h3|h3
 ·rw[hS]at hno
  have hnf:=Xq hno
  rw[Nat.zero_add]at hnf
  have hum:u%min a 256=0:=by
   by_cases ha2:a<=256
   ·rw[Nat.min_eq_left ha2];exact hu
   ·have:u=0:=by rw[Nat.mod_eq_of_lt (by omega)]at hu;exact hu
    rw[this];exact Nat.zero_mod _
  have hle:=xxx (p:=plen L) (q:=u) (a:=min a 256) (by omega) hum h1
  by_cases hin:u+k<=plen L+s.len
  ·exact absurd ⟨h3,by omega⟩ hnf
  ·refine⟨plen L+s.len,by omega,by omega,?_⟩
   obtain⟨L2,s2,R2,hS2,k1,k2,k3⟩:=h.used hB (p:=plen L+s.len) (by omega)
   rcases k3 with k3|k3
   ·exfalso
    have hN:=h.norm
    have hlen:=h.laid.len
    rw[hS]at hN hlen
    obtain⟨_,hN2,_⟩:=(xI _ _).1 hN
    have hff:=hN2.1 h3
    cases R with
    | nil=>rw[xp,xJ]at hlen;simp[plen]at hlen;omega
    | cons y R'=>
     simp only[firstFree,dF]at hff
     -- both rows have the page: its segment's kind, by its word
     have hyok:=h.laid.ok y (by rw[hS];simp)
     have hy1:=hyok.1
     have w1:A.w 7 (plen L+s.len)=y.kd.head y.len:=by
      have:=(show Laid n A ((L ++ [s])++y::R')by rw[List.append_assoc];simp only[List.singleton_append];rw[<- hS];exact h.laid).at_.1
      rw[xp]at this;simpa[plen]using this
     have hkd : ∀x:Nat×Nat,slabAt S (plen L+s.len)=y.kd.slabOf/\runAt S (plen L+s.len)=if y.kd = .run then some y.len else none:=fun _=>by
      have eS:S=(L ++ [s])++y::R':=by rw[List.append_assoc];simpa using hS
      have ep:plen (L ++ [s])=plen L+s.len:=by simp[xp,plen]
      rw[eS,wz (by omega) (by omega),qk (by omega) (by omega),ep]
      exact⟨rfl,by simp⟩
     obtain⟨q1,q2⟩:=hkd (0,0)
     rw[hS2,wz k1 k2,k3]at q1
     rw[hS2,qk k1 k2,k3]at q2
     cases hyk:y.kd with
     | free=>exact hff hyk
     | run=>rw[hyk]at q2;simp at q2
     | dfr=>exact h.nodf y (by rw[hS];simp) hyk
     | slab c o=>rw[hyk]at q1;simp[Kd.slabOf]at q1
   ·exact k3
 ·exact⟨u,by omega,by omega,h3⟩
theorem HI.noBlk(h:HI n t A held S mp vr rem bag pl)(hB:Bare n t A S mp rem){c:Nat}(hno:wJ 1 1 0 S)(hz : ∀p o,slabAt S p=some (c,o)->mp p=0){p:Nat}(hp:p<n) :
  (∃q k,held (8*q)=some (.run k)/\q<=p/\p<q+k)\/ ∃d j,d<4/\j<blc d/\held (8*p+j*(d+1))=some (.blk d)/\(d=c ->∀i,i<blc c->held (8*p+i*(c+1))=some (.blk c)):=by
 obtain⟨L,s,R,hS,h1,h2,h3⟩:=h.used hB hp
 rcases h3 with h3|h3|⟨d,j,h3,h4,h5⟩
 ·exfalso
  rw[hS]at hno
  have hnf:=Xq hno
  rw[Nat.zero_add]at hnf
  have:=xtC (plen L) 1 (by omega)
  exact hnf ⟨h3,by omega⟩
 ·exact .inl h3
 ·refine .inr ⟨d,j,h3,h4,h5,?_⟩
  rintro rfl i hi
  have hb:=h.hblk _ _ h5
  obtain⟨o',i',q1,q2,q3⟩:=xX hb
  have:=xW h4
  rw[show(8*p+j*(d+1)) / 8=p by omega]at q1
  exact h.bare hB q1 hi (by rw[hz p o' q1];simp)
end
end
end Go.Proofs.YtaegelbaghaooaaGreat
