/- Part. -/
import Derived.Test.YtcicjcggclhbfaaGreatCsM8
import Derived.Test.YtcicjcggclhbfaaGreatCsM19
set_option linter.all false
open Go.IntKind (i64 u64 u32 u8)
namespace Go.Proofs.YtcicjcggclhbfaaGreat
section
open Go Go.RowKit Lx
def srcR:List Nat :=[0,1,3,7,8,9,12,14,18]
section
variable{n t:Nat}(hf:Small n t){A:AS}{held:Nat->Option HK}{S:List Sg}{mp vr:Nat->Nat}{rem bag:Nat->List Nat}{pl:List Nat}
include hf
theorem xdd{me o:Nat}(ho:o<=100000)(ah:me<t)(aa:A.self=(me:Int))(h0:A.w 0 0=0)(h:HI n t A held S mp vr rem bag pl):Rn n t (XQ (xd n t) (o:Int)) A fun r A'=>
  ∃ (S':List Sg) (bm fq:Nat->Nat) (az:Nat->List Nat) (k:Nat),k<=20000/\r=(true,((o+k:Nat):Int))/\HI n t A' held S' bm fq az bag pl/\Bare n t A' S' bm az/\A'.w 0 0=0/\A'.w 1 0=u64.wrap (A.w 1 0+(k:Int))/\Fr srcR 60000000000 A A':=by
 unfold XQ xeU
 refine Rn.bind (xv3 hf (by omega) aa h) ?_
 rintro r A1 ⟨lq,k1,iw,rfl,h1,tf,y8,ag⟩
 refine Rn.bind (xB6 hf (A:=A1) (o:=o+k1) (by omega) ah (by rw[ag.self,aa]) h1) ?_
 rintro r A2 ⟨sb,k2,ef,rfl,h2,og,gv,ae⟩
 refine Rn.bind (xss hf (A:=A2) (o:=o+k1+k2) (me:=me) (by omega) (by rw[ae.self,ag.self,aa]) h2) ?_
 rintro r A3 ⟨zh,nr,k3,mi,rfl,h3,Mh,rk,ar⟩
 have zl:A3.self=(me:Int):=by rw[ar.self,ae.self,ag.self,aa]
 refine Rn.run (xfq hf (A:=A3) ah zl (by rw[ar.w 0 (by simp),ae.w 0 (by simp),ag.w 0 (by simp),h0])) (Rn.no rfl ?_)
 have cr:Fr [0] 1 A3 (A3.set 0 0 ((me+1:Nat):Int)).tick:=Fr.sett A3 _ (by simp)
 have Ai:(A3.set 0 0 ((me+1:Nat):Int)).tick.w 0 0=((me+1:Nat):Int):=by simp
 generalize(A3.set 0 0 ((me+1:Nat):Int)).tick=A4 at *
 have h4:=h3.fr cr (by simp)
 refine Rn.bind (xbz hf h4.laid h4.nodf) ?_
 rintro r A5 ⟨rfl,cn⟩
 refine Rn.run (xiq hf) ?_
 refine Rn.bind (xsy hf (A:=A5) (o:=o+k1+k2+k3) (by omega) (h4.fr cn (by simp))) ?_
 rintro r A6 ⟨S6,N4,k6,hk6,rfl,h6,Oo,Qh,y5⟩
 refine Rn.run (Zk hf (A:=A6) ah (by rw[y5.self,cn.self,cr.self,zl]) (by rw[y5.w 0 (by simp),cn.w 0 (by simp),Ai])) (Rn.ret ⟨S6,zh,N4,nr,k1+k2+k3+k6,by omega,by simp only[Nat.add_assoc],h6.same fun r i hr =>?_,⟨fun q hq =>?_,fun q hq =>?_,Mh,Oo⟩,by simp,?_,?_⟩)
 .simp only[AS.tick_w,AS.set_w];rw[dA (by omega)]
 .simp only[AS.tick_w,AS.set_w]
  rw[dA (by omega),y5.w 12 (by simp),cn.w 12 (by simp),cr.w 12 (by simp),ar.w 12 (by simp),ae.w 12 (by simp)]
  exact tf q hq
 .simp only[AS.tick_w,AS.set_w]
  rw[dA (by omega),y5.w 18 (by simp),cn.w 18 (by simp),cr.w 18 (by simp),ar.w 18 (by simp)]
  have:=og (q / 8+1) (q%8) (by omega) (by omega) (by omega)
  rwa [show(q / 8+1-1)*8+q%8=q by omega]at this
 .simp only[AS.tick_w,AS.set_w]
  rw[dA (by omega),Qh,cn.w 1 (by simp),cr.w 1 (by simp),rk,gv,y8,dJ,dJ,dJ,dJ,dJ];omega
 .unfold srcR
  exact((((((ag.trans ae (S :=[1,8,12,14,18]) (e:=50000020000)).trans ar (S :=[1,8,9,12,14,18]) (e:=50000040000)).trans cr (S :=[0,1,8,9,12,14,18]) (e:=50000040001)).trans cn (S :=[0,1,8,9,12,14,18]) (e:=50000040301)).trans y5 (S :=[0,1,3,7,8,9,12,14,18]) (e:=50000080301)).trans (Fr.sett (R :=[0]) A6 _ (by simp)))
def Found(n t:Nat)(held:Nat->Option HK)(bag:Nat->List Nat)(pl:List Nat)(c:Nat)(f:Fnd)(A':AS):Prop:=
 ∃ (g:Nat) (S':List Sg) (bm fq:Nat->Nat) (az:Nat->List Nat),f.ok=true/\f.e=0/\f.grain=(g:Int)/\held g=none/\HI n t A' (upd held g (some (.blk c))) S' bm fq az bag pl
theorem xv8{me o c:Nat}(ho:o<=100000)(hc:c<4)(ah:me<t)(aa:A.self=(me:Int))(h0:A.w 0 0=0)(h:HI n t A held S mp vr rem bag pl):Rn n t (Wn (xd n t) (o:Int) (c:Int)) A fun r A'=>
  ∃k:Nat,k<=3000/\r.2=((o+k:Nat):Int)/\A'.w 0 0=0/\A'.w 1 0=u64.wrap (A.w 1 0+(k:Int))/\Fr srcR 10000000 A A'/\
   (Found n t held bag pl c r.1 A'\/(r.1.ok=false/\r.1.e=0/\ ∃ (S':List Sg) (bm fq:Nat->Nat) (az:Nat->List Nat),HI n t A' held S' bm fq az bag pl)):=by
 have hn:=hf.n2
 have e0 : ∀B:AS,B.w 1 0=A.w 1 0->B.w 1 0=u64.wrap (A.w 1 0+((0:Nat):Int)):=fun B hB=>by have:=h.ep;rw[hB,dJ];omega
 unfold Wn xaN qW
 refine Rn.bind (xv0 hf.toFew h aa ah hc (o:Int) (by omega) h.laid.len) ?_
 rintro r A1 (⟨g,rfl,k1,k2,k3,k4⟩|⟨q1,q2,q3,ag⟩)
 .exact Rn.yes rfl (Rn.ret ⟨0,by omega,rfl,by rw[k4.w 0 (by simp),h0],e0 _ (k4.w 1 (by simp) 0),k4.mono (by unfold srcR;simp) (by omega),.inl ⟨g,S,mp,vr,rem,rfl,rfl,rfl,k1,k3⟩⟩)
 refine Rn.no q1 (Rn.no (by rw[q2];rfl) ?_)
 rw[q3]
 have h1:=h.fr ag (by simp)
 have cq:A1.self=(me:Int):=by rw[ag.self,aa]
 unfold xaK xaJ
 rw[T.bind_assoc]
 refine Rn.bind (xkP hf h1 hc ah cq) ?_
 rintro r A2 (⟨g,rfl,k1,k2,k3,k4,_⟩|⟨rfl,ae,_⟩)
 .have hg:i64.wrap (i64.wrap ((g+1:Nat):Int)-1)=(g:Int):=xby (by have:=(xdb hf h1 k2).1;omega)
  have du:=ag.trans k4 (S:=srcR) (e:=5000002) (by simp) (by unfold srcR;simp) (by omega)
  simp only[T.bind,hg]
  refine Rn.yes rfl (Rn.ret ⟨0,by omega,rfl,by rw[k4.w 0 (by simp),ag.w 0 (by simp),h0],e0 _ (by rw[k4.w 1 (by simp),ag.w 1 (by simp)]),du.mono,.inl ⟨g,S,mp,vr,rem,rfl,rfl,rfl,k1,k3⟩⟩)
 simp only[T.bind]
 refine Rn.no rfl (Rn.no rfl ?_)
 have h2:=h1.fr ae (by simp)
 have et:A2.self=(me:Int):=by rw[ae.self,cq]
 have du:=ag.trans ae (S:=srcR) (e:=5000002) (by simp) (by unfold srcR;simp) (by omega)
 have gv:A2.w 1 0=A.w 1 0:=by rw[ae.w 1 (by simp),ag.w 1 (by simp)]
 have fp:A2.w 0 0=0:=by rw[ae.w 0 (by simp),ag.w 0 (by simp),h0]
 refine Rn.bind (xv7 hf (A:=A2) (o:=o) (c:=c) (by omega) hc et h2) ?_
 rintro ⟨f,o3⟩ A3 ⟨zh,nr,k3,mi,rfl,he,rk,ar,bp⟩
 simp only at he bp |-
 have ic:=du.trans ar (S:=srcR) (e:=5020002) (by simp) (by unfold srcR;simp) (by omega)
 rw[gv]at rk
 have ny:A3.w 0 0=0:=by rw[ar.w 0 (by simp),fp]
 rcases bp with⟨g,r1,r2,r3,r4,r5⟩|⟨r1,h3⟩
 .exact Rn.yes r1 (Rn.ret ⟨k3,by omega,rfl,ny,rk,ic.mono,.inl ⟨g,S,zh,vr,nr,r1,he,r2,r3,r5⟩⟩)
 refine Rn.no r1 (Rn.no (by rw[he];rfl) ?_)
 have zl:A3.self=(me:Int):=by rw[ar.self,et]
 refine Rn.bind (xkU hf (A:=A3) (o:=o+k3) (c:=c) hc zl h3) ?_
 rintro ⟨f,o4⟩ A4 ⟨Fm,Dv,cr,bp⟩
 simp only at Fm Dv bp |-
 subst Fm
 have y6:=ic.trans cr (S:=srcR) (e:=5040002) (by simp) (by unfold srcR;simp) (by omega)
 have Ai:A4.w 0 0=0:=by rw[cr.w 0 (by simp),ny]
 have ph:A4.w 1 0=u64.wrap (A.w 1 0+(k3:Int)):=by rw[cr.w 1 (by simp),rk]
 rcases bp with⟨g,Iz,r1,r2,r3,r4,r5⟩|⟨r1,od,_⟩
 .exact Rn.yes r1 (Rn.ret ⟨k3,by omega,rfl,Ai,ph,y6.mono,.inl ⟨g,S,Iz,vr,nr,r1,Dv,r2,r3,r5⟩⟩)
 refine Rn.no r1 (Rn.no (by rw[Dv];rfl) ?_)
 have Jr:A4.self=(me:Int):=by rw[cr.self,zl]
 refine Rn.bind (xk0 hf (A:=A4) (o:=o+k3) (c:=c) (by omega) hc ah Jr Ai (h3.fr od (by simp))) ?_
 rintro ⟨f,o5⟩ A5 ⟨zm,w6,bp⟩
 simp only at zm w6 bp |-
 rcases bp with⟨g,S5,Iy,Hu,r1,r2,r3,r4,r5,r6,cn⟩|⟨r1,r2,cn,_⟩
 .subst r3
  refine Rn.yes r1 (Rn.ret ⟨k3+1,by omega,rfl,w6,?_,y6.trans cn (by simp) (by unfold srcR;simp) (by omega),.inl ⟨g,S5,Iy,Hu,nr,r1,zm,r2,r4,r5⟩⟩)
  rw[r6,ph,dJ,dJ,dJ];omega
 .subst r2
  refine Rn.no r1 (Rn.no (by rw[zm];rfl) (Rn.ret ⟨k3,by omega,rfl,w6,by rw[cn.w 1 (by simp),ph],y6.trans cn (by simp) (by unfold srcR;simp) (by omega),.inr ⟨rfl,rfl,S,zh,vr,nr,?_⟩⟩))
  exact(h3.fr od (by simp)).fr cn (by simp)
theorem xsz{me o c:Nat}(ho:o<=1000000)(hc:c<4)(ah:me<t)(aa:A.self=(me:Int))(h0:A.w 0 0=0)(h:HI n t A held S mp vr rem bag pl):Rn n t (qX (xd n t) (o:Int) (c:Int)) A fun r A'=>
  ∃k:Nat,k<=1/\r.2=((o+k:Nat):Int)/\A'.w 0 0=0/\A'.w 1 0=u64.wrap (A.w 1 0+(k:Int))/\Fr srcR 1000000 A A'/\
   (Found n t held bag pl c r.1 A'\/(r.1.ok=false/\r.1.e=0/\Fr [0] 1000000 A A'/\kF 1 1 0 S/\ ∀p ow,slabAt S p=some (c,ow)->mp p=0)):=by
 have e0 : ∀B:AS,B.w 1 0=A.w 1 0->B.w 1 0=u64.wrap (A.w 1 0+((0:Nat):Int)):=fun B hB=>by have:=h.ep;rw[hB,dJ];omega
 unfold qX Wo qW
 refine Rn.bind (xkU hf (o:=o) (c:=c) hc aa h) ?_
 rintro ⟨f,o4⟩ A4 ⟨Fm,Dv,cr,bp⟩
 simp only at Fm Dv bp |-
 subst Fm
 have Ai:A4.w 0 0=0:=by rw[cr.w 0 (by simp),h0]
 have ph:=cr.w 1 (by simp) 0
 rcases bp with⟨g,Iz,r1,r2,r3,r4,r5⟩|⟨r1,od,hz⟩
 .exact Rn.yes r1 (Rn.ret ⟨0,by omega,rfl,Ai,e0 _ ph,cr.mono (by unfold srcR;simp) (by omega),.inl ⟨g,S,Iz,vr,rem,r1,Dv,r2,r3,r5⟩⟩)
 refine Rn.no r1 (Rn.no (by rw[Dv];rfl) ?_)
 have Jr:A4.self=(me:Int):=by rw[cr.self,aa]
 refine Rn.bind (xk0 hf (A:=A4) (o:=o) (c:=c) (by omega) hc ah Jr Ai (h.fr od (by simp))) ?_
 rintro ⟨f,o5⟩ A5 ⟨zm,w6,bp⟩
 simp only at zm w6 bp |-
 rcases bp with⟨g,S5,Iy,Hu,r1,r2,r3,r4,r5,r6,cn⟩|⟨r1,r2,cn,bg⟩
 .subst r3
  exact Rn.yes r1 (Rn.ret ⟨1,by omega,rfl,w6,by rw[r6,ph];rfl,cr.trans cn (by unfold srcR;simp) (by unfold srcR;simp) (by omega),.inl ⟨g,S5,Iy,Hu,rem,r1,zm,r2,r4,r5⟩⟩)
 .subst r2
  exact Rn.no r1 (Rn.no (by rw[zm];rfl) (Rn.ret ⟨0,by omega,rfl,w6,e0 _ (by rw[cn.w 1 (by simp),ph]),cr.trans cn (by unfold srcR;simp) (by unfold srcR;simp) (by omega),.inr ⟨rfl,rfl,od.trans cn,bg,hz⟩⟩))
theorem Zm{me:Nat}(ah:me<t)(aa:A.self=(me:Int)):(qy (xd n t)).run (xo n t) A=some (false,A):=by
 unfold qy xej
 simp only[T.run,xo,aa,at15 hf.toFew ah]
 rw[show(((Br n t 15+me:Nat):Int) == -1)=false from dO.2 (by omega)]
def NoBlk(n:Nat)(held:Nat->Option HK)(c:Nat):Prop :=∀p,p<n->(∃q k,held (8*q)=some (.run k)/\q<=p/\p<q+k)\/ ∃d j,d<4/\j<blc d/\held (8*p+j*(d+1))=some (.blk d)/\(d=c ->∀i,i<blc c->held (8*p+i*(c+1))=some (.blk c))
theorem xv9{me c:Nat}(hc:c<4)(ah:me<t)(aa:A.self=(me:Int))(h0:A.w 0 0=0)(h:HI n t A held S mp vr rem bag pl):Rn n t (ZL (xd n t) (c:Int)) A fun r A'=>
  A'.w 0 0=0/\Fr srcR 70000000000 A A'/\(∃k:Nat,k<=30000/\A'.w 1 0=u64.wrap (A.w 1 0+(k:Int)))/\((∃ (g:Nat) (S':List Sg) (bm fq:Nat->Nat) (az:Nat->List Nat),r=((g:Int),0)/\held g=none/\HI n t A' (upd held g (some (.blk c))) S' bm fq az bag pl)\/
   (r=(0,15)/\NoBlk n held c/\ ∃ (S':List Sg) (bm fq:Nat->Nat) (az:Nat->List Nat),HI n t A' held S' bm fq az bag pl)):=by
 unfold ZL xaP kl
 refine Rn.run (Zm hf ah aa) (Rn.no rfl (Rn.no (by rw[dF];omega) (Rn.no (by rw[dF];omega) ?_)))
 refine Rn.load (at1 hf.toFew) (by omega) (by simp[Zr]) ?_
 refine Rn.bind (xv8 hf (A:=A.tick) (o:=0) (c:=c) (by omega) hc ah aa h0 (h.same fun r i _=>rfl)) ?_
 rintro ⟨f,o1⟩ A1 ⟨k1,iw,Eb,fg,y8,ag,bp⟩
 simp only at Eb bp |-
 rw[Nat.zero_add]at Eb
 subst Eb
 rw[AS.tick_w]at y8
 have k9:=(Fr.tick [] A).trans ag (S:=srcR) (e:=10000001)
 rcases bp with⟨g,S1,lq,Ax,dt,q1,q2,q3,q4,q5⟩|⟨q1,q2,S1,lq,Ax,dt,h1⟩
 .refine Rn.no (by rw[q1];rfl) (Rn.no (by rw[q2];rfl) (Rn.yes q1 (Rn.ret ⟨fg,k9.mono,⟨k1,by omega,y8⟩,.inl ⟨g,S1,lq,Ax,dt,by rw[q3],q4,q5⟩⟩)))
 .refine Rn.yes (by rw[q1];rfl) (Rn.yes (by rw[q2];rfl) ?_)
  have cq:A1.self=(me:Int):=by rw[k9.self,aa]
  refine Rn.bind (xdd hf (A:=A1) (o:=k1) (by omega) ah cq fg h1) ?_
  rintro r A2 ⟨S2,sb,D4,zx,k2,ef,rfl,h2,hB,fp,gv,ae⟩
  refine Rn.no rfl ?_
  refine Rn.bind (xsz hf (A:=A2) (o:=k1+k2) (c:=c) (by omega) hc ah (by rw[ae.self,cq]) fp h2) ?_
  rintro ⟨f,o3⟩ A3 ⟨k3,mi,Fn,ny,rk,ar,bp⟩
  simp only at Fn bp |-
  subst Fn
  have ic:=((k9.trans ae (S:=srcR) (e:=60010000001)).trans ar (S:=srcR) (e:=60011000001))
  have Du:A3.w 1 0=u64.wrap (A.w 1 0+((k1+k2+k3:Nat):Int)):=by
   rw[rk,gv,y8,dJ,dJ,dJ,dJ];omega
  rcases bp with⟨g,S3,zh,N5,nr,q1,q2,q3,q4,q5⟩|⟨q1,q2,Gg,bg,hz⟩
  .exact Rn.no (by rw[q2];rfl) (Rn.yes q1 (Rn.ret ⟨ny,ic.mono,⟨_,by omega,Du⟩,.inl ⟨g,S3,zh,N5,nr,by rw[q3],q4,q5⟩⟩))
  .refine Rn.no (by rw[q2];rfl) (Rn.no q1 ?_)
   refine Rn.load (at1 hf.toFew) (by omega) (by simp[Zr]) ?_
   refine Rn.yes ?_ (Rn.ret ⟨ny,ic.trans (Fr.tick [] A3),⟨_,by omega,Du⟩,.inr ⟨rfl,fun p hp=>h2.noBlk hB bg hz hp,S2,sb,D4,zx,(h2.fr Gg (by simp)).same fun r i _=>rfl⟩⟩)
   rw[beq_iff_eq,Du]
theorem xir{k a:Nat}(hk:n<k)(ha:1<=a):(kM (xd n t) (k:Int) (a:Int)).run (xo n t) A=some ((0,false),A):=by
 unfold kM XE
 rw[dC (show ¬ ((k:Int)<1)by omega),dC (show ¬ ((a:Int)<1)by omega),dD (show(k:Int)>(xd n t).pages by show(k:Int)>((n:Nat):Int);omega)]
 rfl
def NoRun(n:Nat)(held:Nat->Option HK)(k a:Nat):Prop :=∀u,u%a=0->u+k<=n ->∃p,u<=p/\p<u+k/\Used held p
theorem xsA{me o k a:Nat}(hk:1<=k)(ha:1<=a)(s8:a<9223372036854775808)(ah:me<t)(aa:A.self=(me:Int))(h0:A.w 0 0=0)(h:HI n t A held S mp vr rem bag pl):Rn n t (xgM (xd n t) (o:Int) (k:Int) (a:Int)) A fun r A'=>
  r.2=(o:Int)/\r.1.e=0/\A'.w 0 0=0/\Fr [0,3,7] 3000 A A'/\((∃ (u:Nat) (S':List Sg),r.1.ok=true/\r.1.grain=((8*u:Nat):Int)/\u%a=0/\u+k<=n/\held (8*u)=none/\HI n t A' (upd held (8*u) (some (.run k))) S' mp vr rem bag pl)\/
   (r.1.ok=false/\Fr [0] 3000 A A'/\(k<=n->kF k (min a 256) 0 S))):=by
 have hn:=hf.n2
 unfold xgM xmS
 refine Rn.run (xfq hf ah aa h0) (Rn.no rfl ?_)
 have ag:Fr [0] 1 A (A.set 0 0 ((me+1:Nat):Int)).tick:=Fr.sett A _ (by simp)
 have fg:(A.set 0 0 ((me+1:Nat):Int)).tick.w 0 0=((me+1:Nat):Int):=by simp
 generalize(A.set 0 0 ((me+1:Nat):Int)).tick=A1 at *
 have h1:=h.fr ag (by simp)
 refine Rn.bind (xbz hf h1.laid h1.nodf) ?_
 rintro r A2 ⟨rfl,ae⟩
 refine Rn.run (xiq hf) ?_
 have h2:=h1.fr ae (by simp)
 have du:=ag.trans ae (S :=[0]) (e:=301)
 have fp:A2.w 0 0=((me+1:Nat):Int):=by rw[ae.w 0 (by simp),fg]
 have et:A2.self=(me:Int):=by rw[du.self,aa]
 have fail : ∀A3,Fr [] 300 A2 A3->(k<=n->kF k (min a 256) 0 S)->Rn n t ((XC (xd n t)).bind fun r5=>(T.ret (⟨i64.wrap (0*8),false,0⟩,(o:Int)):T (Fnd×Int))) A3 fun r A'=>
   r.2=(o:Int)/\r.1.e=0/\A'.w 0 0=0/\Fr [0,3,7] 3000 A A'/\((∃ (u:Nat) (S':List Sg),r.1.ok=true/\r.1.grain=((8*u:Nat):Int)/\u%a=0/\u+k<=n/\held (8*u)=none/\HI n t A' (upd held (8*u) (some (.run k))) S' mp vr rem bag pl)\/
    (r.1.ok=false/\Fr [0] 3000 A A'/\(k<=n->kF k (min a 256) 0 S))):=by
  intro A3 ar bg
  have hF:Fr [0] 3000 A (A3.set 0 0 0).tick:=(du.trans ar (S :=[0]) (e:=601)).trans (Fr.sett (R :=[0]) A3 _ (by simp))
  exact Rn.run (Zk hf (A:=A3) ah (by rw[ar.self,et]) (by rw[ar.w 0 (by simp),fp])) (Rn.ret ⟨rfl,rfl,by simp,hF.mono,.inr ⟨rfl,hF,bg⟩⟩)
 by_cases tq:n<k
 .exact Rn.run (xir hf tq ha) (fail A2 ((Fr.refl [] A2).mono) (fun hh=>by omega))
 .refine Rn.bind (xii hf.toFew h2.laid hk (by omega) ha s8) ?_
  rintro r A3 (⟨rfl,ar,bg⟩|⟨L,s,R,rfl,eg,rfl,ar,ny⟩)
  .exact fail A3 ar fun _=>bg
  .obtain⟨Db,D8⟩:=eg
   have Gb:=xxi (plen L) (min a 256) (by omega)
   have Fv:=up_mod (plen L) (min a 256)
   generalize up (plen L) (min a 256)=u at *
   have af:=h.laid.len
   rw[xz,xP]at af
   refine Rn.run (Zk hf (A:=A3) ah (by rw[ar.self,et]) (by rw[ar.w 0 (by simp),fp])) ?_
   obtain⟨k1,k2⟩:=h2.span Db hk Gb D8 (A':=A3) ny (fun r i hr=>ar.w r (by simp;omega) i)
   have e:i64.wrap ((u:Int)*8)=((8*u:Nat):Int):=by rw[show(u:Int)*8=((8*u:Nat):Int)by omega,wN _ (by omega)]
   refine Rn.ret ⟨rfl,rfl,by simp,(du.trans ar (S :=[0,3,7]) (e:=1301)).trans (Fr.sett (R :=[0]) A3 _ (by simp)),.inl ⟨u,_,rfl,e,?_,by omega,k1,k2.same fun r i hr =>?_⟩⟩
   .by_cases Qs:a<=256
    .rwa [Nat.min_eq_left Qs]at Fv
    .rw[Nat.min_eq_right (by omega)]at Fv
     have:u=0:=by omega
     rw[this];exact Nat.zero_mod _
   .simp only[AS.tick_w,AS.set_w];rw[dA (by omega)]
theorem xzJ{me k a:Nat}(hk:1<=k)(ha:1<=a)(s8:a<9223372036854775808)(ah:me<t)(aa:A.self=(me:Int))(h0:A.w 0 0=0)(h:HI n t A held S mp vr rem bag pl):Rn n t (Ka (xd n t) (k:Int) (a:Int)) A fun r A'=>
  A'.w 0 0=0/\Fr srcR 70000000000 A A'/\(∃m:Nat,m<=30000/\A'.w 1 0=u64.wrap (A.w 1 0+(m:Int)))/\((∃ (u:Nat) (S':List Sg) (bm fq:Nat->Nat) (az:Nat->List Nat),r=(((8*u:Nat):Int),0)/\u%a=0/\u+k<=n/\held (8*u)=none/\HI n t A' (upd held (8*u) (some (.run k))) S' bm fq az bag pl)\/
   (r=(0,15)/\NoRun n held k a/\ ∃ (S':List Sg) (bm fq:Nat->Nat) (az:Nat->List Nat),HI n t A' held S' bm fq az bag pl)):=by
 have hn:=hf.n2
 have e0 : ∀B:AS,B.w 1 0=A.w 1 0->B.w 1 0=u64.wrap (A.w 1 0+((0:Nat):Int)):=fun B hB=>by have:=h.ep;rw[hB,dJ];omega
 unfold Ka xeW kl
 refine Rn.run (Zm hf ah aa) (Rn.no rfl (Rn.no (by rw[dF];omega) (Rn.no (by rw[dF];omega) ?_)))
 refine Rn.load (at1 hf.toFew) (by omega) (by simp[Zr]) ?_
 refine Rn.bind (xsA hf (A:=A.tick) (o:=0) hk ha s8 ah aa h0 (h.same fun r i _=>rfl)) ?_
 rintro ⟨f,o1⟩ A1 ⟨Eb,hE1,fg,ag,bp⟩
 simp only at Eb hE1 bp |-
 subst Eb
 have k9:=(Fr.tick [] A).trans ag (S:=srcR) (e:=3001) (by simp) (by unfold srcR;simp) (by omega)
 have y8:A1.w 1 0=A.w 1 0:=by rw[ag.w 1 (by simp)];rfl
 rcases bp with⟨u,S1,q1,q2,q3,q4,q5,q6⟩|⟨q1,Gh,_⟩
 .refine Rn.no (by rw[q1];rfl) (Rn.no (by rw[hE1];rfl) (Rn.yes q1 (Rn.ret ⟨fg,k9.mono,⟨0,by omega,e0 _ y8⟩,.inl ⟨u,S1,mp,vr,rem,by rw[q2],q3,q4,q5,q6⟩⟩)))
 .refine Rn.yes (by rw[q1];rfl) (Rn.yes (by rw[hE1];rfl) ?_)
  have cq:A1.self=(me:Int):=by rw[k9.self,aa]
  have h1:HI n t A1 held S mp vr rem bag pl:=(h.same (A':=A.tick) fun r i _=>rfl).fr Gh (by simp)
  refine Rn.bind (xdd hf (A:=A1) (o:=0) (by omega) ah cq fg h1) ?_
  rintro r A2 ⟨S2,sb,D4,zx,k2,ef,rfl,h2,hB,fp,gv,ae⟩
  rw[Nat.zero_add]
  refine Rn.no rfl ?_
  refine Rn.bind (xsA hf (A:=A2) (o:=k2) hk ha s8 ah (by rw[ae.self,cq]) fp h2) ?_
  rintro ⟨f,o3⟩ A3 ⟨Fn,hE3,ny,ar,bp⟩
  simp only at Fn hE3 bp |-
  subst Fn
  have ic:=((k9.trans ae (S:=srcR) (e:=60000003001)).trans ar (S:=srcR) (e:=60000006001) (by simp) (by unfold srcR;simp) (by omega))
  have Du:A3.w 1 0=u64.wrap (A.w 1 0+(k2:Int)):=by rw[ar.w 1 (by simp),gv,y8]
  rcases bp with⟨u,S3,q1,q2,q3,q4,q5,q6⟩|⟨q1,Gf,bg⟩
  .exact Rn.no (by rw[hE3];rfl) (Rn.yes q1 (Rn.ret ⟨ny,ic.mono,⟨_,by omega,Du⟩,.inl ⟨u,S3,sb,D4,zx,by rw[q2],q3,q4,q5,q6⟩⟩))
  .refine Rn.no (by rw[hE3];rfl) (Rn.no q1 ?_)
   refine Rn.load (at1 hf.toFew) (by omega) (by simp[Zr]) ?_
   refine Rn.yes ?_ (Rn.ret ⟨ny,ic.trans (Fr.tick [] A3),⟨_,by omega,Du⟩,.inr ⟨rfl,fun u hu G2=>h2.noRun hB hn hk ha (bg (by omega)) hu G2,S2,sb,D4,zx,(h2.fr Gf (by simp)).same fun r i _=>rfl⟩⟩)
   rw[beq_iff_eq,Du]
end
end
section
open Go Go.RowKit Lx
def relR:List Nat :=[0,1,3,4,5,7,8,9,10,12,13,17,18]
theorem xzK{L R:List Sg}{s x:Sg}(h:Norm (L++s::R))(h1:s.kd ≠ .free)(h2:x.kd ≠ .free):Norm (L++x::R):=by
 obtain⟨k1,k2,k3⟩:=(xO _ _).1 h
 exact(xO _ _).2 ⟨k1,⟨fun hh=>absurd hh h2,k2.2⟩,fun _=>by simp[firstFree,h2]⟩
section
variable{n t:Nat}(hf:Small n t){A:AS}{held:Nat->Option HK}{S:List Sg}{mp vr:Nat->Nat}{rem bag:Nat->List Nat}{pl:List Nat}
include hf
theorem xoE{L R:List Sg}{k:Nat}(h:Laid n A (L++(⟨k,.dfr⟩::R)))(hN:Norm (L++(⟨k,.dfr⟩::R)))(hd : ∀s∈L++R,s.kd ≠ .dfr):Rn n t (vM (xd n t)) A fun r A'=>
  r=1/\Fr [7,3] 700 A A'/\ ∃L0 b a R0,L=L0++frs b/\R=frs a++R0/\yh L0=false/\firstFree R0=false/\Laid n A' (L0++(⟨b+k+a,.free⟩::R0)):=by
 have hn:=hf.n2
 have af:=h.len
 rw[xz,xP]at af
 simp only at af
 have hk:=(h.ok ⟨k,.dfr⟩ (by simp)).1
 simp only at hk
 unfold vM qO yZ
 refine qD hf (a0:=0) (plen L) xa 0 0 A (L:=L) (M:=⟨k,.dfr⟩::R) h (fun s hs=>hd s (by simp[hs])) (by omega) (by unfold xa;omega) fun N' A1 hN' ag =>?_
 obtain⟨N1,rfl⟩ : ∃N1,N'=N1+1:=⟨N'-1,by unfold xa at hN';omega⟩
 have h1:Laid n A1 (L++(⟨k,.dfr⟩::R)):=h.fr ag (by simp) (by simp)
 obtain⟨hw,an⟩:=h1.at_
 rw[Kw]
 unfold yY
 simp only at hw an |-
 refine Rn.yes (by rw[dT];show((plen L:Nat):Int)<((n:Nat):Int);omega) ?_
 refine Rn.run (WS hf.toFew (p:=plen L) an) ?_
 rw[hw,show(Kd.dfr).head k=pw 5 k 0 0 from rfl,vu 5 k 0 0 (by omega) (by omega) (by omega) (by omega)]
 refine Rn.yes rfl ?_
 have G4:=xkM hf.toFew (A:=A1.tick) (h1.of (fun _=>rfl) (fun _=>rfl)) hN (by simp)
 refine Rn.bind G4 ?_
 rintro r A2 ⟨rfl,ae,L0,b,a,R0,rfl,rfl,ms,df,fp⟩
 refine Rn.yes rfl ?_
 have j9:kE ⟨((5:Nat):Int),(k:Int),((0:Nat):Int),((0:Nat):Int)⟩ = .ret (k:Int):=by
  unfold kE xbK
  simp only
  rw[dA (show ¬ (k:Int)<1 by omega)]
  rfl
 rw[j9]
 simp only[T.bind]
 rw[wrap_add hf.toFew (x:=plen (L0++frs b)) (y:=k) (by omega)]
 have rg:=fp.len
 have cf : ∀s∈L0++(⟨b+k+a,.free⟩::R0),s.kd ≠ .dfr:=fun s hs=>by
  simp only[List.mem_append,List.mem_cons]at hs
  rcases hs with hs|rfl|hs
  .exact hd s (by simp[hs])
  .simp
  .exact hd s (by simp[hs])
 refine qD hf (a0:=0) (n-(plen (L0++frs b)+k)) N1 (plen (L0++frs b)+k) _ A2 (L:=L0++(⟨b+k+a,.free⟩::R0)) (M :=[]) (by simpa using fp) cf (by rw[rg];omega) (by unfold xa at hN';omega) fun N2 A3 hN2 ar =>?_
 rw[rg]
 obtain⟨N3,rfl⟩ : ∃N3,N2=N3+1:=⟨N2-1,by unfold xa at hN';omega⟩
 refine xd0 hf (Rn.ret ⟨rfl,?_,L0,b,a,R0,rfl,rfl,ms,df,fp.fr ar (by simp) (by simp)⟩)
 exact((ag.trans (Fr.tick [] A1) (S :=[]) (e:=257)).trans ae (S :=[7,3]) (e:=310)).trans ar
theorem wrap_k{x:Int}(a b:Nat):u64.wrap (u64.wrap (x+(a:Int))+(b:Int))=u64.wrap (x+((a+b:Nat):Int)):=by
 rw[dJ,dJ,dJ];omega
theorem xd1{me g:Nat}{x:HK}(ah:me<t)(aa:A.self=(me:Int))(hi:HInv n t A held)(hg:held g=some x):Rn n t (kx (xd n t) (g:Int)) A fun r A'=>
  HInv n t A' (upd held g none)/\Fr relR 100000 A A'/\ ∃k:Nat,k<=2/\A'.w 1 0=u64.wrap (A.w 1 0+(k:Int)):=by
 obtain⟨h0,S,mp,vr,rem,bag,pl,h⟩:=hi
 have hn:=hf.n2
 have zj:=hf.t2
 unfold kx Wl
 refine Rn.run (Zm hf ah aa) (Rn.no rfl ?_)
 have ir:=h.geo hg
 have dc:g<n*8:=by
  cases x with
  | blk c=>
   obtain⟨_,p,j,h1,h2,h3⟩:=ir
   have:=yi h2;omega
  | run k=>
   obtain⟨h1,p,h2,h3⟩:=ir;omega
 refine Rn.no (by rw[at11 hf.toFew dc];exact dO.2 (by omega)) ?_
 refine Rn.run (Yp hf dc) ?_
 have ed:i64.wrap (Int.tdiv (g:Int) 8)=((g / 8:Nat):Int):=by
  rw[dS (by omega)]
  have:(g:Int) / 8=((g / 8:Nat):Int):=by omega
  rw[this,wN _ (by omega)]
 have An : ∀ (A1:AS) (S':List Sg) (bm fq:Nat->Nat) (az dp:Nat->List Nat) (da:List Nat),HI n t A1 (upd held g none) S' bm fq az dp da->Fr [4,5,8,9,10,12,13,17,18] 90000 A A1->
   Rn n t ((yX (xd n t) 0 1).bind fun r=>T.ret ()) A1 fun r A'=>HInv n t A' (upd held g none)/\Fr relR 100000 A A'/\ ∃k:Nat,k<=2/\A'.w 1 0=u64.wrap (A.w 1 0+(k:Int)):=by
  intro A1 S' bm fq az dp da h1 ag
  refine Rn.run (ji hf (A:=A1) (o:=0) (k:=1) (by omega) (by omega)) (Rn.ret ⟨⟨?_,S',bm,fq,az,dp,da,h1.moved hf _⟩,ag.trans (Fr.sett (R :=[1]) A1 _ (by simp)) (by unfold relR;simp) (by unfold relR;simp) (by omega),1,by omega,?_⟩)
  .simp only[AS.tick_w,AS.set_w];rw[dA (by omega),ag.w 0 (by simp),h0]
  .simp only[AS.tick_w,AS.set_w,and_self,if_true];rw[ag.w 1 (by simp)]
 cases x with
 | blk c=>
  obtain⟨hc,p,j,hp,hj,lx⟩:=ir
  have an:=yi hj
  obtain⟨ow,j',hs,_⟩:=yj (h.hblk g c hg)
  have Jn:=xdc hf h hs
  have J1:=(WW h.laid.ok hs).2
  rw[Jn]
  have h1:HI n t A.tick held S mp vr rem bag pl:=h.same fun r i _=>rfl
  have ew:u64.wrap (u64.wrap (g:Int)+1)=((g+1:Nat):Int):=by rw[dJ,dJ];omega
  refine Rn.no rfl (Rn.no rfl (Rn.self ?_))
  rw[AS.tick_self,aa]
  by_cases ax:ow=me
  .refine Rn.no (by simp[ax]) ?_
   simp only[ew]
   refine Rn.bind (xBY hf.toFew h1 aa ah hc hg) ?_
   rintro r A1 (⟨rfl,k1,k2⟩|⟨rfl,k2⟩)
   .exact Rn.yes rfl (An A1 _ _ _ _ _ _ k1 ((Fr.tick [] A).trans k2))
   .refine Rn.no rfl ?_
    have ag:=(Fr.tick [] A).trans k2 (S :=[]) (e:=3)
    have h2:=h.fr ag (by simp)
    refine Rn.bind (xB0 hf h2 hc ah (by rw[ag.self,aa]) hg) ?_
    rintro r A2 (⟨rfl,dp,da,k1,k3⟩|⟨rfl,k3⟩)
    .exact Rn.yes rfl (An A2 _ _ _ _ _ _ k1 (ag.trans k3))
    .refine Rn.no rfl ?_
     have ae:=ag.trans k3 (S :=[]) (e:=60003)
     refine Rn.bind (xkQ hf (h.fr ae (by simp)) hg) ?_
     rintro r A3 ⟨rfl,m',k1,k4⟩
     exact An A3 _ _ _ _ _ _ k1 (ae.trans k4)
  .refine Rn.yes (by simp;omega) ?_
   refine Rn.bind (xB2 hf h1 hg) ?_
   rintro r A1 ⟨rfl,az,k1,k2⟩
   exact An A1 _ _ _ _ _ _ k1 ((Fr.tick [] A).trans k2)
 | run k=>
  obtain⟨hk,p,hp,rfl⟩:=ir
  have e8:8*p / 8=p:=by omega
  obtain⟨L,R,rfl,bw⟩:=kA _ _ _ ((h.hrun _ _).1 hg).2
  rw[e8]at bw
  obtain⟨hw,_⟩:=h.laid.at_
  rw[bw]at hw
  rw[ed,e8,hw,show(Kd.run).head k=pw 4 k 0 0 from rfl,vu 4 k 0 0 (by omega) (by omega) (by omega) (by omega)]
  refine Rn.yes rfl ?_
  unfold markT xlR
  simp only
  have sm:=xkX (kd' :=.dfr) h.laid (by simp) (by simp) ⟨hk,fun c o hh=>by cases hh⟩
  rw[bw,show(Kd.dfr).head k=pw 5 k 0 0 from rfl]at sm
  have Fx:(bif decide ((p:Int)<0)then(T.ret false:T Bool)else bif decide ((p:Int)>=(xd n t).pages)then T.ret false else bif decide ((k:Int)<1)then T.ret false else bif decide ((k:Int)>(xd n t).pages)then T.ret false else
    .op (.cas (atF (xd n t) 7 (p:Int)) (Pg.word ⟨4,(k:Int),0,0⟩) (Pg.word ⟨5,(k:Int),0,0⟩)) fun b=>T.ret b).run (xo n t) A.tick=some (true,(A.tick.set 7 p (pw 5 k 0 0)).tick):=by
   rw[dC (show ¬ ((p:Int)<0)by omega),dC (show ¬ ((p:Int)>=(xd n t).pages)by show ¬ ((p:Int)>=((n:Nat):Int));omega),dC (show ¬ ((k:Int)<1)by omega),dC (show ¬ ((k:Int)>(xd n t).pages)by show ¬ ((k:Int)>((n:Nat):Int));omega)]
   simp only[cond_false,T.run,xo,at7 hf.toFew (show p<n by omega),xK (show p<Zr n t 7 from(by show p<n;omega)) 19 (by omega)]
   rw[dB (by rw[AS.tick_w,hw];rfl)]
   rfl
  refine Rn.run Fx (Rn.yes rfl ?_)
  have fg:Laid n ((A.tick.set 7 p (pw 5 k 0 0)).tick) (L++(⟨k,.dfr⟩::R)):=sm.of (fun i=>by simp) (fun i=>by simp)
  have ag:Fr [7] 2 A ((A.tick.set 7 p (pw 5 k 0 0)).tick):=(Fr.tick [] A).trans (Fr.sett (R :=[7]) _ _ (by simp))
  generalize(A.tick.set 7 p (pw 5 k 0 0)).tick=A1 at *
  refine Rn.run (ji hf (A:=A1) (o:=0) (k:=1) (by omega) (by omega)) ?_
  have ae:Fr [1] 1 A1 ((A1.set 1 0 (u64.wrap (A1.w 1 0+((1:Nat):Int)))).tick):=Fr.sett A1 _ (by simp)
  have gv:((A1.set 1 0 (u64.wrap (A1.w 1 0+((1:Nat):Int)))).tick).w 1 0=u64.wrap (A.w 1 0+((1:Nat):Int)):=by simp[ag.w 1]
  generalize(A1.set 1 0 (u64.wrap (A1.w 1 0+((1:Nat):Int)))).tick=A2 at *
  unfold qR ZD
  rw[T.bind_assoc]
  have et:A2.self=(me:Int):=by rw[ae.self,ag.self,aa]
  refine Rn.run (xfq hf (A:=A2) ah et (by rw[ae.w 0 (by simp),ag.w 0 (by simp),h0])) ?_
  have ar:Fr [0] 1 A2 (A2.set 0 0 ((me+1:Nat):Int)).tick:=Fr.sett A2 _ (by simp)
  have ny:(A2.set 0 0 ((me+1:Nat):Int)).tick.w 0 0=((me+1:Nat):Int):=by simp
  generalize(A2.set 0 0 ((me+1:Nat):Int)).tick=A3 at *
  simp only[cond_true]
  rw[T.bind_assoc]
  have cf : ∀s∈L++R,s.kd ≠ .dfr:=fun s hs=>h.nodf s (by simp only[List.mem_append,List.mem_cons]at hs |-;rcases hs with hs|hs<;>simp[hs])
  refine Rn.bind (xoE hf (A:=A3) ((fg.fr ae (by simp) (by simp)).fr ar (by simp) (by simp)) (xzK h.norm (by simp) (by simp)) cf) ?_
  rintro r A4 ⟨rfl,cr,L0,b,a,R0,rfl,rfl,ms,df,Ai⟩
  rw[T.bind_assoc]
  refine Rn.run (ji hf (A:=A4) (k:=1) (by omega) (by omega)) ?_
  have cn:Fr [1] 1 A4 ((A4.set 1 0 (u64.wrap (A4.w 1 0+((1:Nat):Int)))).tick):=Fr.sett A4 _ (by simp)
  have zm:((A4.set 1 0 (u64.wrap (A4.w 1 0+((1:Nat):Int)))).tick).w 1 0=u64.wrap (A.w 1 0+((2:Nat):Int)):=by
   simp only[AS.tick_w,AS.set_w,and_self,if_true]
   rw[cr.w 1 (by simp),ar.w 1 (by simp),gv,wrap_k hf]
  generalize(A4.set 1 0 (u64.wrap (A4.w 1 0+((1:Nat):Int)))).tick=A5 at *
  rw[T.bind_assoc]
  have Pb:A5.self=(me:Int):=by rw[cn.self,cr.self,ar.self,et]
  refine Rn.run (Zk hf (A:=A5) ah Pb (by rw[cn.w 0 (by simp),cr.w 0 (by simp),ny])) ?_
  have J0:plen L0+b=p:=by rw[<- bw,xz,yM]
  have Bs:Fr [0,1,3,7] 5000 A A5:=(((ag.trans ae (S :=[1,7]) (e:=3)).trans ar (S :=[0,1,7]) (e:=4)).trans cr (S :=[0,1,3,7]) (e:=800)).trans cn
  have hm:=h.moved hf (A.w 1 0+((2:Nat):Int))
  rw[List.append_assoc]at hm
  have C7:=hm.unspan (A':=(A5.set 0 0 0).tick) ms df ((Ai.fr cn (by simp) (by simp)).of (fun i=>by simp) (fun i=>by simp)) (fun r i hr =>?_)
  .rw[J0]at C7
   refine Rn.ret ⟨⟨by simp,_,_,_,_,_,_,C7⟩,Bs.trans (Fr.sett (R :=[0]) A5 _ (by simp)) (by unfold relR;simp) (by unfold relR;simp) (by omega),2,by omega,?_⟩
   simp only[AS.tick_w,AS.set_w];rw[dA (by omega),zm]
  .simp only[AS.tick_w,AS.set_w]
   by_cases h1:r=1/\i=0
   .rw[dB h1,dA (by omega),h1.1,h1.2,zm]
   .rw[dA h1,dA (by omega),Bs.w r (by simp;omega)]
theorem xB7{me:Nat}(ah:me<t)(aa:A.self=(me:Int))(hi:HInv n t A held):Rn n t (xkc (xd n t)) A fun r A'=>
  r=0/\HInv n t A' held/\Fr srcR 70000000000 A A'/\ ∃k:Nat,k<=20000/\A'.w 1 0=u64.wrap (A.w 1 0+(k:Int)):=by
 obtain⟨h0,S,mp,vr,rem,bag,pl,h⟩:=hi
 unfold xkc xnn xaR xaQ
 rw[T.bind_assoc]
 refine Rn.run (Zm hf ah aa) ?_
 simp only[cond_false]
 rw[T.bind_assoc]
 refine Rn.bind (xdd hf (A:=A) (o:=0) (by omega) ah aa h0 h) ?_
 rintro r A1 ⟨S1,lq,Ax,dt,k,hk,rfl,h1,_,fg,y8,ag⟩
 exact Rn.ret ⟨rfl,⟨fg,S1,lq,Ax,dt,bag,pl,h1⟩,ag.mono,k,hk,y8⟩
theorem xsB{me c:Nat}(hc:c<4)(ah:me<t)(aa:A.self=(me:Int))(hi:HInv n t A held):Rn n t (ZL (xd n t) (c:Int)) A fun r A'=>
  Fr srcR 70000000000 A A'/\(∃k:Nat,k<=30000/\A'.w 1 0=u64.wrap (A.w 1 0+(k:Int)))/\((∃g:Nat,r=((g:Int),0)/\held g=none/\HInv n t A' (upd held g (some (.blk c))))\/(r=(0,15)/\NoBlk n held c/\HInv n t A' held)):=by
 obtain⟨h0,S,mp,vr,rem,bag,pl,h⟩:=hi
 refine(xv9 hf hc ah aa h0 h).mono ?_
 rintro r A' ⟨k1,k2,k3,⟨g,S',bm,fq,az,q1,q2,q3⟩|⟨q1,q2,S',bm,fq,az,q3⟩⟩
 .exact⟨k2,k3,.inl ⟨g,q1,q2,k1,S',bm,fq,az,bag,pl,q3⟩⟩
 .exact⟨k2,k3,.inr ⟨q1,q2,k1,S',bm,fq,az,bag,pl,q3⟩⟩
theorem xwa{me k a:Nat}(hk:1<=k)(ha:1<=a)(s8:a<9223372036854775808)(ah:me<t)(aa:A.self=(me:Int))(hi:HInv n t A held):Rn n t (Ka (xd n t) (k:Int) (a:Int)) A fun r A'=>
  Fr srcR 70000000000 A A'/\(∃m:Nat,m<=30000/\A'.w 1 0=u64.wrap (A.w 1 0+(m:Int)))/\((∃u:Nat,r=(((8*u:Nat):Int),0)/\u%a=0/\u+k<=n/\held (8*u)=none/\HInv n t A' (upd held (8*u) (some (.run k))))\/(r=(0,15)/\NoRun n held k a/\HInv n t A' held)):=by
 obtain⟨h0,S,mp,vr,rem,bag,pl,h⟩:=hi
 refine(xzJ hf hk ha s8 ah aa h0 h).mono ?_
 rintro r A' ⟨k1,k2,k3,⟨u,S',bm,fq,az,q1,q2,q3,q4,q5⟩|⟨q1,q2,S',bm,fq,az,q3⟩⟩
 .exact⟨k2,k3,.inl ⟨u,q1,q2,q3,q4,k1,S',bm,fq,az,bag,pl,q5⟩⟩
 .exact⟨k2,k3,.inr ⟨q1,q2,k1,S',bm,fq,az,bag,pl,q3⟩⟩
end
end
section
open Go Go.RowKit Lx
structure SI(n t:Nat)(A:AS)(live:Nat->Option Nat):Prop where
 dead : ∀g,g<n*8->live g=none->A.w 11 g=0
 lives : ∀g z,g<n*8->live g=some z->1<=z/\z<=16384/\ ∃v:Nat,v<4294967296/\A.w 11 g=Stt.word ⟨1,(z:Int),0,(v:Int)⟩
def updS(live:Nat->Option Nat)(g:Nat)(x:Option Nat):Nat->Option Nat:=fun q=>if q=g then x else live q
theorem xx(live:Nat->Option Nat)(g:Nat)(x:Option Nat):updS live g x g=x:=dB rfl
theorem xG(live:Nat->Option Nat){g q:Nat}(x:Option Nat)(h:q≠g):updS live g x q=live q:=dA h
theorem SI.same{n t:Nat}{A A':AS}{live:Nat->Option Nat}(h:SI n t A live)(hw : ∀i,A'.w 11 i=A.w 11 i):SI n t A' live:=
 ⟨fun g hg hl=>by rw[hw];exact h.dead g hg hl,fun g z hg hl=>by rw[hw];exact h.lives g z hg hl⟩
theorem SI.fr{n t c:Nat}{R:List Nat}{A A':AS}{live:Nat->Option Nat}(h:SI n t A live)(f:Fr R c A A')(hR:11∉R):SI n t A' live:=h.same (f.w 11 hR)
theorem HInv.fr{n t c:Nat}{R:List Nat}{A A':AS}{held:Nat->Option HK}(h:HInv n t A held)(f:Fr R c A A')(hR : ∀r∈R,r=2\/r=6\/r=11\/r=14):HInv n t A' held:=by
 obtain⟨h0,S,mp,vr,rem,bag,pl,h1⟩:=h
 exact⟨by rw[f.w 0 (fun hh=>by have:=hR 0 hh;omega)];exact h0,S,mp,vr,rem,bag,pl,h1.fr f fun r hr=>by have:=hR r hr;omega⟩
theorem SI.born{n t:Nat}{A A':AS}{live:Nat->Option Nat}(h:SI n t A live){g z v:Nat}(hz:1<=z)(og:z<=16384)(hv:v<4294967296)(hw : ∀i,A'.w 11 i=if i=g then Stt.word ⟨1,(z:Int),0,(v:Int)⟩else A.w 11 i):SI n t A' (updS live g (some z)):=by
 refine⟨fun q hq hl =>?_,fun q y hq hl =>?_⟩
 .by_cases bv:q=g
  .rw[bv,xx]at hl;cases hl
  .rw[xG _ _ bv]at hl
   rw[hw,dA bv];exact h.dead q hq hl
 .by_cases bv:q=g
  .rw[bv,xx]at hl;cases hl
   exact⟨hz,og,v,hv,by rw[hw,dB bv]⟩
  .rw[xG _ _ bv]at hl
   rw[hw,dA bv];exact h.lives q y hq hl
theorem SI.ended{n t:Nat}{A A':AS}{live:Nat->Option Nat}(h:SI n t A live){g:Nat}(hw : ∀i,A'.w 11 i=if i=g then 0 else A.w 11 i):SI n t A' (updS live g none):=by
 refine⟨fun q hq hl =>?_,fun q y hq hl =>?_⟩
 .by_cases bv:q=g
  .rw[hw,dB bv]
  .rw[xG _ _ bv]at hl
   rw[hw,dA bv];exact h.dead q hq hl
 .by_cases bv:q=g
  .rw[bv,xx]at hl;cases hl
  .rw[xG _ _ bv]at hl
   rw[hw,dA bv];exact h.lives q y hq hl
theorem u32_nat(x:Int) : ∃v:Nat,v<4294967296/\u32.wrap x=(v:Int):=by
 refine⟨(x%4294967296).toNat,by omega,?_⟩
 rw[show u32.wrap x=x%4294967296 from by simp[IntKind.wrap,IntKind.signed,IntKind.bits]];omega
theorem xB8:wF 0=⟨0,0,0,0⟩:=by
 have:=xkK 0 (by omega)
 exact this
section
variable{n t:Nat}(hf:Small n t){A:AS}{held:Nat->Option HK}{live:Nat->Option Nat}
include hf
theorem at6{me:Nat}(ah:me<t):atF (xd n t) 6 (me:Int)=((Br n t 6+me:Nat):Int):=wx hf.toFew (by omega) ah
theorem Kx{me g:Nat}(ah:me<t)(aa:A.self=(me:Int))(hg:g<n*8):(kL (xd n t) (g:Int)).run (xo n t) A=some (false,A):=by
 unfold kL KT
 simp only[T.run,xo,aa,at6 hf ah,at11 hf.toFew hg]
 rw[show(((Br n t 6+me:Nat):Int) == -1)=false from dO.2 (by omega),show(((Br n t 11+g:Nat):Int) == -1)=false from dO.2 (by omega)]
 rfl
theorem Ky{me:Nat}(ah:me<t)(aa:A.self=(me:Int)) : ∃v:Nat,v<4294967296/\(qb (xd n t)).run (xo n t) A=some ((v:Int),(A.set 6 me (u64.wrap (A.w 6 me+1))).tick):=by
 obtain⟨v,h1,h2⟩:=u32_nat (u32.wrap (u32.wrap (u32.wrap (A.w 6 me)+1)*64)+u32.wrap (me:Int))
 refine⟨v,h1,?_⟩
 unfold qb KP
 simp only[T.run,xo,aa,at6 hf ah,xK (show me<Zr n t 6 from ah) 19 (by omega)]
 rw[AS.tick_self,AS.set_self,aa,h2]
theorem xk1{me g z:Nat}(ah:me<t)(aa:A.self=(me:Int))(hg:g<n*8)(hz:1<=z)(og:z<=16384)(hs:SI n t A live):Rn n t (xbU (xd n t) (g:Int) (z:Int)) A fun r A'=>
  SI n t A' (updS live g (some z))/\Fr [6,11] 2 A A'/\A'.steps=A.steps+2:=by
 obtain⟨v,hv,hrun⟩:=Ky hf (A:=A) ah aa
 unfold xbU xep
 refine Rn.run (Kx hf ah aa hg) (Rn.yes rfl ?_)
 refine Rn.run hrun ?_
 refine Rn.store (at11 hf.toFew hg) (by omega) hg (Rn.ret ⟨hs.born hz og hv fun i =>?_,(Fr.sett (R :=[6,11]) A _ (by simp)).trans (Fr.sett (R :=[6,11]) _ _ (by simp)),rfl⟩)
 simp
theorem xis{me g:Nat}(ah:me<t)(aa:A.self=(me:Int))(hg:g<n*8)(hs:SI n t A live):(live g=none/\(KZ (xd n t) (g:Int)).run (xo n t) A=some (⟨0,0,0,0,false,i64.wrap (A.steps+1)⟩,A.tick))\/
  ∃z v:Nat,live g=some z/\v<4294967296/\A.w 11 g=Stt.word ⟨1,(z:Int),0,(v:Int)⟩/\(KZ (xd n t) (g:Int)).run (xo n t) A=some (⟨1,(z:Int),0,(v:Int),true,i64.wrap (A.steps+1)⟩,A.tick):=by
 unfold KZ xl0
 rw[T.run_bind,Kx hf ah aa hg]
 simp only[cond_false,T.run,xo,at11 hf.toFew hg,xK (show g<Zr n t 11 from hg) 19 (by omega)]
 cases hl:live g with
 | none=>
  refine .inl ⟨rfl,?_⟩
  rw[hs.dead g hg hl,xB8]
  rfl
 | some z=>
  obtain⟨h1,h2,v,hv,hw⟩:=hs.lives g z hg hl
  refine .inr ⟨z,v,rfl,hv,hw,?_⟩
  have e:=xvU 1 z 0 v (by omega) (by omega) (by omega) hv
  rw[hw,show Stt.word ⟨1,(z:Int),0,(v:Int)⟩=Stt.word ⟨((1:Nat):Int),(z:Int),((0:Nat):Int),(v:Int)⟩from rfl,e]
  rfl
theorem xzL{me g:Nat}(ah:me<t)(aa:A.self=(me:Int))(hg:g<n*8)(hs:SI n t A live):Rn n t (xb8 (xd n t) (g:Int)) A fun r A'=>
  (live g=none/\r.live=false/\r.lin=i64.wrap (A.steps+1)/\A'.steps=A.steps+1/\Fr [] 1 A A')\/ ∃z:Nat,live g=some z/\r.live=true/\r.size=(z:Int)/\r.lin=i64.wrap (A.steps+2)/\A'.steps=A.steps+2/\SI n t A' (updS live g none)/\Fr [11] 2 A A':=by
 unfold xb8 xev wK
 rw[show xa=4095+1 from rfl,xu]
 unfold xb7
 rcases xis hf ah aa hg hs with⟨h1,h2⟩|⟨z,v,h1,hv,hw,h2⟩
 .refine Rn.run h2 (Rn.yes rfl (Rn.ret (.inl ⟨h1,rfl,rfl,rfl,Fr.tick [] A⟩)))
 .refine Rn.run h2 (Rn.no rfl ?_)
  refine Rn.cas (at11 hf.toFew hg) (by omega) hg (by rw[AS.tick_w,hw]) (Rn.yes rfl (Rn.steps (Rn.ret (.inr ⟨z,h1,rfl,rfl,?_,rfl,hs.ended fun i =>?_,(Fr.tick [11] A).trans (Fr.sett (R :=[11]) _ _ (by simp))⟩))))
  .rfl
  .simp
end
end
section
open Go Go.RowKit Lx
def powA(a:Int):Bool:=decide (a>0)&&(bits .and .i64 a (i64.wrap (a-1))==0)
def clsN(s a:Int):Option Nat:=if s<=8/\a<=8 then some 0 else if s<=16/\a<=16 then some 1 else if s<=24/\a<=8 then some 2 else if s<=32/\a<=32 then some 3 else none
def jW(s:Int):Nat:=((s-1) / 64+1).toNat
def alN(a:Int):Nat:=if a / 64<1 then 1 else(a / 64).toNat
def NoRoom(n:Nat)(held:Nat->Option HK)(s a:Int):Prop:=match clsN s a with
 | some c=>NoBlk n held c
 | none=>NoRun n held (jW s) (alN a)
def GotRoom(n:Nat)(s a:Int)(g:Nat)(x:HK):Prop:=match clsN s a with
 | some c=>x = .blk c
 | none=>x = .run (jW s)/\ ∃u,g=8*u/\u%alN a=0/\u+jW s<=n
def Placed(n:Nat)(held:Nat->Option HK)(s a:Int)(r:Int×Int×Int)(ab:Nat->Option HK):Prop:=
 (ab=held/\r.1=0/\r.2.1=0/\((r.2.2=11/\(s<1\/64*n<s))\/(1<=s/\s<=64*n/\((r.2.2=12/\powA a=false)\/(r.2.2=15/\powA a=true/\NoRoom n held s a)))))\/
 ∃ (g:Nat) (x:HK),r=((g:Int),((8*x.ext:Nat):Int),0)/\held g=none/\ab=upd held g (some x)/\1<=s/\s<=64*n/\powA a=true/\GotRoom n s a g x
def Res.none(e lin:Int):Res:=⟨0,0,0,0,0,0,0,0,e,lin,0⟩
section
variable{n t:Nat}(hf:Small n t){A:AS}{held:Nat->Option HK}{live:Nat->Option Nat}
include hf
theorem xit{a:Int}:(Yy a).run (xo n t) A=some (powA a,A):=by
 unfold Yy KR powA
 by_cases h:a>0
 .rw[dD h];rfl
 .rw[dC h];rfl
set_option maxHeartbeats 4000000 in
theorem run_cof{s a:Int}(hs:1<=s)(hp:powA a=true):(cofT s a).run (xo n t) A=some ((match clsN s a with|some c=>((c:Nat):Int)|none=> -1),A):=by
 have hc:(KQ a).run (xo n t) A=some (true,A):=by
  have:=xit hf (A:=A) (a:=a)
  rw[hp]at this;exact this
 unfold cofT xwz clsN xbZ
 rw[dC (show ¬s<1 by omega)]
 simp only[cond_false]
 rw[T.run_bind,hc]
 simp only[Bool.not_true,cond_false]
 have key : ∀ (p:Prop) [Decidable p] (x y:T Int),(bif decide p then x else y)=if p then x else y:=fun p _ x y=>by by_cases h:p<;>simp[h]
 simp only[key]
 by_cases c0:s<=8/\a<=8
 .rw[dB c0]
  show _=some (((0:Nat):Int),A)
  repeat' split
  all_goals first|rfl|(exfalso;omega)
 rw[dA c0]
 by_cases c1:s<=16/\a<=16
 .rw[dB c1]
  show _=some (((1:Nat):Int),A)
  repeat' split
  all_goals first|rfl|(exfalso;omega)
 rw[dA c1]
 by_cases c2:s<=24/\a<=8
 .rw[dB c2]
  show _=some (((2:Nat):Int),A)
  repeat' split
  all_goals first|rfl|(exfalso;omega)
 rw[dA c2]
 by_cases c3:s<=32/\a<=32
 .rw[dB c3]
  show _=some (((3:Nat):Int),A)
  repeat' split
  all_goals first|rfl|(exfalso;omega)
 rw[dA c3]
 show _=some ((-1:Int),A)
 repeat' split
 all_goals first|rfl|(exfalso;omega)
theorem xsC{s:Int}(hs:1<=s)(et:s<=64*n):(qN s).run (xo n t) A=some ((jW s:Int),A):=by
 have hn:=hf.n2
 unfold qN YP jW
 rw[dC (show ¬s<1 by omega)]
 have e1:i64.wrap (s-1)=s-1:=w64 (by omega) (by omega)
 have e2:Int.tdiv (s-1) 64=(s-1) / 64:=dS (by omega)
 rw[e1,e2,w64 (x:=(s-1) / 64) (by omega) (by omega),w64 (by omega) (by omega)]
 have:(((s-1) / 64+1).toNat:Int)=(s-1) / 64+1:=by omega
 rw[this];rfl
theorem xde{me:Nat}{s a:Int}(ah:me<t)(aa:A.self=(me:Int))(ha:a<9223372036854775808)(hi:HInv n t A held):Rn n t (ZN (xd n t) s a) A fun r A'=>
  ∃ab,Placed n held s a r ab/\HInv n t A' ab/\Fr srcR 70000000000 A A':=by
 have hn:=hf.n2
 have lu:=hf.n1
 have Dr:Fr srcR 70000000000 A A:=(Fr.refl srcR A).mono (fun _ h=>h) (by omega)
 have tt:i64.wrap ((xd n t).pages*64)=((64*n:Nat):Int):=by
  show i64.wrap (((n:Nat):Int)*64)=_
  rw[show((n:Nat):Int)*64=((64*n:Nat):Int)by omega,wN _ (by omega)]
 unfold ZN xeX
 refine Rn.no (by show(((n:Nat):Int)==0)=false;simp;omega) ?_
 by_cases h1:s<1
 .exact Rn.yes (dD h1) (Rn.ret ⟨held,.inl ⟨rfl,rfl,rfl,.inl ⟨rfl,.inl h1⟩⟩,hi,Dr⟩)
 refine Rn.no (dC h1) ?_
 rw[tt]
 by_cases h2:s>((64*n:Nat):Int)
 .exact Rn.yes (dD h2) (Rn.ret ⟨held,.inl ⟨rfl,rfl,rfl,.inl ⟨rfl,.inr (by omega)⟩⟩,hi,Dr⟩)
 refine Rn.no (dC h2) ?_
 refine Rn.run (xit hf) ?_
 cases hp:powA a with
 | false=>exact Rn.yes rfl (Rn.ret ⟨held,.inl ⟨rfl,rfl,rfl,.inr ⟨by omega,by omega,.inl ⟨rfl,hp⟩⟩⟩,hi,Dr⟩)
 | true=>
  refine Rn.no rfl ?_
  refine Rn.run (run_cof hf (by omega) hp) ?_
  have Av:0<a:=by
   unfold powA at hp
   simp only[dK,dT]at hp;omega
  cases hc:clsN s a with
  | some c=>
   simp only
   have ss:c<4:=by
    unfold clsN at hc
    repeat' split at hc
    all_goals first|(cases hc;omega)|cases hc
   refine Rn.yes (by rw[dT];omega) ?_
   refine Rn.bind (xsB hf ss ah aa hi) ?_
   rintro r A1 ⟨ao,_,⟨g,rfl,q1,q2⟩|⟨rfl,q1,q2⟩⟩
   .refine Rn.yes (by rw[dT];omega) (Rn.no rfl (Rn.ret ⟨_,.inr ⟨g,.blk c,?_,q1,rfl,by omega,by omega,hp,by unfold GotRoom;rw[hc]⟩,q2,ao⟩))
    have : ∀c:Nat,c<4->(bif (c:Int)==0 then(8:Int)else bif (c:Int)==1 then(16:Int)else bif (c:Int)==2 then(24:Int)else(32:Int))=((8*(c+1):Nat):Int):=by decide
    simp only[this c ss];rfl
   .exact Rn.yes (by rw[dT];omega) (Rn.yes rfl (Rn.ret ⟨held,.inl ⟨rfl,rfl,rfl,.inr ⟨by omega,by omega,.inr ⟨rfl,hp,by unfold NoRoom;rw[hc];exact q1⟩⟩⟩,q2,ao⟩))
  | none=>
   simp only
   refine Rn.no rfl ?_
   refine Rn.run (xsC hf (by omega) (by omega)) ?_
   have e1:Int.tdiv a 64=a / 64:=dS (by omega)
   have e2:i64.wrap (a / 64)=a / 64:=w64 (by omega) (by omega)
   have e3:(if a / 64<1 then(1:Int)else a / 64)=(alN a:Int):=by unfold alN;split<;>omega
   rw[e1,e2,e3]
   have iw:1<=jW s:=by unfold jW;omega
   have tq:jW s<=n:=by unfold jW;omega
   have Qt:1<=alN a:=by unfold alN;split<;>omega
   have s8:alN a<9223372036854775808:=by unfold alN;split<;>omega
   refine Rn.bind (xwa hf iw Qt s8 ah aa hi) ?_
   rintro r A1 ⟨ao,_,⟨u,rfl,q1,q2,q3,q4⟩|⟨rfl,q1,q2⟩⟩
   .refine Rn.no rfl (Rn.ret ⟨_,.inr ⟨8*u,.run (jW s),?_,q3,rfl,by omega,by omega,hp,by unfold GotRoom;rw[hc];exact⟨rfl,u,rfl,q1,q2⟩⟩,q4,ao⟩)
    have:i64.wrap ((jW s:Int)*64)=((8*(HK.run (jW s)).ext:Nat):Int):=by
     simp only[HK.ext]
     rw[show(jW s:Int)*64=((8*(8*jW s):Nat):Int)by omega,wN _ (by omega)]
    simp only[this]
   .exact Rn.yes rfl (Rn.ret ⟨held,.inl ⟨rfl,rfl,rfl,.inr ⟨by omega,by omega,.inr ⟨rfl,hp,by unfold NoRoom;rw[hc];exact q1⟩⟩⟩,q2,ao⟩)
end
end
section
open Go Go.RowKit Lx
def askR:List Nat :=[0,1,3,6,7,8,9,11,12,14,18]
def xsD:List Nat :=[0,1,3,4,5,7,8,9,10,11,12,13,17,18]
theorem HInv.w{n t:Nat}{A A':AS}{held:Nat->Option HK}(h:HInv n t A held)(hw : ∀r i,A'.w r i=A.w r i):HInv n t A' held:=by
 obtain⟨h0,S,mp,vr,rem,bag,pl,h1⟩:=h
 exact⟨by rw[hw];exact h0,S,mp,vr,rem,bag,pl,h1.same fun r i _=>hw r i⟩
def AS.tell(A:AS)(r:Res):AS :={A with told:=some r.cells}
@[simp] theorem AS.tell_w (A:AS) (r:Res):(A.tell r).w=A.w:=rfl
@[simp] theorem AS.tell_b (A:AS) (r:Res):(A.tell r).b=A.b:=rfl
@[simp] theorem AS.tell_self (A:AS) (r:Res):(A.tell r).self=A.self:=rfl
@[simp] theorem AS.tell_steps (A:AS) (r:Res):(A.tell r).steps=A.steps:=rfl
@[simp] theorem AS.tell_told (A:AS) (r:Res):(A.tell r).told=some r.cells:=rfl
structure Ft(R:List Nat)(c:Nat)(A A':AS)(r:Res):Prop where
 w : ∀q,q∉R ->∀i,A'.w q i=A.w q i
 self:A'.self=A.self
 lo:A.steps<=A'.steps
 hi:A'.steps<=A.steps+c
 told:A'.told=some r.cells
theorem Fr.tell{R:List Nat}{c:Nat}{A A1:AS}(h:Fr R c A A1)(r:Res):Ft R c A (A1.tell r) r:=⟨h.w,h.self,h.lo,h.hi,rfl⟩
structure Asked(n t:Nat)(A:AS)(held:Nat->Option HK)(live:Nat->Option Nat)(s a:Int)(r:Res)(A':AS)(ab:Nat->Option HK)(ac:Nat->Option Nat):Prop where
 fr:Ft askR 80000000000 A A' r
 heap:HInv n t A' ab
 states:SI n t A' ac
 lin : ∃l:Nat,A.steps<=l/\l<=A'.steps/\r.lin=i64.wrap l/\(r.e=0->A.steps<l)
 res:(ab=held/\ac=live/\r=Res.none r.e r.lin/\((r.e=11/\(s<1\/64*n<s))\/(1<=s/\s<=64*n/\((r.e=12/\powA a=false)\/(r.e=15/\powA a=true/\NoRoom n held s a)))))\/
  ∃ (g:Nat) (x:HK),r=⟨((8*g:Nat):Int),((8*x.ext:Nat):Int),0,0,0,0,0,0,0,r.lin,0⟩/\held g=none/\ab=upd held g (some x)/\ac=updS live g (some s.toNat)/\1<=s/\s<=64*n/\powA a=true/\GotRoom n s a g x
section
variable{n t:Nat}(hf:Small n t){A:AS}{held:Nat->Option HK}{live:Nat->Option Nat}
include hf
theorem HInv.small(hi:HInv n t A held){g:Nat}{x:HK}(hg:held g=some x):g<n*8:=by
 obtain⟨h0,S,mp,vr,rem,bag,pl,h⟩:=hi
 have ir:=h.geo hg
 cases x with
 | blk c=>
  obtain⟨_,p,j,h1,h2,h3⟩:=ir
  have:=yi h2;omega
 | run k=>
  obtain⟨h1,p,h2,h3⟩:=ir;omega
theorem kf{e l:Int}:(kD e l).run (xo n t) A=some (Res.none e l,A.tell (Res.none e l)):=by
 unfold kD xeA
 simp only[T.run,xo]
 rfl
theorem xbA : ∀r∈srcR,r∈askR:=by unfold srcR askR;simp
theorem xd2{me:Nat}{s a:Int}(ah:me<t)(aa:A.self=(me:Int))(ha:a<9223372036854775808)(hi:HInv n t A held)(hs:SI n t A live):Rn n t (jK (xd n t) a s) A fun r A'=>A'.b=A.b/\ ∃ab ac,Asked n t A held live s a r A' ab ac:=by
 have hn:=hf.n2
 have lu:=hf.n1
 unfold jK Wp
 refine Rn.no (by show(((n:Nat):Int)==0)=false;simp;omega) ?_
 refine Rn.bind (xde hf ah aa ha hi) ?_
 rintro ⟨k,u,e⟩ A1 ⟨ab,bw,h1,ag⟩
 simp only
 rcases bw with⟨rfl,h2,h3,h4⟩|⟨g,x,h2,h3,rfl,h5,h6,h7,h8⟩
 .simp only at h2 h3 h4
  have he:(e != 0)=true:=by
   rcases h4 with⟨h4,_⟩|⟨_,_,⟨h4,_⟩|⟨h4,_⟩⟩<;>rw[h4]<;>rfl
  refine Rn.yes he (Rn.steps ?_)
  refine Rn.run (kf hf) (Rn.ret ⟨ag.b,ab,live,(ag.mono (xbA hf) (by omega)).tell _,h1.w fun r i=>rfl,(hs.fr ag (by unfold srcR;simp)).same fun i=>rfl,⟨A1.steps,ag.lo,dI _,rfl,fun hh=>absurd hh (by simpa[Res.none]using he)⟩,.inl ⟨rfl,rfl,rfl,?_⟩⟩)
  exact h4
 .simp only[dH]at h2
  obtain⟨rfl,rfl,rfl⟩:=h2
  refine Rn.no rfl ?_
  have dc:g<n*8:=HInv.small hf h1 (xC _ _ _)
  have cq:A1.self=(me:Int):=by rw[ag.self,aa]
  have hz:s=((s.toNat:Nat):Int):=by omega
  unfold xdp xgj
  rw[T.bind_assoc]
  have hb:=xk1 hf (A:=A1) (z:=s.toNat) ah cq dc (by omega) (by omega) (hs.fr ag (by unfold srcR;simp))
  rw[<- hz]at hb
  refine Rn.bind hb ?_
  rintro _ A2 ⟨k1,k2,k3⟩
  have F0:=ag.lo
  refine Rn.steps (Rn.tell ?_)
  have e8:i64.wrap ((g:Int)*8)=((8*g:Nat):Int):=by rw[show(g:Int)*8=((8*g:Nat):Int)by omega,wN _ (by omega)]
  rw[e8]
  have ae:=ag.trans k2 (S:=askR) (e:=80000000000) (xbA hf) (by unfold askR;simp) (by omega)
  refine Rn.ret ⟨ae.b,_,_,ae.tell (⟨((8*g:Nat):Int),((8*x.ext:Nat):Int),0,0,0,0,0,0,0,i64.wrap A2.steps,0⟩:Res),(h1.fr k2 (by simp)).w fun r i=>rfl,k1.same fun i=>rfl,⟨A2.steps,ae.lo,dI _,rfl,fun _=>by omega⟩,.inr ⟨g,x,rfl,h3,rfl,rfl,h5,h6,h7,h8⟩⟩
theorem xwb{me:Nat}{s:Int}(ah:me<t)(aa:A.self=(me:Int))(hi:HInv n t A held)(hs:SI n t A live):Rn n t (Wt (xd n t) s) A fun r A'=>A'.b=A.b/\ ∃ab ac,Asked n t A held live s 1 r A' ab ac:=by
 unfold Wt xaY
 exact Rn.bind (xd2 hf ah aa (by omega) hi hs) fun r A' h=>Rn.ret h
def zeroed(b:List Int)(p m:Nat):List Int:=(List.range m).foldl (fun b i=>b.set (p+i) 0) b
theorem Yr(b:List Int)(p m:Nat):zeroed b p (m+1)=(zeroed b p m).set (p+m) 0:=by
 unfold zeroed
 rw[List.range_succ,List.foldl_append];rfl
theorem Kz(b:List Int)(p:Nat) : ∀m,(zeroed b p m).length=b.length
 | 0=>rfl
 | m+1=>by rw[Yr hf,List.length_set,Kz b p m]
theorem xdf(b:List Int)(p:Nat) : ∀ (m i:Nat),i<b.length->(zeroed b p m)[i]? = if p<=i/\i<p+m then some 0 else b[i]?
 | 0,i,hi=>by rw[dA (by omega)];rfl
 | m+1,i,hi=>by
  rw[Yr hf]
  by_cases h:i=p+m
  .subst h
   rw[List.getElem?_set_self (by rw[Kz hf];exact hi),dB (by omega)]
  .rw[List.getElem?_set_ne (by omega),xdf b p m i hi]
   by_cases h2:p<=i/\i<p+m
   .rw[dB h2,dB (by omega)]
   .rw[dA h2,dA (by omega)]
theorem xzM{me:Nat}{a:Int}(ah:me<t)(aa:A.self=(me:Int))(hi:HInv n t A held)(hs:SI n t A live)(sm : ∀g z,live g=some z ->∃x,held g=some x):Rn n t (xcM (xd n t) a) A fun r A'=>
  A'.b=A.b/\Ft xsD 200000 A A' r/\(∃l:Nat,A.steps<=l/\l<=A'.steps/\r.lin=i64.wrap l)/\((r=Res.none 13 r.lin/\HInv n t A' held/\SI n t A' live/\ ∀g z:Nat,live g=some z->a≠((8*g:Nat):Int))\/
   ∃g z:Nat,a=((8*g:Nat):Int)/\live g=some z/\r=⟨0,(z:Int),0,0,0,0,0,0,0,r.lin,0⟩/\A.steps<A'.steps/\r.lin=i64.wrap (A.steps+2)/\HInv n t A' (upd held g none)/\SI n t A' (updS live g none)):=by
 have hn:=hf.n2
 have lu:=hf.n1
 have an : ∀g z,live g=some z->g<n*8:=fun g z hl=>by
  obtain⟨x,hx⟩:=sm g z hl
  exact HInv.small hf hi hx
 have tt:i64.wrap ((xd n t).pages*64)=((64*n:Nat):Int):=by
  show i64.wrap (((n:Nat):Int)*64)=_
  rw[show((n:Nat):Int)*64=((64*n:Nat):Int)by omega,wN _ (by omega)]
 have bad : ∀ (A1:AS),Fr [] 1 A A1->(∀g z:Nat,live g=some z->a≠((8*g:Nat):Int)) ->∀l:Nat,A.steps<=l->l<=A1.steps->A1.b=A.b/\Ft xsD 200000 A (A1.tell (Res.none 13 (i64.wrap l))) (Res.none 13 (i64.wrap l))/\(∃l':Nat,A.steps<=l'/\l'<=A1.steps/\(Res.none 13 (i64.wrap l)).lin=i64.wrap l')/\
   (((Res.none 13 (i64.wrap l))=Res.none 13 (Res.none 13 (i64.wrap l)).lin/\HInv n t (A1.tell (Res.none 13 (i64.wrap l))) held/\SI n t (A1.tell (Res.none 13 (i64.wrap l))) live/\ ∀g z:Nat,live g=some z->a≠((8*g:Nat):Int))\/
   ∃g z:Nat,a=((8*g:Nat):Int)/\live g=some z/\(Res.none 13 (i64.wrap l))=⟨0,(z:Int),0,0,0,0,0,0,0,(Res.none 13 (i64.wrap l)).lin,0⟩/\A.steps<(A1.tell (Res.none 13 (i64.wrap l))).steps/\(Res.none 13 (i64.wrap l)).lin=i64.wrap (A.steps+2)/\HInv n t (A1.tell (Res.none 13 (i64.wrap l))) (upd held g none)/\SI n t (A1.tell (Res.none 13 (i64.wrap l))) (updS live g none)):=by
  intro A1 ao bg l fg fp
  exact⟨ao.b,(ao.mono).tell _,⟨l,fg,fp,rfl⟩,.inl ⟨rfl,(hi.fr ao (by simp)).w fun r i=>rfl,(hs.fr ao (by simp)).same fun i=>rfl,bg⟩⟩
 unfold xcM xeZ xaS
 refine Rn.no (by show(((n:Nat):Int)==0)=false;simp;omega) ?_
 by_cases h1:a<0
 .refine Rn.yes (dD h1) (Rn.steps (Rn.run (kf hf) (Rn.ret ?_)))
  exact bad A ((Fr.refl [] A).mono) (fun g z hl hh=>by omega) A.steps (dI _) (dI _)
 refine Rn.no (dC h1) ?_
 rw[tt]
 by_cases h2:a>=((64*n:Nat):Int)
 .refine Rn.yes (dD h2) (Rn.steps (Rn.run (kf hf) (Rn.ret ?_)))
  exact bad A ((Fr.refl [] A).mono) (fun g z hl hh=>by have:=an g z hl;omega) A.steps (dI _) (dI _)
 refine Rn.no (dC h2) ?_
 have em:Int.tmod a 8=a%8:=dR (by omega)
 rw[em]
 by_cases h3:a%8=0
 .refine Rn.no (by rw[h3];rfl) ?_
  obtain⟨g,rfl⟩ : ∃g:Nat,a=((8*g:Nat):Int):=⟨(a / 8).toNat,by omega⟩
  have dc:g<n*8:=by omega
  have ed:i64.wrap (Int.tdiv ((8*g:Nat):Int) 8)=(g:Int):=by
   rw[dS (by omega)]
   have:((8*g:Nat):Int) / 8=(g:Int):=by omega
   rw[this,wN _ (by omega)]
  rw[ed]
  refine Rn.bind (xzL hf ah aa dc hs) ?_
  rintro r A1 (⟨k1,k2,k3,k5,k4⟩|⟨z,k1,k2,k3,k4,k5,k6,k7⟩)
  .refine Rn.yes (by rw[k2];rfl) ?_
   rw[k3]
   refine Rn.run (kf hf) (Rn.ret ?_)
   exact bad A1 k4 (fun q z hl hh=>by
    obtain rfl:q=g:=by omega
    rw[k1]at hl;cases hl) (A.steps+1) (by omega) (by omega)
  .refine Rn.no (by rw[k2];rfl) ?_
   rw[k3,k4]
   obtain⟨x,hx⟩:=sm g z k1
   refine Rn.tell ?_
   have cq:A1.self=(me:Int):=by rw[k7.self,aa]
   have co:HInv n t (A1.tell ⟨0,(z:Int),0,0,0,0,0,0,0,i64.wrap (A.steps+2),0⟩) held:=(hi.fr k7 (by simp)).w fun r i=>rfl
   refine Rn.bind (xd1 hf (A:=A1.tell ⟨0,(z:Int),0,0,0,0,0,0,0,i64.wrap (A.steps+2),0⟩) ah cq co hx) ?_
   rintro _ A2 ⟨q1,q2,_⟩
   have Na:=q2.lo
   have Nf:=q2.hi
   simp only[AS.tell_steps]at Na Nf
   refine Rn.ret ⟨by rw[q2.b];exact k7.b,⟨fun q hq i =>?_,by rw[q2.self];exact k7.self,by omega,by omega,by rw[q2.told];rfl⟩,⟨A.steps+2,by omega,by omega,rfl⟩,.inr ⟨g,z,rfl,k1,rfl,by omega,rfl,q1,(k6.same (A':=A1.tell ⟨0,(z:Int),0,0,0,0,0,0,0,i64.wrap (A.steps+2),0⟩) fun i=>rfl).fr q2 (by unfold relR;simp)⟩⟩
   rw[q2.w q (by unfold xsD at hq;unfold relR;simp at hq |-;omega)]
   exact k7.w q (by unfold xsD at hq;simp at hq |-;omega) i
 .refine Rn.yes (by simpa using h3) (Rn.steps (Rn.run (kf hf) (Rn.ret ?_)))
  exact bad A ((Fr.refl [] A).mono) (fun g z hl hh=>by omega) A.steps (dI _) (dI _)
end
end
section
open Go Go.RowKit Lx
def xS(N:Nat)(m s:Int):Int:=if 0<=m/\0<=s/\(s=0\/m<=64*N / s)then m*s else 0
section
variable{n t:Nat}(hf:Small n t){A:AS}{held:Nat->Option HK}{live:Nat->Option Nat}
include hf
theorem xzN{α:Type}{Q:α->AS->Prop}{g m:Nat}{a0 a1 a3 a7 a8 a9 be bd ay ca bu bj bn bq:Int}{g6:Geo}{κ0:Unit->T α}(hg:8*g+m<=100000)(hm:m<4096)
  (hκ : ∀A',A' = {A with b:=zeroed A.b (8*g) m,steps:=A.steps+m}->Rn n t (κ0 ()) A' Q) :
  Rn n t (vd a0 a1 (g:Int) a3 (m:Int) g6 a7 a8 a9 be bd ay ca bu bj bn bq 0 κ0) A Q:=by
 unfold vd
 refine Rn.loop (fun r i A1 =>∃k:Nat,i=(k:Int)/\k<=m/\r=m-k/\A1 = {A with b:=zeroed A.b (8*g) k,steps:=A.steps+k}) ?_ xa m _ A (by unfold xa;omega) ⟨0,rfl,by omega,rfl,rfl⟩
 rintro r i A1 κ' ⟨k,rfl,hk,rfl,rfl⟩ ap
 unfold Kc
 by_cases h:k<m
 .refine Rn.yes (by rw[dT];omega) ?_
  have e:i64.wrap (i64.wrap ((g:Int)*8)+(k:Int))=((8*g+k:Nat):Int):=by
   rw[show(g:Int)*8=((8*g:Nat):Int)by omega,wN _ (by omega),wrap_add hf.toFew (by omega)]
  rw[e,xL hf.toFew (by omega)]
  refine Rn.op (o :=.put _ 0) (x:=()) (by simp only[xo];rw[dB (by omega)]) (ap (m-(k+1)) _ _ (by omega) ⟨k+1,rfl,by omega,rfl,?_⟩)
  rw[Yr hf]
  rfl
 .obtain rfl:k=m:=by omega
  exact Rn.no (by rw[dF];omega) (hκ _ rfl)
theorem xwc{me:Nat}{m s:Int}(aj:n<=60)(hm:m<9223372036854775808)(Mw:s<9223372036854775808)(ah:me<t)(aa:A.self=(me:Int))(hi:HInv n t A held)(hs:SI n t A live):Rn n t (Wq (xd n t) m s) A fun r A'=>
  ∃ab ac,Asked n t A held live (xS n m s) 1 r A' ab ac/\((r.e≠0/\A'.b=A.b)\/ ∃g:Nat,(r.e=0/\r.at_=((8*g:Nat):Int))/\A'.b=zeroed A.b (8*g) (xS n m s).toNat):=by
 have lu:=hf.n1
 have tt:i64.wrap ((xd n t).pages*64)=((64*n:Nat):Int):=by
  show i64.wrap (((n:Nat):Int)*64)=_
  rw[show((n:Nat):Int)*64=((64*n:Nat):Int)by omega,wN _ (by omega)]
 have bad:xS n m s=0->Rn n t (T.op .steps fun x=>(kD 11 x).bind fun r3=>(T.ret ⟨r3.at_,r3.n,r3.byte,r3.c1,r3.c2,r3.c3,r3.c4,r3.c5,r3.e,r3.lin,r3.touch⟩:T Res)) A fun r A'=>
   ∃ab ac,Asked n t A held live (xS n m s) 1 r A' ab ac/\((r.e≠0/\A'.b=A.b)\/ ∃g:Nat,(r.e=0/\r.at_=((8*g:Nat):Int))/\A'.b=zeroed A.b (8*g) (xS n m s).toNat):=by
  intro h0
  refine Rn.steps (Rn.run (kf hf) (Rn.ret ⟨held,live,⟨((Fr.refl askR A).mono (fun _ h=>h) (by omega)).tell _,hi.w fun r i=>rfl,hs.same fun i=>rfl,⟨A.steps,dI _,dI _,rfl,fun hh=>absurd hh (by simp[Res.none])⟩,.inl ⟨rfl,rfl,rfl,.inl ⟨rfl,.inl (by omega)⟩⟩⟩,.inl ⟨by simp[Res.none],rfl⟩⟩))
 have good : ∀z:Int,z<9223372036854775808->xS n m s=z->0<=z->Rn n t ((ZN (xd n t) z 1).bind fun r6=>bif r6.snd.2 != 0 then(T.op .steps fun x8=>(kD r6.snd.2 x8).bind fun r9=>(T.ret ⟨r9.at_,r9.n,r9.byte,r9.c1,r9.c2,r9.c3,r9.c4,r9.c5,r9.e,r9.lin,r9.touch⟩:T Res)) else
   vd m s r6.1 r6.snd.1 z (xd n t) 0 0 0 0 0 0 0 0 0 0 0 0 fun _=>(xdp (xd n t) r6.1 r6.snd.1 z).bind fun r9=>(T.ret ⟨r9.at_,r9.n,r9.byte,r9.c1,r9.c2,r9.c3,r9.c4,r9.c5,r9.e,r9.lin,r9.touch⟩:T Res)) A fun r A'=>
   ∃ab ac,Asked n t A held live (xS n m s) 1 r A' ab ac/\((r.e≠0/\A'.b=A.b)\/ ∃g:Nat,(r.e=0/\r.at_=((8*g:Nat):Int))/\A'.b=zeroed A.b (8*g) (xS n m s).toNat):=by
  intro z hz hc Ey
  rw[hc]
  refine Rn.bind (xde hf ah aa (by omega) hi) ?_
  rintro ⟨k,u,e⟩ A1 ⟨ab,bw,h1,ag⟩
  simp only
  rcases bw with⟨rfl,h2,h3,h4⟩|⟨g,x,h2,h3,rfl,h5,h6,h7,h8⟩
  .simp only at h2 h3 h4
   have he:(e != 0)=true:=by
    rcases h4 with⟨h4,_⟩|⟨_,_,⟨h4,_⟩|⟨h4,_⟩⟩<;>rw[h4]<;>rfl
   refine Rn.yes he (Rn.steps ?_)
   refine Rn.run (kf hf) (Rn.ret ⟨ab,live,⟨(ag.mono (xbA hf) (by omega)).tell _,h1.w fun r i=>rfl,(hs.fr ag (by unfold srcR;simp)).same fun i=>rfl,⟨A1.steps,ag.lo,dI _,rfl,fun hh=>absurd hh (by simpa[Res.none]using he)⟩,.inl ⟨rfl,rfl,rfl,h4⟩⟩,.inl ⟨?_,ag.b⟩⟩)
   simpa[Res.none]using he
  .simp only[dH]at h2
   obtain⟨rfl,rfl,rfl⟩:=h2
   refine Rn.no rfl ?_
   have dc:g<n*8:=HInv.small hf h1 (xC _ _ _)
   have cq:A1.self=(me:Int):=by rw[ag.self,aa]
   obtain⟨y,rfl⟩ : ∃y:Nat,z=(y:Int):=⟨z.toNat,by omega⟩
   refine xzN hf (by omega) (by omega) fun A2 hA2 =>?_
   have oj : ∀r i,A2.w r i=A1.w r i:=by intro r i;rw[hA2]
   have et:A2.self=(me:Int):=by rw[hA2];exact cq
   have E8:A2.steps=A1.steps+y:=by rw[hA2]
   have cm:A2.b=zeroed A.b (8*g) y:=by rw[hA2];show zeroed A1.b _ _=_;rw[ag.b]
   unfold xdp xgj
   rw[T.bind_assoc]
   refine Rn.bind (xk1 hf (A:=A2) (z:=y) ah et dc (by omega) (by omega) ((hs.fr ag (by unfold srcR;simp)).same fun i=>oj 11 i)) ?_
   rintro _ A3 ⟨k1,k2,k3⟩
   refine Rn.steps (Rn.tell ?_)
   have e8:i64.wrap ((g:Int)*8)=((8*g:Nat):Int):=by rw[show(g:Int)*8=((8*g:Nat):Int)by omega,wN _ (by omega)]
   rw[e8]
   have Na:=k2.lo
   have Nf:=k2.hi
   have F0:=ag.lo
   have Lb:=ag.hi
   refine Rn.ret ⟨_,_,⟨⟨fun q hq i =>?_,by show A3.self=_;rw[k2.self,et,aa],?_,?_,rfl⟩,((h1.w (A':=A2) oj).fr k2 (by simp)).w fun r i=>rfl,k1.same fun i=>rfl,⟨A3.steps,by omega,dI _,rfl,fun _=>by omega⟩,.inr ⟨g,x,rfl,h3,rfl,rfl,h5,h6,h7,h8⟩⟩,.inr ⟨g,⟨rfl,rfl⟩,?_⟩⟩
   .show A3.w q i=_
    rw[k2.w q (by unfold askR at hq;simp at hq |-;omega),oj,ag.w q (fun hh=>hq (xbA hf q hh))]
   .show A.steps<=A3.steps;omega
   .show A3.steps<=A.steps+80000000000;omega
   .show A3.b=_
    rw[k2.b,cm,Int.toNat_natCast]
 unfold Wq xaV xaU xe1
 refine Rn.no (by show(((n:Nat):Int)==0)=false;simp;omega) ?_
 by_cases h1:m<0
 .exact Rn.yes (dD h1) (bad (by unfold xS;rw[dA (by omega)]))
 refine Rn.no (dC h1) ?_
 by_cases h2:s<0
 .exact Rn.yes (dD h2) (bad (by unfold xS;rw[dA (by omega)]))
 refine Rn.no (dC h2) ?_
 by_cases h3:s>0
 .refine Rn.yes (dD h3) (Rn.yes (by rw[show(s==0)=false by simp;omega];rfl) ?_)
  rw[tt]
  have ed:Int.tdiv ((64*n:Nat):Int) s=((64*n:Nat):Int) / s:=dS (by omega)
  have Qj:((64*n:Nat):Int) / s<=((64*n:Nat):Int):=Int.ediv_le_self _ (by omega)
  have Qk:0<=((64*n:Nat):Int) / s:=Int.ediv_nonneg (by omega) (by omega)
  rw[ed,w64 (x:=((64*n:Nat):Int) / s) (by omega) (by omega)]
  have e6:((64*n:Nat):Int)=64*(n:Int):=by omega
  by_cases h4:m>((64*n:Nat):Int) / s
  .refine Rn.yes (dD h4) (bad ?_)
   unfold xS
   rw[dA (by rw[e6]at h4;omega)]
  .refine Rn.no (dC h4) ?_
   have hms:m*s<=((64*n:Nat):Int):=by
    have h5:=Int.mul_le_mul_of_nonneg_right (show m<=((64*n:Nat):Int) / s by omega) (show 0<=s by omega)
    have h6:=Int.ediv_mul_le ((64*n:Nat):Int) (show s≠0 by omega)
    omega
   have J8:0<=m*s:=Int.mul_nonneg (by omega) (by omega)
   have ew:i64.wrap (m*s)=m*s:=w64 (by omega) (by omega)
   simp only[ew]
   exact good (m*s) (by omega) (by unfold xS;rw[dB ⟨by omega,by omega,.inr (by rw[e6]at h4;omega)⟩]) J8
 .obtain rfl:s=0:=by omega
  refine Rn.no (dC h3) ?_
  have ew:i64.wrap (m*0)=0:=by rw[Int.mul_zero];rfl
  simp only[ew]
  exact good 0 (by omega) (by unfold xS;rw[dB ⟨by omega,by omega,.inl rfl⟩,Int.mul_zero]) (by omega)
end
end
section
open Go Go.RowKit Lx
def upTo:Nat->Nat->List Nat
 | _,0 =>[]
 | a,k+1=>a::upTo (a+1) k
theorem xiu{x:Nat} : ∀ {a k:Nat},x∈upTo a k↔a<=x/\x<a+k
 | a,0=>by simp[upTo]
 | a,k+1=>by simp only[upTo,List.mem_cons,xiu (a:=a+1) (k:=k)];omega
theorem xiv : ∀ {a k:Nat},(upTo a k).Nodup
 | a,0=>List.nodup_nil
 | a,k+1=>by
  simp only[upTo,List.nodup_cons]
  exact⟨fun h=>by have:=xiu.1 h;omega,xiv⟩
theorem xd3{f:Nat->Int} : ∀ (k a:Nat),1<=a->(∀m,a<=m->m<a+k->f (m-1)=if m+1=a+k then 0 else((m+1:Nat):Int))->linkedN f (upTo a k)
 | 0,a,ha,h=>trivial
 | k+1,a,ha,h=>by
  refine⟨?_,xd3 k (a+1) (by omega) fun m h1 h2 =>?_⟩
  .rw[h a (by omega) (by omega)]
   cases k with
   | zero=>rw[dB (by omega)];rfl
   | succ k=>rw[dA (by omega)];rfl
  .rw[h m (by omega) (by omega)]
   by_cases hm:m+1=a+(k+1)
   .rw[dB hm,dB (by omega)]
   .rw[dA hm,dA (by omega)]
theorem xzO:body=0:=by decide
theorem xB9:bt0 0=0:=by decide
def xiw(self:Int)(b:List Int)(steps:Nat):AS:=⟨fun _ _=>0,b,self,steps,none⟩
structure Empty(n t:Nat)(A:AS):Prop where
 pages : ∀q,A.w 7 q=if q=0 then pw 1 n 0 0 else if 1<n/\q=n-1 then pw 2 n 0 0 else 0
 bins : ∀b,b<9->A.w 3 b=if lg n=b then 1 else 0
 pool:A.w 4 0=1
 nodes : ∀m,1<=m->m<=nodesN n t->A.w 17 (m-1)=if m=nodesN n t then 0 else((m+1:Nat):Int)
 rest : ∀r,r≠3->r≠4->r≠7->r≠17 ->∀i,A.w r i=0
section
variable{n t:Nat}(hf:Small n t){A:AS}
include hf
theorem xk2:1<=nodesN n t:=by
 have:=hf.t1
 unfold nodesN
 have:1<=t*(2*t+3):=Nat.mul_pos (by omega) (by omega)
 omega
theorem xzP:(XF (xd n t)).run (xo n t) A=some ((),A.lay 0 n):=by
 unfold XF xez
 have:=xfp hf.toFew (A:=A) (p:=0) (m:=n) (by omega)
 rw[T.run_bind,show(xd n t).pages=((n:Nat):Int)from rfl,show(0:Int)=((0:Nat):Int)from rfl,this]
 rfl
theorem xzQ:Xc (xd n t)=(nodesN n t:Int):=by
 have hn:=hf.n2
 have lu:=hf.n1
 have ht:=hf.t2
 have h1:t*4*(n+1)<=64*4*257:=Nat.mul_le_mul (Nat.mul_le_mul_right 4 ht) (by omega)
 have h2:t*(2*t+3)<=64*131:=Nat.mul_le_mul ht (by omega)
 unfold Xc nodesN
 rw[show(xd n t).pages=((n:Nat):Int)from rfl,show(xd n t).threads=((t:Nat):Int)from rfl,show(((n:Nat):Int)==0)=false by simp;omega]
 simp only[cond_false]
 have e1:i64.wrap ((t:Int)*4)=((t*4:Nat):Int):=by rw[show(t:Int)*4=((t*4:Nat):Int)by omega,wN _ (by omega)]
 have e2:i64.wrap ((n:Int)+1)=((n+1:Nat):Int):=xL hf.toFew (by omega)
 have e3:i64.wrap (i64.wrap (2*(t:Int))+3)=((2*t+3:Nat):Int):=by rw[w64 (x:=2*(t:Int)) (by omega) (by omega),w64 (by omega) (by omega)];omega
 rw[e1,e2,e3,<- Int.natCast_mul,<- Int.natCast_mul,wN (t*4*(n+1)) (by omega),wN (t*(2*t+3)) (by omega),wrap_add hf.toFew (by omega)]
theorem xzR(h4:True):Rn n t (XH (xd n t)) A fun _ A'=>Fr [4,17] 5000 A A'/\A'.w 4 0=1/\ ∀m,1<=m->m<=nodesN n t->A'.w 17 (m-1)=if m=nodesN n t then 0 else((m+1:Nat):Int):=by
 have hN:=hf.nodes
 have hN1:=xk2 hf
 have lu:=hf.n1
 unfold XH xeJ wM
 have Di:(kN (xd n t)).run (xo n t) A=some (false,A):=by
  unfold kN XG
  rw[show((xd n t).pages==0)=false by show(((n:Nat):Int)==0)=false;simp;omega]
  rfl
 refine Rn.run Di (Rn.no rfl ?_)
 refine Rn.loop (fun r i A1 =>∃k:Nat,i=((k+1:Nat):Int)/\k<=nodesN n t/\r=nodesN n t-k/\Fr [4,17] k A A1/\ ∀m,1<=m->m<=k->A1.w 17 (m-1)=if m=nodesN n t then 0 else((m+1:Nat):Int)) ?_ xa (nodesN n t) _ A (by unfold xa;omega) ⟨0,rfl,by omega,rfl,Fr.refl _ _,fun m h1 h2=>by omega⟩
 rintro r i A1 κ' ⟨k,rfl,hk,rfl,ao,hw⟩ ap
 unfold xcq
 rw[xzQ hf]
 by_cases h:k<nodesN n t
 .refine Rn.yes (by rw[dT];omega) ?_
  rw[xL hf.toFew (x:=k+1) (by omega)]
  have ha:=at17 hf.toFew (m:=k+1) (by omega) (by omega)
  have hz:k<Zr n t 17:=h
  by_cases hl:k+1=nodesN n t
  .refine Rn.yes (by rw[beq_iff_eq];omega) (Rn.store ha (by omega) hz (ap (nodesN n t-(k+1)) _ _ (by omega) ⟨k+1,rfl,by omega,rfl,ao.trans (Fr.sett (R :=[17]) A1 _ (by simp)),fun m h1 h2 =>?_⟩))
   simp only[AS.tick_w,AS.set_w]
   by_cases hm:m=k+1
   .subst hm;rw[dB ⟨trivial,rfl⟩,dB hl]
   .rw[dA (by omega)];exact hw m h1 (by omega)
  .refine Rn.no (by rw[dO];omega) (Rn.store ha (by omega) hz (ap (nodesN n t-(k+1)) _ _ (by omega) ⟨k+1,rfl,by omega,rfl,ao.trans (Fr.sett (R :=[17]) A1 _ (by simp)),fun m h1 h2 =>?_⟩))
   simp only[AS.tick_w,AS.set_w]
   by_cases hm:m=k+1
   .subst hm
    rw[dB ⟨trivial,rfl⟩,dA hl]
    have:=jV (k+1+1) 0 (by omega) (by omega)
    rw[show({idx:=((k+1+1:Nat):Int),mark:=false,ver:=0}:Ref)=⟨((k+1+1:Nat):Int),false,((0:Nat):Int)⟩from rfl,this]
    try omega
   .rw[dA (by omega)];exact hw m h1 (by omega)
 .obtain rfl:k=nodesN n t:=by omega
  refine Rn.no (by rw[dF];omega) ?_
  refine Rn.store (at4 hf.toFew) (by omega) (by simp[Zr]) (Rn.ret ⟨ao.trans (Fr.sett (R :=[4]) A1 _ (by simp)),by simp,fun m h1 h2 =>?_⟩)
  simp only[AS.tick_w,AS.set_w]
  rw[dA (by omega)];exact hw m h1 h2
theorem Empty.inv(h:Empty n t A):HInv n t A (fun _=>none)/\SI n t A (fun _=>none):=by
 have hn:=hf.n2
 have lu:=hf.n1
 have hN:=hf.nodes
 have hN1:=xk2 hf
 have d8 : ∀p,slabAt [⟨n,.free⟩] p=none:=fun p=>by rw[vF];split<;>rfl
 have gu : ∀p,runAt [⟨n,.free⟩] p=none:=fun p=>by
  rw[vG];split
  .rw[dA (by rintro ⟨_,hh⟩;cases hh)]
  .rfl
 refine⟨⟨h.rest 0 (by omega) (by omega) (by omega) (by omega) 0,[⟨n,.free⟩],fun _=>0,fun _=>0,fun _ =>[],fun _ =>[],upTo 1 (nodesN n t),?_⟩,fun g hg _=>h.rest 11 (by omega) (by omega) (by omega) (by omega) g,fun g z hg hl=>(by cases hl)⟩
 refine⟨⟨by simp[plen],fun s hs =>?_,fun p hp =>?_,fun b hb =>?_⟩,⟨fun _=>rfl,trivial⟩,fun s hs =>?_,by rw[h.rest 1 (by omega) (by omega) (by omega) (by omega)];omega,fun p hp=>by omega,fun p c o hp =>?_,fun p hp _=>by rw[h.rest 8 (by omega) (by omega) (by omega) (by omega),xB9],fun p hp=>⟨h.rest 9 (by omega) (by omega) (by omega) (by omega) p,trivial⟩,fun p hp g hg=>(by cases hg),
  fun i hi =>.inl (h.rest 12 (by omega) (by omega) (by omega) (by omega) i),fun i hi=>⟨h.rest 13 (by omega) (by omega) (by omega) (by omega) i,trivial⟩,fun i hi=>⟨List.nodup_nil,fun m hm=>(by cases hm)⟩,fun i j m _ _ hm=>(by cases hm),fun m k h1 h2 h3 =>.inl (h.rest 18 (by omega) (by omega) (by omega) (by omega) _),⟨0,by omega,?_,xd3 _ 1 (by omega) fun m h1 h2 =>?_⟩,⟨xiv,fun m hm =>?_⟩,fun g c hg=>(by cases hg),fun g k =>?_,fun p c o j hp =>?_,⟨fun _ =>[],fun q hq=>⟨by simp,by rw[h.rest 15 (by omega) (by omega) (by omega) (by omega)];rfl,List.nodup_nil,fun k hk=>absurd hk (Nat.not_lt_zero _),fun m hm=>by cases hm⟩,fun q q' m _ _ hm=>by cases hm⟩⟩
 .simp only[List.mem_singleton]at hs
  subst hs
  exact⟨lu,fun c o hh=>by cases hh⟩
 .rw[h.pages,vi,dB hp]
  unfold Sg.word
  simp only
  by_cases h0:p=0
  .rw[dB h0,dB h0];rfl
  .rw[dA h0,dA h0]
   by_cases h1:p=n-1
   .rw[dB ⟨by omega,h1⟩,dB ⟨by omega,trivial⟩]
   .rw[dA (fun hh=>h1 hh.2),dA (by omega),xzO]
 .rw[h.bins b hb]
  simp only[cntF,true_and]
  split<;>rfl
 .simp only[List.mem_singleton]at hs
  subst hs;simp
 .rw[d8]at hp;cases hp
 .rw[h.pool]
  obtain⟨k,hk⟩ : ∃k,nodesN n t=k+1:=⟨nodesN n t-1,by omega⟩
  rw[hk]
  simp only[upTo,hdn]
  have:=jV 1 0 (by omega) (by omega)
  rw[this];rfl
 .rw[h.nodes m h1 (by omega)]
  by_cases hm:m=nodesN n t
  .rw[dB hm,dB (by omega)]
  .rw[dA hm,dA (by omega)]
 .have:=xiu.1 hm
  exact⟨by omega,by omega,fun i hi hh=>by cases hh⟩
 .rw[gu];simp
 .rw[d8]at hp;cases hp
end
end
section
open Go Go.RowKit Lx
def AS.port(A:AS)(me:Int):AS :={A with self:=me,steps:=0,told:=none}
@[simp] theorem AS.port_w (A:AS) (me:Int):(A.port me).w=A.w:=rfl
@[simp] theorem AS.port_b (A:AS) (me:Int):(A.port me).b=A.b:=rfl
@[simp] theorem AS.port_self (A:AS) (me:Int):(A.port me).self=me:=rfl
@[simp] theorem AS.port_steps (A:AS) (me:Int):(A.port me).steps=0:=rfl
theorem Rep.port{n t:Nat}{A:AS}{s:DS}(h:Rep n t A s)(me:Int):Rep n t (A.port me) ⟨s.m,me,0,none⟩:=⟨h.len,h.row,h.bytes,rfl,rfl,rfl⟩
theorem xCa{n t:Nat}(me:Int)(b:List Int):Rep n t (xiw me b 0) ⟨⟨List.replicate (Br n t 19) 0,b⟩,me,0,none⟩:=by
 refine⟨by simp,fun r i hr hi =>?_,rfl,rfl,rfl,rfl⟩
 have hb:=kU n t (show r+1<=19 by omega)
 have h1:Br n t (r+1)=Br n t r+Zr n t r:=rfl
 simp only
 rw[List.getElem?_replicate,dB (by omega)]
 rfl
section
variable{n t:Nat}(hf:Small n t){A:AS}
include hf
theorem xCb{A0:AS}(h7 : ∀i,A0.w 7 i=0)(h3 : ∀i,A0.w 3 i=0):(∀q,(A0.lay 0 n).w 7 q=if q=0 then pw 1 n 0 0 else if 1<n/\q=n-1 then pw 2 n 0 0 else 0)/\ ∀b,b<9->(A0.lay 0 n).w 3 b=if lg n=b then 1 else 0:=by
 have lu:=hf.n1
 refine⟨fun q =>?_,fun b hb =>?_⟩
 .rw[xoB,h7]
  by_cases h0:q=0
  .rw[dB ⟨by omega,h0⟩,dB h0]
  .rw[dA (fun hh=>h0 hh.2),dA h0,Nat.zero_add]
 .rw[xbv (c:=fun _=>0) (fun b _=>h3 b) (fun b _=>by omega) 0 n b hb]
  by_cases hl:lg n=b
  .rw[dB ⟨by omega,hl⟩,dB hl];rfl
  .rw[dA (fun hh=>hl hh.2),dA hl];rfl
theorem xCc{A0 B A2:AS}{c:Nat}(h0 : ∀r i,A0.w r i=0)(hB : ∀r i,B.w r i=(A0.lay 0 n).w r i)(ao:Fr [4,17] c B A2)(h4:A2.w 4 0=1)(hN : ∀m,1<=m->m<=nodesN n t->A2.w 17 (m-1)=if m=nodesN n t then 0 else((m+1:Nat):Int)):Empty n t A2:=by
 have hl:=xig A0 0 n
 obtain⟨k1,k2⟩:=xCb hf (A0:=A0) (h0 7) (h0 3)
 exact⟨fun q=>by rw[ao.w 7 (by simp),hB];exact k1 q,fun b hb=>by rw[ao.w 3 (by simp),hB];exact k2 b hb,h4,hN,fun r h1 h2 h3 h5 i=>by rw[ao.w r (by simp;omega),hB,hl.w r (by simp;omega),h0]⟩
end
end
section
open Go Go.RowKit Lx
theorem xxq(a b:Nat)(h:a<9223372036854775808)(h2:b<9223372036854775808):bits .and .i64 (a:Int) (b:Int)=((a &&& b:Nat):Int):=by
 have hl:a &&& b<=a:=Nat.and_le_left
 simp only[bits]
 rw[show i64.bits=64 from rfl,BitVec.ofInt_natCast,BitVec.ofInt_natCast,BitVec.toNat_and,BitVec.toNat_ofNat,BitVec.toNat_ofNat,Nat.mod_eq_of_lt (by omega),Nat.mod_eq_of_lt (by omega),wN _ (by omega)]
theorem xCd{a:Int}(h:powA a=true)(h2:a<9223372036854775808) : ∃k:Nat,a=((2 ^ k:Nat):Int):=by
 unfold powA at h
 simp only[dK,dT,beq_iff_eq]at h
 obtain⟨h0,h1⟩:=h
 obtain⟨m,rfl⟩ : ∃m:Nat,a=(m:Int):=⟨a.toNat,by omega⟩
 have e:i64.wrap ((m:Int)-1)=((m-1:Nat):Int):=by rw[IntKind.wrap_i64];omega
 rw[e,xxq m (m-1) (by omega) (by omega)]at h1
 obtain⟨k,hk⟩:=(Nat.and_sub_one_eq_zero_iff_isPowerOfTwo (show m≠0 by omega)).1 (by omega)
 exact⟨k,by rw[hk]⟩
theorem xbB{k m:Nat}(h:2 ^ k<=2 ^ m):2 ^ k ∣ 2 ^ m:=Nat.pow_dvd_pow 2 ((Nat.pow_le_pow_iff_right (by omega)).1 h)
theorem xCe{n t:Nat}{A:AS}{held:Nat->Option HK}{s a:Int}{g:Nat}{x:HK}(hi:HInv n t A held)(hg:held g=some x)(hs:1<=s)(hr:GotRoom n s a g x)(hp:powA a=true)(ha:a<9223372036854775808):((8*g:Nat):Int)%a=0:=by
 obtain⟨k,rfl⟩:=xCd hp ha
 have key:2 ^ k ∣ 8*g:=by
  obtain⟨_,S,mp,vr,rem,bag,pl,h⟩:=hi
  have ir:=h.geo hg
  unfold GotRoom at hr
  cases hc:clsN s ((2 ^ k:Nat):Int) with
  | some c=>
   rw[hc]at hr
   simp only at hr
   subst hr
   obtain⟨ss,p,j,_,_,rfl⟩:=ir
   unfold clsN at hc
   split at hc
   .rename_i hh;cases hc
    exact Nat.dvd_trans (xbB (m:=3) (by omega)) (by omega)
   .split at hc
    .rename_i hh;cases hc
     exact Nat.dvd_trans (xbB (m:=4) (by omega)) (by omega)
    .split at hc
     .rename_i hh;cases hc
      exact Nat.dvd_trans (xbB (m:=3) (by omega)) (by omega)
     .split at hc
      .rename_i hh;cases hc
       exact Nat.dvd_trans (xbB (m:=5) (by omega)) (by omega)
      .cases hc
  | none=>
   rw[hc]at hr
   simp only at hr
   obtain⟨_,u,rfl,hu,_⟩:=hr
   by_cases Nm:2 ^ k<=2 ^ 6
   .exact Nat.dvd_trans (xbB Nm) (by omega)
   .have hk:6<=k:=by
     by_cases an:6<=k
     .exact an
     .exact absurd (Nat.pow_le_pow_right (n:=2) (by omega) (show k<=6 by omega)) Nm
    obtain⟨m,rfl⟩ : ∃m,k=6+m:=⟨k-6,by omega⟩
    have e2:2 ^ (6+m)=64*2 ^ m:=by rw[Nat.pow_add]
    have hm:1<=2 ^ m:=Nat.one_le_two_pow
    have ea:alN ((2 ^ (6+m):Nat):Int)=2 ^ m:=by
     unfold alN
     rw[e2,dA (by omega)];omega
    rw[ea]at hu
    obtain⟨q,hq⟩:=Nat.dvd_of_mod_eq_zero hu
    exact⟨q,by rw[hq,e2];simp only[Nat.mul_assoc];rw[<- Nat.mul_assoc 8 8]⟩
 have:=Nat.mod_eq_zero_of_dvd key
 rw[<- Int.natCast_emod,this];rfl
theorem kh{n:Nat}{s a:Int}{g:Nat}{x:HK}(hs:1<=s)(hr:GotRoom n s a g x):s<=((8*x.ext:Nat):Int):=by
 unfold GotRoom at hr
 cases hc:clsN s a with
 | some c=>
  rw[hc]at hr
  simp only at hr
  subst hr
  unfold clsN at hc
  simp only[HK.ext]
  repeat' split at hc
  all_goals first|(cases hc;omega)|cases hc
 | none=>
  rw[hc]at hr
  simp only at hr
  obtain⟨rfl,_⟩:=hr
  simp only[HK.ext,jW];omega
end
end Go.Proofs.YtcicjcggclhbfaaGreat
