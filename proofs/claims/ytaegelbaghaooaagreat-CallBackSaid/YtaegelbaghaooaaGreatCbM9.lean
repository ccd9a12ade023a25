/- Part. -/
import Derived.Test.YtaegelbaghaooaaGreatCbM8
import Derived.Test.YtaegelbaghaooaaGreatCbM19
set_option linter.all false
open Go.IntKind (i64 u64 u32 u8)
namespace Go.Proofs.YtaegelbaghaooaaGreat
section
open Go Go.RowKit Lx
def srcR:List Nat :=[0,1,3,7,8,9,12,14,18]
section
variable{n t:Nat}(hf:Small n t){A:AS}{held:Nat->Option HK}{S:List Sg}{mp vr:Nat->Nat}{rem bag:Nat->List Nat}{pl:List Nat}
include hf
theorem xbT{me o:Nat}(ho:o<=100000)(hme:me<t)(hself:A.self=(me:Int))(h0:A.w 0 0=0)(h:HI n t A held S mp vr rem bag pl):Rn n t (ZQ (xb n t) (o:Int)) A fun r A'=>
  ∃ (S':List Sg) (mp' vr':Nat->Nat) (rem':Nat->List Nat) (k:Nat),k<=20000/\r=(true,((o+k:Nat):Int))/\HI n t A' held S' mp' vr' rem' bag pl/\Bare n t A' S' mp' rem'/\A'.w 0 0=0/\A'.w 1 0=u64.wrap (A.w 1 0+(k:Int))/\Fr srcR 60000000000 A A':=by
 unfold ZQ xdu
 refine Rn.bind (xsr hf (by omega) hself h) ?_
 rintro r A1 ⟨mp1,k1,hk1,rfl,h1,hz1,he1,hfr1⟩
 refine Rn.bind (xxL hf (A:=A1) (o:=o+k1) (by omega) hme (by rw[hfr1.self,hself]) h1) ?_
 rintro r A2 ⟨mp2,k2,hk2,rfl,h2,hz2,he2,hfr2⟩
 refine Rn.bind (xpa hf (A:=A2) (o:=o+k1+k2) (me:=me) (by omega) (by rw[hfr2.self,hfr1.self,hself]) h2) ?_
 rintro r A3 ⟨mp3,rem3,k3,hk3,rfl,h3,hz3,he3,hfr3⟩
 have hs3:A3.self=(me:Int):=by rw[hfr3.self,hfr2.self,hfr1.self,hself]
 refine Rn.run (xdG hf (A:=A3) hme hs3 (by rw[hfr3.w 0 (by simp),hfr2.w 0 (by simp),hfr1.w 0 (by simp),h0])) (Rn.no rfl ?_)
 have hfr4:Fr [0] 1 A3 (A3.set 0 0 ((me+1:Nat):Int)).tick:=Fr.sett A3 _ (by simp)
 have hl4:(A3.set 0 0 ((me+1:Nat):Int)).tick.w 0 0=((me+1:Nat):Int):=by simp
 generalize(A3.set 0 0 ((me+1:Nat):Int)).tick=A4 at *
 have h4:=h3.fr hfr4 (by simp)
 refine Rn.bind (xam hf h4.laid h4.nodf) ?_
 rintro r A5 ⟨rfl,hfr5⟩
 refine Rn.run (xgk hf) ?_
 refine Rn.bind (xpg hf (A:=A5) (o:=o+k1+k2+k3) (by omega) (h4.fr hfr5 (by simp))) ?_
 rintro r A6 ⟨S6,vr6,k6,hk6,rfl,h6,hz6,he6,hfr6⟩
 refine Rn.run (qj hf (A:=A6) hme (by rw[hfr6.self,hfr5.self,hfr4.self,hs3]) (by rw[hfr6.w 0 (by simp),hfr5.w 0 (by simp),hl4])) (Rn.ret ⟨S6,mp3,vr6,rem3,k1+k2+k3+k6,by omega,by simp only[Nat.add_assoc],h6.same fun r i hr =>?_,⟨fun q hq =>?_,fun q hq =>?_,hz3,hz6⟩,by simp,?_,?_⟩)
 ·simp only[AS.tick_w,AS.set_w];rw[if_neg (by omega)]
 ·simp only[AS.tick_w,AS.set_w]
  rw[if_neg (by omega),hfr6.w 12 (by simp),hfr5.w 12 (by simp),hfr4.w 12 (by simp),hfr3.w 12 (by simp),hfr2.w 12 (by simp)]
  exact hz1 q hq
 ·simp only[AS.tick_w,AS.set_w]
  rw[if_neg (by omega),hfr6.w 18 (by simp),hfr5.w 18 (by simp),hfr4.w 18 (by simp),hfr3.w 18 (by simp)]
  have:=hz2 (q / 8+1) (q%8) (by omega) (by omega) (by omega)
  rwa [show(q / 8+1-1)*8+q%8=q by omega]at this
 ·simp only[AS.tick_w,AS.set_w]
  rw[if_neg (by omega),he6,hfr5.w 1 (by simp),hfr4.w 1 (by simp),he3,he2,he1,IntKind.wrap_u64,IntKind.wrap_u64,IntKind.wrap_u64,IntKind.wrap_u64,IntKind.wrap_u64];omega
 ·unfold srcR
  exact((((((hfr1.trans hfr2 (S :=[1,8,12,14,18]) (e:=50000020000)).trans hfr3 (S :=[1,8,9,12,14,18]) (e:=50000040000)).trans hfr4 (S :=[0,1,8,9,12,14,18]) (e:=50000040001)).trans hfr5 (S :=[0,1,8,9,12,14,18]) (e:=50000040301)).trans hfr6 (S :=[0,1,3,7,8,9,12,14,18]) (e:=50000080301)).trans (Fr.sett (R :=[0]) A6 _ (by simp)))
def Found(n t:Nat)(held:Nat->Option HK)(bag:Nat->List Nat)(pl:List Nat)(c:Nat)(f:Fnd)(A':AS):Prop:=
 ∃ (g:Nat) (S':List Sg) (mp' vr':Nat->Nat) (rem':Nat->List Nat),f.ok=true/\f.e=0/\f.grain=(g:Int)/\held g=none/\HI n t A' (upd held g (some (.blk c))) S' mp' vr' rem' bag pl
theorem xsw{me o c:Nat}(ho:o<=100000)(hc:c<4)(hme:me<t)(hself:A.self=(me:Int))(h0:A.w 0 0=0)(h:HI n t A held S mp vr rem bag pl):Rn n t (Yq (xb n t) (o:Int) (c:Int)) A fun r A'=>
  ∃k:Nat,k<=3000/\r.2=((o+k:Nat):Int)/\A'.w 0 0=0/\A'.w 1 0=u64.wrap (A.w 1 0+(k:Int))/\Fr srcR 10000000 A A'/\
   (Found n t held bag pl c r.1 A'\/(r.1.ok=false/\r.1.e=0/\ ∃ (S':List Sg) (mp' vr':Nat->Nat) (rem':Nat->List Nat),HI n t A' held S' mp' vr' rem' bag pl)):=by
 have hn:=hf.n2
 have e0 : ∀B:AS,B.w 1 0=A.w 1 0->B.w 1 0=u64.wrap (A.w 1 0+((0:Nat):Int)):=fun B hB=>by have:=h.ep;rw[hB,IntKind.wrap_u64];omega
 unfold Yq KD
 refine Rn.bind (xso hf.toFew h hself hme hc (o:Int) (by omega) h.laid.len) ?_
 rintro r A1 (⟨g,rfl,k1,k2,k3,k4⟩|⟨q1,q2,q3,hfr1⟩)
 ·exact Rn.yes rfl (Rn.ret ⟨0,by omega,rfl,by rw[k4.w 0 (by simp),h0],e0 _ (k4.w 1 (by simp) 0),k4.mono (by unfold srcR;simp) (by omega),.inl ⟨g,S,mp,vr,rem,rfl,rfl,rfl,k1,k3⟩⟩)
 refine Rn.no q1 (Rn.no (by rw[q2];rfl) ?_)
 rw[q3]
 have h1:=h.fr hfr1 (by simp)
 have hs1:A1.self=(me:Int):=by rw[hfr1.self,hself]
 unfold KA Kz
 rw[T.bind_assoc]
 refine Rn.bind (xiB hf h1 hc hme hs1) ?_
 rintro r A2 (⟨g,rfl,k1,k2,k3,k4,_⟩|⟨rfl,hfr2,_⟩)
 ·have hg:i64.wrap (i64.wrap ((g+1:Nat):Int)-1)=(g:Int):=xal (by have:=(xbR hf h1 k2).1;omega)
  have hfr12:=hfr1.trans k4 (S:=srcR) (e:=5000002) (by simp) (by unfold srcR;simp) (by omega)
  simp only[T.bind,hg]
  refine Rn.yes rfl (Rn.ret ⟨0,by omega,rfl,by rw[k4.w 0 (by simp),hfr1.w 0 (by simp),h0],e0 _ (by rw[k4.w 1 (by simp),hfr1.w 1 (by simp)]),hfr12.mono,.inl ⟨g,S,mp,vr,rem,rfl,rfl,rfl,k1,k3⟩⟩)
 simp only[T.bind]
 refine Rn.no rfl (Rn.no rfl ?_)
 have h2:=h1.fr hfr2 (by simp)
 have hs2:A2.self=(me:Int):=by rw[hfr2.self,hs1]
 have hfr12:=hfr1.trans hfr2 (S:=srcR) (e:=5000002) (by simp) (by unfold srcR;simp) (by omega)
 have he2:A2.w 1 0=A.w 1 0:=by rw[hfr2.w 1 (by simp),hfr1.w 1 (by simp)]
 have hl2:A2.w 0 0=0:=by rw[hfr2.w 0 (by simp),hfr1.w 0 (by simp),h0]
 refine Rn.bind (xsv hf (A:=A2) (o:=o) (c:=c) (by omega) hc hs2 h2) ?_
 rintro ⟨f,o3⟩ A3 ⟨mp3,rem3,k3,hk3,rfl,he,he3,hfr3,hres⟩
 simp only at he hres |-
 have hfr13:=hfr12.trans hfr3 (S:=srcR) (e:=5020002) (by simp) (by unfold srcR;simp) (by omega)
 rw[he2]at he3
 have hl3:A3.w 0 0=0:=by rw[hfr3.w 0 (by simp),hl2]
 rcases hres with⟨g,r1,r2,r3,r4,r5⟩|⟨r1,h3⟩
 ·exact Rn.yes r1 (Rn.ret ⟨k3,by omega,rfl,hl3,he3,hfr13.mono,.inl ⟨g,S,mp3,vr,rem3,r1,he,r2,r3,r5⟩⟩)
 refine Rn.no r1 (Rn.no (by rw[he];rfl) ?_)
 have hs3:A3.self=(me:Int):=by rw[hfr3.self,hs2]
 refine Rn.bind (xiG hf (A:=A3) (o:=o+k3) (c:=c) hc hs3 h3) ?_
 rintro ⟨f,o4⟩ A4 ⟨ho4,he4,hfr4,hres⟩
 simp only at ho4 he4 hres |-
 subst ho4
 have hfr14:=hfr13.trans hfr4 (S:=srcR) (e:=5040002) (by simp) (by unfold srcR;simp) (by omega)
 have hl4:A4.w 0 0=0:=by rw[hfr4.w 0 (by simp),hl3]
 have hep4:A4.w 1 0=u64.wrap (A.w 1 0+(k3:Int)):=by rw[hfr4.w 1 (by simp),he3]
 rcases hres with⟨g,mp4,r1,r2,r3,r4,r5⟩|⟨r1,hfr4',_⟩
 ·exact Rn.yes r1 (Rn.ret ⟨k3,by omega,rfl,hl4,hep4,hfr14.mono,.inl ⟨g,S,mp4,vr,rem3,r1,he4,r2,r3,r5⟩⟩)
 refine Rn.no r1 (Rn.no (by rw[he4];rfl) ?_)
 have hs4:A4.self=(me:Int):=by rw[hfr4.self,hs3]
 refine Rn.bind (xiM hf (A:=A4) (o:=o+k3) (c:=c) (by omega) hc hme hs4 hl4 (h3.fr hfr4' (by simp))) ?_
 rintro ⟨f,o5⟩ A5 ⟨he5,hl5,hres⟩
 simp only at he5 hl5 hres |-
 rcases hres with⟨g,S5,mp5,vr5,r1,r2,r3,r4,r5,r6,hfr5⟩|⟨r1,r2,hfr5,_⟩
 ·subst r3
  refine Rn.yes r1 (Rn.ret ⟨k3+1,by omega,rfl,hl5,?_,hfr14.trans hfr5 (by simp) (by unfold srcR;simp) (by omega),.inl ⟨g,S5,mp5,vr5,rem3,r1,he5,r2,r4,r5⟩⟩)
  rw[r6,hep4,IntKind.wrap_u64,IntKind.wrap_u64,IntKind.wrap_u64];omega
 ·subst r2
  refine Rn.no r1 (Rn.no (by rw[he5];rfl) (Rn.ret ⟨k3,by omega,rfl,hl5,by rw[hfr5.w 1 (by simp),hep4],hfr14.trans hfr5 (by simp) (by unfold srcR;simp) (by omega),.inr ⟨rfl,rfl,S,mp3,vr,rem3,?_⟩⟩))
  exact(h3.fr hfr4' (by simp)).fr hfr5 (by simp)
theorem xph{me o c:Nat}(ho:o<=1000000)(hc:c<4)(hme:me<t)(hself:A.self=(me:Int))(h0:A.w 0 0=0)(h:HI n t A held S mp vr rem bag pl):Rn n t (jY (xb n t) (o:Int) (c:Int)) A fun r A'=>
  ∃k:Nat,k<=1/\r.2=((o+k:Nat):Int)/\A'.w 0 0=0/\A'.w 1 0=u64.wrap (A.w 1 0+(k:Int))/\Fr srcR 1000000 A A'/\
   (Found n t held bag pl c r.1 A'\/(r.1.ok=false/\r.1.e=0/\Fr [0] 1000000 A A'/\wJ 1 1 0 S/\ ∀p ow,slabAt S p=some (c,ow)->mp p=0)):=by
 have e0 : ∀B:AS,B.w 1 0=A.w 1 0->B.w 1 0=u64.wrap (A.w 1 0+((0:Nat):Int)):=fun B hB=>by have:=h.ep;rw[hB,IntKind.wrap_u64];omega
 unfold jY Yr
 refine Rn.bind (xiG hf (o:=o) (c:=c) hc hself h) ?_
 rintro ⟨f,o4⟩ A4 ⟨ho4,he4,hfr4,hres⟩
 simp only at ho4 he4 hres |-
 subst ho4
 have hl4:A4.w 0 0=0:=by rw[hfr4.w 0 (by simp),h0]
 have hep4:=hfr4.w 1 (by simp) 0
 rcases hres with⟨g,mp4,r1,r2,r3,r4,r5⟩|⟨r1,hfr4',hz⟩
 ·exact Rn.yes r1 (Rn.ret ⟨0,by omega,rfl,hl4,e0 _ hep4,hfr4.mono (by unfold srcR;simp) (by omega),.inl ⟨g,S,mp4,vr,rem,r1,he4,r2,r3,r5⟩⟩)
 refine Rn.no r1 (Rn.no (by rw[he4];rfl) ?_)
 have hs4:A4.self=(me:Int):=by rw[hfr4.self,hself]
 refine Rn.bind (xiM hf (A:=A4) (o:=o) (c:=c) (by omega) hc hme hs4 hl4 (h.fr hfr4' (by simp))) ?_
 rintro ⟨f,o5⟩ A5 ⟨he5,hl5,hres⟩
 simp only at he5 hl5 hres |-
 rcases hres with⟨g,S5,mp5,vr5,r1,r2,r3,r4,r5,r6,hfr5⟩|⟨r1,r2,hfr5,hno⟩
 ·subst r3
  exact Rn.yes r1 (Rn.ret ⟨1,by omega,rfl,hl5,by rw[r6,hep4];rfl,hfr4.trans hfr5 (by unfold srcR;simp) (by unfold srcR;simp) (by omega),.inl ⟨g,S5,mp5,vr5,rem,r1,he5,r2,r4,r5⟩⟩)
 ·subst r2
  exact Rn.no r1 (Rn.no (by rw[he5];rfl) (Rn.ret ⟨0,by omega,rfl,hl5,e0 _ (by rw[hfr5.w 1 (by simp),hep4]),hfr4.trans hfr5 (by unfold srcR;simp) (by unfold srcR;simp) (by omega),.inr ⟨rfl,rfl,hfr4'.trans hfr5,hno,hz⟩⟩))
theorem ql{me:Nat}(hme:me<t)(hself:A.self=(me:Int)):(jC (xb n t)).run (xl n t) A=some (false,A):=by
 unfold jC xcT
 simp only[T.run,xl,hself,at15 hf.toFew hme]
 rw[show(((Br n t 15+me:Nat):Int) == -1)=false from beq_eq_false_iff_ne.2 (by omega)]
def NoBlk(n:Nat)(held:Nat->Option HK)(c:Nat):Prop :=∀p,p<n->(∃q k,held (8*q)=some (.run k)/\q<=p/\p<q+k)\/ ∃d j,d<4/\j<blc d/\held (8*p+j*(d+1))=some (.blk d)/\(d=c ->∀i,i<blc c->held (8*p+i*(c+1))=some (.blk c))
theorem xsx{me c:Nat}(hc:c<4)(hme:me<t)(hself:A.self=(me:Int))(h0:A.w 0 0=0)(h:HI n t A held S mp vr rem bag pl):Rn n t (qM (xb n t) (c:Int)) A fun r A'=>
  A'.w 0 0=0/\Fr srcR 70000000000 A A'/\(∃k:Nat,k<=30000/\A'.w 1 0=u64.wrap (A.w 1 0+(k:Int)))/\((∃ (g:Nat) (S':List Sg) (mp' vr':Nat->Nat) (rem':Nat->List Nat),r=((g:Int),0)/\held g=none/\HI n t A' (upd held g (some (.blk c))) S' mp' vr' rem' bag pl)\/
   (r=(0,15)/\NoBlk n held c/\ ∃ (S':List Sg) (mp' vr':Nat->Nat) (rem':Nat->List Nat),HI n t A' held S' mp' vr' rem' bag pl)):=by
 unfold qM KF
 refine Rn.run (ql hf hme hself) (Rn.no rfl (Rn.no (by rw[dF];omega) (Rn.no (by rw[dF];omega) ?_)))
 refine Rn.load (at1 hf.toFew) (by omega) (by simp[Zr]) ?_
 refine Rn.bind (xsw hf (A:=A.tick) (o:=0) (c:=c) (by omega) hc hme hself h0 (h.same fun r i _=>rfl)) ?_
 rintro ⟨f,o1⟩ A1 ⟨k1,hk1,ho1,hl1,he1,hfr1,hres⟩
 simp only at ho1 hres |-
 rw[Nat.zero_add]at ho1
 subst ho1
 rw[AS.tick_w]at he1
 have hfr1':=(Fr.tick [] A).trans hfr1 (S:=srcR) (e:=10000001)
 rcases hres with⟨g,S1,mp1,vr1,rem1,q1,q2,q3,q4,q5⟩|⟨q1,q2,S1,mp1,vr1,rem1,h1⟩
 ·refine Rn.no (by rw[q1];rfl) (Rn.no (by rw[q2];rfl) (Rn.yes q1 (Rn.ret ⟨hl1,hfr1'.mono,⟨k1,by omega,he1⟩,.inl ⟨g,S1,mp1,vr1,rem1,by rw[q3],q4,q5⟩⟩)))
 ·refine Rn.yes (by rw[q1];rfl) (Rn.yes (by rw[q2];rfl) ?_)
  have hs1:A1.self=(me:Int):=by rw[hfr1'.self,hself]
  refine Rn.bind (xbT hf (A:=A1) (o:=k1) (by omega) hme hs1 hl1 h1) ?_
  rintro r A2 ⟨S2,mp2,vr2,rem2,k2,hk2,rfl,h2,hB,hl2,he2,hfr2⟩
  refine Rn.no rfl ?_
  refine Rn.bind (xph hf (A:=A2) (o:=k1+k2) (c:=c) (by omega) hc hme (by rw[hfr2.self,hs1]) hl2 h2) ?_
  rintro ⟨f,o3⟩ A3 ⟨k3,hk3,ho3,hl3,he3,hfr3,hres⟩
  simp only at ho3 hres |-
  subst ho3
  have hfr13:=((hfr1'.trans hfr2 (S:=srcR) (e:=60010000001)).trans hfr3 (S:=srcR) (e:=60011000001))
  have hep:A3.w 1 0=u64.wrap (A.w 1 0+((k1+k2+k3:Nat):Int)):=by
   rw[he3,he2,he1,IntKind.wrap_u64,IntKind.wrap_u64,IntKind.wrap_u64,IntKind.wrap_u64];omega
  rcases hres with⟨g,S3,mp3,vr3,rem3,q1,q2,q3,q4,q5⟩|⟨q1,q2,hfr3',hno,hz⟩
  ·exact Rn.no (by rw[q2];rfl) (Rn.yes q1 (Rn.ret ⟨hl3,hfr13.mono,⟨_,by omega,hep⟩,.inl ⟨g,S3,mp3,vr3,rem3,by rw[q3],q4,q5⟩⟩))
  ·refine Rn.no (by rw[q2];rfl) (Rn.no q1 ?_)
   refine Rn.load (at1 hf.toFew) (by omega) (by simp[Zr]) ?_
   refine Rn.yes ?_ (Rn.ret ⟨hl3,hfr13.trans (Fr.tick [] A3),⟨_,by omega,hep⟩,.inr ⟨rfl,fun p hp=>h2.noBlk hB hno hz hp,S2,mp2,vr2,rem2,(h2.fr hfr3' (by simp)).same fun r i _=>rfl⟩⟩)
   rw[beq_iff_eq,hep]
theorem xgl{k a:Nat}(hk:n<k)(ha:1<=a):(wT (xb n t) (k:Int) (a:Int)).run (xl n t) A=some ((0,false),A):=by
 unfold wT ZE
 rw[decide_eq_false (show ¬ ((k:Int)<1)by omega),decide_eq_false (show ¬ ((a:Int)<1)by omega),decide_eq_true (show(k:Int)>(xb n t).pages by show(k:Int)>((n:Nat):Int);omega)]
 rfl
def NoRun(n:Nat)(held:Nat->Option HK)(k a:Nat):Prop :=∀u,u%a=0->u+k<=n ->∃p,u<=p/\p<u+k/\Used held p
theorem xpi{me o k a:Nat}(hk:1<=k)(ha:1<=a)(ha2:a<9223372036854775808)(hme:me<t)(hself:A.self=(me:Int))(h0:A.w 0 0=0)(h:HI n t A held S mp vr rem bag pl):Rn n t (xe2 (xb n t) (o:Int) (k:Int) (a:Int)) A fun r A'=>
  r.2=(o:Int)/\r.1.e=0/\A'.w 0 0=0/\Fr [0,3,7] 3000 A A'/\((∃ (u:Nat) (S':List Sg),r.1.ok=true/\r.1.grain=((8*u:Nat):Int)/\u%a=0/\u+k<=n/\held (8*u)=none/\HI n t A' (upd held (8*u) (some (.run k))) S' mp vr rem bag pl)\/
   (r.1.ok=false/\Fr [0] 3000 A A'/\(k<=n->wJ k (min a 256) 0 S))):=by
 have hn:=hf.n2
 unfold xe2 xkB
 refine Rn.run (xdG hf hme hself h0) (Rn.no rfl ?_)
 have hfr1:Fr [0] 1 A (A.set 0 0 ((me+1:Nat):Int)).tick:=Fr.sett A _ (by simp)
 have hl1:(A.set 0 0 ((me+1:Nat):Int)).tick.w 0 0=((me+1:Nat):Int):=by simp
 generalize(A.set 0 0 ((me+1:Nat):Int)).tick=A1 at *
 have h1:=h.fr hfr1 (by simp)
 refine Rn.bind (xam hf h1.laid h1.nodf) ?_
 rintro r A2 ⟨rfl,hfr2⟩
 refine Rn.run (xgk hf) ?_
 have h2:=h1.fr hfr2 (by simp)
 have hfr12:=hfr1.trans hfr2 (S :=[0]) (e:=301)
 have hl2:A2.w 0 0=((me+1:Nat):Int):=by rw[hfr2.w 0 (by simp),hl1]
 have hs2:A2.self=(me:Int):=by rw[hfr12.self,hself]
 have fail : ∀A3,Fr [] 300 A2 A3->(k<=n->wJ k (min a 256) 0 S)->Rn n t ((ZC (xb n t)).bind fun r5=>(T.ret (⟨i64.wrap (0*8),false,0⟩,(o:Int)):T (Fnd×Int))) A3 fun r A'=>
   r.2=(o:Int)/\r.1.e=0/\A'.w 0 0=0/\Fr [0,3,7] 3000 A A'/\((∃ (u:Nat) (S':List Sg),r.1.ok=true/\r.1.grain=((8*u:Nat):Int)/\u%a=0/\u+k<=n/\held (8*u)=none/\HI n t A' (upd held (8*u) (some (.run k))) S' mp vr rem bag pl)\/
    (r.1.ok=false/\Fr [0] 3000 A A'/\(k<=n->wJ k (min a 256) 0 S))):=by
  intro A3 hfr3 hno
  have hF:Fr [0] 3000 A (A3.set 0 0 0).tick:=(hfr12.trans hfr3 (S :=[0]) (e:=601)).trans (Fr.sett (R :=[0]) A3 _ (by simp))
  exact Rn.run (qj hf (A:=A3) hme (by rw[hfr3.self,hs2]) (by rw[hfr3.w 0 (by simp),hl2])) (Rn.ret ⟨rfl,rfl,by simp,hF.mono,.inr ⟨rfl,hF,hno⟩⟩)
 by_cases hkn:n<k
 ·exact Rn.run (xgl hf hkn ha) (fail A2 ((Fr.refl [] A2).mono) (fun hh=>by omega))
 ·refine Rn.bind (xgc hf.toFew h2.laid hk (by omega) ha ha2) ?_
  rintro r A3 (⟨rfl,hfr3,hno⟩|⟨L,s,R,rfl,hfit,rfl,hfr3,hl3⟩)
  ·exact fail A3 hfr3 fun _=>hno
  ·obtain⟨hsf,hup⟩:=hfit
   have hge:=xtB (plen L) (min a 256) (by omega)
   have hmod:=up_mod (plen L) (min a 256)
   generalize up (plen L) (min a 256)=u at *
   have hlen:=h.laid.len
   rw[xp,xJ]at hlen
   refine Rn.run (qj hf (A:=A3) hme (by rw[hfr3.self,hs2]) (by rw[hfr3.w 0 (by simp),hl2])) ?_
   obtain⟨k1,k2⟩:=h2.span hsf hk hge hup (A':=A3) hl3 (fun r i hr=>hfr3.w r (by simp;omega) i)
   have e:i64.wrap ((u:Int)*8)=((8*u:Nat):Int):=by rw[show(u:Int)*8=((8*u:Nat):Int)by omega,wN _ (by omega)]
   refine Rn.ret ⟨rfl,rfl,by simp,(hfr12.trans hfr3 (S :=[0,3,7]) (e:=1301)).trans (Fr.sett (R :=[0]) A3 _ (by simp)),.inl ⟨u,_,rfl,e,?_,by omega,k1,k2.same fun r i hr =>?_⟩⟩
   ·by_cases ha3:a<=256
    ·rwa [Nat.min_eq_left ha3]at hmod
    ·rw[Nat.min_eq_right (by omega)]at hmod
     have:u=0:=by omega
     rw[this];exact Nat.zero_mod _
   ·simp only[AS.tick_w,AS.set_w];rw[if_neg (by omega)]
theorem xvT{me k a:Nat}(hk:1<=k)(ha:1<=a)(ha2:a<9223372036854775808)(hme:me<t)(hself:A.self=(me:Int))(h0:A.w 0 0=0)(h:HI n t A held S mp vr rem bag pl):Rn n t (WS (xb n t) (k:Int) (a:Int)) A fun r A'=>
  A'.w 0 0=0/\Fr srcR 70000000000 A A'/\(∃m:Nat,m<=30000/\A'.w 1 0=u64.wrap (A.w 1 0+(m:Int)))/\((∃ (u:Nat) (S':List Sg) (mp' vr':Nat->Nat) (rem':Nat->List Nat),r=(((8*u:Nat):Int),0)/\u%a=0/\u+k<=n/\held (8*u)=none/\HI n t A' (upd held (8*u) (some (.run k))) S' mp' vr' rem' bag pl)\/
   (r=(0,15)/\NoRun n held k a/\ ∃ (S':List Sg) (mp' vr':Nat->Nat) (rem':Nat->List Nat),HI n t A' held S' mp' vr' rem' bag pl)):=by
 have hn:=hf.n2
 have e0 : ∀B:AS,B.w 1 0=A.w 1 0->B.w 1 0=u64.wrap (A.w 1 0+((0:Nat):Int)):=fun B hB=>by have:=h.ep;rw[hB,IntKind.wrap_u64];omega
 unfold WS xdw
 refine Rn.run (ql hf hme hself) (Rn.no rfl (Rn.no (by rw[dF];omega) (Rn.no (by rw[dF];omega) ?_)))
 refine Rn.load (at1 hf.toFew) (by omega) (by simp[Zr]) ?_
 refine Rn.bind (xpi hf (A:=A.tick) (o:=0) hk ha ha2 hme hself h0 (h.same fun r i _=>rfl)) ?_
 rintro ⟨f,o1⟩ A1 ⟨ho1,hE1,hl1,hfr1,hres⟩
 simp only at ho1 hE1 hres |-
 subst ho1
 have hfr1':=(Fr.tick [] A).trans hfr1 (S:=srcR) (e:=3001) (by simp) (by unfold srcR;simp) (by omega)
 have he1:A1.w 1 0=A.w 1 0:=by rw[hfr1.w 1 (by simp)];rfl
 rcases hres with⟨u,S1,q1,q2,q3,q4,q5,q6⟩|⟨q1,hfr1s,_⟩
 ·refine Rn.no (by rw[q1];rfl) (Rn.no (by rw[hE1];rfl) (Rn.yes q1 (Rn.ret ⟨hl1,hfr1'.mono,⟨0,by omega,e0 _ he1⟩,.inl ⟨u,S1,mp,vr,rem,by rw[q2],q3,q4,q5,q6⟩⟩)))
 ·refine Rn.yes (by rw[q1];rfl) (Rn.yes (by rw[hE1];rfl) ?_)
  have hs1:A1.self=(me:Int):=by rw[hfr1'.self,hself]
  have h1:HI n t A1 held S mp vr rem bag pl:=(h.same (A':=A.tick) fun r i _=>rfl).fr hfr1s (by simp)
  refine Rn.bind (xbT hf (A:=A1) (o:=0) (by omega) hme hs1 hl1 h1) ?_
  rintro r A2 ⟨S2,mp2,vr2,rem2,k2,hk2,rfl,h2,hB,hl2,he2,hfr2⟩
  rw[Nat.zero_add]
  refine Rn.no rfl ?_
  refine Rn.bind (xpi hf (A:=A2) (o:=k2) hk ha ha2 hme (by rw[hfr2.self,hs1]) hl2 h2) ?_
  rintro ⟨f,o3⟩ A3 ⟨ho3,hE3,hl3,hfr3,hres⟩
  simp only at ho3 hE3 hres |-
  subst ho3
  have hfr13:=((hfr1'.trans hfr2 (S:=srcR) (e:=60000003001)).trans hfr3 (S:=srcR) (e:=60000006001) (by simp) (by unfold srcR;simp) (by omega))
  have hep:A3.w 1 0=u64.wrap (A.w 1 0+(k2:Int)):=by rw[hfr3.w 1 (by simp),he2,he1]
  rcases hres with⟨u,S3,q1,q2,q3,q4,q5,q6⟩|⟨q1,hfr3s,hno⟩
  ·exact Rn.no (by rw[hE3];rfl) (Rn.yes q1 (Rn.ret ⟨hl3,hfr13.mono,⟨_,by omega,hep⟩,.inl ⟨u,S3,mp2,vr2,rem2,by rw[q2],q3,q4,q5,q6⟩⟩))
  ·refine Rn.no (by rw[hE3];rfl) (Rn.no q1 ?_)
   refine Rn.load (at1 hf.toFew) (by omega) (by simp[Zr]) ?_
   refine Rn.yes ?_ (Rn.ret ⟨hl3,hfr13.trans (Fr.tick [] A3),⟨_,by omega,hep⟩,.inr ⟨rfl,fun u hu hu2=>h2.noRun hB hn hk ha (hno (by omega)) hu hu2,S2,mp2,vr2,rem2,(h2.fr hfr3s (by simp)).same fun r i _=>rfl⟩⟩)
   rw[beq_iff_eq,hep]
end
end
section
open Go Go.RowKit Lx
def relR:List Nat :=[0,1,3,4,5,7,8,9,10,12,13,17,18]
theorem xvU{L R:List Sg}{s x:Sg}(h:Norm (L++s::R))(h1:s.kd ≠ .free)(h2:x.kd ≠ .free):Norm (L++x::R):=by
 obtain⟨k1,k2,k3⟩:=(xI _ _).1 h
 exact(xI _ _).2 ⟨k1,⟨fun hh=>absurd hh h2,k2.2⟩,fun _=>by simp[firstFree,h2]⟩
section
variable{n t:Nat}(hf:Small n t){A:AS}{held:Nat->Option HK}{S:List Sg}{mp vr:Nat->Nat}{rem bag:Nat->List Nat}{pl:List Nat}
include hf
theorem xlF{L R:List Sg}{k:Nat}(h:Laid n A (L++(⟨k,.dfr⟩::R)))(hN:Norm (L++(⟨k,.dfr⟩::R)))(hd : ∀s∈L++R,s.kd ≠ .dfr):Rn n t (vn (xb n t)) A fun r A'=>
  r=1/\Fr [7,3] 700 A A'/\ ∃L0 b a R0,L=L0++frs b/\R=frs a++R0/\xV L0=false/\firstFree R0=false/\Laid n A' (L0++(⟨b+k+a,.free⟩::R0)):=by
 have hn:=hf.n2
 have hlen:=h.len
 rw[xp,xJ]at hlen
 simp only at hlen
 have hk:=(h.ok ⟨k,.dfr⟩ (by simp)).1
 simp only at hk
 unfold vn jQ yM
 refine jI hf (a0:=0) (plen L) xa 0 0 A (L:=L) (M:=⟨k,.dfr⟩::R) h (fun s hs=>hd s (by simp[hs])) (by omega) (by unfold xa;omega) fun N' A1 hN' hfr1 =>?_
 obtain⟨N1,rfl⟩ : ∃N1,N'=N1+1:=⟨N'-1,by unfold xa at hN';omega⟩
 have h1:Laid n A1 (L++(⟨k,.dfr⟩::R)):=h.fr hfr1 (by simp) (by simp)
 obtain⟨hw,hlt⟩:=h1.at_
 rw[Vk]
 unfold yL
 simp only at hw hlt |-
 refine Rn.yes (by rw[dT];show((plen L:Nat):Int)<((n:Nat):Int);omega) ?_
 refine Rn.run (YJ hf.toFew (p:=plen L) hlt) ?_
 rw[hw,show(Kd.dfr).head k=pw 5 k 0 0 from rfl,yW 5 k 0 0 (by omega) (by omega) (by omega) (by omega)]
 refine Rn.yes rfl ?_
 have hrf:=xiy hf.toFew (A:=A1.tick) (h1.of (fun _=>rfl) (fun _=>rfl)) hN (by simp)
 refine Rn.bind hrf ?_
 rintro r A2 ⟨rfl,hfr2,L0,b,a,R0,rfl,rfl,hl0,hr0,hl2⟩
 refine Rn.yes rfl ?_
 have hlong:vM ⟨((5:Nat):Int),(k:Int),((0:Nat):Int),((0:Nat):Int)⟩ = .ret (k:Int):=by
  unfold vM xax
  simp only
  rw[if_neg (show ¬ (k:Int)<1 by omega)]
  rfl
 rw[hlong]
 simp only[T.bind]
 rw[wrap_add hf.toFew (x:=plen (L0++frs b)) (y:=k) (by omega)]
 have hlen2:=hl2.len
 have hnd : ∀s∈L0++(⟨b+k+a,.free⟩::R0),s.kd ≠ .dfr:=fun s hs=>by
  simp only[List.mem_append,List.mem_cons]at hs
  rcases hs with hs|rfl|hs
  ·exact hd s (by simp[hs])
  ·simp
  ·exact hd s (by simp[hs])
 refine jI hf (a0:=0) (n-(plen (L0++frs b)+k)) N1 (plen (L0++frs b)+k) _ A2 (L:=L0++(⟨b+k+a,.free⟩::R0)) (M :=[]) (by simpa using hl2) hnd (by rw[hlen2];omega) (by unfold xa at hN';omega) fun N2 A3 hN2 hfr3 =>?_
 rw[hlen2]
 obtain⟨N3,rfl⟩ : ∃N3,N2=N3+1:=⟨N2-1,by unfold xa at hN';omega⟩
 refine xcx hf (Rn.ret ⟨rfl,?_,L0,b,a,R0,rfl,rfl,hl0,hr0,hl2.fr hfr3 (by simp) (by simp)⟩)
 exact((hfr1.trans (Fr.tick [] A1) (S :=[]) (e:=257)).trans hfr2 (S :=[7,3]) (e:=310)).trans hfr3
theorem wrap_k{x:Int}(a b:Nat):u64.wrap (u64.wrap (x+(a:Int))+(b:Int))=u64.wrap (x+((a+b:Nat):Int)):=by
 rw[IntKind.wrap_u64,IntKind.wrap_u64,IntKind.wrap_u64];omega
theorem xcy{me g:Nat}{x:HK}(hme:me<t)(hself:A.self=(me:Int))(hi:HInv n t A held)(hg:held g=some x):Rn n t (vP (xb n t) (g:Int)) A fun r A'=>
  HInv n t A' (upd held g none)/\Fr relR 100000 A A'/\ ∃k:Nat,k<=2/\A'.w 1 0=u64.wrap (A.w 1 0+(k:Int)):=by
 obtain⟨h0,S,mp,vr,rem,bag,pl,h⟩:=hi
 have hn:=hf.n2
 have ht2:=hf.t2
 unfold vP Yo
 refine Rn.run (ql hf hme hself) (Rn.no rfl ?_)
 have hgeo:=h.geo hg
 have hgn:g<n*8:=by
  cases x with
  | blk c=>
   obtain⟨_,p,j,h1,h2,h3⟩:=hgeo
   have:=xW h2;omega
  | run k=>
   obtain⟨h1,p,h2,h3⟩:=hgeo;omega
 refine Rn.no (by rw[at11 hf.toFew hgn];exact beq_eq_false_iff_ne.2 (by omega)) ?_
 refine Rn.run (Xp hf hgn) ?_
 have ed:i64.wrap (Int.tdiv (g:Int) 8)=((g / 8:Nat):Int):=by
  rw[Int.tdiv_eq_ediv_of_nonneg (by omega)]
  have:(g:Int) / 8=((g / 8:Nat):Int):=by omega
  rw[this,wN _ (by omega)]
 have hfin : ∀ (A1:AS) (S':List Sg) (mp' vr':Nat->Nat) (rem' bag':Nat->List Nat) (pl':List Nat),HI n t A1 (upd held g none) S' mp' vr' rem' bag' pl'->Fr [4,5,8,9,10,12,13,17,18] 90000 A A1->
   Rn n t ((yJ (xb n t) 0 1).bind fun r=>T.ret ()) A1 fun r A'=>HInv n t A' (upd held g none)/\Fr relR 100000 A A'/\ ∃k:Nat,k<=2/\A'.w 1 0=u64.wrap (A.w 1 0+(k:Int)):=by
  intro A1 S' mp' vr' rem' bag' pl' h1 hfr1
  refine Rn.run (ku hf (A:=A1) (o:=0) (k:=1) (by omega) (by omega)) (Rn.ret ⟨⟨?_,S',mp',vr',rem',bag',pl',h1.moved hf _⟩,hfr1.trans (Fr.sett (R :=[1]) A1 _ (by simp)) (by unfold relR;simp) (by unfold relR;simp) (by omega),1,by omega,?_⟩)
  ·simp only[AS.tick_w,AS.set_w];rw[if_neg (by omega),hfr1.w 0 (by simp),h0]
  ·simp only[AS.tick_w,AS.set_w,and_self,if_true];rw[hfr1.w 1 (by simp)]
 cases x with
 | blk c=>
  obtain⟨hc,p,j,hp,hj,hgp⟩:=hgeo
  have hlt:=xW hj
  obtain⟨ow,j',hs,_⟩:=xX (h.hblk g c hg)
  have hsw:=xbS hf h hs
  have how:=(YN h.laid.ok hs).2
  rw[hsw]
  have h1:HI n t A.tick held S mp vr rem bag pl:=h.same fun r i _=>rfl
  have ew:u64.wrap (u64.wrap (g:Int)+1)=((g+1:Nat):Int):=by rw[IntKind.wrap_u64,IntKind.wrap_u64];omega
  refine Rn.no rfl (Rn.no rfl (Rn.self ?_))
  rw[AS.tick_self,hself]
  by_cases hown:ow=me
  ·refine Rn.no (by simp[hown]) ?_
   simp only[ew]
   refine Rn.bind (xxD hf.toFew h1 hself hme hc hg) ?_
   rintro r A1 (⟨rfl,k1,k2⟩|⟨rfl,k2⟩)
   ·exact Rn.yes rfl (hfin A1 _ _ _ _ _ _ k1 ((Fr.tick [] A).trans k2))
   ·refine Rn.no rfl ?_
    have hfr1:=(Fr.tick [] A).trans k2 (S :=[]) (e:=3)
    have h2:=h.fr hfr1 (by simp)
    refine Rn.bind (xxF hf h2 hc hme (by rw[hfr1.self,hself]) hg) ?_
    rintro r A2 (⟨rfl,bag',pl',k1,k3⟩|⟨rfl,k3⟩)
    ·exact Rn.yes rfl (hfin A2 _ _ _ _ _ _ k1 (hfr1.trans k3))
    ·refine Rn.no rfl ?_
     have hfr2:=hfr1.trans k3 (S :=[]) (e:=60003)
     refine Rn.bind (xiC hf (h.fr hfr2 (by simp)) hg) ?_
     rintro r A3 ⟨rfl,m',k1,k4⟩
     exact hfin A3 _ _ _ _ _ _ k1 (hfr2.trans k4)
  ·refine Rn.yes (by simp;omega) ?_
   refine Rn.bind (xxH hf h1 hg) ?_
   rintro r A1 ⟨rfl,rem',k1,k2⟩
   exact hfin A1 _ _ _ _ _ _ k1 ((Fr.tick [] A).trans k2)
 | run k=>
  obtain⟨hk,p,hp,rfl⟩:=hgeo
  have e8:8*p / 8=p:=by omega
  obtain⟨L,R,rfl,hpl⟩:=wH _ _ _ ((h.hrun _ _).1 hg).2
  rw[e8]at hpl
  obtain⟨hw,_⟩:=h.laid.at_
  rw[hpl]at hw
  rw[ed,e8,hw,show(Kd.run).head k=pw 4 k 0 0 from rfl,yW 4 k 0 0 (by omega) (by omega) (by omega) (by omega)]
  refine Rn.yes rfl ?_
  unfold markT xjE
  simp only
  have hlh:=xiJ (kd' :=.dfr) h.laid (by simp) (by simp) ⟨hk,fun c o hh=>by cases hh⟩
  rw[hpl,show(Kd.dfr).head k=pw 5 k 0 0 from rfl]at hlh
  have hmk:(bif decide ((p:Int)<0)then(T.ret false:T Bool)else bif decide ((p:Int)>=(xb n t).pages)then T.ret false else bif decide ((k:Int)<1)then T.ret false else bif decide ((k:Int)>(xb n t).pages)then T.ret false else
    .op (.cas (atF (xb n t) 7 (p:Int)) (Pg.word ⟨4,(k:Int),0,0⟩) (Pg.word ⟨5,(k:Int),0,0⟩)) fun b=>T.ret b).run (xl n t) A.tick=some (true,(A.tick.set 7 p (pw 5 k 0 0)).tick):=by
   rw[decide_eq_false (show ¬ ((p:Int)<0)by omega),decide_eq_false (show ¬ ((p:Int)>=(xb n t).pages)by show ¬ ((p:Int)>=((n:Nat):Int));omega),decide_eq_false (show ¬ ((k:Int)<1)by omega),decide_eq_false (show ¬ ((k:Int)>(xb n t).pages)by show ¬ ((k:Int)>((n:Nat):Int));omega)]
   simp only[cond_false,T.run,xl,at7 hf.toFew (show p<n by omega),xB (show p<Zr n t 7 from(by show p<n;omega)) 19 (by omega)]
   rw[if_pos (by rw[AS.tick_w,hw];rfl)]
   rfl
  refine Rn.run hmk (Rn.yes rfl ?_)
  have hl1:Laid n ((A.tick.set 7 p (pw 5 k 0 0)).tick) (L++(⟨k,.dfr⟩::R)):=hlh.of (fun i=>by simp) (fun i=>by simp)
  have hfr1:Fr [7] 2 A ((A.tick.set 7 p (pw 5 k 0 0)).tick):=(Fr.tick [] A).trans (Fr.sett (R :=[7]) _ _ (by simp))
  generalize(A.tick.set 7 p (pw 5 k 0 0)).tick=A1 at *
  refine Rn.run (ku hf (A:=A1) (o:=0) (k:=1) (by omega) (by omega)) ?_
  have hfr2:Fr [1] 1 A1 ((A1.set 1 0 (u64.wrap (A1.w 1 0+((1:Nat):Int)))).tick):=Fr.sett A1 _ (by simp)
  have he2:((A1.set 1 0 (u64.wrap (A1.w 1 0+((1:Nat):Int)))).tick).w 1 0=u64.wrap (A.w 1 0+((1:Nat):Int)):=by simp[hfr1.w 1]
  generalize(A1.set 1 0 (u64.wrap (A1.w 1 0+((1:Nat):Int)))).tick=A2 at *
  unfold jT qD
  rw[T.bind_assoc]
  have hs2:A2.self=(me:Int):=by rw[hfr2.self,hfr1.self,hself]
  refine Rn.run (xdG hf (A:=A2) hme hs2 (by rw[hfr2.w 0 (by simp),hfr1.w 0 (by simp),h0])) ?_
  have hfr3:Fr [0] 1 A2 (A2.set 0 0 ((me+1:Nat):Int)).tick:=Fr.sett A2 _ (by simp)
  have hl3:(A2.set 0 0 ((me+1:Nat):Int)).tick.w 0 0=((me+1:Nat):Int):=by simp
  generalize(A2.set 0 0 ((me+1:Nat):Int)).tick=A3 at *
  simp only[cond_true]
  rw[T.bind_assoc]
  have hnd : ∀s∈L++R,s.kd ≠ .dfr:=fun s hs=>h.nodf s (by simp only[List.mem_append,List.mem_cons]at hs |-;rcases hs with hs|hs<;>simp[hs])
  refine Rn.bind (xlF hf (A:=A3) ((hl1.fr hfr2 (by simp) (by simp)).fr hfr3 (by simp) (by simp)) (xvU h.norm (by simp) (by simp)) hnd) ?_
  rintro r A4 ⟨rfl,hfr4,L0,b,a,R0,rfl,rfl,hl0,hr0,hl4⟩
  rw[T.bind_assoc]
  refine Rn.run (ku hf (A:=A4) (k:=1) (by omega) (by omega)) ?_
  have hfr5:Fr [1] 1 A4 ((A4.set 1 0 (u64.wrap (A4.w 1 0+((1:Nat):Int)))).tick):=Fr.sett A4 _ (by simp)
  have he5:((A4.set 1 0 (u64.wrap (A4.w 1 0+((1:Nat):Int)))).tick).w 1 0=u64.wrap (A.w 1 0+((2:Nat):Int)):=by
   simp only[AS.tick_w,AS.set_w,and_self,if_true]
   rw[hfr4.w 1 (by simp),hfr3.w 1 (by simp),he2,wrap_k hf]
  generalize(A4.set 1 0 (u64.wrap (A4.w 1 0+((1:Nat):Int)))).tick=A5 at *
  rw[T.bind_assoc]
  have hs5:A5.self=(me:Int):=by rw[hfr5.self,hfr4.self,hfr3.self,hs2]
  refine Rn.run (qj hf (A:=A5) hme hs5 (by rw[hfr5.w 0 (by simp),hfr4.w 0 (by simp),hl3])) ?_
  have hpl2:plen L0+b=p:=by rw[<- hpl,xp,yy]
  have hfr15:Fr [0,1,3,7] 5000 A A5:=(((hfr1.trans hfr2 (S :=[1,7]) (e:=3)).trans hfr3 (S :=[0,1,7]) (e:=4)).trans hfr4 (S :=[0,1,3,7]) (e:=800)).trans hfr5
  have hm:=h.moved hf (A.w 1 0+((2:Nat):Int))
  rw[List.append_assoc]at hm
  have hus:=hm.unspan (A':=(A5.set 0 0 0).tick) hl0 hr0 ((hl4.fr hfr5 (by simp) (by simp)).of (fun i=>by simp) (fun i=>by simp)) (fun r i hr =>?_)
  ·rw[hpl2]at hus
   refine Rn.ret ⟨⟨by simp,_,_,_,_,_,_,hus⟩,hfr15.trans (Fr.sett (R :=[0]) A5 _ (by simp)) (by unfold relR;simp) (by unfold relR;simp) (by omega),2,by omega,?_⟩
   simp only[AS.tick_w,AS.set_w];rw[if_neg (by omega),he5]
  ·simp only[AS.tick_w,AS.set_w]
   by_cases h1:r=1/\i=0
   ·rw[if_pos h1,if_neg (by omega),h1.1,h1.2,he5]
   ·rw[if_neg h1,if_neg (by omega),hfr15.w r (by simp;omega)]
theorem xxM{me:Nat}(hme:me<t)(hself:A.self=(me:Int))(hi:HInv n t A held):Rn n t (xh6 (xb n t)) A fun r A'=>
  r=0/\HInv n t A' held/\Fr srcR 70000000000 A A'/\ ∃k:Nat,k<=20000/\A'.w 1 0=u64.wrap (A.w 1 0+(k:Int)):=by
 obtain⟨h0,S,mp,vr,rem,bag,pl,h⟩:=hi
 unfold xh6 xk7 KH KG
 rw[T.bind_assoc]
 refine Rn.run (ql hf hme hself) ?_
 simp only[cond_false]
 rw[T.bind_assoc]
 refine Rn.bind (xbT hf (A:=A) (o:=0) (by omega) hme hself h0 h) ?_
 rintro r A1 ⟨S1,mp1,vr1,rem1,k,hk,rfl,h1,_,hl1,he1,hfr1⟩
 exact Rn.ret ⟨rfl,⟨hl1,S1,mp1,vr1,rem1,bag,pl,h1⟩,hfr1.mono,k,hk,he1⟩
theorem xpj{me c:Nat}(hc:c<4)(hme:me<t)(hself:A.self=(me:Int))(hi:HInv n t A held):Rn n t (qM (xb n t) (c:Int)) A fun r A'=>
  Fr srcR 70000000000 A A'/\(∃k:Nat,k<=30000/\A'.w 1 0=u64.wrap (A.w 1 0+(k:Int)))/\((∃g:Nat,r=((g:Int),0)/\held g=none/\HInv n t A' (upd held g (some (.blk c))))\/(r=(0,15)/\NoBlk n held c/\HInv n t A' held)):=by
 obtain⟨h0,S,mp,vr,rem,bag,pl,h⟩:=hi
 refine(xsx hf hc hme hself h0 h).mono ?_
 rintro r A' ⟨k1,k2,k3,⟨g,S',mp',vr',rem',q1,q2,q3⟩|⟨q1,q2,S',mp',vr',rem',q3⟩⟩
 ·exact⟨k2,k3,.inl ⟨g,q1,q2,k1,S',mp',vr',rem',bag,pl,q3⟩⟩
 ·exact⟨k2,k3,.inr ⟨q1,q2,k1,S',mp',vr',rem',bag,pl,q3⟩⟩
theorem xsy{me k a:Nat}(hk:1<=k)(ha:1<=a)(ha2:a<9223372036854775808)(hme:me<t)(hself:A.self=(me:Int))(hi:HInv n t A held):Rn n t (WS (xb n t) (k:Int) (a:Int)) A fun r A'=>
  Fr srcR 70000000000 A A'/\(∃m:Nat,m<=30000/\A'.w 1 0=u64.wrap (A.w 1 0+(m:Int)))/\((∃u:Nat,r=(((8*u:Nat):Int),0)/\u%a=0/\u+k<=n/\held (8*u)=none/\HInv n t A' (upd held (8*u) (some (.run k))))\/(r=(0,15)/\NoRun n held k a/\HInv n t A' held)):=by
 obtain⟨h0,S,mp,vr,rem,bag,pl,h⟩:=hi
 refine(xvT hf hk ha ha2 hme hself h0 h).mono ?_
 rintro r A' ⟨k1,k2,k3,⟨u,S',mp',vr',rem',q1,q2,q3,q4,q5⟩|⟨q1,q2,S',mp',vr',rem',q3⟩⟩
 ·exact⟨k2,k3,.inl ⟨u,q1,q2,q3,q4,k1,S',mp',vr',rem',bag,pl,q5⟩⟩
 ·exact⟨k2,k3,.inr ⟨q1,q2,k1,S',mp',vr',rem',bag,pl,q3⟩⟩
end
end
section
open Go Go.RowKit Lx
structure SI(n t:Nat)(A:AS)(live:Nat->Option Nat):Prop where
 dead : ∀g,g<n*8->live g=none->A.w 11 g=0
 lives : ∀g z,g<n*8->live g=some z->1<=z/\z<=16384/\ ∃v:Nat,v<4294967296/\A.w 11 g=Stt.word ⟨1,(z:Int),0,(v:Int)⟩
def updS(live:Nat->Option Nat)(g:Nat)(x:Option Nat):Nat->Option Nat:=fun q=>if q=g then x else live q
theorem xD(live:Nat->Option Nat)(g:Nat)(x:Option Nat):updS live g x g=x:=if_pos rfl
theorem xG(live:Nat->Option Nat){g q:Nat}(x:Option Nat)(h:q≠g):updS live g x q=live q:=if_neg h
theorem SI.same{n t:Nat}{A A':AS}{live:Nat->Option Nat}(h:SI n t A live)(hw : ∀i,A'.w 11 i=A.w 11 i):SI n t A' live:=
 ⟨fun g hg hl=>by rw[hw];exact h.dead g hg hl,fun g z hg hl=>by rw[hw];exact h.lives g z hg hl⟩
theorem SI.fr{n t c:Nat}{R:List Nat}{A A':AS}{live:Nat->Option Nat}(h:SI n t A live)(f:Fr R c A A')(hR:11∉R):SI n t A' live:=h.same (f.w 11 hR)
theorem HInv.fr{n t c:Nat}{R:List Nat}{A A':AS}{held:Nat->Option HK}(h:HInv n t A held)(f:Fr R c A A')(hR : ∀r∈R,r=2\/r=6\/r=11\/r=14):HInv n t A' held:=by
 obtain⟨h0,S,mp,vr,rem,bag,pl,h1⟩:=h
 exact⟨by rw[f.w 0 (fun hh=>by have:=hR 0 hh;omega)];exact h0,S,mp,vr,rem,bag,pl,h1.fr f fun r hr=>by have:=hR r hr;omega⟩
theorem SI.born{n t:Nat}{A A':AS}{live:Nat->Option Nat}(h:SI n t A live){g z v:Nat}(hz:1<=z)(hz2:z<=16384)(hv:v<4294967296)(hw : ∀i,A'.w 11 i=if i=g then Stt.word ⟨1,(z:Int),0,(v:Int)⟩else A.w 11 i):SI n t A' (updS live g (some z)):=by
 refine⟨fun q hq hl =>?_,fun q y hq hl =>?_⟩
 ·by_cases hqg:q=g
  ·rw[hqg,xD]at hl;cases hl
  ·rw[xG _ _ hqg]at hl
   rw[hw,if_neg hqg];exact h.dead q hq hl
 ·by_cases hqg:q=g
  ·rw[hqg,xD]at hl;cases hl
   exact⟨hz,hz2,v,hv,by rw[hw,if_pos hqg]⟩
  ·rw[xG _ _ hqg]at hl
   rw[hw,if_neg hqg];exact h.lives q y hq hl
theorem SI.ended{n t:Nat}{A A':AS}{live:Nat->Option Nat}(h:SI n t A live){g:Nat}(hw : ∀i,A'.w 11 i=if i=g then 0 else A.w 11 i):SI n t A' (updS live g none):=by
 refine⟨fun q hq hl =>?_,fun q y hq hl =>?_⟩
 ·by_cases hqg:q=g
  ·rw[hw,if_pos hqg]
  ·rw[xG _ _ hqg]at hl
   rw[hw,if_neg hqg];exact h.dead q hq hl
 ·by_cases hqg:q=g
  ·rw[hqg,xD]at hl;cases hl
  ·rw[xG _ _ hqg]at hl
   rw[hw,if_neg hqg];exact h.lives q y hq hl
theorem u32_nat(x:Int) : ∃v:Nat,v<4294967296/\u32.wrap x=(v:Int):=by
 refine⟨(x%4294967296).toNat,by omega,?_⟩
 rw[show u32.wrap x=x%4294967296 from by simp[IntKind.wrap,IntKind.signed,IntKind.bits]];omega
theorem xxN:wd 0=⟨0,0,0,0⟩:=by
 have:=xiw 0 (by omega)
 exact this
section
variable{n t:Nat}(hf:Small n t){A:AS}{held:Nat->Option HK}{live:Nat->Option Nat}
include hf
theorem at6{me:Nat}(hme:me<t):atF (xb n t) 6 (me:Int)=((Br n t 6+me:Nat):Int):=vT hf.toFew (by omega) hme
theorem Vl{me g:Nat}(hme:me<t)(hself:A.self=(me:Int))(hg:g<n*8):(wS (xb n t) (g:Int)).run (xl n t) A=some (false,A):=by
 unfold wS VH
 simp only[T.run,xl,hself,at6 hf hme,at11 hf.toFew hg]
 rw[show(((Br n t 6+me:Nat):Int) == -1)=false from beq_eq_false_iff_ne.2 (by omega),show(((Br n t 11+g:Nat):Int) == -1)=false from beq_eq_false_iff_ne.2 (by omega)]
 rfl
theorem Vm{me:Nat}(hme:me<t)(hself:A.self=(me:Int)) : ∃v:Nat,v<4294967296/\(jh (xb n t)).run (xl n t) A=some ((v:Int),(A.set 6 me (u64.wrap (A.w 6 me+1))).tick):=by
 obtain⟨v,h1,h2⟩:=u32_nat (u32.wrap (u32.wrap (u32.wrap (A.w 6 me)+1)*64)+u32.wrap (me:Int))
 refine⟨v,h1,?_⟩
 unfold jh VD
 simp only[T.run,xl,hself,at6 hf hme,xB (show me<Zr n t 6 from hme) 19 (by omega)]
 rw[AS.tick_self,AS.set_self,hself,h2]
theorem xiN{me g z:Nat}(hme:me<t)(hself:A.self=(me:Int))(hg:g<n*8)(hz:1<=z)(hz2:z<=16384)(hs:SI n t A live):Rn n t (xaH (xb n t) (g:Int) (z:Int)) A fun r A'=>
  SI n t A' (updS live g (some z))/\Fr [6,11] 2 A A'/\A'.steps=A.steps+2:=by
 obtain⟨v,hv,hrun⟩:=Vm hf (A:=A) hme hself
 unfold xaH xcZ
 refine Rn.run (Vl hf hme hself hg) (Rn.yes rfl ?_)
 refine Rn.run hrun ?_
 refine Rn.store (at11 hf.toFew hg) (by omega) hg (Rn.ret ⟨hs.born hz hz2 hv fun i =>?_,(Fr.sett (R :=[6,11]) A _ (by simp)).trans (Fr.sett (R :=[6,11]) _ _ (by simp)),rfl⟩)
 simp
theorem xgm{me g:Nat}(hme:me<t)(hself:A.self=(me:Int))(hg:g<n*8)(hs:SI n t A live):(live g=none/\(VN (xb n t) (g:Int)).run (xl n t) A=some (⟨0,0,0,0,false,i64.wrap (A.steps+1)⟩,A.tick))\/
  ∃z v:Nat,live g=some z/\v<4294967296/\A.w 11 g=Stt.word ⟨1,(z:Int),0,(v:Int)⟩/\(VN (xb n t) (g:Int)).run (xl n t) A=some (⟨1,(z:Int),0,(v:Int),true,i64.wrap (A.steps+1)⟩,A.tick):=by
 unfold VN xjM
 rw[T.run_bind,Vl hf hme hself hg]
 simp only[cond_false,T.run,xl,at11 hf.toFew hg,xB (show g<Zr n t 11 from hg) 19 (by omega)]
 cases hl:live g with
 | none=>
  refine .inl ⟨rfl,?_⟩
  rw[hs.dead g hg hl,xxN]
  rfl
 | some z=>
  obtain⟨h1,h2,v,hv,hw⟩:=hs.lives g z hg hl
  refine .inr ⟨z,v,rfl,hv,hw,?_⟩
  have e:=xsi 1 z 0 v (by omega) (by omega) (by omega) hv
  rw[hw,show Stt.word ⟨1,(z:Int),0,(v:Int)⟩=Stt.word ⟨((1:Nat):Int),(z:Int),((0:Nat):Int),(v:Int)⟩from rfl,e]
  rfl
theorem xvV{me g:Nat}(hme:me<t)(hself:A.self=(me:Int))(hg:g<n*8)(hs:SI n t A live):Rn n t (xaU (xb n t) (g:Int)) A fun r A'=>
  (live g=none/\r.live=false/\r.lin=i64.wrap (A.steps+1)/\A'.steps=A.steps+1/\Fr [] 1 A A')\/ ∃z:Nat,live g=some z/\r.live=true/\r.size=(z:Int)/\r.lin=i64.wrap (A.steps+2)/\A'.steps=A.steps+2/\SI n t A' (updS live g none)/\Fr [11] 2 A A':=by
 unfold xaU xc5 wi
 rw[show xa=4095+1 from rfl,xr]
 unfold xaT
 rcases xgm hf hme hself hg hs with⟨h1,h2⟩|⟨z,v,h1,hv,hw,h2⟩
 ·refine Rn.run h2 (Rn.yes rfl (Rn.ret (.inl ⟨h1,rfl,rfl,rfl,Fr.tick [] A⟩)))
 ·refine Rn.run h2 (Rn.no rfl ?_)
  refine Rn.cas (at11 hf.toFew hg) (by omega) hg (by rw[AS.tick_w,hw]) (Rn.yes rfl (Rn.steps (Rn.ret (.inr ⟨z,h1,rfl,rfl,?_,rfl,hs.ended fun i =>?_,(Fr.tick [11] A).trans (Fr.sett (R :=[11]) _ _ (by simp))⟩))))
  ·rfl
  ·simp
end
end
section
open Go Go.RowKit Lx
def powA(a:Int):Bool:=decide (a>0)&&(bits .and .i64 a (i64.wrap (a-1))==0)
def clsN(s a:Int):Option Nat:=if s<=8/\a<=8 then some 0 else if s<=16/\a<=16 then some 1 else if s<=24/\a<=8 then some 2 else if s<=32/\a<=32 then some 3 else none
def wK(s:Int):Nat:=((s-1) / 64+1).toNat
def alN(a:Int):Nat:=if a / 64<1 then 1 else(a / 64).toNat
def NoRoom(n:Nat)(held:Nat->Option HK)(s a:Int):Prop:=match clsN s a with
 | some c=>NoBlk n held c
 | none=>NoRun n held (wK s) (alN a)
def GotRoom(n:Nat)(s a:Int)(g:Nat)(x:HK):Prop:=match clsN s a with
 | some c=>x = .blk c
 | none=>x = .run (wK s)/\ ∃u,g=8*u/\u%alN a=0/\u+wK s<=n
def Placed(n:Nat)(held:Nat->Option HK)(s a:Int)(r:Int×Int×Int)(held':Nat->Option HK):Prop:=
 (held'=held/\r.1=0/\r.2.1=0/\((r.2.2=11/\(s<1\/64*n<s))\/(1<=s/\s<=64*n/\((r.2.2=12/\powA a=false)\/(r.2.2=15/\powA a=true/\NoRoom n held s a)))))\/
 ∃ (g:Nat) (x:HK),r=((g:Int),((8*x.ext:Nat):Int),0)/\held g=none/\held'=upd held g (some x)/\1<=s/\s<=64*n/\powA a=true/\GotRoom n s a g x
def Res.none(e lin:Int):Res:=⟨0,0,0,0,0,0,0,0,e,lin,0⟩
section
variable{n t:Nat}(hf:Small n t){A:AS}{held:Nat->Option HK}{live:Nat->Option Nat}
include hf
theorem xgn{a:Int}:(XC a).run (xl n t) A=some (powA a,A):=by
 unfold XC VF powA
 by_cases h:a>0
 ·rw[decide_eq_true h];rfl
 ·rw[decide_eq_false h];rfl
set_option maxHeartbeats 4000000 in
theorem run_cof{s a:Int}(hs:1<=s)(hp:powA a=true):(cofT s a).run (xl n t) A=some ((match clsN s a with|some c=>((c:Nat):Int)|none=> -1),A):=by
 have hc:(VE a).run (xl n t) A=some (true,A):=by
  have:=xgn hf (A:=A) (a:=a)
  rw[hp]at this;exact this
 unfold cofT xs5 clsN
 rw[decide_eq_false (show ¬s<1 by omega)]
 simp only[cond_false]
 rw[T.run_bind,hc]
 simp only[Bool.not_true,cond_false]
 have key : ∀ (p:Prop) [Decidable p] (x y:T Int),(bif decide p then x else y)=if p then x else y:=fun p _ x y=>by by_cases h:p<;>simp[h]
 simp only[key]
 by_cases c0:s<=8/\a<=8
 ·rw[if_pos c0]
  show _=some (((0:Nat):Int),A)
  repeat' split
  all_goals first|rfl|(exfalso;omega)
 rw[if_neg c0]
 by_cases c1:s<=16/\a<=16
 ·rw[if_pos c1]
  show _=some (((1:Nat):Int),A)
  repeat' split
  all_goals first|rfl|(exfalso;omega)
 rw[if_neg c1]
 by_cases c2:s<=24/\a<=8
 ·rw[if_pos c2]
  show _=some (((2:Nat):Int),A)
  repeat' split
  all_goals first|rfl|(exfalso;omega)
 rw[if_neg c2]
 by_cases c3:s<=32/\a<=32
 ·rw[if_pos c3]
  show _=some (((3:Nat):Int),A)
  repeat' split
  all_goals first|rfl|(exfalso;omega)
 rw[if_neg c3]
 show _=some ((-1:Int),A)
 repeat' split
 all_goals first|rfl|(exfalso;omega)
theorem xpk{s:Int}(hs:1<=s)(hs2:s<=64*n):(jP s).run (xl n t) A=some ((wK s:Int),A):=by
 have hn:=hf.n2
 unfold jP XS wK
 rw[decide_eq_false (show ¬s<1 by omega)]
 have e1:i64.wrap (s-1)=s-1:=w64 (by omega) (by omega)
 have e2:Int.tdiv (s-1) 64=(s-1) / 64:=Int.tdiv_eq_ediv_of_nonneg (by omega)
 rw[e1,e2,w64 (x:=(s-1) / 64) (by omega) (by omega),w64 (by omega) (by omega)]
 have:(((s-1) / 64+1).toNat:Int)=(s-1) / 64+1:=by omega
 rw[this];rfl
theorem xbU{me:Nat}{s a:Int}(hme:me<t)(hself:A.self=(me:Int))(ha:a<9223372036854775808)(hi:HInv n t A held):Rn n t (jE (xb n t) s a) A fun r A'=>
  ∃held',Placed n held s a r held'/\HInv n t A' held'/\Fr srcR 70000000000 A A':=by
 have hn:=hf.n2
 have hn1:=hf.n1
 have hfr0:Fr srcR 70000000000 A A:=(Fr.refl srcR A).mono (fun _ h=>h) (by omega)
 have e64:i64.wrap ((xb n t).pages*64)=((64*n:Nat):Int):=by
  show i64.wrap (((n:Nat):Int)*64)=_
  rw[show((n:Nat):Int)*64=((64*n:Nat):Int)by omega,wN _ (by omega)]
 unfold jE xdx
 refine Rn.no (by show(((n:Nat):Int)==0)=false;simp;omega) ?_
 by_cases h1:s<1
 ·exact Rn.yes (decide_eq_true h1) (Rn.ret ⟨held,.inl ⟨rfl,rfl,rfl,.inl ⟨rfl,.inl h1⟩⟩,hi,hfr0⟩)
 refine Rn.no (decide_eq_false h1) ?_
 rw[e64]
 by_cases h2:s>((64*n:Nat):Int)
 ·exact Rn.yes (decide_eq_true h2) (Rn.ret ⟨held,.inl ⟨rfl,rfl,rfl,.inl ⟨rfl,.inr (by omega)⟩⟩,hi,hfr0⟩)
 refine Rn.no (decide_eq_false h2) ?_
 refine Rn.run (xgn hf) ?_
 cases hp:powA a with
 | false=>exact Rn.yes rfl (Rn.ret ⟨held,.inl ⟨rfl,rfl,rfl,.inr ⟨by omega,by omega,.inl ⟨rfl,hp⟩⟩⟩,hi,hfr0⟩)
 | true=>
  refine Rn.no rfl ?_
  refine Rn.run (run_cof hf (by omega) hp) ?_
  have ha0:0<a:=by
   unfold powA at hp
   simp only[Bool.and_eq_true,dT]at hp;omega
  cases hc:clsN s a with
  | some c=>
   simp only
   have hc4:c<4:=by
    unfold clsN at hc
    repeat' split at hc
    all_goals first|(cases hc;omega)|cases hc
   refine Rn.yes (by rw[dT];omega) ?_
   refine Rn.bind (xpj hf hc4 hme hself hi) ?_
   rintro r A1 ⟨hfr,_,⟨g,rfl,q1,q2⟩|⟨rfl,q1,q2⟩⟩
   ·refine Rn.yes (by rw[dT];omega) (Rn.no rfl (Rn.ret ⟨_,.inr ⟨g,.blk c,?_,q1,rfl,by omega,by omega,hp,by unfold GotRoom;rw[hc]⟩,q2,hfr⟩))
    have : ∀c:Nat,c<4->(bif (c:Int)==0 then(8:Int)else bif (c:Int)==1 then(16:Int)else bif (c:Int)==2 then(24:Int)else(32:Int))=((8*(c+1):Nat):Int):=by decide
    simp only[this c hc4];rfl
   ·exact Rn.yes (by rw[dT];omega) (Rn.yes rfl (Rn.ret ⟨held,.inl ⟨rfl,rfl,rfl,.inr ⟨by omega,by omega,.inr ⟨rfl,hp,by unfold NoRoom;rw[hc];exact q1⟩⟩⟩,q2,hfr⟩))
  | none=>
   simp only
   refine Rn.no rfl ?_
   refine Rn.run (xpk hf (by omega) (by omega)) ?_
   have e1:Int.tdiv a 64=a / 64:=Int.tdiv_eq_ediv_of_nonneg (by omega)
   have e2:i64.wrap (a / 64)=a / 64:=w64 (by omega) (by omega)
   have e3:(if a / 64<1 then(1:Int)else a / 64)=(alN a:Int):=by unfold alN;split<;>omega
   rw[e1,e2,e3]
   have hk1:1<=wK s:=by unfold wK;omega
   have hkn:wK s<=n:=by unfold wK;omega
   have ha1:1<=alN a:=by unfold alN;split<;>omega
   have ha2:alN a<9223372036854775808:=by unfold alN;split<;>omega
   refine Rn.bind (xsy hf hk1 ha1 ha2 hme hself hi) ?_
   rintro r A1 ⟨hfr,_,⟨u,rfl,q1,q2,q3,q4⟩|⟨rfl,q1,q2⟩⟩
   ·refine Rn.no rfl (Rn.ret ⟨_,.inr ⟨8*u,.run (wK s),?_,q3,rfl,by omega,by omega,hp,by unfold GotRoom;rw[hc];exact⟨rfl,u,rfl,q1,q2⟩⟩,q4,hfr⟩)
    have:i64.wrap ((wK s:Int)*64)=((8*(HK.run (wK s)).ext:Nat):Int):=by
     simp only[HK.ext]
     rw[show(wK s:Int)*64=((8*(8*wK s):Nat):Int)by omega,wN _ (by omega)]
    simp only[this]
   ·exact Rn.yes rfl (Rn.ret ⟨held,.inl ⟨rfl,rfl,rfl,.inr ⟨by omega,by omega,.inr ⟨rfl,hp,by unfold NoRoom;rw[hc];exact q1⟩⟩⟩,q2,hfr⟩)
end
end
section
open Go Go.RowKit Lx
def askR:List Nat :=[0,1,3,6,7,8,9,11,12,14,18]
def xpl:List Nat :=[0,1,3,4,5,7,8,9,10,11,12,13,17,18]
theorem HInv.w{n t:Nat}{A A':AS}{held:Nat->Option HK}(h:HInv n t A held)(hw : ∀r i,A'.w r i=A.w r i):HInv n t A' held:=by
 obtain⟨h0,S,mp,vr,rem,bag,pl,h1⟩:=h
 exact⟨by rw[hw];exact h0,S,mp,vr,rem,bag,pl,h1.same fun r i _=>hw r i⟩
def AS.tell(A:AS)(r:Res):AS :={A with told:=some r.cells}
@[simp] theorem AS.tell_w (A:AS) (r:Res):(A.tell r).w=A.w:=rfl
@[simp] theorem AS.tell_b (A:AS) (r:Res):(A.tell r).b=A.b:=rfl
@[simp] theorem AS.tell_self (A:AS) (r:Res):(A.tell r).self=A.self:=rfl
@[simp] theorem AS.tell_steps (A:AS) (r:Res):(A.tell r).steps=A.steps:=rfl
@[simp] theorem AS.tell_told (A:AS) (r:Res):(A.tell r).told=some r.cells:=rfl
structure Ft(R:List Nat)(c:Nat)(A A':AS)(r:Res):Prop where
 w : ∀q,q∉R ->∀i,A'.w q i=A.w q i
 self:A'.self=A.self
 lo:A.steps<=A'.steps
 hi:A'.steps<=A.steps+c
 told:A'.told=some r.cells
theorem Fr.tell{R:List Nat}{c:Nat}{A A1:AS}(h:Fr R c A A1)(r:Res):Ft R c A (A1.tell r) r:=⟨h.w,h.self,h.lo,h.hi,rfl⟩
structure Asked(n t:Nat)(A:AS)(held:Nat->Option HK)(live:Nat->Option Nat)(s a:Int)(r:Res)(A':AS)(held':Nat->Option HK)(live':Nat->Option Nat):Prop where
 fr:Ft askR 80000000000 A A' r
 heap:HInv n t A' held'
 states:SI n t A' live'
 lin : ∃l:Nat,A.steps<=l/\l<=A'.steps/\r.lin=i64.wrap l/\(r.e=0->A.steps<l)
 res:(held'=held/\live'=live/\r=Res.none r.e r.lin/\((r.e=11/\(s<1\/64*n<s))\/(1<=s/\s<=64*n/\((r.e=12/\powA a=false)\/(r.e=15/\powA a=true/\NoRoom n held s a)))))\/
  ∃ (g:Nat) (x:HK),r=⟨((8*g:Nat):Int),((8*x.ext:Nat):Int),0,0,0,0,0,0,0,r.lin,0⟩/\held g=none/\held'=upd held g (some x)/\live'=updS live g (some s.toNat)/\1<=s/\s<=64*n/\powA a=true/\GotRoom n s a g x
section
variable{n t:Nat}(hf:Small n t){A:AS}{held:Nat->Option HK}{live:Nat->Option Nat}
include hf
theorem HInv.small(hi:HInv n t A held){g:Nat}{x:HK}(hg:held g=some x):g<n*8:=by
 obtain⟨h0,S,mp,vr,rem,bag,pl,h⟩:=hi
 have hgeo:=h.geo hg
 cases x with
 | blk c=>
  obtain⟨_,p,j,h1,h2,h3⟩:=hgeo
  have:=xW h2;omega
 | run k=>
  obtain⟨h1,p,h2,h3⟩:=hgeo;omega
theorem wA{e l:Int}:(va e l).run (xl n t) A=some (Res.none e l,A.tell (Res.none e l)):=by
 unfold va xda
 simp only[T.run,xl]
 rfl
theorem xan : ∀r∈srcR,r∈askR:=by unfold srcR askR;simp
theorem xcz{me:Nat}{s a:Int}(hme:me<t)(hself:A.self=(me:Int))(ha:a<9223372036854775808)(hi:HInv n t A held)(hs:SI n t A live):Rn n t (kU (xb n t) a s) A fun r A'=>A'.b=A.b/\ ∃held' live',Asked n t A held live s a r A' held' live':=by
 have hn:=hf.n2
 have hn1:=hf.n1
 unfold kU Ys
 refine Rn.no (by show(((n:Nat):Int)==0)=false;simp;omega) ?_
 refine Rn.bind (xbU hf hme hself ha hi) ?_
 rintro ⟨k,u,e⟩ A1 ⟨held',hpl,h1,hfr1⟩
 simp only
 rcases hpl with⟨rfl,h2,h3,h4⟩|⟨g,x,h2,h3,rfl,h5,h6,h7,h8⟩
 ·simp only at h2 h3 h4
  have he:(e != 0)=true:=by
   rcases h4 with⟨h4,_⟩|⟨_,_,⟨h4,_⟩|⟨h4,_⟩⟩<;>rw[h4]<;>rfl
  refine Rn.yes he (Rn.steps ?_)
  refine Rn.run (wA hf) (Rn.ret ⟨hfr1.b,held',live,(hfr1.mono (xan hf) (by omega)).tell _,h1.w fun r i=>rfl,(hs.fr hfr1 (by unfold srcR;simp)).same fun i=>rfl,⟨A1.steps,hfr1.lo,Nat.le_refl _,rfl,fun hh=>absurd hh (by simpa[Res.none]using he)⟩,.inl ⟨rfl,rfl,rfl,?_⟩⟩)
  exact h4
 ·simp only[Prod.mk.injEq]at h2
  obtain⟨rfl,rfl,rfl⟩:=h2
  refine Rn.no rfl ?_
  have hgn:g<n*8:=HInv.small hf h1 (xC _ _ _)
  have hs1:A1.self=(me:Int):=by rw[hfr1.self,hself]
  have hz:s=((s.toNat:Nat):Int):=by omega
  unfold VX xeC
  rw[T.bind_assoc]
  have hb:=xiN hf (A:=A1) (z:=s.toNat) hme hs1 hgn (by omega) (by omega) (hs.fr hfr1 (by unfold srcR;simp))
  rw[<- hz]at hb
  refine Rn.bind hb ?_
  rintro _ A2 ⟨k1,k2,k3⟩
  have hlo1:=hfr1.lo
  refine Rn.steps (Rn.tell ?_)
  have e8:i64.wrap ((g:Int)*8)=((8*g:Nat):Int):=by rw[show(g:Int)*8=((8*g:Nat):Int)by omega,wN _ (by omega)]
  rw[e8]
  have hfr2:=hfr1.trans k2 (S:=askR) (e:=80000000000) (xan hf) (by unfold askR;simp) (by omega)
  refine Rn.ret ⟨hfr2.b,_,_,hfr2.tell (⟨((8*g:Nat):Int),((8*x.ext:Nat):Int),0,0,0,0,0,0,0,i64.wrap A2.steps,0⟩:Res),(h1.fr k2 (by simp)).w fun r i=>rfl,k1.same fun i=>rfl,⟨A2.steps,hfr2.lo,Nat.le_refl _,rfl,fun _=>by omega⟩,.inr ⟨g,x,rfl,h3,rfl,rfl,h5,h6,h7,h8⟩⟩
theorem xsz{me:Nat}{s:Int}(hme:me<t)(hself:A.self=(me:Int))(hi:HInv n t A held)(hs:SI n t A live):Rn n t (Yw (xb n t) s) A fun r A'=>A'.b=A.b/\ ∃held' live',Asked n t A held live s 1 r A' held' live':=by
 unfold Yw KL
 exact Rn.bind (xcz hf hme hself (by omega) hi hs) fun r A' h=>Rn.ret h
def zeroed(b:List Int)(p m:Nat):List Int:=(List.range m).foldl (fun b i=>b.set (p+i) 0) b
theorem xcA(b:List Int)(p m:Nat):zeroed b p (m+1)=(zeroed b p m).set (p+m) 0:=by
 unfold zeroed
 rw[List.range_succ,List.foldl_append];rfl
theorem xgo(b:List Int)(p:Nat) : ∀m,(zeroed b p m).length=b.length
 | 0=>rfl
 | m+1=>by rw[xcA hf,List.length_set,xgo b p m]
theorem xvW{me:Nat}{a:Int}(hme:me<t)(hself:A.self=(me:Int))(hi:HInv n t A held)(hs:SI n t A live)(hlh : ∀g z,live g=some z ->∃x,held g=some x):Rn n t (xbw (xb n t) a) A fun r A'=>
  A'.b=A.b/\Ft xpl 200000 A A' r/\(∃l:Nat,A.steps<=l/\l<=A'.steps/\r.lin=i64.wrap l)/\((r=Res.none 13 r.lin/\HInv n t A' held/\SI n t A' live/\ ∀g z:Nat,live g=some z->a≠((8*g:Nat):Int))\/
   ∃g z:Nat,a=((8*g:Nat):Int)/\live g=some z/\r=⟨0,(z:Int),0,0,0,0,0,0,0,r.lin,0⟩/\A.steps<A'.steps/\r.lin=i64.wrap (A.steps+2)/\HInv n t A' (upd held g none)/\SI n t A' (updS live g none)):=by
 have hn:=hf.n2
 have hn1:=hf.n1
 have hlt : ∀g z,live g=some z->g<n*8:=fun g z hl=>by
  obtain⟨x,hx⟩:=hlh g z hl
  exact HInv.small hf hi hx
 have e64:i64.wrap ((xb n t).pages*64)=((64*n:Nat):Int):=by
  show i64.wrap (((n:Nat):Int)*64)=_
  rw[show((n:Nat):Int)*64=((64*n:Nat):Int)by omega,wN _ (by omega)]
 have bad : ∀ (A1:AS),Fr [] 1 A A1->(∀g z:Nat,live g=some z->a≠((8*g:Nat):Int)) ->∀l:Nat,A.steps<=l->l<=A1.steps->A1.b=A.b/\Ft xpl 200000 A (A1.tell (Res.none 13 (i64.wrap l))) (Res.none 13 (i64.wrap l))/\(∃l':Nat,A.steps<=l'/\l'<=A1.steps/\(Res.none 13 (i64.wrap l)).lin=i64.wrap l')/\
   (((Res.none 13 (i64.wrap l))=Res.none 13 (Res.none 13 (i64.wrap l)).lin/\HInv n t (A1.tell (Res.none 13 (i64.wrap l))) held/\SI n t (A1.tell (Res.none 13 (i64.wrap l))) live/\ ∀g z:Nat,live g=some z->a≠((8*g:Nat):Int))\/
   ∃g z:Nat,a=((8*g:Nat):Int)/\live g=some z/\(Res.none 13 (i64.wrap l))=⟨0,(z:Int),0,0,0,0,0,0,0,(Res.none 13 (i64.wrap l)).lin,0⟩/\A.steps<(A1.tell (Res.none 13 (i64.wrap l))).steps/\(Res.none 13 (i64.wrap l)).lin=i64.wrap (A.steps+2)/\HInv n t (A1.tell (Res.none 13 (i64.wrap l))) (upd held g none)/\SI n t (A1.tell (Res.none 13 (i64.wrap l))) (updS live g none)):=by
  intro A1 hfr hno l hl1 hl2
  exact⟨hfr.b,(hfr.mono).tell _,⟨l,hl1,hl2,rfl⟩,.inl ⟨rfl,(hi.fr hfr (by simp)).w fun r i=>rfl,(hs.fr hfr (by simp)).same fun i=>rfl,hno⟩⟩
 unfold xbw xdz
 refine Rn.no (by show(((n:Nat):Int)==0)=false;simp;omega) ?_
 by_cases h1:a<0
 ·refine Rn.yes (decide_eq_true h1) (Rn.steps (Rn.run (wA hf) (Rn.ret ?_)))
  exact bad A ((Fr.refl [] A).mono) (fun g z hl hh=>by omega) A.steps (Nat.le_refl _) (Nat.le_refl _)
 refine Rn.no (decide_eq_false h1) ?_
 rw[e64]
 by_cases h2:a>=((64*n:Nat):Int)
 ·refine Rn.yes (decide_eq_true h2) (Rn.steps (Rn.run (wA hf) (Rn.ret ?_)))
  exact bad A ((Fr.refl [] A).mono) (fun g z hl hh=>by have:=hlt g z hl;omega) A.steps (Nat.le_refl _) (Nat.le_refl _)
 refine Rn.no (decide_eq_false h2) ?_
 have em:Int.tmod a 8=a%8:=Int.tmod_eq_emod_of_nonneg (by omega)
 rw[em]
 by_cases h3:a%8=0
 ·refine Rn.no (by rw[h3];rfl) ?_
  obtain⟨g,rfl⟩ : ∃g:Nat,a=((8*g:Nat):Int):=⟨(a / 8).toNat,by omega⟩
  have hgn:g<n*8:=by omega
  have ed:i64.wrap (Int.tdiv ((8*g:Nat):Int) 8)=(g:Int):=by
   rw[Int.tdiv_eq_ediv_of_nonneg (by omega)]
   have:((8*g:Nat):Int) / 8=(g:Int):=by omega
   rw[this,wN _ (by omega)]
  rw[ed]
  refine Rn.bind (xvV hf hme hself hgn hs) ?_
  rintro r A1 (⟨k1,k2,k3,k5,k4⟩|⟨z,k1,k2,k3,k4,k5,k6,k7⟩)
  ·refine Rn.yes (by rw[k2];rfl) ?_
   rw[k3]
   refine Rn.run (wA hf) (Rn.ret ?_)
   exact bad A1 k4 (fun q z hl hh=>by
    obtain rfl:q=g:=by omega
    rw[k1]at hl;cases hl) (A.steps+1) (by omega) (by omega)
  ·refine Rn.no (by rw[k2];rfl) ?_
   rw[k3,k4]
   obtain⟨x,hx⟩:=hlh g z k1
   refine Rn.tell ?_
   have hs1:A1.self=(me:Int):=by rw[k7.self,hself]
   have hi1:HInv n t (A1.tell ⟨0,(z:Int),0,0,0,0,0,0,0,i64.wrap (A.steps+2),0⟩) held:=(hi.fr k7 (by simp)).w fun r i=>rfl
   refine Rn.bind (xcy hf (A:=A1.tell ⟨0,(z:Int),0,0,0,0,0,0,0,i64.wrap (A.steps+2),0⟩) hme hs1 hi1 hx) ?_
   rintro _ A2 ⟨q1,q2,_⟩
   have hlo:=q2.lo
   have hhi:=q2.hi
   simp only[AS.tell_steps]at hlo hhi
   refine Rn.ret ⟨by rw[q2.b];exact k7.b,⟨fun q hq i =>?_,by rw[q2.self];exact k7.self,by omega,by omega,by rw[q2.told];rfl⟩,⟨A.steps+2,by omega,by omega,rfl⟩,.inr ⟨g,z,rfl,k1,rfl,by omega,rfl,q1,(k6.same (A':=A1.tell ⟨0,(z:Int),0,0,0,0,0,0,0,i64.wrap (A.steps+2),0⟩) fun i=>rfl).fr q2 (by unfold relR;simp)⟩⟩
   rw[q2.w q (by unfold xpl at hq;unfold relR;simp at hq |-;omega)]
   exact k7.w q (by unfold xpl at hq;simp at hq |-;omega) i
 ·refine Rn.yes (by simpa using h3) (Rn.steps (Rn.run (wA hf) (Rn.ret ?_)))
  exact bad A ((Fr.refl [] A).mono) (fun g z hl hh=>by omega) A.steps (Nat.le_refl _) (Nat.le_refl _)
end
end
section
open Go Go.RowKit Lx
def yk(N:Nat)(m s:Int):Int:=if 0<=m/\0<=s/\(s=0\/m<=64*N / s)then m*s else 0
section
variable{n t:Nat}(hf:Small n t){A:AS}{held:Nat->Option HK}{live:Nat->Option Nat}
include hf
theorem xvX{α:Type}{Q:α->AS->Prop}{g m:Nat}{a0 a1 a3 a7 a8 a9 a10 a11 a12 a13 a14 a15 a16 a17:Int}{g6:Geo}{κ0:Unit->T α}(hg:8*g+m<=100000)(hm:m<4096)
  (hκ : ∀A',A' = {A with b:=zeroed A.b (8*g) m,steps:=A.steps+m}->Rn n t (κ0 ()) A' Q) :
  Rn n t (yA a0 a1 (g:Int) a3 (m:Int) g6 a7 a8 a9 a10 a11 a12 a13 a14 a15 a16 a17 0 κ0) A Q:=by
 unfold yA
 refine Rn.loop (fun r i A1 =>∃k:Nat,i=(k:Int)/\k<=m/\r=m-k/\A1 = {A with b:=zeroed A.b (8*g) k,steps:=A.steps+k}) ?_ xa m _ A (by unfold xa;omega) ⟨0,rfl,by omega,rfl,rfl⟩
 rintro r i A1 κ' ⟨k,rfl,hk,rfl,rfl⟩ hloop
 unfold WU
 by_cases h:k<m
 ·refine Rn.yes (by rw[dT];omega) ?_
  have e:i64.wrap (i64.wrap ((g:Int)*8)+(k:Int))=((8*g+k:Nat):Int):=by
   rw[show(g:Int)*8=((8*g:Nat):Int)by omega,wN _ (by omega),wrap_add hf.toFew (by omega)]
  rw[e,xF hf.toFew (by omega)]
  refine Rn.op (o :=.put _ 0) (x:=()) (by simp only[xl];rw[if_pos (by omega)]) (hloop (m-(k+1)) _ _ (by omega) ⟨k+1,rfl,by omega,rfl,?_⟩)
  rw[xcA hf]
  rfl
 ·obtain rfl:k=m:=by omega
  exact Rn.no (by rw[dF];omega) (hκ _ rfl)
theorem xsA{me:Nat}{m s:Int}(hn60:n<=60)(hm:m<9223372036854775808)(hs0:s<9223372036854775808)(hme:me<t)(hself:A.self=(me:Int))(hi:HInv n t A held)(hs:SI n t A live):Rn n t (Yt (xb n t) m s) A fun r A'=>
  ∃held' live',Asked n t A held live (yk n m s) 1 r A' held' live'/\((r.e≠0/\A'.b=A.b)\/ ∃g:Nat,r.at_=((8*g:Nat):Int)/\A'.b=zeroed A.b (8*g) (yk n m s).toNat):=by
 have hn1:=hf.n1
 have e64:i64.wrap ((xb n t).pages*64)=((64*n:Nat):Int):=by
  show i64.wrap (((n:Nat):Int)*64)=_
  rw[show((n:Nat):Int)*64=((64*n:Nat):Int)by omega,wN _ (by omega)]
 have bad:yk n m s=0->Rn n t (T.op .steps fun x=>(va 11 x).bind fun r3=>(T.ret ⟨r3.at_,r3.n,r3.byte,r3.c1,r3.c2,r3.c3,r3.c4,r3.c5,r3.e,r3.lin,r3.touch⟩:T Res)) A fun r A'=>
   ∃held' live',Asked n t A held live (yk n m s) 1 r A' held' live'/\((r.e≠0/\A'.b=A.b)\/ ∃g:Nat,r.at_=((8*g:Nat):Int)/\A'.b=zeroed A.b (8*g) (yk n m s).toNat):=by
  intro h0
  refine Rn.steps (Rn.run (wA hf) (Rn.ret ⟨held,live,⟨((Fr.refl askR A).mono (fun _ h=>h) (by omega)).tell _,hi.w fun r i=>rfl,hs.same fun i=>rfl,⟨A.steps,Nat.le_refl _,Nat.le_refl _,rfl,fun hh=>absurd hh (by simp[Res.none])⟩,.inl ⟨rfl,rfl,rfl,.inl ⟨rfl,.inl (by omega)⟩⟩⟩,.inl ⟨by simp[Res.none],rfl⟩⟩))
 have good : ∀z:Int,z<9223372036854775808->yk n m s=z->0<=z->Rn n t ((jE (xb n t) z 1).bind fun r6=>bif r6.snd.2 != 0 then(T.op .steps fun x8=>(va r6.snd.2 x8).bind fun r9=>(T.ret ⟨r9.at_,r9.n,r9.byte,r9.c1,r9.c2,r9.c3,r9.c4,r9.c5,r9.e,r9.lin,r9.touch⟩:T Res)) else
   yA m s r6.1 r6.snd.1 z (xb n t) 0 0 0 0 0 0 0 0 0 0 0 0 fun _=>(VX (xb n t) r6.1 r6.snd.1 z).bind fun r9=>(T.ret ⟨r9.at_,r9.n,r9.byte,r9.c1,r9.c2,r9.c3,r9.c4,r9.c5,r9.e,r9.lin,r9.touch⟩:T Res)) A fun r A'=>
   ∃held' live',Asked n t A held live (yk n m s) 1 r A' held' live'/\((r.e≠0/\A'.b=A.b)\/ ∃g:Nat,r.at_=((8*g:Nat):Int)/\A'.b=zeroed A.b (8*g) (yk n m s).toNat):=by
  intro z hz hc hz0
  rw[hc]
  refine Rn.bind (xbU hf hme hself (by omega) hi) ?_
  rintro ⟨k,u,e⟩ A1 ⟨held',hpl,h1,hfr1⟩
  simp only
  rcases hpl with⟨rfl,h2,h3,h4⟩|⟨g,x,h2,h3,rfl,h5,h6,h7,h8⟩
  ·simp only at h2 h3 h4
   have he:(e != 0)=true:=by
    rcases h4 with⟨h4,_⟩|⟨_,_,⟨h4,_⟩|⟨h4,_⟩⟩<;>rw[h4]<;>rfl
   refine Rn.yes he (Rn.steps ?_)
   refine Rn.run (wA hf) (Rn.ret ⟨held',live,⟨(hfr1.mono (xan hf) (by omega)).tell _,h1.w fun r i=>rfl,(hs.fr hfr1 (by unfold srcR;simp)).same fun i=>rfl,⟨A1.steps,hfr1.lo,Nat.le_refl _,rfl,fun hh=>absurd hh (by simpa[Res.none]using he)⟩,.inl ⟨rfl,rfl,rfl,h4⟩⟩,.inl ⟨?_,hfr1.b⟩⟩)
   simpa[Res.none]using he
  ·simp only[Prod.mk.injEq]at h2
   obtain⟨rfl,rfl,rfl⟩:=h2
   refine Rn.no rfl ?_
   have hgn:g<n*8:=HInv.small hf h1 (xC _ _ _)
   have hs1:A1.self=(me:Int):=by rw[hfr1.self,hself]
   obtain⟨y,rfl⟩ : ∃y:Nat,z=(y:Int):=⟨z.toNat,by omega⟩
   refine xvX hf (by omega) (by omega) fun A2 hA2 =>?_
   have hw2 : ∀r i,A2.w r i=A1.w r i:=by intro r i;rw[hA2]
   have hs2:A2.self=(me:Int):=by rw[hA2];exact hs1
   have hst2:A2.steps=A1.steps+y:=by rw[hA2]
   have hb2:A2.b=zeroed A.b (8*g) y:=by rw[hA2];show zeroed A1.b _ _=_;rw[hfr1.b]
   unfold VX xeC
   rw[T.bind_assoc]
   refine Rn.bind (xiN hf (A:=A2) (z:=y) hme hs2 hgn (by omega) (by omega) ((hs.fr hfr1 (by unfold srcR;simp)).same fun i=>hw2 11 i)) ?_
   rintro _ A3 ⟨k1,k2,k3⟩
   refine Rn.steps (Rn.tell ?_)
   have e8:i64.wrap ((g:Int)*8)=((8*g:Nat):Int):=by rw[show(g:Int)*8=((8*g:Nat):Int)by omega,wN _ (by omega)]
   rw[e8]
   have hlo:=k2.lo
   have hhi:=k2.hi
   have hlo1:=hfr1.lo
   have hhi1:=hfr1.hi
   refine Rn.ret ⟨_,_,⟨⟨fun q hq i =>?_,by show A3.self=_;rw[k2.self,hs2,hself],?_,?_,rfl⟩,((h1.w (A':=A2) hw2).fr k2 (by simp)).w fun r i=>rfl,k1.same fun i=>rfl,⟨A3.steps,by omega,Nat.le_refl _,rfl,fun _=>by omega⟩,.inr ⟨g,x,rfl,h3,rfl,rfl,h5,h6,h7,h8⟩⟩,.inr ⟨g,rfl,?_⟩⟩
   ·show A3.w q i=_
    rw[k2.w q (by unfold askR at hq;simp at hq |-;omega),hw2,hfr1.w q (fun hh=>hq (xan hf q hh))]
   ·show A.steps<=A3.steps;omega
   ·show A3.steps<=A.steps+80000000000;omega
   ·show A3.b=_
    rw[k2.b,hb2,Int.toNat_natCast]
 unfold Yt KI
 refine Rn.no (by show(((n:Nat):Int)==0)=false;simp;omega) ?_
 by_cases h1:m<0
 ·exact Rn.yes (decide_eq_true h1) (bad (by unfold yk;rw[if_neg (by omega)]))
 refine Rn.no (decide_eq_false h1) ?_
 by_cases h2:s<0
 ·exact Rn.yes (decide_eq_true h2) (bad (by unfold yk;rw[if_neg (by omega)]))
 refine Rn.no (decide_eq_false h2) ?_
 by_cases h3:s>0
 ·refine Rn.yes (decide_eq_true h3) (Rn.yes (by rw[show(s==0)=false by simp;omega];rfl) ?_)
  rw[e64]
  have ed:Int.tdiv ((64*n:Nat):Int) s=((64*n:Nat):Int) / s:=Int.tdiv_eq_ediv_of_nonneg (by omega)
  have hdle:((64*n:Nat):Int) / s<=((64*n:Nat):Int):=Int.ediv_le_self _ (by omega)
  have hdge:0<=((64*n:Nat):Int) / s:=Int.ediv_nonneg (by omega) (by omega)
  rw[ed,w64 (x:=((64*n:Nat):Int) / s) (by omega) (by omega)]
  have e6:((64*n:Nat):Int)=64*(n:Int):=by omega
  by_cases h4:m>((64*n:Nat):Int) / s
  ·refine Rn.yes (decide_eq_true h4) (bad ?_)
   unfold yk
   rw[if_neg (by rw[e6]at h4;omega)]
  ·refine Rn.no (decide_eq_false h4) ?_
   have hms:m*s<=((64*n:Nat):Int):=by
    have h5:=Int.mul_le_mul_of_nonneg_right (show m<=((64*n:Nat):Int) / s by omega) (show 0<=s by omega)
    have h6:=Int.ediv_mul_le ((64*n:Nat):Int) (show s≠0 by omega)
    omega
   have hms0:0<=m*s:=Int.mul_nonneg (by omega) (by omega)
   have ew:i64.wrap (m*s)=m*s:=w64 (by omega) (by omega)
   simp only[ew]
   exact good (m*s) (by omega) (by unfold yk;rw[if_pos ⟨by omega,by omega,.inr (by rw[e6]at h4;omega)⟩]) hms0
 ·obtain rfl:s=0:=by omega
  refine Rn.no (decide_eq_false h3) ?_
  have ew:i64.wrap (m*0)=0:=by rw[Int.mul_zero];rfl
  simp only[ew]
  exact good 0 (by omega) (by unfold yk;rw[if_pos ⟨by omega,by omega,.inl rfl⟩,Int.mul_zero]) (by omega)
end
end
section
open Go Go.RowKit Lx
def upTo:Nat->Nat->List Nat
 | _,0 =>[]
 | a,k+1=>a::upTo (a+1) k
theorem xgp{x:Nat} : ∀ {a k:Nat},x∈upTo a k↔a<=x/\x<a+k
 | a,0=>by simp[upTo]
 | a,k+1=>by simp only[upTo,List.mem_cons,xgp (a:=a+1) (k:=k)];omega
theorem xgq : ∀ {a k:Nat},(upTo a k).Nodup
 | a,0=>List.nodup_nil
 | a,k+1=>by
  simp only[upTo,List.nodup_cons]
  exact⟨fun h=>by have:=xgp.1 h;omega,xgq⟩
theorem xcB{f:Nat->Int} : ∀ (k a:Nat),1<=a->(∀m,a<=m->m<a+k->f (m-1)=if m+1=a+k then 0 else((m+1:Nat):Int))->linkedN f (upTo a k)
 | 0,a,ha,h=>trivial
 | k+1,a,ha,h=>by
  refine⟨?_,xcB k (a+1) (by omega) fun m h1 h2 =>?_⟩
  ·rw[h a (by omega) (by omega)]
   cases k with
   | zero=>rw[if_pos (by omega)];rfl
   | succ k=>rw[if_neg (by omega)];rfl
  ·rw[h m (by omega) (by omega)]
   by_cases hm:m+1=a+(k+1)
   ·rw[if_pos hm,if_pos (by omega)]
   ·rw[if_neg hm,if_neg (by omega)]
theorem xvY:body=0:=by decide
theorem xxO:bt0 0=0:=by decide
def xgr(self:Int)(b:List Int)(steps:Nat):AS:=⟨fun _ _=>0,b,self,steps,none⟩
structure Empty(n t:Nat)(A:AS):Prop where
 pages : ∀q,A.w 7 q=if q=0 then pw 1 n 0 0 else if 1<n/\q=n-1 then pw 2 n 0 0 else 0
 bins : ∀b,b<9->A.w 3 b=if lg n=b then 1 else 0
 pool:A.w 4 0=1
 nodes : ∀m,1<=m->m<=nodesN n t->A.w 17 (m-1)=if m=nodesN n t then 0 else((m+1:Nat):Int)
 rest : ∀r,r≠3->r≠4->r≠7->r≠17 ->∀i,A.w r i=0
section
variable{n t:Nat}(hf:Small n t){A:AS}
include hf
theorem xiO:1<=nodesN n t:=by
 have:=hf.t1
 unfold nodesN
 have:1<=t*(2*t+3):=Nat.mul_pos (by omega) (by omega)
 omega
theorem xvZ:(ZF (xb n t)).run (xl n t) A=some ((),A.lay 0 n):=by
 unfold ZF xc9
 have:=xdF hf.toFew (A:=A) (p:=0) (m:=n) (by omega)
 rw[T.run_bind,show(xb n t).pages=((n:Nat):Int)from rfl,show(0:Int)=((0:Nat):Int)from rfl,this]
 rfl
theorem xv0:qW (xb n t)=(nodesN n t:Int):=by
 have hn:=hf.n2
 have hn1:=hf.n1
 have ht:=hf.t2
 have h1:t*4*(n+1)<=64*4*257:=Nat.mul_le_mul (Nat.mul_le_mul_right 4 ht) (by omega)
 have h2:t*(2*t+3)<=64*131:=Nat.mul_le_mul ht (by omega)
 unfold qW nodesN
 rw[show(xb n t).pages=((n:Nat):Int)from rfl,show(xb n t).threads=((t:Nat):Int)from rfl,show(((n:Nat):Int)==0)=false by simp;omega]
 simp only[cond_false]
 have e1:i64.wrap ((t:Int)*4)=((t*4:Nat):Int):=by rw[show(t:Int)*4=((t*4:Nat):Int)by omega,wN _ (by omega)]
 have e2:i64.wrap ((n:Int)+1)=((n+1:Nat):Int):=xF hf.toFew (by omega)
 have e3:i64.wrap (i64.wrap (2*(t:Int))+3)=((2*t+3:Nat):Int):=by rw[w64 (x:=2*(t:Int)) (by omega) (by omega),w64 (by omega) (by omega)];omega
 rw[e1,e2,e3,<- Int.natCast_mul,<- Int.natCast_mul,wN (t*4*(n+1)) (by omega),wN (t*(2*t+3)) (by omega),wrap_add hf.toFew (by omega)]
theorem xv1(h4:True):Rn n t (ZH (xb n t)) A fun _ A'=>Fr [4,17] 5000 A A'/\A'.w 4 0=1/\ ∀m,1<=m->m<=nodesN n t->A'.w 17 (m-1)=if m=nodesN n t then 0 else((m+1:Nat):Int):=by
 have hN:=hf.nodes
 have hN1:=xiO hf
 have hn1:=hf.n1
 unfold ZH xdj wk
 have hp0:(wV (xb n t)).run (xl n t) A=some (false,A):=by
  unfold wV ZG
  rw[show((xb n t).pages==0)=false by show(((n:Nat):Int)==0)=false;simp;omega]
  rfl
 refine Rn.run hp0 (Rn.no rfl ?_)
 refine Rn.loop (fun r i A1 =>∃k:Nat,i=((k+1:Nat):Int)/\k<=nodesN n t/\r=nodesN n t-k/\Fr [4,17] k A A1/\ ∀m,1<=m->m<=k->A1.w 17 (m-1)=if m=nodesN n t then 0 else((m+1:Nat):Int)) ?_ xa (nodesN n t) _ A (by unfold xa;omega) ⟨0,rfl,by omega,rfl,Fr.refl _ _,fun m h1 h2=>by omega⟩
 rintro r i A1 κ' ⟨k,rfl,hk,rfl,hfr,hw⟩ hloop
 unfold xba
 rw[xv0 hf]
 by_cases h:k<nodesN n t
 ·refine Rn.yes (by rw[dT];omega) ?_
  rw[xF hf.toFew (x:=k+1) (by omega)]
  have ha:=at17 hf.toFew (m:=k+1) (by omega) (by omega)
  have hz:k<Zr n t 17:=h
  by_cases hl:k+1=nodesN n t
  ·refine Rn.yes (by rw[beq_iff_eq];omega) (Rn.store ha (by omega) hz (hloop (nodesN n t-(k+1)) _ _ (by omega) ⟨k+1,rfl,by omega,rfl,hfr.trans (Fr.sett (R :=[17]) A1 _ (by simp)),fun m h1 h2 =>?_⟩))
   simp only[AS.tick_w,AS.set_w]
   by_cases hm:m=k+1
   ·subst hm;rw[if_pos ⟨trivial,rfl⟩,if_pos hl]
   ·rw[if_neg (by omega)];exact hw m h1 (by omega)
  ·refine Rn.no (by rw[beq_eq_false_iff_ne];omega) (Rn.store ha (by omega) hz (hloop (nodesN n t-(k+1)) _ _ (by omega) ⟨k+1,rfl,by omega,rfl,hfr.trans (Fr.sett (R :=[17]) A1 _ (by simp)),fun m h1 h2 =>?_⟩))
   simp only[AS.tick_w,AS.set_w]
   by_cases hm:m=k+1
   ·subst hm
    rw[if_pos ⟨trivial,rfl⟩,if_neg hl]
    have:=jc (k+1+1) 0 (by omega) (by omega)
    rw[show({idx:=((k+1+1:Nat):Int),mark:=false,ver:=0}:Ref)=⟨((k+1+1:Nat):Int),false,((0:Nat):Int)⟩from rfl,this]
    try omega
   ·rw[if_neg (by omega)];exact hw m h1 (by omega)
 ·obtain rfl:k=nodesN n t:=by omega
  refine Rn.no (by rw[dF];omega) ?_
  refine Rn.store (at4 hf.toFew) (by omega) (by simp[Zr]) (Rn.ret ⟨hfr.trans (Fr.sett (R :=[4]) A1 _ (by simp)),by simp,fun m h1 h2 =>?_⟩)
  simp only[AS.tick_w,AS.set_w]
  rw[if_neg (by omega)];exact hw m h1 h2
theorem Empty.inv(h:Empty n t A):HInv n t A (fun _=>none)/\SI n t A (fun _=>none):=by
 have hn:=hf.n2
 have hn1:=hf.n1
 have hN:=hf.nodes
 have hN1:=xiO hf
 have hsl : ∀p,slabAt [⟨n,.free⟩] p=none:=fun p=>by rw[vg];split<;>rfl
 have hrn : ∀p,runAt [⟨n,.free⟩] p=none:=fun p=>by
  rw[vh];split
  ·rw[if_neg (by rintro ⟨_,hh⟩;cases hh)]
  ·rfl
 refine⟨⟨h.rest 0 (by omega) (by omega) (by omega) (by omega) 0,[⟨n,.free⟩],fun _=>0,fun _=>0,fun _ =>[],fun _ =>[],upTo 1 (nodesN n t),?_⟩,fun g hg _=>h.rest 11 (by omega) (by omega) (by omega) (by omega) g,fun g z hg hl=>(by cases hl)⟩
 refine⟨⟨by simp[plen],fun s hs =>?_,fun p hp =>?_,fun b hb =>?_⟩,⟨fun _=>rfl,trivial⟩,fun s hs =>?_,by rw[h.rest 1 (by omega) (by omega) (by omega) (by omega)];omega,fun p hp=>by omega,fun p c o hp =>?_,fun p hp _=>by rw[h.rest 8 (by omega) (by omega) (by omega) (by omega),xxO],fun p hp=>⟨h.rest 9 (by omega) (by omega) (by omega) (by omega) p,trivial⟩,fun p hp g hg=>(by cases hg),
  fun i hi =>.inl (h.rest 12 (by omega) (by omega) (by omega) (by omega) i),fun i hi=>⟨h.rest 13 (by omega) (by omega) (by omega) (by omega) i,trivial⟩,fun i hi=>⟨List.nodup_nil,fun m hm=>(by cases hm)⟩,fun i j m _ _ hm=>(by cases hm),fun m k h1 h2 h3 =>.inl (h.rest 18 (by omega) (by omega) (by omega) (by omega) _),⟨0,by omega,?_,xcB _ 1 (by omega) fun m h1 h2 =>?_⟩,⟨xgq,fun m hm =>?_⟩,fun g c hg=>(by cases hg),fun g k =>?_,fun p c o j hp =>?_,⟨fun _ =>[],fun q hq=>⟨by simp,by rw[h.rest 15 (by omega) (by omega) (by omega) (by omega)];rfl,List.nodup_nil,fun k hk=>absurd hk (Nat.not_lt_zero _),fun m hm=>by cases hm⟩,fun q q' m _ _ hm=>by cases hm⟩⟩
 ·simp only[List.mem_singleton]at hs
  subst hs
  exact⟨hn1,fun c o hh=>by cases hh⟩
 ·rw[h.pages,yQ,if_pos hp]
  unfold Sg.word
  simp only
  by_cases h0:p=0
  ·rw[if_pos h0,if_pos h0];rfl
  ·rw[if_neg h0,if_neg h0]
   by_cases h1:p=n-1
   ·rw[if_pos ⟨by omega,h1⟩,if_pos ⟨by omega,trivial⟩]
   ·rw[if_neg (fun hh=>h1 hh.2),if_neg (by omega),xvY]
 ·rw[h.bins b hb]
  simp only[cntF,true_and]
  split<;>rfl
 ·simp only[List.mem_singleton]at hs
  subst hs;simp
 ·rw[hsl]at hp;cases hp
 ·rw[h.pool]
  obtain⟨k,hk⟩ : ∃k,nodesN n t=k+1:=⟨nodesN n t-1,by omega⟩
  rw[hk]
  simp only[upTo,hdn]
  have:=jc 1 0 (by omega) (by omega)
  rw[this];rfl
 ·rw[h.nodes m h1 (by omega)]
  by_cases hm:m=nodesN n t
  ·rw[if_pos hm,if_pos (by omega)]
  ·rw[if_neg hm,if_neg (by omega)]
 ·have:=xgp.1 hm
  exact⟨by omega,by omega,fun i hi hh=>by cases hh⟩
 ·rw[hrn];simp
 ·rw[hsl]at hp;cases hp
end
end
section
open Go Go.RowKit Lx
def AS.port(A:AS)(me:Int):AS :={A with self:=me,steps:=0,told:=none}
@[simp] theorem AS.port_w (A:AS) (me:Int):(A.port me).w=A.w:=rfl
@[simp] theorem AS.port_b (A:AS) (me:Int):(A.port me).b=A.b:=rfl
@[simp] theorem AS.port_self (A:AS) (me:Int):(A.port me).self=me:=rfl
@[simp] theorem AS.port_steps (A:AS) (me:Int):(A.port me).steps=0:=rfl
theorem Rep.port{n t:Nat}{A:AS}{s:DS}(h:Rep n t A s)(me:Int):Rep n t (A.port me) ⟨s.m,me,0,none⟩:=⟨h.len,h.row,h.bytes,rfl,rfl,rfl⟩
theorem xxP{n t:Nat}(me:Int)(b:List Int):Rep n t (xgr me b 0) ⟨⟨List.replicate (Br n t 19) 0,b⟩,me,0,none⟩:=by
 refine⟨by simp,fun r i hr hi =>?_,rfl,rfl,rfl,rfl⟩
 have hb:=wZ n t (show r+1<=19 by omega)
 have h1:Br n t (r+1)=Br n t r+Zr n t r:=rfl
 simp only
 rw[List.getElem?_replicate,if_pos (by omega)]
 rfl
section
variable{n t:Nat}(hf:Small n t){A:AS}
include hf
theorem xxQ{A0:AS}(h7 : ∀i,A0.w 7 i=0)(h3 : ∀i,A0.w 3 i=0):(∀q,(A0.lay 0 n).w 7 q=if q=0 then pw 1 n 0 0 else if 1<n/\q=n-1 then pw 2 n 0 0 else 0)/\ ∀b,b<9->(A0.lay 0 n).w 3 b=if lg n=b then 1 else 0:=by
 have hn1:=hf.n1
 refine⟨fun q =>?_,fun b hb =>?_⟩
 ·rw[xlC,h7]
  by_cases h0:q=0
  ·rw[if_pos ⟨by omega,h0⟩,if_pos h0]
  ·rw[if_neg (fun hh=>h0 hh.2),if_neg h0,Nat.zero_add]
 ·rw[xai (c:=fun _=>0) (fun b _=>h3 b) (fun b _=>by omega) 0 n b hb]
  by_cases hl:lg n=b
  ·rw[if_pos ⟨by omega,hl⟩,if_pos hl];rfl
  ·rw[if_neg (fun hh=>hl hh.2),if_neg hl];rfl
theorem xxR{A0 B A2:AS}{c:Nat}(h0 : ∀r i,A0.w r i=0)(hB : ∀r i,B.w r i=(A0.lay 0 n).w r i)(hfr:Fr [4,17] c B A2)(h4:A2.w 4 0=1)(hN : ∀m,1<=m->m<=nodesN n t->A2.w 17 (m-1)=if m=nodesN n t then 0 else((m+1:Nat):Int)):Empty n t A2:=by
 have hl:=xga A0 0 n
 obtain⟨k1,k2⟩:=xxQ hf (A0:=A0) (h0 7) (h0 3)
 exact⟨fun q=>by rw[hfr.w 7 (by simp),hB];exact k1 q,fun b hb=>by rw[hfr.w 3 (by simp),hB];exact k2 b hb,h4,hN,fun r h1 h2 h3 h5 i=>by rw[hfr.w r (by simp;omega),hB,hl.w r (by simp;omega),h0]⟩
end
end
section
open Go Go.RowKit Lx
theorem YQ{n:Nat}{s a:Int}{g:Nat}{x:HK}(hs:1<=s)(hr:GotRoom n s a g x):s<=((8*x.ext:Nat):Int):=by
 unfold GotRoom at hr
 cases hc:clsN s a with
 | some c=>
  rw[hc]at hr
  simp only at hr
  subst hr
  unfold clsN at hc
  simp only[HK.ext]
  repeat' split at hc
  all_goals first|(cases hc;omega)|cases hc
 | none=>
  rw[hc]at hr
  simp only at hr
  obtain⟨rfl,_⟩:=hr
  simp only[HK.ext,wK];omega
theorem xsB{n:Nat}(hn:1<=n){s a:Int}(hs:1<=s)(hs2:s<=64*n) : ¬NoRoom n (fun _=>none) s a:=by
 intro h
 unfold NoRoom at h
 cases hc:clsN s a with
 | some c=>
  rw[hc]at h
  rcases h 0 hn with⟨q,k,h1,_⟩|⟨d,j,_,_,h1,_⟩<;>cases h1
 | none=>
  rw[hc]at h
  obtain⟨p,_,_,h1⟩:=h 0 (Nat.zero_mod _) (by unfold wK;omega)
  rcases h1 with⟨q,k,h1,_⟩|⟨d,j,_,_,h1⟩<;>cases h1
end
end Go.Proofs.YtaegelbaghaooaaGreat
