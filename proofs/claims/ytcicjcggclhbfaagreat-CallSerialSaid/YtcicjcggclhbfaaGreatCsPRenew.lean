/- Part. -/
import Derived.Test.YtcicjcggclhbfaaGreatCsPList
set_option linter.all false
open Go.IntKind (i64 u64 u32 u8)
namespace Go.Proofs.YtcicjcggclhbfaaGreat
open Go Go.RowKit Lx
def renR:List Nat :=[0,1,3,4,5,6,7,8,9,10,11,12,13,14,17,18]
def copied(b:List Int)(p q m:Nat):List Int:=(List.range m).foldl (fun b i=>b.set (q+i) (b.getD (p+i) 0)) b
theorem qw(b:List Int)(p q m:Nat):copied b p q (m+1)=(copied b p q m).set (q+m) ((copied b p q m).getD (p+m) 0):=by
 unfold copied
 rw[List.range_succ,List.foldl_append];rfl
theorem jX(b:List Int)(p q:Nat) : ∀m,(copied b p q m).length=b.length
 | 0=>rfl
 | m+1=>by rw[qw,List.length_set,jX b p q m]
theorem xk3(b:List Int)(p q:Nat) : ∀ (m i:Nat),(p+m<=q\/q+m<=p)->i<b.length->(copied b p q m)[i]? = if q<=i/\i<q+m then some (b.getD (p+(i-q)) 0)else b[i]?
 | 0,i,_,hi=>by rw[dA (by omega)];rfl
 | m+1,i,ha,hi=>by
  rw[qw]
  have ih:=xk3 b p q m
  by_cases he:i=q+m
  .subst he
   rw[List.getElem?_set_self (by rw[jX];exact hi),dB (by omega)]
   congr 1
   rw[show q+m-q=m by omega,List.getD_eq_getElem?_getD,List.getD_eq_getElem?_getD]
   by_cases hp:p+m<b.length
   .rw[ih (p+m) (by omega) hp,dA (by omega)]
   .rw[List.getElem?_eq_none (by rw[jX];omega),List.getElem?_eq_none (by omega)]
  .rw[List.getElem?_set_ne (by omega),ih i (by omega) hi]
   by_cases hc:q<=i/\i<q+m
   .rw[dB hc,dB (by omega)]
   .rw[dA hc,dA (by omega)]
def Bys(b:List Int):Prop :=∀x∈b,0<=x/\x<=255
theorem Bys.set{b:List Int}(h:Bys b)(i:Nat){x:Int}(h0:0<=x)(h1:x<=255):Bys (b.set i x):=fun y hy=>by
 rcases List.mem_or_eq_of_mem_set hy with hy|rfl
 .exact h y hy
 .exact⟨h0,h1⟩
theorem Bys.getD{b:List Int}(h:Bys b)(i:Nat):0<=b.getD i 0/\b.getD i 0<=255:=by
 rw[List.getD_eq_getElem?_getD]
 cases hi:b[i]? with
 | none=>exact⟨by simp,by simp⟩
 | some x=>exact h x (List.mem_of_getElem? hi)
theorem Bys.copied{b:List Int}(h:Bys b)(p q:Nat) : ∀m,Bys (copied b p q m)
 | 0=>h
 | m+1=>by rw[qw];exact(h.copied p q m).set _ ((h.copied p q m).getD _).1 ((h.copied p q m).getD _).2
theorem Bys.zeroed{b:List Int}(h:Bys b)(p:Nat) : ∀m,Bys (zeroed b p m)
 | 0=>h
 | m+1=>by
  have e:Go.Proofs.YtcicjcggclhbfaaGreat.zeroed b p (m+1)=(Go.Proofs.YtcicjcggclhbfaaGreat.zeroed b p m).set (p+m) 0:=by unfold Go.Proofs.YtcicjcggclhbfaaGreat.zeroed;rw[List.range_succ,List.foldl_append];rfl
  rw[e];exact(h.zeroed p m).set _ (by omega) (by omega)
inductive Renewed(n:Nat)(held:Nat->Option HK)(live:Nat->Option Nat)(b:List Int)(a s:Int):Res×Int->(Nat->Option HK)->(Nat->Option Nat)->List Int->Prop where
 | size (l:Int):s<1\/64*n<s->Renewed n held live b a s (Res.none 11 l,0) held live b
 | bad (l:Int):1<=s->s<=64*n->(∀g z:Nat,live g=some z->a≠((8*g:Nat):Int))->Renewed n held live b a s (Res.none 13 l,0) held live b
 | stay (l:Int) (g z:Nat) (x:HK):1<=s->s<=64*n->a=((8*g:Nat):Int)->live g=some z->held g=some x->s<=((8*x.ext:Nat):Int)->Renewed n held live b a s (⟨((8*g:Nat):Int),((8*x.ext:Nat):Int),0,0,0,0,0,0,0,l,0⟩,(z:Int)) held (updS live g (some s.toNat)) b
 | none (l:Int) (g z:Nat) (x:HK):1<=s->s<=64*n->a=((8*g:Nat):Int)->live g=some z->held g=some x->((8*x.ext:Nat):Int)<s->NoRoom n held s 1->Renewed n held live b a s (Res.none 15 l,0) held live b
 | go (l:Int) (g z:Nat) (x:HK) (g':Nat) (y:HK):1<=s->s<=64*n->a=((8*g:Nat):Int)->live g=some z->held g=some x->((8*x.ext:Nat):Int)<s->held g'=none->GotRoom n s 1 g' y->HG n (upd held g' (some y))->Renewed n held live b a s (⟨((8*g':Nat):Int),((8*y.ext:Nat):Int),0,0,0,0,0,0,0,l,0⟩,(z:Int)) (upd (upd held g' (some y)) g Option.none) (updS (updS live g' (some s.toNat)) g Option.none) (copied b (8*g) (8*g') z)
section
variable{n t:Nat}(hf:Small n t){A:AS}{held:Nat->Option HK}{live:Nat->Option Nat}
include hf
theorem KA{me g k:Nat}(ah:me<t)(aa:A.self=(me:Int))(hg:g<n*8)(hk:k<n*8):(qc (xd n t) (g:Int) (k:Int)).run (xo n t) A=some (false,A):=by
 unfold qc KU
 simp only[T.run,xo,aa,at6 hf ah,at11 hf.toFew hg,at11 hf.toFew hk]
 rw[show(((Br n t 6+me:Nat):Int) == -1)=false from dO.2 (by omega),show(((Br n t 11+g:Nat):Int) == -1)=false from dO.2 (by omega),show(((Br n t 11+k:Nat):Int) == -1)=false from dO.2 (by omega)]
 rfl
theorem xk4{g:Nat}{x:HK}{s to u:Int}{has:Bool}(hi:HInv n t A held)(hg:held g=some x):(VG (xd n t) ⟨(g:Int),s,to,u,has⟩).run (xo n t) A=some ((((8*x.ext:Nat):Int),⟨(g:Int),s,to,u,has⟩),A.tick):=by
 have hn:=hf.n2
 have dc:=HInv.small hf hi hg
 obtain⟨_,S,mp,vr,rem,bag,pl,h⟩:=hi
 have ir:=h.geo hg
 unfold VG xap
 rw[T.run_bind,show(⟨(g:Int),s,to,u,has⟩:Lx.Rn).grain=(g:Int)from rfl,Yp hf dc]
 simp only
 cases x with
 | blk c=>
  obtain⟨hc,p,j,hp,hj,lx⟩:=ir
  obtain⟨ow,j',hs,_⟩:=yj (h.hblk g c hg)
  rw[xdc hf h hs]
  rw[show((⟨3,1,(c:Int),(ow:Int)⟩:Pg).kind==3)=true from rfl]
  simp only[cond_true]
  rw[dD (show 0<=(c:Int)/\(c:Int)<4 by omega)]
  simp only[cond_true,T.run]
  rcases(by omega:c=0\/c=1\/c=2\/c=3)with rfl|rfl|rfl|rfl<;>rfl
 | run k=>
  obtain⟨hk,p,hp,rfl⟩:=ir
  have e8:8*p / 8=p:=by omega
  obtain⟨L,R,rfl,bw⟩:=kA _ _ _ ((h.hrun _ _).1 hg).2
  rw[e8]at bw
  obtain⟨hw,_⟩:=h.laid.at_
  rw[bw]at hw
  rw[e8,hw,show(Kd.run).head k=pw 4 k 0 0 from rfl,vu 4 k 0 0 (by omega) (by omega) (by omega) (by omega)]
  rw[show((⟨((4:Nat):Int),(k:Int),((0:Nat):Int),((0:Nat):Int)⟩:Pg).kind==3)=false from rfl,show((⟨((4:Nat):Int),(k:Int),((0:Nat):Int),((0:Nat):Int)⟩:Pg).kind==4)=true from rfl]
  simp only[cond_false,cond_true,T.run]
  rw[show(k:Int)*64=((k*64:Nat):Int)by omega,wN _ (by omega),show((8*(HK.run k).ext:Nat):Int)=((k*64:Nat):Int)by simp only[HK.ext];omega]
theorem xwd{g g' m:Nat}{s u:Int}{has:Bool}(hb:Bys A.b)(hl:8*g+m<=A.b.length)(mt:8*g'+m<=A.b.length)(hm:m<4096)(af:A.b.length<=1000000):(qh (xd n t) ⟨(g:Int),s,(g':Int),u,has⟩ (m:Int)).run (xo n t) A=some (((),⟨(g:Int),s,(g':Int),u,has⟩),{A with b:=copied A.b (8*g) (8*g') m,steps:=A.steps+2*m}):=by
 have key:Rn n t (qh (xd n t) ⟨(g:Int),s,(g':Int),u,has⟩ (m:Int)) A fun r A'=>r=((),⟨(g:Int),s,(g':Int),u,has⟩)/\A' = {A with b:=copied A.b (8*g) (8*g') m,steps:=A.steps+2*m}:=by
  unfold qh xaq vT
  refine Rn.loop (fun r i A1 =>∃k:Nat,i=(k:Int)/\k<=m/\r=m-k/\A1 = {A with b:=copied A.b (8*g) (8*g') k,steps:=A.steps+2*k}) ?_ xa m _ A (by unfold xa;omega) ⟨0,rfl,by omega,rfl,rfl⟩
  rintro r i A1 κ' ⟨k,rfl,hk,rfl,rfl⟩ ap
  unfold VH
  by_cases h:k<m
  .refine Rn.yes (by rw[dT];omega) ?_
   have e1:i64.wrap (i64.wrap ((⟨(g:Int),s,(g':Int),u,has⟩:Lx.Rn).grain*8)+(k:Int))=((8*g+k:Nat):Int):=by
    show i64.wrap (i64.wrap ((g:Int)*8)+(k:Int))=_
    rw[show(g:Int)*8=((8*g:Nat):Int)by omega,wN _ (by omega),wrap_add hf.toFew (by omega)]
   have e2:i64.wrap (i64.wrap ((⟨(g:Int),s,(g':Int),u,has⟩:Lx.Rn).to*8)+(k:Int))=((8*g'+k:Nat):Int):=by
    show i64.wrap (i64.wrap ((g':Int)*8)+(k:Int))=_
    rw[show(g':Int)*8=((8*g':Nat):Int)by omega,wN _ (by omega),wrap_add hf.toFew (by omega)]
   rw[e1,e2,xL hf.toFew (by omega)]
   have Ef:=hb.copied (8*g) (8*g') k
   have Gc:=Ef.getD (8*g+k)
   have dm:atI (copied A.b (8*g) (8*g') k) ((8*g+k:Nat):Int)=some ((copied A.b (8*g) (8*g') k).getD (8*g+k) 0):=by
    show(copied A.b (8*g) (8*g') k)[8*g+k]? = _
    rw[List.getD_eq_getElem?_getD,List.getElem?_eq_getElem (by rw[jX];omega)];rfl
   refine Rn.op (o :=.get _) (x:=(copied A.b (8*g) (8*g') k).getD (8*g+k) 0) (by simp only[xo,dm];rw[dB Gc]) ?_
   refine Rn.op (o :=.put _ _) (x:=()) (by simp only[xo];rw[dB Gc]) (ap (m-(k+1)) _ _ (by omega) ⟨k+1,rfl,by omega,rfl,?_⟩)
   rw[qw]
   show(⟨A.w,(copied A.b (8*g) (8*g') k).set (8*g'+k) _,A.self,A.steps+2*k+1+1,A.told⟩:AS)=⟨A.w,_,A.self,A.steps+2*(k+1),A.told⟩
   rw[show A.steps+2*k+1+1=A.steps+2*(k+1)by omega]
  .obtain rfl:k=m:=by omega
   exact Rn.no (by rw[dF];omega) (Rn.ret ⟨rfl,rfl⟩)
 obtain⟨r,A',h1,rfl,rfl⟩:=key
 exact h1
theorem Zn{x:Lx.Rn}{r:Res}:(jy (xd n t) x r).run (xo n t) A=some ((r,x),A.tell r):=by
 unfold jy xeI
 simp only[T.run,xo]
 rfl
theorem xk5{g s to u:Int}:(Kb (xd n t) ⟨g,s,to,u,false⟩).run (xo n t) A=some (((),⟨g,s,to,u,false⟩),A):=by
 unfold Kb xeY
 rfl
theorem xzS{me g z v:Nat}{s rm l:Int}(ah:me<t)(aa:A.self=(me:Int))(hg:g<n*8)(cq:1<=s)(et:s<=16384)(hs:SI n t A live)(hw:A.w 11 g=Stt.word ⟨1,(z:Int),0,(v:Int)⟩):Rn n t (xcN (xd n t) ⟨(g:Int),s,0,0,false⟩ ⟨1,(z:Int),0,(v:Int),true,l⟩ rm) A fun r A'=>
  ∃A1,Fr [6,11] 2 A A1/\A1.steps=A.steps+2/\SI n t A1 (updS live g (some s.toNat))/\A'=A1.tell r.1.1/\r=((⟨((8*g:Nat):Int),rm,0,0,0,0,0,0,0,i64.wrap (A1.steps:Int),0⟩,true),⟨(g:Int),s,0,0,false⟩):=by
 have hn:=hf.n2
 obtain⟨v2,D7,Dc⟩:=Ky hf (A:=A) ah aa
 have bp:(YA (xd n t) (g:Int) ⟨1,(z:Int),0,(v:Int)⟩ s).run (xo n t) A=some (true,(((A.set 6 me (u64.wrap (A.w 6 me+1))).tick).set 11 g (Stt.word ⟨1,s,0,(v2:Int)⟩)).tick):=by
  unfold YA KX
  rw[T.run_bind,Kx hf ah aa hg]
  simp only[cond_false]
  rw[T.run_bind,Dc]
  simp only[T.run,xo,at11 hf.toFew hg,xK (show g<Zr n t 11 from hg) 19 (by omega)]
  rw[dB (by simp[hw])]
 unfold xcN xe2
 refine Rn.run bp (Rn.no rfl (Rn.steps ?_))
 have ao:Fr [6,11] 2 A ((((A.set 6 me (u64.wrap (A.w 6 me+1))).tick).set 11 g (Stt.word ⟨1,s,0,(v2:Int)⟩)).tick):=(Fr.sett (R :=[6,11]) A _ (by simp)).trans (Fr.sett (R :=[6,11]) _ _ (by simp))
 have hSI:SI n t ((((A.set 6 me (u64.wrap (A.w 6 me+1))).tick).set 11 g (Stt.word ⟨1,s,0,(v2:Int)⟩)).tick) (updS live g (some s.toNat)):=by
  refine hs.born (by omega) (by omega) D7 fun i =>?_
  rw[show((s.toNat:Nat):Int)=s by omega]
  simp
 have ce:((((A.set 6 me (u64.wrap (A.w 6 me+1))).tick).set 11 g (Stt.word ⟨1,s,0,(v2:Int)⟩)).tick).steps=A.steps+2:=rfl
 generalize((((A.set 6 me (u64.wrap (A.w 6 me+1))).tick).set 11 g (Stt.word ⟨1,s,0,(v2:Int)⟩)).tick)=A1 at *
 refine Rn.run (Zn hf) (Rn.run (xk5 hf) (Rn.ret ⟨A1,ao,ce,hSI,rfl,?_⟩))
 show(((⟨i64.wrap ((g:Int)*8),rm,0,0,0,0,0,0,0,i64.wrap (A1.steps:Int),0⟩:Res),true),(⟨(g:Int),s,0,0,false⟩:Lx.Rn))=_
 rw[show(g:Int)*8=((8*g:Nat):Int)by omega,wN _ (by omega)]
theorem xCg{me g z v:Nat}{x:HK}{s l:Int}(aj:n<=60)(ah:me<t)(aa:A.self=(me:Int))(cq:1<=s)(et:s<=64*n)(hi:HInv n t A held)(hs:SI n t A live)(hg:held g=some x)(hlg:live g=some z)(Mf:z<=8*x.ext)(oh:((8*x.ext:Nat):Int)<s)(hb:Bys A.b)(sw:A.b.length=64*n)
  (hv:v<4294967296) (hw:A.w 11 g=Stt.word ⟨1,(z:Int),0,(v:Int)⟩):Rn n t (xke (xd n t) ⟨(g:Int),s,0,0,false⟩ ⟨1,(z:Int),0,(v:Int),true,l⟩) A fun r A'=>
  ∃ab ac,HInv n t A' ab/\SI n t A' ac/\Ft renR 90000000000 A A' r.1.1/\r.1.2=true/\
   ((r.1.1=Res.none 15 l/\NoRoom n held s 1/\ab=held/\ac=live/\A'.b=A.b/\ ∀i,A'.w 11 i=A.w 11 i)\/
    ∃ (g':Nat) (y:HK) (k:Nat),r.1.1=⟨((8*g':Nat):Int),((8*y.ext:Nat):Int),0,0,0,0,0,0,0,i64.wrap (k:Int),0⟩/\A.steps<k/\k<=A'.steps/\held g'=Option.none/\(GotRoom n s 1 g' y/\HG n (upd held g' (some y)))/\ab=upd (upd held g' (some y)) g Option.none/\ac=updS (updS live g' (some s.toNat)) g Option.none/\A'.b=copied A.b (8*g) (8*g') z):=by
 have hn:=hf.n2
 have dc:=HInv.small hf hi hg
 have hgx:g+x.ext<=n*8:=by
  have:=hi.hg
  cases x with
  | blk c=>obtain⟨_,p,j,q1,q2,q3⟩:=this.blk g c hg;have:=yi q2;simp only[HK.ext];omega
  | run m=>obtain⟨_,p,q1,q2⟩:=this.run g m hg;simp only[HK.ext];omega
 unfold xke xnr xe3
 refine Rn.yes rfl ?_
 refine Rn.bind (xde hf ah aa (by omega) hi) ?_
 rintro ⟨k,u,e⟩ A1 ⟨ab,bw,h1,ag⟩
 simp only
 rcases bw with⟨rfl,h2,h3,h4⟩|⟨g',y,h2,h3,rfl,h5,h6,h7,h8⟩
 .simp only at h2 h3 h4
  have Qx:e=15/\NoRoom n ab s 1:=by
   rcases h4 with⟨_,h4⟩|⟨_,_,⟨_,h4⟩|⟨h4,_,h5⟩⟩
   .omega
   .exact absurd h4 (by decide)
   .exact⟨h4,h5⟩
  clear h4
  obtain⟨rfl,h4⟩:=Qx
  refine Rn.yes rfl ?_
  refine Rn.run (Zn hf) (Rn.ret ⟨ab,live,h1.w fun r i=>rfl,(hs.fr ag (by unfold srcR;simp)).same fun i=>rfl,((ag.mono (S:=renR) (by unfold srcR renR;simp) (by omega)).tell _),rfl,.inl ⟨rfl,h4,rfl,rfl,ag.b,ag.w 11 (by unfold srcR;simp)⟩⟩)
 .simp only[dH]at h2
  obtain⟨rfl,rfl,rfl⟩:=h2
  have aq:g'≠g:=fun hh=>by subst hh;rw[hg]at h3;cases h3
  have pd:g'<n*8:=HInv.small hf h1 (xC _ _ _)
  have s7:=kh h5 h8
  have P8:g'+y.ext<=n*8:=by
   have:=h1.hg
   cases y with
   | blk c=>obtain⟨_,p,j,q1,q2,q3⟩:=this.blk g' c (xC _ _ _);have:=yi q2;simp only[HK.ext];omega
   | run m=>obtain⟨_,p,q1,q2⟩:=this.run g' m (xC _ _ _);simp only[HK.ext];omega
  have uh:(z:Int)<=s:=by omega
  have hz4:z<4096:=by omega
  refine Rn.no rfl ?_
  have emin:(if(⟨(g:Int),s,0,0,false⟩:Lx.Rn).size<(⟨1,(z:Int),0,(v:Int),true,l⟩:Seen).size then(⟨(g:Int),s,0,0,false⟩:Lx.Rn).size else(⟨1,(z:Int),0,(v:Int),true,l⟩:Seen).size)=((z:Nat):Int):=by
   show(if s<(z:Int)then s else(z:Int))=_
   rw[dA (by omega)]
  rw[emin]
  have f9:A1.self=(me:Int):=by rw[ag.self,aa]
  refine Rn.run (xwd hf (A:=A1) (g:=g) (g':=g') (m:=z) (by rw[ag.b];exact hb) (by rw[ag.b];omega) (by rw[ag.b];omega) (by omega) (by rw[ag.b];omega)) ?_
  have ae : ∀r i,({A1 with b:=copied A1.b (8*g) (8*g') z,steps:=A1.steps+2*z}:AS).w r i=A1.w r i:=fun _ _=>rfl
  have cm:({A1 with b:=copied A1.b (8*g) (8*g') z,steps:=A1.steps+2*z}:AS).b=copied A.b (8*g) (8*g') z:=by show copied A1.b _ _ _=_;rw[ag.b]
  have i7:({A1 with b:=copied A1.b (8*g) (8*g') z,steps:=A1.steps+2*z}:AS).self=(me:Int):=f9
  have E8:({A1 with b:=copied A1.b (8*g) (8*g') z,steps:=A1.steps+2*z}:AS).steps=A1.steps+2*z:=rfl
  generalize({A1 with b:=copied A1.b (8*g) (8*g') z,steps:=A1.steps+2*z}:AS)=A2 at *
  simp only
  obtain⟨v2,D7,Dc⟩:=Ky hf (A:=A2) ah i7
  have Fg:(qL (xd n t) (g':Int) (g:Int) s).run (xo n t) A2=some ((v2:Int),(((A2.set 6 me (u64.wrap (A2.w 6 me+1))).tick).set 11 g' (Stt.word ⟨2,s,(g:Int),(v2:Int)⟩)).tick):=by
   unfold qL YB
   rw[T.run_bind,KA hf ah i7 pd dc]
   simp only[cond_false]
   rw[T.run_bind,Dc]
   simp only[T.run,xo,at11 hf.toFew pd,xK (show g'<Zr n t 11 from pd) 19 (by omega)]
  refine Rn.run Fg ?_
  have D6 : ∀r i,((((A2.set 6 me (u64.wrap (A2.w 6 me+1))).tick).set 11 g' (Stt.word ⟨2,s,(g:Int),(v2:Int)⟩)).tick).w r i=if r=11/\i=g' then Stt.word ⟨2,s,(g:Int),(v2:Int)⟩else if r=6/\i=me then u64.wrap (A2.w 6 me+1)else A1.w r i:=fun r i=>by simp[ae]
  have Gq:((((A2.set 6 me (u64.wrap (A2.w 6 me+1))).tick).set 11 g' (Stt.word ⟨2,s,(g:Int),(v2:Int)⟩)).tick).b=A2.b:=rfl
  have mo:((((A2.set 6 me (u64.wrap (A2.w 6 me+1))).tick).set 11 g' (Stt.word ⟨2,s,(g:Int),(v2:Int)⟩)).tick).self=(me:Int):=i7
  have O9:((((A2.set 6 me (u64.wrap (A2.w 6 me+1))).tick).set 11 g' (Stt.word ⟨2,s,(g:Int),(v2:Int)⟩)).tick).steps=A2.steps+2:=rfl
  generalize((((A2.set 6 me (u64.wrap (A2.w 6 me+1))).tick).set 11 g' (Stt.word ⟨2,s,(g:Int),(v2:Int)⟩)).tick)=A3 at *
  have Fs:(xjK (xd n t) (g:Int) ⟨1,(z:Int),0,(v:Int)⟩ (g':Int) (v2:Int)).run (xo n t) A3=some (true,(A3.set 11 g (Stt.word ⟨3,0,(g':Int),(v2:Int)⟩)).tick):=by
   unfold xjK xlW
   rw[T.run_bind,KA hf ah mo dc pd]
   simp only[cond_false,T.run,xo,at11 hf.toFew dc,xK (show g<Zr n t 11 from dc) 19 (by omega)]
   rw[dB (by rw[D6,dA (by omega),dA (by omega),ag.w 11 (by unfold srcR;simp),hw])]
  refine Rn.run Fs (Rn.no rfl (Rn.steps ?_))
  have uj : ∀r i,((A3.set 11 g (Stt.word ⟨3,0,(g':Int),(v2:Int)⟩)).tick).w r i=if r=11/\i=g then Stt.word ⟨3,0,(g':Int),(v2:Int)⟩else A3.w r i:=fun r i=>by simp
  have Lp:((A3.set 11 g (Stt.word ⟨3,0,(g':Int),(v2:Int)⟩)).tick).b=A3.b:=rfl
  have ut:((A3.set 11 g (Stt.word ⟨3,0,(g':Int),(v2:Int)⟩)).tick).self=(me:Int):=mo
  have O8:((A3.set 11 g (Stt.word ⟨3,0,(g':Int),(v2:Int)⟩)).tick).steps=A3.steps+1:=rfl
  generalize((A3.set 11 g (Stt.word ⟨3,0,(g':Int),(v2:Int)⟩)).tick)=A4 at *
  refine Rn.run (Zn hf) ?_
  simp only
  generalize bp:(⟨i64.wrap ((g':Int)*8),((8*y.ext:Nat):Int),0,0,0,0,0,0,0,i64.wrap (A4.steps:Int),0⟩:Res)=res
  have iq:(YC (xd n t) (g':Int) (g:Int) s (v2:Int)).run (xo n t) (A4.tell res)=some ((),((((A4.tell res).set 11 g' (Stt.word ⟨1,s,0,(v2:Int)⟩)).tick).set 11 g 0).tick):=by
   unfold YC KY
   rw[T.run_bind,KA hf ah (A:=A4.tell res) ut pd dc]
   simp only[cond_false,T.run,xo,at11 hf.toFew dc,at11 hf.toFew pd,xK (show g<Zr n t 11 from dc) 19 (by omega),xK (show g'<Zr n t 11 from pd) 19 (by omega)]
   rw[dB (by rw[AS.tell_w,uj,dA (by omega),D6,dB ⟨rfl,rfl⟩])]
  refine Rn.run iq ?_
  have Mq : ∀r i,(((((A4.tell res).set 11 g' (Stt.word ⟨1,s,0,(v2:Int)⟩)).tick).set 11 g 0).tick).w r i=if r=11/\i=g then 0 else if r=11/\i=g' then Stt.word ⟨1,s,0,(v2:Int)⟩else A4.w r i:=fun r i=>by simp
  have Lo:(((((A4.tell res).set 11 g' (Stt.word ⟨1,s,0,(v2:Int)⟩)).tick).set 11 g 0).tick).b=A4.b:=rfl
  have ur:(((((A4.tell res).set 11 g' (Stt.word ⟨1,s,0,(v2:Int)⟩)).tick).set 11 g 0).tick).self=(me:Int):=ut
  have O7:(((((A4.tell res).set 11 g' (Stt.word ⟨1,s,0,(v2:Int)⟩)).tick).set 11 g 0).tick).steps=A4.steps+2:=rfl
  have O2:(((((A4.tell res).set 11 g' (Stt.word ⟨1,s,0,(v2:Int)⟩)).tick).set 11 g 0).tick).told=some res.cells:=rfl
  generalize(((((A4.tell res).set 11 g' (Stt.word ⟨1,s,0,(v2:Int)⟩)).tick).set 11 g 0).tick)=A5 at *
  have uv : ∀r i,r≠6->r≠11->A5.w r i=A1.w r i:=fun r i h6 Nq=>by
   rw[Mq,dA (by omega),dA (by omega),uj,dA (by omega),D6,dA (by omega),dA (by omega)]
  have hSI:SI n t A5 (updS (updS live g' (some s.toNat)) g Option.none):=by
   have q1:SI n t (A1.set 11 g' (Stt.word ⟨1,s,0,(v2:Int)⟩)) (updS live g' (some s.toNat)):=by
    refine(hs.fr ag (by unfold srcR;simp)).born (g:=g') (z:=s.toNat) (v:=v2) (by omega) (by omega) D7 fun i =>?_
    rw[show((s.toNat:Nat):Int)=s by omega]
    simp
   refine q1.ended fun i =>?_
   rw[Mq]
   by_cases e1:i=g
   .rw[dB ⟨rfl,e1⟩,dB e1]
   .rw[dA (by omega),dA e1]
    by_cases e2:i=g'
    .rw[dB ⟨rfl,e2⟩];simp[e2]
    .rw[dA (by omega),uj,dA (by omega),D6,dA (by omega),dA (by omega)];simp[e2]
  have hH:HInv n t A5 (upd held g' (some y)):=by
   obtain⟨q0,S,mp,vr,rem,bag,pl,q1⟩:=h1
   exact⟨by rw[uv 0 0 (by omega) (by omega)];exact q0,S,mp,vr,rem,bag,pl,q1.same fun r i hr=>uv r i (by omega) (by omega)⟩
  refine Rn.bind (xd1 hf (A:=A5) (g:=g) (x:=x) ah ur hH (by rw[upd_ne _ _ (Ne.symm aq)];exact hg)) ?_
  rintro _ A6 ⟨q1,q2,_⟩
  have F0:=ag.lo
  have Lb:=ag.hi
  have Pu:=q2.lo
  have P0:=q2.hi
  refine Rn.ret ⟨_,_,q1,hSI.fr q2 (by unfold relR;simp),⟨fun q hq i =>?_,by rw[q2.self,ur,aa],by omega,by omega,by rw[q2.told,O2]⟩,rfl,.inr ⟨g',y,A4.steps,?_,by omega,by omega,h3,⟨h8,h1.hg⟩,rfl,rfl,by rw[q2.b,Lo,Lp,Gq,cm]⟩⟩
  .rw[q2.w q (by unfold renR at hq;unfold relR;simp at hq |-;omega),uv q i (by unfold renR at hq;simp at hq;omega) (by unfold renR at hq;simp at hq;omega),ag.w q (by unfold renR at hq;unfold srcR;simp at hq |-;omega)]
  .rw[<- bp,show(g':Int)*8=((8*g':Nat):Int)by omega,wN _ (by omega)]
theorem xsE{me:Nat}{a s:Int}(aj:n<=60)(ah:me<t)(aa:A.self=(me:Int))(hi:HInv n t A held)(hs:SI n t A live)(sm : ∀g z,live g=some z ->∃x,held g=some x/\z<=8*x.ext)(hb:Bys A.b)(sw:A.b.length=64*n):Rn n t (qY (xd n t) a s) A fun r A'=>
  ∃ab ac,HInv n t A' ab/\SI n t A' ac/\Ft renR 90000000010 A A' r.1/\(∃l:Nat,A.steps<=l/\l<=A'.steps/\r.1.lin=i64.wrap l/\(r.1.e=0->A.steps<l))/\(r.1.e≠0 ->∀i,A'.w 11 i=A.w 11 i)/\Renewed n held live A.b a s r ab ac A'.b:=by
 have hn:=hf.n2
 have lu:=hf.n1
 have an : ∀g z,live g=some z->g<n*8:=fun g z hl=>by
  obtain⟨x,hx,_⟩:=sm g z hl
  exact HInv.small hf hi hx
 have tt:i64.wrap ((xd n t).pages*64)=((64*n:Nat):Int):=by
  show i64.wrap (((n:Nat):Int)*64)=_
  rw[show((n:Nat):Int)*64=((64*n:Nat):Int)by omega,wN _ (by omega)]
 have Cy : ∃e:Int,(YU (xd n t) a s).run (xo n t) A=some (e,A)/\((e=11/\(s<1\/64*n<s))\/(1<=s/\s<=64*n/\((e=13/\ ∀g z:Nat,live g=some z->a≠((8*g:Nat):Int))\/(e=0/\ ∃g:Nat,a=((8*g:Nat):Int)/\g<n*8)))):=by
  unfold YU xao
  rw[tt]
  by_cases h1:s<1
  .rw[dD h1];exact⟨11,rfl,.inl ⟨rfl,.inl h1⟩⟩
  rw[dC h1]
  by_cases h2:s>((64*n:Nat):Int)
  .rw[dD h2];exact⟨11,rfl,.inl ⟨rfl,.inr (by omega)⟩⟩
  rw[dC h2]
  by_cases h3:a<0
  .rw[dD h3];exact⟨13,rfl,.inr ⟨by omega,by omega,.inl ⟨rfl,fun g z hl hh=>by omega⟩⟩⟩
  rw[dC h3]
  by_cases h4:a>=((64*n:Nat):Int)
  .rw[dD h4];exact⟨13,rfl,.inr ⟨by omega,by omega,.inl ⟨rfl,fun g z hl hh=>by have:=an g z hl;omega⟩⟩⟩
  rw[dC h4]
  by_cases h5:a%8=0
  .have e8:(Int.tmod a 8 != 0)=false:=by rw[dR (by omega),h5];rfl
   rw[e8]
   exact⟨0,rfl,.inr ⟨by omega,by omega,.inr ⟨rfl,(a / 8).toNat,by omega,by omega⟩⟩⟩
  .have e8:(Int.tmod a 8 != 0)=true:=by rw[dR (by omega)];simpa using h5
   rw[e8]
   exact⟨13,rfl,.inr ⟨by omega,by omega,.inl ⟨rfl,fun g z hl hh=>by omega⟩⟩⟩
 obtain⟨e,l9,de⟩:=Cy
 unfold qY Wu
 refine Rn.no (by show(((n:Nat):Int)==0)=false;simp;omega) ?_
 refine Rn.run l9 ?_
 have bad : ∀e:Int,e≠0->(Renewed n held live A.b a s (Res.none e (i64.wrap (A.steps:Int)),0) held live A.b)->Rn n t (T.op .steps fun x3=>(jy (xd n t) (Lx.Rn.mk (i64.wrap (Int.tdiv a 8)) s 0 0 false) (Res.mk 0 0 0 0 0 0 0 0 e x3 0)).bind fun r4=>(T.ret (r4.1,0):T (Res×Int))) A fun r A'=>
   ∃ab ac,HInv n t A' ab/\SI n t A' ac/\Ft renR 90000000010 A A' r.1/\(∃l:Nat,A.steps<=l/\l<=A'.steps/\r.1.lin=i64.wrap l/\(r.1.e=0->A.steps<l))/\(r.1.e≠0 ->∀i,A'.w 11 i=A.w 11 i)/\Renewed n held live A.b a s r ab ac A'.b:=by
  intro e he hR
  exact Rn.steps (Rn.run (Zn hf) (Rn.ret ⟨held,live,hi.w fun r i=>rfl,hs.same fun i=>rfl,((Fr.refl renR A).mono (fun _ h=>h) (by omega)).tell _,⟨A.steps,dI _,dI _,rfl,fun hh=>absurd hh he⟩,(fun _ i=>rfl),hR⟩))
 rcases de with⟨rfl,h1⟩|⟨h1,h2,⟨rfl,h3⟩|⟨rfl,g,rfl,hg⟩⟩
 .exact Rn.yes rfl (bad 11 (by decide) (.size _ h1))
 .exact Rn.yes rfl (bad 13 (by decide) (.bad _ h1 h2 h3))
 refine Rn.no rfl ?_
 have ed:i64.wrap (Int.tdiv ((8*g:Nat):Int) 8)=(g:Int):=by
  rw[dS (by omega),show((8*g:Nat):Int) / 8=(g:Int)by omega,wN _ (by omega)]
 rw[ed]
 unfold vC
 rw[show xa=4095+1 from rfl,xu]
 unfold XT xe4
 simp only
 rcases xis hf ah aa hg hs with⟨k1,k2⟩|⟨z,v,k1,hv,hw,k2⟩
 .refine Rn.run k2 (Rn.yes rfl ?_)
  refine Rn.run (xk5 hf) (Rn.run (Zn hf) (Rn.ret ⟨held,live,hi.w fun r i=>rfl,hs.same fun i=>rfl,(((Fr.tick [] A).mono (S:=renR) (by simp) (by omega)).tell _),⟨A.steps+1,by omega,dI _,by simp,fun hh=>absurd hh (show ¬ ((13:Int)=0)by decide)⟩,(fun _ i=>rfl),.bad _ h1 h2 ?_⟩))
  intro q z hq hh
  obtain rfl:g=q:=by omega
  rw[k1]at hq;cases hq
 .obtain⟨x,hx,Mf⟩:=sm g z k1
  refine Rn.run k2 (Rn.no rfl ?_)
  have co:HInv n t A.tick held:=hi.w fun r i=>rfl
  have cq:SI n t A.tick live:=hs.same fun i=>rfl
  refine Rn.run (xk4 hf co hx) ?_
  simp only
  have dy:HInv n t A.tick.tick held:=hi.w fun r i=>rfl
  have et:SI n t A.tick.tick live:=hs.same fun i=>rfl
  have ae:Fr [] 2 A A.tick.tick:=(Fr.tick [] A).trans (Fr.tick [] _)
  have E8:A.tick.tick.steps=A.steps+2:=rfl
  by_cases ff:s<=((8*x.ext:Nat):Int)
  .refine Rn.yes (dD ff) ?_
   refine Rn.bind (xzS hf (A:=A.tick.tick) ah aa hg h1 (by omega) et hw) ?_
   rintro _ A' ⟨A1,q1,q2,q3,rfl,rfl⟩
   simp only
   have ar:=ae.trans q1 (S:=renR) (e:=4) (by simp) (by unfold renR;simp) (by omega)
   refine Rn.yes rfl (Rn.yes rfl (Rn.yes rfl (Rn.ret ⟨held,_,(dy.fr q1 (by simp)).w fun r i=>rfl,q3.same fun i=>rfl,(ar.mono (S:=renR) (fun _ h=>h) (by omega)).tell _,⟨A1.steps,by omega,dI _,rfl,fun _=>by omega⟩,(fun hh=>absurd rfl hh),?_⟩)))
   show Renewed n held live A.b _ s _ held _ A1.b
   rw[q1.b]
   exact .stay _ g z x h1 h2 rfl k1 hx ff
  .refine Rn.no (dC ff) ?_
   refine Rn.bind (xCg hf (A:=A.tick.tick) aj ah aa h1 h2 dy et hx k1 Mf (by omega) hb sw hv hw) ?_
   rintro ⟨⟨r,ok⟩,X⟩ A' ⟨ab,ac,q1,q2,q3,q4,q5⟩
   simp only at q3 q4 q5 |-
   subst q4
   have pe:Ft renR 90000000010 A A' r:=⟨fun q hq i=>q3.w q hq i,q3.self,by have:=q3.lo;omega,by have:=q3.hi;omega,q3.told⟩
   rcases q5 with⟨rfl,p1,rfl,rfl,p2,p6⟩|⟨g',y,k,rfl,p1,p2,p3,p4,rfl,rfl,p5⟩
   .refine Rn.yes rfl (Rn.no rfl (Rn.yes rfl (Rn.ret ⟨_,_,q1,q2,pe,⟨A.steps+1,by omega,by have:=q3.lo;omega,by simp[Res.none],fun hh=>absurd hh (show ¬ ((15:Int)=0)by decide)⟩,(fun _ i=>p6 i),?_⟩)))
    rw[p2]
    exact .none _ g z x h1 h2 rfl k1 hx (by omega) p1
   .refine Rn.yes rfl (Rn.yes rfl (Rn.yes rfl (Rn.ret ⟨_,_,q1,q2,pe,⟨k,by omega,p2,rfl,fun _=>by omega⟩,(fun hh=>absurd rfl hh),?_⟩)))
    rw[p5]
    exact .go _ g z x g' y h1 h2 rfl k1 hx (by omega) p3 p4.1 p4.2
end
end Go.Proofs.YtcicjcggclhbfaaGreat
