/- Part. -/
import Derived.Test.YtaegelbaghaooaaGreatCbPList
set_option linter.all false
open Go.IntKind (i64 u64 u32 u8)
namespace Go.Proofs.YtaegelbaghaooaaGreat
open Go Go.RowKit Lx
def renR:List Nat :=[0,1,3,4,5,6,7,8,9,10,11,12,13,14,17,18]
def copied(b:List Int)(p q m:Nat):List Int:=(List.range m).foldl (fun b i=>b.set (q+i) (b.getD (p+i) 0)) b
theorem Xs(b:List Int)(p q m:Nat):copied b p q (m+1)=(copied b p q m).set (q+m) ((copied b p q m).getD (p+m) 0):=by
 unfold copied
 rw[List.range_succ,List.foldl_append];rfl
theorem Vn(b:List Int)(p q:Nat) : ∀m,(copied b p q m).length=b.length
 | 0=>rfl
 | m+1=>by rw[Xs,List.length_set,Vn b p q m]
def Bys(b:List Int):Prop :=∀x∈b,0<=x/\x<=255
theorem Bys.set{b:List Int}(h:Bys b)(i:Nat){x:Int}(h0:0<=x)(h1:x<=255):Bys (b.set i x):=fun y hy=>by
 rcases List.mem_or_eq_of_mem_set hy with hy|rfl
 ·exact h y hy
 ·exact⟨h0,h1⟩
theorem Bys.getD{b:List Int}(h:Bys b)(i:Nat):0<=b.getD i 0/\b.getD i 0<=255:=by
 rw[List.getD_eq_getElem?_getD]
 cases hi:b[i]? with
 | none=>exact⟨by simp,by simp⟩
 | some x=>exact h x (List.mem_of_getElem? hi)
theorem Bys.copied{b:List Int}(h:Bys b)(p q:Nat) : ∀m,Bys (copied b p q m)
 | 0=>h
 | m+1=>by rw[Xs];exact(h.copied p q m).set _ ((h.copied p q m).getD _).1 ((h.copied p q m).getD _).2
theorem Bys.zeroed{b:List Int}(h:Bys b)(p:Nat) : ∀m,Bys (zeroed b p m)
 | 0=>h
 | m+1=>by
  have e:Go.Proofs.YtaegelbaghaooaaGreat.zeroed b p (m+1)=(Go.Proofs.YtaegelbaghaooaaGreat.zeroed b p m).set (p+m) 0:=by unfold Go.Proofs.YtaegelbaghaooaaGreat.zeroed;rw[List.range_succ,List.foldl_append];rfl
  rw[e];exact(h.zeroed p m).set _ (by omega) (by omega)
inductive Renewed(n:Nat)(held:Nat->Option HK)(live:Nat->Option Nat)(b:List Int)(a s:Int):Res×Int->(Nat->Option HK)->(Nat->Option Nat)->List Int->Prop where
 | size (l:Int):s<1\/64*n<s->Renewed n held live b a s (Res.none 11 l,0) held live b
 | bad (l:Int):1<=s->s<=64*n->(∀g z:Nat,live g=some z->a≠((8*g:Nat):Int))->Renewed n held live b a s (Res.none 13 l,0) held live b
 | stay (l:Int) (g z:Nat) (x:HK):1<=s->s<=64*n->a=((8*g:Nat):Int)->live g=some z->held g=some x->s<=((8*x.ext:Nat):Int)->Renewed n held live b a s (⟨((8*g:Nat):Int),((8*x.ext:Nat):Int),0,0,0,0,0,0,0,l,0⟩,(z:Int)) held (updS live g (some s.toNat)) b
 | none (l:Int) (g z:Nat) (x:HK):1<=s->s<=64*n->a=((8*g:Nat):Int)->live g=some z->held g=some x->((8*x.ext:Nat):Int)<s->NoRoom n held s 1->Renewed n held live b a s (Res.none 15 l,0) held live b
 | go (l:Int) (g z:Nat) (x:HK) (g':Nat) (y:HK):1<=s->s<=64*n->a=((8*g:Nat):Int)->live g=some z->held g=some x->((8*x.ext:Nat):Int)<s->held g'=none->GotRoom n s 1 g' y->HG n (upd held g' (some y))->Renewed n held live b a s (⟨((8*g':Nat):Int),((8*y.ext:Nat):Int),0,0,0,0,0,0,0,l,0⟩,(z:Int)) (upd (upd held g' (some y)) g Option.none) (updS (updS live g' (some s.toNat)) g Option.none) (copied b (8*g) (8*g') z)
section
variable{n t:Nat}(hf:Small n t){A:AS}{held:Nat->Option HK}{live:Nat->Option Nat}
include hf
theorem Vo{me g k:Nat}(hme:me<t)(hself:A.self=(me:Int))(hg:g<n*8)(hk:k<n*8):(jj (xb n t) (g:Int) (k:Int)).run (xl n t) A=some (false,A):=by
 unfold jj VI
 simp only[T.run,xl,hself,at6 hf hme,at11 hf.toFew hg,at11 hf.toFew hk]
 rw[show(((Br n t 6+me:Nat):Int) == -1)=false from beq_eq_false_iff_ne.2 (by omega),show(((Br n t 11+g:Nat):Int) == -1)=false from beq_eq_false_iff_ne.2 (by omega),show(((Br n t 11+k:Nat):Int) == -1)=false from beq_eq_false_iff_ne.2 (by omega)]
 rfl
theorem xiS{g:Nat}{x:HK}{s to u:Int}{has:Bool}(hi:HInv n t A held)(hg:held g=some x):(WC (xb n t) ⟨(g:Int),s,to,u,has⟩).run (xl n t) A=some ((((8*x.ext:Nat):Int),⟨(g:Int),s,to,u,has⟩),A.tick):=by
 have hn:=hf.n2
 have hgn:=HInv.small hf hi hg
 obtain⟨_,S,mp,vr,rem,bag,pl,h⟩:=hi
 have hgeo:=h.geo hg
 unfold WC Kf
 rw[T.run_bind,show(⟨(g:Int),s,to,u,has⟩:Lx.Rn).grain=(g:Int)from rfl,Xp hf hgn]
 simp only
 cases x with
 | blk c=>
  obtain⟨hc,p,j,hp,hj,hgp⟩:=hgeo
  obtain⟨ow,j',hs,_⟩:=xX (h.hblk g c hg)
  rw[xbS hf h hs]
  rw[show((⟨3,1,(c:Int),(ow:Int)⟩:Pg).kind==3)=true from rfl]
  simp only[cond_true]
  rw[decide_eq_true (show 0<=(c:Int)/\(c:Int)<4 by omega)]
  simp only[cond_true,T.run]
  rcases(by omega:c=0\/c=1\/c=2\/c=3)with rfl|rfl|rfl|rfl<;>rfl
 | run k=>
  obtain⟨hk,p,hp,rfl⟩:=hgeo
  have e8:8*p / 8=p:=by omega
  obtain⟨L,R,rfl,hpl⟩:=wH _ _ _ ((h.hrun _ _).1 hg).2
  rw[e8]at hpl
  obtain⟨hw,_⟩:=h.laid.at_
  rw[hpl]at hw
  rw[e8,hw,show(Kd.run).head k=pw 4 k 0 0 from rfl,yW 4 k 0 0 (by omega) (by omega) (by omega) (by omega)]
  rw[show((⟨((4:Nat):Int),(k:Int),((0:Nat):Int),((0:Nat):Int)⟩:Pg).kind==3)=false from rfl,show((⟨((4:Nat):Int),(k:Int),((0:Nat):Int),((0:Nat):Int)⟩:Pg).kind==4)=true from rfl]
  simp only[cond_false,cond_true,T.run]
  rw[show(k:Int)*64=((k*64:Nat):Int)by omega,wN _ (by omega),show((8*(HK.run k).ext:Nat):Int)=((k*64:Nat):Int)by simp only[HK.ext];omega]
theorem xsD{g g' m:Nat}{s u:Int}{has:Bool}(hb:Bys A.b)(hl:8*g+m<=A.b.length)(hl':8*g'+m<=A.b.length)(hm:m<4096)(hlen:A.b.length<=1000000):(jo (xb n t) ⟨(g:Int),s,(g':Int),u,has⟩ (m:Int)).run (xl n t) A=some (((),⟨(g:Int),s,(g':Int),u,has⟩),{A with b:=copied A.b (8*g) (8*g') m,steps:=A.steps+2*m}):=by
 have key:Rn n t (jo (xb n t) ⟨(g:Int),s,(g':Int),u,has⟩ (m:Int)) A fun r A'=>r=((),⟨(g:Int),s,(g':Int),u,has⟩)/\A' = {A with b:=copied A.b (8*g) (8*g') m,steps:=A.steps+2*m}:=by
  unfold jo Kg vt
  refine Rn.loop (fun r i A1 =>∃k:Nat,i=(k:Int)/\k<=m/\r=m-k/\A1 = {A with b:=copied A.b (8*g) (8*g') k,steps:=A.steps+2*k}) ?_ xa m _ A (by unfold xa;omega) ⟨0,rfl,by omega,rfl,rfl⟩
  rintro r i A1 κ' ⟨k,rfl,hk,rfl,rfl⟩ hloop
  unfold WD
  by_cases h:k<m
  ·refine Rn.yes (by rw[dT];omega) ?_
   have e1:i64.wrap (i64.wrap ((⟨(g:Int),s,(g':Int),u,has⟩:Lx.Rn).grain*8)+(k:Int))=((8*g+k:Nat):Int):=by
    show i64.wrap (i64.wrap ((g:Int)*8)+(k:Int))=_
    rw[show(g:Int)*8=((8*g:Nat):Int)by omega,wN _ (by omega),wrap_add hf.toFew (by omega)]
   have e2:i64.wrap (i64.wrap ((⟨(g:Int),s,(g':Int),u,has⟩:Lx.Rn).to*8)+(k:Int))=((8*g'+k:Nat):Int):=by
    show i64.wrap (i64.wrap ((g':Int)*8)+(k:Int))=_
    rw[show(g':Int)*8=((8*g':Nat):Int)by omega,wN _ (by omega),wrap_add hf.toFew (by omega)]
   rw[e1,e2,xF hf.toFew (by omega)]
   have hbk:=hb.copied (8*g) (8*g') k
   have hgd:=hbk.getD (8*g+k)
   have hat:atI (copied A.b (8*g) (8*g') k) ((8*g+k:Nat):Int)=some ((copied A.b (8*g) (8*g') k).getD (8*g+k) 0):=by
    show(copied A.b (8*g) (8*g') k)[8*g+k]? = _
    rw[List.getD_eq_getElem?_getD,List.getElem?_eq_getElem (by rw[Vn];omega)];rfl
   refine Rn.op (o :=.get _) (x:=(copied A.b (8*g) (8*g') k).getD (8*g+k) 0) (by simp only[xl,hat];rw[if_pos hgd]) ?_
   refine Rn.op (o :=.put _ _) (x:=()) (by simp only[xl];rw[if_pos hgd]) (hloop (m-(k+1)) _ _ (by omega) ⟨k+1,rfl,by omega,rfl,?_⟩)
   rw[Xs]
   show(⟨A.w,(copied A.b (8*g) (8*g') k).set (8*g'+k) _,A.self,A.steps+2*k+1+1,A.told⟩:AS)=⟨A.w,_,A.self,A.steps+2*(k+1),A.told⟩
   rw[show A.steps+2*k+1+1=A.steps+2*(k+1)by omega]
  ·obtain rfl:k=m:=by omega
   exact Rn.no (by rw[dF];omega) (Rn.ret ⟨rfl,rfl⟩)
 obtain⟨r,A',h1,rfl,rfl⟩:=key
 exact h1
theorem qp{x:Lx.Rn}{r:Res}:(wI (xb n t) x r).run (xl n t) A=some ((r,x),A.tell r):=by
 unfold wI xdi
 simp only[T.run,xl]
 rfl
theorem xiT{g s to u:Int}:(WT (xb n t) ⟨g,s,to,u,false⟩).run (xl n t) A=some (((),⟨g,s,to,u,false⟩),A):=by
 unfold WT xdy
 rfl
theorem xv2{me g z v:Nat}{s rm l:Int}(hme:me<t)(hself:A.self=(me:Int))(hg:g<n*8)(hs1:1<=s)(hs2:s<=16384)(hs:SI n t A live)(hw:A.w 11 g=Stt.word ⟨1,(z:Int),0,(v:Int)⟩):Rn n t (xbx (xb n t) ⟨(g:Int),s,0,0,false⟩ ⟨1,(z:Int),0,(v:Int),true,l⟩ rm) A fun r A'=>
  ∃A1,Fr [6,11] 2 A A1/\A1.steps=A.steps+2/\SI n t A1 (updS live g (some s.toNat))/\A'=A1.tell r.1.1/\r=((⟨((8*g:Nat):Int),rm,0,0,0,0,0,0,0,i64.wrap (A1.steps:Int),0⟩,true),⟨(g:Int),s,0,0,false⟩):=by
 have hn:=hf.n2
 obtain⟨v2,hv2,hser⟩:=Vm hf (A:=A) hme hself
 have hres:(XE (xb n t) (g:Int) ⟨1,(z:Int),0,(v:Int)⟩ s).run (xl n t) A=some (true,(((A.set 6 me (u64.wrap (A.w 6 me+1))).tick).set 11 g (Stt.word ⟨1,s,0,(v2:Int)⟩)).tick):=by
  unfold XE VL
  rw[T.run_bind,Vl hf hme hself hg]
  simp only[cond_false]
  rw[T.run_bind,hser]
  simp only[T.run,xl,at11 hf.toFew hg,xB (show g<Zr n t 11 from hg) 19 (by omega)]
  rw[if_pos (by simp[hw])]
 unfold xbx xdB
 refine Rn.run hres (Rn.no rfl (Rn.steps ?_))
 have hfr:Fr [6,11] 2 A ((((A.set 6 me (u64.wrap (A.w 6 me+1))).tick).set 11 g (Stt.word ⟨1,s,0,(v2:Int)⟩)).tick):=(Fr.sett (R :=[6,11]) A _ (by simp)).trans (Fr.sett (R :=[6,11]) _ _ (by simp))
 have hSI:SI n t ((((A.set 6 me (u64.wrap (A.w 6 me+1))).tick).set 11 g (Stt.word ⟨1,s,0,(v2:Int)⟩)).tick) (updS live g (some s.toNat)):=by
  refine hs.born (by omega) (by omega) hv2 fun i =>?_
  rw[show((s.toNat:Nat):Int)=s by omega]
  simp
 have hst:((((A.set 6 me (u64.wrap (A.w 6 me+1))).tick).set 11 g (Stt.word ⟨1,s,0,(v2:Int)⟩)).tick).steps=A.steps+2:=rfl
 generalize((((A.set 6 me (u64.wrap (A.w 6 me+1))).tick).set 11 g (Stt.word ⟨1,s,0,(v2:Int)⟩)).tick)=A1 at *
 refine Rn.run (qp hf) (Rn.run (xiT hf) (Rn.ret ⟨A1,hfr,hst,hSI,rfl,?_⟩))
 show(((⟨i64.wrap ((g:Int)*8),rm,0,0,0,0,0,0,0,i64.wrap (A1.steps:Int),0⟩:Res),true),(⟨(g:Int),s,0,0,false⟩:Lx.Rn))=_
 rw[show(g:Int)*8=((8*g:Nat):Int)by omega,wN _ (by omega)]
theorem xxW{me g z v:Nat}{x:HK}{s l:Int}(hn60:n<=60)(hme:me<t)(hself:A.self=(me:Int))(hs1:1<=s)(hs2:s<=64*n)(hi:HInv n t A held)(hs:SI n t A live)(hg:held g=some x)(hlg:live g=some z)(hzx:z<=8*x.ext)(hxs:((8*x.ext:Nat):Int)<s)(hb:Bys A.b)(hbl:A.b.length=64*n)
  (hv:v<4294967296) (hw:A.w 11 g=Stt.word ⟨1,(z:Int),0,(v:Int)⟩):Rn n t (xh8 (xb n t) ⟨(g:Int),s,0,0,false⟩ ⟨1,(z:Int),0,(v:Int),true,l⟩) A fun r A'=>
  ∃held' live',HInv n t A' held'/\SI n t A' live'/\Ft renR 90000000000 A A' r.1.1/\r.1.2=true/\
   ((r.1.1=Res.none 15 l/\NoRoom n held s 1/\held'=held/\live'=live/\A'.b=A.b/\ ∀i,A'.w 11 i=A.w 11 i)\/
    ∃ (g':Nat) (y:HK) (k:Nat),r.1.1=⟨((8*g':Nat):Int),((8*y.ext:Nat):Int),0,0,0,0,0,0,0,i64.wrap (k:Int),0⟩/\A.steps<k/\k<=A'.steps/\held g'=Option.none/\(GotRoom n s 1 g' y/\HG n (upd held g' (some y)))/\held'=upd (upd held g' (some y)) g Option.none/\live'=updS (updS live g' (some s.toNat)) g Option.none/\A'.b=copied A.b (8*g) (8*g') z):=by
 have hn:=hf.n2
 have hgn:=HInv.small hf hi hg
 have hgx:g+x.ext<=n*8:=by
  have:=hi.hg
  cases x with
  | blk c=>obtain⟨_,p,j,q1,q2,q3⟩:=this.blk g c hg;have:=xW q2;simp only[HK.ext];omega
  | run m=>obtain⟨_,p,q1,q2⟩:=this.run g m hg;simp only[HK.ext];omega
 unfold xh8 xlb
 refine Rn.yes rfl ?_
 refine Rn.bind (xbU hf hme hself (by omega) hi) ?_
 rintro ⟨k,u,e⟩ A1 ⟨held',hpl,h1,hfr1⟩
 simp only
 rcases hpl with⟨rfl,h2,h3,h4⟩|⟨g',y,h2,h3,rfl,h5,h6,h7,h8⟩
 ·simp only at h2 h3 h4
  have h4':e=15/\NoRoom n held' s 1:=by
   rcases h4 with⟨_,h4⟩|⟨_,_,⟨_,h4⟩|⟨h4,_,h5⟩⟩
   ·omega
   ·exact absurd h4 (by decide)
   ·exact⟨h4,h5⟩
  clear h4
  obtain⟨rfl,h4⟩:=h4'
  refine Rn.yes rfl ?_
  refine Rn.run (qp hf) (Rn.ret ⟨held',live,h1.w fun r i=>rfl,(hs.fr hfr1 (by unfold srcR;simp)).same fun i=>rfl,((hfr1.mono (S:=renR) (by unfold srcR renR;simp) (by omega)).tell _),rfl,.inl ⟨rfl,h4,rfl,rfl,hfr1.b,hfr1.w 11 (by unfold srcR;simp)⟩⟩)
 ·simp only[Prod.mk.injEq]at h2
  obtain⟨rfl,rfl,rfl⟩:=h2
  have hne:g'≠g:=fun hh=>by subst hh;rw[hg]at h3;cases h3
  have hg'n:g'<n*8:=HInv.small hf h1 (xC _ _ _)
  have hbig:=YQ h5 h8
  have hg'y:g'+y.ext<=n*8:=by
   have:=h1.hg
   cases y with
   | blk c=>obtain⟨_,p,j,q1,q2,q3⟩:=this.blk g' c (xC _ _ _);have:=xW q2;simp only[HK.ext];omega
   | run m=>obtain⟨_,p,q1,q2⟩:=this.run g' m (xC _ _ _);simp only[HK.ext];omega
  have hzs:(z:Int)<=s:=by omega
  have hz4:z<4096:=by omega
  refine Rn.no rfl ?_
  have emin:(if(⟨(g:Int),s,0,0,false⟩:Lx.Rn).size<(⟨1,(z:Int),0,(v:Int),true,l⟩:Seen).size then(⟨(g:Int),s,0,0,false⟩:Lx.Rn).size else(⟨1,(z:Int),0,(v:Int),true,l⟩:Seen).size)=((z:Nat):Int):=by
   show(if s<(z:Int)then s else(z:Int))=_
   rw[if_neg (by omega)]
  rw[emin]
  have hself1:A1.self=(me:Int):=by rw[hfr1.self,hself]
  refine Rn.run (xsD hf (A:=A1) (g:=g) (g':=g') (m:=z) (by rw[hfr1.b];exact hb) (by rw[hfr1.b];omega) (by rw[hfr1.b];omega) (by omega) (by rw[hfr1.b];omega)) ?_
  have hfr2 : ∀r i,({A1 with b:=copied A1.b (8*g) (8*g') z,steps:=A1.steps+2*z}:AS).w r i=A1.w r i:=fun _ _=>rfl
  have hb2:({A1 with b:=copied A1.b (8*g) (8*g') z,steps:=A1.steps+2*z}:AS).b=copied A.b (8*g) (8*g') z:=by show copied A1.b _ _ _=_;rw[hfr1.b]
  have hself2:({A1 with b:=copied A1.b (8*g) (8*g') z,steps:=A1.steps+2*z}:AS).self=(me:Int):=hself1
  have hst2:({A1 with b:=copied A1.b (8*g) (8*g') z,steps:=A1.steps+2*z}:AS).steps=A1.steps+2*z:=rfl
  generalize({A1 with b:=copied A1.b (8*g) (8*g') z,steps:=A1.steps+2*z}:AS)=A2 at *
  simp only
  obtain⟨v2,hv2,hser⟩:=Vm hf (A:=A2) hme hself2
  have hprom:(kE (xb n t) (g':Int) (g:Int) s).run (xl n t) A2=some ((v2:Int),(((A2.set 6 me (u64.wrap (A2.w 6 me+1))).tick).set 11 g' (Stt.word ⟨2,s,(g:Int),(v2:Int)⟩)).tick):=by
   unfold kE XF
   rw[T.run_bind,Vo hf hme hself2 hg'n hgn]
   simp only[cond_false]
   rw[T.run_bind,hser]
   simp only[T.run,xl,at11 hf.toFew hg'n,xB (show g'<Zr n t 11 from hg'n) 19 (by omega)]
  refine Rn.run hprom ?_
  have hw3 : ∀r i,((((A2.set 6 me (u64.wrap (A2.w 6 me+1))).tick).set 11 g' (Stt.word ⟨2,s,(g:Int),(v2:Int)⟩)).tick).w r i=if r=11/\i=g' then Stt.word ⟨2,s,(g:Int),(v2:Int)⟩else if r=6/\i=me then u64.wrap (A2.w 6 me+1)else A1.w r i:=fun r i=>by simp[hfr2]
  have hb3:((((A2.set 6 me (u64.wrap (A2.w 6 me+1))).tick).set 11 g' (Stt.word ⟨2,s,(g:Int),(v2:Int)⟩)).tick).b=A2.b:=rfl
  have hself3:((((A2.set 6 me (u64.wrap (A2.w 6 me+1))).tick).set 11 g' (Stt.word ⟨2,s,(g:Int),(v2:Int)⟩)).tick).self=(me:Int):=hself2
  have hst3:((((A2.set 6 me (u64.wrap (A2.w 6 me+1))).tick).set 11 g' (Stt.word ⟨2,s,(g:Int),(v2:Int)⟩)).tick).steps=A2.steps+2:=rfl
  generalize((((A2.set 6 me (u64.wrap (A2.w 6 me+1))).tick).set 11 g' (Stt.word ⟨2,s,(g:Int),(v2:Int)⟩)).tick)=A3 at *
  have hmove:(xec (xb n t) (g:Int) ⟨1,(z:Int),0,(v:Int)⟩ (g':Int) (v2:Int)).run (xl n t) A3=some (true,(A3.set 11 g (Stt.word ⟨3,0,(g':Int),(v2:Int)⟩)).tick):=by
   unfold xec xjJ
   rw[T.run_bind,Vo hf hme hself3 hgn hg'n]
   simp only[cond_false,T.run,xl,at11 hf.toFew hgn,xB (show g<Zr n t 11 from hgn) 19 (by omega)]
   rw[if_pos (by rw[hw3,if_neg (by omega),if_neg (by omega),hfr1.w 11 (by unfold srcR;simp),hw])]
  refine Rn.run hmove (Rn.no rfl (Rn.steps ?_))
  have hw4 : ∀r i,((A3.set 11 g (Stt.word ⟨3,0,(g':Int),(v2:Int)⟩)).tick).w r i=if r=11/\i=g then Stt.word ⟨3,0,(g':Int),(v2:Int)⟩else A3.w r i:=fun r i=>by simp
  have hb4:((A3.set 11 g (Stt.word ⟨3,0,(g':Int),(v2:Int)⟩)).tick).b=A3.b:=rfl
  have hself4:((A3.set 11 g (Stt.word ⟨3,0,(g':Int),(v2:Int)⟩)).tick).self=(me:Int):=hself3
  have hst4:((A3.set 11 g (Stt.word ⟨3,0,(g':Int),(v2:Int)⟩)).tick).steps=A3.steps+1:=rfl
  generalize((A3.set 11 g (Stt.word ⟨3,0,(g':Int),(v2:Int)⟩)).tick)=A4 at *
  refine Rn.run (qp hf) ?_
  simp only
  generalize hres:(⟨i64.wrap ((g':Int)*8),((8*y.ext:Nat):Int),0,0,0,0,0,0,0,i64.wrap (A4.steps:Int),0⟩:Res)=res
  have hset:(qv (xb n t) (g':Int) (g:Int) s (v2:Int)).run (xl n t) (A4.tell res)=some ((),((((A4.tell res).set 11 g' (Stt.word ⟨1,s,0,(v2:Int)⟩)).tick).set 11 g 0).tick):=by
   unfold qv VM
   rw[T.run_bind,Vo hf hme (A:=A4.tell res) hself4 hg'n hgn]
   simp only[cond_false,T.run,xl,at11 hf.toFew hgn,at11 hf.toFew hg'n,xB (show g<Zr n t 11 from hgn) 19 (by omega),xB (show g'<Zr n t 11 from hg'n) 19 (by omega)]
   rw[if_pos (by rw[AS.tell_w,hw4,if_neg (by omega),hw3,if_pos ⟨rfl,rfl⟩])]
  refine Rn.run hset ?_
  have hw5 : ∀r i,(((((A4.tell res).set 11 g' (Stt.word ⟨1,s,0,(v2:Int)⟩)).tick).set 11 g 0).tick).w r i=if r=11/\i=g then 0 else if r=11/\i=g' then Stt.word ⟨1,s,0,(v2:Int)⟩else A4.w r i:=fun r i=>by simp
  have hb5:(((((A4.tell res).set 11 g' (Stt.word ⟨1,s,0,(v2:Int)⟩)).tick).set 11 g 0).tick).b=A4.b:=rfl
  have hself5:(((((A4.tell res).set 11 g' (Stt.word ⟨1,s,0,(v2:Int)⟩)).tick).set 11 g 0).tick).self=(me:Int):=hself4
  have hst5:(((((A4.tell res).set 11 g' (Stt.word ⟨1,s,0,(v2:Int)⟩)).tick).set 11 g 0).tick).steps=A4.steps+2:=rfl
  have ht5:(((((A4.tell res).set 11 g' (Stt.word ⟨1,s,0,(v2:Int)⟩)).tick).set 11 g 0).tick).told=some res.cells:=rfl
  generalize(((((A4.tell res).set 11 g' (Stt.word ⟨1,s,0,(v2:Int)⟩)).tick).set 11 g 0).tick)=A5 at *
  have hrest : ∀r i,r≠6->r≠11->A5.w r i=A1.w r i:=fun r i h6 h11=>by
   rw[hw5,if_neg (by omega),if_neg (by omega),hw4,if_neg (by omega),hw3,if_neg (by omega),if_neg (by omega)]
  have hSI:SI n t A5 (updS (updS live g' (some s.toNat)) g Option.none):=by
   have q1:SI n t (A1.set 11 g' (Stt.word ⟨1,s,0,(v2:Int)⟩)) (updS live g' (some s.toNat)):=by
    refine(hs.fr hfr1 (by unfold srcR;simp)).born (g:=g') (z:=s.toNat) (v:=v2) (by omega) (by omega) hv2 fun i =>?_
    rw[show((s.toNat:Nat):Int)=s by omega]
    simp
   refine q1.ended fun i =>?_
   rw[hw5]
   by_cases e1:i=g
   ·rw[if_pos ⟨rfl,e1⟩,if_pos e1]
   ·rw[if_neg (by omega),if_neg e1]
    by_cases e2:i=g'
    ·rw[if_pos ⟨rfl,e2⟩];simp[e2]
    ·rw[if_neg (by omega),hw4,if_neg (by omega),hw3,if_neg (by omega),if_neg (by omega)];simp[e2]
  have hH:HInv n t A5 (upd held g' (some y)):=by
   obtain⟨q0,S,mp,vr,rem,bag,pl,q1⟩:=h1
   exact⟨by rw[hrest 0 0 (by omega) (by omega)];exact q0,S,mp,vr,rem,bag,pl,q1.same fun r i hr=>hrest r i (by omega) (by omega)⟩
  refine Rn.bind (xcy hf (A:=A5) (g:=g) (x:=x) hme hself5 hH (by rw[upd_ne _ _ (Ne.symm hne)];exact hg)) ?_
  rintro _ A6 ⟨q1,q2,_⟩
  have hlo1:=hfr1.lo
  have hhi1:=hfr1.hi
  have hlo2:=q2.lo
  have hhi2:=q2.hi
  refine Rn.ret ⟨_,_,q1,hSI.fr q2 (by unfold relR;simp),⟨fun q hq i =>?_,by rw[q2.self,hself5,hself],by omega,by omega,by rw[q2.told,ht5]⟩,rfl,.inr ⟨g',y,A4.steps,?_,by omega,by omega,h3,⟨h8,h1.hg⟩,rfl,rfl,by rw[q2.b,hb5,hb4,hb3,hb2]⟩⟩
  ·rw[q2.w q (by unfold renR at hq;unfold relR;simp at hq |-;omega),hrest q i (by unfold renR at hq;simp at hq;omega) (by unfold renR at hq;simp at hq;omega),hfr1.w q (by unfold renR at hq;unfold srcR;simp at hq |-;omega)]
  ·rw[<- hres,show(g':Int)*8=((8*g':Nat):Int)by omega,wN _ (by omega)]
theorem xpq{me:Nat}{a s:Int}(hn60:n<=60)(hme:me<t)(hself:A.self=(me:Int))(hi:HInv n t A held)(hs:SI n t A live)(hlh : ∀g z,live g=some z ->∃x,held g=some x/\z<=8*x.ext)(hb:Bys A.b)(hbl:A.b.length=64*n):Rn n t (jZ (xb n t) a s) A fun r A'=>
  ∃held' live',HInv n t A' held'/\SI n t A' live'/\Ft renR 90000000010 A A' r.1/\(∃l:Nat,A.steps<=l/\l<=A'.steps/\r.1.lin=i64.wrap l/\(r.1.e=0->A.steps<l))/\(r.1.e≠0 ->∀i,A'.w 11 i=A.w 11 i)/\Renewed n held live A.b a s r held' live' A'.b:=by
 have hn:=hf.n2
 have hn1:=hf.n1
 have hlt : ∀g z,live g=some z->g<n*8:=fun g z hl=>by
  obtain⟨x,hx,_⟩:=hlh g z hl
  exact HInv.small hf hi hx
 have e64:i64.wrap ((xb n t).pages*64)=((64*n:Nat):Int):=by
  show i64.wrap (((n:Nat):Int)*64)=_
  rw[show((n:Nat):Int)*64=((64*n:Nat):Int)by omega,wN _ (by omega)]
 have hwrong : ∃e:Int,(XX (xb n t) a s).run (xl n t) A=some (e,A)/\((e=11/\(s<1\/64*n<s))\/(1<=s/\s<=64*n/\((e=13/\ ∀g z:Nat,live g=some z->a≠((8*g:Nat):Int))\/(e=0/\ ∃g:Nat,a=((8*g:Nat):Int)/\g<n*8)))):=by
  unfold XX Ke
  rw[e64]
  by_cases h1:s<1
  ·rw[decide_eq_true h1];exact⟨11,rfl,.inl ⟨rfl,.inl h1⟩⟩
  rw[decide_eq_false h1]
  by_cases h2:s>((64*n:Nat):Int)
  ·rw[decide_eq_true h2];exact⟨11,rfl,.inl ⟨rfl,.inr (by omega)⟩⟩
  rw[decide_eq_false h2]
  by_cases h3:a<0
  ·rw[decide_eq_true h3];exact⟨13,rfl,.inr ⟨by omega,by omega,.inl ⟨rfl,fun g z hl hh=>by omega⟩⟩⟩
  rw[decide_eq_false h3]
  by_cases h4:a>=((64*n:Nat):Int)
  ·rw[decide_eq_true h4];exact⟨13,rfl,.inr ⟨by omega,by omega,.inl ⟨rfl,fun g z hl hh=>by have:=hlt g z hl;omega⟩⟩⟩
  rw[decide_eq_false h4]
  by_cases h5:a%8=0
  ·have e8:(Int.tmod a 8 != 0)=false:=by rw[Int.tmod_eq_emod_of_nonneg (by omega),h5];rfl
   rw[e8]
   exact⟨0,rfl,.inr ⟨by omega,by omega,.inr ⟨rfl,(a / 8).toNat,by omega,by omega⟩⟩⟩
  ·have e8:(Int.tmod a 8 != 0)=true:=by rw[Int.tmod_eq_emod_of_nonneg (by omega)];simpa using h5
   rw[e8]
   exact⟨13,rfl,.inr ⟨by omega,by omega,.inl ⟨rfl,fun g z hl hh=>by omega⟩⟩⟩
 obtain⟨e,hwr,hcase⟩:=hwrong
 unfold jZ Yx
 refine Rn.no (by show(((n:Nat):Int)==0)=false;simp;omega) ?_
 refine Rn.run hwr ?_
 have bad : ∀e:Int,e≠0->(Renewed n held live A.b a s (Res.none e (i64.wrap (A.steps:Int)),0) held live A.b)->Rn n t (T.op .steps fun x3=>(wI (xb n t) (Lx.Rn.mk (i64.wrap (Int.tdiv a 8)) s 0 0 false) (Res.mk 0 0 0 0 0 0 0 0 e x3 0)).bind fun r4=>(T.ret (r4.1,0):T (Res×Int))) A fun r A'=>
   ∃held' live',HInv n t A' held'/\SI n t A' live'/\Ft renR 90000000010 A A' r.1/\(∃l:Nat,A.steps<=l/\l<=A'.steps/\r.1.lin=i64.wrap l/\(r.1.e=0->A.steps<l))/\(r.1.e≠0 ->∀i,A'.w 11 i=A.w 11 i)/\Renewed n held live A.b a s r held' live' A'.b:=by
  intro e he hR
  exact Rn.steps (Rn.run (qp hf) (Rn.ret ⟨held,live,hi.w fun r i=>rfl,hs.same fun i=>rfl,((Fr.refl renR A).mono (fun _ h=>h) (by omega)).tell _,⟨A.steps,Nat.le_refl _,Nat.le_refl _,rfl,fun hh=>absurd hh he⟩,(fun _ i=>rfl),hR⟩))
 rcases hcase with⟨rfl,h1⟩|⟨h1,h2,⟨rfl,h3⟩|⟨rfl,g,rfl,hg⟩⟩
 ·exact Rn.yes rfl (bad 11 (by decide) (.size _ h1))
 ·exact Rn.yes rfl (bad 13 (by decide) (.bad _ h1 h2 h3))
 refine Rn.no rfl ?_
 have ed:i64.wrap (Int.tdiv ((8*g:Nat):Int) 8)=(g:Int):=by
  rw[Int.tdiv_eq_ediv_of_nonneg (by omega),show((8*g:Nat):Int) / 8=(g:Int)by omega,wN _ (by omega)]
 rw[ed]
 unfold ve
 rw[show xa=4095+1 from rfl,xr]
 unfold ZT
 simp only
 rcases xgm hf hme hself hg hs with⟨k1,k2⟩|⟨z,v,k1,hv,hw,k2⟩
 ·refine Rn.run k2 (Rn.yes rfl ?_)
  refine Rn.run (xiT hf) (Rn.run (qp hf) (Rn.ret ⟨held,live,hi.w fun r i=>rfl,hs.same fun i=>rfl,(((Fr.tick [] A).mono (S:=renR) (by simp) (by omega)).tell _),⟨A.steps+1,by omega,Nat.le_refl _,by simp,fun hh=>absurd hh (show ¬ ((13:Int)=0)by decide)⟩,(fun _ i=>rfl),.bad _ h1 h2 ?_⟩))
  intro q z hq hh
  obtain rfl:g=q:=by omega
  rw[k1]at hq;cases hq
 ·obtain⟨x,hx,hzx⟩:=hlh g z k1
  refine Rn.run k2 (Rn.no rfl ?_)
  have hi1:HInv n t A.tick held:=hi.w fun r i=>rfl
  have hs1:SI n t A.tick live:=hs.same fun i=>rfl
  refine Rn.run (xiS hf hi1 hx) ?_
  simp only
  have hi2:HInv n t A.tick.tick held:=hi.w fun r i=>rfl
  have hs2:SI n t A.tick.tick live:=hs.same fun i=>rfl
  have hfr2:Fr [] 2 A A.tick.tick:=(Fr.tick [] A).trans (Fr.tick [] _)
  have hst2:A.tick.tick.steps=A.steps+2:=rfl
  by_cases hle:s<=((8*x.ext:Nat):Int)
  ·refine Rn.yes (decide_eq_true hle) ?_
   refine Rn.bind (xv2 hf (A:=A.tick.tick) hme hself hg h1 (by omega) hs2 hw) ?_
   rintro _ A' ⟨A1,q1,q2,q3,rfl,rfl⟩
   simp only
   have hfr3:=hfr2.trans q1 (S:=renR) (e:=4) (by simp) (by unfold renR;simp) (by omega)
   refine Rn.yes rfl (Rn.yes rfl (Rn.yes rfl (Rn.ret ⟨held,_,(hi2.fr q1 (by simp)).w fun r i=>rfl,q3.same fun i=>rfl,(hfr3.mono (S:=renR) (fun _ h=>h) (by omega)).tell _,⟨A1.steps,by omega,Nat.le_refl _,rfl,fun _=>by omega⟩,(fun hh=>absurd rfl hh),?_⟩)))
   show Renewed n held live A.b _ s _ held _ A1.b
   rw[q1.b]
   exact .stay _ g z x h1 h2 rfl k1 hx hle
  ·refine Rn.no (decide_eq_false hle) ?_
   refine Rn.bind (xxW hf (A:=A.tick.tick) hn60 hme hself h1 h2 hi2 hs2 hx k1 hzx (by omega) hb hbl hv hw) ?_
   rintro ⟨⟨r,ok⟩,X⟩ A' ⟨held',live',q1,q2,q3,q4,q5⟩
   simp only at q3 q4 q5 |-
   subst q4
   have hft:Ft renR 90000000010 A A' r:=⟨fun q hq i=>q3.w q hq i,q3.self,by have:=q3.lo;omega,by have:=q3.hi;omega,q3.told⟩
   rcases q5 with⟨rfl,p1,rfl,rfl,p2,p6⟩|⟨g',y,k,rfl,p1,p2,p3,p4,rfl,rfl,p5⟩
   ·refine Rn.yes rfl (Rn.no rfl (Rn.yes rfl (Rn.ret ⟨_,_,q1,q2,hft,⟨A.steps+1,by omega,by have:=q3.lo;omega,by simp[Res.none],fun hh=>absurd hh (show ¬ ((15:Int)=0)by decide)⟩,(fun _ i=>p6 i),?_⟩)))
    rw[p2]
    exact .none _ g z x h1 h2 rfl k1 hx (by omega) p1
   ·refine Rn.yes rfl (Rn.yes rfl (Rn.yes rfl (Rn.ret ⟨_,_,q1,q2,hft,⟨k,by omega,p2,rfl,fun _=>by omega⟩,(fun hh=>absurd rfl hh),?_⟩)))
    rw[p5]
    exact .go _ g z x g' y h1 h2 rfl k1 hx (by omega) p3 p4.1 p4.2
end
end Go.Proofs.YtaegelbaghaooaaGreat
