/- Part. -/
import Derived.Test.YtcicjcggclhbfaaGreatCsM14
import Derived.Test.YtcicjcggclhbfaaGreatCsPRenew
set_option linter.all false
open Go.IntKind (i64 u64 u32 u8)
namespace Go.Proofs.YtcicjcggclhbfaaGreat
section
open Go Go.RowKit Lx
/-! ### counts -/
def addW(f:Nat->Int)(i:Nat)(d:Int):Nat->Int:=fun q=>if q=i then u64.wrap (f q+u64.wrap d)else f q
def xdx(f:Nat->Int)(z:Int):Nat->Int:=addW (addW (addW f 0 1) 3 1) 4 z
def xdy(f:Nat->Int)(z:Int):Nat->Int:=addW (addW (addW f 1 1) 3 (-1)) 4 (i64.wrap (0-z))
def xqC(f:Nat->Int):Nat->Int:=addW f 2 1
def Vh(f:Nat->Int)(was now:Int):Nat->Int:=addW f 4 (i64.wrap (now-was))
def csz(c:Cal):Int:=if c.op=2 then i64.wrap (c.size*c.n)else c.size
def xdz(c:Cal)(r:Res)(f:Nat->Int):Nat->Int:=if r.e=0 then xdx f (csz c)else if r.e=15\/r.e=5 then xqC f else f
def cntD(c:Cal)(r:Res)(was:Int)(f:Nat->Int):Nat->Int:=
 if c.op=1\/c.op=2\/c.op=3 then xdz c r f
 else if c.op=4 then(if r.e=0 then Vh f was c.size else if r.e=15\/r.e=5 then xqC f else f)
 else if c.op=5 then(if r.e=0 then xdy f r.n else f)
 else f
/-! ### what lives is held, and the other way round -/
structure LH(held:Nat->Option HK)(live:Nat->Option Nat):Prop where
 lh : ∀g z,live g=some z ->∃x,held g=some x/\z<=8*x.ext
 hl : ∀g x,held g=some x ->∃z,live g=some z
theorem LH.add{held:Nat->Option HK}{live:Nat->Option Nat}(h:LH held live)(g:Nat){z:Nat}{x:HK}(hz:z<=8*x.ext):LH (upd held g (some x)) (updS live g (some z)):=by
 refine⟨fun q w hq =>?_,fun q y hq =>?_⟩
 .by_cases bv:q=g
  .subst bv
   rw[xx]at hq;cases hq
   exact⟨x,xC _ _ _,hz⟩
  .rw[xG _ _ bv]at hq
   obtain⟨y,h1,h2⟩:=h.lh q w hq
   exact⟨y,by rw[upd_ne _ _ bv,h1],h2⟩
 .by_cases bv:q=g
  .subst bv;exact⟨z,xx _ _ _⟩
  .rw[upd_ne _ _ bv]at hq
   obtain⟨w,hw⟩:=h.hl q y hq
   exact⟨w,by rw[xG _ _ bv,hw]⟩
theorem LH.del{held:Nat->Option HK}{live:Nat->Option Nat}(h:LH held live)(g:Nat):LH (upd held g none) (updS live g none):=by
 refine⟨fun q w hq =>?_,fun q y hq =>?_⟩
 .by_cases bv:q=g
  .subst bv;rw[xx]at hq;cases hq
  .rw[xG _ _ bv]at hq
   obtain⟨y,h1,h2⟩:=h.lh q w hq
   exact⟨y,by rw[upd_ne _ _ bv,h1],h2⟩
 .by_cases bv:q=g
  .subst bv;rw[xC]at hq;cases hq
  .rw[upd_ne _ _ bv]at hq
   obtain⟨w,hw⟩:=h.hl q y hq
   exact⟨w,by rw[xG _ _ bv,hw]⟩
theorem LH.stay{held:Nat->Option HK}{live:Nat->Option Nat}(h:LH held live){g s:Nat}{x:HK}(hg:held g=some x)(hs:s<=8*x.ext):LH held (updS live g (some s)):=by
 refine⟨fun q w hq =>?_,fun q y hq =>?_⟩
 .by_cases bv:q=g
  .subst bv
   rw[xx]at hq;cases hq
   exact⟨x,hg,hs⟩
  .rw[xG _ _ bv]at hq;exact h.lh q w hq
 .by_cases bv:q=g
  .subst bv;exact⟨s,xx _ _ _⟩
  .obtain⟨w,hw⟩:=h.hl q y hq
   exact⟨w,by rw[xG _ _ bv,hw]⟩
theorem LH.nil:LH (fun _=>none) (fun _=>none):=⟨fun _ _ h=>(by cases h),fun _ _ h=>(by cases h)⟩
theorem HG.ext1{n:Nat}{held:Nat->Option HK}(h:HG n held){g:Nat}{x:HK}(hg:held g=some x):g+x.ext<=8*n:=by
 cases x with
 | blk c=>obtain⟨_,p,j,q1,q2,q3⟩:=h.blk g c hg;have:=yi q2;simp only[HK.ext];omega
 | run m=>obtain⟨_,p,q1,q2⟩:=h.run g m hg;simp only[HK.ext];omega
structure Hp(n t:Nat)(A:AS)(held:Nat->Option HK)(live:Nat->Option Nat):Prop where
 hi:HInv n t A held
 si:SI n t A live
 lh:LH held live
 bys:Bys A.b
 len:A.b.length=64*n
/-! ### what is answered -/
def AskRes(n:Nat)(held:Nat->Option HK)(live:Nat->Option Nat)(s a:Int)(r:Res)(ab:Nat->Option HK)(ac:Nat->Option Nat):Prop:=
 (ab=held/\ac=live/\r=Res.none r.e r.lin/\((r.e=11/\(s<1\/64*n<s))\/(1<=s/\s<=64*n/\((r.e=12/\powA a=false)\/(r.e=15/\powA a=true/\NoRoom n held s a)))))\/
 ∃ (g:Nat) (x:HK),r=⟨((8*g:Nat):Int),((8*x.ext:Nat):Int),0,0,0,0,0,0,0,r.lin,0⟩/\held g=none/\ab=upd held g (some x)/\ac=updS live g (some s.toNat)/\1<=s/\s<=64*n/\powA a=true/\GotRoom n s a g x
theorem AskRes.lh{n:Nat}{held ab:Nat->Option HK}{live ac:Nat->Option Nat}{s a:Int}{r:Res}(h:AskRes n held live s a r ab ac)(hl:LH held live):LH ab ac:=by
 rcases h with⟨rfl,rfl,_⟩|⟨g,x,_,_,rfl,rfl,h1,_,_,h2⟩
 .exact hl
 .have:=kh h1 h2
  exact hl.add g (by omega)
inductive Did(n:Nat)(held:Nat->Option HK)(live:Nat->Option Nat)(b:List Int)(f:Nat->Int)(c:Cal):Res->(Nat->Option HK)->(Nat->Option Nat)->List Int->Int->Prop
 | ask (r:Res) (ab:Nat->Option HK) (ac:Nat->Option Nat) (b':List Int):(c.op=1\/c.op=2\/c.op=3)->AskRes n held live (if c.op=2 then xS n c.n c.size else c.size) (if c.op=3 then c.align else 1) r ab ac->
   (b'=b/\(c.op=2->r.e≠0)\/c.op=2/\r.e=0/\ ∃g:Nat,r.at_=((8*g:Nat):Int)/\b'=zeroed b (8*g) (xS n c.n c.size).toNat)->Did n held live b f c r ab ac b' 0
 | renew (r:Res) (was:Int) (ab:Nat->Option HK) (ac:Nat->Option Nat) (b':List Int):c.op=4->Renewed n held live b c.at_ c.size (r,was) ab ac b'->Did n held live b f c r ab ac b' was
 | bad (l:Int):(c.op=5\/c.op=6\/c.op=7\/c.op=8)->(∀g z:Nat,live g=some z->c.at_≠((8*g:Nat):Int))->Did n held live b f c (Res.none 13 l) held live b 0
 | free (l:Int) (g z:Nat):c.op=5->c.at_=((8*g:Nat):Int)->live g=some z->Did n held live b f c ⟨0,(z:Int),0,0,0,0,0,0,0,l,0⟩ (upd held g none) (updS live g none) b 0
 | use (l:Int) (g z:Nat) (x:HK):c.op=6->c.at_=((8*g:Nat):Int)->live g=some z->held g=some x->Did n held live b f c ⟨0,((8*x.ext:Nat):Int),0,0,0,0,0,0,0,l,0⟩ held live b 0
 | out (l:Int) (g z:Nat):(c.op=7\/c.op=8)->c.at_=((8*g:Nat):Int)->live g=some z->(c.off<0\/(z:Int)<=c.off)->Did n held live b f c (Res.none 14 l) held live b 0
 | write (l m:Int) (g z k:Nat):c.op=7->c.at_=((8*g:Nat):Int)->live g=some z->c.off=(k:Int)->k<z->Did n held live b f c ⟨0,0,0,0,0,0,0,0,0,l,m⟩ held live (b.set (8*g+k) c.byte) 0
 | read (l m:Int) (g z k:Nat) (y:Int):c.op=8->c.at_=((8*g:Nat):Int)->live g=some z->c.off=(k:Int)->k<z->b[8*g+k]? = some y->Did n held live b f c ⟨0,0,y,0,0,0,0,0,0,l,m⟩ held live b 0
 | tidy (l:Int):(c.op=9\/c.op=10)->Did n held live b f c (Res.none 0 l) held live b 0
 | stats (l:Int):c.op=11->Did n held live b f c ⟨0,0,0,f 0,f 1,f 2,f 3,f 4,0,l,0⟩ held live b 0
 | other (l:Int):(c.op<1\/11<c.op)->Did n held live b f c (Res.none 1 l) held live b 0
structure Called(n t:Nat)(A:AS)(held:Nat->Option HK)(live:Nat->Option Nat)(c:Cal)(r:Res)(A':AS)(ab:Nat->Option HK)(ac:Nat->Option Nat)(was:Int):Prop where
 hp:Hp n t A' ab ac
 self:A'.self=A.self
 told:A'.told=some r.cells
 lin : ∃l T:Nat,A.steps<l/\l<=A'.steps/\r.lin=i64.wrap l/\r.touch=i64.wrap T/\((T=0/\ ¬ (r.e=0/\(c.op=7\/c.op=8)))\/(l<T/\T<=A'.steps/\r.e=0/\(c.op=7\/c.op=8)))
 steps:A'.steps<=A.steps+100000000000
 cnt : ∀i,A'.w 2 i=cntD c r was (A.w 2) i
 did:Did n held live A.b (A.w 2) c r ab ac A'.b was
section
variable{n t:Nat}(hf:Small n t){A:AS}{held:Nat->Option HK}{live:Nat->Option Nat}
include hf
theorem at2{i:Nat}(hi:i<5):atF (xd n t) 2 (i:Int)=((Br n t 2+i:Nat):Int):=wx hf.toFew (by omega) (by simpa[Zr]using hi)
omit hf in
theorem xwP(B:AS)(a:Nat)(x:Int):((B.set 2 a (u64.wrap (B.w 2 a+u64.wrap x))).tick).w 2=addW (B.w 2) a x:=by
 funext q
 simp only[AS.tick_w,AS.set_w,true_and,addW]
 by_cases h:q=a
 .subst h;rfl
 .rw[dA h,dA h]
theorem xjZ{a b c:Nat}{x y z:Int}(ha:a<5)(hb:b<5)(hc:c<5):Rn n t (VF (xd n t) (a:Int) x (b:Int) y (c:Int) z) A fun _ A'=>(∀i,A'.w 2 i=addW (addW (addW (A.w 2) a x) b y) c z i)/\Fr [2] 3 A A':=by
 unfold VF xeG
 refine Rn.add (at2 hf ha) (by omega) (by simpa[Zr]using ha) (Rn.add (at2 hf hb) (by omega) (by simpa[Zr]using hb) (Rn.add (at2 hf hc) (by omega) (by simpa[Zr]using hc) (Rn.ret ⟨fun i =>?_,?_⟩)))
 .rw[xwP,xwP,xwP]
 .exact((Fr.sett (R :=[2]) A _ (by simp)).trans (Fr.sett (R :=[2]) _ _ (by simp)) (S :=[2]) (e:=2)).trans (Fr.sett (R :=[2]) _ _ (by simp))
theorem xj0{a:Nat}{x:Int}(ha:a<5):Rn n t (VE (xd n t) (a:Int) x) A fun _ A'=>(∀i,A'.w 2 i=addW (A.w 2) a x i)/\Fr [2] 3 A A':=by
 unfold VE xeF
 refine Rn.add (at2 hf ha) (by omega) (by simpa[Zr]using ha) (Rn.ret ⟨fun i =>?_,(Fr.sett (R :=[2]) A _ (by simp)).mono⟩)
 rw[xwP]
theorem xul{z:Int}:Rn n t (Wa (xd n t) z) A fun _ A'=>(∀i,A'.w 2 i=xdx (A.w 2) z i)/\Fr [2] 3 A A':=by
 unfold Wa xay
 exact Rn.bind (xjZ hf (a:=0) (b:=3) (c:=4) (by omega) (by omega) (by omega)) fun _ A1 h=>Rn.ret h
theorem xum{z:Int}:Rn n t (Wb (xd n t) z) A fun _ A'=>(∀i,A'.w 2 i=xdy (A.w 2) z i)/\Fr [2] 3 A A':=by
 unfold Wb xaz
 exact Rn.bind (xjZ hf (a:=1) (b:=3) (c:=4) (by omega) (by omega) (by omega)) fun _ A1 h=>Rn.ret h
theorem xdA:Rn n t (jC (xd n t)) A fun _ A'=>(∀i,A'.w 2 i=xqC (A.w 2) i)/\Fr [2] 3 A A':=by
 unfold jC Wc
 exact Rn.bind (xj0 hf (a:=2) (by omega)) fun _ A1 h=>Rn.ret h
theorem xm5{w z:Int}:Rn n t (kZ (xd n t) w z) A fun _ A'=>(∀i,A'.w 2 i=Vh (A.w 2) w z i)/\Fr [2] 3 A A':=by
 unfold kZ ZH
 exact Rn.bind (xj0 hf (a:=4) (by omega)) fun _ A1 h=>Rn.ret h
theorem VU{r:Res}:(Zz r).run (xo n t) A=some (decide (r.e=15\/r.e=5),A):=by
 unfold Zz xaj
 by_cases h:r.e=15
 .rw[show(r.e==15)=true by simp[h]];simp[h,T.run]
 .rw[show(r.e==15)=false by simp[h]];simp only[cond_false,T.run,h,false_or]
  congr 2
theorem xyi{c:Cal}{r:Res}:Rn n t (VW (xd n t) c r) A fun r' A'=>r'=r/\Fr [2] 3 A A'/\ ∀i,A'.w 2 i=xdz c r (A.w 2) i:=by
 unfold VW xeS
 refine Rn.cond (fun h =>?_) (fun h =>?_)
 .have h0:r.e=0:=by simpa using h
  have sf:(xcb c).run (xo n t) A=some (csz c,A):=by
   unfold xcb xeB csz
   by_cases h2:c.op=2
   .rw[show(c.op==2)=true by simp[h2]];simp[h2,T.run]
   .rw[show(c.op==2)=false by simp[h2]];simp[h2,T.run]
  refine Rn.run sf (Rn.bind (xul hf) ?_)
  rintro _ A1 ⟨h1,h2⟩
  exact Rn.ret ⟨rfl,h2,fun i=>by rw[h1,xdz,dB h0]⟩
 .have h0:r.e≠0:=by simpa using h
  refine Rn.run (VU hf) (Rn.cond (fun h5 =>?_) (fun h5 =>?_))
  .refine Rn.bind (xdA hf) ?_
   rintro _ A1 ⟨h1,h2⟩
   exact Rn.ret ⟨rfl,h2,fun i=>by rw[h1,xdz,dA h0,dB (by simpa using h5)]⟩
  .exact Rn.ret ⟨rfl,(Fr.refl [2] A).mono,fun i=>by rw[xdz,dA h0,dA (by simpa using h5)]⟩
theorem xAw{r:Res}:(Vg r).run (xo n t) A=some ({r with lin:=i64.wrap A.steps},A.tell {r with lin:=i64.wrap A.steps}):=by
 unfold Vg xms
 simp only[T.run,xo]
 rfl
theorem yp{r:Res}:(vI r).run (xo n t) A=some (r,A.tell r):=by
 unfold vI xak
 simp only[T.run,xo]
 rfl
theorem xcv{me:Nat}{a:Int}(ah:me<t)(aa:A.self=(me:Int))(hp:Hp n t A held live):Rn n t (XR (xd n t) a) A fun x A'=>
  (∃l:Nat,A.steps<=l/\l<=A'.steps/\x.2.2.1=Res.none 13 (i64.wrap l)/\x.2.2.2=false/\(∀g z:Nat,live g=some z->a≠((8*g:Nat):Int))/\ ∃A1,Fr [] 1 A A1/\A'=A1.tell (Res.none 13 (i64.wrap l)))\/
  ∃g z v:Nat,a=((8*g:Nat):Int)/\live g=some z/\A.w 11 g=Stt.word ⟨1,(z:Int),0,(v:Int)⟩/\x=((g:Int),⟨1,(z:Int),0,(v:Int),true,i64.wrap (A.steps+1)⟩,x.2.2.1,true)/\A'=A.tick:=by
 have hn:=hf.n2
 have lu:=hf.n1
 have an : ∀g z,live g=some z->g<n*8:=fun g z hl=>by
  obtain⟨x,hx,_⟩:=hp.lh.lh g z hl
  exact HInv.small hf hp.hi hx
 have tt:i64.wrap ((xd n t).pages*64)=((64*n:Nat):Int):=by
  show i64.wrap (((n:Nat):Int)*64)=_
  rw[show((n:Nat):Int)*64=((64*n:Nat):Int)by omega,wN _ (by omega)]
 unfold XR xe0 xaT
 by_cases h1:a<0
 .refine Rn.yes (dD h1) (Rn.steps (Rn.run (yp hf) (Rn.ret (.inl ?_))))
  exact⟨A.steps,dI _,dI _,rfl,rfl,fun g z hl hh=>by omega,A,(Fr.refl [] A).mono,rfl⟩
 refine Rn.no (dC h1) ?_
 rw[tt]
 by_cases h2:a>=((64*n:Nat):Int)
 .refine Rn.yes (dD h2) (Rn.steps (Rn.run (yp hf) (Rn.ret (.inl ?_))))
  exact⟨A.steps,dI _,dI _,rfl,rfl,fun g z hl hh=>by have:=an g z hl;omega,A,(Fr.refl [] A).mono,rfl⟩
 refine Rn.no (dC h2) ?_
 have em:Int.tmod a 8=a%8:=dR (by omega)
 rw[em]
 by_cases h3:a%8=0
 .refine Rn.no (by rw[h3];rfl) ?_
  obtain⟨g,rfl⟩ : ∃g:Nat,a=((8*g:Nat):Int):=⟨(a / 8).toNat,by omega⟩
  have dc:g<n*8:=by omega
  have ed:i64.wrap (Int.tdiv ((8*g:Nat):Int) 8)=(g:Int):=by
   rw[dS (by omega)]
   have:((8*g:Nat):Int) / 8=(g:Int):=by omega
   rw[this,wN _ (by omega)]
  rw[ed]
  rcases xis hf (A:=A) ah aa dc hp.si with⟨k1,k2⟩|⟨z,v,k1,kv,kw,k2⟩
  .refine Rn.run k2 (Rn.yes rfl (Rn.run (yp hf) (Rn.ret (.inl ?_))))
   exact⟨A.steps+1,by omega,dI _,rfl,rfl,fun q z hl hh=>(by
    obtain rfl:q=g:=by omega
    rw[k1]at hl;cases hl),A.tick,Fr.tick [] A,rfl⟩
  .exact Rn.run k2 (Rn.no rfl (Rn.ret (.inr ⟨g,z,v,rfl,k1,kw,rfl,rfl⟩)))
 .refine Rn.yes (by simpa using h3) (Rn.steps (Rn.run (yp hf) (Rn.ret (.inl ?_))))
  exact⟨A.steps,dI _,dI _,rfl,rfl,fun g z hl hh=>by omega,A,(Fr.refl [] A).mono,rfl⟩
end
end
section
open Go Go.RowKit Lx
theorem xAx{b:List Int}{p m:Nat}:(zeroed b p m).length=b.length:=Kz (n:=1) (t:=1) ⟨⟨by omega,by omega,by omega,by omega⟩,by unfold nodesN;omega⟩ b p m
theorem Hp.fr{n t c:Nat}{R:List Nat}{A A':AS}{held:Nat->Option HK}{live:Nat->Option Nat}(h:Hp n t A held live)(f:Fr R c A A')(hR : ∀r∈R,r=2\/r=6\/r=14):Hp n t A' held live:=
 ⟨h.hi.fr f fun r hr=>by have:=hR r hr;omega,h.si.fr f fun hh=>by have:=hR 11 hh;omega,h.lh,by rw[f.b];exact h.bys,by rw[f.b];exact h.len⟩
theorem Hp.tell{n t:Nat}{A:AS}{held:Nat->Option HK}{live:Nat->Option Nat}(h:Hp n t A held live)(r:Res):Hp n t (A.tell r) held live:=
 ⟨h.hi.w fun _ _=>rfl,h.si.same fun _=>rfl,h.lh,h.bys,h.len⟩
theorem Called.calm{n t:Nat}{A A1 A2:AS}{held:Nat->Option HK}{live:Nat->Option Nat}{c:Cal}{r:Res}{k l T:Nat}{R:List Nat}(hf:Fr R k A A1)(hR:2∉R)(hk:k<=100000000000)(hp:Hp n t A2 held live)(Qz : ∀i,A2.w 2 i=A1.w 2 i)(hs:A2.self=A1.self)(ce:A2.steps=A1.steps)(ht:A2.told=some r.cells)
  (hl:A.steps<l/\l<=A1.steps/\r.lin=i64.wrap l/\r.touch=i64.wrap T/\((T=0/\ ¬ (r.e=0/\(c.op=7\/c.op=8)))\/(l<T/\T<=A1.steps/\r.e=0/\(c.op=7\/c.op=8))))
  (hc : ∀f,cntD c r 0 f=f) (hd:Did n held live A.b (A.w 2) c r held live A2.b 0):Called n t A held live c r A2 held live 0:=
 ⟨hp,by rw[hs,hf.self],ht,⟨l,T,by rw[ce];exact hl⟩,by have:=hf.hi;omega,fun i=>by rw[Qz,hf.w 2 hR,hc],hd⟩
theorem jb{c:Cal}{r:Res}{was:Int}(h : ¬ (c.op=1\/c.op=2\/c.op=3))(h4:c.op≠4)(h5:c.op=5->r.e≠0)(f:Nat->Int):cntD c r was f=f:=by
 unfold cntD
 rw[dA h,dA h4]
 by_cases h:c.op=5
 .rw[dB h,dA (h5 h)]
 .rw[dA h]
section
variable{n t:Nat}(hf:Small n t){A:AS}{held:Nat->Option HK}{live:Nat->Option Nat}
include hf
theorem Called.ask{A1 A2:AS}{c:Cal}{r:Res}{s a:Int}{ab:Nat->Option HK}{ac:Nat->Option Nat}(hp:Hp n t A held live)(hAs:Asked n t A.tick held live s a r A1 ab ac)(hs:s=if c.op=2 then xS n c.n c.size else c.size)(ha:a=if c.op=3 then c.align else 1)(am:c.op=1\/c.op=2\/c.op=3)
  (hb:A1.b=A.b/\(c.op=2->r.e≠0)\/c.op=2/\r.e=0/\ ∃g:Nat,r.at_=((8*g:Nat):Int)/\A1.b=zeroed A.b (8*g) (xS n c.n c.size).toNat) (f2:Fr [2] 3 A1 A2) (h2 : ∀i,A2.w 2 i=xdz c r (A1.w 2) i):Called n t A held live c r A2 ab ac 0:=by
 obtain⟨ao,hi,ce,⟨l,l1,l2,l3,_⟩,bp⟩:=hAs
 have ox:Bys A1.b/\A1.b.length=A.b.length:=by
  rcases hb with⟨hb,_⟩|⟨_,_,g,_,hb⟩
  .rw[hb];exact⟨hp.bys,rfl⟩
  .rw[hb];exact⟨hp.bys.zeroed _ _,xAx⟩
 have C8:r.touch=0:=by
  rcases bp with⟨_,_,h,_⟩|⟨g,x,h,_⟩
  .rw[h];rfl
  .rw[h]
 have hAR:AskRes n held live s a r ab ac:=bp
 subst hs ha
 refine⟨⟨hi.fr f2 (by simp),ce.fr f2 (by simp),hAR.lh hp.lh,by rw[f2.b];exact ox.1,by rw[f2.b,ox.2];exact hp.len⟩,by rw[f2.self,ao.self];rfl,by rw[f2.told,ao.told],⟨l,0,?_,by have:=f2.lo;omega,l3,by rw[C8];rfl,.inl ⟨rfl,fun hh=>by omega⟩⟩,?_,fun i =>?_,?_⟩
 .simp only[AS.tick_steps]at l1;omega
 .have h1:=ao.hi
  have:=f2.hi
  simp only[AS.tick_steps]at h1;omega
 .have hw:A1.w 2=A.w 2:=funext fun i=>by rw[ao.w 2 (by unfold askR;simp)];rfl
  rw[h2,hw]
  unfold cntD
  rw[dB am]
 .refine .ask r ab ac A2.b am hAR ?_
  rw[f2.b];exact hb
theorem xun{me:Nat}{a:Int}(ah:me<t)(aa:A.self=(me:Int))(hp:Hp n t A held live):Rn n t (Ww (xd n t) a) A fun r A'=>
  ∃ (A1:AS) (l:Nat),Fr [] 4 A A1/\A'=A1.tell r/\A.steps<=l/\l<=A1.steps/\r.lin=i64.wrap l/\((r=Res.none 13 r.lin/\ ∀g z:Nat,live g=some z->a≠((8*g:Nat):Int))\/
   ∃ (g z:Nat) (x:HK),a=((8*g:Nat):Int)/\live g=some z/\held g=some x/\r=⟨0,((8*x.ext:Nat):Int),0,0,0,0,0,0,0,r.lin,0⟩):=by
 have hn:=hf.n2
 unfold Ww xa2 vY
 rw[show xa=4095+1 from rfl,xu]
 unfold Kf
 refine Rn.bind (xcv hf (A:=A) (a:=a) ah aa hp) ?_
 rintro ⟨x1,x2,x3,x4⟩ A' (⟨l,l1,l2,e1,e2,e3,A1,f1,rfl⟩|⟨g,z,v,rfl,k1,k2,e,rfl⟩)
 .simp only at e1 e2
  subst e1 e2
  refine Rn.yes rfl (Rn.ret ⟨A1,l,f1.mono,rfl,l1,l2,rfl,.inl ⟨rfl,e3⟩⟩)
 .simp only[dH]at e
  obtain⟨rfl,rfl,_,rfl⟩:=e
  obtain⟨x,hx,_⟩:=hp.lh.lh g z k1
  have dc:=HInv.small hf hp.hi hx
  refine Rn.no rfl ?_
  have fx:=xk4 hf (A:=A.tick) (s:=0) (to:=0) (u:=0) (has:=false) ((hp.fr (Fr.tick [] A) (by simp)).hi) hx
  unfold VG xap at fx
  rw[show(⟨(g:Int),0,0,0,false⟩:Lx.Rn).grain=(g:Int)from rfl,T.run_bind,Yp hf dc]at fx
  refine Rn.run (Yp hf (A:=A.tick) dc) ?_
  have Qi:(xcc ⟨(pgOf (A.tick.w 7 (g / 8))).kind,(pgOf (A.tick.w 7 (g / 8))).len,(pgOf (A.tick.w 7 (g / 8))).cls,(pgOf (A.tick.w 7 (g / 8))).owner⟩).run (xo n t) A.tick.tick=some (((8*x.ext:Nat):Int),A.tick.tick):=by
   unfold xcc xeC
   simp only at fx
   by_cases mi:((pgOf (A.tick.w 7 (g / 8))).kind==3)=true
   .rw[mi]at fx |-
    simp only[cond_true]at fx |-
    by_cases ss:(0<=(pgOf (A.tick.w 7 (g / 8))).cls/\(pgOf (A.tick.w 7 (g / 8))).cls<4)
    .rw[dD ss]at fx |-
     simp only[cond_true,T.run,oI,dH]at fx |-
     exact⟨fx.1.1,trivial⟩
    .rw[dC ss]at fx
     simp[T.run]at fx
   .rw[Bool.not_eq_true]at mi
    rw[mi]at fx |-
    by_cases K8:((pgOf (A.tick.w 7 (g / 8))).kind==4)=true
    .rw[K8]at fx
     simp only[cond_false,cond_true,T.run,oI,dH]at fx |-
     exact⟨fx.1.1,trivial⟩
    .rw[Bool.not_eq_true]at K8
     rw[K8]at fx
     simp only[cond_false,T.run,oI,dH]at fx
     have h0:=fx.1.1
     have Ae:0<x.ext:=by
      cases x with
      | blk c=>simp only[HK.ext];omega
      | run m=>have:=(hp.hi.hg.run g m hx).1;simp only[HK.ext];omega
     omega
  refine Rn.run Qi ?_
  refine Rn.load (at11 hf.toFew dc) (by omega) dc ?_
  refine Rn.yes (by simp only[AS.tick_w];rw[k2];simp) ?_
  refine Rn.steps (Rn.run (yp hf) (Rn.ret ⟨A.tick.tick.tick,A.steps+3,?_,rfl,by omega,by simp,rfl,.inr ⟨g,z,x,rfl,k1,hx,rfl⟩⟩))
  exact((Fr.tick [] A).trans (Fr.tick [] _) (S :=[]) (e:=2)).trans (Fr.tick [] _)
theorem xuo{me:Nat}{a o y:Int}(aj:n<=60)(ah:me<t)(aa:A.self=(me:Int))(hp:Hp n t A held live)(hy:0<=y/\y<=255):Rn n t (Wv (xd n t) a o y) A fun r A'=>
    ∃ (A1:AS) (l T:Nat),Fr [] 4 {A with b:=A1.b} A1/\A'=A1.tell r/\A.steps<=l/\l<=A1.steps/\r.lin=i64.wrap l/\r.touch=i64.wrap T/\
      ((r=Res.none 13 r.lin/\T=0/\A1.b=A.b/\ ∀g z:Nat,live g=some z->a≠((8*g:Nat):Int))\/
       (∃g z:Nat,a=((8*g:Nat):Int)/\live g=some z/\(o<0\/(z:Int)<=o)/\r=Res.none 14 r.lin/\T=0/\A1.b=A.b)\/
       ∃g z k:Nat,a=((8*g:Nat):Int)/\live g=some z/\o=(k:Int)/\k<z/\l<T/\T<=A1.steps/\r=⟨0,0,0,0,0,0,0,0,0,r.lin,r.touch⟩/\A1.b=A.b.set (8*g+k) y):=by
  unfold Wv xa1 ql
  refine Rn.bind (xcv hf (A:=A) (a:=a) ah aa hp) ?_
  rintro ⟨x1,x2,x3,x4⟩ A' (⟨l,l1,l2,e1,e2,e3,A1,f1,rfl⟩|⟨g,z,v,rfl,k1,k2,e,rfl⟩)
  . simp only at e1 e2
    subst e1 e2
    have Qc:Fr [] 4 {A with b:=A1.b} A1:=⟨f1.w,rfl,f1.self,f1.told,f1.lo,by have:=f1.hi;show A1.steps<=A.steps+4;omega⟩
    refine Rn.yes rfl (Rn.ret ⟨A1,l,0,Qc,rfl,l1,l2,rfl,rfl,.inl ⟨rfl,rfl,f1.b,e3⟩⟩)
  . simp only[dH]at e
    obtain⟨rfl,rfl,_,rfl⟩:=e
    obtain⟨x,hx,hz⟩:=hp.lh.lh g z k1
    have dc:=HInv.small hf hp.hi hx
    refine Rn.no rfl ?_
    have out:(o<0\/(z:Int)<=o) ->∃ (A1:AS) (l T:Nat),Fr [] 4 {A with b:=A1.b} A1/\A.tick.tell (Res.none 14 (i64.wrap (A.steps+1)))=A1.tell (Res.none 14 (i64.wrap (A.steps+1)))/\A.steps<=l/\l<=A1.steps/\i64.wrap (A.steps+1)=i64.wrap l/\(0:Int)=i64.wrap T/\
      ((Res.none 14 (i64.wrap (A.steps+1))=Res.none 13 (i64.wrap (A.steps+1))/\T=0/\A1.b=A.b/\ ∀g' z:Nat,live g'=some z->((8*g:Nat):Int)≠((8*g':Nat):Int))\/
       (∃g' z:Nat,((8*g:Nat):Int)=((8*g':Nat):Int)/\live g'=some z/\(o<0\/(z:Int)<=o)/\Res.none 14 (i64.wrap (A.steps+1))=Res.none 14 (i64.wrap (A.steps+1))/\T=0/\A1.b=A.b)\/
       ∃g' z k:Nat,((8*g:Nat):Int)=((8*g':Nat):Int)/\live g'=some z/\o=(k:Int)/\k<z/\l<T/\T<=A1.steps/\Res.none 14 (i64.wrap (A.steps+1))=⟨0,0,0,0,0,0,0,0,0,i64.wrap (A.steps+1),0⟩/\A1.b=A.b.set (8*g'+k) y):=fun ho=>
      ⟨A.tick,A.steps+1,0,⟨fun _ _ _=>rfl,rfl,rfl,rfl,by show A.steps<=A.steps+1;omega,by show A.steps+1<=A.steps+4;omega⟩,rfl,by omega,dI _,rfl,rfl,.inr (.inl ⟨g,z,rfl,k1,ho,rfl,rfl,rfl⟩)⟩
    by_cases h1:o<0
    . exact Rn.yes (dD h1) (Rn.run (yp hf) (Rn.ret (out (.inl h1))))
    refine Rn.no (dC h1) ?_
    by_cases h2:o>=(z:Int)
    . exact Rn.yes (dD h2) (Rn.run (yp hf) (Rn.ret (out (.inr h2))))
    refine Rn.no (dC h2) (Rn.run (yp hf) ?_)
    obtain⟨k,rfl⟩ : ∃k:Nat,o=(k:Int):=⟨o.toNat,by omega⟩
    have ea:i64.wrap (((8*g:Nat):Int)+(k:Int))=((8*g+k:Nat):Int):=by
      have:=hp.si.lives g z dc k1
      rw[show((8*g:Nat):Int)+(k:Int)=((8*g+k:Nat):Int)by omega,wN _ (by omega)]
    rw[ea]
    refine Rn.op (o :=.put _ y) (x:=()) (A1:=({A.tick.tell ⟨0,0,0,0,0,0,0,0,0,i64.wrap (A.steps+1),0⟩with b:=A.b.set (8*g+k) y}:AS).tick) ?_ ?_
    . simp only[xo]
      rw[dB hy]
      rfl
    refine Rn.steps (Rn.run (yp hf) (Rn.ret ⟨{A.tick.tick with b:=A.b.set (8*g+k) y},A.steps+1,A.steps+2,⟨fun _ _ _=>rfl,rfl,rfl,rfl,by show A.steps<=A.steps+1+1;omega,by show A.steps+1+1<=A.steps+4;omega⟩,rfl,by omega,by show A.steps+1<=A.steps+1+1;omega,rfl,rfl,.inr (.inr ⟨g,z,k,rfl,k1,rfl,by omega,by omega,dI _,rfl,rfl⟩)⟩))
theorem xyj{me:Nat}{a o:Int}(aj:n<=60)(ah:me<t)(aa:A.self=(me:Int))(hp:Hp n t A held live):Rn n t (xcQ (xd n t) a o) A fun r A'=>
    ∃ (A1:AS) (l T:Nat),Fr [] 4 A A1/\A'=A1.tell r/\A.steps<=l/\l<=A1.steps/\r.lin=i64.wrap l/\r.touch=i64.wrap T/\
      ((r=Res.none 13 r.lin/\T=0/\ ∀g z:Nat,live g=some z->a≠((8*g:Nat):Int))\/
       (∃g z:Nat,a=((8*g:Nat):Int)/\live g=some z/\(o<0\/(z:Int)<=o)/\r=Res.none 14 r.lin/\T=0)\/
       ∃ (g z k:Nat) (y:Int),a=((8*g:Nat):Int)/\live g=some z/\o=(k:Int)/\k<z/\l<T/\T<=A1.steps/\r=⟨0,0,y,0,0,0,0,0,0,r.lin,r.touch⟩/\A.b[8*g+k]? = some y):=by
  unfold xcQ xe5 ql
  refine Rn.bind (xcv hf (A:=A) (a:=a) ah aa hp) ?_
  rintro ⟨x1,x2,x3,x4⟩ A' (⟨l,l1,l2,e1,e2,e3,A1,f1,rfl⟩|⟨g,z,v,rfl,k1,k2,e,rfl⟩)
  . simp only at e1 e2
    subst e1 e2
    refine Rn.yes rfl (Rn.ret ⟨A1,l,0,f1.mono,rfl,l1,l2,rfl,rfl,.inl ⟨rfl,rfl,e3⟩⟩)
  . simp only[dH]at e
    obtain⟨rfl,rfl,_,rfl⟩:=e
    obtain⟨x,hx,hz⟩:=hp.lh.lh g z k1
    have dc:=HInv.small hf hp.hi hx
    have hex:=hp.hi.hg.ext1 hx
    refine Rn.no rfl ?_
    by_cases h1:o<0
    . refine Rn.yes (dD h1) (Rn.run (yp hf) (Rn.ret ⟨A.tick,A.steps+1,0,(Fr.tick [] A).mono,rfl,by omega,dI _,rfl,rfl,.inr (.inl ⟨g,z,rfl,k1,.inl h1,rfl,rfl⟩)⟩))
    refine Rn.no (dC h1) ?_
    by_cases h2:o>=(z:Int)
    . refine Rn.yes (dD h2) (Rn.run (yp hf) (Rn.ret ⟨A.tick,A.steps+1,0,(Fr.tick [] A).mono,rfl,by omega,dI _,rfl,rfl,.inr (.inl ⟨g,z,rfl,k1,.inr h2,rfl,rfl⟩)⟩))
    refine Rn.no (dC h2) (Rn.run (yp hf) ?_)
    obtain⟨k,rfl⟩ : ∃k:Nat,o=(k:Int):=⟨o.toNat,by omega⟩
    have ea:i64.wrap (((8*g:Nat):Int)+(k:Int))=((8*g+k:Nat):Int):=by
      rw[show((8*g:Nat):Int)+(k:Int)=((8*g+k:Nat):Int)by omega,wN _ (by omega)]
    rw[ea]
    have af:8*g+k<A.b.length:=by rw[hp.len];omega
    have cj:A.b[8*g+k]? = some A.b[8*g+k]:=List.getElem?_eq_getElem af
    have Au:=hp.bys _ (List.getElem_mem af)
    refine Rn.op (o :=.get _) (x:=A.b[8*g+k]) (A1:=(A.tick.tell ⟨0,0,0,0,0,0,0,0,0,i64.wrap (A.steps+1),0⟩).tick) ?_ ?_
    . simp only[xo]
      rw[show atI (A.tick.tell ⟨0,0,0,0,0,0,0,0,0,i64.wrap (A.steps+1),0⟩).b ((8*g+k:Nat):Int)=some A.b[8*g+k]from cj]
      simp only
      rw[dB Au]
    refine Rn.steps (Rn.run (yp hf) (Rn.ret ⟨A.tick.tick,A.steps+1,A.steps+2,(Fr.tick [] A).trans (Fr.tick [] _),rfl,by omega,by show A.steps+1<=A.steps+1+1;omega,rfl,rfl,.inr (.inr ⟨g,z,k,A.b[8*g+k],rfl,k1,rfl,by omega,by omega,dI _,rfl,cj⟩)⟩))
end
end
section
open Go Go.RowKit Lx
theorem Hp.tick{n t:Nat}{A:AS}{held:Nat->Option HK}{live:Nat->Option Nat}(h:Hp n t A held live):Hp n t A.tick held live:=h.fr (Fr.tick [] A) (by simp)
section
variable{n t:Nat}(hf:Small n t){A:AS}{held:Nat->Option HK}{live:Nat->Option Nat}
include hf
theorem xup{c:Cal}{s a:Int}{q:T Res}(hp:Hp n t A held live)(am:c.op=1\/c.op=2\/c.op=3)(hs:s=if c.op=2 then xS n c.n c.size else c.size)(ha:a=if c.op=3 then c.align else 1)
  (hq:Rn n t q A.tick fun r A1 =>∃ab ac,Asked n t A.tick held live s a r A1 ab ac/\(A1.b=A.b/\(c.op=2->r.e≠0)\/c.op=2/\r.e=0/\ ∃g:Nat,r.at_=((8*g:Nat):Int)/\A1.b=zeroed A.b (8*g) (xS n c.n c.size).toNat)) :
  Rn n t (q.bind fun r3=>(VW (xd n t) c r3).bind fun r4=>(T.ret r4:T Res)) A.tick fun r A' =>∃ab ac was,Called n t A held live c r A' ab ac was:=by
 refine Rn.bind hq ?_
 rintro r A1 ⟨ab,ac,hA,hb⟩
 refine Rn.bind (xyi hf) ?_
 rintro r' A2 ⟨rfl,f2,h2⟩
 exact Rn.ret ⟨ab,ac,0,Called.ask hf hp hA hs ha am hb f2 h2⟩
theorem xuq{c:Cal}{x:Res×Int}{b b':List Int}{ab:Nat->Option HK}{ac:Nat->Option Nat}(h:Renewed n held live b c.at_ c.size x ab ac b')(hl:LH held live)(hb:Bys b)(sw:b.length=64*n):LH ab ac/\Bys b'/\b'.length=64*n:=by
 cases h with
 | size l h1=>exact⟨hl,hb,sw⟩
 | bad l h1 h2 h3=>exact⟨hl,hb,sw⟩
 | stay l g z x h1 h2 h3 h4 h5 h6=>exact⟨hl.stay h5 (by omega),hb,sw⟩
 | none l g z x h1 h2 h3 h4 h5 h6 h7=>exact⟨hl,hb,sw⟩
 | go l g z x g' y h1 h2 h3 h4 h5 h6 h7 h8 h9=>
  have:=kh h1 h8
  exact⟨(hl.add g' (by omega)).del g,hb.copied _ _ _,by rw[jX];exact sw⟩
omit hf in
theorem xi8{a s:Int}{x:Res×Int}{b b':List Int}{ab:Nat->Option HK}{ac:Nat->Option Nat}(h:Renewed n held live b a s x ab ac b'):x.1.touch=0:=by cases h<;>rfl
theorem xAy{me:Nat}{c:Cal}(aj:n<=60)(ah:me<t)(aa:A.self=(me:Int))(hp:Hp n t A held live)(am:c.op=4) :
  Rn n t ((Wx (xd n t) c).bind fun r4=>(T.ret r4:T Res)) A.tick fun r A' =>∃ab ac was,Called n t A held live c r A' ab ac was:=by
 refine Rn.bind (Q1:=fun r A' =>∃ab ac was,Called n t A held live c r A' ab ac was) ?_ fun r A' h=>Rn.ret h
 unfold Wx xa3
 refine Rn.bind (xsE hf aj ah (A:=A.tick) aa hp.tick.hi hp.tick.si hp.lh.lh hp.bys hp.len) ?_
 rintro ⟨r,was⟩ A1 ⟨ab,ac,co,Et,pe,⟨l,l1,l2,l3,_⟩,_,hR⟩
 obtain⟨fg,dl,Ln⟩:=xuq hf hR hp.lh hp.bys hp.len
 simp only at pe l3 hR |-
 have uk:r.touch=0:=xi8 hR
 have key : ∀A2,Fr [2] 3 A1 A2->(∀i,A2.w 2 i=cntD c r was (A1.w 2) i)->Called n t A held live c r A2 ab ac was:=fun A2 f2 h2=>by
  refine⟨⟨co.fr f2 (by simp),Et.fr f2 (by simp),fg,by rw[f2.b];exact dl,by rw[f2.b];exact Ln⟩,by rw[f2.self,pe.self];rfl,by rw[f2.told,pe.told],⟨l,0,?_,by have:=f2.lo;omega,l3,by rw[uk];rfl,.inl ⟨rfl,fun hh=>by omega⟩⟩,?_,fun i =>?_,?_⟩
  .simp only[AS.tick_steps]at l1;omega
  .have h1:=pe.hi
   have:=f2.hi
   simp only[AS.tick_steps]at h1;omega
  .have hw:A1.w 2=A.w 2:=funext fun i=>by rw[pe.w 2 (by unfold renR;simp)];rfl
   rw[h2,hw]
  .rw[f2.b]
   exact .renew r was ab ac A1.b am hR
 have Bu : ∀f,cntD c r was f=if r.e=0 then Vh f was c.size else if r.e=15\/r.e=5 then xqC f else f:=fun f=>by
  unfold cntD
  rw[dA (by omega),dB am]
 by_cases h0:r.e=0
 .refine Rn.yes (by rw[h0];rfl) ?_
  refine Rn.bind (xm5 hf (w:=was) (z:=c.size)) ?_
  rintro _ A2 ⟨h1,h2⟩
  exact Rn.ret ⟨ab,ac,was,key A2 h2 fun i=>by rw[h1,Bu,dB h0]⟩
 .refine Rn.no (by simpa using h0) ?_
  by_cases h5:r.e=15\/r.e=5
  .refine Rn.run (VU hf) (Rn.yes (dD h5) (Rn.bind (xdA hf) ?_))
   rintro _ A2 ⟨h1,h2⟩
   exact Rn.ret ⟨ab,ac,was,key A2 h2 fun i=>by rw[h1,Bu,dA h0,dB h5]⟩
  .refine Rn.run (VU hf) (Rn.no (dC h5) ?_)
   exact Rn.ret ⟨ab,ac,was,key _ ((Fr.refl [2] _).mono) fun i=>by rw[Bu,dA h0,dA h5]⟩
theorem do_free{me:Nat}{c:Cal}(ah:me<t)(aa:A.self=(me:Int))(hp:Hp n t A held live)(am:c.op=5) :
  Rn n t ((Wr (xd n t) c).bind fun r4=>(T.ret r4:T Res)) A.tick fun r A' =>∃ab ac was,Called n t A held live c r A' ab ac was:=by
 refine Rn.bind (Q1:=fun r A' =>∃ab ac was,Called n t A held live c r A' ab ac was) ?_ fun r A' h=>Rn.ret h
 unfold Wr xaW
 refine Rn.bind (xzM hf ah (A:=A.tick) aa hp.tick.hi hp.tick.si fun g z hl=>by
  obtain⟨x,hx,_⟩:=hp.lh.lh g z hl
  exact⟨x,hx⟩) ?_
 rintro r A1 ⟨hb,pe,⟨l,l1,l2,l3⟩,hR⟩
 have hw:A1.w 2=A.w 2:=funext fun i=>by rw[pe.w 2 (by unfold xsD;simp)];rfl
 have cq:=pe.hi
 simp only[AS.tick_steps]at l1 cq
 rcases hR with⟨hr,co,Et,bg⟩|⟨g,z,dm,ia,hr,_,_,co,Et⟩
 .have he:r.e=13:=by rw[hr];rfl
  refine Rn.no (by rw[he];rfl) (Rn.ret ⟨held,live,0,⟨⟨co,Et,hp.lh,by rw[hb];exact hp.bys,by rw[hb];exact hp.len⟩,by rw[pe.self];rfl,pe.told,⟨l,0,by omega,by omega,l3,by rw[hr];rfl,.inl ⟨rfl,fun hh=>by omega⟩⟩,by omega,fun i =>?_,?_⟩⟩)
  .rw[hw,jb (c:=c) (show ¬ (c.op=1\/c.op=2\/c.op=3)by omega) (show c.op≠4 by omega) (fun _=>show r.e≠0 by omega)]
  .rw[hr,hb]
   exact .bad r.lin (.inl am) bg
 .have he:r.e=0:=by rw[hr]
  have hn:r.n=(z:Int):=by rw[hr]
  refine Rn.yes (by rw[he];rfl) ?_
  refine Rn.bind (xum hf (z:=r.n)) ?_
  .rintro _ A2 ⟨h1,f2⟩
   refine Rn.ret ⟨upd held g none,updS live g none,0,⟨⟨co.fr f2 (by simp),Et.fr f2 (by simp),hp.lh.del g,by rw[f2.b,hb];exact hp.bys,by rw[f2.b,hb];exact hp.len⟩,by rw[f2.self,pe.self];rfl,by rw[f2.told];exact pe.told,⟨l,0,by omega,by have:=f2.lo;omega,l3,by rw[hr];rfl,.inl ⟨rfl,fun hh=>by omega⟩⟩,by have:=f2.hi;omega,fun i =>?_,?_⟩⟩
   .rw[h1,hw]
    unfold cntD
    rw[dA (by omega),dA (by omega),dB am,dB he]
   .rw[f2.b,hb,hr]
    exact .free _ g z am dm ia
theorem xeM{c:Cal}{k:Nat}{R:List Nat}{A1:AS}{r:Res}(hi:HInv n t A1 held)(f:Fr R k A.tick A1)(hR:2∉R/\11∉R)(hk:k<=90000000000)(hp:Hp n t A held live)(uk:r.touch=0)(hc : ∀f,cntD c r 0 f=f)(Qu : ¬ (c.op=7\/c.op=8))
  (hd:Did n held live A.b (A.w 2) c {r with lin:=i64.wrap A1.steps} held live A.b 0) (Bu:cntD c {r with lin:=i64.wrap A1.steps} 0=cntD c r 0) :
  Rn n t ((Vg r).bind fun dq=>(T.ret dq:T Res)) A1 fun r A' =>∃ab ac was,Called n t A held live c r A' ab ac was:=by
 refine Rn.run (xAw hf) (Rn.ret ⟨held,live,0,⟨⟨hi.w fun _ _=>rfl,(hp.tick.si.fr f hR.2).same fun _=>rfl,hp.lh,?_,?_⟩,?_,rfl,⟨A1.steps,0,?_,dI _,rfl,?_,.inl ⟨rfl,fun hh=>Qu hh.2⟩⟩,?_,fun i =>?_,?_⟩⟩)
 .show Bys A1.b
  rw[f.b];exact hp.bys
 .show A1.b.length=_
  rw[f.b];exact hp.len
 .show A1.self=_
  rw[f.self];rfl
 .have:=f.lo
  simp only[AS.tick_steps]at this;omega
 .show r.touch=_
  rw[uk];rfl
 .have:=f.hi
  simp only[AS.tick_steps]at this
  show A1.steps<=_
  omega
 .show A1.w 2 i=_
  rw[f.w 2 hR.1,Bu,hc];rfl
 .show Did n held live A.b (A.w 2) c _ held live A1.b 0
  rw[f.b];exact hd
theorem run_do{me:Nat}{c:Cal}(aj:n<=60)(ah:me<t)(aa:A.self=(me:Int))(hp:Hp n t A held live)(hz:c.size<9223372036854775808)(hm:c.n<9223372036854775808)(Hh:c.align<9223372036854775808)(Au:0<=c.byte/\c.byte<=255) :
  Rn n t (doT (xd n t) c) A fun r A' =>∃ab ac was,Called n t A held live c r A' ab ac was:=by
 have lu:=hf.n1
 unfold doT doTK xa4
 refine Rn.no (dO.2 (show((n:Nat):Int)≠0 by omega)) (Rn.load (at1 hf.toFew) (by omega) (by simp[Zr]) ?_)
 refine Rn.cond (fun h =>?_) (fun g1 =>?_)
 .have h:c.op=1:=by simpa using h
  refine xup hf (c:=c) (s:=c.size) (a:=1) hp (.inl h) (by rw[dA (show ¬c.op=2 by omega)]) (by rw[dA (show ¬c.op=3 by omega)]) ((xwb hf (A:=A.tick) ah aa hp.tick.hi hp.tick.si).mono ?_)
  rintro r A1 ⟨hb,ab,ac,hA⟩
  exact⟨ab,ac,hA,.inl ⟨hb,fun h2=>by omega⟩⟩
 have g1:c.op≠1:=by simpa using g1
 refine Rn.cond (fun h =>?_) (fun g2 =>?_)
 .have h:c.op=2:=by simpa using h
  refine xup hf (c:=c) (s:=xS n c.n c.size) (a:=1) hp (.inr (.inl h)) (by rw[dB h]) (by rw[dA (show ¬c.op=3 by omega)]) ((xwc hf (A:=A.tick) aj hm hz ah aa hp.tick.hi hp.tick.si).mono ?_)
  rintro r A1 ⟨ab,ac,hA,hb⟩
  refine⟨ab,ac,hA,?_⟩
  rcases hb with⟨dl,cm⟩|⟨g,dl,cm⟩
  .exact .inl ⟨cm,fun _=>dl⟩
  .exact .inr ⟨h,dl.1,g,dl.2,cm⟩
 have g2:c.op≠2:=by simpa using g2
 refine Rn.cond (fun h =>?_) (fun g3 =>?_)
 .have h:c.op=3:=by simpa using h
  refine xup hf (c:=c) (s:=c.size) (a:=c.align) hp (.inr (.inr h)) (by rw[dA (show ¬c.op=2 by omega)]) (by rw[dB h]) ((xd2 hf (A:=A.tick) ah aa Hh hp.tick.hi hp.tick.si).mono ?_)
  rintro r A1 ⟨hb,ab,ac,hA⟩
  exact⟨ab,ac,hA,.inl ⟨hb,fun h2=>by omega⟩⟩
 have g3:c.op≠3:=by simpa using g3
 refine Rn.cond (fun h=>xAy hf aj ah aa hp (by simpa using h)) (fun g4 =>?_)
 have g4:c.op≠4:=by simpa using g4
 refine Rn.cond (fun h=>do_free hf ah aa hp (by simpa using h)) (fun g5 =>?_)
 have g5:c.op≠5:=by simpa using g5
 refine Rn.cond (fun h =>?_) (fun g6 =>?_)
 .have h:c.op=6:=by simpa using h
  refine Rn.bind (xun hf (A:=A.tick) ah aa hp.tick) ?_
  rintro r A' ⟨A1,l,f,rfl,l1,l2,l3,hr⟩
  simp only[AS.tick_steps]at l1
  have f':Fr [] 5 A A1:=(Fr.tick [] A).trans f
  have rd:=hp.fr f' (by simp)
  have hc : ∀f,cntD c r 0 f=f:=jb (by omega) (by omega) (fun _=>by omega)
  rcases hr with⟨hr,bg⟩|⟨g,z,x,k1,k2,k3,hr⟩
  .refine Rn.ret ⟨held,live,0,Called.calm (c:=c) (r:=r) (T:=0) f' (by simp) (by omega) (rd.tell r) (fun _=>rfl) rfl rfl rfl ⟨by omega,l2,l3,by rw[hr];rfl,.inl ⟨rfl,by omega⟩⟩ hc ?_⟩
   show Did n held live A.b (A.w 2) c r held live A1.b 0
   rw[f'.b,hr]
   exact .bad _ (by omega) bg
  .refine Rn.ret ⟨held,live,0,Called.calm (c:=c) (r:=r) (T:=0) f' (by simp) (by omega) (rd.tell r) (fun _=>rfl) rfl rfl rfl ⟨by omega,l2,l3,by rw[hr];rfl,.inl ⟨rfl,by omega⟩⟩ hc ?_⟩
   show Did n held live A.b (A.w 2) c r held live A1.b 0
   rw[f'.b,hr]
   exact .use _ g z x h k1 k2 k3
 have g6:c.op≠6:=by simpa using g6
 refine Rn.cond (fun h =>?_) (fun g7 =>?_)
 .have h:c.op=7:=by simpa using h
  refine Rn.bind (xuo hf (A:=A.tick) (a:=c.at_) (o:=c.off) (y:=c.byte) aj ah aa hp.tick Au) ?_
  rintro r A' ⟨A1,l,T0,f,rfl,l1,l2,l3,l4,hr⟩
  simp only[AS.tick_steps]at l1
  have f':Fr [] 5 {A with b:=A1.b} A1:=⟨f.w,rfl,f.self,f.told,by have:=f.lo;simp only[AS.tick_steps]at this;show A.steps<=A1.steps;omega,by have:=f.hi;simp only[AS.tick_steps]at this;show A1.steps<=A.steps+5;omega⟩
  have hc : ∀f,cntD c r 0 f=f:=jb (by omega) (by omega) (fun _=>by omega)
  have fin : ∀ (hB:Bys A1.b) (hL:A1.b.length=64*n),((T0=0/\ ¬ (r.e=0/\(c.op=7\/c.op=8)))\/(l<T0/\T0<=A1.steps/\r.e=0/\(c.op=7\/c.op=8)))->Did n held live A.b (A.w 2) c r held live A1.b 0->Called n t A held live c r (A1.tell r) held live 0:=fun hB hL hT hd=>by
   have rd:Hp n t A1 held live:=(⟨hp.hi.w fun _ _=>rfl,hp.si.same fun _=>rfl,hp.lh,hB,hL⟩:Hp n t {A with b:=A1.b} held live).fr f' (by simp)
   exact⟨rd.tell r,f'.self,rfl,⟨l,T0,by omega,l2,l3,l4,hT⟩,by have:=f'.hi;show A1.steps<=_;simp only at this;omega,fun i=>by show A1.w 2 i=_;rw[f'.w 2 (by simp),hc],hd⟩
  rcases hr with⟨hr,ht,hb,bg⟩|⟨g,z,k1,k2,ho,hr,ht,hb⟩|⟨g,z,k,k1,k2,k3,k4,zk,zj,hr,hb⟩
  .have he:r.e=13:=by rw[hr];rfl
   refine Rn.ret ⟨held,live,0,fin (by rw[hb];exact hp.bys) (by rw[hb];exact hp.len) (.inl ⟨ht,by omega⟩) ?_⟩
   rw[hr,hb]
   exact .bad _ (by omega) bg
  .have he:r.e=14:=by rw[hr];rfl
   refine Rn.ret ⟨held,live,0,fin (by rw[hb];exact hp.bys) (by rw[hb];exact hp.len) (.inl ⟨ht,by omega⟩) ?_⟩
   rw[hr,hb]
   exact .out _ g z (by omega) k1 k2 ho
  .have he:r.e=0:=by rw[hr]
   refine Rn.ret ⟨held,live,0,fin (by rw[hb];exact hp.bys.set _ Au.1 Au.2) (by rw[hb,List.length_set];exact hp.len) (.inr ⟨zk,zj,he,.inl h⟩) ?_⟩
   rw[hr,hb]
   exact .write _ _ g z k h k1 k2 k3 k4
 have g7:c.op≠7:=by simpa using g7
 refine Rn.cond (fun h =>?_) (fun g8 =>?_)
 .have h:c.op=8:=by simpa using h
  refine Rn.bind (xyj hf (A:=A.tick) (a:=c.at_) (o:=c.off) aj ah aa hp.tick) ?_
  rintro r A' ⟨A1,l,T0,f,rfl,l1,l2,l3,l4,hr⟩
  simp only[AS.tick_steps]at l1
  have f':Fr [] 5 A A1:=(Fr.tick [] A).trans f
  have rd:=hp.fr f' (by simp)
  have hc : ∀f,cntD c r 0 f=f:=jb (by omega) (by omega) (fun _=>by omega)
  rcases hr with⟨hr,ht,bg⟩|⟨g,z,k1,k2,ho,hr,ht⟩|⟨g,z,k,y,k1,k2,k3,k4,zk,zj,hr,hy⟩
  .have he:r.e=13:=by rw[hr];rfl
   refine Rn.ret ⟨held,live,0,Called.calm (c:=c) (r:=r) f' (by simp) (by omega) (rd.tell r) (fun _=>rfl) rfl rfl rfl ⟨by omega,l2,l3,l4,.inl ⟨ht,by omega⟩⟩ hc ?_⟩
   show Did n held live A.b (A.w 2) c r held live A1.b 0
   rw[f'.b,hr]
   exact .bad _ (by omega) bg
  .have he:r.e=14:=by rw[hr];rfl
   refine Rn.ret ⟨held,live,0,Called.calm (c:=c) (r:=r) f' (by simp) (by omega) (rd.tell r) (fun _=>rfl) rfl rfl rfl ⟨by omega,l2,l3,l4,.inl ⟨ht,by omega⟩⟩ hc ?_⟩
   show Did n held live A.b (A.w 2) c r held live A1.b 0
   rw[f'.b,hr]
   exact .out _ g z (by omega) k1 k2 ho
  .have he:r.e=0:=by rw[hr]
   refine Rn.ret ⟨held,live,0,Called.calm (c:=c) (r:=r) f' (by simp) (by omega) (rd.tell r) (fun _=>rfl) rfl rfl rfl ⟨by omega,l2,l3,l4,.inr ⟨zk,zj,he,.inr h⟩⟩ hc ?_⟩
   show Did n held live A.b (A.w 2) c r held live A1.b 0
   rw[f'.b,hr]
   exact .read _ _ g z k y h k1 k2 k3 k4 hy
 have g8:c.op≠8:=by simpa using g8
 have hc : ∀ (r:Res) (f:Nat->Int),cntD c r 0 f=f:=fun r=>jb (by omega) (by omega) (fun _=>by omega)
 refine Rn.cond (fun h =>?_) (fun g9 =>?_)
 .have h:c.op=9:=by simpa using h
  refine Rn.bind (xyh hf (A:=A.tick) ah aa hp.tick.hi) ?_
  rintro _ A1 ⟨co,f⟩
  exact xeM hf co f (by simp) (by omega) hp rfl (hc _) (by omega) (.tidy _ (.inl h)) (by funext q;rw[hc,hc])
 have g9:c.op≠9:=by simpa using g9
 refine Rn.cond (fun h =>?_) (fun Ns =>?_)
 .have h:c.op=10:=by simpa using h
  refine Rn.bind (xB7 hf (A:=A.tick) ah aa hp.tick.hi) ?_
  rintro _ A1 ⟨rfl,co,f,_⟩
  exact xeM hf co f (by unfold srcR;simp) (by omega) hp rfl (hc _) (by omega) (.tidy _ (.inr h)) (by funext q;rw[hc,hc])
 have Ns:c.op≠10:=by simpa using Ns
 refine Rn.cond (fun h =>?_) (fun Nr =>?_)
 .have h:c.op=11:=by simpa using h
  refine Rn.bind (Q1:=fun x A1=>x=⟨A.w 2 0,A.w 2 1,A.w 2 2,A.w 2 3,A.w 2 4⟩/\HInv n t A1 held/\Fr [] 5 A.tick A1) ?_ ?_
  .unfold xgv xeH
   refine Rn.load (at2 hf (i:=0) (by omega)) (by omega) (by simp[Zr]) (Rn.load (at2 hf (i:=1) (by omega)) (by omega) (by simp[Zr]) (Rn.load (at2 hf (i:=2) (by omega)) (by omega) (by simp[Zr]) (Rn.load (at2 hf (i:=3) (by omega)) (by omega) (by simp[Zr]) (Rn.load (at2 hf (i:=4) (by omega)) (by omega) (by simp[Zr]) (Rn.ret ?_)))))
   have f5:Fr [] 5 A.tick A.tick.tick.tick.tick.tick.tick:=⟨fun _ _ _=>rfl,rfl,rfl,rfl,by simp only[AS.tick_steps];omega,by simp only[AS.tick_steps];omega⟩
   exact⟨rfl,hp.tick.hi.fr f5 (by simp),f5⟩
  .rintro _ A1 ⟨rfl,co,f⟩
   exact xeM hf co f (by simp) (by omega) hp rfl (hc _) (by omega) (.stats _ h) (by funext q;rw[hc,hc])
 have Nr:c.op≠11:=by simpa using Nr
 exact xeM hf hp.tick.hi (Fr.refl [] A.tick) (by simp) (by omega) hp rfl (hc _) (by omega) (.other _ (by omega)) (by funext q;rw[hc,hc])
end
end
end Go.Proofs.YtcicjcggclhbfaaGreat
