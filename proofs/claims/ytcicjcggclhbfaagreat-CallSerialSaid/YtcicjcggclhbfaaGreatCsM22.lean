/- Part. -/
import Derived.Test.YtcicjcggclhbfaaGreatCsM15
import Derived.Test.YtcicjcggclhbfaaGreatCsPYes
import Derived.Test.YtcicjcggclhbfaaGreatCsM16
import Derived.Test.YtcicjcggclhbfaaGreatCsM24
set_option linter.all false
open Go.IntKind (i64 u64 u32 u8)
set_option maxRecDepth 1000000
namespace Go.Proofs.YtcicjcggclhbfaaGreat
section
open Go Go.RowKit Lx
def Re{α:Type}(q:T α)(Q:α->Prop):Prop :=∃a,q = .ret a/\Q a
section
variable{α β:Type}{Q:α->Prop}
theorem Re.ret{a:α}(h:Q a):Re (.ret a) Q:=⟨a,rfl,h⟩
theorem Re.yes{x y:T α}{b:Bool}(hb:b=true)(h:Re x Q):Re (bif b then x else y) Q:=by subst hb;exact h
theorem Re.no{x y:T α}{b:Bool}(hb:b=false)(h:Re y Q):Re (bif b then x else y) Q:=by subst hb;exact h
theorem Re.cond{x y:T α}{b:Bool}(h1:b=true->Re x Q)(h2:b=false->Re y Q):Re (bif b then x else y) Q:=by
 cases b
 .exact h2 rfl
 .exact h1 rfl
theorem Re.run{q:T β}{a:β}{k:β->T α}(h:q = .ret a)(hk:Re (k a) Q):Re (q.bind k) Q:=by subst h;exact hk
end
theorem asks_eq{L:RowsL}(hL:L.length<=1000)(th bk op sz nn al at_ off by_:Int):Re (xk7 L.length L th bk op sz nn al at_ off by_) fun c =>∃a,c=⟨op,sz,nn,al,a,off,by_⟩:=by
 unfold xk7 xoF jY;refine xZ (fun q=>Re q fun c =>∃a,c=Cal.mk op sz nn al a off by_) (fun k i=>k<=L.length/\i.2.1=(k:Int)-1) ?_ xa L.length _ (by unfold xa;omega) ⟨dI _,?_⟩
 .rintro k ⟨i1,i2,i3⟩ κ ⟨hk,hi⟩ ih;simp only at hi;subst hi;unfold xiy;simp only;by_cases h:1<=k
  .have ge:decide ((k:Int)-1>=0)=true:=dD (by omega)
   have fu:decide ((0:Int)<=(k:Int)-1/\(k:Int)-1<((L.length:Nat):Int))=true:=dD (by omega)
   have Hb:inR L.length ((k:Int)-1)=true:=fu;have next : ∀x y,Re (κ (x,i64.wrap ((k:Int)-1-1),y)) fun c =>∃a,c=Cal.mk op sz nn al a off by_:=fun x y=>ih (k-1) _ (by omega) ⟨by omega,by
    simp only;rw[w64 (by omega) (by omega)];omega⟩
   refine Re.yes ge (Re.cond (fun _ =>?_) fun _=>Re.ret ⟨_,rfl⟩)
   refine Re.yes fu (Re.yes Hb (Re.cond (fun _ =>?_) fun _=>next _ _))
   refine Re.yes fu (Re.yes Hb (Re.cond (fun _ =>?_) fun _=>next _ _))
   refine Re.yes fu (Re.yes Hb (Re.cond (fun _ =>?_) fun _=>next _ _))
   exact Re.yes fu (Re.yes Hb (next _ _))
  .exact Re.no (dC (by omega)) (Re.ret ⟨_,rfl⟩)
 .simp only;rw[w64 (by omega) (by omega)]
structure MemH(n t:Nat)(A:AS)(held:Nat->Option HK)(live:Nat->Option Nat)(W B:List Int):Prop where
 rep:Rep n t (A.port 0) ⟨⟨W,B⟩,0,0,none⟩
 hp:Hp n t A held live
theorem Hp.port{n t:Nat}{A:AS}{held:Nat->Option HK}{live:Nat->Option Nat}(h:Hp n t A held live)(me:Int):Hp n t (A.port me) held live:=
 ⟨h.hi.w fun _ _=>rfl,h.si.same fun _=>rfl,h.lh,h.bys,h.len⟩
def evRow(me:Int)(c:Cal)(fr to_ lin tc:Int)(r:Res):List Int :=[me,c.op,c.size,c.n,c.align,c.at_,c.off,c.byte,fr,to_,lin,tc,1,r.at_,r.n,r.byte,r.c1,r.c2,r.c3,r.c4,r.c5,r.e,r.lin,r.touch]
structure CalOk(c:Cal):Prop where
 size:c.size<9223372036854775808
 n:c.n<9223372036854775808
 align:c.align<9223372036854775808
 byte:0<=c.byte/\c.byte<=255
section
variable{n t:Nat}(hf:Small n t)(aj:n<=60){A:AS}{held:Nat->Option HK}{live:Nat->Option Nat}
include hf aj
theorem xw5{me:Nat}(ah:me<t){c:Cal}(hc:CalOk c){W B:List Int}(hM:MemH n t A held live W B):∃ (r:Res) (s':DS) (A':AS) (ab:Nat->Option HK) (ac:Nat->Option Nat) (was:Int),
  vR (okS W.length W.length B.length B.length W B) (doT (xd n t) c) (DS.mk (Mem.mk W B) (me:Int) 0 none) = .ret (r,r,s')/\Called n t (A.port (me:Int)) held live c r A' ab ac was/\MemH n t A' ab ac s'.m.words s'.m.bytes/\s'.steps=(A'.steps:Int):=by
 have lu:=hf.n1;obtain⟨r,A',hrun,ab,ac,was,hC⟩:=run_do hf aj (A:=A.port (me:Int)) ah rfl (hM.hp.port _) hc.size hc.n hc.align hc.byte;have hR:Rep n t (A.port (me:Int)) ⟨⟨W,B⟩,(me:Int),0,none⟩:=hM.rep.port (me:Int);obtain⟨s',h3,h4⟩:=WR _ hR hrun;have af:=hM.hp.len;have bl:=xxr (s:=⟨⟨W,B⟩,0,0,none⟩) hf.toFew hM.rep (by rw[AS.port_b];omega)
 have ce:=hC.steps;simp only[AS.port_steps]at ce;exact⟨r,s',A',ab,ac,was,xAn bl h3 (by rw[h4.told,hC.told]),hC,⟨h4.port 0,hC.hp⟩,by rw[h4.steps,wN _ (by omega)]⟩
theorem xvu{me:Nat}{c:Cal}{r:Res}{A':AS}{ab:Nat->Option HK}{ac:Nat->Option Nat}{was:Int}(hC:Called n t (A.port (me:Int)) held live c r A' ab ac was):1<=r.lin/\r.lin<=(A'.steps:Int):=by
 obtain⟨l,T,h1,h2,h3,_⟩:=hC.lin;have ce:=hC.steps;simp only[AS.port_steps]at h1 ce;rw[wN _ (by omega)]at h3
 omega
theorem xBi{c:Cal}{r:Res}{A':AS}{ab:Nat->Option HK}{ac:Nat->Option Nat}{was:Int}(hC:Called n t A held live c r A' ab ac was)(h:c.op=11) :
  r.c1=A.w 2 0/\r.c2=A.w 2 1/\r.c3=A.w 2 2/\r.c4=A.w 2 3/\r.c5=A.w 2 4/\ab=held/\ac=live/\A'.b=A.b/\ ∀i,A'.w 2 i=A.w 2 i:=by
 have zq : ∀i,A'.w 2 i=A.w 2 i:=fun i=>by rw[hC.cnt,jb (show ¬ (c.op=1\/c.op=2\/c.op=3)by omega) (by omega) (fun hh=>by omega)]
 have hd:=hC.did;generalize A'.b=b' at hd |-;cases hd with
 | stats l h1=>exact⟨rfl,rfl,rfl,rfl,rfl,rfl,rfl,rfl,zq⟩
 | _=>omega
theorem tmod_th{x:Int}(h0:0<=x)(h1:x<=255):∃me:Nat,me<t/\Int.tmod (i64.wrap x) (xd n t).threads=(me:Int):=by
 have zk:=hf.t1;obtain⟨v,rfl⟩ : ∃v:Nat,x=(v:Int):=⟨x.toNat,by omega⟩
 refine⟨v%t,Nat.mod_lt _ (by omega),?_⟩
 rw[show(xd n t).threads=(t:Int)from rfl,wN _ (by omega),dR (by omega)];omega
end
end
section
open Go Go.RowKit Lx
def xdV(x:Option Nat):Int:=match x with
 | some _=>1
 | none=>0
def xdW(x:Option Nat):Int:=match x with
 | some z=>(z:Int)
 | none=>0
def cntL(live:Nat->Option Nat):Nat->Int
 | 0=>0
 | k+1=>cntL live k+xdV (live k)
def sumL(live:Nat->Option Nat):Nat->Int
 | 0=>0
 | k+1=>sumL live k+xdW (live k)
theorem jR(live:Nat->Option Nat)(g:Nat)(v:Option Nat):∀k,cntL (updS live g v) k=cntL live k+if g<k then xdV v-xdV (live g)else 0
 | 0=>by simp[cntL]
 | k+1=>by
  simp only[cntL,jR live g v k];by_cases h:k=g
  .subst h;rw[xx,dA (by omega),dB (by omega)];omega
  .rw[xG _ _ h];by_cases h2:g<k
   .rw[dB h2,dB (by omega)];omega
   .rw[dA h2,dA (by omega)];omega
theorem jS(live:Nat->Option Nat)(g:Nat)(v:Option Nat):∀k,sumL (updS live g v) k=sumL live k+if g<k then xdW v-xdW (live g)else 0
 | 0=>by simp[sumL]
 | k+1=>by
  simp only[sumL,jS live g v k];by_cases h:k=g
  .subst h;rw[xx,dA (by omega),dB (by omega)];omega
  .rw[xG _ _ h];by_cases h2:g<k
   .rw[dB h2,dB (by omega)];omega
   .rw[dA h2,dA (by omega)];omega
theorem WJ:∀k,cntL (fun _=>none) k=0
 | 0=>rfl
 | k+1=>by simp only[cntL,WJ k];rfl
theorem WK:∀k,sumL (fun _=>none) k=0
 | 0=>rfl
 | k+1=>by simp only[sumL,WK k];rfl
structure CI(K:Nat)(f:Nat->Int)(live:Nat->Option Nat):Prop where
 r0:0<=f 0/\f 0<18446744073709551616
 r1:0<=f 1/\f 1<18446744073709551616
 r3:0<=f 3/\f 3<18446744073709551616
 r4:0<=f 4/\f 4<18446744073709551616
 c0:(f 0-f 1-cntL live K)%18446744073709551616=0
 c3:(f 3-cntL live K)%18446744073709551616=0
 c4:(f 4-sumL live K)%18446744073709551616=0
theorem CI.zero{K:Nat}{f:Nat->Int}(h : ∀i,f i=0):CI K f (fun _=>none):=by
 refine⟨?_,?_,?_,?_,?_,?_,?_⟩<;>simp only[h,WJ,WK]<;>omega
theorem CI.none{K:Nat}{f:Nat->Int}(h:CI K f (fun _=>none)):f 3=0/\f 4=0/\f 0=f 1:=by
 obtain⟨r0,r1,r3,r4,c0,c3,c4⟩:=h;rw[WJ]at c0 c3;rw[WK]at c4;omega
section
variable{K:Nat}{f:Nat->Int}{live:Nat->Option Nat}
theorem al_at(f:Nat->Int)(z:Int):xdx f z 0=(f 0+1)%18446744073709551616/\xdx f z 1=f 1/\xdx f z 3=(f 3+1)%18446744073709551616/\xdx f z 4=(f 4+z%18446744073709551616)%18446744073709551616:=by
 refine⟨?_,rfl,?_,?_⟩<;>simp[xdx,addW,dJ]
theorem fr_at(f:Nat->Int)(z:Int):xdy f z 0=f 0/\xdy f z 1=(f 1+1)%18446744073709551616/\xdy f z 3=(f 3+18446744073709551615)%18446744073709551616/\xdy f z 4=(f 4+i64.wrap (0-z)%18446744073709551616)%18446744073709551616:=by
 refine⟨rfl,?_,?_,?_⟩<;>simp[xdy,addW,dJ]
theorem CI.al(h:CI K f live){g s:Nat}(hg:g<K)(hl:live g=Option.none):CI K (xdx f (s:Int)) (updS live g (some s)):=by
 obtain⟨r0,r1,r3,r4,c0,c3,c4⟩:=h;obtain⟨a0,a1,a3,a4⟩:=al_at f (s:Int);have e1:=jR live g (some s) K;have e2:=jS live g (some s) K;rw[dB hg,hl]at e1 e2;simp only[xdV,xdW]at e1 e2;refine⟨?_,?_,?_,?_,?_,?_,?_⟩<;>simp only[a0,a1,a3,a4,e1,e2]<;>omega
theorem CI.fr(h:CI K f live){g z:Nat}(hg:g<K)(hl:live g=some z)(hz:z<1000000):CI K (xdy f (z:Int)) (updS live g Option.none):=by
 obtain⟨r0,r1,r3,r4,c0,c3,c4⟩:=h;obtain⟨a0,a1,a3,a4⟩:=fr_at f (z:Int);rw[w64 (x:=0-(z:Int)) (by omega) (by omega)]at a4
 have e1:=jR live g Option.none K;have e2:=jS live g Option.none K;rw[dB hg,hl]at e1 e2;simp only[xdV,xdW]at e1 e2;refine⟨?_,?_,?_,?_,?_,?_,?_⟩<;>simp only[a0,a1,a3,a4,e1,e2]<;>omega
theorem CI.fa(h:CI K f live):CI K (xqC f) live:=by
 obtain⟨r0,r1,r3,r4,c0,c3,c4⟩:=h;exact⟨r0,r1,r3,r4,c0,c3,c4⟩
theorem re_at(f:Nat->Int)(w z:Int):Vh f w z 0=f 0/\Vh f w z 1=f 1/\Vh f w z 3=f 3/\Vh f w z 4=(f 4+i64.wrap (z-w)%18446744073709551616)%18446744073709551616:=by
 refine⟨rfl,rfl,rfl,?_⟩;simp[Vh,addW,dJ]
theorem CI.re(h:CI K f live){g z s:Nat}(hg:g<K)(hl:live g=some z)(hz:z<1000000)(hs:s<1000000):CI K (Vh f (z:Int) (s:Int)) (updS live g (some s)):=by
 obtain⟨r0,r1,r3,r4,c0,c3,c4⟩:=h;obtain⟨a0,a1,a3,a4⟩:=re_at f (z:Int) (s:Int);rw[w64 (x:=(s:Int)-(z:Int)) (by omega) (by omega)]at a4
 have e1:=jR live g (some s) K;have e2:=jS live g (some s) K;rw[dB hg,hl]at e1 e2;simp only[xdV,xdW]at e1 e2;refine⟨?_,?_,?_,?_,?_,?_,?_⟩<;>simp only[a0,a1,a3,a4,e1,e2]<;>omega
theorem CI.go(h:CI K f live){g g' z s:Nat}(hg:g<K)(iy:g'<K)(hl:live g=some z)(mt:live g'=Option.none)(hz:z<1000000)(hs:s<1000000):CI K (Vh f (z:Int) (s:Int)) (updS (updS live g' (some s)) g Option.none):=by
 have aq:g≠g':=by rintro rfl;rw[hl]at mt;cases mt
 obtain⟨r0,r1,r3,r4,c0,c3,c4⟩:=h;obtain⟨a0,a1,a3,a4⟩:=re_at f (z:Int) (s:Int);rw[w64 (x:=(s:Int)-(z:Int)) (by omega) (by omega)]at a4
 have e1:=jR live g' (some s) K;have e2:=jS live g' (some s) K;have e3:=jR (updS live g' (some s)) g Option.none K;have e4:=jS (updS live g' (some s)) g Option.none K;rw[dB iy,mt]at e1 e2;rw[dB hg,xG _ _ aq,hl]at e3 e4;simp only[xdV,xdW]at e1 e2 e3 e4;refine⟨?_,?_,?_,?_,?_,?_,?_⟩<;>simp only[a0,a1,a3,a4,e1,e2,e3,e4]<;>omega
theorem CI.of{f':Nat->Int}(h:CI K f live)(e : ∀i,f' i=f i):CI K f' live:=by
 have:f'=f:=funext e;rw[this];exact h
end
theorem xBj{n:Nat}(hn:n<=1000){c:Cal}{s:Int}(hs:s=if c.op=2 then xS n c.n c.size else c.size)(h1:1<=s)(h2:s<=64*n):csz c=s:=by
 unfold csz;by_cases h:c.op=2
 .rw[dB h]at hs |-;unfold xS at hs;split at hs
  .rw[Int.mul_comm c.size c.n,<- hs];exact w64 (by omega) (by omega)
  .omega
 .rw[dA h]at hs |-;exact hs.symm
section
variable{n t:Nat}(hf:Small n t)(aj:n<=60){A:AS}{held:Nat->Option HK}{live:Nat->Option Nat}
include hf aj
theorem Hp.lives{g z:Nat}(hp:Hp n t A held live)(hl:live g=some z):g<8*n/\z<=64*n/\z<1000000:=by
 obtain⟨x,h1,h2⟩:=hp.lh.lh g z hl;have h3:=hp.hi.hg.ext1 h1;have h4:=HInv.small hf hp.hi h1;omega
theorem Called.cnt_live{c:Cal}{r:Res}{A':AS}{ab:Nat->Option HK}{ac:Nat->Option Nat}{was:Int}(hC:Called n t A held live c r A' ab ac was)(hp:Hp n t A held live)(h:CI (8*n) (A.w 2) live):CI (8*n) (A'.w 2) ac:=by
 refine CI.of (f:=cntD c r was (A.w 2)) ?_ hC.cnt;have o9:=hC.hp;have hd:=hC.did;generalize A'.b=b' at hd;unfold cntD;cases hd with
 | ask r ab ac b' am hA hb=>
  rw[dB am];unfold xdz;rcases hA with⟨_,rfl,hr,he⟩|⟨g,x,hr,hg,_,rfl,h1,h2,_,h4⟩
  .have aq:r.e≠0:=by rcases he with⟨he,_⟩|⟨_,_,⟨he,_⟩|⟨he,_⟩⟩<;>omega
   rw[dA aq];split
   .exact h.fa
   .exact h
  .have he:r.e=0:=by rw[hr]
   rw[dB he];obtain⟨s,hs⟩ : ∃s:Nat,(if c.op=2 then xS n c.n c.size else c.size)=(s:Int):=⟨(if c.op=2 then xS n c.n c.size else c.size).toNat,by omega⟩
   rw[xBj (by omega) hs.symm (by omega) (by omega)]
   rw[hs];have fe:live g=none:=by
    cases hl:live g with
    | none=>rfl
    | some z=>
     obtain⟨y,hy,_⟩:=hp.lh.lh g z hl;rw[hg]at hy;cases hy
   rw[hs]at o9;have Am:=(o9.lives hf aj (xx _ _ _)).1;exact h.al Am fe
 | renew r was ab ac b' am hR=>
  rw[dA (by omega),dB am]
  generalize hx:(r,was)=x at hR;cases hR with
  | size l h1=>
   simp only[dH]at hx;obtain⟨rfl,rfl⟩:=hx;rw[dA (by show(11:Int)≠0;omega),dA (by show ¬ ((11:Int)=15\/(11:Int)=5);omega)];exact h
  | bad l h1 h2 h3=>
   simp only[dH]at hx;obtain⟨rfl,rfl⟩:=hx;rw[dA (by show(13:Int)≠0;omega),dA (by show ¬ ((13:Int)=15\/(13:Int)=5);omega)];exact h
  | stay l g z x h1 h2 h3 h4 h5 h6=>
   simp only[dH]at hx;obtain⟨rfl,rfl⟩:=hx;rw[dB rfl];obtain⟨g8,_,hz⟩:=hp.lives hf aj h4;have:=h.re (s:=c.size.toNat) g8 h4 hz (by omega)
   rwa [show((c.size.toNat:Nat):Int)=c.size by omega]at this
  | none l g z x h1 h2 h3 h4 h5 h6 h7=>
   simp only[dH]at hx;obtain⟨rfl,rfl⟩:=hx;rw[dA (by show(15:Int)≠0;omega),dB (.inl rfl)];exact h.fa
  | go l g z x g' y h1 h2 h3 h4 h5 h6 h7 h8 h9=>
   simp only[dH]at hx;obtain⟨rfl,rfl⟩:=hx;rw[dB rfl];obtain⟨g8,_,hz⟩:=hp.lives hf aj h4;have fe:live g'=Option.none:=by
    cases hl:live g' with
    | none=>rfl
    | some z=>
     obtain⟨y,hy,_⟩:=hp.lh.lh g' z hl;rw[h7]at hy;cases hy
   have aq:g'≠g:=by rintro rfl;rw[h4]at fe;cases fe
   have Lv:g'<8*n:=(o9.lives hf aj (g:=g') (z:=c.size.toNat) (by rw[xG _ _ aq,xx])).1
   have:=h.go (s:=c.size.toNat) g8 Lv h4 fe hz (by omega)
   rwa [show((c.size.toNat:Nat):Int)=c.size by omega]at this
 | free l g z h1 h2 h3=>
  rw[dA (by omega),dA (by omega),dB h1,dB rfl]
  obtain⟨g8,_,hz⟩:=hp.lives hf aj h3;exact h.fr g8 h3 hz
 | bad l h1 h2=>
  rw[dA (by omega),dA (by omega)]
  by_cases h5:c.op=5
  .rw[dB h5,dA (by show(13:Int)≠0;omega)];exact h
  .rw[dA h5];exact h
 | use l g z x h1=>rw[dA (by omega),dA (by omega),dA (by omega)];exact h
 | out l g z h1=>rw[dA (by omega),dA (by omega),dA (by omega)];exact h
 | write l m g z k h1=>rw[dA (by omega),dA (by omega),dA (by omega)];exact h
 | read l m g z k y h1=>rw[dA (by omega),dA (by omega),dA (by omega)];exact h
 | tidy l h1=>rw[dA (by omega),dA (by omega),dA (by omega)];exact h
 | stats l h1=>rw[dA (by omega),dA (by omega),dA (by omega)];exact h
 | other l h1=>rw[dA (by omega),dA (by omega),dA (by omega)];exact h
end
end
section
open Go Go.RowKit Lx
section
variable{n t:Nat}(hf:Small n t)
include hf
theorem xrY:decide (0<=(xd n t).b19/\(xd n t).b19<=1000000/\0<=i64.wrap (64*(xd n t).pages)/\i64.wrap (64*(xd n t).pages)<=1000000)=true:=by
 have Pp:=hf.n2;have hBr:=xxf hf.n2 hf.t2;have Lf:(xd n t).b19=((Br n t 19:Nat):Int):=rfl;have e2:i64.wrap (64*(xd n t).pages)=((n*64:Nat):Int):=by
  show i64.wrap (64*((n:Nat):Int))=_;rw[show 64*((n:Nat):Int)=((n*64:Nat):Int)by omega,wN _ (by omega)]
 rw[dT,e2,Lf];omega
theorem xBk:∃ (u3:Unit) (s3:DS) (u4:Unit) (s4:DS) (A:AS),
  vN (okS (Int.toNat (xd n t).b19) (Int.toNat (xd n t).b19) (Int.toNat (i64.wrap (64*(xd n t).pages))) (Int.toNat (i64.wrap (64*(xd n t).pages))) (List.replicate (Int.toNat (xd n t).b19) 0) (List.replicate (Int.toNat (i64.wrap (64*(xd n t).pages))) 0)) (XF (xd n t))
   (DS.mk (Mem.mk (List.replicate (Int.toNat (xd n t).b19) 0) (List.replicate (Int.toNat (i64.wrap (64*(xd n t).pages))) 0)) 0 0 none) = .ret (u3,s3)/\
  vN (okS s3.m.words.length s3.m.words.length s3.m.bytes.length s3.m.bytes.length s3.m.words s3.m.bytes) (XH (xd n t)) (DS.mk s3.m s3.self s3.steps none) = .ret (u4,s4)/\
  MemH n t A (fun _=>none) (fun _=>none) s4.m.words s4.m.bytes/\ ∀i,A.w 2 i=0:=by
 have Pp:=hf.n2;have hBr:=xxf hf.n2 hf.t2;have e2:i64.wrap (64*(xd n t).pages)=((n*64:Nat):Int):=by
  show i64.wrap (64*((n:Nat):Int))=_;rw[show 64*((n:Nat):Int)=((n*64:Nat):Int)by omega,wN _ (by omega)]
 have hX:Int.toNat (xd n t).b19=Br n t 19:=rfl;have hY:Int.toNat (i64.wrap (64*(xd n t).pages))=n*64:=by rw[e2];rfl
 rw[hX,hY];have hR0:Rep n t (xiw 0 (List.replicate (n*64) 0) 0) ⟨⟨List.replicate (Br n t 19) 0,List.replicate (n*64) 0⟩,0,0,none⟩:=xCa 0 _;have bl:okS (Br n t 19) (Br n t 19) (n*64) (n*64) (List.replicate (Br n t 19) 0) (List.replicate (n*64) 0)=true:=dD ⟨rfl,rfl,by simp,by simp,by omega,by omega⟩
 have hl:=xig (xiw 0 (List.replicate (n*64) 0) 0) 0 n;obtain⟨s3,h3,r3⟩:=WR (XF (xd n t)) hR0 (xzP hf);have t3:s3.told=none:=by rw[r3.told,hl.told];rfl
 have N8:Rep n t ((xiw 0 (List.replicate (n*64) 0) 0).lay 0 n) ⟨⟨s3.m.words,s3.m.bytes⟩,s3.self,s3.steps,none⟩:=⟨r3.len,r3.row,r3.bytes,r3.self,r3.steps,by rw[hl.told];rfl⟩
 obtain⟨x4,A2,hrun,ao,h4,hNN⟩:=xzR hf (A:=(xiw 0 (List.replicate (n*64) 0) 0).lay 0 n) trivial;obtain⟨s4,h5,r4⟩:=WR (XH (xd n t)) N8 hrun;have hE:Empty n t A2:=xCc hf (A0:=xiw 0 (List.replicate (n*64) 0) 0) (fun _ _=>rfl) (fun _ _=>rfl) ao h4 hNN
 obtain⟨hi,hs⟩:=hE.inv hf;have dl:((xiw 0 (List.replicate (n*64) 0) 0).lay 0 n).b=List.replicate (n*64) 0:=by rw[hl.b];rfl
 have hb:A2.b=List.replicate (n*64) 0:=by rw[ao.b,dl]
 refine⟨(),s3,x4,s4,A2,xug bl h3 t3,xug (xxr hf.toFew r3 (by rw[dl,List.length_replicate];omega)) h5 (by rw[r4.told,ao.told,hl.told];rfl),⟨r4.port 0,hi,hs,LH.nil,?_,?_⟩,hE.rest 2 (by decide) (by decide) (by decide) (by decide)⟩
 .rw[hb];intro y hy;rw[List.eq_of_mem_replicate hy];omega
 .rw[hb,List.length_replicate];omega
end
end
section
open Go Go.RowKit Lx
structure TurnOk(r:List Int):Prop where
 th:0<=getI r 0/\getI r 0<=255
 size:getI r 3<=9223372036854775807
 n:getI r 4<=9223372036854775807
 align:getI r 5<=9223372036854775807
 byte:0<=getI r 8/\getI r 8<=255
end
section
open Go Go.RowKit Go.ChangeShapes Lx
def shT:List CK :=[.int .u8,.int .u8,.int .u8,.int .i64,.int .i64,.int .i64,.int .i64,.int .i64,.int .u8]
theorem xvv : Tryz.prog.cellsOf 120 = 9:=by kernel_rfl
theorem xon : Tryz.prog.cellsOf 76 = 7:=by kernel_rfl
section
variable{H:Type}{enc:TypeId×Value->H}{w:World}{base:Nat}{spare:Nat->Bool}{held:Bool}
theorem xze {n:Nat} {cs:List Value} {x:DataW H×List MemPlace} (h:DataW.trod enc Tryz.prog w base spare held n 120 cs=some x):∃r:List Int,TurnOk r/\denL NP.pv [] (rowC shT r)=some cs:=by
 obtain⟨xs,n,_,hx,hl,af,hf⟩:=DataW.trod_struct Tryz.underlying120 h;rw[xvv]at hl
 match cs,hl with
 | [c0,c1,c2,c3,c4,c5,c6,c7,c8],_=>
 have sf:xs.length=3:=af;obtain⟨y0,g0⟩:=fld hf 0 (t:= 5) (o:=0) rfl We (by omega)
 obtain⟨y1,g1⟩:=fld hf 1 (t:= 5) (o:=1) rfl We (by omega)
 obtain⟨y2,g2⟩:=fld hf 2 (t:= 76) (o:=2) rfl xon (by omega)
 simp only[List.drop_zero,List.drop_succ_cons,List.take_succ_cons,List.take_zero]at g0 g1 g2;obtain⟨m0,e0,k0,_⟩:=xeN Tryz.underlying5 g0;obtain⟨m1,e1,k1,_⟩:=xeN Tryz.underlying5 g1;obtain⟨Nv,n2,_,Mn,fp,rg,Ao⟩:=DataW.trod_struct Tryz.underlying76 g2;have O4:Nv.length=7:=rg;obtain⟨z0,q0⟩:=fld Ao 0 (t:= 5) (o:=0) rfl We (by omega)
 obtain⟨z1,q1⟩:=fld Ao 1 (t:= 3) (o:=1) rfl jD (by omega)
 obtain⟨z2,q2⟩:=fld Ao 2 (t:= 3) (o:=2) rfl jD (by omega)
 obtain⟨z3,q3⟩:=fld Ao 3 (t:= 3) (o:=3) rfl jD (by omega)
 obtain⟨z4,q4⟩:=fld Ao 4 (t:= 3) (o:=4) rfl jD (by omega)
 obtain⟨z5,q5⟩:=fld Ao 5 (t:= 3) (o:=5) rfl jD (by omega)
 obtain⟨z6,q6⟩:=fld Ao 6 (t:= 5) (o:=6) rfl We (by omega)
 simp only[List.drop_zero,List.drop_succ_cons,List.take_succ_cons,List.take_zero]at q0 q1 q2 q3 q4 q5 q6;obtain⟨m2,e2,k2,_⟩:=xeN Tryz.underlying5 q0;obtain⟨m3,e3,k3,_⟩:=XL Tryz.underlying3 q1;obtain⟨m4,e4,k4,_⟩:=XL Tryz.underlying3 q2;obtain⟨m5,e5,k5,_⟩:=XL Tryz.underlying3 q3;obtain⟨m6,e6,k6,_⟩:=XL Tryz.underlying3 q4;obtain⟨m7,e7,k7,_⟩:=XL Tryz.underlying3 q5;obtain⟨m8,e8,k8,_⟩:=xeN Tryz.underlying5 q6;simp only[List.cons.injEq,and_true]at e0 e1 e2 e3 e4 e5 e6 e7 e8;subst e0 e1 e2 e3 e4 e5 e6 e7 e8;exact⟨[m0,m1,m2,m3,m4,m5,m6,m7,m8],⟨k0,k3.2,k4.2,k5.2,k8⟩,rfl⟩
end
end
section
open Go Go.RowKit Lx
inductive Hist(n t:Nat)(A0:AS):AS->(Nat->Option HK)->(Nat->Option Nat)->RowsL->Nat->Prop
 | nil:Hist n t A0 A0 (fun _=>none) (fun _=>none) [] 0
 | call {A:AS} {held:Nat->Option HK} {live:Nat->Option Nat} {H:RowsL} {st:Nat} {me:Nat} {c:Cal} {r:Res} {A':AS} {ab:Nat->Option HK} {ac:Nat->Option Nat} {was:Int}:Hist n t A0 A held live H st->me<t->CalOk c->Called n t (A.port (me:Int)) held live c r A' ab ac was->
   Hist n t A0 A' ab ac (H ++ [evRow me c ((st:Int)+1) ((st:Int)+(A'.steps:Int)) ((st:Int)+r.lin) (if r.touch>0 then(st:Int)+r.touch else -1) r]) (st+A'.steps)
section
variable{n t:Nat}(hf:Small n t)(aj:n<=60){A0 A:AS}{held:Nat->Option HK}{live:Nat->Option Nat}
include hf aj
theorem xoo{me:Nat}{c:Cal}{r:Res}{A':AS}{ab:Nat->Option HK}{ac:Nat->Option Nat}{was:Int}(hC:Called n t (A.port (me:Int)) held live c r A' ab ac was):0<=r.touch/\r.touch<=(A'.steps:Int):=by
 obtain⟨l,T,h1,h2,h3,h4,h5⟩:=hC.lin;have ce:=hC.steps;simp only[AS.port_steps]at h1 ce;have:T<=A'.steps:=by rcases h5 with h5|h5<;>omega
 rw[wN _ (by omega)]at h4
 omega
theorem ser_eq{W B:List Int}(hM0:MemH n t A0 (fun _=>none) (fun _=>none) W B){Q:RowsL}(hQ : ∀r∈Q,TurnOk r)(hQ40:Q.length<=40){o c:Nat}{z:Yi} :
  Re (serT (xd n t) W.length W.length B.length B.length W B o z Q.length c o Q) fun R =>∃ (W B:List Int) (A:AS) (held:Nat->Option HK) (live:Nat->Option Nat) (H:RowsL) (st:Nat),
   R=⟨H.length,H,true,W.length,W.length,B.length,B.length,W,B⟩/\H.length=Q.length/\st<=H.length*100000000000/\MemH n t A held live W B/\Hist n t A0 A held live H st:=by
 have zk:=hf.t1;unfold serT xw7 Xb;refine xZ (fun q=>Re q fun R =>∃ (W B:List Int) (A:AS) (held:Nat->Option HK) (live:Nat->Option Nat) (H:RowsL) (st:Nat),R=Ser.mk H.length H true W.length W.length B.length B.length W B/\H.length=Q.length/\st<=H.length*100000000000/\MemH n t A held live W B/\Hist n t A0 A held live H st)
  (fun k i =>∃ (j:Nat) (W B:List Int) (A:AS) (held:Nat->Option HK) (live:Nat->Option Nat) (H:RowsL) (st:Nat),i=(H.length,true,(st:Int),(j:Int),W.length,W.length,B.length,B.length,W,B,H)/\j<=Q.length/\k=Q.length-j/\H.length=j/\st<=j*100000000000/\MemH n t A held live W B/\Hist n t A0 A held live H st)
  ?_ xa Q.length _ (by unfold xa;omega) ⟨0,W,B,A0,_,_,[],0,rfl,by omega,by omega,rfl,by omega,hM0,.nil⟩
 clear hM0 W B;rintro k i κ ⟨j,W,B,A,held,live,H,st,rfl,hj,rfl,hH,ce,hM,hS⟩ ih;unfold xoq;simp only;by_cases h:j<Q.length
 case neg=>
  obtain rfl:j=Q.length:=by omega
  exact Re.no (dC (by omega)) (Re.ret ⟨W,B,A,held,live,H,st,rfl,hH,by rw[hH];exact ce,hM,hS⟩)
 refine Re.yes (dD (by omega)) (Re.yes (xU h) (Re.yes (by rw[Nat.beq_refl,xM h];rfl) (Re.yes (by rw[show(xd n t).threads=(t:Int)from rfl];simp;omega) (Re.yes (xU h) (Re.yes (by rw[Nat.beq_refl,xM h];rfl) ?_)))))
 have hR:TurnOk (getR Q (Int.toNat (j:Int))):=by
  rw[show Int.toNat (j:Int)=j from rfl,ya h];exact hQ _ (List.getElem_mem h)
 have ej:i64.wrap ((j:Int)+1)=((j+1:Nat):Int):=yO (by omega)
 generalize ba:getR Q (Int.toNat (j:Int))=row at hR |-;obtain⟨c',hq,a,rfl⟩:=asks_eq (L:=H) (by omega) (getI row 0) (getI row 1) (getI row 2) (getI row 3) (getI row 4) (getI row 5) (getI row 6) (getI row 7) (getI row 8)
 refine Re.run hq ?_;obtain⟨me,ah,ee⟩:=tmod_th hf aj hR.th.1 hR.th.2;have sr:CalOk ⟨getI row 2,getI row 3,getI row 4,getI row 5,a,getI row 7,getI row 8⟩:=⟨by have:=hR.size;show getI row 3<_;omega,by have:=hR.n;show getI row 4<_;omega,by have:=hR.align;show getI row 5<_;omega,hR.byte⟩
 obtain⟨r,s',A',ab,ac,was,hv,hC,hM',Bh⟩:=xw5 hf aj ah sr hM;obtain⟨h1,h2⟩:=xvu hf aj hC;obtain⟨h3,h4⟩:=xoo hf aj hC;have um:=hC.steps;simp only[AS.port_steps]at um
 try simp only
 rw[ee];refine Re.run hv ?_;have bl:decide (r.lin<=s'.steps)=true:=by rw[Bh];exact dD h2
 have Gs:(Nat.beq H.length H.length&&Nat.ble H.length 1000)=true:=by rw[Nat.beq_refl,Bool.true_and];exact dP (by omega)
 have w1:i64.wrap ((st:Int)+1)=(st:Int)+1:=w64 (by omega) (by omega)
 have w2:i64.wrap ((st:Int)+s'.steps)=(st:Int)+(A'.steps:Int):=by rw[Bh];exact w64 (by omega) (by omega)
 have w3:i64.wrap ((st:Int)+r.lin)=(st:Int)+r.lin:=w64 (by omega) (by omega)
 have w4:i64.wrap ((st:Int)+r.touch)=(st:Int)+r.touch:=w64 (by omega) (by omega)
 have next:=ih (Q.length-(j+1)) (H.length+1,true,(st:Int)+(A'.steps:Int),((j+1:Nat):Int),s'.m.words.length,s'.m.words.length,s'.m.bytes.length,s'.m.bytes.length,s'.m.words,s'.m.bytes,H ++ [evRow me ⟨getI row 2,getI row 3,getI row 4,getI row 5,a,getI row 7,getI row 8⟩ ((st:Int)+1) ((st:Int)+(A'.steps:Int)) ((st:Int)+r.lin) (if r.touch>0 then(st:Int)+r.touch else -1) r]) (by omega)
  ⟨j+1,s'.m.words,s'.m.bytes,A',ab,ac,_,st+A'.steps,by simp only[dM,List.length_singleton];rfl,by omega,rfl,by simp only[dM,List.length_singleton];omega,by omega,hM',Hist.call hS ah sr hC⟩
 simp only[beq_self_eq_true,Bool.and_self];refine Re.yes rfl (Re.yes rfl (Re.yes (dD h1) ?_));unfold seK;simp only;rw[bl,ba,ee,ej,w1,w2,w3,w4];refine Re.cond (fun ht=>Re.yes Gs ?_) fun ht=>Re.yes Gs ?_
 .rw[dB (dE ht)]at next;exact next
 .rw[dA (dG ht)]at next;exact next
omit hf aj in
theorem xBl{H:RowsL}{x:List Int}{P:List Int->Prop}(h:(∃row∈H,P row)\/P x):∃row∈H ++ [x],P row:=by
 rcases h with⟨row,h1,h2⟩|h
 .exact⟨row,by simp[h1],h2⟩
 .exact⟨x,by simp,h⟩
omit hf aj in
theorem Hist.lives{H:RowsL}{st:Nat}(h:Hist n t A0 A held live H st):∀g z,live g=some z ->∃row∈H,getI row 21=0/\getI row 13=((8*g:Nat):Int)/\getI row 1<=4:=by
 induction h with
 | nil=>intro g z h;cases h
 | call hS ah sr hC ih=>
  rename_i A held live H st me c r A' ab ac was;intro g z hg;refine xBl ?_;have hd:=hC.did;generalize(A.port (me:Int)).b=b0 at hd;generalize(A.port (me:Int)).w 2=f0 at hd;generalize A'.b=b1 at hd;clear hC;cases hd with
  | ask r ab ac b' am hA hb=>
   rcases hA with⟨_,rfl,_⟩|⟨g',x,hr,_,_,rfl,_⟩
   .exact .inl (ih g z hg)
   .by_cases gf:g=g'
    .subst gf;refine .inr ⟨?_,?_,?_⟩
     .show r.e=0;rw[hr]
     .show r.at_=_;rw[hr]
     .show c.op<=4;omega
    .rw[xG _ _ gf]at hg;exact .inl (ih g z hg)
  | renew r was ab ac b' am hR=>
   generalize hx:(r,was)=x at hR;cases hR with
   | size l h1=>exact .inl (ih g z hg)
   | bad l h1 h2 h3=>exact .inl (ih g z hg)
   | stay l g' z' x' h1 h2 h3 h4 h5 h6=>
    by_cases gf:g=g'
    .subst gf;simp only[dH]at hx;refine .inr ⟨?_,?_,?_⟩
     .show r.e=0;rw[hx.1]
     .show r.at_=_;rw[hx.1]
     .show c.op<=4;omega
    .rw[xG _ _ gf]at hg;exact .inl (ih g z hg)
   | none l g' z' x' h1 h2 h3 h4 h5 h6 h7=>exact .inl (ih g z hg)
   | go l g1 z1 x1 g2 y h1 h2 h3 h4 h5 h6 h7 h8 h9=>
    by_cases Gd:g=g1
    .subst Gd;rw[xx]at hg;cases hg
    .rw[xG _ _ Gd]at hg;by_cases pc:g=g2
     .subst pc;simp only[dH]at hx;refine .inr ⟨?_,?_,?_⟩
      .show r.e=0;rw[hx.1]
      .show r.at_=_;rw[hx.1]
      .show c.op<=4;omega
     .rw[xG _ _ pc]at hg;exact .inl (ih g z hg)
  | free l g' z' am dm ia=>
   by_cases gf:g=g'
   .subst gf;rw[xx]at hg;cases hg
   .rw[xG _ _ gf]at hg;exact .inl (ih g z hg)
  | bad l h1 h2=>exact .inl (ih g z hg)
  | use l g' z' x h1 h2 h3 h4=>exact .inl (ih g z hg)
  | out l g' z' h1 h2 h3 h4=>exact .inl (ih g z hg)
  | write l m g' z' k h1 h2 h3 h4 h5=>exact .inl (ih g z hg)
  | read l m g' z' k y h1 h2 h3 h4 h5 h6=>exact .inl (ih g z hg)
  | tidy l h1=>exact .inl (ih g z hg)
  | stats l h1=>exact .inl (ih g z hg)
  | other l h1=>exact .inl (ih g z hg)
end
end
section
open Go Go.RowKit Lx
end
section
open Go Go.RowKit Lx
section
variable{n t:Nat}(hf:Small n t)(aj:n<=60){A:AS}{held:Nat->Option HK}{live:Nat->Option Nat}
include hf aj
end
end
section
open Go Go.RowKit Lx
def delM(row:List Int)(m:RowsL):RowsL:=if getI row 21=0/\(getI row 1=4\/getI row 1=5)then mdel (getI row 5) m else m
def stepM(row:List Int)(m:RowsL):RowsL:=if getI row 21=0/\1<=getI row 1/\getI row 1<=4 then mput (getI row 13) [1] (delM row m)else delM row m
def mapM(H:RowsL):RowsL:=H.foldl (fun m r=>stepM r m) []
section
variable{n t:Nat}(hf:Small n t)(aj:n<=60){A0 A:AS}{held:Nat->Option HK}{live:Nat->Option Nat}
include hf aj
end
end
section
open Go Go.RowKit Go.ChangeShapes Lx
section
variable{n t:Nat}(hf:Small n t)(aj:n<=60){A:AS}{held:Nat->Option HK}{live:Nat->Option Nat}
include hf aj
theorem cal5(op a s:Int)(hs:s<9223372036854775808):CalOk ⟨op,s,0,0,a,0,0⟩:=⟨hs,by show(0:Int)<_;omega,by show(0:Int)<_;omega,by show(0:Int)<=0/\(0:Int)<=255;omega⟩
end
end
end Go.Proofs.YtcicjcggclhbfaaGreat
