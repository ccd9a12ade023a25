/- Part. -/
import Derived.Test.YtaegelbaghaooaaGreatCbPCall
set_option linter.all false
open Go.IntKind (i64 u64 u32 u8)
namespace Go.Proofs.YtaegelbaghaooaaGreat
open Go Go.RowKit Lx
def xgs(x:Option Nat):Int:=match x with
 | some _=>1
 | none=>0
def xgt(x:Option Nat):Int:=match x with
 | some z=>(z:Int)
 | none=>0
def cntL(live:Nat->Option Nat):Nat->Int
 | 0=>0
 | k+1=>cntL live k+xgs (live k)
def sumL(live:Nat->Option Nat):Nat->Int
 | 0=>0
 | k+1=>sumL live k+xgt (live k)
theorem qm(live:Nat->Option Nat)(g:Nat)(v:Option Nat) : ∀k,cntL (updS live g v) k=cntL live k+if g<k then xgs v-xgs (live g)else 0
 | 0=>by simp[cntL]
 | k+1=>by
  simp only[cntL,qm live g v k]
  by_cases h:k=g
  ·subst h
   rw[xD,if_neg (by omega),if_pos (by omega)];omega
  ·rw[xG _ _ h]
   by_cases h2:g<k
   ·rw[if_pos h2,if_pos (by omega)];omega
   ·rw[if_neg h2,if_neg (by omega)];omega
theorem qn(live:Nat->Option Nat)(g:Nat)(v:Option Nat) : ∀k,sumL (updS live g v) k=sumL live k+if g<k then xgt v-xgt (live g)else 0
 | 0=>by simp[sumL]
 | k+1=>by
  simp only[sumL,qn live g v k]
  by_cases h:k=g
  ·subst h
   rw[xD,if_neg (by omega),if_pos (by omega)];omega
  ·rw[xG _ _ h]
   by_cases h2:g<k
   ·rw[if_pos h2,if_pos (by omega)];omega
   ·rw[if_neg h2,if_neg (by omega)];omega
theorem xbV : ∀k,cntL (fun _=>none) k=0
 | 0=>rfl
 | k+1=>by simp only[cntL,xbV k];rfl
theorem xbW : ∀k,sumL (fun _=>none) k=0
 | 0=>rfl
 | k+1=>by simp only[sumL,xbW k];rfl
structure CI(K:Nat)(f:Nat->Int)(live:Nat->Option Nat):Prop where
 r0:0<=f 0/\f 0<18446744073709551616
 r1:0<=f 1/\f 1<18446744073709551616
 r3:0<=f 3/\f 3<18446744073709551616
 r4:0<=f 4/\f 4<18446744073709551616
 c0:(f 0-f 1-cntL live K)%18446744073709551616=0
 c3:(f 3-cntL live K)%18446744073709551616=0
 c4:(f 4-sumL live K)%18446744073709551616=0
theorem CI.zero{K:Nat}{f:Nat->Int}(h : ∀i,f i=0):CI K f (fun _=>none):=by
 refine⟨?_,?_,?_,?_,?_,?_,?_⟩<;>simp only[h,xbV,xbW]<;>omega
theorem CI.none{K:Nat}{f:Nat->Int}(h:CI K f (fun _=>none)):f 3=0/\f 4=0/\f 0=f 1:=by
 obtain⟨r0,r1,r3,r4,c0,c3,c4⟩:=h
 rw[xbV]at c0 c3
 rw[xbW]at c4
 omega
section
variable{K:Nat}{f:Nat->Int}{live:Nat->Option Nat}
theorem al_at(f:Nat->Int)(z:Int):xcb f z 0=(f 0+1)%18446744073709551616/\xcb f z 1=f 1/\xcb f z 3=(f 3+1)%18446744073709551616/\xcb f z 4=(f 4+z%18446744073709551616)%18446744073709551616:=by
 refine⟨?_,rfl,?_,?_⟩<;>simp[xcb,addW,IntKind.wrap_u64]
theorem fr_at(f:Nat->Int)(z:Int):xcc f z 0=f 0/\xcc f z 1=(f 1+1)%18446744073709551616/\xcc f z 3=(f 3+18446744073709551615)%18446744073709551616/\xcc f z 4=(f 4+i64.wrap (0-z)%18446744073709551616)%18446744073709551616:=by
 refine⟨rfl,?_,?_,?_⟩<;>simp[xcc,addW,IntKind.wrap_u64]
theorem CI.al(h:CI K f live){g s:Nat}(hg:g<K)(hl:live g=Option.none):CI K (xcb f (s:Int)) (updS live g (some s)):=by
 obtain⟨r0,r1,r3,r4,c0,c3,c4⟩:=h
 obtain⟨a0,a1,a3,a4⟩:=al_at f (s:Int)
 have e1:=qm live g (some s) K
 have e2:=qn live g (some s) K
 rw[if_pos hg,hl]at e1 e2
 simp only[xgs,xgt]at e1 e2
 refine⟨?_,?_,?_,?_,?_,?_,?_⟩<;>simp only[a0,a1,a3,a4,e1,e2]<;>omega
theorem CI.fr(h:CI K f live){g z:Nat}(hg:g<K)(hl:live g=some z)(hz:z<1000000):CI K (xcc f (z:Int)) (updS live g Option.none):=by
 obtain⟨r0,r1,r3,r4,c0,c3,c4⟩:=h
 obtain⟨a0,a1,a3,a4⟩:=fr_at f (z:Int)
 rw[w64 (x:=0-(z:Int)) (by omega) (by omega)]at a4
 have e1:=qm live g Option.none K
 have e2:=qn live g Option.none K
 rw[if_pos hg,hl]at e1 e2
 simp only[xgs,xgt]at e1 e2
 refine⟨?_,?_,?_,?_,?_,?_,?_⟩<;>simp only[a0,a1,a3,a4,e1,e2]<;>omega
theorem CI.fa(h:CI K f live):CI K (xnP f) live:=by
 obtain⟨r0,r1,r3,r4,c0,c3,c4⟩:=h
 exact⟨r0,r1,r3,r4,c0,c3,c4⟩
theorem re_at(f:Nat->Int)(w z:Int):YY f w z 0=f 0/\YY f w z 1=f 1/\YY f w z 3=f 3/\YY f w z 4=(f 4+i64.wrap (z-w)%18446744073709551616)%18446744073709551616:=by
 refine⟨rfl,rfl,rfl,?_⟩;simp[YY,addW,IntKind.wrap_u64]
theorem CI.re(h:CI K f live){g z s:Nat}(hg:g<K)(hl:live g=some z)(hz:z<1000000)(hs:s<1000000):CI K (YY f (z:Int) (s:Int)) (updS live g (some s)):=by
 obtain⟨r0,r1,r3,r4,c0,c3,c4⟩:=h
 obtain⟨a0,a1,a3,a4⟩:=re_at f (z:Int) (s:Int)
 rw[w64 (x:=(s:Int)-(z:Int)) (by omega) (by omega)]at a4
 have e1:=qm live g (some s) K
 have e2:=qn live g (some s) K
 rw[if_pos hg,hl]at e1 e2
 simp only[xgs,xgt]at e1 e2
 refine⟨?_,?_,?_,?_,?_,?_,?_⟩<;>simp only[a0,a1,a3,a4,e1,e2]<;>omega
theorem CI.go(h:CI K f live){g g' z s:Nat}(hg:g<K)(hg':g'<K)(hl:live g=some z)(hl':live g'=Option.none)(hz:z<1000000)(hs:s<1000000):CI K (YY f (z:Int) (s:Int)) (updS (updS live g' (some s)) g Option.none):=by
 have hne:g≠g':=by rintro rfl;rw[hl]at hl';cases hl'
 obtain⟨r0,r1,r3,r4,c0,c3,c4⟩:=h
 obtain⟨a0,a1,a3,a4⟩:=re_at f (z:Int) (s:Int)
 rw[w64 (x:=(s:Int)-(z:Int)) (by omega) (by omega)]at a4
 have e1:=qm live g' (some s) K
 have e2:=qn live g' (some s) K
 have e3:=qm (updS live g' (some s)) g Option.none K
 have e4:=qn (updS live g' (some s)) g Option.none K
 rw[if_pos hg',hl']at e1 e2
 rw[if_pos hg,xG _ _ hne,hl]at e3 e4
 simp only[xgs,xgt]at e1 e2 e3 e4
 refine⟨?_,?_,?_,?_,?_,?_,?_⟩<;>simp only[a0,a1,a3,a4,e1,e2,e3,e4]<;>omega
theorem CI.of{f':Nat->Int}(h:CI K f live)(e : ∀i,f' i=f i):CI K f' live:=by
 have:f'=f:=funext e
 rw[this];exact h
end
theorem csz_of{n:Nat}(hn:n<=1000){c:Cal}{s:Int}(hs:s=if c.op=2 then yk n c.n c.size else c.size)(h1:1<=s)(h2:s<=64*n):csz c=s:=by
 unfold csz
 by_cases h:c.op=2
 ·rw[if_pos h]at hs |-
  unfold yk at hs
  split at hs
  ·rw[Int.mul_comm c.size c.n,<- hs];exact w64 (by omega) (by omega)
  ·omega
 ·rw[if_neg h]at hs |-;exact hs.symm
section
variable{n t:Nat}(hf:Small n t)(hn60:n<=60){A:AS}{held:Nat->Option HK}{live:Nat->Option Nat}
include hf hn60
theorem Hp.lives{g z:Nat}(hp:Hp n t A held live)(hl:live g=some z):g<8*n/\z<=64*n/\z<1000000:=by
 obtain⟨x,h1,h2⟩:=hp.lh.lh g z hl
 have h3:=hp.hi.hg.ext1 h1
 have h4:=HInv.small hf hp.hi h1
 omega
theorem Called.cnt_live{c:Cal}{r:Res}{A':AS}{held':Nat->Option HK}{live':Nat->Option Nat}{was:Int}(hC:Called n t A held live c r A' held' live' was)(hp:Hp n t A held live)(h:CI (8*n) (A.w 2) live):CI (8*n) (A'.w 2) live':=by
 refine CI.of (f:=cntD c r was (A.w 2)) ?_ hC.cnt
 have hp':=hC.hp
 have hd:=hC.did
 generalize A'.b=b' at hd
 unfold cntD
 cases hd with
 | ask r held' live' b' hop hA hb=>
  rw[if_pos hop]
  unfold xe6
  rcases hA with⟨_,rfl,hr,he⟩|⟨g,x,hr,hg,_,rfl,h1,h2,_,h4⟩
  ·have hne:r.e≠0:=by rcases he with⟨he,_⟩|⟨_,_,⟨he,_⟩|⟨he,_⟩⟩<;>omega
   rw[if_neg hne]
   split
   ·exact h.fa
   ·exact h
  ·have he:r.e=0:=by rw[hr]
   rw[if_pos he]
   obtain⟨s,hs⟩ : ∃s:Nat,(if c.op=2 then yk n c.n c.size else c.size)=(s:Int):=⟨(if c.op=2 then yk n c.n c.size else c.size).toNat,by omega⟩
   rw[csz_of (by omega) hs.symm (by omega) (by omega)]
   rw[hs]
   have hln:live g=none:=by
    cases hl:live g with
    | none=>rfl
    | some z=>
     obtain⟨y,hy,_⟩:=hp.lh.lh g z hl
     rw[hg]at hy;cases hy
   rw[hs]at hp'
   have hg8:=(hp'.lives hf hn60 (xD _ _ _)).1
   exact h.al hg8 hln
 | renew r was held' live' b' hop hR=>
  rw[if_neg (by omega),if_pos hop]
  generalize hx:(r,was)=x at hR
  cases hR with
  | size l h1=>
   simp only[Prod.mk.injEq]at hx
   obtain⟨rfl,rfl⟩:=hx
   rw[if_neg (by show(11:Int)≠0;omega),if_neg (by show ¬ ((11:Int)=15\/(11:Int)=5);omega)];exact h
  | bad l h1 h2 h3=>
   simp only[Prod.mk.injEq]at hx
   obtain⟨rfl,rfl⟩:=hx
   rw[if_neg (by show(13:Int)≠0;omega),if_neg (by show ¬ ((13:Int)=15\/(13:Int)=5);omega)];exact h
  | stay l g z x h1 h2 h3 h4 h5 h6=>
   simp only[Prod.mk.injEq]at hx
   obtain⟨rfl,rfl⟩:=hx
   rw[if_pos rfl]
   obtain⟨g8,_,hz⟩:=hp.lives hf hn60 h4
   have:=h.re (s:=c.size.toNat) g8 h4 hz (by omega)
   rwa [show((c.size.toNat:Nat):Int)=c.size by omega]at this
  | none l g z x h1 h2 h3 h4 h5 h6 h7=>
   simp only[Prod.mk.injEq]at hx
   obtain⟨rfl,rfl⟩:=hx
   rw[if_neg (by show(15:Int)≠0;omega),if_pos (.inl rfl)];exact h.fa
  | go l g z x g' y h1 h2 h3 h4 h5 h6 h7 h8 h9=>
   simp only[Prod.mk.injEq]at hx
   obtain⟨rfl,rfl⟩:=hx
   rw[if_pos rfl]
   obtain⟨g8,_,hz⟩:=hp.lives hf hn60 h4
   have hln:live g'=Option.none:=by
    cases hl:live g' with
    | none=>rfl
    | some z=>
     obtain⟨y,hy,_⟩:=hp.lh.lh g' z hl
     rw[h7]at hy;cases hy
   have hne:g'≠g:=by rintro rfl;rw[h4]at hln;cases hln
   have g8':g'<8*n:=(hp'.lives hf hn60 (g:=g') (z:=c.size.toNat) (by rw[xG _ _ hne,xD])).1
   have:=h.go (s:=c.size.toNat) g8 g8' h4 hln hz (by omega)
   rwa [show((c.size.toNat:Nat):Int)=c.size by omega]at this
 | free l g z h1 h2 h3=>
  rw[if_neg (by omega),if_neg (by omega),if_pos h1,if_pos rfl]
  obtain⟨g8,_,hz⟩:=hp.lives hf hn60 h3
  exact h.fr g8 h3 hz
 | bad l h1 h2=>
  rw[if_neg (by omega),if_neg (by omega)]
  by_cases h5:c.op=5
  ·rw[if_pos h5,if_neg (by show(13:Int)≠0;omega)];exact h
  ·rw[if_neg h5];exact h
 | use l g z x h1=>rw[if_neg (by omega),if_neg (by omega),if_neg (by omega)];exact h
 | out l g z h1=>rw[if_neg (by omega),if_neg (by omega),if_neg (by omega)];exact h
 | write l m g z k h1=>rw[if_neg (by omega),if_neg (by omega),if_neg (by omega)];exact h
 | read l m g z k y h1=>rw[if_neg (by omega),if_neg (by omega),if_neg (by omega)];exact h
 | tidy l h1=>rw[if_neg (by omega),if_neg (by omega),if_neg (by omega)];exact h
 | stats l h1=>rw[if_neg (by omega),if_neg (by omega),if_neg (by omega)];exact h
 | other l h1=>rw[if_neg (by omega),if_neg (by omega),if_neg (by omega)];exact h
end
end Go.Proofs.YtaegelbaghaooaaGreat
