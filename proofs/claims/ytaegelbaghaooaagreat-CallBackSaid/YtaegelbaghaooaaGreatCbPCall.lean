/- Part. -/
import Derived.Test.YtaegelbaghaooaaGreatCbM15
import Derived.Test.YtaegelbaghaooaaGreatCbPYes
import Derived.Test.YtaegelbaghaooaaGreatCbM12
import Derived.Test.YtaegelbaghaooaaGreatCbQAs
set_option linter.all false
open Go.IntKind (i64 u64 u32 u8)
namespace Go.Proofs.YtaegelbaghaooaaGreat
open Go Go.RowKit Lx
def Re{α:Type}(q:T α)(Q:α->Prop):Prop :=∃a,q = .ret a/\Q a
section
variable{α β:Type}{Q:α->Prop}
theorem Re.ret{a:α}(h:Q a):Re (.ret a) Q:=⟨a,rfl,h⟩
theorem Re.yes{x y:T α}{b:Bool}(hb:b=true)(h:Re x Q):Re (bif b then x else y) Q:=by subst hb;exact h
theorem Re.no{x y:T α}{b:Bool}(hb:b=false)(h:Re y Q):Re (bif b then x else y) Q:=by subst hb;exact h
theorem Re.cond{x y:T α}{b:Bool}(h1:b=true->Re x Q)(h2:b=false->Re y Q):Re (bif b then x else y) Q:=by
 cases b
 ·exact h2 rfl
 ·exact h1 rfl
theorem Re.run{q:T β}{a:β}{k:β->T α}(h:q = .ret a)(hk:Re (k a) Q):Re (q.bind k) Q:=by subst h;exact hk
end
theorem asks_eq{L:RowsL}(hL:L.length<=1000)(th bk op sz nn al at_ off by_:Int):Re (xiV L.length L th bk op sz nn al at_ off by_) fun c =>∃a,c=⟨op,sz,nn,al,a,off,by_⟩:=by
 unfold xiV xlK jd
 refine Yg (fun q=>Re q fun c =>∃a,c=Cal.mk op sz nn al a off by_) (fun k i=>k<=L.length/\i.2.1=(k:Int)-1) ?_ xa L.length _ (by unfold xa;omega) ⟨Nat.le_refl _,?_⟩
 ·rintro k ⟨i1,i2,i3⟩ κ ⟨hk,hi⟩ ih
  simp only at hi
  subst hi
  unfold xgu
  simp only
  by_cases h:1<=k
  ·have ge:decide ((k:Int)-1>=0)=true:=decide_eq_true (by omega)
   have hin:decide ((0:Int)<=(k:Int)-1/\(k:Int)-1<((L.length:Nat):Int))=true:=decide_eq_true (by omega)
   have hir:inR L.length ((k:Int)-1)=true:=hin
   have next : ∀x y,Re (κ (x,i64.wrap ((k:Int)-1-1),y)) fun c =>∃a,c=Cal.mk op sz nn al a off by_:=fun x y=>ih (k-1) _ (by omega) ⟨by omega,by
    simp only
    rw[w64 (by omega) (by omega)];omega⟩
   refine Re.yes ge (Re.cond (fun _ =>?_) fun _=>Re.ret ⟨_,rfl⟩)
   refine Re.yes hin (Re.yes hir (Re.cond (fun _ =>?_) fun _=>next _ _))
   refine Re.yes hin (Re.yes hir (Re.cond (fun _ =>?_) fun _=>next _ _))
   refine Re.yes hin (Re.yes hir (Re.cond (fun _ =>?_) fun _=>next _ _))
   exact Re.yes hin (Re.yes hir (next _ _))
  ·exact Re.no (decide_eq_false (by omega)) (Re.ret ⟨_,rfl⟩)
 ·simp only
  rw[w64 (by omega) (by omega)]
structure MemH(n t:Nat)(A:AS)(held:Nat->Option HK)(live:Nat->Option Nat)(W B:List Int):Prop where
 rep:Rep n t (A.port 0) ⟨⟨W,B⟩,0,0,none⟩
 hp:Hp n t A held live
theorem Hp.port{n t:Nat}{A:AS}{held:Nat->Option HK}{live:Nat->Option Nat}(h:Hp n t A held live)(me:Int):Hp n t (A.port me) held live:=
 ⟨h.hi.w fun _ _=>rfl,h.si.same fun _=>rfl,h.lh,h.bys,h.len⟩
def jy(me:Int)(c:Cal)(fr to_ lin tc:Int)(r:Res):List Int :=[me,c.op,c.size,c.n,c.align,c.at_,c.off,c.byte,fr,to_,lin,tc,1,r.at_,r.n,r.byte,r.c1,r.c2,r.c3,r.c4,r.c5,r.e,r.lin,r.touch]
structure CalOk(c:Cal):Prop where
 size:c.size<9223372036854775808
 n:c.n<9223372036854775808
 align:c.align<9223372036854775808
 byte:0<=c.byte/\c.byte<=255
section
variable{n t:Nat}(hf:Small n t)(hn60:n<=60){A:AS}{held:Nat->Option HK}{live:Nat->Option Nat}
include hf hn60
theorem YR{me:Nat}(hme:me<t){c:Cal}(hc:CalOk c){W B:List Int}(hM:MemH n t A held live W B) : ∃ (r:Res) (s':DS) (A':AS) (held':Nat->Option HK) (live':Nat->Option Nat) (was:Int),
  vR (okS W.length W.length B.length B.length W B) (doT (xb n t) c) (DS.mk (Mem.mk W B) (me:Int) 0 none) = .ret (r,r,s')/\Called n t (A.port (me:Int)) held live c r A' held' live' was/\MemH n t A' held' live' s'.m.words s'.m.bytes/\s'.steps=(A'.steps:Int):=by
 have hn1:=hf.n1
 obtain⟨r,A',hrun,held',live',was,hC⟩:=run_do hf hn60 (A:=A.port (me:Int)) hme rfl (hM.hp.port _) hc.size hc.n hc.align hc.byte
 have hR:Rep n t (A.port (me:Int)) ⟨⟨W,B⟩,(me:Int),0,none⟩:=hM.rep.port (me:Int)
 obtain⟨s',h3,h4⟩:=YI _ hR hrun
 have hlen:=hM.hp.len
 have hok:=xtK (s:=⟨⟨W,B⟩,0,0,none⟩) hf.toFew hM.rep (by rw[AS.port_b];omega)
 have hst:=hC.steps
 simp only[AS.port_steps]at hst
 exact⟨r,s',A',held',live',was,xwF hok h3 (by rw[h4.told,hC.told]),hC,⟨h4.port 0,hC.hp⟩,by rw[h4.steps,wN _ (by omega)]⟩
theorem xsC{me:Nat}{c:Cal}{r:Res}{A':AS}{held':Nat->Option HK}{live':Nat->Option Nat}{was:Int}(hC:Called n t (A.port (me:Int)) held live c r A' held' live' was):1<=r.lin/\r.lin<=(A'.steps:Int):=by
 obtain⟨l,T,h1,h2,h3,_⟩:=hC.lin
 have hst:=hC.steps
 simp only[AS.port_steps]at h1 hst
 rw[wN _ (by omega)]at h3
 omega
theorem xxU{c:Cal}{r:Res}{A':AS}{held':Nat->Option HK}{live':Nat->Option Nat}{was:Int}(hC:Called n t A held live c r A' held' live' was)(h:c.op=11) :
  r.c1=A.w 2 0/\r.c2=A.w 2 1/\r.c3=A.w 2 2/\r.c4=A.w 2 3/\r.c5=A.w 2 4/\held'=held/\live'=live/\A'.b=A.b/\ ∀i,A'.w 2 i=A.w 2 i:=by
 have hcn : ∀i,A'.w 2 i=A.w 2 i:=fun i=>by rw[hC.cnt,ki (show ¬ (c.op=1\/c.op=2\/c.op=3)by omega) (by omega) (fun hh=>by omega)]
 have hd:=hC.did
 generalize A'.b=b' at hd |-
 cases hd with
 | stats l h1=>exact⟨rfl,rfl,rfl,rfl,rfl,rfl,rfl,rfl,hcn⟩
 | _=>omega
theorem tmod_th{x:Int}(h0:0<=x)(h1:x<=255) : ∃me:Nat,me<t/\Int.tmod (i64.wrap x) (xb n t).threads=(me:Int):=by
 have ht1:=hf.t1
 obtain⟨v,rfl⟩ : ∃v:Nat,x=(v:Int):=⟨x.toNat,by omega⟩
 refine⟨v%t,Nat.mod_lt _ (by omega),?_⟩
 rw[show(xb n t).threads=(t:Int)from rfl,wN _ (by omega),Int.tmod_eq_emod_of_nonneg (by omega)];omega
end
end Go.Proofs.YtaegelbaghaooaaGreat
