/- Part. -/
import Derived.Test.YtcicjcggclhbfaaGreatCsQI
set_option linter.all false
open Go.IntKind (i64 u64 u32 u8)
set_option maxRecDepth 1000000
namespace Go.Proofs.YtcicjcggclhbfaaGreat
namespace Lx
variable{β:Type}(g:Geo)
open Go
def kl(v0:Fnd)(v1:(Int×Int)->T β)(v2:Geo)(v3 v4:Int):T β:=
 bif v0.e != 0 then(v1 (0,v0.e)) else
 bif v0.ok then(v1 (v0.grain,0)) else
 .op (.load (atF v2 1 0)) fun te=>
 bif te==u64.wrap (v3+v4)then(v1 (0,15)) else
 .fail
def xaP(c:Int)(κ:(Int×Int)->T β):T β:=
 (qy g).bind fun r0=>
 bif r0 then(κ (0,15)) else
 bif decide (c<0)then(κ (0,15)) else
 bif decide (c>=4)then(κ (0,15)) else
 .op (.load (atF g 1 0)) fun x4=>
 (Wn g 0 c).bind fun r5=>
 bif !r5.1.ok then(bif r5.1.e==0 then((XQ g r5.2).bind fun r8=>
 bif !r8.1 then(κ (0,5)) else
 (qX g r8.2 c).bind fun ck=>
 kl ck.1 κ g x4 ck.2) else
 kl r5.1 κ g x4 r5.2) else
 kl r5.1 κ g x4 r5.2
def ZL(c:Int):T (Int×Int):=xaP g c .ret
theorem xnl(c)(κ:(Int×Int)->T β):(ZL g c).bind κ=xaP g c κ:=by
 unfold ZL xaP kl
 simp only[bz]
def xeW(k a:Int)(κ:(Int×Int)->T β):T β:=
 (qy g).bind fun r0=>
 bif r0 then(κ (0,15)) else
 bif decide (k<1)then(κ (0,15)) else
 bif decide (a<1)then(κ (0,15)) else
 .op (.load (atF g 1 0)) fun x4=>
 (xgM g 0 k a).bind fun r5=>
 bif !r5.1.ok then(bif r5.1.e==0 then((XQ g r5.2).bind fun r8=>
 bif !r8.1 then(κ (0,5)) else
 (xgM g r8.2 k a).bind fun ck=>
 kl ck.1 κ g x4 ck.2) else
 kl r5.1 κ g x4 r5.2) else
 kl r5.1 κ g x4 r5.2
def Ka(k a:Int):T (Int×Int):=xeW g k a .ret
theorem xq3(k a)(κ:(Int×Int)->T β):(Ka g k a).bind κ=xeW g k a κ:=by
 unfold Ka xeW kl
 simp only[bz]
def xaQ(κ:(Int×Bool)->T β):T β:=
 (qy g).bind fun r0=>
 bif r0 then(κ (0,false)) else
 (XQ g 0).bind fun r2=>
 κ (r2.2,r2.1)
def xaR:T (Int×Bool):=xaQ g .ret
theorem xnm(κ:(Int×Bool)->T β):(xaR g).bind κ=xaQ g κ:=by
 unfold xaR xaQ
 simp only[bz]
def xka:Sm:=gS fun
 | g,[.c (.int .i64 c)]=>some (mkS ((Int×Int)) (ZL g c) fun r=>some (.tup [.c (.int .i64 r.1),.c (.int .i64 r.2)],[]))
 | _,_=>none
variable{σ:Type}{I:Port Tryz.prog σ}
theorem xq4(hl:SoundL I kI3):SoundF I 130 xka:=by
 refine gsq hl 1 Tryz.func130 fun g l t ht =>?_
 split at ht
 .rename_i c
  cases ht
  exact ey (xnl g c _)
 .cases ht
def xq5:Sm:=gS fun
 | g,[.c (.int .i64 k),.c (.int .i64 a)]=>some (mkS ((Int×Int)) (Ka g k a) fun r=>some (.tup [.c (.int .i64 r.1),.c (.int .i64 r.2)],[]))
 | _,_=>none
theorem xuQ(hl:SoundL I kI3):SoundF I 132 xq5:=by
 refine gsq hl 1 Tryz.func132 fun g l t ht =>?_
 split at ht
 .rename_i k a
  cases ht
  exact ey (xq3 g k a _)
 .cases ht
def xkb:Sm:=gS fun
 | g,[]=>some (mkS ((Int×Bool)) (xaR g) fun r=>some (.tup [.c (.int .u64 r.1),.c (.bool r.2)],[]))
 | _,_=>none
theorem xq6(hl:SoundL I kI3):SoundF I 183 xkb:=by
 refine gsq hl 1 Tryz.func183 fun g l t ht =>?_
 split at ht
 .cases ht
  exact ey (xnm g _)
 .cases ht
noncomputable def ka13:List (Nat×Sm):=(130,xka)::(132,xq5)::(183,xkb)::kI3
theorem ZM:SoundL I ka13:=(.cons (xq4 xxs) (.cons (xuQ xxs) (.cons (xq6 xxs) xxs)))
end Lx
namespace Lx
variable{β:Type}(g:Geo)
open Go
def xeX(s a:Int)(κ:(Int×Int×Int)->T β):T β:=
 bif g.pages==0 then(κ (0,0,15)) else
 bif decide (s<1)then(κ (0,0,11)) else
 bif decide (s>i64.wrap (g.pages*64))then(κ (0,0,11)) else
 (Yy a).bind fun r3=>
 bif !r3 then(κ (0,0,12)) else
 (cofT s a).bind fun r5=>
 bif decide (r5>=0)then((ZL g r5).bind fun r7=>
 bif decide (0<=r5/\r5<4)then(bif r7.2 != 0 then(κ (0,0,r7.2)) else
 κ (r7.1,(bif r5==0 then(8:Int)else bif r5==1 then(16:Int)else bif r5==2 then(24:Int)else(32:Int)),0)) else
 .fail) else
 (qN s).bind fun r7=>
 (Ka g r7 (if i64.wrap (Int.tdiv a 64)<1 then(1:Int)else i64.wrap (Int.tdiv a 64))).bind fun r8=>
 bif r8.2 != 0 then(κ (0,0,r8.2)) else
 κ (r8.1,(i64.wrap (r7*64)),0)
def ZN(s a:Int):T (Int×Int×Int):=xeX g s a .ret
theorem xq7(s a)(κ:(Int×Int×Int)->T β):(ZN g s a).bind κ=xeX g s a κ:=by
 unfold ZN xeX
 simp only[bz]
def xnn(κ:Int->T β):T β:=
 (xaR g).bind fun r0=>
 bif !r0.2 then(κ 5) else
 κ (0)
def xkc:T Int:=xnn g .ret
theorem xuR(κ:Int->T β):(xkc g).bind κ=xnn g κ:=by
 unfold xkc xnn
 simp only[bz]
def xeY(x:Rn)(κ:(Unit×Rn)->T β):T β:=
 bif x.has then((kx g x.to).bind fun r1=>
 κ ((),⟨x.grain,x.size,x.to,x.usable,false⟩)) else
 κ ((),⟨x.grain,x.size,x.to,x.usable,false⟩)
def Kb(x:Rn):T (Unit×Rn):=xeY g x .ret
theorem xq8(x)(κ:(Unit×Rn)->T β):(Kb g x).bind κ=xeY g x κ:=by
 unfold Kb xeY
 simp only[bz]
def xaS(v0:Res->T β):T β:=
 .op (.steps) fun x2=>
 (kD 13 x2).bind fun r3=>
 v0 r3
def xeZ(a:Int)(κ:Res->T β):T β:=
 bif g.pages==0 then(κ ⟨0,0,0,0,0,0,0,0,15,0,0⟩) else
 bif decide (a<0)then(xaS κ) else
 bif decide (a>=i64.wrap (g.pages*64))then(xaS κ) else
 bif Int.tmod a 8 != 0 then(xaS κ) else
 (xb8 g (i64.wrap (Int.tdiv a 8))).bind fun r4=>
 bif !r4.live then((kD 13 r4.lin).bind fun r6=>
 κ r6) else
 .op (.tell [.int .i64 0,.int .i64 r4.size,.int .u8 0,.int .u64 0,.int .u64 0,.int .u64 0,.int .u64 0,.int .u64 0,.int .i64 0,.int .i64 r4.lin,.int .i64 0]) fun _=>
 (kx g (i64.wrap (Int.tdiv a 8))).bind fun r7=>
 κ ⟨0,r4.size,0,0,0,0,0,0,0,r4.lin,0⟩
def xcM(a:Int):T Res:=xeZ g a .ret
theorem xq9(a)(κ:Res->T β):(xcM g a).bind κ=xeZ g a κ:=by
 unfold xcM xeZ xaS
 simp only[bz]
def xaT(v0:(Int×Seen×Res×Bool)->T β):T β:=
 .op (.steps) fun x1=>
 (vI (Res.mk 0 0 0 0 0 0 0 0 13 x1 0)).bind fun r2=>
 v0 (0,⟨0,0,0,0,false,0⟩,r2,false)
def xe0(a:Int)(κ:(Int×Seen×Res×Bool)->T β):T β:=
 bif decide (a<0)then(xaT κ) else
 bif decide (a>=i64.wrap (g.pages*64))then(xaT κ) else
 bif Int.tmod a 8 != 0 then(xaT κ) else
 (KZ g (i64.wrap (Int.tdiv a 8))).bind fun r3=>
 bif !r3.live then((vI (Res.mk 0 0 0 0 0 0 0 0 13 r3.lin 0)).bind fun r5=>
 κ (0,⟨r3.kind,r3.size,r3.other,r3.ver,r3.live,r3.lin⟩,r5,false)) else
 κ ((i64.wrap (Int.tdiv a 8)),⟨r3.kind,r3.size,r3.other,r3.ver,r3.live,r3.lin⟩,⟨0,0,0,0,0,0,0,0,0,0,0⟩,true)
def XR(a:Int):T (Int×Seen×Res×Bool):=xe0 g a .ret
theorem xra(a)(κ:(Int×Seen×Res×Bool)->T β):(XR g a).bind κ=xe0 g a κ:=by
 unfold XR xe0 xaT
 simp only[bz]
def xhm:Sm:=gS fun
 | g,[.c (.int .i64 s),.c (.int .i64 a)]=>some (mkS ((Int×Int×Int)) (ZN g s a) fun r=>some (.tup [.c (.int .i64 r.1),.c (.int .i64 r.2.1),.c (.int .i64 r.2.2)],[]))
 | _,_=>none
variable{σ:Type}{I:Port Tryz.prog σ}
theorem xhn(hl:SoundL I ka13):SoundF I 76 xhm:=by
 refine gsq hl 1 Tryz.func76 fun g l t ht =>?_
 split at ht
 .rename_i s a
  cases ht
  exact ey (xq7 g s a _)
 .cases ht
def xno:Sm:=gS fun
 | g,[]=>some (mkS Int (xkc g) fun r=>some (.c (.int .i64 r),[]))
 | _,_=>none
theorem xkd(hl:SoundL I ka13):SoundF I 119 xno:=by
 refine gsq hl 1 Tryz.func119 fun g l t ht =>?_
 split at ht
 .cases ht
  exact ey (xuR g _)
 .cases ht
def xho:Sm:=fun
 | [.c (.ptr 0 0)],[some ⟨.port::gc, 96,false,none⟩]=>(match rnOf gc with
   | some (g,x)=>some (mkS ((Unit×Rn)) (Kb g x) fun r=>some (.tup [],[some ⟨.port::(g.cells++r.2.cells), 96,false,none⟩]))
   | _=>none)
 | _,_=>none
theorem xuS(hl:SoundL I ka13):SoundF I 42 xho:=by
 refine sq hl 1 Tryz.func42 fun _ _ t ht =>?_
 unfold xho at ht
 split at ht
 .rename_i gc
  split at ht
  .rename_i g x hg
   obtain rfl:=YD hg
   cases ht
   exact ey (xq8 g x _)
  .cases ht
 .cases ht
def xhp:Sm:=gS fun
 | g,[.c (.int .i64 a)]=>some (mkS Res (xcM g a) fun r=>some (.agg r.cells,[]))
 | _,_=>none
theorem xhq(hl:SoundL I ka13):SoundF I 21 xhp:=by
 refine gsq hl 1 Tryz.func21 fun g l t ht =>?_
 split at ht
 .rename_i a
  cases ht
  exact ey (xq9 g a _)
 .cases ht
def xrb:Sm:=gS fun
 | g,[.c (.int .i64 a)]=>some (mkS ((Int×Seen×Res×Bool)) (XR g a) fun r=>some (.tup [.c (.int .i64 r.1),.agg r.2.1.cells,.agg r.2.2.1.cells,.c (.bool r.2.2.2)],[]))
 | _,_=>none
theorem xuT(hl:SoundL I ka13):SoundF I 174 xrb:=by
 refine gsq hl 1 Tryz.func174 fun g l t ht =>?_
 split at ht
 .rename_i a
  cases ht
  exact ey (xra g a _)
 .cases ht
noncomputable def ka14:List (Nat×Sm):=(76,xhm)::(119,xno)::(42,xho)::(21,xhp)::(174,xrb)::ka13
theorem XS:SoundL I ka14:=(.cons (xhn ZM) (.cons (xkd ZM) (.cons (xuS ZM) (.cons (xhq ZM) (.cons (xuT ZM) ZM)))))
end Lx
namespace Lx
variable{β:Type}(g:Geo)
open Go
def Wp(a s:Int)(κ:Res->T β):T β:=
 bif g.pages==0 then(κ ⟨0,0,0,0,0,0,0,0,15,0,0⟩) else
 (ZN g s a).bind fun r1=>
 bif r1.snd.2 != 0 then(.op (.steps) fun x3=>
 (kD r1.snd.2 x3).bind fun r4=>
 κ r4) else
 (xdp g r1.1 r1.snd.1 s).bind fun r3=>
 κ r3
def jK(a s:Int):T Res:=Wp g a s .ret
theorem xjh(a s)(κ:Res->T β):(jK g a s).bind κ=Wp g a s κ:=by
 unfold jK Wp
 simp only[bz]
def Kc(a0 a1 a2 a3 a4:Int)(g6:Geo)(a7 a8 a9 be bd ay ca bu bj bn bq:Int)(κ0:Unit->T β)(i:Int)(k:Int->T β):T β:=
 bif decide (i<a4)then(.op (.put (i64.wrap (i64.wrap (a2*8)+i)) 0) fun _=>
 k (i64.wrap (i+1))) else
 κ0 ()
def vd(a0 a1 a2 a3 a4:Int)(g6:Geo)(a7 a8 a9 be bd ay ca bu bj bn bq a5:Int)(κ0:Unit->T β):T β:=xu xa (Kc a0 a1 a2 a3 a4 g6 a7 a8 a9 be bd ay ca bu bj bn bq κ0) a5
theorem xeb{β γ:Type}(a0 a1 a2 a3 a4 g6 a7 a8 a9 be bd ay ca bu bj bn bq a5 κ0)(κ:β->T γ):(vd a0 a1 a2 a3 a4 g6 a7 a8 a9 be bd ay ca bu bj bn bq a5 κ0).bind κ=vd a0 a1 a2 a3 a4 g6 a7 a8 a9 be bd ay ca bu bj bn bq a5 (fun u=>(κ0 u).bind κ):=by
 unfold vd
 refine xi κ (fun i k =>?_) _ _
 unfold Kc
 simp only[bz]
def xdE:Pat:=⟨xk 80 0 [(0,.c (.raw (.port))),(2,.c (.int .i64)),(3,.c (.int .i64)),(5,.c (.raw (.ptr 0 0))),(8,.c (.raw (.ptr 1 0))),(10,.c (.int .i64)),(11,.c (.int .i64)),(61,.c (.int .i64)),(62,.c (.int .i64))],[some ⟨[.geo], 26,false,none⟩,some ⟨[.int .i64,.int .i64,.int .u8,.int .u64,.int .u64,.int .u64,.int .u64,.int .u64,.int .i64,.int .i64,.int .i64], 47,false,none⟩]⟩
def xnp:Pat:=⟨xk 80 0 [(0,.c (.raw (.port))),(2,.c (.int .i64)),(3,.c (.int .i64)),(5,.c (.raw (.ptr 0 0))),(8,.c (.raw (.ptr 1 0))),(10,.c (.int .i64)),(11,.c (.int .i64))],[some ⟨[.geo], 26,false,none⟩,some ⟨[.int .i64,.int .i64,.int .u8,.int .u64,.int .u64,.int .u64,.int .u64,.int .u64,.int .i64,.int .i64,.int .i64], 47,false,none⟩]⟩
def ZO:LF:=fun st K=>match xr xdE st with
 | some [.i a0,.i a1,.i a2,.i a3,.i a4,.i a5,.g g6,.i a7,.i a8,.i a9,.i be,.i bd,.i ay,.i ca,.i bu,.i bj,.i bn,.i bq]=>some (vd a0 a1 a2 a3 a4 g6 a7 a8 a9 be bd ay ca bu bj bn bq a5 (fun _=>K (.exit 0) (xe xnp [.i a0,.i a1,.i a2,.i a3,.g g6,.i a7,.i a8,.i a9,.i be,.i bd,.i ay,.i ca,.i bu,.i bj,.i bn,.i bq])))
 | _=>none
theorem xrc : ∀st K t,ZO st K=some t->xD xa (lf ka14 xa 0 .no [1,1,1,1,1,1,0,1,0] Tryz.f111 K) st=t:=by
 intro st K t h
 unfold ZO at h
 split at h
 .rename_i a0 a1 a2 a3 a4 a5 g6 a7 a8 a9 be bd ay ca bu bj bn bq hm
  cases h
  rw[xj hm]
  unfold vd
  exact xt (S:=fun(i:Int)=>xe xdE [.i a0,.i a1,.i a2,.i a3,.i a4,.i i,.g g6,.i a7,.i a8,.i a9,.i be,.i bd,.i ay,.i ca,.i bu,.i bj,.i bn,.i bq]) (fun i k=>by kernel_rfl) xa a5
 .cases h
def xaU(v0:Res->T β):T β:=
 .op (.steps) fun x2=>
 (kD 11 x2).bind fun r3=>
 v0 r3
def xe1(v0:Geo)(v1 v2:Int)(v3:Res->T β):T β:=
 (ZN v0 (i64.wrap (v1*v2)) 1).bind fun r6=>
 bif r6.snd.2 != 0 then(.op (.steps) fun x8=>
 (kD r6.snd.2 x8).bind fun r9=>
 v3 r9) else
 vd v1 v2 r6.1 r6.snd.1 (i64.wrap (v1*v2)) v0 0 0 0 0 0 0 0 0 0 0 0 0 (fun ip=>
 (xdp v0 r6.1 r6.snd.1 (i64.wrap (v1*v2))).bind fun r9=>
 v3 r9)
def xaV(n s:Int)(κ:Res->T β):T β:=
 bif g.pages==0 then(κ ⟨0,0,0,0,0,0,0,0,15,0,0⟩) else
 bif decide (n<0)then(xaU κ) else
 bif decide (s<0)then(xaU κ) else
 bif decide (s>0)then(bif bif s==0 then false else true then(bif decide (n>i64.wrap (Int.tdiv (i64.wrap (g.pages*64)) s))then(xaU κ) else
 xe1 g n s κ) else
 .fail) else
 xe1 g n s κ
def Wq(n s:Int):T Res:=xaV g n s .ret
theorem xnq(n s)(κ:Res->T β):(Wq g n s).bind κ=xaV g n s κ:=by
 unfold Wq xaV xaU xe1
 simp only[bz,xeb]
def xe2(x:Rn)(se:Seen)(rm:Int)(κ:((Res×Bool)×Rn)->T β):T β:=
 (YA g x.grain (Stt.mk se.kind se.size se.other se.ver) x.size).bind fun r0=>
 bif !r0 then(κ ((⟨0,0,0,0,0,0,0,0,0,0,0⟩,false),x)) else
 .op (.steps) fun x2=>
 (jy g x (Res.mk (i64.wrap (x.grain*8)) rm 0 0 0 0 0 0 0 x2 0)).bind fun r3=>
 (Kb g r3.2).bind fun r4=>
 κ ((r3.1,true),r4.2)
def xcN(x:Rn)(se:Seen)(rm:Int):T ((Res×Bool)×Rn):=xe2 g x se rm .ret
theorem xrd(x:Rn)(se:Seen)(rm:Int)(κ:((Res×Bool)×Rn)->T β):(xcN g x se rm).bind κ=xe2 g x se rm κ:=by
 unfold xcN xe2
 simp only[bz]
def xe3(v0:Geo)(v1:Rn)(v2:Seen)(v3:((Res×Bool)×Rn)->T β):T β:=
 (qL v0 v1.to v1.grain v1.size).bind fun r4=>
 (xjK v0 v1.grain (Stt.mk v2.kind v2.size v2.other v2.ver) v1.to r4).bind fun r5=>
 bif !r5 then((xlZ v0 v1.to).bind fun r7=>
 v3 ((⟨0,0,0,0,0,0,0,0,0,0,0⟩,false),v1)) else
 .op (.steps) fun x7=>
 (jy v0 v1 (Res.mk (i64.wrap (v1.to*8)) v1.usable 0 0 0 0 0 0 0 x7 0)).bind fun r8=>
 (YC v0 r8.2.to r8.2.grain r8.2.size r4).bind fun r9=>
 (kx v0 r8.2.grain).bind fun ck=>
 v3 ((r8.1,true),r8.2)
def xnr(x:Rn)(se:Seen)(κ:((Res×Bool)×Rn)->T β):T β:=
 bif !x.has then((ZN g x.size 1).bind fun r1=>
 bif r1.snd.2 != 0 then((jy g x (Res.mk 0 0 0 0 0 0 0 0 r1.snd.2 se.lin 0)).bind fun r3=>
 κ ((r3.1,true),r3.2)) else
 (qh g (Rn.mk x.grain x.size r1.1 r1.snd.1 true) (if x.size<se.size then x.size else se.size)).bind fun r3=>
 xe3 g r3.2 se κ) else
 (qh g x (if x.size<se.size then x.size else se.size)).bind fun r1=>
 xe3 g r1.2 se κ
def xke(x:Rn)(se:Seen):T ((Res×Bool)×Rn):=xnr g x se .ret
theorem xuU(x:Rn)(se:Seen)(κ:((Res×Bool)×Rn)->T β):(xke g x se).bind κ=xnr g x se κ:=by
 unfold xke xnr xe3
 simp only[bz]
def xaW(c:Cal)(κ:Res->T β):T β:=
 (xcM g c.at_).bind fun r0=>
 bif r0.e==0 then((Wb g r0.n).bind fun r2=>
 κ r0) else
 κ r0
def Wr(c:Cal):T Res:=xaW g c .ret
theorem xns(c)(κ:Res->T β):(Wr g c).bind κ=xaW g c κ:=by
 unfold Wr xaW
 simp only[bz]
def Ke:Sm:=gS fun
 | g,[.c (.int .i64 a),.c (.int .i64 s)]=>some (mkS Res (jK g a s) fun r=>some (.agg r.cells,[]))
 | _,_=>none
variable{σ:Type}{I:Port Tryz.prog σ}
theorem xaX(hl:SoundL I ka14):SoundF I 38 Ke:=by
 refine gsq hl 1 Tryz.func38 fun g l t ht =>?_
 split at ht
 .rename_i a s
  cases ht
  exact ey (xjh g a s _)
 .cases ht
def Ws:Sm:=fun
 | [.c .port,.agg gc,.c (.int .i64 n),.c (.int .i64 s)],[]=>(match xF gc with
   | some g=>some (mkS Res (Wq g n s) fun r=>some (.agg r.cells,[]))
   | _=>none)
 | _,_=>none
theorem xnt:Good Tryz.prog (xp ka14) xa 0 (lsAt ZO .no [1,1,1,1,1,1,0,1,0]) (Tryz.f111.body.getD .skip) (xw Tryz.f111.results.toList):=xB (xg (by kernel_rfl)) xA xrc
theorem xdF(hl:SoundL I ka14):SoundF I 111 Ws:=by
 refine sq hl xa Tryz.func111 fun _ _ t ht =>?_
 unfold Ws at ht
 split at ht
 .rename_i gc n s
  split at ht
  .rename_i g hg
   obtain rfl:=xm hg
   cases ht
   refine(xE (P:= Tryz.prog) (n:=xa) (x:=(lsAt ZO .no [1,1,1,1,1,1,0,1,0])) (fn:= Tryz.f111) (H :=[]) (c:= Tryz.f111.body.getD .skip) (xg (by kernel_rfl)) xnt).symm.trans ?_
   exact ey (xnq g n s _)
  .cases ht
 .cases ht
def xhr:Sm:=fun
 | [.c (.ptr 0 0),.agg sec,.c (.int .i64 rm)],[some ⟨.port::gc, 96,false,none⟩]=>(match rnOf gc with
   | some (g,x)=>(match Seen.of sec with
   | some se=>some (mkS (((Res×Bool)×Rn)) (xcN g x se rm) fun r=>some (.tup [.agg r.1.1.cells,.c (.bool r.1.2)],[some ⟨.port::(g.cells++r.2.cells), 96,false,none⟩]))
   | _=>none)
   | _=>none)
 | _,_=>none
theorem xuV(hl:SoundL I ka14):SoundF I 44 xhr:=by
 refine sq hl 1 Tryz.func44 fun _ _ t ht =>?_
 unfold xhr at ht
 split at ht
 .rename_i sec rm gc
  split at ht
  .rename_i g x hg
   obtain rfl:=YD hg
   split at ht
   .rename_i se Jq
    obtain rfl:=Seen.of_eq Jq
    cases ht
    exact ey (xrd g x se rm _)
   .cases ht
  .cases ht
 .cases ht
def xnu:Sm:=fun
 | [.c (.ptr 0 0),.agg sec],[some ⟨.port::gc, 96,false,none⟩]=>(match rnOf gc with
   | some (g,x)=>(match Seen.of sec with
   | some se=>some (mkS (((Res×Bool)×Rn)) (xke g x se) fun r=>some (.tup [.agg r.1.1.cells,.c (.bool r.1.2)],[some ⟨.port::(g.cells++r.2.cells), 96,false,none⟩]))
   | _=>none)
   | _=>none)
 | _,_=>none
theorem xyv(hl:SoundL I ka14):SoundF I 45 xnu:=by
 refine sq hl 1 Tryz.func45 fun _ _ t ht =>?_
 unfold xnu at ht
 split at ht
 .rename_i sec gc
  split at ht
  .rename_i g x hg
   obtain rfl:=YD hg
   split at ht
   .rename_i se Jq
    obtain rfl:=Seen.of_eq Jq
    cases ht
    exact ey (xuU g x se _)
   .cases ht
  .cases ht
 .cases ht
def xkf:Sm:=gS fun
 | g,[.agg cc]=>(match Cal.of cc with
   | some c=>some (mkS Res (Wr g c) fun r=>some (.agg r.cells,[]))
   | _=>none)
 | _,_=>none
theorem xre(hl:SoundL I ka14):SoundF I 113 xkf:=by
 refine gsq hl 1 Tryz.func113 fun g l t ht =>?_
 split at ht
 .rename_i cc
  split at ht
  .rename_i c hc
   obtain rfl:=Cal.of_eq hc
   cases ht
   exact ey (xns g c _)
  .cases ht
 .cases ht
noncomputable def ka15:List (Nat×Sm):=(38,Ke)::(111,Ws)::(44,xhr)::(45,xnu)::(113,xkf)::ka14
theorem xhs:SoundL I ka15:=(.cons (xaX XS) (.cons (xdF XS) (.cons (xuV XS) (.cons (xyv XS) (.cons (xre XS) XS)))))
end Lx
namespace Lx
variable{β:Type}(g:Geo)
open Go
def xaY(s:Int)(κ:Res->T β):T β:=
 (jK g 1 s).bind fun r0=>
 κ r0
def Wt(s:Int):T Res:=xaY g s .ret
theorem xnv(s)(κ:Res->T β):(Wt g s).bind κ=xaY g s κ:=by
 unfold Wt xaY
 simp only[bz]
def xe4(v0:Bool)(v1:Res)(v2:Int->Int->Int->Int->Int->Int->Int->Int->Int->Int->Int->Int->T β)(v3:Seen)(v4:Int×Int×Int×Int×Int×Int×Int×Int×Int×Int×Int×Int×Int×Int×Int×Int×Bool->T β)(v5:Rn)(v6:Int):T β:=
 bif v0 then(bif v1.e==0 then(bif v0 then(v2 v3.size v1.at_ v1.n v1.byte v1.c1 v1.c2 v1.c3 v1.c4 v1.c5 v1.e v1.lin v1.touch) else
 v4 (v3.size,v1.at_,v1.n,v1.byte,v1.c1,v1.c2,v1.c3,v1.c4,v1.c5,v1.e,v1.lin,v1.touch,v5.grain,v5.size,v5.to,v5.usable,v5.has)) else
 bif v0 then(v2 v6 v1.at_ v1.n v1.byte v1.c1 v1.c2 v1.c3 v1.c4 v1.c5 v1.e v1.lin v1.touch) else
 v4 (v6,v1.at_,v1.n,v1.byte,v1.c1,v1.c2,v1.c3,v1.c4,v1.c5,v1.e,v1.lin,v1.touch,v5.grain,v5.size,v5.to,v5.usable,v5.has)) else
 bif v0 then(v2 v6 v1.at_ v1.n v1.byte v1.c1 v1.c2 v1.c3 v1.c4 v1.c5 v1.e v1.lin v1.touch) else
 v4 (v6,v1.at_,v1.n,v1.byte,v1.c1,v1.c2,v1.c3,v1.c4,v1.c5,v1.e,v1.lin,v1.touch,v5.grain,v5.size,v5.to,v5.usable,v5.has)
def XT(a0:Int)(g2 ro:Geo)(κ0:Int->Int->Int->Int->Int->Int->Int->Int->Int->Int->Int->T β)(κ1:Int->Int->Int->Int->Int->Int->Int->Int->Int->Int->Int->Int->T β)(i:Int×Int×Int×Int×Int×Int×Int×Int×Int×Int×Int×Int×Int×Int×Int×Int×Bool)(k:Int×Int×Int×Int×Int×Int×Int×Int×Int×Int×Int×Int×Int×Int×Int×Int×Bool->T β):T β:=
 (KZ g2 i.2.2.2.2.2.2.2.2.2.2.2.2.1).bind fun r0=>
 bif !r0.live then((Kb ro {grain:=i.2.2.2.2.2.2.2.2.2.2.2.2.1,size:=i.2.2.2.2.2.2.2.2.2.2.2.2.2.1,to:=i.2.2.2.2.2.2.2.2.2.2.2.2.2.2.1,usable:=i.2.2.2.2.2.2.2.2.2.2.2.2.2.2.2.1,has:=i.2.2.2.2.2.2.2.2.2.2.2.2.2.2.2.2}).bind fun r2=>
 (jy ro {grain:=r2.2.grain,size:=r2.2.size,to:=r2.2.to,usable:=r2.2.usable,has:=r2.2.has} {at_:=0,n:=0,byte:=0,c1:=0,c2:=0,c3:=0,c4:=0,c5:=0,e:=13,lin:=r0.lin,touch:=0}).bind fun r3=>
 κ0 r3.1.at_ r3.1.n r3.1.byte r3.1.c1 r3.1.c2 r3.1.c3 r3.1.c4 r3.1.c5 r3.1.e r3.1.lin r3.1.touch) else
 (VG ro {grain:=i.2.2.2.2.2.2.2.2.2.2.2.2.1,size:=i.2.2.2.2.2.2.2.2.2.2.2.2.2.1,to:=i.2.2.2.2.2.2.2.2.2.2.2.2.2.2.1,usable:=i.2.2.2.2.2.2.2.2.2.2.2.2.2.2.2.1,has:=i.2.2.2.2.2.2.2.2.2.2.2.2.2.2.2.2}).bind fun r2=>
 bif decide (a0<=r2.1)then((xcN ro {grain:=r2.2.grain,size:=r2.2.size,to:=r2.2.to,usable:=r2.2.usable,has:=r2.2.has} {kind:=r0.kind,size:=r0.size,other:=r0.other,ver:=r0.ver,live:=r0.live,lin:=r0.lin} r2.1).bind fun r4=>
 xe4 r4.fst.2 r4.fst.1 κ1 r0 k r4.2 i.1) else
 (xke ro {grain:=r2.2.grain,size:=r2.2.size,to:=r2.2.to,usable:=r2.2.usable,has:=r2.2.has} {kind:=r0.kind,size:=r0.size,other:=r0.other,ver:=r0.ver,live:=r0.live,lin:=r0.lin}).bind fun r4=>
 xe4 r4.fst.2 r4.fst.1 κ1 r0 k r4.2 i.1
def vC(a0:Int)(g2 ro:Geo)(a1 a3 a4 a5 a6 a7 a8 a9 be bd ay ca bj bn bq dg:Int)(b19:Bool)(κ0:Int->Int->Int->Int->Int->Int->Int->Int->Int->Int->Int->T β)(κ1:Int->Int->Int->Int->Int->Int->Int->Int->Int->Int->Int->Int->T β):T β:=xu xa (XT a0 g2 ro κ0 κ1) (a1,a3,a4,a5,a6,a7,a8,a9,be,bd,ay,ca,bj,bn,bq,dg,b19)
theorem xcO{β γ:Type}(a0 g2 ro a1 a3 a4 a5 a6 a7 a8 a9 be bd ay ca bj bn bq dg b19 κ0 κ1)(κ:β->T γ):(vC a0 g2 ro a1 a3 a4 a5 a6 a7 a8 a9 be bd ay ca bj bn bq dg b19 κ0 κ1).bind κ=vC a0 g2 ro a1 a3 a4 a5 a6 a7 a8 a9 be bd ay ca bj bn bq dg b19 (fun bt fj lj nc li ze pm pk na gb pn=>(κ0 bt fj lj nc li ze pm pk na gb pn).bind κ) (fun cg bt fj lj nc li ze pm pk na gb pn=>(κ1 cg bt fj lj nc li ze pm pk na gb pn).bind κ):=by
 unfold vC
 refine xi κ (fun i k =>?_) _ _
 unfold XT xe4
 simp only[bz]
def xaZ:Pat:=⟨xk 89 0 [(0,.c (.raw (.port))),(3,.c (.int .i64)),(5,.c (.raw (.ptr 0 0))),(8,.c (.raw (.ptr 1 0))),(9,.c (.int .i64)),(10,.c (.raw (.ptr 2 0)))],[some ⟨[.geo], 26,false,none⟩,some ⟨[.int .i64,.int .i64,.int .u8,.int .u64,.int .u64,.int .u64,.int .u64,.int .u64,.int .i64,.int .i64,.int .i64], 47,false,none⟩,some ⟨[.raw (.port),.geo,.int .i64,.int .i64,.int .i64,.int .i64,.bool], 96,false,none⟩]⟩
def Vi:Pat:=⟨xk 89 0 [(8,.c (.raw (.ptr 1 0))),(9,.c (.int .i64))],[none,some ⟨[.int .i64,.int .i64,.int .u8,.int .u64,.int .u64,.int .u64,.int .u64,.int .u64,.int .i64,.int .i64,.int .i64], 47,false,none⟩]⟩
def qk:LF:=fun st K=>match xr xaZ st with
 | some [.i a0,.i a1,.g g2,.i a3,.i a4,.i a5,.i a6,.i a7,.i a8,.i a9,.i be,.i bd,.i ay,.i ca,.g ro,.i bj,.i bn,.i bq,.i dg,.b b19]=>some (vC a0 g2 ro a1 a3 a4 a5 a6 a7 a8 a9 be bd ay ca bj bn bq dg b19 (fun bt fj lj nc li ze pm pk na gb pn=>K (.ret) (xe Vi [.i 0,.i bt,.i fj,.i lj,.i nc,.i li,.i ze,.i pm,.i pk,.i na,.i gb,.i pn])) (fun cg bt fj lj nc li ze pm pk na gb pn=>K (.ret) (xe Vi [.i cg,.i bt,.i fj,.i lj,.i nc,.i li,.i ze,.i pm,.i pk,.i na,.i gb,.i pn])))
 | _=>none
theorem xnw : ∀st K t,qk st K=some t->xD xa (lf ka15 xa 0 .no [1,1,1,1,0] Tryz.f16 K) st=t:=by
 intro st K t h
 unfold qk at h
 split at h
 .rename_i a0 a1 g2 a3 a4 a5 a6 a7 a8 a9 be bd ay ca ro bj bn bq dg b19 hm
  cases h
  rw[xj hm]
  unfold vC
  exact xt (S:=fun(i:Int×Int×Int×Int×Int×Int×Int×Int×Int×Int×Int×Int×Int×Int×Int×Int×Bool)=>xe xaZ [.i a0,.i i.1,.g g2,.i i.2.1,.i i.2.2.1,.i i.2.2.2.1,.i i.2.2.2.2.1,.i i.2.2.2.2.2.1,.i i.2.2.2.2.2.2.1,.i i.2.2.2.2.2.2.2.1,.i i.2.2.2.2.2.2.2.2.1,.i i.2.2.2.2.2.2.2.2.2.1,.i i.2.2.2.2.2.2.2.2.2.2.1,.i i.2.2.2.2.2.2.2.2.2.2.2.1,.g ro,.i i.2.2.2.2.2.2.2.2.2.2.2.2.1,.i i.2.2.2.2.2.2.2.2.2.2.2.2.2.1,.i i.2.2.2.2.2.2.2.2.2.2.2.2.2.2.1,.i i.2.2.2.2.2.2.2.2.2.2.2.2.2.2.2.1,.b i.2.2.2.2.2.2.2.2.2.2.2.2.2.2.2.2]) (fun i k=>by kernel_rfl) xa (a1,a3,a4,a5,a6,a7,a8,a9,be,bd,ay,ca,bj,bn,bq,dg,b19)
 .cases h
def Wu(a s:Int)(κ:(Res×Int)->T β):T β:=
 bif g.pages==0 then(κ (⟨0,0,0,0,0,0,0,0,15,0,0⟩,0)) else
 (YU g a s).bind fun r1=>
 bif r1 != 0 then(.op (.steps) fun x3=>
 (jy g (Rn.mk (i64.wrap (Int.tdiv a 8)) s 0 0 false) (Res.mk 0 0 0 0 0 0 0 0 r1 x3 0)).bind fun r4=>
 κ (r4.1,0)) else
 vC s g g 0 0 0 0 0 0 0 0 0 0 0 0 (i64.wrap (Int.tdiv a 8)) s 0 0 false (fun d6 t8 Ce Cd Cc Cb Ca B9 B0 Bz t7=>
 κ (⟨d6,t8,Ce,Cd,Cc,Cb,Ca,B9,B0,Bz,t7⟩,0))  (fun d6 t8 Ce Cd Cc Cb Ca B9 B0 Bz t7 Ei=>
 κ (⟨t8,Ce,Cd,Cc,Cb,Ca,B9,B0,Bz,t7,Ei⟩,d6))
def qY(a s:Int):T (Res×Int):=Wu g a s .ret
theorem xji(a s)(κ:(Res×Int)->T β):(qY g a s).bind κ=Wu g a s κ:=by
 unfold qY Wu
 simp only[bz,xcO]
def xcP:Sm:=gS fun
 | g,[.c (.int .i64 s)]=>some (mkS Res (Wt g s) fun r=>some (.agg r.cells,[]))
 | _,_=>none
variable{σ:Type}{I:Port Tryz.prog σ}
theorem xdG(hl:SoundL I ka15):SoundF I 14 xcP:=by
 refine gsq hl 1 Tryz.func14 fun g l t ht =>?_
 split at ht
 .rename_i s
  cases ht
  exact ey (xnv g s _)
 .cases ht
def ZP:Sm:=fun
 | [.c .port,.agg gc,.c (.int .i64 a),.c (.int .i64 s)],[]=>(match xF gc with
   | some g=>some (mkS ((Res×Int)) (qY g a s) fun r=>some (.tup [.agg r.1.cells,.c (.int .i64 r.2)],[]))
   | _=>none)
 | _,_=>none
theorem xjj:Good Tryz.prog (xp ka15) xa 0 (lsAt qk .no [1,1,1,1,0]) (Tryz.f16.body.getD .skip) (xw Tryz.f16.results.toList):=xB (xg (by kernel_rfl)) xA xnw
theorem xa0(hl:SoundL I ka15):SoundF I 16 ZP:=by
 refine sq hl xa Tryz.func16 fun _ _ t ht =>?_
 unfold ZP at ht
 split at ht
 .rename_i gc a s
  split at ht
  .rename_i g hg
   obtain rfl:=xm hg
   cases ht
   refine(xE (P:= Tryz.prog) (n:=xa) (x:=(lsAt qk .no [1,1,1,1,0])) (fn:= Tryz.f16) (H :=[]) (c:= Tryz.f16.body.getD .skip) (xg (by kernel_rfl)) xjj).symm.trans ?_
   exact ey (xji g a s _)
  .cases ht
 .cases ht
noncomputable def ka16:List (Nat×Sm):=(14,xcP)::(16,ZP)::ka15
theorem xAC:SoundL I ka16:=(.cons (xdG xhs) (.cons (xa0 xhs) xhs))
end Lx
namespace Lx
open Go
noncomputable def kI4:List (Nat×Sm):=(178,inl Tryz.prog (xp ka16) 1 Tryz.f178)::ka16
variable{σ:Type}{I:Port Tryz.prog σ}
theorem s_kI4:SoundL I kI4 :=.cons (xI xAC 1 Tryz.func178 (by kernel_rfl) (by kernel_rfl)) xAC
noncomputable def kI5:List (Nat×Sm):=(177,inl Tryz.prog (xp kI4) 1 Tryz.f177)::kI4
theorem xrf:SoundL I kI5 :=.cons (xI s_kI4 1 Tryz.func177 (by kernel_rfl) (by kernel_rfl)) s_kI4
end Lx
namespace Lx
variable{β:Type}(g:Geo)
open Go
def ql(v0:Seen)(v1:Res->T β):T β:=
 (vI (Res.mk 0 0 0 0 0 0 0 0 14 v0.lin 0)).bind fun r3=>
 v1 r3
def xa1(a o b:Int)(κ:Res->T β):T β:=
 (XR g a).bind fun r0=>
 bif !r0.snd.snd.2 then(κ r0.snd.snd.1) else
 bif decide (o<0)then(ql r0.snd.1 κ) else
 bif decide (o>=r0.snd.1.size)then(ql r0.snd.1 κ) else
 (vI (Res.mk 0 0 0 0 0 0 0 0 0 r0.snd.1.lin 0)).bind fun r4=>
 .op (.put (i64.wrap (a+o)) b) fun _=>
 .op (.steps) fun x6=>
 (vI (Res.mk r4.at_ r4.n 0 r4.c1 r4.c2 r4.c3 r4.c4 r4.c5 r4.e r4.lin x6)).bind fun r7=>
 κ r7
def Wv(a o b:Int):T Res:=xa1 g a o b .ret
theorem xnx(a o b)(κ:Res->T β):(Wv g a o b).bind κ=xa1 g a o b κ:=by
 unfold Wv xa1 ql
 simp only[bz]
def xe5(a o:Int)(κ:Res->T β):T β:=
 (XR g a).bind fun r0=>
 bif !r0.snd.snd.2 then(κ r0.snd.snd.1) else
 bif decide (o<0)then(ql r0.snd.1 κ) else
 bif decide (o>=r0.snd.1.size)then(ql r0.snd.1 κ) else
 (vI (Res.mk 0 0 0 0 0 0 0 0 0 r0.snd.1.lin 0)).bind fun r4=>
 .op (.get (i64.wrap (a+o))) fun x5=>
 .op (.steps) fun x6=>
 (vI (Res.mk r4.at_ r4.n x5 r4.c1 r4.c2 r4.c3 r4.c4 r4.c5 r4.e r4.lin x6)).bind fun r7=>
 κ r7
def xcQ(a o:Int):T Res:=xe5 g a o .ret
theorem xrg(a o)(κ:Res->T β):(xcQ g a o).bind κ=xe5 g a o κ:=by
 unfold xcQ xe5 ql
 simp only[bz]
def Kf(a0:Int)(g1:Geo)(a2 a3 a4 a5 a6 a7 a8 a9 be bd ay:Int)(κ0:Int->Int->Int->Int->Int->Int->Int->Int->Int->Int->Int->T β)(i:Unit)(k:Unit->T β):T β:=
 (XR g1 a0).bind fun r0=>
 bif !r0.snd.snd.2 then(κ0 r0.snd.snd.1.at_ r0.snd.snd.1.n r0.snd.snd.1.byte r0.snd.snd.1.c1 r0.snd.snd.1.c2 r0.snd.snd.1.c3 r0.snd.snd.1.c4 r0.snd.snd.1.c5 r0.snd.snd.1.e r0.snd.snd.1.lin r0.snd.snd.1.touch) else
 (ks g1 r0.1).bind fun r2=>
 (xcc {kind:=r2.kind,len:=r2.len,cls:=r2.cls,owner:=r2.owner}).bind fun r3=>
 .op (.load (atF g1 11 r0.1)) fun x4=>
 bif x4==Stt.word {kind:=r0.snd.1.kind,size:=r0.snd.1.size,other:=r0.snd.1.other,ver:=r0.snd.1.ver}then(.op (.steps) fun x6=>
 (vI {at_:=0,n:=r3,byte:=0,c1:=0,c2:=0,c3:=0,c4:=0,c5:=0,e:=0,lin:=x6,touch:=0}).bind fun r7=>
 κ0 r7.at_ r7.n r7.byte r7.c1 r7.c2 r7.c3 r7.c4 r7.c5 r7.e r7.lin r7.touch) else
 k ()
def vY(a0:Int)(g1:Geo)(a2 a3 a4 a5 a6 a7 a8 a9 be bd ay:Int)  (κ0:Int->Int->Int->Int->Int->Int->Int->Int->Int->Int->Int->T β):T β:=xu xa (Kf a0 g1 a2 a3 a4 a5 a6 a7 a8 a9 be bd ay κ0) ()
theorem xec{β γ:Type}(a0:Int)(g1:Geo)(a2 a3 a4 a5 a6 a7 a8 a9 be bd ay:Int)  (κ0:Int->Int->Int->Int->Int->Int->Int->Int->Int->Int->Int->T β) (κ:β->T γ):(vY a0 g1 a2 a3 a4 a5 a6 a7 a8 a9 be bd ay  κ0).bind κ=vY a0 g1 a2 a3 a4 a5 a6 a7 a8 a9 be bd ay  (fun cg bt fj lj nc li ze pm pk na gb=>(κ0 cg bt fj lj nc li ze pm pk na gb).bind κ):=by
 unfold vY
 refine xi κ (fun i k =>?_) _ _
 unfold Kf
 simp only[bz]
def xdH:Pat:=⟨xk 47 0 [(0,.c (.raw (.port))),(2,.c (.int .i64)),(4,.c (.raw (.ptr 0 0))),(6,.c (.raw (.ptr 1 0)))],[some ⟨[.geo], 26,false,none⟩,some ⟨[.int .i64,.int .i64,.int .u8,.int .u64,.int .u64,.int .u64,.int .u64,.int .u64,.int .i64,.int .i64,.int .i64], 47,false,none⟩]⟩
def xny:Pat:=⟨xk 47 0 [(6,.c (.raw (.ptr 1 0)))],[none,some ⟨[.int .i64,.int .i64,.int .u8,.int .u64,.int .u64,.int .u64,.int .u64,.int .u64,.int .i64,.int .i64,.int .i64], 47,false,none⟩]⟩
def ZQ:LF:=fun st K=>match xr xdH st with
 | some [.i a0,.g g1,.i a2,.i a3,.i a4,.i a5,.i a6,.i a7,.i a8,.i a9,.i be,.i bd,.i ay]=>some (vY a0 g1 a2 a3 a4 a5 a6 a7 a8 a9 be bd ay  (fun cg bt fj lj nc li ze pm pk na gb=>K (.ret) (xe xny [.i cg,.i bt,.i fj,.i lj,.i nc,.i li,.i ze,.i pm,.i pk,.i na,.i gb])))
 | _=>none
theorem xrh : ∀st K t,ZQ st K=some t->xD xa (lf kI5 xa 0 .no [1,0] Tryz.f114 K) st=t:=by
 intro st K t h
 unfold ZQ at h
 split at h
 .rename_i a0 g1 a2 a3 a4 a5 a6 a7 a8 a9 be bd ay hm
  cases h
  rw[xj hm]
  unfold vY
  exact xt (S:=fun(i:Unit)=>xe xdH [.i a0,.g g1,.i a2,.i a3,.i a4,.i a5,.i a6,.i a7,.i a8,.i a9,.i be,.i bd,.i ay]) (fun i k=>by kernel_rfl) xa ()
 .cases h
def xa2(a:Int)(κ:Res->T β):T β:=
 vY a g 0 0 0 0 0 0 0 0 0 0 0 (fun av gh nm ub ua t9 Cj Ci Ch Hq Eq=>
 κ ⟨av,gh,nm,ub,ua,t9,Cj,Ci,Ch,Hq,Eq⟩)
def Ww(a:Int):T Res:=xa2 g a .ret
theorem xnz(a)(κ:Res->T β):(Ww g a).bind κ=xa2 g a κ:=by
 unfold Ww xa2
 simp only[bz,xec]
def xa3(c:Cal)(κ:Res->T β):T β:=
 (qY g c.at_ c.size).bind fun r0=>
 bif r0.1.e==0 then((kZ g r0.2 c.size).bind fun r2=>
 κ r0.1) else
 (Zz r0.1).bind fun r2=>
 bif r2 then((jC g).bind fun r4=>
 κ r0.1) else
 κ r0.1
def Wx(c:Cal):T Res:=xa3 g c .ret
theorem xnA(c)(κ:Res->T β):(Wx g c).bind κ=xa3 g c κ:=by
 unfold Wx xa3
 simp only[bz]
def xkg:Sm:=gS fun
 | g,[.c (.int .i64 a),.c (.int .i64 o),.c (.int .u8 b)]=>some (mkS Res (Wv g a o b) fun r=>some (.agg r.cells,[]))
 | _,_=>none
variable{σ:Type}{I:Port Tryz.prog σ}
theorem xri(hl:SoundL I kI5):SoundF I 115 xkg:=by
 refine gsq hl 1 Tryz.func115 fun g l t ht =>?_
 split at ht
 .rename_i a o b
  cases ht
  exact ey (xnx g a o b _)
 .cases ht
def xrj:Sm:=gS fun
 | g,[.c (.int .i64 a),.c (.int .i64 o)]=>some (mkS Res (xcQ g a o) fun r=>some (.agg r.cells,[]))
 | _,_=>none
theorem xuW(hl:SoundL I kI5):SoundF I 116 xrj:=by
 refine gsq hl 1 Tryz.func116 fun g l t ht =>?_
 split at ht
 .rename_i a o
  cases ht
  exact ey (xrg g a o _)
 .cases ht
def xcR:Sm:=fun
 | [.c .port,.agg gc,.c (.int .i64 a)],[]=>(match xF gc with
   | some g=>some (mkS Res (Ww g a) fun r=>some (.agg r.cells,[]))
   | _=>none)
 | _,_=>none
theorem xnB:Good Tryz.prog (xp kI5) xa 0 (lsAt ZQ .no [1,0]) (Tryz.f114.body.getD .skip) (xw Tryz.f114.results.toList):=xB (xg (by kernel_rfl)) xA xrh
theorem xrk(hl:SoundL I kI5):SoundF I 114 xcR:=by
 refine sq hl xa Tryz.func114 fun _ _ t ht =>?_
 unfold xcR at ht
 split at ht
 .rename_i gc a
  split at ht
  .rename_i g hg
   obtain rfl:=xm hg
   cases ht
   refine(xE (P:= Tryz.prog) (n:=xa) (x:=(lsAt ZQ .no [1,0])) (fn:= Tryz.f114) (H :=[]) (c:= Tryz.f114.body.getD .skip) (xg (by kernel_rfl)) xnB).symm.trans ?_
   exact ey (xnz g a _)
  .cases ht
 .cases ht
def xkh:Sm:=gS fun
 | g,[.agg cc]=>(match Cal.of cc with
   | some c=>some (mkS Res (Wx g c) fun r=>some (.agg r.cells,[]))
   | _=>none)
 | _,_=>none
theorem xrl(hl:SoundL I kI5):SoundF I 112 xkh:=by
 refine gsq hl 1 Tryz.func112 fun g l t ht =>?_
 split at ht
 .rename_i cc
  split at ht
  .rename_i c hc
   obtain rfl:=Cal.of_eq hc
   cases ht
   exact ey (xnA g c _)
  .cases ht
 .cases ht
noncomputable def ka17:List (Nat×Sm):=(115,xkg)::(116,xrj)::(114,xcR)::(112,xkh)::kI5
theorem xuX:SoundL I ka17:=(.cons (xri xrf) (.cons (xuW xrf) (.cons (xrk xrf) (.cons (xrl xrf) xrf))))
end Lx
namespace Lx
variable{β:Type}(g:Geo)
open Go
def xa4(v0:Geo)(v1:Cal)(v2:Res)(v3:Res->T β):T β:=
 (VW v0 v1 v2).bind fun r4=>
 v3 r4
def doTK(c:Cal)(κ:Res->T β):T β:=
 bif g.pages==0 then(κ ⟨0,0,0,0,0,0,0,0,1,0,0⟩) else
 .op (.load (atF g 1 0)) fun x1=>
 bif c.op==1 then((Wt g c.size).bind fun r3=>
 xa4 g c r3 κ) else
 bif c.op==2 then((Wq g c.n c.size).bind fun r4=>
 xa4 g c r4 κ) else
 bif c.op==3 then((jK g c.align c.size).bind fun r5=>
 xa4 g c r5 κ) else
 bif c.op==4 then((Wx g c).bind fun r6=>
 κ r6) else
 bif c.op==5 then((Wr g c).bind fun r7=>
 κ r7) else
 bif c.op==6 then((Ww g c.at_).bind fun r8=>
 κ r8) else
 bif c.op==7 then((Wv g c.at_ c.off c.byte).bind fun r9=>
 κ r9) else
 bif c.op==8 then((xcQ g c.at_ c.off).bind fun ck=>
 κ ck) else
 bif c.op==9 then((xcK g).bind fun Cn=>
 (Vg (Res.mk 0 0 0 0 0 0 0 0 0 0 0)).bind fun dq=>
 κ dq) else
 bif c.op==10 then((xkc g).bind fun dq=>
 (Vg (Res.mk 0 0 0 0 0 0 0 0 dq 0 0)).bind fun gy=>
 κ gy) else
 bif c.op==11 then((xgv g).bind fun gy=>
 (Vg (Res.mk 0 0 0 gy.allocs gy.frees gy.failures gy.live gy.bytes 0 0 0)).bind fun lz=>
 κ lz) else
 (Vg (Res.mk 0 0 0 0 0 0 0 0 1 0 0)).bind fun gy=>
 κ gy
def doT(c:Cal):T Res:=doTK g c .ret
theorem xAD(c)(κ:Res->T β):(doT g c).bind κ=doTK g c κ:=by
 unfold doT doTK xa4
 simp only[bz]
def m_doT:Sm:=gS fun
 | g,[.agg cc]=>(match Cal.of cc with
   | some c=>some (mkS Res (doT g c) fun r=>some (.agg r.cells,[]))
   | _=>none)
 | _,_=>none
variable{σ:Type}{I:Port Tryz.prog σ}
theorem xwR(hl:SoundL I ka17):SoundF I 61 m_doT:=by
 refine gsq hl 1 Tryz.func61 fun g l t ht =>?_
 split at ht
 .rename_i cc
  split at ht
  .rename_i c hc
   obtain rfl:=Cal.of_eq hc
   cases ht
   exact ey (xAD g c _)
  .cases ht
 .cases ht
noncomputable def ka18:List (Nat×Sm):=(61,m_doT)::ka17
theorem xuY:SoundL I ka18:=(.cons (xwR xuX) xuX)
end Lx
end Go.Proofs.YtcicjcggclhbfaaGreat
