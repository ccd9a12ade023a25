/- Part. -/
import Derived.Test.YtaegelbaghaooaaGreatCbQI
set_option linter.all false
open Go.IntKind (i64 u64 u32 u8)
set_option maxRecDepth 1000000
namespace Go.Proofs.YtaegelbaghaooaaGreat
namespace Lx
variable{β:Type}(g:Geo)
open Go
def KF(c:Int)(κ:(Int×Int)->T β):T β:=
 (jC g).bind fun r0=>
 bif r0 then(κ ((0),(15))) else
 bif decide (c<0)then(κ ((0),(15))) else
 bif decide (c>=4)then(κ ((0),(15))) else
 .op (.load (atF g 1 0)) fun x4=>
 (Yq g 0 c).bind fun r5=>
 bif !r5.1.ok then(bif r5.1.e==0 then((ZQ g r5.2).bind fun r8=>
 bif !r8.1 then(κ ((0),(5))) else
 (jY g r8.2 c).bind fun r10=>
 bif r10.1.e != 0 then(κ ((0),(r10.1.e))) else
 bif r10.1.ok then(κ ((r10.1.grain),(0))) else
 .op (.load (atF g 1 0)) fun x13=>
 bif x13==u64.wrap (x4+r10.2)then(κ ((0),(15))) else
 .fail) else
 bif r5.1.e != 0 then(κ ((0),(r5.1.e))) else
 bif r5.1.ok then(κ ((r5.1.grain),(0))) else
 .op (.load (atF g 1 0)) fun x10=>
 bif x10==u64.wrap (x4+r5.2)then(κ ((0),(15))) else
 .fail) else
 bif r5.1.e != 0 then(κ ((0),(r5.1.e))) else
 bif r5.1.ok then(κ ((r5.1.grain),(0))) else
 .op (.load (atF g 1 0)) fun x9=>
 bif x9==u64.wrap (x4+r5.2)then(κ ((0),(15))) else
 .fail
def qM(c:Int):T (Int×Int):=KF g c .ret
theorem xk5(c:Int)(κ:(Int×Int)->T β):(qM g c).bind κ=KF g c κ:=by
 unfold qM KF
 simp only[bz]
def xdw(k a:Int)(κ:(Int×Int)->T β):T β:=
 (jC g).bind fun r0=>
 bif r0 then(κ ((0),(15))) else
 bif decide (k<1)then(κ ((0),(15))) else
 bif decide (a<1)then(κ ((0),(15))) else
 .op (.load (atF g 1 0)) fun x4=>
 (xe2 g 0 k a).bind fun r5=>
 bif !r5.1.ok then(bif r5.1.e==0 then((ZQ g r5.2).bind fun r8=>
 bif !r8.1 then(κ ((0),(5))) else
 (xe2 g r8.2 k a).bind fun r10=>
 bif r10.1.e != 0 then(κ ((0),(r10.1.e))) else
 bif r10.1.ok then(κ ((r10.1.grain),(0))) else
 .op (.load (atF g 1 0)) fun x13=>
 bif x13==u64.wrap (x4+r10.2)then(κ ((0),(15))) else
 .fail) else
 bif r5.1.e != 0 then(κ ((0),(r5.1.e))) else
 bif r5.1.ok then(κ ((r5.1.grain),(0))) else
 .op (.load (atF g 1 0)) fun x10=>
 bif x10==u64.wrap (x4+r5.2)then(κ ((0),(15))) else
 .fail) else
 bif r5.1.e != 0 then(κ ((0),(r5.1.e))) else
 bif r5.1.ok then(κ ((r5.1.grain),(0))) else
 .op (.load (atF g 1 0)) fun x9=>
 bif x9==u64.wrap (x4+r5.2)then(κ ((0),(15))) else
 .fail
def WS(k a:Int):T (Int×Int):=xdw g k a .ret
theorem xog(k a:Int)(κ:(Int×Int)->T β):(WS g k a).bind κ=xdw g k a κ:=by
 unfold WS xdw
 simp only[bz]
def KG(κ:(Int×Bool)->T β):T β:=
 (jC g).bind fun r0=>
 bif r0 then(κ ((0),(false))) else
 (ZQ g 0).bind fun r2=>
 κ ((r2.2),(r2.1))
def KH:T (Int×Bool):=KG g .ret
theorem xk6(κ:(Int×Bool)->T β):(KH g).bind κ=KG g κ:=by
 unfold KH KG
 simp only[bz]
def xh4:Sm:=gS fun
 | g,[.c (.int .i64 c)]=>some (mkS ((Int×Int)) (qM g c) fun r=>some (.tup [.c (.int .i64 r.1),.c (.int .i64 r.2)],[]))
 | _,_=>none
variable{σ:Type}{I:Port Tryz.prog σ}
theorem xoh(hl:SoundL I kI3):SoundF I 76 xh4:=by
 refine gsq hl 1 Tryz.func76 fun g l t ht =>?_
 split at ht
 ·rename_i c
  cases ht
  exact ey (xk5 g c _)
 ·cases ht
def xoi:Sm:=gS fun
 | g,[.c (.int .i64 k),.c (.int .i64 a)]=>some (mkS ((Int×Int)) (WS g k a) fun r=>some (.tup [.c (.int .i64 r.1),.c (.int .i64 r.2)],[]))
 | _,_=>none
theorem xrF(hl:SoundL I kI3):SoundF I 79 xoi:=by
 refine gsq hl 1 Tryz.func79 fun g l t ht =>?_
 split at ht
 ·rename_i k a
  cases ht
  exact ey (xog g k a _)
 ·cases ht
def xh5:Sm:=gS fun
 | g,[]=>some (mkS ((Int×Bool)) (KH g) fun r=>some (.tup [.c (.int .u64 r.1),.c (.bool r.2)],[]))
 | _,_=>none
theorem xoj(hl:SoundL I kI3):SoundF I 92 xh5:=by
 refine gsq hl 1 Tryz.func92 fun g l t ht =>?_
 split at ht
 ·cases ht
  exact ey (xk6 g _)
 ·cases ht
noncomputable def ka13:List (Nat×Sm):=(76,xh4)::(79,xoi)::(92,xh5)::kI3
theorem qN:SoundL I ka13:=(.cons (xoh xtO) (.cons (xrF xtO) (.cons (xoj xtO) xtO)))
end Lx
namespace Lx
variable{β:Type}(g:Geo)
open Go
def xdx(s a:Int)(κ:(Int×Int×Int)->T β):T β:=
 bif g.pages==0 then(κ ((0),(0),(15))) else
 bif decide (s<1)then(κ ((0),(0),(11))) else
 bif decide (s>i64.wrap (g.pages*64))then(κ ((0),(0),(11))) else
 (XC a).bind fun r3=>
 bif !r3 then(κ ((0),(0),(12))) else
 (cofT s a).bind fun r5=>
 bif decide (r5>=0)then((qM g r5).bind fun r7=>
 bif decide (0<=r5/\r5<4)then(bif r7.2 != 0 then(κ ((0),(0),(r7.2))) else
 κ ((r7.1),(bif r5==0 then(8:Int)else bif r5==1 then(16:Int)else bif r5==2 then(24:Int)else(32:Int)),(0))) else
 .fail) else
 (jP s).bind fun r7=>
 (WS g r7 (if i64.wrap (Int.tdiv a 64)<1 then(1:Int)else i64.wrap (Int.tdiv a 64))).bind fun r8=>
 bif r8.2 != 0 then(κ ((0),(0),(r8.2))) else
 κ ((r8.1),(i64.wrap (r7*64)),(0))
def jE(s a:Int):T (Int×Int×Int):=xdx g s a .ret
theorem xok(s a:Int)(κ:(Int×Int×Int)->T β):(jE g s a).bind κ=xdx g s a κ:=by
 unfold jE xdx
 simp only[bz]
def xk7(κ:Int->T β):T β:=
 (KH g).bind fun r0=>
 bif !r0.2 then(κ (5)) else
 κ (0)
def xh6:T Int:=xk7 g .ret
theorem xrG(κ:Int->T β):(xh6 g).bind κ=xk7 g κ:=by
 unfold xh6 xk7
 simp only[bz]
def xdy(x:Rn)(κ:(Unit×Rn)->T β):T β:=
 bif x.has then((vP g x.to).bind fun r1=>
 κ ((),⟨(x.grain),(x.size),(x.to),(x.usable),(false)⟩)) else
 κ ((),⟨(x.grain),(x.size),(x.to),(x.usable),(false)⟩)
def WT(x:Rn):T (Unit×Rn):=xdy g x .ret
theorem xol(x:Rn)(κ:(Unit×Rn)->T β):(WT g x).bind κ=xdy g x κ:=by
 unfold WT xdy
 simp only[bz]
def xdz(a:Int)(κ:Res->T β):T β:=
 bif g.pages==0 then(κ ⟨(0),(0),(0),(0),(0),(0),(0),(0),(15),(0),(0)⟩) else
 bif decide (a<0)then(.op (.steps) fun x2=>
 (va 13 x2).bind fun r3=>
 κ r3) else
 bif decide (a>=i64.wrap (g.pages*64))then(.op (.steps) fun x3=>
 (va 13 x3).bind fun r4=>
 κ r4) else
 bif Int.tmod a 8 != 0 then(.op (.steps) fun x4=>
 (va 13 x4).bind fun r5=>
 κ r5) else
 (xaU g (i64.wrap (Int.tdiv a 8))).bind fun r4=>
 bif !r4.live then((va 13 r4.lin).bind fun r6=>
 κ r6) else
 .op (.tell [.int .i64 (0),.int .i64 (r4.size),.int .u8 (0),.int .u64 (0),.int .u64 (0),.int .u64 (0),.int .u64 (0),.int .u64 (0),.int .i64 (0),.int .i64 (r4.lin),.int .i64 (0)]) fun _=>
 (vP g (i64.wrap (Int.tdiv a 8))).bind fun r7=>
 κ ⟨(0),(r4.size),(0),(0),(0),(0),(0),(0),(0),(r4.lin),(0)⟩
def xbw(a:Int):T Res:=xdz g a .ret
theorem xom(a:Int)(κ:Res->T β):(xbw g a).bind κ=xdz g a κ:=by
 unfold xbw xdz
 simp only[bz]
def xdA(a:Int)(κ:(Int×Seen×Res×Bool)->T β):T β:=
 bif decide (a<0)then(.op (.steps) fun x1=>
 (yp (Res.mk 0 0 0 0 0 0 0 0 13 x1 0)).bind fun r2=>
 κ ((0),⟨(0),(0),(0),(0),(false),(0)⟩,r2,(false))) else
 bif decide (a>=i64.wrap (g.pages*64))then(.op (.steps) fun x2=>
 (yp (Res.mk 0 0 0 0 0 0 0 0 13 x2 0)).bind fun r3=>
 κ ((0),⟨(0),(0),(0),(0),(false),(0)⟩,r3,(false))) else
 bif Int.tmod a 8 != 0 then(.op (.steps) fun x3=>
 (yp (Res.mk 0 0 0 0 0 0 0 0 13 x3 0)).bind fun r4=>
 κ ((0),⟨(0),(0),(0),(0),(false),(0)⟩,r4,(false))) else
 (VN g (i64.wrap (Int.tdiv a 8))).bind fun r3=>
 bif !r3.live then((yp (Res.mk 0 0 0 0 0 0 0 0 13 r3.lin 0)).bind fun r5=>
 κ ((0),⟨(r3.kind),(r3.size),(r3.other),(r3.ver),(r3.live),(r3.lin)⟩,r5,(false))) else
 κ ((i64.wrap (Int.tdiv a 8)),⟨(r3.kind),(r3.size),(r3.other),(r3.ver),(r3.live),(r3.lin)⟩,⟨(0),(0),(0),(0),(0),(0),(0),(0),(0),(0),(0)⟩,(true))
def ZR(a:Int):T (Int×Seen×Res×Bool):=xdA g a .ret
theorem xon(a:Int)(κ:(Int×Seen×Res×Bool)->T β):(ZR g a).bind κ=xdA g a κ:=by
 unfold ZR xdA
 simp only[bz]
def xfD:Sm:=gS fun
 | g,[.c (.int .i64 s),.c (.int .i64 a)]=>some (mkS ((Int×Int×Int)) (jE g s a) fun r=>some (.tup [.c (.int .i64 r.1),.c (.int .i64 r.2.1),.c (.int .i64 r.2.2)],[]))
 | _,_=>none
variable{σ:Type}{I:Port Tryz.prog σ}
theorem xfE(hl:SoundL I ka13):SoundF I 21 xfD:=by
 refine gsq hl 1 Tryz.func21 fun g l t ht =>?_
 split at ht
 ·rename_i s a
  cases ht
  exact ey (xok g s a _)
 ·cases ht
def xk8:Sm:=gS fun
 | g,[]=>some (mkS (Int) (xh6 g) fun r=>some (.c (.int .i64 r),[]))
 | _,_=>none
theorem xh7(hl:SoundL I ka13):SoundF I 28 xk8:=by
 refine gsq hl 1 Tryz.func28 fun g l t ht =>?_
 split at ht
 ·cases ht
  exact ey (xrG g _)
 ·cases ht
def xfF:Sm:=fun
 | [.c (.ptr 0 0)],[some ⟨.port::gc, 179,false,none⟩]=>(match rnOf gc with
   | some (g,x)=>some (mkS ((Unit×Rn)) (WT g x) fun r=>some (.tup [],[some ⟨.port::(g.cells++r.2.cells), 179,false,none⟩]))
   | _=>none)
 | _,_=>none
theorem xrH(hl:SoundL I ka13):SoundF I 116 xfF:=by
 refine sq hl 1 Tryz.func116 fun _ _ t ht =>?_
 unfold xfF at ht
 split at ht
 ·rename_i gc
  split at ht
  ·rename_i g x hg
   obtain rfl:=XG hg
   cases ht
   exact ey (xol g x _)
  ·cases ht
 ·cases ht
def xfG:Sm:=gS fun
 | g,[.c (.int .i64 a)]=>some (mkS (Res) (xbw g a) fun r=>some (.agg r.cells,[]))
 | _,_=>none
theorem xfH(hl:SoundL I ka13):SoundF I 25 xfG:=by
 refine gsq hl 1 Tryz.func25 fun g l t ht =>?_
 split at ht
 ·rename_i a
  cases ht
  exact ey (xom g a _)
 ·cases ht
def xoo:Sm:=gS fun
 | g,[.c (.int .i64 a)]=>some (mkS ((Int×Seen×Res×Bool)) (ZR g a) fun r=>some (.tup [.c (.int .i64 r.1),.agg r.2.1.cells,.agg r.2.2.1.cells,.c (.bool r.2.2.2)],[]))
 | _,_=>none
theorem xrI(hl:SoundL I ka13):SoundF I 207 xoo:=by
 refine gsq hl 1 Tryz.func207 fun g l t ht =>?_
 split at ht
 ·rename_i a
  cases ht
  exact ey (xon g a _)
 ·cases ht
noncomputable def ka14:List (Nat×Sm):=(21,xfD)::(28,xk8)::(116,xfF)::(25,xfG)::(207,xoo)::ka13
theorem ZS:SoundL I ka14:=(.cons (xfE qN) (.cons (xh7 qN) (.cons (xrH qN) (.cons (xfH qN) (.cons (xrI qN) qN)))))
end Lx
namespace Lx
variable{β:Type}(g:Geo)
open Go
def Ys(a s:Int)(κ:Res->T β):T β:=
 bif g.pages==0 then(κ ⟨(0),(0),(0),(0),(0),(0),(0),(0),(15),(0),(0)⟩) else
 (jE g s a).bind fun r1=>
 bif r1.snd.2 != 0 then(.op (.steps) fun x3=>
 (va r1.snd.2 x3).bind fun r4=>
 κ r4) else
 (VX g r1.1 r1.snd.1 s).bind fun r3=>
 κ r3
def kU(a s:Int):T Res:=Ys g a s .ret
theorem xhd(a s:Int)(κ:Res->T β):(kU g a s).bind κ=Ys g a s κ:=by
 unfold kU Ys
 simp only[bz]
def WU(a0 a1 a2 a3 a4:Int)(g6:Geo)(a7 a8 a9 a10 a11 a12 a13 a14 a15 a16 a17:Int)(κ0:Unit->T β)(i:Int)(k:Int->T β):T β:=
 bif decide (i<a4)then(.op (.put (i64.wrap (i64.wrap (a2*8)+i)) (0)) fun _=>
 k (i64.wrap (i+1))) else
 κ0 ()
def yA(a0 a1 a2 a3 a4:Int)(g6:Geo)(a7 a8 a9 a10 a11 a12 a13 a14 a15 a16 a17 a5:Int)(κ0:Unit->T β):T β:=xr xa (WU a0 a1 a2 a3 a4 g6 a7 a8 a9 a10 a11 a12 a13 a14 a15 a16 a17 κ0) a5
theorem xcK{β γ:Type}(a0 a1 a2 a3 a4:Int)(g6:Geo)(a7 a8 a9 a10 a11 a12 a13 a14 a15 a16 a17 a5:Int)(κ0:Unit->T β)(κ:β->T γ):(yA a0 a1 a2 a3 a4 g6 a7 a8 a9 a10 a11 a12 a13 a14 a15 a16 a17 a5 κ0).bind κ=yA a0 a1 a2 a3 a4 g6 a7 a8 a9 a10 a11 a12 a13 a14 a15 a16 a17 a5 (fun u=>(κ0 u).bind κ):=by
 unfold yA
 refine xj κ (fun i k =>?_) _ _
 unfold WU
 simp only[bz]
def xch:Pat:=⟨xm 80 0 [(0,.c (.raw (.port))),(2,.c (.int .i64)),(3,.c (.int .i64)),(5,.c (.raw (.ptr 0 0))),(8,.c (.raw (.ptr 1 0))),(10,.c (.int .i64)),(11,.c (.int .i64)),(61,.c (.int .i64)),(62,.c (.int .i64))],[some ⟨[.geo],24,false,none⟩,some ⟨[.int .i64,.int .i64,.int .u8,.int .u64,.int .u64,.int .u64,.int .u64,.int .u64,.int .i64,.int .i64,.int .i64],38,false,none⟩]⟩
def xk9:Pat:=⟨xm 80 0 [(0,.c (.raw (.port))),(2,.c (.int .i64)),(3,.c (.int .i64)),(5,.c (.raw (.ptr 0 0))),(8,.c (.raw (.ptr 1 0))),(10,.c (.int .i64)),(11,.c (.int .i64))],[some ⟨[.geo],24,false,none⟩,some ⟨[.int .i64,.int .i64,.int .u8,.int .u64,.int .u64,.int .u64,.int .u64,.int .u64,.int .i64,.int .i64,.int .i64],38,false,none⟩]⟩
def qO:LF:=fun st K=>match xq xch st with
 | some [.i a0,.i a1,.i a2,.i a3,.i a4,.i a5,.g g6,.i a7,.i a8,.i a9,.i a10,.i a11,.i a12,.i a13,.i a14,.i a15,.i a16,.i a17]=>some (yA a0 a1 a2 a3 a4 g6 a7 a8 a9 a10 a11 a12 a13 a14 a15 a16 a17 a5 (fun _=>K (.exit 0) (xd xk9 [.i a0,.i a1,.i a2,.i a3,.g g6,.i a7,.i a8,.i a9,.i a10,.i a11,.i a12,.i a13,.i a14,.i a15,.i a16,.i a17])))
 | _=>none
theorem xop : ∀st K t,qO st K=some t->xA xa (lf ka14 xa 0 .no [1,1,1,1,1,1,0,1,0] Tryz.f30 K) st=t:=by
 intro st K t h
 unfold qO at h
 split at h
 ·rename_i a0 a1 a2 a3 a4 a5 g6 a7 a8 a9 a10 a11 a12 a13 a14 a15 a16 a17 hm
  cases h
  rw[xk hm]
  unfold yA
  exact xu (S:=fun(i:Int)=>xd xch [.i a0,.i a1,.i a2,.i a3,.i a4,.i i,.g g6,.i a7,.i a8,.i a9,.i a10,.i a11,.i a12,.i a13,.i a14,.i a15,.i a16,.i a17]) (fun i k=>by kernel_rfl) xa a5
 ·cases h
def KI(n s:Int)(κ:Res->T β):T β:=
 bif g.pages==0 then(κ ⟨(0),(0),(0),(0),(0),(0),(0),(0),(15),(0),(0)⟩) else
 bif decide (n<0)then(.op (.steps) fun x2=>
 (va 11 x2).bind fun r3=>
 κ r3) else
 bif decide (s<0)then(.op (.steps) fun x3=>
 (va 11 x3).bind fun r4=>
 κ r4) else
 bif decide (s>0)then(bif bif s==0 then false else true then(bif decide (n>i64.wrap (Int.tdiv (i64.wrap (g.pages*64)) s))then(.op (.steps) fun x6=>
 (va 11 x6).bind fun r7=>
 κ r7) else
 (jE g (i64.wrap (n*s)) 1).bind fun r6=>
 bif r6.snd.2 != 0 then(.op (.steps) fun x8=>
 (va r6.snd.2 x8).bind fun r9=>
 κ r9) else
 yA (n) (s) (r6.1) (r6.snd.1) (i64.wrap (n*s)) (g) (0) (0) (0) (0) (0) (0) (0) (0) (0) (0) (0) (0) (fun y8_0=>
 (VX g r6.1 r6.snd.1 (i64.wrap (n*s))).bind fun r9=>
 κ r9)) else
 .fail) else
 (jE g (i64.wrap (n*s)) 1).bind fun r4=>
 bif r4.snd.2 != 0 then(.op (.steps) fun x6=>
 (va r4.snd.2 x6).bind fun r7=>
 κ r7) else
 yA (n) (s) (r4.1) (r4.snd.1) (i64.wrap (n*s)) (g) (0) (0) (0) (0) (0) (0) (0) (0) (0) (0) (0) (0) (fun y6_0=>
 (VX g r4.1 r4.snd.1 (i64.wrap (n*s))).bind fun r7=>
 κ r7)
def Yt(n s:Int):T Res:=KI g n s .ret
theorem xla(n s:Int)(κ:Res->T β):(Yt g n s).bind κ=KI g n s κ:=by
 unfold Yt KI
 simp only[bz,xcK]
def xdB(x:Rn)(se:Seen)(rm:Int)(κ:((Res×Bool)×Rn)->T β):T β:=
 (XE g x.grain (Stt.mk se.kind se.size se.other se.ver) x.size).bind fun r0=>
 bif !r0 then(κ ((⟨(0),(0),(0),(0),(0),(0),(0),(0),(0),(0),(0)⟩,(false)),x)) else
 .op (.steps) fun x2=>
 (wI g x (Res.mk (i64.wrap (x.grain*8)) rm 0 0 0 0 0 0 0 x2 0)).bind fun r3=>
 (WT g r3.2).bind fun r4=>
 κ ((r3.1,(true)),r4.2)
def xbx(x:Rn)(se:Seen)(rm:Int):T ((Res×Bool)×Rn):=xdB g x se rm .ret
theorem xoq(x:Rn)(se:Seen)(rm:Int)(κ:((Res×Bool)×Rn)->T β):(xbx g x se rm).bind κ=xdB g x se rm κ:=by
 unfold xbx xdB
 simp only[bz]
def xlb(x:Rn)(se:Seen)(κ:((Res×Bool)×Rn)->T β):T β:=
 bif !x.has then((jE g x.size 1).bind fun r1=>
 bif r1.snd.2 != 0 then((wI g x (Res.mk 0 0 0 0 0 0 0 0 r1.snd.2 se.lin 0)).bind fun r3=>
 κ ((r3.1,(true)),r3.2)) else
 (jo g (Rn.mk x.grain x.size r1.1 r1.snd.1 true) (if x.size<se.size then x.size else se.size)).bind fun r3=>
 (kE g r3.2.to r3.2.grain r3.2.size).bind fun r4=>
 (xec g r3.2.grain (Stt.mk se.kind se.size se.other se.ver) r3.2.to r4).bind fun r5=>
 bif !r5 then((xed g r3.2.to).bind fun r7=>
 κ ((⟨(0),(0),(0),(0),(0),(0),(0),(0),(0),(0),(0)⟩,(false)),r3.2)) else
 .op (.steps) fun x7=>
 (wI g r3.2 (Res.mk (i64.wrap (r3.2.to*8)) r3.2.usable 0 0 0 0 0 0 0 x7 0)).bind fun r8=>
 (qv g r8.2.to r8.2.grain r8.2.size r4).bind fun r9=>
 (vP g r8.2.grain).bind fun r10=>
 κ ((r8.1,(true)),r8.2)) else
 (jo g x (if x.size<se.size then x.size else se.size)).bind fun r1=>
 (kE g r1.2.to r1.2.grain r1.2.size).bind fun r2=>
 (xec g r1.2.grain (Stt.mk se.kind se.size se.other se.ver) r1.2.to r2).bind fun r3=>
 bif !r3 then((xed g r1.2.to).bind fun r5=>
 κ ((⟨(0),(0),(0),(0),(0),(0),(0),(0),(0),(0),(0)⟩,(false)),r1.2)) else
 .op (.steps) fun x5=>
 (wI g r1.2 (Res.mk (i64.wrap (r1.2.to*8)) r1.2.usable 0 0 0 0 0 0 0 x5 0)).bind fun r6=>
 (qv g r6.2.to r6.2.grain r6.2.size r2).bind fun r7=>
 (vP g r6.2.grain).bind fun r8=>
 κ ((r6.1,(true)),r6.2)
def xh8(x:Rn)(se:Seen):T ((Res×Bool)×Rn):=xlb g x se .ret
theorem xrJ(x:Rn)(se:Seen)(κ:((Res×Bool)×Rn)->T β):(xh8 g x se).bind κ=xlb g x se κ:=by
 unfold xh8 xlb
 simp only[bz]
def KJ(c:Cal)(κ:Res->T β):T β:=
 (xbw g c.at_).bind fun r0=>
 bif r0.e==0 then((Ye g r0.n).bind fun r2=>
 κ r0) else
 κ r0
def Yu(c:Cal):T Res:=KJ g c .ret
theorem xlc(c:Cal)(κ:Res->T β):(Yu g c).bind κ=KJ g c κ:=by
 unfold Yu KJ
 simp only[bz]
def WV:Sm:=gS fun
 | g,[.c (.int .i64 a),.c (.int .i64 s)]=>some (mkS (Res) (kU g a s) fun r=>some (.agg r.cells,[]))
 | _,_=>none
variable{σ:Type}{I:Port Tryz.prog σ}
theorem KK(hl:SoundL I ka14):SoundF I 22 WV:=by
 refine gsq hl 1 Tryz.func22 fun g l t ht =>?_
 split at ht
 ·rename_i a s
  cases ht
  exact ey (xhd g a s _)
 ·cases ht
def Yv:Sm:=fun
 | [.c .port,.agg gc,.c (.int .i64 n),.c (.int .i64 s)],[]=>(match xv gc with
   | some g=>some (mkS (Res) (Yt g n s) fun r=>some (.agg r.cells,[]))
   | _=>none)
 | _,_=>none
theorem xld:Good Tryz.prog (xo ka14) xa 0 (lsAt qO .no [1,1,1,1,1,1,0,1,0]) (Tryz.f30.body.getD .skip) (xt Tryz.f30.results.toList):=xz (xi (by kernel_rfl)) xy xop
theorem xci(hl:SoundL I ka14):SoundF I 30 Yv:=by
 refine sq hl xa Tryz.func30 fun _ _ t ht =>?_
 unfold Yv at ht
 split at ht
 ·rename_i gc n s
  split at ht
  ·rename_i g hg
   obtain rfl:=xe hg
   cases ht
   refine(xE (P:= Tryz.prog) (n:=xa) (x:=(lsAt qO .no [1,1,1,1,1,1,0,1,0])) (fn:= Tryz.f30) (H :=[]) (c:= Tryz.f30.body.getD .skip) (xi (by kernel_rfl)) xld).symm.trans ?_
   exact ey (xla g n s _)
  ·cases ht
 ·cases ht
def xfI:Sm:=fun
 | [.c (.ptr 0 0),.agg sec,.c (.int .i64 rm)],[some ⟨.port::gc, 179,false,none⟩]=>(match rnOf gc with
   | some (g,x)=>(match Seen.of sec with
   | some se=>some (mkS (((Res×Bool)×Rn)) (xbx g x se rm) fun r=>some (.tup [.agg r.1.1.cells,.c (.bool r.1.2)],[some ⟨.port::(g.cells++r.2.cells), 179,false,none⟩]))
   | _=>none)
   | _=>none)
 | _,_=>none
theorem xrK(hl:SoundL I ka14):SoundF I 118 xfI:=by
 refine sq hl 1 Tryz.func118 fun _ _ t ht =>?_
 unfold xfI at ht
 split at ht
 ·rename_i sec rm gc
  split at ht
  ·rename_i g x hg
   obtain rfl:=XG hg
   split at ht
   ·rename_i se hse
    obtain rfl:=Seen.of_eq hse
    cases ht
    exact ey (xoq g x se rm _)
   ·cases ht
  ·cases ht
 ·cases ht
def xle:Sm:=fun
 | [.c (.ptr 0 0),.agg sec],[some ⟨.port::gc, 179,false,none⟩]=>(match rnOf gc with
   | some (g,x)=>(match Seen.of sec with
   | some se=>some (mkS (((Res×Bool)×Rn)) (xh8 g x se) fun r=>some (.tup [.agg r.1.1.cells,.c (.bool r.1.2)],[some ⟨.port::(g.cells++r.2.cells), 179,false,none⟩]))
   | _=>none)
   | _=>none)
 | _,_=>none
theorem xuW(hl:SoundL I ka14):SoundF I 119 xle:=by
 refine sq hl 1 Tryz.func119 fun _ _ t ht =>?_
 unfold xle at ht
 split at ht
 ·rename_i sec gc
  split at ht
  ·rename_i g x hg
   obtain rfl:=XG hg
   split at ht
   ·rename_i se hse
    obtain rfl:=Seen.of_eq hse
    cases ht
    exact ey (xrJ g x se _)
   ·cases ht
  ·cases ht
 ·cases ht
def xh9:Sm:=gS fun
 | g,[.agg cc]=>(match Cal.of cc with
   | some c=>some (mkS (Res) (Yu g c) fun r=>some (.agg r.cells,[]))
   | _=>none)
 | _,_=>none
theorem xos(hl:SoundL I ka14):SoundF I 130 xh9:=by
 refine gsq hl 1 Tryz.func130 fun g l t ht =>?_
 split at ht
 ·rename_i cc
  split at ht
  ·rename_i c hc
   obtain rfl:=Cal.of_eq hc
   cases ht
   exact ey (xlc g c _)
  ·cases ht
 ·cases ht
noncomputable def ka15:List (Nat×Sm):=(22,WV)::(30,Yv)::(118,xfI)::(119,xle)::(130,xh9)::ka14
theorem xfJ:SoundL I ka15:=(.cons (KK ZS) (.cons (xci ZS) (.cons (xrK ZS) (.cons (xuW ZS) (.cons (xos ZS) ZS)))))
end Lx
namespace Lx
variable{β:Type}(g:Geo)
open Go
def KL(s:Int)(κ:Res->T β):T β:=
 (kU g 1 s).bind fun r0=>
 κ r0
def Yw(s:Int):T Res:=KL g s .ret
theorem xlf(s:Int)(κ:Res->T β):(Yw g s).bind κ=KL g s κ:=by
 unfold Yw KL
 simp only[bz]
def ZT(a0:Int)(g2 g14:Geo)(κ0:Int->Int->Int->Int->Int->Int->Int->Int->Int->Int->Int->T β)(κ1:Int->Int->Int->Int->Int->Int->Int->Int->Int->Int->Int->Int->T β)(i:Int×Int×Int×Int×Int×Int×Int×Int×Int×Int×Int×Int×Int×Int×Int×Int×Bool)(k:Int×Int×Int×Int×Int×Int×Int×Int×Int×Int×Int×Int×Int×Int×Int×Int×Bool->T β):T β:=
 (VN g2 i.2.2.2.2.2.2.2.2.2.2.2.2.1).bind fun r0=>
 bif !r0.live then((WT g14 {grain:=i.2.2.2.2.2.2.2.2.2.2.2.2.1,size:=i.2.2.2.2.2.2.2.2.2.2.2.2.2.1,to:=i.2.2.2.2.2.2.2.2.2.2.2.2.2.2.1,usable:=i.2.2.2.2.2.2.2.2.2.2.2.2.2.2.2.1,has:=i.2.2.2.2.2.2.2.2.2.2.2.2.2.2.2.2}).bind fun r2=>
 (wI g14 {grain:=r2.2.grain,size:=r2.2.size,to:=r2.2.to,usable:=r2.2.usable,has:=r2.2.has}   {at_:=0,n:=0,byte:=0,c1:=0,c2:=0,c3:=0,     c4:=0,c5:=0,e:=13,lin:=r0.lin,touch:=0}).bind fun r3=>
 κ0 (r3.1.at_) (r3.1.n) (r3.1.byte) (r3.1.c1) (r3.1.c2) (r3.1.c3) (r3.1.c4) (r3.1.c5) (r3.1.e) (r3.1.lin) (r3.1.touch)) else
 (WC g14 {grain:=i.2.2.2.2.2.2.2.2.2.2.2.2.1,size:=i.2.2.2.2.2.2.2.2.2.2.2.2.2.1,to:=i.2.2.2.2.2.2.2.2.2.2.2.2.2.2.1,usable:=i.2.2.2.2.2.2.2.2.2.2.2.2.2.2.2.1,has:=i.2.2.2.2.2.2.2.2.2.2.2.2.2.2.2.2}).bind fun r2=>
 bif decide (a0<=r2.1)then((xbx g14 {grain:=r2.2.grain,size:=r2.2.size,to:=r2.2.to,usable:=r2.2.usable,has:=r2.2.has}   {kind:=r0.kind,size:=r0.size,other:=r0.other,ver:=r0.ver,live:=r0.live,lin:=r0.lin} r2.1).bind fun r4=>
 bif r4.fst.2 then(bif r4.fst.1.e==0 then(bif r4.fst.2 then(κ1 (r0.size) (r4.fst.1.at_) (r4.fst.1.n) (r4.fst.1.byte) (r4.fst.1.c1) (r4.fst.1.c2) (r4.fst.1.c3) (r4.fst.1.c4) (r4.fst.1.c5) (r4.fst.1.e) (r4.fst.1.lin) (r4.fst.1.touch)) else
 k (r0.size,r4.fst.1.at_,r4.fst.1.n,r4.fst.1.byte,r4.fst.1.c1,r4.fst.1.c2,r4.fst.1.c3,r4.fst.1.c4,r4.fst.1.c5,r4.fst.1.e,r4.fst.1.lin,r4.fst.1.touch,r4.2.grain,r4.2.size,r4.2.to,r4.2.usable,r4.2.has)) else
 bif r4.fst.2 then(κ1 (i.1) (r4.fst.1.at_) (r4.fst.1.n) (r4.fst.1.byte) (r4.fst.1.c1) (r4.fst.1.c2) (r4.fst.1.c3) (r4.fst.1.c4) (r4.fst.1.c5) (r4.fst.1.e) (r4.fst.1.lin) (r4.fst.1.touch)) else
 k (i.1,r4.fst.1.at_,r4.fst.1.n,r4.fst.1.byte,r4.fst.1.c1,r4.fst.1.c2,r4.fst.1.c3,r4.fst.1.c4,r4.fst.1.c5,r4.fst.1.e,r4.fst.1.lin,r4.fst.1.touch,r4.2.grain,r4.2.size,r4.2.to,r4.2.usable,r4.2.has)) else
 bif r4.fst.2 then(κ1 (i.1) (r4.fst.1.at_) (r4.fst.1.n) (r4.fst.1.byte) (r4.fst.1.c1) (r4.fst.1.c2) (r4.fst.1.c3) (r4.fst.1.c4) (r4.fst.1.c5) (r4.fst.1.e) (r4.fst.1.lin) (r4.fst.1.touch)) else
 k (i.1,r4.fst.1.at_,r4.fst.1.n,r4.fst.1.byte,r4.fst.1.c1,r4.fst.1.c2,r4.fst.1.c3,r4.fst.1.c4,r4.fst.1.c5,r4.fst.1.e,r4.fst.1.lin,r4.fst.1.touch,r4.2.grain,r4.2.size,r4.2.to,r4.2.usable,r4.2.has)) else
 (xh8 g14 {grain:=r2.2.grain,size:=r2.2.size,to:=r2.2.to,usable:=r2.2.usable,has:=r2.2.has}   {kind:=r0.kind,size:=r0.size,other:=r0.other,ver:=r0.ver,live:=r0.live,lin:=r0.lin}).bind fun r4=>
 bif r4.fst.2 then(bif r4.fst.1.e==0 then(bif r4.fst.2 then(κ1 (r0.size) (r4.fst.1.at_) (r4.fst.1.n) (r4.fst.1.byte) (r4.fst.1.c1) (r4.fst.1.c2) (r4.fst.1.c3) (r4.fst.1.c4) (r4.fst.1.c5) (r4.fst.1.e) (r4.fst.1.lin) (r4.fst.1.touch)) else
 k (r0.size,r4.fst.1.at_,r4.fst.1.n,r4.fst.1.byte,r4.fst.1.c1,r4.fst.1.c2,r4.fst.1.c3,r4.fst.1.c4,r4.fst.1.c5,r4.fst.1.e,r4.fst.1.lin,r4.fst.1.touch,r4.2.grain,r4.2.size,r4.2.to,r4.2.usable,r4.2.has)) else
 bif r4.fst.2 then(κ1 (i.1) (r4.fst.1.at_) (r4.fst.1.n) (r4.fst.1.byte) (r4.fst.1.c1) (r4.fst.1.c2) (r4.fst.1.c3) (r4.fst.1.c4) (r4.fst.1.c5) (r4.fst.1.e) (r4.fst.1.lin) (r4.fst.1.touch)) else
 k (i.1,r4.fst.1.at_,r4.fst.1.n,r4.fst.1.byte,r4.fst.1.c1,r4.fst.1.c2,r4.fst.1.c3,r4.fst.1.c4,r4.fst.1.c5,r4.fst.1.e,r4.fst.1.lin,r4.fst.1.touch,r4.2.grain,r4.2.size,r4.2.to,r4.2.usable,r4.2.has)) else
 bif r4.fst.2 then(κ1 (i.1) (r4.fst.1.at_) (r4.fst.1.n) (r4.fst.1.byte) (r4.fst.1.c1) (r4.fst.1.c2) (r4.fst.1.c3) (r4.fst.1.c4) (r4.fst.1.c5) (r4.fst.1.e) (r4.fst.1.lin) (r4.fst.1.touch)) else
 k (i.1,r4.fst.1.at_,r4.fst.1.n,r4.fst.1.byte,r4.fst.1.c1,r4.fst.1.c2,r4.fst.1.c3,r4.fst.1.c4,r4.fst.1.c5,r4.fst.1.e,r4.fst.1.lin,r4.fst.1.touch,r4.2.grain,r4.2.size,r4.2.to,r4.2.usable,r4.2.has)
def ve(a0:Int)(g2 g14:Geo)(a1 a3 a4 a5 a6 a7 a8 a9 a10 a11 a12 a13 a15 a16 a17 a18:Int)(b19:Bool)(κ0:Int->Int->Int->Int->Int->Int->Int->Int->Int->Int->Int->T β)(κ1:Int->Int->Int->Int->Int->Int->Int->Int->Int->Int->Int->Int->T β):T β:=xr xa (ZT a0 g2 g14 κ0 κ1) (a1,a3,a4,a5,a6,a7,a8,a9,a10,a11,a12,a13,a15,a16,a17,a18,b19)
theorem xby{β γ:Type}(a0:Int)(g2 g14:Geo)(a1 a3 a4 a5 a6 a7 a8 a9 a10 a11 a12 a13 a15 a16 a17 a18:Int)(b19:Bool)(κ0:Int->Int->Int->Int->Int->Int->Int->Int->Int->Int->Int->T β)(κ1:Int->Int->Int->Int->Int->Int->Int->Int->Int->Int->Int->Int->T β)(κ:β->T γ):(ve a0 g2 g14 a1 a3 a4 a5 a6 a7 a8 a9 a10 a11 a12 a13 a15 a16 a17 a18 b19 κ0 κ1).bind κ=ve a0 g2 g14 a1 a3 a4 a5 a6 a7 a8 a9 a10 a11 a12 a13 a15 a16 a17 a18 b19 (fun ae1 ae2 ae3 ae4 ae5 ae6 ae7 ae8 ae9 ae10 ae11=>(κ0 ae1 ae2 ae3 ae4 ae5 ae6 ae7 ae8 ae9 ae10 ae11).bind κ) (fun ae0 ae1 ae2 ae3 ae4 ae5 ae6 ae7 ae8 ae9 ae10 ae11=>(κ1 ae0 ae1 ae2 ae3 ae4 ae5 ae6 ae7 ae8 ae9 ae10 ae11).bind κ):=by
 unfold ve
 refine xj κ (fun i k =>?_) _ _
 unfold ZT
 simp only[bz]
def KM:Pat:=⟨xm 89 0 [(0,.c (.raw (.port))),(3,.c (.int .i64)),(5,.c (.raw (.ptr 0 0))),(8,.c (.raw (.ptr 1 0))),(9,.c (.int .i64)),(10,.c (.raw (.ptr 2 0)))],[some ⟨[.geo],24,false,none⟩,some ⟨[.int .i64,.int .i64,.int .u8,.int .u64,.int .u64,.int .u64,.int .u64,.int .u64,.int .i64,.int .i64,.int .i64],38,false,none⟩,some ⟨[.raw (.port),.geo,.int .i64,.int .i64,.int .i64,.int .i64,.bool],179,false,none⟩]⟩
def YZ:Pat:=⟨xm 89 0 [(8,.c (.raw (.ptr 1 0))),(9,.c (.int .i64))],[none,some ⟨[.int .i64,.int .i64,.int .u8,.int .u64,.int .u64,.int .u64,.int .u64,.int .u64,.int .i64,.int .i64,.int .i64],38,false,none⟩]⟩
def jr:LF:=fun st K=>match xq KM st with
 | some [.i a0,.i a1,.g g2,.i a3,.i a4,.i a5,.i a6,.i a7,.i a8,.i a9,.i a10,.i a11,.i a12,.i a13,.g g14,.i a15,.i a16,.i a17,.i a18,.b b19]=>some (ve a0 g2 g14 a1 a3 a4 a5 a6 a7 a8 a9 a10 a11 a12 a13 a15 a16 a17 a18 b19 (fun ae1 ae2 ae3 ae4 ae5 ae6 ae7 ae8 ae9 ae10 ae11=>K (.ret) (xd YZ [.i 0,.i ae1,.i ae2,.i ae3,.i ae4,.i ae5,.i ae6,.i ae7,.i ae8,.i ae9,.i ae10,.i ae11])) (fun ae0 ae1 ae2 ae3 ae4 ae5 ae6 ae7 ae8 ae9 ae10 ae11=>K (.ret) (xd YZ [.i ae0,.i ae1,.i ae2,.i ae3,.i ae4,.i ae5,.i ae6,.i ae7,.i ae8,.i ae9,.i ae10,.i ae11])))
 | _=>none
theorem xlg : ∀st K t,jr st K=some t->xA xa (lf ka15 xa 0 .no [1,1,1,1,0] Tryz.f44 K) st=t:=by
 intro st K t h
 unfold jr at h
 split at h
 ·rename_i a0 a1 g2 a3 a4 a5 a6 a7 a8 a9 a10 a11 a12 a13 g14 a15 a16 a17 a18 b19 hm
  cases h
  rw[xk hm]
  unfold ve
  exact xu (S:=fun(i:Int×Int×Int×Int×Int×Int×Int×Int×Int×Int×Int×Int×Int×Int×Int×Int×Bool)=>xd KM [.i a0,.i (i.1),.g g2,.i (i.2.1),.i (i.2.2.1),.i (i.2.2.2.1),.i (i.2.2.2.2.1),.i (i.2.2.2.2.2.1),.i (i.2.2.2.2.2.2.1),.i (i.2.2.2.2.2.2.2.1),.i (i.2.2.2.2.2.2.2.2.1),.i (i.2.2.2.2.2.2.2.2.2.1),.i (i.2.2.2.2.2.2.2.2.2.2.1),.i (i.2.2.2.2.2.2.2.2.2.2.2.1),.g g14,.i (i.2.2.2.2.2.2.2.2.2.2.2.2.1),.i (i.2.2.2.2.2.2.2.2.2.2.2.2.2.1),.i (i.2.2.2.2.2.2.2.2.2.2.2.2.2.2.1),.i (i.2.2.2.2.2.2.2.2.2.2.2.2.2.2.2.1),.b (i.2.2.2.2.2.2.2.2.2.2.2.2.2.2.2.2)]) (fun i k=>by kernel_rfl) xa (a1,a3,a4,a5,a6,a7,a8,a9,a10,a11,a12,a13,a15,a16,a17,a18,b19)
 ·cases h
def Yx(a s:Int)(κ:(Res×Int)->T β):T β:=
 bif g.pages==0 then(κ (⟨(0),(0),(0),(0),(0),(0),(0),(0),(15),(0),(0)⟩,(0))) else
 (XX g a s).bind fun r1=>
 bif r1 != 0 then(.op (.steps) fun x3=>
 (wI g (Rn.mk (i64.wrap (Int.tdiv a 8)) s 0 0 false) (Res.mk 0 0 0 0 0 0 0 0 r1 x3 0)).bind fun r4=>
 κ (r4.1,(0))) else
 ve (s) (g) (g) (0) (0) (0) (0) (0) (0) (0) (0) (0) (0) (0) (0) (i64.wrap (Int.tdiv a 8)) (s) (0) (0) (false) (fun y3_0 y3_1 y3_2 y3_3 y3_4 y3_5 y3_6 y3_7 y3_8 y3_9 y3_10=>
 κ (⟨(y3_0),y3_1,y3_2,y3_3,y3_4,y3_5,y3_6,y3_7,y3_8,y3_9,(y3_10)⟩,(0))) (fun y3_0 y3_1 y3_2 y3_3 y3_4 y3_5 y3_6 y3_7 y3_8 y3_9 y3_10 y3_11=>
 κ (⟨(y3_1),y3_2,y3_3,y3_4,y3_5,y3_6,y3_7,y3_8,y3_9,y3_10,(y3_11)⟩,y3_0))
def jZ(a s:Int):T (Res×Int):=Yx g a s .ret
theorem xhe(a s:Int)(κ:(Res×Int)->T β):(jZ g a s).bind κ=Yx g a s κ:=by
 unfold jZ Yx
 simp only[bz,xby]
def xbz:Sm:=gS fun
 | g,[.c (.int .i64 s)]=>some (mkS (Res) (Yw g s) fun r=>some (.agg r.cells,[]))
 | _,_=>none
variable{σ:Type}{I:Port Tryz.prog σ}
theorem xcj(hl:SoundL I ka15):SoundF I 26 xbz:=by
 refine gsq hl 1 Tryz.func26 fun g l t ht =>?_
 split at ht
 ·rename_i s
  cases ht
  exact ey (xlf g s _)
 ·cases ht
def qP:Sm:=fun
 | [.c .port,.agg gc,.c (.int .i64 a),.c (.int .i64 s)],[]=>(match xv gc with
   | some g=>some (mkS ((Res×Int)) (jZ g a s) fun r=>some (.tup [.agg r.1.cells,.c (.int .i64 r.2)],[]))
   | _=>none)
 | _,_=>none
theorem xhf:Good Tryz.prog (xo ka15) xa 0 (lsAt jr .no [1,1,1,1,0]) (Tryz.f44.body.getD .skip) (xt Tryz.f44.results.toList):=xz (xi (by kernel_rfl)) xy xlg
theorem KN(hl:SoundL I ka15):SoundF I 44 qP:=by
 refine sq hl xa Tryz.func44 fun _ _ t ht =>?_
 unfold qP at ht
 split at ht
 ·rename_i gc a s
  split at ht
  ·rename_i g hg
   obtain rfl:=xe hg
   cases ht
   refine(xE (P:= Tryz.prog) (n:=xa) (x:=(lsAt jr .no [1,1,1,1,0])) (fn:= Tryz.f44) (H :=[]) (c:= Tryz.f44.body.getD .skip) (xi (by kernel_rfl)) xhf).symm.trans ?_
   exact ey (xhe g a s _)
  ·cases ht
 ·cases ht
noncomputable def ka16:List (Nat×Sm):=(26,xbz)::(44,qP)::ka15
theorem xwU:SoundL I ka16:=(.cons (xcj xfJ) (.cons (KN xfJ) xfJ))
end Lx
namespace Lx
open Go
noncomputable def kI4:List (Nat×Sm):=(211,inl Tryz.prog (xo ka16) 1 Tryz.f211)::ka16
variable{σ:Type}{I:Port Tryz.prog σ}
theorem s_kI4:SoundL I kI4 :=.cons (xx xwU 1 Tryz.func211 (by kernel_rfl) (by kernel_rfl)) xwU
noncomputable def kI5:List (Nat×Sm):=(210,inl Tryz.prog (xo kI4) 1 Tryz.f210)::kI4
theorem xot:SoundL I kI5 :=.cons (xx s_kI4 1 Tryz.func210 (by kernel_rfl) (by kernel_rfl)) s_kI4
end Lx
namespace Lx
variable{β:Type}(g:Geo)
open Go
def KO(a o b:Int)(κ:Res->T β):T β:=
 (ZR g a).bind fun r0=>
 bif !r0.snd.snd.2 then(κ r0.snd.snd.1) else
 bif decide (o<0)then((yp (Res.mk 0 0 0 0 0 0 0 0 14 r0.snd.1.lin 0)).bind fun r3=>
 κ r3) else
 bif decide (o>=r0.snd.1.size)then((yp (Res.mk 0 0 0 0 0 0 0 0 14 r0.snd.1.lin 0)).bind fun r4=>
 κ r4) else
 (yp (Res.mk 0 0 0 0 0 0 0 0 0 r0.snd.1.lin 0)).bind fun r4=>
 .op (.put (i64.wrap (a+o)) (b)) fun _=>
 .op (.steps) fun x6=>
 (yp (Res.mk r4.at_ r4.n 0 r4.c1 r4.c2 r4.c3 r4.c4 r4.c5 r4.e r4.lin x6)).bind fun r7=>
 κ r7
def Yy(a o b:Int):T Res:=KO g a o b .ret
theorem xlh(a o b:Int)(κ:Res->T β):(Yy g a o b).bind κ=KO g a o b κ:=by
 unfold Yy KO
 simp only[bz]
def xdC(a o:Int)(κ:Res->T β):T β:=
 (ZR g a).bind fun r0=>
 bif !r0.snd.snd.2 then(κ r0.snd.snd.1) else
 bif decide (o<0)then((yp (Res.mk 0 0 0 0 0 0 0 0 14 r0.snd.1.lin 0)).bind fun r3=>
 κ r3) else
 bif decide (o>=r0.snd.1.size)then((yp (Res.mk 0 0 0 0 0 0 0 0 14 r0.snd.1.lin 0)).bind fun r4=>
 κ r4) else
 (yp (Res.mk 0 0 0 0 0 0 0 0 0 r0.snd.1.lin 0)).bind fun r4=>
 .op (.get (i64.wrap (a+o))) fun x5=>
 .op (.steps) fun x6=>
 (yp (Res.mk r4.at_ r4.n x5 r4.c1 r4.c2 r4.c3 r4.c4 r4.c5 r4.e r4.lin x6)).bind fun r7=>
 κ r7
def xbA(a o:Int):T Res:=xdC g a o .ret
theorem xou(a o:Int)(κ:Res->T β):(xbA g a o).bind κ=xdC g a o κ:=by
 unfold xbA xdC
 simp only[bz]
def WW(a0:Int)(g1:Geo)(a2 a3 a4 a5 a6 a7 a8 a9 a10 a11 a12:Int)(κ0:Int->Int->Int->Int->Int->Int->Int->Int->Int->Int->Int->T β)(i:Unit)(k:Unit->T β):T β:=
 (ZR g1 a0).bind fun r0=>
 bif !r0.snd.snd.2 then(κ0 (r0.snd.snd.1.at_) (r0.snd.snd.1.n) (r0.snd.snd.1.byte) (r0.snd.snd.1.c1) (r0.snd.snd.1.c2) (r0.snd.snd.1.c3) (r0.snd.snd.1.c4) (r0.snd.snd.1.c5) (r0.snd.snd.1.e) (r0.snd.snd.1.lin) (r0.snd.snd.1.touch)) else
 (vY g1 r0.1).bind fun r2=>
 (xaY {kind:=r2.kind,len:=r2.len,cls:=r2.cls,owner:=r2.owner}).bind fun r3=>
 .op (.load (atF g1 11 r0.1)) fun x4=>
 bif x4==Stt.word {kind:=r0.snd.1.kind,size:=r0.snd.1.size,other:=r0.snd.1.other,ver:=r0.snd.1.ver}then(.op (.steps) fun x6=>
 (yp   {at_:=0,n:=r3,byte:=0,c1:=0,c2:=0,c3:=0,c4:=0,     c5:=0,e:=0,lin:=x6,touch:=0}).bind fun r7=>
 κ0 (r7.at_) (r7.n) (r7.byte) (r7.c1) (r7.c2) (r7.c3) (r7.c4) (r7.c5) (r7.e) (r7.lin) (r7.touch)) else
 k ()
def vA(a0:Int)(g1:Geo)(a2 a3 a4 a5 a6 a7 a8 a9 a10 a11 a12:Int)  (κ0:Int->Int->Int->Int->Int->Int->Int->Int->Int->Int->Int->T β):T β:=xr xa (WW a0 g1 a2 a3 a4 a5 a6 a7 a8 a9 a10 a11 a12 κ0) ()
theorem xcL{β γ:Type}(a0:Int)(g1:Geo)(a2 a3 a4 a5 a6 a7 a8 a9 a10 a11 a12:Int)  (κ0:Int->Int->Int->Int->Int->Int->Int->Int->Int->Int->Int->T β) (κ:β->T γ):(vA a0 g1 a2 a3 a4 a5 a6 a7 a8 a9 a10 a11 a12  κ0).bind κ=vA a0 g1 a2 a3 a4 a5 a6 a7 a8 a9 a10 a11 a12  (fun ae0 ae1 ae2 ae3 ae4 ae5 ae6 ae7 ae8 ae9 ae10=>(κ0 ae0 ae1 ae2 ae3 ae4 ae5 ae6 ae7 ae8 ae9 ae10).bind κ):=by
 unfold vA
 refine xj κ (fun i k =>?_) _ _
 unfold WW
 simp only[bz]
def xck:Pat:=⟨xm 47 0 [(0,.c (.raw (.port))),(2,.c (.int .i64)),(4,.c (.raw (.ptr 0 0))),(6,.c (.raw (.ptr 1 0)))],[some ⟨[.geo],24,false,none⟩,some ⟨[.int .i64,.int .i64,.int .u8,.int .u64,.int .u64,.int .u64,.int .u64,.int .u64,.int .i64,.int .i64,.int .i64],38,false,none⟩]⟩
def xli:Pat:=⟨xm 47 0 [(6,.c (.raw (.ptr 1 0)))],[none,some ⟨[.int .i64,.int .i64,.int .u8,.int .u64,.int .u64,.int .u64,.int .u64,.int .u64,.int .i64,.int .i64,.int .i64],38,false,none⟩]⟩
def qQ:LF:=fun st K=>match xq xck st with
 | some [.i a0,.g g1,.i a2,.i a3,.i a4,.i a5,.i a6,.i a7,.i a8,.i a9,.i a10,.i a11,.i a12]=>some (vA a0 g1 a2 a3 a4 a5 a6 a7 a8 a9 a10 a11 a12  (fun ae0 ae1 ae2 ae3 ae4 ae5 ae6 ae7 ae8 ae9 ae10=>K (.ret) (xd xli [.i ae0,.i ae1,.i ae2,.i ae3,.i ae4,.i ae5,.i ae6,.i ae7,.i ae8,.i ae9,.i ae10])))
 | _=>none
theorem xov : ∀st K t,qQ st K=some t->xA xa (lf kI5 xa 0 .no [1,0] Tryz.f131 K) st=t:=by
 intro st K t h
 unfold qQ at h
 split at h
 ·rename_i a0 g1 a2 a3 a4 a5 a6 a7 a8 a9 a10 a11 a12 hm
  cases h
  rw[xk hm]
  unfold vA
  exact xu (S:=fun(i:Unit)=>xd xck [.i a0,.g g1,.i a2,.i a3,.i a4,.i a5,.i a6,.i a7,.i a8,.i a9,.i a10,.i a11,.i a12]) (fun i k=>by kernel_rfl) xa ()
 ·cases h
def KP(a:Int)(κ:Res->T β):T β:=
 vA (a) (g) (0) (0) (0) (0) (0) (0) (0) (0) (0) (0) (0) (fun y0_0 y0_1 y0_2 y0_3 y0_4 y0_5 y0_6 y0_7 y0_8 y0_9 y0_10=>
 κ ⟨(y0_0),y0_1,y0_2,y0_3,y0_4,y0_5,y0_6,y0_7,y0_8,y0_9,(y0_10)⟩)
def Yz(a:Int):T Res:=KP g a .ret
theorem xlj(a:Int)(κ:Res->T β):(Yz g a).bind κ=KP g a κ:=by
 unfold Yz KP
 simp only[bz,xcL]
def KQ(c:Cal)(κ:Res->T β):T β:=
 (jZ g c.at_ c.size).bind fun r0=>
 bif r0.1.e==0 then((kh g r0.2 c.size).bind fun r2=>
 κ r0.1) else
 (qz r0.1).bind fun r2=>
 bif r2 then((kM g).bind fun r4=>
 κ r0.1) else
 κ r0.1
def YA(c:Cal):T Res:=KQ g c .ret
theorem xlk(c:Cal)(κ:Res->T β):(YA g c).bind κ=KQ g c κ:=by
 unfold YA KQ
 simp only[bz]
def xia:Sm:=gS fun
 | g,[.c (.int .i64 a),.c (.int .i64 o),.c (.int .u8 b)]=>some (mkS (Res) (Yy g a o b) fun r=>some (.agg r.cells,[]))
 | _,_=>none
variable{σ:Type}{I:Port Tryz.prog σ}
theorem xow(hl:SoundL I kI5):SoundF I 132 xia:=by
 refine gsq hl 1 Tryz.func132 fun g l t ht =>?_
 split at ht
 ·rename_i a o b
  cases ht
  exact ey (xlh g a o b _)
 ·cases ht
def xox:Sm:=gS fun
 | g,[.c (.int .i64 a),.c (.int .i64 o)]=>some (mkS (Res) (xbA g a o) fun r=>some (.agg r.cells,[]))
 | _,_=>none
theorem xrL(hl:SoundL I kI5):SoundF I 133 xox:=by
 refine gsq hl 1 Tryz.func133 fun g l t ht =>?_
 split at ht
 ·rename_i a o
  cases ht
  exact ey (xou g a o _)
 ·cases ht
def xbB:Sm:=fun
 | [.c .port,.agg gc,.c (.int .i64 a)],[]=>(match xv gc with
   | some g=>some (mkS (Res) (Yz g a) fun r=>some (.agg r.cells,[]))
   | _=>none)
 | _,_=>none
theorem xll:Good Tryz.prog (xo kI5) xa 0 (lsAt qQ .no [1,0]) (Tryz.f131.body.getD .skip) (xt Tryz.f131.results.toList):=xz (xi (by kernel_rfl)) xy xov
theorem xoy(hl:SoundL I kI5):SoundF I 131 xbB:=by
 refine sq hl xa Tryz.func131 fun _ _ t ht =>?_
 unfold xbB at ht
 split at ht
 ·rename_i gc a
  split at ht
  ·rename_i g hg
   obtain rfl:=xe hg
   cases ht
   refine(xE (P:= Tryz.prog) (n:=xa) (x:=(lsAt qQ .no [1,0])) (fn:= Tryz.f131) (H :=[]) (c:= Tryz.f131.body.getD .skip) (xi (by kernel_rfl)) xll).symm.trans ?_
   exact ey (xlj g a _)
  ·cases ht
 ·cases ht
def xib:Sm:=gS fun
 | g,[.agg cc]=>(match Cal.of cc with
   | some c=>some (mkS (Res) (YA g c) fun r=>some (.agg r.cells,[]))
   | _=>none)
 | _,_=>none
theorem xoz(hl:SoundL I kI5):SoundF I 129 xib:=by
 refine gsq hl 1 Tryz.func129 fun g l t ht =>?_
 split at ht
 ·rename_i cc
  split at ht
  ·rename_i c hc
   obtain rfl:=Cal.of_eq hc
   cases ht
   exact ey (xlk g c _)
  ·cases ht
 ·cases ht
noncomputable def ka17:List (Nat×Sm):=(132,xia)::(133,xox)::(131,xbB)::(129,xib)::kI5
theorem xrM:SoundL I ka17:=(.cons (xow xot) (.cons (xrL xot) (.cons (xoy xot) (.cons (xoz xot) xot))))
end Lx
namespace Lx
variable{β:Type}(g:Geo)
open Go
def doTK(c:Cal)(κ:Res->T β):T β:=
 bif g.pages==0 then(κ ⟨(0),(0),(0),(0),(0),(0),(0),(0),(1),(0),(0)⟩) else
 .op (.load (atF g 1 0)) fun x1=>
 bif c.op==1 then((Yw g c.size).bind fun r3=>
 (qK g c r3).bind fun r4=>
 κ r4) else
 bif c.op==2 then((Yt g c.n c.size).bind fun r4=>
 (qK g c r4).bind fun r5=>
 κ r5) else
 bif c.op==3 then((kU g c.align c.size).bind fun r5=>
 (qK g c r5).bind fun r6=>
 κ r6) else
 bif c.op==4 then((YA g c).bind fun r6=>
 κ r6) else
 bif c.op==5 then((Yu g c).bind fun r7=>
 κ r7) else
 bif c.op==6 then((Yz g c.at_).bind fun r8=>
 κ r8) else
 bif c.op==7 then((Yy g c.at_ c.off c.byte).bind fun r9=>
 κ r9) else
 bif c.op==8 then((xbA g c.at_ c.off).bind fun r10=>
 κ r10) else
 bif c.op==9 then((xbu g).bind fun r11=>
 (YX (Res.mk 0 0 0 0 0 0 0 0 0 0 0)).bind fun r12=>
 κ r12) else
 bif c.op==10 then((xh6 g).bind fun r12=>
 (YX (Res.mk 0 0 0 0 0 0 0 0 r12 0 0)).bind fun r13=>
 κ r13) else
 bif c.op==11 then((xeO g).bind fun r13=>
 (YX (Res.mk 0 0 0 r13.allocs r13.frees r13.failures r13.live r13.bytes 0 0 0)).bind fun r14=>
 κ r14) else
 (YX (Res.mk 0 0 0 0 0 0 0 0 1 0 0)).bind fun r13=>
 κ r13
def doT(c:Cal):T Res:=doTK g c .ret
theorem xwV(c:Cal)(κ:Res->T β):(doT g c).bind κ=doTK g c κ:=by
 unfold doT doTK
 simp only[bz]
def m_doT:Sm:=gS fun
 | g,[.agg cc]=>(match Cal.of cc with
   | some c=>some (mkS (Res) (doT g c) fun r=>some (.agg r.cells,[]))
   | _=>none)
 | _,_=>none
variable{σ:Type}{I:Port Tryz.prog σ}
theorem xto(hl:SoundL I ka17):SoundF I 57 m_doT:=by
 refine gsq hl 1 Tryz.func57 fun g l t ht =>?_
 split at ht
 ·rename_i cc
  split at ht
  ·rename_i c hc
   obtain rfl:=Cal.of_eq hc
   cases ht
   exact ey (xwV g c _)
  ·cases ht
 ·cases ht
noncomputable def ka18:List (Nat×Sm):=(57,m_doT)::ka17
theorem xrN:SoundL I ka18:=(.cons (xto xrM) xrM)
end Lx
end Go.Proofs.YtaegelbaghaooaaGreat
