/- Part. -/
import Derived.Test.YtaegelbaghaooaaGreatCbM11
import Derived.Test.YtaegelbaghaooaaGreatCbLxMrg
set_option linter.all false
open Go.IntKind (i64 u64 u32 u8)
set_option maxRecDepth 1000000
namespace Go.Proofs.YtaegelbaghaooaaGreat
namespace Lx
variable{β:Type}(g:Geo)
open Go
def WO(n0:Nat)(a1 a2 a3:Int)(l5:IntsL)(κ0:Int->T β)(κ1:Unit->T β)(i:Int)(k:Int->T β):T β:=
 bif decide (i<a3)then(bif decide ((0:Int)<=i/\i < ↑n0)then(bif inR (List.length l5) i then(bif a1==getI l5 (Int.toNat i)then(κ0 (i)) else
 k (i64.wrap (i+1))) else
 .fail) else
 .fail) else
 κ1 ()
def vz(n0:Nat)(a1 a2 a3:Int)(l5:IntsL)(a4:Int)(κ0:Int->T β)(κ1:Unit->T β):T β:=xr xa (WO n0 a1 a2 a3 l5 κ0 κ1) a4
theorem xcJ{β γ:Type}(n0:Nat)(a1 a2 a3:Int)(l5:IntsL)(a4:Int)(κ0:Int->T β)(κ1:Unit->T β)(κ:β->T γ):(vz n0 a1 a2 a3 l5 a4 κ0 κ1).bind κ=vz n0 a1 a2 a3 l5 a4 (fun ae0=>(κ0 ae0).bind κ) (fun u=>(κ1 u).bind κ):=by
 unfold vz
 refine xj κ (fun i k =>?_) _ _
 unfold WO
 simp only[bz]
def xce:Pat:=⟨xm 19 0 [(0,.c (.slr 0)),(1,.c (.int .i64)),(4,.c (.int .i64)),(7,.c (.int .i64)),(8,.c (.int .i64))],[some ⟨[],3,true,some (.col .i64)⟩]⟩
def Ks:Pat:=⟨xm 19 0 [(4,.c (.int .i64))],[some ⟨[],3,true,some (.col .i64)⟩]⟩
def qI:LF:=fun st K=>match xq xce st with
 | some [.n n0,.i a1,.i a2,.i a3,.i a4,.l l5]=>some (vz n0 a1 a2 a3 l5 a4 (fun ae0=>K (.ret) (xd Ks [.i ae0,.l l5])) (fun _=>K (.exit 0) (xd Ks [.i a2,.l l5])))
 | _=>none
theorem xnS : ∀st K t,qI st K=some t->xA xa (lf ka8 xa 1 .no [1,0,1,0] Tryz.f271 K) st=t:=by
 intro st K t h
 unfold qI at h
 split at h
 ·rename_i n0 a1 a2 a3 a4 l5 hm
  cases h
  rw[xk hm]
  unfold vz
  exact xu (S:=fun(i:Int)=>xd xce [.n n0,.i a1,.i a2,.i a3,.i i,.l l5]) (fun i k=>by kernel_rfl) xa a4
 ·cases h
def Kt(n:Nat)(L:IntsL)(x:Int)(κ:Int->T β):T β:=
 vz (n) (x) (0) (↑n) (L) (0) (fun y0_0=>
 κ y0_0) (fun y0_0=>
 κ ((-1)))
def Ku(n:Nat)(L:IntsL)(x:Int):T Int:=Kt n L x .ret
theorem xkQ(n:Nat)(L:IntsL)(x:Int)(κ:Int->T β):(Ku n L x).bind κ=Kt n L x κ:=by
 unfold Ku Kt
 simp only[bz,xcJ]
def xbg:Sm:=fun
 | [.c (.slr 0 n),.c (.int .i64 x)],[some ⟨[], 3,true,some (.col .i64 L)⟩]=>some (mkS (Int) (Ku n L x) fun r=>some (.c (.int .i64 r),[some ⟨[], 3,true,some (.col .i64 L)⟩]))
 | _,_=>none
theorem xkR:Good Tryz.prog (xo ka8) xa 1 (lsAt qI .no [1,0,1,0]) (Tryz.f271.body.getD .skip) (xt Tryz.f271.results.toList):=(xz (xi (by kernel_rfl)) xy xnS)
variable{σ:Type}{I:Port Tryz.prog σ}
theorem xnT(hl:SoundL I ka8):SoundF I 271 xbg:=by
 refine sq hl xa Tryz.func271 fun _ _ t ht =>?_
 unfold xbg at ht
 split at ht
 ·rename_i n x L
  cases ht
  refine(xE (P:= Tryz.prog) (n:=xa) (x:=(lsAt qI .no [1,0,1,0])) (fn:= Tryz.f271) (H :=[some ⟨[], 3,true,some (.col .i64 L)⟩]) (c:= Tryz.f271.body.getD .skip) (xi (by kernel_rfl)) xkR).symm.trans ?_
  exact ey (xkQ n L x _)
 ·cases ht
def ka8b:List (Nat×Sm):=(271,xbg)::ka8
theorem xwT:SoundL I ka8b:=(.cons (xnT s_ka8) s_ka8)
end Lx
namespace Lx
variable{β:Type}(g:Geo)
open Go
def xdo(n:Nat)(L:IntsL)(x:Int)(κ:Bool->T β):T β:=
 (Ku n L x).bind fun r0=>
 κ (decide (r0>=0))
def xbh(n:Nat)(L:IntsL)(x:Int):T Bool:=xdo n L x .ret
theorem xnU(n:Nat)(L:IntsL)(x:Int)(κ:Bool->T β):(xbh n L x).bind κ=xdo n L x κ:=by
 unfold xbh xdo
 simp only[bz]
def xe9:Sm:=fun
 | [.c (.slr 0 n),.c (.int .i64 x)],[some ⟨[], 3,true,some (.col .i64 L)⟩]=>some (mkS (Bool) (xbh n L x) fun r=>some (.c (.bool r),[some ⟨[], 3,true,some (.col .i64 L)⟩]))
 | _,_=>none
variable{σ:Type}{I:Port Tryz.prog σ}
theorem xrg(hl:SoundL I ka8b):SoundF I 251 xe9:=by
 refine sq hl 1 Tryz.func251 fun _ _ t ht =>?_
 unfold xe9 at ht
 split at ht
 ·rename_i n x L
  cases ht
  exact ey (xnU n L x _)
 ·cases ht
def ka8c:List (Nat×Sm):=(251,xe9)::ka8b
theorem xrh:SoundL I ka8c:=(.cons (xrg xwT) xwT)
end Lx
namespace Lx
variable{β:Type}(g:Geo)
open Go
def xbi(a1 a2 a3:Int)(g5:Geo)(κ0:Nat->IntsL->T β)(i:Nat×Int×IntsL)(k:Nat×Int×IntsL->T β):T β:=
 bif decide (i.2.1<2)then(.op (.load (atF g5 14 (inF a1 i.2.1 2))) fun x1=>
 bif Nat.beq (List.length i.2.2) i.1&&Nat.ble i.1 1000 then(k (i.1+1,i64.wrap (i.2.1+1),i.2.2 ++ [i64.wrap x1])) else
 .fail) else
 κ0 (i.1) (i.2.2)
def vD(a1 a2 a3:Int)(g5:Geo)(n0:Nat)(a4:Int)(l6:IntsL)(κ0:Nat->IntsL->T β):T β:=xr xa (xbi a1 a2 a3 g5 κ0) (n0,a4,l6)
theorem xfa{β γ:Type}(a1 a2 a3:Int)(g5:Geo)(n0:Nat)(a4:Int)(l6:IntsL)(κ0:Nat->IntsL->T β)(κ:β->T γ):(vD a1 a2 a3 g5 n0 a4 l6 κ0).bind κ=vD a1 a2 a3 g5 n0 a4 l6 (fun ne0 le4=>(κ0 ne0 le4).bind κ):=by
 unfold vD
 refine xj κ (fun i k =>?_) _ _
 unfold xbi
 simp only[bz]
def xfb:Pat:=⟨xm 108 0 [(0,.c (.raw (.port))),(3,.c (.raw (.ptr 0 0))),(4,.c (.slr 1)),(5,.c (.int .i64)),(23,.c (.int .i64)),(24,.c (.int .i64)),(27,.c (.int .i64))],[some ⟨[.geo],24,false,none⟩,some ⟨[],3,true,some (.col .i64)⟩]⟩
def ZM:Pat:=⟨xm 108 0 [(0,.c (.raw (.port))),(3,.c (.raw (.ptr 0 0))),(4,.c (.slr 1)),(23,.c (.int .i64)),(24,.c (.int .i64))],[some ⟨[.geo],24,false,none⟩,some ⟨[],3,true,some (.col .i64)⟩]⟩
def jU:LF:=fun st K=>match xq xfb st with
 | some [.n n0,.i a1,.i a2,.i a3,.i a4,.g g5,.l l6]=>some (vD a1 a2 a3 g5 n0 a4 l6 (fun ne0 le4=>K (.exit 2) (xd ZM [.n ne0,.i a2,.i a3,.g g5,.l le4])))
 | _=>none
theorem xri : ∀st K t,jU st K=some t->xA xa (lf ka8c (⟨xa,[⟨4, 3,.col .i64⟩],true⟩:Fu) 0 .no [1,1,1,0,1,0,0,1,1,0,0,1,1,0] Tryz.f273 K) st=t:=by
 intro st K t h
 unfold jU at h
 split at h
 ·rename_i n0 a1 a2 a3 a4 g5 l6 hm
  cases h
  rw[xk hm]
  unfold vD
  exact xu (S:=fun(i:Nat×Int×IntsL)=>xd xfb [.n (i.1),.i a1,.i a2,.i a3,.i (i.2.1),.g g5,.l (i.2.2)]) (fun i k=>by kernel_rfl) xa (n0,a4,l6)
 ·cases h
def xbj(a1:Int)(g3:Geo)(κ0:Nat->IntsL->T β)(i:Nat×Int×IntsL)(k:Nat×Int×IntsL->T β):T β:=
 bif decide (i.2.1<a1)then(vD (i.2.1) a1 (i.2.1) g3 (i.1) (0) (i.2.2) (fun y1_0 y1_1=>
 k (y1_0,i64.wrap (i.2.1+1),y1_1))) else
 κ0 (i.1) (i.2.2)
def vE(a1:Int)(g3:Geo)(n0:Nat)(a2:Int)(l4:IntsL)(κ0:Nat->IntsL->T β):T β:=xr xa (xbj a1 g3 κ0) (n0,a2,l4)
theorem xfc{β γ:Type}(a1:Int)(g3:Geo)(n0:Nat)(a2:Int)(l4:IntsL)(κ0:Nat->IntsL->T β)(κ:β->T γ):(vE a1 g3 n0 a2 l4 κ0).bind κ=vE a1 g3 n0 a2 l4 (fun ne0 le2=>(κ0 ne0 le2).bind κ):=by
 unfold vE
 refine xj κ (fun i k =>?_) _ _
 unfold xbj
 simp only[bz,xfa]
def xnV:Pat:=⟨xm 108 0 [(0,.c (.raw (.port))),(3,.c (.raw (.ptr 0 0))),(4,.c (.slr 1))],[some ⟨[.geo],24,false,none⟩,some ⟨[],3,true,some (.col .i64)⟩]⟩
def Yj:LF:=fun st K=>match xq ZM st with
 | some [.n n0,.i a1,.i a2,.g g3,.l l4]=>some (vE a1 g3 n0 a2 l4 (fun ne0 le2=>K (.exit 0) (xd xnV [.n ne0,.g g3,.l le2])))
 | _=>none
theorem xrj : ∀st K t,Yj st K=some t->xA xa (lf ka8c (⟨xa,[⟨4, 3,.col .i64⟩],true⟩:Fu) 0 (lsAt jU .no [1,1,0,0,1,1,0]) [1,1,1,0,1,0] Tryz.f273 K) st=t:=by
 intro st K t h
 unfold Yj at h
 split at h
 ·rename_i n0 a1 a2 g3 l4 hm
  cases h
  rw[xk hm]
  unfold vE
  exact xu (S:=fun(i:Nat×Int×IntsL)=>xd ZM [.n (i.1),.i a1,.i (i.2.1),.g g3,.l (i.2.2)]) (fun i k=>by kernel_rfl) xa (n0,a2,l4)
 ·cases h
def xbk(n0:Nat)(a2:Int)(g4:Geo)(l5:IntsL)(κ0:Int->T β)(i:Int×Int)(k:Int×Int->T β):T β:=
 bif decide (i.2<a2)then(.op (.self) fun x1=>
 bif atF g4 16 (inF x1 i.2 (ju g4))==(-1)then(κ0 (i.1)) else
 .op (.self) fun x3=>
 .op (.load (atF g4 16 (inF x3 i.2 (ju g4)))) fun x4=>
 (xbh n0 l5 (i64.wrap x4)).bind fun r5=>
 bif r5 then(.op (.self) fun x7=>
 .op (.store (atF g4 16 (inF x7 i.1 (ju g4))) (u64.wrap (i64.wrap x4))) fun _=>
 k (i64.wrap (i.1+1),i64.wrap (i.2+1))) else
 (xhP g4 (i64.wrap x4)).bind fun r7=>
 k (i.1,i64.wrap (i.2+1))) else
 κ0 (i.1)
def wn(n0:Nat)(a2:Int)(g4:Geo)(l5:IntsL)(a1 a3:Int)(κ0:Int->T β):T β:=xr xa (xbk n0 a2 g4 l5 κ0) (a1,a3)
theorem xfd{β γ:Type}(n0:Nat)(a2:Int)(g4:Geo)(l5:IntsL)(a1 a3:Int)(κ0:Int->T β)(κ:β->T γ):(wn n0 a2 g4 l5 a1 a3 κ0).bind κ=wn n0 a2 g4 l5 a1 a3 (fun ae0=>(κ0 ae0).bind κ):=by
 unfold wn
 refine xj κ (fun i k =>?_) _ _
 unfold xbk
 simp only[bz]
def xfe:Pat:=⟨xm 108 0 [(0,.c (.raw (.port))),(3,.c (.raw (.ptr 0 0))),(4,.c (.slr 1)),(7,.c (.int .i64)),(54,.c (.int .i64)),(55,.c (.int .i64))],[some ⟨[.geo],24,false,none⟩,some ⟨[],3,true,some (.col .i64)⟩]⟩
def xnW:Pat:=⟨xm 108 0 [(0,.c (.raw (.port))),(3,.c (.raw (.ptr 0 0))),(7,.c (.int .i64))],[some ⟨[.geo],24,false,none⟩]⟩
def Yk:LF:=fun st K=>match xq xfe st with
 | some [.n n0,.i a1,.i a2,.i a3,.g g4,.l l5]=>some (wn n0 a2 g4 l5 a1 a3 (fun ae0=>K (.exit 4) (xd xnW [.i ae0,.g g4])))
 | _=>none
theorem xrk : ∀st K t,Yk st K=some t->xA xa (lf ka8c (⟨xa,[⟨4, 3,.col .i64⟩],true⟩:Fu) 0 .no [1,1,1,1,1,0,1,0] Tryz.f273 K) st=t:=by
 intro st K t h
 unfold Yk at h
 split at h
 ·rename_i n0 a1 a2 a3 g4 l5 hm
  cases h
  rw[xk hm]
  unfold wn
  exact xu (S:=fun(i:Int×Int)=>xd xfe [.n n0,.i (i.1),.i a2,.i (i.2),.g g4,.l l5]) (fun i k=>by kernel_rfl) xa (a1,a3)
 ·cases h
def xdp(κ:Unit->T β):T β:=
 .op (.self) fun x0=>
 (wW g (atF g 15 x0)).bind fun r1=>
 bif r1 then(κ ()) else
 vE (g.threads) (g) (0) (0) ([]) (fun y3_0 y3_1=>
 .op (.self) fun x4=>
 .op (.load (atF g 15 x4)) fun x5=>
 wn y3_0 (i64.wrap x5) (g) y3_1 (0) (0) (fun y6_0=>
 .op (.self) fun x7=>
 .op (.store (atF g 15 x7) (u64.wrap y6_0)) fun _=>
 κ ()))
def xbl:T Unit:=xdp g .ret
theorem xnX(κ:Unit->T β):(xbl g).bind κ=xdp g κ:=by
 unfold xbl xdp
 simp only[bz,xfc,xfd]
def Kv:Sm:=fun
 | [.c .port,.agg gc],[]=>(match xv gc with
   | some g=>some (mkS (Unit) (xbl g) fun r=>some (.tup [],[]))
   | _=>none)
 | _,_=>none
theorem xnY:Good Tryz.prog (xo ka8c) (⟨xa,[⟨4, 3,.col .i64⟩],true⟩:Fu) 0 (mrg (lsAt Yj (lsAt jU .no [1,1,0,0,1,1,0]) [1,1,1,0,1,0]) (lsAt Yk .no [1,1,1,1,1,0,1,0])) (Tryz.f273.body.getD .skip) (xt Tryz.f273.results.toList):=(yE (xz (xi (by kernel_rfl)) (qV (p :=[1,1,1,0,1,0]) (q :=[1,1,0,0,1,1,0]) (xi (fn:= Tryz.f273) (by kernel_rfl)) xy xri (by kernel_rfl)) xrj) (xz (xi (by kernel_rfl)) xy xrk))
variable{σ:Type}{I:Port Tryz.prog σ}
theorem xff(hl:SoundL I ka8c):SoundF I 273 Kv:=by
 refine Xh hl (⟨xa,[⟨4, 3,.col .i64⟩],true⟩:Fu) Tryz.func273 (by kernel_rfl) (by kernel_rfl) fun _ _ t ht =>?_
 unfold Kv at ht
 split at ht
 ·rename_i gc
  split at ht
  ·rename_i g hg
   obtain rfl:=xe hg
   cases ht
   refine(xE (P:= Tryz.prog) (n:=(⟨xa,[⟨4, 3,.col .i64⟩],true⟩:Fu)) (x:=(mrg (lsAt Yj (lsAt jU .no [1,1,0,0,1,1,0]) [1,1,1,0,1,0]) (lsAt Yk .no [1,1,1,1,1,0,1,0]))) (fn:= Tryz.f273) (H :=[]) (c:= Tryz.f273.body.getD .skip) (xi (by kernel_rfl)) xnY).symm.trans ?_
   exact ey (xnX g _)
  ·cases ht
 ·cases ht
def ka8d:List (Nat×Sm):=(273,Kv)::ka8c
theorem s_ka8d:SoundL I ka8d:=(.cons (xff xrh) xrh)
end Lx
namespace Lx
variable{β:Type}(g:Geo)
open Go
def Yl(n:Int)(κ:Unit->T β):T β:=
 .op (.self) fun x0=>
 (XV g (atF g 15 x0) (atF g 17 (inF (i64.wrap (n-1)) 0 1))).bind fun r1=>
 bif r1 then(κ ()) else
 .op (.self) fun x3=>
 .op (.load (atF g 15 x3)) fun x4=>
 .op (.self) fun x5=>
 bif atF g 16 (inF x5 (i64.wrap x4) (ju g))==(-1)then(κ ()) else
 .op (.self) fun x7=>
 .op (.store (atF g 16 (inF x7 (i64.wrap x4) (ju g))) (u64.wrap n)) fun _=>
 .op (.self) fun x9=>
 .op (.store (atF g 15 x9) (u64.wrap (i64.wrap (i64.wrap x4+1)))) fun _=>
 bif decide (i64.wrap (i64.wrap x4+1)>i64.wrap (2*g.threads))then((xbl g).bind fun r12=>
 κ ()) else
 κ ()
def jV(n:Int):T Unit:=Yl g n .ret
theorem xg5(n:Int)(κ:Unit->T β):(jV g n).bind κ=Yl g n κ:=by
 unfold jV Yl
 simp only[bz]
def xfg:Sm:=gS fun
 | g,[.c (.int .i64 n)]=>some (mkS (Unit) (jV g n) fun r=>some (.tup [],[]))
 | _,_=>none
variable{σ:Type}{I:Port Tryz.prog σ}
theorem xkS(hl:SoundL I ka8d):SoundF I 255 xfg:=by
 refine gsq hl 1 Tryz.func255 fun g l t ht =>?_
 split at ht
 ·rename_i n
  cases ht
  exact ey (xg5 g n _)
 ·cases ht
def ka8e:List (Nat×Sm):=(255,xfg)::(273,Kv)::ka8
theorem xbm:SoundL I ka8e:=(.cons (xkS s_ka8d) (.cons (xff xrh) s_ka8))
end Lx
namespace Lx
variable{β:Type}(g:Geo)
open Go
def xdq(c it fi:Int)(κ:Bool->T β):T β:=
 (acqT g).bind fun r0=>
 bif r0==0 then(κ (false)) else
 .op (.store (atF g 18 (inF (i64.wrap (r0-1)) 0 8)) (it)) fun _=>
 .op (.store (atF g 18 (inF (i64.wrap (r0-1)) 1 8)) (0)) fun _=>
 .op (.store (atF g 18 (inF (i64.wrap (r0-1)) 2 8)) (0)) fun _=>
 .op (.store (atF g 18 (inF (i64.wrap (r0-1)) 3 8)) (0)) fun _=>
 .op (.store (atF g 18 (inF (i64.wrap (r0-1)) 4 8)) (0)) fun _=>
 .op (.store (atF g 18 (inF (i64.wrap (r0-1)) 5 8)) (0)) fun _=>
 .op (.store (atF g 18 (inF (i64.wrap (r0-1)) 6 8)) (0)) fun _=>
 .op (.store (atF g 18 (inF (i64.wrap (r0-1)) 7 8)) (0)) fun _=>
 .op (.store (atF g 17 (inF (i64.wrap (r0-1)) 0 1)) (Ref.word (Ref.mk fi false 0))) fun _=>
 .op (.self) fun x11=>
 .op (.store (atF g 13 (inF x11 c 4)) (Ref.word (Ref.mk r0 false 0))) fun _=>
 κ (true)
def xbn(c it fi:Int):T Bool:=xdq g c it fi .ret
theorem xnZ(c it fi:Int)(κ:Bool->T β):(xbn g c it fi).bind κ=xdq g c it fi κ:=by
 unfold xbn xdq
 simp only[bz]
def xfh(a0 a1 a2:Int)(b3:Bool)(g5:Geo)(κ0:Int->T β)(κ1:Unit->T β)(κ2:Unit->T β)(i:Int×Int×Bool×Int)(k:Int×Int×Bool×Int->T β):T β:=
 bif i.2.1 != 0 then((kF g5 i.2.1).bind fun r1=>
 bif r1.2 then(κ0 (r1.1)) else
 (xb6 g5 (i64.wrap (1-i.1)) (atF g5 17 (inF (i64.wrap (i.2.1-1)) 0 1))).bind fun r3=>
 bif r3.mark then(κ1 ()) else
 k (i64.wrap (1-i.1),r3.1,r3.mark,r3.ver)) else
 κ2 ()
def kO(a0 a1 a2:Int)(b3:Bool)(g5:Geo)(a4 a6:Int)(b7:Bool)(a8:Int)(κ0:Int->T β)(κ1:Unit->T β)(κ2:Unit->T β):T β:=xr xa (xfh a0 a1 a2 b3 g5 κ0 κ1 κ2) (a4,a6,b7,a8)
theorem xg6{β γ:Type}(a0 a1 a2:Int)(b3:Bool)(g5:Geo)(a4 a6:Int)(b7:Bool)(a8:Int)(κ0:Int->T β)(κ1:Unit->T β)(κ2:Unit->T β)(κ:β->T γ):(kO a0 a1 a2 b3 g5 a4 a6 b7 a8 κ0 κ1 κ2).bind κ=kO a0 a1 a2 b3 g5 a4 a6 b7 a8 (fun ae2=>(κ0 ae2).bind κ) (fun u=>(κ1 u).bind κ) (fun u=>(κ2 u).bind κ):=by
 unfold kO
 refine xj κ (fun i k =>?_) _ _
 unfold xfh
 simp only[bz]
def xhV:Pat:=⟨xm 47 0 [(0,.c (.raw (.port))),(2,.c (.int .i64)),(3,.c (.int .i64)),(5,.c (.raw (.ptr 0 0))),(8,.c (.int .u64)),(9,.c (.bool)),(10,.c (.int .i64)),(11,.c (.raw (.ptr 1 0)))],[some ⟨[.geo],24,false,none⟩,some ⟨[.int .i64,.bool,.int .u32],162,false,none⟩]⟩
def kP:Pat:=⟨xm 47 0 [(0,.c (.raw (.port))),(2,.c (.int .i64)),(3,.c (.int .i64)),(5,.c (.raw (.ptr 0 0))),(8,.c (.int .u64)),(9,.c (.bool))],[some ⟨[.geo],24,false,none⟩]⟩
def ZN:LF:=fun st K=>match xq xhV st with
 | some [.i a0,.i a1,.i a2,.b b3,.i a4,.g g5,.i a6,.b b7,.i a8]=>some (kO a0 a1 a2 b3 g5 a4 a6 b7 a8 (fun ae2=>K (.ret) (xd kP [.i a0,.i a1,.i ae2,.b true,.g g5])) (fun _=>K (.exit 1) (xd kP [.i a0,.i a1,.i a2,.b b3,.g g5])) (fun _=>K (.exit 2) (xd kP [.i a0,.i a1,.i a2,.b b3,.g g5])))
 | _=>none
theorem xuN : ∀st K t,ZN st K=some t->xA xa (lf ka8e xa 0 .no [1,0,1,0,0,0,1,1,0,0] Tryz.f275 K) st=t:=by
 intro st K t h
 unfold ZN at h
 split at h
 ·rename_i a0 a1 a2 b3 a4 g5 a6 b7 a8 hm
  cases h
  rw[xk hm]
  unfold kO
  exact xu (S:=fun(i:Int×Int×Bool×Int)=>xd xhV [.i a0,.i a1,.i a2,.b b3,.i (i.1),.g g5,.i (i.2.1),.b (i.2.2.1),.i (i.2.2.2)]) (fun i k=>by kernel_rfl) xa (a4,a6,b7,a8)
 ·cases h
def xfi(a0 a1 a2:Int)(b3:Bool)(g4:Geo)(κ0:Int->T β)(κ1:Unit->T β)(i:Unit)(k:Unit->T β):T β:=
 (xb6 g4 0 (atF g4 13 (inF a1 a0 4))).bind fun r0=>
 kO a0 a1 a2 b3 g4 (0) (r0.1) (r0.mark) (r0.ver) (fun y1_0=>
 κ0 y1_0) (fun y1_0=>
 k ()) (fun y1_0=>
 κ1 ())
def kQ(a0 a1 a2:Int)(b3:Bool)(g4:Geo)  (κ0:Int->T β) (κ1:Unit->T β):T β:=xr xa (xfi a0 a1 a2 b3 g4 κ0 κ1) ()
theorem xg7{β γ:Type}(a0 a1 a2:Int)(b3:Bool)(g4:Geo)  (κ0:Int->T β) (κ1:Unit->T β) (κ:β->T γ):(kQ a0 a1 a2 b3 g4  κ0 κ1).bind κ=kQ a0 a1 a2 b3 g4  (fun ae0=>(κ0 ae0).bind κ) (fun u=>(κ1 u).bind κ):=by
 unfold kQ
 refine xj κ (fun i k =>?_) _ _
 unfold xfi
 simp only[bz,xg6]
def xfj:Pat:=⟨xm 47 0 [(8,.c (.int .u64)),(9,.c (.bool))],[]⟩
def Kw:LF:=fun st K=>match xq kP st with
 | some [.i a0,.i a1,.i a2,.b b3,.g g4]=>some (kQ a0 a1 a2 b3 g4  (fun ae0=>K (.ret) (xd xfj [.i ae0,.b true])) (fun _=>K (.ret) (xd xfj [.i 0,.b false])))
 | _=>none
theorem xuO : ∀st K t,Kw st K=some t->xA xa (lf ka8e xa 0 (lsAt ZN .no [0,1,1,0,0]) [1,0,1,0] Tryz.f275 K) st=t:=by
 intro st K t h
 unfold Kw at h
 split at h
 ·rename_i a0 a1 a2 b3 g4 hm
  cases h
  rw[xk hm]
  unfold kQ
  exact xu (S:=fun(i:Unit)=>xd kP [.i a0,.i a1,.i a2,.b b3,.g g4]) (fun i k=>by kernel_rfl) xa ()
 ·cases h
def xkT(c t:Int)(κ:(Int×Bool)->T β):T β:=
 kQ (c) (t) (0) (false) (g) (fun y0_0=>
 κ (y0_0,(true))) (fun y0_0=>
 κ ((0),(false)))
def xhW(c t:Int):T (Int×Bool):=xkT g c t .ret
theorem xrl(c t:Int)(κ:(Int×Bool)->T β):(xhW g c t).bind κ=xkT g c t κ:=by
 unfold xhW xkT
 simp only[bz,xg7]
def Kx(κ:Unit->T β):T β:=
 (WG g 0).bind fun r0=>
 (WG g 1).bind fun r1=>
 κ ()
def qJ:T Unit:=Kx g .ret
theorem xkU(κ:Unit->T β):(qJ g).bind κ=Kx g κ:=by
 unfold qJ Kx
 simp only[bz]
def xbo(g2:Geo)(κ0:Unit->T β)(i:Int×Int)(k:Int×Int->T β):T β:=
 bif i.2 != 0 then((xhC g2 i.2).bind fun r1=>
 bif !r1 then(.op (.load (atF g2 17 (inF (i64.wrap (i.2-1)) 0 1))) fun x3=>
 k (atF g2 17 (inF (i64.wrap (i.2-1)) 0 1),ofW i64 x3 0 24)) else
 .op (.load (atF g2 17 (inF (i64.wrap (i.2-1)) 0 1))) fun x3=>
 .op (.store (i.1) (Ref.word (Ref.mk (ofW i64 x3 0 24) false 0))) fun _=>
 .op (.store (atF g2 17 (inF (i64.wrap (i.2-1)) 0 1)) (Ref.word (Ref.mk (ofW i64 x3 0 24) true 0))) fun _=>
 (jV g2 i.2).bind fun r6=>
 .op (.load (i.1)) fun x7=>
 k (i.1,ofW i64 x7 0 24)) else
 κ0 ()
def wo(g2:Geo)(a0 a1:Int)(κ0:Unit->T β):T β:=xr xa (xbo g2 κ0) (a0,a1)
theorem xfk{β γ:Type}(g2:Geo)(a0 a1:Int)(κ0:Unit->T β)(κ:β->T γ):(wo g2 a0 a1 κ0).bind κ=wo g2 a0 a1 (fun u=>(κ0 u).bind κ):=by
 unfold wo
 refine xj κ (fun i k =>?_) _ _
 unfold xbo
 simp only[bz]
def xfl:Pat:=⟨xm 72 0 [(0,.c (.raw (.port))),(4,.c (.raw (.ptr 0 0))),(6,.c (.int .i64)),(7,.c (.int .i64))],[some ⟨[.geo],24,false,none⟩]⟩
def xn0:Pat:=⟨xm 72 0 [],[]⟩
def Ym:LF:=fun st K=>match xq xfl st with
 | some [.i a0,.i a1,.g g2]=>some (wo g2 a0 a1 (fun _=>K (.exit 0) (xd xn0 [])))
 | _=>none
theorem xrm : ∀st K t,Ym st K=some t->xA xa (lf ka8e xa 0 .no [1,1,1,1,0] Tryz.f215 K) st=t:=by
 intro st K t h
 unfold Ym at h
 split at h
 ·rename_i a0 a1 g2 hm
  cases h
  rw[xk hm]
  unfold wo
  exact xu (S:=fun(i:Int×Int)=>xd xfl [.i (i.1),.i (i.2),.g g2]) (fun i k=>by kernel_rfl) xa (a0,a1)
 ·cases h
def xdr(c:Int)(κ:Unit->T β):T β:=
 (ZA g c).bind fun r0=>
 bif r0 then(κ ()) else
 .op (.self) fun x2=>
 .op (.load (atF g 13 (inF x2 c 4))) fun x3=>
 wo (g) (atF g 13 (inF x2 c 4)) (ofW i64 x3 0 24) (fun y4_0=>
 κ ())
def ZO(c:Int):T Unit:=xdr g c .ret
theorem xn1(c:Int)(κ:Unit->T β):(ZO g c).bind κ=xdr g c κ:=by
 unfold ZO xdr
 simp only[bz,xfk]
def xds(c:Cal)(r0:Res)(κ:Res->T β):T β:=
 bif r0.e==0 then((xaX c).bind fun r1=>
 (Yd g r1).bind fun r2=>
 κ r0) else
 (qz r0).bind fun r1=>
 bif r1 then((kM g).bind fun r3=>
 κ r0) else
 κ r0
def qK(c:Cal)(r0:Res):T Res:=xds g c r0 .ret
theorem xn2(c:Cal)(r0:Res)(κ:Res->T β):(qK g c r0).bind κ=xds g c r0 κ:=by
 unfold qK xds
 simp only[bz]
def xn3:Sm:=gS fun
 | g,[.c (.int .i64 c),.c (.int .u64 it),.c (.int .i64 fi)]=>some (mkS (Bool) (xbn g c it fi) fun r=>some (.c (.bool r),[]))
 | _,_=>none
variable{σ:Type}{I:Port Tryz.prog σ}
theorem xrn(hl:SoundL I ka8e):SoundF I 238 xn3:=by
 refine gsq hl 10 Tryz.func238 fun g l t ht =>?_
 split at ht
 ·rename_i c it fi
  cases ht
  exact ey (xnZ g c it fi _)
 ·cases ht
def xkV:Sm:=fun
 | [.c .port,.agg gc,.c (.int .i64 c),.c (.int .i64 t)],[]=>(match xv gc with
   | some g=>some (mkS ((Int×Bool)) (xhW g c t) fun r=>some (.tup [.c (.int .u64 r.1),.c (.bool r.2)],[]))
   | _=>none)
 | _,_=>none
theorem xro:Good Tryz.prog (xo ka8e) xa 0 (lsAt Kw (lsAt ZN .no [0,1,1,0,0]) [1,0,1,0]) (Tryz.f275.body.getD .skip) (xt Tryz.f275.results.toList):=(xz (xi (by kernel_rfl)) (qV (p :=[1,0,1,0]) (q :=[0,1,1,0,0]) (xi (fn:= Tryz.f275) (by kernel_rfl)) xy xuN (by kernel_rfl)) xuO)
theorem xuP(hl:SoundL I ka8e):SoundF I 275 xkV:=by
 refine sq hl xa Tryz.func275 fun _ _ t ht =>?_
 unfold xkV at ht
 split at ht
 ·rename_i gc c t
  split at ht
  ·rename_i g hg
   obtain rfl:=xe hg
   cases ht
   refine(xE (P:= Tryz.prog) (n:=xa) (x:=(lsAt Kw (lsAt ZN .no [0,1,1,0,0]) [1,0,1,0])) (fn:= Tryz.f275) (H :=[]) (c:= Tryz.f275.body.getD .skip) (xi (by kernel_rfl)) xro).symm.trans ?_
   exact ey (xrl g c t _)
  ·cases ht
 ·cases ht
def xhX:Sm:=gS fun
 | g,[]=>some (mkS (Unit) (qJ g) fun r=>some (.tup [],[]))
 | _,_=>none
theorem xn4(hl:SoundL I ka8e):SoundF I 276 xhX:=by
 refine gsq hl 1 Tryz.func276 fun g l t ht =>?_
 split at ht
 ·cases ht
  exact ey (xkU g _)
 ·cases ht
def xfm:Sm:=fun
 | [.c .port,.agg gc,.c (.int .i64 c)],[]=>(match xv gc with
   | some g=>some (mkS (Unit) (ZO g c) fun r=>some (.tup [],[]))
   | _=>none)
 | _,_=>none
theorem xn5:Good Tryz.prog (xo ka8e) xa 0 (lsAt Ym .no [1,1,1,1,0]) (Tryz.f215.body.getD .skip) (xt Tryz.f215.results.toList):=(xz (xi (by kernel_rfl)) xy xrm)
theorem xrp(hl:SoundL I ka8e):SoundF I 215 xfm:=by
 refine sq hl xa Tryz.func215 fun _ _ t ht =>?_
 unfold xfm at ht
 split at ht
 ·rename_i gc c
  split at ht
  ·rename_i g hg
   obtain rfl:=xe hg
   cases ht
   refine(xE (P:= Tryz.prog) (n:=xa) (x:=(lsAt Ym .no [1,1,1,1,0])) (fn:= Tryz.f215) (H :=[]) (c:= Tryz.f215.body.getD .skip) (xi (by kernel_rfl)) xn5).symm.trans ?_
   exact ey (xn1 g c _)
  ·cases ht
 ·cases ht
def xn6:Sm:=gS fun
 | g,[.agg cc,.agg r0c]=>(match Cal.of cc with
   | some c=>(match Res.of r0c with
   | some r0=>some (mkS (Res) (qK g c r0) fun r=>some (.agg r.cells,[]))
   | _=>none)
   | _=>none)
 | _,_=>none
theorem xrq(hl:SoundL I ka8e):SoundF I 128 xn6:=by
 refine gsq hl 1 Tryz.func128 fun g l t ht =>?_
 split at ht
 ·rename_i cc r0c
  split at ht
  ·rename_i c hc
   obtain rfl:=Cal.of_eq hc
   split at ht
   ·rename_i r0 hr0
    obtain rfl:=Res.of_eq hr0
    cases ht
    exact ey (xn2 g c r0 _)
   ·cases ht
  ·cases ht
 ·cases ht
def ka9:List (Nat×Sm):=(238,xn3)::(275,xkV)::(276,xhX)::(215,xfm)::(128,xn6)::ka8e
theorem s_ka9:SoundL I ka9:=(.cons (xrn xbm) (.cons (xuP xbm) (.cons (xn4 xbm) (.cons (xrp xbm) (.cons (xrq xbm) xbm)))))
end Lx
namespace Lx
variable{β:Type}(g:Geo)
open Go
def xfn(a0 a1:Int)(b2:Bool)(a3:Int)(g5:Geo)(κ0:Unit->T β)(κ1:Unit->T β)(i:Int)(k:Int->T β):T β:=
 bif i != 0 then((Wm g5 i a1).bind fun r1=>
 bif r1 then(κ0 ()) else
 .op (.load (atF g5 17 (inF (i64.wrap (i-1)) 0 1))) fun x3=>
 k (ofW i64 x3 0 24)) else
 κ1 ()
def kR(a0 a1:Int)(b2:Bool)(a3:Int)(g5:Geo)(a4:Int)(κ0:Unit->T β)(κ1:Unit->T β):T β:=xr xa (xfn a0 a1 b2 a3 g5 κ0 κ1) a4
theorem xg8{β γ:Type}(a0 a1:Int)(b2:Bool)(a3:Int)(g5:Geo)(a4:Int)(κ0:Unit->T β)(κ1:Unit->T β)(κ:β->T γ):(kR a0 a1 b2 a3 g5 a4 κ0 κ1).bind κ=kR a0 a1 b2 a3 g5 a4 (fun u=>(κ0 u).bind κ) (fun u=>(κ1 u).bind κ):=by
 unfold kR
 refine xj κ (fun i k =>?_) _ _
 unfold xfn
 simp only[bz]
def xhY:Pat:=⟨xm 47 0 [(0,.c (.raw (.port))),(2,.c (.int .i64)),(3,.c (.int .u64)),(5,.c (.raw (.ptr 0 0))),(8,.c (.bool)),(9,.c (.int .i64)),(10,.c (.int .i64))],[some ⟨[.geo],24,false,none⟩]⟩
def xfo:Pat:=⟨xm 47 0 [(0,.c (.raw (.port))),(2,.c (.int .i64)),(3,.c (.int .u64)),(5,.c (.raw (.ptr 0 0))),(8,.c (.bool)),(9,.c (.int .i64))],[some ⟨[.geo],24,false,none⟩]⟩
def Ky:LF:=fun st K=>match xq xhY st with
 | some [.i a0,.i a1,.b b2,.i a3,.i a4,.g g5]=>some (kR a0 a1 b2 a3 g5 a4 (fun _=>K (.ret) (xd xfo [.i a0,.i a1,.b true,.i a3,.g g5])) (fun _=>K (.exit 0) (xd xfo [.i a0,.i a1,.b b2,.i a3,.g g5])))
 | _=>none
theorem xuQ : ∀st K t,Ky st K=some t->xA xa (lf ka9 xa 0 .no [1,1,0,1,0] Tryz.f174 K) st=t:=by
 intro st K t h
 unfold Ky at h
 split at h
 ·rename_i a0 a1 b2 a3 a4 g5 hm
  cases h
  rw[xk hm]
  unfold kR
  exact xu (S:=fun(i:Int)=>xd xhY [.i a0,.i a1,.b b2,.i a3,.i i,.g g5]) (fun i k=>by kernel_rfl) xa a4
 ·cases h
def xkW(c it:Int)(κ:Bool->T β):T β:=
 .op (.self) fun x0=>
 .op (.load (atF g 13 (inF x0 c 4))) fun x1=>
 kR (c) (it) (false) (ofW i64 x1 0 24) (g) (ofW i64 x1 0 24) (fun y2_0=>
 κ (true)) (fun y2_0=>
 (xbn g c it (ofW i64 x1 0 24)).bind fun r3=>
 κ r3)
def xhZ(c it:Int):T Bool:=xkW g c it .ret
theorem xrr(c it:Int)(κ:Bool->T β):(xhZ g c it).bind κ=xkW g c it κ:=by
 unfold xhZ xkW
 simp only[bz,xg8]
def xbp(a0 a1:Int)(b2:Bool)(a3 a4:Int)(g6:Geo)(κ0:Int->T β)(κ1:Unit->T β)(i:Int)(k:Int->T β):T β:=
 bif decide (i<a4)then(.op (.self) fun x1=>
 bif bif g6.threads==0 then false else true then((xhW g6 a0 (Int.tmod (i64.wrap (x1+i)) g6.threads)).bind fun r3=>
 bif r3.2 then((qJ g6).bind fun r5=>
 κ0 (r3.1)) else
 k (i64.wrap (i+1))) else
 .fail) else
 κ1 ()
def wq(a0 a1:Int)(b2:Bool)(a3 a4:Int)(g6:Geo)(a5:Int)(κ0:Int->T β)(κ1:Unit->T β):T β:=xr xa (xbp a0 a1 b2 a3 a4 g6 κ0 κ1) a5
theorem xfp{β γ:Type}(a0 a1:Int)(b2:Bool)(a3 a4:Int)(g6:Geo)(a5:Int)(κ0:Int->T β)(κ1:Unit->T β)(κ:β->T γ):(wq a0 a1 b2 a3 a4 g6 a5 κ0 κ1).bind κ=wq a0 a1 b2 a3 a4 g6 a5 (fun ae1=>(κ0 ae1).bind κ) (fun u=>(κ1 u).bind κ):=by
 unfold wq
 refine xj κ (fun i k =>?_) _ _
 unfold xbp
 simp only[bz]
def xfq:Pat:=⟨xm 62 0 [(0,.c (.raw (.port))),(2,.c (.int .i64)),(4,.c (.raw (.ptr 0 0))),(6,.c (.int .u64)),(7,.c (.bool)),(8,.c (.int .u64)),(25,.c (.int .i64)),(26,.c (.int .i64))],[some ⟨[.geo],24,false,none⟩]⟩
def xcf:Pat:=⟨xm 62 0 [(0,.c (.raw (.port))),(2,.c (.int .i64)),(4,.c (.raw (.ptr 0 0))),(6,.c (.int .u64)),(7,.c (.bool)),(8,.c (.int .u64))],[some ⟨[.geo],24,false,none⟩]⟩
def jW:LF:=fun st K=>match xq xfq st with
 | some [.i a0,.i a1,.b b2,.i a3,.i a4,.i a5,.g g6]=>some (wq a0 a1 b2 a3 a4 g6 a5 (fun ae1=>K (.ret) (xd xcf [.i a0,.i ae1,.b true,.i a3,.g g6])) (fun _=>K (.exit 2) (xd xcf [.i a0,.i a1,.b b2,.i a3,.g g6])))
 | _=>none
theorem xrs : ∀st K t,jW st K=some t->xA xa (lf ka9 xa 0 .no [1,1,0,0,0,1,0,1,0] Tryz.f258 K) st=t:=by
 intro st K t h
 unfold jW at h
 split at h
 ·rename_i a0 a1 b2 a3 a4 a5 g6 hm
  cases h
  rw[xk hm]
  unfold wq
  exact xu (S:=fun(i:Int)=>xd xfq [.i a0,.i a1,.b b2,.i a3,.i a4,.i i,.g g6]) (fun i k=>by kernel_rfl) xa a5
 ·cases h
def xbq(a0 a1:Int)(b2:Bool)(g3:Geo)(κ0:Int->T β)(κ1:Unit->T β)(i:Unit)(k:Unit->T β):T β:=
 .op (.load (atF g3 5 a0)) fun x0=>
 wq a0 a1 b2 x0 (g3.threads) g3 (0) (fun y1_0=>
 κ0 y1_0) (fun y1_0=>
 .op (.load (atF g3 5 a0)) fun x2=>
 bif x2==x0 then((qJ g3).bind fun r4=>
 κ1 ()) else
 k ())
def ws(a0 a1:Int)(b2:Bool)(g3:Geo)  (κ0:Int->T β) (κ1:Unit->T β):T β:=xr xa (xbq a0 a1 b2 g3 κ0 κ1) ()
theorem xfr{β γ:Type}(a0 a1:Int)(b2:Bool)(g3:Geo)  (κ0:Int->T β) (κ1:Unit->T β) (κ:β->T γ):(ws a0 a1 b2 g3  κ0 κ1).bind κ=ws a0 a1 b2 g3  (fun ae0=>(κ0 ae0).bind κ) (fun u=>(κ1 u).bind κ):=by
 unfold ws
 refine xj κ (fun i k =>?_) _ _
 unfold xbq
 simp only[bz,xfp]
def xfs:Pat:=⟨xm 62 0 [(0,.c (.raw (.port))),(2,.c (.int .i64)),(4,.c (.raw (.ptr 0 0))),(6,.c (.int .u64)),(7,.c (.bool))],[some ⟨[.geo],24,false,none⟩]⟩
def xcg:Pat:=⟨xm 62 0 [(6,.c (.int .u64)),(7,.c (.bool))],[]⟩
def Yn:LF:=fun st K=>match xq xfs st with
 | some [.i a0,.i a1,.b b2,.g g3]=>some (ws a0 a1 b2 g3  (fun ae0=>K (.ret) (xd xcg [.i ae0,.b true])) (fun _=>K (.ret) (xd xcg [.i 0,.b false])))
 | _=>none
theorem xrt : ∀st K t,Yn st K=some t->xA xa (lf ka9 xa 0 (lsAt jW .no [0,1,0,1,0]) [1,1,0] Tryz.f258 K) st=t:=by
 intro st K t h
 unfold Yn at h
 split at h
 ·rename_i a0 a1 b2 g3 hm
  cases h
  rw[xk hm]
  unfold ws
  exact xu (S:=fun(i:Unit)=>xd xfs [.i a0,.i a1,.b b2,.g g3]) (fun i k=>by kernel_rfl) xa ()
 ·cases h
def xdt(c:Int)(κ:(Int×Bool)->T β):T β:=
 (ZA g c).bind fun r0=>
 bif r0 then(κ ((0),(false))) else
 ws (c) (0) (false) (g) (fun y2_0=>
 κ (y2_0,(true))) (fun y2_0=>
 κ ((0),(false)))
def qL(c:Int):T (Int×Bool):=xdt g c .ret
theorem xn7(c:Int)(κ:(Int×Bool)->T β):(qL g c).bind κ=xdt g c κ:=by
 unfold qL xdt
 simp only[bz,xfr]
def xkX:Sm:=fun
 | [.c .port,.agg gc,.c (.int .i64 c),.c (.int .u64 it)],[]=>(match xv gc with
   | some g=>some (mkS (Bool) (xhZ g c it) fun r=>some (.c (.bool r),[]))
   | _=>none)
 | _,_=>none
theorem xru:Good Tryz.prog (xo ka9) xa 0 (lsAt Ky .no [1,1,0,1,0]) (Tryz.f174.body.getD .skip) (xt Tryz.f174.results.toList):=xz (xi (by kernel_rfl)) xy xuQ
variable{σ:Type}{I:Port Tryz.prog σ}
theorem xuR(hl:SoundL I ka9):SoundF I 174 xkX:=by
 refine sq hl xa Tryz.func174 fun _ _ t ht =>?_
 unfold xkX at ht
 split at ht
 ·rename_i gc c it
  split at ht
  ·rename_i g hg
   obtain rfl:=xe hg
   cases ht
   refine(xE (P:= Tryz.prog) (n:=xa) (x:=(lsAt Ky .no [1,1,0,1,0])) (fn:= Tryz.f174) (H :=[]) (c:= Tryz.f174.body.getD .skip) (xi (by kernel_rfl)) xru).symm.trans ?_
   exact ey (xrr g c it _)
  ·cases ht
 ·cases ht
def xft:Sm:=fun
 | [.c .port,.agg gc,.c (.int .i64 c)],[]=>(match xv gc with
   | some g=>some (mkS ((Int×Bool)) (qL g c) fun r=>some (.tup [.c (.int .u64 r.1),.c (.bool r.2)],[]))
   | _=>none)
 | _,_=>none
theorem xn8:Good Tryz.prog (xo ka9) xa 0 (lsAt Yn (lsAt jW .no [0,1,0,1,0]) [1,1,0]) (Tryz.f258.body.getD .skip) (xt Tryz.f258.results.toList):=xz (xi (by kernel_rfl)) (qV (p :=[1,1,0]) (q :=[0,1,0,1,0]) (xi (fn:= Tryz.f258) (by kernel_rfl)) xy xrs (by kernel_rfl)) xrt
theorem xrv(hl:SoundL I ka9):SoundF I 258 xft:=by
 refine sq hl xa Tryz.func258 fun _ _ t ht =>?_
 unfold xft at ht
 split at ht
 ·rename_i gc c
  split at ht
  ·rename_i g hg
   obtain rfl:=xe hg
   cases ht
   refine(xE (P:= Tryz.prog) (n:=xa) (x:=(lsAt Yn (lsAt jW .no [0,1,0,1,0]) [1,1,0])) (fn:= Tryz.f258) (H :=[]) (c:= Tryz.f258.body.getD .skip) (xi (by kernel_rfl)) xn8).symm.trans ?_
   exact ey (xn7 g c _)
  ·cases ht
 ·cases ht
def ka10:List (Nat×Sm):=(174,xkX)::(258,xft)::ka9
theorem xkY:SoundL I ka10:=(.cons (xuR s_ka9) (.cons (xrv s_ka9) s_ka9))
end Lx
namespace Lx
variable{β:Type}(g:Geo)
open Go
def xkZ(c it:Int)(κ:Bool->T β):T β:=
 (ZA g c).bind fun r0=>
 bif r0 then(κ (false)) else
 bif it==0 then(κ (false)) else
 (xhZ g c it).bind fun r3=>
 bif !r3 then(κ (false)) else
 .op (.add (atF g 5 c) (1)) fun x5=>
 κ (true)
def xh0(c it:Int):T Bool:=xkZ g c it .ret
theorem xrw(c it:Int)(κ:Bool->T β):(xh0 g c it).bind κ=xkZ g c it κ:=by
 unfold xh0 xkZ
 simp only[bz]
def Kz(o c:Int)(κ:(Fnd×Int)->T β):T β:=
 (qL g c).bind fun r0=>
 κ (⟨(i64.wrap (i64.wrap r0.1-1)),(r0.2),(0)⟩,(o))
def KA(o c:Int):T (Fnd×Int):=Kz g o c .ret
theorem xk0(o c:Int)(κ:(Fnd×Int)->T β):(KA g o c).bind κ=Kz g o c κ:=by
 unfold KA Kz
 simp only[bz]
def xfu(a0 a3:Int)(g4:Geo)(κ0:Int->T β)(i:Int×Bool×Int)(k:Int×Bool×Int->T β):T β:=
 bif i.2.1 then((xh g4 i.2.2 (i64.wrap (i64.wrap i.1-1))).bind fun r1=>
 (qL g4 a0).bind fun r2=>
 k (r2.1,r2.2,r1.2)) else
 κ0 (i.2.2)
def kS(a0 a3:Int)(g4:Geo)(a1:Int)(b2:Bool)(a5:Int)(κ0:Int->T β):T β:=xr xa (xfu a0 a3 g4 κ0) (a1,b2,a5)
theorem xg9{β γ:Type}(a0 a3:Int)(g4:Geo)(a1:Int)(b2:Bool)(a5:Int)(κ0:Int->T β)(κ:β->T γ):(kS a0 a3 g4 a1 b2 a5 κ0).bind κ=kS a0 a3 g4 a1 b2 a5 (fun ae2=>(κ0 ae2).bind κ):=by
 unfold kS
 refine xj κ (fun i k =>?_) _ _
 unfold xfu
 simp only[bz]
def xh1:Pat:=⟨xm 40 0 [(0,.c (.raw (.ptr 0 0))),(2,.c (.int .i64)),(3,.c (.int .u64)),(4,.c (.bool)),(5,.c (.int .i64))],[some ⟨[.raw (.port),.geo,.int .u64],150,false,none⟩]⟩
def WP:Pat:=⟨xm 40 0 [(0,.c (.raw (.ptr 0 0))),(5,.c (.int .i64))],[some ⟨[.raw (.port),.geo,.int .u64],150,false,none⟩]⟩
def ZP:LF:=fun st K=>match xq xh1 st with
 | some [.i a0,.i a1,.b b2,.i a3,.g g4,.i a5]=>some (kS a0 a3 g4 a1 b2 a5 (fun ae2=>K (.exit 2) (xd WP [.i a3,.g g4,.i ae2])))
 | _=>none
theorem xuS : ∀st K t,ZP st K=some t->xA xa (lf ka10 xa 1 .no [1,0,0,1,1,0,0,1,1,0] Tryz.f241 K) st=t:=by
 intro st K t h
 unfold ZP at h
 split at h
 ·rename_i a0 a1 b2 a3 g4 a5 hm
  cases h
  rw[xk hm]
  unfold kS
  exact xu (S:=fun(i:Int×Bool×Int)=>xd xh1 [.i a0,.i (i.1),.b (i.2.1),.i a3,.g g4,.i (i.2.2)]) (fun i k=>by kernel_rfl) xa (a1,b2,a5)
 ·cases h
def xfv(g1:Geo)(κ0:Int->T β)(i:Int×Int)(k:Int×Int->T β):T β:=
 bif decide (i.1<4)then((qL g1 i.1).bind fun r1=>
 kS (i.1) (i.1) g1 (r1.1) (r1.2) (i.2) (fun y2_0=>
 k (i64.wrap (i.1+1),y2_0))) else
 κ0 (i.2)
def kT(g1:Geo)(a0 a2:Int)(κ0:Int->T β):T β:=xr xa (xfv g1 κ0) (a0,a2)
theorem xha{β γ:Type}(g1:Geo)(a0 a2:Int)(κ0:Int->T β)(κ:β->T γ):(kT g1 a0 a2 κ0).bind κ=kT g1 a0 a2 (fun ae1=>(κ0 ae1).bind κ):=by
 unfold kT
 refine xj κ (fun i k =>?_) _ _
 unfold xfv
 simp only[bz,xg9]
def xrx:Pat:=⟨xm 40 0 [],[some ⟨[.raw (.port),.geo,.int .u64],150,false,none⟩]⟩
def KB:LF:=fun st K=>match xq WP st with
 | some [.i a0,.g g1,.i a2]=>some (kT g1 a0 a2 (fun ae1=>K (.exit 0) (xd xrx [.g g1,.i ae1])))
 | _=>none
theorem xuT : ∀st K t,KB st K=some t->xA xa (lf ka10 xa 1 (lsAt ZP .no [1,1,0,0,1,1,0]) [1,0] Tryz.f241 K) st=t:=by
 intro st K t h
 unfold KB at h
 split at h
 ·rename_i a0 g1 a2 hm
  cases h
  rw[xk hm]
  unfold kT
  exact xu (S:=fun(i:Int×Int)=>xd WP [.i (i.1),.g g1,.i (i.2)]) (fun i k=>by kernel_rfl) xa (a0,a2)
 ·cases h
def xk1(o:Int)(κ:(Unit×Int)->T β):T β:=
 kT (g) (0) (o) (fun y0_0=>
 κ ((),y0_0))
def xh2(o:Int):T (Unit×Int):=xk1 g o .ret
theorem xry(o:Int)(κ:(Unit×Int)->T β):(xh2 g o).bind κ=xk1 g o κ:=by
 unfold xh2 xk1
 simp only[bz,xha]
def xtn:Sm:=gS fun
 | g,[.c (.int .i64 c),.c (.int .u64 it)]=>some (mkS (Bool) (xh0 g c it) fun r=>some (.c (.bool r),[]))
 | _,_=>none
variable{σ:Type}{I:Port Tryz.prog σ}
theorem xuU(hl:SoundL I ka10):SoundF I 90 xtn:=by
 refine gsq hl 1 Tryz.func90 fun g l t ht =>?_
 split at ht
 ·rename_i c it
  cases ht
  exact ey (xrw g c it _)
 ·cases ht
def xbr:Sm:=fun
 | [.c (.ptr 0 0),.c (.int .i64 c)],[some ⟨.port::gc, 150,false,none⟩]=>(match hdOf gc with
   | some (g,o)=>some (mkS ((Fnd×Int)) (KA g o c) fun r=>some (.agg r.1.cells,[some ⟨.port::(g.cells ++ [.int .u64 r.2]), 150,false,none⟩]))
   | _=>none)
 | _,_=>none
theorem xn9(hl:SoundL I ka10):SoundF I 225 xbr:=by
 refine sq hl 1 Tryz.func225 fun _ _ t ht =>?_
 unfold xbr at ht
 split at ht
 ·rename_i c gc
  split at ht
  ·rename_i g o hg
   obtain rfl:=yv hg
   cases ht
   exact ey (xk0 g o c _)
  ·cases ht
 ·cases ht
def xk2:Sm:=fun
 | [.c (.ptr 0 0)],[some ⟨.port::gc, 150,false,none⟩]=>(match hdOf gc with
   | some (g,o)=>some (mkS ((Unit×Int)) (xh2 g o) fun r=>some (.tup [],[some ⟨.port::(g.cells ++ [.int .u64 r.2]), 150,false,none⟩]))
   | _=>none)
 | _,_=>none
theorem xrz:Good Tryz.prog (xo ka10) xa 1 (lsAt KB (lsAt ZP .no [1,1,0,0,1,1,0]) [1,0]) (Tryz.f241.body.getD .skip) (xt Tryz.f241.results.toList):=xz (xi (by kernel_rfl)) (qV (p :=[1,0]) (q :=[1,1,0,0,1,1,0]) (xi (fn:= Tryz.f241) (by kernel_rfl)) xy xuS (by kernel_rfl)) xuT
theorem xuV(hl:SoundL I ka10):SoundF I 241 xk2:=by
 refine sq hl xa Tryz.func241 fun _ _ t ht =>?_
 unfold xk2 at ht
 split at ht
 ·rename_i gc
  split at ht
  ·rename_i g o hg
   obtain rfl:=yv hg
   cases ht
   refine(xE (P:= Tryz.prog) (n:=xa) (x:=(lsAt KB (lsAt ZP .no [1,1,0,0,1,1,0]) [1,0])) (fn:= Tryz.f241) (H :=[some ⟨.port::(g.cells ++ [.int .u64 o]), 150,false,none⟩]) (c:= Tryz.f241.body.getD .skip) (xi (by kernel_rfl)) xrz).symm.trans ?_
   exact ey (xry g o _)
  ·cases ht
 ·cases ht
def ka11:List (Nat×Sm):=(90,xtn)::(225,xbr)::(241,xk2)::ka10
theorem xfw:SoundL I ka11:=(.cons (xuU xkY) (.cons (xn9 xkY) (.cons (xuV xkY) xkY)))
end Lx
namespace Lx
variable{β:Type}(g:Geo)
open Go
def xdu(o:Int)(κ:(Bool×Int)->T β):T β:=
 (Yc g o).bind fun r0=>
 (xh2 g r0.2).bind fun r1=>
 (jR g r1.2).bind fun r2=>
 (tryT g).bind fun r3=>
 bif !r3 then(κ ((false),(r2.2))) else
 (vn g).bind fun r5=>
 (yJ g r2.2 r5).bind fun r6=>
 (jS g r6.2).bind fun r7=>
 (ZC g).bind fun r8=>
 κ ((true),(r7.2))
def ZQ(o:Int):T (Bool×Int):=xdu g o .ret
theorem xoa(o:Int)(κ:(Bool×Int)->T β):(ZQ g o).bind κ=xdu g o κ:=by
 unfold ZQ xdu
 simp only[bz]
def Yo(k:Int)(κ:Unit->T β):T β:=
 (jC g).bind fun r0=>
 bif r0 then(κ ()) else
 bif atF g 11 k==(-1)then(κ ()) else
 (vY g k).bind fun r3=>
 bif r3.kind==4 then((markT g (i64.wrap (Int.tdiv k 8)) r3.len).bind fun r5=>
 bif r5 then((yJ g 0 1).bind fun r7=>
 (jT g r7.2).bind fun r8=>
 κ ()) else
 κ ()) else
 bif r3.kind != 3 then(κ ()) else
 .op (.self) fun x6=>
 bif r3.owner != x6 then((xhJ g k).bind fun r8=>
 (yJ g 0 1).bind fun r9=>
 κ ()) else
 (xhA g r3.cls (u64.wrap (u64.wrap k+1))).bind fun r8=>
 bif r8 then((yJ g 0 1).bind fun r10=>
 κ ()) else
 (xh0 g r3.cls (u64.wrap (u64.wrap k+1))).bind fun r10=>
 bif r10 then((yJ g 0 1).bind fun r12=>
 κ ()) else
 (Wt g k).bind fun r12=>
 (yJ g 0 1).bind fun r13=>
 κ ()
def vP(k:Int):T Unit:=Yo g k .ret
theorem xhb(k:Int)(κ:Unit->T β):(vP g k).bind κ=Yo g k κ:=by
 unfold vP Yo
 simp only[bz]
def xbs(a0 a3:Int)(g4 g5:Geo)(κ0:Int->T β)(i:Int×Bool×Int)(k:Int×Bool×Int->T β):T β:=
 bif i.2.1 then((xh g5 i.2.2 (i64.wrap (i64.wrap i.1-1))).bind fun r1=>
 (jD g4 a0).bind fun r2=>
 k (r2.1,r2.2,r1.2)) else
 κ0 (i.2.2)
def wt(a0 a3:Int)(g4 g5:Geo)(a1:Int)(b2:Bool)(a6:Int)(κ0:Int->T β):T β:=xr xa (xbs a0 a3 g4 g5 κ0) (a1,b2,a6)
theorem xfx{β γ:Type}(a0 a3:Int)(g4 g5:Geo)(a1:Int)(b2:Bool)(a6:Int)(κ0:Int->T β)(κ:β->T γ):(wt a0 a3 g4 g5 a1 b2 a6 κ0).bind κ=wt a0 a3 g4 g5 a1 b2 a6 (fun ae4=>(κ0 ae4).bind κ):=by
 unfold wt
 refine xj κ (fun i k =>?_) _ _
 unfold xbs
 simp only[bz]
def xfy:Pat:=⟨xm 42 0 [(0,.c (.raw (.port))),(3,.c (.raw (.ptr 0 0))),(4,.c (.raw (.ptr 1 0))),(5,.c (.int .i64)),(6,.c (.int .u64)),(7,.c (.bool)),(15,.c (.int .i64))],[some ⟨[.geo],24,false,none⟩,some ⟨[.raw (.port),.geo,.int .u64],150,false,none⟩]⟩
def xob:Pat:=⟨xm 42 0 [(0,.c (.raw (.port))),(3,.c (.raw (.ptr 0 0))),(4,.c (.raw (.ptr 1 0))),(5,.c (.int .i64)),(15,.c (.int .i64))],[some ⟨[.geo],24,false,none⟩,some ⟨[.raw (.port),.geo,.int .u64],150,false,none⟩]⟩
def jX:LF:=fun st K=>match xq xfy st with
 | some [.i a0,.i a1,.b b2,.i a3,.g g4,.g g5,.i a6]=>some (wt a0 a3 g4 g5 a1 b2 a6 (fun ae4=>K (.exit 2) (xd xob [.i a0,.i a3,.g g4,.g g5,.i ae4])))
 | _=>none
theorem xrA : ∀st K t,jX st K=some t->xA xa (lf ka11 xa 0 .no [1,1,1,1,0,0,1,1,0,0,1,0,1,0] Tryz.f134 K) st=t:=by
 intro st K t h
 unfold jX at h
 split at h
 ·rename_i a0 a1 b2 a3 g4 g5 a6 hm
  cases h
  rw[xk hm]
  unfold wt
  exact xu (S:=fun(i:Int×Bool×Int)=>xd xfy [.i a0,.i (i.1),.b (i.2.1),.i a3,.g g4,.g g5,.i (i.2.2)]) (fun i k=>by kernel_rfl) xa (a1,b2,a6)
 ·cases h
def xbt(g1 g2:Geo)(κ0:Unit->T β)(i:Int×Int)(k:Int×Int->T β):T β:=
 bif decide (i.1<4)then((jD g1 i.1).bind fun r1=>
 wt (i.1) (i.1) g1 g2 (r1.1) (r1.2) (i.2) (fun y2_0=>
 (ZO g1 i.1).bind fun r3=>
 k (i64.wrap (i.1+1),y2_0))) else
 κ0 ()
def wu(g1 g2:Geo)(a0 a3:Int)(κ0:Unit->T β):T β:=xr xa (xbt g1 g2 κ0) (a0,a3)
theorem xfz{β γ:Type}(g1 g2:Geo)(a0 a3:Int)(κ0:Unit->T β)(κ:β->T γ):(wu g1 g2 a0 a3 κ0).bind κ=wu g1 g2 a0 a3 (fun u=>(κ0 u).bind κ):=by
 unfold wu
 refine xj κ (fun i k =>?_) _ _
 unfold xbt
 simp only[bz,xfx]
def xfA:Pat:=⟨xm 42 0 [(0,.c (.raw (.port))),(3,.c (.raw (.ptr 0 0))),(4,.c (.raw (.ptr 1 0))),(15,.c (.int .i64))],[some ⟨[.geo],24,false,none⟩,some ⟨[.raw (.port),.geo,.int .u64],150,false,none⟩]⟩
def xoc:Pat:=⟨xm 42 0 [],[]⟩
def Yp:LF:=fun st K=>match xq xfA st with
 | some [.i a0,.g g1,.g g2,.i a3]=>some (wu g1 g2 a0 a3 (fun _=>K (.exit 0) (xd xoc [])))
 | _=>none
theorem xrB : ∀st K t,Yp st K=some t->xA xa (lf ka11 xa 0 (lsAt jX .no [1,1,0,0,1,0,1,0]) [1,1,1,1,0] Tryz.f134 K) st=t:=by
 intro st K t h
 unfold Yp at h
 split at h
 ·rename_i a0 g1 g2 a3 hm
  cases h
  rw[xk hm]
  unfold wu
  exact xu (S:=fun(i:Int×Int)=>xd xfA [.i (i.1),.g g1,.g g2,.i (i.2)]) (fun i k=>by kernel_rfl) xa (a0,a3)
 ·cases h
def xdv(κ:Unit->T β):T β:=
 (jC g).bind fun r0=>
 bif r0 then(κ ()) else
 wu (g) (g) (0) (0) (fun y2_0=>
 κ ())
def xbu:T Unit:=xdv g .ret
theorem xod(κ:Unit->T β):(xbu g).bind κ=xdv g κ:=by
 unfold xbu xdv
 simp only[bz,xfz]
def xfB:Sm:=fun
 | [.c (.ptr 0 0)],[some ⟨.port::gc, 150,false,none⟩]=>(match hdOf gc with
   | some (g,o)=>some (mkS ((Bool×Int)) (ZQ g o) fun r=>some (.c (.bool r.1),[some ⟨.port::(g.cells ++ [.int .u64 r.2]), 150,false,none⟩]))
   | _=>none)
 | _,_=>none
variable{σ:Type}{I:Port Tryz.prog σ}
theorem xrC(hl:SoundL I ka11):SoundF I 179 xfB:=by
 refine sq hl 1 Tryz.func179 fun _ _ t ht =>?_
 unfold xfB at ht
 split at ht
 ·rename_i gc
  split at ht
  ·rename_i g o hg
   obtain rfl:=yv hg
   cases ht
   exact ey (xoa g o _)
  ·cases ht
 ·cases ht
def WQ:Sm:=gS fun
 | g,[.c (.int .i64 k)]=>some (mkS (Unit) (vP g k) fun r=>some (.tup [],[]))
 | _,_=>none
theorem KC(hl:SoundL I ka11):SoundF I 27 WQ:=by
 refine gsq hl 1 Tryz.func27 fun g l t ht =>?_
 split at ht
 ·rename_i k
  cases ht
  exact ey (xhb g k _)
 ·cases ht
def xfC:Sm:=fun
 | [.c .port,.agg gc],[]=>(match xv gc with
   | some g=>some (mkS (Unit) (xbu g) fun r=>some (.tup [],[]))
   | _=>none)
 | _,_=>none
theorem xoe:Good Tryz.prog (xo ka11) xa 0 (lsAt Yp (lsAt jX .no [1,1,0,0,1,0,1,0]) [1,1,1,1,0]) (Tryz.f134.body.getD .skip) (xt Tryz.f134.results.toList):=xz (xi (by kernel_rfl)) (qV (p :=[1,1,1,1,0]) (q :=[1,1,0,0,1,0,1,0]) (xi (fn:= Tryz.f134) (by kernel_rfl)) xy xrA (by kernel_rfl)) xrB
theorem xrD(hl:SoundL I ka11):SoundF I 134 xfC:=by
 refine sq hl xa Tryz.func134 fun _ _ t ht =>?_
 unfold xfC at ht
 split at ht
 ·rename_i gc
  split at ht
  ·rename_i g hg
   obtain rfl:=xe hg
   cases ht
   refine(xE (P:= Tryz.prog) (n:=xa) (x:=(lsAt Yp (lsAt jX .no [1,1,0,0,1,0,1,0]) [1,1,1,1,0])) (fn:= Tryz.f134) (H :=[]) (c:= Tryz.f134.body.getD .skip) (xi (by kernel_rfl)) xoe).symm.trans ?_
   exact ey (xod g _)
  ·cases ht
 ·cases ht
def ka12:List (Nat×Sm):=(179,xfB)::(27,WQ)::(134,xfC)::ka11
theorem xrE:SoundL I ka12:=(.cons (xrC xfw) (.cons (KC xfw) (.cons (xrD xfw) xfw)))
end Lx
namespace Lx
variable{β:Type}(g:Geo)
open Go
def KD(o c:Int)(κ:(Fnd×Int)->T β):T β:=
 (XT g o c).bind fun r0=>
 bif r0.1.ok then(κ (⟨(r0.1.grain),(r0.1.ok),(r0.1.e)⟩,(r0.2))) else
 bif r0.1.e != 0 then(κ (⟨(r0.1.grain),(r0.1.ok),(r0.1.e)⟩,(r0.2))) else
 (KA g r0.2 c).bind fun r3=>
 bif r3.1.ok then(κ (⟨(r3.1.grain),(r3.1.ok),(r3.1.e)⟩,(r3.2))) else
 bif r3.1.e != 0 then(κ (⟨(r3.1.grain),(r3.1.ok),(r3.1.e)⟩,(r3.2))) else
 (XZ g r3.2 c).bind fun r6=>
 bif r6.1.ok then(κ (⟨(r6.1.grain),(r6.1.ok),(r6.1.e)⟩,(r6.2))) else
 bif r6.1.e != 0 then(κ (⟨(r6.1.grain),(r6.1.ok),(r6.1.e)⟩,(r6.2))) else
 (Wy g r6.2 c).bind fun r9=>
 bif r9.1.ok then(κ (⟨(r9.1.grain),(r9.1.ok),(r9.1.e)⟩,(r9.2))) else
 bif r9.1.e != 0 then(κ (⟨(r9.1.grain),(r9.1.ok),(r9.1.e)⟩,(r9.2))) else
 (Wz g r9.2 c).bind fun r12=>
 bif r12.1.ok then(κ (⟨(r12.1.grain),(r12.1.ok),(r12.1.e)⟩,(r12.2))) else
 bif r12.1.e != 0 then(κ (⟨(r12.1.grain),(r12.1.ok),(r12.1.e)⟩,(r12.2))) else
 κ (⟨(0),(false),(0)⟩,(r12.2))
def Yq(o c:Int):T (Fnd×Int):=KD g o c .ret
theorem xk3(o c:Int)(κ:(Fnd×Int)->T β):(Yq g o c).bind κ=KD g o c κ:=by
 unfold Yq KD
 simp only[bz]
def Yr(o c:Int)(κ:(Fnd×Int)->T β):T β:=
 (Wy g o c).bind fun r0=>
 bif r0.1.ok then(κ (⟨(r0.1.grain),(r0.1.ok),(r0.1.e)⟩,(r0.2))) else
 bif r0.1.e != 0 then(κ (⟨(r0.1.grain),(r0.1.ok),(r0.1.e)⟩,(r0.2))) else
 (Wz g r0.2 c).bind fun r3=>
 bif r3.1.ok then(κ (⟨(r3.1.grain),(r3.1.ok),(r3.1.e)⟩,(r3.2))) else
 bif r3.1.e != 0 then(κ (⟨(r3.1.grain),(r3.1.ok),(r3.1.e)⟩,(r3.2))) else
 κ (⟨(0),(false),(0)⟩,(r3.2))
def jY(o c:Int):T (Fnd×Int):=Yr g o c .ret
theorem xhc(o c:Int)(κ:(Fnd×Int)->T β):(jY g o c).bind κ=Yr g o c κ:=by
 unfold jY Yr
 simp only[bz]
def xbv:Sm:=fun
 | [.c (.ptr 0 0),.c (.int .i64 c),.c (.sl 1 0 5 5)],[some ⟨.port::gc, 150,false,none⟩,some ⟨[.fn 224 [],.fn 225 [],.fn 226 [],.fn 227 [],.fn 228 []], 215,false,none⟩]=>(match hdOf gc with
   | some (g,o)=>some (mkS ((Fnd×Int)) (Yq g o c) fun r=>some (.agg r.1.cells,[some ⟨.port::(g.cells ++ [.int .u64 r.2]), 150,false,none⟩,some ⟨[.fn 224 [],.fn 225 [],.fn 226 [],.fn 227 [],.fn 228 []], 215,false,none⟩]))
   | _=>none)
 | _,_=>none
variable{σ:Type}{I:Port Tryz.prog σ}
theorem xof(hl:SoundL I ka12):SoundF I 158 xbv:=by
 refine sq hl 7 Tryz.func158 fun _ _ t ht =>?_
 unfold xbv at ht
 split at ht
 ·rename_i c gc
  split at ht
  ·rename_i g o hg
   obtain rfl:=yv hg
   cases ht
   exact ey (xk3 g o c _)
  ·cases ht
 ·cases ht
def WR:Sm:=fun
 | [.c (.ptr 0 0),.c (.int .i64 c),.c (.sl 1 0 2 2)],[some ⟨.port::gc, 150,false,none⟩,some ⟨[.fn 227 [],.fn 228 []], 217,false,none⟩]=>(match hdOf gc with
   | some (g,o)=>some (mkS ((Fnd×Int)) (jY g o c) fun r=>some (.agg r.1.cells,[some ⟨.port::(g.cells ++ [.int .u64 r.2]), 150,false,none⟩,some ⟨[.fn 227 [],.fn 228 []], 217,false,none⟩]))
   | _=>none)
 | _,_=>none
theorem xk4(hl:SoundL I ka12):SoundF I 158 WR:=by
 refine sq hl 7 Tryz.func158 fun _ _ t ht =>?_
 unfold WR at ht
 split at ht
 ·rename_i c gc
  split at ht
  ·rename_i g o hg
   obtain rfl:=yv hg
   cases ht
   exact ey (xhc g o c _)
  ·cases ht
 ·cases ht
def xh3:List (Nat×Sm):=(158,(orSm xbv WR))::ka12
theorem KE:SoundL I xh3:=(.cons (SoundF.or (xof xrE) (xk4 xrE)) xrE)
end Lx
end Go.Proofs.YtaegelbaghaooaaGreat
