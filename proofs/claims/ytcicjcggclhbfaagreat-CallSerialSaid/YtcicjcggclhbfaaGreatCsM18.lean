/- Part. -/
import Derived.Test.YtcicjcggclhbfaaGreatCsM11
import Derived.Test.YtcicjcggclhbfaaGreatCsLxMrg
set_option linter.all false
open Go.IntKind (i64 u64 u32 u8)
set_option maxRecDepth 1000000
namespace Go.Proofs.YtcicjcggclhbfaaGreat
namespace Lx
variable{β:Type}(g:Geo)
open Go
def VV(n0:Nat)(a1 a2 a3:Int)(l5:IntsL)(κ0:Int->T β)(κ1:Unit->T β)(i:Int)(k:Int->T β):T β:=
 bif decide (i<a3)then(bif decide ((0:Int)<=i/\i < ↑n0)then(bif inR (List.length l5) i then(bif a1==getI l5 (Int.toNat i)then(κ0 i) else
 k (i64.wrap (i+1))) else
 .fail) else
 .fail) else
 κ1 ()
def vX(n0:Nat)(a1 a2 a3:Int)(l5:IntsL)(a4:Int)(κ0:Int->T β)(κ1:Unit->T β):T β:=xu xa (VV n0 a1 a2 a3 l5 κ0 κ1) a4
theorem xea{β γ:Type}(n0 a1 a2 a3 l5 a4 κ0 κ1)(κ:β->T γ):(vX n0 a1 a2 a3 l5 a4 κ0 κ1).bind κ=vX n0 a1 a2 a3 l5 a4 (fun cg=>(κ0 cg).bind κ) (fun u=>(κ1 u).bind κ):=by
 unfold vX
 refine xi κ (fun i k =>?_) _ _
 unfold VV
 simp only[bz]
def xdB:Pat:=⟨xk 19 0 [(0,.c (.slr 0)),(1,.c (.int .i64)),(4,.c (.int .i64)),(7,.c (.int .i64)),(8,.c (.int .i64))],[some ⟨[], 3,true,some (.col .i64)⟩]⟩
def xaC:Pat:=⟨xk 19 0 [(4,.c (.int .i64))],[some ⟨[], 3,true,some (.col .i64)⟩]⟩
def ZI:LF:=fun st K=>match xr xdB st with
 | some [.n n0,.i a1,.i a2,.i a3,.i a4,.l l5]=>some (vX n0 a1 a2 a3 l5 a4 (fun cg=>K (.ret) (xe xaC [.i cg,.l l5])) (fun _=>K (.exit 0) (xe xaC [.i a2,.l l5])))
 | _=>none
theorem xqF : ∀st K t,ZI st K=some t->xD xa (lf ka8 xa 1 .no [1,0,1,0] Tryz.f214 K) st=t:=by
 intro st K t h
 unfold ZI at h
 split at h
 .rename_i n0 a1 a2 a3 a4 l5 hm
  cases h
  rw[xj hm]
  unfold vX
  exact xt (S:=fun(i:Int)=>xe xdB [.n n0,.i a1,.i a2,.i a3,.i i,.l l5]) (fun i k=>by kernel_rfl) xa a4
 .cases h
def xaD(n:Nat)(L:IntsL)(x:Int)(κ:Int->T β):T β:=
 vX n x 0 (↑n) L 0 (fun av=>
 κ av) (fun av=>
 κ ((-1)))
def xaE(n:Nat)(L:IntsL)(x:Int):T Int:=xaD n L x .ret
theorem xm6(n L x)(κ:Int->T β):(xaE n L x).bind κ=xaD n L x κ:=by
 unfold xaE xaD
 simp only[bz,xea]
def xcw:Sm:=fun
 | [.c (.slr 0 n),.c (.int .i64 x)],[some ⟨[], 3,true,some (.col .i64 L)⟩]=>some (mkS Int (xaE n L x) fun r=>some (.c (.int .i64 r),[some ⟨[], 3,true,some (.col .i64 L)⟩]))
 | _,_=>none
theorem xm7:Good Tryz.prog (xp ka8) xa 1 (lsAt ZI .no [1,0,1,0]) (Tryz.f214.body.getD .skip) (xw Tryz.f214.results.toList):=(xB (xg (by kernel_rfl)) xA xqF)
variable{σ:Type}{I:Port Tryz.prog σ}
theorem xqG(hl:SoundL I ka8):SoundF I 214 xcw:=by
 refine sq hl xa Tryz.func214 fun _ _ t ht =>?_
 unfold xcw at ht
 split at ht
 .rename_i n x L
  cases ht
  refine(xE (P:= Tryz.prog) (n:=xa) (x:=(lsAt ZI .no [1,0,1,0])) (fn:= Tryz.f214) (H :=[some ⟨[], 3,true,some (.col .i64 L)⟩]) (c:= Tryz.f214.body.getD .skip) (xg (by kernel_rfl)) xm7).symm.trans ?_
  exact ey (xm6 n L x _)
 .cases ht
def ka8b:List (Nat×Sm):=(214,xcw)::ka8
theorem xAB:SoundL I ka8b:=(.cons (xqG s_ka8) s_ka8)
end Lx
namespace Lx
variable{β:Type}(g:Geo)
open Go
def xeO(n:Nat)(L:IntsL)(x:Int)(κ:Bool->T β):T β:=
 (xaE n L x).bind fun r0=>
 κ (decide (r0>=0))
def xcx(n:Nat)(L:IntsL)(x:Int):T Bool:=xeO n L x .ret
theorem xqH(n L x)(κ:Bool->T β):(xcx n L x).bind κ=xeO n L x κ:=by
 unfold xcx xeO
 simp only[bz]
def xgS:Sm:=fun
 | [.c (.slr 0 n),.c (.int .i64 x)],[some ⟨[], 3,true,some (.col .i64 L)⟩]=>some (mkS Bool (xcx n L x) fun r=>some (.c (.bool r),[some ⟨[], 3,true,some (.col .i64 L)⟩]))
 | _,_=>none
variable{σ:Type}{I:Port Tryz.prog σ}
theorem xur(hl:SoundL I ka8b):SoundF I 166 xgS:=by
 refine sq hl 1 Tryz.func166 fun _ _ t ht =>?_
 unfold xgS at ht
 split at ht
 .rename_i n x L
  cases ht
  exact ey (xqH n L x _)
 .cases ht
def ka8c:List (Nat×Sm):=(166,xgS)::ka8b
theorem xus:SoundL I ka8c:=(.cons (xur xAB) xAB)
end Lx
namespace Lx
variable{β:Type}(g:Geo)
open Go
def xcy(a1 a2 a3:Int)(g5:Geo)(κ0:Nat->IntsL->T β)(i:Nat×Int×IntsL)(k:Nat×Int×IntsL->T β):T β:=
 bif decide (i.2.1<2)then(.op (.load (atF g5 14 (inF a1 i.2.1 2))) fun x1=>
 bif Nat.beq (List.length i.2.2) i.1&&Nat.ble i.1 1000 then(k (i.1+1,i64.wrap (i.2.1+1),i.2.2 ++ [i64.wrap x1])) else
 .fail) else
 κ0 i.1 (i.2.2)
def wi(a1 a2 a3:Int)(g5:Geo)(n0:Nat)(a4:Int)(l6:IntsL)(κ0:Nat->IntsL->T β):T β:=xu xa (xcy a1 a2 a3 g5 κ0) (n0,a4,l6)
theorem xgT{β γ:Type}(a1 a2 a3 g5 n0 a4 l6 κ0)(κ:β->T γ):(wi a1 a2 a3 g5 n0 a4 l6 κ0).bind κ=wi a1 a2 a3 g5 n0 a4 l6 (fun Cw I4=>(κ0 Cw I4).bind κ):=by
 unfold wi
 refine xi κ (fun i k =>?_) _ _
 unfold xcy
 simp only[bz]
def xgU:Pat:=⟨xk 108 0 [(0,.c (.raw (.port))),(3,.c (.raw (.ptr 0 0))),(4,.c (.slr 1)),(5,.c (.int .i64)),(23,.c (.int .i64)),(24,.c (.int .i64)),(27,.c (.int .i64))],[some ⟨[.geo], 26,false,none⟩,some ⟨[], 3,true,some (.col .i64)⟩]⟩
def XM:Pat:=⟨xk 108 0 [(0,.c (.raw (.port))),(3,.c (.raw (.ptr 0 0))),(4,.c (.slr 1)),(23,.c (.int .i64)),(24,.c (.int .i64))],[some ⟨[.geo], 26,false,none⟩,some ⟨[], 3,true,some (.col .i64)⟩]⟩
def qS:LF:=fun st K=>match xr xgU st with
 | some [.n n0,.i a1,.i a2,.i a3,.i a4,.g g5,.l l6]=>some (wi a1 a2 a3 g5 n0 a4 l6 (fun Cw I4=>K (.exit 2) (xe XM [.n Cw,.i a2,.i a3,.g g5,.l I4])))
 | _=>none
theorem xut : ∀st K t,qS st K=some t->xD xa (lf ka8c (⟨xa,[⟨4, 3,.col .i64⟩],true⟩:Fu) 0 .no [1,1,1,0,1,0,0,1,1,0,0,1,1,0] Tryz.f235 K) st=t:=by
 intro st K t h
 unfold qS at h
 split at h
 .rename_i n0 a1 a2 a3 a4 g5 l6 hm
  cases h
  rw[xj hm]
  unfold wi
  exact xt (S:=fun(i:Nat×Int×IntsL)=>xe xgU [.n i.1,.i a1,.i a2,.i a3,.i i.2.1,.g g5,.l i.2.2]) (fun i k=>by kernel_rfl) xa (n0,a4,l6)
 .cases h
def xcz(a1:Int)(g3:Geo)(κ0:Nat->IntsL->T β)(i:Nat×Int×IntsL)(k:Nat×Int×IntsL->T β):T β:=
 bif decide (i.2.1<a1)then(wi i.2.1 a1 i.2.1 g3 i.1 0 i.2.2 (fun d7 Cg=>
 k (d7,i64.wrap (i.2.1+1),Cg))) else
 κ0 i.1 (i.2.2)
def wj(a1:Int)(g3:Geo)(n0:Nat)(a2:Int)(l4:IntsL)(κ0:Nat->IntsL->T β):T β:=xu xa (xcz a1 g3 κ0) (n0,a2,l4)
theorem xgV{β γ:Type}(a1 g3 n0 a2 l4 κ0)(κ:β->T γ):(wj a1 g3 n0 a2 l4 κ0).bind κ=wj a1 g3 n0 a2 l4 (fun Cw I5=>(κ0 Cw I5).bind κ):=by
 unfold wj
 refine xi κ (fun i k =>?_) _ _
 unfold xcz
 simp only[bz,xgT]
def xqI:Pat:=⟨xk 108 0 [(0,.c (.raw (.port))),(3,.c (.raw (.ptr 0 0))),(4,.c (.slr 1))],[some ⟨[.geo], 26,false,none⟩,some ⟨[], 3,true,some (.col .i64)⟩]⟩
def Wf:LF:=fun st K=>match xr XM st with
 | some [.n n0,.i a1,.i a2,.g g3,.l l4]=>some (wj a1 g3 n0 a2 l4 (fun Cw I5=>K (.exit 0) (xe xqI [.n Cw,.g g3,.l I5])))
 | _=>none
theorem xuu : ∀st K t,Wf st K=some t->xD xa (lf ka8c (⟨xa,[⟨4, 3,.col .i64⟩],true⟩:Fu) 0 (lsAt qS .no [1,1,0,0,1,1,0]) [1,1,1,0,1,0] Tryz.f235 K) st=t:=by
 intro st K t h
 unfold Wf at h
 split at h
 .rename_i n0 a1 a2 g3 l4 hm
  cases h
  rw[xj hm]
  unfold wj
  exact xt (S:=fun(i:Nat×Int×IntsL)=>xe XM [.n i.1,.i a1,.i i.2.1,.g g3,.l i.2.2]) (fun i k=>by kernel_rfl) xa (n0,a2,l4)
 .cases h
def xcA(n0:Nat)(a2:Int)(g4:Geo)(l5:IntsL)(κ0:Int->T β)(i:Int×Int)(k:Int×Int->T β):T β:=
 bif decide (i.2<a2)then(.op (.self) fun x1=>
 bif atF g4 16 (inF x1 i.2 (qt g4))==(-1)then(κ0 i.1) else
 .op (.self) fun x3=>
 .op (.load (atF g4 16 (inF x3 i.2 (qt g4)))) fun x4=>
 (xcx n0 l5 (i64.wrap x4)).bind fun r5=>
 bif r5 then(.op (.self) fun x7=>
 .op (.store (atF g4 16 (inF x7 i.1 (qt g4))) (u64.wrap (i64.wrap x4))) fun _=>
 k (i64.wrap (i.1+1),i64.wrap (i.2+1))) else
 (xjV g4 (i64.wrap x4)).bind fun r7=>
 k (i.1,i64.wrap (i.2+1))) else
 κ0 (i.1)
def wQ(n0:Nat)(a2:Int)(g4:Geo)(l5:IntsL)(a1 a3:Int)(κ0:Int->T β):T β:=xu xa (xcA n0 a2 g4 l5 κ0) (a1,a3)
theorem xgW{β γ:Type}(n0 a2 g4 l5 a1 a3 κ0)(κ:β->T γ):(wQ n0 a2 g4 l5 a1 a3 κ0).bind κ=wQ n0 a2 g4 l5 a1 a3 (fun cg=>(κ0 cg).bind κ):=by
 unfold wQ
 refine xi κ (fun i k =>?_) _ _
 unfold xcA
 simp only[bz]
def xgX:Pat:=⟨xk 108 0 [(0,.c (.raw (.port))),(3,.c (.raw (.ptr 0 0))),(4,.c (.slr 1)),(7,.c (.int .i64)),(54,.c (.int .i64)),(55,.c (.int .i64))],[some ⟨[.geo], 26,false,none⟩,some ⟨[], 3,true,some (.col .i64)⟩]⟩
def xqJ:Pat:=⟨xk 108 0 [(0,.c (.raw (.port))),(3,.c (.raw (.ptr 0 0))),(7,.c (.int .i64))],[some ⟨[.geo], 26,false,none⟩]⟩
def Wg:LF:=fun st K=>match xr xgX st with
 | some [.n n0,.i a1,.i a2,.i a3,.g g4,.l l5]=>some (wQ n0 a2 g4 l5 a1 a3 (fun cg=>K (.exit 4) (xe xqJ [.i cg,.g g4])))
 | _=>none
theorem xuv : ∀st K t,Wg st K=some t->xD xa (lf ka8c (⟨xa,[⟨4, 3,.col .i64⟩],true⟩:Fu) 0 .no [1,1,1,1,1,0,1,0] Tryz.f235 K) st=t:=by
 intro st K t h
 unfold Wg at h
 split at h
 .rename_i n0 a1 a2 a3 g4 l5 hm
  cases h
  rw[xj hm]
  unfold wQ
  exact xt (S:=fun(i:Int×Int)=>xe xgX [.n n0,.i i.1,.i a2,.i i.2,.g g4,.l l5]) (fun i k=>by kernel_rfl) xa (a1,a3)
 .cases h
def xeP(κ:Unit->T β):T β:=
 .op (.self) fun x0=>
 (kO g (atF g 15 x0)).bind fun r1=>
 bif r1 then(κ ()) else
 wj g.threads g 0 0 ([]) (fun d6 t8=>
 .op (.self) fun x4=>
 .op (.load (atF g 15 x4)) fun x5=>
 wQ d6 (i64.wrap x5) g t8 0 0 (fun bo=>
 .op (.self) fun x7=>
 .op (.store (atF g 15 x7) (u64.wrap bo)) fun _=>
 κ ()))
def xcB:T Unit:=xeP g .ret
theorem xqK(κ:Unit->T β):(xcB g).bind κ=xeP g κ:=by
 unfold xcB xeP
 simp only[bz,xgV,xgW]
def xaF:Sm:=fun
 | [.c .port,.agg gc],[]=>(match xF gc with
   | some g=>some (mkS Unit (xcB g) fun r=>some (.tup [],[]))
   | _=>none)
 | _,_=>none
theorem xqL:Good Tryz.prog (xp ka8c) (⟨xa,[⟨4, 3,.col .i64⟩],true⟩:Fu) 0 (mrg (lsAt Wf (lsAt qS .no [1,1,0,0,1,1,0]) [1,1,1,0,1,0]) (lsAt Wg .no [1,1,1,1,1,0,1,0])) (Tryz.f235.body.getD .skip) (xw Tryz.f235.results.toList):=(yF (xB (xg (by kernel_rfl)) (vS (p :=[1,1,1,0,1,0]) (q :=[1,1,0,0,1,1,0]) (xg (fn:= Tryz.f235) (by kernel_rfl)) xA xut (by kernel_rfl)) xuu) (xB (xg (by kernel_rfl)) xA xuv))
variable{σ:Type}{I:Port Tryz.prog σ}
theorem xgY(hl:SoundL I ka8c):SoundF I 235 xaF:=by
 refine vD hl (⟨xa,[⟨4, 3,.col .i64⟩],true⟩:Fu) Tryz.func235 (by kernel_rfl) (by kernel_rfl) fun _ _ t ht =>?_
 unfold xaF at ht
 split at ht
 .rename_i gc
  split at ht
  .rename_i g hg
   obtain rfl:=xm hg
   cases ht
   refine(xE (P:= Tryz.prog) (n:=(⟨xa,[⟨4, 3,.col .i64⟩],true⟩:Fu)) (x:=(mrg (lsAt Wf (lsAt qS .no [1,1,0,0,1,1,0]) [1,1,1,0,1,0]) (lsAt Wg .no [1,1,1,1,1,0,1,0]))) (fn:= Tryz.f235) (H :=[]) (c:= Tryz.f235.body.getD .skip) (xg (by kernel_rfl)) xqL).symm.trans ?_
   exact ey (xqK g _)
  .cases ht
 .cases ht
def ka8d:List (Nat×Sm):=(235,xaF)::ka8c
theorem s_ka8d:SoundL I ka8d:=(.cons (xgY xus) xus)
end Lx
namespace Lx
variable{β:Type}(g:Geo)
open Go
def Wh(n:Int)(κ:Unit->T β):T β:=
 .op (.self) fun x0=>
 (YS g (atF g 15 x0) (atF g 17 (inF (i64.wrap (n-1)) 0 1))).bind fun r1=>
 bif r1 then(κ ()) else
 .op (.self) fun x3=>
 .op (.load (atF g 15 x3)) fun x4=>
 .op (.self) fun x5=>
 bif atF g 16 (inF x5 (i64.wrap x4) (qt g))==(-1)then(κ ()) else
 .op (.self) fun x7=>
 .op (.store (atF g 16 (inF x7 (i64.wrap x4) (qt g))) (u64.wrap n)) fun _=>
 .op (.self) fun x9=>
 .op (.store (atF g 15 x9) (u64.wrap (i64.wrap (i64.wrap x4+1)))) fun _=>
 bif decide (i64.wrap (i64.wrap x4+1)>i64.wrap (2*g.threads))then((xcB g).bind fun dq=>
 κ ()) else
 κ ()
def qT(n:Int):T Unit:=Wh g n .ret
theorem xi9(n)(κ:Unit->T β):(qT g n).bind κ=Wh g n κ:=by
 unfold qT Wh
 simp only[bz]
def xgZ:Sm:=gS fun
 | g,[.c (.int .i64 n)]=>some (mkS Unit (qT g n) fun r=>some (.tup [],[]))
 | _,_=>none
variable{σ:Type}{I:Port Tryz.prog σ}
theorem xm8(hl:SoundL I ka8d):SoundF I 218 xgZ:=by
 refine gsq hl 1 Tryz.func218 fun g l t ht =>?_
 split at ht
 .rename_i n
  cases ht
  exact ey (xi9 g n _)
 .cases ht
def ka8e:List (Nat×Sm):=(218,xgZ)::(235,xaF)::ka8
theorem xcC:SoundL I ka8e:=(.cons (xm8 s_ka8d) (.cons (xgY xus) s_ka8))
end Lx
namespace Lx
variable{β:Type}(g:Geo)
open Go
def xeQ(c it fi:Int)(κ:Bool->T β):T β:=
 (acqT g).bind fun r0=>
 bif r0==0 then(κ false) else
 .op (.store (atF g 18 (inF (i64.wrap (r0-1)) 0 8)) it) fun _=>
 .op (.store (atF g 18 (inF (i64.wrap (r0-1)) 1 8)) 0) fun _=>
 .op (.store (atF g 18 (inF (i64.wrap (r0-1)) 2 8)) 0) fun _=>
 .op (.store (atF g 18 (inF (i64.wrap (r0-1)) 3 8)) 0) fun _=>
 .op (.store (atF g 18 (inF (i64.wrap (r0-1)) 4 8)) 0) fun _=>
 .op (.store (atF g 18 (inF (i64.wrap (r0-1)) 5 8)) 0) fun _=>
 .op (.store (atF g 18 (inF (i64.wrap (r0-1)) 6 8)) 0) fun _=>
 .op (.store (atF g 18 (inF (i64.wrap (r0-1)) 7 8)) 0) fun _=>
 .op (.store (atF g 17 (inF (i64.wrap (r0-1)) 0 1)) (Ref.word (Ref.mk fi false 0))) fun _=>
 .op (.self) fun sa=>
 .op (.store (atF g 13 (inF sa c 4)) (Ref.word (Ref.mk r0 false 0))) fun _=>
 κ (true)
def xcD(c it fi:Int):T Bool:=xeQ g c it fi .ret
theorem xqM(c it fi)(κ:Bool->T β):(xcD g c it fi).bind κ=xeQ g c it fi κ:=by
 unfold xcD xeQ
 simp only[bz]
def xg0(a0 a1 a2:Int)(b3:Bool)(g5:Geo)(κ0:Int->T β)(κ1:Unit->T β)(κ2:Unit->T β)(i:Int×Int×Bool×Int)(k:Int×Int×Bool×Int->T β):T β:=
 bif i.2.1 != 0 then((jt g5 i.2.1).bind fun r1=>
 bif r1.2 then(κ0 r1.1) else
 (xds g5 (i64.wrap (1-i.1)) (atF g5 17 (inF (i64.wrap (i.2.1-1)) 0 1))).bind fun r3=>
 bif r3.mark then(κ1 ()) else
 k (i64.wrap (1-i.1),r3.1,r3.mark,r3.ver)) else
 κ2 ()
def jE(a0 a1 a2:Int)(b3:Bool)(g5:Geo)(a4 a6:Int)(b7:Bool)(a8:Int)(κ0:Int->T β)(κ1:Unit->T β)(κ2:Unit->T β):T β:=xu xa (xg0 a0 a1 a2 b3 g5 κ0 κ1 κ2) (a4,a6,b7,a8)
theorem xja{β γ:Type}(a0 a1 a2 b3 g5 a4 a6 b7 a8 κ0 κ1 κ2)(κ:β->T γ):(jE a0 a1 a2 b3 g5 a4 a6 b7 a8 κ0 κ1 κ2).bind κ=jE a0 a1 a2 b3 g5 a4 a6 b7 a8 (fun fj=>(κ0 fj).bind κ) (fun u=>(κ1 u).bind κ) (fun u=>(κ2 u).bind κ):=by
 unfold jE
 refine xi κ (fun i k =>?_) _ _
 unfold xg0
 simp only[bz]
def xj1:Pat:=⟨xk 47 0 [(0,.c (.raw (.port))),(2,.c (.int .i64)),(3,.c (.int .i64)),(5,.c (.raw (.ptr 0 0))),(8,.c (.int .u64)),(9,.c (.bool)),(10,.c (.int .i64)),(11,.c (.raw (.ptr 1 0)))],[some ⟨[.geo], 26,false,none⟩,some ⟨[.int .i64,.bool,.int .u32], 178,false,none⟩]⟩
def jF:Pat:=⟨xk 47 0 [(0,.c (.raw (.port))),(2,.c (.int .i64)),(3,.c (.int .i64)),(5,.c (.raw (.ptr 0 0))),(8,.c (.int .u64)),(9,.c (.bool))],[some ⟨[.geo], 26,false,none⟩]⟩
def XN:LF:=fun st K=>match xr xj1 st with
 | some [.i a0,.i a1,.i a2,.b b3,.i a4,.g g5,.i a6,.b b7,.i a8]=>some (jE a0 a1 a2 b3 g5 a4 a6 b7 a8 (fun fj=>K (.ret) (xe jF [.i a0,.i a1,.i fj,.b true,.g g5])) (fun _=>K (.exit 1) (xe jF [.i a0,.i a1,.i a2,.b b3,.g g5])) (fun _=>K (.exit 2) (xe jF [.i a0,.i a1,.i a2,.b b3,.g g5])))
 | _=>none
theorem xym : ∀st K t,XN st K=some t->xD xa (lf ka8e xa 0 .no [1,0,1,0,0,0,1,1,0,0] Tryz.f250 K) st=t:=by
 intro st K t h
 unfold XN at h
 split at h
 .rename_i a0 a1 a2 b3 a4 g5 a6 b7 a8 hm
  cases h
  rw[xj hm]
  unfold jE
  exact xt (S:=fun(i:Int×Int×Bool×Int)=>xe xj1 [.i a0,.i a1,.i a2,.b b3,.i i.1,.g g5,.i i.2.1,.b i.2.2.1,.i i.2.2.2]) (fun i k=>by kernel_rfl) xa (a4,a6,b7,a8)
 .cases h
def xg1(a0 a1 a2:Int)(b3:Bool)(g4:Geo)(κ0:Int->T β)(κ1:Unit->T β)(i:Unit)(k:Unit->T β):T β:=
 (xds g4 0 (atF g4 13 (inF a1 a0 4))).bind fun r0=>
 jE a0 a1 a2 b3 g4 0 r0.1 r0.mark r0.ver (fun d7=>
 κ0 d7) (fun d7=>
 k ()) (fun d7=>
 κ1 ())
def jG(a0 a1 a2:Int)(b3:Bool)(g4:Geo)  (κ0:Int->T β) (κ1:Unit->T β):T β:=xu xa (xg1 a0 a1 a2 b3 g4 κ0 κ1) ()
theorem xjb{β γ:Type}(a0 a1 a2:Int)(b3:Bool)(g4:Geo)  (κ0:Int->T β) (κ1:Unit->T β) (κ:β->T γ):(jG a0 a1 a2 b3 g4  κ0 κ1).bind κ=jG a0 a1 a2 b3 g4  (fun cg=>(κ0 cg).bind κ) (fun u=>(κ1 u).bind κ):=by
 unfold jG
 refine xi κ (fun i k =>?_) _ _
 unfold xg1
 simp only[bz,xja]
def xg2:Pat:=⟨xk 47 0 [(8,.c (.int .u64)),(9,.c (.bool))],[]⟩
def xaG:LF:=fun st K=>match xr jF st with
 | some [.i a0,.i a1,.i a2,.b b3,.g g4]=>some (jG a0 a1 a2 b3 g4  (fun cg=>K (.ret) (xe xg2 [.i cg,.b true])) (fun _=>K (.ret) (xe xg2 [.i 0,.b false])))
 | _=>none
theorem xyn : ∀st K t,xaG st K=some t->xD xa (lf ka8e xa 0 (lsAt XN .no [0,1,1,0,0]) [1,0,1,0] Tryz.f250 K) st=t:=by
 intro st K t h
 unfold xaG at h
 split at h
 .rename_i a0 a1 a2 b3 g4 hm
  cases h
  rw[xj hm]
  unfold jG
  exact xt (S:=fun(i:Unit)=>xe jF [.i a0,.i a1,.i a2,.b b3,.g g4]) (fun i k=>by kernel_rfl) xa ()
 .cases h
def xm9(c t:Int)(κ:(Int×Bool)->T β):T β:=
 jG c t 0 false g (fun av=>
 κ (av,true)) (fun av=>
 κ (0,false))
def xj2(c t:Int):T (Int×Bool):=xm9 g c t .ret
theorem xuw(c t)(κ:(Int×Bool)->T β):(xj2 g c t).bind κ=xm9 g c t κ:=by
 unfold xj2 xm9
 simp only[bz,xjb]
def xaH(κ:Unit->T β):T β:=
 (VK g 0).bind fun r0=>
 (VK g 1).bind fun r1=>
 κ ()
def ZJ:T Unit:=xaH g .ret
theorem xna(κ:Unit->T β):(ZJ g).bind κ=xaH g κ:=by
 unfold ZJ xaH
 simp only[bz]
def xcE(g2:Geo)(κ0:Unit->T β)(i:Int×Int)(k:Int×Int->T β):T β:=
 bif i.2 != 0 then((xjH g2 i.2).bind fun r1=>
 bif !r1 then(.op (.load (atF g2 17 (inF (i64.wrap (i.2-1)) 0 1))) fun x3=>
 k (atF g2 17 (inF (i64.wrap (i.2-1)) 0 1),ofW i64 x3 0 24)) else
 .op (.load (atF g2 17 (inF (i64.wrap (i.2-1)) 0 1))) fun x3=>
 .op (.store i.1 (Ref.word (Ref.mk (ofW i64 x3 0 24) false 0))) fun _=>
 .op (.store (atF g2 17 (inF (i64.wrap (i.2-1)) 0 1)) (Ref.word (Ref.mk (ofW i64 x3 0 24) true 0))) fun _=>
 (qT g2 i.2).bind fun r6=>
 .op (.load i.1) fun x7=>
 k (i.1,ofW i64 x7 0 24)) else
 κ0 ()
def wR(g2:Geo)(a0 a1:Int)(κ0:Unit->T β):T β:=xu xa (xcE g2 κ0) (a0,a1)
theorem xg3{β γ:Type}(g2 a0 a1 κ0)(κ:β->T γ):(wR g2 a0 a1 κ0).bind κ=wR g2 a0 a1 (fun u=>(κ0 u).bind κ):=by
 unfold wR
 refine xi κ (fun i k =>?_) _ _
 unfold xcE
 simp only[bz]
def xg4:Pat:=⟨xk 72 0 [(0,.c (.raw (.port))),(4,.c (.raw (.ptr 0 0))),(6,.c (.int .i64)),(7,.c (.int .i64))],[some ⟨[.geo], 26,false,none⟩]⟩
def xqN:Pat:=⟨xk 72 0 [],[]⟩
def Wj:LF:=fun st K=>match xr xg4 st with
 | some [.i a0,.i a1,.g g2]=>some (wR g2 a0 a1 (fun _=>K (.exit 0) (xe xqN [])))
 | _=>none
theorem xux : ∀st K t,Wj st K=some t->xD xa (lf ka8e xa 0 .no [1,1,1,1,0] Tryz.f182 K) st=t:=by
 intro st K t h
 unfold Wj at h
 split at h
 .rename_i a0 a1 g2 hm
  cases h
  rw[xj hm]
  unfold wR
  exact xt (S:=fun(i:Int×Int)=>xe xg4 [.i i.1,.i i.2,.g g2]) (fun i k=>by kernel_rfl) xa (a0,a1)
 .cases h
def xeR(c:Int)(κ:Unit->T β):T β:=
 (XA g c).bind fun r0=>
 bif r0 then(κ ()) else
 .op (.self) fun x2=>
 .op (.load (atF g 13 (inF x2 c 4))) fun x3=>
 wR g (atF g 13 (inF x2 c 4)) (ofW i64 x3 0 24) (fun gw=>
 κ ())
def XO(c:Int):T Unit:=xeR g c .ret
theorem xqO(c)(κ:Unit->T β):(XO g c).bind κ=xeR g c κ:=by
 unfold XO xeR
 simp only[bz,xg3]
def xeS(c:Cal)(r0:Res)(κ:Res->T β):T β:=
 bif r0.e==0 then((xcb c).bind fun r1=>
 (Wa g r1).bind fun r2=>
 κ r0) else
 (Zz r0).bind fun r1=>
 bif r1 then((jC g).bind fun r3=>
 κ r0) else
 κ r0
def VW(c:Cal)(r0:Res):T Res:=xeS g c r0 .ret
theorem xqP(c r0)(κ:Res->T β):(VW g c r0).bind κ=xeS g c r0 κ:=by
 unfold VW xeS
 simp only[bz]
def xqQ:Sm:=gS fun
 | g,[.c (.int .i64 c),.c (.int .u64 it),.c (.int .i64 fi)]=>some (mkS Bool (xcD g c it fi) fun r=>some (.c (.bool r),[]))
 | _,_=>none
variable{σ:Type}{I:Port Tryz.prog σ}
theorem xuy(hl:SoundL I ka8e):SoundF I 206 xqQ:=by
 refine gsq hl 10 Tryz.func206 fun g l t ht =>?_
 split at ht
 .rename_i c it fi
  cases ht
  exact ey (xqM g c it fi _)
 .cases ht
def xnb:Sm:=fun
 | [.c .port,.agg gc,.c (.int .i64 c),.c (.int .i64 t)],[]=>(match xF gc with
   | some g=>some (mkS ((Int×Bool)) (xj2 g c t) fun r=>some (.tup [.c (.int .u64 r.1),.c (.bool r.2)],[]))
   | _=>none)
 | _,_=>none
theorem xuz:Good Tryz.prog (xp ka8e) xa 0 (lsAt xaG (lsAt XN .no [0,1,1,0,0]) [1,0,1,0]) (Tryz.f250.body.getD .skip) (xw Tryz.f250.results.toList):=(xB (xg (by kernel_rfl)) (vS (p :=[1,0,1,0]) (q :=[0,1,1,0,0]) (xg (fn:= Tryz.f250) (by kernel_rfl)) xA xym (by kernel_rfl)) xyn)
theorem xyo(hl:SoundL I ka8e):SoundF I 250 xnb:=by
 refine sq hl xa Tryz.func250 fun _ _ t ht =>?_
 unfold xnb at ht
 split at ht
 .rename_i gc c t
  split at ht
  .rename_i g hg
   obtain rfl:=xm hg
   cases ht
   refine(xE (P:= Tryz.prog) (n:=xa) (x:=(lsAt xaG (lsAt XN .no [0,1,1,0,0]) [1,0,1,0])) (fn:= Tryz.f250) (H :=[]) (c:= Tryz.f250.body.getD .skip) (xg (by kernel_rfl)) xuz).symm.trans ?_
   exact ey (xuw g c t _)
  .cases ht
 .cases ht
def xj3:Sm:=gS fun
 | g,[]=>some (mkS Unit (ZJ g) fun r=>some (.tup [],[]))
 | _,_=>none
theorem xqR(hl:SoundL I ka8e):SoundF I 251 xj3:=by
 refine gsq hl 1 Tryz.func251 fun g l t ht =>?_
 split at ht
 .cases ht
  exact ey (xna g _)
 .cases ht
def xg5:Sm:=fun
 | [.c .port,.agg gc,.c (.int .i64 c)],[]=>(match xF gc with
   | some g=>some (mkS Unit (XO g c) fun r=>some (.tup [],[]))
   | _=>none)
 | _,_=>none
theorem xqS:Good Tryz.prog (xp ka8e) xa 0 (lsAt Wj .no [1,1,1,1,0]) (Tryz.f182.body.getD .skip) (xw Tryz.f182.results.toList):=(xB (xg (by kernel_rfl)) xA xux)
theorem xuA(hl:SoundL I ka8e):SoundF I 182 xg5:=by
 refine sq hl xa Tryz.func182 fun _ _ t ht =>?_
 unfold xg5 at ht
 split at ht
 .rename_i gc c
  split at ht
  .rename_i g hg
   obtain rfl:=xm hg
   cases ht
   refine(xE (P:= Tryz.prog) (n:=xa) (x:=(lsAt Wj .no [1,1,1,1,0])) (fn:= Tryz.f182) (H :=[]) (c:= Tryz.f182.body.getD .skip) (xg (by kernel_rfl)) xqS).symm.trans ?_
   exact ey (xqO g c _)
  .cases ht
 .cases ht
def xqT:Sm:=gS fun
 | g,[.agg cc,.agg r0c]=>(match Cal.of cc with
   | some c=>(match Res.of r0c with
   | some r0=>some (mkS Res (VW g c r0) fun r=>some (.agg r.cells,[]))
   | _=>none)
   | _=>none)
 | _,_=>none
theorem xuB(hl:SoundL I ka8e):SoundF I 110 xqT:=by
 refine gsq hl 1 Tryz.func110 fun g l t ht =>?_
 split at ht
 .rename_i cc r0c
  split at ht
  .rename_i c hc
   obtain rfl:=Cal.of_eq hc
   split at ht
   .rename_i r0 df
    obtain rfl:=Res.of_eq df
    cases ht
    exact ey (xqP g c r0 _)
   .cases ht
  .cases ht
 .cases ht
def ka9:List (Nat×Sm):=(206,xqQ)::(250,xnb)::(251,xj3)::(182,xg5)::(110,xqT)::ka8e
theorem s_ka9:SoundL I ka9:=(.cons (xuy xcC) (.cons (xyo xcC) (.cons (xqR xcC) (.cons (xuA xcC) (.cons (xuB xcC) xcC)))))
end Lx
namespace Lx
variable{β:Type}(g:Geo)
open Go
def xg6(a0 a1:Int)(b2:Bool)(a3:Int)(g5:Geo)(κ0:Unit->T β)(κ1:Unit->T β)(i:Int)(k:Int->T β):T β:=
 bif i != 0 then((Vs g5 i a1).bind fun r1=>
 bif r1 then(κ0 ()) else
 .op (.load (atF g5 17 (inF (i64.wrap (i-1)) 0 1))) fun x3=>
 k (ofW i64 x3 0 24)) else
 κ1 ()
def jH(a0 a1:Int)(b2:Bool)(a3:Int)(g5:Geo)(a4:Int)(κ0:Unit->T β)(κ1:Unit->T β):T β:=xu xa (xg6 a0 a1 b2 a3 g5 κ0 κ1) a4
theorem xjc{β γ:Type}(a0 a1 b2 a3 g5 a4 κ0 κ1)(κ:β->T γ):(jH a0 a1 b2 a3 g5 a4 κ0 κ1).bind κ=jH a0 a1 b2 a3 g5 a4 (fun u=>(κ0 u).bind κ) (fun u=>(κ1 u).bind κ):=by
 unfold jH
 refine xi κ (fun i k =>?_) _ _
 unfold xg6
 simp only[bz]
def xj4:Pat:=⟨xk 47 0 [(0,.c (.raw (.port))),(2,.c (.int .i64)),(3,.c (.int .u64)),(5,.c (.raw (.ptr 0 0))),(8,.c (.bool)),(9,.c (.int .i64)),(10,.c (.int .i64))],[some ⟨[.geo], 26,false,none⟩]⟩
def xg7:Pat:=⟨xk 47 0 [(0,.c (.raw (.port))),(2,.c (.int .i64)),(3,.c (.int .u64)),(5,.c (.raw (.ptr 0 0))),(8,.c (.bool)),(9,.c (.int .i64))],[some ⟨[.geo], 26,false,none⟩]⟩
def xaI:LF:=fun st K=>match xr xj4 st with
 | some [.i a0,.i a1,.b b2,.i a3,.i a4,.g g5]=>some (jH a0 a1 b2 a3 g5 a4 (fun _=>K (.ret) (xe xg7 [.i a0,.i a1,.b true,.i a3,.g g5])) (fun _=>K (.exit 0) (xe xg7 [.i a0,.i a1,.b b2,.i a3,.g g5])))
 | _=>none
theorem xyp : ∀st K t,xaI st K=some t->xD xa (lf ka9 xa 0 .no [1,1,0,1,0] Tryz.f158 K) st=t:=by
 intro st K t h
 unfold xaI at h
 split at h
 .rename_i a0 a1 b2 a3 a4 g5 hm
  cases h
  rw[xj hm]
  unfold jH
  exact xt (S:=fun(i:Int)=>xe xj4 [.i a0,.i a1,.b b2,.i a3,.i i,.g g5]) (fun i k=>by kernel_rfl) xa a4
 .cases h
def xnc(c it:Int)(κ:Bool->T β):T β:=
 .op (.self) fun x0=>
 .op (.load (atF g 13 (inF x0 c 4))) fun x1=>
 jH c it false (ofW i64 x1 0 24) g (ofW i64 x1 0 24) (fun cz=>
 κ true) (fun cz=>
 (xcD g c it (ofW i64 x1 0 24)).bind fun r3=>
 κ r3)
def xj5(c it:Int):T Bool:=xnc g c it .ret
theorem xuC(c it)(κ:Bool->T β):(xj5 g c it).bind κ=xnc g c it κ:=by
 unfold xj5 xnc
 simp only[bz,xjc]
def xcF(a0 a1:Int)(b2:Bool)(a3 a4:Int)(g6:Geo)(κ0:Int->T β)(κ1:Unit->T β)(i:Int)(k:Int->T β):T β:=
 bif decide (i<a4)then(.op (.self) fun x1=>
 bif bif g6.threads==0 then false else true then((xj2 g6 a0 (Int.tmod (i64.wrap (x1+i)) g6.threads)).bind fun r3=>
 bif r3.2 then((ZJ g6).bind fun r5=>
 κ0 r3.1) else
 k (i64.wrap (i+1))) else
 .fail) else
 κ1 ()
def wS(a0 a1:Int)(b2:Bool)(a3 a4:Int)(g6:Geo)(a5:Int)(κ0:Int->T β)(κ1:Unit->T β):T β:=xu xa (xcF a0 a1 b2 a3 a4 g6 κ0 κ1) a5
theorem xg8{β γ:Type}(a0 a1 b2 a3 a4 g6 a5 κ0 κ1)(κ:β->T γ):(wS a0 a1 b2 a3 a4 g6 a5 κ0 κ1).bind κ=wS a0 a1 b2 a3 a4 g6 a5 (fun bt=>(κ0 bt).bind κ) (fun u=>(κ1 u).bind κ):=by
 unfold wS
 refine xi κ (fun i k =>?_) _ _
 unfold xcF
 simp only[bz]
def xg9:Pat:=⟨xk 62 0 [(0,.c (.raw (.port))),(2,.c (.int .i64)),(4,.c (.raw (.ptr 0 0))),(6,.c (.int .u64)),(7,.c (.bool)),(8,.c (.int .u64)),(25,.c (.int .i64)),(26,.c (.int .i64))],[some ⟨[.geo], 26,false,none⟩]⟩
def xdC:Pat:=⟨xk 62 0 [(0,.c (.raw (.port))),(2,.c (.int .i64)),(4,.c (.raw (.ptr 0 0))),(6,.c (.int .u64)),(7,.c (.bool)),(8,.c (.int .u64))],[some ⟨[.geo], 26,false,none⟩]⟩
def qU:LF:=fun st K=>match xr xg9 st with
 | some [.i a0,.i a1,.b b2,.i a3,.i a4,.i a5,.g g6]=>some (wS a0 a1 b2 a3 a4 g6 a5 (fun bt=>K (.ret) (xe xdC [.i a0,.i bt,.b true,.i a3,.g g6])) (fun _=>K (.exit 2) (xe xdC [.i a0,.i a1,.b b2,.i a3,.g g6])))
 | _=>none
theorem xuD : ∀st K t,qU st K=some t->xD xa (lf ka9 xa 0 .no [1,1,0,0,0,1,0,1,0] Tryz.f240 K) st=t:=by
 intro st K t h
 unfold qU at h
 split at h
 .rename_i a0 a1 b2 a3 a4 a5 g6 hm
  cases h
  rw[xj hm]
  unfold wS
  exact xt (S:=fun(i:Int)=>xe xg9 [.i a0,.i a1,.b b2,.i a3,.i a4,.i i,.g g6]) (fun i k=>by kernel_rfl) xa a5
 .cases h
def xcG(a0 a1:Int)(b2:Bool)(g3:Geo)(κ0:Int->T β)(κ1:Unit->T β)(i:Unit)(k:Unit->T β):T β:=
 .op (.load (atF g3 5 a0)) fun x0=>
 wS a0 a1 b2 x0 g3.threads g3 0 (fun d7=>
 κ0 d7) (fun d7=>
 .op (.load (atF g3 5 a0)) fun x2=>
 bif x2==x0 then((ZJ g3).bind fun r4=>
 κ1 ()) else
 k ())
def wT(a0 a1:Int)(b2:Bool)(g3:Geo)  (κ0:Int->T β) (κ1:Unit->T β):T β:=xu xa (xcG a0 a1 b2 g3 κ0 κ1) ()
theorem xha{β γ:Type}(a0 a1:Int)(b2:Bool)(g3:Geo)  (κ0:Int->T β) (κ1:Unit->T β) (κ:β->T γ):(wT a0 a1 b2 g3  κ0 κ1).bind κ=wT a0 a1 b2 g3  (fun cg=>(κ0 cg).bind κ) (fun u=>(κ1 u).bind κ):=by
 unfold wT
 refine xi κ (fun i k =>?_) _ _
 unfold xcG
 simp only[bz,xg8]
def xhb:Pat:=⟨xk 62 0 [(0,.c (.raw (.port))),(2,.c (.int .i64)),(4,.c (.raw (.ptr 0 0))),(6,.c (.int .u64)),(7,.c (.bool))],[some ⟨[.geo], 26,false,none⟩]⟩
def xdD:Pat:=⟨xk 62 0 [(6,.c (.int .u64)),(7,.c (.bool))],[]⟩
def Wk:LF:=fun st K=>match xr xhb st with
 | some [.i a0,.i a1,.b b2,.g g3]=>some (wT a0 a1 b2 g3  (fun cg=>K (.ret) (xe xdD [.i cg,.b true])) (fun _=>K (.ret) (xe xdD [.i 0,.b false])))
 | _=>none
theorem xuE : ∀st K t,Wk st K=some t->xD xa (lf ka9 xa 0 (lsAt qU .no [0,1,0,1,0]) [1,1,0] Tryz.f240 K) st=t:=by
 intro st K t h
 unfold Wk at h
 split at h
 .rename_i a0 a1 b2 g3 hm
  cases h
  rw[xj hm]
  unfold wT
  exact xt (S:=fun(i:Unit)=>xe xhb [.i a0,.i a1,.b b2,.g g3]) (fun i k=>by kernel_rfl) xa ()
 .cases h
def xeT(c:Int)(κ:(Int×Bool)->T β):T β:=
 (XA g c).bind fun r0=>
 bif r0 then(κ (0,false)) else
 wT c 0 false g (fun cz=>
 κ (cz,true)) (fun cz=>
 κ (0,false))
def ZK(c:Int):T (Int×Bool):=xeT g c .ret
theorem xqU(c)(κ:(Int×Bool)->T β):(ZK g c).bind κ=xeT g c κ:=by
 unfold ZK xeT
 simp only[bz,xha]
def xnd:Sm:=fun
 | [.c .port,.agg gc,.c (.int .i64 c),.c (.int .u64 it)],[]=>(match xF gc with
   | some g=>some (mkS Bool (xj5 g c it) fun r=>some (.c (.bool r),[]))
   | _=>none)
 | _,_=>none
theorem xuF:Good Tryz.prog (xp ka9) xa 0 (lsAt xaI .no [1,1,0,1,0]) (Tryz.f158.body.getD .skip) (xw Tryz.f158.results.toList):=xB (xg (by kernel_rfl)) xA xyp
variable{σ:Type}{I:Port Tryz.prog σ}
theorem xyq(hl:SoundL I ka9):SoundF I 158 xnd:=by
 refine sq hl xa Tryz.func158 fun _ _ t ht =>?_
 unfold xnd at ht
 split at ht
 .rename_i gc c it
  split at ht
  .rename_i g hg
   obtain rfl:=xm hg
   cases ht
   refine(xE (P:= Tryz.prog) (n:=xa) (x:=(lsAt xaI .no [1,1,0,1,0])) (fn:= Tryz.f158) (H :=[]) (c:= Tryz.f158.body.getD .skip) (xg (by kernel_rfl)) xuF).symm.trans ?_
   exact ey (xuC g c it _)
  .cases ht
 .cases ht
def xhc:Sm:=fun
 | [.c .port,.agg gc,.c (.int .i64 c)],[]=>(match xF gc with
   | some g=>some (mkS ((Int×Bool)) (ZK g c) fun r=>some (.tup [.c (.int .u64 r.1),.c (.bool r.2)],[]))
   | _=>none)
 | _,_=>none
theorem xqV:Good Tryz.prog (xp ka9) xa 0 (lsAt Wk (lsAt qU .no [0,1,0,1,0]) [1,1,0]) (Tryz.f240.body.getD .skip) (xw Tryz.f240.results.toList):=xB (xg (by kernel_rfl)) (vS (p :=[1,1,0]) (q :=[0,1,0,1,0]) (xg (fn:= Tryz.f240) (by kernel_rfl)) xA xuD (by kernel_rfl)) xuE
theorem xuG(hl:SoundL I ka9):SoundF I 240 xhc:=by
 refine sq hl xa Tryz.func240 fun _ _ t ht =>?_
 unfold xhc at ht
 split at ht
 .rename_i gc c
  split at ht
  .rename_i g hg
   obtain rfl:=xm hg
   cases ht
   refine(xE (P:= Tryz.prog) (n:=xa) (x:=(lsAt Wk (lsAt qU .no [0,1,0,1,0]) [1,1,0])) (fn:= Tryz.f240) (H :=[]) (c:= Tryz.f240.body.getD .skip) (xg (by kernel_rfl)) xqV).symm.trans ?_
   exact ey (xqU g c _)
  .cases ht
 .cases ht
def ka10:List (Nat×Sm):=(158,xnd)::(240,xhc)::ka9
theorem xne:SoundL I ka10:=(.cons (xyq s_ka9) (.cons (xuG s_ka9) s_ka9))
end Lx
namespace Lx
variable{β:Type}(g:Geo)
open Go
def xnf(c it:Int)(κ:Bool->T β):T β:=
 (XA g c).bind fun r0=>
 bif r0 then(κ false) else
 bif it==0 then(κ false) else
 (xj5 g c it).bind fun r3=>
 bif !r3 then(κ false) else
 .op (.add (atF g 5 c) 1) fun x5=>
 κ (true)
def xj6(c it:Int):T Bool:=xnf g c it .ret
theorem xuH(c it)(κ:Bool->T β):(xj6 g c it).bind κ=xnf g c it κ:=by
 unfold xj6 xnf
 simp only[bz]
def xaJ(o c:Int)(κ:(Fnd×Int)->T β):T β:=
 (ZK g c).bind fun r0=>
 κ (⟨(i64.wrap (i64.wrap r0.1-1)),r0.2,0⟩,o)
def xaK(o c:Int):T (Fnd×Int):=xaJ g o c .ret
theorem xng(o c)(κ:(Fnd×Int)->T β):(xaK g o c).bind κ=xaJ g o c κ:=by
 unfold xaK xaJ
 simp only[bz]
def xhd(a0 a3:Int)(g4:Geo)(κ0:Int->T β)(i:Int×Bool×Int)(k:Int×Bool×Int->T β):T β:=
 bif i.2.1 then((yq g4 i.2.2 (i64.wrap (i64.wrap i.1-1))).bind fun r1=>
 (ZK g4 a0).bind fun r2=>
 k (r2.1,r2.2,r1.2)) else
 κ0 (i.2.2)
def jI(a0 a3:Int)(g4:Geo)(a1:Int)(b2:Bool)(a5:Int)(κ0:Int->T β):T β:=xu xa (xhd a0 a3 g4 κ0) (a1,b2,a5)
theorem xjd{β γ:Type}(a0 a3 g4 a1 b2 a5 κ0)(κ:β->T γ):(jI a0 a3 g4 a1 b2 a5 κ0).bind κ=jI a0 a3 g4 a1 b2 a5 (fun fj=>(κ0 fj).bind κ):=by
 unfold jI
 refine xi κ (fun i k =>?_) _ _
 unfold xhd
 simp only[bz]
def xj7:Pat:=⟨xk 40 0 [(0,.c (.raw (.ptr 0 0))),(2,.c (.int .i64)),(3,.c (.int .u64)),(4,.c (.bool)),(5,.c (.int .i64))],[some ⟨[.raw (.port),.geo,.int .u64], 169,false,none⟩]⟩
def VX:Pat:=⟨xk 40 0 [(0,.c (.raw (.ptr 0 0))),(5,.c (.int .i64))],[some ⟨[.raw (.port),.geo,.int .u64], 169,false,none⟩]⟩
def XP:LF:=fun st K=>match xr xj7 st with
 | some [.i a0,.i a1,.b b2,.i a3,.g g4,.i a5]=>some (jI a0 a3 g4 a1 b2 a5 (fun fj=>K (.exit 2) (xe VX [.i a3,.g g4,.i fj])))
 | _=>none
theorem xyr : ∀st K t,XP st K=some t->xD xa (lf ka10 xa 1 .no [1,0,0,1,1,0,0,1,1,0] Tryz.f237 K) st=t:=by
 intro st K t h
 unfold XP at h
 split at h
 .rename_i a0 a1 b2 a3 g4 a5 hm
  cases h
  rw[xj hm]
  unfold jI
  exact xt (S:=fun(i:Int×Bool×Int)=>xe xj7 [.i a0,.i i.1,.b i.2.1,.i a3,.g g4,.i i.2.2]) (fun i k=>by kernel_rfl) xa (a1,b2,a5)
 .cases h
def xhe(g1:Geo)(κ0:Int->T β)(i:Int×Int)(k:Int×Int->T β):T β:=
 bif decide (i.1<4)then((ZK g1 i.1).bind fun r1=>
 jI i.1 i.1 g1 r1.1 r1.2 i.2 (fun cz=>
 k (i64.wrap (i.1+1),cz))) else
 κ0 (i.2)
def jJ(g1:Geo)(a0 a2:Int)(κ0:Int->T β):T β:=xu xa (xhe g1 κ0) (a0,a2)
theorem xje{β γ:Type}(g1 a0 a2 κ0)(κ:β->T γ):(jJ g1 a0 a2 κ0).bind κ=jJ g1 a0 a2 (fun bt=>(κ0 bt).bind κ):=by
 unfold jJ
 refine xi κ (fun i k =>?_) _ _
 unfold xhe
 simp only[bz,xjd]
def xuI:Pat:=⟨xk 40 0 [],[some ⟨[.raw (.port),.geo,.int .u64], 169,false,none⟩]⟩
def xaL:LF:=fun st K=>match xr VX st with
 | some [.i a0,.g g1,.i a2]=>some (jJ g1 a0 a2 (fun bt=>K (.exit 0) (xe xuI [.g g1,.i bt])))
 | _=>none
theorem xys : ∀st K t,xaL st K=some t->xD xa (lf ka10 xa 1 (lsAt XP .no [1,1,0,0,1,1,0]) [1,0] Tryz.f237 K) st=t:=by
 intro st K t h
 unfold xaL at h
 split at h
 .rename_i a0 g1 a2 hm
  cases h
  rw[xj hm]
  unfold jJ
  exact xt (S:=fun(i:Int×Int)=>xe VX [.i i.1,.g g1,.i i.2]) (fun i k=>by kernel_rfl) xa (a0,a2)
 .cases h
def xnh(o:Int)(κ:(Unit×Int)->T β):T β:=
 jJ g 0 o (fun av=>
 κ ((),av))
def xj8(o:Int):T (Unit×Int):=xnh g o .ret
theorem xuJ(o)(κ:(Unit×Int)->T β):(xj8 g o).bind κ=xnh g o κ:=by
 unfold xj8 xnh
 simp only[bz,xje]
def xwQ:Sm:=gS fun
 | g,[.c (.int .i64 c),.c (.int .u64 it)]=>some (mkS Bool (xj6 g c it) fun r=>some (.c (.bool r),[]))
 | _,_=>none
variable{σ:Type}{I:Port Tryz.prog σ}
theorem xyt(hl:SoundL I ka10):SoundF I 101 xwQ:=by
 refine gsq hl 1 Tryz.func101 fun g l t ht =>?_
 split at ht
 .rename_i c it
  cases ht
  exact ey (xuH g c it _)
 .cases ht
def xcH:Sm:=fun
 | [.c (.ptr 0 0),.c (.int .i64 c)],[some ⟨.port::gc, 169,false,none⟩]=>(match hdOf gc with
   | some (g,o)=>some (mkS ((Fnd×Int)) (xaK g o c) fun r=>some (.agg r.1.cells,[some ⟨.port::(g.cells ++ [.int .u64 r.2]), 169,false,none⟩]))
   | _=>none)
 | _,_=>none
theorem xqW(hl:SoundL I ka10):SoundF I 222 xcH:=by
 refine sq hl 1 Tryz.func222 fun _ _ t ht =>?_
 unfold xcH at ht
 split at ht
 .rename_i c gc
  split at ht
  .rename_i g o hg
   obtain rfl:=yJ hg
   cases ht
   exact ey (xng g o c _)
  .cases ht
 .cases ht
def xni:Sm:=fun
 | [.c (.ptr 0 0)],[some ⟨.port::gc, 169,false,none⟩]=>(match hdOf gc with
   | some (g,o)=>some (mkS ((Unit×Int)) (xj8 g o) fun r=>some (.tup [],[some ⟨.port::(g.cells ++ [.int .u64 r.2]), 169,false,none⟩]))
   | _=>none)
 | _,_=>none
theorem xuK:Good Tryz.prog (xp ka10) xa 1 (lsAt xaL (lsAt XP .no [1,1,0,0,1,1,0]) [1,0]) (Tryz.f237.body.getD .skip) (xw Tryz.f237.results.toList):=xB (xg (by kernel_rfl)) (vS (p :=[1,0]) (q :=[1,1,0,0,1,1,0]) (xg (fn:= Tryz.f237) (by kernel_rfl)) xA xyr (by kernel_rfl)) xys
theorem xyu(hl:SoundL I ka10):SoundF I 237 xni:=by
 refine sq hl xa Tryz.func237 fun _ _ t ht =>?_
 unfold xni at ht
 split at ht
 .rename_i gc
  split at ht
  .rename_i g o hg
   obtain rfl:=yJ hg
   cases ht
   refine(xE (P:= Tryz.prog) (n:=xa) (x:=(lsAt xaL (lsAt XP .no [1,1,0,0,1,1,0]) [1,0])) (fn:= Tryz.f237) (H :=[some ⟨.port::(g.cells ++ [.int .u64 o]), 169,false,none⟩]) (c:= Tryz.f237.body.getD .skip) (xg (by kernel_rfl)) xuK).symm.trans ?_
   exact ey (xuJ g o _)
  .cases ht
 .cases ht
def ka11:List (Nat×Sm):=(101,xwQ)::(222,xcH)::(237,xni)::ka10
theorem xhf:SoundL I ka11:=(.cons (xyt xne) (.cons (xqW xne) (.cons (xyu xne) xne)))
end Lx
namespace Lx
variable{β:Type}(g:Geo)
open Go
def xeU(o:Int)(κ:(Bool×Int)->T β):T β:=
 (YZ g o).bind fun r0=>
 (xj8 g r0.2).bind fun r1=>
 (qP g r1.2).bind fun r2=>
 (tryT g).bind fun r3=>
 bif !r3 then(κ (false,r2.2)) else
 (vM g).bind fun r5=>
 (yX g r2.2 r5).bind fun r6=>
 (qQ g r6.2).bind fun r7=>
 (XC g).bind fun r8=>
 κ (true,r7.2)
def XQ(o:Int):T (Bool×Int):=xeU g o .ret
theorem xqX(o)(κ:(Bool×Int)->T β):(XQ g o).bind κ=xeU g o κ:=by
 unfold XQ xeU
 simp only[bz]
def Wl(k:Int)(κ:Unit->T β):T β:=
 (qy g).bind fun r0=>
 bif r0 then(κ ()) else
 bif atF g 11 k==(-1)then(κ ()) else
 (ks g k).bind fun r3=>
 bif r3.kind==4 then((markT g (i64.wrap (Int.tdiv k 8)) r3.len).bind fun r5=>
 bif r5 then((yX g 0 1).bind fun r7=>
 (qR g r7.2).bind fun r8=>
 κ ()) else
 κ ()) else
 bif r3.kind != 3 then(κ ()) else
 .op (.self) fun x6=>
 bif r3.owner != x6 then((xjP g k).bind fun r8=>
 (yX g 0 1).bind fun r9=>
 κ ()) else
 (xjF g r3.cls (u64.wrap (u64.wrap k+1))).bind fun r8=>
 bif r8 then((yX g 0 1).bind fun ck=>
 κ ()) else
 (xj6 g r3.cls (u64.wrap (u64.wrap k+1))).bind fun ck=>
 bif ck then((yX g 0 1).bind fun dq=>
 κ ()) else
 (Vz g k).bind fun dq=>
 (yX g 0 1).bind fun gy=>
 κ ()
def kx(k:Int):T Unit:=Wl g k .ret
theorem xjf(k)(κ:Unit->T β):(kx g k).bind κ=Wl g k κ:=by
 unfold kx Wl
 simp only[bz]
def xcI(a0 a3:Int)(g4 g5:Geo)(κ0:Int->T β)(i:Int×Bool×Int)(k:Int×Bool×Int->T β):T β:=
 bif i.2.1 then((yq g5 i.2.2 (i64.wrap (i64.wrap i.1-1))).bind fun r1=>
 (qz g4 a0).bind fun r2=>
 k (r2.1,r2.2,r1.2)) else
 κ0 (i.2.2)
def wV(a0 a3:Int)(g4 g5:Geo)(a1:Int)(b2:Bool)(a6:Int)(κ0:Int->T β):T β:=xu xa (xcI a0 a3 g4 g5 κ0) (a1,b2,a6)
theorem xhg{β γ:Type}(a0 a3 g4 g5 a1 b2 a6 κ0)(κ:β->T γ):(wV a0 a3 g4 g5 a1 b2 a6 κ0).bind κ=wV a0 a3 g4 g5 a1 b2 a6 (fun nc=>(κ0 nc).bind κ):=by
 unfold wV
 refine xi κ (fun i k =>?_) _ _
 unfold xcI
 simp only[bz]
def xhh:Pat:=⟨xk 42 0 [(0,.c (.raw (.port))),(3,.c (.raw (.ptr 0 0))),(4,.c (.raw (.ptr 1 0))),(5,.c (.int .i64)),(6,.c (.int .u64)),(7,.c (.bool)),(15,.c (.int .i64))],[some ⟨[.geo], 26,false,none⟩,some ⟨[.raw (.port),.geo,.int .u64], 169,false,none⟩]⟩
def xqY:Pat:=⟨xk 42 0 [(0,.c (.raw (.port))),(3,.c (.raw (.ptr 0 0))),(4,.c (.raw (.ptr 1 0))),(5,.c (.int .i64)),(15,.c (.int .i64))],[some ⟨[.geo], 26,false,none⟩,some ⟨[.raw (.port),.geo,.int .u64], 169,false,none⟩]⟩
def qV:LF:=fun st K=>match xr xhh st with
 | some [.i a0,.i a1,.b b2,.i a3,.g g4,.g g5,.i a6]=>some (wV a0 a3 g4 g5 a1 b2 a6 (fun nc=>K (.exit 2) (xe xqY [.i a0,.i a3,.g g4,.g g5,.i nc])))
 | _=>none
theorem xuL : ∀st K t,qV st K=some t->xD xa (lf ka11 xa 0 .no [1,1,1,1,0,0,1,1,0,0,1,0,1,0] Tryz.f117 K) st=t:=by
 intro st K t h
 unfold qV at h
 split at h
 .rename_i a0 a1 b2 a3 g4 g5 a6 hm
  cases h
  rw[xj hm]
  unfold wV
  exact xt (S:=fun(i:Int×Bool×Int)=>xe xhh [.i a0,.i i.1,.b i.2.1,.i a3,.g g4,.g g5,.i i.2.2]) (fun i k=>by kernel_rfl) xa (a1,b2,a6)
 .cases h
def xcJ(g1 g2:Geo)(κ0:Unit->T β)(i:Int×Int)(k:Int×Int->T β):T β:=
 bif decide (i.1<4)then((qz g1 i.1).bind fun r1=>
 wV i.1 i.1 g1 g2 r1.1 r1.2 i.2 (fun cz=>
 (XO g1 i.1).bind fun r3=>
 k (i64.wrap (i.1+1),cz))) else
 κ0 ()
def wW(g1 g2:Geo)(a0 a3:Int)(κ0:Unit->T β):T β:=xu xa (xcJ g1 g2 κ0) (a0,a3)
theorem xhi{β γ:Type}(g1 g2 a0 a3 κ0)(κ:β->T γ):(wW g1 g2 a0 a3 κ0).bind κ=wW g1 g2 a0 a3 (fun u=>(κ0 u).bind κ):=by
 unfold wW
 refine xi κ (fun i k =>?_) _ _
 unfold xcJ
 simp only[bz,xhg]
def xhj:Pat:=⟨xk 42 0 [(0,.c (.raw (.port))),(3,.c (.raw (.ptr 0 0))),(4,.c (.raw (.ptr 1 0))),(15,.c (.int .i64))],[some ⟨[.geo], 26,false,none⟩,some ⟨[.raw (.port),.geo,.int .u64], 169,false,none⟩]⟩
def xqZ:Pat:=⟨xk 42 0 [],[]⟩
def Wm:LF:=fun st K=>match xr xhj st with
 | some [.i a0,.g g1,.g g2,.i a3]=>some (wW g1 g2 a0 a3 (fun _=>K (.exit 0) (xe xqZ [])))
 | _=>none
theorem xuM : ∀st K t,Wm st K=some t->xD xa (lf ka11 xa 0 (lsAt qV .no [1,1,0,0,1,0,1,0]) [1,1,1,1,0] Tryz.f117 K) st=t:=by
 intro st K t h
 unfold Wm at h
 split at h
 .rename_i a0 g1 g2 a3 hm
  cases h
  rw[xj hm]
  unfold wW
  exact xt (S:=fun(i:Int×Int)=>xe xhj [.i i.1,.g g1,.g g2,.i i.2]) (fun i k=>by kernel_rfl) xa (a0,a3)
 .cases h
def xeV(κ:Unit->T β):T β:=
 (qy g).bind fun r0=>
 bif r0 then(κ ()) else
 wW g g 0 0 (fun cz=>
 κ ())
def xcK:T Unit:=xeV g .ret
theorem xq0(κ:Unit->T β):(xcK g).bind κ=xeV g κ:=by
 unfold xcK xeV
 simp only[bz,xhi]
def xhk:Sm:=fun
 | [.c (.ptr 0 0)],[some ⟨.port::gc, 169,false,none⟩]=>(match hdOf gc with
   | some (g,o)=>some (mkS ((Bool×Int)) (XQ g o) fun r=>some (.c (.bool r.1),[some ⟨.port::(g.cells ++ [.int .u64 r.2]), 169,false,none⟩]))
   | _=>none)
 | _,_=>none
variable{σ:Type}{I:Port Tryz.prog σ}
theorem xuN(hl:SoundL I ka11):SoundF I 219 xhk:=by
 refine sq hl 1 Tryz.func219 fun _ _ t ht =>?_
 unfold xhk at ht
 split at ht
 .rename_i gc
  split at ht
  .rename_i g o hg
   obtain rfl:=yJ hg
   cases ht
   exact ey (xqX g o _)
  .cases ht
 .cases ht
def VY:Sm:=gS fun
 | g,[.c (.int .i64 k)]=>some (mkS Unit (kx g k) fun r=>some (.tup [],[]))
 | _,_=>none
theorem xaM(hl:SoundL I ka11):SoundF I 54 VY:=by
 refine gsq hl 1 Tryz.func54 fun g l t ht =>?_
 split at ht
 .rename_i k
  cases ht
  exact ey (xjf g k _)
 .cases ht
def xhl:Sm:=fun
 | [.c .port,.agg gc],[]=>(match xF gc with
   | some g=>some (mkS Unit (xcK g) fun r=>some (.tup [],[]))
   | _=>none)
 | _,_=>none
theorem xq1:Good Tryz.prog (xp ka11) xa 0 (lsAt Wm (lsAt qV .no [1,1,0,0,1,0,1,0]) [1,1,1,1,0]) (Tryz.f117.body.getD .skip) (xw Tryz.f117.results.toList):=xB (xg (by kernel_rfl)) (vS (p :=[1,1,1,1,0]) (q :=[1,1,0,0,1,0,1,0]) (xg (fn:= Tryz.f117) (by kernel_rfl)) xA xuL (by kernel_rfl)) xuM
theorem xuO(hl:SoundL I ka11):SoundF I 117 xhl:=by
 refine sq hl xa Tryz.func117 fun _ _ t ht =>?_
 unfold xhl at ht
 split at ht
 .rename_i gc
  split at ht
  .rename_i g hg
   obtain rfl:=xm hg
   cases ht
   refine(xE (P:= Tryz.prog) (n:=xa) (x:=(lsAt Wm (lsAt qV .no [1,1,0,0,1,0,1,0]) [1,1,1,1,0])) (fn:= Tryz.f117) (H :=[]) (c:= Tryz.f117.body.getD .skip) (xg (by kernel_rfl)) xq1).symm.trans ?_
   exact ey (xq0 g _)
  .cases ht
 .cases ht
def ka12:List (Nat×Sm):=(219,xhk)::(54,VY)::(117,xhl)::ka11
theorem xuP:SoundL I ka12:=(.cons (xuN xhf) (.cons (xaM xhf) (.cons (xuO xhf) xhf)))
end Lx
namespace Lx
variable{β:Type}(g:Geo)
open Go
def qW(v0:Geo)(v1 v2:Int)(v3:(Fnd×Int)->T β):T β:=
 (xcj v0 v1 v2).bind fun r9=>
 bif r9.1.ok then(v3 (⟨r9.1.grain,r9.1.ok,r9.1.e⟩,r9.2)) else
 bif r9.1.e != 0 then(v3 (⟨r9.1.grain,r9.1.ok,r9.1.e⟩,r9.2)) else
 (xck v0 r9.2 v2).bind fun dq=>
 bif dq.1.ok then(v3 (⟨dq.1.grain,dq.1.ok,dq.1.e⟩,dq.2)) else
 bif dq.1.e != 0 then(v3 (⟨dq.1.grain,dq.1.ok,dq.1.e⟩,dq.2)) else
 v3 (⟨0,false,0⟩,dq.2)
def xaN(o c:Int)(κ:(Fnd×Int)->T β):T β:=
 (YQ g o c).bind fun r0=>
 bif r0.1.ok then(κ (⟨r0.1.grain,r0.1.ok,r0.1.e⟩,r0.2)) else
 bif r0.1.e != 0 then(κ (⟨r0.1.grain,r0.1.ok,r0.1.e⟩,r0.2)) else
 (xaK g r0.2 c).bind fun r3=>
 bif r3.1.ok then(κ (⟨r3.1.grain,r3.1.ok,r3.1.e⟩,r3.2)) else
 bif r3.1.e != 0 then(κ (⟨r3.1.grain,r3.1.ok,r3.1.e⟩,r3.2)) else
 (YW g r3.2 c).bind fun r6=>
 bif r6.1.ok then(κ (⟨r6.1.grain,r6.1.ok,r6.1.e⟩,r6.2)) else
 bif r6.1.e != 0 then(κ (⟨r6.1.grain,r6.1.ok,r6.1.e⟩,r6.2)) else
 qW g r6.2 c κ
def Wn(o c:Int):T (Fnd×Int):=xaN g o c .ret
theorem xnj(o c)(κ:(Fnd×Int)->T β):(Wn g o c).bind κ=xaN g o c κ:=by
 unfold Wn xaN qW
 simp only[bz]
def Wo(o c:Int)(κ:(Fnd×Int)->T β):T β:=
 qW g o c κ
def qX(o c:Int):T (Fnd×Int):=Wo g o c .ret
theorem xjg(o c)(κ:(Fnd×Int)->T β):(qX g o c).bind κ=Wo g o c κ:=by
 unfold qX Wo qW
 simp only[bz]
def xcL:Sm:=fun
 | [.c (.ptr 0 0),.c (.int .i64 c),.c (.sl 1 0 5 5)],[some ⟨.port::gc, 169,false,none⟩,some ⟨[.fn 221 [],.fn 222 [],.fn 223 [],.fn 224 [],.fn 225 []], 245,false,none⟩]=>(match hdOf gc with
   | some (g,o)=>some (mkS ((Fnd×Int)) (Wn g o c) fun r=>some (.agg r.1.cells,[some ⟨.port::(g.cells ++ [.int .u64 r.2]), 169,false,none⟩,some ⟨[.fn 221 [],.fn 222 [],.fn 223 [],.fn 224 [],.fn 225 []], 245,false,none⟩]))
   | _=>none)
 | _,_=>none
variable{σ:Type}{I:Port Tryz.prog σ}
theorem xq2(hl:SoundL I ka12):SoundF I 192 xcL:=by
 refine sq hl 7 Tryz.func192 fun _ _ t ht =>?_
 unfold xcL at ht
 split at ht
 .rename_i c gc
  split at ht
  .rename_i g o hg
   obtain rfl:=yJ hg
   cases ht
   exact ey (xnj g o c _)
  .cases ht
 .cases ht
def VZ:Sm:=fun
 | [.c (.ptr 0 0),.c (.int .i64 c),.c (.sl 1 0 2 2)],[some ⟨.port::gc, 169,false,none⟩,some ⟨[.fn 224 [],.fn 225 []], 247,false,none⟩]=>(match hdOf gc with
   | some (g,o)=>some (mkS ((Fnd×Int)) (qX g o c) fun r=>some (.agg r.1.cells,[some ⟨.port::(g.cells ++ [.int .u64 r.2]), 169,false,none⟩,some ⟨[.fn 224 [],.fn 225 []], 247,false,none⟩]))
   | _=>none)
 | _,_=>none
theorem xnk(hl:SoundL I ka12):SoundF I 192 VZ:=by
 refine sq hl 7 Tryz.func192 fun _ _ t ht =>?_
 unfold VZ at ht
 split at ht
 .rename_i c gc
  split at ht
  .rename_i g o hg
   obtain rfl:=yJ hg
   cases ht
   exact ey (xjg g o c _)
  .cases ht
 .cases ht
def xj9:List (Nat×Sm):=(192,(orSm xcL VZ))::ka12
theorem xaO:SoundL I xj9:=(.cons (SoundF.or (xq2 xuP) (xnk xuP)) xuP)
end Lx
end Go.Proofs.YtcicjcggclhbfaaGreat
