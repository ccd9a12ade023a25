/- Part. -/
import Derived.Test.YtcicjcggclhbfaaGreatCsM10
set_option linter.all false
open Go.IntKind (i64 u64 u32 u8)
set_option maxRecDepth 1000000
namespace Go.Proofs.YtcicjcggclhbfaaGreat
namespace Lx
variable{β:Type}(g:Geo)
open Go
def xmn(x:Int)(κ:Bool->T β):T β:=
 κ (decide (-1>=0))
def xtK(x:Int):T Bool:=xmn x .ret
theorem xpR(x)(κ:Bool->T β):(xtK x).bind κ=xmn x κ:=by
 unfold xtK xmn
 simp only[bz]
def xew(x k:Int)(κ:Bool->T β):T β:=
 (XD x k).bind fun r0=>
 κ (decide (r0>=0))
def xgh(x k:Int):T Bool:=xew x k .ret
theorem xpS(x k)(κ:Bool->T β):(xgh x k).bind κ=xew x k κ:=by
 unfold xgh xew
 simp only[bz]
def xex(x k j:Int)(κ:Bool->T β):T β:=
 (xag x k j).bind fun r0=>
 κ (decide (r0>=0))
def xgi(x k j:Int):T Bool:=xex x k j .ret
theorem xpT(x k j)(κ:Bool->T β):(xgi x k j).bind κ=xex x k j κ:=by
 unfold xgi xex
 simp only[bz]
def VC(a0 a1:Int)(b2:Bool)(g4:Geo)(a5 a6 a7:Int)(κ0:Unit->T β)(i:Int)(k:Int->T β):T β:=
 bif decide (i<i64.wrap (a7+a0))then((qK g4 i 0 0).bind fun r1=>
 k (i64.wrap (i+1))) else
 κ0 ()
def vw(a0 a1:Int)(b2:Bool)(g4:Geo)(a5 a6 a7 a3:Int)(κ0:Unit->T β):T β:=xu xa (VC a0 a1 b2 g4 a5 a6 a7 κ0) a3
theorem xd4{β γ:Type}(a0 a1 b2 g4 a5 a6 a7 a3 κ0)(κ:β->T γ):(vw a0 a1 b2 g4 a5 a6 a7 a3 κ0).bind κ=vw a0 a1 b2 g4 a5 a6 a7 a3 (fun u=>(κ0 u).bind κ):=by
 unfold vw
 refine xi κ (fun i k =>?_) _ _
 unfold VC
 simp only[bz]
def xdo:Pat:=⟨xk 86 0 [(2,.c (.int .i64)),(8,.c (.int .i64)),(9,.c (.bool)),(10,.c (.raw (.ptr 1 0))),(11,.c (.raw (.ptr 2 0))),(12,.c (.int .i64))],[none,some ⟨[.raw (.port),.geo], 138,false,none⟩,some ⟨[.int .i64,.int .i64,.int .i64], 276,false,none⟩]⟩
def xmo:Pat:=⟨xk 86 0 [(2,.c (.int .i64)),(8,.c (.int .i64)),(9,.c (.bool)),(10,.c (.raw (.ptr 1 0))),(11,.c (.raw (.ptr 2 0)))],[none,some ⟨[.raw (.port),.geo], 138,false,none⟩,some ⟨[.int .i64,.int .i64,.int .i64], 276,false,none⟩]⟩
def Zy:LF:=fun st K=>match xr xdo st with
 | some [.i a0,.i a1,.b b2,.i a3,.g g4,.i a5,.i a6,.i a7]=>some (vw a0 a1 b2 g4 a5 a6 a7 a3 (fun _=>K (.exit 0) (xe xmo [.i a0,.i a1,.b b2,.g g4,.i a5,.i a6,.i a7])))
 | _=>none
theorem xpU : ∀st K t,Zy st K=some t->xD xa (lf ka5 xa 0 .no [1,1,1,1,1,1,0,1,0] Tryz.f226 K) st=t:=by
 intro st K t h
 unfold Zy at h
 split at h
 .rename_i a0 a1 b2 a3 g4 a5 a6 a7 hm
  cases h
  rw[xj hm]
  unfold vw
  exact xt (S:=fun(i:Int)=>xe xdo [.i a0,.i a1,.b b2,.i i,.g g4,.i a5,.i a6,.i a7]) (fun i k=>by kernel_rfl) xa a3
 .cases h
def XE(k a:Int)(κ:(Int×Bool)->T β):T β:=
 bif decide (k<1)then(κ (0,false)) else
 bif decide (a<1)then(κ (0,false)) else
 bif decide (k>g.pages)then(κ (0,false)) else
 (xjR g k (if 256<a then(256:Int)else a)).bind fun r3=>
 bif r3.n==0 then(κ (0,false)) else
 (kj g r3.n true).bind fun r5=>
 vw k 0 false g r3.page r3.n r3.at_ (i64.wrap (r3.at_+1)) (fun bo=>
 (qK g r3.at_ 4 k).bind fun r7=>
 (layT g r3.page (i64.wrap (r3.at_-r3.page))).bind fun r8=>
 (layT g (i64.wrap (r3.at_+k)) (i64.wrap (i64.wrap (i64.wrap (r3.page+r3.n)-r3.at_)-k))).bind fun r9=>
 κ (r3.at_,true))
def kM(k a:Int):T (Int×Bool):=XE g k a .ret
theorem xmp(k a)(κ:(Int×Bool)->T β):(kM g k a).bind κ=XE g k a κ:=by
 unfold kM XE
 simp only[bz,xd4]
def xmq(v0:Int)(v1:Geo)(v2 v3 v4:Int)(v5:Bool->T β):T β:=
 bif decide (v0>0)then((kj v1 v0 true).bind fun gy=>
 (qK v1 (i64.wrap (v2+v3)) 0 0).bind fun lz=>
 (layT v1 (i64.wrap (v2-v4)) (i64.wrap (i64.wrap (v4+v3)+v0))).bind fun r15=>
 v5 true) else
 (layT v1 (i64.wrap (v2-v4)) (i64.wrap (i64.wrap (v4+v3)+v0))).bind fun gy=>
 v5 (true)
def xey(p k:Int)(κ:Bool->T β):T β:=
 bif decide (p<0)then(κ false) else
 bif decide (k<1)then(κ false) else
 bif decide (p>=g.pages)then(κ false) else
 (Vc g p).bind fun r3=>
 (xjG (Pg.mk r3.kind r3.len r3.cls r3.owner) k).bind fun r4=>
 bif !r4 then(κ false) else
 (xbT g p).bind fun r6=>
 (Yz g (i64.wrap (p+k))).bind fun r7=>
 (qK g p 0 0).bind fun r8=>
 bif decide (r6>0)then((kj g r6 true).bind fun ck=>
 (qK g (i64.wrap (p-1)) 0 0).bind fun Cn=>
 xmq r7 g p k r6 κ) else
 xmq r7 g p k r6 κ
def VD(p k:Int):T Bool:=xey g p k .ret
theorem xpV(p k)(κ:Bool->T β):(VD g p k).bind κ=xey g p k κ:=by
 unfold VD xey xmq
 simp only[bz]
def xez(κ:Unit->T β):T β:=
 (layT g 0 g.pages).bind fun r0=>
 κ ()
def XF:T Unit:=xez g .ret
theorem xpW(κ:Unit->T β):(XF g).bind κ=xez g κ:=by
 unfold XF xez
 simp only[bz]
def xah(o n:Int)(κ:(Unit×Int)->T β):T β:=
 bif decide (n>0)then(.op (.add (atF g 1 0) (u64.wrap n)) fun x1=>
 κ ((),(u64.wrap (o+u64.wrap n)))) else
 κ ((),o)
def yX(o n:Int):T (Unit×Int):=xah g o n .ret
theorem xpX(o n)(κ:(Unit×Int)->T β):(yX g o n).bind κ=xah g o n κ:=by
 unfold yX xah
 simp only[bz]
def xwH(o p c:Int)(κ:(Bool×Int)->T β):T β:=
 .op (.load (atF g 8 p)) fun x0=>
 bif if ofW i64 x0 8 3>0 then true else false then(κ (((bif decide (ofW i64 x0 8 3>0)then i64.wrap (ofW i64 x0 8 3-1)else(0:Int))==c),o)) else
 κ (false,o)
def hofT(o p c:Int):T (Bool×Int):=xwH g o p c .ret
theorem xx3(o p c)(κ:(Bool×Int)->T β):(hofT g o p c).bind κ=xwH g o p c κ:=by
 unfold hofT xwH
 simp only[bz]
def xai(o c:Int)(κ:(Fnd×Int)->T β):T β:=
 (qz g c).bind fun r0=>
 κ (⟨(i64.wrap (i64.wrap r0.1-1)),r0.2,0⟩,o)
def YQ(o c:Int):T (Fnd×Int):=xai g o c .ret
theorem xmr(o c)(κ:(Fnd×Int)->T β):(YQ g o c).bind κ=xai g o c κ:=by
 unfold YQ xai
 simp only[bz]
def xeA(e l:Int)(κ:Res->T β):T β:=
 .op (.tell [.int .i64 0,.int .i64 0,.int .u8 0,.int .u64 0,.int .u64 0,.int .u64 0,.int .u64 0,.int .u64 0,.int .i64 e,.int .i64 l,.int .i64 0]) fun _=>
 κ ⟨0,0,0,0,0,0,0,0,e,l,0⟩
def kD(e l:Int):T Res:=xeA e l .ret
theorem xpY(e l)(κ:Res->T β):(kD e l).bind κ=xeA e l κ:=by
 unfold kD xeA
 simp only[bz]
def xgj(k u z:Int)(κ:Res->T β):T β:=
 (xbU g k z).bind fun r0=>
 .op (.steps) fun x1=>
 .op (.tell [.int .i64 (i64.wrap (k*8)),.int .i64 u,.int .u8 0,.int .u64 0,.int .u64 0,.int .u64 0,.int .u64 0,.int .u64 0,.int .i64 0,.int .i64 x1,.int .i64 0]) fun _=>
 κ ⟨(i64.wrap (k*8)),u,0,0,0,0,0,0,0,x1,0⟩
def xdp(k u z:Int):T Res:=xgj g k u z .ret
theorem xtL(k u z)(κ:Res->T β):(xdp g k u z).bind κ=xgj g k u z κ:=by
 unfold xdp xgj
 simp only[bz]
def xms(r0:Res)(κ:Res->T β):T β:=
 .op (.steps) fun x0=>
 .op (.tell [.int .i64 r0.at_,.int .i64 r0.n,.int .u8 r0.byte,.int .u64 r0.c1,.int .u64 r0.c2,.int .u64 r0.c3,.int .u64 r0.c4,.int .u64 r0.c5,.int .i64 r0.e,.int .i64 x0,.int .i64 r0.touch]) fun _=>
 κ ⟨r0.at_,r0.n,r0.byte,r0.c1,r0.c2,r0.c3,r0.c4,r0.c5,r0.e,x0,r0.touch⟩
def Vg(r0:Res):T Res:=xms r0 .ret
theorem xtM(r0)(κ:Res->T β):(Vg r0).bind κ=xms r0 κ:=by
 unfold Vg xms
 simp only[bz]
def xeB(c:Cal)(κ:Int->T β):T β:=
 bif c.op==2 then(κ (i64.wrap (c.size*c.n))) else
 κ (c.size)
def xcb(c:Cal):T Int:=xeB c .ret
theorem xpZ(c)(κ:Int->T β):(xcb c).bind κ=xeB c κ:=by
 unfold xcb xeB
 simp only[bz]
def xaj(r0:Res)(κ:Bool->T β):T β:=
 bif r0.e==15 then(κ true) else
 κ (r0.e==5)
def Zz(r0:Res):T Bool:=xaj r0 .ret
theorem xmt(r0)(κ:Bool->T β):(Zz r0).bind κ=xaj r0 κ:=by
 unfold Zz xaj
 simp only[bz]
def xeC(w:Pg)(κ:Int->T β):T β:=
 bif w.kind==3 then(bif decide (0<=w.cls/\w.cls<4)then(κ (bif w.cls==0 then(8:Int)else bif w.cls==1 then(16:Int)else bif w.cls==2 then(24:Int)else(32:Int))) else
 .fail) else
 κ (i64.wrap (w.len*64))
def xcc(w:Pg):T Int:=xeC w .ret
theorem xp0(w)(κ:Int->T β):(xcc w).bind κ=xeC w κ:=by
 unfold xcc xeC
 simp only[bz]
def xak(r0:Res)(κ:Res->T β):T β:=
 .op (.tell [.int .i64 r0.at_,.int .i64 r0.n,.int .u8 r0.byte,.int .u64 r0.c1,.int .u64 r0.c2,.int .u64 r0.c3,.int .u64 r0.c4,.int .u64 r0.c5,.int .i64 r0.e,.int .i64 r0.lin,.int .i64 r0.touch]) fun _=>
 κ r0
def vI(r0:Res):T Res:=xak r0 .ret
theorem xmu(r0)(κ:Res->T β):(vI r0).bind κ=xak r0 κ:=by
 unfold vI xak
 simp only[bz]
def xgk:Sm:=fun
 | [.c .nils,.c (.int .i64 x)],[]=>some (mkS Bool (xtK x) fun r=>some (.c (.bool r),[]))
 | _,_=>none
variable{σ:Type}{I:Port Tryz.prog σ}
theorem xtN(hl:SoundL I ka5):SoundF I 166 xgk:=by
 refine sq hl 5 Tryz.func166 fun _ _ t ht =>?_
 unfold xgk at ht
 split at ht
 .rename_i x
  cases ht
  exact ey (xpR x _)
 .cases ht
def xgl:Sm:=fun
 | [.c (.sl 0 0 1 1),.c (.int .i64 x)],[some ⟨[.int .i64 k], 3,false,none⟩]=>some (mkS Bool (xgh x k) fun r=>some (.c (.bool r),[some ⟨[.int .i64 k], 3,false,none⟩]))
 | _,_=>none
theorem xtO(hl:SoundL I ka5):SoundF I 166 xgl:=by
 refine sq hl 5 Tryz.func166 fun _ _ t ht =>?_
 unfold xgl at ht
 split at ht
 .rename_i x k
  cases ht
  exact ey (xpS x k _)
 .cases ht
def xgm:Sm:=fun
 | [.c (.sl 0 0 2 2),.c (.int .i64 x)],[some ⟨[.int .i64 k,.int .i64 j], 3,false,none⟩]=>some (mkS Bool (xgi x k j) fun r=>some (.c (.bool r),[some ⟨[.int .i64 k,.int .i64 j], 3,false,none⟩]))
 | _,_=>none
theorem xtP(hl:SoundL I ka5):SoundF I 166 xgm:=by
 refine sq hl 5 Tryz.func166 fun _ _ t ht =>?_
 unfold xgm at ht
 split at ht
 .rename_i x k j
  cases ht
  exact ey (xpT x k j _)
 .cases ht
def xcd:Sm:=fun
 | [.c .port,.agg gc,.c (.int .i64 k),.c (.int .i64 a)],[]=>(match xF gc with
   | some g=>some (mkS ((Int×Bool)) (kM g k a) fun r=>some (.tup [.c (.int .i64 r.1),.c (.bool r.2)],[]))
   | _=>none)
 | _,_=>none
theorem xmv:Good Tryz.prog (xp ka5) xa 0 (lsAt Zy .no [1,1,1,1,1,1,0,1,0]) (Tryz.f226.body.getD .skip) (xw Tryz.f226.results.toList):=xB (xg (by kernel_rfl)) xA xpU
theorem xp1(hl:SoundL I ka5):SoundF I 226 xcd:=by
 refine sq hl xa Tryz.func226 fun _ _ t ht =>?_
 unfold xcd at ht
 split at ht
 .rename_i gc k a
  split at ht
  .rename_i g hg
   obtain rfl:=xm hg
   cases ht
   refine(xE (P:= Tryz.prog) (n:=xa) (x:=(lsAt Zy .no [1,1,1,1,1,1,0,1,0])) (fn:= Tryz.f226) (H :=[]) (c:= Tryz.f226.body.getD .skip) (xg (by kernel_rfl)) xmv).symm.trans ?_
   exact ey (xmp g k a _)
  .cases ht
 .cases ht
def xp2:Sm:=gS fun
 | g,[.c (.int .i64 p),.c (.int .i64 k)]=>some (mkS Bool (VD g p k) fun r=>some (.c (.bool r),[]))
 | _,_=>none
theorem xtQ(hl:SoundL I ka5):SoundF I 201 xp2:=by
 refine gsq hl 1 Tryz.func201 fun g l t ht =>?_
 split at ht
 .rename_i p k
  cases ht
  exact ey (xpV g p k _)
 .cases ht
def xgn:Sm:=gS fun
 | g,[]=>some (mkS Unit (XF g) fun r=>some (.tup [],[]))
 | _,_=>none
theorem xgo(hl:SoundL I ka5):SoundF I 37 xgn:=by
 refine gsq hl 1 Tryz.func37 fun g l t ht =>?_
 split at ht
 .cases ht
  exact ey (xpW g _)
 .cases ht
def xgp:Sm:=fun
 | [.c (.ptr 0 0),.c (.int .i64 n)],[some ⟨.port::gc, 169,false,none⟩]=>(match hdOf gc with
   | some (g,o)=>some (mkS ((Unit×Int)) (yX g o n) fun r=>some (.tup [],[some ⟨.port::(g.cells ++ [.int .u64 r.2]), 169,false,none⟩]))
   | _=>none)
 | _,_=>none
theorem xtR(hl:SoundL I ka5):SoundF I 97 xgp:=by
 refine sq hl 1 Tryz.func97 fun _ _ t ht =>?_
 unfold xgp at ht
 split at ht
 .rename_i n gc
  split at ht
  .rename_i g o hg
   obtain rfl:=yJ hg
   cases ht
   exact ey (xpX g o n _)
  .cases ht
 .cases ht
def xtS:Sm:=fun
 | [.c (.ptr 0 0),.c (.int .i64 p),.c (.int .i64 c)],[some ⟨.port::gc, 169,false,none⟩]=>(match hdOf gc with
   | some (g,o)=>some (mkS ((Bool×Int)) (hofT g o p c) fun r=>some (.c (.bool r.1),[some ⟨.port::(g.cells ++ [.int .u64 r.2]), 169,false,none⟩]))
   | _=>none)
 | _,_=>none
theorem xAj(hl:SoundL I ka5):SoundF I 241 xtS:=by
 refine sq hl 1 Tryz.func241 fun _ _ t ht =>?_
 unfold xtS at ht
 split at ht
 .rename_i p c gc
  split at ht
  .rename_i g o hg
   obtain rfl:=yJ hg
   cases ht
   exact ey (xx3 g o p c _)
  .cases ht
 .cases ht
def xce:Sm:=fun
 | [.c (.ptr 0 0),.c (.int .i64 c)],[some ⟨.port::gc, 169,false,none⟩]=>(match hdOf gc with
   | some (g,o)=>some (mkS ((Fnd×Int)) (YQ g o c) fun r=>some (.agg r.1.cells,[some ⟨.port::(g.cells ++ [.int .u64 r.2]), 169,false,none⟩]))
   | _=>none)
 | _,_=>none
theorem xp3(hl:SoundL I ka5):SoundF I 221 xce:=by
 refine sq hl 1 Tryz.func221 fun _ _ t ht =>?_
 unfold xce at ht
 split at ht
 .rename_i c gc
  split at ht
  .rename_i g o hg
   obtain rfl:=yJ hg
   cases ht
   exact ey (xmr g o c _)
  .cases ht
 .cases ht
def xgq:Sm:=fun
 | [.c .port,.c (.int .i64 e),.c (.int .i64 l)],[]=>some (mkS Res (kD e l) fun r=>some (.agg r.cells,[]))
 | _,_=>none
theorem xtT(hl:SoundL I ka5):SoundF I 52 xgq:=by
 refine sq hl 1 Tryz.func52 fun _ _ t ht =>?_
 unfold xgq at ht
 split at ht
 .rename_i e l
  cases ht
  exact ey (xpY e l _)
 .cases ht
def xwI:Sm:=gS fun
 | g,[.c (.int .i64 k),.c (.int .i64 u),.c (.int .i64 z)]=>some (mkS Res (xdp g k u z) fun r=>some (.agg r.cells,[]))
 | _,_=>none
theorem xx4(hl:SoundL I ka5):SoundF I 77 xwI:=by
 refine gsq hl 1 Tryz.func77 fun g l t ht =>?_
 split at ht
 .rename_i k u z
  cases ht
  exact ey (xtL g k u z _)
 .cases ht
def xmw:Sm:=fun
 | [.c .port,.agg r0c],[]=>(match Res.of r0c with
   | some r0=>some (mkS Res (Vg r0) fun r=>some (.agg r.cells,[]))
   | _=>none)
 | _,_=>none
theorem xx5(hl:SoundL I ka5):SoundF I 118 xmw:=by
 refine sq hl 1 Tryz.func118 fun _ _ t ht =>?_
 unfold xmw at ht
 split at ht
 .rename_i r0c
  split at ht
  .rename_i r0 df
   obtain rfl:=Res.of_eq df
   cases ht
   exact ey (xtM r0 _)
  .cases ht
 .cases ht
def xgr:Sm:=fun
 | [.agg cc],[]=>(match Cal.of cc with
   | some c=>some (mkS Int (xcb c) fun r=>some (.c (.int .i64 r),[]))
   | _=>none)
 | _,_=>none
theorem xtU(hl:SoundL I ka5):SoundF I 169 xgr:=by
 refine sq hl 1 Tryz.func169 fun _ _ t ht =>?_
 unfold xgr at ht
 split at ht
 .rename_i cc
  split at ht
  .rename_i c hc
   obtain rfl:=Cal.of_eq hc
   cases ht
   exact ey (xpZ c _)
  .cases ht
 .cases ht
def xcf:Sm:=fun
 | [.agg r0c],[]=>(match Res.of r0c with
   | some r0=>some (mkS Bool (Zz r0) fun r=>some (.c (.bool r),[]))
   | _=>none)
 | _,_=>none
theorem xp4(hl:SoundL I ka5):SoundF I 170 xcf:=by
 refine sq hl 1 Tryz.func170 fun _ _ t ht =>?_
 unfold xcf at ht
 split at ht
 .rename_i r0c
  split at ht
  .rename_i r0 df
   obtain rfl:=Res.of_eq df
   cases ht
   exact ey (xmt r0 _)
  .cases ht
 .cases ht
def xgs:Sm:=fun
 | [.agg wc],[]=>(match Pg.of wc with
   | some w=>some (mkS Int (xcc w) fun r=>some (.c (.int .i64 r),[]))
   | _=>none)
 | _,_=>none
theorem xtV(hl:SoundL I ka5):SoundF I 175 xgs:=by
 refine sq hl 1 Tryz.func175 fun _ _ t ht =>?_
 unfold xgs at ht
 split at ht
 .rename_i wc
  split at ht
  .rename_i w hw
   obtain rfl:=Pg.of_eq hw
   cases ht
   exact ey (xp0 w _)
  .cases ht
 .cases ht
def xcg:Sm:=fun
 | [.c .port,.agg r0c],[]=>(match Res.of r0c with
   | some r0=>some (mkS Res (vI r0) fun r=>some (.agg r.cells,[]))
   | _=>none)
 | _,_=>none
theorem xp5(hl:SoundL I ka5):SoundF I 176 xcg:=by
 refine sq hl 1 Tryz.func176 fun _ _ t ht =>?_
 unfold xcg at ht
 split at ht
 .rename_i r0c
  split at ht
  .rename_i r0 df
   obtain rfl:=Res.of_eq df
   cases ht
   exact ey (xmu r0 _)
  .cases ht
 .cases ht
def ka6:List (Nat×Sm):=(166,(orSm xgk (orSm xgl xgm)))::(226,xcd)::(201,xp2)::(37,xgn)::(97,xgp)::(241,xtS)::(221,xce)::(52,xgq)::(77,xwI)::(118,xmw)::(169,xgr)::(170,xcf)::(175,xgs)::(176,xcg)::ka5
theorem kt:SoundL I ka6:=(.cons (SoundF.or (xtN wD) (SoundF.or (xtO wD) (xtP wD))) (.cons (xp1 wD) (.cons (xtQ wD) (.cons (xgo wD) (.cons (xtR wD) (.cons (xAj wD) (.cons (xp3 wD) (.cons (xtT wD) (.cons (xx4 wD) (.cons (xx5 wD) (.cons (xtU wD) (.cons (xp4 wD) (.cons (xtV wD) (.cons (xp5 wD) wD))))))))))))))
end Lx
namespace Lx
variable{β:Type}(g:Geo)
open Go
def yY(a0:Int)(g3 g4:Geo)(κ0:Int->T β)(i:Int×Int)(k:Int×Int->T β):T β:=
 bif decide (i.2<g3.pages)then((Vc g4 i.2).bind fun r1=>
 bif r1.kind==5 then((VD g3 i.2 r1.len).bind fun r3=>
 bif r3 then((kE {kind:=r1.kind,len:=r1.len,cls:=r1.cls,owner:=r1.owner}).bind fun r5=>
 k (i64.wrap (i.1+1),i64.wrap (i.2+r5))) else
 (kE {kind:=r1.kind,len:=r1.len,cls:=r1.cls,owner:=r1.owner}).bind fun r5=>
 k (i.1,i64.wrap (i.2+r5))) else
 (kE {kind:=r1.kind,len:=r1.len,cls:=r1.cls,owner:=r1.owner}).bind fun r3=>
 k (i.1,i64.wrap (i.2+r3))) else
 κ0 (i.1)
def yZ(a0:Int)(g3 g4:Geo)(a1 a2:Int)(κ0:Int->T β):T β:=xu xa (yY a0 g3 g4 κ0) (a1,a2)
theorem xch{β γ:Type}(a0 g3 g4 a1 a2 κ0)(κ:β->T γ):(yZ a0 g3 g4 a1 a2 κ0).bind κ=yZ a0 g3 g4 a1 a2 (fun bt=>(κ0 bt).bind κ):=by
 unfold yZ
 refine xi κ (fun i k =>?_) _ _
 unfold yY
 simp only[bz]
def xal:Pat:=⟨xk 37 0 [(0,.c (.raw (.port))),(3,.c (.raw (.ptr 0 0))),(4,.c (.int .i64)),(5,.c (.raw (.ptr 1 0))),(6,.c (.int .i64)),(7,.c (.int .i64))],[some ⟨[.geo], 26,false,none⟩,some ⟨[.raw (.port),.geo], 138,false,none⟩]⟩
def xiR:Pat:=⟨xk 37 0 [(4,.c (.int .i64)),(6,.c (.int .i64))],[]⟩
def qg:LF:=fun st K=>match xr xal st with
 | some [.i a0,.i a1,.i a2,.g g3,.g g4]=>some (yZ a0 g3 g4 a1 a2 (fun bt=>K (.exit 0) (xe xiR [.i a0,.i bt])))
 | _=>none
theorem xmx : ∀st K t,qg st K=some t->xD xa (lf ka6 xa 0 .no [1,1,1,0,1,0] Tryz.f152 K) st=t:=by
 intro st K t h
 unfold qg at h
 split at h
 .rename_i a0 a1 a2 g3 g4 hm
  cases h
  rw[xj hm]
  unfold yZ
  exact xt (S:=fun(i:Int×Int)=>xe xal [.i a0,.i i.1,.i i.2,.g g3,.g g4]) (fun i k=>by kernel_rfl) xa (a1,a2)
 .cases h
def qO(κ:Int->T β):T β:=
 yZ 0 g g 0 0 (fun av=>
 κ av)
def vM:T Int:=qO g .ret
theorem xiS(κ:Int->T β):(vM g).bind κ=qO g κ:=by
 unfold vM qO
 simp only[bz,xch]
def YR(p:Int)(κ:Bool->T β):T β:=
 (isT g p 0).bind fun r0=>
 bif !r0 then(κ false) else
 (Vd g p).bind fun r2=>
 bif !r2.has then(κ false) else
 bif decide (r2.cls>=4)then(κ false) else
 bif decide (0<=r2.cls/\r2.cls<4)then((xdl (Bt.mk r2.map r2.has r2.cls r2.ver) (bif r2.cls==0 then(8:Int)else bif r2.cls==0+1 then(4:Int)else bif r2.cls==0+1+1 then(2:Int)else(2:Int))).bind fun r6=>
 bif !r6 then(κ false) else
 (Xz g p (Bt.mk r2.map r2.has r2.cls r2.ver) (Bt.mk 0 false 0 (u32.wrap (r2.ver+1)))).bind fun r8=>
 bif r8 then((VD g p 1).bind fun ck=>
 κ ck) else
 κ false) else
 .fail
def jx(p:Int):T Bool:=YR g p .ret
theorem xiT(p)(κ:Bool->T β):(jx g p).bind κ=YR g p κ:=by
 unfold jx YR
 simp only[bz]
def XG(κ:Bool->T β):T β:=
 bif g.pages==0 then(κ true) else
 κ (decide ((-1)>=0))
def kN:T Bool:=XG g .ret
theorem xmy(κ:Bool->T β):(kN g).bind κ=XG g κ:=by
 unfold kN XG
 simp only[bz]
def xam(k:Int)(κ:Bool->T β):T β:=
 bif g.pages==0 then(κ true) else
 (xgh (-1) k).bind fun r1=>
 κ r1
def kO(k:Int):T Bool:=xam g k .ret
theorem xmz(k)(κ:Bool->T β):(kO g k).bind κ=xam g k κ:=by
 unfold kO xam
 simp only[bz]
def xan(k j:Int)(κ:Bool->T β):T β:=
 bif g.pages==0 then(κ true) else
 (xgi (-1) k j).bind fun r1=>
 κ r1
def YS(k j:Int):T Bool:=xan g k j .ret
theorem xmA(k j)(κ:Bool->T β):(YS g k j).bind κ=xan g k j κ:=by
 unfold YS xan
 simp only[bz]
def xmB(o k:Int)(κ:(Unit×Int)->T β):T β:=
 (Vz g k).bind fun r0=>
 (yX g o 1).bind fun r1=>
 κ ((),r1.2)
def yq(o k:Int):T (Unit×Int):=xmB g o k .ret
theorem xtW(o k)(κ:(Unit×Int)->T β):(yq g o k).bind κ=xmB g o k κ:=by
 unfold yq xmB
 simp only[bz]
def xci(a0 a1:Int)(g3:Geo)(a5:Int)(b6:Bool)(a7:Int)(κ0:Int->Int->T β)(κ1:Int->T β)(i:Int×Int)(k:Int×Int->T β):T β:=
 bif decide (i.1<a1)then((hofT g3 i.2 i.1 a0).bind fun r1=>
 bif !r1.1 then(k (i64.wrap (i.1+1),r1.2)) else
 (xb3 g3 i.1 a0).bind fun r3=>
 bif r3.2 then(κ0 r1.2 r3.1) else
 k (i64.wrap (i.1+1),r1.2)) else
 κ1 (i.2)
def wL(a0 a1:Int)(g3:Geo)(a5:Int)(b6:Bool)(a7 a2 a4:Int)(κ0:Int->Int->T β)(κ1:Int->T β):T β:=xu xa (xci a0 a1 g3 a5 b6 a7 κ0 κ1) (a2,a4)
theorem xgt{β γ:Type}(a0 a1 g3 a5 b6 a7 a2 a4 κ0 κ1)(κ:β->T γ):(wL a0 a1 g3 a5 b6 a7 a2 a4 κ0 κ1).bind κ=wL a0 a1 g3 a5 b6 a7 a2 a4 (fun bt fj=>(κ0 bt fj).bind κ) (fun bt=>(κ1 bt).bind κ):=by
 unfold wL
 refine xi κ (fun i k =>?_) _ _
 unfold xci
 simp only[bz]
def xgu:Pat:=⟨xk 40 0 [(0,.c (.raw (.ptr 0 0))),(1,.c (.int .i64)),(4,.c (.raw (.ptr 1 0))),(12,.c (.int .i64)),(13,.c (.int .i64))],[some ⟨[.raw (.port),.geo,.int .u64], 169,false,none⟩,some ⟨[.int .i64,.bool,.int .i64], 251,false,none⟩]⟩
def xdq:Pat:=⟨xk 40 0 [(4,.c (.raw (.ptr 1 0)))],[some ⟨[.raw (.port),.geo,.int .u64], 169,false,none⟩,some ⟨[.int .i64,.bool,.int .i64], 251,false,none⟩]⟩
def YT:LF:=fun st K=>match xr xgu st with
 | some [.i a0,.i a1,.i a2,.g g3,.i a4,.i a5,.b b6,.i a7]=>some (wL a0 a1 g3 a5 b6 a7 a2 a4 (fun bt fj=>K (.ret) (xe xdq [.g g3,.i bt,.i fj,.b true,.i 0])) (fun bt=>K (.exit 0) (xe xdq [.g g3,.i bt,.i a5,.b b6,.i a7])))
 | _=>none
theorem xtX : ∀st K t,YT st K=some t->xD xa (lf ka6 xa 1 .no [1,0,1,0] Tryz.f224 K) st=t:=by
 intro st K t h
 unfold YT at h
 split at h
 .rename_i a0 a1 a2 g3 a4 a5 b6 a7 hm
  cases h
  rw[xj hm]
  unfold wL
  exact xt (S:=fun(i:Int×Int)=>xe xgu [.i a0,.i a1,.i i.1,.g g3,.i i.2,.i a5,.b b6,.i a7]) (fun i k=>by kernel_rfl) xa (a2,a4)
 .cases h
def xeD(o c:Int)(κ:(Fnd×Int)->T β):T β:=
 wL c g.pages g 0 false 0 0 o (fun av gh=>
 κ (⟨gh,true,0⟩,av)) (fun av=>
 κ (⟨0,false,0⟩,av))
def xcj(o c:Int):T (Fnd×Int):=xeD g o c .ret
theorem xp6(o c)(κ:(Fnd×Int)->T β):(xcj g o c).bind κ=xeD g o c κ:=by
 unfold xcj xeD
 simp only[bz,xgt]
def xeE(o c:Int)(κ:(Fnd×Int)->T β):T β:=
 (tryT g).bind fun r0=>
 bif !r0 then(κ (⟨0,false,5⟩,o)) else
 (kM g 1 1).bind fun r2=>
 bif r2.2 then((xjN g r2.1 c).bind fun r4=>
 (yX g o 1).bind fun r5=>
 (XC g).bind fun r6=>
 κ (⟨r4,r2.2,0⟩,r5.2)) else
 (XC g).bind fun r4=>
 κ (⟨0,r2.2,0⟩,o)
def xck(o c:Int):T (Fnd×Int):=xeE g o c .ret
theorem xp7(o c)(κ:(Fnd×Int)->T β):(xck g o c).bind κ=xeE g o c κ:=by
 unfold xck xeE
 simp only[bz]
def xeF(a b:Int)(κ:Unit->T β):T β:=
 .op (.add (atF g 2 a) (u64.wrap b)) fun x0=>
 κ ()
def VE(a b:Int):T Unit:=xeF g a b .ret
theorem xp8(a b)(κ:Unit->T β):(VE g a b).bind κ=xeF g a b κ:=by
 unfold VE xeF
 simp only[bz]
def xeG(a b c d e f:Int)(κ:Unit->T β):T β:=
 .op (.add (atF g 2 a) (u64.wrap b)) fun x0=>
 .op (.add (atF g 2 c) (u64.wrap d)) fun x1=>
 .op (.add (atF g 2 e) (u64.wrap f)) fun x2=>
 κ ()
def VF(a b c d e f:Int):T Unit:=xeG g a b c d e f .ret
theorem xp9(a b c d e f)(κ:Unit->T β):(VF g a b c d e f).bind κ=xeG g a b c d e f κ:=by
 unfold VF xeG
 simp only[bz]
def xeH(κ:Cts->T β):T β:=
 .op (.load (atF g 2 0)) fun x0=>
 .op (.load (atF g 2 1)) fun x1=>
 .op (.load (atF g 2 2)) fun x2=>
 .op (.load (atF g 2 3)) fun x3=>
 .op (.load (atF g 2 4)) fun x4=>
 κ ⟨x0,x1,x2,x3,x4⟩
def xgv:T Cts:=xeH g .ret
theorem xqa(κ:Cts->T β):(xgv g).bind κ=xeH g κ:=by
 unfold xgv xeH
 simp only[bz]
def xao(a s:Int)(κ:Int->T β):T β:=
 bif decide (s<1)then(κ 11) else
 bif decide (s>i64.wrap (g.pages*64))then(κ 11) else
 bif decide (a<0)then(κ 13) else
 bif decide (a>=i64.wrap (g.pages*64))then(κ 13) else
 bif Int.tmod a 8 != 0 then(κ 13) else
 κ (0)
def YU(a s:Int):T Int:=xao g a s .ret
theorem xmC(a s)(κ:Int->T β):(YU g a s).bind κ=xao g a s κ:=by
 unfold YU xao
 simp only[bz]
def xeI(g:Geo)(x:Rn)(r0:Res)(κ:(Res×Rn)->T β):T β:=
 .op (.tell [.int .i64 r0.at_,.int .i64 r0.n,.int .u8 r0.byte,.int .u64 r0.c1,.int .u64 r0.c2,.int .u64 r0.c3,.int .u64 r0.c4,.int .u64 r0.c5,.int .i64 r0.e,.int .i64 r0.lin,.int .i64 r0.touch]) fun _=>
 κ (r0,x)
def jy(x:Rn)(r0:Res):T (Res×Rn):=xeI g x r0 .ret
theorem xqb(x r0)(κ:(Res×Rn)->T β):(jy g x r0).bind κ=xeI g x r0 κ:=by
 unfold jy xeI
 simp only[bz]
def xap(x:Rn)(κ:(Int×Rn)->T β):T β:=
 (ks g x.grain).bind fun r0=>
 bif r0.kind==3 then(bif decide (0<=r0.cls/\r0.cls<4)then(κ ((bif r0.cls==0 then(8:Int)else bif r0.cls==1 then(16:Int)else bif r0.cls==2 then(24:Int)else(32:Int)),x)) else
 .fail) else
 bif r0.kind==4 then(κ ((i64.wrap (r0.len*64)),x)) else
 κ (0,x)
def VG(x:Rn):T (Int×Rn):=xap g x .ret
theorem xqc(x)(κ:(Int×Rn)->T β):(VG g x).bind κ=xap g x κ:=by
 unfold VG xap
 simp only[bz]
def VH(a0:Int)(g2:Geo)(a3 a4 a5 a6:Int)(b7:Bool)(κ0:Unit->T β)(i:Int)(k:Int->T β):T β:=
 bif decide (i<a0)then(.op (.get (i64.wrap (i64.wrap (a3*8)+i))) fun x1=>
 .op (.put (i64.wrap (i64.wrap (a5*8)+i)) x1) fun _=>
 k (i64.wrap (i+1))) else
 κ0 ()
def vT(a0:Int)(g2:Geo)(a3 a4 a5 a6:Int)(b7:Bool)(a1:Int)(κ0:Unit->T β):T β:=xu xa (VH a0 g2 a3 a4 a5 a6 b7 κ0) a1
theorem xd5{β γ:Type}(a0 g2 a3 a4 a5 a6 b7 a1 κ0)(κ:β->T γ):(vT a0 g2 a3 a4 a5 a6 b7 a1 κ0).bind κ=vT a0 g2 a3 a4 a5 a6 b7 a1 (fun u=>(κ0 u).bind κ):=by
 unfold vT
 refine xi κ (fun i k =>?_) _ _
 unfold VH
 simp only[bz]
def xdr:Pat:=⟨xk 38 0 [(0,.c (.raw (.ptr 0 0))),(5,.c (.int .i64)),(6,.c (.int .i64))],[some ⟨[.raw (.port),.geo,.int .i64,.int .i64,.int .i64,.int .i64,.bool], 96,false,none⟩]⟩
def xmD:Pat:=⟨xk 38 0 [],[some ⟨[.raw (.port),.geo,.int .i64,.int .i64,.int .i64,.int .i64,.bool], 96,false,none⟩]⟩
def ZA:LF:=fun st K=>match xr xdr st with
 | some [.i a0,.i a1,.g g2,.i a3,.i a4,.i a5,.i a6,.b b7]=>some (vT a0 g2 a3 a4 a5 a6 b7 a1 (fun _=>K (.exit 0) (xe xmD [.g g2,.i a3,.i a4,.i a5,.i a6,.b b7])))
 | _=>none
theorem xqd : ∀st K t,ZA st K=some t->xD xa (lf ka6 xa 1 .no [1,0] Tryz.f85 K) st=t:=by
 intro st K t h
 unfold ZA at h
 split at h
 .rename_i a0 a1 g2 a3 a4 a5 a6 b7 hm
  cases h
  rw[xj hm]
  unfold vT
  exact xt (S:=fun(i:Int)=>xe xdr [.i a0,.i i,.g g2,.i a3,.i a4,.i a5,.i a6,.b b7]) (fun i k=>by kernel_rfl) xa a1
 .cases h
def xaq(x:Rn)(n:Int)(κ:(Unit×Rn)->T β):T β:=
 vT n g x.grain x.size x.to x.usable x.has 0 (fun av=>
 κ ((),x))
def qh(x:Rn)(n:Int):T (Unit×Rn):=xaq g x n .ret
theorem xmE(x n)(κ:(Unit×Rn)->T β):(qh g x n).bind κ=xaq g x n κ:=by
 unfold qh xaq
 simp only[bz,xd5]
def xcl(s:Int)(κ:Bool->T β):T β:=
 bif decide (s>0)then(κ (bits BinOp.and i64 s (i64.wrap (s-1))==0)) else
 κ (false)
def xgw(s:Int):T Bool:=xcl s .ret
theorem xiU(s)(κ:Bool->T β):(xgw s).bind κ=xcl s κ:=by
 unfold xgw xcl
 simp only[bz]
def VI:Sm:=fun
 | [.c .port,.agg gc],[]=>(match xF gc with
   | some g=>some (mkS Int (vM g) fun r=>some (.c (.int .i64 r),[]))
   | _=>none)
 | _,_=>none
theorem xiV:Good Tryz.prog (xp ka6) xa 0 (lsAt qg .no [1,1,1,0,1,0]) (Tryz.f152.body.getD .skip) (xw Tryz.f152.results.toList):=xB (xg (by kernel_rfl)) xA xmx
variable{σ:Type}{I:Port Tryz.prog σ}
theorem xmF(hl:SoundL I ka6):SoundF I 152 VI:=by
 refine sq hl xa Tryz.func152 fun _ _ t ht =>?_
 unfold VI at ht
 split at ht
 .rename_i gc
  split at ht
  .rename_i g hg
   obtain rfl:=xm hg
   cases ht
   refine(xE (P:= Tryz.prog) (n:=xa) (x:=(lsAt qg .no [1,1,1,0,1,0])) (fn:= Tryz.f152) (H :=[]) (c:= Tryz.f152.body.getD .skip) (xg (by kernel_rfl)) xiV).symm.trans ?_
   exact ey (xiS g _)
  .cases ht
 .cases ht
def xgx:Sm:=gS fun
 | g,[.c (.int .i64 p)]=>some (mkS Bool (jx g p) fun r=>some (.c (.bool r),[]))
 | _,_=>none
theorem xmG(hl:SoundL I ka6):SoundF I 249 xgx:=by
 refine gsq hl 1 Tryz.func249 fun g l t ht =>?_
 split at ht
 .rename_i p
  cases ht
  exact ey (xiT g p _)
 .cases ht
def xjS:Sm:=gS fun
 | g,[.c .nils]=>some (mkS Bool (kN g) fun r=>some (.c (.bool r),[]))
 | _,_=>none
theorem xqe(hl:SoundL I ka6):SoundF I 105 xjS:=by
 refine gsq hl 5 Tryz.func105 fun g l t ht =>?_
 split at ht
 .cases ht
  exact ey (xmy g _)
 .cases ht
def xcm:Sm:=fun
 | [.c .port,.agg gc,.c (.sl 0 0 1 1)],[some ⟨[.int .i64 k], 3,false,none⟩]=>(match xF gc with
   | some g=>some (mkS Bool (kO g k) fun r=>some (.c (.bool r),[some ⟨[.int .i64 k], 3,false,none⟩]))
   | _=>none)
 | _,_=>none
theorem xqf(hl:SoundL I ka6):SoundF I 105 xcm:=by
 refine sq hl 5 Tryz.func105 fun _ _ t ht =>?_
 unfold xcm at ht
 split at ht
 .rename_i gc k
  split at ht
  .rename_i g hg
   obtain rfl:=xm hg
   cases ht
   exact ey (xmz g k _)
  .cases ht
 .cases ht
def xcn:Sm:=fun
 | [.c .port,.agg gc,.c (.sl 0 0 2 2)],[some ⟨[.int .i64 k,.int .i64 j], 3,false,none⟩]=>(match xF gc with
   | some g=>some (mkS Bool (YS g k j) fun r=>some (.c (.bool r),[some ⟨[.int .i64 k,.int .i64 j], 3,false,none⟩]))
   | _=>none)
 | _,_=>none
theorem xqg(hl:SoundL I ka6):SoundF I 105 xcn:=by
 refine sq hl 5 Tryz.func105 fun _ _ t ht =>?_
 unfold xcn at ht
 split at ht
 .rename_i gc k j
  split at ht
  .rename_i g hg
   obtain rfl:=xm hg
   cases ht
   exact ey (xmA g k j _)
  .cases ht
 .cases ht
def xmH:Sm:=fun
 | [.c (.ptr 0 0),.c (.int .i64 k)],[some ⟨.port::gc, 169,false,none⟩]=>(match hdOf gc with
   | some (g,o)=>some (mkS ((Unit×Int)) (yq g o k) fun r=>some (.tup [],[some ⟨.port::(g.cells ++ [.int .u64 r.2]), 169,false,none⟩]))
   | _=>none)
 | _,_=>none
theorem xx6(hl:SoundL I ka6):SoundF I 180 xmH:=by
 refine sq hl 1 Tryz.func180 fun _ _ t ht =>?_
 unfold xmH at ht
 split at ht
 .rename_i k gc
  split at ht
  .rename_i g o hg
   obtain rfl:=yJ hg
   cases ht
   exact ey (xtW g o k _)
  .cases ht
 .cases ht
def xgy:Sm:=fun
 | [.c (.ptr 0 0),.c (.int .i64 c)],[some ⟨.port::gc, 169,false,none⟩]=>(match hdOf gc with
   | some (g,o)=>some (mkS ((Fnd×Int)) (xcj g o c) fun r=>some (.agg r.1.cells,[some ⟨.port::(g.cells ++ [.int .u64 r.2]), 169,false,none⟩]))
   | _=>none)
 | _,_=>none
theorem xqh:Good Tryz.prog (xp ka6) xa 1 (lsAt YT .no [1,0,1,0]) (Tryz.f224.body.getD .skip) (xw Tryz.f224.results.toList):=xB (xg (by kernel_rfl)) xA xtX
theorem xtY(hl:SoundL I ka6):SoundF I 224 xgy:=by
 refine sq hl xa Tryz.func224 fun _ _ t ht =>?_
 unfold xgy at ht
 split at ht
 .rename_i c gc
  split at ht
  .rename_i g o hg
   obtain rfl:=yJ hg
   cases ht
   refine(xE (P:= Tryz.prog) (n:=xa) (x:=(lsAt YT .no [1,0,1,0])) (fn:= Tryz.f224) (H :=[some ⟨.port::(g.cells ++ [.int .u64 o]), 169,false,none⟩]) (c:= Tryz.f224.body.getD .skip) (xg (by kernel_rfl)) xqh).symm.trans ?_
   exact ey (xp6 g o c _)
  .cases ht
 .cases ht
def xgz:Sm:=fun
 | [.c (.ptr 0 0),.c (.int .i64 c)],[some ⟨.port::gc, 169,false,none⟩]=>(match hdOf gc with
   | some (g,o)=>some (mkS ((Fnd×Int)) (xck g o c) fun r=>some (.agg r.1.cells,[some ⟨.port::(g.cells ++ [.int .u64 r.2]), 169,false,none⟩]))
   | _=>none)
 | _,_=>none
theorem xtZ(hl:SoundL I ka6):SoundF I 225 xgz:=by
 refine sq hl 1 Tryz.func225 fun _ _ t ht =>?_
 unfold xgz at ht
 split at ht
 .rename_i c gc
  split at ht
  .rename_i g o hg
   obtain rfl:=yJ hg
   cases ht
   exact ey (xp7 g o c _)
  .cases ht
 .cases ht
def xgA:Sm:=fun
 | [.c .port,.agg gc,.c (.sl 0 0 1 1)],[some ⟨[.int .i64 a,.int .i64 b], 264,false,none⟩]=>(match xF gc with
   | some g=>some (mkS Unit (VE g a b) fun r=>some (.tup [],[some ⟨[.int .i64 a,.int .i64 b], 264,false,none⟩]))
   | _=>none)
 | _,_=>none
theorem xt0(hl:SoundL I ka6):SoundF I 215 xgA:=by
 refine sq hl 5 Tryz.func215 fun _ _ t ht =>?_
 unfold xgA at ht
 split at ht
 .rename_i gc a b
  split at ht
  .rename_i g hg
   obtain rfl:=xm hg
   cases ht
   exact ey (xp8 g a b _)
  .cases ht
 .cases ht
def xgB:Sm:=fun
 | [.c .port,.agg gc,.c (.sl 0 0 3 3)],[some ⟨[.int .i64 a,.int .i64 b,.int .i64 c,.int .i64 d,.int .i64 e,.int .i64 f], 264,false,none⟩]=>(match xF gc with
   | some g=>some (mkS Unit (VF g a b c d e f) fun r=>some (.tup [],[some ⟨[.int .i64 a,.int .i64 b,.int .i64 c,.int .i64 d,.int .i64 e,.int .i64 f], 264,false,none⟩]))
   | _=>none)
 | _,_=>none
theorem xt1(hl:SoundL I ka6):SoundF I 215 xgB:=by
 refine sq hl 5 Tryz.func215 fun _ _ t ht =>?_
 unfold xgB at ht
 split at ht
 .rename_i gc a b c d e f
  split at ht
  .rename_i g hg
   obtain rfl:=xm hg
   cases ht
   exact ey (xp9 g a b c d e f _)
  .cases ht
 .cases ht
def xqi:Sm:=gS fun
 | g,[]=>some (mkS Cts (xgv g) fun r=>some (.agg r.cells,[]))
 | _,_=>none
theorem xt2(hl:SoundL I ka6):SoundF I 120 xqi:=by
 refine gsq hl 7 Tryz.func120 fun g l t ht =>?_
 split at ht
 .cases ht
  exact ey (xqa g _)
 .cases ht
def xco:Sm:=fun
 | [.agg gc,.c (.int .i64 a),.c (.int .i64 s)],[]=>(match xF gc with
   | some g=>some (mkS Int (YU g a s) fun r=>some (.c (.int .i64 r),[]))
   | _=>none)
 | _,_=>none
theorem xqj(hl:SoundL I ka6):SoundF I 39 xco:=by
 refine sq hl 1 Tryz.func39 fun _ _ t ht =>?_
 unfold xco at ht
 split at ht
 .rename_i gc a s
  split at ht
  .rename_i g hg
   obtain rfl:=xm hg
   cases ht
   exact ey (xmC g a s _)
  .cases ht
 .cases ht
def xgC:Sm:=fun
 | [.c (.ptr 0 0),.agg r0c],[some ⟨.port::gc, 96,false,none⟩]=>(match rnOf gc with
   | some (g,x)=>(match Res.of r0c with
   | some r0=>some (mkS ((Res×Rn)) (jy g x r0) fun r=>some (.agg r.1.cells,[some ⟨.port::(g.cells++r.2.cells), 96,false,none⟩]))
   | _=>none)
   | _=>none)
 | _,_=>none
theorem xt3(hl:SoundL I ka6):SoundF I 40 xgC:=by
 refine sq hl 1 Tryz.func40 fun _ _ t ht =>?_
 unfold xgC at ht
 split at ht
 .rename_i r0c gc
  split at ht
  .rename_i g x hg
   obtain rfl:=YD hg
   split at ht
   .rename_i r0 df
    obtain rfl:=Res.of_eq df
    cases ht
    exact ey (xqb g x r0 _)
   .cases ht
  .cases ht
 .cases ht
def xgD:Sm:=fun
 | [.c (.ptr 0 0)],[some ⟨.port::gc, 96,false,none⟩]=>(match rnOf gc with
   | some (g,x)=>some (mkS ((Int×Rn)) (VG g x) fun r=>some (.c (.int .i64 r.1),[some ⟨.port::(g.cells++r.2.cells), 96,false,none⟩]))
   | _=>none)
 | _,_=>none
theorem xt4(hl:SoundL I ka6):SoundF I 43 xgD:=by
 refine sq hl 1 Tryz.func43 fun _ _ t ht =>?_
 unfold xgD at ht
 split at ht
 .rename_i gc
  split at ht
  .rename_i g x hg
   obtain rfl:=YD hg
   cases ht
   exact ey (xqc g x _)
  .cases ht
 .cases ht
def xcp:Sm:=fun
 | [.c (.ptr 0 0),.c (.int .i64 n)],[some ⟨.port::gc, 96,false,none⟩]=>(match rnOf gc with
   | some (g,x)=>some (mkS ((Unit×Rn)) (qh g x n) fun r=>some (.tup [],[some ⟨.port::(g.cells++r.2.cells), 96,false,none⟩]))
   | _=>none)
 | _,_=>none
theorem xmI:Good Tryz.prog (xp ka6) xa 1 (lsAt ZA .no [1,0]) (Tryz.f85.body.getD .skip) (xw Tryz.f85.results.toList):=xB (xg (by kernel_rfl)) xA xqd
theorem xqk(hl:SoundL I ka6):SoundF I 85 xcp:=by
 refine sq hl xa Tryz.func85 fun _ _ t ht =>?_
 unfold xcp at ht
 split at ht
 .rename_i n gc
  split at ht
  .rename_i g x hg
   obtain rfl:=YD hg
   cases ht
   refine(xE (P:= Tryz.prog) (n:=xa) (x:=(lsAt ZA .no [1,0])) (fn:= Tryz.f85) (H :=[some ⟨.port::(g.cells++x.cells), 96,false,none⟩]) (c:= Tryz.f85.body.getD .skip) (xg (by kernel_rfl)) xmI).symm.trans ?_
   exact ey (xmE g x n _)
  .cases ht
 .cases ht
def VJ:Sm:=fun
 | [.c (.int .i64 s)],[]=>some (mkS Bool (xgw s) fun r=>some (.c (.bool r),[]))
 | _,_=>none
theorem xmJ(hl:SoundL I ka6):SoundF I 187 VJ:=by
 refine sq hl 1 Tryz.func187 fun _ _ t ht =>?_
 unfold VJ at ht
 split at ht
 .rename_i s
  cases ht
  exact ey (xiU s _)
 .cases ht
def ka7:List (Nat×Sm):=(152,VI)::(249,xgx)::(105,(orSm xjS (orSm xcm xcn)))::(180,xmH)::(224,xgy)::(225,xgz)::(215,(orSm xgA xgB))::(120,xqi)::(39,xco)::(40,xgC)::(43,xgD)::(85,xcp)::(187,VJ)::ka6
theorem ku:SoundL I ka7:=(.cons (xmF kt) (.cons (xmG kt) (.cons (SoundF.or (xqe kt) (SoundF.or (xqf kt) (xqg kt))) (.cons (xx6 kt) (.cons (xtY kt) (.cons (xtZ kt) (.cons (SoundF.or (xt0 kt) (xt1 kt)) (.cons (xt2 kt) (.cons (xqj kt) (.cons (xt3 kt) (.cons (xt4 kt) (.cons (xqk kt) (.cons (xmJ kt) kt)))))))))))))
end Lx
namespace Lx
variable{β:Type}(g:Geo)
open Go
def xcq(g1:Geo)(κ0:Unit->T β)(i:Int)(k:Int->T β):T β:=
 bif decide (i<=Xc g1)then(bif i==Xc g1 then(.op (.store (atF g1 17 (inF (i64.wrap (i-1)) 0 1)) 0) fun _=>
 k (i64.wrap (i+1))) else
 .op (.store (atF g1 17 (inF (i64.wrap (i-1)) 0 1)) (Ref.word {idx:=i64.wrap (i+1),mark:=false,ver:=0})) fun _=>
 k (i64.wrap (i+1))) else
 κ0 ()
def wM(g1:Geo)(a0:Int)(κ0:Unit->T β):T β:=xu xa (xcq g1 κ0) a0
theorem xgE{β γ:Type}(g1 a0 κ0)(κ:β->T γ):(wM g1 a0 κ0).bind κ=wM g1 a0 (fun u=>(κ0 u).bind κ):=by
 unfold wM
 refine xi κ (fun i k =>?_) _ _
 unfold xcq
 simp only[bz]
def xgF:Pat:=⟨xk 42 0 [(0,.c (.raw (.port))),(3,.c (.raw (.ptr 0 0))),(4,.c (.int .i64))],[some ⟨[.geo], 26,false,none⟩]⟩
def xql:Pat:=⟨xk 42 0 [(0,.c (.raw (.port))),(3,.c (.raw (.ptr 0 0)))],[some ⟨[.geo], 26,false,none⟩]⟩
def YV:LF:=fun st K=>match xr xgF st with
 | some [.i a0,.g g1]=>some (wM g1 a0 (fun _=>K (.exit 0) (xe xql [.g g1])))
 | _=>none
theorem xt5 : ∀st K t,YV st K=some t->xD xa (lf ka7 xa 0 .no [1,1,0,1,0] Tryz.f59 K) st=t:=by
 intro st K t h
 unfold YV at h
 split at h
 .rename_i a0 g1 hm
  cases h
  rw[xj hm]
  unfold wM
  exact xt (S:=fun(i:Int)=>xe xgF [.i i,.g g1]) (fun i k=>by kernel_rfl) xa a0
 .cases h
def xeJ(κ:Unit->T β):T β:=
 (kN g).bind fun r0=>
 bif r0 then(κ ()) else
 wM g 1 (fun cz=>
 .op (.store (atF g 4 0) 1) fun _=>
 κ ())
def XH:T Unit:=xeJ g .ret
theorem xqm(κ:Unit->T β):(XH g).bind κ=xeJ g κ:=by
 unfold XH xeJ
 simp only[bz,xgE]
def xmK(a0:Int)(g1:Geo)(κ0:Unit->T β)(κ1:Int->T β)(i:Unit)(k:Unit->T β):T β:=
 .op (.load (atF g1 4 0)) fun x0=>
 bif ofW i64 x0 0 24==0 then(κ0 ()) else
 .op (.load (atF g1 17 (inF (i64.wrap (ofW i64 x0 0 24-1)) 0 1))) fun x2=>
 .op (.cas (atF g1 4 0) x0 (Ref.word {idx:=ofW i64 x2 0 24,mark:=false,ver:=u32.wrap (ofW u32 x0 32 32+1)})) fun b3=>
 bif b3 then(κ1 (ofW i64 x0 0 24)) else
 k ()
def ZB(a0:Int)(g1:Geo)  (κ0:Unit->T β) (κ1:Int->T β):T β:=xu xa (xmK a0 g1 κ0 κ1) ()
theorem xmL{β γ:Type}(a0:Int)(g1:Geo)  (κ0:Unit->T β) (κ1:Int->T β) (κ:β->T γ):(ZB a0 g1  κ0 κ1).bind κ=ZB a0 g1  (fun u=>(κ0 u).bind κ) (fun cg=>(κ1 cg).bind κ):=by
 unfold ZB
 refine xi κ (fun i k =>?_) _ _
 unfold xmK
 simp only[bz]
def xqn:Pat:=⟨xk 52 0 [(0,.c (.raw (.port))),(3,.c (.raw (.ptr 0 0))),(4,.c (.int .i64))],[some ⟨[.geo], 26,false,none⟩]⟩
def xjT:Pat:=⟨xk 52 0 [(4,.c (.int .i64))],[]⟩
def xeK:LF:=fun st K=>match xr xqn st with
 | some [.i a0,.g g1]=>some (ZB a0 g1  (fun _=>K (.ret) (xe xjT [.i 0])) (fun cg=>K (.ret) (xe xjT [.i cg])))
 | _=>none
theorem xAk : ∀st K t,xeK st K=some t->xD xa (lf ka7 xa 0 .no [1,1,0] Tryz.f231 K) st=t:=by
 intro st K t h
 unfold xeK at h
 split at h
 .rename_i a0 g1 hm
  cases h
  rw[xj hm]
  unfold ZB
  exact xt (S:=fun(i:Unit)=>xe xqn [.i a0,.g g1]) (fun i k=>by kernel_rfl) xa ()
 .cases h
def xwJ(κ:Int->T β):T β:=
 (kN g).bind fun r0=>
 bif r0 then(κ 0) else
 ZB 0 g (fun cz=>
 κ 0)  (fun cz=>
 κ cz)
def acqT:T Int:=xwJ g .ret
theorem xx7(κ:Int->T β):(acqT g).bind κ=xwJ g κ:=by
 unfold acqT xwJ
 simp only[bz,xmL]
def xgG(a0:Int)(g1:Geo)(κ0:Unit->T β)(i:Unit)(k:Unit->T β):T β:=
 .op (.load (atF g1 4 0)) fun x0=>
 .op (.store (atF g1 17 (inF (i64.wrap (a0-1)) 0 1)) (Ref.word {idx:=ofW i64 x0 0 24,mark:=false,ver:=0})) fun _=>
 .op (.cas (atF g1 4 0) x0 (Ref.word {idx:=a0,mark:=false,ver:=u32.wrap (ofW u32 x0 32 32+1)})) fun b2=>
 bif b2 then(κ0 ()) else
 k ()
def jz(a0:Int)(g1:Geo)  (κ0:Unit->T β):T β:=xu xa (xgG a0 g1 κ0) ()
theorem xiW{β γ:Type}(a0:Int)(g1:Geo)  (κ0:Unit->T β) (κ:β->T γ):(jz a0 g1  κ0).bind κ=jz a0 g1  (fun u=>(κ0 u).bind κ):=by
 unfold jz
 refine xi κ (fun i k =>?_) _ _
 unfold xgG
 simp only[bz]
def xjU:Pat:=⟨xk 50 0 [(0,.c (.raw (.port))),(2,.c (.int .i64)),(4,.c (.raw (.ptr 0 0)))],[some ⟨[.geo], 26,false,none⟩]⟩
def xt6:Pat:=⟨xk 50 0 [],[]⟩
def xar:LF:=fun st K=>match xr xjU st with
 | some [.i a0,.g g1]=>some (jz a0 g1  (fun _=>K (.ret) (xe xt6 [])))
 | _=>none
theorem xx8 : ∀st K t,xar st K=some t->xD xa (lf ka7 xa 0 .no [1,1,0] Tryz.f247 K) st=t:=by
 intro st K t h
 unfold xar at h
 split at h
 .rename_i a0 g1 hm
  cases h
  rw[xj hm]
  unfold jz
  exact xt (S:=fun(i:Unit)=>xe xjU [.i a0,.g g1]) (fun i k=>by kernel_rfl) xa ()
 .cases h
def xmM(n:Int)(κ:Unit->T β):T β:=
 (kO g (atF g 17 (inF (i64.wrap (n-1)) 0 1))).bind fun r0=>
 bif r0 then(κ ()) else
 jz n g (fun cz=>
 κ ())
def xjV(n:Int):T Unit:=xmM g n .ret
theorem xt7(n)(κ:Unit->T β):(xjV g n).bind κ=xmM g n κ:=by
 unfold xjV xmM
 simp only[bz,xiW]
def xgH(a0 a1:Int)(g3:Geo)(a4:Int)(b5:Bool)(a6:Int)(κ0:Int->Bool->Int->T β)(i:Int)(k:Int->T β):T β:=
 .op (.self) fun x0=>
 .op (.store (atF g3 14 (inF x0 a0 2)) (u64.wrap (ofW i64 i 0 24))) fun _=>
 .op (.load a1) fun x2=>
 bif x2==i then(κ0 (ofW i64 i 0 24) (ofW i64 i 24 1==1) (ofW u32 i 32 32)) else
 k x2
def jA(a0 a1:Int)(g3:Geo)(a4:Int)(b5:Bool)(a6 a2:Int)(κ0:Int->Bool->Int->T β):T β:=xu xa (xgH a0 a1 g3 a4 b5 a6 κ0) a2
theorem xiX{β γ:Type}(a0 a1 g3 a4 b5 a6 a2 κ0)(κ:β->T γ):(jA a0 a1 g3 a4 b5 a6 a2 κ0).bind κ=jA a0 a1 g3 a4 b5 a6 a2 (fun cg L6 fj=>(κ0 cg L6 fj).bind κ):=by
 unfold jA
 refine xi κ (fun i k =>?_) _ _
 unfold xgH
 simp only[bz]
def xjW:Pat:=⟨xk 62 0 [(0,.c (.raw (.port))),(2,.c (.int .i64)),(3,.c (.int .i64)),(5,.c (.raw (.ptr 0 0))),(8,.c (.raw (.ptr 1 0))),(9,.c (.int .u64))],[some ⟨[.geo], 26,false,none⟩,some ⟨[.int .i64,.bool,.int .u32], 178,false,none⟩]⟩
def xt8:Pat:=⟨xk 62 0 [(8,.c (.raw (.ptr 1 0)))],[none,some ⟨[.int .i64,.bool,.int .u32], 178,false,none⟩]⟩
def xas:LF:=fun st K=>match xr xjW st with
 | some [.i a0,.i a1,.i a2,.g g3,.i a4,.b b5,.i a6]=>some (jA a0 a1 g3 a4 b5 a6 a2 (fun cg L6 fj=>K (.ret) (xe xt8 [.i cg,.b L6,.i fj])))
 | _=>none
theorem xx9 : ∀st K t,xas st K=some t->xD xa (lf ka7 xa 0 .no [1,1,1,0] Tryz.f258 K) st=t:=by
 intro st K t h
 unfold xas at h
 split at h
 .rename_i a0 a1 a2 g3 a4 b5 a6 hm
  cases h
  rw[xj hm]
  unfold jA
  exact xt (S:=fun(i:Int)=>xe xjW [.i a0,.i a1,.i i,.g g3,.i a4,.b b5,.i a6]) (fun i k=>by kernel_rfl) xa a2
 .cases h
def xmN(s a:Int)(κ:Ref->T β):T β:=
 .op (.self) fun x0=>
 (kO g (atF g 14 (inF x0 s 2))).bind fun r1=>
 bif r1 then(κ ⟨0,false,0⟩) else
 bif decide (a<0)then(κ ⟨0,false,0⟩) else
 bif decide (a>=g.b19)then(κ ⟨0,false,0⟩) else
 .op (.load a) fun x5=>
 jA s a g 0 false 0 x5 (fun bo Bx Hn=>
 κ ⟨bo,Bx,Hn⟩)
def xds(s a:Int):T Ref:=xmN g s a .ret
theorem xt9(s a)(κ:Ref->T β):(xds g s a).bind κ=xmN g s a κ:=by
 unfold xds xmN
 simp only[bz,xiX]
def xeL(s:Int)(κ:Unit->T β):T β:=
 .op (.self) fun x0=>
 (kO g (atF g 14 (inF x0 s 2))).bind fun r1=>
 bif !r1 then(.op (.self) fun x3=>
 .op (.store (atF g 14 (inF x3 s 2)) 0) fun _=>
 κ ()) else
 κ ()
def VK(s:Int):T Unit:=xeL g s .ret
theorem xqo(s)(κ:Unit->T β):(VK g s).bind κ=xeL g s κ:=by
 unfold VK xeL
 simp only[bz]
def xgI(v0:Geo)(v1 v2:Int)(v3:Int×Int->T β)(v4:Int):T β:=
 (yq v0 v1 (i64.wrap (i64.wrap v2-1))).bind fun dq=>
 v3 (i64.wrap (v4+1),dq.2)
def xgJ(v0:Geo)(v1 v2 v3:Int)(v4:Int×Int->T β)(v5:Int):T β:=
 (yq v0 v1 (i64.wrap (i64.wrap v2-1))).bind fun Eu=>
 xgI v0 Eu.2 v3 v4 v5
def VL(v0:Geo)(v1 v2 v3 v4:Int)(v5:Int×Int->T β)(v6:Int):T β:=
 (yq v0 v1 (i64.wrap (i64.wrap v2-1))).bind fun H9=>
 xgJ v0 H9.2 v3 v4 v5 v6
def VM(v0:Geo)(v1 v2 v3 v4 v5 v6:Int)(v7:Int×Int->T β)(v8:Int):T β:=
 (yq v0 v1 (i64.wrap (i64.wrap v2-1))).bind fun H3=>
 (yq v0 H3.2 (i64.wrap (i64.wrap v3-1))).bind fun Hz=>
 VL v0 Hz.2 v4 v5 v6 v7 v8
def VN(v0:Geo)(v1 v2 v3 v4 v5 v6 v7 v8:Int)(v9:Int×Int->T β)(oy:Int):T β:=
 (yq v0 v1 (i64.wrap (i64.wrap v2-1))).bind fun H5=>
 (yq v0 H5.2 (i64.wrap (i64.wrap v3-1))).bind fun H4=>
 VM v0 H4.2 v4 v5 v6 v7 v8 v9 oy
def xmO(v0:Geo)(v1 v2 v3:Int)(v4:Int->Int->T β)(v5:Int):T β:=
 (yq v0 v1 (i64.wrap (i64.wrap v2-1))).bind fun H9=>
 (yq v0 H9.2 (i64.wrap (i64.wrap v3-1))).bind fun Eu=>
 v4 Eu.2 (i64.wrap (i64.wrap v5-1))
def xgK(v0:Geo)(v1 v2 v3 v4 v5:Int)(v6:Int->Int->T β)(v7:Int):T β:=
 (yq v0 v1 (i64.wrap (i64.wrap v2-1))).bind fun H3=>
 (yq v0 H3.2 (i64.wrap (i64.wrap v3-1))).bind fun Hz=>
 xmO v0 Hz.2 v4 v5 v6 v7
def xua(v0:Geo)(v1 v2 v3 v4 v5 v6 v7 v8 v9 oy:Int)(Gy:Int×Int->T β)(Gx:Int)(N6:Int->Int->T β):T β:=
 (ks v0 (i64.wrap (i64.wrap v1-1))).bind fun H7=>
 bif H7.cls != v2 then((yq v0 v3 (i64.wrap (i64.wrap v1-1))).bind fun H6=>
 VN v0 H6.2 v4 v5 v6 v7 v8 v9 oy Gy Gx) else
 (yq v0 v3 (i64.wrap (i64.wrap v4-1))).bind fun H6=>
 (yq v0 H6.2 (i64.wrap (i64.wrap v5-1))).bind fun H5=>
 (yq v0 H5.2 (i64.wrap (i64.wrap v6-1))).bind fun H4=>
 xgK v0 H4.2 v7 v8 v9 oy N6 v1
def VO(a0 a1:Int)(g3:Geo)(a5:Int)(b6:Bool)(a7:Int)(κ0:Int->Int->T β)(κ1:Int->T β)(i:Int×Int)(k:Int×Int->T β):T β:=
 bif decide (i.1<a1)then((hofT g3 i.2 i.1 a0).bind fun r1=>
 bif !r1.1 then(k (i64.wrap (i.1+1),r1.2)) else
 (isT g3 i.1 0).bind fun r3=>
 bif !r3 then(k (i64.wrap (i.1+1),r1.2)) else
 .op (.load (atF g3 9 i.1)) fun x5=>
 yv i.1 g3 i.1 x5 (fun bo=>
 bif bo != 0 then(.op (.load (atF g3 10 (i64.wrap (i64.wrap bo-1)))) fun x8=>
 bif x8 != (0:POp.Ans (POp.load (atF {pages:=g3.pages,threads:=g3.threads,b0:=g3.b0,b1:=g3.b1,b2:=g3.b2,b3:=g3.b3,b4:=g3.b4,b5:=g3.b5,b6:=g3.b6,b7:=g3.b7,b8:=g3.b8,b9:=g3.b9,b10:=g3.b10,b11:=g3.b11,b12:=g3.b12,b13:=g3.b13,b14:=g3.b14,b15:=g3.b15,b16:=g3.b16,b17:=g3.b17,b18:=g3.b18,b19:=g3.b19} 10 (i64.wrap (i64.wrap bo-1)))))then(.op (.load (atF g3 10 (i64.wrap (i64.wrap x8-1)))) fun fl=>
 bif fl != (0:POp.Ans (POp.load (atF {pages:=g3.pages,threads:=g3.threads,b0:=g3.b0,b1:=g3.b1,b2:=g3.b2,b3:=g3.b3,b4:=g3.b4,b5:=g3.b5,b6:=g3.b6,b7:=g3.b7,b8:=g3.b8,b9:=g3.b9,b10:=g3.b10,b11:=g3.b11,b12:=g3.b12,b13:=g3.b13,b14:=g3.b14,b15:=g3.b15,b16:=g3.b16,b17:=g3.b17,b18:=g3.b18,b19:=g3.b19} 10 (i64.wrap (i64.wrap x8-1)))))then(.op (.load (atF g3 10 (i64.wrap (i64.wrap fl-1)))) fun gd=>
 bif gd != (0:POp.Ans (POp.load (atF {pages:=g3.pages,threads:=g3.threads,b0:=g3.b0,b1:=g3.b1,b2:=g3.b2,b3:=g3.b3,b4:=g3.b4,b5:=g3.b5,b6:=g3.b6,b7:=g3.b7,b8:=g3.b8,b9:=g3.b9,b10:=g3.b10,b11:=g3.b11,b12:=g3.b12,b13:=g3.b13,b14:=g3.b14,b15:=g3.b15,b16:=g3.b16,b17:=g3.b17,b18:=g3.b18,b19:=g3.b19} 10 (i64.wrap (i64.wrap fl-1)))))then(.op (.load (atF g3 10 (i64.wrap (i64.wrap gd-1)))) fun gx=>
 bif gx != (0:POp.Ans (POp.load (atF {pages:=g3.pages,threads:=g3.threads,b0:=g3.b0,b1:=g3.b1,b2:=g3.b2,b3:=g3.b3,b4:=g3.b4,b5:=g3.b5,b6:=g3.b6,b7:=g3.b7,b8:=g3.b8,b9:=g3.b9,b10:=g3.b10,b11:=g3.b11,b12:=g3.b12,b13:=g3.b13,b14:=g3.b14,b15:=g3.b15,b16:=g3.b16,b17:=g3.b17,b18:=g3.b18,b19:=g3.b19} 10 (i64.wrap (i64.wrap gd-1)))))then(.op (.load (atF g3 10 (i64.wrap (i64.wrap gx-1)))) fun ly=>
 bif ly != (0:POp.Ans (POp.load (atF {pages:=g3.pages,threads:=g3.threads,b0:=g3.b0,b1:=g3.b1,b2:=g3.b2,b3:=g3.b3,b4:=g3.b4,b5:=g3.b5,b6:=g3.b6,b7:=g3.b7,b8:=g3.b8,b9:=g3.b9,b10:=g3.b10,b11:=g3.b11,b12:=g3.b12,b13:=g3.b13,b14:=g3.b14,b15:=g3.b15,b16:=g3.b16,b17:=g3.b17,b18:=g3.b18,b19:=g3.b19} 10 (i64.wrap (i64.wrap gx-1)))))then(.op (.load (atF g3 10 (i64.wrap (i64.wrap ly-1)))) fun np=>
 bif np != (0:POp.Ans (POp.load (atF {pages:=g3.pages,threads:=g3.threads,b0:=g3.b0,b1:=g3.b1,b2:=g3.b2,b3:=g3.b3,b4:=g3.b4,b5:=g3.b5,b6:=g3.b6,b7:=g3.b7,b8:=g3.b8,b9:=g3.b9,b10:=g3.b10,b11:=g3.b11,b12:=g3.b12,b13:=g3.b13,b14:=g3.b14,b15:=g3.b15,b16:=g3.b16,b17:=g3.b17,b18:=g3.b18,b19:=g3.b19} 10 (i64.wrap (i64.wrap ly-1)))))then(.op (.load (atF g3 10 (i64.wrap (i64.wrap np-1)))) fun uc=>
 bif uc != (0:POp.Ans (POp.load (atF {pages:=g3.pages,threads:=g3.threads,b0:=g3.b0,b1:=g3.b1,b2:=g3.b2,b3:=g3.b3,b4:=g3.b4,b5:=g3.b5,b6:=g3.b6,b7:=g3.b7,b8:=g3.b8,b9:=g3.b9,b10:=g3.b10,b11:=g3.b11,b12:=g3.b12,b13:=g3.b13,b14:=g3.b14,b15:=g3.b15,b16:=g3.b16,b17:=g3.b17,b18:=g3.b18,b19:=g3.b19} 10 (i64.wrap (i64.wrap np-1)))))then(.op (.load (atF g3 10 (i64.wrap (i64.wrap uc-1)))) fun Hr=>
 bif Hr != (0:POp.Ans (POp.load (atF {pages:=g3.pages,threads:=g3.threads,b0:=g3.b0,b1:=g3.b1,b2:=g3.b2,b3:=g3.b3,b4:=g3.b4,b5:=g3.b5,b6:=g3.b6,b7:=g3.b7,b8:=g3.b8,b9:=g3.b9,b10:=g3.b10,b11:=g3.b11,b12:=g3.b12,b13:=g3.b13,b14:=g3.b14,b15:=g3.b15,b16:=g3.b16,b17:=g3.b17,b18:=g3.b18,b19:=g3.b19} 10 (i64.wrap (i64.wrap uc-1)))))then(xua g3 bo a0 r1.2 x8 fl gd gx ly np uc k i.1 κ0) else
 xua g3 bo a0 r1.2 x8 fl gd gx ly np uc k i.1 κ0) else
 (ks g3 (i64.wrap (i64.wrap bo-1))).bind fun zy=>
 bif zy.cls != a0 then(VN g3 r1.2 bo x8 fl gd gx ly np k i.1) else
 (yq g3 r1.2 (i64.wrap (i64.wrap x8-1))).bind fun H7=>
 (yq g3 H7.2 (i64.wrap (i64.wrap fl-1))).bind fun N9=>
 xgK g3 N9.2 gd gx ly np κ0 bo) else
 (ks g3 (i64.wrap (i64.wrap bo-1))).bind fun Eu=>
 bif Eu.cls != a0 then((yq g3 r1.2 (i64.wrap (i64.wrap bo-1))).bind fun zy=>
 VM g3 zy.2 x8 fl gd gx ly k i.1) else
 (yq g3 r1.2 (i64.wrap (i64.wrap x8-1))).bind fun zy=>
 xgK g3 zy.2 fl gd gx ly κ0 bo) else
 (ks g3 (i64.wrap (i64.wrap bo-1))).bind fun Cm=>
 bif Cm.cls != a0 then(VM g3 r1.2 bo x8 fl gd gx k i.1) else
 xgK g3 r1.2 x8 fl gd gx κ0 bo) else
 (ks g3 (i64.wrap (i64.wrap bo-1))).bind fun Oa=>
 bif Oa.cls != a0 then((yq g3 r1.2 (i64.wrap (i64.wrap bo-1))).bind fun Cm=>
 VL g3 Cm.2 x8 fl gd k i.1) else
 (yq g3 r1.2 (i64.wrap (i64.wrap x8-1))).bind fun Cm=>
 xmO g3 Cm.2 fl gd κ0 bo) else
 (ks g3 (i64.wrap (i64.wrap bo-1))).bind fun lz=>
 bif lz.cls != a0 then(VL g3 r1.2 bo x8 fl k i.1) else
 xmO g3 r1.2 x8 fl κ0 bo) else
 (ks g3 (i64.wrap (i64.wrap bo-1))).bind fun dq=>
 bif dq.cls != a0 then(xgJ g3 r1.2 bo x8 k i.1) else
 (yq g3 r1.2 (i64.wrap (i64.wrap x8-1))).bind fun lz=>
 κ0 lz.2 (i64.wrap (i64.wrap bo-1))) else
 (ks g3 (i64.wrap (i64.wrap bo-1))).bind fun ck=>
 bif ck.cls != a0 then(xgI g3 r1.2 bo k i.1) else
 κ0 r1.2 (i64.wrap (i64.wrap bo-1))) else
 k (i64.wrap (i.1+1),r1.2))) else
 κ1 (i.2)
def vU(a0 a1:Int)(g3:Geo)(a5:Int)(b6:Bool)(a7 a2 a4:Int)(κ0:Int->Int->T β)(κ1:Int->T β):T β:=xu xa (VO a0 a1 g3 a5 b6 a7 κ0 κ1) (a2,a4)
theorem xd6{β γ:Type}(a0 a1 g3 a5 b6 a7 a2 a4 κ0 κ1)(κ:β->T γ):(vU a0 a1 g3 a5 b6 a7 a2 a4 κ0 κ1).bind κ=vU a0 a1 g3 a5 b6 a7 a2 a4 (fun bt fj=>(κ0 bt fj).bind κ) (fun bt=>(κ1 bt).bind κ):=by
 unfold vU
 refine xi κ (fun i k =>?_) _ _
 unfold VO xua VN xgK VM VL xmO xgJ xgI
 simp only[bz,ju]
def xdt:Pat:=⟨xk 71 0 [(0,.c (.raw (.ptr 0 0))),(1,.c (.int .i64)),(4,.c (.raw (.ptr 1 0))),(14,.c (.int .i64)),(15,.c (.int .i64))],[some ⟨[.raw (.port),.geo,.int .u64], 169,false,none⟩,some ⟨[.int .i64,.bool,.int .i64], 251,false,none⟩]⟩
def xat:Pat:=⟨xk 71 0 [(4,.c (.raw (.ptr 1 0)))],[some ⟨[.raw (.port),.geo,.int .u64], 169,false,none⟩,some ⟨[.int .i64,.bool,.int .i64], 251,false,none⟩]⟩
def ZC:LF:=fun st K=>match xr xdt st with
 | some [.i a0,.i a1,.i a2,.g g3,.i a4,.i a5,.b b6,.i a7]=>some (vU a0 a1 g3 a5 b6 a7 a2 a4 (fun bt fj=>K (.ret) (xe xat [.g g3,.i bt,.i fj,.b true,.i 0])) (fun bt=>K (.exit 0) (xe xat [.g g3,.i bt,.i a5,.b b6,.i a7])))
 | _=>none
theorem xqp : ∀st K t,ZC st K=some t->xD xa (lf ka7 xa 1 .no [1,0,1,0] Tryz.f223 K) st=t:=by
 intro st K t h
 unfold ZC at h
 split at h
 .rename_i a0 a1 a2 g3 a4 a5 b6 a7 hm
  cases h
  rw[xj hm]
  unfold vU
  exact xt (S:=fun(i:Int×Int)=>xe xdt [.i a0,.i a1,.i i.1,.g g3,.i i.2,.i a5,.b b6,.i a7]) (fun i k=>by kernel_rfl) xa (a2,a4)
 .cases h
def xau(o c:Int)(κ:(Fnd×Int)->T β):T β:=
 vU c g.pages g 0 false 0 0 o (fun av gh=>
 κ (⟨gh,true,0⟩,av))  (fun av=>
 κ (⟨0,false,0⟩,av))
def YW(o c:Int):T (Fnd×Int):=xau g o c .ret
theorem xmP(o c)(κ:(Fnd×Int)->T β):(YW g o c).bind κ=xau g o c κ:=by
 unfold YW xau
 simp only[bz,xd6]
def XI(a0:Int)(g2:Geo)(κ0:Int->T β)(i:Int×Int)(k:Int×Int->T β):T β:=
 bif decide (i.1<a0)then((isT g2 i.1 0).bind fun r1=>
 bif !r1 then(k (i64.wrap (i.1+1),i.2)) else
 .op (.load (atF g2 9 i.1)) fun x3=>
 yv i.1 g2 i.1 x3 (fun gw=>
 bif gw != 0 then(.op (.load (atF g2 10 (i64.wrap (i64.wrap gw-1)))) fun x6=>
 bif x6 != (0:POp.Ans (POp.load (atF g2 10 (i64.wrap (i64.wrap gw-1)))))then(.op (.load (atF g2 10 (i64.wrap (i64.wrap x6-1)))) fun x8=>
 bif x8 != (0:POp.Ans (POp.load (atF g2 10 (i64.wrap (i64.wrap x6-1)))))then(.op (.load (atF g2 10 (i64.wrap (i64.wrap x8-1)))) fun fl=>
 bif fl != (0:POp.Ans (POp.load (atF g2 10 (i64.wrap (i64.wrap x8-1)))))then(.op (.load (atF g2 10 (i64.wrap (i64.wrap fl-1)))) fun gd=>
 bif gd != (0:POp.Ans (POp.load (atF g2 10 (i64.wrap (i64.wrap fl-1)))))then(.op (.load (atF g2 10 (i64.wrap (i64.wrap gd-1)))) fun gx=>
 bif gx != (0:POp.Ans (POp.load (atF g2 10 (i64.wrap (i64.wrap gd-1)))))then(.op (.load (atF g2 10 (i64.wrap (i64.wrap gx-1)))) fun ly=>
 bif ly != (0:POp.Ans (POp.load (atF g2 10 (i64.wrap (i64.wrap gx-1)))))then(.op (.load (atF g2 10 (i64.wrap (i64.wrap ly-1)))) fun np=>
 bif np != (0:POp.Ans (POp.load (atF g2 10 (i64.wrap (i64.wrap ly-1)))))then(.op (.load (atF g2 10 (i64.wrap (i64.wrap np-1)))) fun uc=>
 bif uc != (0:POp.Ans (POp.load (atF g2 10 (i64.wrap (i64.wrap np-1)))))then((yq g2 i.2 (i64.wrap (i64.wrap gw-1))).bind fun zy=>
 VN g2 zy.2 x6 x8 fl gd gx ly np k i.1) else
 (yq g2 i.2 (i64.wrap (i64.wrap gw-1))).bind fun zy=>
 VN g2 zy.2 x6 x8 fl gd gx ly np k i.1) else
 VN g2 i.2 gw x6 x8 fl gd gx ly k i.1) else
 (yq g2 i.2 (i64.wrap (i64.wrap gw-1))).bind fun Cm=>
 VM g2 Cm.2 x6 x8 fl gd gx k i.1) else
 VM g2 i.2 gw x6 x8 fl gd k i.1) else
 (yq g2 i.2 (i64.wrap (i64.wrap gw-1))).bind fun lz=>
 VL g2 lz.2 x6 x8 fl k i.1) else
 VL g2 i.2 gw x6 x8 k i.1) else
 xgJ g2 i.2 gw x6 k i.1) else
 xgI g2 i.2 gw k i.1) else
 k (i64.wrap (i.1+1),i.2))) else
 κ0 (i.2)
def vz(a0:Int)(g2:Geo)(a1 a3:Int)(κ0:Int->T β):T β:=xu xa (XI a0 g2 κ0) (a1,a3)
theorem xcr{β γ:Type}(a0 g2 a1 a3 κ0)(κ:β->T γ):(vz a0 g2 a1 a3 κ0).bind κ=vz a0 g2 a1 a3 (fun bt=>(κ0 bt).bind κ):=by
 unfold vz
 refine xi κ (fun i k =>?_) _ _
 unfold XI VN VM VL xgJ xgI
 simp only[bz,ju]
def xav:Pat:=⟨xk 33 0 [(0,.c (.raw (.ptr 0 0))),(9,.c (.int .i64)),(10,.c (.int .i64))],[some ⟨[.raw (.port),.geo,.int .u64], 169,false,none⟩]⟩
def xiY:Pat:=⟨xk 33 0 [],[some ⟨[.raw (.port),.geo,.int .u64], 169,false,none⟩]⟩
def qi:LF:=fun st K=>match xr xav st with
 | some [.i a0,.i a1,.g g2,.i a3]=>some (vz a0 g2 a1 a3 (fun bt=>K (.exit 0) (xe xiY [.g g2,.i bt])))
 | _=>none
theorem xmQ : ∀st K t,qi st K=some t->xD xa (lf ka7 xa 1 .no [1,0] Tryz.f238 K) st=t:=by
 intro st K t h
 unfold qi at h
 split at h
 .rename_i a0 a1 g2 a3 hm
  cases h
  rw[xj hm]
  unfold vz
  exact xt (S:=fun(i:Int×Int)=>xe xav [.i a0,.i i.1,.g g2,.i i.2]) (fun i k=>by kernel_rfl) xa (a1,a3)
 .cases h
def YX(o:Int)(κ:(Unit×Int)->T β):T β:=
 vz g.pages g 0 o (fun av=>
 κ ((),av))
def qP(o:Int):T (Unit×Int):=YX g o .ret
theorem xiZ(o)(κ:(Unit×Int)->T β):(qP g o).bind κ=YX g o κ:=by
 unfold qP YX
 simp only[bz,xcr]
def XJ(a0:Int)(g2:Geo)(κ0:Int->T β)(i:Int×Int)(k:Int×Int->T β):T β:=
 bif decide (i.1<a0)then(.op (.load (atF g2 8 i.1)) fun x1=>
 bif decide (ofW i64 x1 8 3>0)then(bif decide ((bif decide (ofW i64 x1 8 3>0)then i64.wrap (ofW i64 x1 8 3-1)else(0:Int))<4)then(bif decide (0<=(btOf x1).cls/\(btOf x1).cls<4)then((xdl {map:=ofW u8 x1 0 8,has:=decide (ofW i64 x1 8 3>0),cls:=bif decide (ofW i64 x1 8 3>0)then i64.wrap (ofW i64 x1 8 3-1)else(0:Int),ver:=ofW u32 x1 32 32} (bif (bif decide (ofW i64 x1 8 3>0)then i64.wrap (ofW i64 x1 8 3-1)else(0:Int))==0 then 8 else bif (bif decide (ofW i64 x1 8 3>0)then i64.wrap (ofW i64 x1 8 3-1)else(0:Int))==0+1 then 4 else bif (bif decide (ofW i64 x1 8 3>0)then i64.wrap (ofW i64 x1 8 3-1)else(0:Int))==0+1+1 then 2 else(2:Int))).bind fun r5=>
 bif r5 then((jx g2 i.1).bind fun r7=>
 bif r7 then((yX g2 i.2 1).bind fun r9=>
 k (i64.wrap (i.1+1),r9.2)) else
 k (i64.wrap (i.1+1),i.2)) else
 k (i64.wrap (i.1+1),i.2)) else
 .fail) else
 k (i64.wrap (i.1+1),i.2)) else
 k (i64.wrap (i.1+1),i.2)) else
 κ0 (i.2)
def vA(a0:Int)(g2:Geo)(a1 a3:Int)(κ0:Int->T β):T β:=xu xa (XJ a0 g2 κ0) (a1,a3)
theorem xcs{β γ:Type}(a0 g2 a1 a3 κ0)(κ:β->T γ):(vA a0 g2 a1 a3 κ0).bind κ=vA a0 g2 a1 a3 (fun bt=>(κ0 bt).bind κ):=by
 unfold vA
 refine xi κ (fun i k =>?_) _ _
 unfold XJ
 simp only[bz]
def xaw:Pat:=⟨xk 57 0 [(0,.c (.raw (.ptr 0 0))),(8,.c (.int .i64)),(9,.c (.int .i64))],[some ⟨[.raw (.port),.geo,.int .u64], 169,false,none⟩]⟩
def xi0:Pat:=⟨xk 57 0 [],[some ⟨[.raw (.port),.geo,.int .u64], 169,false,none⟩]⟩
def qj:LF:=fun st K=>match xr xaw st with
 | some [.i a0,.i a1,.g g2,.i a3]=>some (vA a0 g2 a1 a3 (fun bt=>K (.exit 0) (xe xi0 [.g g2,.i bt])))
 | _=>none
theorem xmR : ∀st K t,qj st K=some t->xD xa (lf ka7 xa 1 .no [1,0] Tryz.f239 K) st=t:=by
 intro st K t h
 unfold qj at h
 split at h
 .rename_i a0 a1 g2 a3 hm
  cases h
  rw[xj hm]
  unfold vA
  exact xt (S:=fun(i:Int×Int)=>xe xaw [.i a0,.i i.1,.g g2,.i i.2]) (fun i k=>by kernel_rfl) xa (a1,a3)
 .cases h
def YY(o:Int)(κ:(Unit×Int)->T β):T β:=
 vA g.pages g 0 o (fun av=>
 κ ((),av))
def qQ(o:Int):T (Unit×Int):=YY g o .ret
theorem xi1(o)(κ:(Unit×Int)->T β):(qQ g o).bind κ=YY g o κ:=by
 unfold qQ YY
 simp only[bz,xcs]
def ZD(o:Int)(κ:(Unit×Int)->T β):T β:=
 (tryT g).bind fun r0=>
 bif r0 then((vM g).bind fun r2=>
 (yX g o r2).bind fun r3=>
 (XC g).bind fun r4=>
 κ ((),r3.2)) else
 κ ((),o)
def qR(o:Int):T (Unit×Int):=ZD g o .ret
theorem xgL(o)(κ:(Unit×Int)->T β):(qR g o).bind κ=ZD g o κ:=by
 unfold qR ZD
 simp only[bz]
def xmS(o k a:Int)(κ:(Fnd×Int)->T β):T β:=
 (tryT g).bind fun r0=>
 bif !r0 then(κ (⟨0,false,5⟩,o)) else
 (vM g).bind fun r2=>
 (yX g o r2).bind fun r3=>
 (kM g k a).bind fun r4=>
 (XC g).bind fun r5=>
 κ (⟨(i64.wrap (r4.1*8)),r4.2,0⟩,r3.2)
def xgM(o k a:Int):T (Fnd×Int):=xmS g o k a .ret
theorem xub(o k a)(κ:(Fnd×Int)->T β):(xgM g o k a).bind κ=xmS g o k a κ:=by
 unfold xgM xmS
 simp only[bz]
def VP(a0 a1 a4 a5 a6:Int)(g7:Geo)(κ0:Int->T β)(i:Int×Bool×Int)(k:Int×Bool×Int->T β):T β:=
 bif i.2.1 then((yq g7 i.2.2 (i64.wrap (i64.wrap i.1-1))).bind fun r1=>
 (Zv g7 a0 a1).bind fun r2=>
 k (r2.1,r2.2,r1.2)) else
 κ0 (i.2.2)
def vV(a0 a1 a4 a5 a6:Int)(g7:Geo)(a2:Int)(b3:Bool)(a8:Int)(κ0:Int->T β):T β:=xu xa (VP a0 a1 a4 a5 a6 g7 κ0) (a2,b3,a8)
theorem xd7{β γ:Type}(a0 a1 a4 a5 a6 g7 a2 b3 a8 κ0)(κ:β->T γ):(vV a0 a1 a4 a5 a6 g7 a2 b3 a8 κ0).bind κ=vV a0 a1 a4 a5 a6 g7 a2 b3 a8 (fun li=>(κ0 li).bind κ):=by
 unfold vV
 refine xi κ (fun i k =>?_) _ _
 unfold VP
 simp only[bz]
def xdu:Pat:=⟨xk 52 0 [(0,.c (.raw (.ptr 0 0))),(2,.c (.int .i64)),(3,.c (.int .i64)),(4,.c (.int .u64)),(5,.c (.bool)),(10,.c (.int .i64)),(11,.c (.int .i64)),(14,.c (.int .i64))],[some ⟨[.raw (.port),.geo,.int .u64], 169,false,none⟩]⟩
def ZE:Pat:=⟨xk 52 0 [(0,.c (.raw (.ptr 0 0))),(2,.c (.int .i64)),(10,.c (.int .i64)),(11,.c (.int .i64)),(14,.c (.int .i64))],[some ⟨[.raw (.port),.geo,.int .u64], 169,false,none⟩]⟩
def wO:LF:=fun st K=>match xr xdu st with
 | some [.i a0,.i a1,.i a2,.b b3,.i a4,.i a5,.i a6,.g g7,.i a8]=>some (vV a0 a1 a4 a5 a6 g7 a2 b3 a8 (fun li=>K (.exit 4) (xe ZE [.i a0,.i a4,.i a5,.i a6,.g g7,.i li])))
 | _=>none
theorem xqq : ∀st K t,wO st K=some t->xD xa (lf ka7 xa 1 .no [1,0,0,1,1,0,0,1,1,0,0,1,1,0,0,1,1,0] Tryz.f236 K) st=t:=by
 intro st K t h
 unfold wO at h
 split at h
 .rename_i a0 a1 a2 b3 a4 a5 a6 g7 a8 hm
  cases h
  rw[xj hm]
  unfold vV
  exact xt (S:=fun(i:Int×Bool×Int)=>xe xdu [.i a0,.i a1,.i i.1,.b i.2.1,.i a4,.i a5,.i a6,.g g7,.i i.2.2]) (fun i k=>by kernel_rfl) xa (a2,b3,a8)
 .cases h
def VQ(a0 a1 a2:Int)(g4:Geo)(κ0:Int->T β)(i:Int×Int)(k:Int×Int->T β):T β:=
 bif decide (i.1<4)then((Zv g4 a0 i.1).bind fun r1=>
 vV a0 i.1 a1 a2 i.1 g4 r1.1 r1.2 i.2 (fun cz=>
 k (i64.wrap (i.1+1),cz))) else
 κ0 (i.2)
def vB(a0 a1 a2:Int)(g4:Geo)(a3 a5:Int)(κ0:Int->T β):T β:=xu xa (VQ a0 a1 a2 g4 κ0) (a3,a5)
theorem xd8{β γ:Type}(a0 a1 a2 g4 a3 a5 κ0)(κ:β->T γ):(vB a0 a1 a2 g4 a3 a5 κ0).bind κ=vB a0 a1 a2 g4 a3 a5 (fun lj=>(κ0 lj).bind κ):=by
 unfold vB
 refine xi κ (fun i k =>?_) _ _
 unfold VQ
 simp only[bz,xd7]
def ZF:Pat:=⟨xk 52 0 [(0,.c (.raw (.ptr 0 0))),(10,.c (.int .i64)),(11,.c (.int .i64))],[some ⟨[.raw (.port),.geo,.int .u64], 169,false,none⟩]⟩
def jB:LF:=fun st K=>match xr ZE st with
 | some [.i a0,.i a1,.i a2,.i a3,.g g4,.i a5]=>some (vB a0 a1 a2 g4 a3 a5 (fun lj=>K (.exit 2) (xe ZF [.i a1,.i a2,.g g4,.i lj])))
 | _=>none
theorem xqr : ∀st K t,jB st K=some t->xD xa (lf ka7 xa 1 (lsAt wO .no [1,1,0,0,1,1,0]) [1,0,0,1,1,0,0,1,1,0] Tryz.f236 K) st=t:=by
 intro st K t h
 unfold jB at h
 split at h
 .rename_i a0 a1 a2 a3 g4 a5 hm
  cases h
  rw[xj hm]
  unfold vB
  exact xt (S:=fun(i:Int×Int)=>xe ZE [.i a0,.i a1,.i a2,.i i.1,.g g4,.i i.2]) (fun i k=>by kernel_rfl) xa (a3,a5)
 .cases h
def VR(a0:Int)(g2:Geo)(κ0:Int->T β)(i:Int×Int)(k:Int×Int->T β):T β:=
 bif decide (i.1<a0)then(vB i.1 a0 i.1 g2 0 i.2 (fun d7=>
 k (i64.wrap (i.1+1),d7))) else
 κ0 (i.2)
def vW(a0:Int)(g2:Geo)(a1 a3:Int)(κ0:Int->T β):T β:=xu xa (VR a0 g2 κ0) (a1,a3)
theorem xd9{β γ:Type}(a0 g2 a1 a3 κ0)(κ:β->T γ):(vW a0 g2 a1 a3 κ0).bind κ=vW a0 g2 a1 a3 (fun bt=>(κ0 bt).bind κ):=by
 unfold vW
 refine xi κ (fun i k =>?_) _ _
 unfold VR
 simp only[bz,xd8]
def xmT:Pat:=⟨xk 52 0 [],[some ⟨[.raw (.port),.geo,.int .u64], 169,false,none⟩]⟩
def ZG:LF:=fun st K=>match xr ZF st with
 | some [.i a0,.i a1,.g g2,.i a3]=>some (vW a0 g2 a1 a3 (fun bt=>K (.exit 0) (xe xmT [.g g2,.i bt])))
 | _=>none
theorem xqs : ∀st K t,ZG st K=some t->xD xa (lf ka7 xa 1 (lsAt jB (lsAt wO .no [1,1,0,0,1,1,0]) [1,1,0,0,1,1,0]) [1,0] Tryz.f236 K) st=t:=by
 intro st K t h
 unfold ZG at h
 split at h
 .rename_i a0 a1 g2 a3 hm
  cases h
  rw[xj hm]
  unfold vW
  exact xt (S:=fun(i:Int×Int)=>xe ZF [.i a0,.i i.1,.g g2,.i i.2]) (fun i k=>by kernel_rfl) xa (a1,a3)
 .cases h
def xax(o:Int)(κ:(Unit×Int)->T β):T β:=
 vW g.threads g 0 o (fun av=>
 κ ((),av))
def YZ(o:Int):T (Unit×Int):=xax g o .ret
theorem xmU(o)(κ:(Unit×Int)->T β):(YZ g o).bind κ=xax g o κ:=by
 unfold YZ xax
 simp only[bz,xd9]
def xay(z:Int)(κ:Unit->T β):T β:=
 (VF g 0 1 3 1 4 z).bind fun r0=>
 κ ()
def Wa(z:Int):T Unit:=xay g z .ret
theorem xmV(z)(κ:Unit->T β):(Wa g z).bind κ=xay g z κ:=by
 unfold Wa xay
 simp only[bz]
def xaz(z:Int)(κ:Unit->T β):T β:=
 (VF g 1 1 3 (-1) 4 (i64.wrap (0-z))).bind fun r0=>
 κ ()
def Wb(z:Int):T Unit:=xaz g z .ret
theorem xmW(z)(κ:Unit->T β):(Wb g z).bind κ=xaz g z κ:=by
 unfold Wb xaz
 simp only[bz]
def Wc(κ:Unit->T β):T β:=
 (VE g 2 1).bind fun r0=>
 κ ()
def jC:T Unit:=Wc g .ret
theorem xi2(κ:Unit->T β):(jC g).bind κ=Wc g κ:=by
 unfold jC Wc
 simp only[bz]
def ZH(w z:Int)(κ:Unit->T β):T β:=
 (VE g 4 (i64.wrap (z-w))).bind fun r0=>
 κ ()
def kZ(w z:Int):T Unit:=ZH g w z .ret
theorem xgN(w z)(κ:Unit->T β):(kZ g w z).bind κ=ZH g w z κ:=by
 unfold kZ ZH
 simp only[bz]
def xaA:Sm:=fun
 | [.c .port,.agg gc],[]=>(match xF gc with
   | some g=>some (mkS Unit (XH g) fun r=>some (.tup [],[]))
   | _=>none)
 | _,_=>none
theorem xqt:Good Tryz.prog (xp ka7) xa 0 (lsAt YV .no [1,1,0,1,0]) (Tryz.f59.body.getD .skip) (xw Tryz.f59.results.toList):=xB (xg (by kernel_rfl)) xA xt5
variable{σ:Type}{I:Port Tryz.prog σ}
theorem xgO(hl:SoundL I ka7):SoundF I 59 xaA:=by
 refine sq hl xa Tryz.func59 fun _ _ t ht =>?_
 unfold xaA at ht
 split at ht
 .rename_i gc
  split at ht
  .rename_i g hg
   obtain rfl:=xm hg
   cases ht
   refine(xE (P:= Tryz.prog) (n:=xa) (x:=(lsAt YV .no [1,1,0,1,0])) (fn:= Tryz.f59) (H :=[]) (c:= Tryz.f59.body.getD .skip) (xg (by kernel_rfl)) xqt).symm.trans ?_
   exact ey (xqm g _)
  .cases ht
 .cases ht
def xuc:Sm:=fun
 | [.c .port,.agg gc],[]=>(match xF gc with
   | some g=>some (mkS Int (acqT g) fun r=>some (.c (.int .i64 r),[]))
   | _=>none)
 | _,_=>none
theorem xya:Good Tryz.prog (xp ka7) xa 0 (lsAt xeK .no [1,1,0]) (Tryz.f231.body.getD .skip) (xw Tryz.f231.results.toList):=xB (xg (by kernel_rfl)) xA xAk
theorem xAl(hl:SoundL I ka7):SoundF I 231 xuc:=by
 refine sq hl xa Tryz.func231 fun _ _ t ht =>?_
 unfold xuc at ht
 split at ht
 .rename_i gc
  split at ht
  .rename_i g hg
   obtain rfl:=xm hg
   cases ht
   refine(xE (P:= Tryz.prog) (n:=xa) (x:=(lsAt xeK .no [1,1,0])) (fn:= Tryz.f231) (H :=[]) (c:= Tryz.f231.body.getD .skip) (xg (by kernel_rfl)) xya).symm.trans ?_
   exact ey (xx7 g _)
  .cases ht
 .cases ht
def xmX:Sm:=fun
 | [.c .port,.agg gc,.c (.int .i64 n)],[]=>(match xF gc with
   | some g=>some (mkS Unit (xjV g n) fun r=>some (.tup [],[]))
   | _=>none)
 | _,_=>none
theorem xud:Good Tryz.prog (xp ka7) xa 0 (lsAt xar .no [1,1,0]) (Tryz.f247.body.getD .skip) (xw Tryz.f247.results.toList):=xB (xg (by kernel_rfl)) xA xx8
theorem xyb(hl:SoundL I ka7):SoundF I 247 xmX:=by
 refine sq hl xa Tryz.func247 fun _ _ t ht =>?_
 unfold xmX at ht
 split at ht
 .rename_i gc n
  split at ht
  .rename_i g hg
   obtain rfl:=xm hg
   cases ht
   refine(xE (P:= Tryz.prog) (n:=xa) (x:=(lsAt xar .no [1,1,0])) (fn:= Tryz.f247) (H :=[]) (c:= Tryz.f247.body.getD .skip) (xg (by kernel_rfl)) xud).symm.trans ?_
   exact ey (xt7 g n _)
  .cases ht
 .cases ht
def xmY:Sm:=fun
 | [.c .port,.agg gc,.c (.int .i64 s),.c (.int .i64 a)],[]=>(match xF gc with
   | some g=>some (mkS Ref (xds g s a) fun r=>some (.agg r.cells,[]))
   | _=>none)
 | _,_=>none
theorem xue:Good Tryz.prog (xp ka7) xa 0 (lsAt xas .no [1,1,1,0]) (Tryz.f258.body.getD .skip) (xw Tryz.f258.results.toList):=xB (xg (by kernel_rfl)) xA xx9
theorem xyc(hl:SoundL I ka7):SoundF I 258 xmY:=by
 refine sq hl xa Tryz.func258 fun _ _ t ht =>?_
 unfold xmY at ht
 split at ht
 .rename_i gc s a
  split at ht
  .rename_i g hg
   obtain rfl:=xm hg
   cases ht
   refine(xE (P:= Tryz.prog) (n:=xa) (x:=(lsAt xas .no [1,1,1,0])) (fn:= Tryz.f258) (H :=[]) (c:= Tryz.f258.body.getD .skip) (xg (by kernel_rfl)) xue).symm.trans ?_
   exact ey (xt9 g s a _)
  .cases ht
 .cases ht
def xqu:Sm:=gS fun
 | g,[.c (.int .i64 s)]=>some (mkS Unit (VK g s) fun r=>some (.tup [],[]))
 | _,_=>none
theorem xuf(hl:SoundL I ka7):SoundF I 260 xqu:=by
 refine gsq hl 1 Tryz.func260 fun g l t ht =>?_
 split at ht
 .rename_i s
  cases ht
  exact ey (xqo g s _)
 .cases ht
def xct:Sm:=fun
 | [.c (.ptr 0 0),.c (.int .i64 c)],[some ⟨.port::gc, 169,false,none⟩]=>(match hdOf gc with
   | some (g,o)=>some (mkS ((Fnd×Int)) (YW g o c) fun r=>some (.agg r.1.cells,[some ⟨.port::(g.cells ++ [.int .u64 r.2]), 169,false,none⟩]))
   | _=>none)
 | _,_=>none
theorem xmZ:Good Tryz.prog (xp ka7) xa 1 (lsAt ZC .no [1,0,1,0]) (Tryz.f223.body.getD .skip) (xw Tryz.f223.results.toList):=xB (xg (by kernel_rfl)) xA xqp
theorem xqv(hl:SoundL I ka7):SoundF I 223 xct:=by
 refine sq hl xa Tryz.func223 fun _ _ t ht =>?_
 unfold xct at ht
 split at ht
 .rename_i c gc
  split at ht
  .rename_i g o hg
   obtain rfl:=yJ hg
   cases ht
   refine(xE (P:= Tryz.prog) (n:=xa) (x:=(lsAt ZC .no [1,0,1,0])) (fn:= Tryz.f223) (H :=[some ⟨.port::(g.cells ++ [.int .u64 o]), 169,false,none⟩]) (c:= Tryz.f223.body.getD .skip) (xg (by kernel_rfl)) xmZ).symm.trans ?_
   exact ey (xmP g o c _)
  .cases ht
 .cases ht
def VS:Sm:=fun
 | [.c (.ptr 0 0)],[some ⟨.port::gc, 169,false,none⟩]=>(match hdOf gc with
   | some (g,o)=>some (mkS ((Unit×Int)) (qP g o) fun r=>some (.tup [],[some ⟨.port::(g.cells ++ [.int .u64 r.2]), 169,false,none⟩]))
   | _=>none)
 | _,_=>none
theorem xi3:Good Tryz.prog (xp ka7) xa 1 (lsAt qi .no [1,0]) (Tryz.f238.body.getD .skip) (xw Tryz.f238.results.toList):=xB (xg (by kernel_rfl)) xA xmQ
theorem xm0(hl:SoundL I ka7):SoundF I 238 VS:=by
 refine sq hl xa Tryz.func238 fun _ _ t ht =>?_
 unfold VS at ht
 split at ht
 .rename_i gc
  split at ht
  .rename_i g o hg
   obtain rfl:=yJ hg
   cases ht
   refine(xE (P:= Tryz.prog) (n:=xa) (x:=(lsAt qi .no [1,0])) (fn:= Tryz.f238) (H :=[some ⟨.port::(g.cells ++ [.int .u64 o]), 169,false,none⟩]) (c:= Tryz.f238.body.getD .skip) (xg (by kernel_rfl)) xi3).symm.trans ?_
   exact ey (xiZ g o _)
  .cases ht
 .cases ht
def VT:Sm:=fun
 | [.c (.ptr 0 0)],[some ⟨.port::gc, 169,false,none⟩]=>(match hdOf gc with
   | some (g,o)=>some (mkS ((Unit×Int)) (qQ g o) fun r=>some (.tup [],[some ⟨.port::(g.cells ++ [.int .u64 r.2]), 169,false,none⟩]))
   | _=>none)
 | _,_=>none
theorem xi4:Good Tryz.prog (xp ka7) xa 1 (lsAt qj .no [1,0]) (Tryz.f239.body.getD .skip) (xw Tryz.f239.results.toList):=xB (xg (by kernel_rfl)) xA xmR
theorem xm1(hl:SoundL I ka7):SoundF I 239 VT:=by
 refine sq hl xa Tryz.func239 fun _ _ t ht =>?_
 unfold VT at ht
 split at ht
 .rename_i gc
  split at ht
  .rename_i g o hg
   obtain rfl:=yJ hg
   cases ht
   refine(xE (P:= Tryz.prog) (n:=xa) (x:=(lsAt qj .no [1,0])) (fn:= Tryz.f239) (H :=[some ⟨.port::(g.cells ++ [.int .u64 o]), 169,false,none⟩]) (c:= Tryz.f239.body.getD .skip) (xg (by kernel_rfl)) xi4).symm.trans ?_
   exact ey (xi1 g o _)
  .cases ht
 .cases ht
def XK:Sm:=fun
 | [.c (.ptr 0 0)],[some ⟨.port::gc, 169,false,none⟩]=>(match hdOf gc with
   | some (g,o)=>some (mkS ((Unit×Int)) (qR g o) fun r=>some (.tup [],[some ⟨.port::(g.cells ++ [.int .u64 r.2]), 169,false,none⟩]))
   | _=>none)
 | _,_=>none
theorem xi5(hl:SoundL I ka7):SoundF I 98 XK:=by
 refine sq hl 1 Tryz.func98 fun _ _ t ht =>?_
 unfold XK at ht
 split at ht
 .rename_i gc
  split at ht
  .rename_i g o hg
   obtain rfl:=yJ hg
   cases ht
   exact ey (xgL g o _)
  .cases ht
 .cases ht
def xm2:Sm:=fun
 | [.c (.ptr 0 0),.c (.int .i64 k),.c (.int .i64 a)],[some ⟨.port::gc, 169,false,none⟩]=>(match hdOf gc with
   | some (g,o)=>some (mkS ((Fnd×Int)) (xgM g o k a) fun r=>some (.agg r.1.cells,[some ⟨.port::(g.cells ++ [.int .u64 r.2]), 169,false,none⟩]))
   | _=>none)
 | _,_=>none
theorem xyd(hl:SoundL I ka7):SoundF I 195 xm2:=by
 refine sq hl 1 Tryz.func195 fun _ _ t ht =>?_
 unfold xm2 at ht
 split at ht
 .rename_i k a gc
  split at ht
  .rename_i g o hg
   obtain rfl:=yJ hg
   cases ht
   exact ey (xub g o k a _)
  .cases ht
 .cases ht
def xcu:Sm:=fun
 | [.c (.ptr 0 0)],[some ⟨.port::gc, 169,false,none⟩]=>(match hdOf gc with
   | some (g,o)=>some (mkS ((Unit×Int)) (YZ g o) fun r=>some (.tup [],[some ⟨.port::(g.cells ++ [.int .u64 r.2]), 169,false,none⟩]))
   | _=>none)
 | _,_=>none
theorem xm3:Good Tryz.prog (xp ka7) xa 1 (lsAt ZG (lsAt jB (lsAt wO .no [1,1,0,0,1,1,0]) [1,1,0,0,1,1,0]) [1,0]) (Tryz.f236.body.getD .skip) (xw Tryz.f236.results.toList):=xB (xg (by kernel_rfl)) (vS (p :=[1,0]) (q :=[1,1,0,0,1,1,0]) (xg (fn:= Tryz.f236) (by kernel_rfl)) (vS (p :=[1,0,0,1,1,0,0,1,1,0]) (q :=[1,1,0,0,1,1,0]) (xg (fn:= Tryz.f236) (by kernel_rfl)) xA xqq (by kernel_rfl)) xqr (by kernel_rfl)) xqs
theorem xqw(hl:SoundL I ka7):SoundF I 236 xcu:=by
 refine sq hl xa Tryz.func236 fun _ _ t ht =>?_
 unfold xcu at ht
 split at ht
 .rename_i gc
  split at ht
  .rename_i g o hg
   obtain rfl:=yJ hg
   cases ht
   refine(xE (P:= Tryz.prog) (n:=xa) (x:=(lsAt ZG (lsAt jB (lsAt wO .no [1,1,0,0,1,1,0]) [1,1,0,0,1,1,0]) [1,0])) (fn:= Tryz.f236) (H :=[some ⟨.port::(g.cells ++ [.int .u64 o]), 169,false,none⟩]) (c:= Tryz.f236.body.getD .skip) (xg (by kernel_rfl)) xm3).symm.trans ?_
   exact ey (xmU g o _)
  .cases ht
 .cases ht
def xjX:Sm:=gS fun
 | g,[.c (.int .i64 z)]=>some (mkS Unit (Wa g z) fun r=>some (.tup [],[]))
 | _,_=>none
theorem xqx(hl:SoundL I ka7):SoundF I 168 xjX:=by
 refine gsq hl 1 Tryz.func168 fun g l t ht =>?_
 split at ht
 .rename_i z
  cases ht
  exact ey (xmV g z _)
 .cases ht
def xjY:Sm:=gS fun
 | g,[.c (.int .i64 z)]=>some (mkS Unit (Wb g z) fun r=>some (.tup [],[]))
 | _,_=>none
theorem xqy(hl:SoundL I ka7):SoundF I 173 xjY:=by
 refine gsq hl 1 Tryz.func173 fun g l t ht =>?_
 split at ht
 .rename_i z
  cases ht
  exact ey (xmW g z _)
 .cases ht
def xgP:Sm:=gS fun
 | g,[]=>some (mkS Unit (jC g) fun r=>some (.tup [],[]))
 | _,_=>none
theorem xm4(hl:SoundL I ka7):SoundF I 171 xgP:=by
 refine gsq hl 1 Tryz.func171 fun g l t ht =>?_
 split at ht
 .cases ht
  exact ey (xi2 g _)
 .cases ht
def xdv:Sm:=gS fun
 | g,[.c (.int .i64 w),.c (.int .i64 z)]=>some (mkS Unit (kZ g w z) fun r=>some (.tup [],[]))
 | _,_=>none
theorem xi6(hl:SoundL I ka7):SoundF I 172 xdv:=by
 refine gsq hl 1 Tryz.func172 fun g l t ht =>?_
 split at ht
 .rename_i w z
  cases ht
  exact ey (xgN g w z _)
 .cases ht
def ka8:List (Nat×Sm):=(59,xaA)::(231,xuc)::(247,xmX)::(258,xmY)::(260,xqu)::(223,xct)::(238,VS)::(239,VT)::(98,XK)::(195,xm2)::(236,xcu)::(168,xjX)::(173,xjY)::(171,xgP)::(172,xdv)::ka7
theorem s_ka8:SoundL I ka8:=(.cons (xgO ku) (.cons (xAl ku) (.cons (xyb ku) (.cons (xyc ku) (.cons (xuf ku) (.cons (xqv ku) (.cons (xm0 ku) (.cons (xm1 ku) (.cons (xi5 ku) (.cons (xyd ku) (.cons (xqw ku) (.cons (xqx ku) (.cons (xqy ku) (.cons (xm4 ku) (.cons (xi6 ku) ku)))))))))))))))
end Lx
end Go.Proofs.YtcicjcggclhbfaaGreat
