/- Part. -/
import Derived.Test.YtaegelbaghaooaaGreatCbM10
set_option linter.all false
open Go.IntKind (i64 u64 u32 u8)
set_option maxRecDepth 1000000
namespace Go.Proofs.YtaegelbaghaooaaGreat
namespace Lx
variable{β:Type}(g:Geo)
open Go
def xj8(x:Int)(κ:Bool->T β):T β:=
 κ (decide (-1>=0))
def xqy(x:Int):T Bool:=xj8 x .ret
theorem xm4(x:Int)(κ:Bool->T β):(xqy x).bind κ=xj8 x κ:=by
 unfold xqy xj8
 simp only[bz]
def xc6(x k:Int)(κ:Bool->T β):T β:=
 (ZD x k).bind fun r0=>
 κ (decide (r0>=0))
def xeA(x k:Int):T Bool:=xc6 x k .ret
theorem xm5(x k:Int)(κ:Bool->T β):(xeA x k).bind κ=xc6 x k κ:=by
 unfold xeA xc6
 simp only[bz]
def xc7(x k j:Int)(κ:Bool->T β):T β:=
 (VU x k j).bind fun r0=>
 κ (decide (r0>=0))
def xeB(x k j:Int):T Bool:=xc7 x k j .ret
theorem xm6(x k j:Int)(κ:Bool->T β):(xeB x k j).bind κ=xc7 x k j κ:=by
 unfold xeB xc7
 simp only[bz]
def Ww(a0 a1:Int)(b2:Bool)(g4:Geo)(a5 a6 a7:Int)(κ0:Unit->T β)(i:Int)(k:Int->T β):T β:=
 bif decide (i<i64.wrap (a7+a0))then((ji g4 i 0 0).bind fun r1=>
 k (i64.wrap (i+1))) else
 κ0 ()
def yZ(a0 a1:Int)(b2:Bool)(g4:Geo)(a5 a6 a7 a3:Int)(κ0:Unit->T β):T β:=xr xa (Ww a0 a1 b2 g4 a5 a6 a7 κ0) a3
theorem xcD{β γ:Type}(a0 a1:Int)(b2:Bool)(g4:Geo)(a5 a6 a7 a3:Int)(κ0:Unit->T β)(κ:β->T γ):(yZ a0 a1 b2 g4 a5 a6 a7 a3 κ0).bind κ=yZ a0 a1 b2 g4 a5 a6 a7 a3 (fun u=>(κ0 u).bind κ):=by
 unfold yZ
 refine xj κ (fun i k =>?_) _ _
 unfold Ww
 simp only[bz]
def xb3:Pat:=⟨xm 86 0 [(2,.c (.int .i64)),(8,.c (.int .i64)),(9,.c (.bool)),(10,.c (.raw (.ptr 1 0))),(11,.c (.raw (.ptr 2 0))),(12,.c (.int .i64))],[none,some ⟨[.raw (.port),.geo],212,false,none⟩,some ⟨[.int .i64,.int .i64,.int .i64],296,false,none⟩]⟩
def xj9:Pat:=⟨xm 86 0 [(2,.c (.int .i64)),(8,.c (.int .i64)),(9,.c (.bool)),(10,.c (.raw (.ptr 1 0))),(11,.c (.raw (.ptr 2 0)))],[none,some ⟨[.raw (.port),.geo],212,false,none⟩,some ⟨[.int .i64,.int .i64,.int .i64],296,false,none⟩]⟩
def qy:LF:=fun st K=>match xq xb3 st with
 | some [.i a0,.i a1,.b b2,.i a3,.g g4,.i a5,.i a6,.i a7]=>some (yZ a0 a1 b2 g4 a5 a6 a7 a3 (fun _=>K (.exit 0) (xd xj9 [.i a0,.i a1,.b b2,.g g4,.i a5,.i a6,.i a7])))
 | _=>none
theorem xm7 : ∀st K t,qy st K=some t->xA xa (lf ka5 xa 0 .no [1,1,1,1,1,1,0,1,0] Tryz.f229 K) st=t:=by
 intro st K t h
 unfold qy at h
 split at h
 ·rename_i a0 a1 b2 a3 g4 a5 a6 a7 hm
  cases h
  rw[xk hm]
  unfold yZ
  exact xu (S:=fun(i:Int)=>xd xb3 [.i a0,.i a1,.b b2,.i i,.g g4,.i a5,.i a6,.i a7]) (fun i k=>by kernel_rfl) xa a3
 ·cases h
def ZE(k a:Int)(κ:(Int×Bool)->T β):T β:=
 bif decide (k<1)then(κ ((0),(false))) else
 bif decide (a<1)then(κ ((0),(false))) else
 bif decide (k>g.pages)then(κ ((0),(false))) else
 (xhL g k (if 256<a then(256:Int)else a)).bind fun r3=>
 bif r3.n==0 then(κ ((0),(false))) else
 (vO g r3.n true).bind fun r5=>
 yZ (k) (0) (false) (g) (r3.page) (r3.n) (r3.at_) (i64.wrap (r3.at_+1)) (fun y6_0=>
 (ji g r3.at_ 4 k).bind fun r7=>
 (layT g r3.page (i64.wrap (r3.at_-r3.page))).bind fun r8=>
 (layT g (i64.wrap (r3.at_+k)) (i64.wrap (i64.wrap (i64.wrap (r3.page+r3.n)-r3.at_)-k))).bind fun r9=>
 κ ((r3.at_),(true)))
def wT(k a:Int):T (Int×Bool):=ZE g k a .ret
theorem xka(k a:Int)(κ:(Int×Bool)->T β):(wT g k a).bind κ=ZE g k a κ:=by
 unfold wT ZE
 simp only[bz,xcD]
def xc8(p k:Int)(κ:Bool->T β):T β:=
 bif decide (p<0)then(κ (false)) else
 bif decide (k<1)then(κ (false)) else
 bif decide (p>=g.pages)then(κ (false)) else
 (YT g p).bind fun r3=>
 (xhB (Pg.mk r3.kind r3.len r3.cls r3.owner) k).bind fun r4=>
 bif !r4 then(κ (false)) else
 (xaG g p).bind fun r6=>
 (XD g (i64.wrap (p+k))).bind fun r7=>
 (ji g p 0 0).bind fun r8=>
 bif decide (r6>0)then((vO g r6 true).bind fun r10=>
 (ji g (i64.wrap (p-1)) 0 0).bind fun r11=>
 bif decide (r7>0)then((vO g r7 true).bind fun r13=>
 (ji g (i64.wrap (p+k)) 0 0).bind fun r14=>
 (layT g (i64.wrap (p-r6)) (i64.wrap (i64.wrap (r6+k)+r7))).bind fun r15=>
 κ (true)) else
 (layT g (i64.wrap (p-r6)) (i64.wrap (i64.wrap (r6+k)+r7))).bind fun r13=>
 κ (true)) else
 bif decide (r7>0)then((vO g r7 true).bind fun r11=>
 (ji g (i64.wrap (p+k)) 0 0).bind fun r12=>
 (layT g (i64.wrap (p-r6)) (i64.wrap (i64.wrap (r6+k)+r7))).bind fun r13=>
 κ (true)) else
 (layT g (i64.wrap (p-r6)) (i64.wrap (i64.wrap (r6+k)+r7))).bind fun r11=>
 κ (true)
def Wx(p k:Int):T Bool:=xc8 g p k .ret
theorem xm8(p k:Int)(κ:Bool->T β):(Wx g p k).bind κ=xc8 g p k κ:=by
 unfold Wx xc8
 simp only[bz]
def xc9(κ:Unit->T β):T β:=
 (layT g 0 g.pages).bind fun r0=>
 κ ()
def ZF:T Unit:=xc9 g .ret
theorem xm9(κ:Unit->T β):(ZF g).bind κ=xc9 g κ:=by
 unfold ZF xc9
 simp only[bz]
def VV(o n:Int)(κ:(Unit×Int)->T β):T β:=
 bif decide (n>0)then(.op (.add (atF g 1 0) (u64.wrap n)) fun x1=>
 κ ((),(u64.wrap (o+u64.wrap n)))) else
 κ ((),(o))
def yJ(o n:Int):T (Unit×Int):=VV g o n .ret
theorem xna(o n:Int)(κ:(Unit×Int)->T β):(yJ g o n).bind κ=VV g o n κ:=by
 unfold yJ VV
 simp only[bz]
def xtd(o p c:Int)(κ:(Bool×Int)->T β):T β:=
 .op (.load (atF g 8 p)) fun x0=>
 bif if ofW i64 x0 8 3>0 then true else false then(κ (((bif decide (ofW i64 x0 8 3>0)then i64.wrap (ofW i64 x0 8 3-1)else(0:Int))==c),(o))) else
 κ ((false),(o))
def hofT(o p c:Int):T (Bool×Int):=xtd g o p c .ret
theorem xut(o p c:Int)(κ:(Bool×Int)->T β):(hofT g o p c).bind κ=xtd g o p c κ:=by
 unfold hofT xtd
 simp only[bz]
def VW(o c:Int)(κ:(Fnd×Int)->T β):T β:=
 (jD g c).bind fun r0=>
 κ (⟨(i64.wrap (i64.wrap r0.1-1)),(r0.2),(0)⟩,(o))
def XT(o c:Int):T (Fnd×Int):=VW g o c .ret
theorem xkb(o c:Int)(κ:(Fnd×Int)->T β):(XT g o c).bind κ=VW g o c κ:=by
 unfold XT VW
 simp only[bz]
def xda(e l:Int)(κ:Res->T β):T β:=
 .op (.tell [.int .i64 (0),.int .i64 (0),.int .u8 (0),.int .u64 (0),.int .u64 (0),.int .u64 (0),.int .u64 (0),.int .u64 (0),.int .i64 (e),.int .i64 (l),.int .i64 (0)]) fun _=>
 κ ⟨(0),(0),(0),(0),(0),(0),(0),(0),(e),(l),(0)⟩
def va(e l:Int):T Res:=xda e l .ret
theorem xnb(e l:Int)(κ:Res->T β):(va e l).bind κ=xda e l κ:=by
 unfold va xda
 simp only[bz]
def xeC(k u z:Int)(κ:Res->T β):T β:=
 (xaH g k z).bind fun r0=>
 .op (.steps) fun x1=>
 .op (.tell [.int .i64 (i64.wrap (k*8)),.int .i64 (u),.int .u8 (0),.int .u64 (0),.int .u64 (0),.int .u64 (0),.int .u64 (0),.int .u64 (0),.int .i64 (0),.int .i64 x1,.int .i64 (0)]) fun _=>
 κ ⟨(i64.wrap (k*8)),(u),(0),(0),(0),(0),(0),(0),(0),x1,(0)⟩
def VX(k u z:Int):T Res:=xeC g k u z .ret
theorem xqz(k u z:Int)(κ:Res->T β):(VX g k u z).bind κ=xeC g k u z κ:=by
 unfold VX xeC
 simp only[bz]
def xkc(r0:Res)(κ:Res->T β):T β:=
 .op (.steps) fun x0=>
 .op (.tell [.int .i64 (r0.at_),.int .i64 (r0.n),.int .u8 (r0.byte),.int .u64 (r0.c1),.int .u64 (r0.c2),.int .u64 (r0.c3),.int .u64 (r0.c4),.int .u64 (r0.c5),.int .i64 (r0.e),.int .i64 x0,.int .i64 (r0.touch)]) fun _=>
 κ ⟨(r0.at_),(r0.n),(r0.byte),(r0.c1),(r0.c2),(r0.c3),(r0.c4),(r0.c5),(r0.e),x0,(r0.touch)⟩
def YX(r0:Res):T Res:=xkc r0 .ret
theorem xqA(r0:Res)(κ:Res->T β):(YX r0).bind κ=xkc r0 κ:=by
 unfold YX xkc
 simp only[bz]
def xdb(c:Cal)(κ:Int->T β):T β:=
 bif c.op==2 then(κ (i64.wrap (c.size*c.n))) else
 κ (c.size)
def xaX(c:Cal):T Int:=xdb c .ret
theorem xnc(c:Cal)(κ:Int->T β):(xaX c).bind κ=xdb c κ:=by
 unfold xaX xdb
 simp only[bz]
def VY(r0:Res)(κ:Bool->T β):T β:=
 bif r0.e==15 then(κ (true)) else
 κ (r0.e==5)
def qz(r0:Res):T Bool:=VY r0 .ret
theorem xkd(r0:Res)(κ:Bool->T β):(qz r0).bind κ=VY r0 κ:=by
 unfold qz VY
 simp only[bz]
def xdc(w:Pg)(κ:Int->T β):T β:=
 bif w.kind==3 then(bif decide (0<=w.cls/\w.cls<4)then(κ (bif w.cls==0 then(8:Int)else bif w.cls==1 then(16:Int)else bif w.cls==2 then(24:Int)else(32:Int))) else
 .fail) else
 κ (i64.wrap (w.len*64))
def xaY(w:Pg):T Int:=xdc w .ret
theorem xnd(w:Pg)(κ:Int->T β):(xaY w).bind κ=xdc w κ:=by
 unfold xaY xdc
 simp only[bz]
def VZ(r0:Res)(κ:Res->T β):T β:=
 .op (.tell [.int .i64 (r0.at_),.int .i64 (r0.n),.int .u8 (r0.byte),.int .u64 (r0.c1),.int .u64 (r0.c2),.int .u64 (r0.c3),.int .u64 (r0.c4),.int .u64 (r0.c5),.int .i64 (r0.e),.int .i64 (r0.lin),.int .i64 (r0.touch)]) fun _=>
 κ r0
def yp(r0:Res):T Res:=VZ r0 .ret
theorem xke(r0:Res)(κ:Res->T β):(yp r0).bind κ=VZ r0 κ:=by
 unfold yp VZ
 simp only[bz]
def xeD:Sm:=fun
 | [.c .nils,.c (.int .i64 x)],[]=>some (mkS (Bool) (xqy x) fun r=>some (.c (.bool r),[]))
 | _,_=>none
variable{σ:Type}{I:Port Tryz.prog σ}
theorem xqB(hl:SoundL I ka5):SoundF I 251 xeD:=by
 refine sq hl 5 Tryz.func251 fun _ _ t ht =>?_
 unfold xeD at ht
 split at ht
 ·rename_i x
  cases ht
  exact ey (xm4 x _)
 ·cases ht
def xeE:Sm:=fun
 | [.c (.sl 0 0 1 1),.c (.int .i64 x)],[some ⟨[.int .i64 k],3,false,none⟩]=>some (mkS (Bool) (xeA x k) fun r=>some (.c (.bool r),[some ⟨[.int .i64 k],3,false,none⟩]))
 | _,_=>none
theorem xqC(hl:SoundL I ka5):SoundF I 251 xeE:=by
 refine sq hl 5 Tryz.func251 fun _ _ t ht =>?_
 unfold xeE at ht
 split at ht
 ·rename_i x k
  cases ht
  exact ey (xm5 x k _)
 ·cases ht
def xeF:Sm:=fun
 | [.c (.sl 0 0 2 2),.c (.int .i64 x)],[some ⟨[.int .i64 k,.int .i64 j],3,false,none⟩]=>some (mkS (Bool) (xeB x k j) fun r=>some (.c (.bool r),[some ⟨[.int .i64 k,.int .i64 j],3,false,none⟩]))
 | _,_=>none
theorem xqD(hl:SoundL I ka5):SoundF I 251 xeF:=by
 refine sq hl 5 Tryz.func251 fun _ _ t ht =>?_
 unfold xeF at ht
 split at ht
 ·rename_i x k j
  cases ht
  exact ey (xm6 x k j _)
 ·cases ht
def xaZ:Sm:=fun
 | [.c .port,.agg gc,.c (.int .i64 k),.c (.int .i64 a)],[]=>(match xv gc with
   | some g=>some (mkS ((Int×Bool)) (wT g k a) fun r=>some (.tup [.c (.int .i64 r.1),.c (.bool r.2)],[]))
   | _=>none)
 | _,_=>none
theorem xkf:Good Tryz.prog (xo ka5) xa 0 (lsAt qy .no [1,1,1,1,1,1,0,1,0]) (Tryz.f229.body.getD .skip) (xt Tryz.f229.results.toList):=xz (xi (by kernel_rfl)) xy xm7
theorem xne(hl:SoundL I ka5):SoundF I 229 xaZ:=by
 refine sq hl xa Tryz.func229 fun _ _ t ht =>?_
 unfold xaZ at ht
 split at ht
 ·rename_i gc k a
  split at ht
  ·rename_i g hg
   obtain rfl:=xe hg
   cases ht
   refine(xE (P:= Tryz.prog) (n:=xa) (x:=(lsAt qy .no [1,1,1,1,1,1,0,1,0])) (fn:= Tryz.f229) (H :=[]) (c:= Tryz.f229.body.getD .skip) (xi (by kernel_rfl)) xkf).symm.trans ?_
   exact ey (xka g k a _)
  ·cases ht
 ·cases ht
def xnf:Sm:=gS fun
 | g,[.c (.int .i64 p),.c (.int .i64 k)]=>some (mkS (Bool) (Wx g p k) fun r=>some (.c (.bool r),[]))
 | _,_=>none
theorem xqE(hl:SoundL I ka5):SoundF I 235 xnf:=by
 refine gsq hl 1 Tryz.func235 fun g l t ht =>?_
 split at ht
 ·rename_i p k
  cases ht
  exact ey (xm8 g p k _)
 ·cases ht
def xeG:Sm:=gS fun
 | g,[]=>some (mkS (Unit) (ZF g) fun r=>some (.tup [],[]))
 | _,_=>none
theorem xeH(hl:SoundL I ka5):SoundF I 72 xeG:=by
 refine gsq hl 1 Tryz.func72 fun g l t ht =>?_
 split at ht
 ·cases ht
  exact ey (xm9 g _)
 ·cases ht
def xeI:Sm:=fun
 | [.c (.ptr 0 0),.c (.int .i64 n)],[some ⟨.port::gc, 150,false,none⟩]=>(match hdOf gc with
   | some (g,o)=>some (mkS ((Unit×Int)) (yJ g o n) fun r=>some (.tup [],[some ⟨.port::(g.cells ++ [.int .u64 r.2]), 150,false,none⟩]))
   | _=>none)
 | _,_=>none
theorem xqF(hl:SoundL I ka5):SoundF I 86 xeI:=by
 refine sq hl 1 Tryz.func86 fun _ _ t ht =>?_
 unfold xeI at ht
 split at ht
 ·rename_i n gc
  split at ht
  ·rename_i g o hg
   obtain rfl:=yv hg
   cases ht
   exact ey (xna g o n _)
  ·cases ht
 ·cases ht
def xqG:Sm:=fun
 | [.c (.ptr 0 0),.c (.int .i64 p),.c (.int .i64 c)],[some ⟨.port::gc, 150,false,none⟩]=>(match hdOf gc with
   | some (g,o)=>some (mkS ((Bool×Int)) (hofT g o p c) fun r=>some (.c (.bool r.1),[some ⟨.port::(g.cells ++ [.int .u64 r.2]), 150,false,none⟩]))
   | _=>none)
 | _,_=>none
theorem xwB(hl:SoundL I ka5):SoundF I 259 xqG:=by
 refine sq hl 1 Tryz.func259 fun _ _ t ht =>?_
 unfold xqG at ht
 split at ht
 ·rename_i p c gc
  split at ht
  ·rename_i g o hg
   obtain rfl:=yv hg
   cases ht
   exact ey (xut g o p c _)
  ·cases ht
 ·cases ht
def xa0:Sm:=fun
 | [.c (.ptr 0 0),.c (.int .i64 c)],[some ⟨.port::gc, 150,false,none⟩]=>(match hdOf gc with
   | some (g,o)=>some (mkS ((Fnd×Int)) (XT g o c) fun r=>some (.agg r.1.cells,[some ⟨.port::(g.cells ++ [.int .u64 r.2]), 150,false,none⟩]))
   | _=>none)
 | _,_=>none
theorem xng(hl:SoundL I ka5):SoundF I 224 xa0:=by
 refine sq hl 1 Tryz.func224 fun _ _ t ht =>?_
 unfold xa0 at ht
 split at ht
 ·rename_i c gc
  split at ht
  ·rename_i g o hg
   obtain rfl:=yv hg
   cases ht
   exact ey (xkb g o c _)
  ·cases ht
 ·cases ht
def xeJ:Sm:=fun
 | [.c .port,.c (.int .i64 e),.c (.int .i64 l)],[]=>some (mkS (Res) (va e l) fun r=>some (.agg r.cells,[]))
 | _,_=>none
theorem xqH(hl:SoundL I ka5):SoundF I 80 xeJ:=by
 refine sq hl 1 Tryz.func80 fun _ _ t ht =>?_
 unfold xeJ at ht
 split at ht
 ·rename_i e l
  cases ht
  exact ey (xnb e l _)
 ·cases ht
def xte:Sm:=gS fun
 | g,[.c (.int .i64 k),.c (.int .i64 u),.c (.int .i64 z)]=>some (mkS (Res) (VX g k u z) fun r=>some (.agg r.cells,[]))
 | _,_=>none
theorem xuu(hl:SoundL I ka5):SoundF I 81 xte:=by
 refine gsq hl 1 Tryz.func81 fun g l t ht =>?_
 split at ht
 ·rename_i k u z
  cases ht
  exact ey (xqz g k u z _)
 ·cases ht
def xkg:Sm:=fun
 | [.c .port,.agg r0c],[]=>(match Res.of r0c with
   | some r0=>some (mkS (Res) (YX r0) fun r=>some (.agg r.cells,[]))
   | _=>none)
 | _,_=>none
theorem xuv(hl:SoundL I ka5):SoundF I 135 xkg:=by
 refine sq hl 1 Tryz.func135 fun _ _ t ht =>?_
 unfold xkg at ht
 split at ht
 ·rename_i r0c
  split at ht
  ·rename_i r0 hr0
   obtain rfl:=Res.of_eq hr0
   cases ht
   exact ey (xqA r0 _)
  ·cases ht
 ·cases ht
def xeK:Sm:=fun
 | [.agg cc],[]=>(match Cal.of cc with
   | some c=>some (mkS (Int) (xaX c) fun r=>some (.c (.int .i64 r),[]))
   | _=>none)
 | _,_=>none
theorem xqI(hl:SoundL I ka5):SoundF I 149 xeK:=by
 refine sq hl 1 Tryz.func149 fun _ _ t ht =>?_
 unfold xeK at ht
 split at ht
 ·rename_i cc
  split at ht
  ·rename_i c hc
   obtain rfl:=Cal.of_eq hc
   cases ht
   exact ey (xnc c _)
  ·cases ht
 ·cases ht
def xa1:Sm:=fun
 | [.agg r0c],[]=>(match Res.of r0c with
   | some r0=>some (mkS (Bool) (qz r0) fun r=>some (.c (.bool r),[]))
   | _=>none)
 | _,_=>none
theorem xnh(hl:SoundL I ka5):SoundF I 148 xa1:=by
 refine sq hl 1 Tryz.func148 fun _ _ t ht =>?_
 unfold xa1 at ht
 split at ht
 ·rename_i r0c
  split at ht
  ·rename_i r0 hr0
   obtain rfl:=Res.of_eq hr0
   cases ht
   exact ey (xkd r0 _)
  ·cases ht
 ·cases ht
def xeL:Sm:=fun
 | [.agg wc],[]=>(match Pg.of wc with
   | some w=>some (mkS (Int) (xaY w) fun r=>some (.c (.int .i64 r),[]))
   | _=>none)
 | _,_=>none
theorem xqJ(hl:SoundL I ka5):SoundF I 208 xeL:=by
 refine sq hl 1 Tryz.func208 fun _ _ t ht =>?_
 unfold xeL at ht
 split at ht
 ·rename_i wc
  split at ht
  ·rename_i w hw
   obtain rfl:=Pg.of_eq hw
   cases ht
   exact ey (xnd w _)
  ·cases ht
 ·cases ht
def xa2:Sm:=fun
 | [.c .port,.agg r0c],[]=>(match Res.of r0c with
   | some r0=>some (mkS (Res) (yp r0) fun r=>some (.agg r.cells,[]))
   | _=>none)
 | _,_=>none
theorem xni(hl:SoundL I ka5):SoundF I 209 xa2:=by
 refine sq hl 1 Tryz.func209 fun _ _ t ht =>?_
 unfold xa2 at ht
 split at ht
 ·rename_i r0c
  split at ht
  ·rename_i r0 hr0
   obtain rfl:=Res.of_eq hr0
   cases ht
   exact ey (xke r0 _)
  ·cases ht
 ·cases ht
def ka6:List (Nat×Sm):=(251,(orSm xeD (orSm xeE xeF)))::(229,xaZ)::(235,xnf)::(72,xeG)::(86,xeI)::(259,xqG)::(224,xa0)::(80,xeJ)::(81,xte)::(135,xkg)::(149,xeK)::(148,xa1)::(208,xeL)::(209,xa2)::ka5
theorem wD:SoundL I ka6:=(.cons (SoundF.or (xqB vZ) (SoundF.or (xqC vZ) (xqD vZ))) (.cons (xne vZ) (.cons (xqE vZ) (.cons (xeH vZ) (.cons (xqF vZ) (.cons (xwB vZ) (.cons (xng vZ) (.cons (xqH vZ) (.cons (xuu vZ) (.cons (xuv vZ) (.cons (xqI vZ) (.cons (xnh vZ) (.cons (xqJ vZ) (.cons (xni vZ) vZ))))))))))))))
end Lx
namespace Lx
variable{β:Type}(g:Geo)
open Go
def yL(a0:Int)(g3 g4:Geo)(κ0:Int->T β)(i:Int×Int)(k:Int×Int->T β):T β:=
 bif decide (i.2<g3.pages)then((YT g4 i.2).bind fun r1=>
 bif r1.kind==5 then((Wx g3 i.2 r1.len).bind fun r3=>
 bif r3 then((vM {kind:=r1.kind,len:=r1.len,cls:=r1.cls,owner:=r1.owner}).bind fun r5=>
 k (i64.wrap (i.1+1),i64.wrap (i.2+r5))) else
 (vM {kind:=r1.kind,len:=r1.len,cls:=r1.cls,owner:=r1.owner}).bind fun r5=>
 k (i.1,i64.wrap (i.2+r5))) else
 (vM {kind:=r1.kind,len:=r1.len,cls:=r1.cls,owner:=r1.owner}).bind fun r3=>
 k (i.1,i64.wrap (i.2+r3))) else
 κ0 (i.1)
def yM(a0:Int)(g3 g4:Geo)(a1 a2:Int)(κ0:Int->T β):T β:=xr xa (yL a0 g3 g4 κ0) (a1,a2)
theorem xa3{β γ:Type}(a0:Int)(g3 g4:Geo)(a1 a2:Int)(κ0:Int->T β)(κ:β->T γ):(yM a0 g3 g4 a1 a2 κ0).bind κ=yM a0 g3 g4 a1 a2 (fun ae1=>(κ0 ae1).bind κ):=by
 unfold yM
 refine xj κ (fun i k =>?_) _ _
 unfold yL
 simp only[bz]
def Ka:Pat:=⟨xm 37 0 [(0,.c (.raw (.port))),(3,.c (.raw (.ptr 0 0))),(4,.c (.int .i64)),(5,.c (.raw (.ptr 1 0))),(6,.c (.int .i64)),(7,.c (.int .i64))],[some ⟨[.geo],24,false,none⟩,some ⟨[.raw (.port),.geo],212,false,none⟩]⟩
def xgN:Pat:=⟨xm 37 0 [(4,.c (.int .i64)),(6,.c (.int .i64))],[]⟩
def jn:LF:=fun st K=>match xq Ka st with
 | some [.i a0,.i a1,.i a2,.g g3,.g g4]=>some (yM a0 g3 g4 a1 a2 (fun ae1=>K (.exit 0) (xd xgN [.i a0,.i ae1])))
 | _=>none
theorem xkh : ∀st K t,jn st K=some t->xA xa (lf ka6 xa 0 .no [1,1,1,0,1,0] Tryz.f170 K) st=t:=by
 intro st K t h
 unfold jn at h
 split at h
 ·rename_i a0 a1 a2 g3 g4 hm
  cases h
  rw[xk hm]
  unfold yM
  exact xu (S:=fun(i:Int×Int)=>xd Ka [.i a0,.i (i.1),.i (i.2),.g g3,.g g4]) (fun i k=>by kernel_rfl) xa (a1,a2)
 ·cases h
def jQ(κ:Int->T β):T β:=
 yM (0) (g) (g) (0) (0) (fun y0_0=>
 κ y0_0)
def vn:T Int:=jQ g .ret
theorem xgO(κ:Int->T β):(vn g).bind κ=jQ g κ:=by
 unfold vn jQ
 simp only[bz,xa3]
def XU(p:Int)(κ:Bool->T β):T β:=
 (isT g p 0).bind fun r0=>
 bif !r0 then(κ (false)) else
 (YU g p).bind fun r2=>
 bif !r2.has then(κ (false)) else
 bif decide (r2.cls>=4)then(κ (false)) else
 bif decide (0<=r2.cls/\r2.cls<4)then((xb0 (Bt.mk r2.map r2.has r2.cls r2.ver) (bif r2.cls==0 then(8:Int)else bif r2.cls==0+1 then(4:Int)else bif r2.cls==0+1+1 then(2:Int)else(2:Int))).bind fun r6=>
 bif !r6 then(κ (false)) else
 (Zz g p (Bt.mk r2.map r2.has r2.cls r2.ver) (Bt.mk 0 false 0 (u32.wrap (r2.ver+1)))).bind fun r8=>
 bif r8 then((Wx g p 1).bind fun r10=>
 κ r10) else
 κ (false)) else
 .fail
def kI(p:Int):T Bool:=XU g p .ret
theorem xgP(p:Int)(κ:Bool->T β):(kI g p).bind κ=XU g p κ:=by
 unfold kI XU
 simp only[bz]
def ZG(κ:Bool->T β):T β:=
 bif g.pages==0 then(κ (true)) else
 κ (decide ((-1)>=0))
def wV:T Bool:=ZG g .ret
theorem xki(κ:Bool->T β):(wV g).bind κ=ZG g κ:=by
 unfold wV ZG
 simp only[bz]
def Kb(k:Int)(κ:Bool->T β):T β:=
 bif g.pages==0 then(κ (true)) else
 (xeA (-1) k).bind fun r1=>
 κ r1
def wW(k:Int):T Bool:=Kb g k .ret
theorem xkj(k:Int)(κ:Bool->T β):(wW g k).bind κ=Kb g k κ:=by
 unfold wW Kb
 simp only[bz]
def Kc(k j:Int)(κ:Bool->T β):T β:=
 bif g.pages==0 then(κ (true)) else
 (xeB (-1) k j).bind fun r1=>
 κ r1
def XV(k j:Int):T Bool:=Kc g k j .ret
theorem xkk(k j:Int)(κ:Bool->T β):(XV g k j).bind κ=Kc g k j κ:=by
 unfold XV Kc
 simp only[bz]
def xkl(o k:Int)(κ:(Unit×Int)->T β):T β:=
 (Wt g k).bind fun r0=>
 (yJ g o 1).bind fun r1=>
 κ ((),(r1.2))
def xh(o k:Int):T (Unit×Int):=xkl g o k .ret
theorem xqK(o k:Int)(κ:(Unit×Int)->T β):(xh g o k).bind κ=xkl g o k κ:=by
 unfold xh xkl
 simp only[bz]
def xa4(a0 a1:Int)(g3:Geo)(a5:Int)(b6:Bool)(a7:Int)(κ0:Int->Int->T β)(κ1:Int->T β)(i:Int×Int)(k:Int×Int->T β):T β:=
 bif decide (i.1<a1)then((hofT g3 i.2 i.1 a0).bind fun r1=>
 bif !r1.1 then(k (i64.wrap (i.1+1),r1.2)) else
 (xaP g3 i.1 a0).bind fun r3=>
 bif r3.2 then(κ0 (r1.2) (r3.1)) else
 k (i64.wrap (i.1+1),r1.2)) else
 κ1 (i.2)
def wj(a0 a1:Int)(g3:Geo)(a5:Int)(b6:Bool)(a7 a2 a4:Int)(κ0:Int->Int->T β)(κ1:Int->T β):T β:=xr xa (xa4 a0 a1 g3 a5 b6 a7 κ0 κ1) (a2,a4)
theorem xeM{β γ:Type}(a0 a1:Int)(g3:Geo)(a5:Int)(b6:Bool)(a7 a2 a4:Int)(κ0:Int->Int->T β)(κ1:Int->T β)(κ:β->T γ):(wj a0 a1 g3 a5 b6 a7 a2 a4 κ0 κ1).bind κ=wj a0 a1 g3 a5 b6 a7 a2 a4 (fun ae1 ae2=>(κ0 ae1 ae2).bind κ) (fun ae1=>(κ1 ae1).bind κ):=by
 unfold wj
 refine xj κ (fun i k =>?_) _ _
 unfold xa4
 simp only[bz]
def xeN:Pat:=⟨xm 40 0 [(0,.c (.raw (.ptr 0 0))),(1,.c (.int .i64)),(4,.c (.raw (.ptr 1 0))),(12,.c (.int .i64)),(13,.c (.int .i64))],[some ⟨[.raw (.port),.geo,.int .u64],150,false,none⟩,some ⟨[.int .i64,.bool,.int .i64],221,false,none⟩]⟩
def xb4:Pat:=⟨xm 40 0 [(4,.c (.raw (.ptr 1 0)))],[some ⟨[.raw (.port),.geo,.int .u64],150,false,none⟩,some ⟨[.int .i64,.bool,.int .i64],221,false,none⟩]⟩
def XW:LF:=fun st K=>match xq xeN st with
 | some [.i a0,.i a1,.i a2,.g g3,.i a4,.i a5,.b b6,.i a7]=>some (wj a0 a1 g3 a5 b6 a7 a2 a4 (fun ae1 ae2=>K (.ret) (xd xb4 [.g g3,.i ae1,.i ae2,.b true,.i 0])) (fun ae1=>K (.exit 0) (xd xb4 [.g g3,.i ae1,.i a5,.b b6,.i a7])))
 | _=>none
theorem xqL : ∀st K t,XW st K=some t->xA xa (lf ka6 xa 1 .no [1,0,1,0] Tryz.f227 K) st=t:=by
 intro st K t h
 unfold XW at h
 split at h
 ·rename_i a0 a1 a2 g3 a4 a5 b6 a7 hm
  cases h
  rw[xk hm]
  unfold wj
  exact xu (S:=fun(i:Int×Int)=>xd xeN [.i a0,.i a1,.i (i.1),.g g3,.i (i.2),.i a5,.b b6,.i a7]) (fun i k=>by kernel_rfl) xa (a2,a4)
 ·cases h
def xdd(o c:Int)(κ:(Fnd×Int)->T β):T β:=
 wj (c) (g.pages) (g) (0) (false) (0) (0) (o) (fun y0_0 y0_1=>
 κ (⟨(y0_1),(true),(0)⟩,y0_0)) (fun y0_0=>
 κ (⟨(0),(false),(0)⟩,y0_0))
def Wy(o c:Int):T (Fnd×Int):=xdd g o c .ret
theorem xnj(o c:Int)(κ:(Fnd×Int)->T β):(Wy g o c).bind κ=xdd g o c κ:=by
 unfold Wy xdd
 simp only[bz,xeM]
def xde(o c:Int)(κ:(Fnd×Int)->T β):T β:=
 (tryT g).bind fun r0=>
 bif !r0 then(κ (⟨(0),(false),(5)⟩,(o))) else
 (wT g 1 1).bind fun r2=>
 bif r2.2 then((xhH g r2.1 c).bind fun r4=>
 (yJ g o 1).bind fun r5=>
 (ZC g).bind fun r6=>
 κ (⟨(r4),(r2.2),(0)⟩,(r5.2))) else
 (ZC g).bind fun r4=>
 κ (⟨(0),(r2.2),(0)⟩,(o))
def Wz(o c:Int):T (Fnd×Int):=xde g o c .ret
theorem xnk(o c:Int)(κ:(Fnd×Int)->T β):(Wz g o c).bind κ=xde g o c κ:=by
 unfold Wz xde
 simp only[bz]
def xdf(a b:Int)(κ:Unit->T β):T β:=
 .op (.add (atF g 2 a) (u64.wrap b)) fun x0=>
 κ ()
def WA(a b:Int):T Unit:=xdf g a b .ret
theorem xnl(a b:Int)(κ:Unit->T β):(WA g a b).bind κ=xdf g a b κ:=by
 unfold WA xdf
 simp only[bz]
def xdg(a b c d e f:Int)(κ:Unit->T β):T β:=
 .op (.add (atF g 2 a) (u64.wrap b)) fun x0=>
 .op (.add (atF g 2 c) (u64.wrap d)) fun x1=>
 .op (.add (atF g 2 e) (u64.wrap f)) fun x2=>
 κ ()
def WB(a b c d e f:Int):T Unit:=xdg g a b c d e f .ret
theorem xnm(a b c d e f:Int)(κ:Unit->T β):(WB g a b c d e f).bind κ=xdg g a b c d e f κ:=by
 unfold WB xdg
 simp only[bz]
def xdh(κ:Cts->T β):T β:=
 .op (.load (atF g 2 0)) fun x0=>
 .op (.load (atF g 2 1)) fun x1=>
 .op (.load (atF g 2 2)) fun x2=>
 .op (.load (atF g 2 3)) fun x3=>
 .op (.load (atF g 2 4)) fun x4=>
 κ ⟨(x0),x1,x2,x3,(x4)⟩
def xeO:T Cts:=xdh g .ret
theorem xnn(κ:Cts->T β):(xeO g).bind κ=xdh g κ:=by
 unfold xeO xdh
 simp only[bz]
def Ke(a s:Int)(κ:Int->T β):T β:=
 bif decide (s<1)then(κ (11)) else
 bif decide (s>i64.wrap (g.pages*64))then(κ (11)) else
 bif decide (a<0)then(κ (13)) else
 bif decide (a>=i64.wrap (g.pages*64))then(κ (13)) else
 bif Int.tmod a 8 != 0 then(κ (13)) else
 κ (0)
def XX(a s:Int):T Int:=Ke g a s .ret
theorem xkm(a s:Int)(κ:Int->T β):(XX g a s).bind κ=Ke g a s κ:=by
 unfold XX Ke
 simp only[bz]
def xdi(g:Geo)(x:Rn)(r0:Res)(κ:(Res×Rn)->T β):T β:=
 .op (.tell [.int .i64 (r0.at_),.int .i64 (r0.n),.int .u8 (r0.byte),.int .u64 (r0.c1),.int .u64 (r0.c2),.int .u64 (r0.c3),.int .u64 (r0.c4),.int .u64 (r0.c5),.int .i64 (r0.e),.int .i64 (r0.lin),.int .i64 (r0.touch)]) fun _=>
 κ (r0,x)
def wI(x:Rn)(r0:Res):T (Res×Rn):=xdi g x r0 .ret
theorem xno(x:Rn)(r0:Res)(κ:(Res×Rn)->T β):(wI g x r0).bind κ=xdi g x r0 κ:=by
 unfold wI xdi
 simp only[bz]
def Kf(x:Rn)(κ:(Int×Rn)->T β):T β:=
 (vY g x.grain).bind fun r0=>
 bif r0.kind==3 then(bif decide (0<=r0.cls/\r0.cls<4)then(κ ((bif r0.cls==0 then(8:Int)else bif r0.cls==1 then(16:Int)else bif r0.cls==2 then(24:Int)else(32:Int)),x)) else
 .fail) else
 bif r0.kind==4 then(κ ((i64.wrap (r0.len*64)),x)) else
 κ ((0),x)
def WC(x:Rn):T (Int×Rn):=Kf g x .ret
theorem xnp(x:Rn)(κ:(Int×Rn)->T β):(WC g x).bind κ=Kf g x κ:=by
 unfold WC Kf
 simp only[bz]
def WD(a0:Int)(g2:Geo)(a3 a4 a5 a6:Int)(b7:Bool)(κ0:Unit->T β)(i:Int)(k:Int->T β):T β:=
 bif decide (i<a0)then(.op (.get (i64.wrap (i64.wrap (a3*8)+i))) fun x1=>
 .op (.put (i64.wrap (i64.wrap (a5*8)+i)) x1) fun _=>
 k (i64.wrap (i+1))) else
 κ0 ()
def vt(a0:Int)(g2:Geo)(a3 a4 a5 a6:Int)(b7:Bool)(a1:Int)(κ0:Unit->T β):T β:=xr xa (WD a0 g2 a3 a4 a5 a6 b7 κ0) a1
theorem xcE{β γ:Type}(a0:Int)(g2:Geo)(a3 a4 a5 a6:Int)(b7:Bool)(a1:Int)(κ0:Unit->T β)(κ:β->T γ):(vt a0 g2 a3 a4 a5 a6 b7 a1 κ0).bind κ=vt a0 g2 a3 a4 a5 a6 b7 a1 (fun u=>(κ0 u).bind κ):=by
 unfold vt
 refine xj κ (fun i k =>?_) _ _
 unfold WD
 simp only[bz]
def xb5:Pat:=⟨xm 38 0 [(0,.c (.raw (.ptr 0 0))),(5,.c (.int .i64)),(6,.c (.int .i64))],[some ⟨[.raw (.port),.geo,.int .i64,.int .i64,.int .i64,.int .i64,.bool],179,false,none⟩]⟩
def xkn:Pat:=⟨xm 38 0 [],[some ⟨[.raw (.port),.geo,.int .i64,.int .i64,.int .i64,.int .i64,.bool],179,false,none⟩]⟩
def qA:LF:=fun st K=>match xq xb5 st with
 | some [.i a0,.i a1,.g g2,.i a3,.i a4,.i a5,.i a6,.b b7]=>some (vt a0 g2 a3 a4 a5 a6 b7 a1 (fun _=>K (.exit 0) (xd xkn [.g g2,.i a3,.i a4,.i a5,.i a6,.b b7])))
 | _=>none
theorem xnq : ∀st K t,qA st K=some t->xA xa (lf ka6 xa 1 .no [1,0] Tryz.f194 K) st=t:=by
 intro st K t h
 unfold qA at h
 split at h
 ·rename_i a0 a1 g2 a3 a4 a5 a6 b7 hm
  cases h
  rw[xk hm]
  unfold vt
  exact xu (S:=fun(i:Int)=>xd xb5 [.i a0,.i i,.g g2,.i a3,.i a4,.i a5,.i a6,.b b7]) (fun i k=>by kernel_rfl) xa a1
 ·cases h
def Kg(x:Rn)(n:Int)(κ:(Unit×Rn)->T β):T β:=
 vt (n) (g) (x.grain) (x.size) (x.to) (x.usable) (x.has) (0) (fun y0_0=>
 κ ((),x))
def jo(x:Rn)(n:Int):T (Unit×Rn):=Kg g x n .ret
theorem xko(x:Rn)(n:Int)(κ:(Unit×Rn)->T β):(jo g x n).bind κ=Kg g x n κ:=by
 unfold jo Kg
 simp only[bz,xcE]
def xa5(s:Int)(κ:Bool->T β):T β:=
 bif decide (s>0)then(κ (bits BinOp.and i64 s (i64.wrap (s-1))==0)) else
 κ (false)
def xeP(s:Int):T Bool:=xa5 s .ret
theorem xgQ(s:Int)(κ:Bool->T β):(xeP s).bind κ=xa5 s κ:=by
 unfold xeP xa5
 simp only[bz]
def WE:Sm:=fun
 | [.c .port,.agg gc],[]=>(match xv gc with
   | some g=>some (mkS (Int) (vn g) fun r=>some (.c (.int .i64 r),[]))
   | _=>none)
 | _,_=>none
theorem xgR:Good Tryz.prog (xo ka6) xa 0 (lsAt jn .no [1,1,1,0,1,0]) (Tryz.f170.body.getD .skip) (xt Tryz.f170.results.toList):=xz (xi (by kernel_rfl)) xy xkh
variable{σ:Type}{I:Port Tryz.prog σ}
theorem xkp(hl:SoundL I ka6):SoundF I 170 WE:=by
 refine sq hl xa Tryz.func170 fun _ _ t ht =>?_
 unfold WE at ht
 split at ht
 ·rename_i gc
  split at ht
  ·rename_i g hg
   obtain rfl:=xe hg
   cases ht
   refine(xE (P:= Tryz.prog) (n:=xa) (x:=(lsAt jn .no [1,1,1,0,1,0])) (fn:= Tryz.f170) (H :=[]) (c:= Tryz.f170.body.getD .skip) (xi (by kernel_rfl)) xgR).symm.trans ?_
   exact ey (xgO g _)
  ·cases ht
 ·cases ht
def xeQ:Sm:=gS fun
 | g,[.c (.int .i64 p)]=>some (mkS (Bool) (kI g p) fun r=>some (.c (.bool r),[]))
 | _,_=>none
theorem xkq(hl:SoundL I ka6):SoundF I 270 xeQ:=by
 refine gsq hl 1 Tryz.func270 fun g l t ht =>?_
 split at ht
 ·rename_i p
  cases ht
  exact ey (xgP g p _)
 ·cases ht
def xhM:Sm:=gS fun
 | g,[.c .nils]=>some (mkS (Bool) (wV g) fun r=>some (.c (.bool r),[]))
 | _,_=>none
theorem xnr(hl:SoundL I ka6):SoundF I 200 xhM:=by
 refine gsq hl 5 Tryz.func200 fun g l t ht =>?_
 split at ht
 ·cases ht
  exact ey (xki g _)
 ·cases ht
def xa6:Sm:=fun
 | [.c .port,.agg gc,.c (.sl 0 0 1 1)],[some ⟨[.int .i64 k],3,false,none⟩]=>(match xv gc with
   | some g=>some (mkS (Bool) (wW g k) fun r=>some (.c (.bool r),[some ⟨[.int .i64 k],3,false,none⟩]))
   | _=>none)
 | _,_=>none
theorem xns(hl:SoundL I ka6):SoundF I 200 xa6:=by
 refine sq hl 5 Tryz.func200 fun _ _ t ht =>?_
 unfold xa6 at ht
 split at ht
 ·rename_i gc k
  split at ht
  ·rename_i g hg
   obtain rfl:=xe hg
   cases ht
   exact ey (xkj g k _)
  ·cases ht
 ·cases ht
def xa7:Sm:=fun
 | [.c .port,.agg gc,.c (.sl 0 0 2 2)],[some ⟨[.int .i64 k,.int .i64 j],3,false,none⟩]=>(match xv gc with
   | some g=>some (mkS (Bool) (XV g k j) fun r=>some (.c (.bool r),[some ⟨[.int .i64 k,.int .i64 j],3,false,none⟩]))
   | _=>none)
 | _,_=>none
theorem xnt(hl:SoundL I ka6):SoundF I 200 xa7:=by
 refine sq hl 5 Tryz.func200 fun _ _ t ht =>?_
 unfold xa7 at ht
 split at ht
 ·rename_i gc k j
  split at ht
  ·rename_i g hg
   obtain rfl:=xe hg
   cases ht
   exact ey (xkk g k j _)
  ·cases ht
 ·cases ht
def xkr:Sm:=fun
 | [.c (.ptr 0 0),.c (.int .i64 k)],[some ⟨.port::gc, 150,false,none⟩]=>(match hdOf gc with
   | some (g,o)=>some (mkS ((Unit×Int)) (xh g o k) fun r=>some (.tup [],[some ⟨.port::(g.cells ++ [.int .u64 r.2]), 150,false,none⟩]))
   | _=>none)
 | _,_=>none
theorem xuw(hl:SoundL I ka6):SoundF I 213 xkr:=by
 refine sq hl 1 Tryz.func213 fun _ _ t ht =>?_
 unfold xkr at ht
 split at ht
 ·rename_i k gc
  split at ht
  ·rename_i g o hg
   obtain rfl:=yv hg
   cases ht
   exact ey (xqK g o k _)
  ·cases ht
 ·cases ht
def xeR:Sm:=fun
 | [.c (.ptr 0 0),.c (.int .i64 c)],[some ⟨.port::gc, 150,false,none⟩]=>(match hdOf gc with
   | some (g,o)=>some (mkS ((Fnd×Int)) (Wy g o c) fun r=>some (.agg r.1.cells,[some ⟨.port::(g.cells ++ [.int .u64 r.2]), 150,false,none⟩]))
   | _=>none)
 | _,_=>none
theorem xnu:Good Tryz.prog (xo ka6) xa 1 (lsAt XW .no [1,0,1,0]) (Tryz.f227.body.getD .skip) (xt Tryz.f227.results.toList):=xz (xi (by kernel_rfl)) xy xqL
theorem xqM(hl:SoundL I ka6):SoundF I 227 xeR:=by
 refine sq hl xa Tryz.func227 fun _ _ t ht =>?_
 unfold xeR at ht
 split at ht
 ·rename_i c gc
  split at ht
  ·rename_i g o hg
   obtain rfl:=yv hg
   cases ht
   refine(xE (P:= Tryz.prog) (n:=xa) (x:=(lsAt XW .no [1,0,1,0])) (fn:= Tryz.f227) (H :=[some ⟨.port::(g.cells ++ [.int .u64 o]), 150,false,none⟩]) (c:= Tryz.f227.body.getD .skip) (xi (by kernel_rfl)) xnu).symm.trans ?_
   exact ey (xnj g o c _)
  ·cases ht
 ·cases ht
def xeS:Sm:=fun
 | [.c (.ptr 0 0),.c (.int .i64 c)],[some ⟨.port::gc, 150,false,none⟩]=>(match hdOf gc with
   | some (g,o)=>some (mkS ((Fnd×Int)) (Wz g o c) fun r=>some (.agg r.1.cells,[some ⟨.port::(g.cells ++ [.int .u64 r.2]), 150,false,none⟩]))
   | _=>none)
 | _,_=>none
theorem xqN(hl:SoundL I ka6):SoundF I 228 xeS:=by
 refine sq hl 1 Tryz.func228 fun _ _ t ht =>?_
 unfold xeS at ht
 split at ht
 ·rename_i c gc
  split at ht
  ·rename_i g o hg
   obtain rfl:=yv hg
   cases ht
   exact ey (xnk g o c _)
  ·cases ht
 ·cases ht
def xeT:Sm:=fun
 | [.c .port,.agg gc,.c (.sl 0 0 1 1)],[some ⟨[.int .i64 a,.int .i64 b], 291,false,none⟩]=>(match xv gc with
   | some g=>some (mkS (Unit) (WA g a b) fun r=>some (.tup [],[some ⟨[.int .i64 a,.int .i64 b], 291,false,none⟩]))
   | _=>none)
 | _,_=>none
theorem xqO(hl:SoundL I ka6):SoundF I 252 xeT:=by
 refine sq hl 5 Tryz.func252 fun _ _ t ht =>?_
 unfold xeT at ht
 split at ht
 ·rename_i gc a b
  split at ht
  ·rename_i g hg
   obtain rfl:=xe hg
   cases ht
   exact ey (xnl g a b _)
  ·cases ht
 ·cases ht
def xeU:Sm:=fun
 | [.c .port,.agg gc,.c (.sl 0 0 3 3)],[some ⟨[.int .i64 a,.int .i64 b,.int .i64 c,.int .i64 d,.int .i64 e,.int .i64 f], 291,false,none⟩]=>(match xv gc with
   | some g=>some (mkS (Unit) (WB g a b c d e f) fun r=>some (.tup [],[some ⟨[.int .i64 a,.int .i64 b,.int .i64 c,.int .i64 d,.int .i64 e,.int .i64 f], 291,false,none⟩]))
   | _=>none)
 | _,_=>none
theorem xqP(hl:SoundL I ka6):SoundF I 252 xeU:=by
 refine sq hl 5 Tryz.func252 fun _ _ t ht =>?_
 unfold xeU at ht
 split at ht
 ·rename_i gc a b c d e f
  split at ht
  ·rename_i g hg
   obtain rfl:=xe hg
   cases ht
   exact ey (xnm g a b c d e f _)
  ·cases ht
 ·cases ht
def xnv:Sm:=gS fun
 | g,[]=>some (mkS (Cts) (xeO g) fun r=>some (.agg r.cells,[]))
 | _,_=>none
theorem xqQ(hl:SoundL I ka6):SoundF I 136 xnv:=by
 refine gsq hl 7 Tryz.func136 fun g l t ht =>?_
 split at ht
 ·cases ht
  exact ey (xnn g _)
 ·cases ht
def xa8:Sm:=fun
 | [.agg gc,.c (.int .i64 a),.c (.int .i64 s)],[]=>(match xv gc with
   | some g=>some (mkS (Int) (XX g a s) fun r=>some (.c (.int .i64 r),[]))
   | _=>none)
 | _,_=>none
theorem xnw(hl:SoundL I ka6):SoundF I 113 xa8:=by
 refine sq hl 1 Tryz.func113 fun _ _ t ht =>?_
 unfold xa8 at ht
 split at ht
 ·rename_i gc a s
  split at ht
  ·rename_i g hg
   obtain rfl:=xe hg
   cases ht
   exact ey (xkm g a s _)
  ·cases ht
 ·cases ht
def xeV:Sm:=fun
 | [.c (.ptr 0 0),.agg r0c],[some ⟨.port::gc, 179,false,none⟩]=>(match rnOf gc with
   | some (g,x)=>(match Res.of r0c with
   | some r0=>some (mkS ((Res×Rn)) (wI g x r0) fun r=>some (.agg r.1.cells,[some ⟨.port::(g.cells++r.2.cells), 179,false,none⟩]))
   | _=>none)
   | _=>none)
 | _,_=>none
theorem xqR(hl:SoundL I ka6):SoundF I 114 xeV:=by
 refine sq hl 1 Tryz.func114 fun _ _ t ht =>?_
 unfold xeV at ht
 split at ht
 ·rename_i r0c gc
  split at ht
  ·rename_i g x hg
   obtain rfl:=XG hg
   split at ht
   ·rename_i r0 hr0
    obtain rfl:=Res.of_eq hr0
    cases ht
    exact ey (xno g x r0 _)
   ·cases ht
  ·cases ht
 ·cases ht
def xeW:Sm:=fun
 | [.c (.ptr 0 0)],[some ⟨.port::gc, 179,false,none⟩]=>(match rnOf gc with
   | some (g,x)=>some (mkS ((Int×Rn)) (WC g x) fun r=>some (.c (.int .i64 r.1),[some ⟨.port::(g.cells++r.2.cells), 179,false,none⟩]))
   | _=>none)
 | _,_=>none
theorem xqS(hl:SoundL I ka6):SoundF I 117 xeW:=by
 refine sq hl 1 Tryz.func117 fun _ _ t ht =>?_
 unfold xeW at ht
 split at ht
 ·rename_i gc
  split at ht
  ·rename_i g x hg
   obtain rfl:=XG hg
   cases ht
   exact ey (xnp g x _)
  ·cases ht
 ·cases ht
def xa9:Sm:=fun
 | [.c (.ptr 0 0),.c (.int .i64 n)],[some ⟨.port::gc, 179,false,none⟩]=>(match rnOf gc with
   | some (g,x)=>some (mkS ((Unit×Rn)) (jo g x n) fun r=>some (.tup [],[some ⟨.port::(g.cells++r.2.cells), 179,false,none⟩]))
   | _=>none)
 | _,_=>none
theorem xks:Good Tryz.prog (xo ka6) xa 1 (lsAt qA .no [1,0]) (Tryz.f194.body.getD .skip) (xt Tryz.f194.results.toList):=xz (xi (by kernel_rfl)) xy xnq
theorem xnx(hl:SoundL I ka6):SoundF I 194 xa9:=by
 refine sq hl xa Tryz.func194 fun _ _ t ht =>?_
 unfold xa9 at ht
 split at ht
 ·rename_i n gc
  split at ht
  ·rename_i g x hg
   obtain rfl:=XG hg
   cases ht
   refine(xE (P:= Tryz.prog) (n:=xa) (x:=(lsAt qA .no [1,0])) (fn:= Tryz.f194) (H :=[some ⟨.port::(g.cells++x.cells), 179,false,none⟩]) (c:= Tryz.f194.body.getD .skip) (xi (by kernel_rfl)) xks).symm.trans ?_
   exact ey (xko g x n _)
  ·cases ht
 ·cases ht
def WF:Sm:=fun
 | [.c (.int .i64 s)],[]=>some (mkS (Bool) (xeP s) fun r=>some (.c (.bool r),[]))
 | _,_=>none
theorem xkt(hl:SoundL I ka6):SoundF I 153 WF:=by
 refine sq hl 1 Tryz.func153 fun _ _ t ht =>?_
 unfold WF at ht
 split at ht
 ·rename_i s
  cases ht
  exact ey (xgQ s _)
 ·cases ht
def ka7:List (Nat×Sm):=(170,WE)::(270,xeQ)::(200,(orSm xhM (orSm xa6 xa7)))::(213,xkr)::(227,xeR)::(228,xeS)::(252,(orSm xeT xeU))::(136,xnv)::(113,xa8)::(114,xeV)::(117,xeW)::(194,xa9)::(153,WF)::ka6
theorem wE:SoundL I ka7:=(.cons (xkp wD) (.cons (xkq wD) (.cons (SoundF.or (xnr wD) (SoundF.or (xns wD) (xnt wD))) (.cons (xuw wD) (.cons (xqM wD) (.cons (xqN wD) (.cons (SoundF.or (xqO wD) (xqP wD)) (.cons (xqQ wD) (.cons (xnw wD) (.cons (xqR wD) (.cons (xqS wD) (.cons (xnx wD) (.cons (xkt wD) wD)))))))))))))
end Lx
namespace Lx
variable{β:Type}(g:Geo)
open Go
def xba(g1:Geo)(κ0:Unit->T β)(i:Int)(k:Int->T β):T β:=
 bif decide (i<=qW g1)then(bif i==qW g1 then(.op (.store (atF g1 17 (inF (i64.wrap (i-1)) 0 1)) (0)) fun _=>
 k (i64.wrap (i+1))) else
 .op (.store (atF g1 17 (inF (i64.wrap (i-1)) 0 1)) (Ref.word {idx:=i64.wrap (i+1),mark:=false,ver:=0})) fun _=>
 k (i64.wrap (i+1))) else
 κ0 ()
def wk(g1:Geo)(a0:Int)(κ0:Unit->T β):T β:=xr xa (xba g1 κ0) a0
theorem xeX{β γ:Type}(g1:Geo)(a0:Int)(κ0:Unit->T β)(κ:β->T γ):(wk g1 a0 κ0).bind κ=wk g1 a0 (fun u=>(κ0 u).bind κ):=by
 unfold wk
 refine xj κ (fun i k =>?_) _ _
 unfold xba
 simp only[bz]
def xeY:Pat:=⟨xm 42 0 [(0,.c (.raw (.port))),(3,.c (.raw (.ptr 0 0))),(4,.c (.int .i64))],[some ⟨[.geo],24,false,none⟩]⟩
def xny:Pat:=⟨xm 42 0 [(0,.c (.raw (.port))),(3,.c (.raw (.ptr 0 0)))],[some ⟨[.geo],24,false,none⟩]⟩
def XY:LF:=fun st K=>match xq xeY st with
 | some [.i a0,.g g1]=>some (wk g1 a0 (fun _=>K (.exit 0) (xd xny [.g g1])))
 | _=>none
theorem xqT : ∀st K t,XY st K=some t->xA xa (lf ka7 xa 0 .no [1,1,0,1,0] Tryz.f126 K) st=t:=by
 intro st K t h
 unfold XY at h
 split at h
 ·rename_i a0 g1 hm
  cases h
  rw[xk hm]
  unfold wk
  exact xu (S:=fun(i:Int)=>xd xeY [.i i,.g g1]) (fun i k=>by kernel_rfl) xa a0
 ·cases h
def xdj(κ:Unit->T β):T β:=
 (wV g).bind fun r0=>
 bif r0 then(κ ()) else
 wk (g) (1) (fun y2_0=>
 .op (.store (atF g 4 0) (1)) fun _=>
 κ ())
def ZH:T Unit:=xdj g .ret
theorem xnz(κ:Unit->T β):(ZH g).bind κ=xdj g κ:=by
 unfold ZH xdj
 simp only[bz,xeX]
def xku(a0:Int)(g1:Geo)(κ0:Unit->T β)(κ1:Int->T β)(i:Unit)(k:Unit->T β):T β:=
 .op (.load (atF g1 4 0)) fun x0=>
 bif ofW i64 x0 0 24==0 then(κ0 ()) else
 .op (.load (atF g1 17   (inF (i64.wrap (ofW i64 x0 0 24-1)) 0 1))) fun x2=>
 .op (.cas (atF g1 4 0) x0 (Ref.word   {idx:=ofW i64 x2 0 24,mark:=false,     ver:=u32.wrap (ofW u32 x0 32 32+1)})) fun b3=>
 bif b3 then(κ1 (ofW i64 x0 0 24)) else
 k ()
def qB(a0:Int)(g1:Geo)  (κ0:Unit->T β) (κ1:Int->T β):T β:=xr xa (xku a0 g1 κ0 κ1) ()
theorem xkv{β γ:Type}(a0:Int)(g1:Geo)  (κ0:Unit->T β) (κ1:Int->T β) (κ:β->T γ):(qB a0 g1  κ0 κ1).bind κ=qB a0 g1  (fun u=>(κ0 u).bind κ) (fun ae0=>(κ1 ae0).bind κ):=by
 unfold qB
 refine xj κ (fun i k =>?_) _ _
 unfold xku
 simp only[bz]
def xnA:Pat:=⟨xm 52 0 [(0,.c (.raw (.port))),(3,.c (.raw (.ptr 0 0))),(4,.c (.int .i64))],[some ⟨[.geo],24,false,none⟩]⟩
def xhN:Pat:=⟨xm 52 0 [(4,.c (.int .i64))],[]⟩
def xdk:LF:=fun st K=>match xq xnA st with
 | some [.i a0,.g g1]=>some (qB a0 g1  (fun _=>K (.ret) (xd xhN [.i 0])) (fun ae0=>K (.ret) (xd xhN [.i ae0])))
 | _=>none
theorem xwC : ∀st K t,xdk st K=some t->xA xa (lf ka7 xa 0 .no [1,1,0] Tryz.f267 K) st=t:=by
 intro st K t h
 unfold xdk at h
 split at h
 ·rename_i a0 g1 hm
  cases h
  rw[xk hm]
  unfold qB
  exact xu (S:=fun(i:Unit)=>xd xnA [.i a0,.g g1]) (fun i k=>by kernel_rfl) xa ()
 ·cases h
def xtf(κ:Int->T β):T β:=
 (wV g).bind fun r0=>
 bif r0 then(κ (0)) else
 qB (0) (g) (fun y2_0=>
 κ (0)) (fun y2_0=>
 κ y2_0)
def acqT:T Int:=xtf g .ret
theorem xux(κ:Int->T β):(acqT g).bind κ=xtf g κ:=by
 unfold acqT xtf
 simp only[bz,xkv]
def xeZ(a0:Int)(g1:Geo)(κ0:Unit->T β)(i:Unit)(k:Unit->T β):T β:=
 .op (.load (atF g1 4 0)) fun x0=>
 .op (.store (atF g1 17 (inF (i64.wrap (a0-1)) 0 1)) (Ref.word {idx:=ofW i64 x0 0 24,mark:=false,ver:=0})) fun _=>
 .op (.cas (atF g1 4 0) x0 (Ref.word   {idx:=a0,mark:=false,ver:=u32.wrap (ofW u32 x0 32 32+1)})) fun b2=>
 bif b2 then(κ0 ()) else
 k ()
def kJ(a0:Int)(g1:Geo)  (κ0:Unit->T β):T β:=xr xa (xeZ a0 g1 κ0) ()
theorem xgS{β γ:Type}(a0:Int)(g1:Geo)  (κ0:Unit->T β) (κ:β->T γ):(kJ a0 g1  κ0).bind κ=kJ a0 g1  (fun u=>(κ0 u).bind κ):=by
 unfold kJ
 refine xj κ (fun i k =>?_) _ _
 unfold xeZ
 simp only[bz]
def xhO:Pat:=⟨xm 50 0 [(0,.c (.raw (.port))),(2,.c (.int .i64)),(4,.c (.raw (.ptr 0 0)))],[some ⟨[.geo],24,false,none⟩]⟩
def xqU:Pat:=⟨xm 50 0 [],[]⟩
def Kh:LF:=fun st K=>match xq xhO st with
 | some [.i a0,.g g1]=>some (kJ a0 g1  (fun _=>K (.ret) (xd xqU [])))
 | _=>none
theorem xuy : ∀st K t,Kh st K=some t->xA xa (lf ka7 xa 0 .no [1,1,0] Tryz.f284 K) st=t:=by
 intro st K t h
 unfold Kh at h
 split at h
 ·rename_i a0 g1 hm
  cases h
  rw[xk hm]
  unfold kJ
  exact xu (S:=fun(i:Unit)=>xd xhO [.i a0,.g g1]) (fun i k=>by kernel_rfl) xa ()
 ·cases h
def xkw(n:Int)(κ:Unit->T β):T β:=
 (wW g (atF g 17 (inF (i64.wrap (n-1)) 0 1))).bind fun r0=>
 bif r0 then(κ ()) else
 kJ (n) (g) (fun y2_0=>
 κ ())
def xhP(n:Int):T Unit:=xkw g n .ret
theorem xqV(n:Int)(κ:Unit->T β):(xhP g n).bind κ=xkw g n κ:=by
 unfold xhP xkw
 simp only[bz,xgS]
def xe0(a0 a1:Int)(g3:Geo)(a4:Int)(b5:Bool)(a6:Int)(κ0:Int->Bool->Int->T β)(i:Int)(k:Int->T β):T β:=
 .op (.self) fun x0=>
 .op (.store (atF g3 14 (inF x0 a0 2)) (u64.wrap (ofW i64 i 0 24))) fun _=>
 .op (.load a1) fun x2=>
 bif x2==i then(κ0 (ofW i64 i 0 24) (ofW i64 i 24 1==1) (ofW u32 i 32 32)) else
 k x2
def kK(a0 a1:Int)(g3:Geo)(a4:Int)(b5:Bool)(a6 a2:Int)(κ0:Int->Bool->Int->T β):T β:=xr xa (xe0 a0 a1 g3 a4 b5 a6 κ0) a2
theorem xgT{β γ:Type}(a0 a1:Int)(g3:Geo)(a4:Int)(b5:Bool)(a6 a2:Int)(κ0:Int->Bool->Int->T β)(κ:β->T γ):(kK a0 a1 g3 a4 b5 a6 a2 κ0).bind κ=kK a0 a1 g3 a4 b5 a6 a2 (fun ae0 be1 ae2=>(κ0 ae0 be1 ae2).bind κ):=by
 unfold kK
 refine xj κ (fun i k =>?_) _ _
 unfold xe0
 simp only[bz]
def xhQ:Pat:=⟨xm 62 0 [(0,.c (.raw (.port))),(2,.c (.int .i64)),(3,.c (.int .i64)),(5,.c (.raw (.ptr 0 0))),(8,.c (.raw (.ptr 1 0))),(9,.c (.int .u64))],[some ⟨[.geo],24,false,none⟩,some ⟨[.int .i64,.bool,.int .u32],162,false,none⟩]⟩
def xqW:Pat:=⟨xm 62 0 [(8,.c (.raw (.ptr 1 0)))],[none,some ⟨[.int .i64,.bool,.int .u32],162,false,none⟩]⟩
def Ki:LF:=fun st K=>match xq xhQ st with
 | some [.i a0,.i a1,.i a2,.g g3,.i a4,.b b5,.i a6]=>some (kK a0 a1 g3 a4 b5 a6 a2 (fun ae0 be1 ae2=>K (.ret) (xd xqW [.i ae0,.b be1,.i ae2])))
 | _=>none
theorem xuz : ∀st K t,Ki st K=some t->xA xa (lf ka7 xa 0 .no [1,1,1,0] Tryz.f285 K) st=t:=by
 intro st K t h
 unfold Ki at h
 split at h
 ·rename_i a0 a1 a2 g3 a4 b5 a6 hm
  cases h
  rw[xk hm]
  unfold kK
  exact xu (S:=fun(i:Int)=>xd xhQ [.i a0,.i a1,.i i,.g g3,.i a4,.b b5,.i a6]) (fun i k=>by kernel_rfl) xa a2
 ·cases h
def xkx(s a:Int)(κ:Ref->T β):T β:=
 .op (.self) fun x0=>
 (wW g (atF g 14 (inF x0 s 2))).bind fun r1=>
 bif r1 then(κ ⟨(0),(false),(0)⟩) else
 bif decide (a<0)then(κ ⟨(0),(false),(0)⟩) else
 bif decide (a>=g.b19)then(κ ⟨(0),(false),(0)⟩) else
 .op (.load (a)) fun x5=>
 kK (s) (a) (g) (0) (false) (0) x5 (fun y6_0 y6_1 y6_2=>
 κ ⟨(y6_0),y6_1,(y6_2)⟩)
def xb6(s a:Int):T Ref:=xkx g s a .ret
theorem xqX(s a:Int)(κ:Ref->T β):(xb6 g s a).bind κ=xkx g s a κ:=by
 unfold xb6 xkx
 simp only[bz,xgT]
def xdl(s:Int)(κ:Unit->T β):T β:=
 .op (.self) fun x0=>
 (wW g (atF g 14 (inF x0 s 2))).bind fun r1=>
 bif !r1 then(.op (.self) fun x3=>
 .op (.store (atF g 14 (inF x3 s 2)) (0)) fun _=>
 κ ()) else
 κ ()
def WG(s:Int):T Unit:=xdl g s .ret
theorem xnB(s:Int)(κ:Unit->T β):(WG g s).bind κ=xdl g s κ:=by
 unfold WG xdl
 simp only[bz]
def WH(a0 a1:Int)(g3:Geo)(a5:Int)(b6:Bool)(a7:Int)(κ0:Int->Int->T β)(κ1:Int->T β)(i:Int×Int)(k:Int×Int->T β):T β:=
 bif decide (i.1<a1)then((hofT g3 i.2 i.1 a0).bind fun r1=>
 bif !r1.1 then(k (i64.wrap (i.1+1),r1.2)) else
 (isT g3 i.1 0).bind fun r3=>
 bif !r3 then(k (i64.wrap (i.1+1),r1.2)) else
 .op (.load (atF g3 9 i.1)) fun x5=>
 yh (i.1) g3 (i.1) x5 (fun y6_0=>
 bif y6_0 != 0 then(.op (.load (atF g3 10 (i64.wrap (i64.wrap y6_0-1)))) fun x8=>
 bif x8 !=   (0 :     POp.Ans       (POp.load         (atF           {             pages:=               g3.pages,             threads:=               g3.threads,             b0:=               g3.b0,             b1:=               g3.b1,             b2:=               g3.b2,             b3:=               g3.b3,             b4:=               g3.b4,             b5:=               g3.b5,             b6:=               g3.b6,             b7:=               g3.b7,             b8:=               g3.b8,             b9:=               g3.b9,             b10:=               g3.b10,             b11:=               g3.b11,             b12:=               g3.b12,             b13:=               g3.b13,             b14:=               g3.b14,             b15:=               g3.b15,             b16:=               g3.b16,             b17:=               g3.b17,             b18:=               g3.b18,             b19:=               g3.b19}           10 (i64.wrap (i64.wrap y6_0-1)))))then(.op (.load (atF g3 10 (i64.wrap (i64.wrap x8-1)))) fun x10=>
 bif x10 !=   (0 :     POp.Ans       (POp.load         (atF           {             pages:=               g3.pages,             threads:=               g3.threads,             b0:=               g3.b0,             b1:=               g3.b1,             b2:=               g3.b2,             b3:=               g3.b3,             b4:=               g3.b4,             b5:=               g3.b5,             b6:=               g3.b6,             b7:=               g3.b7,             b8:=               g3.b8,             b9:=               g3.b9,             b10:=               g3.b10,             b11:=               g3.b11,             b12:=               g3.b12,             b13:=               g3.b13,             b14:=               g3.b14,             b15:=               g3.b15,             b16:=               g3.b16,             b17:=               g3.b17,             b18:=               g3.b18,             b19:=               g3.b19}           10 (i64.wrap (i64.wrap x8-1)))))then(.op (.load (atF g3 10 (i64.wrap (i64.wrap x10-1)))) fun x12=>
 bif x12 !=   (0 :     POp.Ans       (POp.load         (atF           {             pages:=               g3.pages,             threads:=               g3.threads,             b0:=               g3.b0,             b1:=               g3.b1,             b2:=               g3.b2,             b3:=               g3.b3,             b4:=               g3.b4,             b5:=               g3.b5,             b6:=               g3.b6,             b7:=               g3.b7,             b8:=               g3.b8,             b9:=               g3.b9,             b10:=               g3.b10,             b11:=               g3.b11,             b12:=               g3.b12,             b13:=               g3.b13,             b14:=               g3.b14,             b15:=               g3.b15,             b16:=               g3.b16,             b17:=               g3.b17,             b18:=               g3.b18,             b19:=               g3.b19}           10 (i64.wrap (i64.wrap x10-1)))))then(.op (.load (atF g3 10 (i64.wrap (i64.wrap x12-1)))) fun x14=>
 bif x14 !=   (0 :     POp.Ans       (POp.load         (atF           {             pages:=               g3.pages,             threads:=               g3.threads,             b0:=               g3.b0,             b1:=               g3.b1,             b2:=               g3.b2,             b3:=               g3.b3,             b4:=               g3.b4,             b5:=               g3.b5,             b6:=               g3.b6,             b7:=               g3.b7,             b8:=               g3.b8,             b9:=               g3.b9,             b10:=               g3.b10,             b11:=               g3.b11,             b12:=               g3.b12,             b13:=               g3.b13,             b14:=               g3.b14,             b15:=               g3.b15,             b16:=               g3.b16,             b17:=               g3.b17,             b18:=               g3.b18,             b19:=               g3.b19}           10 (i64.wrap (i64.wrap x12-1)))))then(.op (.load (atF g3 10 (i64.wrap (i64.wrap x14-1)))) fun x16=>
 bif x16 !=   (0 :     POp.Ans       (POp.load         (atF           {             pages:=               g3.pages,             threads:=               g3.threads,             b0:=               g3.b0,             b1:=               g3.b1,             b2:=               g3.b2,             b3:=               g3.b3,             b4:=               g3.b4,             b5:=               g3.b5,             b6:=               g3.b6,             b7:=               g3.b7,             b8:=               g3.b8,             b9:=               g3.b9,             b10:=               g3.b10,             b11:=               g3.b11,             b12:=               g3.b12,             b13:=               g3.b13,             b14:=               g3.b14,             b15:=               g3.b15,             b16:=               g3.b16,             b17:=               g3.b17,             b18:=               g3.b18,             b19:=               g3.b19}           10 (i64.wrap (i64.wrap x14-1)))))then(.op (.load (atF g3 10 (i64.wrap (i64.wrap x16-1)))) fun x18=>
 bif x18 !=   (0 :     POp.Ans       (POp.load         (atF           {             pages:=               g3.pages,             threads:=               g3.threads,             b0:=               g3.b0,             b1:=               g3.b1,             b2:=               g3.b2,             b3:=               g3.b3,             b4:=               g3.b4,             b5:=               g3.b5,             b6:=               g3.b6,             b7:=               g3.b7,             b8:=               g3.b8,             b9:=               g3.b9,             b10:=               g3.b10,             b11:=               g3.b11,             b12:=               g3.b12,             b13:=               g3.b13,             b14:=               g3.b14,             b15:=               g3.b15,             b16:=               g3.b16,             b17:=               g3.b17,             b18:=               g3.b18,             b19:=               g3.b19}           10 (i64.wrap (i64.wrap x16-1)))))then(.op (.load (atF g3 10 (i64.wrap (i64.wrap x18-1)))) fun x20=>
 bif x20 !=   (0 :     POp.Ans       (POp.load         (atF           {             pages:=               g3.pages,             threads:=               g3.threads,             b0:=               g3.b0,             b1:=               g3.b1,             b2:=               g3.b2,             b3:=               g3.b3,             b4:=               g3.b4,             b5:=               g3.b5,             b6:=               g3.b6,             b7:=               g3.b7,             b8:=               g3.b8,             b9:=               g3.b9,             b10:=               g3.b10,             b11:=               g3.b11,             b12:=               g3.b12,             b13:=               g3.b13,             b14:=               g3.b14,             b15:=               g3.b15,             b16:=               g3.b16,             b17:=               g3.b17,             b18:=               g3.b18,             b19:=               g3.b19}           10 (i64.wrap (i64.wrap x18-1)))))then(.op (.load (atF g3 10 (i64.wrap (i64.wrap x20-1)))) fun x22=>
 bif x22 !=   (0 :     POp.Ans       (POp.load         (atF           {             pages:=               g3.pages,             threads:=               g3.threads,             b0:=               g3.b0,             b1:=               g3.b1,             b2:=               g3.b2,             b3:=               g3.b3,             b4:=               g3.b4,             b5:=               g3.b5,             b6:=               g3.b6,             b7:=               g3.b7,             b8:=               g3.b8,             b9:=               g3.b9,             b10:=               g3.b10,             b11:=               g3.b11,             b12:=               g3.b12,             b13:=               g3.b13,             b14:=               g3.b14,             b15:=               g3.b15,             b16:=               g3.b16,             b17:=               g3.b17,             b18:=               g3.b18,             b19:=               g3.b19}           10 (i64.wrap (i64.wrap x20-1)))))then((vY g3 (i64.wrap (i64.wrap y6_0-1))).bind fun r24=>
 bif r24.cls != a0 then((xh g3 r1.2 (i64.wrap (i64.wrap y6_0-1))).bind fun r26=>
 (xh g3 r26.2 (i64.wrap (i64.wrap x8-1))).bind fun r27=>
 (xh g3 r27.2 (i64.wrap (i64.wrap x10-1))).bind fun r28=>
 (xh g3 r28.2 (i64.wrap (i64.wrap x12-1))).bind fun r29=>
 (xh g3 r29.2 (i64.wrap (i64.wrap x14-1))).bind fun r30=>
 (xh g3 r30.2 (i64.wrap (i64.wrap x16-1))).bind fun r31=>
 (xh g3 r31.2 (i64.wrap (i64.wrap x18-1))).bind fun r32=>
 (xh g3 r32.2 (i64.wrap (i64.wrap x20-1))).bind fun r33=>
 k (i64.wrap (i.1+1),r33.2)) else
 (xh g3 r1.2 (i64.wrap (i64.wrap x8-1))).bind fun r26=>
 (xh g3 r26.2 (i64.wrap (i64.wrap x10-1))).bind fun r27=>
 (xh g3 r27.2 (i64.wrap (i64.wrap x12-1))).bind fun r28=>
 (xh g3 r28.2 (i64.wrap (i64.wrap x14-1))).bind fun r29=>
 (xh g3 r29.2 (i64.wrap (i64.wrap x16-1))).bind fun r30=>
 (xh g3 r30.2 (i64.wrap (i64.wrap x18-1))).bind fun r31=>
 (xh g3 r31.2 (i64.wrap (i64.wrap x20-1))).bind fun r32=>
 κ0 (r32.2) (i64.wrap (i64.wrap y6_0-1))) else
 (vY g3 (i64.wrap (i64.wrap y6_0-1))).bind fun r24=>
 bif r24.cls != a0 then((xh g3 r1.2 (i64.wrap (i64.wrap y6_0-1))).bind fun r26=>
 (xh g3 r26.2 (i64.wrap (i64.wrap x8-1))).bind fun r27=>
 (xh g3 r27.2 (i64.wrap (i64.wrap x10-1))).bind fun r28=>
 (xh g3 r28.2 (i64.wrap (i64.wrap x12-1))).bind fun r29=>
 (xh g3 r29.2 (i64.wrap (i64.wrap x14-1))).bind fun r30=>
 (xh g3 r30.2 (i64.wrap (i64.wrap x16-1))).bind fun r31=>
 (xh g3 r31.2 (i64.wrap (i64.wrap x18-1))).bind fun r32=>
 (xh g3 r32.2 (i64.wrap (i64.wrap x20-1))).bind fun r33=>
 k (i64.wrap (i.1+1),r33.2)) else
 (xh g3 r1.2 (i64.wrap (i64.wrap x8-1))).bind fun r26=>
 (xh g3 r26.2 (i64.wrap (i64.wrap x10-1))).bind fun r27=>
 (xh g3 r27.2 (i64.wrap (i64.wrap x12-1))).bind fun r28=>
 (xh g3 r28.2 (i64.wrap (i64.wrap x14-1))).bind fun r29=>
 (xh g3 r29.2 (i64.wrap (i64.wrap x16-1))).bind fun r30=>
 (xh g3 r30.2 (i64.wrap (i64.wrap x18-1))).bind fun r31=>
 (xh g3 r31.2 (i64.wrap (i64.wrap x20-1))).bind fun r32=>
 κ0 (r32.2) (i64.wrap (i64.wrap y6_0-1))) else
 (vY g3 (i64.wrap (i64.wrap y6_0-1))).bind fun r22=>
 bif r22.cls != a0 then((xh g3 r1.2 (i64.wrap (i64.wrap y6_0-1))).bind fun r24=>
 (xh g3 r24.2 (i64.wrap (i64.wrap x8-1))).bind fun r25=>
 (xh g3 r25.2 (i64.wrap (i64.wrap x10-1))).bind fun r26=>
 (xh g3 r26.2 (i64.wrap (i64.wrap x12-1))).bind fun r27=>
 (xh g3 r27.2 (i64.wrap (i64.wrap x14-1))).bind fun r28=>
 (xh g3 r28.2 (i64.wrap (i64.wrap x16-1))).bind fun r29=>
 (xh g3 r29.2 (i64.wrap (i64.wrap x18-1))).bind fun r30=>
 k (i64.wrap (i.1+1),r30.2)) else
 (xh g3 r1.2 (i64.wrap (i64.wrap x8-1))).bind fun r24=>
 (xh g3 r24.2 (i64.wrap (i64.wrap x10-1))).bind fun r25=>
 (xh g3 r25.2 (i64.wrap (i64.wrap x12-1))).bind fun r26=>
 (xh g3 r26.2 (i64.wrap (i64.wrap x14-1))).bind fun r27=>
 (xh g3 r27.2 (i64.wrap (i64.wrap x16-1))).bind fun r28=>
 (xh g3 r28.2 (i64.wrap (i64.wrap x18-1))).bind fun r29=>
 κ0 (r29.2) (i64.wrap (i64.wrap y6_0-1))) else
 (vY g3 (i64.wrap (i64.wrap y6_0-1))).bind fun r20=>
 bif r20.cls != a0 then((xh g3 r1.2 (i64.wrap (i64.wrap y6_0-1))).bind fun r22=>
 (xh g3 r22.2 (i64.wrap (i64.wrap x8-1))).bind fun r23=>
 (xh g3 r23.2 (i64.wrap (i64.wrap x10-1))).bind fun r24=>
 (xh g3 r24.2 (i64.wrap (i64.wrap x12-1))).bind fun r25=>
 (xh g3 r25.2 (i64.wrap (i64.wrap x14-1))).bind fun r26=>
 (xh g3 r26.2 (i64.wrap (i64.wrap x16-1))).bind fun r27=>
 k (i64.wrap (i.1+1),r27.2)) else
 (xh g3 r1.2 (i64.wrap (i64.wrap x8-1))).bind fun r22=>
 (xh g3 r22.2 (i64.wrap (i64.wrap x10-1))).bind fun r23=>
 (xh g3 r23.2 (i64.wrap (i64.wrap x12-1))).bind fun r24=>
 (xh g3 r24.2 (i64.wrap (i64.wrap x14-1))).bind fun r25=>
 (xh g3 r25.2 (i64.wrap (i64.wrap x16-1))).bind fun r26=>
 κ0 (r26.2) (i64.wrap (i64.wrap y6_0-1))) else
 (vY g3 (i64.wrap (i64.wrap y6_0-1))).bind fun r18=>
 bif r18.cls != a0 then((xh g3 r1.2 (i64.wrap (i64.wrap y6_0-1))).bind fun r20=>
 (xh g3 r20.2 (i64.wrap (i64.wrap x8-1))).bind fun r21=>
 (xh g3 r21.2 (i64.wrap (i64.wrap x10-1))).bind fun r22=>
 (xh g3 r22.2 (i64.wrap (i64.wrap x12-1))).bind fun r23=>
 (xh g3 r23.2 (i64.wrap (i64.wrap x14-1))).bind fun r24=>
 k (i64.wrap (i.1+1),r24.2)) else
 (xh g3 r1.2 (i64.wrap (i64.wrap x8-1))).bind fun r20=>
 (xh g3 r20.2 (i64.wrap (i64.wrap x10-1))).bind fun r21=>
 (xh g3 r21.2 (i64.wrap (i64.wrap x12-1))).bind fun r22=>
 (xh g3 r22.2 (i64.wrap (i64.wrap x14-1))).bind fun r23=>
 κ0 (r23.2) (i64.wrap (i64.wrap y6_0-1))) else
 (vY g3 (i64.wrap (i64.wrap y6_0-1))).bind fun r16=>
 bif r16.cls != a0 then((xh g3 r1.2 (i64.wrap (i64.wrap y6_0-1))).bind fun r18=>
 (xh g3 r18.2 (i64.wrap (i64.wrap x8-1))).bind fun r19=>
 (xh g3 r19.2 (i64.wrap (i64.wrap x10-1))).bind fun r20=>
 (xh g3 r20.2 (i64.wrap (i64.wrap x12-1))).bind fun r21=>
 k (i64.wrap (i.1+1),r21.2)) else
 (xh g3 r1.2 (i64.wrap (i64.wrap x8-1))).bind fun r18=>
 (xh g3 r18.2 (i64.wrap (i64.wrap x10-1))).bind fun r19=>
 (xh g3 r19.2 (i64.wrap (i64.wrap x12-1))).bind fun r20=>
 κ0 (r20.2) (i64.wrap (i64.wrap y6_0-1))) else
 (vY g3 (i64.wrap (i64.wrap y6_0-1))).bind fun r14=>
 bif r14.cls != a0 then((xh g3 r1.2 (i64.wrap (i64.wrap y6_0-1))).bind fun r16=>
 (xh g3 r16.2 (i64.wrap (i64.wrap x8-1))).bind fun r17=>
 (xh g3 r17.2 (i64.wrap (i64.wrap x10-1))).bind fun r18=>
 k (i64.wrap (i.1+1),r18.2)) else
 (xh g3 r1.2 (i64.wrap (i64.wrap x8-1))).bind fun r16=>
 (xh g3 r16.2 (i64.wrap (i64.wrap x10-1))).bind fun r17=>
 κ0 (r17.2) (i64.wrap (i64.wrap y6_0-1))) else
 (vY g3 (i64.wrap (i64.wrap y6_0-1))).bind fun r12=>
 bif r12.cls != a0 then((xh g3 r1.2 (i64.wrap (i64.wrap y6_0-1))).bind fun r14=>
 (xh g3 r14.2 (i64.wrap (i64.wrap x8-1))).bind fun r15=>
 k (i64.wrap (i.1+1),r15.2)) else
 (xh g3 r1.2 (i64.wrap (i64.wrap x8-1))).bind fun r14=>
 κ0 (r14.2) (i64.wrap (i64.wrap y6_0-1))) else
 (vY g3 (i64.wrap (i64.wrap y6_0-1))).bind fun r10=>
 bif r10.cls != a0 then((xh g3 r1.2 (i64.wrap (i64.wrap y6_0-1))).bind fun r12=>
 k (i64.wrap (i.1+1),r12.2)) else
 κ0 (r1.2) (i64.wrap (i64.wrap y6_0-1))) else
 k (i64.wrap (i.1+1),r1.2))) else
 κ1 (i.2)
def vu(a0 a1:Int)(g3:Geo)(a5:Int)(b6:Bool)(a7 a2 a4:Int)(κ0:Int->Int->T β)(κ1:Int->T β):T β:=xr xa (WH a0 a1 g3 a5 b6 a7 κ0 κ1) (a2,a4)
theorem xcF{β γ:Type}(a0 a1:Int)(g3:Geo)(a5:Int)(b6:Bool)(a7 a2 a4:Int)(κ0:Int->Int->T β)(κ1:Int->T β)(κ:β->T γ):(vu a0 a1 g3 a5 b6 a7 a2 a4 κ0 κ1).bind κ=vu a0 a1 g3 a5 b6 a7 a2 a4 (fun ae1 ae2=>(κ0 ae1 ae2).bind κ) (fun ae1=>(κ1 ae1).bind κ):=by
 unfold vu
 refine xj κ (fun i k =>?_) _ _
 unfold WH
 simp only[bz,kG]
def xb7:Pat:=⟨xm 71 0 [(0,.c (.raw (.ptr 0 0))),(1,.c (.int .i64)),(4,.c (.raw (.ptr 1 0))),(14,.c (.int .i64)),(15,.c (.int .i64))],[some ⟨[.raw (.port),.geo,.int .u64],150,false,none⟩,some ⟨[.int .i64,.bool,.int .i64],221,false,none⟩]⟩
def Kj:Pat:=⟨xm 71 0 [(4,.c (.raw (.ptr 1 0)))],[some ⟨[.raw (.port),.geo,.int .u64],150,false,none⟩,some ⟨[.int .i64,.bool,.int .i64],221,false,none⟩]⟩
def qC:LF:=fun st K=>match xq xb7 st with
 | some [.i a0,.i a1,.i a2,.g g3,.i a4,.i a5,.b b6,.i a7]=>some (vu a0 a1 g3 a5 b6 a7 a2 a4 (fun ae1 ae2=>K (.ret) (xd Kj [.g g3,.i ae1,.i ae2,.b true,.i 0])) (fun ae1=>K (.exit 0) (xd Kj [.g g3,.i ae1,.i a5,.b b6,.i a7])))
 | _=>none
theorem xnC : ∀st K t,qC st K=some t->xA xa (lf ka7 xa 1 .no [1,0,1,0] Tryz.f226 K) st=t:=by
 intro st K t h
 unfold qC at h
 split at h
 ·rename_i a0 a1 a2 g3 a4 a5 b6 a7 hm
  cases h
  rw[xk hm]
  unfold vu
  exact xu (S:=fun(i:Int×Int)=>xd xb7 [.i a0,.i a1,.i (i.1),.g g3,.i (i.2),.i a5,.b b6,.i a7]) (fun i k=>by kernel_rfl) xa (a2,a4)
 ·cases h
def Kk(o c:Int)(κ:(Fnd×Int)->T β):T β:=
 vu (c) (g.pages) (g) (0) (false) (0) (0) (o) (fun y0_0 y0_1=>
 κ (⟨(y0_1),(true),(0)⟩,y0_0)) (fun y0_0=>
 κ (⟨(0),(false),(0)⟩,y0_0))
def XZ(o c:Int):T (Fnd×Int):=Kk g o c .ret
theorem xky(o c:Int)(κ:(Fnd×Int)->T β):(XZ g o c).bind κ=Kk g o c κ:=by
 unfold XZ Kk
 simp only[bz,xcF]
def ZI(a0:Int)(g2:Geo)(κ0:Int->T β)(i:Int×Int)(k:Int×Int->T β):T β:=
 bif decide (i.1<a0)then((isT g2 i.1 0).bind fun r1=>
 bif !r1 then(k (i64.wrap (i.1+1),i.2)) else
 .op (.load (atF g2 9 i.1)) fun x3=>
 yh (i.1) g2 (i.1) x3 (fun y4_0=>
 bif y4_0 != 0 then(.op (.load (atF g2 10 (i64.wrap (i64.wrap y4_0-1)))) fun x6=>
 bif x6 !=   (0 :     POp.Ans       (POp.load         (atF           g2           10 (i64.wrap (i64.wrap y4_0-1)))))then(.op (.load (atF g2 10 (i64.wrap (i64.wrap x6-1)))) fun x8=>
 bif x8 !=   (0 :     POp.Ans       (POp.load         (atF           g2           10 (i64.wrap (i64.wrap x6-1)))))then(.op (.load (atF g2 10 (i64.wrap (i64.wrap x8-1)))) fun x10=>
 bif x10 !=   (0 :     POp.Ans       (POp.load         (atF           g2           10 (i64.wrap (i64.wrap x8-1)))))then(.op (.load (atF g2 10 (i64.wrap (i64.wrap x10-1)))) fun x12=>
 bif x12 !=   (0 :     POp.Ans       (POp.load         (atF           g2           10 (i64.wrap (i64.wrap x10-1)))))then(.op (.load (atF g2 10 (i64.wrap (i64.wrap x12-1)))) fun x14=>
 bif x14 !=   (0 :     POp.Ans       (POp.load         (atF           g2           10 (i64.wrap (i64.wrap x12-1)))))then(.op (.load (atF g2 10 (i64.wrap (i64.wrap x14-1)))) fun x16=>
 bif x16 !=   (0 :     POp.Ans       (POp.load         (atF           g2           10 (i64.wrap (i64.wrap x14-1)))))then(.op (.load (atF g2 10 (i64.wrap (i64.wrap x16-1)))) fun x18=>
 bif x18 !=   (0 :     POp.Ans       (POp.load         (atF           g2           10 (i64.wrap (i64.wrap x16-1)))))then(.op (.load (atF g2 10 (i64.wrap (i64.wrap x18-1)))) fun x20=>
 bif x20 !=   (0 :     POp.Ans       (POp.load         (atF           g2           10 (i64.wrap (i64.wrap x18-1)))))then((xh g2 i.2 (i64.wrap (i64.wrap y4_0-1))).bind fun r22=>
 (xh g2 r22.2 (i64.wrap (i64.wrap x6-1))).bind fun r23=>
 (xh g2 r23.2 (i64.wrap (i64.wrap x8-1))).bind fun r24=>
 (xh g2 r24.2 (i64.wrap (i64.wrap x10-1))).bind fun r25=>
 (xh g2 r25.2 (i64.wrap (i64.wrap x12-1))).bind fun r26=>
 (xh g2 r26.2 (i64.wrap (i64.wrap x14-1))).bind fun r27=>
 (xh g2 r27.2 (i64.wrap (i64.wrap x16-1))).bind fun r28=>
 (xh g2 r28.2 (i64.wrap (i64.wrap x18-1))).bind fun r29=>
 k (i64.wrap (i.1+1),r29.2)) else
 (xh g2 i.2 (i64.wrap (i64.wrap y4_0-1))).bind fun r22=>
 (xh g2 r22.2 (i64.wrap (i64.wrap x6-1))).bind fun r23=>
 (xh g2 r23.2 (i64.wrap (i64.wrap x8-1))).bind fun r24=>
 (xh g2 r24.2 (i64.wrap (i64.wrap x10-1))).bind fun r25=>
 (xh g2 r25.2 (i64.wrap (i64.wrap x12-1))).bind fun r26=>
 (xh g2 r26.2 (i64.wrap (i64.wrap x14-1))).bind fun r27=>
 (xh g2 r27.2 (i64.wrap (i64.wrap x16-1))).bind fun r28=>
 (xh g2 r28.2 (i64.wrap (i64.wrap x18-1))).bind fun r29=>
 k (i64.wrap (i.1+1),r29.2)) else
 (xh g2 i.2 (i64.wrap (i64.wrap y4_0-1))).bind fun r20=>
 (xh g2 r20.2 (i64.wrap (i64.wrap x6-1))).bind fun r21=>
 (xh g2 r21.2 (i64.wrap (i64.wrap x8-1))).bind fun r22=>
 (xh g2 r22.2 (i64.wrap (i64.wrap x10-1))).bind fun r23=>
 (xh g2 r23.2 (i64.wrap (i64.wrap x12-1))).bind fun r24=>
 (xh g2 r24.2 (i64.wrap (i64.wrap x14-1))).bind fun r25=>
 (xh g2 r25.2 (i64.wrap (i64.wrap x16-1))).bind fun r26=>
 k (i64.wrap (i.1+1),r26.2)) else
 (xh g2 i.2 (i64.wrap (i64.wrap y4_0-1))).bind fun r18=>
 (xh g2 r18.2 (i64.wrap (i64.wrap x6-1))).bind fun r19=>
 (xh g2 r19.2 (i64.wrap (i64.wrap x8-1))).bind fun r20=>
 (xh g2 r20.2 (i64.wrap (i64.wrap x10-1))).bind fun r21=>
 (xh g2 r21.2 (i64.wrap (i64.wrap x12-1))).bind fun r22=>
 (xh g2 r22.2 (i64.wrap (i64.wrap x14-1))).bind fun r23=>
 k (i64.wrap (i.1+1),r23.2)) else
 (xh g2 i.2 (i64.wrap (i64.wrap y4_0-1))).bind fun r16=>
 (xh g2 r16.2 (i64.wrap (i64.wrap x6-1))).bind fun r17=>
 (xh g2 r17.2 (i64.wrap (i64.wrap x8-1))).bind fun r18=>
 (xh g2 r18.2 (i64.wrap (i64.wrap x10-1))).bind fun r19=>
 (xh g2 r19.2 (i64.wrap (i64.wrap x12-1))).bind fun r20=>
 k (i64.wrap (i.1+1),r20.2)) else
 (xh g2 i.2 (i64.wrap (i64.wrap y4_0-1))).bind fun r14=>
 (xh g2 r14.2 (i64.wrap (i64.wrap x6-1))).bind fun r15=>
 (xh g2 r15.2 (i64.wrap (i64.wrap x8-1))).bind fun r16=>
 (xh g2 r16.2 (i64.wrap (i64.wrap x10-1))).bind fun r17=>
 k (i64.wrap (i.1+1),r17.2)) else
 (xh g2 i.2 (i64.wrap (i64.wrap y4_0-1))).bind fun r12=>
 (xh g2 r12.2 (i64.wrap (i64.wrap x6-1))).bind fun r13=>
 (xh g2 r13.2 (i64.wrap (i64.wrap x8-1))).bind fun r14=>
 k (i64.wrap (i.1+1),r14.2)) else
 (xh g2 i.2 (i64.wrap (i64.wrap y4_0-1))).bind fun r10=>
 (xh g2 r10.2 (i64.wrap (i64.wrap x6-1))).bind fun r11=>
 k (i64.wrap (i.1+1),r11.2)) else
 (xh g2 i.2 (i64.wrap (i64.wrap y4_0-1))).bind fun r8=>
 k (i64.wrap (i.1+1),r8.2)) else
 k (i64.wrap (i.1+1),i.2))) else
 κ0 (i.2)
def vb(a0:Int)(g2:Geo)(a1 a3:Int)(κ0:Int->T β):T β:=xr xa (ZI a0 g2 κ0) (a1,a3)
theorem xbb{β γ:Type}(a0:Int)(g2:Geo)(a1 a3:Int)(κ0:Int->T β)(κ:β->T γ):(vb a0 g2 a1 a3 κ0).bind κ=vb a0 g2 a1 a3 (fun ae1=>(κ0 ae1).bind κ):=by
 unfold vb
 refine xj κ (fun i k =>?_) _ _
 unfold ZI
 simp only[bz,kG]
def Kl:Pat:=⟨xm 33 0 [(0,.c (.raw (.ptr 0 0))),(9,.c (.int .i64)),(10,.c (.int .i64))],[some ⟨[.raw (.port),.geo,.int .u64],150,false,none⟩]⟩
def xgU:Pat:=⟨xm 33 0 [],[some ⟨[.raw (.port),.geo,.int .u64],150,false,none⟩]⟩
def jp:LF:=fun st K=>match xq Kl st with
 | some [.i a0,.i a1,.g g2,.i a3]=>some (vb a0 g2 a1 a3 (fun ae1=>K (.exit 0) (xd xgU [.g g2,.i ae1])))
 | _=>none
theorem xkz : ∀st K t,jp st K=some t->xA xa (lf ka7 xa 1 .no [1,0] Tryz.f242 K) st=t:=by
 intro st K t h
 unfold jp at h
 split at h
 ·rename_i a0 a1 g2 a3 hm
  cases h
  rw[xk hm]
  unfold vb
  exact xu (S:=fun(i:Int×Int)=>xd Kl [.i a0,.i (i.1),.g g2,.i (i.2)]) (fun i k=>by kernel_rfl) xa (a1,a3)
 ·cases h
def Ya(o:Int)(κ:(Unit×Int)->T β):T β:=
 vb (g.pages) (g) (0) (o) (fun y0_0=>
 κ ((),y0_0))
def jR(o:Int):T (Unit×Int):=Ya g o .ret
theorem xgV(o:Int)(κ:(Unit×Int)->T β):(jR g o).bind κ=Ya g o κ:=by
 unfold jR Ya
 simp only[bz,xbb]
def ZJ(a0:Int)(g2:Geo)(κ0:Int->T β)(i:Int×Int)(k:Int×Int->T β):T β:=
 bif decide (i.1<a0)then(.op (.load (atF g2 8 i.1)) fun x1=>
 bif decide (ofW i64 x1 8 3>0)then(bif decide   ((bif decide (ofW i64 x1 8 3>0)then       i64.wrap (ofW i64 x1 8 3-1)     else(0:Int)) <     4)then(bif decide (0<=(btOf x1).cls/\(btOf x1).cls<4)then((xb0   {map:=ofW u8 x1 0 8,has:=decide (ofW i64 x1 8 3>0),     cls:=       bif decide (ofW i64 x1 8 3>0)then         i64.wrap (ofW i64 x1 8 3-1)       else(0:Int),     ver:=ofW u32 x1 32 32}   (bif       (bif decide (ofW i64 x1 8 3>0)then           i64.wrap (ofW i64 x1 8 3-1)         else(0:Int)) ==         0 then     8   else     bif         (bif decide (ofW i64 x1 8 3>0)then             i64.wrap (ofW i64 x1 8 3-1)           else(0:Int)) ==           0+1 then       4     else       bif           (bif decide (ofW i64 x1 8 3>0)then               i64.wrap (ofW i64 x1 8 3-1)             else(0:Int)) ==             0+1+1 then         2       else(2:Int))).bind fun r5=>
 bif r5 then((kI g2 i.1).bind fun r7=>
 bif r7 then((yJ g2 i.2 1).bind fun r9=>
 k (i64.wrap (i.1+1),r9.2)) else
 k (i64.wrap (i.1+1),i.2)) else
 k (i64.wrap (i.1+1),i.2)) else
 .fail) else
 k (i64.wrap (i.1+1),i.2)) else
 k (i64.wrap (i.1+1),i.2)) else
 κ0 (i.2)
def vc(a0:Int)(g2:Geo)(a1 a3:Int)(κ0:Int->T β):T β:=xr xa (ZJ a0 g2 κ0) (a1,a3)
theorem xbc{β γ:Type}(a0:Int)(g2:Geo)(a1 a3:Int)(κ0:Int->T β)(κ:β->T γ):(vc a0 g2 a1 a3 κ0).bind κ=vc a0 g2 a1 a3 (fun ae1=>(κ0 ae1).bind κ):=by
 unfold vc
 refine xj κ (fun i k =>?_) _ _
 unfold ZJ
 simp only[bz]
def Km:Pat:=⟨xm 57 0 [(0,.c (.raw (.ptr 0 0))),(8,.c (.int .i64)),(9,.c (.int .i64))],[some ⟨[.raw (.port),.geo,.int .u64],150,false,none⟩]⟩
def xgW:Pat:=⟨xm 57 0 [],[some ⟨[.raw (.port),.geo,.int .u64],150,false,none⟩]⟩
def jq:LF:=fun st K=>match xq Km st with
 | some [.i a0,.i a1,.g g2,.i a3]=>some (vc a0 g2 a1 a3 (fun ae1=>K (.exit 0) (xd xgW [.g g2,.i ae1])))
 | _=>none
theorem xkA : ∀st K t,jq st K=some t->xA xa (lf ka7 xa 1 .no [1,0] Tryz.f243 K) st=t:=by
 intro st K t h
 unfold jq at h
 split at h
 ·rename_i a0 a1 g2 a3 hm
  cases h
  rw[xk hm]
  unfold vc
  exact xu (S:=fun(i:Int×Int)=>xd Km [.i a0,.i (i.1),.g g2,.i (i.2)]) (fun i k=>by kernel_rfl) xa (a1,a3)
 ·cases h
def Yb(o:Int)(κ:(Unit×Int)->T β):T β:=
 vc (g.pages) (g) (0) (o) (fun y0_0=>
 κ ((),y0_0))
def jS(o:Int):T (Unit×Int):=Yb g o .ret
theorem xgX(o:Int)(κ:(Unit×Int)->T β):(jS g o).bind κ=Yb g o κ:=by
 unfold jS Yb
 simp only[bz,xbc]
def qD(o:Int)(κ:(Unit×Int)->T β):T β:=
 (tryT g).bind fun r0=>
 bif r0 then((vn g).bind fun r2=>
 (yJ g o r2).bind fun r3=>
 (ZC g).bind fun r4=>
 κ ((),(r3.2))) else
 κ ((),(o))
def jT(o:Int):T (Unit×Int):=qD g o .ret
theorem xe1(o:Int)(κ:(Unit×Int)->T β):(jT g o).bind κ=qD g o κ:=by
 unfold jT qD
 simp only[bz]
def xkB(o k a:Int)(κ:(Fnd×Int)->T β):T β:=
 (tryT g).bind fun r0=>
 bif !r0 then(κ (⟨(0),(false),(5)⟩,(o))) else
 (vn g).bind fun r2=>
 (yJ g o r2).bind fun r3=>
 (wT g k a).bind fun r4=>
 (ZC g).bind fun r5=>
 κ (⟨(i64.wrap (r4.1*8)),(r4.2),(0)⟩,(r3.2))
def xe2(o k a:Int):T (Fnd×Int):=xkB g o k a .ret
theorem xqY(o k a:Int)(κ:(Fnd×Int)->T β):(xe2 g o k a).bind κ=xkB g o k a κ:=by
 unfold xe2 xkB
 simp only[bz]
def WI(a0 a1 a4 a5 a6:Int)(g7:Geo)(κ0:Int->T β)(i:Int×Bool×Int)(k:Int×Bool×Int->T β):T β:=
 bif i.2.1 then((xh g7 i.2.2 (i64.wrap (i64.wrap i.1-1))).bind fun r1=>
 (qu g7 a0 a1).bind fun r2=>
 k (r2.1,r2.2,r1.2)) else
 κ0 (i.2.2)
def vv(a0 a1 a4 a5 a6:Int)(g7:Geo)(a2:Int)(b3:Bool)(a8:Int)(κ0:Int->T β):T β:=xr xa (WI a0 a1 a4 a5 a6 g7 κ0) (a2,b3,a8)
theorem xcG{β γ:Type}(a0 a1 a4 a5 a6:Int)(g7:Geo)(a2:Int)(b3:Bool)(a8:Int)(κ0:Int->T β)(κ:β->T γ):(vv a0 a1 a4 a5 a6 g7 a2 b3 a8 κ0).bind κ=vv a0 a1 a4 a5 a6 g7 a2 b3 a8 (fun ae5=>(κ0 ae5).bind κ):=by
 unfold vv
 refine xj κ (fun i k =>?_) _ _
 unfold WI
 simp only[bz]
def xb8:Pat:=⟨xm 52 0 [(0,.c (.raw (.ptr 0 0))),(2,.c (.int .i64)),(3,.c (.int .i64)),(4,.c (.int .u64)),(5,.c (.bool)),(10,.c (.int .i64)),(11,.c (.int .i64)),(14,.c (.int .i64))],[some ⟨[.raw (.port),.geo,.int .u64],150,false,none⟩]⟩
def qE:Pat:=⟨xm 52 0 [(0,.c (.raw (.ptr 0 0))),(2,.c (.int .i64)),(10,.c (.int .i64)),(11,.c (.int .i64)),(14,.c (.int .i64))],[some ⟨[.raw (.port),.geo,.int .u64],150,false,none⟩]⟩
def wl:LF:=fun st K=>match xq xb8 st with
 | some [.i a0,.i a1,.i a2,.b b3,.i a4,.i a5,.i a6,.g g7,.i a8]=>some (vv a0 a1 a4 a5 a6 g7 a2 b3 a8 (fun ae5=>K (.exit 4) (xd qE [.i a0,.i a4,.i a5,.i a6,.g g7,.i ae5])))
 | _=>none
theorem xnD : ∀st K t,wl st K=some t->xA xa (lf ka7 xa 1 .no [1,0,0,1,1,0,0,1,1,0,0,1,1,0,0,1,1,0] Tryz.f240 K) st=t:=by
 intro st K t h
 unfold wl at h
 split at h
 ·rename_i a0 a1 a2 b3 a4 a5 a6 g7 a8 hm
  cases h
  rw[xk hm]
  unfold vv
  exact xu (S:=fun(i:Int×Bool×Int)=>xd xb8 [.i a0,.i a1,.i (i.1),.b (i.2.1),.i a4,.i a5,.i a6,.g g7,.i (i.2.2)]) (fun i k=>by kernel_rfl) xa (a2,b3,a8)
 ·cases h
def WJ(a0 a1 a2:Int)(g4:Geo)(κ0:Int->T β)(i:Int×Int)(k:Int×Int->T β):T β:=
 bif decide (i.1<4)then((qu g4 a0 i.1).bind fun r1=>
 vv a0 (i.1) a1 a2 (i.1) g4 (r1.1) (r1.2) (i.2) (fun y2_0=>
 k (i64.wrap (i.1+1),y2_0))) else
 κ0 (i.2)
def vd(a0 a1 a2:Int)(g4:Geo)(a3 a5:Int)(κ0:Int->T β):T β:=xr xa (WJ a0 a1 a2 g4 κ0) (a3,a5)
theorem xcH{β γ:Type}(a0 a1 a2:Int)(g4:Geo)(a3 a5:Int)(κ0:Int->T β)(κ:β->T γ):(vd a0 a1 a2 g4 a3 a5 κ0).bind κ=vd a0 a1 a2 g4 a3 a5 (fun ae3=>(κ0 ae3).bind κ):=by
 unfold vd
 refine xj κ (fun i k =>?_) _ _
 unfold WJ
 simp only[bz,xcG]
def qF:Pat:=⟨xm 52 0 [(0,.c (.raw (.ptr 0 0))),(10,.c (.int .i64)),(11,.c (.int .i64))],[some ⟨[.raw (.port),.geo,.int .u64],150,false,none⟩]⟩
def kL:LF:=fun st K=>match xq qE st with
 | some [.i a0,.i a1,.i a2,.i a3,.g g4,.i a5]=>some (vd a0 a1 a2 g4 a3 a5 (fun ae3=>K (.exit 2) (xd qF [.i a1,.i a2,.g g4,.i ae3])))
 | _=>none
theorem xnE : ∀st K t,kL st K=some t->xA xa (lf ka7 xa 1 (lsAt wl .no [1,1,0,0,1,1,0]) [1,0,0,1,1,0,0,1,1,0] Tryz.f240 K) st=t:=by
 intro st K t h
 unfold kL at h
 split at h
 ·rename_i a0 a1 a2 a3 g4 a5 hm
  cases h
  rw[xk hm]
  unfold vd
  exact xu (S:=fun(i:Int×Int)=>xd qE [.i a0,.i a1,.i a2,.i (i.1),.g g4,.i (i.2)]) (fun i k=>by kernel_rfl) xa (a3,a5)
 ·cases h
def WK(a0:Int)(g2:Geo)(κ0:Int->T β)(i:Int×Int)(k:Int×Int->T β):T β:=
 bif decide (i.1<a0)then(vd (i.1) a0 (i.1) g2 (0) (i.2) (fun y1_0=>
 k (i64.wrap (i.1+1),y1_0))) else
 κ0 (i.2)
def vw(a0:Int)(g2:Geo)(a1 a3:Int)(κ0:Int->T β):T β:=xr xa (WK a0 g2 κ0) (a1,a3)
theorem xcI{β γ:Type}(a0:Int)(g2:Geo)(a1 a3:Int)(κ0:Int->T β)(κ:β->T γ):(vw a0 g2 a1 a3 κ0).bind κ=vw a0 g2 a1 a3 (fun ae1=>(κ0 ae1).bind κ):=by
 unfold vw
 refine xj κ (fun i k =>?_) _ _
 unfold WK
 simp only[bz,xcH]
def xkC:Pat:=⟨xm 52 0 [],[some ⟨[.raw (.port),.geo,.int .u64],150,false,none⟩]⟩
def qG:LF:=fun st K=>match xq qF st with
 | some [.i a0,.i a1,.g g2,.i a3]=>some (vw a0 g2 a1 a3 (fun ae1=>K (.exit 0) (xd xkC [.g g2,.i ae1])))
 | _=>none
theorem xnF : ∀st K t,qG st K=some t->xA xa (lf ka7 xa 1 (lsAt kL (lsAt wl .no [1,1,0,0,1,1,0]) [1,1,0,0,1,1,0]) [1,0] Tryz.f240 K) st=t:=by
 intro st K t h
 unfold qG at h
 split at h
 ·rename_i a0 a1 g2 a3 hm
  cases h
  rw[xk hm]
  unfold vw
  exact xu (S:=fun(i:Int×Int)=>xd qF [.i a0,.i (i.1),.g g2,.i (i.2)]) (fun i k=>by kernel_rfl) xa (a1,a3)
 ·cases h
def Kn(o:Int)(κ:(Unit×Int)->T β):T β:=
 vw (g.threads) (g) (0) (o) (fun y0_0=>
 κ ((),y0_0))
def Yc(o:Int):T (Unit×Int):=Kn g o .ret
theorem xkD(o:Int)(κ:(Unit×Int)->T β):(Yc g o).bind κ=Kn g o κ:=by
 unfold Yc Kn
 simp only[bz,xcI]
def Ko(z:Int)(κ:Unit->T β):T β:=
 (WB g 0 1 3 1 4 z).bind fun r0=>
 κ ()
def Yd(z:Int):T Unit:=Ko g z .ret
theorem xkE(z:Int)(κ:Unit->T β):(Yd g z).bind κ=Ko g z κ:=by
 unfold Yd Ko
 simp only[bz]
def Kp(z:Int)(κ:Unit->T β):T β:=
 (WB g 1 1 3 (-1) 4 (i64.wrap (0-z))).bind fun r0=>
 κ ()
def Ye(z:Int):T Unit:=Kp g z .ret
theorem xkF(z:Int)(κ:Unit->T β):(Ye g z).bind κ=Kp g z κ:=by
 unfold Ye Kp
 simp only[bz]
def Yf(κ:Unit->T β):T β:=
 (WA g 2 1).bind fun r0=>
 κ ()
def kM:T Unit:=Yf g .ret
theorem xgY(κ:Unit->T β):(kM g).bind κ=Yf g κ:=by
 unfold kM Yf
 simp only[bz]
def qH(w z:Int)(κ:Unit->T β):T β:=
 (WA g 4 (i64.wrap (z-w))).bind fun r0=>
 κ ()
def kh(w z:Int):T Unit:=qH g w z .ret
theorem xe3(w z:Int)(κ:Unit->T β):(kh g w z).bind κ=qH g w z κ:=by
 unfold kh qH
 simp only[bz]
def Kq:Sm:=fun
 | [.c .port,.agg gc],[]=>(match xv gc with
   | some g=>some (mkS (Unit) (ZH g) fun r=>some (.tup [],[]))
   | _=>none)
 | _,_=>none
theorem xnG:Good Tryz.prog (xo ka7) xa 0 (lsAt XY .no [1,1,0,1,0]) (Tryz.f126.body.getD .skip) (xt Tryz.f126.results.toList):=xz (xi (by kernel_rfl)) xy xqT
variable{σ:Type}{I:Port Tryz.prog σ}
theorem xe4(hl:SoundL I ka7):SoundF I 126 Kq:=by
 refine sq hl xa Tryz.func126 fun _ _ t ht =>?_
 unfold Kq at ht
 split at ht
 ·rename_i gc
  split at ht
  ·rename_i g hg
   obtain rfl:=xe hg
   cases ht
   refine(xE (P:= Tryz.prog) (n:=xa) (x:=(lsAt XY .no [1,1,0,1,0])) (fn:= Tryz.f126) (H :=[]) (c:= Tryz.f126.body.getD .skip) (xi (by kernel_rfl)) xnG).symm.trans ?_
   exact ey (xnz g _)
  ·cases ht
 ·cases ht
def xqZ:Sm:=fun
 | [.c .port,.agg gc],[]=>(match xv gc with
   | some g=>some (mkS (Int) (acqT g) fun r=>some (.c (.int .i64 r),[]))
   | _=>none)
 | _,_=>none
theorem xuA:Good Tryz.prog (xo ka7) xa 0 (lsAt xdk .no [1,1,0]) (Tryz.f267.body.getD .skip) (xt Tryz.f267.results.toList):=xz (xi (by kernel_rfl)) xy xwC
theorem xwD(hl:SoundL I ka7):SoundF I 267 xqZ:=by
 refine sq hl xa Tryz.func267 fun _ _ t ht =>?_
 unfold xqZ at ht
 split at ht
 ·rename_i gc
  split at ht
  ·rename_i g hg
   obtain rfl:=xe hg
   cases ht
   refine(xE (P:= Tryz.prog) (n:=xa) (x:=(lsAt xdk .no [1,1,0])) (fn:= Tryz.f267) (H :=[]) (c:= Tryz.f267.body.getD .skip) (xi (by kernel_rfl)) xuA).symm.trans ?_
   exact ey (xux g _)
  ·cases ht
 ·cases ht
def xkG:Sm:=fun
 | [.c .port,.agg gc,.c (.int .i64 n)],[]=>(match xv gc with
   | some g=>some (mkS (Unit) (xhP g n) fun r=>some (.tup [],[]))
   | _=>none)
 | _,_=>none
theorem xq0:Good Tryz.prog (xo ka7) xa 0 (lsAt Kh .no [1,1,0]) (Tryz.f284.body.getD .skip) (xt Tryz.f284.results.toList):=xz (xi (by kernel_rfl)) xy xuy
theorem xuB(hl:SoundL I ka7):SoundF I 284 xkG:=by
 refine sq hl xa Tryz.func284 fun _ _ t ht =>?_
 unfold xkG at ht
 split at ht
 ·rename_i gc n
  split at ht
  ·rename_i g hg
   obtain rfl:=xe hg
   cases ht
   refine(xE (P:= Tryz.prog) (n:=xa) (x:=(lsAt Kh .no [1,1,0])) (fn:= Tryz.f284) (H :=[]) (c:= Tryz.f284.body.getD .skip) (xi (by kernel_rfl)) xq0).symm.trans ?_
   exact ey (xqV g n _)
  ·cases ht
 ·cases ht
def xkH:Sm:=fun
 | [.c .port,.agg gc,.c (.int .i64 s),.c (.int .i64 a)],[]=>(match xv gc with
   | some g=>some (mkS (Ref) (xb6 g s a) fun r=>some (.agg r.cells,[]))
   | _=>none)
 | _,_=>none
theorem xq1:Good Tryz.prog (xo ka7) xa 0 (lsAt Ki .no [1,1,1,0]) (Tryz.f285.body.getD .skip) (xt Tryz.f285.results.toList):=xz (xi (by kernel_rfl)) xy xuz
theorem xuC(hl:SoundL I ka7):SoundF I 285 xkH:=by
 refine sq hl xa Tryz.func285 fun _ _ t ht =>?_
 unfold xkH at ht
 split at ht
 ·rename_i gc s a
  split at ht
  ·rename_i g hg
   obtain rfl:=xe hg
   cases ht
   refine(xE (P:= Tryz.prog) (n:=xa) (x:=(lsAt Ki .no [1,1,1,0])) (fn:= Tryz.f285) (H :=[]) (c:= Tryz.f285.body.getD .skip) (xi (by kernel_rfl)) xq1).symm.trans ?_
   exact ey (xqX g s a _)
  ·cases ht
 ·cases ht
def xnH:Sm:=gS fun
 | g,[.c (.int .i64 s)]=>some (mkS (Unit) (WG g s) fun r=>some (.tup [],[]))
 | _,_=>none
theorem xq2(hl:SoundL I ka7):SoundF I 287 xnH:=by
 refine gsq hl 1 Tryz.func287 fun g l t ht =>?_
 split at ht
 ·rename_i s
  cases ht
  exact ey (xnB g s _)
 ·cases ht
def xbd:Sm:=fun
 | [.c (.ptr 0 0),.c (.int .i64 c)],[some ⟨.port::gc, 150,false,none⟩]=>(match hdOf gc with
   | some (g,o)=>some (mkS ((Fnd×Int)) (XZ g o c) fun r=>some (.agg r.1.cells,[some ⟨.port::(g.cells ++ [.int .u64 r.2]), 150,false,none⟩]))
   | _=>none)
 | _,_=>none
theorem xkI:Good Tryz.prog (xo ka7) xa 1 (lsAt qC .no [1,0,1,0]) (Tryz.f226.body.getD .skip) (xt Tryz.f226.results.toList):=xz (xi (by kernel_rfl)) xy xnC
theorem xnI(hl:SoundL I ka7):SoundF I 226 xbd:=by
 refine sq hl xa Tryz.func226 fun _ _ t ht =>?_
 unfold xbd at ht
 split at ht
 ·rename_i c gc
  split at ht
  ·rename_i g o hg
   obtain rfl:=yv hg
   cases ht
   refine(xE (P:= Tryz.prog) (n:=xa) (x:=(lsAt qC .no [1,0,1,0])) (fn:= Tryz.f226) (H :=[some ⟨.port::(g.cells ++ [.int .u64 o]), 150,false,none⟩]) (c:= Tryz.f226.body.getD .skip) (xi (by kernel_rfl)) xkI).symm.trans ?_
   exact ey (xky g o c _)
  ·cases ht
 ·cases ht
def WL:Sm:=fun
 | [.c (.ptr 0 0)],[some ⟨.port::gc, 150,false,none⟩]=>(match hdOf gc with
   | some (g,o)=>some (mkS ((Unit×Int)) (jR g o) fun r=>some (.tup [],[some ⟨.port::(g.cells ++ [.int .u64 r.2]), 150,false,none⟩]))
   | _=>none)
 | _,_=>none
theorem xgZ:Good Tryz.prog (xo ka7) xa 1 (lsAt jp .no [1,0]) (Tryz.f242.body.getD .skip) (xt Tryz.f242.results.toList):=xz (xi (by kernel_rfl)) xy xkz
theorem xkJ(hl:SoundL I ka7):SoundF I 242 WL:=by
 refine sq hl xa Tryz.func242 fun _ _ t ht =>?_
 unfold WL at ht
 split at ht
 ·rename_i gc
  split at ht
  ·rename_i g o hg
   obtain rfl:=yv hg
   cases ht
   refine(xE (P:= Tryz.prog) (n:=xa) (x:=(lsAt jp .no [1,0])) (fn:= Tryz.f242) (H :=[some ⟨.port::(g.cells ++ [.int .u64 o]), 150,false,none⟩]) (c:= Tryz.f242.body.getD .skip) (xi (by kernel_rfl)) xgZ).symm.trans ?_
   exact ey (xgV g o _)
  ·cases ht
 ·cases ht
def WM:Sm:=fun
 | [.c (.ptr 0 0)],[some ⟨.port::gc, 150,false,none⟩]=>(match hdOf gc with
   | some (g,o)=>some (mkS ((Unit×Int)) (jS g o) fun r=>some (.tup [],[some ⟨.port::(g.cells ++ [.int .u64 r.2]), 150,false,none⟩]))
   | _=>none)
 | _,_=>none
theorem xg0:Good Tryz.prog (xo ka7) xa 1 (lsAt jq .no [1,0]) (Tryz.f243.body.getD .skip) (xt Tryz.f243.results.toList):=xz (xi (by kernel_rfl)) xy xkA
theorem xkK(hl:SoundL I ka7):SoundF I 243 WM:=by
 refine sq hl xa Tryz.func243 fun _ _ t ht =>?_
 unfold WM at ht
 split at ht
 ·rename_i gc
  split at ht
  ·rename_i g o hg
   obtain rfl:=yv hg
   cases ht
   refine(xE (P:= Tryz.prog) (n:=xa) (x:=(lsAt jq .no [1,0])) (fn:= Tryz.f243) (H :=[some ⟨.port::(g.cells ++ [.int .u64 o]), 150,false,none⟩]) (c:= Tryz.f243.body.getD .skip) (xi (by kernel_rfl)) xg0).symm.trans ?_
   exact ey (xgX g o _)
  ·cases ht
 ·cases ht
def ZK:Sm:=fun
 | [.c (.ptr 0 0)],[some ⟨.port::gc, 150,false,none⟩]=>(match hdOf gc with
   | some (g,o)=>some (mkS ((Unit×Int)) (jT g o) fun r=>some (.tup [],[some ⟨.port::(g.cells ++ [.int .u64 r.2]), 150,false,none⟩]))
   | _=>none)
 | _,_=>none
theorem xg1(hl:SoundL I ka7):SoundF I 87 ZK:=by
 refine sq hl 1 Tryz.func87 fun _ _ t ht =>?_
 unfold ZK at ht
 split at ht
 ·rename_i gc
  split at ht
  ·rename_i g o hg
   obtain rfl:=yv hg
   cases ht
   exact ey (xe1 g o _)
  ·cases ht
 ·cases ht
def xkL:Sm:=fun
 | [.c (.ptr 0 0),.c (.int .i64 k),.c (.int .i64 a)],[some ⟨.port::gc, 150,false,none⟩]=>(match hdOf gc with
   | some (g,o)=>some (mkS ((Fnd×Int)) (xe2 g o k a) fun r=>some (.agg r.1.cells,[some ⟨.port::(g.cells ++ [.int .u64 r.2]), 150,false,none⟩]))
   | _=>none)
 | _,_=>none
theorem xuD(hl:SoundL I ka7):SoundF I 162 xkL:=by
 refine sq hl 1 Tryz.func162 fun _ _ t ht =>?_
 unfold xkL at ht
 split at ht
 ·rename_i k a gc
  split at ht
  ·rename_i g o hg
   obtain rfl:=yv hg
   cases ht
   exact ey (xqY g o k a _)
  ·cases ht
 ·cases ht
def xbe:Sm:=fun
 | [.c (.ptr 0 0)],[some ⟨.port::gc, 150,false,none⟩]=>(match hdOf gc with
   | some (g,o)=>some (mkS ((Unit×Int)) (Yc g o) fun r=>some (.tup [],[some ⟨.port::(g.cells ++ [.int .u64 r.2]), 150,false,none⟩]))
   | _=>none)
 | _,_=>none
theorem xkM:Good Tryz.prog (xo ka7) xa 1 (lsAt qG (lsAt kL (lsAt wl .no [1,1,0,0,1,1,0]) [1,1,0,0,1,1,0]) [1,0]) (Tryz.f240.body.getD .skip) (xt Tryz.f240.results.toList):=xz (xi (by kernel_rfl)) (qV (p :=[1,0]) (q :=[1,1,0,0,1,1,0]) (xi (fn:= Tryz.f240) (by kernel_rfl)) (qV (p :=[1,0,0,1,1,0,0,1,1,0]) (q :=[1,1,0,0,1,1,0]) (xi (fn:= Tryz.f240) (by kernel_rfl)) xy xnD (by kernel_rfl)) xnE (by kernel_rfl)) xnF
theorem xnJ(hl:SoundL I ka7):SoundF I 240 xbe:=by
 refine sq hl xa Tryz.func240 fun _ _ t ht =>?_
 unfold xbe at ht
 split at ht
 ·rename_i gc
  split at ht
  ·rename_i g o hg
   obtain rfl:=yv hg
   cases ht
   refine(xE (P:= Tryz.prog) (n:=xa) (x:=(lsAt qG (lsAt kL (lsAt wl .no [1,1,0,0,1,1,0]) [1,1,0,0,1,1,0]) [1,0])) (fn:= Tryz.f240) (H :=[some ⟨.port::(g.cells ++ [.int .u64 o]), 150,false,none⟩]) (c:= Tryz.f240.body.getD .skip) (xi (by kernel_rfl)) xkM).symm.trans ?_
   exact ey (xkD g o _)
  ·cases ht
 ·cases ht
def xhR:Sm:=gS fun
 | g,[.c (.int .i64 z)]=>some (mkS (Unit) (Yd g z) fun r=>some (.tup [],[]))
 | _,_=>none
theorem xnK(hl:SoundL I ka7):SoundF I 203 xhR:=by
 refine gsq hl 1 Tryz.func203 fun g l t ht =>?_
 split at ht
 ·rename_i z
  cases ht
  exact ey (xkE g z _)
 ·cases ht
def xhS:Sm:=gS fun
 | g,[.c (.int .i64 z)]=>some (mkS (Unit) (Ye g z) fun r=>some (.tup [],[]))
 | _,_=>none
theorem xnL(hl:SoundL I ka7):SoundF I 206 xhS:=by
 refine gsq hl 1 Tryz.func206 fun g l t ht =>?_
 split at ht
 ·rename_i z
  cases ht
  exact ey (xkF g z _)
 ·cases ht
def xe5:Sm:=gS fun
 | g,[]=>some (mkS (Unit) (kM g) fun r=>some (.tup [],[]))
 | _,_=>none
theorem xkN(hl:SoundL I ka7):SoundF I 204 xe5:=by
 refine gsq hl 1 Tryz.func204 fun g l t ht =>?_
 split at ht
 ·cases ht
  exact ey (xgY g _)
 ·cases ht
def xb9:Sm:=gS fun
 | g,[.c (.int .i64 w),.c (.int .i64 z)]=>some (mkS (Unit) (kh g w z) fun r=>some (.tup [],[]))
 | _,_=>none
theorem xg2(hl:SoundL I ka7):SoundF I 205 xb9:=by
 refine gsq hl 1 Tryz.func205 fun g l t ht =>?_
 split at ht
 ·rename_i w z
  cases ht
  exact ey (xe3 g w z _)
 ·cases ht
def ka8:List (Nat×Sm):=(126,Kq)::(267,xqZ)::(284,xkG)::(285,xkH)::(287,xnH)::(226,xbd)::(242,WL)::(243,WM)::(87,ZK)::(162,xkL)::(240,xbe)::(203,xhR)::(206,xhS)::(204,xe5)::(205,xb9)::ka7
theorem s_ka8:SoundL I ka8:=(.cons (xe4 wE) (.cons (xwD wE) (.cons (xuB wE) (.cons (xuC wE) (.cons (xq2 wE) (.cons (xnI wE) (.cons (xkJ wE) (.cons (xkK wE) (.cons (xg1 wE) (.cons (xuD wE) (.cons (xnJ wE) (.cons (xnK wE) (.cons (xnL wE) (.cons (xkN wE) (.cons (xg2 wE) wE)))))))))))))))
end Lx
end Go.Proofs.YtaegelbaghaooaaGreat
