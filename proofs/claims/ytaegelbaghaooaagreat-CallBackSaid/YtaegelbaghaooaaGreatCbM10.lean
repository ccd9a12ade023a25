/- Part. -/
import Derived.Test.YtaegelbaghaooaaGreatCbM3
set_option linter.all false
open Go.IntKind (i64 u64 u32 u8)
set_option maxRecDepth 1000000
namespace Go.Proofs.YtaegelbaghaooaaGreat
namespace Lx
variable{β:Type}(g:Geo)
open Go
def xpJ(κ:Int->T β):T β:=
 .op (.self) fun x0=>
 κ (u64.wrap (u64.wrap x0+1))
def mineT  : T Int:=xpJ  .ret
theorem xpK  (κ:Int->T β):(mineT).bind κ=xpJ  κ:=by
 unfold mineT xpJ
 simp only[bz]
def xjb(k it:Int)(κ:Bool->T β):T β:=
 .op (.self) fun x0=>
 bif it==0 then(κ (false)) else
 bif decide (atF g 12 (inF (inF x0 k 4) 0 2)<0)then(κ (false)) else
 .op (.cas (atF g 12 (inF (inF x0 k 4) 0 2)) (0) (it)) fun b3=>
 bif b3 then(κ (true)) else
 .op (.self) fun x5=>
 bif it==0 then(κ (false)) else
 bif decide (atF g 12 (inF (inF x5 k 4) 1 2)<0)then(κ (false)) else
 .op (.cas (atF g 12 (inF (inF x5 k 4) 1 2)) (0) (it)) fun b8=>
 bif b8 then(κ (true)) else
 κ (false)
def xhA(k it:Int):T Bool:=xjb g k it .ret
theorem xpL(k it:Int)(κ:Bool->T β):(xhA g k it).bind κ=xjb g k it κ:=by
 unfold xhA xjb
 simp only[bz]
def xcR(t k:Int)(κ:(Int×Bool)->T β):T β:=
 bif decide (atF g 12 (inF (inF t k 4) 0 2)<0)then(κ ((0),(false))) else
 .op (.load (atF g 12 (inF (inF t k 4) 0 2))) fun x1=>
 bif x1 != 0 then(.op (.cas (atF g 12 (inF (inF t k 4) 0 2)) x1 (0)) fun b3=>
 bif b3 then(κ (x1,(true))) else
 bif decide (atF g 12 (inF (inF t k 4) 1 2)<0)then(κ ((0),(false))) else
 .op (.load (atF g 12 (inF (inF t k 4) 1 2))) fun x6=>
 bif x6 != 0 then(.op (.cas (atF g 12 (inF (inF t k 4) 1 2)) x6 (0)) fun b8=>
 bif b8 then(κ (x6,(true))) else
 κ ((0),(false))) else
 κ ((0),(false))) else
 bif decide (atF g 12 (inF (inF t k 4) 1 2)<0)then(κ ((0),(false))) else
 .op (.load (atF g 12 (inF (inF t k 4) 1 2))) fun x4=>
 bif x4 != 0 then(.op (.cas (atF g 12 (inF (inF t k 4) 1 2)) x4 (0)) fun b6=>
 bif b6 then(κ (x4,(true))) else
 κ ((0),(false))) else
 κ ((0),(false))
def qu(t k:Int):T (Int×Bool):=xcR g t k .ret
theorem xmh(t k:Int)(κ:(Int×Bool)->T β):(qu g t k).bind κ=xcR g t k κ:=by
 unfold qu xcR
 simp only[bz]
def VD(κ:Int->T β):T β:=
 .op (.self) fun x0=>
 .op (.add (atF g 6 x0) (1)) fun x1=>
 .op (.self) fun x2=>
 κ (u32.wrap (u32.wrap (u32.wrap (u32.wrap x1+1)*64)+u32.wrap x2))
def jh:T Int:=VD g .ret
theorem xjc(κ:Int->T β):(jh g).bind κ=VD g κ:=by
 unfold jh VD
 simp only[bz]
def Wl(a b v:Int)(κ:Stt->T β):T β:=
 κ ⟨(2),(b),(a),(v)⟩
def xaw(a b v:Int):T Stt:=Wl a b v .ret
theorem xd2(a b v:Int)(κ:Stt->T β):(xaw a b v).bind κ=Wl a b v κ:=by
 unfold xaw Wl
 simp only[bz]
def xjd(p:Int)(κ:Pg->T β):T β:=
 .op (.load (atF g 7 p)) fun x0=>
 κ ⟨((pgOf x0).kind),((pgOf x0).len),((pgOf x0).cls),((pgOf x0).owner)⟩
def YT(p:Int):T Pg:=xjd g p .ret
theorem xpM(p:Int)(κ:Pg->T β):(YT g p).bind κ=xjd g p κ:=by
 unfold YT xjd
 simp only[bz]
def xje(p k n:Int)(κ:Unit->T β):T β:=
 .op (.store (atF g 7 p) ((Pg.mk k n 0 0).word)) fun _=>
 κ ()
def ji(p k n:Int):T Unit:=xje g p k n .ret
theorem xpN(p k n:Int)(κ:Unit->T β):(ji g p k n).bind κ=xje g p k n κ:=by
 unfold ji xje
 simp only[bz]
def xjf(p:Int)(κ:Bt->T β):T β:=
 .op (.load (atF g 8 p)) fun x0=>
 κ ⟨((btOf x0).map),((btOf x0).has),((btOf x0).cls),((btOf x0).ver)⟩
def YU(p:Int):T Bt:=xjf g p .ret
theorem xpO(p:Int)(κ:Bt->T β):(YU g p).bind κ=xjf g p κ:=by
 unfold YU xjf
 simp only[bz]
def xcS(p:Int)(was:Bt)(now:Bt)(κ:Bool->T β):T β:=
 .op (.cas (atF g 8 p) ((Bt.mk was.map was.has was.cls was.ver).word) ((Bt.mk now.map now.has now.cls now.ver).word)) fun b0=>
 κ b0
def Zz(p:Int)(was:Bt)(now:Bt):T Bool:=xcS g p was now .ret
theorem xmi(p:Int)(was:Bt)(now:Bt)(κ:Bool->T β):(Zz g p was now).bind κ=xcS g p was now κ:=by
 unfold Zz xcS
 simp only[bz]
def xjg(κ:Bool->T β):T β:=
 κ (g.pages==0)
def xpP:T Bool:=xjg g .ret
theorem xmj(κ:Bool->T β):(xpP g).bind κ=xjg g κ:=by
 unfold xpP xjg
 simp only[bz]
def xcT(κ:Bool->T β):T β:=
 .op (.self) fun x0=>
 κ (atF g 15 x0 == -1)
def jC:T Bool:=xcT g .ret
theorem xmk(κ:Bool->T β):(jC g).bind κ=xcT g κ:=by
 unfold jC xcT
 simp only[bz]
def xcU(c:Int)(κ:Bool->T β):T β:=
 .op (.self) fun x0=>
 κ (atF g 13 (inF x0 c 4) == -1)
def ZA(c:Int):T Bool:=xcU g c .ret
theorem xml(c:Int)(κ:Bool->T β):(ZA g c).bind κ=xcU g c κ:=by
 unfold ZA xcU
 simp only[bz]
def xd3(it:Int)(κ:Int->T β):T β:=
 κ (i64.wrap (i64.wrap it-1))
def xjh(it:Int):T Int:=xd3 it .ret
theorem xji(it:Int)(κ:Int->T β):(xjh it).bind κ=xd3 it κ:=by
 unfold xjh xd3
 simp only[bz]
def xd4(s:Int)(κ:Int->T β):T β:=
 bif decide (s<1)then(κ (0)) else
 κ (i64.wrap (i64.wrap ((i64.wrap (s-1)).tdiv 64)+1))
def xjj(s:Int):T Int:=xd4 s .ret
theorem xjk(s:Int)(κ:Int->T β):(xjj s).bind κ=xd4 s κ:=by
 unfold xjj xd4
 simp only[bz]
def xd5(s:Int)(κ:Bool->T β):T β:=
 bif decide (s>0)then(κ (bits BinOp.and i64 s (i64.wrap (s-1))==0)) else
 κ (false)
def VE(s:Int):T Bool:=xd5 s .ret
theorem xjl(s:Int)(κ:Bool->T β):(VE s).bind κ=xd5 s κ:=by
 unfold VE xd5
 simp only[bz]
def VF(s:Int)(κ:Bool->T β):T β:=
 bif decide (s>0)then(κ (bits BinOp.and i64 s (i64.wrap (s-1))==0)) else
 κ (false)
def XC(s:Int):T Bool:=VF s .ret
theorem xjm(s:Int)(κ:Bool->T β):(XC s).bind κ=VF s κ:=by
 unfold XC VF
 simp only[bz]
def xjn(w:Pg)(k:Int)(κ:Bool->T β):T β:=
 bif w.len==k then(bif w.kind==4 then(κ (true)) else
 bif w.kind==5 then(κ (true)) else
 κ (w.kind==3)) else
 κ (false)
def xhB(w:Pg)(k:Int):T Bool:=xjn w k .ret
theorem xpQ(w:Pg)(k:Int)(κ:Bool->T β):(xhB w k).bind κ=xjn w k κ:=by
 unfold xhB xjn
 simp only[bz]
def xax(w:Pg)(κ:Int->T β):T β:=
 bif w.kind==0 then(κ (1)) else
 bif w.kind==2 then(κ (1)) else
 κ (if w.len<1 then 1 else w.len)
def vM(w:Pg):T Int:=xax w .ret
theorem xpR(w:Pg)(κ:Int->T β):(vM w).bind κ=xax w κ:=by
 unfold vM xax
 simp only[bz]
def xcV(nd it:Int)(κ:Bool->T β):T β:=
 .op (.load (atF g 18 (inF (i64.wrap (nd-1)) 0 8))) fun x0=>
 bif x0==0 then(.op (.store (atF g 18 (inF (i64.wrap (nd-1)) 0 8)) (it)) fun _=>
 κ (true)) else
 .op (.load (atF g 18 (inF (i64.wrap (nd-1)) 1 8))) fun x2=>
 bif x2==0 then(.op (.store (atF g 18 (inF (i64.wrap (nd-1)) 1 8)) (it)) fun _=>
 κ (true)) else
 .op (.load (atF g 18 (inF (i64.wrap (nd-1)) 2 8))) fun x4=>
 bif x4==0 then(.op (.store (atF g 18 (inF (i64.wrap (nd-1)) 2 8)) (it)) fun _=>
 κ (true)) else
 .op (.load (atF g 18 (inF (i64.wrap (nd-1)) 3 8))) fun x6=>
 bif x6==0 then(.op (.store (atF g 18 (inF (i64.wrap (nd-1)) 3 8)) (it)) fun _=>
 κ (true)) else
 .op (.load (atF g 18 (inF (i64.wrap (nd-1)) 4 8))) fun x8=>
 bif x8==0 then(.op (.store (atF g 18 (inF (i64.wrap (nd-1)) 4 8)) (it)) fun _=>
 κ (true)) else
 .op (.load (atF g 18 (inF (i64.wrap (nd-1)) 5 8))) fun x10=>
 bif x10==0 then(.op (.store (atF g 18 (inF (i64.wrap (nd-1)) 5 8)) (it)) fun _=>
 κ (true)) else
 .op (.load (atF g 18 (inF (i64.wrap (nd-1)) 6 8))) fun x12=>
 bif x12==0 then(.op (.store (atF g 18 (inF (i64.wrap (nd-1)) 6 8)) (it)) fun _=>
 κ (true)) else
 .op (.load (atF g 18 (inF (i64.wrap (nd-1)) 7 8))) fun x14=>
 bif x14==0 then(.op (.store (atF g 18 (inF (i64.wrap (nd-1)) 7 8)) (it)) fun _=>
 κ (true)) else
 κ (false)
def Wm(nd it:Int):T Bool:=xcV g nd it .ret
theorem xmm(nd it:Int)(κ:Bool->T β):(Wm g nd it).bind κ=xcV g nd it κ:=by
 unfold Wm xcV
 simp only[bz]
def xjo(nd:Int)(κ:Bool->T β):T β:=
 .op (.load (atF g 18 (inF (i64.wrap (nd-1)) 0 8))) fun x0=>
 bif x0 != 0 then(κ (false)) else
 .op (.load (atF g 18 (inF (i64.wrap (nd-1)) 1 8))) fun x2=>
 bif x2 != 0 then(κ (false)) else
 .op (.load (atF g 18 (inF (i64.wrap (nd-1)) 2 8))) fun x4=>
 bif x4 != 0 then(κ (false)) else
 .op (.load (atF g 18 (inF (i64.wrap (nd-1)) 3 8))) fun x6=>
 bif x6 != 0 then(κ (false)) else
 .op (.load (atF g 18 (inF (i64.wrap (nd-1)) 4 8))) fun x8=>
 bif x8 != 0 then(κ (false)) else
 .op (.load (atF g 18 (inF (i64.wrap (nd-1)) 5 8))) fun x10=>
 bif x10 != 0 then(κ (false)) else
 .op (.load (atF g 18 (inF (i64.wrap (nd-1)) 6 8))) fun x12=>
 bif x12 != 0 then(κ (false)) else
 .op (.load (atF g 18 (inF (i64.wrap (nd-1)) 7 8))) fun x14=>
 bif x14 != 0 then(κ (false)) else
 κ (true)
def xhC(nd:Int):T Bool:=xjo g nd .ret
theorem xpS(nd:Int)(κ:Bool->T β):(xhC g nd).bind κ=xjo g nd κ:=by
 unfold xhC xjo
 simp only[bz]
def xjp(a s:Int)(κ:Int->T β):T β:=
 bif decide (s<1)then(κ (11)) else
 bif decide (s>i64.wrap (g.pages*64))then(κ (11)) else
 bif decide (a<0)then(κ (13)) else
 bif decide (a>=i64.wrap (g.pages*64))then(κ (13)) else
 bif a.tmod 8 != 0 then(κ (13)) else
 κ (0)
def xpT(a s:Int):T Int:=xjp g a s .ret
theorem xmn(a s:Int)(κ:Int->T β):(xpT g a s).bind κ=xjp g a s κ:=by
 unfold xpT xjp
 simp only[bz]
def xjq:Sm:=fun
 | [.c .port],[]=>some (mkS (Int) (mineT) fun r=>some (.c (.int .u64 r),[]))
 | _,_=>none
variable{σ:Type}{I:Port Tryz.prog σ}
theorem xt4(hl:SoundL I ka0):SoundF I 233 xjq:=by
 refine sq hl 1 Tryz.func233 fun _ _ t ht =>?_
 unfold xjq at ht
 split at ht
 ·skip
  cases ht
  exact ey (xpK  _)
 ·cases ht
def xsZ:Sm:=gS fun
 | g,[.c (.int .i64 k),.c (.int .u64 it)]=>some (mkS (Bool) (xhA g k it) fun r=>some (.c (.bool r),[]))
 | _,_=>none
theorem xt5(hl:SoundL I ka0):SoundF I 89 xsZ:=by
 refine gsq hl 5 Tryz.func89 fun g l t ht =>?_
 split at ht
 ·rename_i k it
  cases ht
  exact ey (xpL g k it _)
 ·cases ht
def xmo:Sm:=gS fun
 | g,[.c (.int .i64 t),.c (.int .i64 k)]=>some (mkS ((Int×Bool)) (qu g t k) fun r=>some (.tup [.c (.int .u64 r.1),.c (.bool r.2)],[]))
 | _,_=>none
theorem xpU(hl:SoundL I ka0):SoundF I 253 xmo:=by
 refine gsq hl 5 Tryz.func253 fun g l t ht =>?_
 split at ht
 ·rename_i t k
  cases ht
  exact ey (xmh g t k _)
 ·cases ht
def xhD:Sm:=gS fun
 | g,[]=>some (mkS (Int) (jh g) fun r=>some (.c (.int .u32 r),[]))
 | _,_=>none
theorem xmp(hl:SoundL I ka0):SoundF I 230 xhD:=by
 refine gsq hl 1 Tryz.func230 fun g l t ht =>?_
 split at ht
 ·cases ht
  exact ey (xjc g _)
 ·cases ht
def ZB:Sm:=fun
 | [.c (.int .i64 a),.c (.int .i64 b),.c (.int .u32 v)],[]=>some (mkS (Stt) (xaw a b v) fun r=>some (.agg r.cells,[]))
 | _,_=>none
theorem xgA(hl:SoundL I ka0):SoundF I 250 ZB:=by
 refine sq hl 1 Tryz.func250 fun _ _ t ht =>?_
 unfold ZB at ht
 split at ht
 ·rename_i a b v
  cases ht
  exact ey (xd2 a b v _)
 ·cases ht
def xjr:Sm:=fun
 | [.agg (.port::gc),.c (.int .i64 p)],[]=>(match xv gc with
   | some g=>some (mkS (Pg) (YT g p) fun r=>some (.agg r.cells,[]))
   | _=>none)
 | _,_=>none
theorem xt6(hl:SoundL I ka0):SoundF I 234 xjr:=by
 refine sq hl 1 Tryz.func234 fun _ _ t ht =>?_
 unfold xjr at ht
 split at ht
 ·rename_i gc p
  split at ht
  ·rename_i g hg
   obtain rfl:=xe hg
   cases ht
   exact ey (xpM g p _)
  ·cases ht
 ·cases ht
def xjs:Sm:=fun
 | [.agg (.port::gc),.c (.int .i64 p),.c (.int .i64 k),.c (.int .i64 n)],[]=>(match xv gc with
   | some g=>some (mkS (Unit) (ji g p k n) fun r=>some (.tup [],[]))
   | _=>none)
 | _,_=>none
theorem xt7(hl:SoundL I ka0):SoundF I 222 xjs:=by
 refine sq hl 1 Tryz.func222 fun _ _ t ht =>?_
 unfold xjs at ht
 split at ht
 ·rename_i gc p k n
  split at ht
  ·rename_i g hg
   obtain rfl:=xe hg
   cases ht
   exact ey (xpN g p k n _)
  ·cases ht
 ·cases ht
def xjt:Sm:=fun
 | [.agg (.port::gc)],[]=>(match shOf gc with
   | some (g,p)=>some (mkS (Bt) (YU g p) fun r=>some (.agg r.cells,[]))
   | _=>none)
 | _,_=>none
theorem xt8(hl:SoundL I ka0):SoundF I 176 xjt:=by
 refine sq hl 1 Tryz.func176 fun _ _ t ht =>?_
 unfold xjt at ht
 split at ht
 ·rename_i gc
  split at ht
  ·rename_i g p hg
   obtain rfl:=xdD hg
   cases ht
   exact ey (xpO g p _)
  ·cases ht
 ·cases ht
def xd6:Sm:=fun
 | [.agg (.port::gc),.agg wasc,.agg nowc],[]=>(match shOf gc with
   | some (g,p)=>(match Bt.of wasc with
   | some was=>(match Bt.of nowc with
   | some now=>some (mkS (Bool) (Zz g p was now) fun r=>some (.c (.bool r),[]))
   | _=>none)
   | _=>none)
   | _=>none)
 | _,_=>none
theorem xpV(hl:SoundL I ka0):SoundF I 178 xd6:=by
 refine sq hl 1 Tryz.func178 fun _ _ t ht =>?_
 unfold xd6 at ht
 split at ht
 ·rename_i gc wasc nowc
  split at ht
  ·rename_i g p hg
   obtain rfl:=xdD hg
   split at ht
   ·rename_i was hwas
    obtain rfl:=Bt.of_eq hwas
    split at ht
    ·rename_i now hnow
     obtain rfl:=Bt.of_eq hnow
     cases ht
     exact ey (xmi g p was now _)
    ·cases ht
   ·cases ht
  ·cases ht
 ·cases ht
def xmq:Sm:=gS fun
 | g,[]=>some (mkS (Bool) (xpP g) fun r=>some (.c (.bool r),[]))
 | _,_=>none
theorem xpW(hl:SoundL I ka0):SoundF I 73 xmq:=by
 refine gsq hl 1 Tryz.func73 fun g l t ht =>?_
 split at ht
 ·cases ht
  exact ey (xmj g _)
 ·cases ht
def xmr:Sm:=gS fun
 | g,[]=>some (mkS (Bool) (jC g) fun r=>some (.c (.bool r),[]))
 | _,_=>none
theorem xpX(hl:SoundL I ka0):SoundF I 83 xmr:=by
 refine gsq hl 1 Tryz.func83 fun g l t ht =>?_
 split at ht
 ·cases ht
  exact ey (xmk g _)
 ·cases ht
def xms:Sm:=gS fun
 | g,[.c (.int .i64 c)]=>some (mkS (Bool) (ZA g c) fun r=>some (.c (.bool r),[]))
 | _,_=>none
theorem xpY(hl:SoundL I ka0):SoundF I 173 xms:=by
 refine gsq hl 1 Tryz.func173 fun g l t ht =>?_
 split at ht
 ·rename_i c
  cases ht
  exact ey (xml g c _)
 ·cases ht
def xay:Sm:=fun
 | [.c (.int .u64 it)],[]=>some (mkS (Int) (xjh it) fun r=>some (.c (.int .i64 r),[]))
 | _,_=>none
theorem xmt(hl:SoundL I ka0):SoundF I 214 xay:=by
 refine sq hl 1 Tryz.func214 fun _ _ t ht =>?_
 unfold xay at ht
 split at ht
 ·rename_i it
  cases ht
  exact ey (xji it _)
 ·cases ht
def xaz:Sm:=fun
 | [.c (.int .i64 s)],[]=>some (mkS (Int) (xjj s) fun r=>some (.c (.int .i64 r),[]))
 | _,_=>none
theorem xmu(hl:SoundL I ka0):SoundF I 78 xaz:=by
 refine sq hl 1 Tryz.func78 fun _ _ t ht =>?_
 unfold xaz at ht
 split at ht
 ·rename_i s
  cases ht
  exact ey (xjk s _)
 ·cases ht
def xaA:Sm:=fun
 | [.c (.int .i64 s)],[]=>some (mkS (Bool) (VE s) fun r=>some (.c (.bool r),[]))
 | _,_=>none
theorem xmv(hl:SoundL I ka0):SoundF I 153 xaA:=by
 refine sq hl 1 Tryz.func153 fun _ _ t ht =>?_
 unfold xaA at ht
 split at ht
 ·rename_i s
  cases ht
  exact ey (xjl s _)
 ·cases ht
def xaB:Sm:=fun
 | [.c (.int .i64 s)],[]=>some (mkS (Bool) (XC s) fun r=>some (.c (.bool r),[]))
 | _,_=>none
theorem xmw(hl:SoundL I ka0):SoundF I 74 xaB:=by
 refine sq hl 1 Tryz.func74 fun _ _ t ht =>?_
 unfold xaB at ht
 split at ht
 ·rename_i s
  cases ht
  exact ey (xjm s _)
 ·cases ht
def xju:Sm:=fun
 | [.agg wc,.c (.int .i64 k)],[]=>(match Pg.of wc with
   | some w=>some (mkS (Bool) (xhB w k) fun r=>some (.c (.bool r),[]))
   | _=>none)
 | _,_=>none
theorem xt9(hl:SoundL I ka0):SoundF I 264 xju:=by
 refine sq hl 1 Tryz.func264 fun _ _ t ht =>?_
 unfold xju at ht
 split at ht
 ·rename_i wc k
  split at ht
  ·rename_i w hw
   obtain rfl:=Pg.of_eq hw
   cases ht
   exact ey (xpQ w k _)
  ·cases ht
 ·cases ht
def xjv:Sm:=fun
 | [.agg wc],[]=>(match Pg.of wc with
   | some w=>some (mkS (Int) (vM w) fun r=>some (.c (.int .i64 r),[]))
   | _=>none)
 | _,_=>none
theorem xua(hl:SoundL I ka0):SoundF I 236 xjv:=by
 refine sq hl 1 Tryz.func236 fun _ _ t ht =>?_
 unfold xjv at ht
 split at ht
 ·rename_i wc
  split at ht
  ·rename_i w hw
   obtain rfl:=Pg.of_eq hw
   cases ht
   exact ey (xpR w _)
  ·cases ht
 ·cases ht
def xmx:Sm:=gS fun
 | g,[.c (.int .i64 nd),.c (.int .u64 it)]=>some (mkS (Bool) (Wm g nd it) fun r=>some (.c (.bool r),[]))
 | _,_=>none
theorem xpZ(hl:SoundL I ka0):SoundF I 237 xmx:=by
 refine gsq hl 10 Tryz.func237 fun g l t ht =>?_
 split at ht
 ·rename_i nd it
  cases ht
  exact ey (xmm g nd it _)
 ·cases ht
def xs0:Sm:=gS fun
 | g,[.c (.int .i64 nd)]=>some (mkS (Bool) (xhC g nd) fun r=>some (.c (.bool r),[]))
 | _,_=>none
theorem xub(hl:SoundL I ka0):SoundF I 254 xs0:=by
 refine gsq hl 10 Tryz.func254 fun g l t ht =>?_
 split at ht
 ·rename_i nd
  cases ht
  exact ey (xpS g nd _)
 ·cases ht
def xd7:Sm:=fun
 | [.agg gc,.c (.int .i64 a),.c (.int .i64 s)],[]=>(match xv gc with
   | some g=>some (mkS (Int) (xpT g a s) fun r=>some (.c (.int .i64 r),[]))
   | _=>none)
 | _,_=>none
theorem xp0(hl:SoundL I ka0):SoundF I 113 xd7:=by
 refine sq hl 1 Tryz.func113 fun _ _ t ht =>?_
 unfold xd7 at ht
 split at ht
 ·rename_i gc a s
  split at ht
  ·rename_i g hg
   obtain rfl:=xe hg
   cases ht
   exact ey (xmn g a s _)
  ·cases ht
 ·cases ht
def ka1:List (Nat×Sm):=(233,xjq)::(89,xsZ)::(253,xmo)::(230,xhD)::(250,ZB)::(234,xjr)::(222,xjs)::(176,xjt)::(178,xd6)::(73,xmq)::(83,xmr)::(173,xms)::(214,xay)::(78,xaz)::(153,xaA)::(74,xaB)::(264,xju)::(236,xjv)::(237,xmx)::(254,xs0)::(113,xd7)::ka0
theorem YV:SoundL I ka1:=(.cons (xt4 vk) (.cons (xt5 vk) (.cons (xpU vk) (.cons (xmp vk) (.cons (xgA vk) (.cons (xt6 vk) (.cons (xt7 vk) (.cons (xt8 vk) (.cons (xpV vk) (.cons (xpW vk) (.cons (xpX vk) (.cons (xpY vk) (.cons (xmt vk) (.cons (xmu vk) (.cons (xmv vk) (.cons (xmw vk) (.cons (xt9 vk) (.cons (xua vk) (.cons (xpZ vk) (.cons (xub vk) (.cons (xp0 vk) vk)))))))))))))))))))))
end Lx
namespace Lx
variable{β:Type}(g:Geo)
open Go
structure Seen where
 (kind size other ver:Int) (live:Bool) (lin:Int)
def Seen.cells(r:Seen):List C :=[.int .i64 r.kind,.int .i64 r.size,.int .i64 r.other,.int .u32 r.ver,.bool r.live,.int .i64 r.lin]
def Seen.of:List C->Option Seen
 | [.int .i64 a,.int .i64 b,.int .i64 c,.int .u32 d,.bool e,.int .i64 f]=>some ⟨a,b,c,d,e,f⟩
 | _=>none
theorem Seen.of_eq{l:List C}{r:Seen}(h:Seen.of l=some r):l=r.cells:=by
 unfold Seen.of at h;split at h<;>cases h;rfl
def xs1(κ:Bool->T β):T β:=
 .op (.self) fun x0=>
 .op (.cas (atF g 0 0) (0) (u64.wrap (u64.wrap x0+1))) fun b1=>
 bif b1 then(κ (true)) else
 .op (.self) fun x3=>
 .op (.cas (atF g 0 0) (0) (u64.wrap (u64.wrap x3+1))) fun b4=>
 bif b4 then(κ (true)) else
 .op (.self) fun x6=>
 .op (.cas (atF g 0 0) (0) (u64.wrap (u64.wrap x6+1))) fun b7=>
 bif b7 then(κ (true)) else
 κ (false)
def tryT:T Bool:=xs1 g .ret
theorem xuc(κ:Bool->T β):(tryT g).bind κ=xs1 g κ:=by
 unfold tryT xs1
 simp only[bz]
def xjw(κ:Bool->T β):T β:=
 .op (.self) fun x0=>
 .op (.cas (atF g 0 0) (u64.wrap (u64.wrap x0+1)) (0)) fun b1=>
 κ b1
def ZC:T Bool:=xjw g .ret
theorem xp1(κ:Bool->T β):(ZC g).bind κ=xjw g κ:=by
 unfold ZC xjw
 simp only[bz]
def VG(k:Int)(κ:(Int×Bool)->T β):T β:=
 .op (.self) fun x0=>
 (qu g x0 k).bind fun r1=>
 κ ((r1.1),(r1.2))
def jD(k:Int):T (Int×Bool):=VG g k .ret
theorem xmy(k:Int)(κ:(Int×Bool)->T β):(jD g k).bind κ=VG g k κ:=by
 unfold jD VG
 simp only[bz]
def VH(k:Int)(κ:Bool->T β):T β:=
 .op (.self) fun x0=>
 bif atF g 6 x0 == -1 then(κ (true)) else
 bif atF g 11 k == -1 then(κ (true)) else
 κ (false)
def wS(k:Int):T Bool:=VH g k .ret
theorem xjx(k:Int)(κ:Bool->T β):(wS g k).bind κ=VH g k κ:=by
 unfold wS VH
 simp only[bz]
def VI(k j:Int)(κ:Bool->T β):T β:=
 .op (.self) fun x0=>
 bif atF g 6 x0 == -1 then(κ (true)) else
 bif atF g 11 k == -1 then(κ (true)) else
 bif atF g 11 j == -1 then(κ (true)) else
 κ (false)
def jj(k j:Int):T Bool:=VI g k j .ret
theorem xjy(k j:Int)(κ:Bool->T β):(jj g k j).bind κ=VI g k j κ:=by
 unfold jj VI
 simp only[bz]
def xd8(x k:Int)(κ:Int->T β):T β:=
 bif x==k then(κ (0)) else
 κ (-1)
def xjz(x k:Int):T Int:=xd8 x k .ret
theorem xjA(x k:Int)(κ:Int->T β):(xjz x k).bind κ=xd8 x k κ:=by
 unfold xjz xd8
 simp only[bz]
def xd9(k was:Int)(κ:(Seen×Bool)->T β):T β:=
 .op (.load (atF g 11 (wd was).other)) fun x0=>
 .op (.steps) fun x1=>
 bif (wd x0).kind==3 then(bif (wd x0).other==k then(bif (wd x0).ver==(wd was).ver then(.op (.cas (atF g 11 k) (was) ((Stt.mk 1 (wd was).size 0 (wd was).ver).word)) fun b5=>
 κ (⟨(0),(0),(0),(0),(false),(0)⟩,(false))) else
 .op (.load (atF g 11 k)) fun x5=>
 κ (⟨(0),(0),(0),(0),(false),(x1)⟩,(x5==was))) else
 .op (.load (atF g 11 k)) fun x4=>
 κ (⟨(0),(0),(0),(0),(false),(x1)⟩,(x4==was))) else
 .op (.load (atF g 11 k)) fun x3=>
 κ (⟨(0),(0),(0),(0),(false),(x1)⟩,(x3==was))
def xcW(k was:Int):T (Seen×Bool):=xd9 g k was .ret
theorem xjB(k was:Int)(κ:(Seen×Bool)->T β):(xcW g k was).bind κ=xd9 g k was κ:=by
 unfold xcW xd9
 simp only[bz]
def isTK(p k:Int)(κ:Bool->T β):T β:=
 bif decide (p>=0)then(bif decide (p<g.pages)then(bif decide (k>=0)then(κ (decide (k<4))) else
 κ (false)) else
 κ (false)) else
 κ (false)
def isT(p k:Int):T Bool:=isTK g p k .ret
theorem xwt(p k:Int)(κ:Bool->T β):(isT g p k).bind κ=isTK g p k κ:=by
 unfold isT isTK
 simp only[bz]
def xaC(it:Int)(κ:Int->T β):T β:=
 κ (i64.wrap (i64.wrap it-1))
def xea(it:Int):T Int:=xaC it .ret
theorem xgB(it:Int)(κ:Int->T β):(xea it).bind κ=xaC it κ:=by
 unfold xea xaC
 simp only[bz]
def xwu:Sm:=gS fun
 | g,[]=>some (mkS (Bool) (tryT g) fun r=>some (.c (.bool r),[]))
 | _,_=>none
variable{σ:Type}{I:Port Tryz.prog σ}
theorem xwv(hl:SoundL I ka1):SoundF I 169 xwu:=by
 refine gsq hl 5 Tryz.func169 fun g l t ht =>?_
 split at ht
 ·cases ht
  exact ey (xuc g _)
 ·cases ht
def xs3:Sm:=gS fun
 | g,[]=>some (mkS (Bool) (ZC g) fun r=>some (.c (.bool r),[]))
 | _,_=>none
theorem xud(hl:SoundL I ka1):SoundF I 171 xs3:=by
 refine gsq hl 1 Tryz.func171 fun g l t ht =>?_
 split at ht
 ·cases ht
  exact ey (xp1 g _)
 ·cases ht
def xmz:Sm:=gS fun
 | g,[.c (.int .i64 k)]=>some (mkS ((Int×Bool)) (jD g k) fun r=>some (.tup [.c (.int .u64 r.1),.c (.bool r.2)],[]))
 | _,_=>none
theorem xp2(hl:SoundL I ka1):SoundF I 212 xmz:=by
 refine gsq hl 1 Tryz.func212 fun g l t ht =>?_
 split at ht
 ·rename_i k
  cases ht
  exact ey (xmy g k _)
 ·cases ht
def xaD:Sm:=fun
 | [.c .port,.agg gc,.c (.sl 0 0 1 1)],[some ⟨[.int .i64 k],3,false,none⟩]=>(match xv gc with
   | some g=>some (mkS Bool (wS g k) fun r=>some (.c (.bool r),[some ⟨[.int .i64 k],3,false,none⟩]))
   | _=>none)
 | _,_=>none
theorem xmA(hl:SoundL I ka1):SoundF I 190 xaD:=by
 refine sq hl 5 Tryz.func190 fun _ _ t ht =>?_
 unfold xaD at ht
 split at ht
 ·rename_i gc k
  split at ht
  ·rename_i g hg
   obtain rfl:=xe hg
   cases ht
   exact ey (xjx g k _)
  ·cases ht
 ·cases ht
def xaE:Sm:=fun
 | [.c .port,.agg gc,.c (.sl 0 0 2 2)],[some ⟨[.int .i64 k,.int .i64 j],3,false,none⟩]=>(match xv gc with
   | some g=>some (mkS Bool (jj g k j) fun r=>some (.c (.bool r),[some ⟨[.int .i64 k,.int .i64 j],3,false,none⟩]))
   | _=>none)
 | _,_=>none
theorem xmB(hl:SoundL I ka1):SoundF I 190 xaE:=by
 refine sq hl 5 Tryz.func190 fun _ _ t ht =>?_
 unfold xaE at ht
 split at ht
 ·rename_i gc k j
  split at ht
  ·rename_i g hg
   obtain rfl:=xe hg
   cases ht
   exact ey (xjy g k j _)
  ·cases ht
 ·cases ht
def xaF:Sm:=fun
 | [.c (.sl 0 0 1 1),.c (.int .i64 x)],[some ⟨[.int .i64 k],3,false,none⟩]=>some (mkS Int (xjz x k) fun r=>some (.c (.int .i64 r),[some ⟨[.int .i64 k],3,false,none⟩]))
 | _,_=>none
theorem xmC(hl:SoundL I ka1):SoundF I 271 xaF:=by
 refine sq hl 5 Tryz.func271 fun _ _ t ht =>?_
 unfold xaF at ht
 split at ht
 ·rename_i x k
  cases ht
  exact ey (xjA x k _)
 ·cases ht
def xhE:Sm:=gS fun
 | g,[.c (.int .i64 k),.c (.int .u64 was)]=>some (mkS ((Seen×Bool)) (xcW g k was) fun r=>some (.tup [.agg r.1.cells,.c (.bool r.2)],[]))
 | _,_=>none
theorem xmD(hl:SoundL I ka1):SoundF I 192 xhE:=by
 refine gsq hl 1 Tryz.func192 fun g l t ht =>?_
 split at ht
 ·rename_i k was
  cases ht
  exact ey (xjB g k was _)
 ·cases ht
def m_isT:Sm:=fun
 | [.agg (.port::gc),.c (.int .i64 k)],[]=>(match shOf gc with
   | some (g,p)=>some (mkS (Bool) (isT g p k) fun r=>some (.c (.bool r),[]))
   | _=>none)
 | _,_=>none
theorem s_m_isT(hl:SoundL I ka1):SoundF I 277 m_isT:=by
 refine sq hl 1 Tryz.func277 fun _ _ t ht =>?_
 unfold m_isT at ht
 split at ht
 ·rename_i gc k
  split at ht
  ·rename_i g p hg
   obtain rfl:=xdD hg
   cases ht
   exact ey (xwt g p k _)
  ·cases ht
 ·cases ht
def Wn:Sm:=fun
 | [.c (.int .u64 it)],[]=>some (mkS (Int) (xea it) fun r=>some (.c (.int .i64 r),[]))
 | _,_=>none
theorem xjC(hl:SoundL I ka1):SoundF I 214 Wn:=by
 refine sq hl 1 Tryz.func214 fun _ _ t ht =>?_
 unfold Wn at ht
 split at ht
 ·rename_i it
  cases ht
  exact ey (xgB it _)
 ·cases ht
def ka2:List (Nat×Sm):=(169,xwu)::(171,xs3)::(212,xmz)::(190,(orSm xaD xaE))::(271,xaF)::(192,xhE)::(277,m_isT)::(214,Wn)::ka1
theorem vm:SoundL I ka2:=(.cons (xwv YV) (.cons (xud YV) (.cons (xp2 YV) (.cons (SoundF.or (xmA YV) (xmB YV)) (.cons (xmC YV) (.cons (xmD YV) (.cons (s_m_isT YV) (.cons (xjC YV) YV))))))))
end Lx
namespace Lx
variable{β:Type}(g:Geo)
open Go
def xs4(n:Int)(κ:Int->T β):T β:=
 (yr (decide (0<=u64.wrap n)&&decide (u64.wrap n<=18446744073709551615))).bind fun r0=>
 κ (i64.wrap (↑(Lib.bitLen (Int.toNat (u64.wrap n)))-1))
def logT(n:Int):T Int:=xs4 n .ret
theorem xue(n:Int)(κ:Int->T β):(logT n).bind κ=xs4 n κ:=by
 unfold logT xs4
 simp only[bz]
def xcX(p:Int)(κ:Int->T β):T β:=
 bif p==0 then(κ (0)) else
 (YT g (i64.wrap (p-1))).bind fun r1=>
 bif r1.kind==2 then(κ (r1.len)) else
 bif r1.kind==1 then(κ (r1.len)) else
 κ (0)
def xaG(p:Int):T Int:=xcX g p .ret
theorem xmE(p:Int)(κ:Int->T β):(xaG g p).bind κ=xcX g p κ:=by
 unfold xaG xcX
 simp only[bz]
def VJ(p:Int)(κ:Int->T β):T β:=
 bif p==g.pages then(κ (0)) else
 (YT g p).bind fun r1=>
 bif r1.kind==1 then(κ (r1.len)) else
 κ (0)
def XD(p:Int):T Int:=VJ g p .ret
theorem xjD(p:Int)(κ:Int->T β):(XD g p).bind κ=VJ g p κ:=by
 unfold XD VJ
 simp only[bz]
def xjE(p k:Int)(κ:Bool->T β):T β:=
 bif decide (p<0)then(κ (false)) else
 bif decide (p>=g.pages)then(κ (false)) else
 bif decide (k<1)then(κ (false)) else
 bif decide (k>g.pages)then(κ (false)) else
 .op (.cas (atF g 7 p) (Pg.word (Pg.mk 4 k 0 0)) (Pg.word (Pg.mk 5 k 0 0))) fun b4=>
 κ b4
def markT(p k:Int):T Bool:=xjE g p k .ret
theorem xp3(p k:Int)(κ:Bool->T β):(markT g p k).bind κ=xjE g p k κ:=by
 unfold markT xjE
 simp only[bz]
def xjF(g:Geo)(p b:Int)(c:Cls)(κ:Int->T β):T β:=
 κ (i64.wrap (i64.wrap (p*8)+i64.wrap (Int.tdiv (i64.wrap (b*c.size)) 8)))
def xp4(p b:Int)(c:Cls):T Int:=xjF g p b c .ret
theorem xmF(p b:Int)(c:Cls)(κ:Int->T β):(xp4 g p b c).bind κ=xjF g p b c κ:=by
 unfold xp4 xjF
 simp only[bz]
def xeb(c:Cls)(κ:Int->T β):T β:=
 bif bif decide (c.blocks<0)then false else true then(κ (u8.wrap (u8.wrap (1*2 ^ if Int.toNat c.blocks<=8 then Int.toNat c.blocks else 8)-1))) else
 .fail
def xcY(c:Cls):T Int:=xeb c .ret
theorem xjG(c:Cls)(κ:Int->T β):(xcY c).bind κ=xeb c κ:=by
 unfold xcY xeb
 simp only[bz]
def VK(b:Bt)(κ:Int->T β):T β:=
 bif b.map==0 then(κ (-1)) else
 (yr (decide (0<=b.map)&&decide (b.map<=255))).bind fun r1=>
 κ (↑(Lib.trailingZeros8 (Int.toNat b.map)))
def firstT(b:Bt):T Int:=VK b .ret
theorem xmG(b:Bt)(κ:Int->T β):(firstT b).bind κ=VK b κ:=by
 unfold firstT VK
 simp only[bz]
def xjH(b:Bt)(n:Int)(κ:Bool->T β):T β:=
 bif decide (n>8)then(κ (false)) else
 (yr (decide (0<=bits BinOp.xor u8 (if IntKind.signed u8=true then -1 else IntKind.max u8) b.map)&&decide (bits BinOp.xor u8 (if IntKind.signed u8=true then -1 else IntKind.max u8) b.map<=255))).bind fun r1=>
 κ (decide (↑(Lib.trailingZeros8 (Int.toNat (bits BinOp.xor u8 (if IntKind.signed u8=true then -1 else Int.ofNat (2 ^ 8-1)) b.map)))>=if n<0 then 0 else n))
def xb0(b:Bt)(n:Int):T Bool:=xjH b n .ret
theorem xp5(b:Bt)(n:Int)(κ:Bool->T β):(xb0 b n).bind κ=xjH b n κ:=by
 unfold xb0 xjH
 simp only[bz]
def xcZ(k s:Int)(κ:Unit->T β):T β:=
 (wS g k).bind fun r0=>
 bif !r0 then((jh g).bind fun r2=>
 .op (.store (atF g 11 k) (Stt.word (Stt.mk 1 s 0 r2))) fun _=>
 κ ()) else
 κ ()
def xaH(k s:Int):T Unit:=xcZ g k s .ret
theorem xmH(k s:Int)(κ:Unit->T β):(xaH g k s).bind κ=xcZ g k s κ:=by
 unfold xaH xcZ
 simp only[bz]
def VL(k:Int)(s:Stt)(z:Int)(κ:Bool->T β):T β:=
 (wS g k).bind fun r0=>
 bif r0 then(κ (false)) else
 (jh g).bind fun r2=>
 .op (.cas (atF g 11 k) (Stt.word (Stt.mk s.kind s.size s.other s.ver)) (Stt.word (Stt.mk 1 z 0 r2))) fun b3=>
 κ b3
def XE(k:Int)(s:Stt)(z:Int):T Bool:=VL g k s z .ret
theorem xjI(k:Int)(s:Stt)(z:Int)(κ:Bool->T β):(XE g k s z).bind κ=VL g k s z κ:=by
 unfold XE VL
 simp only[bz]
def XF(to fr z:Int)(κ:Int->T β):T β:=
 (jj g to fr).bind fun r0=>
 bif r0 then(κ (0)) else
 (jh g).bind fun r2=>
 .op (.store (atF g 11 to) (Stt.word (Stt.mk (Stt.mk 2 z fr r2).kind (Stt.mk 2 z fr r2).size (Stt.mk 2 z fr r2).other (Stt.mk 2 z fr r2).ver))) fun _=>
 κ r2
def kE(to fr z:Int):T Int:=XF g to fr z .ret
theorem xgC(to fr z:Int)(κ:Int->T β):(kE g to fr z).bind κ=XF g to fr z κ:=by
 unfold kE XF
 simp only[bz]
def xjJ(fr:Int)(s:Stt)(to v:Int)(κ:Bool->T β):T β:=
 (jj g fr to).bind fun r0=>
 bif r0 then(κ (false)) else
 .op (.cas (atF g 11 fr) (Stt.word (Stt.mk s.kind s.size s.other s.ver)) (Stt.word (Stt.mk 3 0 to v))) fun b2=>
 κ b2
def xec(fr:Int)(s:Stt)(to v:Int):T Bool:=xjJ g fr s to v .ret
theorem xp6(fr:Int)(s:Stt)(to v:Int)(κ:Bool->T β):(xec g fr s to v).bind κ=xjJ g fr s to v κ:=by
 unfold xec xjJ
 simp only[bz]
def VM(to fr z v:Int)(κ:Unit->T β):T β:=
 (jj g to fr).bind fun r0=>
 bif r0 then(κ ()) else
 .op (.cas (atF g 11 to) (Stt.word (Stt.mk (Stt.mk 2 z fr v).kind (Stt.mk 2 z fr v).size (Stt.mk 2 z fr v).other (Stt.mk 2 z fr v).ver)) (Stt.word (Stt.mk 1 z 0 v))) fun b2=>
 .op (.store (atF g 11 fr) (0)) fun _=>
 κ ()
def qv(to fr z v:Int):T Unit:=VM g to fr z v .ret
theorem xjK(to fr z v:Int)(κ:Unit->T β):(qv g to fr z v).bind κ=VM g to fr z v κ:=by
 unfold qv VM
 simp only[bz]
def xjL(to:Int)(κ:Unit->T β):T β:=
 (wS g to).bind fun r0=>
 bif !r0 then(.op (.store (atF g 11 to) (0)) fun _=>
 κ ()) else
 κ ()
def xed(to:Int):T Unit:=xjL g to .ret
theorem xmI(to:Int)(κ:Unit->T β):(xed g to).bind κ=xjL g to κ:=by
 unfold xed xjL
 simp only[bz]
def xjM(k:Int)(κ:Seen->T β):T β:=
 (wS g k).bind fun r0=>
 bif r0 then(κ ⟨(0),(0),(0),(0),(false),(0)⟩) else
 .op (.load (atF g 11 k)) fun x2=>
 .op (.steps) fun x3=>
 bif (wd x2).kind==1 then(κ ⟨((wd x2).kind),((wd x2).size),((wd x2).other),((wd x2).ver),(true),(x3)⟩) else
 bif (wd x2).kind==2 then((xcW g k x2).bind fun r6=>
 bif r6.2 then(κ ⟨(r6.fst.kind),(r6.fst.size),(r6.fst.other),(r6.fst.ver),(r6.fst.live),(r6.fst.lin)⟩) else
 .fail) else
 κ ⟨(0),(0),(0),(0),(false),(x3)⟩
def VN(k:Int):T Seen:=xjM g k .ret
theorem xp7(k:Int)(κ:Seen->T β):(VN g k).bind κ=xjM g k κ:=by
 unfold VN xjM
 simp only[bz]
def xaI(o:Int)(κ:(Int×Bool)->T β):T β:=
 bif decide (o<0)then(κ ((0),(false))) else
 bif Int.tmod o 8==0 then(bif decide (i64.wrap (Int.tdiv o 8)<8)then(κ ((i64.wrap (Int.tdiv o 8)),(true))) else
 κ ((0),(false))) else
 κ ((0),(false))
def xee(o:Int):T (Int×Bool):=xaI o .ret
theorem xgD(o:Int)(κ:(Int×Bool)->T β):(xee o).bind κ=xaI o κ:=by
 unfold xee xaI
 simp only[bz]
def xaJ(o:Int)(κ:(Int×Bool)->T β):T β:=
 bif decide (o<0)then(κ ((0),(false))) else
 bif Int.tmod o 16==0 then(bif decide (i64.wrap (Int.tdiv o 16)<4)then(κ ((i64.wrap (Int.tdiv o 16)),(true))) else
 κ ((0),(false))) else
 κ ((0),(false))
def xef(o:Int):T (Int×Bool):=xaJ o .ret
theorem xgE(o:Int)(κ:(Int×Bool)->T β):(xef o).bind κ=xaJ o κ:=by
 unfold xef xaJ
 simp only[bz]
def xaK(o:Int)(κ:(Int×Bool)->T β):T β:=
 bif decide (o<0)then(κ ((0),(false))) else
 bif Int.tmod o 24==0 then(bif decide (i64.wrap (Int.tdiv o 24)<2)then(κ ((i64.wrap (Int.tdiv o 24)),(true))) else
 κ ((0),(false))) else
 κ ((0),(false))
def xeg(o:Int):T (Int×Bool):=xaK o .ret
theorem xgF(o:Int)(κ:(Int×Bool)->T β):(xeg o).bind κ=xaK o κ:=by
 unfold xeg xaK
 simp only[bz]
def xaL(o:Int)(κ:(Int×Bool)->T β):T β:=
 bif decide (o<0)then(κ ((0),(false))) else
 bif Int.tmod o 32==0 then(bif decide (i64.wrap (Int.tdiv o 32)<2)then(κ ((i64.wrap (Int.tdiv o 32)),(true))) else
 κ ((0),(false))) else
 κ ((0),(false))
def xeh(o:Int):T (Int×Bool):=xaL o .ret
theorem xgG(o:Int)(κ:(Int×Bool)->T β):(xeh o).bind κ=xaL o κ:=by
 unfold xeh xaL
 simp only[bz]
def xs5(s a:Int)(κ:Int->T β):T β:=
 bif decide (s<1)then(κ (-1)) else
 (VE a).bind fun r1=>
 bif !r1 then(κ (-1)) else
 bif decide (8>=s)then(bif decide (8>=a)then(κ (0)) else
 bif decide (16>=s)then(bif decide (16>=a)then(κ (1)) else
 bif decide (24>=s)then(bif decide (8>=a)then(κ (2)) else
 bif decide (32>=s)then(bif decide (32>=a)then(κ (3)) else
 κ (-1)) else
 κ (-1)) else
 bif decide (32>=s)then(bif decide (32>=a)then(κ (3)) else
 κ (-1)) else
 κ (-1)) else
 bif decide (24>=s)then(bif decide (8>=a)then(κ (2)) else
 bif decide (32>=s)then(bif decide (32>=a)then(κ (3)) else
 κ (-1)) else
 κ (-1)) else
 bif decide (32>=s)then(bif decide (32>=a)then(κ (3)) else
 κ (-1)) else
 κ (-1)) else
 bif decide (16>=s)then(bif decide (16>=a)then(κ (1)) else
 bif decide (24>=s)then(bif decide (8>=a)then(κ (2)) else
 bif decide (32>=s)then(bif decide (32>=a)then(κ (3)) else
 κ (-1)) else
 κ (-1)) else
 bif decide (32>=s)then(bif decide (32>=a)then(κ (3)) else
 κ (-1)) else
 κ (-1)) else
 bif decide (24>=s)then(bif decide (8>=a)then(κ (2)) else
 bif decide (32>=s)then(bif decide (32>=a)then(κ (3)) else
 κ (-1)) else
 κ (-1)) else
 bif decide (32>=s)then(bif decide (32>=a)then(κ (3)) else
 κ (-1)) else
 κ (-1)
def cofT(s a:Int):T Int:=xs5 s a .ret
theorem xuf(s a:Int)(κ:Int->T β):(cofT s a).bind κ=xs5 s a κ:=by
 unfold cofT xs5
 simp only[bz]
def xp8:Sm:=fun
 | [.c (.int .i64 n)],[]=>some (mkS (Int) (logT n) fun r=>some (.c (.int .i64 r),[]))
 | _,_=>none
variable{σ:Type}{I:Port Tryz.prog σ}
theorem xww(hl:SoundL I ka2):SoundF I 257 xp8:=by
 refine sq hl 1 Tryz.func257 fun _ _ t ht =>?_
 unfold xp8 at ht
 split at ht
 ·rename_i n
  cases ht
  exact ey (xue n _)
 ·cases ht
def xei:Sm:=fun
 | [.agg (.port::gc),.c (.int .i64 p)],[]=>(match xv gc with
   | some g=>some (mkS (Int) (xaG g p) fun r=>some (.c (.int .i64 r),[]))
   | _=>none)
 | _,_=>none
theorem xp9(hl:SoundL I ka2):SoundF I 265 xei:=by
 refine sq hl 1 Tryz.func265 fun _ _ t ht =>?_
 unfold xei at ht
 split at ht
 ·rename_i gc p
  split at ht
  ·rename_i g hg
   obtain rfl:=xe hg
   cases ht
   exact ey (xmE g p _)
  ·cases ht
 ·cases ht
def xaM:Sm:=fun
 | [.agg (.port::gc),.c (.int .i64 p)],[]=>(match xv gc with
   | some g=>some (mkS (Int) (XD g p) fun r=>some (.c (.int .i64 r),[]))
   | _=>none)
 | _,_=>none
theorem xmJ(hl:SoundL I ka2):SoundF I 266 xaM:=by
 refine sq hl 1 Tryz.func266 fun _ _ t ht =>?_
 unfold xaM at ht
 split at ht
 ·rename_i gc p
  split at ht
  ·rename_i g hg
   obtain rfl:=xe hg
   cases ht
   exact ey (xjD g p _)
  ·cases ht
 ·cases ht
def xs6:Sm:=gS fun
 | g,[.c (.int .i64 p),.c (.int .i64 k)]=>some (mkS (Bool) (markT g p k) fun r=>some (.c (.bool r),[]))
 | _,_=>none
theorem xug(hl:SoundL I ka2):SoundF I 85 xs6:=by
 refine gsq hl 1 Tryz.func85 fun g l t ht =>?_
 split at ht
 ·rename_i p k
  cases ht
  exact ey (xp3 g p k _)
 ·cases ht
def xej:Sm:=fun
 | [.agg (.port::gc),.c (.int .i64 b),.agg cc],[]=>(match shOf gc with
   | some (g,p)=>(match Cls.of cc with
   | some c=>some (mkS (Int) (xp4 g p b c) fun r=>some (.c (.int .i64 r),[]))
   | _=>none)
   | _=>none)
 | _,_=>none
theorem xqa(hl:SoundL I ka2):SoundF I 279 xej:=by
 refine sq hl 1 Tryz.func279 fun _ _ t ht =>?_
 unfold xej at ht
 split at ht
 ·rename_i gc b cc
  split at ht
  ·rename_i g p hg
   obtain rfl:=xdD hg
   split at ht
   ·rename_i c hc
    obtain rfl:=Cls.of_eq hc
    cases ht
    exact ey (xmF g p b c _)
   ·cases ht
  ·cases ht
 ·cases ht
def xaN:Sm:=fun
 | [.agg cc],[]=>(match Cls.of cc with
   | some c=>some (mkS (Int) (xcY c) fun r=>some (.c (.int .u8 r),[]))
   | _=>none)
 | _,_=>none
theorem xmK(hl:SoundL I ka2):SoundF I 280 xaN:=by
 refine sq hl 1 Tryz.func280 fun _ _ t ht =>?_
 unfold xaN at ht
 split at ht
 ·rename_i cc
  split at ht
  ·rename_i c hc
   obtain rfl:=Cls.of_eq hc
   cases ht
   exact ey (xjG c _)
  ·cases ht
 ·cases ht
def xek:Sm:=fun
 | [.agg bc],[]=>(match Bt.of bc with
   | some b=>some (mkS (Int) (firstT b) fun r=>some (.c (.int .i64 r),[]))
   | _=>none)
 | _,_=>none
theorem xqb(hl:SoundL I ka2):SoundF I 278 xek:=by
 refine sq hl 1 Tryz.func278 fun _ _ t ht =>?_
 unfold xek at ht
 split at ht
 ·rename_i bc
  split at ht
  ·rename_i b hb
   obtain rfl:=Bt.of_eq hb
   cases ht
   exact ey (xmG b _)
  ·cases ht
 ·cases ht
def xjN:Sm:=fun
 | [.agg bc,.c (.int .i64 n)],[]=>(match Bt.of bc with
   | some b=>some (mkS (Bool) (xb0 b n) fun r=>some (.c (.bool r),[]))
   | _=>none)
 | _,_=>none
theorem xuh(hl:SoundL I ka2):SoundF I 269 xjN:=by
 refine sq hl 1 Tryz.func269 fun _ _ t ht =>?_
 unfold xjN at ht
 split at ht
 ·rename_i bc n
  split at ht
  ·rename_i b hb
   obtain rfl:=Bt.of_eq hb
   cases ht
   exact ey (xp5 b n _)
  ·cases ht
 ·cases ht
def xmL:Sm:=gS fun
 | g,[.c (.int .i64 k),.c (.int .i64 s)]=>some (mkS (Unit) (xaH g k s) fun r=>some (.tup [],[]))
 | _,_=>none
theorem xqc(hl:SoundL I ka2):SoundF I 164 xmL:=by
 refine gsq hl 1 Tryz.func164 fun g l t ht =>?_
 split at ht
 ·rename_i k s
  cases ht
  exact ey (xmH g k s _)
 ·cases ht
def xhF:Sm:=gS fun
 | g,[.c (.int .i64 k),.agg sc,.c (.int .i64 z)]=>(match Stt.of sc with
   | some s=>some (mkS (Bool) (XE g k s z) fun r=>some (.c (.bool r),[]))
   | _=>none)
 | _,_=>none
theorem xmM(hl:SoundL I ka2):SoundF I 193 xhF:=by
 refine gsq hl 1 Tryz.func193 fun g l t ht =>?_
 split at ht
 ·rename_i k sc z
  split at ht
  ·rename_i s hs
   obtain rfl:=Stt.of_eq hs
   cases ht
   exact ey (xjI g k s z _)
  ·cases ht
 ·cases ht
def xel:Sm:=gS fun
 | g,[.c (.int .i64 to),.c (.int .i64 fr),.c (.int .i64 z)]=>some (mkS (Int) (kE g to fr z) fun r=>some (.c (.int .u32 r),[]))
 | _,_=>none
theorem xjO(hl:SoundL I ka2):SoundF I 195 xel:=by
 refine gsq hl 1 Tryz.func195 fun g l t ht =>?_
 split at ht
 ·rename_i to fr z
  cases ht
  exact ey (xgC g to fr z _)
 ·cases ht
def xs7:Sm:=gS fun
 | g,[.c (.int .i64 fr),.agg sc,.c (.int .i64 to),.c (.int .u32 v)]=>(match Stt.of sc with
   | some s=>some (mkS (Bool) (xec g fr s to v) fun r=>some (.c (.bool r),[]))
   | _=>none)
 | _,_=>none
theorem xui(hl:SoundL I ka2):SoundF I 196 xs7:=by
 refine gsq hl 1 Tryz.func196 fun g l t ht =>?_
 split at ht
 ·rename_i fr sc to v
  split at ht
  ·rename_i s hs
   obtain rfl:=Stt.of_eq hs
   cases ht
   exact ey (xp6 g fr s to v _)
  ·cases ht
 ·cases ht
def xhG:Sm:=gS fun
 | g,[.c (.int .i64 to),.c (.int .i64 fr),.c (.int .i64 z),.c (.int .u32 v)]=>some (mkS (Unit) (qv g to fr z v) fun r=>some (.tup [],[]))
 | _,_=>none
theorem xmN(hl:SoundL I ka2):SoundF I 198 xhG:=by
 refine gsq hl 1 Tryz.func198 fun g l t ht =>?_
 split at ht
 ·rename_i to fr z v
  cases ht
  exact ey (xjK g to fr z v _)
 ·cases ht
def xmO:Sm:=gS fun
 | g,[.c (.int .i64 to)]=>some (mkS (Unit) (xed g to) fun r=>some (.tup [],[]))
 | _,_=>none
theorem xqd(hl:SoundL I ka2):SoundF I 197 xmO:=by
 refine gsq hl 1 Tryz.func197 fun g l t ht =>?_
 split at ht
 ·rename_i to
  cases ht
  exact ey (xmI g to _)
 ·cases ht
def xs8:Sm:=gS fun
 | g,[.c (.int .i64 k)]=>some (mkS (Seen) (VN g k) fun r=>some (.agg r.cells,[]))
 | _,_=>none
theorem xuj(hl:SoundL I ka2):SoundF I 115 xs8:=by
 refine gsq hl 1 Tryz.func115 fun g l t ht =>?_
 split at ht
 ·rename_i k
  cases ht
  exact ey (xp7 g k _)
 ·cases ht
def Wo:Sm:=fun
 | [.c (.int .i64 0),.c (.int .i64 o)],[]=>some (mkS ((Int×Bool)) (xee o) fun r=>some (.tup [.c (.int .i64 r.1),.c (.bool r.2)],[]))
 | _,_=>none
theorem xjP(hl:SoundL I ka2):SoundF I 177 Wo:=by
 refine sq hl 1 Tryz.func177 fun _ _ t ht =>?_
 unfold Wo at ht
 split at ht
 ·rename_i o
  cases ht
  exact ey (xgD o _)
 ·cases ht
def Wp:Sm:=fun
 | [.c (.int .i64 1),.c (.int .i64 o)],[]=>some (mkS ((Int×Bool)) (xef o) fun r=>some (.tup [.c (.int .i64 r.1),.c (.bool r.2)],[]))
 | _,_=>none
theorem xjQ(hl:SoundL I ka2):SoundF I 177 Wp:=by
 refine sq hl 1 Tryz.func177 fun _ _ t ht =>?_
 unfold Wp at ht
 split at ht
 ·rename_i o
  cases ht
  exact ey (xgE o _)
 ·cases ht
def Wq:Sm:=fun
 | [.c (.int .i64 2),.c (.int .i64 o)],[]=>some (mkS ((Int×Bool)) (xeg o) fun r=>some (.tup [.c (.int .i64 r.1),.c (.bool r.2)],[]))
 | _,_=>none
theorem xjR(hl:SoundL I ka2):SoundF I 177 Wq:=by
 refine sq hl 1 Tryz.func177 fun _ _ t ht =>?_
 unfold Wq at ht
 split at ht
 ·rename_i o
  cases ht
  exact ey (xgF o _)
 ·cases ht
def Wr:Sm:=fun
 | [.c (.int .i64 3),.c (.int .i64 o)],[]=>some (mkS ((Int×Bool)) (xeh o) fun r=>some (.tup [.c (.int .i64 r.1),.c (.bool r.2)],[]))
 | _,_=>none
theorem xjS(hl:SoundL I ka2):SoundF I 177 Wr:=by
 refine sq hl 1 Tryz.func177 fun _ _ t ht =>?_
 unfold Wr at ht
 split at ht
 ·rename_i o
  cases ht
  exact ey (xgG o _)
 ·cases ht
def xqe:Sm:=fun
 | [.c (.int .i64 s),.c (.int .i64 a)],[]=>some (mkS (Int) (cofT s a) fun r=>some (.c (.int .i64 r),[]))
 | _,_=>none
theorem xwx(hl:SoundL I ka2):SoundF I 75 xqe:=by
 refine sq hl 6 Tryz.func75 fun _ _ t ht =>?_
 unfold xqe at ht
 split at ht
 ·rename_i s a
  cases ht
  exact ey (xuf s a _)
 ·cases ht
def ka3:List (Nat×Sm):=(257,xp8)::(265,xei)::(266,xaM)::(85,xs6)::(279,xej)::(280,xaN)::(278,xek)::(269,xjN)::(164,xmL)::(193,xhF)::(195,xel)::(196,xs7)::(198,xhG)::(197,xmO)::(115,xs8)::(177,(orSm Wo (orSm Wp (orSm Wq Wr))))::(75,xqe)::ka2
theorem s_ka3:SoundL I ka3:=(.cons (xww vm) (.cons (xp9 vm) (.cons (xmJ vm) (.cons (xug vm) (.cons (xqa vm) (.cons (xmK vm) (.cons (xqb vm) (.cons (xuh vm) (.cons (xqc vm) (.cons (xmM vm) (.cons (xjO vm) (.cons (xui vm) (.cons (xmN vm) (.cons (xqd vm) (.cons (xuj vm) (.cons (SoundF.or (xjP vm) (SoundF.or (xjQ vm) (SoundF.or (xjR vm) (xjS vm)))) (.cons (xwx vm) vm)))))))))))))))))
end Lx
namespace Lx
open Go
def ofTK{β:Type}(g:Geo)(k:Int)(κ:Bool->T β):T β:=
 bif decide (k<0)then κ false else
 bif decide (k>=i64.wrap (g.pages*8))then κ false else κ true
def ofT(g:Geo)(k:Int):T Bool:=ofTK g k .ret
theorem xmP{β:Type}(g:Geo)(k:Int)(κ:Bool->T β):(ofT g k).bind κ=ofTK g k κ:=by
 unfold ofT ofTK
 simp only[xip,xiq]
def ofR(g:Geo)(k:Int):Bool->Option (V×Heap)
 | true=>some (.tup [.agg (.port::(g.cells ++ [.int .i64 (i64.wrap (k.tdiv 8))])),.c (.int .i64 (i64.wrap (k.tmod 8*8))),.c (.bool true)],[])
 | false=>some (.tup [.agg (.nili::List.replicate 23 (.int .i64 0)),.c (.int .i64 0),.c (.bool false)],[])
def m_ofT:Sm:=fun
 | [.c .port,.agg gc,.c (.int .i64 k)],[]=>(match xv gc with
  | some g=>some ⟨Bool,ofT g k,ofR g k,fun _ κ=>ofTK g k κ,fun _ κ=>(xmP g k κ).symm⟩
  | _=>none)
 | _,_=>none
variable{σ:Type}{I:Port Tryz.prog σ}
theorem s_m_ofT(hl:SoundL I ka3):SoundF I 167 m_ofT:=by
 refine sq hl 1 Tryz.func167 fun _ _ t ht =>?_
 unfold m_ofT at ht
 split at ht
 ·rename_i gc k
  split at ht
  ·rename_i g hg
   obtain rfl:=xe hg
   cases ht
   exact ey (xmP g k _)
  ·cases ht
 ·cases ht
def ka3b:List (Nat×Sm):=(167,m_ofT)::ka3
theorem qw:SoundL I ka3b :=.cons (s_m_ofT s_ka3) s_ka3
structure Fit where
 (page n at_:Int)
def Fit.cells(r:Fit):List C :=[.int .i64 r.page,.int .i64 r.n,.int .i64 r.at_]
def Fit.of:List C->Option Fit
 | [.int .i64 a,.int .i64 b,.int .i64 c]=>some ⟨a,b,c⟩
 | _=>none
theorem Fit.of_eq{l:List C}{r:Fit}(h:Fit.of l=some r):l=r.cells:=by
 unfold Fit.of at h;split at h<;>cases h;rfl
structure Fnd where
 (grain:Int)
 (ok:Bool)
 (e:Int)
def Fnd.cells(r:Fnd):List C :=[.int .i64 r.grain,.bool r.ok,.int .i64 r.e]
def Fnd.of:List C->Option Fnd
 | [.int .i64 a,.bool b,.int .i64 c]=>some ⟨a,b,c⟩
 | _=>none
theorem Fnd.of_eq{l:List C}{r:Fnd}(h:Fnd.of l=some r):l=r.cells:=by
 unfold Fnd.of at h;split at h<;>cases h;rfl
def hdOf(l:List C):Option (Geo×Int):=
 match xv (l.take 22),l.drop 22 with
 | some g,[.int .u64 p]=>some (g,p)
 | _,_=>none
theorem yv{l:List C}{g:Geo}{p:Int}(h:hdOf l=some (g,p)):l=g.cells ++ [.int .u64 p]:=by
 unfold hdOf at h
 split at h
 ·rename_i g' p' h1 h2
  cases h
  rw[<- List.take_append_drop 22 l,xe h1,h2]
 ·cases h
structure Rn where
 (grain size to usable:Int)
 (has:Bool)
def Rn.cells(r:Rn):List C :=[.int .i64 r.grain,.int .i64 r.size,.int .i64 r.to,.int .i64 r.usable,.bool r.has]
def Rn.of:List C->Option Rn
 | [.int .i64 a,.int .i64 b,.int .i64 c,.int .i64 d,.bool e]=>some ⟨a,b,c,d,e⟩
 | _=>none
theorem Rn.of_eq{l:List C}{r:Rn}(h:Rn.of l=some r):l=r.cells:=by
 unfold Rn.of at h;split at h<;>cases h;rfl
def rnOf(l:List C):Option (Geo×Rn):=
 match xv (l.take 22),Rn.of (l.drop 22) with
 | some g,some x=>some (g,x)
 | _,_=>none
theorem XG{l:List C}{g:Geo}{x:Rn}(h:rnOf l=some (g,x)):l=g.cells++x.cells:=by
 unfold rnOf at h
 split at h
 ·rename_i g' p' h1 h2
  cases h
  rw[<- List.take_append_drop 22 l,xe h1,Rn.of_eq h2]
 ·cases h
structure Cts where
 (allocs frees failures live bytes:Int)
def Cts.cells(r:Cts):List C :=[.int .u64 r.allocs,.int .u64 r.frees,.int .u64 r.failures,.int .u64 r.live,.int .u64 r.bytes]
def Cts.of:List C->Option Cts
 | [.int .u64 a,.int .u64 b,.int .u64 c,.int .u64 d,.int .u64 e]=>some ⟨a,b,c,d,e⟩
 | _=>none
theorem Cts.of_eq{l:List C}{r:Cts}(h:Cts.of l=some r):l=r.cells:=by
 unfold Cts.of at h;split at h<;>cases h;rfl
structure Res where
 (at_ n byte:Int)
 (c1 c2 c3 c4 c5:Int)
 (e lin touch:Int)
def Res.cells(r:Res):List C :=[.int .i64 r.at_,.int .i64 r.n,.int .u8 r.byte,.int .u64 r.c1,.int .u64 r.c2,.int .u64 r.c3,.int .u64 r.c4,.int .u64 r.c5,.int .i64 r.e,.int .i64 r.lin,.int .i64 r.touch]
def Res.of:List C->Option Res
 | [.int .i64 a,.int .i64 b,.int .u8 c,.int .u64 d,.int .u64 e,.int .u64 f,.int .u64 g,.int .u64 h,.int .i64 i,.int .i64 j,.int .i64 k]=>some ⟨a,b,c,d,e,f,g,h,i,j,k⟩
 | _=>none
theorem Res.of_eq{l:List C}{r:Res}(h:Res.of l=some r):l=r.cells:=by
 unfold Res.of at h;split at h<;>cases h;rfl
structure Cal where
 (op size n align at_ off byte:Int)
def Cal.cells(r:Cal):List C :=[.int .u8 r.op,.int .i64 r.size,.int .i64 r.n,.int .i64 r.align,.int .i64 r.at_,.int .i64 r.off,.int .u8 r.byte]
def Cal.of:List C->Option Cal
 | [.int .u8 a,.int .i64 b,.int .i64 c,.int .i64 d,.int .i64 e,.int .i64 f,.int .u8 g]=>some ⟨a,b,c,d,e,f,g⟩
 | _=>none
theorem Cal.of_eq{l:List C}{r:Cal}(h:Cal.of l=some r):l=r.cells:=by
 unfold Cal.of at h;split at h<;>cases h;rfl
def listR(l:List Int):V×Heap:=match l with
 | []=>(.c .nils,[])
 | _::_=>(.c (.slg 0 0 l.length),[some ⟨l.map (.int .i64), 3,true,none⟩])
end Lx
namespace Lx
variable{β:Type}(g:Geo)
open Go
def jk(a0 a1:Int)(b2:Bool)(g4:Geo)(κ0:Int->T β)(κ1:Unit->T β)(i:Int)(k:Int->T β):T β:=
 bif decide (i<8)then(.op (.load (atF g4 18 (inF (i64.wrap (a0-1)) i 8))) fun x1=>
 bif x1 != 0 then(.op (.cas (atF g4 18 (inF (i64.wrap (a0-1)) i 8)) x1 (0)) fun b3=>
 bif b3 then(κ0 x1) else
 k (i64.wrap (i+1))) else
 k (i64.wrap (i+1))) else
 κ1 ()
def vC(a0 a1:Int)(b2:Bool)(g4:Geo)(a3:Int)(κ0:Int->T β)(κ1:Unit->T β):T β:=xr xa (jk a0 a1 b2 g4 κ0 κ1) a3
theorem xaO{β γ:Type}(a0 a1:Int)(b2:Bool)(g4:Geo)(a3:Int)(κ0:Int->T β)(κ1:Unit->T β)(κ:β->T γ):(vC a0 a1 b2 g4 a3 κ0 κ1).bind κ=vC a0 a1 b2 g4 a3 (fun ae0=>(κ0 ae0).bind κ) (fun u=>(κ1 u).bind κ):=by
 unfold vC
 refine xj κ (fun i k =>?_) _ _
 unfold jk
 simp only[bz]
def VO:Pat:=⟨xm 38 0 [(0,.c (.raw (.port))),(2,.c (.int .i64)),(4,.c (.raw (.ptr 0 0))),(6,.c (.int .u64)),(7,.c (.bool)),(10,.c (.int .i64))],[some ⟨[.geo],24,false,none⟩]⟩
def wB:Pat:=⟨xm 38 0 [(6,.c (.int .u64)),(7,.c (.bool))],[]⟩
def jl:LF:=fun st K=>match xq VO st with
 | some [.i a0,.i a1,.b b2,.i a3,.g g4]=>some (vC a0 a1 b2 g4 a3 (fun ae0=>K (.ret) (xd wB [.i ae0,.b true])) (fun _=>K (.exit 0) (xd wB [.i a1,.b b2])))
 | _=>none
theorem xjT : ∀st K t,jl st K=some t->xA xa (lf ka3b xa 0 .no [1,0,1,0] Tryz.f286 K) st=t:=by
 intro st K t h
 unfold jl at h
 split at h
 ·rename_i a0 a1 b2 a3 g4 hm
  cases h
  rw[xk hm]
  exact xu (S:=fun i=>xd VO [.i a0,.i a1,.b b2,.i i,.g g4]) (B:=jk a0 a1 b2 g4 (fun ae0=>K (.ret) (xd wB [.i ae0,.b true])) (fun _=>K (.exit 0) (xd wB [.i a1,.b b2]))) (fun i k=>by kernel_rfl) xa a3
 ·cases h
def XH(nd:Int)(κ:(Int×Bool)->T β):T β:=
 vC (nd) (0) (false) (g) (0) (fun y0_0=>
 κ (y0_0,(true))) (fun y0_0=>
 κ ((0),(false)))
def kF(nd:Int):T (Int×Bool):=XH g nd .ret
theorem xgH(nd:Int)(κ:(Int×Bool)->T β):(kF g nd).bind κ=XH g nd κ:=by
 unfold kF XH
 simp only[bz,xaO]
def VP(n:Int)(l:Bool)(κ:Unit->T β):T β:=
 bif l then((logT n).bind fun r1=>
 .op (.add (atF g 3 r1) (18446744073709551615)) fun x2=>
 κ ()) else
 (logT n).bind fun r1=>
 .op (.add (atF g 3 r1) (1)) fun x2=>
 κ ()
def vO(n:Int)(l:Bool):T Unit:=VP g n l .ret
theorem xjU(n:Int)(l:Bool)(κ:Unit->T β):(vO g n l).bind κ=VP g n l κ:=by
 unfold vO VP
 simp only[bz]
def xc0(b0:Bool)(g2:Geo)(κ0:Unit->T β)(κ1:Unit->T β)(i:Int)(k:Int->T β):T β:=
 bif decide (i<9)then(.op (.load (atF g2 3 i)) fun x1=>
 bif x1 != 0 then(κ0 ()) else
 k (i64.wrap (i+1))) else
 κ1 ()
def XI(b0:Bool)(g2:Geo)(a1:Int)(κ0:Unit->T β)(κ1:Unit->T β):T β:=xr xa (xc0 b0 g2 κ0 κ1) a1
theorem xjV{β γ:Type}(b0:Bool)(g2:Geo)(a1:Int)(κ0:Unit->T β)(κ1:Unit->T β)(κ:β->T γ):(XI b0 g2 a1 κ0 κ1).bind κ=XI b0 g2 a1 (fun u=>(κ0 u).bind κ) (fun u=>(κ1 u).bind κ):=by
 unfold XI
 refine xj κ (fun i k =>?_) _ _
 unfold xc0
 simp only[bz]
def xmQ:Pat:=⟨xm 22 0 [(2,.c (.raw (.ptr 0 0))),(4,.c (.bool)),(5,.c (.int .i64))],[some ⟨[.raw (.port),.geo],212,false,none⟩]⟩
def XJ:Pat:=⟨xm 22 0 [(4,.c (.bool))],[]⟩
def xc1:LF:=fun st K=>match xq xmQ st with
 | some [.b b0,.i a1,.g g2]=>some (XI b0 g2 a1 (fun _=>K (.ret) (xd XJ [.b true])) (fun _=>K (.exit 0) (xd XJ [.b b0])))
 | _=>none
theorem xwy : ∀st K t,xc1 st K=some t->xA xa (lf ka3b xa 0 .no [1,0,1,0] Tryz.f281 K) st=t:=by
 intro st K t h
 unfold xc1 at h
 split at h
 ·rename_i b0 a1 g2 hm
  cases h
  rw[xk hm]
  exact xu (S:=fun i=>xd xmQ [.b b0,.i i,.g g2]) (B:=xc0 b0 g2 (fun _=>K (.ret) (xd XJ [.b true])) (fun _=>K (.exit 0) (xd XJ [.b b0]))) (fun i k=>by kernel_rfl) xa a1
 ·cases h
def xs9(k:Int)(κ:Bool->T β):T β:=
 (logT k).bind fun r0=>
 XI (false) (g) r0 (fun y1_0=>
 κ (true)) (fun y1_0=>
 κ (false))
def anyT(k:Int):T Bool:=xs9 g k .ret
theorem xuk(k:Int)(κ:Bool->T β):(anyT g k).bind κ=xs9 g k κ:=by
 unfold anyT xs9
 simp only[bz,xjV]
def xem(c o:Int)(κ:(Int×Bool)->T β):T β:=
 bif decide (c<0)then(κ ((0),(false))) else
 bif decide (c>=4)then(κ ((0),(false))) else
 bif decide (o<0)then(κ ((0),(false))) else
 bif decide (0<=c/\c<4)then(bif bif (bif c==0 then(8:Int)else bif c==1 then(16:Int)else bif c==2 then(24:Int)else(32:Int))==0 then false else true then(bif bif (bif c==0 then(8:Int)else bif c==1 then(16:Int)else bif c==2 then(24:Int)else(32:Int))==0 then false else true then(bif Int.tmod o (bif c==0 then(8:Int)else bif c==1 then(16:Int)else bif c==2 then(24:Int)else(32:Int))==0 then(bif decide (i64.wrap (Int.tdiv o (bif c==0 then(8:Int)else bif c==1 then(16:Int)else bif c==2 then(24:Int)else(32:Int)))<bif c==0 then(8:Int)else bif c==1 then(4:Int)else bif c==2 then(2:Int)else(2:Int))then(κ ((i64.wrap (Int.tdiv o (bif c==0 then(8:Int)else bif c==1 then(16:Int)else bif c==2 then(24:Int)else(32:Int)))),(true))) else
 κ ((0),(false))) else
 κ ((0),(false))) else
 .fail) else
 .fail) else
 .fail
def XK(c o:Int):T (Int×Bool):=xem c o .ret
theorem xjW(c o:Int)(κ:(Int×Bool)->T β):(XK c o).bind κ=xem c o κ:=by
 unfold XK xem
 simp only[bz]
def xqf(p k:Int)(κ:Int->T β):T β:=
 (isT g p k).bind fun r0=>
 bif !r0 then(κ (-1)) else
 bif decide (0<=k/\k<4)then(.op (.self) fun x3=>
 .op (.store (atF g 7 p) (Pg.word (Pg.mk 3 1 k x3))) fun _=>
 (YU g p).bind fun r5=>
 (xcY (Cls.mk (bif k==0 then(8:Int)else bif k==0+1 then(16:Int)else bif k==0+1+1 then(24:Int)else(32:Int)) (bif k==0 then(8:Int)else bif k==0+1 then(16:Int)else bif k==0+1+1 then(8:Int)else(32:Int)) (bif k==0 then(8:Int)else bif k==0+1 then(4:Int)else bif k==0+1+1 then(2:Int)else(2:Int)))).bind fun r6=>
 .op (.store (atF g 8 p) (Bt.word (Bt.mk (bits BinOp.andNot u8 r6 1) true k (u32.wrap (r5.ver+1))))) fun _=>
 κ (i64.wrap (i64.wrap (p*8)+i64.wrap (Int.tdiv (i64.wrap (0*bif k==0 then(8:Int)else bif k==1 then(16:Int)else bif k==2 then(24:Int)else(32:Int))) 8)))) else
 .fail
def xhH(p k:Int):T Int:=xqf g p k .ret
theorem xqg(p k:Int)(κ:Int->T β):(xhH g p k).bind κ=xqf g p k κ:=by
 unfold xhH xqf
 simp only[bz]
def XL(a0 a1:Int)(b2:Bool)(g3:Geo)(a4:Int)(κ0:Unit->T β)(κ1:Int->T β)(i:Unit)(k:Unit->T β):T β:=
 (isT g3 a4 a0).bind fun r0=>
 bif r0 then((YU g3 a4).bind fun r2=>
 (firstT {map:=r2.map,has:=r2.has,cls:=r2.cls,ver:=r2.ver}).bind fun r3=>
 bif !r2.has then(κ0 ()) else
 bif r2.cls != a0 then(κ0 ()) else
 bif decide (r3<0)then(κ0 ()) else
 bif bif decide (r3<0)then false else true then((Zz g3 a4 {map:=r2.map,has:=r2.has,cls:=r2.cls,ver:=r2.ver}   {     map:=       bits BinOp.andNot u8 r2.map         (u8.wrap           (1*2 ^ if Int.toNat r3<=nat_lit 8 then Int.toNat r3 else nat_lit 8)),     has:=r2.has,cls:=r2.cls,ver:=r2.ver}).bind fun r8=>
 bif r8 then(bif decide (0<=a0/\a0<4)then(κ1 (i64.wrap   (i64.wrap (a4*8) +     i64.wrap       (Int.tdiv         (i64.wrap           (r3 *             bif a0==0 then(8:Int)             else bif a0==1 then(16:Int)else bif a0==2 then(24:Int)else(32:Int)))         8)))) else
 .fail) else
 k ()) else
 .fail) else
 κ0 ()
def kf(a0 a1:Int)(b2:Bool)(g3:Geo)(a4:Int)  (κ0:Unit->T β) (κ1:Int->T β):T β:=xr xa (XL a0 a1 b2 g3 a4 κ0 κ1) ()
theorem xen{β γ:Type}(a0 a1:Int)(b2:Bool)(g3:Geo)(a4:Int)  (κ0:Unit->T β) (κ1:Int->T β) (κ:β->T γ):(kf a0 a1 b2 g3 a4  κ0 κ1).bind κ=kf a0 a1 b2 g3 a4  (fun u=>(κ0 u).bind κ) (fun ae0=>(κ1 ae0).bind κ):=by
 unfold kf
 refine xj κ (fun i k =>?_) _ _
 unfold XL
 simp only[bz]
def xeo:Pat:=⟨xm 56 0 [(3,.c (.int .i64)),(8,.c (.int .i64)),(9,.c (.bool)),(10,.c (.raw (.ptr 1 0)))],[none,some ⟨[.raw (.port),.geo,.int .i64],234,false,none⟩]⟩
def jm:Pat:=⟨xm 56 0 [(8,.c (.int .i64)),(9,.c (.bool))],[]⟩
def XM:LF:=fun st K=>match xq xeo st with
 | some [.i a0,.i a1,.b b2,.g g3,.i a4]=>some (kf a0 a1 b2 g3 a4  (fun _=>K (.exit 0) (xd jm [.i a1,.b b2])) (fun ae0=>K (.ret) (xd jm [.i ae0,.b true])))
 | _=>none
theorem xqh : ∀st K t,XM st K=some t->xA xa (lf ka3b xa 0 .no [1,1,0,0] Tryz.f261 K) st=t:=by
 intro st K t h
 unfold XM at h
 split at h
 ·rename_i a0 a1 b2 g3 a4 hm
  cases h
  rw[xk hm]
  exact xu (S:=fun i=>xd xeo [.i a0,.i a1,.b b2,.g g3,.i a4]) (B:=XL a0 a1 b2 g3 a4 (fun _=>K (.exit 0) (xd jm [.i a1,.b b2])) (fun ae0=>K (.ret) (xd jm [.i ae0,.b true]))) (fun i k=>by kernel_rfl) xa ()
 ·cases h
def xc2(p k:Int)(κ:(Int×Bool)->T β):T β:=
 kf (k) (0) (false) (g) (p) (fun y0_0=>
 κ ((0),(false))) (fun y0_0=>
 κ (y0_0,(true)))
def xaP(p k:Int):T (Int×Bool):=xc2 g p k .ret
theorem xmR(p k:Int)(κ:(Int×Bool)->T β):(xaP g p k).bind κ=xc2 g p k κ:=by
 unfold xaP xc2
 simp only[bz,xen]
def VQ(a0:Int)(b1 b2:Bool)(g3:Geo)(a4:Int)(κ0:Unit->T β)(κ1:Unit->T β)(i:Unit)(k:Unit->T β):T β:=
 bif b2 then(.op (.load (atF g3 9 a4)) fun x1=>
 .op (.store (atF g3 10 a0) x1) fun _=>
 .op (.cas (atF g3 9 a4) x1 (u64.wrap (u64.wrap a0+1))) fun b3=>
 bif b3 then(κ0 ()) else
 k ()) else
 κ1 ()
def jO(a0:Int)(b1 b2:Bool)(g3:Geo)(a4:Int)  (κ0:Unit->T β) (κ1:Unit->T β):T β:=xr xa (VQ a0 b1 b2 g3 a4 κ0 κ1) ()
theorem xgI{β γ:Type}(a0:Int)(b1 b2:Bool)(g3:Geo)(a4:Int)  (κ0:Unit->T β) (κ1:Unit->T β) (κ:β->T γ):(jO a0 b1 b2 g3 a4  κ0 κ1).bind κ=jO a0 b1 b2 g3 a4  (fun u=>(κ0 u).bind κ) (fun u=>(κ1 u).bind κ):=by
 unfold jO
 refine xj κ (fun i k =>?_) _ _
 unfold VQ
 simp only[bz]
def xhI:Pat:=⟨xm 60 0 [(2,.c (.int .i64)),(6,.c (.bool)),(7,.c (.raw (.ptr 1 0))),(9,.c (.bool))],[none,some ⟨[.raw (.port),.geo,.int .i64],234,false,none⟩]⟩
def qx:Pat:=⟨xm 60 0 [(6,.c (.bool))],[]⟩
def VR:LF:=fun st K=>match xq xhI st with
 | some [.i a0,.b b1,.b b2,.g g3,.i a4]=>some (jO a0 b1 b2 g3 a4  (fun _=>K (.ret) (xd qx [.b true])) (fun _=>K (.exit 0) (xd qx [.b b1])))
 | _=>none
theorem xul : ∀st K t,VR st K=some t->xA xa (lf ka3b xa 0 .no [1,1,0,0] Tryz.f88 K) st=t:=by
 intro st K t h
 unfold VR at h
 split at h
 ·rename_i a0 b1 b2 g3 a4 hm
  cases h
  rw[xk hm]
  exact xu (S:=fun i=>xd xhI [.i a0,.b b1,.b b2,.g g3,.i a4]) (B:=VQ a0 b1 b2 g3 a4 (fun _=>K (.ret) (xd qx [.b true])) (fun _=>K (.exit 0) (xd qx [.b b1]))) (fun i k=>by kernel_rfl) xa ()
 ·cases h
def xjX(k:Int)(κ:Bool->T β):T β:=
 bif decide (k<0)then(κ (false)) else
 bif decide (k>=i64.wrap (g.pages*8))then(κ (false)) else
 jO (k) (false) (true) (g) (i64.wrap (Int.tdiv k 8)) (fun y2_0=>
 κ (true)) (fun y2_0=>
 κ (false))
def xhJ(k:Int):T Bool:=xjX g k .ret
theorem xqi(k:Int)(κ:Bool->T β):(xhJ g k).bind κ=xjX g k κ:=by
 unfold xhJ xjX
 simp only[bz,xgI]
def xjY(k:Int)(κ:Pg->T β):T β:=
 bif decide (k<0)then(κ ⟨(0),(0),(0),(0)⟩) else
 bif decide (k>=i64.wrap (g.pages*8))then(κ ⟨(0),(0),(0),(0)⟩) else
 .op (.load (atF g 7 (i64.wrap (Int.tdiv k 8)))) fun x2=>
 κ ⟨(if(IntKind.signed i64&&decide (bits BinOp.and u64 (Int.fdiv x2 1) 7%18446744073709551616>=9223372036854775808))=true then bits BinOp.and u64 (Int.fdiv x2 1) 7%18446744073709551616-18446744073709551616 else bits BinOp.and u64 (Int.fdiv x2 1) 7%18446744073709551616),(if(IntKind.signed i64&&decide (bits BinOp.and u64 (Int.fdiv x2 8) 1023%18446744073709551616>=9223372036854775808))=true then bits BinOp.and u64 (Int.fdiv x2 8) 1023%18446744073709551616-18446744073709551616 else bits BinOp.and u64 (Int.fdiv x2 8) 1023%18446744073709551616),(if(IntKind.signed i64&&decide (bits BinOp.and u64 (Int.fdiv x2 8192) 3%18446744073709551616>=9223372036854775808))=true then bits BinOp.and u64 (Int.fdiv x2 8192) 3%18446744073709551616-18446744073709551616 else bits BinOp.and u64 (Int.fdiv x2 8192) 3%18446744073709551616),(if(IntKind.signed i64&&decide (bits BinOp.and u64 (Int.fdiv x2 65536) 127%18446744073709551616>=9223372036854775808))=true then bits BinOp.and u64 (Int.fdiv x2 65536) 127%18446744073709551616-18446744073709551616 else bits BinOp.and u64 (Int.fdiv x2 65536) 127%18446744073709551616)⟩
def vY(k:Int):T Pg:=xjY g k .ret
theorem xqj(k:Int)(κ:Pg->T β):(vY g k).bind κ=xjY g k κ:=by
 unfold vY xjY
 simp only[bz]
def Ws:Sm:=fun
 | [.c .port,.agg gc,.c (.int .i64 nd)],[]=>(match xv gc with
   | some g=>some (mkS ((Int×Bool)) (kF g nd) fun r=>some (.tup [.c (.int .u64 r.1),.c (.bool r.2)],[]))
   | _=>none)
 | _,_=>none
theorem xgJ:Good Tryz.prog (xo ka3b) xa 0 (lsAt jl .no [1,0,1,0]) (Tryz.f286.body.getD .skip) (xt Tryz.f286.results.toList):=xz (xi (by kernel_rfl)) xy xjT
variable{σ:Type}{I:Port Tryz.prog σ}
theorem xjZ(hl:SoundL I ka3b):SoundF I 286 Ws:=by
 refine sq hl xa Tryz.func286 fun _ _ t ht =>?_
 unfold Ws at ht
 split at ht
 ·rename_i gc nd
  split at ht
  ·rename_i g hg
   obtain rfl:=xe hg
   cases ht
   refine(xE (P:= Tryz.prog) (n:=xa) (x:=(lsAt jl .no [1,0,1,0])) (fn:= Tryz.f286) (H :=[]) (c:= Tryz.f286.body.getD .skip) (xi (by kernel_rfl)) xgJ).symm.trans ?_
   exact ey (xgH g nd _)
  ·cases ht
 ·cases ht
def xaQ:Sm:=fun
 | [.agg (.port::gc),.c (.int .i64 n),.c (.bool l)],[]=>(match xv gc with
   | some g=>some (mkS (Unit) (vO g n l) fun r=>some (.tup [],[]))
   | _=>none)
 | _,_=>none
theorem xmS(hl:SoundL I ka3b):SoundF I 223 xaQ:=by
 refine sq hl 1 Tryz.func223 fun _ _ t ht =>?_
 unfold xaQ at ht
 split at ht
 ·rename_i gc n l
  split at ht
  ·rename_i g hg
   obtain rfl:=xe hg
   cases ht
   exact ey (xjU g n l _)
  ·cases ht
 ·cases ht
def xqk:Sm:=fun
 | [.agg (.port::gc),.c (.int .i64 k)],[]=>(match xv gc with
   | some g=>some (mkS (Bool) (anyT g k) fun r=>some (.c (.bool r),[]))
   | _=>none)
 | _,_=>none
theorem xum:Good Tryz.prog (xo ka3b) xa 0 (lsAt xc1 .no [1,0,1,0]) (Tryz.f281.body.getD .skip) (xt Tryz.f281.results.toList):=xz (xi (by kernel_rfl)) xy xwy
theorem xwz(hl:SoundL I ka3b):SoundF I 281 xqk:=by
 refine sq hl xa Tryz.func281 fun _ _ t ht =>?_
 unfold xqk at ht
 split at ht
 ·rename_i gc k
  split at ht
  ·rename_i g hg
   obtain rfl:=xe hg
   cases ht
   refine(xE (P:= Tryz.prog) (n:=xa) (x:=(lsAt xc1 .no [1,0,1,0])) (fn:= Tryz.f281) (H :=[]) (c:= Tryz.f281.body.getD .skip) (xi (by kernel_rfl)) xum).symm.trans ?_
   exact ey (xuk g k _)
  ·cases ht
 ·cases ht
def xaR:Sm:=fun
 | [.c (.int .i64 c),.c (.int .i64 o)],[]=>some (mkS ((Int×Bool)) (XK c o) fun r=>some (.tup [.c (.int .i64 r.1),.c (.bool r.2)],[]))
 | _,_=>none
theorem xmT(hl:SoundL I ka3b):SoundF I 177 xaR:=by
 refine sq hl 1 Tryz.func177 fun _ _ t ht =>?_
 unfold xaR at ht
 split at ht
 ·rename_i c o
  cases ht
  exact ey (xjW c o _)
 ·cases ht
def xta:Sm:=gS fun
 | g,[.c (.int .i64 p),.c (.int .i64 k)]=>some (mkS (Int) (xhH g p k) fun r=>some (.c (.int .i64 r),[]))
 | _,_=>none
theorem xun(hl:SoundL I ka3b):SoundF I 262 xta:=by
 refine gsq hl 1 Tryz.func262 fun g l t ht =>?_
 split at ht
 ·rename_i p k
  cases ht
  exact ey (xqg g p k _)
 ·cases ht
def xep:Sm:=fun
 | [.c .port,.agg gc,.c (.int .i64 p),.c (.int .i64 k)],[]=>(match xv gc with
   | some g=>some (mkS ((Int×Bool)) (xaP g p k) fun r=>some (.tup [.c (.int .i64 r.1),.c (.bool r.2)],[]))
   | _=>none)
 | _,_=>none
theorem xmU:Good Tryz.prog (xo ka3b) xa 0 (lsAt XM .no [1,1,0,0]) (Tryz.f261.body.getD .skip) (xt Tryz.f261.results.toList):=xz (xi (by kernel_rfl)) xy xqh
theorem xql(hl:SoundL I ka3b):SoundF I 261 xep:=by
 refine sq hl xa Tryz.func261 fun _ _ t ht =>?_
 unfold xep at ht
 split at ht
 ·rename_i gc p k
  split at ht
  ·rename_i g hg
   obtain rfl:=xe hg
   cases ht
   refine(xE (P:= Tryz.prog) (n:=xa) (x:=(lsAt XM .no [1,1,0,0])) (fn:= Tryz.f261) (H :=[]) (c:= Tryz.f261.body.getD .skip) (xi (by kernel_rfl)) xmU).symm.trans ?_
   exact ey (xmR g p k _)
  ·cases ht
 ·cases ht
def xj0:Sm:=fun
 | [.c .port,.agg gc,.c (.int .i64 k)],[]=>(match xv gc with
   | some g=>some (mkS (Bool) (xhJ g k) fun r=>some (.c (.bool r),[]))
   | _=>none)
 | _,_=>none
theorem xqm:Good Tryz.prog (xo ka3b) xa 0 (lsAt VR .no [1,1,0,0]) (Tryz.f88.body.getD .skip) (xt Tryz.f88.results.toList):=xz (xi (by kernel_rfl)) xy xul
theorem xuo(hl:SoundL I ka3b):SoundF I 88 xj0:=by
 refine sq hl xa Tryz.func88 fun _ _ t ht =>?_
 unfold xj0 at ht
 split at ht
 ·rename_i gc k
  split at ht
  ·rename_i g hg
   obtain rfl:=xe hg
   cases ht
   refine(xE (P:= Tryz.prog) (n:=xa) (x:=(lsAt VR .no [1,1,0,0])) (fn:= Tryz.f88) (H :=[]) (c:= Tryz.f88.body.getD .skip) (xi (by kernel_rfl)) xqm).symm.trans ?_
   exact ey (xqi g k _)
  ·cases ht
 ·cases ht
def xtb:Sm:=gS fun
 | g,[.c (.int .i64 k)]=>some (mkS (Pg) (vY g k) fun r=>some (.agg r.cells,[]))
 | _,_=>none
theorem xup(hl:SoundL I ka3b):SoundF I 84 xtb:=by
 refine gsq hl 1 Tryz.func84 fun g l t ht =>?_
 split at ht
 ·rename_i k
  cases ht
  exact ey (xqj g k _)
 ·cases ht
def ka4:List (Nat×Sm):=(286,Ws)::(223,xaQ)::(281,xqk)::(177,xaR)::(262,xta)::(261,xep)::(88,xj0)::(84,xtb)::ka3b
theorem YW:SoundL I ka4:=(.cons (xjZ qw) (.cons (xmS qw) (.cons (xwz qw) (.cons (xmT qw) (.cons (xun qw) (.cons (xql qw) (.cons (xuo qw) (.cons (xup qw) qw))))))))
end Lx
namespace Lx
variable{β:Type}(g:Geo)
open Go
def xaS(b0:Bool)(a1:Int)(b2:Bool)(g3:Geo)(a4:Int)(κ0:Unit->T β)(κ1:Unit->T β)(i:Unit)(k:Unit->T β):T β:=
 bif b2 then((YU g3 a4).bind fun r1=>
 (XK r1.cls a1).bind fun r2=>
 bif !r1.has then(κ0 ()) else
 bif !r2.2 then(κ0 ()) else
 bif bif decide (r2.1<0)then false else true then(bif bits BinOp.and u8     (Int.fdiv r1.map (2 ^ if Int.toNat r2.1<=nat_lit 8 then Int.toNat r2.1 else nat_lit 8)) 1 ==   1 then(κ0 ()) else
 bif bif decide (r2.1<0)then false else true then((Zz g3 a4 {map:=r1.map,has:=r1.has,cls:=r1.cls,ver:=r1.ver}   {     map:=       bits BinOp.or u8 r1.map         (u8.wrap           (1*2 ^ if Int.toNat r2.1<=nat_lit 8 then Int.toNat r2.1 else nat_lit 8)),     has:=r1.has,cls:=r1.cls,ver:=r1.ver}).bind fun r8=>
 bif r8 then(κ1 ()) else
 k ()) else
 .fail) else
 .fail) else
 κ0 ()
def wh(b0:Bool)(a1:Int)(b2:Bool)(g3:Geo)(a4:Int)  (κ0:Unit->T β) (κ1:Unit->T β):T β:=xr xa (xaS b0 a1 b2 g3 a4 κ0 κ1) ()
theorem xeq{β γ:Type}(b0:Bool)(a1:Int)(b2:Bool)(g3:Geo)(a4:Int)  (κ0:Unit->T β) (κ1:Unit->T β) (κ:β->T γ):(wh b0 a1 b2 g3 a4  κ0 κ1).bind κ=wh b0 a1 b2 g3 a4  (fun u=>(κ0 u).bind κ) (fun u=>(κ1 u).bind κ):=by
 unfold wh
 refine xj κ (fun i k =>?_) _ _
 unfold xaS
 simp only[bz]
def xer:Pat:=⟨xm 58 0 [(6,.c (.bool)),(7,.c (.raw (.ptr 1 0))),(8,.c (.int .i64)),(9,.c (.bool))],[none,some ⟨[.raw (.port),.geo,.int .i64],234,false,none⟩]⟩
def xb1:Pat:=⟨xm 58 0 [(6,.c (.bool))],[]⟩
def XN:LF:=fun st K=>match xq xer st with
 | some [.b b0,.i a1,.b b2,.g g3,.i a4]=>some (wh b0 a1 b2 g3 a4  (fun _=>K (.exit 0) (xd xb1 [.b b0])) (fun _=>K (.ret) (xd xb1 [.b true])))
 | _=>none
theorem xqn : ∀st K t,XN st K=some t->xA xa (lf ka4 xa 0 .no [1,1,0,0] Tryz.f91 K) st=t:=by
 intro st K t h
 unfold XN at h
 split at h
 ·rename_i b0 a1 b2 g3 a4 hm
  cases h
  rw[xk hm]
  unfold wh
  exact xu (S:=fun(i:Unit)=>xd xer [.b b0,.i a1,.b b2,.g g3,.i a4]) (fun i k=>by kernel_rfl) xa ()
 ·cases h
def xc3(k:Int)(κ:Bool->T β):T β:=
 bif decide (k<0)then(κ (false)) else
 bif decide (k>=i64.wrap (g.pages*8))then(κ (false)) else
 wh (false) (i64.wrap (Int.tmod k 8*8)) (true) (g) (i64.wrap (Int.tdiv k 8)) (fun y2_0=>
 κ (false)) (fun y2_0=>
 κ (true))
def Wt(k:Int):T Bool:=xc3 g k .ret
theorem xmV(k:Int)(κ:Bool->T β):(Wt g k).bind κ=xc3 g k κ:=by
 unfold Wt xc3
 simp only[bz,xeq]
def XO(a0:Int)(g2:Geo)(a3:Int)(κ0:Int->T β)(i:Int)(k:Int->T β):T β:=
 bif i != 0 then(.op (.cas (atF g2 9 a0) (i) (0)) fun b1=>
 bif !b1 then(.op (.load (atF g2 9 a0)) fun x3=>
 k x3) else
 κ0 (i)) else
 κ0 (i)
def yh(a0:Int)(g2:Geo)(a3 a1:Int)(κ0:Int->T β):T β:=xr xa (XO a0 g2 a3 κ0) a1
theorem kG{β γ:Type}(a0:Int)(g2:Geo)(a3 a1:Int)(κ0:Int->T β)(κ:β->T γ):(yh a0 g2 a3 a1 κ0).bind κ=yh a0 g2 a3 a1 (fun ae0=>(κ0 ae0).bind κ):=by
 unfold yh
 refine xj κ (fun i k =>?_) _ _
 unfold XO
 simp only[bz]
def xes:Pat:=⟨xm 84 0 [(2,.c (.int .i64)),(6,.c (.raw (.nils))),(7,.c (.raw (.ptr 1 0))),(8,.c (.int .u64))],[none,some ⟨[.raw (.port),.geo,.int .i64],234,false,none⟩]⟩
def xmW:Pat:=⟨xm 84 0 [(6,.c (.raw (.nils))),(7,.c (.raw (.ptr 1 0))),(8,.c (.int .u64))],[none,some ⟨[.raw (.port),.geo,.int .i64],234,false,none⟩]⟩
def XP:LF:=fun st K=>match xq xes st with
 | some [.i a0,.i a1,.g g2,.i a3]=>some (yh a0 g2 a3 a1 (fun ae0=>K (.exit 0) (xd xmW [.i ae0,.g g2,.i a3])))
 | _=>none
theorem xqo : ∀st K t,XP st K=some t->xA xa (lf ka4 xa 0 .no [1,1,1,1,0,0] Tryz.f260 K) st=t:=by
 intro st K t h
 unfold XP at h
 split at h
 ·rename_i a0 a1 g2 a3 hm
  cases h
  rw[xk hm]
  unfold yh
  exact xu (S:=fun(i:Int)=>xd xes [.i a0,.i i,.g g2,.i a3]) (fun i k=>by kernel_rfl) xa a1
 ·cases h
def xc4(p:Int)(κ:(List Int)->T β):T β:=
 (isT g p 0).bind fun r0=>
 bif !r0 then(κ []) else
 .op (.load (atF g 9 p)) fun x2=>
 yh (p) (g) (p) x2 (fun y3_0=>
 bif y3_0 != 0 then(.op (.load (atF g 10 (i64.wrap (i64.wrap y3_0-1)))) fun x5=>
 bif x5 != 0 then(.op (.load (atF g 10 (i64.wrap (i64.wrap x5-1)))) fun x7=>
 bif x7 != 0 then(.op (.load (atF g 10 (i64.wrap (i64.wrap x7-1)))) fun x9=>
 bif x9 != 0 then(.op (.load (atF g 10 (i64.wrap (i64.wrap x9-1)))) fun x11=>
 bif x11 != 0 then(.op (.load (atF g 10 (i64.wrap (i64.wrap x11-1)))) fun x13=>
 bif x13 != 0 then(.op (.load (atF g 10 (i64.wrap (i64.wrap x13-1)))) fun x15=>
 bif x15 != 0 then(.op (.load (atF g 10 (i64.wrap (i64.wrap x15-1)))) fun x17=>
 bif x17 != 0 then(.op (.load (atF g 10 (i64.wrap (i64.wrap x17-1)))) fun x19=>
 bif x19 != 0 then(κ [(i64.wrap (i64.wrap y3_0-1)),(i64.wrap (i64.wrap x5-1)),(i64.wrap (i64.wrap x7-1)),(i64.wrap (i64.wrap x9-1)),(i64.wrap (i64.wrap x11-1)),(i64.wrap (i64.wrap x13-1)),(i64.wrap (i64.wrap x15-1)),(i64.wrap (i64.wrap x17-1))]) else
 κ [(i64.wrap (i64.wrap y3_0-1)),(i64.wrap (i64.wrap x5-1)),(i64.wrap (i64.wrap x7-1)),(i64.wrap (i64.wrap x9-1)),(i64.wrap (i64.wrap x11-1)),(i64.wrap (i64.wrap x13-1)),(i64.wrap (i64.wrap x15-1)),(i64.wrap (i64.wrap x17-1))]) else
 κ [(i64.wrap (i64.wrap y3_0-1)),(i64.wrap (i64.wrap x5-1)),(i64.wrap (i64.wrap x7-1)),(i64.wrap (i64.wrap x9-1)),(i64.wrap (i64.wrap x11-1)),(i64.wrap (i64.wrap x13-1)),(i64.wrap (i64.wrap x15-1))]) else
 κ [(i64.wrap (i64.wrap y3_0-1)),(i64.wrap (i64.wrap x5-1)),(i64.wrap (i64.wrap x7-1)),(i64.wrap (i64.wrap x9-1)),(i64.wrap (i64.wrap x11-1)),(i64.wrap (i64.wrap x13-1))]) else
 κ [(i64.wrap (i64.wrap y3_0-1)),(i64.wrap (i64.wrap x5-1)),(i64.wrap (i64.wrap x7-1)),(i64.wrap (i64.wrap x9-1)),(i64.wrap (i64.wrap x11-1))]) else
 κ [(i64.wrap (i64.wrap y3_0-1)),(i64.wrap (i64.wrap x5-1)),(i64.wrap (i64.wrap x7-1)),(i64.wrap (i64.wrap x9-1))]) else
 κ [(i64.wrap (i64.wrap y3_0-1)),(i64.wrap (i64.wrap x5-1)),(i64.wrap (i64.wrap x7-1))]) else
 κ [(i64.wrap (i64.wrap y3_0-1)),(i64.wrap (i64.wrap x5-1))]) else
 κ [(i64.wrap (i64.wrap y3_0-1))]) else
 κ [])
def xqp(p:Int):T (List Int):=xc4 g p .ret
theorem xb2(p:Int)(κ:(List Int)->T β):(xqp g p).bind κ=xc4 g p κ:=by
 unfold xqp xc4
 simp only[bz,kG]
def xtc(p n:Int)(κ:Unit->T β):T β:=
 bif n==0 then(κ ()) else
 bif decide (n>1)then((ji g (i64.wrap (i64.wrap (p+n)-1)) 2 n).bind fun r2=>
 (ji g p 1 n).bind fun r3=>
 (vO g n false).bind fun r4=>
 κ ()) else
 (ji g p 1 n).bind fun r2=>
 (vO g n false).bind fun r3=>
 κ ()
def layT(p n:Int):T Unit:=xtc g p n .ret
theorem xuq(p n:Int)(κ:Unit->T β):(layT g p n).bind κ=xtc g p n κ:=by
 unfold layT xtc
 simp only[bz]
def xet(a0 a1:Int)(g3:Geo)(a4 a5 a6:Int)(κ0:Int->Int->Int->T β)(i:Int×Int×Int×Int)(k:Int×Int×Int×Int->T β):T β:=
 bif decide (i.1<g3.pages)then((YT g3 i.1).bind fun r1=>
 bif bif a1==0 then false else true then(bif r1.kind==1 then(bif decide   (i64.wrap       (i64.wrap           (i64.wrap               (Int.tdiv (i64.wrap (i64.wrap (i.1+a1)-1)) a1) *             a1) +         a0) <=     i64.wrap (i.1+r1.len))then(bif i.2.2.1==0 then((vM {kind:=r1.kind,len:=r1.len,cls:=r1.cls,owner:=r1.owner}).bind fun r6=>
 k (i64.wrap (i.1+r6),i.1,r1.len,i64.wrap   (i64.wrap (Int.tdiv (i64.wrap (i64.wrap (i.1+a1)-1)) a1) *     a1))) else
 bif decide (r1.len<i.2.2.1)then((vM {kind:=r1.kind,len:=r1.len,cls:=r1.cls,owner:=r1.owner}).bind fun r7=>
 k (i64.wrap (i.1+r7),i.1,r1.len,i64.wrap   (i64.wrap (Int.tdiv (i64.wrap (i64.wrap (i.1+a1)-1)) a1) *     a1))) else
 (vM {kind:=r1.kind,len:=r1.len,cls:=r1.cls,owner:=r1.owner}).bind fun r7=>
 k (i64.wrap (i.1+r7),i.2.1,i.2.2.1,i.2.2.2)) else
 (vM {kind:=r1.kind,len:=r1.len,cls:=r1.cls,owner:=r1.owner}).bind fun r5=>
 k (i64.wrap (i.1+r5),i.2.1,i.2.2.1,i.2.2.2)) else
 (vM {kind:=r1.kind,len:=r1.len,cls:=r1.cls,owner:=r1.owner}).bind fun r4=>
 k (i64.wrap (i.1+r4),i.2.1,i.2.2.1,i.2.2.2)) else
 .fail) else
 κ0 (i.2.1) (i.2.2.1) (i.2.2.2)
def kH(a0 a1:Int)(g3:Geo)(a4 a5 a6 a2 a7 a8 a9:Int)(κ0:Int->Int->Int->T β):T β:=xr xa (xet a0 a1 g3 a4 a5 a6 κ0) (a2,a7,a8,a9)
theorem xgK{β γ:Type}(a0 a1:Int)(g3:Geo)(a4 a5 a6 a2 a7 a8 a9:Int)(κ0:Int->Int->Int->T β)(κ:β->T γ):(kH a0 a1 g3 a4 a5 a6 a2 a7 a8 a9 κ0).bind κ=kH a0 a1 g3 a4 a5 a6 a2 a7 a8 a9 (fun ae3 ae4 ae5=>(κ0 ae3 ae4 ae5).bind κ):=by
 unfold kH
 refine xj κ (fun i k =>?_) _ _
 unfold xet
 simp only[bz]
def xhK:Pat:=⟨xm 67 0 [(1,.c (.int .i64)),(2,.c (.int .i64)),(3,.c (.raw (.ptr 0 0))),(6,.c (.raw (.ptr 1 0))),(7,.c (.raw (.ptr 2 0))),(8,.c (.int .i64))],[some ⟨[.raw (.port),.geo],212,false,none⟩,some ⟨[.int .i64,.int .i64,.int .i64],296,false,none⟩,some ⟨[.int .i64,.int .i64,.int .i64],296,false,none⟩]⟩
def xqq:Pat:=⟨xm 67 0 [(6,.c (.raw (.ptr 1 0))),(7,.c (.raw (.ptr 2 0)))],[none,some ⟨[.int .i64,.int .i64,.int .i64],296,false,none⟩,some ⟨[.int .i64,.int .i64,.int .i64],296,false,none⟩]⟩
def VS:LF:=fun st K=>match xq xhK st with
 | some [.i a0,.i a1,.i a2,.g g3,.i a4,.i a5,.i a6,.i a7,.i a8,.i a9]=>some (kH a0 a1 g3 a4 a5 a6 a2 a7 a8 a9 (fun ae3 ae4 ae5=>K (.exit 0) (xd xqq [.i a4,.i a5,.i a6,.i ae3,.i ae4,.i ae5])))
 | _=>none
theorem xur : ∀st K t,VS st K=some t->xA xa (lf ka4 xa 0 .no [1,1,1,0,1,0] Tryz.f263 K) st=t:=by
 intro st K t h
 unfold VS at h
 split at h
 ·rename_i a0 a1 a2 g3 a4 a5 a6 a7 a8 a9 hm
  cases h
  rw[xk hm]
  unfold kH
  exact xu (S:=fun(i:Int×Int×Int×Int)=>xd xhK [.i a0,.i a1,.i (i.1),.g g3,.i a4,.i a5,.i a6,.i (i.2.1),.i (i.2.2.1),.i (i.2.2.2)]) (fun i k=>by kernel_rfl) xa (a2,a7,a8,a9)
 ·cases h
def xj1(k a:Int)(κ:Fit->T β):T β:=
 (anyT g k).bind fun r0=>
 bif !r0 then(κ ⟨(0),(0),(0)⟩) else
 kH (k) (a) (g) (0) (0) (0) (0) (0) (0) (0) (fun y2_0 y2_1 y2_2=>
 κ ⟨(y2_0),y2_1,(y2_2)⟩)
def xhL(k a:Int):T Fit:=xj1 g k a .ret
theorem xqr(k a:Int)(κ:Fit->T β):(xhL g k a).bind κ=xj1 g k a κ:=by
 unfold xhL xj1
 simp only[bz,xgK]
def xeu(x:Int)(κ:Int->T β):T β:=
 κ (-1)
def xj2(x:Int):T Int:=xeu x .ret
theorem xj3(x:Int)(κ:Int->T β):(xj2 x).bind κ=xeu x κ:=by
 unfold xj2 xeu
 simp only[bz]
def XQ(x k:Int)(κ:Int->T β):T β:=
 bif x==k then(κ (0)) else
 κ (-1)
def ZD(x k:Int):T Int:=XQ x k .ret
theorem xgL(x k:Int)(κ:Int->T β):(ZD x k).bind κ=XQ x k κ:=by
 unfold ZD XQ
 simp only[bz]
def VT(x k j:Int)(κ:Int->T β):T β:=
 bif x==k then(κ (0)) else
 bif x==j then(κ (1)) else
 κ (-1)
def VU(x k j:Int):T Int:=VT x k j .ret
theorem xj4(x k j:Int)(κ:Int->T β):(VU x k j).bind κ=VT x k j κ:=by
 unfold VU VT
 simp only[bz]
def xaT(a0:Int)(g1:Geo)(a2 a3 a4 a5:Int)(b6:Bool)(a7:Int)(κ0:Int->Int->Int->Int->Bool->Int->T β)(i:Unit)(k:Unit->T β):T β:=
 (VN g1 a0).bind fun r0=>
 bif !r0.live then(κ0 (r0.kind) (r0.size) (r0.other) (r0.ver) (r0.live) (r0.lin)) else
 .op (.cas (atF g1 11 a0) (Stt.word {kind:=r0.kind,size:=r0.size,other:=r0.other,ver:=r0.ver}) (0)) fun b2=>
 bif b2 then(.op (.steps) fun x4=>
 κ0 (r0.kind) (r0.size) (r0.other) (r0.ver) (r0.live) x4) else
 k ()
def wi(a0:Int)(g1:Geo)(a2 a3 a4 a5:Int)(b6:Bool)(a7:Int)  (κ0:Int->Int->Int->Int->Bool->Int->T β):T β:=xr xa (xaT a0 g1 a2 a3 a4 a5 b6 a7 κ0) ()
theorem xev{β γ:Type}(a0:Int)(g1:Geo)(a2 a3 a4 a5:Int)(b6:Bool)(a7:Int)  (κ0:Int->Int->Int->Int->Bool->Int->T β) (κ:β->T γ):(wi a0 g1 a2 a3 a4 a5 b6 a7  κ0).bind κ=wi a0 g1 a2 a3 a4 a5 b6 a7  (fun ae0 ae1 ae2 ae3 be4 ae5=>(κ0 ae0 ae1 ae2 ae3 be4 ae5).bind κ):=by
 unfold wi
 refine xj κ (fun i k =>?_) _ _
 unfold xaT
 simp only[bz]
def xew:Pat:=⟨xm 31 0 [(0,.c (.raw (.port))),(2,.c (.int .i64)),(4,.c (.raw (.ptr 0 0))),(6,.c (.raw (.ptr 1 0)))],[some ⟨[.geo],24,false,none⟩,some ⟨[.int .i64,.int .i64,.int .i64,.int .u32,.bool,.int .i64],145,false,none⟩]⟩
def xmX:Pat:=⟨xm 31 0 [(6,.c (.raw (.ptr 1 0)))],[none,some ⟨[.int .i64,.int .i64,.int .i64,.int .u32,.bool,.int .i64],145,false,none⟩]⟩
def XR:LF:=fun st K=>match xq xew st with
 | some [.i a0,.g g1,.i a2,.i a3,.i a4,.i a5,.b b6,.i a7]=>some (wi a0 g1 a2 a3 a4 a5 b6 a7  (fun ae0 ae1 ae2 ae3 be4 ae5=>K (.ret) (xd xmX [.i ae0,.i ae1,.i ae2,.i ae3,.b be4,.i ae5])))
 | _=>none
theorem xqs : ∀st K t,XR st K=some t->xA xa (lf ka4 xa 0 .no [1,0] Tryz.f82 K) st=t:=by
 intro st K t h
 unfold XR at h
 split at h
 ·rename_i a0 g1 a2 a3 a4 a5 b6 a7 hm
  cases h
  rw[xk hm]
  unfold wi
  exact xu (S:=fun(i:Unit)=>xd xew [.i a0,.g g1,.i a2,.i a3,.i a4,.i a5,.b b6,.i a7]) (fun i k=>by kernel_rfl) xa ()
 ·cases h
def xc5(k:Int)(κ:Seen->T β):T β:=
 wi (k) (g) (0) (0) (0) (0) (false) (0) (fun y0_0 y0_1 y0_2 y0_3 y0_4 y0_5=>
 κ ⟨(y0_0),y0_1,y0_2,y0_3,y0_4,(y0_5)⟩)
def xaU(k:Int):T Seen:=xc5 g k .ret
theorem xmY(k:Int)(κ:Seen->T β):(xaU g k).bind κ=xc5 g k κ:=by
 unfold xaU xc5
 simp only[bz,xev]
def XS(s:Int)(κ:Int->T β):T β:=
 bif decide (s<1)then(κ (0)) else
 κ (i64.wrap (i64.wrap (Int.tdiv (i64.wrap (s-1)) 64)+1))
def jP(s:Int):T Int:=XS s .ret
theorem xgM(s:Int)(κ:Int->T β):(jP s).bind κ=XS s κ:=by
 unfold jP XS
 simp only[bz]
def xex:Sm:=fun
 | [.c .port,.agg gc,.c (.int .i64 k)],[]=>(match xv gc with
   | some g=>some (mkS (Bool) (Wt g k) fun r=>some (.c (.bool r),[]))
   | _=>none)
 | _,_=>none
theorem xmZ:Good Tryz.prog (xo ka4) xa 0 (lsAt XN .no [1,1,0,0]) (Tryz.f91.body.getD .skip) (xt Tryz.f91.results.toList):=xz (xi (by kernel_rfl)) xy xqn
variable{σ:Type}{I:Port Tryz.prog σ}
theorem xqt(hl:SoundL I ka4):SoundF I 91 xex:=by
 refine sq hl xa Tryz.func91 fun _ _ t ht =>?_
 unfold xex at ht
 split at ht
 ·rename_i gc k
  split at ht
  ·rename_i g hg
   obtain rfl:=xe hg
   cases ht
   refine(xE (P:= Tryz.prog) (n:=xa) (x:=(lsAt XN .no [1,1,0,0])) (fn:= Tryz.f91) (H :=[]) (c:= Tryz.f91.body.getD .skip) (xi (by kernel_rfl)) xmZ).symm.trans ?_
   exact ey (xmV g k _)
  ·cases ht
 ·cases ht
def xey:Sm:=fun
 | [.c .port,.agg gc,.c (.int .i64 p)],[]=>(match xv gc with
   | some g=>some ⟨(List Int),xqp g p,fun r=>some (listR r),fun _ κ=>xc4 g p κ,fun _ κ=>(xb2 g p κ).symm⟩
   | _=>none)
 | _,_=>none
theorem xm0:Good Tryz.prog (xo ka4) xa 0 (lsAt XP .no [1,1,1,1,0,0]) (Tryz.f260.body.getD .skip) (xt Tryz.f260.results.toList):=xz (xi (by kernel_rfl)) xy xqo
theorem xqu(hl:SoundL I ka4):SoundF I 260 xey:=by
 refine sq hl xa Tryz.func260 fun _ _ t ht =>?_
 unfold xey at ht
 split at ht
 ·rename_i gc p
  split at ht
  ·rename_i g hg
   obtain rfl:=xe hg
   cases ht
   refine(xE (P:= Tryz.prog) (n:=xa) (x:=(lsAt XP .no [1,1,1,1,0,0])) (fn:= Tryz.f260) (H :=[]) (c:= Tryz.f260.body.getD .skip) (xi (by kernel_rfl)) xm0).symm.trans ?_
   exact ey (xb2 g p _)
  ·cases ht
 ·cases ht
def xqv:Sm:=fun
 | [.agg (.port::gc),.c (.int .i64 p),.c (.int .i64 n)],[]=>(match xv gc with
   | some g=>some (mkS (Unit) (layT g p n) fun r=>some (.tup [],[]))
   | _=>none)
 | _,_=>none
theorem xwA(hl:SoundL I ka4):SoundF I 152 xqv:=by
 refine sq hl 1 Tryz.func152 fun _ _ t ht =>?_
 unfold xqv at ht
 split at ht
 ·rename_i gc p n
  split at ht
  ·rename_i g hg
   obtain rfl:=xe hg
   cases ht
   exact ey (xuq g p n _)
  ·cases ht
 ·cases ht
def xj5:Sm:=fun
 | [.agg (.port::gc),.c (.int .i64 k),.c (.int .i64 a)],[]=>(match xv gc with
   | some g=>some (mkS (Fit) (xhL g k a) fun r=>some (.agg r.cells,[]))
   | _=>none)
 | _,_=>none
theorem xqw:Good Tryz.prog (xo ka4) xa 0 (lsAt VS .no [1,1,1,0,1,0]) (Tryz.f263.body.getD .skip) (xt Tryz.f263.results.toList):=xz (xi (by kernel_rfl)) xy xur
theorem xus(hl:SoundL I ka4):SoundF I 263 xj5:=by
 refine sq hl xa Tryz.func263 fun _ _ t ht =>?_
 unfold xj5 at ht
 split at ht
 ·rename_i gc k a
  split at ht
  ·rename_i g hg
   obtain rfl:=xe hg
   cases ht
   refine(xE (P:= Tryz.prog) (n:=xa) (x:=(lsAt VS .no [1,1,1,0,1,0])) (fn:= Tryz.f263) (H :=[]) (c:= Tryz.f263.body.getD .skip) (xi (by kernel_rfl)) xqw).symm.trans ?_
   exact ey (xqr g k a _)
  ·cases ht
 ·cases ht
def xaV:Sm:=fun
 | [.c .nils,.c (.int .i64 x)],[]=>some (mkS (Int) (xj2 x) fun r=>some (.c (.int .i64 r),[]))
 | _,_=>none
theorem xm1(hl:SoundL I ka4):SoundF I 271 xaV:=by
 refine sq hl 5 Tryz.func271 fun _ _ t ht =>?_
 unfold xaV at ht
 split at ht
 ·rename_i x
  cases ht
  exact ey (xj3 x _)
 ·cases ht
def Wu:Sm:=fun
 | [.c (.sl 0 0 1 1),.c (.int .i64 x)],[some ⟨[.int .i64 k],3,false,none⟩]=>some (mkS (Int) (ZD x k) fun r=>some (.c (.int .i64 r),[some ⟨[.int .i64 k],3,false,none⟩]))
 | _,_=>none
theorem xj6(hl:SoundL I ka4):SoundF I 271 Wu:=by
 refine sq hl 5 Tryz.func271 fun _ _ t ht =>?_
 unfold Wu at ht
 split at ht
 ·rename_i x k
  cases ht
  exact ey (xgL x k _)
 ·cases ht
def xaW:Sm:=fun
 | [.c (.sl 0 0 2 2),.c (.int .i64 x)],[some ⟨[.int .i64 k,.int .i64 j],3,false,none⟩]=>some (mkS (Int) (VU x k j) fun r=>some (.c (.int .i64 r),[some ⟨[.int .i64 k,.int .i64 j],3,false,none⟩]))
 | _,_=>none
theorem xm2(hl:SoundL I ka4):SoundF I 271 xaW:=by
 refine sq hl 5 Tryz.func271 fun _ _ t ht =>?_
 unfold xaW at ht
 split at ht
 ·rename_i x k j
  cases ht
  exact ey (xj4 x k j _)
 ·cases ht
def xez:Sm:=fun
 | [.c .port,.agg gc,.c (.int .i64 k)],[]=>(match xv gc with
   | some g=>some (mkS (Seen) (xaU g k) fun r=>some (.agg r.cells,[]))
   | _=>none)
 | _,_=>none
theorem xm3:Good Tryz.prog (xo ka4) xa 0 (lsAt XR .no [1,0]) (Tryz.f82.body.getD .skip) (xt Tryz.f82.results.toList):=xz (xi (by kernel_rfl)) xy xqs
theorem xqx(hl:SoundL I ka4):SoundF I 82 xez:=by
 refine sq hl xa Tryz.func82 fun _ _ t ht =>?_
 unfold xez at ht
 split at ht
 ·rename_i gc k
  split at ht
  ·rename_i g hg
   obtain rfl:=xe hg
   cases ht
   refine(xE (P:= Tryz.prog) (n:=xa) (x:=(lsAt XR .no [1,0])) (fn:= Tryz.f82) (H :=[]) (c:= Tryz.f82.body.getD .skip) (xi (by kernel_rfl)) xm3).symm.trans ?_
   exact ey (xmY g k _)
  ·cases ht
 ·cases ht
def Wv:Sm:=fun
 | [.c (.int .i64 s)],[]=>some (mkS (Int) (jP s) fun r=>some (.c (.int .i64 r),[]))
 | _,_=>none
theorem xj7(hl:SoundL I ka4):SoundF I 78 Wv:=by
 refine sq hl 1 Tryz.func78 fun _ _ t ht =>?_
 unfold Wv at ht
 split at ht
 ·rename_i s
  cases ht
  exact ey (xgM s _)
 ·cases ht
def ka5:List (Nat×Sm):=(91,xex)::(260,xey)::(152,xqv)::(263,xj5)::(271,(orSm xaV (orSm Wu xaW)))::(82,xez)::(78,Wv)::ka4
theorem vZ:SoundL I ka5:=(.cons (xqt YW) (.cons (xqu YW) (.cons (xwA YW) (.cons (xus YW) (.cons (SoundF.or (xm1 YW) (SoundF.or (xj6 YW) (xm2 YW))) (.cons (xqx YW) (.cons (xj7 YW) YW)))))))
end Lx
end Go.Proofs.YtaegelbaghaooaaGreat
