/- Part. -/
import Derived.Test.YtcicjcggclhbfaaGreatCsM3
set_option linter.all false
open Go.IntKind (i64 u64 u32 u8)
set_option maxRecDepth 1000000
namespace Go.Proofs.YtcicjcggclhbfaaGreat
namespace Lx
variable{β:Type}(g:Geo)
open Go
def xsU(κ:Int->T β):T β:=
 .op (.self) fun x0=>
 κ (u64.wrap (u64.wrap x0+1))
def mineT  : T Int:=xsU  .ret
theorem xsV  (κ:Int->T β):(mineT).bind κ=xsU  κ:=by
 unfold mineT xsU
 simp only[bz]
def xln(k it:Int)(κ:Bool->T β):T β:=
 .op (.self) fun x0=>
 bif it==0 then(κ false) else
 bif decide (atF g 12 (inF (inF x0 k 4) 0 2)<0)then(κ false) else
 .op (.cas (atF g 12 (inF (inF x0 k 4) 0 2)) 0 it) fun b3=>
 bif b3 then(κ true) else
 .op (.self) fun x5=>
 bif it==0 then(κ false) else
 bif decide (atF g 12 (inF (inF x5 k 4) 1 2)<0)then(κ false) else
 .op (.cas (atF g 12 (inF (inF x5 k 4) 1 2)) 0 it) fun b8=>
 bif b8 then(κ true) else
 κ (false)
def xjF(k it:Int):T Bool:=xln g k it .ret
theorem xsW(k it)(κ:Bool->T β):(xjF g k it).bind κ=xln g k it κ:=by
 unfold xjF xln
 simp only[bz]
def xlo(v0:Geo)(v1 v2:Int)(v3:(Int×Bool)->T β):T β:=
 bif decide (atF v0 12 (inF (inF v1 v2 4) 1 2)<0)then(v3 (0,false)) else
 .op (.load (atF v0 12 (inF (inF v1 v2 4) 1 2))) fun x6=>
 bif x6 != 0 then(.op (.cas (atF v0 12 (inF (inF v1 v2 4) 1 2)) x6 0) fun b8=>
 bif b8 then(v3 (x6,true)) else
 v3 (0,false)) else
 v3 (0,false)
def xeh(t k:Int)(κ:(Int×Bool)->T β):T β:=
 bif decide (atF g 12 (inF (inF t k 4) 0 2)<0)then(κ (0,false)) else
 .op (.load (atF g 12 (inF (inF t k 4) 0 2))) fun x1=>
 bif x1 != 0 then(.op (.cas (atF g 12 (inF (inF t k 4) 0 2)) x1 0) fun b3=>
 bif b3 then(κ (x1,true)) else
 xlo g t k κ) else
 xlo g t k κ
def Zv(t k:Int):T (Int×Bool):=xeh g t k .ret
theorem xo4(t k)(κ:(Int×Bool)->T β):(Zv g t k).bind κ=xeh g t k κ:=by
 unfold Zv xeh xlo
 simp only[bz]
def KP(κ:Int->T β):T β:=
 .op (.self) fun x0=>
 .op (.add (atF g 6 x0) 1) fun x1=>
 .op (.self) fun x2=>
 κ (u32.wrap (u32.wrap (u32.wrap (u32.wrap x1+1)*64)+u32.wrap x2))
def qb:T Int:=KP g .ret
theorem xlp(κ:Int->T β):(qb g).bind κ=KP g κ:=by
 unfold qb KP
 simp only[bz]
def Vr(a b v:Int)(κ:Stt->T β):T β:=
 κ ⟨2,b,a,v⟩
def xbJ(a b v:Int):T Stt:=Vr a b v .ret
theorem xfK(a b v)(κ:Stt->T β):(xbJ a b v).bind κ=Vr a b v κ:=by
 unfold xbJ Vr
 simp only[bz]
def xlq(p:Int)(κ:Pg->T β):T β:=
 .op (.load (atF g 7 p)) fun x0=>
 κ ⟨((pgOf x0).kind),((pgOf x0).len),((pgOf x0).cls),((pgOf x0).owner)⟩
def Vc(p:Int):T Pg:=xlq g p .ret
theorem xsX(p)(κ:Pg->T β):(Vc g p).bind κ=xlq g p κ:=by
 unfold Vc xlq
 simp only[bz]
def xlr(p k n:Int)(κ:Unit->T β):T β:=
 .op (.store (atF g 7 p) ((Pg.mk k n 0 0).word)) fun _=>
 κ ()
def qK(p k n:Int):T Unit:=xlr g p k n .ret
theorem xsY(p k n)(κ:Unit->T β):(qK g p k n).bind κ=xlr g p k n κ:=by
 unfold qK xlr
 simp only[bz]
def xls(p:Int)(κ:Bt->T β):T β:=
 .op (.load (atF g 8 p)) fun x0=>
 κ ⟨((btOf x0).map),((btOf x0).has),((btOf x0).cls),((btOf x0).ver)⟩
def Vd(p:Int):T Bt:=xls g p .ret
theorem xsZ(p)(κ:Bt->T β):(Vd g p).bind κ=xls g p κ:=by
 unfold Vd xls
 simp only[bz]
def xei(p:Int)(was:Bt)(now:Bt)(κ:Bool->T β):T β:=
 .op (.cas (atF g 8 p) ((Bt.mk was.map was.has was.cls was.ver).word) ((Bt.mk now.map now.has now.cls now.ver).word)) fun b0=>
 κ b0
def Xz(p:Int)(was:Bt)(now:Bt):T Bool:=xei g p was now .ret
theorem xo5(p was now)(κ:Bool->T β):(Xz g p was now).bind κ=xei g p was now κ:=by
 unfold Xz xei
 simp only[bz]
def xlt(κ:Bool->T β):T β:=
 κ (g.pages==0)
def xs0:T Bool:=xlt g .ret
theorem xo6(κ:Bool->T β):(xs0 g).bind κ=xlt g κ:=by
 unfold xs0 xlt
 simp only[bz]
def xej(κ:Bool->T β):T β:=
 .op (.self) fun x0=>
 κ (atF g 15 x0 == -1)
def qy:T Bool:=xej g .ret
theorem xo7(κ:Bool->T β):(qy g).bind κ=xej g κ:=by
 unfold qy xej
 simp only[bz]
def xek(c:Int)(κ:Bool->T β):T β:=
 .op (.self) fun x0=>
 κ (atF g 13 (inF x0 c 4) == -1)
def XA(c:Int):T Bool:=xek g c .ret
theorem xo8(c)(κ:Bool->T β):(XA g c).bind κ=xek g c κ:=by
 unfold XA xek
 simp only[bz]
def xfL(it:Int)(κ:Int->T β):T β:=
 κ (i64.wrap (i64.wrap it-1))
def xlu(it:Int):T Int:=xfL it .ret
theorem xlv(it)(κ:Int->T β):(xlu it).bind κ=xfL it κ:=by
 unfold xlu xfL
 simp only[bz]
def xfM(s:Int)(κ:Int->T β):T β:=
 bif decide (s<1)then(κ 0) else
 κ (i64.wrap (i64.wrap ((i64.wrap (s-1)).tdiv 64)+1))
def xlw(s:Int):T Int:=xfM s .ret
theorem xlx(s)(κ:Int->T β):(xlw s).bind κ=xfM s κ:=by
 unfold xlw xfM
 simp only[bz]
def xfN(s:Int)(κ:Bool->T β):T β:=
 bif decide (s>0)then(κ (bits BinOp.and i64 s (i64.wrap (s-1))==0)) else
 κ (false)
def KQ(s:Int):T Bool:=xfN s .ret
theorem xly(s)(κ:Bool->T β):(KQ s).bind κ=xfN s κ:=by
 unfold KQ xfN
 simp only[bz]
def KR(s:Int)(κ:Bool->T β):T β:=
 bif decide (s>0)then(κ (bits BinOp.and i64 s (i64.wrap (s-1))==0)) else
 κ (false)
def Yy(s:Int):T Bool:=KR s .ret
theorem xlz(s)(κ:Bool->T β):(Yy s).bind κ=KR s κ:=by
 unfold Yy KR
 simp only[bz]
def xlA(w:Pg)(k:Int)(κ:Bool->T β):T β:=
 bif w.len==k then(bif w.kind==4 then(κ true) else
 bif w.kind==5 then(κ true) else
 κ (w.kind==3)) else
 κ (false)
def xjG(w:Pg)(k:Int):T Bool:=xlA w k .ret
theorem xs1(w k)(κ:Bool->T β):(xjG w k).bind κ=xlA w k κ:=by
 unfold xjG xlA
 simp only[bz]
def xbK(w:Pg)(κ:Int->T β):T β:=
 bif w.kind==0 then(κ 1) else
 bif w.kind==2 then(κ 1) else
 κ (if w.len<1 then 1 else w.len)
def kE(w:Pg):T Int:=xbK w .ret
theorem xs3(w)(κ:Int->T β):(kE w).bind κ=xbK w κ:=by
 unfold kE xbK
 simp only[bz]
def xel(nd it:Int)(κ:Bool->T β):T β:=
 .op (.load (atF g 18 (inF (i64.wrap (nd-1)) 0 8))) fun x0=>
 bif x0==0 then(.op (.store (atF g 18 (inF (i64.wrap (nd-1)) 0 8)) it) fun _=>
 κ true) else
 .op (.load (atF g 18 (inF (i64.wrap (nd-1)) 1 8))) fun x2=>
 bif x2==0 then(.op (.store (atF g 18 (inF (i64.wrap (nd-1)) 1 8)) it) fun _=>
 κ true) else
 .op (.load (atF g 18 (inF (i64.wrap (nd-1)) 2 8))) fun x4=>
 bif x4==0 then(.op (.store (atF g 18 (inF (i64.wrap (nd-1)) 2 8)) it) fun _=>
 κ true) else
 .op (.load (atF g 18 (inF (i64.wrap (nd-1)) 3 8))) fun x6=>
 bif x6==0 then(.op (.store (atF g 18 (inF (i64.wrap (nd-1)) 3 8)) it) fun _=>
 κ true) else
 .op (.load (atF g 18 (inF (i64.wrap (nd-1)) 4 8))) fun x8=>
 bif x8==0 then(.op (.store (atF g 18 (inF (i64.wrap (nd-1)) 4 8)) it) fun _=>
 κ true) else
 .op (.load (atF g 18 (inF (i64.wrap (nd-1)) 5 8))) fun fl=>
 bif fl==0 then(.op (.store (atF g 18 (inF (i64.wrap (nd-1)) 5 8)) it) fun _=>
 κ true) else
 .op (.load (atF g 18 (inF (i64.wrap (nd-1)) 6 8))) fun gd=>
 bif gd==0 then(.op (.store (atF g 18 (inF (i64.wrap (nd-1)) 6 8)) it) fun _=>
 κ true) else
 .op (.load (atF g 18 (inF (i64.wrap (nd-1)) 7 8))) fun gx=>
 bif gx==0 then(.op (.store (atF g 18 (inF (i64.wrap (nd-1)) 7 8)) it) fun _=>
 κ true) else
 κ (false)
def Vs(nd it:Int):T Bool:=xel g nd it .ret
theorem xo9(nd it)(κ:Bool->T β):(Vs g nd it).bind κ=xel g nd it κ:=by
 unfold Vs xel
 simp only[bz]
def xlB(nd:Int)(κ:Bool->T β):T β:=
 .op (.load (atF g 18 (inF (i64.wrap (nd-1)) 0 8))) fun x0=>
 bif x0 != 0 then(κ false) else
 .op (.load (atF g 18 (inF (i64.wrap (nd-1)) 1 8))) fun x2=>
 bif x2 != 0 then(κ false) else
 .op (.load (atF g 18 (inF (i64.wrap (nd-1)) 2 8))) fun x4=>
 bif x4 != 0 then(κ false) else
 .op (.load (atF g 18 (inF (i64.wrap (nd-1)) 3 8))) fun x6=>
 bif x6 != 0 then(κ false) else
 .op (.load (atF g 18 (inF (i64.wrap (nd-1)) 4 8))) fun x8=>
 bif x8 != 0 then(κ false) else
 .op (.load (atF g 18 (inF (i64.wrap (nd-1)) 5 8))) fun fl=>
 bif fl != 0 then(κ false) else
 .op (.load (atF g 18 (inF (i64.wrap (nd-1)) 6 8))) fun gd=>
 bif gd != 0 then(κ false) else
 .op (.load (atF g 18 (inF (i64.wrap (nd-1)) 7 8))) fun gx=>
 bif gx != 0 then(κ false) else
 κ (true)
def xjH(nd:Int):T Bool:=xlB g nd .ret
theorem xs4(nd)(κ:Bool->T β):(xjH g nd).bind κ=xlB g nd κ:=by
 unfold xjH xlB
 simp only[bz]
def xlC(a s:Int)(κ:Int->T β):T β:=
 bif decide (s<1)then(κ 11) else
 bif decide (s>i64.wrap (g.pages*64))then(κ 11) else
 bif decide (a<0)then(κ 13) else
 bif decide (a>=i64.wrap (g.pages*64))then(κ 13) else
 bif a.tmod 8 != 0 then(κ 13) else
 κ (0)
def xs5(a s:Int):T Int:=xlC g a s .ret
theorem xpa(a s)(κ:Int->T β):(xs5 g a s).bind κ=xlC g a s κ:=by
 unfold xs5 xlC
 simp only[bz]
def xlD:Sm:=fun
 | [.c .port],[]=>some (mkS Int mineT fun r=>some (.c (.int .u64 r),[]))
 | _,_=>none
variable{σ:Type}{I:Port Tryz.prog σ}
theorem xxE(hl:SoundL I ka0):SoundF I 199 xlD:=by
 refine sq hl 1 Tryz.func199 fun _ _ t ht =>?_
 unfold xlD at ht
 split at ht
 .skip
  cases ht
  exact ey (xsV  _)
 .cases ht
def xwu:Sm:=gS fun
 | g,[.c (.int .i64 k),.c (.int .u64 it)]=>some (mkS Bool (xjF g k it) fun r=>some (.c (.bool r),[]))
 | _,_=>none
theorem xxF(hl:SoundL I ka0):SoundF I 100 xwu:=by
 refine gsq hl 5 Tryz.func100 fun g l t ht =>?_
 split at ht
 .rename_i k it
  cases ht
  exact ey (xsW g k it _)
 .cases ht
def xpb:Sm:=gS fun
 | g,[.c (.int .i64 t),.c (.int .i64 k)]=>some (mkS ((Int×Bool)) (Zv g t k) fun r=>some (.tup [.c (.int .u64 r.1),.c (.bool r.2)],[]))
 | _,_=>none
theorem xs6(hl:SoundL I ka0):SoundF I 216 xpb:=by
 refine gsq hl 5 Tryz.func216 fun g l t ht =>?_
 split at ht
 .rename_i t k
  cases ht
  exact ey (xo4 g t k _)
 .cases ht
def xjI:Sm:=gS fun
 | g,[]=>some (mkS Int (qb g) fun r=>some (.c (.int .u32 r),[]))
 | _,_=>none
theorem xpc(hl:SoundL I ka0):SoundF I 142 xjI:=by
 refine gsq hl 1 Tryz.func142 fun g l t ht =>?_
 split at ht
 .cases ht
  exact ey (xlp g _)
 .cases ht
def XB:Sm:=fun
 | [.c (.int .i64 a),.c (.int .i64 b),.c (.int .u32 v)],[]=>some (mkS Stt (xbJ a b v) fun r=>some (.agg r.cells,[]))
 | _,_=>none
theorem xiE(hl:SoundL I ka0):SoundF I 143 XB:=by
 refine sq hl 1 Tryz.func143 fun _ _ t ht =>?_
 unfold XB at ht
 split at ht
 .rename_i a b v
  cases ht
  exact ey (xfK a b v _)
 .cases ht
def xlE:Sm:=fun
 | [.agg (.port::gc),.c (.int .i64 p)],[]=>(match xF gc with
   | some g=>some (mkS Pg (Vc g p) fun r=>some (.agg r.cells,[]))
   | _=>none)
 | _,_=>none
theorem xxG(hl:SoundL I ka0):SoundF I 200 xlE:=by
 refine sq hl 1 Tryz.func200 fun _ _ t ht =>?_
 unfold xlE at ht
 split at ht
 .rename_i gc p
  split at ht
  .rename_i g hg
   obtain rfl:=xm hg
   cases ht
   exact ey (xsX g p _)
  .cases ht
 .cases ht
def xlF:Sm:=fun
 | [.agg (.port::gc),.c (.int .i64 p),.c (.int .i64 k),.c (.int .i64 n)],[]=>(match xF gc with
   | some g=>some (mkS Unit (qK g p k n) fun r=>some (.tup [],[]))
   | _=>none)
 | _,_=>none
theorem xxH(hl:SoundL I ka0):SoundF I 126 xlF:=by
 refine sq hl 1 Tryz.func126 fun _ _ t ht =>?_
 unfold xlF at ht
 split at ht
 .rename_i gc p k n
  split at ht
  .rename_i g hg
   obtain rfl:=xm hg
   cases ht
   exact ey (xsY g p k n _)
  .cases ht
 .cases ht
def xlG:Sm:=fun
 | [.agg (.port::gc)],[]=>(match shOf gc with
   | some (g,p)=>some (mkS Bt (Vd g p) fun r=>some (.agg r.cells,[]))
   | _=>none)
 | _,_=>none
theorem xxI(hl:SoundL I ka0):SoundF I 160 xlG:=by
 refine sq hl 1 Tryz.func160 fun _ _ t ht =>?_
 unfold xlG at ht
 split at ht
 .rename_i gc
  split at ht
  .rename_i g p hg
   obtain rfl:=xfl hg
   cases ht
   exact ey (xsZ g p _)
  .cases ht
 .cases ht
def xfO:Sm:=fun
 | [.agg (.port::gc),.agg wasc,.agg nowc],[]=>(match shOf gc with
   | some (g,p)=>(match Bt.of wasc with
   | some was=>(match Bt.of nowc with
   | some now=>some (mkS Bool (Xz g p was now) fun r=>some (.c (.bool r),[]))
   | _=>none)
   | _=>none)
   | _=>none)
 | _,_=>none
theorem xs7(hl:SoundL I ka0):SoundF I 162 xfO:=by
 refine sq hl 1 Tryz.func162 fun _ _ t ht =>?_
 unfold xfO at ht
 split at ht
 .rename_i gc wasc nowc
  split at ht
  .rename_i g p hg
   obtain rfl:=xfl hg
   split at ht
   .rename_i was Je
    obtain rfl:=Bt.of_eq Je
    split at ht
    .rename_i now J3
     obtain rfl:=Bt.of_eq J3
     cases ht
     exact ey (xo5 g p was now _)
    .cases ht
   .cases ht
  .cases ht
 .cases ht
def xpd:Sm:=gS fun
 | g,[]=>some (mkS Bool (xs0 g) fun r=>some (.c (.bool r),[]))
 | _,_=>none
theorem xs8(hl:SoundL I ka0):SoundF I 51 xpd:=by
 refine gsq hl 1 Tryz.func51 fun g l t ht =>?_
 split at ht
 .cases ht
  exact ey (xo6 g _)
 .cases ht
def xpe:Sm:=gS fun
 | g,[]=>some (mkS Bool (qy g) fun r=>some (.c (.bool r),[]))
 | _,_=>none
theorem xs9(hl:SoundL I ka0):SoundF I 95 xpe:=by
 refine gsq hl 1 Tryz.func95 fun g l t ht =>?_
 split at ht
 .cases ht
  exact ey (xo7 g _)
 .cases ht
def xpf:Sm:=gS fun
 | g,[.c (.int .i64 c)]=>some (mkS Bool (XA g c) fun r=>some (.c (.bool r),[]))
 | _,_=>none
theorem xta(hl:SoundL I ka0):SoundF I 157 xpf:=by
 refine gsq hl 1 Tryz.func157 fun g l t ht =>?_
 split at ht
 .rename_i c
  cases ht
  exact ey (xo8 g c _)
 .cases ht
def xbL:Sm:=fun
 | [.c (.int .u64 it)],[]=>some (mkS Int (xlu it) fun r=>some (.c (.int .i64 r),[]))
 | _,_=>none
theorem xpg(hl:SoundL I ka0):SoundF I 181 xbL:=by
 refine sq hl 1 Tryz.func181 fun _ _ t ht =>?_
 unfold xbL at ht
 split at ht
 .rename_i it
  cases ht
  exact ey (xlv it _)
 .cases ht
def xbM:Sm:=fun
 | [.c (.int .i64 s)],[]=>some (mkS Int (xlw s) fun r=>some (.c (.int .i64 r),[]))
 | _,_=>none
theorem xph(hl:SoundL I ka0):SoundF I 131 xbM:=by
 refine sq hl 1 Tryz.func131 fun _ _ t ht =>?_
 unfold xbM at ht
 split at ht
 .rename_i s
  cases ht
  exact ey (xlx s _)
 .cases ht
def xbN:Sm:=fun
 | [.c (.int .i64 s)],[]=>some (mkS Bool (KQ s) fun r=>some (.c (.bool r),[]))
 | _,_=>none
theorem xpi(hl:SoundL I ka0):SoundF I 187 xbN:=by
 refine sq hl 1 Tryz.func187 fun _ _ t ht =>?_
 unfold xbN at ht
 split at ht
 .rename_i s
  cases ht
  exact ey (xly s _)
 .cases ht
def xbO:Sm:=fun
 | [.c (.int .i64 s)],[]=>some (mkS Bool (Yy s) fun r=>some (.c (.bool r),[]))
 | _,_=>none
theorem xpj(hl:SoundL I ka0):SoundF I 128 xbO:=by
 refine sq hl 1 Tryz.func128 fun _ _ t ht =>?_
 unfold xbO at ht
 split at ht
 .rename_i s
  cases ht
  exact ey (xlz s _)
 .cases ht
def xlH:Sm:=fun
 | [.agg wc,.c (.int .i64 k)],[]=>(match Pg.of wc with
   | some w=>some (mkS Bool (xjG w k) fun r=>some (.c (.bool r),[]))
   | _=>none)
 | _,_=>none
theorem xxJ(hl:SoundL I ka0):SoundF I 227 xlH:=by
 refine sq hl 1 Tryz.func227 fun _ _ t ht =>?_
 unfold xlH at ht
 split at ht
 .rename_i wc k
  split at ht
  .rename_i w hw
   obtain rfl:=Pg.of_eq hw
   cases ht
   exact ey (xs1 w k _)
  .cases ht
 .cases ht
def xlI:Sm:=fun
 | [.agg wc],[]=>(match Pg.of wc with
   | some w=>some (mkS Int (kE w) fun r=>some (.c (.int .i64 r),[]))
   | _=>none)
 | _,_=>none
theorem xxK(hl:SoundL I ka0):SoundF I 202 xlI:=by
 refine sq hl 1 Tryz.func202 fun _ _ t ht =>?_
 unfold xlI at ht
 split at ht
 .rename_i wc
  split at ht
  .rename_i w hw
   obtain rfl:=Pg.of_eq hw
   cases ht
   exact ey (xs3 w _)
  .cases ht
 .cases ht
def xpk:Sm:=gS fun
 | g,[.c (.int .i64 nd),.c (.int .u64 it)]=>some (mkS Bool (Vs g nd it) fun r=>some (.c (.bool r),[]))
 | _,_=>none
theorem xtb(hl:SoundL I ka0):SoundF I 205 xpk:=by
 refine gsq hl 10 Tryz.func205 fun g l t ht =>?_
 split at ht
 .rename_i nd it
  cases ht
  exact ey (xo9 g nd it _)
 .cases ht
def xwv:Sm:=gS fun
 | g,[.c (.int .i64 nd)]=>some (mkS Bool (xjH g nd) fun r=>some (.c (.bool r),[]))
 | _,_=>none
theorem xxL(hl:SoundL I ka0):SoundF I 217 xwv:=by
 refine gsq hl 10 Tryz.func217 fun g l t ht =>?_
 split at ht
 .rename_i nd
  cases ht
  exact ey (xs4 g nd _)
 .cases ht
def xfP:Sm:=fun
 | [.agg gc,.c (.int .i64 a),.c (.int .i64 s)],[]=>(match xF gc with
   | some g=>some (mkS Int (xs5 g a s) fun r=>some (.c (.int .i64 r),[]))
   | _=>none)
 | _,_=>none
theorem xtc(hl:SoundL I ka0):SoundF I 39 xfP:=by
 refine sq hl 1 Tryz.func39 fun _ _ t ht =>?_
 unfold xfP at ht
 split at ht
 .rename_i gc a s
  split at ht
  .rename_i g hg
   obtain rfl:=xm hg
   cases ht
   exact ey (xpa g a s _)
  .cases ht
 .cases ht
def ka1:List (Nat×Sm):=(199,xlD)::(100,xwu)::(216,xpb)::(142,xjI)::(143,XB)::(200,xlE)::(126,xlF)::(160,xlG)::(162,xfO)::(51,xpd)::(95,xpe)::(157,xpf)::(181,xbL)::(131,xbM)::(187,xbN)::(128,xbO)::(227,xlH)::(202,xlI)::(205,xpk)::(217,xwv)::(39,xfP)::ka0
theorem Ve:SoundL I ka1:=(.cons (xxE vK) (.cons (xxF vK) (.cons (xs6 vK) (.cons (xpc vK) (.cons (xiE vK) (.cons (xxG vK) (.cons (xxH vK) (.cons (xxI vK) (.cons (xs7 vK) (.cons (xs8 vK) (.cons (xs9 vK) (.cons (xta vK) (.cons (xpg vK) (.cons (xph vK) (.cons (xpi vK) (.cons (xpj vK) (.cons (xxJ vK) (.cons (xxK vK) (.cons (xtb vK) (.cons (xxL vK) (.cons (xtc vK) vK)))))))))))))))))))))
end Lx
namespace Lx
variable{β:Type}(g:Geo)
open Go
structure Seen where
 (kind size other ver:Int) (live:Bool) (lin:Int)
def Seen.cells(r:Seen):List C :=[.int .i64 r.kind,.int .i64 r.size,.int .i64 r.other,.int .u32 r.ver,.bool r.live,.int .i64 r.lin]
def Seen.of:List C->Option Seen
 | [.int .i64 a,.int .i64 b,.int .i64 c,.int .u32 d,.bool e,.int .i64 f]=>some ⟨a,b,c,d,e,f⟩
 | _=>none
theorem Seen.of_eq{l:List C}{r:Seen}(h:Seen.of l=some r):l=r.cells:=by
 unfold Seen.of at h;split at h<;>cases h;rfl
def xww(κ:Bool->T β):T β:=
 .op (.self) fun x0=>
 .op (.cas (atF g 0 0) 0 (u64.wrap (u64.wrap x0+1))) fun b1=>
 bif b1 then(κ true) else
 .op (.self) fun x3=>
 .op (.cas (atF g 0 0) 0 (u64.wrap (u64.wrap x3+1))) fun b4=>
 bif b4 then(κ true) else
 .op (.self) fun x6=>
 .op (.cas (atF g 0 0) 0 (u64.wrap (u64.wrap x6+1))) fun b7=>
 bif b7 then(κ true) else
 κ (false)
def tryT:T Bool:=xww g .ret
theorem xxM(κ:Bool->T β):(tryT g).bind κ=xww g κ:=by
 unfold tryT xww
 simp only[bz]
def xlJ(κ:Bool->T β):T β:=
 .op (.self) fun x0=>
 .op (.cas (atF g 0 0) (u64.wrap (u64.wrap x0+1)) 0) fun b1=>
 κ b1
def XC:T Bool:=xlJ g .ret
theorem xtd(κ:Bool->T β):(XC g).bind κ=xlJ g κ:=by
 unfold XC xlJ
 simp only[bz]
def KS(k:Int)(κ:(Int×Bool)->T β):T β:=
 .op (.self) fun x0=>
 (Zv g x0 k).bind fun r1=>
 κ (r1.1,r1.2)
def qz(k:Int):T (Int×Bool):=KS g k .ret
theorem xpl(k)(κ:(Int×Bool)->T β):(qz g k).bind κ=KS g k κ:=by
 unfold qz KS
 simp only[bz]
def KT(k:Int)(κ:Bool->T β):T β:=
 .op (.self) fun x0=>
 bif atF g 6 x0 == -1 then(κ true) else
 bif atF g 11 k == -1 then(κ true) else
 κ (false)
def kL(k:Int):T Bool:=KT g k .ret
theorem xlK(k)(κ:Bool->T β):(kL g k).bind κ=KT g k κ:=by
 unfold kL KT
 simp only[bz]
def KU(k j:Int)(κ:Bool->T β):T β:=
 .op (.self) fun x0=>
 bif atF g 6 x0 == -1 then(κ true) else
 bif atF g 11 k == -1 then(κ true) else
 bif atF g 11 j == -1 then(κ true) else
 κ (false)
def qc(k j:Int):T Bool:=KU g k j .ret
theorem xlL(k j)(κ:Bool->T β):(qc g k j).bind κ=KU g k j κ:=by
 unfold qc KU
 simp only[bz]
def xfQ(x k:Int)(κ:Int->T β):T β:=
 bif x==k then(κ 0) else
 κ (-1)
def xlM(x k:Int):T Int:=xfQ x k .ret
theorem xlN(x k)(κ:Int->T β):(xlM x k).bind κ=xfQ x k κ:=by
 unfold xlM xfQ
 simp only[bz]
def xfR(k was:Int)(κ:(Seen×Bool)->T β):T β:=
 .op (.load (atF g 11 (wF was).other)) fun x0=>
 .op (.steps) fun x1=>
 bif (wF x0).kind==3 then(bif (wF x0).other==k then(bif (wF x0).ver==(wF was).ver then(.op (.cas (atF g 11 k) was ((Stt.mk 1 (wF was).size 0 (wF was).ver).word)) fun b5=>
 κ (⟨0,0,0,0,false,0⟩,false)) else
 .op (.load (atF g 11 k)) fun x5=>
 κ (⟨0,0,0,0,false,x1⟩,(x5==was))) else
 .op (.load (atF g 11 k)) fun x4=>
 κ (⟨0,0,0,0,false,x1⟩,(x4==was))) else
 .op (.load (atF g 11 k)) fun x3=>
 κ (⟨0,0,0,0,false,x1⟩,(x3==was))
def xem(k was:Int):T (Seen×Bool):=xfR g k was .ret
theorem xlO(k was)(κ:(Seen×Bool)->T β):(xem g k was).bind κ=xfR g k was κ:=by
 unfold xem xfR
 simp only[bz]
def isTK(p k:Int)(κ:Bool->T β):T β:=
 bif decide (p>=0)then(bif decide (p<g.pages)then(bif decide (k>=0)then(κ (decide (k<4))) else
 κ false) else
 κ false) else
 κ (false)
def isT(p k:Int):T Bool:=isTK g p k .ret
theorem xAb(p k)(κ:Bool->T β):(isT g p k).bind κ=isTK g p k κ:=by
 unfold isT isTK
 simp only[bz]
def xbP(it:Int)(κ:Int->T β):T β:=
 κ (i64.wrap (i64.wrap it-1))
def xfS(it:Int):T Int:=xbP it .ret
theorem xiF(it)(κ:Int->T β):(xfS it).bind κ=xbP it κ:=by
 unfold xfS xbP
 simp only[bz]
def xAc:Sm:=gS fun
 | g,[]=>some (mkS Bool (tryT g) fun r=>some (.c (.bool r),[]))
 | _,_=>none
variable{σ:Type}{I:Port Tryz.prog σ}
theorem xAd(hl:SoundL I ka1):SoundF I 151 xAc:=by
 refine gsq hl 5 Tryz.func151 fun g l t ht =>?_
 split at ht
 .cases ht
  exact ey (xxM g _)
 .cases ht
def xwx:Sm:=gS fun
 | g,[]=>some (mkS Bool (XC g) fun r=>some (.c (.bool r),[]))
 | _,_=>none
theorem xxN(hl:SoundL I ka1):SoundF I 153 xwx:=by
 refine gsq hl 1 Tryz.func153 fun g l t ht =>?_
 split at ht
 .cases ht
  exact ey (xtd g _)
 .cases ht
def xpm:Sm:=gS fun
 | g,[.c (.int .i64 k)]=>some (mkS ((Int×Bool)) (qz g k) fun r=>some (.tup [.c (.int .u64 r.1),.c (.bool r.2)],[]))
 | _,_=>none
theorem xte(hl:SoundL I ka1):SoundF I 179 xpm:=by
 refine gsq hl 1 Tryz.func179 fun g l t ht =>?_
 split at ht
 .rename_i k
  cases ht
  exact ey (xpl g k _)
 .cases ht
def xbQ:Sm:=fun
 | [.c .port,.agg gc,.c (.sl 0 0 1 1)],[some ⟨[.int .i64 k], 3,false,none⟩]=>(match xF gc with
   | some g=>some (mkS Bool (kL g k) fun r=>some (.c (.bool r),[some ⟨[.int .i64 k], 3,false,none⟩]))
   | _=>none)
 | _,_=>none
theorem xpn(hl:SoundL I ka1):SoundF I 78 xbQ:=by
 refine sq hl 5 Tryz.func78 fun _ _ t ht =>?_
 unfold xbQ at ht
 split at ht
 .rename_i gc k
  split at ht
  .rename_i g hg
   obtain rfl:=xm hg
   cases ht
   exact ey (xlK g k _)
  .cases ht
 .cases ht
def xbR:Sm:=fun
 | [.c .port,.agg gc,.c (.sl 0 0 2 2)],[some ⟨[.int .i64 k,.int .i64 j], 3,false,none⟩]=>(match xF gc with
   | some g=>some (mkS Bool (qc g k j) fun r=>some (.c (.bool r),[some ⟨[.int .i64 k,.int .i64 j], 3,false,none⟩]))
   | _=>none)
 | _,_=>none
theorem xpo(hl:SoundL I ka1):SoundF I 78 xbR:=by
 refine sq hl 5 Tryz.func78 fun _ _ t ht =>?_
 unfold xbR at ht
 split at ht
 .rename_i gc k j
  split at ht
  .rename_i g hg
   obtain rfl:=xm hg
   cases ht
   exact ey (xlL g k j _)
  .cases ht
 .cases ht
def xbS:Sm:=fun
 | [.c (.sl 0 0 1 1),.c (.int .i64 x)],[some ⟨[.int .i64 k], 3,false,none⟩]=>some (mkS Int (xlM x k) fun r=>some (.c (.int .i64 r),[some ⟨[.int .i64 k], 3,false,none⟩]))
 | _,_=>none
theorem xpp(hl:SoundL I ka1):SoundF I 214 xbS:=by
 refine sq hl 5 Tryz.func214 fun _ _ t ht =>?_
 unfold xbS at ht
 split at ht
 .rename_i x k
  cases ht
  exact ey (xlN x k _)
 .cases ht
def xjJ:Sm:=gS fun
 | g,[.c (.int .i64 k),.c (.int .u64 was)]=>some (mkS ((Seen×Bool)) (xem g k was) fun r=>some (.tup [.agg r.1.cells,.c (.bool r.2)],[]))
 | _,_=>none
theorem xpq(hl:SoundL I ka1):SoundF I 81 xjJ:=by
 refine gsq hl 1 Tryz.func81 fun g l t ht =>?_
 split at ht
 .rename_i k was
  cases ht
  exact ey (xlO g k was _)
 .cases ht
def m_isT:Sm:=fun
 | [.agg (.port::gc),.c (.int .i64 k)],[]=>(match shOf gc with
   | some (g,p)=>some (mkS Bool (isT g p k) fun r=>some (.c (.bool r),[]))
   | _=>none)
 | _,_=>none
theorem s_m_isT(hl:SoundL I ka1):SoundF I 252 m_isT:=by
 refine sq hl 1 Tryz.func252 fun _ _ t ht =>?_
 unfold m_isT at ht
 split at ht
 .rename_i gc k
  split at ht
  .rename_i g p hg
   obtain rfl:=xfl hg
   cases ht
   exact ey (xAb g p k _)
  .cases ht
 .cases ht
def Vt:Sm:=fun
 | [.c (.int .u64 it)],[]=>some (mkS Int (xfS it) fun r=>some (.c (.int .i64 r),[]))
 | _,_=>none
theorem xlP(hl:SoundL I ka1):SoundF I 181 Vt:=by
 refine sq hl 1 Tryz.func181 fun _ _ t ht =>?_
 unfold Vt at ht
 split at ht
 .rename_i it
  cases ht
  exact ey (xiF it _)
 .cases ht
def ka2:List (Nat×Sm):=(151,xAc)::(153,xwx)::(179,xpm)::(78,(orSm xbQ xbR))::(214,xbS)::(81,xjJ)::(252,m_isT)::(181,Vt)::ka1
theorem vL:SoundL I ka2:=(.cons (xAd Ve) (.cons (xxN Ve) (.cons (xte Ve) (.cons (SoundF.or (xpn Ve) (xpo Ve)) (.cons (xpp Ve) (.cons (xpq Ve) (.cons (s_m_isT Ve) (.cons (xlP Ve) Ve))))))))
end Lx
namespace Lx
variable{β:Type}(g:Geo)
open Go
def xwy(n:Int)(κ:Int->T β):T β:=
 (yE (decide (0<=u64.wrap n)&&decide (u64.wrap n<=18446744073709551615))).bind fun r0=>
 κ (i64.wrap (↑(Lib.bitLen (Int.toNat (u64.wrap n)))-1))
def logT(n:Int):T Int:=xwy n .ret
theorem xxO(n)(κ:Int->T β):(logT n).bind κ=xwy n κ:=by
 unfold logT xwy
 simp only[bz]
def xen(p:Int)(κ:Int->T β):T β:=
 bif p==0 then(κ 0) else
 (Vc g (i64.wrap (p-1))).bind fun r1=>
 bif r1.kind==2 then(κ r1.len) else
 bif r1.kind==1 then(κ r1.len) else
 κ (0)
def xbT(p:Int):T Int:=xen g p .ret
theorem xpr(p)(κ:Int->T β):(xbT g p).bind κ=xen g p κ:=by
 unfold xbT xen
 simp only[bz]
def KV(p:Int)(κ:Int->T β):T β:=
 bif p==g.pages then(κ 0) else
 (Vc g p).bind fun r1=>
 bif r1.kind==1 then(κ r1.len) else
 κ (0)
def Yz(p:Int):T Int:=KV g p .ret
theorem xlQ(p)(κ:Int->T β):(Yz g p).bind κ=KV g p κ:=by
 unfold Yz KV
 simp only[bz]
def xlR(p k:Int)(κ:Bool->T β):T β:=
 bif decide (p<0)then(κ false) else
 bif decide (p>=g.pages)then(κ false) else
 bif decide (k<1)then(κ false) else
 bif decide (k>g.pages)then(κ false) else
 .op (.cas (atF g 7 p) (Pg.word (Pg.mk 4 k 0 0)) (Pg.word (Pg.mk 5 k 0 0))) fun b4=>
 κ b4
def markT(p k:Int):T Bool:=xlR g p k .ret
theorem xtf(p k)(κ:Bool->T β):(markT g p k).bind κ=xlR g p k κ:=by
 unfold markT xlR
 simp only[bz]
def xlS(g:Geo)(p b:Int)(c:Cls)(κ:Int->T β):T β:=
 κ (i64.wrap (i64.wrap (p*8)+i64.wrap (Int.tdiv (i64.wrap (b*c.size)) 8)))
def xtg(p b:Int)(c:Cls):T Int:=xlS g p b c .ret
theorem xps(p b c)(κ:Int->T β):(xtg g p b c).bind κ=xlS g p b c κ:=by
 unfold xtg xlS
 simp only[bz]
def xfT(c:Cls)(κ:Int->T β):T β:=
 bif bif decide (c.blocks<0)then false else true then(κ (u8.wrap (u8.wrap (1*2 ^ if Int.toNat c.blocks<=8 then Int.toNat c.blocks else 8)-1))) else
 .fail
def xeo(c:Cls):T Int:=xfT c .ret
theorem xlT(c)(κ:Int->T β):(xeo c).bind κ=xfT c κ:=by
 unfold xeo xfT
 simp only[bz]
def KW(b:Bt)(κ:Int->T β):T β:=
 bif b.map==0 then(κ (-1)) else
 (yE (decide (0<=b.map)&&decide (b.map<=255))).bind fun r1=>
 κ (↑(Lib.trailingZeros8 (Int.toNat b.map)))
def firstT(b:Bt):T Int:=KW b .ret
theorem xpt(b)(κ:Int->T β):(firstT b).bind κ=KW b κ:=by
 unfold firstT KW
 simp only[bz]
def xlU(b:Bt)(n:Int)(κ:Bool->T β):T β:=
 bif decide (n>8)then(κ false) else
 (yE (decide (0<=bits BinOp.xor u8 (if IntKind.signed u8=true then -1 else IntKind.max u8) b.map)&&decide (bits BinOp.xor u8 (if IntKind.signed u8=true then -1 else IntKind.max u8) b.map<=255))).bind fun r1=>
 κ (decide (↑(Lib.trailingZeros8 (Int.toNat (bits BinOp.xor u8 (if IntKind.signed u8=true then -1 else Int.ofNat (2 ^ 8-1)) b.map)))>=if n<0 then 0 else n))
def xdl(b:Bt)(n:Int):T Bool:=xlU b n .ret
theorem xth(b n)(κ:Bool->T β):(xdl b n).bind κ=xlU b n κ:=by
 unfold xdl xlU
 simp only[bz]
def xep(k s:Int)(κ:Unit->T β):T β:=
 (kL g k).bind fun r0=>
 bif !r0 then((qb g).bind fun r2=>
 .op (.store (atF g 11 k) (Stt.word (Stt.mk 1 s 0 r2))) fun _=>
 κ ()) else
 κ ()
def xbU(k s:Int):T Unit:=xep g k s .ret
theorem xpu(k s)(κ:Unit->T β):(xbU g k s).bind κ=xep g k s κ:=by
 unfold xbU xep
 simp only[bz]
def KX(k:Int)(s:Stt)(z:Int)(κ:Bool->T β):T β:=
 (kL g k).bind fun r0=>
 bif r0 then(κ false) else
 (qb g).bind fun r2=>
 .op (.cas (atF g 11 k) (Stt.word (Stt.mk s.kind s.size s.other s.ver)) (Stt.word (Stt.mk 1 z 0 r2))) fun b3=>
 κ b3
def YA(k:Int)(s:Stt)(z:Int):T Bool:=KX g k s z .ret
theorem xlV(k s z)(κ:Bool->T β):(YA g k s z).bind κ=KX g k s z κ:=by
 unfold YA KX
 simp only[bz]
def YB(to fr z:Int)(κ:Int->T β):T β:=
 (qc g to fr).bind fun r0=>
 bif r0 then(κ 0) else
 (qb g).bind fun r2=>
 .op (.store (atF g 11 to) (Stt.word (Stt.mk (Stt.mk 2 z fr r2).kind (Stt.mk 2 z fr r2).size (Stt.mk 2 z fr r2).other (Stt.mk 2 z fr r2).ver))) fun _=>
 κ r2
def qL(to fr z:Int):T Int:=YB g to fr z .ret
theorem xiG(to fr z)(κ:Int->T β):(qL g to fr z).bind κ=YB g to fr z κ:=by
 unfold qL YB
 simp only[bz]
def xlW(fr:Int)(s:Stt)(to v:Int)(κ:Bool->T β):T β:=
 (qc g fr to).bind fun r0=>
 bif r0 then(κ false) else
 .op (.cas (atF g 11 fr) (Stt.word (Stt.mk s.kind s.size s.other s.ver)) (Stt.word (Stt.mk 3 0 to v))) fun b2=>
 κ b2
def xjK(fr:Int)(s:Stt)(to v:Int):T Bool:=xlW g fr s to v .ret
theorem xti(fr s to v)(κ:Bool->T β):(xjK g fr s to v).bind κ=xlW g fr s to v κ:=by
 unfold xjK xlW
 simp only[bz]
def KY(to fr z v:Int)(κ:Unit->T β):T β:=
 (qc g to fr).bind fun r0=>
 bif r0 then(κ ()) else
 .op (.cas (atF g 11 to) (Stt.word (Stt.mk (Stt.mk 2 z fr v).kind (Stt.mk 2 z fr v).size (Stt.mk 2 z fr v).other (Stt.mk 2 z fr v).ver)) (Stt.word (Stt.mk 1 z 0 v))) fun b2=>
 .op (.store (atF g 11 fr) 0) fun _=>
 κ ()
def YC(to fr z v:Int):T Unit:=KY g to fr z v .ret
theorem xlX(to fr z v)(κ:Unit->T β):(YC g to fr z v).bind κ=KY g to fr z v κ:=by
 unfold YC KY
 simp only[bz]
def xlY(to:Int)(κ:Unit->T β):T β:=
 (kL g to).bind fun r0=>
 bif !r0 then(.op (.store (atF g 11 to) 0) fun _=>
 κ ()) else
 κ ()
def xlZ(to:Int):T Unit:=xlY g to .ret
theorem xpv(to)(κ:Unit->T β):(xlZ g to).bind κ=xlY g to κ:=by
 unfold xlZ xlY
 simp only[bz]
def xl0(k:Int)(κ:Seen->T β):T β:=
 (kL g k).bind fun r0=>
 bif r0 then(κ ⟨0,0,0,0,false,0⟩) else
 .op (.load (atF g 11 k)) fun x2=>
 .op (.steps) fun x3=>
 bif (wF x2).kind==1 then(κ ⟨((wF x2).kind),((wF x2).size),((wF x2).other),((wF x2).ver),true,x3⟩) else
 bif (wF x2).kind==2 then((xem g k x2).bind fun r6=>
 bif r6.2 then(κ ⟨r6.fst.kind,r6.fst.size,r6.fst.other,r6.fst.ver,r6.fst.live,r6.fst.lin⟩) else
 .fail) else
 κ ⟨0,0,0,0,false,x3⟩
def KZ(k:Int):T Seen:=xl0 g k .ret
theorem xtj(k)(κ:Seen->T β):(KZ g k).bind κ=xl0 g k κ:=by
 unfold KZ xl0
 simp only[bz]
def xbV(o:Int)(κ:(Int×Bool)->T β):T β:=
 bif decide (o<0)then(κ (0,false)) else
 bif Int.tmod o 8==0 then(bif decide (i64.wrap (Int.tdiv o 8)<8)then(κ ((i64.wrap (Int.tdiv o 8)),true)) else
 κ (0,false)) else
 κ (0,false)
def xfU(o:Int):T (Int×Bool):=xbV o .ret
theorem xiH(o)(κ:(Int×Bool)->T β):(xfU o).bind κ=xbV o κ:=by
 unfold xfU xbV
 simp only[bz]
def xbW(o:Int)(κ:(Int×Bool)->T β):T β:=
 bif decide (o<0)then(κ (0,false)) else
 bif Int.tmod o 16==0 then(bif decide (i64.wrap (Int.tdiv o 16)<4)then(κ ((i64.wrap (Int.tdiv o 16)),true)) else
 κ (0,false)) else
 κ (0,false)
def xfV(o:Int):T (Int×Bool):=xbW o .ret
theorem xiI(o)(κ:(Int×Bool)->T β):(xfV o).bind κ=xbW o κ:=by
 unfold xfV xbW
 simp only[bz]
def xbX(o:Int)(κ:(Int×Bool)->T β):T β:=
 bif decide (o<0)then(κ (0,false)) else
 bif Int.tmod o 24==0 then(bif decide (i64.wrap (Int.tdiv o 24)<2)then(κ ((i64.wrap (Int.tdiv o 24)),true)) else
 κ (0,false)) else
 κ (0,false)
def xfW(o:Int):T (Int×Bool):=xbX o .ret
theorem xiJ(o)(κ:(Int×Bool)->T β):(xfW o).bind κ=xbX o κ:=by
 unfold xfW xbX
 simp only[bz]
def xbY(o:Int)(κ:(Int×Bool)->T β):T β:=
 bif decide (o<0)then(κ (0,false)) else
 bif Int.tmod o 32==0 then(bif decide (i64.wrap (Int.tdiv o 32)<2)then(κ ((i64.wrap (Int.tdiv o 32)),true)) else
 κ (0,false)) else
 κ (0,false)
def xfX(o:Int):T (Int×Bool):=xbY o .ret
theorem xiK(o)(κ:(Int×Bool)->T β):(xfX o).bind κ=xbY o κ:=by
 unfold xfX xbY
 simp only[bz]
def xbZ(v0 v1:Int)(v2:Int->T β):T β:=
 bif decide (24>=v0)then(bif decide (8>=v1)then(v2 2) else
 bif decide (32>=v0)then(bif decide (32>=v1)then(v2 3) else
 v2 (-1)) else
 v2 (-1)) else
 bif decide (32>=v0)then(bif decide (32>=v1)then(v2 3) else
 v2 (-1)) else
 v2 (-1)
def xwz(s a:Int)(κ:Int->T β):T β:=
 bif decide (s<1)then(κ (-1)) else
 (KQ a).bind fun r1=>
 bif !r1 then(κ (-1)) else
 bif decide (8>=s)then(bif decide (8>=a)then(κ 0) else
 bif decide (16>=s)then(bif decide (16>=a)then(κ 1) else
 xbZ s a κ) else
 xbZ s a κ) else
 bif decide (16>=s)then(bif decide (16>=a)then(κ 1) else
 xbZ s a κ) else
 xbZ s a κ
def cofT(s a:Int):T Int:=xwz s a .ret
theorem xxP(s a)(κ:Int->T β):(cofT s a).bind κ=xwz s a κ:=by
 unfold cofT xwz xbZ
 simp only[bz]
def xtk:Sm:=fun
 | [.c (.int .i64 n)],[]=>some (mkS Int (logT n) fun r=>some (.c (.int .i64 r),[]))
 | _,_=>none
variable{σ:Type}{I:Port Tryz.prog σ}
theorem xAe(hl:SoundL I ka2):SoundF I 186 xtk:=by
 refine sq hl 1 Tryz.func186 fun _ _ t ht =>?_
 unfold xtk at ht
 split at ht
 .rename_i n
  cases ht
  exact ey (xxO n _)
 .cases ht
def xfY:Sm:=fun
 | [.agg (.port::gc),.c (.int .i64 p)],[]=>(match xF gc with
   | some g=>some (mkS Int (xbT g p) fun r=>some (.c (.int .i64 r),[]))
   | _=>none)
 | _,_=>none
theorem xtl(hl:SoundL I ka2):SoundF I 228 xfY:=by
 refine sq hl 1 Tryz.func228 fun _ _ t ht =>?_
 unfold xfY at ht
 split at ht
 .rename_i gc p
  split at ht
  .rename_i g hg
   obtain rfl:=xm hg
   cases ht
   exact ey (xpr g p _)
  .cases ht
 .cases ht
def xb0:Sm:=fun
 | [.agg (.port::gc),.c (.int .i64 p)],[]=>(match xF gc with
   | some g=>some (mkS Int (Yz g p) fun r=>some (.c (.int .i64 r),[]))
   | _=>none)
 | _,_=>none
theorem xpw(hl:SoundL I ka2):SoundF I 229 xb0:=by
 refine sq hl 1 Tryz.func229 fun _ _ t ht =>?_
 unfold xb0 at ht
 split at ht
 .rename_i gc p
  split at ht
  .rename_i g hg
   obtain rfl:=xm hg
   cases ht
   exact ey (xlQ g p _)
  .cases ht
 .cases ht
def xwA:Sm:=gS fun
 | g,[.c (.int .i64 p),.c (.int .i64 k)]=>some (mkS Bool (markT g p k) fun r=>some (.c (.bool r),[]))
 | _,_=>none
theorem xxQ(hl:SoundL I ka2):SoundF I 96 xwA:=by
 refine gsq hl 1 Tryz.func96 fun g l t ht =>?_
 split at ht
 .rename_i p k
  cases ht
  exact ey (xtf g p k _)
 .cases ht
def xfZ:Sm:=fun
 | [.agg (.port::gc),.c (.int .i64 b),.agg cc],[]=>(match shOf gc with
   | some (g,p)=>(match Cls.of cc with
   | some c=>some (mkS Int (xtg g p b c) fun r=>some (.c (.int .i64 r),[]))
   | _=>none)
   | _=>none)
 | _,_=>none
theorem xtm(hl:SoundL I ka2):SoundF I 254 xfZ:=by
 refine sq hl 1 Tryz.func254 fun _ _ t ht =>?_
 unfold xfZ at ht
 split at ht
 .rename_i gc b cc
  split at ht
  .rename_i g p hg
   obtain rfl:=xfl hg
   split at ht
   .rename_i c hc
    obtain rfl:=Cls.of_eq hc
    cases ht
    exact ey (xps g p b c _)
   .cases ht
  .cases ht
 .cases ht
def xb1:Sm:=fun
 | [.agg cc],[]=>(match Cls.of cc with
   | some c=>some (mkS Int (xeo c) fun r=>some (.c (.int .u8 r),[]))
   | _=>none)
 | _,_=>none
theorem xpx(hl:SoundL I ka2):SoundF I 255 xb1:=by
 refine sq hl 1 Tryz.func255 fun _ _ t ht =>?_
 unfold xb1 at ht
 split at ht
 .rename_i cc
  split at ht
  .rename_i c hc
   obtain rfl:=Cls.of_eq hc
   cases ht
   exact ey (xlT c _)
  .cases ht
 .cases ht
def xf0:Sm:=fun
 | [.agg bc],[]=>(match Bt.of bc with
   | some b=>some (mkS Int (firstT b) fun r=>some (.c (.int .i64 r),[]))
   | _=>none)
 | _,_=>none
theorem xtn(hl:SoundL I ka2):SoundF I 253 xf0:=by
 refine sq hl 1 Tryz.func253 fun _ _ t ht =>?_
 unfold xf0 at ht
 split at ht
 .rename_i bc
  split at ht
  .rename_i b hb
   obtain rfl:=Bt.of_eq hb
   cases ht
   exact ey (xpt b _)
  .cases ht
 .cases ht
def xl1:Sm:=fun
 | [.agg bc,.c (.int .i64 n)],[]=>(match Bt.of bc with
   | some b=>some (mkS Bool (xdl b n) fun r=>some (.c (.bool r),[]))
   | _=>none)
 | _,_=>none
theorem xxR(hl:SoundL I ka2):SoundF I 248 xl1:=by
 refine sq hl 1 Tryz.func248 fun _ _ t ht =>?_
 unfold xl1 at ht
 split at ht
 .rename_i bc n
  split at ht
  .rename_i b hb
   obtain rfl:=Bt.of_eq hb
   cases ht
   exact ey (xth b n _)
  .cases ht
 .cases ht
def xpy:Sm:=gS fun
 | g,[.c (.int .i64 k),.c (.int .i64 s)]=>some (mkS Unit (xbU g k s) fun r=>some (.tup [],[]))
 | _,_=>none
theorem xto(hl:SoundL I ka2):SoundF I 133 xpy:=by
 refine gsq hl 1 Tryz.func133 fun g l t ht =>?_
 split at ht
 .rename_i k s
  cases ht
  exact ey (xpu g k s _)
 .cases ht
def xjL:Sm:=gS fun
 | g,[.c (.int .i64 k),.agg sc,.c (.int .i64 z)]=>(match Stt.of sc with
   | some s=>some (mkS Bool (YA g k s z) fun r=>some (.c (.bool r),[]))
   | _=>none)
 | _,_=>none
theorem xpz(hl:SoundL I ka2):SoundF I 84 xjL:=by
 refine gsq hl 1 Tryz.func84 fun g l t ht =>?_
 split at ht
 .rename_i k sc z
  split at ht
  .rename_i s hs
   obtain rfl:=Stt.of_eq hs
   cases ht
   exact ey (xlV g k s z _)
  .cases ht
 .cases ht
def xf1:Sm:=gS fun
 | g,[.c (.int .i64 to),.c (.int .i64 fr),.c (.int .i64 z)]=>some (mkS Int (qL g to fr z) fun r=>some (.c (.int .u32 r),[]))
 | _,_=>none
theorem xl2(hl:SoundL I ka2):SoundF I 86 xf1:=by
 refine gsq hl 1 Tryz.func86 fun g l t ht =>?_
 split at ht
 .rename_i to fr z
  cases ht
  exact ey (xiG g to fr z _)
 .cases ht
def xwB:Sm:=gS fun
 | g,[.c (.int .i64 fr),.agg sc,.c (.int .i64 to),.c (.int .u32 v)]=>(match Stt.of sc with
   | some s=>some (mkS Bool (xjK g fr s to v) fun r=>some (.c (.bool r),[]))
   | _=>none)
 | _,_=>none
theorem xxS(hl:SoundL I ka2):SoundF I 87 xwB:=by
 refine gsq hl 1 Tryz.func87 fun g l t ht =>?_
 split at ht
 .rename_i fr sc to v
  split at ht
  .rename_i s hs
   obtain rfl:=Stt.of_eq hs
   cases ht
   exact ey (xti g fr s to v _)
  .cases ht
 .cases ht
def xjM:Sm:=gS fun
 | g,[.c (.int .i64 to),.c (.int .i64 fr),.c (.int .i64 z),.c (.int .u32 v)]=>some (mkS Unit (YC g to fr z v) fun r=>some (.tup [],[]))
 | _,_=>none
theorem xpA(hl:SoundL I ka2):SoundF I 89 xjM:=by
 refine gsq hl 1 Tryz.func89 fun g l t ht =>?_
 split at ht
 .rename_i to fr z v
  cases ht
  exact ey (xlX g to fr z v _)
 .cases ht
def xpB:Sm:=gS fun
 | g,[.c (.int .i64 to)]=>some (mkS Unit (xlZ g to) fun r=>some (.tup [],[]))
 | _,_=>none
theorem xtp(hl:SoundL I ka2):SoundF I 88 xpB:=by
 refine gsq hl 1 Tryz.func88 fun g l t ht =>?_
 split at ht
 .rename_i to
  cases ht
  exact ey (xpv g to _)
 .cases ht
def xwC:Sm:=gS fun
 | g,[.c (.int .i64 k)]=>some (mkS Seen (KZ g k) fun r=>some (.agg r.cells,[]))
 | _,_=>none
theorem xxT(hl:SoundL I ka2):SoundF I 41 xwC:=by
 refine gsq hl 1 Tryz.func41 fun g l t ht =>?_
 split at ht
 .rename_i k
  cases ht
  exact ey (xtj g k _)
 .cases ht
def Vu:Sm:=fun
 | [.c (.int .i64 0),.c (.int .i64 o)],[]=>some (mkS ((Int×Bool)) (xfU o) fun r=>some (.tup [.c (.int .i64 r.1),.c (.bool r.2)],[]))
 | _,_=>none
theorem xl3(hl:SoundL I ka2):SoundF I 161 Vu:=by
 refine sq hl 1 Tryz.func161 fun _ _ t ht =>?_
 unfold Vu at ht
 split at ht
 .rename_i o
  cases ht
  exact ey (xiH o _)
 .cases ht
def Vv:Sm:=fun
 | [.c (.int .i64 1),.c (.int .i64 o)],[]=>some (mkS ((Int×Bool)) (xfV o) fun r=>some (.tup [.c (.int .i64 r.1),.c (.bool r.2)],[]))
 | _,_=>none
theorem xl4(hl:SoundL I ka2):SoundF I 161 Vv:=by
 refine sq hl 1 Tryz.func161 fun _ _ t ht =>?_
 unfold Vv at ht
 split at ht
 .rename_i o
  cases ht
  exact ey (xiI o _)
 .cases ht
def Vw:Sm:=fun
 | [.c (.int .i64 2),.c (.int .i64 o)],[]=>some (mkS ((Int×Bool)) (xfW o) fun r=>some (.tup [.c (.int .i64 r.1),.c (.bool r.2)],[]))
 | _,_=>none
theorem xl5(hl:SoundL I ka2):SoundF I 161 Vw:=by
 refine sq hl 1 Tryz.func161 fun _ _ t ht =>?_
 unfold Vw at ht
 split at ht
 .rename_i o
  cases ht
  exact ey (xiJ o _)
 .cases ht
def Vx:Sm:=fun
 | [.c (.int .i64 3),.c (.int .i64 o)],[]=>some (mkS ((Int×Bool)) (xfX o) fun r=>some (.tup [.c (.int .i64 r.1),.c (.bool r.2)],[]))
 | _,_=>none
theorem xl6(hl:SoundL I ka2):SoundF I 161 Vx:=by
 refine sq hl 1 Tryz.func161 fun _ _ t ht =>?_
 unfold Vx at ht
 split at ht
 .rename_i o
  cases ht
  exact ey (xiK o _)
 .cases ht
def xtq:Sm:=fun
 | [.c (.int .i64 s),.c (.int .i64 a)],[]=>some (mkS Int (cofT s a) fun r=>some (.c (.int .i64 r),[]))
 | _,_=>none
theorem xAf(hl:SoundL I ka2):SoundF I 129 xtq:=by
 refine sq hl 6 Tryz.func129 fun _ _ t ht =>?_
 unfold xtq at ht
 split at ht
 .rename_i s a
  cases ht
  exact ey (xxP s a _)
 .cases ht
def ka3:List (Nat×Sm):=(186,xtk)::(228,xfY)::(229,xb0)::(96,xwA)::(254,xfZ)::(255,xb1)::(253,xf0)::(248,xl1)::(133,xpy)::(84,xjL)::(86,xf1)::(87,xwB)::(89,xjM)::(88,xpB)::(41,xwC)::(161,(orSm Vu (orSm Vv (orSm Vw Vx))))::(129,xtq)::ka2
theorem s_ka3:SoundL I ka3:=(.cons (xAe vL) (.cons (xtl vL) (.cons (xpw vL) (.cons (xxQ vL) (.cons (xtm vL) (.cons (xpx vL) (.cons (xtn vL) (.cons (xxR vL) (.cons (xto vL) (.cons (xpz vL) (.cons (xl2 vL) (.cons (xxS vL) (.cons (xpA vL) (.cons (xtp vL) (.cons (xxT vL) (.cons (SoundF.or (xl3 vL) (SoundF.or (xl4 vL) (SoundF.or (xl5 vL) (xl6 vL)))) (.cons (xAf vL) vL)))))))))))))))))
end Lx
namespace Lx
open Go
def ofTK{β:Type}(g:Geo)(k:Int)(κ:Bool->T β):T β:=
 bif decide (k<0)then κ false else
 bif decide (k>=i64.wrap (g.pages*8))then κ false else κ true
def ofT(g:Geo)(k:Int):T Bool:=ofTK g k .ret
theorem xpC{β:Type}(g k)(κ:Bool->T β):(ofT g k).bind κ=ofTK g k κ:=by
 unfold ofT ofTK
 simp only[xkD,xkE]
def ofR(g:Geo)(k:Int):Bool->Option (V×Heap)
 | true=>some (.tup [.agg (.port::(g.cells ++ [.int .i64 (i64.wrap (k.tdiv 8))])),.c (.int .i64 (i64.wrap (k.tmod 8*8))),.c (.bool true)],[])
 | false=>some (.tup [.agg (.nili::List.replicate 23 (.int .i64 0)),.c (.int .i64 0),.c (.bool false)],[])
def m_ofT:Sm:=fun
 | [.c .port,.agg gc,.c (.int .i64 k)],[]=>(match xF gc with
  | some g=>some ⟨Bool,ofT g k,ofR g k,fun _ κ=>ofTK g k κ,fun _ κ=>(xpC g k κ).symm⟩
  | _=>none)
 | _,_=>none
variable{σ:Type}{I:Port Tryz.prog σ}
theorem s_m_ofT(hl:SoundL I ka3):SoundF I 138 m_ofT:=by
 refine sq hl 1 Tryz.func138 fun _ _ t ht =>?_
 unfold m_ofT at ht
 split at ht
 .rename_i gc k
  split at ht
  .rename_i g hg
   obtain rfl:=xm hg
   cases ht
   exact ey (xpC g k _)
  .cases ht
 .cases ht
def ka3b:List (Nat×Sm):=(138,m_ofT)::ka3
theorem Zw:SoundL I ka3b :=.cons (s_m_ofT s_ka3) s_ka3
structure Fit where
 (page n at_:Int)
def Fit.cells(r:Fit):List C :=[.int .i64 r.page,.int .i64 r.n,.int .i64 r.at_]
def Fit.of:List C->Option Fit
 | [.int .i64 a,.int .i64 b,.int .i64 c]=>some ⟨a,b,c⟩
 | _=>none
theorem Fit.of_eq{l:List C}{r:Fit}(h:Fit.of l=some r):l=r.cells:=by
 unfold Fit.of at h;split at h<;>cases h;rfl
structure Fnd where
 (grain:Int)
 (ok:Bool)
 (e:Int)
def Fnd.cells(r:Fnd):List C :=[.int .i64 r.grain,.bool r.ok,.int .i64 r.e]
def Fnd.of:List C->Option Fnd
 | [.int .i64 a,.bool b,.int .i64 c]=>some ⟨a,b,c⟩
 | _=>none
theorem Fnd.of_eq{l:List C}{r:Fnd}(h:Fnd.of l=some r):l=r.cells:=by
 unfold Fnd.of at h;split at h<;>cases h;rfl
def hdOf(l:List C):Option (Geo×Int):=
 match xF (l.take 22),l.drop 22 with
 | some g,[.int .u64 p]=>some (g,p)
 | _,_=>none
theorem yJ{l:List C}{g:Geo}{p:Int}(h:hdOf l=some (g,p)):l=g.cells ++ [.int .u64 p]:=by
 unfold hdOf at h
 split at h
 .rename_i g' p' h1 h2
  cases h
  rw[<- List.take_append_drop 22 l,xm h1,h2]
 .cases h
structure Rn where
 (grain size to usable:Int)
 (has:Bool)
def Rn.cells(r:Rn):List C :=[.int .i64 r.grain,.int .i64 r.size,.int .i64 r.to,.int .i64 r.usable,.bool r.has]
def Rn.of:List C->Option Rn
 | [.int .i64 a,.int .i64 b,.int .i64 c,.int .i64 d,.bool e]=>some ⟨a,b,c,d,e⟩
 | _=>none
theorem Rn.of_eq{l:List C}{r:Rn}(h:Rn.of l=some r):l=r.cells:=by
 unfold Rn.of at h;split at h<;>cases h;rfl
def rnOf(l:List C):Option (Geo×Rn):=
 match xF (l.take 22),Rn.of (l.drop 22) with
 | some g,some x=>some (g,x)
 | _,_=>none
theorem YD{l:List C}{g:Geo}{x:Rn}(h:rnOf l=some (g,x)):l=g.cells++x.cells:=by
 unfold rnOf at h
 split at h
 .rename_i g' p' h1 h2
  cases h
  rw[<- List.take_append_drop 22 l,xm h1,Rn.of_eq h2]
 .cases h
structure Cts where
 (allocs frees failures live bytes:Int)
def Cts.cells(r:Cts):List C :=[.int .u64 r.allocs,.int .u64 r.frees,.int .u64 r.failures,.int .u64 r.live,.int .u64 r.bytes]
def Cts.of:List C->Option Cts
 | [.int .u64 a,.int .u64 b,.int .u64 c,.int .u64 d,.int .u64 e]=>some ⟨a,b,c,d,e⟩
 | _=>none
theorem Cts.of_eq{l:List C}{r:Cts}(h:Cts.of l=some r):l=r.cells:=by
 unfold Cts.of at h;split at h<;>cases h;rfl
structure Res where
 (at_ n byte:Int)
 (c1 c2 c3 c4 c5:Int)
 (e lin touch:Int)
def Res.cells(r:Res):List C :=[.int .i64 r.at_,.int .i64 r.n,.int .u8 r.byte,.int .u64 r.c1,.int .u64 r.c2,.int .u64 r.c3,.int .u64 r.c4,.int .u64 r.c5,.int .i64 r.e,.int .i64 r.lin,.int .i64 r.touch]
def Res.of:List C->Option Res
 | [.int .i64 a,.int .i64 b,.int .u8 c,.int .u64 d,.int .u64 e,.int .u64 f,.int .u64 g,.int .u64 h,.int .i64 i,.int .i64 j,.int .i64 k]=>some ⟨a,b,c,d,e,f,g,h,i,j,k⟩
 | _=>none
theorem Res.of_eq{l:List C}{r:Res}(h:Res.of l=some r):l=r.cells:=by
 unfold Res.of at h;split at h<;>cases h;rfl
structure Cal where
 (op size n align at_ off byte:Int)
def Cal.cells(r:Cal):List C :=[.int .u8 r.op,.int .i64 r.size,.int .i64 r.n,.int .i64 r.align,.int .i64 r.at_,.int .i64 r.off,.int .u8 r.byte]
def Cal.of:List C->Option Cal
 | [.int .u8 a,.int .i64 b,.int .i64 c,.int .i64 d,.int .i64 e,.int .i64 f,.int .u8 g]=>some ⟨a,b,c,d,e,f,g⟩
 | _=>none
theorem Cal.of_eq{l:List C}{r:Cal}(h:Cal.of l=some r):l=r.cells:=by
 unfold Cal.of at h;split at h<;>cases h;rfl
def listR(l:List Int):V×Heap:=match l with
 | []=>(.c .nils,[])
 | _::_=>(.c (.slg 0 0 l.length),[some ⟨l.map (.int .i64), 3,true,none⟩])
end Lx
namespace Lx
variable{β:Type}(g:Geo)
open Go
def qd(a0 a1:Int)(b2:Bool)(g4:Geo)(κ0:Int->T β)(κ1:Unit->T β)(i:Int)(k:Int->T β):T β:=
 bif decide (i<8)then(.op (.load (atF g4 18 (inF (i64.wrap (a0-1)) i 8))) fun x1=>
 bif x1 != 0 then(.op (.cas (atF g4 18 (inF (i64.wrap (a0-1)) i 8)) x1 0) fun b3=>
 bif b3 then(κ0 x1) else
 k (i64.wrap (i+1))) else
 k (i64.wrap (i+1))) else
 κ1 ()
def wh(a0 a1:Int)(b2:Bool)(g4:Geo)(a3:Int)(κ0:Int->T β)(κ1:Unit->T β):T β:=xu xa (qd a0 a1 b2 g4 κ0 κ1) a3
theorem xb2{β γ:Type}(a0 a1 b2 g4 a3 κ0 κ1)(κ:β->T γ):(wh a0 a1 b2 g4 a3 κ0 κ1).bind κ=wh a0 a1 b2 g4 a3 (fun cg=>(κ0 cg).bind κ) (fun u=>(κ1 u).bind κ):=by
 unfold wh
 refine xi κ (fun i k =>?_) _ _
 unfold qd
 simp only[bz]
def xaa:Pat:=⟨xk 38 0 [(0,.c (.raw (.port))),(2,.c (.int .i64)),(4,.c (.raw (.ptr 0 0))),(6,.c (.int .u64)),(7,.c (.bool)),(10,.c (.int .i64))],[some ⟨[.geo], 26,false,none⟩]⟩
def ki:Pat:=⟨xk 38 0 [(6,.c (.int .u64)),(7,.c (.bool))],[]⟩
def qe:LF:=fun st K=>match xr xaa st with
 | some [.i a0,.i a1,.b b2,.i a3,.g g4]=>some (wh a0 a1 b2 g4 a3 (fun cg=>K (.ret) (xe ki [.i cg,.b true])) (fun _=>K (.exit 0) (xe ki [.i a1,.b b2])))
 | _=>none
theorem xl7 : ∀st K t,qe st K=some t->xD xa (lf ka3b xa 0 .no [1,0,1,0] Tryz.f259 K) st=t:=by
 intro st K t h
 unfold qe at h
 split at h
 .rename_i a0 a1 b2 a3 g4 hm
  cases h
  rw[xj hm]
  exact xt (S:=fun i=>xe xaa [.i a0,.i a1,.b b2,.i i,.g g4]) (B:=qd a0 a1 b2 g4 (fun cg=>K (.ret) (xe ki [.i cg,.b true])) (fun _=>K (.exit 0) (xe ki [.i a1,.b b2]))) (fun i k=>by kernel_rfl) xa a3
 .cases h
def YE(nd:Int)(κ:(Int×Bool)->T β):T β:=
 wh nd 0 false g 0 (fun av=>
 κ (av,true)) (fun av=>
 κ (0,false))
def jt(nd:Int):T (Int×Bool):=YE g nd .ret
theorem xiL(nd)(κ:(Int×Bool)->T β):(jt g nd).bind κ=YE g nd κ:=by
 unfold jt YE
 simp only[bz,xb2]
def xab(n:Int)(l:Bool)(κ:Unit->T β):T β:=
 bif l then((logT n).bind fun r1=>
 .op (.add (atF g 3 r1) 18446744073709551615) fun x2=>
 κ ()) else
 (logT n).bind fun r1=>
 .op (.add (atF g 3 r1) 1) fun x2=>
 κ ()
def kj(n:Int)(l:Bool):T Unit:=xab g n l .ret
theorem xl8(n l)(κ:Unit->T β):(kj g n l).bind κ=xab g n l κ:=by
 unfold kj xab
 simp only[bz]
def xeq(b0:Bool)(g2:Geo)(κ0:Unit->T β)(κ1:Unit->T β)(i:Int)(k:Int->T β):T β:=
 bif decide (i<9)then(.op (.load (atF g2 3 i)) fun x1=>
 bif x1 != 0 then(κ0 ()) else
 k (i64.wrap (i+1))) else
 κ1 ()
def YF(b0:Bool)(g2:Geo)(a1:Int)(κ0:Unit->T β)(κ1:Unit->T β):T β:=xu xa (xeq b0 g2 κ0 κ1) a1
theorem xl9{β γ:Type}(b0 g2 a1 κ0 κ1)(κ:β->T γ):(YF b0 g2 a1 κ0 κ1).bind κ=YF b0 g2 a1 (fun u=>(κ0 u).bind κ) (fun u=>(κ1 u).bind κ):=by
 unfold YF
 refine xi κ (fun i k =>?_) _ _
 unfold xeq
 simp only[bz]
def xpD:Pat:=⟨xk 22 0 [(2,.c (.raw (.ptr 0 0))),(4,.c (.bool)),(5,.c (.int .i64))],[some ⟨[.raw (.port),.geo], 138,false,none⟩]⟩
def YG:Pat:=⟨xk 22 0 [(4,.c (.bool))],[]⟩
def xer:LF:=fun st K=>match xr xpD st with
 | some [.b b0,.i a1,.g g2]=>some (YF b0 g2 a1 (fun _=>K (.ret) (xe YG [.b true])) (fun _=>K (.exit 0) (xe YG [.b b0])))
 | _=>none
theorem xAg : ∀st K t,xer st K=some t->xD xa (lf ka3b xa 0 .no [1,0,1,0] Tryz.f256 K) st=t:=by
 intro st K t h
 unfold xer at h
 split at h
 .rename_i b0 a1 g2 hm
  cases h
  rw[xj hm]
  exact xt (S:=fun i=>xe xpD [.b b0,.i i,.g g2]) (B:=xeq b0 g2 (fun _=>K (.ret) (xe YG [.b true])) (fun _=>K (.exit 0) (xe YG [.b b0]))) (fun i k=>by kernel_rfl) xa a1
 .cases h
def xwD(k:Int)(κ:Bool->T β):T β:=
 (logT k).bind fun r0=>
 YF false g r0 (fun d7=>
 κ true) (fun d7=>
 κ false)
def anyT(k:Int):T Bool:=xwD g k .ret
theorem xxU(k)(κ:Bool->T β):(anyT g k).bind κ=xwD g k κ:=by
 unfold anyT xwD
 simp only[bz,xl9]
def xf2(c o:Int)(κ:(Int×Bool)->T β):T β:=
 bif decide (c<0)then(κ (0,false)) else
 bif decide (c>=4)then(κ (0,false)) else
 bif decide (o<0)then(κ (0,false)) else
 bif decide (0<=c/\c<4)then(bif bif (bif c==0 then(8:Int)else bif c==1 then(16:Int)else bif c==2 then(24:Int)else(32:Int))==0 then false else true then(bif bif (bif c==0 then(8:Int)else bif c==1 then(16:Int)else bif c==2 then(24:Int)else(32:Int))==0 then false else true then(bif Int.tmod o (bif c==0 then(8:Int)else bif c==1 then(16:Int)else bif c==2 then(24:Int)else(32:Int))==0 then(bif decide (i64.wrap (Int.tdiv o (bif c==0 then(8:Int)else bif c==1 then(16:Int)else bif c==2 then(24:Int)else(32:Int)))<bif c==0 then(8:Int)else bif c==1 then(4:Int)else bif c==2 then(2:Int)else(2:Int))then(κ ((i64.wrap (Int.tdiv o (bif c==0 then(8:Int)else bif c==1 then(16:Int)else bif c==2 then(24:Int)else(32:Int)))),true)) else
 κ (0,false)) else
 κ (0,false)) else
 .fail) else
 .fail) else
 .fail
def YH(c o:Int):T (Int×Bool):=xf2 c o .ret
theorem xma(c o)(κ:(Int×Bool)->T β):(YH c o).bind κ=xf2 c o κ:=by
 unfold YH xf2
 simp only[bz]
def xtr(p k:Int)(κ:Int->T β):T β:=
 (isT g p k).bind fun r0=>
 bif !r0 then(κ (-1)) else
 bif decide (0<=k/\k<4)then(.op (.self) fun x3=>
 .op (.store (atF g 7 p) (Pg.word (Pg.mk 3 1 k x3))) fun _=>
 (Vd g p).bind fun r5=>
 (xeo (Cls.mk (bif k==0 then(8:Int)else bif k==0+1 then(16:Int)else bif k==0+1+1 then(24:Int)else(32:Int)) (bif k==0 then(8:Int)else bif k==0+1 then(16:Int)else bif k==0+1+1 then(8:Int)else(32:Int)) (bif k==0 then(8:Int)else bif k==0+1 then(4:Int)else bif k==0+1+1 then(2:Int)else(2:Int)))).bind fun r6=>
 .op (.store (atF g 8 p) (Bt.word (Bt.mk (bits BinOp.andNot u8 r6 1) true k (u32.wrap (r5.ver+1))))) fun _=>
 κ (i64.wrap (i64.wrap (p*8)+i64.wrap (Int.tdiv (i64.wrap (0*bif k==0 then(8:Int)else bif k==1 then(16:Int)else bif k==2 then(24:Int)else(32:Int))) 8)))) else
 .fail
def xjN(p k:Int):T Int:=xtr g p k .ret
theorem xts(p k)(κ:Int->T β):(xjN g p k).bind κ=xtr g p k κ:=by
 unfold xjN xtr
 simp only[bz]
def YI(a0 a1:Int)(b2:Bool)(g3:Geo)(a4:Int)(κ0:Unit->T β)(κ1:Int->T β)(i:Unit)(k:Unit->T β):T β:=
 (isT g3 a4 a0).bind fun r0=>
 bif r0 then((Vd g3 a4).bind fun r2=>
 (firstT {map:=r2.map,has:=r2.has,cls:=r2.cls,ver:=r2.ver}).bind fun r3=>
 bif !r2.has then(κ0 ()) else
 bif r2.cls != a0 then(κ0 ()) else
 bif decide (r3<0)then(κ0 ()) else
 bif bif decide (r3<0)then false else true then((Xz g3 a4 {map:=r2.map,has:=r2.has,cls:=r2.cls,ver:=r2.ver}   {     map:=       bits BinOp.andNot u8 r2.map         (u8.wrap           (1*2 ^ if Int.toNat r3<=nat_lit 8 then Int.toNat r3 else nat_lit 8)),     has:=r2.has,cls:=r2.cls,ver:=r2.ver}).bind fun r8=>
 bif r8 then(bif decide (0<=a0/\a0<4)then(κ1 (i64.wrap   (i64.wrap (a4*8) +     i64.wrap       (Int.tdiv         (i64.wrap           (r3 *             bif a0==0 then(8:Int)             else bif a0==1 then(16:Int)else bif a0==2 then(24:Int)else(32:Int)))         8)))) else
 .fail) else
 k ()) else
 .fail) else
 κ0 ()
def kY(a0 a1:Int)(b2:Bool)(g3:Geo)(a4:Int)  (κ0:Unit->T β) (κ1:Int->T β):T β:=xu xa (YI a0 a1 b2 g3 a4 κ0 κ1) ()
theorem xf3{β γ:Type}(a0 a1:Int)(b2:Bool)(g3:Geo)(a4:Int)  (κ0:Unit->T β) (κ1:Int->T β) (κ:β->T γ):(kY a0 a1 b2 g3 a4  κ0 κ1).bind κ=kY a0 a1 b2 g3 a4  (fun u=>(κ0 u).bind κ) (fun cg=>(κ1 cg).bind κ):=by
 unfold kY
 refine xi κ (fun i k =>?_) _ _
 unfold YI
 simp only[bz]
def xf4:Pat:=⟨xk 56 0 [(3,.c (.int .i64)),(8,.c (.int .i64)),(9,.c (.bool)),(10,.c (.raw (.ptr 1 0)))],[none,some ⟨[.raw (.port),.geo,.int .i64], 202,false,none⟩]⟩
def qf:Pat:=⟨xk 56 0 [(8,.c (.int .i64)),(9,.c (.bool))],[]⟩
def YJ:LF:=fun st K=>match xr xf4 st with
 | some [.i a0,.i a1,.b b2,.g g3,.i a4]=>some (kY a0 a1 b2 g3 a4  (fun _=>K (.exit 0) (xe qf [.i a1,.b b2])) (fun cg=>K (.ret) (xe qf [.i cg,.b true])))
 | _=>none
theorem xtt : ∀st K t,YJ st K=some t->xD xa (lf ka3b xa 0 .no [1,1,0,0] Tryz.f243 K) st=t:=by
 intro st K t h
 unfold YJ at h
 split at h
 .rename_i a0 a1 b2 g3 a4 hm
  cases h
  rw[xj hm]
  exact xt (S:=fun i=>xe xf4 [.i a0,.i a1,.b b2,.g g3,.i a4]) (B:=YI a0 a1 b2 g3 a4 (fun _=>K (.exit 0) (xe qf [.i a1,.b b2])) (fun cg=>K (.ret) (xe qf [.i cg,.b true]))) (fun i k=>by kernel_rfl) xa ()
 .cases h
def xes(p k:Int)(κ:(Int×Bool)->T β):T β:=
 kY k 0 false g p (fun av=>
 κ (0,false)) (fun av=>
 κ (av,true))
def xb3(p k:Int):T (Int×Bool):=xes g p k .ret
theorem xpE(p k)(κ:(Int×Bool)->T β):(xb3 g p k).bind κ=xes g p k κ:=by
 unfold xb3 xes
 simp only[bz,xf3]
def xac(a0:Int)(b1 b2:Bool)(g3:Geo)(a4:Int)(κ0:Unit->T β)(κ1:Unit->T β)(i:Unit)(k:Unit->T β):T β:=
 bif b2 then(.op (.load (atF g3 9 a4)) fun x1=>
 .op (.store (atF g3 10 a0) x1) fun _=>
 .op (.cas (atF g3 9 a4) x1 (u64.wrap (u64.wrap a0+1))) fun b3=>
 bif b3 then(κ0 ()) else
 k ()) else
 κ1 ()
def qM(a0:Int)(b1 b2:Bool)(g3:Geo)(a4:Int)  (κ0:Unit->T β) (κ1:Unit->T β):T β:=xu xa (xac a0 b1 b2 g3 a4 κ0 κ1) ()
theorem xiM{β γ:Type}(a0:Int)(b1 b2:Bool)(g3:Geo)(a4:Int)  (κ0:Unit->T β) (κ1:Unit->T β) (κ:β->T γ):(qM a0 b1 b2 g3 a4  κ0 κ1).bind κ=qM a0 b1 b2 g3 a4  (fun u=>(κ0 u).bind κ) (fun u=>(κ1 u).bind κ):=by
 unfold qM
 refine xi κ (fun i k =>?_) _ _
 unfold xac
 simp only[bz]
def xjO:Pat:=⟨xk 60 0 [(2,.c (.int .i64)),(6,.c (.bool)),(7,.c (.raw (.ptr 1 0))),(9,.c (.bool))],[none,some ⟨[.raw (.port),.geo,.int .i64], 202,false,none⟩]⟩
def Zx:Pat:=⟨xk 60 0 [(6,.c (.bool))],[]⟩
def xad:LF:=fun st K=>match xr xjO st with
 | some [.i a0,.b b1,.b b2,.g g3,.i a4]=>some (qM a0 b1 b2 g3 a4  (fun _=>K (.ret) (xe Zx [.b true])) (fun _=>K (.exit 0) (xe Zx [.b b1])))
 | _=>none
theorem xxV : ∀st K t,xad st K=some t->xD xa (lf ka3b xa 0 .no [1,1,0,0] Tryz.f99 K) st=t:=by
 intro st K t h
 unfold xad at h
 split at h
 .rename_i a0 b1 b2 g3 a4 hm
  cases h
  rw[xj hm]
  exact xt (S:=fun i=>xe xjO [.i a0,.b b1,.b b2,.g g3,.i a4]) (B:=xac a0 b1 b2 g3 a4 (fun _=>K (.ret) (xe Zx [.b true])) (fun _=>K (.exit 0) (xe Zx [.b b1]))) (fun i k=>by kernel_rfl) xa ()
 .cases h
def xmb(k:Int)(κ:Bool->T β):T β:=
 bif decide (k<0)then(κ false) else
 bif decide (k>=i64.wrap (g.pages*8))then(κ false) else
 qM k false true g (i64.wrap (Int.tdiv k 8)) (fun cz=>
 κ true) (fun cz=>
 κ false)
def xjP(k:Int):T Bool:=xmb g k .ret
theorem xtu(k)(κ:Bool->T β):(xjP g k).bind κ=xmb g k κ:=by
 unfold xjP xmb
 simp only[bz,xiM]
def xmc(k:Int)(κ:Pg->T β):T β:=
 bif decide (k<0)then(κ ⟨0,0,0,0⟩) else
 bif decide (k>=i64.wrap (g.pages*8))then(κ ⟨0,0,0,0⟩) else
 .op (.load (atF g 7 (i64.wrap (Int.tdiv k 8)))) fun x2=>
 κ ⟨(if(IntKind.signed i64&&decide (bits BinOp.and u64 (Int.fdiv x2 1) 7%18446744073709551616>=9223372036854775808))=true then bits BinOp.and u64 (Int.fdiv x2 1) 7%18446744073709551616-18446744073709551616 else bits BinOp.and u64 (Int.fdiv x2 1) 7%18446744073709551616),(if(IntKind.signed i64&&decide (bits BinOp.and u64 (Int.fdiv x2 8) 1023%18446744073709551616>=9223372036854775808))=true then bits BinOp.and u64 (Int.fdiv x2 8) 1023%18446744073709551616-18446744073709551616 else bits BinOp.and u64 (Int.fdiv x2 8) 1023%18446744073709551616),(if(IntKind.signed i64&&decide (bits BinOp.and u64 (Int.fdiv x2 8192) 3%18446744073709551616>=9223372036854775808))=true then bits BinOp.and u64 (Int.fdiv x2 8192) 3%18446744073709551616-18446744073709551616 else bits BinOp.and u64 (Int.fdiv x2 8192) 3%18446744073709551616),(if(IntKind.signed i64&&decide (bits BinOp.and u64 (Int.fdiv x2 65536) 127%18446744073709551616>=9223372036854775808))=true then bits BinOp.and u64 (Int.fdiv x2 65536) 127%18446744073709551616-18446744073709551616 else bits BinOp.and u64 (Int.fdiv x2 65536) 127%18446744073709551616)⟩
def ks(k:Int):T Pg:=xmc g k .ret
theorem xtv(k)(κ:Pg->T β):(ks g k).bind κ=xmc g k κ:=by
 unfold ks xmc
 simp only[bz]
def Vy:Sm:=fun
 | [.c .port,.agg gc,.c (.int .i64 nd)],[]=>(match xF gc with
   | some g=>some (mkS ((Int×Bool)) (jt g nd) fun r=>some (.tup [.c (.int .u64 r.1),.c (.bool r.2)],[]))
   | _=>none)
 | _,_=>none
theorem xiN:Good Tryz.prog (xp ka3b) xa 0 (lsAt qe .no [1,0,1,0]) (Tryz.f259.body.getD .skip) (xw Tryz.f259.results.toList):=xB (xg (by kernel_rfl)) xA xl7
variable{σ:Type}{I:Port Tryz.prog σ}
theorem xmd(hl:SoundL I ka3b):SoundF I 259 Vy:=by
 refine sq hl xa Tryz.func259 fun _ _ t ht =>?_
 unfold Vy at ht
 split at ht
 .rename_i gc nd
  split at ht
  .rename_i g hg
   obtain rfl:=xm hg
   cases ht
   refine(xE (P:= Tryz.prog) (n:=xa) (x:=(lsAt qe .no [1,0,1,0])) (fn:= Tryz.f259) (H :=[]) (c:= Tryz.f259.body.getD .skip) (xg (by kernel_rfl)) xiN).symm.trans ?_
   exact ey (xiL g nd _)
  .cases ht
 .cases ht
def xb4:Sm:=fun
 | [.agg (.port::gc),.c (.int .i64 n),.c (.bool l)],[]=>(match xF gc with
   | some g=>some (mkS Unit (kj g n l) fun r=>some (.tup [],[]))
   | _=>none)
 | _,_=>none
theorem xpF(hl:SoundL I ka3b):SoundF I 127 xb4:=by
 refine sq hl 1 Tryz.func127 fun _ _ t ht =>?_
 unfold xb4 at ht
 split at ht
 .rename_i gc n l
  split at ht
  .rename_i g hg
   obtain rfl:=xm hg
   cases ht
   exact ey (xl8 g n l _)
  .cases ht
 .cases ht
def xtw:Sm:=fun
 | [.agg (.port::gc),.c (.int .i64 k)],[]=>(match xF gc with
   | some g=>some (mkS Bool (anyT g k) fun r=>some (.c (.bool r),[]))
   | _=>none)
 | _,_=>none
theorem xxW:Good Tryz.prog (xp ka3b) xa 0 (lsAt xer .no [1,0,1,0]) (Tryz.f256.body.getD .skip) (xw Tryz.f256.results.toList):=xB (xg (by kernel_rfl)) xA xAg
theorem xAh(hl:SoundL I ka3b):SoundF I 256 xtw:=by
 refine sq hl xa Tryz.func256 fun _ _ t ht =>?_
 unfold xtw at ht
 split at ht
 .rename_i gc k
  split at ht
  .rename_i g hg
   obtain rfl:=xm hg
   cases ht
   refine(xE (P:= Tryz.prog) (n:=xa) (x:=(lsAt xer .no [1,0,1,0])) (fn:= Tryz.f256) (H :=[]) (c:= Tryz.f256.body.getD .skip) (xg (by kernel_rfl)) xxW).symm.trans ?_
   exact ey (xxU g k _)
  .cases ht
 .cases ht
def xb5:Sm:=fun
 | [.c (.int .i64 c),.c (.int .i64 o)],[]=>some (mkS ((Int×Bool)) (YH c o) fun r=>some (.tup [.c (.int .i64 r.1),.c (.bool r.2)],[]))
 | _,_=>none
theorem xpG(hl:SoundL I ka3b):SoundF I 161 xb5:=by
 refine sq hl 1 Tryz.func161 fun _ _ t ht =>?_
 unfold xb5 at ht
 split at ht
 .rename_i c o
  cases ht
  exact ey (xma c o _)
 .cases ht
def xwE:Sm:=gS fun
 | g,[.c (.int .i64 p),.c (.int .i64 k)]=>some (mkS Int (xjN g p k) fun r=>some (.c (.int .i64 r),[]))
 | _,_=>none
theorem xxX(hl:SoundL I ka3b):SoundF I 244 xwE:=by
 refine gsq hl 1 Tryz.func244 fun g l t ht =>?_
 split at ht
 .rename_i p k
  cases ht
  exact ey (xts g p k _)
 .cases ht
def xf5:Sm:=fun
 | [.c .port,.agg gc,.c (.int .i64 p),.c (.int .i64 k)],[]=>(match xF gc with
   | some g=>some (mkS ((Int×Bool)) (xb3 g p k) fun r=>some (.tup [.c (.int .i64 r.1),.c (.bool r.2)],[]))
   | _=>none)
 | _,_=>none
theorem xpH:Good Tryz.prog (xp ka3b) xa 0 (lsAt YJ .no [1,1,0,0]) (Tryz.f243.body.getD .skip) (xw Tryz.f243.results.toList):=xB (xg (by kernel_rfl)) xA xtt
theorem xtx(hl:SoundL I ka3b):SoundF I 243 xf5:=by
 refine sq hl xa Tryz.func243 fun _ _ t ht =>?_
 unfold xf5 at ht
 split at ht
 .rename_i gc p k
  split at ht
  .rename_i g hg
   obtain rfl:=xm hg
   cases ht
   refine(xE (P:= Tryz.prog) (n:=xa) (x:=(lsAt YJ .no [1,1,0,0])) (fn:= Tryz.f243) (H :=[]) (c:= Tryz.f243.body.getD .skip) (xg (by kernel_rfl)) xpH).symm.trans ?_
   exact ey (xpE g p k _)
  .cases ht
 .cases ht
def xme:Sm:=fun
 | [.c .port,.agg gc,.c (.int .i64 k)],[]=>(match xF gc with
   | some g=>some (mkS Bool (xjP g k) fun r=>some (.c (.bool r),[]))
   | _=>none)
 | _,_=>none
theorem xty:Good Tryz.prog (xp ka3b) xa 0 (lsAt xad .no [1,1,0,0]) (Tryz.f99.body.getD .skip) (xw Tryz.f99.results.toList):=xB (xg (by kernel_rfl)) xA xxV
theorem xxY(hl:SoundL I ka3b):SoundF I 99 xme:=by
 refine sq hl xa Tryz.func99 fun _ _ t ht =>?_
 unfold xme at ht
 split at ht
 .rename_i gc k
  split at ht
  .rename_i g hg
   obtain rfl:=xm hg
   cases ht
   refine(xE (P:= Tryz.prog) (n:=xa) (x:=(lsAt xad .no [1,1,0,0])) (fn:= Tryz.f99) (H :=[]) (c:= Tryz.f99.body.getD .skip) (xg (by kernel_rfl)) xty).symm.trans ?_
   exact ey (xtu g k _)
  .cases ht
 .cases ht
def xwF:Sm:=gS fun
 | g,[.c (.int .i64 k)]=>some (mkS Pg (ks g k) fun r=>some (.agg r.cells,[]))
 | _,_=>none
theorem xxZ(hl:SoundL I ka3b):SoundF I 82 xwF:=by
 refine gsq hl 1 Tryz.func82 fun g l t ht =>?_
 split at ht
 .rename_i k
  cases ht
  exact ey (xtv g k _)
 .cases ht
def ka4:List (Nat×Sm):=(259,Vy)::(127,xb4)::(256,xtw)::(161,xb5)::(244,xwE)::(243,xf5)::(99,xme)::(82,xwF)::ka3b
theorem Vf:SoundL I ka4:=(.cons (xmd Zw) (.cons (xpF Zw) (.cons (xAh Zw) (.cons (xpG Zw) (.cons (xxX Zw) (.cons (xtx Zw) (.cons (xxY Zw) (.cons (xxZ Zw) Zw))))))))
end Lx
namespace Lx
variable{β:Type}(g:Geo)
open Go
def xb6(b0:Bool)(a1:Int)(b2:Bool)(g3:Geo)(a4:Int)(κ0:Unit->T β)(κ1:Unit->T β)(i:Unit)(k:Unit->T β):T β:=
 bif b2 then((Vd g3 a4).bind fun r1=>
 (YH r1.cls a1).bind fun r2=>
 bif !r1.has then(κ0 ()) else
 bif !r2.2 then(κ0 ()) else
 bif bif decide (r2.1<0)then false else true then(bif bits BinOp.and u8 (Int.fdiv r1.map (2 ^ if Int.toNat r2.1<=nat_lit 8 then Int.toNat r2.1 else nat_lit 8)) 1==1 then(κ0 ()) else
 bif bif decide (r2.1<0)then false else true then((Xz g3 a4 {map:=r1.map,has:=r1.has,cls:=r1.cls,ver:=r1.ver} {map:=bits BinOp.or u8 r1.map (u8.wrap (1*2 ^ if Int.toNat r2.1<=nat_lit 8 then Int.toNat r2.1 else nat_lit 8)),has:=r1.has,cls:=r1.cls,ver:=r1.ver}).bind fun r8=>
 bif r8 then(κ1 ()) else
 k ()) else
 .fail) else
 .fail) else
 κ0 ()
def wJ(b0:Bool)(a1:Int)(b2:Bool)(g3:Geo)(a4:Int)  (κ0:Unit->T β) (κ1:Unit->T β):T β:=xu xa (xb6 b0 a1 b2 g3 a4 κ0 κ1) ()
theorem xf6{β γ:Type}(b0:Bool)(a1:Int)(b2:Bool)(g3:Geo)(a4:Int)  (κ0:Unit->T β) (κ1:Unit->T β) (κ:β->T γ):(wJ b0 a1 b2 g3 a4  κ0 κ1).bind κ=wJ b0 a1 b2 g3 a4  (fun u=>(κ0 u).bind κ) (fun u=>(κ1 u).bind κ):=by
 unfold wJ
 refine xi κ (fun i k =>?_) _ _
 unfold xb6
 simp only[bz]
def xf7:Pat:=⟨xk 58 0 [(6,.c (.bool)),(7,.c (.raw (.ptr 1 0))),(8,.c (.int .i64)),(9,.c (.bool))],[none,some ⟨[.raw (.port),.geo,.int .i64], 202,false,none⟩]⟩
def xdm:Pat:=⟨xk 58 0 [(6,.c (.bool))],[]⟩
def YK:LF:=fun st K=>match xr xf7 st with
 | some [.b b0,.i a1,.b b2,.g g3,.i a4]=>some (wJ b0 a1 b2 g3 a4  (fun _=>K (.exit 0) (xe xdm [.b b0])) (fun _=>K (.ret) (xe xdm [.b true])))
 | _=>none
theorem xtz : ∀st K t,YK st K=some t->xD xa (lf ka4 xa 0 .no [1,1,0,0] Tryz.f102 K) st=t:=by
 intro st K t h
 unfold YK at h
 split at h
 .rename_i b0 a1 b2 g3 a4 hm
  cases h
  rw[xj hm]
  unfold wJ
  exact xt (S:=fun(i:Unit)=>xe xf7 [.b b0,.i a1,.b b2,.g g3,.i a4]) (fun i k=>by kernel_rfl) xa ()
 .cases h
def xet(k:Int)(κ:Bool->T β):T β:=
 bif decide (k<0)then(κ false) else
 bif decide (k>=i64.wrap (g.pages*8))then(κ false) else
 wJ false (i64.wrap (Int.tmod k 8*8)) true g (i64.wrap (Int.tdiv k 8)) (fun cz=>
 κ false)  (fun cz=>
 κ true)
def Vz(k:Int):T Bool:=xet g k .ret
theorem xpI(k)(κ:Bool->T β):(Vz g k).bind κ=xet g k κ:=by
 unfold Vz xet
 simp only[bz,xf6]
def YL(a0:Int)(g2:Geo)(a3:Int)(κ0:Int->T β)(i:Int)(k:Int->T β):T β:=
 bif i != 0 then(.op (.cas (atF g2 9 a0) i 0) fun b1=>
 bif !b1 then(.op (.load (atF g2 9 a0)) fun x3=>
 k x3) else
 κ0 i) else
 κ0 (i)
def yv(a0:Int)(g2:Geo)(a3 a1:Int)(κ0:Int->T β):T β:=xu xa (YL a0 g2 a3 κ0) a1
theorem ju{β γ:Type}(a0 g2 a3 a1 κ0)(κ:β->T γ):(yv a0 g2 a3 a1 κ0).bind κ=yv a0 g2 a3 a1 (fun cg=>(κ0 cg).bind κ):=by
 unfold yv
 refine xi κ (fun i k =>?_) _ _
 unfold YL
 simp only[bz]
def xf8:Pat:=⟨xk 84 0 [(2,.c (.int .i64)),(6,.c (.raw (.nils))),(7,.c (.raw (.ptr 1 0))),(8,.c (.int .u64))],[none,some ⟨[.raw (.port),.geo,.int .i64], 202,false,none⟩]⟩
def xpJ:Pat:=⟨xk 84 0 [(6,.c (.raw (.nils))),(7,.c (.raw (.ptr 1 0))),(8,.c (.int .u64))],[none,some ⟨[.raw (.port),.geo,.int .i64], 202,false,none⟩]⟩
def YM:LF:=fun st K=>match xr xf8 st with
 | some [.i a0,.i a1,.g g2,.i a3]=>some (yv a0 g2 a3 a1 (fun cg=>K (.exit 0) (xe xpJ [.i cg,.g g2,.i a3])))
 | _=>none
theorem xtA : ∀st K t,YM st K=some t->xD xa (lf ka4 xa 0 .no [1,1,1,1,0,0] Tryz.f242 K) st=t:=by
 intro st K t h
 unfold YM at h
 split at h
 .rename_i a0 a1 g2 a3 hm
  cases h
  rw[xj hm]
  unfold yv
  exact xt (S:=fun(i:Int)=>xe xf8 [.i a0,.i i,.g g2,.i a3]) (fun i k=>by kernel_rfl) xa a1
 .cases h
def xeu(p:Int)(κ:(List Int)->T β):T β:=
 (isT g p 0).bind fun r0=>
 bif !r0 then(κ []) else
 .op (.load (atF g 9 p)) fun x2=>
 yv p g p x2 (fun d6=>
 bif d6 != 0 then(.op (.load (atF g 10 (i64.wrap (i64.wrap d6-1)))) fun x5=>
 bif x5 != 0 then(.op (.load (atF g 10 (i64.wrap (i64.wrap x5-1)))) fun x7=>
 bif x7 != 0 then(.op (.load (atF g 10 (i64.wrap (i64.wrap x7-1)))) fun x9=>
 bif x9 != 0 then(.op (.load (atF g 10 (i64.wrap (i64.wrap x9-1)))) fun sa=>
 bif sa != 0 then(.op (.load (atF g 10 (i64.wrap (i64.wrap sa-1)))) fun te=>
 bif te != 0 then(.op (.load (atF g 10 (i64.wrap (i64.wrap te-1)))) fun zr=>
 bif zr != 0 then(.op (.load (atF g 10 (i64.wrap (i64.wrap zr-1)))) fun Aw=>
 bif Aw != 0 then(.op (.load (atF g 10 (i64.wrap (i64.wrap Aw-1)))) fun Er=>
 bif Er != 0 then(κ [(i64.wrap (i64.wrap d6-1)),(i64.wrap (i64.wrap x5-1)),(i64.wrap (i64.wrap x7-1)),(i64.wrap (i64.wrap x9-1)),(i64.wrap (i64.wrap sa-1)),(i64.wrap (i64.wrap te-1)),(i64.wrap (i64.wrap zr-1)),(i64.wrap (i64.wrap Aw-1))]) else
 κ [(i64.wrap (i64.wrap d6-1)),(i64.wrap (i64.wrap x5-1)),(i64.wrap (i64.wrap x7-1)),(i64.wrap (i64.wrap x9-1)),(i64.wrap (i64.wrap sa-1)),(i64.wrap (i64.wrap te-1)),(i64.wrap (i64.wrap zr-1)),(i64.wrap (i64.wrap Aw-1))]) else
 κ [(i64.wrap (i64.wrap d6-1)),(i64.wrap (i64.wrap x5-1)),(i64.wrap (i64.wrap x7-1)),(i64.wrap (i64.wrap x9-1)),(i64.wrap (i64.wrap sa-1)),(i64.wrap (i64.wrap te-1)),(i64.wrap (i64.wrap zr-1))]) else
 κ [(i64.wrap (i64.wrap d6-1)),(i64.wrap (i64.wrap x5-1)),(i64.wrap (i64.wrap x7-1)),(i64.wrap (i64.wrap x9-1)),(i64.wrap (i64.wrap sa-1)),(i64.wrap (i64.wrap te-1))]) else
 κ [(i64.wrap (i64.wrap d6-1)),(i64.wrap (i64.wrap x5-1)),(i64.wrap (i64.wrap x7-1)),(i64.wrap (i64.wrap x9-1)),(i64.wrap (i64.wrap sa-1))]) else
 κ [(i64.wrap (i64.wrap d6-1)),(i64.wrap (i64.wrap x5-1)),(i64.wrap (i64.wrap x7-1)),(i64.wrap (i64.wrap x9-1))]) else
 κ [(i64.wrap (i64.wrap d6-1)),(i64.wrap (i64.wrap x5-1)),(i64.wrap (i64.wrap x7-1))]) else
 κ [(i64.wrap (i64.wrap d6-1)),(i64.wrap (i64.wrap x5-1))]) else
 κ [(i64.wrap (i64.wrap d6-1))]) else
 κ [])
def xtB(p:Int):T (List Int):=xeu g p .ret
theorem xdn(p)(κ:(List Int)->T β):(xtB g p).bind κ=xeu g p κ:=by
 unfold xtB xeu
 simp only[bz,ju]
def xwG(p n:Int)(κ:Unit->T β):T β:=
 bif n==0 then(κ ()) else
 bif decide (n>1)then((qK g (i64.wrap (i64.wrap (p+n)-1)) 2 n).bind fun r2=>
 (qK g p 1 n).bind fun r3=>
 (kj g n false).bind fun r4=>
 κ ()) else
 (qK g p 1 n).bind fun r2=>
 (kj g n false).bind fun r3=>
 κ ()
def layT(p n:Int):T Unit:=xwG g p n .ret
theorem xx0(p n)(κ:Unit->T β):(layT g p n).bind κ=xwG g p n κ:=by
 unfold layT xwG
 simp only[bz]
def xmf(v0:Pg)(v1:Int×Int×Int×Int->T β)(v2 v3:Int):T β:=
 (kE {kind:=v0.kind,len:=v0.len,cls:=v0.cls,owner:=v0.owner}).bind fun r6=>
 v1 (i64.wrap (v2+r6),v2,v0.len,i64.wrap (i64.wrap (Int.tdiv (i64.wrap (i64.wrap (v2+v3)-1)) v3)*v3))
def xf9(v0:Pg)(v1:Int×Int×Int×Int->T β)(v2 v3 v4 v5:Int):T β:=
 (kE {kind:=v0.kind,len:=v0.len,cls:=v0.cls,owner:=v0.owner}).bind fun r7=>
 v1 (i64.wrap (v2+r7),v3,v4,v5)
def xga(a0 a1:Int)(g3:Geo)(a4 a5 a6:Int)(κ0:Int->Int->Int->T β)(i:Int×Int×Int×Int)(k:Int×Int×Int×Int->T β):T β:=
 bif decide (i.1<g3.pages)then((Vc g3 i.1).bind fun r1=>
 bif bif a1==0 then false else true then(bif r1.kind==1 then(bif decide (i64.wrap (i64.wrap (i64.wrap (Int.tdiv (i64.wrap (i64.wrap (i.1+a1)-1)) a1)*a1)+a0)<=i64.wrap (i.1+r1.len))then(bif i.2.2.1==0 then(xmf r1 k i.1 a1) else
 bif decide (r1.len<i.2.2.1)then(xmf r1 k i.1 a1) else
 xf9 r1 k i.1 i.2.1 i.2.2.1 i.2.2.2) else
 xf9 r1 k i.1 i.2.1 i.2.2.1 i.2.2.2) else
 xf9 r1 k i.1 i.2.1 i.2.2.1 i.2.2.2) else
 .fail) else
 κ0 i.2.1 i.2.2.1 (i.2.2.2)
def jv(a0 a1:Int)(g3:Geo)(a4 a5 a6 a2 a7 a8 a9:Int)(κ0:Int->Int->Int->T β):T β:=xu xa (xga a0 a1 g3 a4 a5 a6 κ0) (a2,a7,a8,a9)
theorem xiO{β γ:Type}(a0 a1 g3 a4 a5 a6 a2 a7 a8 a9 κ0)(κ:β->T γ):(jv a0 a1 g3 a4 a5 a6 a2 a7 a8 a9 κ0).bind κ=jv a0 a1 g3 a4 a5 a6 a2 a7 a8 a9 (fun lj nc li=>(κ0 lj nc li).bind κ):=by
 unfold jv
 refine xi κ (fun i k =>?_) _ _
 unfold xga xmf xf9
 simp only[bz]
def xjQ:Pat:=⟨xk 67 0 [(1,.c (.int .i64)),(2,.c (.int .i64)),(3,.c (.raw (.ptr 0 0))),(6,.c (.raw (.ptr 1 0))),(7,.c (.raw (.ptr 2 0))),(8,.c (.int .i64))],[some ⟨[.raw (.port),.geo], 138,false,none⟩,some ⟨[.int .i64,.int .i64,.int .i64], 276,false,none⟩,some ⟨[.int .i64,.int .i64,.int .i64], 276,false,none⟩]⟩
def xtC:Pat:=⟨xk 67 0 [(6,.c (.raw (.ptr 1 0))),(7,.c (.raw (.ptr 2 0)))],[none,some ⟨[.int .i64,.int .i64,.int .i64], 276,false,none⟩,some ⟨[.int .i64,.int .i64,.int .i64], 276,false,none⟩]⟩
def xae:LF:=fun st K=>match xr xjQ st with
 | some [.i a0,.i a1,.i a2,.g g3,.i a4,.i a5,.i a6,.i a7,.i a8,.i a9]=>some (jv a0 a1 g3 a4 a5 a6 a2 a7 a8 a9 (fun lj nc li=>K (.exit 0) (xe xtC [.i a4,.i a5,.i a6,.i lj,.i nc,.i li])))
 | _=>none
theorem xx1 : ∀st K t,xae st K=some t->xD xa (lf ka4 xa 0 .no [1,1,1,0,1,0] Tryz.f245 K) st=t:=by
 intro st K t h
 unfold xae at h
 split at h
 .rename_i a0 a1 a2 g3 a4 a5 a6 a7 a8 a9 hm
  cases h
  rw[xj hm]
  unfold jv
  exact xt (S:=fun(i:Int×Int×Int×Int)=>xe xjQ [.i a0,.i a1,.i i.1,.g g3,.i a4,.i a5,.i a6,.i i.2.1,.i i.2.2.1,.i i.2.2.2]) (fun i k=>by kernel_rfl) xa (a2,a7,a8,a9)
 .cases h
def xmg(k a:Int)(κ:Fit->T β):T β:=
 (anyT g k).bind fun r0=>
 bif !r0 then(κ ⟨0,0,0⟩) else
 jv k a g 0 0 0 0 0 0 0 (fun cz Cf Ho=>
 κ ⟨cz,Cf,Ho⟩)
def xjR(k a:Int):T Fit:=xmg g k a .ret
theorem xtD(k a)(κ:Fit->T β):(xjR g k a).bind κ=xmg g k a κ:=by
 unfold xjR xmg
 simp only[bz,xiO]
def xgb(x:Int)(κ:Int->T β):T β:=
 κ (-1)
def xmh(x:Int):T Int:=xgb x .ret
theorem xmi(x)(κ:Int->T β):(xmh x).bind κ=xgb x κ:=by
 unfold xmh xgb
 simp only[bz]
def YN(x k:Int)(κ:Int->T β):T β:=
 bif x==k then(κ 0) else
 κ (-1)
def XD(x k:Int):T Int:=YN x k .ret
theorem xiP(x k)(κ:Int->T β):(XD x k).bind κ=YN x k κ:=by
 unfold XD YN
 simp only[bz]
def xaf(x k j:Int)(κ:Int->T β):T β:=
 bif x==k then(κ 0) else
 bif x==j then(κ 1) else
 κ (-1)
def xag(x k j:Int):T Int:=xaf x k j .ret
theorem xmj(x k j)(κ:Int->T β):(xag x k j).bind κ=xaf x k j κ:=by
 unfold xag xaf
 simp only[bz]
def xb7(a0:Int)(g1:Geo)(a2 a3 a4 a5:Int)(b6:Bool)(a7:Int)(κ0:Int->Int->Int->Int->Bool->Int->T β)(i:Unit)(k:Unit->T β):T β:=
 (KZ g1 a0).bind fun r0=>
 bif !r0.live then(κ0 r0.kind r0.size r0.other r0.ver r0.live r0.lin) else
 .op (.cas (atF g1 11 a0) (Stt.word {kind:=r0.kind,size:=r0.size,other:=r0.other,ver:=r0.ver}) 0) fun b2=>
 bif b2 then(.op (.steps) fun x4=>
 κ0 r0.kind r0.size r0.other r0.ver r0.live x4) else
 k ()
def wK(a0:Int)(g1:Geo)(a2 a3 a4 a5:Int)(b6:Bool)(a7:Int)  (κ0:Int->Int->Int->Int->Bool->Int->T β):T β:=xu xa (xb7 a0 g1 a2 a3 a4 a5 b6 a7 κ0) ()
theorem xgc{β γ:Type}(a0:Int)(g1:Geo)(a2 a3 a4 a5:Int)(b6:Bool)(a7:Int)  (κ0:Int->Int->Int->Int->Bool->Int->T β) (κ:β->T γ):(wK a0 g1 a2 a3 a4 a5 b6 a7  κ0).bind κ=wK a0 g1 a2 a3 a4 a5 b6 a7  (fun cg bt fj lj L4 li=>(κ0 cg bt fj lj L4 li).bind κ):=by
 unfold wK
 refine xi κ (fun i k =>?_) _ _
 unfold xb7
 simp only[bz]
def xgd:Pat:=⟨xk 31 0 [(0,.c (.raw (.port))),(2,.c (.int .i64)),(4,.c (.raw (.ptr 0 0))),(6,.c (.raw (.ptr 1 0)))],[some ⟨[.geo], 26,false,none⟩,some ⟨[.int .i64,.int .i64,.int .i64,.int .u32,.bool,.int .i64], 103,false,none⟩]⟩
def xpK:Pat:=⟨xk 31 0 [(6,.c (.raw (.ptr 1 0)))],[none,some ⟨[.int .i64,.int .i64,.int .i64,.int .u32,.bool,.int .i64], 103,false,none⟩]⟩
def YO:LF:=fun st K=>match xr xgd st with
 | some [.i a0,.g g1,.i a2,.i a3,.i a4,.i a5,.b b6,.i a7]=>some (wK a0 g1 a2 a3 a4 a5 b6 a7  (fun cg bt fj lj L4 li=>K (.ret) (xe xpK [.i cg,.i bt,.i fj,.i lj,.b L4,.i li])))
 | _=>none
theorem xtE : ∀st K t,YO st K=some t->xD xa (lf ka4 xa 0 .no [1,0] Tryz.f53 K) st=t:=by
 intro st K t h
 unfold YO at h
 split at h
 .rename_i a0 g1 a2 a3 a4 a5 b6 a7 hm
  cases h
  rw[xj hm]
  unfold wK
  exact xt (S:=fun(i:Unit)=>xe xgd [.i a0,.g g1,.i a2,.i a3,.i a4,.i a5,.b b6,.i a7]) (fun i k=>by kernel_rfl) xa ()
 .cases h
def xev(k:Int)(κ:Seen->T β):T β:=
 wK k g 0 0 0 0 false 0 (fun av gh nm ub ua t9=>
 κ ⟨av,gh,nm,ub,ua,t9⟩)
def xb8(k:Int):T Seen:=xev g k .ret
theorem xpL(k)(κ:Seen->T β):(xb8 g k).bind κ=xev g k κ:=by
 unfold xb8 xev
 simp only[bz,xgc]
def YP(s:Int)(κ:Int->T β):T β:=
 bif decide (s<1)then(κ 0) else
 κ (i64.wrap (i64.wrap (Int.tdiv (i64.wrap (s-1)) 64)+1))
def qN(s:Int):T Int:=YP s .ret
theorem xiQ(s)(κ:Int->T β):(qN s).bind κ=YP s κ:=by
 unfold qN YP
 simp only[bz]
def xge:Sm:=fun
 | [.c .port,.agg gc,.c (.int .i64 k)],[]=>(match xF gc with
   | some g=>some (mkS Bool (Vz g k) fun r=>some (.c (.bool r),[]))
   | _=>none)
 | _,_=>none
theorem xpM:Good Tryz.prog (xp ka4) xa 0 (lsAt YK .no [1,1,0,0]) (Tryz.f102.body.getD .skip) (xw Tryz.f102.results.toList):=xB (xg (by kernel_rfl)) xA xtz
variable{σ:Type}{I:Port Tryz.prog σ}
theorem xtF(hl:SoundL I ka4):SoundF I 102 xge:=by
 refine sq hl xa Tryz.func102 fun _ _ t ht =>?_
 unfold xge at ht
 split at ht
 .rename_i gc k
  split at ht
  .rename_i g hg
   obtain rfl:=xm hg
   cases ht
   refine(xE (P:= Tryz.prog) (n:=xa) (x:=(lsAt YK .no [1,1,0,0])) (fn:= Tryz.f102) (H :=[]) (c:= Tryz.f102.body.getD .skip) (xg (by kernel_rfl)) xpM).symm.trans ?_
   exact ey (xpI g k _)
  .cases ht
 .cases ht
def xgf:Sm:=fun
 | [.c .port,.agg gc,.c (.int .i64 p)],[]=>(match xF gc with
   | some g=>some ⟨(List Int),xtB g p,fun r=>some (listR r),fun _ κ=>xeu g p κ,fun _ κ=>(xdn g p κ).symm⟩
   | _=>none)
 | _,_=>none
theorem xpN:Good Tryz.prog (xp ka4) xa 0 (lsAt YM .no [1,1,1,1,0,0]) (Tryz.f242.body.getD .skip) (xw Tryz.f242.results.toList):=xB (xg (by kernel_rfl)) xA xtA
theorem xtG(hl:SoundL I ka4):SoundF I 242 xgf:=by
 refine sq hl xa Tryz.func242 fun _ _ t ht =>?_
 unfold xgf at ht
 split at ht
 .rename_i gc p
  split at ht
  .rename_i g hg
   obtain rfl:=xm hg
   cases ht
   refine(xE (P:= Tryz.prog) (n:=xa) (x:=(lsAt YM .no [1,1,1,1,0,0])) (fn:= Tryz.f242) (H :=[]) (c:= Tryz.f242.body.getD .skip) (xg (by kernel_rfl)) xpN).symm.trans ?_
   exact ey (xdn g p _)
  .cases ht
 .cases ht
def xtH:Sm:=fun
 | [.agg (.port::gc),.c (.int .i64 p),.c (.int .i64 n)],[]=>(match xF gc with
   | some g=>some (mkS Unit (layT g p n) fun r=>some (.tup [],[]))
   | _=>none)
 | _,_=>none
theorem xAi(hl:SoundL I ka4):SoundF I 75 xtH:=by
 refine sq hl 1 Tryz.func75 fun _ _ t ht =>?_
 unfold xtH at ht
 split at ht
 .rename_i gc p n
  split at ht
  .rename_i g hg
   obtain rfl:=xm hg
   cases ht
   exact ey (xx0 g p n _)
  .cases ht
 .cases ht
def xmk:Sm:=fun
 | [.agg (.port::gc),.c (.int .i64 k),.c (.int .i64 a)],[]=>(match xF gc with
   | some g=>some (mkS Fit (xjR g k a) fun r=>some (.agg r.cells,[]))
   | _=>none)
 | _,_=>none
theorem xtI:Good Tryz.prog (xp ka4) xa 0 (lsAt xae .no [1,1,1,0,1,0]) (Tryz.f245.body.getD .skip) (xw Tryz.f245.results.toList):=xB (xg (by kernel_rfl)) xA xx1
theorem xx2(hl:SoundL I ka4):SoundF I 245 xmk:=by
 refine sq hl xa Tryz.func245 fun _ _ t ht =>?_
 unfold xmk at ht
 split at ht
 .rename_i gc k a
  split at ht
  .rename_i g hg
   obtain rfl:=xm hg
   cases ht
   refine(xE (P:= Tryz.prog) (n:=xa) (x:=(lsAt xae .no [1,1,1,0,1,0])) (fn:= Tryz.f245) (H :=[]) (c:= Tryz.f245.body.getD .skip) (xg (by kernel_rfl)) xtI).symm.trans ?_
   exact ey (xtD g k a _)
  .cases ht
 .cases ht
def xb9:Sm:=fun
 | [.c .nils,.c (.int .i64 x)],[]=>some (mkS Int (xmh x) fun r=>some (.c (.int .i64 r),[]))
 | _,_=>none
theorem xpO(hl:SoundL I ka4):SoundF I 214 xb9:=by
 refine sq hl 5 Tryz.func214 fun _ _ t ht =>?_
 unfold xb9 at ht
 split at ht
 .rename_i x
  cases ht
  exact ey (xmi x _)
 .cases ht
def VA:Sm:=fun
 | [.c (.sl 0 0 1 1),.c (.int .i64 x)],[some ⟨[.int .i64 k], 3,false,none⟩]=>some (mkS Int (XD x k) fun r=>some (.c (.int .i64 r),[some ⟨[.int .i64 k], 3,false,none⟩]))
 | _,_=>none
theorem xml(hl:SoundL I ka4):SoundF I 214 VA:=by
 refine sq hl 5 Tryz.func214 fun _ _ t ht =>?_
 unfold VA at ht
 split at ht
 .rename_i x k
  cases ht
  exact ey (xiP x k _)
 .cases ht
def xca:Sm:=fun
 | [.c (.sl 0 0 2 2),.c (.int .i64 x)],[some ⟨[.int .i64 k,.int .i64 j], 3,false,none⟩]=>some (mkS Int (xag x k j) fun r=>some (.c (.int .i64 r),[some ⟨[.int .i64 k,.int .i64 j], 3,false,none⟩]))
 | _,_=>none
theorem xpP(hl:SoundL I ka4):SoundF I 214 xca:=by
 refine sq hl 5 Tryz.func214 fun _ _ t ht =>?_
 unfold xca at ht
 split at ht
 .rename_i x k j
  cases ht
  exact ey (xmj x k j _)
 .cases ht
def xgg:Sm:=fun
 | [.c .port,.agg gc,.c (.int .i64 k)],[]=>(match xF gc with
   | some g=>some (mkS Seen (xb8 g k) fun r=>some (.agg r.cells,[]))
   | _=>none)
 | _,_=>none
theorem xpQ:Good Tryz.prog (xp ka4) xa 0 (lsAt YO .no [1,0]) (Tryz.f53.body.getD .skip) (xw Tryz.f53.results.toList):=xB (xg (by kernel_rfl)) xA xtE
theorem xtJ(hl:SoundL I ka4):SoundF I 53 xgg:=by
 refine sq hl xa Tryz.func53 fun _ _ t ht =>?_
 unfold xgg at ht
 split at ht
 .rename_i gc k
  split at ht
  .rename_i g hg
   obtain rfl:=xm hg
   cases ht
   refine(xE (P:= Tryz.prog) (n:=xa) (x:=(lsAt YO .no [1,0])) (fn:= Tryz.f53) (H :=[]) (c:= Tryz.f53.body.getD .skip) (xg (by kernel_rfl)) xpQ).symm.trans ?_
   exact ey (xpL g k _)
  .cases ht
 .cases ht
def VB:Sm:=fun
 | [.c (.int .i64 s)],[]=>some (mkS Int (qN s) fun r=>some (.c (.int .i64 r),[]))
 | _,_=>none
theorem xmm(hl:SoundL I ka4):SoundF I 131 VB:=by
 refine sq hl 1 Tryz.func131 fun _ _ t ht =>?_
 unfold VB at ht
 split at ht
 .rename_i s
  cases ht
  exact ey (xiQ s _)
 .cases ht
def ka5:List (Nat×Sm):=(102,xge)::(242,xgf)::(75,xtH)::(245,xmk)::(214,(orSm xb9 (orSm VA xca)))::(53,xgg)::(131,VB)::ka4
theorem wD:SoundL I ka5:=(.cons (xtF Vf) (.cons (xtG Vf) (.cons (xAi Vf) (.cons (xx2 Vf) (.cons (SoundF.or (xpO Vf) (SoundF.or (xml Vf) (xpP Vf))) (.cons (xtJ Vf) (.cons (xmm Vf) Vf)))))))
end Lx
end Go.Proofs.YtcicjcggclhbfaaGreat
