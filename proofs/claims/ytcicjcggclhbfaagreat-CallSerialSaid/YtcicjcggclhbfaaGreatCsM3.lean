/- Part. -/
import Derived.Test.YtcicjcggclhbfaaGreatCsM2
import Derived.Test.YtcicjcggclhbfaaGreatProg
import Derived.Deep.WholeRow
import Derived.Deep.MidRow
import Derived.WalkSpells
import Derived.WalkLawsBesides
import Derived.Lib.Hide
import Derived.OwnWalk
import Derived.Laws.AppendOwn
import Derived.Test.YtcicjcggclhbfaaGreatShelf
set_option linter.all false
open Go.IntKind (i64 u64 u32 u8)
set_option maxRecDepth 1000000
namespace Go.Proofs.YtcicjcggclhbfaaGreat
namespace Lx
open Go
abbrev Sm:=List V->Heap->Option Sum
def Sum.tree(S:Sum):T (V×Heap):=S.t.bind fun a=>match S.f a with
 | some r =>.ret r
 | none =>.fail
theorem Sum.run_tree{σ:Type}{step:PStep σ}{S:Sum}{s s':σ}{x:S.α}{r:V×Heap}(h:S.t.run step s=some (x,s'))(hf:S.f x=some r):S.tree.run step s=some (r,s'):=by
 simp only[Sum.tree,T.run_bind,h,hf,T.run]
def xp:List (Nat×Sm)->Nat->Option Sm
 | [],_=>none
 | (g,m)::l,f=>bif Nat.beq g f then some m else xp l f
theorem xkB : ∀ {l:List (Nat×Sm)} {f:Nat} {m:Sm},xp l f=some m->(f,m)∈l
 | [],f,m,h=>by simp[xp]at h
 | (g,m')::l,f,m,h=>by
  simp only[xp]at h
  cases hb:Nat.beq g f with
  | true=>
   rw[hb]at h
   simp only[cond_true,oI]at h
   have:g=f:=dN hb
   subst this;subst h
   simp
  | false=>
   rw[hb]at h
   exact List.mem_cons_of_mem _ (xkB h)
section
variable{σ:Type}{I:Port Tryz.prog σ}
def SoundL(I:Port Tryz.prog σ)(l:List (Nat×Sm)):Prop :=∀f m,(f,m)∈l->SoundF I f m
theorem SoundL.nil:SoundL I []:=fun f m h=>by simp at h
theorem SoundL.cons{l:List (Nat×Sm)}{f:Nat}{m:Sm}(h:SoundF I f m)(hl:SoundL I l):SoundL I ((f,m)::l):=by
 intro g m' hm
 rcases List.mem_cons.1 hm with h'|h'
 .cases h';exact h
 .exact hl g m' h'
theorem SoundL.known{l:List (Nat×Sm)}(hl:SoundL I l) : ∀f m,xp l f=some m->SoundF I f m:=fun f m h=>hl f m (xkB h)
theorem mixed:(Tryz.prog).follows .mixedOrders=true:=by kernel_rfl
theorem xBr {l:List (Nat×Sm)} (hl:SoundL I l) {f:FuncId} {fn:Func} (hf:(Tryz.prog).funcs[f]? = some fn) (cu:(fn.name == "runtime.NumGoroutine")=false) (bh:fn.body.isSome=true) {m:Sm}
  (h : ∀args H S,m args H=some S ->∀s r,S.tree.run I.step s=some r ->∃n:Fu,(evF Tryz.prog (xp l) n fn args H).run I.step s=some r):SoundF I f m:=by
 refine⟨(xcU (I:=I) hl.known mixed hf cu bh 0).1,?_⟩
 intro args H S ht e w s F vs E hv hR hF x v H' s' hrun cx
 obtain⟨n,hn⟩:=h args H S ht s _ (Sum.run_tree hrun cx)
 exact(xcU (I:=I) hl.known mixed hf cu bh n).2 args H _ rfl e w s F vs E hv hR hF (v,H') v H' s' hn rfl
theorem vD {l:List (Nat×Sm)} (hl:SoundL I l) {f:FuncId} {fn:Func} (n:Fu) (hf:(Tryz.prog).funcs[f]? = some fn) (cu:(fn.name == "runtime.NumGoroutine")=false) (bh:fn.body.isSome=true) {m:Sm}
  (h : ∀args H S,m args H=some S->evF Tryz.prog (xp l) n fn args H=S.tree):SoundF I f m:=
 xBr hl hf cu bh fun args H S ht s r hr=>⟨n,by rw[h args H S ht];exact hr⟩
theorem sq {l:List (Nat×Sm)} (hl:SoundL I l) {f:FuncId} {fn:Func} (n:Fu) (hf:(Tryz.prog).funcs[f]? = some fn) {m:Sm} (h : ∀args H S,m args H=some S->evF Tryz.prog (xp l) n fn args H=S.tree) (h1:(fn.name == "runtime.NumGoroutine")=false:=by kernel_rfl) (h2:fn.body.isSome=true:=by kernel_rfl):SoundF I f m:=vD hl n hf h1 h2 h
end
end Lx
namespace Lx
open Go
/-! ### what its functions come to -/
def xw8(many:Int):Int:=u64.wrap (u64.wrap (1*2 ^ min many.toNat u64.bits)-1)
def ofW(k:IntKind)(w pos many:Int):Int:=k.wrap (bits .and .u64 (w.fdiv (2 ^ min pos.toNat u64.bits)) (xw8 many))
def xR(n pos many:Int):Int:=u64.wrap (bits .and .u64 (u64.wrap n) (xw8 many)*2 ^ min pos.toNat u64.bits)
structure Ref where
 (idx:Int) (mark:Bool) (ver:Int)
structure Stt where
 (kind size other ver:Int)
structure Pg where
 (kind len cls owner:Int)
structure Bt where
 (map:Int) (has:Bool) (cls ver:Int)
def Ref.cells(r:Ref):List C :=[.int .i64 r.idx,.bool r.mark,.int .u32 r.ver]
def Stt.cells(r:Stt):List C :=[.int .i64 r.kind,.int .i64 r.size,.int .i64 r.other,.int .u32 r.ver]
def Pg.cells(r:Pg):List C :=[.int .i64 r.kind,.int .i64 r.len,.int .i64 r.cls,.int .i64 r.owner]
def Bt.cells(r:Bt):List C :=[.int .u8 r.map,.bool r.has,.int .i64 r.cls,.int .u32 r.ver]
def xkC(w:Int):Ref:=⟨ofW .i64 w 0 24,ofW .i64 w 24 1==1,ofW .u32 w 32 32⟩
def wF(w:Int):Stt:=⟨ofW .i64 w 0 2,ofW .i64 w 2 16,ofW .i64 w 18 12,ofW .u32 w 32 32⟩
def pgOf(w:Int):Pg:=⟨ofW .i64 w 0 3,ofW .i64 w 3 10,ofW .i64 w 13 2,ofW .i64 w 16 7⟩
def btOf(w:Int):Bt:=⟨ofW .u8 w 0 8,decide (ofW .i64 w 8 3>0),bif decide (ofW .i64 w 8 3>0)then i64.wrap (ofW .i64 w 8 3-1)else 0,ofW .u32 w 32 32⟩
def orW(a b:Int):Int:=bits .or .u64 a b
def Ref.word(r:Ref):Int:=bif r.mark then orW (orW (xR r.idx 0 24) (xR r.ver 32 32)) 16777216 else orW (xR r.idx 0 24) (xR r.ver 32 32)
def Stt.word(r:Stt):Int:=orW (orW (orW (xR r.kind 0 2) (xR r.size 2 16)) (xR r.other 18 12)) (xR r.ver 32 32)
def Pg.word(r:Pg):Int:=orW (orW (orW (xR r.kind 0 3) (xR r.len 3 10)) (xR r.cls 13 2)) (xR r.owner 16 7)
def Bt.word(r:Bt):Int:=bif r.has then orW (orW (xR r.map 0 8) (xR r.ver 32 32)) (xR (i64.wrap (r.cls+1)) 8 3)else orW (xR r.map 0 8) (xR r.ver 32 32)
/-! ### summaries -/
def one(c:C):Option Sum:=some (mkS Unit (.ret ()) fun _=>some (.c c,[]))
def agg(l:List C):Option Sum:=some (mkS Unit (.ret ()) fun _=>some (.agg l,[]))
def mOf(k:IntKind):Sm:=fun
 | [.c (.int .u64 w),.c (.int .i64 a),.c (.int .i64 m)],[]=>bif decide (0<=a)&&decide (0<=m)then one (.int k (ofW k w a m))else none
 | _,_=>none
def xc0(k:IntKind):Sm:=fun
 | [.c (.int k' n),.c (.int .i64 a),.c (.int .i64 m)],[]=>bif decide (k'=k)&&(decide (0<=a)&&decide (0<=m))then one (.int .u64 (xR n a m))else none
 | _,_=>none
def xr2:Sm:=fun
 | [.agg [.int .i64 i,.bool m,.int .u32 v]],[]=>one (.int .u64 (Ref.word ⟨i,m,v⟩))
 | _,_=>none
def xBs:Sm:=fun
 | [.c (.int .u64 w)],[]=>agg (xkC w).cells
 | _,_=>none
def xr3:Sm:=fun
 | [.agg [.int .i64 a,.int .i64 b,.int .i64 c,.int .u32 d]],[]=>one (.int .u64 (Stt.word ⟨a,b,c,d⟩))
 | _,_=>none
def xBt:Sm:=fun
 | [.c (.int .u64 w)],[]=>agg (wF w).cells
 | _,_=>none
def xw9:Sm:=fun
 | [.agg [.int .i64 a,.int .i64 b,.int .i64 c,.int .i64 d]],[]=>one (.int .u64 (Pg.word ⟨a,b,c,d⟩))
 | _,_=>none
def mPgOf:Sm:=fun
 | [.c (.int .u64 w)],[]=>agg (pgOf w).cells
 | _,_=>none
def xxa:Sm:=fun
 | [.agg [.int .u8 a,.bool b,.int .i64 c,.int .u32 d]],[]=>one (.int .u64 (Bt.word ⟨a,b,c,d⟩))
 | _,_=>none
def mBtOf:Sm:=fun
 | [.c (.int .u64 w)],[]=>agg (btOf w).cells
 | _,_=>none
def kw0:List (Nat×Sm) :=[(136,mOf .i64),(137,mOf .u32),(232,mOf .u8),(147,xc0 .i64),(148,xc0 .u32),(233,xc0 .u8)]
def kw1:List (Nat×Sm):=(107,xr2)::(204,xBs)::(94,xr3)::(80,xBt)::(150,xw9)::(139,mPgOf)::(209,xxa)::(207,mBtOf)::kw0
section
variable{σ:Type}{I:Port Tryz.prog σ}
theorem xBu(w a m:Int):evF Tryz.prog (xp []) 0 Tryz.f136 [.c (.int .u64 w),.c (.int .i64 a),.c (.int .i64 m)] []=cond (!(decide (a<0))) (cond (!(decide (m<0))) (.ret (.c (.int .i64 (ofW .i64 w a m)),[])) .fail) .fail:=by kernel_rfl
theorem xBv(w a m:Int):evF Tryz.prog (xp []) 0 Tryz.f137 [.c (.int .u64 w),.c (.int .i64 a),.c (.int .i64 m)] []=cond (!(decide (a<0))) (cond (!(decide (m<0))) (.ret (.c (.int .u32 (ofW .u32 w a m)),[])) .fail) .fail:=by kernel_rfl
theorem evOf_u8(w a m:Int):evF Tryz.prog (xp []) 0 Tryz.f232 [.c (.int .u64 w),.c (.int .i64 a),.c (.int .i64 m)] []=cond (!(decide (a<0))) (cond (!(decide (m<0))) (.ret (.c (.int .u8 (ofW .u8 w a m)),[])) .fail) .fail:=by kernel_rfl
theorem xr4(n a m:Int):evF Tryz.prog (xp []) 0 Tryz.f147 [.c (.int .i64 n),.c (.int .i64 a),.c (.int .i64 m)] []=cond (!(decide (m<0))) (cond (!(decide (a<0))) (.ret (.c (.int .u64 (xR n a m)),[])) .fail) .fail:=by kernel_rfl
theorem xr5(n a m:Int):evF Tryz.prog (xp []) 0 Tryz.f148 [.c (.int .u32 n),.c (.int .i64 a),.c (.int .i64 m)] []=cond (!(decide (m<0))) (cond (!(decide (a<0))) (.ret (.c (.int .u64 (xR n a m)),[])) .fail) .fail:=by kernel_rfl
theorem xvz(n a m:Int):evF Tryz.prog (xp []) 0 Tryz.f233 [.c (.int .u8 n),.c (.int .i64 a),.c (.int .i64 m)] []=cond (!(decide (m<0))) (cond (!(decide (a<0))) (.ret (.c (.int .u64 (xR n a m)),[])) .fail) .fail:=by kernel_rfl
theorem cond_some.{u} {α:Type u} {c:Bool} {x y:α} (h:(bif c then some x else none)=some y):c=true/\x=y:=by
 cases c
 .cases h
 .cases h;exact⟨rfl,rfl⟩
theorem xc1{a m:Int}(h:(decide (0<=a)&&decide (0<=m))=true):(!(decide (a<0)))=true/\(!(decide (m<0)))=true:=by
 simp at h |-
 exact h
theorem xbm:SoundL I kw0:=by
 refine .cons (sq .nil 0 Tryz.func136 fun _ _ t ht =>?_) (.cons (sq .nil 0 Tryz.func137 fun _ _ t ht =>?_) (.cons (sq .nil 0 Tryz.func232 fun _ _ t ht =>?_) (.cons (sq .nil 0 Tryz.func147 fun _ _ t ht =>?_) (.cons (sq .nil 0 Tryz.func148 fun _ _ t ht =>?_) (.cons (sq .nil 0 Tryz.func233 fun _ _ t ht =>?_) .nil)))))
 .unfold mOf at ht
  split at ht
  .obtain⟨h1,rfl⟩:=cond_some ht
   obtain⟨h2,h3⟩:=xc1 h1
   rw[xBu,h2,h3];rfl
  .cases ht
 .unfold mOf at ht
  split at ht
  .obtain⟨h1,rfl⟩:=cond_some ht
   obtain⟨h2,h3⟩:=xc1 h1
   rw[xBv,h2,h3];rfl
  .cases ht
 .unfold mOf at ht
  split at ht
  .obtain⟨h1,rfl⟩:=cond_some ht
   obtain⟨h2,h3⟩:=xc1 h1
   rw[evOf_u8,h2,h3];rfl
  .cases ht
 .unfold xc0 at ht
  split at ht
  .obtain⟨h0,rfl⟩:=cond_some ht
   simp only[dK,decide_eq_true_eq]at h0
   obtain⟨rfl,h1⟩:=h0
   obtain⟨h2,h3⟩:=xc1 (by simpa using h1)
   rw[xr4,h2,h3];rfl
  .cases ht
 .unfold xc0 at ht
  split at ht
  .obtain⟨h0,rfl⟩:=cond_some ht
   simp only[dK,decide_eq_true_eq]at h0
   obtain⟨rfl,h1⟩:=h0
   obtain⟨h2,h3⟩:=xc1 (by simpa using h1)
   rw[xr5,h2,h3];rfl
  .cases ht
 .unfold xc0 at ht
  split at ht
  .obtain⟨h0,rfl⟩:=cond_some ht
   simp only[dK,decide_eq_true_eq]at h0
   obtain⟨rfl,h1⟩:=h0
   obtain⟨h2,h3⟩:=xc1 (by simpa using h1)
   rw[xvz,h2,h3];rfl
  .cases ht
theorem s_kw1:SoundL I kw1:=by
 refine .cons (sq xbm 0 Tryz.func107 fun _ _ t ht =>?_) (.cons (sq xbm 0 Tryz.func204 fun _ _ t ht =>?_) (.cons (sq xbm 0 Tryz.func94 fun _ _ t ht =>?_) (.cons (sq xbm 0 Tryz.func80 fun _ _ t ht =>?_) (.cons (sq xbm 0 Tryz.func150 fun _ _ t ht =>?_) (.cons (sq xbm 0 Tryz.func139 fun _ _ t ht =>?_) (.cons (sq xbm 0 Tryz.func209 fun _ _ t ht =>?_) (.cons (sq xbm 0 Tryz.func207 fun _ _ t ht =>?_) xbm)))))))
 .unfold xr2 at ht
  split at ht
  .rename_i i m v
   cases ht
   cases m<;>kernel_rfl
  .cases ht
 .unfold xBs at ht
  split at ht
  .cases ht
   kernel_rfl
  .cases ht
 .unfold xr3 at ht
  split at ht
  .cases ht
   kernel_rfl
  .cases ht
 .unfold xBt at ht
  split at ht
  .cases ht
   kernel_rfl
  .cases ht
 .unfold xw9 at ht
  split at ht
  .cases ht
   kernel_rfl
  .cases ht
 .unfold mPgOf at ht
  split at ht
  .cases ht
   kernel_rfl
  .cases ht
 .unfold xxa at ht
  split at ht
  .rename_i a b c d
   cases ht
   cases b<;>kernel_rfl
  .cases ht
 .unfold mBtOf at ht
  split at ht
  .rename_i w
   cases ht
   unfold btOf
   have e:evF Tryz.prog (xp kw0) 0 Tryz.f207 [.c (.int .u64 w)] []=cond (decide (ofW .i64 w 8 3>0)) (.ret (.agg [.int .u8 (ofW .u8 w 0 8),.bool true,.int .i64 (i64.wrap (ofW .i64 w 8 3-1)),.int .u32 (ofW .u32 w 32 32)],[])) (.ret (.agg [.int .u8 (ofW .u8 w 0 8),.bool false,.int .i64 0,.int .u32 (ofW .u32 w 32 32)],[])):=by kernel_rfl
   rw[e]
   cases decide (ofW .i64 w 8 3>0)<;>rfl
  .cases ht
end
end Lx
namespace Lx
open Go
structure Geo where
 (pages threads b0 b1 b2 b3 b4 b5 b6 b7 b8 b9 b10 b11 b12 b13 b14 b15 b16 b17 b18 b19:Int)
def Geo.cells(g:Geo):List C :=[.int .i64 g.pages,.int .i64 g.threads,.int .i64 g.b0,.int .i64 g.b1,.int .i64 g.b2,.int .i64 g.b3,.int .i64 g.b4,.int .i64 g.b5,.int .i64 g.b6,.int .i64 g.b7,.int .i64 g.b8,.int .i64 g.b9,.int .i64 g.b10,.int .i64 g.b11,.int .i64 g.b12,.int .i64 g.b13,.int .i64 g.b14,.int .i64 g.b15,.int .i64 g.b16,.int .i64 g.b17,.int .i64 g.b18,.int .i64 g.b19]
def xF:List C->Option Geo
 | [.int .i64 x0,.int .i64 x1,.int .i64 x2,.int .i64 x3,.int .i64 x4,.int .i64 x5,.int .i64 x6,.int .i64 x7,.int .i64 x8,.int .i64 x9,.int .i64 fl,.int .i64 sa,.int .i64 gd,.int .i64 te,.int .i64 gx,.int .i64 zr,.int .i64 ly,.int .i64 Aw,.int .i64 np,.int .i64 Er,.int .i64 uc,.int .i64 Hs]=>some ⟨x0,x1,x2,x3,x4,x5,x6,x7,x8,x9,fl,sa,gd,te,gx,zr,ly,Aw,np,Er,uc,Hs⟩
 | _=>none
theorem xm{l:List C}{g:Geo}(h:xF l=some g):l=g.cells:=by
 unfold xF at h
 split at h
 .cases h;rfl
 .cases h
/-- a function over a port and a geometry. -/
def gS(F:Geo->List V->Option Sum):Sm:=fun
 | .c .port :: .agg gc::l,[]=>(match xF gc with
  | some g=>F g l
  | _=>none)
 | _,_=>none
theorem gsq {σ:Type} {I:Port Tryz.prog σ} {l:List (Nat×Sm)} (hl:SoundL I l) {f:FuncId} {fn:Func} (n:Fu) (hf:(Tryz.prog).funcs[f]? = some fn) {F:Geo->List V->Option Sum} (h : ∀g r S,F g r=some S->evF Tryz.prog (xp l) n fn (.c .port :: .agg g.cells::r) []=S.tree) (h1:(fn.name == "runtime.NumGoroutine")=false:=by kernel_rfl) (h2:fn.body.isSome=true:=by kernel_rfl):SoundF I f (gS F):=by
 refine vD hl n hf h1 h2 fun args H S hS =>?_
 unfold gS at hS
 split at hS
 .split at hS
  .rename_i g hg
   obtain rfl:=xm hg
   exact h _ _ _ hS
  .cases hS
 .cases hS
def Geo.base(g:Geo):Nat->Int
 | 0=>g.b0
 | 1=>g.b1
 | 2=>g.b2
 | 3=>g.b3
 | 4=>g.b4
 | 5=>g.b5
 | 6=>g.b6
 | 7=>g.b7
 | 8=>g.b8
 | 9=>g.b9
 | 10=>g.b10
 | 11=>g.b11
 | 12=>g.b12
 | 13=>g.b13
 | 14=>g.b14
 | 15=>g.b15
 | 16=>g.b16
 | 17=>g.b17
 | 18=>g.b18
 | 19=>g.b19
 | _=>0
def atF(g:Geo)(r:Nat)(n:Int):Int:=bif decide (n<0)then -1 else bif decide (n>=i64.wrap (g.base (r+1)-g.base r))then -1 else i64.wrap (g.base r+n)
def inF(n k many:Int):Int:=bif decide (n<0)then -1 else bif decide (n>1073741824)then -1 else bif decide (k<0)then -1 else bif decide (k>=many)then -1 else i64.wrap (i64.wrap (n*many)+k)
def qt(g:Geo):Int:=i64.wrap (i64.wrap (2*g.threads)+2)
def Xc(g:Geo):Int:=bif g.pages==0 then 0 else i64.wrap (i64.wrap (i64.wrap (g.threads*4)*i64.wrap (g.pages+1))+i64.wrap (g.threads*i64.wrap (i64.wrap (2*g.threads)+3)))
theorem xbn(c:Bool)(k:IntKind)(a b:Int):cond c (T.ret (V.c (C.int k a),([]:Heap))) (T.ret (V.c (C.int k b),[]))=T.ret (V.c (C.int k (cond c a b)),[]):=by cases c<;>rfl
def mAt:Sm:=fun
 | [.agg gc,.c (.int .i64 r),.c (.int .i64 n)],[]=>match xF gc with
  | some g=>bif decide (0<=r)&&decide (r<19)then one (.int .i64 (atF g r.toNat n))else none
  | none=>none
 | _,_=>none
theorem evAt(g:Geo)(n:Int) : ∀r:Nat,r<19->evF Tryz.prog (xp []) 0 Tryz.f135 [.agg g.cells,.c (.int .i64 (r:Int)),.c (.int .i64 n)] []=cond (decide (n<0)) (.ret (.c (.int .i64 (-1)),[])) (cond (decide (n>=i64.wrap (g.base (r+1)-g.base r))) (.ret (.c (.int .i64 (-1)),[])) (.ret (.c (.int .i64 (i64.wrap (g.base r+n))),[])))
 | 0,_=>by kernel_rfl
 | 1,_=>by kernel_rfl
 | 2,_=>by kernel_rfl
 | 3,_=>by kernel_rfl
 | 4,_=>by kernel_rfl
 | 5,_=>by kernel_rfl
 | 6,_=>by kernel_rfl
 | 7,_=>by kernel_rfl
 | 8,_=>by kernel_rfl
 | 9,_=>by kernel_rfl
 | 10,_=>by kernel_rfl
 | 11,_=>by kernel_rfl
 | 12,_=>by kernel_rfl
 | 13,_=>by kernel_rfl
 | 14,_=>by kernel_rfl
 | 15,_=>by kernel_rfl
 | 16,_=>by kernel_rfl
 | 17,_=>by kernel_rfl
 | 18,_=>by kernel_rfl
 | r+19,h=>by omega
def mIn:Sm:=fun
 | [.c (.int .i64 n),.c (.int .i64 k),.c (.int .i64 m)],[]=>one (.int .i64 (inF n k m))
 | _,_=>none
def xvA:Sm:=fun
 | [.agg gc],[]=>match xF gc with
  | some g=>one (.int .i64 g.pages)
  | none=>none
 | _,_=>none
def xh2:Sm:=fun
 | [.agg gc],[]=>match xF gc with
  | some g=>one (.int .i64 g.threads)
  | none=>none
 | _,_=>none
def mRoom:Sm:=fun
 | [.agg gc],[]=>match xF gc with
  | some g=>one (.int .i64 (qt g))
  | none=>none
 | _,_=>none
def xvB:Sm:=fun
 | [.agg gc],[]=>match xF gc with
  | some g=>one (.int .i64 (Xc g))
  | none=>none
 | _,_=>none
def xvC:Sm:=fun
 | [.agg gc],[]=>match xF gc with
  | some g=>one (.int .i64 g.b19)
  | none=>none
 | _,_=>none
def kg0:List (Nat×Sm):=(135,mAt)::(167,mIn)::(20,xvA)::(9,xh2)::(34,mRoom)::(35,xvB)::(74,xvC) :: []
variable{σ:Type}{I:Port Tryz.prog σ}
theorem s_mAt(hl:SoundL I []):SoundF I 135 mAt:=by
 refine sq hl 0 Tryz.func135 fun _ _ t ht =>?_
 unfold mAt at ht
 split at ht
 .rename_i gc r n
  split at ht
  .rename_i g hg
   obtain⟨h1,rfl⟩:=cond_some ht
   simp only[dK,decide_eq_true_eq]at h1
   obtain⟨h1,h2⟩:=h1
   obtain rfl:=xm hg
   obtain⟨k,rfl⟩:=Int.eq_ofNat_of_zero_le h1
   rw[evAt g n k (by omega),xbn,xbn]
   rfl
  .cases ht
 .cases ht
theorem s_mIn(hl:SoundL I []):SoundF I 167 mIn:=by
 refine sq hl 0 Tryz.func167 fun _ _ t ht =>?_
 unfold mIn at ht
 split at ht
 .rename_i n k m
  cases ht
  have e:evF Tryz.prog (xp []) 0 Tryz.f167 [.c (.int .i64 n),.c (.int .i64 k),.c (.int .i64 m)] []=cond (decide (n<0)) (.ret (.c (.int .i64 (-1)),[])) (cond (decide (n>1073741824)) (.ret (.c (.int .i64 (-1)),[])) (cond (decide (k<0)) (.ret (.c (.int .i64 (-1)),[])) (cond (decide (k>=m)) (.ret (.c (.int .i64 (-1)),[])) (.ret (.c (.int .i64 (i64.wrap (i64.wrap (n*m)+k))),[]))))):=by kernel_rfl
  rw[e]
  simp only[xbn]
  rfl
 .cases ht
theorem xBw(hl:SoundL I []):SoundF I 20 xvA:=by
 refine sq hl 0 Tryz.func20 fun _ _ t ht =>?_
 unfold xvA at ht
 split at ht
 .rename_i gc
  split at ht
  .rename_i g hg
   obtain rfl:=xm hg
   cases ht
   kernel_rfl
  .cases ht
 .cases ht
theorem xvD(hl:SoundL I []):SoundF I 9 xh2:=by
 refine sq hl 0 Tryz.func9 fun _ _ t ht =>?_
 unfold xh2 at ht
 split at ht
 .rename_i gc
  split at ht
  .rename_i g hg
   obtain rfl:=xm hg
   cases ht
   kernel_rfl
  .cases ht
 .cases ht
theorem s_mRoom(hl:SoundL I []):SoundF I 34 mRoom:=by
 refine sq hl 0 Tryz.func34 fun _ _ t ht =>?_
 unfold mRoom at ht
 split at ht
 .rename_i gc
  split at ht
  .rename_i g hg
   obtain rfl:=xm hg
   cases ht
   kernel_rfl
  .cases ht
 .cases ht
theorem xBx(hl:SoundL I []):SoundF I 35 xvB:=by
 refine sq hl 0 Tryz.func35 fun _ _ t ht =>?_
 unfold xvB at ht
 split at ht
 .rename_i gc
  split at ht
  .rename_i g hg
   obtain rfl:=xm hg
   cases ht
   have e:evF Tryz.prog (xp []) 0 Tryz.f35 [.agg g.cells] []=cond (g.pages==0) (.ret (.c (.int .i64 0),[])) (.ret (.c (.int .i64 (i64.wrap (i64.wrap (i64.wrap (g.threads*4)*i64.wrap (g.pages+1))+i64.wrap (g.threads*i64.wrap (i64.wrap (2*g.threads)+3))))),[])):=by kernel_rfl
   rw[e]
   simp only[xbn]
   rfl
  .cases ht
 .cases ht
theorem xBy(hl:SoundL I []):SoundF I 74 xvC:=by
 refine sq hl 0 Tryz.func74 fun _ _ t ht =>?_
 unfold xvC at ht
 split at ht
 .rename_i gc
  split at ht
  .rename_i g hg
   obtain rfl:=xm hg
   cases ht
   kernel_rfl
  .cases ht
 .cases ht
theorem wm:SoundL I kg0:=(.cons (s_mAt .nil) (.cons (s_mIn .nil) (.cons (xBw .nil) (.cons (xvD .nil) (.cons (s_mRoom .nil) (.cons (xBx .nil) (.cons (xBy .nil) .nil)))))))
def mLock:Sm:=fun
 | [.agg gc],[]=>match xF gc with
  | some g=>one (.int .i64 (atF g 0 0))
  | none=>none
 | _,_=>none
def xvE:Sm:=fun
 | [.agg gc],[]=>match xF gc with
  | some g=>one (.int .i64 (atF g 1 0))
  | none=>none
 | _,_=>none
def mPool:Sm:=fun
 | [.agg gc],[]=>match xF gc with
  | some g=>one (.int .i64 (atF g 4 0))
  | none=>none
 | _,_=>none
def xvF:Sm:=fun
 | [.agg gc,.c (.int .i64 n)],[]=>match xF gc with
  | some g=>one (.int .i64 (atF g 2 n))
  | none=>none
 | _,_=>none
def mBin:Sm:=fun
 | [.agg gc,.c (.int .i64 n)],[]=>match xF gc with
  | some g=>one (.int .i64 (atF g 3 n))
  | none=>none
 | _,_=>none
def mAdds:Sm:=fun
 | [.agg gc,.c (.int .i64 n)],[]=>match xF gc with
  | some g=>one (.int .i64 (atF g 5 n))
  | none=>none
 | _,_=>none
def xot:Sm:=fun
 | [.agg gc,.c (.int .i64 n)],[]=>match xF gc with
  | some g=>one (.int .i64 (atF g 6 n))
  | none=>none
 | _,_=>none
def mPage:Sm:=fun
 | [.agg gc,.c (.int .i64 n)],[]=>match xF gc with
  | some g=>one (.int .i64 (atF g 7 n))
  | none=>none
 | _,_=>none
def mBits:Sm:=fun
 | [.agg gc,.c (.int .i64 n)],[]=>match xF gc with
  | some g=>one (.int .i64 (atF g 8 n))
  | none=>none
 | _,_=>none
def xou:Sm:=fun
 | [.agg gc,.c (.int .i64 n)],[]=>match xF gc with
  | some g=>one (.int .i64 (atF g 9 n))
  | none=>none
 | _,_=>none
def mLink:Sm:=fun
 | [.agg gc,.c (.int .i64 n)],[]=>match xF gc with
  | some g=>one (.int .i64 (atF g 10 n))
  | none=>none
 | _,_=>none
def xvG:Sm:=fun
 | [.agg gc,.c (.int .i64 n)],[]=>match xF gc with
  | some g=>one (.int .i64 (atF g 11 n))
  | none=>none
 | _,_=>none
def mGone:Sm:=fun
 | [.agg gc,.c (.int .i64 n)],[]=>match xF gc with
  | some g=>one (.int .i64 (atF g 15 n))
  | none=>none
 | _,_=>none
def xvH:Sm:=fun
 | [.agg gc,.c (.int .i64 t),.c (.int .i64 c),.c (.int .i64 k)],[]=>match xF gc with
  | some g=>one (.int .i64 (atF g 12 (inF (inF t c 4) k 2)))
  | none=>none
 | _,_=>none
def mHead:Sm:=fun
 | [.agg gc,.c (.int .i64 t),.c (.int .i64 c)],[]=>match xF gc with
  | some g=>one (.int .i64 (atF g 13 (inF t c 4)))
  | none=>none
 | _,_=>none
def xov:Sm:=fun
 | [.agg gc,.c (.int .i64 t),.c (.int .i64 k)],[]=>match xF gc with
  | some g=>one (.int .i64 (atF g 14 (inF t k 2)))
  | none=>none
 | _,_=>none
def xh3:Sm:=fun
 | [.agg gc,.c (.int .i64 t),.c (.int .i64 k)],[]=>match xF gc with
  | some g=>one (.int .i64 (atF g 16 (inF t k (qt g))))
  | none=>none
 | _,_=>none
def mNext:Sm:=fun
 | [.agg gc,.c (.int .i64 n)],[]=>match xF gc with
  | some g=>one (.int .i64 (atF g 17 (inF (i64.wrap (n-1)) 0 1)))
  | none=>none
 | _,_=>none
def mItem:Sm:=fun
 | [.agg gc,.c (.int .i64 n),.c (.int .i64 k)],[]=>match xF gc with
  | some g=>one (.int .i64 (atF g 18 (inF (i64.wrap (n-1)) k 8)))
  | none=>none
 | _,_=>none
def kg1:List (Nat×Sm):=(198,mLock)::(109,xvE)::(108,mPool)::(184,xvF)::(185,mBin)::(159,mAdds)::(134,xot)::(140,mPage)::(208,mBits)::(154,xou)::(155,mLink)::(79,xvG)::(149,mGone)::(156,xvH)::(203,mHead)::(246,xov)::(234,xh3)::(106,mNext)::(230,mItem)::kg0
theorem s_mLock(hl:SoundL I kg0):SoundF I 198 mLock:=by
 refine sq hl 0 Tryz.func198 fun _ _ t ht =>?_
 unfold mLock at ht
 split at ht
 .rename_i gc
  split at ht
  .rename_i g hg
   obtain rfl:=xm hg
   cases ht
   kernel_rfl
  .cases ht
 .cases ht
theorem xBz(hl:SoundL I kg0):SoundF I 109 xvE:=by
 refine sq hl 0 Tryz.func109 fun _ _ t ht =>?_
 unfold xvE at ht
 split at ht
 .rename_i gc
  split at ht
  .rename_i g hg
   obtain rfl:=xm hg
   cases ht
   kernel_rfl
  .cases ht
 .cases ht
theorem s_mPool(hl:SoundL I kg0):SoundF I 108 mPool:=by
 refine sq hl 0 Tryz.func108 fun _ _ t ht =>?_
 unfold mPool at ht
 split at ht
 .rename_i gc
  split at ht
  .rename_i g hg
   obtain rfl:=xm hg
   cases ht
   kernel_rfl
  .cases ht
 .cases ht
theorem xBA(hl:SoundL I kg0):SoundF I 184 xvF:=by
 refine sq hl 0 Tryz.func184 fun _ _ t ht =>?_
 unfold xvF at ht
 split at ht
 .rename_i gc n
  split at ht
  .rename_i g hg
   obtain rfl:=xm hg
   cases ht
   kernel_rfl
  .cases ht
 .cases ht
theorem s_mBin(hl:SoundL I kg0):SoundF I 185 mBin:=by
 refine sq hl 0 Tryz.func185 fun _ _ t ht =>?_
 unfold mBin at ht
 split at ht
 .rename_i gc n
  split at ht
  .rename_i g hg
   obtain rfl:=xm hg
   cases ht
   kernel_rfl
  .cases ht
 .cases ht
theorem s_mAdds(hl:SoundL I kg0):SoundF I 159 mAdds:=by
 refine sq hl 0 Tryz.func159 fun _ _ t ht =>?_
 unfold mAdds at ht
 split at ht
 .rename_i gc n
  split at ht
  .rename_i g hg
   obtain rfl:=xm hg
   cases ht
   kernel_rfl
  .cases ht
 .cases ht
theorem xzi(hl:SoundL I kg0):SoundF I 134 xot:=by
 refine sq hl 0 Tryz.func134 fun _ _ t ht =>?_
 unfold xot at ht
 split at ht
 .rename_i gc n
  split at ht
  .rename_i g hg
   obtain rfl:=xm hg
   cases ht
   kernel_rfl
  .cases ht
 .cases ht
theorem s_mPage(hl:SoundL I kg0):SoundF I 140 mPage:=by
 refine sq hl 0 Tryz.func140 fun _ _ t ht =>?_
 unfold mPage at ht
 split at ht
 .rename_i gc n
  split at ht
  .rename_i g hg
   obtain rfl:=xm hg
   cases ht
   kernel_rfl
  .cases ht
 .cases ht
theorem s_mBits(hl:SoundL I kg0):SoundF I 208 mBits:=by
 refine sq hl 0 Tryz.func208 fun _ _ t ht =>?_
 unfold mBits at ht
 split at ht
 .rename_i gc n
  split at ht
  .rename_i g hg
   obtain rfl:=xm hg
   cases ht
   kernel_rfl
  .cases ht
 .cases ht
theorem xzj(hl:SoundL I kg0):SoundF I 154 xou:=by
 refine sq hl 0 Tryz.func154 fun _ _ t ht =>?_
 unfold xou at ht
 split at ht
 .rename_i gc n
  split at ht
  .rename_i g hg
   obtain rfl:=xm hg
   cases ht
   kernel_rfl
  .cases ht
 .cases ht
theorem s_mLink(hl:SoundL I kg0):SoundF I 155 mLink:=by
 refine sq hl 0 Tryz.func155 fun _ _ t ht =>?_
 unfold mLink at ht
 split at ht
 .rename_i gc n
  split at ht
  .rename_i g hg
   obtain rfl:=xm hg
   cases ht
   kernel_rfl
  .cases ht
 .cases ht
theorem xBB(hl:SoundL I kg0):SoundF I 79 xvG:=by
 refine sq hl 0 Tryz.func79 fun _ _ t ht =>?_
 unfold xvG at ht
 split at ht
 .rename_i gc n
  split at ht
  .rename_i g hg
   obtain rfl:=xm hg
   cases ht
   kernel_rfl
  .cases ht
 .cases ht
theorem s_mGone(hl:SoundL I kg0):SoundF I 149 mGone:=by
 refine sq hl 0 Tryz.func149 fun _ _ t ht =>?_
 unfold mGone at ht
 split at ht
 .rename_i gc n
  split at ht
  .rename_i g hg
   obtain rfl:=xm hg
   cases ht
   kernel_rfl
  .cases ht
 .cases ht
theorem xBC(hl:SoundL I kg0):SoundF I 156 xvH:=by
 refine sq hl 0 Tryz.func156 fun _ _ t ht =>?_
 unfold xvH at ht
 split at ht
 .rename_i gc t c k
  split at ht
  .rename_i g hg
   obtain rfl:=xm hg
   cases ht
   kernel_rfl
  .cases ht
 .cases ht
theorem s_mHead(hl:SoundL I kg0):SoundF I 203 mHead:=by
 refine sq hl 0 Tryz.func203 fun _ _ t ht =>?_
 unfold mHead at ht
 split at ht
 .rename_i gc t c
  split at ht
  .rename_i g hg
   obtain rfl:=xm hg
   cases ht
   kernel_rfl
  .cases ht
 .cases ht
theorem xzk(hl:SoundL I kg0):SoundF I 246 xov:=by
 refine sq hl 0 Tryz.func246 fun _ _ t ht =>?_
 unfold xov at ht
 split at ht
 .rename_i gc t k
  split at ht
  .rename_i g hg
   obtain rfl:=xm hg
   cases ht
   kernel_rfl
  .cases ht
 .cases ht
theorem xvI(hl:SoundL I kg0):SoundF I 234 xh3:=by
 refine sq hl 0 Tryz.func234 fun _ _ t ht =>?_
 unfold xh3 at ht
 split at ht
 .rename_i gc t k
  split at ht
  .rename_i g hg
   obtain rfl:=xm hg
   cases ht
   kernel_rfl
  .cases ht
 .cases ht
theorem s_mNext(hl:SoundL I kg0):SoundF I 106 mNext:=by
 refine sq hl 0 Tryz.func106 fun _ _ t ht =>?_
 unfold mNext at ht
 split at ht
 .rename_i gc n
  split at ht
  .rename_i g hg
   obtain rfl:=xm hg
   cases ht
   kernel_rfl
  .cases ht
 .cases ht
theorem s_mItem(hl:SoundL I kg0):SoundF I 230 mItem:=by
 refine sq hl 0 Tryz.func230 fun _ _ t ht =>?_
 unfold mItem at ht
 split at ht
 .rename_i gc n k
  split at ht
  .rename_i g hg
   obtain rfl:=xm hg
   cases ht
   kernel_rfl
  .cases ht
 .cases ht
theorem s_kg1:SoundL I kg1:=(.cons (s_mLock wm) (.cons (xBz wm) (.cons (s_mPool wm) (.cons (xBA wm) (.cons (s_mBin wm) (.cons (s_mAdds wm) (.cons (xzi wm) (.cons (s_mPage wm) (.cons (s_mBits wm) (.cons (xzj wm) (.cons (s_mLink wm) (.cons (xBB wm) (.cons (s_mGone wm) (.cons (xBC wm) (.cons (s_mHead wm) (.cons (xzk wm) (.cons (xvI wm) (.cons (s_mNext wm) (.cons (s_mItem wm) wm)))))))))))))))))))
end Lx
section
open Go.RowKit
variable{P:Program}
theorem WL(w:World)(c:List Value)(t:TypeId) : ∀ (j:Nat) (u:Value),c[j]? = some u->(w.alloc (.cells c.toArray t)).cell? ((⟨w.heap.size,0,none⟩:Addr).add j)=some u:=by
 intro j u hu
 rw[Addr.add_mid,Nat.zero_add,cell_of_row _ _ _ _ _ _ (heap_alloc_new w _)]
 simpa using hu
end
section
open Go.RowKit
def tableCells:List Value :=[.int .i64 8,.int .i64 8,.int .i64 8,.int .i64 16,.int .i64 16,.int .i64 4,.int .i64 24,.int .i64 8,.int .i64 2,.int .i64 32,.int .i64 32,.int .i64 2]
theorem Tryz.info_class:(Tryz.prog.info? 152).map (fun i=>(i.zero,i.size,i.bytes))=some (some (.agg #[.int .i64 0,.int .i64 0,.int .i64 0]),3,24):=by kernel_rfl
def xbo(k:Nat):List Value:=(tableCells.drop (3*k)).take 3
theorem vP : ∀v∈tableCells,v.oneCell'=true:=by
 intro v hv
 simp only[tableCells,List.mem_cons,List.mem_nil_iff,or_false]at hv
 rcases hv with h|h|h|h|h|h|h|h|h|h|h|h<;>subst h<;>rfl
set_option maxHeartbeats 1000000 in
theorem xBD(g:Nat)(w:World)(hg:g<w.heap.size)(h0:w.cell? ⟨g,0,none⟩=some (.int .i64 8))(h1:w.cell? ⟨g,1,none⟩=some (.int .i64 16))(h2:w.cell? ⟨g,2,none⟩=some (.int .i64 24))(h3:w.cell? ⟨g,3,none⟩=some (.int .i64 32)) :
  Calls Tryz.prog 141 #[.slice (some ⟨g,0,none⟩) 4 4] w fun e w' =>∃v,e = .returned v/\w'.ownsRow w.heap.size 152 3 v 4 tableCells/\Below w.heap.size w w':=by
 obtain⟨i0,hi,Ey,tf,og⟩:=info_parts Tryz.info_class
 have HZ0:=Lib.hid Ey
 clear Ey
 have HC:=Lib.hid (And.intro h0 (And.intro h1 (And.intro h2 h3)))
 clear h0 h1 h2 h3
 go_enter Tryz.func141,Tryz.ntmps141
 go_wp2
 go_loopw [3,8] (fun v i wr =>∃k:Nat,k<=4/\i = .int .i64 k/\wr.ownsRow w.heap.size 152 3 v k (tableCells.take (3*k))/\Below w.heap.size w wr) (fun _ i _=>4-(intOf i).toNat)
 case atStart=>exact⟨0,Nat.zero_le _,rfl,⟨rfl,.inl ⟨rfl,rfl⟩⟩,Below.refl _ _⟩
 case round=>
  obtain⟨k,hk,rfl,ax,gp⟩:=hrel
  have Hg:=gp.size
  obtain⟨h0,h1,h2,h3⟩:=HC.out
  have c0:=(gp.cell (p:=⟨g,0,none⟩) hg).trans h0
  have c1:=(gp.cell (p:=⟨g,1,none⟩) hg).trans h1
  have c2:=(gp.cell (p:=⟨g,2,none⟩) hg).trans h2
  have c3:=(gp.cell (p:=⟨g,3,none⟩) hg).trans h3
  clear h0 h1 h2 h3
  have b0:bits BinOp.and i64 8 (-8)=8:=by kernel_rfl
  have b1:bits BinOp.and i64 16 (-16)=16:=by kernel_rfl
  have b2:bits BinOp.and i64 24 (-24)=8:=by kernel_rfl
  have b3:bits BinOp.and i64 32 (-32)=32:=by kernel_rfl
  rcases(show k=0\/k=1\/k=2\/k=3\/k=4 by omega)with rfl|rfl|rfl|rfl|rfl
  .clear c1 b1 c2 b2 c3 b3
   go_wp2_with (first
    | (at_builtin;refine wpList_append_own _ rfl _ _ 206 rfl w.heap.size 152 i0 _ 3 24 Tryz.underlying206 hi HZ0.out tf og rfl (by decide) _ _ _ rfl (ax.alloc _) _ 1 1 (xbo 0) rfl rfl ?Iu ?Iq ?Im ?Ii ?Ie ?_))
   case Iu=>exact WL _ _ _
   case Iq=>exact fun v hv=>vP v (List.mem_of_mem_drop (List.mem_of_mem_take hv))
   case Im=>decide
   case Ii=>decide
   case Ie=>simp;omega
   intro v' w1 fc fh _
   have i8:w1.ownsRow w.heap.size 152 3 v' 1 (tableCells.take (3*1)):=fc
   have cm:Below w.heap.size w w1:=(gp.alloc Hg _).grown fh (by simp;omega) (fun g hg=>(ax.lt g hg).1)
   clear fc fh ax gp
   go_wp2
   go_roundw
   case rel=>exact⟨1,by omega,by go_num,i8,cm⟩
   case measure=>simp[intOf]
  .clear c0 b0 c2 b2 c3 b3
   go_wp2_with (first
    | (at_builtin;refine wpList_append_own _ rfl _ _ 206 rfl w.heap.size 152 i0 _ 3 24 Tryz.underlying206 hi HZ0.out tf og rfl (by decide) _ _ _ rfl (ax.alloc _) _ 1 1 (xbo 1) rfl rfl ?It ?Ip ?Il ?Ih ?Id ?_))
   case It=>exact WL _ _ _
   case Ip=>exact fun v hv=>vP v (List.mem_of_mem_drop (List.mem_of_mem_take hv))
   case Il=>decide
   case Ih=>decide
   case Id=>simp;omega
   intro v' w1 fc fh _
   have i8:w1.ownsRow w.heap.size 152 3 v' 2 (tableCells.take (3*2)):=fc
   have cm:Below w.heap.size w w1:=(gp.alloc Hg _).grown fh (by simp;omega) (fun g hg=>(ax.lt g hg).1)
   clear fc fh ax gp
   go_wp2
   go_roundw
   case rel=>exact⟨2,by omega,by go_num,i8,cm⟩
   case measure=>simp[intOf]
  .clear c0 b0 c1 b1 c3 b3
   go_wp2_with (first
    | (at_builtin;refine wpList_append_own _ rfl _ _ 206 rfl w.heap.size 152 i0 _ 3 24 Tryz.underlying206 hi HZ0.out tf og rfl (by decide) _ _ _ rfl (ax.alloc _) _ 1 1 (xbo 2) rfl rfl ?Is ?Io ?Ik ?Ig ?Ic ?_))
   case Is=>exact WL _ _ _
   case Io=>exact fun v hv=>vP v (List.mem_of_mem_drop (List.mem_of_mem_take hv))
   case Ik=>decide
   case Ig=>decide
   case Ic=>simp;omega
   intro v' w1 fc fh _
   have i8:w1.ownsRow w.heap.size 152 3 v' 3 (tableCells.take (3*3)):=fc
   have cm:Below w.heap.size w w1:=(gp.alloc Hg _).grown fh (by simp;omega) (fun g hg=>(ax.lt g hg).1)
   clear fc fh ax gp
   go_wp2
   go_roundw
   case rel=>exact⟨3,by omega,by go_num,i8,cm⟩
   case measure=>simp[intOf]
  .clear c0 b0 c1 b1 c2 b2
   go_wp2_with (first
    | (at_builtin;refine wpList_append_own _ rfl _ _ 206 rfl w.heap.size 152 i0 _ 3 24 Tryz.underlying206 hi HZ0.out tf og rfl (by decide) _ _ _ rfl (ax.alloc _) _ 1 1 (xbo 3) rfl rfl ?Ir ?In ?Ij ?If ?Ib ?_))
   case Ir=>exact WL _ _ _
   case In=>exact fun v hv=>vP v (List.mem_of_mem_drop (List.mem_of_mem_take hv))
   case Ij=>decide
   case If=>decide
   case Ib=>simp;omega
   intro v' w1 fc fh _
   have i8:w1.ownsRow w.heap.size 152 3 v' 4 (tableCells.take (3*4)):=fc
   have cm:Below w.heap.size w w1:=(gp.alloc Hg _).grown fh (by simp;omega) (fun g hg=>(ax.lt g hg).1)
   clear fc fh ax gp
   go_wp2
   go_roundw
   case rel=>exact⟨4,by omega,by go_num,i8,cm⟩
   case measure=>simp[intOf]
  .go_wp2
   go_ret
   exact⟨_,rfl,ax,gp⟩
theorem Tryz.size_table:(Tryz.prog.info? 153).map (·.size)=some 12:=by kernel_rfl
def xvJ:Array Value:= #[.int .i64 0,.int .i64 0,.int .i64 0,.int .i64 0,.int .i64 0,.int .i64 0,.int .i64 0,.int .i64 0,.int .i64 0,.int .i64 0,.int .i64 0,.int .i64 0]
theorem xow{P:Program}{fn:Func}{p:Tmp}{ty:TypeId}{tmps:Array Value}{w:World}{b:Nat}{v:Value}(h:fn.results = #[.cell p ty])(hp:tmps.getD p undef = .pointer (some ⟨b,0,none⟩))(hl:(loadVar ty ⟨b,0,none⟩).run P w = .ok v w) :
  (results fn tmps).run P w = .ok v w:=by
 have o9:tmps[p]?.getD undef = .pointer (some ⟨b,0,none⟩):=by simpa using hp
 simp[results,h,o9,asAddr,hl]
theorem below_setCells{B:Nat}{a:World}{b:Nat}(hb:B<=b) : ∀ (vs:List Value) (o:Nat) {w:World},Below B a w->Below B a (w.setCells b o vs)
 | [],_,_,h=>h
 | v::vs,o,_,h=>below_setCells hb vs (o+1) (h.setCell (p:=⟨b,o,none⟩) hb v)
theorem Tryz.arrayAt_table(g cap:Nat)(w:World):(Instr.arrayAt 153 (.slice (some ⟨g,0,none⟩) 4 cap)).run Tryz.prog w = .ok (.pointer (some ⟨g,0,none⟩)) w:=by kernel_rfl
theorem xzl(w:World):Calls Tryz.prog 83 #[] w fun e w'=>e = .returned (.agg tableCells.toArray)/\Below w.heap.size w w':=by
 have Fx:=xBD (w.heap.size+1) ((w.alloc (.cells xvJ 153)).alloc (.cells #[.int .i64 8,.int .i64 16,.int .i64 24,.int .i64 32] 3)) (by simp) (by simp) (by simp) (by simp) (by simp)
 have af:tableCells.length=12:=rfl
 have i9:=vP
 generalize tableCells=T at Fx af i9 |-
 have HM:=Lib.hid Fx
 have HONE:=Lib.hid i9
 have uq:(Tryz.prog.info? 153).map (·.size)=some T.length:=by rw[af];exact Tryz.size_table
 have uo:(Tryz.prog.info? 153).map (·.size)=some T.toArray.size:=uq
 have HSZ:=Lib.hid uq
 have HSZ2:=Lib.hid uo
 have HLN:=Lib.hid af
 clear Fx uq uo i9 af
 go_enter Tryz.func83,Tryz.ntmps83
 go_wp2_with fail
 refine HM.out.mono ?_
 rintro e w1 ⟨v,rfl,ax,hb⟩
 clear HM
 rcases ax.2 with⟨rfl,h0⟩|⟨g,cap,cur,rfl,Nj,ib,h1,h2,h3,h4⟩
 .omega
 .have hr:w1.rangeAt g 0 T:=fun j u hu=>by
   rw[Nat.zero_add,cell_of_row w1 g _ cur _ (0,0) ib,<- Array.getElem?_toList]
   have an:j<4*3:=by have:=(List.getElem?_eq_some_iff.1 hu).1;rw[HLN.out]at this;exact this
   rw[<- List.getElem?_take_of_lt an,h4]
   exact hu
  have hblk:w1.heap[w.heap.size]? = some (.cells xvJ 153):=by
   rw[hb.block w.heap.size (by simp;omega),Below.heap_alloc _ _ _ (by simp)]
   exact heap_alloc_last _ _
  have C9:w1.there w.heap.size 0 T.length:=fun j hj=>by
   rw[HLN.out]at hj
   have hz:xvJ[j]? = some (.int .i64 0):=by
    rcases(show j=0\/j=1\/j=2\/j=3\/j=4\/j=5\/j=6\/j=7\/j=8\/j=9\/j=10\/j=11 by omega)with h|h|h|h|h|h|h|h|h|h|h|h<;>subst h<;>rfl
   constructor
   .rw[Nat.zero_add,cell_of_row w1 _ _ _ _ _ hblk,hz];rfl
   .simp[World.frozen?,hblk]
  have Jv:=run_loadVar_mid (P:= Tryz.prog) (w1.setCells w.heap.size 0 T) w.heap.size 0 153 T _ (World.rangeAt_setCells_same w1 _ _ _ C9) Tryz.underlying153 rfl HSZ.out
  have ox:Below w.heap.size w (w1.setCells w.heap.size 0 T):=below_setCells (dI _) _ _ ((((Below.refl _ w).alloc (dI _) _).alloc (by simp) _).trans (hb.mono (by simp;omega)))
  have HR:=Lib.hid hr
  have HT:=Lib.hid C9
  clear hr C9 hb ax hblk h3 h4 ib
  have gn:4<=cap:=h1
  have mz:= Tryz.arrayAt_table g cap w1
  go_wp2_with (first
   | (refine wpList_load_mid rfl 153 (.tmp 3) rfl g 0 rfl T _ HR.out Tryz.underlying153 rfl HSZ.out ?_)
   | (refine wpList_store_mid rfl 153 (.tmp 0) (.tmp 4) rfl w.heap.size 0 T.toArray rfl rfl HT.out HSZ2.out (all_oneCell_toArray HONE.out) ?_))
  refine bodyPost_ret (xow (b:=w.heap.size) rfl rfl Jv) rfl ?_
  exact⟨rfl,ox⟩
end
namespace Lx
open Go Go.RowKit
theorem SoundL.append{σ:Type}{I:Port Tryz.prog σ}{a b:List (Nat×Sm)}(h:SoundL I a)(h':SoundL I b):SoundL I (a++b):=fun f m hm=>(List.mem_append.1 hm).elim (h f m) (h' f m)
theorem xkD{α β:Type}(c:Bool)(a b:T α)(k:α->T β):(cond c a b).bind k=cond c (a.bind k) (b.bind k):=by cases c<;>rfl
theorem xkE{α β:Type}(a:α)(k:α->T β):(T.ret a).bind k=k a:=rfl
theorem bind_op{α β:Type}(o:POp)(f:o.Ans->T α)(k:α->T β):(T.op o f).bind k=T.op o fun x=>(f x).bind k:=rfl
theorem xzm{α β:Type}(k:α->T β):(T.fail:T α).bind k = .fail:=rfl
theorem ey{α:Type}{a b c:α}(h:a=b)(k:c=b:=by kernel_rfl):c=a:=k.trans h.symm
theorem bz:(∀ {α β:Type} (c:Bool) (a b:T α) (k:α->T β),(cond c a b).bind k=cond c (a.bind k) (b.bind k))/\(∀ {α β:Type} (a:α) (k:α->T β),(T.ret a).bind k=k a)/\(∀ {α β:Type} (o:POp) (f:o.Ans->T α) (k:α->T β),(T.op o f).bind k=T.op o fun x=>(f x).bind k)/\(∀ {α β:Type} (k:α->T β),(T.fail:T α).bind k = .fail)/\ ∀ {α β γ:Type} (t:T α) (f:α->T β) (g:β->T γ),(t.bind f).bind g=t.bind fun a=>(f a).bind g:=⟨xkD,xkE,bind_op,xzm,T.bind_assoc⟩
def yE(c:Bool):T Unit:=bif c then .ret ()else .fail
theorem jT{σ:Type}{step:PStep σ}{c:Bool}{s s':σ}{x:Unit}(h:(yE c).run step s=some (x,s')):c=true/\s'=s:=by
 cases c
 .simp[yE,T.run]at h
 .simp only[yE,cond_true,T.run,oI,dH]at h
  exact⟨rfl,h.2.symm⟩
theorem qu {σ:Type} {I:Port Tryz.prog σ} {f:FuncId} {fn:Func} (hf:(Tryz.prog).funcs[f]? = some fn) (cu:(fn.name == "runtime.NumGoroutine")=false) (bh:fn.body.isSome=true) {m:Sm}
  (h : ∀args H S,m args H=some S->H = []/\ ∃c v,S=mkS Unit (yE c) (fun _=>some (v,[]))/\ ∃vs rv,Flat I.pv v rv/\(∀e,allSome (denV I.pv e) args=some vs)/\(c=true ->∀w,Calls Tryz.prog f vs.toArray w fun e w'=>e = .returned rv/\Below w.heap.size w w')):SoundF I f m:=by
 obtain⟨c,hc⟩:=Option.isSome_iff_exists.1 bh
 refine⟨⟨fn,c,hf,cu,hc⟩,fun args H S hS e w s F vs E hv hR hF x v H' s' hrun cx =>?_⟩
 obtain⟨rfl,c,v',rfl,zt,rv,h1,h2,h3⟩:=h args H S hS
 obtain⟨He,rfl⟩:=jT hrun
 simp only[oI,dH]at cx
 obtain⟨rfl,rfl⟩:=cx
 rw[h2 e,oI]at hv
 subst hv
 refine(h3 He w).mono ?_
 rintro en w' ⟨rfl,hb⟩
 refine⟨e,F,rv,rfl,Ext.refl e,h1 e,E.ofSame fun b ib=>hb.block b (E.own_lt ib),I.stable hR fun b ib=>hb.block b (I.lt hR b ib),hF,⟨hb.os,hb.tape,hb.output,hb.size,fun b ib _=>hb.block b ib⟩,fun q b ib =>?_⟩
 rcases ib with h|h
 .exact .inl h
 .exact .inr (.inl h)
def tableC:List C :=[.int .i64 8,.int .i64 8,.int .i64 8,.int .i64 16,.int .i64 16,.int .i64 4,.int .i64 24,.int .i64 8,.int .i64 2,.int .i64 32,.int .i64 32,.int .i64 2]
def xBE:Sm:=fun
 | [],[]=>some (mkS Unit (yE true) (fun _=>some (.agg tableC,[])))
 | _,_=>none
def xBF:Sm:=fun
 | [.c (.int .u64 x)],[]=>some (mkS Unit (yE (decide (0<=x)&&decide (x<=18446744073709551615))) (fun _=>some (.c (.int .i64 (Lib.bitLen x.toNat)),[])))
 | _,_=>none
def mTz8:Sm:=fun
 | [.c (.int .u8 x)],[]=>some (mkS Unit (yE (decide (0<=x)&&decide (x<=255))) (fun _=>some (.c (.int .i64 (Lib.trailingZeros8 x.toNat)),[])))
 | _,_=>none
def ka0:List (Nat×Sm):=(83,xBE)::(220,xBF)::(257,mTz8)::(kw1++kg1)
theorem xh4{w w':World}(h:w'=w):Below w.heap.size w w':=by subst h;exact Below.refl _ _
variable{σ:Type}{I:Port Tryz.prog σ}
theorem vK:SoundL I ka0:=by
 refine .cons (qu Tryz.func83 (by kernel_rfl) (by kernel_rfl) fun args H S hS =>?_) (.cons (qu Tryz.func220 (by kernel_rfl) (by kernel_rfl) fun args H S hS =>?_) (.cons (qu Tryz.func257 (by kernel_rfl) (by kernel_rfl) fun args H S hS =>?_) (s_kw1.append s_kg1)))
 .unfold xBE at hS
  split at hS
  .cases hS
   exact⟨rfl,_,_,rfl,[],.agg tableCells.toArray,fun e=>rfl,fun e=>rfl,fun _ w=>xzl w⟩
  .cases hS
 .unfold xBF at hS
  split at hS
  .rename_i x
   cases hS
   refine⟨rfl,_,_,rfl,[.int .u64 x],_,fun e=>rfl,fun e=>rfl,fun hc w =>?_⟩
   simp only[dK,decide_eq_true_eq]at hc
   exact(Tryz.bits_Len64 x w hc.1 hc.2).mono fun e w' ⟨h1,h2⟩=>⟨h1,xh4 h2⟩
  .cases hS
 .unfold mTz8 at hS
  split at hS
  .rename_i x
   cases hS
   refine⟨rfl,_,_,rfl,[.int .u8 x],_,fun e=>rfl,fun e=>rfl,fun hc w =>?_⟩
   simp only[dK,decide_eq_true_eq]at hc
   exact(Tryz.bits_TrailingZeros8 x w hc.1 hc.2).mono fun e w' ⟨h1,h2⟩=>⟨h1,xh4 h2⟩
  .cases hS
def orSm(a b:Sm):Sm:=fun args H=>match a args H with
 | some S=>some S
 | none=>b args H
theorem SoundF.or{σ:Type}{I:Port Tryz.prog σ}{f:FuncId}{a b:Sm}(h:SoundF I f a)(h':SoundF I f b):SoundF I f (orSm a b):=by
 refine⟨h.1,fun args H S hS =>?_⟩
 unfold orSm at hS
 split at hS
 .rename_i S' ha
  cases hS
  exact h.2 args H S ha
 .exact h'.2 args H S hS
def Ref.of:List C->Option Ref
 | [.int .i64 a,.bool b,.int .u32 c]=>some ⟨a,b,c⟩
 | _=>none
theorem Ref.of_eq{l:List C}{r:Ref}(h:Ref.of l=some r):l=r.cells:=by
 unfold Ref.of at h;split at h<;>cases h;rfl
def Stt.of:List C->Option Stt
 | [.int .i64 a,.int .i64 b,.int .i64 c,.int .u32 d]=>some ⟨a,b,c,d⟩
 | _=>none
theorem Stt.of_eq{l:List C}{r:Stt}(h:Stt.of l=some r):l=r.cells:=by
 unfold Stt.of at h;split at h<;>cases h;rfl
def Pg.of:List C->Option Pg
 | [.int .i64 a,.int .i64 b,.int .i64 c,.int .i64 d]=>some ⟨a,b,c,d⟩
 | _=>none
theorem Pg.of_eq{l:List C}{r:Pg}(h:Pg.of l=some r):l=r.cells:=by
 unfold Pg.of at h;split at h<;>cases h;rfl
def Bt.of:List C->Option Bt
 | [.int .u8 a,.bool b,.int .i64 c,.int .u32 d]=>some ⟨a,b,c,d⟩
 | _=>none
theorem Bt.of_eq{l:List C}{r:Bt}(h:Bt.of l=some r):l=r.cells:=by
 unfold Bt.of at h;split at h<;>cases h;rfl
def shOf(l:List C):Option (Geo×Int):=
 match xF (l.take 22),l.drop 22 with
 | some g,[.int .i64 p]=>some (g,p)
 | _,_=>none
theorem xfl{l:List C}{g:Geo}{p:Int}(h:shOf l=some (g,p)):l=g.cells ++ [.int .i64 p]:=by
 unfold shOf at h
 split at h
 .rename_i g' p' h1 h2
  cases h
  rw[<- List.take_append_drop 22 l,xm h1,h2]
 .cases h
structure Cls where
 (size align blocks:Int)
def Cls.cells(r:Cls):List C :=[.int .i64 r.size,.int .i64 r.align,.int .i64 r.blocks]
def Cls.of:List C->Option Cls
 | [.int .i64 a,.int .i64 b,.int .i64 c]=>some ⟨a,b,c⟩
 | _=>none
theorem Cls.of_eq{l:List C}{r:Cls}(h:Cls.of l=some r):l=r.cells:=by
 unfold Cls.of at h;split at h<;>cases h;rfl
end Lx
namespace Lx
open Go
def xvK(l:List C):Option (Geo×List C):=match xF (l.take 22) with
 | some g=>some (g,l.drop 22)
 | none=>none
theorem xzn{l r:List C}{g:Geo}(h:xvK l=some (g,r)):l=g.cells++r:=by
 unfold xvK at h
 split at h
 .rename_i g' hg
  cases h
  rw[<- xm hg]
  exact(List.take_append_drop 22 l).symm
 .cases h
/-! ### states by patterns -/
abbrev IntsL:=List Int
abbrev RowsL:=List (List Int)
abbrev Yi:=Option Addr
inductive Lt where
 | i (n:Int)
 | b (x:Bool)
 | g (x:Geo)
 | l (x:List Int)
 | r (x:List (List Int))
 | n (x:Nat)
 | z (x:Option Addr)
inductive PC where
 | int (k:IntKind)
 | bool
 | geo
 | raw (c:C)
 | slr (b:Nat)
 | slw (b:Nat)
 | sl (b o:Nat)
 | pr (b m f:Nat)
 | fn (f:FuncId) (l:List PC)
def xr6:C->C->Bool
 | .nilp,.nilp=>true
 | .nils,.nils=>true
 | .nilf,.nilf=>true
 | .nili,.nili=>true
 | .port,.port=>true
 | .ptr b o,.ptr b' o'=>Nat.beq b b'&&Nat.beq o o'
 | .mp b,.mp b'=>Nat.beq b b'
 | .sl b o n c,.sl b' o' n' c'=>Nat.beq b b'&&Nat.beq o o'&&Nat.beq n n'&&Nat.beq c c'
 | .slg b o n,.slg b' o' n'=>Nat.beq b b'&&Nat.beq o o'&&Nat.beq n n'
 | _,_=>false
theorem xBG{a b:C}(h:xr6 a b=true):a=b:=by
 unfold xr6 at h
 split at h<;>first|rfl|cases h|skip
 .simp only[dK]at h
  rw[dN h.1,dN h.2]
 .rw[dN h]
 .simp only[dK]at h
  rw[dN h.1.1.1,dN h.1.1.2,dN h.1.2,dN h.2]
 .simp only[dK]at h
  rw[dN h.1.1,dN h.1.2,dN h.2]
mutual
def mC:PC->C->Option (List Lt)
 | .int k,.int k' n=>if k=k' then some [.i n]else none
 | .bool,.bool b=>some [.b b]
 | .raw c,c'=>bif xr6 c c' then some []else none
 | .slr b,.slr b' n=>bif Nat.beq b b' then some [.n n]else none
 | .slw b,.slw b' o z n c=>bif Nat.beq b b' then some [.n o,.z z,.n n,.n c]else none
 | .sl b o,.sl b' o' n c=>bif Nat.beq b b'&&Nat.beq o o' then some [.n n,.n c]else none
 | .pr b m f,.pr b' o i m' f'=>bif Nat.beq b b'&&(Nat.beq m m'&&Nat.beq f f')then some [.n o,.i i]else none
 | .fn f l,.fn f' caps=>if f=f' then mCs l caps else none
 | _,_=>none
def mCs:List PC->List C->Option (List Lt)
 | [],[]=>some []
 | .geo::l,cs=>match xvK cs with
  | some (g,r)=>match mCs l r with
   | some a=>some (.g g::a)
   | none=>none
  | none=>none
 | p::l,c::cs=>match mC p c with
  | some a=>match mCs l cs with
   | some b=>some (a++b)
   | none=>none
  | none=>none
 | _,_=>none
end
mutual
def iC:PC->List Lt->Option (C×List Lt)
 | .int k,.i n::r=>some (.int k n,r)
 | .bool,.b x::r=>some (.bool x,r)
 | .raw c,r=>some (c,r)
 | .slr b,.n n::r=>some (.slr b n,r)
 | .slw b,.n o :: .z z :: .n n :: .n c::r=>some (.slw b o z n c,r)
 | .sl b o,.n n :: .n c::r=>some (.sl b o n c,r)
 | .pr b m f,.n o :: .i i::r=>some (.pr b o i m f,r)
 | .fn f l,r=>match iCs l r with
  | some (cs,r')=>some (.fn f cs,r')
  | none=>none
 | _,_=>none
def iCs:List PC->List Lt->Option (List C×List Lt)
 | [],r=>some ([],r)
 | .geo::l,.g g::r=>match iCs l r with
  | some (cs,r')=>some (g.cells++cs,r')
  | none=>none
 | p::l,r=>match iC p r with
  | some (c,r')=>match iCs l r' with
   | some (cs,r2)=>some (c::cs,r2)
   | none=>none
  | none=>none
end
mutual
theorem mC_eq : ∀ (p:PC) (c:C) (a:List Lt),mC p c=some a ->∀r,iC p (a++r)=some (c,r)
 | .int k,c,a,h,r=>by
  cases c
  case int k' n=>
   simp only[mC]at h
   split at h
   .rename_i hk;subst hk;cases h;rfl
   .cases h
  all_goals simp[mC]at h
 | .bool,c,a,h,r=>by
  cases c
  case bool b=>simp only[mC]at h;cases h;rfl
  all_goals simp[mC]at h
 | .raw c,c',a,h,r=>by
  have h':(bif xr6 c c' then some []else none)=some a:=by rw[<- h];cases c'<;>rfl
  cases hr:xr6 c c' with
  | true=>rw[hr]at h';cases h';rw[xBG hr];rfl
  | false=>rw[hr]at h';cases h'
 | .slr b,c,a,h,r=>by
  cases c
  case slr b' n=>
   simp only[mC]at h
   cases hr:Nat.beq b b' with
   | true=>rw[hr]at h;cases h;rw[dN hr];rfl
   | false=>rw[hr]at h;cases h
  all_goals simp[mC]at h
 | .slw b,c,a,h,r=>by
  cases c
  case slw b' o z n cp=>
   simp only[mC]at h
   cases hr:Nat.beq b b' with
   | true=>rw[hr]at h;cases h;rw[dN hr];rfl
   | false=>rw[hr]at h;cases h
  all_goals simp[mC]at h
 | .sl b o,c,a,h,r=>by
  cases c
  case sl b' o' n cp=>
   simp only[mC]at h
   cases hr:(Nat.beq b b'&&Nat.beq o o') with
   | true=>
    rw[hr]at h;cases h
    rw[dK]at hr
    rw[dN hr.1,dN hr.2];rfl
   | false=>rw[hr]at h;cases h
  all_goals simp[mC]at h
 | .pr b m f,c,a,h,r=>by
  cases c
  case pr b' o i m' f'=>
   simp only[mC]at h
   cases hr:(Nat.beq b b'&&(Nat.beq m m'&&Nat.beq f f')) with
   | true=>
    rw[hr]at h;cases h
    rw[dK,dK]at hr
    rw[dN hr.1,dN hr.2.1,dN hr.2.2];rfl
   | false=>rw[hr]at h;cases h
  all_goals simp[mC]at h
 | .fn f l,c,a,h,r=>by
  cases c
  case fn f' caps=>
   simp only[mC]at h
   split at h
   .rename_i hf;subst hf
    simp only[iC,xc2 l caps a h r]
   .cases h
  all_goals simp[mC]at h
 | .geo,c,a,h,r=>by cases c<;>simp[mC]at h
theorem xc2 : ∀ (ps:List PC) (cs:List C) (a:List Lt),mCs ps cs=some a ->∀r,iCs ps (a++r)=some (cs,r)
 | [],cs,a,h,r=>by
  cases cs with
  | nil=>simp only[mCs]at h;cases h;rfl
  | cons c cs=>simp[mCs]at h
 | p::l,cs,a,h,r=>by
  by_cases hp:p = .geo
  .subst hp
   simp only[mCs]at h
   split at h
   .rename_i g r' hg
    split at h
    .rename_i a' ha
     cases h
     simp only[List.cons_append,iCs,xc2 l _ _ ha r]
     rw[xzn hg]
    .cases h
   .cases h
  .cases cs with
   | nil=>cases p<;>simp[mCs]at h hp
   | cons c cs=>
    have h':mCs (p::l) (c::cs)=match mC p c with
     | some a=>match mCs l cs with
      | some b=>some (a++b)
      | none=>none
     | none=>none:=by cases p<;>first|rfl|exact absurd rfl hp
    rw[h']at h
    split at h
    .rename_i a1 h1
     split at h
     .rename_i a2 h2
      cases h
      have e1:=mC_eq p c a1 h1 (a2++r)
      have e2:=xc2 l cs a2 h2 r
      have Q0:iCs (p::l) (a1++a2++r)=match iC p (a1++a2++r) with
       | some (c,r')=>match iCs l r' with
        | some (cs,r2)=>some (c::cs,r2)
        | none=>none
       | none=>none:=by cases p<;>first|rfl|exact absurd rfl hp
      rw[Q0,List.append_assoc,e1]
      simp only[e2]
     .cases h
    .cases h
end
inductive PV where
 | c (p:PC)
 | agg (l:List PC)
 | tup (l:List (PC ⊕ List PC))
def mV1:PC ⊕ List PC->V1->Option (List Lt)
 | .inl p,.c x=>mC p x
 | .inr l,.agg cs=>mCs l cs
 | _,_=>none
def iV1:PC ⊕ List PC->List Lt->Option (V1×List Lt)
 | .inl p,r=>match iC p r with
  | some (c,r')=>some (.c c,r')
  | none=>none
 | .inr l,r=>match iCs l r with
  | some (cs,r')=>some (.agg cs,r')
  | none=>none
theorem mV1_eq{p:PC ⊕ List PC}{v:V1}{a:List Lt}(h:mV1 p v=some a)(r:List Lt):iV1 p (a++r)=some (v,r):=by
 cases p<;>cases v<;>simp only[mV1]at h<;>first|cases h|skip
 .simp only[iV1,mC_eq _ _ _ h r]
 .simp only[iV1,xc2 _ _ _ h r]
def mRow{α β:Type}(m:α->β->Option (List Lt)):List α->List β->Option (List Lt)
 | [],[]=>some []
 | p::l,c::cs=>match m p c with
  | some a=>match mRow m l cs with
   | some b=>some (a++b)
   | none=>none
  | none=>none
 | _,_=>none
def iRow{α β:Type}(i:α->List Lt->Option (β×List Lt)):List α->List Lt->Option (List β×List Lt)
 | [],r=>some ([],r)
 | p::l,r=>match i p r with
  | some (c,r')=>match iRow i l r' with
   | some (cs,r2)=>some (c::cs,r2)
   | none=>none
  | none=>none
theorem xox{α β:Type}{m:α->β->Option (List Lt)}{i:α->List Lt->Option (β×List Lt)}(hm : ∀p v a,m p v=some a ->∀r,i p (a++r)=some (v,r)) :
  ∀ (ps:List α) (vs:List β) (a:List Lt),mRow m ps vs=some a ->∀r,iRow i ps (a++r)=some (vs,r)
 | [],[],a,h,r=>by simp only[mRow]at h;cases h;rfl
 | [],_::_,a,h,r=>by simp[mRow]at h
 | _::_,[],a,h,r=>by simp[mRow]at h
 | p::l,v::vs,a,h,r=>by
  simp only[mRow]at h
  split at h
  .rename_i a1 h1
   split at h
   .rename_i a2 h2
    cases h
    simp only[iRow,List.append_assoc,hm p v a1 h1 (a2++r),xox hm l vs a2 h2 r]
   .cases h
  .cases h
def mV:PV->V->Option (List Lt)
 | .c p,.c x=>mC p x
 | .agg l,.agg cs=>mCs l cs
 | .tup l,.tup vs=>mRow mV1 l vs
 | _,_=>none
def iV:PV->List Lt->Option (V×List Lt)
 | .c p,r=>match iC p r with
  | some (c,r')=>some (.c c,r')
  | none=>none
 | .agg l,r=>match iCs l r with
  | some (cs,r')=>some (.agg cs,r')
  | none=>none
 | .tup l,r=>match iRow iV1 l r with
  | some (cs,r')=>some (.tup cs,r')
  | none=>none
theorem mV_eq{p:PV}{v:V}{a:List Lt}(h:mV p v=some a)(r:List Lt):iV p (a++r)=some (v,r):=by
 cases p<;>cases v<;>simp only[mV]at h<;>first|cases h|skip
 .simp only[iV,mC_eq _ _ _ h r]
 .simp only[iV,xc2 _ _ _ h r]
 .simp only[iV,xox (m:=mV1) (i:=iV1) (fun _ _ _ h r=>mV1_eq h r) _ _ _ h r]
inductive PS where
 | tip
 | leaf (p:PV)
 | node (l r:PS)
def mS:PS->Sl->Option (List Lt)
 | .tip,.tip=>some []
 | .leaf p,.leaf v=>mV p v
 | .node l r,.node l' r'=>match mS l l' with
  | some a=>match mS r r' with
   | some b=>some (a++b)
   | none=>none
  | none=>none
 | _,_=>none
def iS:PS->List Lt->Option (Sl×List Lt)
 | .tip,r=>some (.tip,r)
 | .leaf p,r=>match iV p r with
  | some (v,r')=>some (.leaf v,r')
  | none=>none
 | .node l q,r=>match iS l r with
  | some (x,r')=>match iS q r' with
   | some (y,r'')=>some (.node x y,r'')
   | none=>none
  | none=>none
theorem mS_eq : ∀ {p:PS} {s:Sl} {a:List Lt},mS p s=some a ->∀r,iS p (a++r)=some (s,r)
 | .tip,.tip,a,h,r=>by simp only[mS]at h;cases h;rfl
 | .leaf p,.leaf v,a,h,r=>by
  simp only[mS]at h
  simp only[iS,mV_eq h r]
 | .node l q,.node l' q',a,h,r=>by
  simp only[mS]at h
  split at h
  .rename_i a1 h1
   split at h
   .rename_i a2 h2
    cases h
    simp only[iS,List.append_assoc,mS_eq h1 (a2++r),mS_eq h2 r]
   .cases h
  .cases h
 | .tip,.leaf _,a,h,r | .tip,.node _ _,a,h,r | .leaf _,.tip,a,h,r | .leaf _,.node _ _,a,h,r | .node _ _,.tip,a,h,r | .node _ _,.leaf _,a,h,r=>by simp[mS]at h
inductive PT where
 | col (k:IntKind)
 | rows (sh:List CK)
 | wcol (k:IntKind)
 | wrows (sh:List CK)
 | imap (g:Bool) (sh:List CK)
structure PB where
 cells:List PC
 elem:TypeId
 grown:Bool
 tab:Option PT
def mT:Option PT->Option Tab->Option (List Lt)
 | none,none=>some []
 | some (.col k),some (.col k' l)=>if k'=k then some [.l l]else none
 | some (.rows sh),some (.rows ud l)=>if ud=sh then some [.r l]else none
 | some (.wcol k),some (.wcol o k' l)=>if k'=k then some [.n o,.l l]else none
 | some (.wrows sh),some (.wrows o ud l)=>if ud=sh then some [.n o,.r l]else none
 | some (.imap g sh),some (.imap g' ud l)=>if g'=g/\ud=sh then some [.r l]else none
 | _,_=>none
def iT:Option PT->List Lt->Option (Option Tab×List Lt)
 | none,r=>some (none,r)
 | some (.col k),.l l::r=>some (some (.col k l),r)
 | some (.rows sh),.r l::r=>some (some (.rows sh l),r)
 | some (.wcol k),.n o :: .l l::r=>some (some (.wcol o k l),r)
 | some (.wrows sh),.n o :: .r l::r=>some (some (.wrows o sh l),r)
 | some (.imap g sh),.r l::r=>some (some (.imap g sh l),r)
 | _,_=>none
theorem mT_eq{p:Option PT}{v:Option Tab}{a:List Lt}(h:mT p v=some a)(r:List Lt):iT p (a++r)=some (v,r):=by
 unfold mT at h
 split at h
 .cases h;rfl
 .split at h
  .rename_i hk;subst hk;cases h;rfl
  .cases h
 .split at h
  .rename_i hk;subst hk;cases h;rfl
  .cases h
 .split at h
  .rename_i hk;subst hk;cases h;rfl
  .cases h
 .split at h
  .rename_i hk;subst hk;cases h;rfl
  .cases h
 .split at h
  .rename_i hk;obtain⟨rfl,rfl⟩:=hk;cases h;rfl
  .cases h
 .cases h
def mB:Option PB->Option Blk->Option (List Lt)
 | none,none=>some []
 | some p,some k=>bif Nat.beq p.elem k.elem&&(p.grown==k.grown)then(match mCs p.cells k.cells with
  | some a=>match mT p.tab k.tab with
   | some b=>some (a++b)
   | none=>none
  | none=>none)else none
 | _,_=>none
def iB:Option PB->List Lt->Option (Option Blk×List Lt)
 | none,r=>some (none,r)
 | some p,r=>match iCs p.cells r with
  | some (cs,r')=>match iT p.tab r' with
   | some (t,r'')=>some (some ⟨cs,p.elem,p.grown,t⟩,r'')
   | none=>none
  | none=>none
theorem mB_eq{p:Option PB}{v:Option Blk}{a:List Lt}(h:mB p v=some a)(r:List Lt):iB p (a++r)=some (v,r):=by
 cases p<;>cases v<;>simp only[mB]at h<;>first|cases h;rfl|cases h|skip
 rename_i p k
 cases hc:(Nat.beq p.elem k.elem&&(p.grown==k.grown)) with
 | false=>rw[hc]at h;cases h
 | true=>
  rw[hc]at h
  simp only[dK,beq_iff_eq]at hc
  simp only[cond_true]at h
  cases h1:mCs p.cells k.cells with
  | none=>rw[h1]at h;cases h
  | some a1=>
   rw[h1]at h
   simp only at h
   cases h2:mT p.tab k.tab with
   | none=>rw[h2]at h;cases h
   | some b1=>
    rw[h2]at h
    cases h
    simp only[iB,List.append_assoc,xc2 _ _ _ h1 (b1++r),mT_eq h2 r,dN hc.1,hc.2]
structure PTm where
 n:Nat
 s:PS
structure Pat where
 slots:PTm
 heap:List (Option PB)
def PS.left:PS->PS
 | .node l _=>l
 | _ =>.tip
def PS.right:PS->PS
 | .node _ r=>r
 | _ =>.tip
def setP:Nat->PS->Nat->PV->PS
 | 0,s,t,v=>bif Nat.beq t 0 then .leaf v else s
 | d+1,s,t,v=>bif Nat.blt t (2 ^ d)then .node (setP d s.left t v) s.right else .node s.left (setP d s.right (t-2 ^ d) v)
def xk(n _:Nat)(l:List (Nat×PV)):PTm:=⟨n,l.foldl (fun s p=>setP 9 s p.1 p.2) .tip⟩
def xr(p:Pat)(st:St):Option (List Lt):=
 bif Nat.beq p.slots.n st.tmps.n then(match mS p.slots.s st.tmps.s with
 | some a=>match mRow mB p.heap st.heap with
  | some b=>some (a++b)
  | none=>none
 | none=>none)else none
def xe(p:Pat)(ls:List Lt):St:=
 match iS p.slots.s ls with
 | some (t,r)=>match iRow iB p.heap r with
  | some (h,_)=>⟨⟨p.slots.n,t⟩,h⟩
  | none=>⟨⟨0,.tip⟩,[]⟩
 | none=>⟨⟨0,.tip⟩,[]⟩
theorem xj{p:Pat}{st:St}{ls:List Lt}(h:xr p st=some ls):st=xe p ls:=by
 unfold xr at h
 cases hn:Nat.beq p.slots.n st.tmps.n with
 | false=>rw[hn]at h;cases h
 | true=>
  rw[hn]at h
  have Bl:=dN hn
  simp only[cond_true]at h
  split at h
  .rename_i a ha
   split at h
   .rename_i b hb
    cases h
    have e1:=mS_eq ha b
    have e2:=xox (m:=mB) (i:=iB) (fun _ _ _ h r=>mB_eq h r) _ _ _ hb []
    rw[List.append_nil]at e2
    simp only[xe,e1,e2,Bl]
   .cases h
  .cases h
end Lx
namespace Lx
open Go Go.RowKit
def pvD(d:Nat):Value :=.iface 32 (.pointer (some ⟨d,0,none⟩))
theorem pmeth{name:String}(h:portMeth name=true):name = "Load" \/ name = "Store" \/ name = "CAS" \/ name = "Add" \/ name = "Get" \/ name = "Put" \/ name = "Self" \/ name = "Steps" \/ name = "Tell" :=by
 simpa[portMeth]using h
theorem sureD(d:Nat)(name:String)(h:portMeth name=true)(w:World):(nilAhead (Tryz.prog.types.size+Made.depth) 32 (.pointer (some ⟨d,0,none⟩)) name).run Tryz.prog w = .ok (some false) w:=by
 rcases pmeth h with rfl|rfl|rfl|rfl|rfl|rfl|rfl|rfl|rfl<;>kernel_rfl
def NP:Port Tryz.prog Unit where
 pv:=pvD 0
 t:= 32
 u :=.pointer (some ⟨0,0,none⟩)
 isIface:=rfl
 step:=fun _ _=>none
 Rep:=fun _ F _ =>∀b,¬F b
 lt:=fun h b hb=>absurd hb (h b)
 stable:=fun h _=>h
 sure:=fun name h w=>sureD 0 name h w
 does:=fun _ h=>by cases h
theorem xBH{f:FuncId}{m:Sm}(hs:SoundF NP f m){args:List V}{S:Sum}(hm:m args []=some S){vs:List Value}(hv:allSome (denV NP.pv []) args=some vs){x:S.α}(hr:S.t.run NP.step ()=some (x,())){v:V}{H':Heap}(hf:S.f x=some (v,H'))(w:World) :
  Calls Tryz.prog f vs.toArray w fun en w' =>∃e' rv,en = .returned rv/\denV NP.pv e' v=some rv/\Emb NP.pv e' H' w'/\Below w.heap.size w w'/\ ∀b,Own false e' H' b->w.heap.size<=b:=by
 refine(hs.2 args [] S hm [] w () (fun _=>False) vs (xnD _ w) hv (fun b h=>h) (fun b h=>(kP b h).elim) x v H' () hr hf).mono ?_
 rintro en w' ⟨e',F',rv,rfl,_,hd,E,_,_,hk,hn⟩
 refine⟨e',rv,rfl,hd,E,⟨hk.os,hk.tape,hk.output,hk.size,fun b hb=>hk.block b hb ?_⟩,fun b hb =>?_⟩
 .rintro (h|h)
  .exact kP b h
  .exact h
 .rcases hn _ b (.inl hb)with h|h|h
  .exact(kP b h).elim
  .exact h.elim
  .exact h
theorem calls_flat{f:FuncId}{m:Sm}(hs:SoundF NP f m){args:List V}{S:Sum}(hm:m args []=some S){vs:List Value}(hv:allSome (denV NP.pv []) args=some vs){x:S.α}(hr:S.t.run NP.step ()=some (x,())){v:V}(hf:S.f x=some (v,[])){rv:Value}(hd : ∀e,denV NP.pv e v=some rv)(w:World) :
  Calls Tryz.prog f vs.toArray w fun en w'=>en = .returned rv/\Below w.heap.size w w':=by
 refine(xBH hs hm hv hr hf w).mono ?_
 rintro en w' ⟨e',Ck,rfl,h,_,hb,_⟩
 rw[hd e',oI]at h
 subst h
 exact⟨rfl,hb⟩
theorem xkF(d:Nat)(args:List Value)(w:World):(callMethod (pvD d) "Load" args.toArray).run Tryz.prog w = .ok (.enter 279 (#[.pointer (some ⟨d,0,none⟩)]++args.toArray)) w:=by kernel_rfl
theorem xh5(d:Nat)(args:List Value)(w:World):(callMethod (pvD d) "Store" args.toArray).run Tryz.prog w = .ok (.enter 281 (#[.pointer (some ⟨d,0,none⟩)]++args.toArray)) w:=by kernel_rfl
theorem xr7(d:Nat)(args:List Value)(w:World):(callMethod (pvD d) "CAS" args.toArray).run Tryz.prog w = .ok (.enter 277 (#[.pointer (some ⟨d,0,none⟩)]++args.toArray)) w:=by kernel_rfl
theorem xr8(d:Nat)(args:List Value)(w:World):(callMethod (pvD d) "Add" args.toArray).run Tryz.prog w = .ok (.enter 276 (#[.pointer (some ⟨d,0,none⟩)]++args.toArray)) w:=by kernel_rfl
theorem xh6(d:Nat)(args:List Value)(w:World):(callMethod (pvD d) "Get" args.toArray).run Tryz.prog w = .ok (.enter 33 (#[.pointer (some ⟨d,0,none⟩)]++args.toArray)) w:=by kernel_rfl
theorem xh7(d:Nat)(args:List Value)(w:World):(callMethod (pvD d) "Put" args.toArray).run Tryz.prog w = .ok (.enter 23 (#[.pointer (some ⟨d,0,none⟩)]++args.toArray)) w:=by kernel_rfl
theorem xkG(d:Nat)(args:List Value)(w:World):(callMethod (pvD d) "Self" args.toArray).run Tryz.prog w = .ok (.enter 280 (#[.pointer (some ⟨d,0,none⟩)]++args.toArray)) w:=by kernel_rfl
theorem xh8(d:Nat)(args:List Value)(w:World):(callMethod (pvD d) "Steps" args.toArray).run Tryz.prog w = .ok (.enter 18 (#[.pointer (some ⟨d,0,none⟩)]++args.toArray)) w:=by kernel_rfl
theorem xzo(d:Nat)(args:List Value)(w:World):(callMethod (pvD d) "Tell" args.toArray).run Tryz.prog w = .ok (.enter 282 (#[.pointer (some ⟨d,0,none⟩)]++args.toArray)) w:=by kernel_rfl
abbrev LF:=St->(Ex->St->T R)->Option (T R)
def ek:List CK :=[.int .i64,.int .u8,.int .i64,.int .i64,.int .i64,.int .i64,.int .i64,.int .u8,.int .i64,.int .i64,.int .i64,.int .i64,.bool,.int .i64,.int .i64,.int .u8,.int .u64,.int .u64,.int .u64,.int .u64,.int .u64,.int .i64,.int .i64,.int .i64]
def ekp:List PC :=[.int .i64,.int .u8,.int .i64,.int .i64,.int .i64,.int .i64,.int .i64,.int .u8,.int .i64,.int .i64,.int .i64,.int .i64,.bool,.int .i64,.int .i64,.int .u8,.int .u64,.int .u64,.int .u64,.int .u64,.int .u64,.int .i64,.int .i64,.int .i64]
noncomputable abbrev lf(k:List (Nat×Sm))(u:Fu)(m:Nat)(x:LS)(p:List Nat)(f:Func):=qB Tryz.prog (xp k) u m x (jP p f) (Xr p f)
end Lx
end Go.Proofs.YtcicjcggclhbfaaGreat
