/- Part. -/
import Derived.Tactics
import Derived.Orders
import Derived.Carry
import Derived.WalkKit
import Derived.Laws.Rows
import Derived.Laws.MakeOwn
import Derived.Maps.AppendAt
import Derived.Laws.StructEq
set_option linter.all false
open Go.IntKind (i64 u64 u32 u8)
namespace Go.Proofs.YtfagfflkgmcnpaaGreatDoor
theorem dA {c : Prop} {h : Decidable c} (ot : ¬c) {α : Sort _} {t e : α} : ite c t e = e:= _root_.if_neg ot
theorem dB {c : Prop} {h : Decidable c} (hc : c) {α : Sort _} {t e : α} : ite c t e = t:= _root_.if_pos hc
theorem dD {p : Prop} [h : Decidable p] : ¬p → decide p = false:= _root_.decide_eq_false
theorem dF {p : Prop} [h : Decidable p] : p → decide p = true:= _root_.decide_eq_true
theorem dG {p : Prop} [h : Decidable p] : decide p = true → p:= _root_.of_decide_eq_true
theorem dH {p : Prop} [h : Decidable p] : decide p = false → ¬p:= _root_.of_decide_eq_false
theorem dI {α : Type _} {β : Type _} (a : α) (b : β) (c : α) (d : β) : ((a, b) = (c, d)) = (a = c ∧ b = d):= _root_.Prod.mk.injEq a b c d
theorem dJ (n : Nat) : n ≤ n:= _root_.Nat.le_refl n
theorem dL (n : Int) : IntKind.u64.wrap n = n % 18446744073709551616:= by simp [IntKind.wrap, IntKind.bits, IntKind.signed]
theorem dM (a b : Bool) : ((a && b) = true) = (a = true ∧ b = true):= _root_.Bool.and_eq_true a b
theorem dN {α : Type _} {β : Type _} {a : α} {f : α → β} : (some a).map f = some (f a):= rfl
theorem dO {α : Type _} {as bs : List α} : (as ++ bs).length = as.length + bs.length:= _root_.List.length_append
theorem dP {n m : Nat} : Nat.beq n m = true → n = m:= _root_.Nat.eq_of_beq_eq_true
theorem dQ {α : Type _} [BEq α] [LawfulBEq α] {a b : α} : (a == b) = false ↔ a ≠ b:= _root_.beq_eq_false_iff_ne
theorem dT {n m : Nat} (h : n ≤ m) : Nat.ble n m = true:= _root_.Nat.ble_eq_true_of_le h
theorem dU {α : Type _} {β : Type _} {b : β} {x : Option α} {f : α → Option β} : x.bind f = some b ↔ ∃ a, x = some a ∧ f a = some b:= _root_.Option.bind_eq_some_iff
theorem dV {a b : Int} (h : 0 ≤ a) : a.tmod b = a % b:= _root_.Int.tmod_eq_emod_of_nonneg h
theorem dW {a b : Int} (h : 0 ≤ a) : a.tdiv b = a / b:= _root_.Int.tdiv_eq_ediv_of_nonneg h
theorem oI{α:Type _}(a b:α):(some a=some b)=(a=b):=_root_.Option.some.injEq a b
theorem oM{α β:Type _}{f:α->β}{x:Option α}{b:β}:Option.map f x=some b ↔ ∃a,x=some a/\f a=b:=_root_.Option.map_eq_some_iff
end Go.Proofs.YtfagfflkgmcnpaaGreatDoor
namespace Go.Proofs.YtfagfflkgmcnpaaGreatDoor
namespace Lx
open Go
inductive C where
 | bool (b:Bool)
 | int (k:IntKind) (n:Int)
 | nilp
 | ptr (b o:Nat)
 | nils
 | sl (b o len cap:Nat)
 | slg (b o len:Nat)
 | pr (b off:Nat) (i:Int) (n f:Nat)
 | slw (b o:Nat) (z:Option Addr) (len cap:Nat)
 | slr (b len:Nat)
 | slv (b z o len:Nat)
 | slx (b o d a n c:Nat)
 | fn (f:FuncId) (caps:List C)
 | meth (name:String) (recv:C)
 | nilf
 | nili
 | nilm
 | port
 | mp (b:Nat)
 | str (z:ByteArray)
 | gp (g o:Nat)
 | ifc (t:TypeId) (c:C)
 deriving Inhabited
inductive V1 where
 | c (x:C)
 | agg (l:List C)
 deriving Inhabited
inductive V where
 | c (x:C)
 | agg (l:List C)
 | tup (l:List V1)
 deriving Inhabited
def V.undef:V :=.tup []
def V1.up:V1->V
 | .c x =>.c x
 | .agg l =>.agg l
def V.down:V->Option V1
 | .c x=>some (.c x)
 | .agg l=>some (.agg l)
 | .tup _=>none
def V.cells:V->Option (List C)
 | .c x=>some [x]
 | .agg l=>some l
 | .tup _=>none
inductive CK where
 | int (k:IntKind)
 | bool
 deriving DecidableEq
def CK.cell:CK->Int->C
 | .int k,n =>.int k n
 | .bool,n =>.bool (n != 0)
def getI(r:List Int)(j:Nat):Int:=r.getD j 0
def getR(l:List (List Int))(i:Nat):List Int:=l.getD i []
def rowG:List CK->Nat->List Int->List C
 | [],_,_ =>[]
 | s::sh,j,r=>s.cell (getI r j)::rowG sh (j+1) r
def rowC(sh:List CK)(r:List Int):List C:=rowG sh 0 r
def yk:List C->Option (List CK×List Int)
 | []=>some ([],[])
 | .int k n::l=>match yk l with
  | some (sh,r)=>some (.int k::sh,n::r)
  | none=>none
 | .bool b::l=>match yk l with
  | some (sh,r)=>some (.bool::sh,(bif b then 1 else 0)::r)
  | none=>none
 | _::_=>none
inductive Tab where
 | col (k:IntKind) (l:List Int)
 | rows (sh:List CK) (l:List (List Int))
 | wcol (off:Nat) (k:IntKind) (l:List Int)
 | wrows (off:Nat) (sh:List CK) (l:List (List Int))
 | imap (g:Bool) (sh:List CK) (l:List (List Int))
 | tok (id n:Nat)
def Tab.cells:Tab->List C
 | .col k l=>l.map (.int k)
 | .rows sh l=>l.flatMap (rowC sh)
 | .wcol _ k l=>l.map (.int k)
 | .wrows _ sh l=>l.flatMap (rowC sh)
 | .imap _ _ _ =>[]
 | .tok _ _ =>[]
def Tab.isTok:Tab->Bool
 | .tok _ _=>true
 | _=>false
structure Blk where
 cells:List C
 elem:TypeId
 grown:Bool
 tab:Option Tab
 deriving Inhabited
def Blk.real(k:Blk):List C:=match k.tab with
 | none=>k.cells
 | some (.tok _ _)=>k.cells
 | some t=>t.cells
def Blk.own(k:Blk):List C:=match k.tab with
 | none=>k.cells
 | some _ =>[]
def Blk.win(k:Blk):Option Nat:=match k.tab with
 | some (.wcol o _ _)=>some o
 | some (.wrows o _ _)=>some o
 | _=>none
def wX{α:Type}:List α->Bool
 | []=>true
 | _::_=>false
def Blk.virt(k:Blk):Bool:=match k.tab with
 | some (.rows _ l)=>k.grown&&wX l
 | some (.col _ l)=>k.grown&&wX l
 | some (.wcol _ _ l)=>wX l
 | some (.wrows _ _ l)=>wX l
 | some (.imap _ _ _)=>false
 | some (.tok _ _)=>true
 | none=>false
def Blk.mapped(k:Blk):Option (Bool×List CK×List (List Int)):=match k.tab with
 | some (.imap g sh l)=>some (g,sh,l)
 | _=>none
def Blk.wid(k:Blk):Nat:=match k.tab with
 | some (.rows sh _)=>sh.length
 | _=>1
def Blk.ok(k:Blk):Prop :=∀t,k.tab=some t->t.isTok=false->k.cells = []
def inB:List Int->Nat->Bool
 | [],_=>false
 | _::_,0=>true
 | _::l,n+1=>inB l n
abbrev Heap:=List (Option Blk)
inductive Sl where
 | tip
 | leaf (v:V)
 | node (l r:Sl)
 deriving Inhabited
structure Tm where
 n:Nat
 s:Sl
 deriving Inhabited
structure St where
 tmps:Tm
 heap:Heap
inductive POp where
 | load (at_:Int)
 | store (at_ v:Int)
 | cas (at_ old new:Int)
 | add (at_ d:Int)
 | get (at_:Int)
 | put (at_ b:Int)
 | self
 | steps
 | tell (r:List C)
 | ask (k:Nat) (l:List Int)
@[reducible] def POp.Ans:POp->Type
 | .load _=>Int
 | .store _ _=>Unit
 | .cas _ _ _=>Bool
 | .add _ _=>Int
 | .get _=>Int
 | .put _ _=>Unit
 | .self=>Int
 | .steps=>Int
 | .tell _=>Unit
 | .ask _ _=>List Int
def ansV:(o:POp)->o.Ans->V
 | .load _,x =>.c (.int .u64 x)
 | .store _ _,_ =>.undef
 | .cas _ _ _,b =>.c (.bool b)
 | .add _ _,x =>.c (.int .u64 x)
 | .get _,x =>.c (.int .u8 x)
 | .put _ _,_ =>.undef
 | .self,x =>.c (.int .i64 x)
 | .steps,x =>.c (.int .i64 x)
 | .tell _,_ =>.undef
 | .ask _ _,_ =>.undef
inductive T(α:Type) where
 | ret (a:α)
 | op (o:POp) (k:o.Ans->T α)
 | fail
abbrev PStep(σ:Type):=(o:POp)->σ->Option (o.Ans×σ)
def T.bind{α β:Type}:T α->(α->T β)->T β
 | .ret a,f=>f a
 | .op o k,f =>.op o fun c=>(k c).bind f
 | .fail,_ =>.fail
def T.run{α σ:Type}(step:PStep σ):T α->σ->Option (α×σ)
 | .ret a,s=>some (a,s)
 | .op o k,s=>match step o s with
  | some (c,s')=>(k c).run step s'
  | none=>none
 | .fail,_=>none
theorem T.run_bind{α β σ:Type}{step:PStep σ}(t:T α)(f:α->T β)(s:σ) :
  (t.bind f).run step s=match t.run step s with|some (a,s')=>(f a).run step s'|none=>none:=by
 induction t generalizing s with
 | ret a=>rfl
 | fail=>rfl
 | op o k ih=>
  simp only[T.bind,T.run]
  cases step o s with
  | none=>rfl
  | some cs=>exact ih _ _
def qe:Value->Option C
 | .bool b=>some (.bool b)
 | .int k n=>some (.int k n)
 | .pointer none=>some .nilp
 | .slice none 0 0=>some .nils
 | .nilFunc=>some .nilf
 | .nilIface=>some .nili
 | .map none=>some .nilm
 | .string z=>some (.str z)
 | _=>none
def allSome{α β:Type}(f:α->Option β):List α->Option (List β)
 | []=>some []
 | x::l=>match f x with
  | some y=>match allSome f l with
   | some ys=>some (y::ys)
   | none=>none
  | none=>none
def qJ:Value->Option V
 | .agg cs=>(allSome qe cs.toList).map .agg
 | .tuple cs=>if cs.size=0 then some (.tup [])else none
 | v=>(qe v).map .c
def Sl.left:Sl->Sl
 | .node l _=>l
 | _ =>.tip
def Sl.right:Sl->Sl
 | .node _ r=>r
 | _ =>.tip
def getS:Nat->Sl->Nat->Option V
 | 0,.leaf v,t=>bif Nat.beq t 0 then some v else none
 | d+1,.node l r,t=>bif Nat.blt t (2 ^ d)then getS d l t else getS d r (t-2 ^ d)
 | _,_,_=>none
def setS:Nat->Sl->Nat->V->Sl
 | 0,s,t,v=>bif Nat.beq t 0 then .leaf v else s
 | d+1,s,t,v=>bif Nat.blt t (2 ^ d)then .node (setS d s.left t v) s.right else .node s.left (setS d s.right (t-2 ^ d) v)
def mkN:Sl->Sl->Sl
 | .tip,.tip =>.tip
 | l,r =>.node l r
def wT(m:Nat):Nat->Nat->Sl->Sl
 | 0,i,.leaf v=>bif m.testBit i then .leaf v else .tip
 | d+1,i,.node l r=>mkN (wT m d i l) (wT m d (i+2 ^ d) r)
 | _,_,_ =>.tip
def getT(l:Tm)(t:Nat):Option V:=bif Nat.blt t l.n then getS 9 l.s t else none
def setT(l:Tm)(t:Nat)(v:V):Tm:=bif Nat.blt t l.n then⟨l.n,setS 9 l.s t v⟩else l
def keepT(m:Nat)(l:Tm):Tm:=⟨l.n,wT m 9 0 l.s⟩
def Wy:Nat->List V->Sl->Sl
 | _,[],s=>s
 | i,v::l,s=>Wy (i+1) l (setS 9 s i v)
def Tm.toList(l:Tm):List (Option V):=(List.range l.n).map (getT l)
def xW(tmps:Tm):Operand->Option V
 | .tmp t=>getT tmps t
 | .const v=>qJ v
 | .global g=>some (.c (.gp g 0))
 | .func f=>some (.c (.fn f []))
def putT(tmps:Tm)(dst:Option Tmp)(v:V):Tm:=
 match dst with
 | some d=>setT tmps d v
 | none=>tmps
def blkAt(H:Heap)(b:Nat):Option Blk:=
 match H,b with
 | [],_=>none
 | x::_,0=>x
 | _::l,b+1=>blkAt l b
def setB(H:Heap)(b:Nat)(x:Option Blk):Heap:=
 match H,b with
 | [],_ =>[]
 | _::l,0=>x::l
 | y::l,b+1=>y::setB l b x
def slice(l:List C)(o n:Nat):Option (List C):=
 match l,o,n with
 | _,_,0=>some []
 | [],_,_+1=>none
 | x::l,0,n+1=>match slice l 0 n with
  | some r=>some (x::r)
  | none=>none
 | _::l,o+1,n+1=>slice l o (n+1)
def splice(l:List C)(o:Nat)(xs:List C):Option (List C):=
 match l,o,xs with
 | l,_,[]=>some l
 | [],_,_::_=>none
 | _::l,0,x::xs=>match splice l 0 xs with
  | some r=>some (x::r)
  | none=>none
 | y::l,o+1,x::xs=>match splice l o (x::xs) with
  | some r=>some (y::r)
  | none=>none
inductive Stp where
 | val (g:Bool) (v:V) (H:Heap)
 | port (p:POp)
 | call (f:FuncId) (args:List V)
def xhv:TypeDesc->Bool
 | .struct _ | .array _ _=>true
 | _=>false
def KM(P:Program)(t:TypeId):Option Bool:=(P.underlying t).map xhv
def xR(P:Program)(t:TypeId):Option Nat:=(P.info? t).map (·.size)
def jH(P:Program)(t:TypeId):Option V:=match P.info? t with
 | some i=>match i.zero with
  | some v=>qJ v
  | none=>none
 | none=>none
def partT(P:Program)(t:TypeId)(cs:List C)(off:Nat):Option V:=
 match KM P t,xR P t with
 | some true,some n=>(slice cs off n).map .agg
 | some false,some _=>match slice cs off 1 with
  | some [x]=>some (.c x)
  | _=>none
 | _,_=>none
/-! a part at a letter: of cells that are alike the number is chosen -/
def mixC(b:Bool):C->C->Option C
 | .int k x,.int k' y=>if k=k' then some (.int k (bif b then x else y))else none
 | .bool x,.bool y=>some (.bool (bif b then x else y))
 | _,_=>none
def WQ(b:Bool):List C->List C->Option (List C)
 | [],[]=>some []
 | x::l,y::m=>match mixC b x y,WQ b l m with
  | some z,some n=>some (z::n)
  | _,_=>none
 | _,_=>none
def mixV(b:Bool):V->V->Option V
 | .c x,.c y=>(mixC b x y).map .c
 | .agg x,.agg y=>(WQ b x y).map .agg
 | _,_=>none
def selV(i:Int):Int->List V->Option V
 | _,[]=>none
 | j,v::l=>match l with
  | []=>some v
  | _::_=>match selV i (j+1) l with
   | some r=>mixV (i==j) v r
   | none=>none
def partI(P:Program)(t:TypeId)(cs:List C)(n len:Nat)(i:Int):Option V:=
 match allSome (fun j=>partT P t cs (j*n)) (List.range len) with
 | some vs=>match selV i 0 vs with
  | some v=>some v
  | none=>partT P t cs (i.toNat*n)
 | none=>partT P t cs (i.toNat*n)
theorem xe5{b:Bool}{x y z:C}(h:mixC b x y=some z):z=bif b then x else y:=by
 unfold mixC at h
 split at h
 .split at h
  .rename_i hk;subst hk;cases b<;>(cases h;rfl)
  .cases h
 .cases b<;>(cases h;rfl)
 .cases h
theorem xb6{b:Bool} : ∀ {x y z:List C},WQ b x y=some z->z=bif b then x else y
 | [],[],z,h=>by unfold WQ at h;cases b<;>(cases h;rfl)
 | x::l,y::m,z,h=>by
  unfold WQ at h
  split at h
  .rename_i c n h1 h2
   have:=xe5 h1;have:=xb6 h2;subst_vars
   cases b<;>(cases h;rfl)
  .cases h
 | [],_::_,z,h=>by unfold WQ at h;cases h
 | _::_,[],z,h=>by unfold WQ at h;cases h
theorem mixV_eq{b:Bool}{x y z:V}(h:mixV b x y=some z):z=bif b then x else y:=by
 unfold mixV at h
 split at h
 .rw[oM]at h;obtain⟨a,h1,h2⟩:=h
  have:=xe5 h1;subst_vars;cases b<;>rfl
 .rw[oM]at h;obtain⟨a,h1,h2⟩:=h
  have:=xb6 h1;subst_vars;cases b<;>rfl
 .cases h
theorem xe6{i:Int} : ∀ {l:List V} {j:Int} {v:V},selV i j l=some v->j<=i->i<j+l.length->l[(i-j).toNat]? = some v
 | [],j,v,h,h0,h1=>by simp only[selV]at h;cases h
 | [u],j,v,h,h0,h1=>by
  simp only[selV]at h;cases h
  have:i=j:=by simp at h1;omega
  subst this;simp
 | u::x::l,j,v,h,h0,h1=>by
  rw[selV]at h
  split at h
  .rename_i r hr
   have hv:=mixV_eq h
   by_cases gz:i=j
   .subst gz;simp at hv;simp[hv]
   .have hb:(i==j)=false:=by simpa using gz
    rw[hb]at hv;simp only[cond_false]at hv;subst hv
    have:=xe6 hr (by omega) (by simp at h1 |-;omega)
    have e:(i-j).toNat=(i-(j+1)).toNat+1:=by omega
    rw[e];simpa using this
  .cases h
theorem WR{α β:Type}{f:α->Option β} : ∀ {l:List α} {r:List β},allSome f l=some r->r.length=l.length/\ ∀ (k:Nat) (x:α) (y:β),l[k]? = some x->r[k]? = some y->f x=some y
 | [],r,h=>by simp only[allSome]at h;cases h;simp
 | a::l,r,h=>by
  simp only[allSome]at h
  split at h
  .rename_i y hy
   split at h
   .rename_i ys fz
    cases h
    obtain⟨h1,h2⟩:=WR fz
    refine⟨by simp[h1],fun k x z hx hz =>?_⟩
    cases k with
    | zero=>simp at hx hz;subst hx;subst hz;exact hy
    | succ k=>exact h2 k x z (by simpa using hx) (by simpa using hz)
   .cases h
  .cases h
theorem xhw{P:Program}{t:TypeId}{cs:List C}{n len:Nat}{i:Int}{v:V}(h:partI P t cs n len i=some v)(hg:0<=i/\i<(len:Int)):partT P t cs (i.toNat*n)=some v:=by
 unfold partI at h
 split at h
 .rename_i vs ee
  split at h
  .rename_i u hu
   cases h
   obtain⟨h1,h2⟩:=WR ee
   have:=xe6 hu hg.1 (by rw[h1];simp;omega)
   exact h2 i.toNat i.toNat v (by rw[List.getElem?_range];omega) (by simpa using this)
  .exact h
 .exact h
/-! ### operations -/
def xdJ(op:BinOp)(k:IntKind)(a b:Int):Option (Bool×C):=
 match op with
 | .add=>some (true,.int k (k.wrap (a+b)))
 | .sub=>some (true,.int k (k.wrap (a-b)))
 | .mul=>some (true,.int k (k.wrap (a*b)))
 | .quo=>some (!(b==0),.int k (k.wrap (a.tdiv b)))
 | .rem=>some (!(b==0),.int k (a.tmod b))
 | .and=>some (true,.int k (bits .and k a b))
 | .or=>some (true,.int k (bits .or k a b))
 | .xor=>some (true,.int k (bits .xor k a b))
 | .andNot=>some (true,.int k (bits .andNot k a b))
 | .eql=>some (true,.bool (a==b))
 | .neq=>some (true,.bool (a != b))
 | .lss=>some (true,.bool (decide (a<b)))
 | .leq=>some (true,.bool (decide (a<=b)))
 | .gtr=>some (true,.bool (decide (a>b)))
 | .geq=>some (true,.bool (decide (a>=b)))
 | _=>none
def Xv(op:BinOp)(k:IntKind)(a b:Int):Option (Bool×C):=
 match op with
 | .shl=>some (!(decide (b<0)),.int k (k.wrap (a*2 ^ (min b.toNat k.bits))))
 | .shr=>some (!(decide (b<0)),.int k (a.fdiv (2 ^ (min b.toNat k.bits))))
 | _=>none
def eqC(d:TypeDesc)(const:Bool)(x y:C):Option Bool:=
 match d with
 | .bool=>match x,y with
  | .bool a,.bool b=>some (a==b)
  | _,_=>none
 | .pointer _=>match x,y with
  | .nilp,.nilp=>some true
  | .nilp,.ptr _ _=>some false
  | .ptr _ _,.nilp=>some false
  | _,_=>none
 | .interface _=>match x,y with
  | .nili,.nili=>if const then some true else none
  | .nili,.port=>some false
  | .port,.nili=>some false
  | .nili,.ifc _ _=>some false
  | .ifc _ _,.nili=>some false
  | _,_=>none
 | .func _ _ _=>match x,y with
  | .nilf,.nilf=>some true
  | .nilf,.fn _ _=>some false
  | .fn _ _,.nilf=>some false
  | _,_=>none
 | .slice _=>match x,y with
  | .nils,.nils=>some true
  | .nils,.sl _ _ _ _=>some false
  | .sl _ _ _ _,.nils=>some false
  | .nils,.slg _ _ _=>some false
  | .slg _ _ _,.nils=>some false
  | .nils,.slr _ n=>if n=0 then none else some false
  | .slr _ n,.nils=>if n=0 then none else some false
  | _,_=>none
 | _=>none
def vw:Operand->Bool
 | .const _=>true
 | _=>false
def xe7(P:Program)(op:BinOp)(t:TypeId)(x y:Operand)(a b:C):Option (Bool×C):=
 match a,b with
 | .int k m,.int k' n=>match op with
  | .shl=>Xv .shl k m n
  | .shr=>Xv .shr k m n
  | op=>if k=k' then xdJ op k m n else none
 | a,b=>match op,P.underlying t with
  | .eql,some d=>(eqC d (vw x||vw y) a b).map fun r=>(true,.bool r)
  | .neq,some d=>(eqC d (vw x||vw y) a b).map fun r=>(true,.bool !r)
  | _,_=>none
def YT(r:TypeId->V->V->Option Bool)(P:Program):List Field->List C->List C->Option Bool
 | [],_,_=>some true
 | f::l,xs,ys=>if f.name = "_" then YT r P l xs ys else match partT P f.type xs f.offset,partT P f.type ys f.offset with
  | some a,some b=>match r f.type a b,YT r P l xs ys with
   | some p,some q=>some (p&&q)
   | _,_=>none
  | _,_=>none
def eqF(P:Program):Nat->TypeId->V->V->Option Bool
 | 0,_,_,_=>none
 | d+1,t,x,y=>match P.underlying t,x,y with
  | some .bool,.c (.bool a),.c (.bool b)=>some (a==b)
  | some (.int _),.c (.int k a),.c (.int k' b)=>if k=k' then some (a==b)else none
  | some (.struct fs),.agg xs,.agg ys=>if P.stoodInHeld t=true then none else YT (eqF P d) P fs.toList xs ys
  | _,_,_=>none
def xaN(P:Program)(op:BinOp)(t:TypeId)(l m:List C):Option C:=
 if P.eqGuardType P.depth t=true then none else match op,eqF P 10 t (.agg l) (.agg m) with
  | .eql,some r=>some (.bool r)
  | .neq,some r=>some (.bool !r)
  | _,_=>none
def evUn(op:UnOp)(a:C):Option C:=
 match op,a with
 | .neg,.int k n=>some (.int k (k.wrap (0-n)))
 | .xor,.int k n=>some (.int k (bits .xor k (if k.signed then -1 else k.max) n))
 | .not,.bool b=>some (.bool !b)
 | _,_=>none
def ZO(place:Nat->Option (Nat×Nat))(cells:List C):List (Nat×V)->Option (List C)
 | []=>some cells
 | (i,v)::rest=>match place i,v.cells with
  | some (off,size),some xs=>if xs.length=size/\off+size<=cells.length then match splice cells off xs with
    | some cs=>ZO place cs rest
    | none=>none
   else none
  | _,_=>none
def rep(z:List C):Nat->List C
 | 0 =>[]
 | n+1=>z++rep z n
def partsOf(ρ:Operand->Option V)(l:List (Nat×Operand)):Option (List (Nat×V)):=
 allSome (fun p=>(ρ p.2).map fun v=>(p.1,v)) l
def newB(H:Heap)(b:Blk):Heap:=H ++ [some b]
def xE(x:Option V)(dflt most:Nat):Option (Bool×Nat):=
 match x with
 | none=>some (true,dflt)
 | some (.c (.int _ i))=>some (decide (0<=i/\i<=(most:Int)),i.toNat)
 | some _=>none
def viewS(z:Nat):C->Option (Nat×Nat×Nat)
 | .sl b o _ cap=>some (b,o,cap)
 | .slr b n=>if 0<n then some (b,0,n)else none
 | .slv b z' o n=>if z'=z/\0<n then some (b,o*z,n)else none
 | .slg b 0 n=>if 0<n then some (b,0,n)else none
 | _=>none
def xe8:C->Option (Bool×Nat×Nat×Nat×Nat×Nat×Nat)
 | .slw b o _ n c=>some (Nat.ble n c,b,o,0,o,n,c)
 | .slx b o d a n c=>some (true,b,o,d,a,n,c)
 | _=>none
def WT(s:C)(l h m:Option V):Option (Bool×C):=match xe8 s with
 | some (g,b,o,d,a,n,c)=>match xE m c c with
  | some (g0,m')=>match xE h n m' with
   | some (g1,h')=>match xE l 0 h' with
    | some (g2,l')=>some (g0&&g1&&g2&&g&&Nat.blt 0 n,.slx b o (d+l') (if m'=l' then a else a+l') (h'-l') (m'-l'))
    | none=>none
   | none=>none
  | none=>none
 | none=>none
def WU(P:Program)(t:TypeId)(x:Option V)(l h:Option (Option V))(m:Option V):Option (Bool×C):=
 match P.underlying t,x,l,h,m with
 | some (.slice e),some (.c s),some l,some (some h),some m=>match xR P e with
  | some z=>match viewS z s with
   | some (b,o,most)=>match xE (some m) 0 most with
    | some (g0,m')=>match xE (some h) 0 m' with
     | some (g1,h')=>match xE l 0 h' with
      | some (g2,l')=>some (g0&&g1&&g2,.sl b (if m'=l' then o else o+l'*z) (h'-l') (m'-l'))
      | none=>none
     | none=>none
    | none=>none
   | none=>if z=1 then WT s l (some h) (some m)else none
  | none=>none
 | _,_,_,_,_=>none
def optO(ρ:Operand->Option V):Option Operand->Option (Option V)
 | none=>some none
 | some x=>(ρ x).map some
def wU:C->Bool
 | .bool _=>true
 | .int _ _=>true
 | _=>false
def popOf(name:String)(args:List V):Option POp:=
 match args with
 | []=>if name = "Self" then some .self else if name = "Steps" then some .steps else none
 | [.c (.int .i64 a)]=>if name = "Load" then some (.load a)else if name = "Get" then some (.get a)else none
 | [.c (.int .i64 a),.c (.int .u64 b)]=>if name = "Store" then some (.store a b)else if name = "Add" then some (.add a b)else none
 | [.c (.int .i64 a),.c (.int .u8 b)]=>if name = "Put" then some (.put a b)else none
 | [.c (.int .i64 a),.c (.int .u64 b),.c (.int .u64 c)]=>if name = "CAS" then some (.cas a b c)else none
 | [.agg l]=>if name = "Tell" then(if l.all wU then some (.tell l)else none)else none
 | _=>none
def portMeth(s:String):Bool :=["Load", "Store", "CAS", "Add", "Get", "Put", "Self", "Steps", "Tell"].contains s
def yv(P:Program)(b:Builtin)(argTypes:List TypeId)(args:List V)(H:Heap):Option Stp:=
 match b,argTypes,args with
 | .len,[t],[x]=>match P.underlying t,x with
  | some (.slice _),.c .nils=>some (.val true (.c (.int .i64 0)) H)
  | some (.slice _),.c (.sl _ _ n _)=>some (.val true (.c (.int .i64 n)) H)
  | some (.slice _),.c (.slg _ _ n)=>some (.val true (.c (.int .i64 n)) H)
  | some (.slice _),.c (.slw _ _ _ n _)=>some (.val true (.c (.int .i64 n)) H)
  | some (.slice _),.c (.slr _ n)=>some (.val true (.c (.int .i64 n)) H)
  | some (.slice _),.c (.slv _ _ _ n)=>some (.val true (.c (.int .i64 n)) H)
  | some (.slice _),.c (.slx _ _ _ _ n _)=>some (.val true (.c (.int .i64 n)) H)
  | some (.array n _),_=>some (.val true (.c (.int .i64 n)) H)
  | _,_=>none
 | .min,_,[.c (.int k x),.c (.int _ y)]=>some (.val true (.c (.int k (if y<x then y else x))) H)
 | .max,_,[.c (.int k x),.c (.int _ y)]=>some (.val true (.c (.int k (if x<y then y else x))) H)
 | _,_,_=>none
def ZP(P:Program)(t:TypeId)(name:String):Option FuncId:=match P.info? t with
 | some i=>match i.methods.find? (·.name==name) with
  | some m=>match m.path.toList,m.func,P.underlying t with
   | [],some (f,true),some (.pointer _)=>some f
   | _,_,_=>none
  | none=>none
 | none=>none
def WV(P:Program)(el:TypeId):Bool:=match P.info? el with
 | some i=>match i.zero with
  | some z=>i.size==1&&decide (i.bytes<=64)&&z.cells.size==1
  | none=>false
 | none=>false
def wY(P:Program)(el:TypeId)(n:Nat):Bool:=match P.info? el with
 | some i=>match i.zero with
  | some z=>i.size==n&&decide (1<=n)&&decide (n<=64)&&decide (i.bytes<=512)&&z.cells.size==n
  | none=>false
 | none=>false
def kT(P:Program)(el:TypeId)(s:C)(k:Blk)(o:Nat)(H:Heap):Option Stp:=
 match xR P el with
 | some z=>if wY P el z then match slice k.own o z with
   | some xs=>match yk xs with
    | some (sh,r)=>match s with
     | .slr b2 len=>match blkAt H b2 with
      | some k2=>match k2.tab with
       | some (.rows nn l)=>if nn=sh/\k2.grown=true/\k2.elem=el then
         some (.val (Nat.beq l.length len&&Nat.ble len 1000) (.c (.slr H.length (len+1))) (newB (setB H b2 none) ⟨[],el,true,some (.rows sh (l ++ [r]))⟩))
        else none
       | some (.col kd l)=>if sh = [.int kd]/\k2.grown=true/\k2.elem=el then
         some (.val (Nat.beq l.length len&&Nat.ble len 1000) (.c (.slr H.length (len+1))) (newB (setB H b2 none) ⟨[],el,true,some (.col kd (l++r))⟩))
        else none
       | _=>none
      | none=>none
     | _=>none
    | none=>none
   | none=>none
  else none
 | none=>none
def kU(P:Program)(el:TypeId)(s:C)(n b o:Nat)(H:Heap):Option Stp:=match s with
 | .nils=>if n=1 then match blkAt H b with
   | some k=>match xR P el with
    | some z=>if wY P el z then match slice k.own o z with
      | some xs=>match yk xs with
       | some (sh,r)=>some (.val true (.c (.slr H.length 1)) (newB H ⟨[],el,true,some (.rows sh [r])⟩))
       | none=>none
      | none=>none
     else none
    | none=>none
   | none=>none
  else none
 | _=>none
def cutL{α:Type}(w:Option Nat)(m:Nat)(l:List α):List α:=match w with
 | none=>l
 | some o=>(l.drop o).take m
def cutOk{α:Type}(w:Option Nat)(m:Nat)(l:List α):Bool:=match w with
 | none=>Nat.beq l.length m
 | some o=>Nat.ble (o+m) l.length
def xaO(z:Nat):C->Option (Nat×Option Nat×Nat)
 | .slv b z' o m=>if z'=z then some (b,some o,m)else none
 | .slr b m=>some (b,none,m)
 | _=>none
def catT(z:Nat)(w:Option Nat)(m len:Nat):Tab->Tab->Option (Bool×Tab)
 | .rows nn l2,.rows sh l=>if nn=sh/\sh.length=z then some ((Nat.beq l2.length len&&Nat.ble len 1000)&&cutOk w m l&&Nat.ble m 1000,.rows nn (l2++cutL w m l))else none
 | .col Eh l2,.col kd l=>if Eh=kd/\1=z then some ((Nat.beq l2.length len&&Nat.ble len 1000)&&cutOk w m l&&Nat.ble m 1000,.col Eh (l2++cutL w m l))else none
 | _,_=>none
def Tab.empty:Tab->Tab
 | .rows sh _ =>.rows sh []
 | .col kd _ =>.col kd []
 | t=>t
def vQ(P:Program)(el:TypeId)(s x:C)(H:Heap):Option Stp:=
 match xR P el with
 | some z=>if wY P el z then match xaO z x with
  | some (b,w,m)=>match blkAt H b with
   | some k=>match k.tab with
    | some tb=>if k.grown=true then match s with
     | .slr b2 len=>match blkAt H b2 with
      | some k2=>match k2.tab with
       | some B5=>if k2.grown=true/\k2.elem=el then match catT z w m len B5 tb with
         | some (g,tn)=>some (.val g (.c (.slr H.length (len+m))) (newB (setB H b2 none) ⟨[],el,true,some tn⟩))
         | none=>none
        else none
       | none=>none
      | none=>none
     | .sl b2 0 0 0=>match blkAt H b2 with
      | some k2=>if k2.tab.isNone=true/\k2.cells.length=0/\k2.elem=el then match catT z w m 0 tb.empty tb with
        | some (g,tn)=>some (.val g (.c (.slr H.length (0+m))) (newB H ⟨[],el,true,some tn⟩))
        | none=>none
       else none
      | none=>none
     | _=>none
     else none
    | none=>none
   | none=>none
  | none=>none
  else none
 | none=>none
def wH(P:Program)(ts:List TypeId)(args:List V)(H:Heap):Option Stp:=
 match ts,args with
 | [t,u],[.c s,.c (.slr b m)]=>if t=u then match P.underlying t with
   | some (.slice el)=>vQ P el s (.slr b m) H
   | _=>none
  else none
 | [t,u],[.c s,.c (.slv b z o m)]=>if t=u then match P.underlying t with
   | some (.slice el)=>vQ P el s (.slv b z o m) H
   | _=>none
  else none
 | [t,u],[.c (.slr b2 len),.c (.sl b o n _)]=>if t=u/\n=1 then match P.underlying t with
   | some (.slice el)=>match blkAt H b with
    | some k=>kT P el (.slr b2 len) k o H
    | none=>none
   | _=>none
  else none
 | [t,u],[.c s,.c (.sl b o n _)]=>if t=u/\0<n/\n<=1000 then match P.underlying t with
   | some (.slice el)=>if WV P el then match blkAt H b with
     | some k=>match slice k.own o n with
      | some xs=>match s with
       | .nils=>some (.val true (.c (.slg H.length 0 n)) (newB H ⟨xs,el,true,none⟩))
       | .slg b2 0 len=>match blkAt H b2 with
        | some k2=>if k2.tab.isNone=true/\k2.grown=true/\k2.elem=el/\k2.cells.length=len/\len<=1000 then
          some (.val true (.c (.slg H.length 0 (len+n))) (newB (setB H b2 none) ⟨k2.cells++xs,el,true,none⟩))
         else none
        | none=>none
       | _=>none
      | none=>none
     | none=>none
    else kU P el s n b o H
   | _=>none
  else none
 | _,_=>none
def YU(P:Program)(t:TypeId)(k:Blk)(o:Nat):Option (Bool×V):=match k.tab with
 | none=>(partT P t k.cells o).map fun v=>(true,v)
 | some (.col kd l)=>match KM P t,xR P t with
  | some false,some _=>some (inB l o,.c (.int kd (l.getD o 0)))
  | _,_=>none
 | some (.rows sh l)=>(partT P t (l.flatMap (rowC sh)) o).map fun v=>(true,v)
 | some _=>none
def inR(m:Nat)(i:Int):Bool:=decide (0<=i/\i<(m:Int))
def KN(P:Program)(t:TypeId)(k:Blk)(off:Nat)(i:Int)(n f:Nat):Option (Bool×V):=match k.tab with
 | none=>none
 | some (.col kd l)=>if off=0/\n=1 then(partT P t [.int kd (getI l i.toNat)] f).map fun v=>(inR l.length i,v)else none
 | some (.rows sh l)=>if off=0/\n=sh.length then(partT P t (rowC sh (getR l i.toNat)) f).map fun v=>(inR l.length i,v)else none
 | some (.wcol o kd l)=>if n=1 then(partT P t [.int kd (getI l i.toNat)] f).map fun v=>(Nat.beq o off&&inR l.length i,v)else none
 | some (.wrows o sh l)=>if n=sh.length then(partT P t (rowC sh (getR l i.toNat)) f).map fun v=>(Nat.beq o off&&inR l.length i,v)else none
 | some (.imap _ _ _)=>none
 | some (.tok _ _)=>none
def prO(off:Nat)(i:Int)(m f:Nat):Nat:=match off,m,f with
 | 0,1,0=>i.toNat
 | off,m,f=>off+(i.toNat*m+f)
def xdK(sh:List CK)(l:List (List Int))(o:Nat)(xs:List C):Option (List Int):=match yk xs with
 | some (lq,r)=>if lq=sh/\o%sh.length=0 then some r else match splice (rowC sh (getR l (o / sh.length))) (o%sh.length) xs with
  | some cs=>match yk cs with
   | some (nn,r2)=>if nn=sh then some r2 else none
   | none=>none
  | none=>none
 | none=>none
def kZ(k:Blk)(o:Nat)(xs:List C):Option (Bool×Blk):=match k.tab with
 | none=>match splice k.cells o xs with
  | some cs=>some (true,{k with cells:=cs})
  | none=>none
 | some (.col kd l)=>match xs with
  | [.int kd' x]=>if kd'=kd then some (inB l o,{k with tab:=some (.col kd (l.set o x))})else none
  | _=>none
 | some (.rows sh l)=>match xdK sh l o xs with
  | some r=>some (Nat.blt (o / sh.length) l.length,{k with tab:=some (.rows sh (l.set (o / sh.length) r))})
  | none=>none
 | some _=>none
def WW(l:List V):Option (List C):=
 allSome (fun v=>match v with | .c x=>some x|_=>none) l
/-! maps: rows by their first numbers -/
def mapT(P:Program)(t:TypeId):Option (TypeId×Bool×List CK×List Int):=none
def V.one:V->Option V1
 | .c x=>some (.c x)
 | .agg l=>some (.agg l)
 | .tup _=>none
def ja(P:Program)(t:TypeId)(m x:Option V)(ok:Bool)(H:Heap):Option Stp:=none
def jb(P:Program)(t:TypeId)(m x v:Option V)(H:Heap):Option Stp:=none
def jc(P:Program)(ts:List TypeId)(args:List V)(H:Heap):Option Stp:=none
def WX:TypeDesc->Bool
 | .interface _=>true
 | _=>false
def hasPort(P:Program):Bool:=P.types.toList.any fun i=>i.methods.any fun m=>m.name == "CAS"
def evStep(P:Program)(op:Op)(ρ:Operand->Option V)(H:Heap):Option Stp:=
 match op with
 | .move x=>(ρ x).map fun v =>.val true v H
 | .assign x=>(ρ x).map fun v =>.val true v H
 | .pick c a b=>match ρ c with
  | some (.c (.bool t))=>match t with
   | true=>(ρ a).map fun v =>.val true v H
   | false=>(ρ b).map fun v =>.val true v H
  | _=>none
 | .alloc t=>match jH P t with
  | some z=>match z.cells with
   | some cs=>some (.val true (.c (.ptr H.length 0)) (newB H ⟨cs,t,false,none⟩))
   | none=>none
  | none=>none
 | .box t x=>match ρ x with
  | some v=>match v.cells with
   | some cs=>some (.val true (.c (.ptr H.length 0)) (newB H ⟨cs,t,false,none⟩))
   | none=>none
  | none=>none
 | .build t parts=>match jH P t,partsOf ρ parts.toList with
  | some z,some ps=>match z.cells,P.underlying t with
   | some cs,some (.struct fs)=>match allSome (fun f=>(xR P f.type).map fun n=>(f.offset,n)) fs.toList with
    | some places=>(ZO (fun i=>places[i]?) cs ps).map fun r =>.val true (.agg r) H
    | none=>none
   | some cs,some (.array _ e)=>match xR P e with
    | some n=>(ZO (fun i=>some (i*n,n)) cs ps).map fun r =>.val true (.agg r) H
    | none=>none
   | _,_=>none
  | _,_=>none
 | .buildSlice t len parts=>match P.underlying t,partsOf ρ parts.toList with
  | some (.slice e),some ps=>match xR P e,jH P e with
   | some n,some z=>match z.cells with
    | some zs=>if zs.length=n/\0<n/\len*n<=1000 then
      match ZO (fun i=>some (i*n,n)) (rep zs len) ps with
      | some r=>some (.val true (.c (.sl H.length 0 len len)) (newB H ⟨r,e,false,none⟩))
      | none=>none
     else none
    | none=>none
   | _,_=>none
  | _,_=>none
 | .load t a=>match ρ a with
  | some (.c (.ptr b o))=>match blkAt H b with
   | some k=>(YU P t k o).map fun v =>.val v.1 v.2 H
   | none=>none
  | some (.c (.pr b off i n f))=>match blkAt H b with
   | some k=>(KN P t k off i n f).map fun v =>.val v.1 v.2 H
   | none=>none
  | _=>none
 | .store t a x=>match ρ a,ρ x with
  | some (.c (.ptr b o)),some v=>match blkAt H b,v.cells,xR P t with
   | some k,some xs,some n=>if xs.length=n then
     match kZ k o xs with
     | some (g,k')=>some (.val g .undef (setB H b (some k')))
     | none=>none
    else none
   | _,_,_=>none
  | some (.c (.pr b off i m f)),some v=>match blkAt H b,v.cells,xR P t with
   | some k,some xs,some n=>if xs.length=n then
     match kZ k (prO off i m f) xs with
     | some (g,k')=>some (.val g .undef (setB H b (some k')))
     | none=>none
    else none
   | _,_,_=>none
  | _,_=>none
 | .nilCheck x=>match ρ x with
  | some (.c .nilp)=>some (.val false (.c .nilp) H)
  | some (.c .nili)=>some (.val false (.c .nili) H)
  | some (.c .nilf)=>some (.val false (.c .nilf) H)
  | some (.c (.meth s c))=>match c with
   | .port=>if portMeth s/\hasPort P=true then some (.val true (.c (.meth s .port)) H)else none
   | .ifc t d=>match ZP P t s with
    | some _=>some (.val true (.c (.meth s (.ifc t d))) H)
    | none=>none
   | _=>none
  | some v=>some (.val true v H)
  | none=>none
 | .binOp op t x y _=>match ρ x,ρ y with
  | some (.c a),some (.c b)=>(xe7 P op t x y a b).map fun r =>.val r.1 (.c r.2) H
  | some (.agg l),some (.agg m)=>(xaN P op t l m).map fun r =>.val true (.c r) H
  | _,_=>none
 | .unOp op _ x=>match ρ x with
  | some (.c a)=>(evUn op a).map fun r =>.val true (.c r) H
  | _=>none
 | .convert src dst x=>match ρ x,P.underlying src,P.underlying dst with
  | some (.c (.int _ n)),some _,some (.int k)=>some (.val true (.c (.int k (k.wrap n))) H)
  | _,_,_=>none
 | .makeFunc (.func f) first captured=>if first.size=0 then
   match allSome ρ captured.toList with
   | some vs=>(WW vs).map fun cs =>.val true (.c (.fn f cs)) H
   | none=>none
  else none
 | .makeFunc (.method name) first captured=>if captured.size=0 then
   match first.toList with
   | [x]=>match ρ x with
    | some (.c c)=>some (.val true (.c (.meth name c)) H)
    | _=>none
   | _=>none
  else none
 | .slice t x lo hi none=>match P.underlying t,ρ x,optO ρ lo,optO ρ hi with
  | some (.array n e),some (.c (.ptr b o)),some l,some h=>match xR P e,xE h n n with
   | some z,some (g1,h')=>match xE l 0 h' with
    | some (g2,l')=>some (.val (g1&&g2) (.c (.sl b (if n=l' then o else o+l'*z) (h'-l') (n-l'))) H)
    | none=>none
   | _,_=>none
  | some (.slice e),some (.c (.sl b o len cap)),some l,some h=>match xR P e,xE h len cap with
   | some z,some (g1,h')=>match xE l 0 h' with
    | some (g2,l')=>some (.val (g1&&g2) (.c (.sl b (if cap=l' then o else o+l'*z) (h'-l') (cap-l'))) H)
    | none=>none
   | _,_=>none
  | some (.slice e),some (.c (.slg b 0 len)),some l,some h=>match xE h len len with
   | some (g1,h')=>match xE l 0 h' with
    | some (g2,l')=>if xR P e=some 1 then some (.val (g1&&g2) (.c (.slg b l' (h'-l'))) H)else none
    | none=>none
   | none=>none
  | some (.slice e),some (.c (.slr b len)),some l,some h=>match xR P e,xE h len len with
   | some z,some (g1,h')=>match xE l 0 h' with
    | some (g2,l')=>some (.val (g1&&g2) (.c (.slv b z l' (h'-l'))) H)
    | none=>none
   | _,_=>none
  | some (.slice e),some (.c (.slv b z o n)),some l,some h=>match xE h n n with
   | some (g1,h')=>match xE l 0 h' with
    | some (g2,l')=>if xR P e=some z then some (.val (g1&&g2&&Nat.blt l' n) (.c (.slv b z (o+l') (h'-l'))) H)else none
    | none=>none
   | none=>none
  | some (.slice e),some (.c s),some l,some h=>if xR P e=some 1 then(WT s l h none).map fun r =>.val r.1 (.c r.2) H else none
  | _,_,_,_=>none
 | .fieldAddr s x f=>match P.underlying s,ρ x with
  | some (.struct fs),some (.c (.ptr b o))=>match fs[f]? with
   | some fd=>match xR P fd.type with
    | some n=>if n=0 then none else some (.val true (.c (.ptr b (o+fd.offset))) H)
    | none=>none
   | none=>none
  | some (.struct fs),some (.c (.pr b off i m o))=>match fs[f]? with
   | some fd=>match xR P fd.type with
    | some n=>if n=0 then none else some (.val true (.c (.pr b off i m (o+fd.offset))) H)
    | none=>none
   | none=>none
  | _,_=>none
 | .field t x f=>match P.underlying t,ρ x with
  | some (.struct fs),some (.agg cs)=>match fs[f]? with
   | some fd=>(partT P fd.type cs fd.offset).map fun v =>.val true v H
   | none=>none
  | _,_=>none
 | .indexAddr t x ix=>match P.underlying t,ρ x,ρ ix with
  | some (.array len e),some (.c (.ptr b o)),some (.c (.int _ i))=>
   (xR P e).map fun n =>.val (decide (0<=i/\i<(len:Int))) (.c (.ptr b (o+i.toNat*n))) H
  | some (.slice e),some (.c (.sl b o len _)),some (.c (.int _ i))=>
   (xR P e).map fun n =>.val (decide (0<=i/\i<(len:Int))) (.c (.ptr b (o+i.toNat*n))) H
  | some (.slice e),some (.c (.slg b o len)),some (.c (.int _ i))=>
   if xR P e=some 1 then some (.val (decide (0<=i/\i<(len:Int))) (.c (.ptr b (o+i.toNat))) H)else none
  | some (.slice e),some (.c (.slw b o _ len _)),some (.c (.int _ i))=>
   (xR P e).map fun n =>.val (decide (0<=i/\i<(len:Int))) (.c (.pr b o i n 0)) H
  | some (.slice e),some (.c (.slr b len)),some (.c (.int _ i))=>
   (xR P e).map fun n =>.val (decide (0<=i/\i<(len:Int))) (.c (.pr b 0 i n 0)) H
  | some (.slice e),some (.c (.slv b z o len)),some (.c (.int _ i))=>
   if xR P e=some z then some (.val (decide (0<=i/\i<(len:Int))) (.c (.pr b 0 ((o:Int)+i) z 0)) H)else none
  | some (.slice e),some (.c (.slx b o d _ len _)),some (.c (.int _ i))=>
   if xR P e=some 1 then some (.val (decide (0<=i/\i<(len:Int))) (.c (.pr b o ((d:Int)+i) 1 0)) H)else none
  | some (.array len e),some (.c (.gp b o)),some (.c (.int _ i))=>
   (xR P e).map fun n =>.val (decide (0<=i/\i<(len:Int))) (.c (.gp b (o+i.toNat*n))) H
  | _,_,_=>none
 | .index t x ix=>match P.underlying t,ρ x,ρ ix with
  | some (.array len e),some (.agg cs),some (.c (.int _ i))=>match xR P e with
   | some n=>(partI P e cs n len i).map fun v =>.val (decide (0<=i/\i<(len:Int))) v H
   | none=>none
  | some .string,some (.c (.str z)),some (.c (.int _ i))=>some (.val (decide (0<=i/\i<(z.size:Int))) (.c (.int .u8 (z.data.getD i.toNat 0).toNat)) H)
  | _,_,_=>none
 | .extract t ix=>match ρ t with
  | some (.tup l)=>(l[ix]?).map fun v =>.val true v.up H
  | _=>none
 | .call c=>match allSome ρ c.args.toList with
  | some args=>match c.callee with
   | .builtin b=>match b with
    | .append=>wH P c.argTypes.toList args H
    | .delete=>jc P c.argTypes.toList args H
    | b=>yv P b c.argTypes.toList args H
   | .invoke r name=>match ρ r with
    | some (.c .port)=>(popOf name args).map .port
    | some (.c (.ifc t c))=>(ZP P t name).map fun f =>.call f (.c c::args)
    | _=>none
   | .value f=>match ρ f with
    | some (.c (.fn f caps))=>some (.call f (args++caps.map .c))
    | some (.c (.meth name .port))=>(popOf name args).map .port
    | _=>none
  | none=>none
 | .makeSlice t l c=>match P.underlying t,ρ l,ρ c with
  | some (.slice el),some (.c (.int _ n)),some (.c (.int _ n'))=>match jH P el with
   | some (.c (.int kd i))=>if wY P el 1=true/\i=0 then
     some (.val (decide (n'=n/\0<=n/\n<=1000)) (.c (.slr H.length n.toNat)) (newB H ⟨[],el,true,some (.col kd (List.replicate n.toNat 0))⟩))
    else none
   | _=>none
  | _,_,_=>none
 | .makeMap t none=>match mapT P t with
  | some (_,g,sh,_)=>some (.val true (.c (.mp H.length)) (newB H ⟨[],t,false,some (.imap g sh [])⟩))
  | none=>none
 | .lookup t m x ok=>ja P t (ρ m) (ρ x) ok H
 | .mapUpdate t m x v=>jb P t (ρ m) (ρ x) (ρ v) H
 | .makeInterface t x=>match ρ x,P.underlying t with
  | some (.c c),some d=>if WX d then none else some (.val true (.c (.ifc t c)) H)
  | _,_=>none
 | .sliceToArrayPointer t x=>match P.underlying t,ρ x with
  | some (.array n _),some (.c (.slr b len))=>if 0<len then some (.val (Nat.ble n len) (.c (.ptr b 0)) H)else none
  | _,_=>none
 | .slice t x lo hi (some mx)=>(WU P t (ρ x) (optO ρ lo) (optO ρ hi) (ρ mx)).map fun r =>.val r.1 (.c r.2) H
 | _=>none
/-! ### numbers of blocks in values; renaming -/
mutual
def idsC:C->List Nat
 | .ptr b _ =>[b]
 | .sl b _ _ _ =>[b]
 | .slg b _ _ =>[b]
 | .pr b _ _ _ _ =>[b]
 | .slw b _ _ _ _ =>[b]
 | .slr b _ =>[b]
 | .slv b _ _ _ =>[b]
 | .slx b _ _ _ _ _ =>[b]
 | .mp b =>[b]
 | .fn _ caps=>vf caps
 | .meth _ c=>idsC c
 | .ifc _ c=>idsC c
 | _ =>[]
def vf:List C->List Nat
 | [] =>[]
 | c::l=>idsC c++vf l
end
def xe9:V1->List Nat
 | .c x=>idsC x
 | .agg l=>vf l
def idsV:V->List Nat
 | .c x=>idsC x
 | .agg l=>vf l
 | .tup l=>l.flatMap xe9
def idx(l:List Nat)(b:Nat):Option Nat:=
 match l with
 | []=>none
 | x::l=>if x=b then some 0 else(idx l b).map (· + 1)
mutual
def renC(r:Nat->Option Nat):C->Option C
 | .ptr b o=>(r b).map fun b' =>.ptr b' o
 | .sl b o n c=>(r b).map fun b' =>.sl b' o n c
 | .slg b o n=>(r b).map fun b' =>.slg b' o n
 | .pr b o i n f=>(r b).map fun b' =>.pr b' o i n f
 | .slw b o z n c=>(r b).map fun b' =>.slw b' o z n c
 | .slr b n=>(r b).map fun b' =>.slr b' n
 | .slv b z o n=>(r b).map fun b' =>.slv b' z o n
 | .slx b o d a n c=>(r b).map fun b' =>.slx b' o d a n c
 | .mp b=>(r b).map fun b' =>.mp b'
 | .fn f caps=>(wI r caps).map (.fn f)
 | .meth s c=>(renC r c).map (.meth s)
 | .ifc t c=>(renC r c).map (.ifc t)
 | .bool b=>some (.bool b)
 | .int k n=>some (.int k n)
 | .nilp=>some .nilp
 | .nils=>some .nils
 | .nilf=>some .nilf
 | .nili=>some .nili
 | .nilm=>some .nilm
 | .port=>some .port
 | .str z=>some (.str z)
 | .gp g o=>some (.gp g o)
def wI(r:Nat->Option Nat):List C->Option (List C)
 | []=>some []
 | c::l=>match renC r c with
  | some c'=>match wI r l with
   | some l'=>some (c'::l')
   | none=>none
  | none=>none
end
def YV(r:Nat->Option Nat):V1->Option V1
 | .c x=>(renC r x).map .c
 | .agg l=>(wI r l).map .agg
def renV(r:Nat->Option Nat):V->Option V
 | .c x=>(renC r x).map .c
 | .agg l=>(wI r l).map .agg
 | .tup l=>(allSome (YV r) l).map .tup
def renB(r:Nat->Option Nat):Option Blk->Option (Option Blk)
 | none=>some none
 | some b=>(wI r b.cells).map fun cs=>some {b with cells:=cs}
def wv(H:Heap):Nat->List Nat->List Nat->Option (List Nat)
 | _,[],acc=>some acc
 | 0,_::_,_=>none
 | n+1,b::todo,acc=>if acc.contains b then wv H n todo acc else
  match blkAt H b with
  | some k=>wv H n (vf k.cells++todo) (acc ++ [b])
  | none=>none
def xaP(H:Heap)(m:Nat)(todo:List Nat):Option (List Nat):=match Nat.ble m H.length with
 | true=>match wv H 1000 (((List.range m).flatMap fun b=>match blkAt H b with|some k=>vf k.cells|none =>[])++todo) ((List.range m).filter fun b=>(blkAt H b).isSome) with
  | some l=>some (List.range m++l.filter fun b=>Nat.ble m b)
  | none=>none
 | false=>none
structure Sum where
 α:Type
 t:T α
 f:α->Option (V×Heap)
 b : ∀β:Type,(α->T β)->T β
 hb : ∀β k,b β k=t.bind k
abbrev mkS(α:Type)(t:T α)(f:α->Option (V×Heap)):Sum:=⟨α,t,f,fun _ k=>t.bind k,fun _ _=>rfl⟩
abbrev xK:=FuncId->Option (List V->Heap->Option Sum)
def vF(H:Heap):List Nat->List (Option Blk)->Heap
 | b::l,x::xs=>vF (setB H b x) l xs
 | _,_=>H
def vD(l:List Nat)(top i:Nat):Nat:=if i<l.length then l.getD i 0 else top+(i-l.length)
def wJ(Γ:xK)(f:FuncId)(args:List V)(H:Heap):Option Sum:=
 match Γ f with
 | none=>none
 | some m=>match wv H 1000 (args.flatMap idsV) [] with
  | none=>none
  | some l=>match allSome (renV (idx l)) args,allSome (fun b=>renB (idx l) (blkAt H b)) l with
   | some cz,some H0=>match m cz H0 with
    | none=>none
    | some S=>some ⟨S.α,S.t,fun a=>match S.f a with
      | none=>none
      | some r=>match renV (fun i=>some (vD l H.length i)) r.1,allSome (renB (fun i=>some (vD l H.length i))) r.2 with
       | some v,some H1=>if l.length<=H1.length then some (v,vF H l H1++H1.drop l.length)else none
       | _,_=>none,S.b,S.hb⟩
   | _,_=>none
def jF(Γ:xK)(f:FuncId)(args:List V):Option Sum:=
 match args.flatMap idsV with
 | _::_=>none
 | []=>match Γ f with
  | none=>none
  | some m=>match m args [] with
   | none=>none
   | some S=>some ⟨S.α,S.t,fun a=>match S.f a with
     | none=>none
     | some r=>match idsV r.1,r.2 with
      | [],[]=>some r
      | _,_=>none,S.b,S.hb⟩
def wh(Γ:xK)(A:List Nat)(f:FuncId)(args:List V)(H:Heap):Option Sum:=
 match Γ f with
 | none=>none
 | some m=>match wv H 1000 (args.flatMap idsV) [] with
  | none=>none
  | some l=>match A.all fun b=> !(l.contains b) with
   | false=>none
   | true=>match allSome (renV (idx l)) args,allSome (fun b=>renB (idx l) (blkAt H b)) l with
    | some cz,some H0=>match m cz H0 with
     | none=>none
     | some S=>some ⟨S.α,S.t,fun a=>match S.f a with
       | none=>none
       | some r=>match renV (fun i=>l[i]?) r.1,allSome (renB (fun i=>l[i]?)) r.2 with
        | some v,some H1=>if H1.length=l.length then some (v,vF H l H1)else none
        | _,_=>none,S.b,S.hb⟩
    | _,_=>none
inductive PM where
 | free
 | pure
 | avoid (A:List Nat)
 | keep (A:List Nat)
 | fresh
 | part (A:List Nat)
def KO:Heap->Heap->Bool
 | [],_=>true
 | some _::H,some _::H'=>KO H H'
 | none::H,none::H'=>KO H H'
 | _,_=>false
def xhx:Option Blk->Option Blk->Bool
 | some _,none=>false
 | _,_=>true
def okV(pu:PM)(H H':Heap):Bool:=match pu with
 | .fresh=>KO H H'
 | .part A=>A.all fun a=>xhx (blkAt H a) (blkAt H' a)
 | _=>true
def Wz(A:List Nat)(H:Heap)(args:List V):Bool:=match wv H 1000 (args.flatMap idsV) [] with
 | some l=>A.all fun b=> !(l.contains b)&&decide (b<H.length)
 | none=>false
def xfa:C->C->Bool
 | .bool a,.bool b=>a==b
 | .int k a,.int j b=>decide (k=j)&&decide (a=b)
 | .nilp,.nilp=>true
 | .ptr a b,.ptr c d=>Nat.beq a c&&Nat.beq b d
 | .nils,.nils=>true
 | .sl a b c d,.sl a' b' c' d'=>Nat.beq a a'&&Nat.beq b b'&&Nat.beq c c'&&Nat.beq d d'
 | .slg a b c,.slg a' b' c'=>Nat.beq a a'&&Nat.beq b b'&&Nat.beq c c'
 | .slr a b,.slr a' b'=>Nat.beq a a'&&Nat.beq b b'
 | .nilf,.nilf=>true
 | .nili,.nili=>true
 | .nilm,.nilm=>true
 | .port,.port=>true
 | .mp a,.mp b=>Nat.beq a b
 | _,_=>false
def Yo:List C->List C->Bool
 | [],[]=>true
 | x::l,y::m=>xfa x y&&Yo l m
 | _,_=>false
def qK:List Int->List Int->Bool
 | [],[]=>true
 | x::l,y::m=>decide (x=y)&&qK l m
 | _,_=>false
def WY:List (List Int)->List (List Int)->Bool
 | [],[]=>true
 | x::l,y::m=>qK x y&&WY l m
 | _,_=>false
def WA:Tab->Tab->Bool
 | .col k l,.col j m=>decide (k=j)&&qK l m
 | .rows k l,.rows j m=>decide (k=j)&&WY l m
 | .wcol o k l,.wcol p j m=>Nat.beq o p&&decide (k=j)&&qK l m
 | .wrows o k l,.wrows p j m=>Nat.beq o p&&decide (k=j)&&WY l m
 | .tok a b,.tok c d=>Nat.beq a c&&Nat.beq b d
 | _,_=>false
def Xw:Option Tab->Option Tab->Bool
 | none,none=>true
 | some x,some y=>WA x y
 | _,_=>false
def Xx:Option Blk->Option Blk->Bool
 | some x,some y=>Yo x.cells y.cells&&Nat.beq x.elem y.elem&&(x.grown==y.grown)&&Xw x.tab y.tab
 | none,none=>true
 | _,_=>false
def kA(A:List Nat)(H H':Heap):Bool:=A.all fun b=>Xx (blkAt H b) (blkAt H' b)
def vz{β:Type}(Γ:xK)(f:FuncId)(args:List V)(o:Oper)(st:St)(k:St->T β):T β:=
 match wJ Γ f args st.heap with
 | some S=>S.b β fun a=>match S.f a with
  | some r=>k ⟨putT st.tmps o.dst r.1,r.2⟩
  | none =>.fail
 | none =>.fail
def yQ{β:Type}(P:Program)(Γ:xK)(pu:PM)(o:Oper)(st:St)(k:St->T β):T β:=
 match evStep P o.op (xW st.tmps) st.heap with
 | some (.val g v H)=>match okV pu st.heap H with
  | true=>cond g (k ⟨putT st.tmps o.dst v,H⟩) .fail
  | false =>.fail
 | some (.port p) =>.op p fun x=>k ⟨putT st.tmps o.dst (ansV p x),st.heap⟩
 | some (.call f args)=>match pu with
  | .free=>vz Γ f args o st k
  | .avoid A=>match Wz A st.heap args with
   | true=>vz Γ f args o st k
   | false=>vz Γ f args o st fun ac=>cond (kA A st.heap ac.heap) (k ac) .fail
  | .keep A=>match wh Γ A f args st.heap with
   | some S=>S.b β fun a=>match S.f a with
    | some r=>k ⟨putT st.tmps o.dst r.1,r.2⟩
    | none =>.fail
   | none =>.fail
  | .pure=>match jF Γ f args with
   | some S=>S.b β fun a=>match S.f a with
    | some r=>k ⟨putT st.tmps o.dst r.1,st.heap⟩
    | none =>.fail
   | none =>.fail
  | .fresh =>.fail
  | .part _ =>.fail
 | none =>.fail
def WZ{β:Type}(o:Oper)(st:St)(k:St->T β):T β:=k ⟨putT st.tmps o.dst .undef,st.heap⟩
def yl{β:Type}(P:Program)(Γ:xK)(ops:Array Oper)(pu:PM)(o:Oper)(st:St)(k:St->T β):T β:=
 match o.guard with
 | none=>yQ P Γ pu o st k
 | some (j,want)=>match(ops[j]?).bind (·.dst) with
  | none =>.fail
  | some s=>match getT st.tmps s with
   | some (.c (.bool b))=>cond b
     (match want with
      | true=>yQ P Γ pu o ⟨setT st.tmps s (.c (.bool true)),st.heap⟩ k
      | false=>WZ o ⟨setT st.tmps s (.c (.bool true)),st.heap⟩ k)
     (match want with
      | false=>yQ P Γ pu o ⟨setT st.tmps s (.c (.bool false)),st.heap⟩ k
      | true=>WZ o ⟨setT st.tmps s (.c (.bool false)),st.heap⟩ k)
   | some (.tup [])=>WZ o st k
   | _ =>.fail
def KP{β:Type}(P:Program)(Γ:xK)(ops:Array Oper):List Oper->St->(St->T β)->T β
 | [],st,k=>k st
 | o::l,st,k=>yl P Γ ops .free o st fun ac=>KP P Γ ops l ac k
/-! ### regions that draw their order -/
def xj:Op->Nat
 | .move _ | .assign _ | .pick .. | .build .. | .nilCheck _ | .binOp .. | .unOp .. | .convert .. | .makeFunc .. | .makeInterface .. | .sliceToArrayPointer .. | .slice .. | .fieldAddr .. | .field .. | .indexAddr .. | .index .. | .extract .. =>0
 | .load .. =>1
 | .store _ (.tmp _) _=>5
 | .lookup _ (.tmp _) _ _=>7
 | .alloc _ | .box .. | .buildSlice .. =>2
 | .call {callee :=.builtin b,..}=>match b with
  | .len | .min | .max=>0
  | .append=>6
  | _=>4
 | .call _=>3
 | _=>4
def Zp(a b:Nat):Bool:=a==0||b==0||(a==1&&b<=3)||(b==1&&a<=3)||(a==2&&b==3)||(a==3&&b==2)||(a==1&&b==5)||(a==1&&b==6)||(a==6&&b==1)||(a==7&&(b==1||b==2||b==7))||(b==7&&(a==1||a==2))
def Xd(ops:Array Oper)(a b:Oper):Bool:=Zp (xj a.op) (xj b.op)&&a.apart ops b
def vp(b:Array Nat)(i j:Nat):Bool:=(b.getD j 0).testBit i||(b.getD i 0).testBit j
def wK(ops:Array Oper):Nat->Nat->Option (List Nat)
 | 0,_=>none
 | n+1,q=>match ops.toList.filter fun o=>o.dst==some q with
  | []=>some [q]
  | [o]=>match o.op with
   | .fieldAddr _ (.tmp x) _=>(wK ops n x).map fun l=>q::l
   | .indexAddr _ (.tmp x) _=>(wK ops n x).map fun l=>q::l
   | .move (.tmp x)=>(wK ops n x).map fun l=>q::l
   | .nilCheck (.tmp x)=>(wK ops n x).map fun l=>q::l
   | _=>none
  | _=>none
def yp(ops:Array Oper):Op->Option Nat
 | .load _ (.tmp q)=>if(wK ops 6 q).isSome then some q else none
 | .store _ (.tmp q) _=>if(wK ops 6 q).isSome then some q else none
 | _=>none
def besides(ops:Array Oper)(b:Array Nat)(j:Nat):List Nat:=ops.toList.zipIdx.filterMap fun(x,i)=>if i != j && !vp b i j&&xj x.op==1 then yp ops x.op else none
def wL(ops:Array Oper)(b:Array Nat)(D:List Nat)(A:List (Nat×Nat))(j:Nat):PM:=
 match ops[j]? with
 | none =>.free
 | some y=>if xj y.op==3 then
   (if ops.toList.zipIdx.any fun(x,i)=>i != j && !vp b i j&&(xj x.op==1&&(yp ops x.op).isNone)then .pure else
    if ops.toList.zipIdx.any fun(x,i)=>i != j && !vp b i j&&(xj x.op==2 && !(D.contains i))then .keep ((A.filter fun p=>(besides ops b j).contains p.1).map (·.2)) else
    match besides ops b j with
    | [] =>.free
    | q::l =>.avoid ((A.filter fun p=>(q::l).contains p.1).map (·.2)))
  else if xj y.op==6 then(if ops.toList.zipIdx.any fun(x,i)=>i != j && !vp b i j&&(xj x.op==1&&(yp ops x.op).isNone)then .fresh else
    match besides ops b j with
    | [] =>.free
    | q::l =>.part ((A.filter fun p=>(q::l).contains p.1).map (·.2)))
  else .free
def ptrB:Option V->Option Nat
 | some (.c (.ptr b _))=>some b
 | some (.c (.pr b _ _ _ _))=>some b
 | _=>none
def blkB:Option V->Option Nat
 | some (.c (.ptr b _))=>some b
 | some (.c (.pr b _ _ _ _))=>some b
 | some (.c (.sl b _ _ _))=>some b
 | some (.c (.slg b _ _))=>some b
 | some (.c (.slw b _ _ _ _))=>some b
 | some (.c (.slr b _))=>some b
 | some (.c (.slv b _ _ _))=>some b
 | some (.c (.slx b _ _ _ _ _))=>some b
 | _=>none
def kB(ops:Array Oper)(tmps:Tm):List (Nat×Nat):=ops.toList.flatMap fun o=>match yp ops o.op with
 | some q=>match wK ops 6 q with
  | some l=>l.filterMap fun c=>match blkB (getT tmps c) with
   | some b=>some (q,b)
   | none=>none
  | none =>[]
 | none =>[]
def xhy(a b:Nat):Nat:=a ^^^ (a &&& b)
def qL(ops:Array Oper)(b:Array Nat):Bool:=
 let l:=ops.toList.zipIdx
 (ops.toList.zipIdx.all fun(o,i)=>o.after.all fun e=> !(Region.binds .any e)||e.on<i) &&
 l.all fun(y,j)=>l.all fun(x,i)=> !(i<j)||(b.getD j 0).testBit i||Xd ops x y
def qf(ops:Array Oper)(b:Array Nat)(A:List (Nat×Nat)):Bool:=
 let l:=ops.toList.zipIdx
 l.all fun(y,j)=> !(xj y.op==5)||l.all fun(x,i)=> !(i<j)||(b.getD j 0).testBit i || !(xj x.op==1)||match yp ops x.op,yp ops y.op with
  | some q,some q'=>A.all fun p=>A.all fun p'=> !(p.1==q) || !(p'.1==q')||p.2 != p'.2
  | some _,none=>true
  | none,_=>false
def Xy(o:Op)(tmps:Tm):Option Nat:=match o with
 | .store _ (.tmp q) _=>ptrB (getT tmps q)
 | _=>none
def offD(ops:Array Oper)(b:Array Nat)(A:List (Nat×Nat))(j:Nat)(o:Oper)(tmps:Tm):Bool:=
 !(xj o.op==5)||(yp ops o.op).isSome||match Xy o.op tmps with
  | none=>true
  | some c=>A.all fun p=> !((besides ops b j).contains p.1)||p.2 != c
def yM{β:Type}(P:Program)(Γ:xK)(ops:Array Oper)(b:Array Nat)(D:List Nat)(A:List (Nat×Nat)):List Nat->St->(St->T β)->T β
 | [],st,k=>k st
 | i::l,st,k=>match ops[i]? with
  | some o=>match offD ops b A i o st.tmps with
   | true=>yl P Γ ops (wL ops b D A i) o st fun ac=>yM P Γ ops b D A l ac k
   | false =>.fail
  | none =>.fail
def bareNew(P:Program)(o:Oper):Bool:=match o.op with
 | .alloc t=>match o.guard,o.dst with
  | none,some _=>(o.after.all fun e=> !(Region.binds .any e))&&(match jH P t with
   | some z=>z.cells.isSome
   | none=>false)
  | _,_=>false
 | _=>false
def newOp(P:Program)(o:Oper):Bool:=match o.guard,o.dst with
 | none,some _=>match o.op with
  | .alloc t=>match jH P t with
   | some z=>z.cells.isSome
   | none=>false
  | .buildSlice .. =>true
  | _=>false
 | _,_=>false
def lates(P:Program)(ops:Array Oper)(b:Array Nat):List Nat:=(List.range ops.size).filter fun j=>match ops[j]? with
 | some o=>bareNew P o&&ops.toList.zipIdx.any fun(x,i)=>xj x.op==3 && !vp b i j
 | none=>false
def lastOf(ops:Array Oper)(b:Array Nat)(j:Nat):Nat:=ops.toList.zipIdx.foldl (fun m (x,i)=>if xj x.op==3 && !vp b i j then max m i else m) j
def KQ(ops:Array Oper)(b:Array Nat)(D:List Nat):List Nat:=(List.range ops.size).flatMap fun i=>(if D.contains i then []else [i])++D.filter fun d=>lastOf ops b d==i
def fitB(ops:Array Oper)(b:Array Nat)(D:List Nat)(p q:Nat):Bool:=p != q && !((b.getD p 0).testBit q)&&((b.getD q 0).testBit p||match ops[p]?,ops[q]? with
 | some x,some y=>
  (D.contains q&&x.apart ops y&&(List.range ops.size).all fun i=> !((b.getD i 0).testBit q)||(b.getD i 0).testBit p) ||
  (match D.contains p||D.contains q with
   | true=>xj x.op != 3&&xj y.op != 3&&Xd ops x y
   | false=>decide (p<q))
 | _,_=>false)
def Xz(f:Nat->Nat->Bool):List Nat->Bool
 | []=>true
 | x::l=>l.all (f x)&&Xz f l
def xaQ(P:Program)(ops:Array Oper)(b:Array Nat)(D L:List Nat):Bool:=
 L.all (fun i=>decide (i<ops.size))&&(List.range ops.size).all (fun i=>L.contains i)&&Xz (fitB ops b D) L&&D.all fun d=>(match ops[d]? with
  | some o=>newOp P o&&ops.toList.zipIdx.all fun(x,i)=>i==d||x.dst != o.dst
  | none=>false)&&D.all fun c=> !((b.getD d 0).testBit c)
def vB(ops:Array Oper)(b:Array Nat)(D:List Nat):Bool:=
 let l:=ops.toList.zipIdx
 (ops.toList.zipIdx.all fun(o,i)=>o.after.all fun e=> !(Region.binds .any e)||e.on<i) &&
 l.all fun(y,j)=>l.all fun(x,i)=> !(i<j)||D.contains i||D.contains j||(b.getD j 0).testBit i||Xd ops x y
def qM(P:Program)(ops:Array Oper)(b:Array Nat):List Nat:=(List.range ops.size).filter fun j=>match ops[j]? with
 | some o=>newOp P o&&ops.toList.zipIdx.any fun(x,i)=>i != j&&(xj x.op==2||xj x.op==3||xj x.op==6) && !vp b i j
 | none=>false
def Va(ops:Array Oper)(b:Array Nat)(D:List Nat):List Nat:=
 let need:=fun d=>(List.range ops.size).find? fun i=>(b.getD i 0).testBit d
 (List.range ops.size).flatMap (fun i=>(D.filter fun d=>need d==some i)++if D.contains i then []else [i])++D.filter fun d=>(need d).isNone
def vG(ops:Array Oper)(D:List Nat)(l:Tm):Tm:=⟨l.n,wT (xhy (1 <<< 512-1) (D.foldl (fun m d=>match(ops[d]?).bind (·.dst) with|some t=>m ||| (1 <<< t)|none=>m) 0)) 9 0 l.s⟩
/-! ### which slots are looked at later -/
def bitO(m:Nat):Operand->Nat
 | .tmp t=>m ||| (1 <<< t)
 | _=>m
def readsOf(ops:Array Oper)(o:Oper):Nat:=
 let m:=o.op.operands.foldl bitO 0
 match o.guard with
 | some (j,_)=>match(ops[j]?).bind (·.dst) with
  | some s=>m ||| (1 <<< s)
  | none=>m
 | none=>m
def minus(a b:Nat):Nat:=a ^^^ (a &&& b)
def ueOps(ops:Array Oper):List Oper->Nat×Nat
 | []=>(0,0)
 | o::l=>
  let (u,d):=ueOps ops l
  let w:=match o.dst with|some t=>1 <<< t|none=>0
  (readsOf ops o ||| minus u w,w ||| d)
def full:Nat:=1 <<< 400-1
def ue:Code->Nat×Nat
 | .region _ ops _=>ueOps ops ops.toList
 | .seq a b=>
  let (u,d):=ue a
  let (u',d'):=ue b
  (u ||| minus u' d,d ||| d')
 | .cond c a b=>
  let (u,d):=ue a
  let (u',d'):=ue b
  (bitO (u ||| u') c,d &&& d')
 | .block _ c=>((ue c).1,0)
 | .scope c=>((ue c).1,0)
 | .loop c=>((ue c).1,0)
 | .exit _=>(0,full)
 | .ret=>(0,full)
 | _=>(0,0)
/-! ### code -/
inductive Ex where
 | normal
 | exit (id:Nat)
 | ret
def refine(tmps:Tm) (c:Operand) (b:Bool):Tm:=
 match c with
 | .tmp t=>setT tmps t (.c (.bool b))
 | _=>tmps
def idsS:Sl->List Nat
 | .tip =>[]
 | .leaf v=>idsV v
 | .node l r=>idsS l++idsS r
def qN(l:List Nat):Nat->Heap->Heap
 | _,[] =>[]
 | i,x::H=>(if l.contains i then x else none)::qN l (i+1) H
def XA:List Nat->Nat
 | []=>0
 | b::l=>max (b+1) (XA l)
def norm(m0 m:Nat)(st:St):Option St:=
 let tmps:=keepT m st.tmps
 match wv st.heap 1000 (((List.range m0).filter fun b=>(blkAt st.heap b).isSome)++idsS tmps.s) [] with
 | some l=>some ⟨tmps,(qN l 0 st.heap).take (max m0 (XA l))⟩
 | none=>none
def vH{β:Type}:Nat->(St->(St->T β)->T β)->St->T β
 | 0,_,_ =>.fail
 | n+1,F,st=>F st fun ac=>vH n F ac
inductive Ek where
 | col (k:IntKind)
 | rows (sh:List CK)
def Ek.tab:Ek->Tab
 | .col k =>.col k []
 | .rows sh =>.rows sh []
structure Cv where
 slot:Nat
 el:TypeId
 ek:Ek
structure Fu where
 n:Nat
 cv:List Cv
 re:Bool
instance:Coe Nat Fu:=⟨fun n=>⟨n,[],false⟩⟩
instance(k:Nat):OfNat Fu k:=⟨⟨k,[],false⟩⟩
def renS(r:Nat->Option Nat):Sl->Option Sl
 | .tip=>some .tip
 | .leaf v=>match renV r v with
  | some u=>some (.leaf u)
  | none=>none
 | .node a b=>match renS r a,renS r b with
  | some x,some y=>some (.node x y)
  | _,_=>none
def renum(m0:Nat)(st:St):Option St:=match xaP st.heap m0 (idsS st.tmps.s) with
 | some l=>if l.take m0==List.range m0 then match renS (idx l) st.tmps.s,allSome (fun b=>renB (idx l) (blkAt st.heap b)) l with
   | some s,some H=>some ⟨⟨st.tmps.n,s⟩,H⟩
   | _,_=>none
  else none
 | none=>none
def conv1(c:Cv)(st:St):St:=match getT st.tmps c.slot with
 | some (.c .nils)=>⟨setT st.tmps c.slot (.c (.slr st.heap.length 0)),newB st.heap ⟨[],c.el,true,some c.ek.tab⟩⟩
 | _=>st
def convs:List Cv->St->St
 | [],st=>st
 | c::l,st=>convs l (conv1 c st)
def normC(n:Fu)(m0 m:Nat)(st:St):Option St:=match norm m0 m st with
 | some st1=>match n.re with
  | true=>renum m0 (convs n.cv st1)
  | false=>some (convs n.cv st1)
 | none=>none
def xhz:Code->Nat
 | .seq _ b=>xhz b+1
 | _=>0
def cutS(n:Fu)(b:Code):Bool:=match n.cv with
 | []=>false
 | l=>l.any fun c=>Nat.beq c.slot (1000000+xhz b)
def late2(n:Fu):Bool:=match n.cv with
 | []=>false
 | l=>l.any fun c=>Nat.beq c.slot 2000000
def jI{β:Type}(n:Fu)(m0 lv:Nat)(K:Ex->St->T β):Ex->St->T β:=fun e st=>match normC n m0 lv st with
 | some st2=>K e st2
 | none =>.fail
def ev{β:Type}(P:Program)(Γ:xK)(n:Fu)(m0:Nat):Code->Nat->St->(Ex->St->T β)->T β
  | .skip,_,st,K=>K .normal st
  | .label _,_,st,K=>K .normal st
  | .seq a b,lv,st,K=>ev P Γ n m0 a (lv ||| (ue b).1) st fun e ac=>match e with
    | .normal=>match cutS n b with
      | true=>match normC n m0 (lv ||| (ue b).1) ac with
        | some st2=>ev P Γ n m0 b lv st2 (jI n m0 lv K)
        | none =>.fail
      | false=>ev P Γ n m0 b lv ac K
    | .exit i=>K (.exit i) ac
    | .ret=>K .ret ac
  | .cond c a b,lv,st,K=>match xW st.tmps c with
    | some (.c (.bool t))=>cond t (ev P Γ n m0 a lv ⟨refine st.tmps c true,st.heap⟩ K) (ev P Γ n m0 b lv ⟨refine st.tmps c false,st.heap⟩ K)
    | _ =>.fail
  | .block id c,lv,st,K=>ev P Γ n m0 c lv st fun e ac=>match e with
    | .normal=>K .normal ac
    | .exit i=>if i=id then K .normal ac else K (.exit i) ac
    | .ret=>K .ret ac
  | .scope c,lv,st,K=>ev P Γ n m0 c lv st K
  | .exit id,_,st,K=>K (.exit id) st
  | .ret,_,st,K=>K .ret st
  | .loop c,lv,st,K=>match normC n m0 (lv ||| (ue c).1) st with
    | some st1=>vH n.n (fun st k=>ev P Γ n m0 c (lv ||| (ue c).1) st fun e ac=>match e with
        | .normal=>match normC n m0 (lv ||| (ue c).1) ac with
          | some st2=>k st2
          | none =>.fail
        | .exit i=>match normC n m0 lv ac with
          | some st2=>K (.exit i) st2
          | none =>.fail
        | .ret=>match normC n m0 lv ac with
          | some st2=>K .ret st2
          | none =>.fail) st1
    | none =>.fail
  | .region _ ops draw,_,st,K=>match draw with
    | true=>match late2 n with
     | true=>if(vB ops (Region.before ops) (qM P ops (Region.before ops))=true/\qf ops (Region.before ops) (kB ops (vG ops (qM P ops (Region.before ops)) st.tmps))=true)/\xaQ P ops (Region.before ops) (qM P ops (Region.before ops)) (Va ops (Region.before ops) (qM P ops (Region.before ops)))=true then
          yM P Γ ops (Region.before ops) (qM P ops (Region.before ops)) (kB ops (vG ops (qM P ops (Region.before ops)) st.tmps)) (Va ops (Region.before ops) (qM P ops (Region.before ops))) ⟨vG ops (qM P ops (Region.before ops)) st.tmps,st.heap⟩ (K .normal)else .fail
     | false=>match lates P ops (Region.before ops) with
      | []=>if qL ops (Region.before ops)=true/\qf ops (Region.before ops) (kB ops st.tmps)=true then yM P Γ ops (Region.before ops) [] (kB ops st.tmps) (List.range ops.size) st (K .normal)else .fail
      | d::D=>if(qL ops (Region.before ops)=true/\qf ops (Region.before ops) (kB ops (vG ops (d::D) st.tmps))=true)/\xaQ P ops (Region.before ops) (d::D) (KQ ops (Region.before ops) (d::D))=true then
          yM P Γ ops (Region.before ops) (d::D) (kB ops (vG ops (d::D) st.tmps)) (KQ ops (Region.before ops) (d::D)) ⟨vG ops (d::D) st.tmps,st.heap⟩ (K .normal)else .fail
    | false=>KP P Γ ops ops.toList st (K .normal)
  | _,_,_,_ =>.fail
/-! ### functions -/
def Vb(P:Program)(st:St):ResultVar->Option V1
 | .tmp t=>(getT st.tmps t).bind V.down
 | .cell a t=>match getT st.tmps a with
  | some (.c (.ptr b o))=>match blkAt st.heap b with
   | some k=>(partT P t k.own o).bind V.down
   | none=>none
  | _=>none
def resV(P:Program)(fn:Func)(st:St):Option V:=
 match allSome (Vb P st) fn.results.toList with
 | some [v]=>some v.up
 | some l=>some (.tup l)
 | none=>none
def finish(m:Nat)(v:V)(H:Heap):Option (V×Heap):=
 match xaP H m (idsV v) with
 | some l=>if l.take m==List.range m then match renV (idx l) v,allSome (fun b=>renB (idx l) (blkAt H b)) l with
   | some v',some H'=>some (v',H')
   | _,_=>none
  else none
 | none=>none
def endF(P:Program)(fn:Func)(m:Nat)(e:Ex)(st:St):T (V×Heap):=
 match e with
 | .exit _ =>.fail
 | _=>match resV P fn st with
  | some v=>match finish m v st.heap with
   | some r =>.ret r
   | none =>.fail
  | none =>.fail
def yy:List ResultVar->Nat
 | []=>0
 | .tmp t::l=>(1 <<< t) ||| yy l
 | .cell t _::l=>(1 <<< t) ||| yy l
def begun(fn:Func)(args:List V):Tm:=⟨max fn.ntmps args.length,Wy 0 args .tip⟩
def evF(P:Program)(Γ:xK)(n:Fu)(fn:Func)(args:List V)(H:Heap):T (V×Heap):=
 match fn.body with
 | some c=>ev P Γ n H.length c (yy fn.results.toList) ⟨begun fn args,H⟩ (endF P fn H.length)
 | none =>.fail
end Lx
namespace Lx
open Go Go.RowKit
def flatV:C->Value
 | .bool b =>.bool b
 | .int k n =>.int k n
 | _ =>.bool false
def MapIs(w:World)(b:Nat)(m:Bool×List CK×List (List Int)):Prop:=True
theorem MapIs.same{w w':World}{b:Nat}{m:Bool×List CK×List (List Int)}(h:MapIs w b m)(e:w'.heap[b]? = w.heap[b]?):MapIs w' b m:=trivial
section
variable{P:Program}{t k e:TypeId}{w:World}{b:Nat}{g:Bool}{sh:List CK}{l:List (List Int)}{r0:List Int}{z:Int}
end
end Lx
namespace Lx
open Go
/-! ### lists -/
theorem xH : ∀ (H:Heap) (b:Nat),blkAt H b=(H[b]?).join
 | [],b=>by simp[blkAt]
 | x::l,0=>by simp[blkAt]
 | x::l,b+1=>by simp[blkAt,xH l b]
theorem yz : ∀ (H:Heap) (b:Nat) (x:Option Blk),setB H b x=H.set b x
 | [],b,x=>by simp[setB]
 | y::l,0,x=>by simp[setB]
 | y::l,b+1,x=>by simp[setB,yz l b]
theorem kr(d t:Nat):getS d .tip t=none:=by cases d<;>rfl
theorem blt_eq(a b:Nat):Nat.blt a b=decide (a<b):=by
 rw[Bool.eq_iff_iff,Nat.blt_eq,decide_eq_true_eq]
theorem XB(a:Nat):Nat.beq a 0=decide (a=0):=by
 rw[Bool.eq_iff_iff,Nat.beq_eq,decide_eq_true_eq]
theorem Zq(d:Nat)(s:Sl)(t:Nat):getS (d+1) s t=bif Nat.blt t (2 ^ d)then getS d s.left t else getS d s.right (t-2 ^ d):=by
 cases s with
 | tip=>simp only[getS,Sl.left,Sl.right,kr];cases Nat.blt t (2 ^ d)<;>rfl
 | leaf v=>simp only[getS,Sl.left,Sl.right,kr];cases Nat.blt t (2 ^ d)<;>rfl
 | node l r=>rfl
theorem kK : ∀ (d:Nat) (s:Sl) (i t:Nat) (v:V),t≠i->getS d (setS d s i v) t=getS d s t
 | 0,s,i,t,v,h=>by
  simp only[setS,XB]
  by_cases hi:i=0
  .subst hi
   have ht:Nat.beq t 0=false:=by rw[XB];simpa using h
   rw[show decide (0=0)=true from rfl]
   cases s<;>simp only[cond_true,getS,ht,cond_false]
  .rw[show decide (i=0)=false by simpa using hi];rfl
 | d+1,s,i,t,v,h=>by
  rw[Zq,Zq,setS]
  simp only[blt_eq]
  by_cases hi:i<2 ^ d
  .by_cases ht:t<2 ^ d
   .simp only[hi,ht,decide_true,cond_true,Sl.left]
    exact kK d _ _ _ _ h
   .simp only[hi,ht,decide_true,decide_false,cond_true,cond_false,Sl.right]
  .by_cases ht:t<2 ^ d
   .simp only[hi,ht,decide_true,decide_false,cond_true,cond_false,Sl.left]
   .simp only[hi,ht,decide_false,cond_false,Sl.right]
    exact kK d _ _ _ _ (by omega)
theorem kL : ∀ (d:Nat) (s:Sl) (i:Nat) (v u:V),getS d (setS d s i v) i=some u->u=v
 | 0,s,i,v,u,h=>by
  simp only[setS,XB]at h
  by_cases hi:i=0
  .subst hi
   rw[show decide (0=0)=true from rfl]at h
   simp only[cond_true,getS,show Nat.beq 0 0=true from rfl,oI]at h
   exact h.symm
  .rw[show decide (i=0)=false by simpa using hi,cond_false]at h
   have hb:Nat.beq i 0=false:=by rw[XB];simpa using hi
   cases s<;>simp only[getS,hb,cond_false]at h<;>cases h
 | d+1,s,i,v,u,h=>by
  rw[Zq,setS]at h
  simp only[blt_eq]at h
  by_cases hi:i<2 ^ d
  .simp only[hi,decide_true,cond_true,Sl.left]at h
   exact kL d _ _ _ _ h
  .simp only[hi,decide_false,cond_false,Sl.right]at h
   exact kL d _ _ _ _ h
theorem Yp : ∀ (d:Nat) (s:Sl) (i:Nat) (v:V),getS d s i=some v->setS d s i v=s
 | 0,s,i,v,h=>by
  cases s with
  | leaf w=>
   simp only[getS]at h
   cases hb:Nat.beq i 0 with
   | false=>rw[hb]at h;cases h
   | true=>rw[hb]at h;cases h;simp only[setS,hb,cond_true]
  | _=>simp[getS]at h
 | d+1,s,i,v,h=>by
  cases s with
  | node l r=>
   simp only[getS]at h
   simp only[setS]
   cases hb:Nat.blt i (2 ^ d) with
   | true=>rw[hb]at h;simp only[cond_true,Sl.left,Sl.right];rw[Yp d l i v h]
   | false=>rw[hb]at h;simp only[cond_false,Sl.left,Sl.right];rw[Yp d r _ v h]
  | _=>simp[getS]at h
theorem Yq : ∀ (d:Nat) (s:Sl) (i j:Nat) (v u:V),i≠j->setS d (setS d s i v) j u=setS d (setS d s j u) i v
 | 0,s,i,j,v,u,h=>by
  simp only[setS,XB]
  by_cases hi:i=0<;>by_cases hj:j=0
  .omega
  .simp[hi,hj]
  .simp[hi,hj]
  .simp[hi,hj]
 | d+1,s,i,j,v,u,h=>by
  simp only[setS,blt_eq]
  by_cases hi:i<2 ^ d<;>by_cases hj:j<2 ^ d<;>simp only[hi,hj,decide_true,decide_false,cond_true,cond_false,Sl.left,Sl.right]
  .rw[Yq d _ _ _ _ _ h]
  .rw[Yq d _ _ _ _ _ (show i-2 ^ d≠j-2 ^ d by omega)]
theorem xb7(d:Nat)(l r:Sl)(t:Nat):getS (d+1) (mkN l r) t=getS (d+1) (.node l r) t:=by
 unfold mkN
 split
 .rw[kr,Zq];simp only[Sl.left,Sl.right,kr];cases Nat.blt t (2 ^ d)<;>rfl
 .rfl
theorem qh(m:Nat) : ∀ (d i:Nat) (s:Sl) (t:Nat) (v:V),getS d (wT m d i s) t=some v->getS d s t=some v
 | 0,i,s,t,v,h=>by
  cases s with
  | leaf w=>
   simp only[wT]at h
   cases hb:m.testBit i with
   | true=>rw[hb]at h;exact h
   | false=>rw[hb]at h;simp[getS]at h
  | tip=>simp[wT,getS]at h
  | node l r=>simp[wT,getS]at h
 | d+1,i,s,t,v,h=>by
  cases s with
  | node l r=>
   simp only[wT]at h
   rw[xb7]at h
   simp only[getS]at h |-
   cases hb:Nat.blt t (2 ^ d) with
   | true=>rw[hb]at h;exact qh m d i l t v h
   | false=>rw[hb]at h;exact qh m d _ r _ v h
  | tip=>simp[wT,getS]at h
  | leaf w=>simp[wT,getS]at h
theorem Vc : ∀ (d:Nat) (s:Sl) (t:Nat) (v:V),getS d s t=some v ->∀b∈idsV v,b∈idsS s
 | 0,s,t,v,h,b,hb=>by
  cases s with
  | leaf w=>
   simp only[getS]at h
   cases hq:Nat.beq t 0 with
   | true=>rw[hq]at h;cases h;exact hb
   | false=>rw[hq]at h;cases h
  | _=>simp[getS]at h
 | d+1,s,t,v,h,b,hb=>by
  cases s with
  | node l r=>
   simp only[getS]at h
   simp only[idsS,List.mem_append]
   cases hq:Nat.blt t (2 ^ d) with
   | true=>rw[hq]at h;exact .inl (Vc d l t v h b hb)
   | false=>rw[hq]at h;exact .inr (Vc d r _ v h b hb)
  | _=>simp[getS]at h
theorem vR{l:Tm}{t:Nat}{v:V}(h:getT l t=some v):t<l.n/\getS 9 l.s t=some v:=by
 unfold getT at h
 rw[blt_eq]at h
 by_cases ht:t<l.n
 .simp only[ht,decide_true,cond_true]at h;exact⟨ht,h⟩
 .simp only[ht,decide_false,cond_false]at h;cases h
theorem yN(l:Tm){d t:Nat}(v:V)(h:t≠d):getT (setT l d v) t=getT l t:=by
 unfold setT
 cases hb:Nat.blt d l.n with
 | true=>simp only[cond_true,getT,kK 9 l.s d t v h]
 | false=>rfl
theorem xdL(l:Tm)(d:Nat)(v:V):(setT l d v).n=l.n:=by unfold setT;cases Nat.blt d l.n<;>rfl
theorem kM{l:Tm}{d:Nat}{v u:V}(h:getT (setT l d v) d=some u):d<l.n/\u=v:=by
 obtain⟨h1,h2⟩:=vR h
 rw[xdL]at h1
 refine⟨h1,?_⟩
 unfold setT at h2
 rw[blt_eq]at h2
 simp only[h1,decide_true,cond_true]at h2
 exact kL 9 _ _ _ _ h2
theorem jp : ∀ (args:List V) (i:Nat) (s:Sl) (t:Nat) (v:V),getS 9 (Wy i args s) t=some v->(i<=t/\args[t-i]? = some v)\/getS 9 s t=some v
 | [],i,s,t,v,h =>.inr h
 | x::l,i,s,t,v,h=>by
  simp only[Wy]at h
  rcases jp l (i+1) _ t v h with⟨h1,h2⟩|h1
  .refine .inl ⟨by omega,?_⟩
   rw[show t-i=(t-(i+1))+1 by omega]
   simpa using h2
  .by_cases ht:t=i
   .subst ht
    have:=kL 9 _ _ _ _ h1
    subst this
    exact .inl ⟨dJ _,by simp⟩
   .rw[kK 9 _ _ _ _ ht]at h1
    exact .inr h1
theorem qO : ∀ (l:List C) (o n:Nat) (r:List C),slice l o n=some r->r.length=n/\ ∀i,i<n->r[i]? = l[o+i]? /\ o+i<l.length
 | l,o,0,r,h=>by cases l<;>simp[slice]at h<;>subst h<;>simp
 | [],o,n+1,r,h=>by simp[slice]at h
 | x::l,0,n+1,r,h=>by
  simp only[slice]at h
  split at h
  .rename_i r' hr
   cases h
   obtain⟨h1,h2⟩:=qO l 0 n r' hr
   refine⟨by simp[h1],fun i hi =>?_⟩
   cases i with
   | zero=>simp
   | succ i=>
    have:=h2 i (by omega)
    simp at this |-
    exact this
  .cases h
 | x::l,o+1,n+1,r,h=>by
  simp only[slice]at h
  obtain⟨h1,h2⟩:=qO l o (n+1) r h
  refine⟨h1,fun i hi =>?_⟩
  have:=h2 i hi
  rw[show o+1+i=(o+i)+1 by omega]
  simp only[List.getElem?_cons_succ,List.length_cons]
  exact⟨this.1,by omega⟩
theorem Yr : ∀ (l:List C) (o:Nat) (xs r:List C),splice l o xs=some r->o+xs.length<=l.length\/xs = []
 | l,o,[],r,h =>.inr rfl
 | [],o,x::xs,r,h=>by simp[splice]at h
 | y::l,0,x::xs,r,h=>by
  simp only[splice]at h
  split at h
  .rename_i r' hr
   have:=Yr l 0 xs r' hr
   left
   simp only[List.length_cons]
   rcases this with this|this
   .omega
   .subst this;simp
  .cases h
 | y::l,o+1,x::xs,r,h=>by
  simp only[splice]at h
  split at h
  .rename_i r' hr
   have:=Yr l o (x::xs) r' hr
   left
   rcases this with this|this
   .simp only[List.length_cons]at this |-;omega
   .cases this
  .cases h
def put{α:Type}(l:List α)(o:Nat):List α->List α
 | []=>l
 | x::xs=>put (l.set o x) (o+1) xs
theorem jJ{α:Type}(y:α)(l:List α)(o:Nat)(xs:List α):put (y::l) (o+1) xs=y::put l o xs:=by
 induction xs generalizing l o with
 | nil=>rfl
 | cons x xs ih=>simp only[put,List.set_cons_succ];exact ih _ _
theorem qi : ∀ (l:List C) (o:Nat) (xs r:List C),splice l o xs=some r->r=put l o xs
 | l,o,[],r,h=>by
  cases l<;>cases o<;>simp[splice]at h<;>subst h<;>rfl
 | [],o,x::xs,r,h=>by simp[splice]at h
 | y::l,0,x::xs,r,h=>by
  simp only[splice]at h
  split at h
  .rename_i r' hr
   cases h
   have:=qi l 0 xs r' hr
   subst this
   simp only[put,List.set_cons_zero]
   rw[jJ]
  .cases h
 | y::l,o+1,x::xs,r,h=>by
  simp only[splice]at h
  split at h
  .rename_i r' hr
   cases h
   have:=qi l o (x::xs) r' hr
   subst this
   rw[jJ]
  .cases h
theorem xdM{α:Type}(l:List α)(o:Nat)(xs:List α):(put l o xs).length=l.length:=by
 induction xs generalizing l o with
 | nil=>rfl
 | cons x xs ih=>simp[put,ih]
theorem xdN{α:Type}(l tl:List α)(o:Nat)(xs:List α)(h:o+xs.length<=l.length):put (l++tl) o xs=put l o xs++tl:=by
 induction xs generalizing l o with
 | nil=>rfl
 | cons x xs ih=>
  simp only[put]
  simp only[List.length_cons]at h
  rw[List.set_append_left _ _ (by omega),ih _ _ (by simp;omega)]
theorem xV{α β:Type}(f:α->Option β) : ∀ (l:List α) (r:List β),allSome f l=some r->r.length=l.length
 | [],r,h=>by simp[allSome]at h;simp[<- h]
 | x::l,r,h=>by
  simp only[allSome]at h
  split at h
  .split at h
   .rename_i hr
    cases h
    simp[xV f l _ hr]
   .cases h
  .cases h
theorem yD{α β:Type}(f:α->Option β) : ∀ (l:List α) (r:List β),allSome f l=some r ->∀ (i:Nat) x,l[i]? = some x ->∃y,f x=some y/\r[i]? = some y
 | [],r,h,i,x,hx=>by simp at hx
 | x::l,r,h,i,x',hx=>by
  simp only[allSome]at h
  split at h
  .rename_i y hy
   split at h
   .rename_i ys hr
    cases h
    cases i with
    | zero=>simp at hx;subst hx;exact⟨y,hy,rfl⟩
    | succ i=>simp at hx;simpa using yD f l ys hr i x' hx
   .cases h
  .cases h
/-! ### values -/
abbrev Env:=List (Nat×Nat)
def qP(r:Nat×Nat):Option Value:=if r.2=0 then some (if r.1=0 then .slice none 0 0 else .slice (some ⟨r.1-1,0,none⟩) 0 0)else none
mutual
def den(pv:Value)(e:Env):C->Option Value
 | .bool b=>some (.bool b)
 | .int k n=>some (.int k n)
 | .nilp=>some (.pointer none)
 | .ptr b o=>(e[b]?).map fun r =>.pointer (some ⟨r.1,o,none⟩)
 | .nils=>some (.slice none 0 0)
 | .sl b o n c=>(e[b]?).map fun r =>.slice (some ⟨r.1,o,none⟩) n c
 | .slg b o n=>(e[b]?).bind fun r=>if o+n<=r.2 then some (.slice (some ⟨r.1,if r.2=o then 0 else o,none⟩) n (r.2-o))else none
 | .pr b o i n f=>(e[b]?).map fun r =>.pointer (some ⟨r.1,o+(i.toNat*n+f),none⟩)
 | .slw b o z n c=>(e[b]?).map fun r =>.slice (if n=0 then z else some ⟨r.1,o,none⟩) n c
 | .slr b n=>(e[b]?).bind fun r=>if n=0 then qP r else if n<=r.2 then some (.slice (some ⟨r.1,0,none⟩) n r.2)else none
 | .slv b z o n=>(e[b]?).bind fun r=>if r.2=0 then(if o+n=0 then qP r else none)else if o+n<=r.2 then some (.slice (some ⟨r.1,if r.2=o then 0 else o*z,none⟩) n (r.2-o))else none
 | .slx b o d a n c=>(e[b]?).bind fun r=>if(n=0\/a=o+d)/\n<=c then some (.slice (some ⟨r.1,a,none⟩) n c)else none
 | .fn f caps=>(denL pv e caps).map fun vs =>.func (.func f) #[] vs.toArray
 | .meth s c=>(den pv e c).map fun v =>.func (.method s) #[v] #[]
 | .nilf=>some .nilFunc
 | .nili=>some .nilIface
 | .nilm=>some (.map none)
 | .port=>some pv
 | .mp b=>(e[b]?).map fun r =>.map (some r.1)
 | .str z=>some (.string z)
 | .gp g o=>some (.pointer (some ⟨g,o,none⟩))
 | .ifc t c=>(den pv e c).map fun v =>.iface t v
def denL(pv:Value)(e:Env):List C->Option (List Value)
 | []=>some []
 | c::l=>match den pv e c with
  | some v=>match denL pv e l with
   | some vs=>some (v::vs)
   | none=>none
  | none=>none
end
theorem WB(pv:Value)(e:Env) : ∀l,denL pv e l=allSome (den pv e) l
 | []=>by simp[denL,allSome]
 | c::l=>by
  simp only[denL,allSome,WB pv e l]
  cases den pv e c with
  | none=>rfl
  | some v=>cases allSome (den pv e) l<;>rfl
def vX(pv:Value)(e:Env):V1->Option Value
 | .c x=>den pv e x
 | .agg l=>(denL pv e l).map fun vs =>.agg vs.toArray
def denV(pv:Value)(e:Env):V->Option Value
 | .c x=>den pv e x
 | .agg l=>(denL pv e l).map fun vs =>.agg vs.toArray
 | .tup l=>(allSome (vX pv e) l).map fun vs =>.tuple vs.toArray
theorem xfb(pv:Value)(e:Env)(x:V1):denV pv e x.up=vX pv e x:=by cases x<;>rfl
theorem KR{pv:Value}{e:Env}{v:V}{x:V1}(h:v.down=some x):vX pv e x=denV pv e v:=by
 cases v<;>simp[V.down]at h<;>subst h<;>rfl
def Ext(e e':Env):Prop :=∃x,e'=e++x
theorem Ext.refl(e:Env):Ext e e:=⟨[],by simp⟩
theorem Ext.trans{a b c:Env}(h:Ext a b)(h':Ext b c):Ext a c:=by
 obtain⟨x,rfl⟩:=h
 obtain⟨y,rfl⟩:=h'
 exact⟨x++y,by simp⟩
theorem Ext.get{e e':Env}(h:Ext e e'){i:Nat}{r:Nat×Nat}(hr:e[i]? = some r):e'[i]? = some r:=by
 obtain⟨x,rfl⟩:=h
 rw[List.getElem?_append_left]
 .exact hr
 .exact(List.getElem?_eq_some_iff.1 hr).1
theorem xh{α β:Type}{f:α->β}{a b:Option α}{v:β}(h : ∀x,a=some x->b=some x)(hv:a.map f=some v):b.map f=some v:=by
 cases a with
 | none=>simp at hv
 | some x=>rw[h x rfl];exact hv
theorem yH{α β:Type}{f:α->Option β}{a b:Option α}{v:β}(h : ∀x,a=some x->b=some x)(hv:a.bind f=some v):b.bind f=some v:=by
 cases a with
 | none=>simp at hv
 | some x=>rw[h x rfl];exact hv
mutual
theorem XC{pv:Value}{e e':Env}(h:Ext e e') : ∀ (c:C) (v:Value),den pv e c=some v->den pv e' c=some v
 | .bool b,v,hv=>by simpa[den]using hv
 | .int k n,v,hv=>by simpa[den]using hv
 | .nilp,v,hv=>by simpa[den]using hv
 | .ptr b o,v,hv=>by simp only[den]at hv |-;exact xh (fun x hx=>h.get hx) hv
 | .nils,v,hv=>by simpa[den]using hv
 | .sl b o n c,v,hv=>by simp only[den]at hv |-;exact xh (fun x hx=>h.get hx) hv
 | .slg b o n,v,hv=>by simp only[den]at hv |-;exact yH (fun x hx=>h.get hx) hv
 | .pr b o i n f,v,hv=>by simp only[den]at hv |-;exact xh (fun x hx=>h.get hx) hv
 | .slw b o z n c,v,hv=>by simp only[den]at hv |-;exact xh (fun x hx=>h.get hx) hv
 | .slr b n,v,hv=>by simp only[den]at hv |-;exact yH (fun x hx=>h.get hx) hv
 | .slv b z o n,v,hv=>by simp only[den]at hv |-;exact yH (fun x hx=>h.get hx) hv
 | .slx b o d a n c,v,hv=>by simp only[den]at hv |-;exact yH (fun x hx=>h.get hx) hv
 | .fn f caps,v,hv=>by simp only[den]at hv |-;exact xh (fun x hx=>yE h caps x hx) hv
 | .meth s c,v,hv=>by simp only[den]at hv |-;exact xh (fun x hx=>XC h c x hx) hv
 | .nilf,v,hv=>by simpa[den]using hv
 | .nili,v,hv=>by simpa[den]using hv
 | .nilm,v,hv=>by simpa[den]using hv
 | .port,v,hv=>by simpa[den]using hv
 | .str z,v,hv=>by simpa[den]using hv
 | .gp g o,v,hv=>by simpa[den]using hv
 | .mp b,v,hv=>by simp only[den]at hv |-;exact xh (fun x hx=>h.get hx) hv
 | .ifc t c,v,hv=>by simp only[den]at hv |-;exact xh (fun x hx=>XC h c x hx) hv
theorem yE{pv:Value}{e e':Env}(h:Ext e e') : ∀ (l:List C) (vs:List Value),denL pv e l=some vs->denL pv e' l=some vs
 | [],vs,hv=>by simpa[denL]using hv
 | c::l,vs,hv=>by
  simp only[denL]at hv |-
  split at hv
  .rename_i v hc
   split at hv
   .rename_i zp hl
    rw[XC h c v hc,yE h l zp hl]
    exact hv
   .cases hv
  .cases hv
end
theorem xf9{pv:Value}{e e':Env}(h:Ext e e')(x:V1)(v:Value)(hv:vX pv e x=some v):vX pv e' x=some v:=by
 cases x with
 | c x=>exact XC h x v hv
 | agg l=>simp only[vX]at hv |-;exact xh (fun x hx=>yE h l x hx) hv
theorem kN{α β:Type}{f g:α->Option β}(h : ∀x y,f x=some y->g x=some y) : ∀ (l:List α) (r:List β),allSome f l=some r->allSome g l=some r
 | [],r,hr=>by simpa[allSome]using hr
 | x::l,r,hr=>by
  simp only[allSome]at hr |-
  split at hr
  .rename_i y hy
   split at hr
   .rename_i ys hl
    rw[h x y hy,kN h l ys hl]
    exact hr
   .cases hr
  .cases hr
theorem XD{pv:Value}{e e':Env}(h:Ext e e')(x:V)(v:Value)(hv:denV pv e x=some v):denV pv e' x=some v:=by
 cases x with
 | c x=>exact XC h x v hv
 | agg l=>simp only[denV]at hv |-;exact xh (fun x hx=>yE h l x hx) hv
 | tup l=>simp only[denV]at hv |-;exact xh (fun x hx=>kN (fun a b=>xf9 h a b) l x hx) hv
def One(v:Value):Prop:=(∀cs,v ≠ .agg cs)/\ ∀cs,v ≠ .tuple cs
theorem One.cells{v:Value}(h:One v):v.cells = #[v]:=by
 cases v with
 | agg cs=>exact absurd rfl (h.1 cs)
 | _=>rfl
theorem vg{r:Nat×Nat}{v:Value}(h:qP r=some v):r.2=0/\(v = .slice none 0 0\/ ∃a,v = .slice (some a) 0 0):=by
 unfold qP at h
 split at h
 .cases h
  refine⟨‹_›,?_⟩
  split
  .exact .inl rfl
  .exact .inr ⟨_,rfl⟩
 .cases h
theorem KT{r:Nat×Nat}{v:Value}(h:qP r=some v):One v:=by
 rcases(vg h).2 with rfl|⟨a,rfl⟩<;>exact⟨(fun _ h=>by cases h),(fun _ h=>by cases h)⟩
theorem xfc{pv:Value}(hp:One pv){e:Env}{c:C}{v:Value}(h:den pv e c=some v):One v:=by
 cases c<;>simp only[den,oM,oI,dU]at h
 case port=>subst h;exact hp
 case slg=>obtain⟨_,_,h⟩:=h;split at h<;>cases h;exact⟨(fun _ h=>by cases h),(fun _ h=>by cases h)⟩
 case slx=>obtain⟨_,_,h⟩:=h;split at h<;>cases h;exact⟨(fun _ h=>by cases h),(fun _ h=>by cases h)⟩
 case slr=>
  obtain⟨_,_,h⟩:=h
  split at h
  .exact KT h
  .split at h<;>cases h;exact⟨(fun _ h=>by cases h),(fun _ h=>by cases h)⟩
 case slv=>
  obtain⟨_,_,h⟩:=h
  split at h
  .split at h
   .exact KT h
   .cases h
  .split at h<;>cases h;exact⟨(fun _ h=>by cases h),(fun _ h=>by cases h)⟩
 all_goals first
  | (subst h;exact⟨(fun _ h=>by cases h),(fun _ h=>by cases h)⟩)
  | (obtain⟨_,_,rfl⟩:=h;exact⟨(fun _ h=>by cases h),(fun _ h=>by cases h)⟩)
theorem Vd{pv:Value}(hp:One pv){e:Env}{l:List C}{vs:List Value}(h:denL pv e l=some vs) : ∀v∈vs,One v:=by
 rw[WB]at h
 intro v hv
 obtain⟨i,hi⟩:=List.getElem?_of_mem hv
 have hl:=xV _ _ _ h
 have:i<l.length:=by rw[<- hl];exact(List.getElem?_eq_some_iff.1 hi).1
 obtain⟨y,hy,hr⟩:=yD _ _ _ h i _ (List.getElem?_eq_getElem this)
 rw[hi]at hr
 cases hr
 exact xfc hp hy
theorem vq{pv:Value}(hp:One pv){e:Env}{v:V}{rv:Value}{cs:List C}(h:denV pv e v=some rv)(hc:v.cells=some cs):denL pv e cs=some rv.cells.toList:=by
 cases v with
 | c x=>
  simp only[V.cells,oI]at hc
  subst hc
  simp only[denV]at h
  simp only[denL,h,(xfc hp h).cells]
 | agg l=>
  simp only[V.cells,oI]at hc
  subst hc
  simp only[denV,oM]at h
  obtain⟨vs,h1,rfl⟩:=h
  simpa[Value.cells]using h1
 | tup l=>simp[V.cells]at hc
theorem ku{pv:Value}{e:Env}{l:List C}{vs:List Value}(h:denL pv e l=some vs){i:Nat}{c:C}(hc:l[i]? = some c) : ∃v,den pv e c=some v/\vs[i]? = some v:=by
 rw[WB]at h
 exact yD _ _ _ h i c hc
theorem xN{pv:Value}{e:Env}{l:List C}{vs:List Value}(h:denL pv e l=some vs):vs.length=l.length:=by
 rw[WB]at h
 exact xV _ _ _ h
theorem XE{pv:Value}{e:Env} : ∀ {l:List C} {vs:List Value},vs.length=l.length->(∀ (i:Nat) c,l[i]? = some c->den pv e c=vs[i]?)->denL pv e l=some vs
 | [],vs,hl,h=>by cases vs with|nil=>rfl|cons=>simp at hl
 | c::l,[],hl,h=>by simp at hl
 | c::l,v::vs,hl,h=>by
  have h0:=h 0 c rfl
  simp only[List.getElem?_cons_zero]at h0
  have:=XE (pv:=pv) (e:=e) (l:=l) (vs:=vs) (by simpa using hl) fun i c hc=>by simpa using h (i+1) c (by simpa using hc)
  simp[denL,h0,this]
theorem Xe{pv:Value}{e:Env}{l r:List C}{vs:List Value}{o n:Nat}(h:denL pv e l=some vs)(hs:slice l o n=some r):denL pv e r=some (vs.extract o (o+n))/\o+n<=vs.length\/n=0/\r = []:=by
 obtain⟨h1,h2⟩:=qO l o n r hs
 have hl:=xN h
 by_cases hn:n=0
 .right
  subst hn
  exact⟨rfl,List.length_eq_zero_iff.1 h1⟩
 .left
  have hb:=(h2 (n-1) (by omega)).2
  refine⟨XE (by simp;omega) fun i c hc =>?_,by omega⟩
  have hi:i<n:=by rw[<- h1];exact(List.getElem?_eq_some_iff.1 hc).1
  obtain⟨h3,h4⟩:=h2 i hi
  rw[hc]at h3
  obtain⟨v,hv,ee⟩:=ku h h3.symm
  rw[hv,List.extract_eq_take_drop,List.getElem?_take,dB (by omega),List.getElem?_drop,ee]
theorem xhA{pv:Value}{e:Env}{l:List C}{vs:List Value}(h:denL pv e l=some vs){o:Nat}{c:C}{v:Value}(hc:den pv e c=some v):denL pv e (l.set o c)=some (vs.set o v):=by
 have hl:=xN h
 refine XE (by simp[hl]) fun i x hx =>?_
 rw[List.getElem?_set]at hx |-
 split at hx
 .rename_i ho
  subst ho
  split at hx
  .cases hx
   rw[dB rfl,dB (by omega),hc]
  .cases hx
 .rename_i ho
  rw[dA ho]
  obtain⟨y,hy,fz⟩:=ku h hx
  rw[hy,fz]
theorem xb8{pv:Value}{e:Env}{l xs:List C}{vs ys:List Value}{o:Nat}(h:denL pv e l=some vs)(hx:denL pv e xs=some ys):denL pv e (put l o xs)=some (put vs o ys):=by
 induction xs generalizing l vs ys o with
 | nil=>simp only[denL,oI]at hx;subst hx;exact h
 | cons x xs ih=>
  simp only[denL]at hx
  split at hx
  .rename_i v hv
   split at hx
   .rename_i us hu
    cases hx
    exact ih (xhA h hv) hu
   .cases hx
  .cases hx
theorem Ve{pv:Value}{e:Env}{v:Value}{c:C}(h:qe v=some c):den pv e c=some v:=by
 unfold qe at h
 split at h<;>first|(cases h;rfl)|cases h
theorem Vf{pv:Value}{e:Env}{v:Value}{x:V}(h:qJ v=some x):denV pv e x=some v:=by
 unfold qJ at h
 split at h
 .rename_i cs
  rw[oM]at h
  obtain⟨l,hl,rfl⟩:=h
  have:denL pv e l=some cs.toList:=by
   refine XE (by rw[xV _ _ _ hl]) fun i c hc =>?_
   have hi:i<cs.toList.length:=by rw[<- xV _ _ _ hl];exact(List.getElem?_eq_some_iff.1 hc).1
   obtain⟨y,hy,hr⟩:=yD _ _ _ hl i _ (List.getElem?_eq_getElem hi)
   rw[hc]at hr
   cases hr
   rw[Ve hy,List.getElem?_eq_getElem hi]
  simp[denV,this]
 .rename_i cs
  split at h
  .rename_i h0
   cases h
   simp only[denV,allSome,dN,oI,Value.tuple.injEq]
   exact(Array.eq_empty_of_size_eq_zero h0).symm
  .cases h
 .rename_i v h1 h2
  rw[oM]at h
  obtain⟨c,hc,rfl⟩:=h
  exact Ve hc
end Lx
namespace Lx
open Go
structure Toks where
 tok:Nat->Option Nat
 cap:Nat->Option Nat
structure Toks.le(A A':Toks):Prop where
 tok : ∀i b,A.tok i=some b->A'.tok i=some b
 cap : ∀i b,A.cap i=some b->A'.cap i=some b
theorem Toks.le.refl(A:Toks):A.le A:=⟨fun _ _ h=>h,fun _ _ h=>h⟩
theorem Toks.le.trans{A B C:Toks}(h:A.le B)(h':B.le C):A.le C:=⟨fun i b x=>h'.tok i b (h.tok i b x),fun i b x=>h'.cap i b (h.cap i b x)⟩
structure Pv where
 val:Value
 A:Toks
instance:CoeOut Pv Value:=⟨Pv.val⟩
def Tk(A:Pv)(r:Nat×Nat)(k:Blk)(cs:List Value):Prop :=∀id n,k.tab=some (.tok id n)->A.A.tok id=some r.1/\(cs = []\/ ∃c,A.A.cap n=some c/\cs = [.pointer (some ⟨c,0,none⟩)])
theorem Tk.of{A:Pv}{r:Nat×Nat}{k:Blk}{cs:List Value}(h : ∀t,k.tab=some t->t.isTok=false):Tk A r k cs:=fun id n ht=>by cases h _ ht
def Lies(A:Pv)(w:World)(r:Nat×Nat)(k:Blk)(cs:List Value):Prop:=Tk A r k cs/\(k.virt=true\/match k.mapped with
 | some m=>r.1<w.heap.size/\MapIs w r.1 m
 | none=>match k.win with
 | some off=>r.1<w.heap.size/\ ∀j v,cs[j]? = some v->w.cell? ⟨r.1,off+j,none⟩=some v
 | none =>∃tl,w.heap[r.1]? = some (.cells (cs++tl).toArray k.elem (0,0))/\(k.grown=false->tl = [])/\(k.grown=true->(cs++tl).length=r.2*k.wid/\r.2<=maxLen))
theorem Tk.virt{A:Pv}{r:Nat×Nat}{k:Blk}{cs:List Value}(h:k.virt=false):Tk A r k cs:=fun id n ht=>by unfold Blk.virt at h;rw[ht]at h;cases h
theorem Lies.lt{A:Pv}{w:World}{r:Nat×Nat}{k:Blk}{cs:List Value}(h:Lies A w r k cs)(hv:k.virt=false):r.1<w.heap.size:=by
 rcases h.2 with h|h
 .rw[hv]at h;cases h
 .split at h
  .exact h.1
  .split at h
   .exact h.1
   .obtain⟨tl,h1,_⟩:=h
    exact(Array.getElem?_eq_some_iff.1 h1).1
theorem Lies.same{A:Pv}{w w':World}{r:Nat×Nat}{k:Blk}{cs:List Value}(h:Lies A w r k cs)(hs:k.virt=false->w'.heap[r.1]? = w.heap[r.1]?):Lies A w' r k cs:=by
 cases hv:k.virt with
 | true=>exact⟨h.1,.inl hv⟩
 | false=>
  replace hs:=hs hv
  have Ft:=h.lt hv
  refine⟨h.1,?_⟩
  rcases h.2 with h|h
  .exact .inl h
  .right
   have ao:r.1<w'.heap.size:=by
    rw[Array.getElem?_eq_getElem Ft]at hs
    exact(Array.getElem?_eq_some_iff.1 hs).1
   split at h
   .exact⟨ao,h.2.same hs⟩
   .split at h
    .refine⟨ao,fun j v hj =>?_⟩
     have:=h.2 j v hj
     simp only[World.cell?]at this |-
     rw[hs];exact this
    .obtain⟨tl,h1,h2,h3⟩:=h
     exact⟨tl,hs.trans h1,h2,h3⟩
theorem Blk.mapped_win{k:Blk}{m:Bool×List CK×List (List Int)}(h:k.mapped=some m):k.win=none/\k.virt=false/\k.real = []/\k.wid=1:=by
 unfold Blk.mapped at h
 split at h
 .rename_i ht
  unfold Blk.win Blk.virt Blk.real Blk.wid
  rw[ht]
  exact⟨rfl,rfl,rfl,rfl⟩
 .cases h
theorem Blk.mapped_none{k:Blk}(h:k.tab=none):k.mapped=none:=by unfold Blk.mapped;rw[h]
theorem Blk.mapped_some{k:Blk}{pv:Value}{e:Env}{cs:List Value}{j:Nat}{v:Value}(hd:denL pv e k.real=some cs)(h:cs[j]? = some v):k.mapped=none:=by
 cases hm:k.mapped with
 | none=>rfl
 | some m=>
  rw[(Blk.mapped_win hm).2.2.1]at hd
  simp only[denL,oI]at hd
  subst hd
  simp at h
theorem Lies.map{A:Pv}{w:World}{r:Nat×Nat}{k:Blk}{cs:List Value}{m:Bool×List CK×List (List Int)}(h:Lies A w r k cs)(hm:k.mapped=some m):MapIs w r.1 m:=by
 rcases h.2 with h|h
 .rw[(Blk.mapped_win hm).2.1]at h;cases h
 .rw[hm]at h;exact h.2
theorem Lies.own{A:Pv}{w:World}{r:Nat×Nat}{k:Blk}{cs:List Value}(h:Lies A w r k cs)(hk:k.win=none)(hv:k.virt=false)(hm:k.mapped=none) : ∃tl,w.heap[r.1]? = some (.cells (cs++tl).toArray k.elem (0,0))/\(k.grown=false->tl = [])/\(k.grown=true->(cs++tl).length=r.2*k.wid/\r.2<=maxLen):=by
 rcases h.2 with h|h
 .rw[hv]at h;cases h
 .rw[hm,hk]at h;exact h
theorem Lies.mk{A:Pv}{w:World}{r:Nat×Nat}{k:Blk}{cs tl:List Value}(hk:k.win=none)(h1:w.heap[r.1]? = some (.cells (cs++tl).toArray k.elem (0,0)))(h2:k.grown=false->tl = [])(h3:k.grown=true->(cs++tl).length=r.2*k.wid/\r.2<=maxLen)(hm:k.mapped=none:=by first|rfl|assumption|(exact Blk.mapped_none (by assumption)))(hq : ∀t,k.tab=some t->t.isTok=false:=by first|(intro t ht;cases ht;done)|(intro t ht;cases ht;rfl)|assumption):Lies A w r k cs:=by
 refine⟨Tk.of hq,?_⟩
 right;rw[hm,hk];exact⟨tl,h1,h2,h3⟩
structure Emb(pv:Pv)(e:Env)(H:Heap)(w:World):Prop where
 len:H.length=e.length
 lies : ∀i k,blkAt H i=some k ->∃r cs,e[i]? = some r/\denL pv e k.real=some cs/\Lies pv w r k cs
 alone : ∀i j k k' r r',blkAt H i=some k->blkAt H j=some k'->e[i]? = some r->e[j]? = some r'->r.1=r'.1->k.virt=false->k'.virt=false->i=j\/(k.win.isSome=true/\k'.win.isSome=true)
 ok : ∀i k,blkAt H i=some k->k.ok
theorem Emb.row{pv:Pv}{e:Env}{H:Heap}{w:World}(E:Emb pv e H w)(i:Nat)(k:Blk)(h:blkAt H i=some k)(hk:k.win=none)(hv:k.virt=false)(hm:k.mapped=none:=by first|rfl|assumption|(exact Blk.mapped_none (by assumption))) : ∃r cs tl,e[i]? = some r/\denL pv e k.real=some cs/\
  w.heap[r.1]? = some (.cells (cs++tl).toArray k.elem (0,0))/\(k.grown=false->tl = [])/\(k.grown=true->(cs++tl).length=r.2*k.wid/\r.2<=maxLen):=by
 obtain⟨r,cs,h1,h2,h3⟩:=E.lies i k h
 obtain⟨tl,h4,h5,h6⟩:=h3.own hk hv hm
 exact⟨r,cs,tl,h1,h2,h4,h5,h6⟩
theorem Emb.inj{pv:Pv}{e:Env}{H:Heap}{w:World}(E:Emb pv e H w)(i j:Nat)(k k':Blk)(r r':Nat×Nat)(h1:blkAt H i=some k)(h2:blkAt H j=some k')(h3:e[i]? = some r)(h4:e[j]? = some r')(h5:r.1=r'.1)(hv:k.virt=false)(dt:k'.virt=false)(hk:k.win=none\/k'.win=none):i=j:=by
 rcases E.alone i j k k' r r' h1 h2 h3 h4 h5 hv dt with h|⟨h6,h7⟩
 .exact h
 .rcases hk with hk|hk
  .rw[hk]at h6;cases h6
  .rw[hk]at h7;cases h7
theorem Blk.win_none{k:Blk}(h:k.tab=none):k.win=none:=by unfold Blk.win;rw[h]
theorem Blk.virt_none{k:Blk}(h:k.tab=none):k.virt=false:=by unfold Blk.virt;rw[h]
theorem Blk.virt_some{k:Blk}{v:Value}{pv:Value}{e:Env}{cs:List Value}{j:Nat}(hn : ∀t,k.tab=some t->t.isTok=false)(hd:denL pv e k.real=some cs)(h:cs[j]? = some v):k.virt=false:=by
 cases hv:k.virt with
 | false=>rfl
 | true=>
  unfold Blk.virt at hv
  have hr:k.real = []:=by
   unfold Blk.real
   split at hv
   .rename_i sh l ht
    rw[ht]
    cases l with
    | nil=>rfl
    | cons a l=>simp[wX]at hv
   .rename_i kd l ht
    rw[ht]
    cases l with
    | nil=>rfl
    | cons a l=>simp[wX]at hv
   .rename_i o kd l ht
    rw[ht]
    cases l with
    | nil=>rfl
    | cons a l=>cases hv
   .rename_i o sh l ht
    rw[ht]
    cases l with
    | nil=>rfl
    | cons a l=>cases hv
   .cases hv
   .rename_i ht;cases hn _ ht
   .cases hv
  rw[hr]at hd
  simp only[denL,oI]at hd
  subst hd
  simp at h
def Own(q:Bool)(e:Env)(H:Heap)(b:Nat):Prop :=∃i k r,blkAt H i=some k/\e[i]? = some r/\r.1=b/\k.virt=false/\(q=true->k.win=none)
theorem Own.weak{q:Bool}{e:Env}{H:Heap}{b:Nat}(h:Own q e H b):Own false e H b:=by
 obtain⟨i,k,r,h1,h2,h3,h4,_⟩:=h
 exact⟨i,k,r,h1,h2,h3,h4,fun h=>by cases h⟩
theorem vS{e:Env}{H:Heap}{i:Nat}{k:Blk}{r:Nat×Nat}(h1:blkAt H i=some k)(h2:e[i]? = some r)(hv:k.virt=false):Own false e H r.1:=⟨i,k,r,h1,h2,rfl,hv,fun h=>by cases h⟩
structure Keeps(S:Nat->Prop)(w w':World):Prop where
 os:w'.os=w.os
 tape:w'.tape=w.tape
 output:w'.output=w.output
 size:w.heap.size<=w'.heap.size
 block : ∀b,b<w.heap.size ->¬S b->w'.heap[b]? = w.heap[b]?
theorem Keeps.refl(S:Nat->Prop)(w:World):Keeps S w w:=⟨rfl,rfl,rfl,dJ _,fun _ _ _=>rfl⟩
theorem Keeps.trans{S S':Nat->Prop}{w w' w'':World}(h:Keeps S w w')(h':Keeps S' w' w'')(hs : ∀b,S' b->S b\/w.heap.size<=b):Keeps S w w'':=
 ⟨h'.os.trans h.os,h'.tape.trans h.tape,h'.output.trans h.output,Nat.le_trans h.size h'.size,fun b hb hn=>by
  rw[h'.block b (Nat.lt_of_lt_of_le hb h.size) (fun du=>by rcases hs b du with h1|h1;exact hn h1;omega),h.block b hb hn]⟩
theorem Keeps.mono{S S':Nat->Prop}{w w':World}(h:Keeps S w w')(hs : ∀b,S b->S' b):Keeps S' w w':=
 ⟨h.os,h.tape,h.output,h.size,fun b hb hn=>h.block b hb fun du=>hn (hs b du)⟩
theorem Emb.own_lt{pv:Pv}{e:Env}{H:Heap}{w:World}(E:Emb pv e H w){q:Bool}{b:Nat}(h:Own q e H b):b<w.heap.size:=by
 obtain⟨i,k,r,hk,hr,rfl,hv,_⟩:=h
 obtain⟨r',cs,ct,_,hw⟩:=E.lies i k hk
 rw[hr]at ct
 cases ct
 exact hw.lt hv
theorem Emb.ofSame{pv:Pv}{e:Env}{H:Heap}{w w':World}(E:Emb pv e H w)(h : ∀b,Own false e H b->w'.heap[b]? = w.heap[b]?):Emb pv e H w':=by
 refine⟨E.len,fun i k hk =>?_,E.alone,E.ok⟩
 obtain⟨r,cs,hr,hd,hw⟩:=E.lies i k hk
 exact⟨r,cs,hr,hd,hw.same fun hv=>h r.1 (vS hk hr hv)⟩
theorem Tk.grow{v:Value}{A A':Toks}(hA:A.le A'){r:Nat×Nat}{k:Blk}{cs:List Value}(h:Tk ⟨v,A⟩ r k cs):Tk ⟨v,A'⟩ r k cs:=fun id n ht=>by
 obtain⟨h1,h2⟩:=h id n ht
 exact⟨hA.tok _ _ h1,h2.imp (fun x=>x) fun⟨c,x,y⟩=>⟨c,hA.cap _ _ x,y⟩⟩
theorem Emb.grow{v:Value}{A A':Toks}{e:Env}{H:Heap}{w:World}(hA:A.le A')(E:Emb ⟨v,A⟩ e H w):Emb ⟨v,A'⟩ e H w:=
 ⟨E.len,fun i k hk=>by
  obtain⟨r,cs,h1,h2,h3⟩:=E.lies i k hk
  exact⟨r,cs,h1,h2,h3.1.grow hA,h3.2⟩,E.alone,E.ok⟩
theorem Emb.get{pv:Pv}{e:Env}{H:Heap}{w:World}(E:Emb pv e H w){i:Nat}{k:Blk}(hk:blkAt H i=some k) : ∃r,e[i]? = some r:=by
 obtain⟨r,_,hr,_⟩:=E.lies i k hk
 exact⟨r,hr⟩
/-! ### blocks told as tables -/
theorem Blk.real_none{k:Blk}(h:k.tab=none):k.real=k.cells:=by unfold Blk.real;rw[h]
theorem Blk.real_some{k:Blk}{t:Tab}(h:k.tab=some t)(hq:t.isTok=false:=by first|rfl|assumption):k.real=t.cells:=by
 unfold Blk.real
 rw[h]
 cases t<;>first|rfl|cases hq
theorem Blk.real_tok{k:Blk}{id n:Nat}(h:k.tab=some (.tok id n)):k.real=k.cells:=by unfold Blk.real;rw[h]
theorem Blk.own_none{k:Blk}(h:k.tab=none):k.own=k.cells:=by unfold Blk.own;rw[h]
theorem Blk.own_some{k:Blk}{t:Tab}(h:k.tab=some t):k.own = []:=by unfold Blk.own;rw[h]
theorem Blk.ok_none{k:Blk}(h:k.tab=none):k.ok:=fun t ht _=>by rw[h]at ht;cases ht
theorem xga{pv pv':Value}{e e':Env}{c:C}(h:wU c=true):den pv' e' c=den pv e c:=by
 cases c<;>first|rfl|(simp[wU]at h)
theorem Zr{pv pv':Value}{e e':Env}{l:List C}(h:l.all wU=true):denL pv' e' l=denL pv e l:=by
 induction l with
 | nil=>rfl
 | cons c l ih=>
  simp only[List.all_cons,dM]at h
  simp only[denL,xga (pv:=pv) (pv':=pv') (e:=e) (e':=e') h.1,ih h.2]
theorem KU : ∀ (sh:List CK) (j:Nat) (r:List Int),(rowG sh j r).all wU=true
 | [],j,r=>rfl
 | s::sh,j,r=>by
  simp only[rowG,List.all_cons,dM]
  exact⟨by cases s<;>rfl,KU sh (j+1) r⟩
theorem KV(sh:List CK)(r:List Int):(rowC sh r).all wU=true:=KU sh 0 r
theorem YW : ∀ (sh:List CK) (j:Nat) (r:List Int),(rowG sh j r).length=sh.length
 | [],j,r=>rfl
 | s::sh,j,r=>by simp only[rowG,List.length_cons,YW sh (j+1) r]
theorem yh(sh:List CK)(r:List Int):(rowC sh r).length=sh.length:=YW sh 0 r
theorem Vg(t:Tab):t.cells.all wU=true:=by
 cases t with
 | col k l=>rw[List.all_eq_true];intro c hc;simp only[Tab.cells,List.mem_map]at hc;obtain⟨x,_,rfl⟩:=hc;rfl
 | rows sh l=>
  rw[List.all_eq_true];intro c hc;simp only[Tab.cells,List.mem_flatMap]at hc;obtain⟨x,_,hx⟩:=hc
  exact List.all_eq_true.1 (KV sh x) c hx
 | wcol o k l=>rw[List.all_eq_true];intro c hc;simp only[Tab.cells,List.mem_map]at hc;obtain⟨x,_,rfl⟩:=hc;rfl
 | wrows o sh l=>
  rw[List.all_eq_true];intro c hc;simp only[Tab.cells,List.mem_flatMap]at hc;obtain⟨x,_,hx⟩:=hc
  exact List.all_eq_true.1 (KV sh x) c hx
 | imap g sh l=>rfl
 | tok id n=>rfl
theorem XF{sh:List CK} : ∀ {l:List (List Int)} {i j:Nat},i<l.length->j<sh.length->(l.flatMap (rowC sh))[i*sh.length+j]? = (rowC sh (getR l i))[j]?
 | [],i,j,h,_=>by simp at h
 | r::l,0,j,h,hj=>by
  rw[Nat.zero_mul,Nat.zero_add,List.flatMap_cons,List.getElem?_append_left (by rw[yh];exact hj)];rfl
 | r::l,i+1,j,h,hj=>by
  rw[List.flatMap_cons,List.getElem?_append_right (by rw[yh,Nat.add_mul];omega),yh]
  rw[show(i+1)*sh.length+j-sh.length=i*sh.length+j by rw[Nat.add_mul];omega]
  exact XF (by simpa using h) hj
theorem wy{sh:List CK} : ∀ (l:List (List Int)),(l.flatMap (rowC sh)).length=l.length*sh.length
 | []=>by simp
 | r::l=>by rw[List.flatMap_cons,dO,yh,wy l,List.length_cons,Nat.add_mul];omega
theorem Zs{l r:List C}{o n:Nat}(h:slice l o n=some r):r.length=n/\(n=0\/o+n<=l.length)/\ ∀j,j<n->r[j]? = l[o+j]? :=by
 obtain⟨h1,h2⟩:=qO l o n r h
 refine⟨h1,?_,fun j hj=>(h2 j hj).1⟩
 cases n with
 | zero=>exact .inl rfl
 | succ n=>have:=(h2 n (by omega)).2;exact .inr (by omega)
theorem xb9 : ∀ {l r:List C} {o n:Nat},r.length=n->(∀j,j<n->r[j]? = l[o+j]?)->slice l o n=some r
 | l,[],o,n,h,_=>by simp at h;subst h;exact slice_zero' l o
 | l,x::r,o,n,h,hj=>by
  obtain rfl:n=r.length+1:=by simpa using h.symm
  have h0:=hj 0 (by omega)
  simp only[List.getElem?_cons_zero,Nat.add_zero]at h0
  obtain⟨ao,_⟩:=List.getElem?_eq_some_iff.1 h0.symm
  induction l generalizing o with
  | nil=>simp at ao
  | cons a l ih=>
   cases o with
   | zero=>
    simp only[List.getElem?_cons_zero,oI]at h0
    subst h0
    have:=xb9 (l:=l) (r:=r) (o:=0) (n:=r.length) rfl fun j Hs=>by
     have:=hj (j+1) (by omega)
     simpa using this
    simp only[slice,this]
   | succ o=>
    simp only[slice]
    exact ih o (fun j Hs=>by rw[hj j Hs,show o+1+j=(o+j)+1 by omega];simp) (by simpa using h0) (by simpa using ao) (by assumption)
where slice_zero' (l:List C) (o:Nat):slice l o 0=some []:=by cases l<;>cases o<;>rfl
theorem XG{P:Program}{t:TypeId}{l m:List C}{f o:Nat}{v:V}(h:partT P t m f=some v)(hs : ∀j,j<m.length->l[o+j]? = m[j]?):partT P t l (o+f)=some v:=by
 have key : ∀ {n:Nat} {r:List C},slice m f n=some r->slice l (o+f) n=some r:=by
  intro n r hr
  obtain⟨h1,h2,h3⟩:=Zs hr
  refine xb9 h1 fun j hj =>?_
  have K3:f+j<m.length:=by omega
  rw[h3 j hj,Nat.add_assoc,hs (f+j) K3]
 unfold partT at h |-
 split at h
 .rw[oM]at h
  obtain⟨r,h1,h2⟩:=h
  rw[key h1];exact congrArg some h2
 .split at h
  .rename_i hx
   rw[key hx];exact h
  .cases h
 .cases h
theorem xaR{m:Nat}{i:Int}(h:inR m i=true):0<=i/\i.toNat<m:=by
 unfold inR at h
 rw[decide_eq_true_eq]at h
 omega
theorem xca{P:Program}{t:TypeId}{k:Blk}{off n f:Nat}{i:Int}{v:V}(h:KN P t k off i n f=some (true,v)):(k.win=none/\off=0\/k.win=some off)/\partT P t k.real (i.toNat*n+f)=some v:=by
 have one : ∀ {kd:IntKind} {l:List Int},i.toNat<l.length ->∀j,j<([C.int kd (getI l i.toNat)]:List C).length->(l.map (C.int kd))[i.toNat*1+j]? = [C.int kd (getI l i.toNat)][j]? :=by
  intro kd l hl j hj
  obtain rfl:j=0:=by simpa using hj
  simp[getI,List.getElem?_eq_getElem hl]
 unfold KN at h
 split at h
 .cases h
 all_goals rename_i ht
 all_goals first|(cases h;done)|skip
 all_goals split at h
 all_goals first|(cases h;done)|skip
 all_goals rename_i hc
 all_goals rw[oM]at h
 all_goals obtain⟨u,h1,h2⟩:=h
 all_goals simp only[dI,dM]at h2
 .obtain⟨h3,rfl⟩:=h2
  obtain⟨rfl,rfl⟩:=hc
  refine⟨.inl ⟨by unfold Blk.win;rw[ht],rfl⟩,?_⟩
  rw[Blk.real,ht]
  exact XG h1 (one (xaR h3).2)
 .obtain⟨h3,rfl⟩:=h2
  obtain⟨rfl,rfl⟩:=hc
  refine⟨.inl ⟨by unfold Blk.win;rw[ht],rfl⟩,?_⟩
  rw[Blk.real,ht]
  exact XG h1 fun j hj=>XF (xaR h3).2 (by rw[yh]at hj;exact hj)
 .obtain⟨⟨h4,h3⟩,rfl⟩:=h2
  obtain rfl:=hc
  obtain rfl:=dP h4
  refine⟨.inr (by unfold Blk.win;rw[ht]),?_⟩
  rw[Blk.real,ht]
  exact XG h1 (one (xaR h3).2)
 .obtain⟨⟨h4,h3⟩,rfl⟩:=h2
  obtain rfl:=hc
  obtain rfl:=dP h4
  refine⟨.inr (by unfold Blk.win;rw[ht]),?_⟩
  rw[Blk.real,ht]
  exact XG h1 fun j hj=>XF (xaR h3).2 (by rw[yh]at hj;exact hj)
theorem Ys{o n:Nat}{r:List C}(h:slice [] o n=some r):n=0/\r = []:=by
 cases n with
 | zero=>simp only[slice]at h;cases h;exact⟨rfl,rfl⟩
 | succ n=>cases o<;>simp[slice]at h
theorem Vh(l:List C)(o:Nat):slice l o 0=some []:=by cases l<;>cases o<;>rfl
theorem Xf{k:Blk}{o n:Nat}{r:List C}(h:slice k.own o n=some r):slice k.real o n=some r:=by
 cases ht:k.tab with
 | none=>rw[Blk.real_none ht];rw[Blk.own_none ht]at h;exact h
 | some t=>
  rw[Blk.own_some ht]at h
  obtain⟨rfl,rfl⟩:=Ys h
  exact Vh _ _
theorem KW{P:Program}{t:TypeId}{k:Blk}{o:Nat}{v:V}(h:partT P t k.own o=some v):partT P t k.real o=some v:=by
 unfold partT at h |-
 split at h
 .rw[oM]at h
  obtain⟨l,h1,h2⟩:=h
  rw[Xf h1];exact congrArg some h2
 .split at h
  .rename_i hx
   rw[Xf hx];exact h
  .cases h
 .cases h
theorem xaS : ∀ (l:List Int) (o:Nat),inB l o=decide (o<l.length)
 | [],o=>by simp[inB]
 | x::l,0=>by simp[inB]
 | x::l,o+1=>by simp[inB,xaS l o]
theorem xaT{l:List C}{o:Nat}{x:C}(h:l[o]? = some x):slice l o 1=some [x]:=by
 induction l generalizing o with
 | nil=>simp at h
 | cons a l ih=>
  cases o with
  | zero=>simp at h;subst h;simp[slice,Vh]
  | succ o=>simp at h;simpa[slice]using ih h
theorem xcb{P:Program}{t:TypeId}{k:Blk}{o:Nat}{v:V}(hk:k.ok)(h:YU P t k o=some (true,v)):partT P t k.real o=some v:=by
 unfold YU at h
 split at h
 .rename_i ht
  rw[oM]at h
  obtain⟨u,h1,h2⟩:=h
  cases h2
  exact KW (by rw[Blk.own_none ht];exact h1)
 .rename_i kd l ht
  split at h
  .rename_i n h1 h2
   simp only[oI,dI]at h
   obtain⟨h3,rfl⟩:=h
   rw[xaS,decide_eq_true_eq]at h3
   unfold partT
   rw[Blk.real_some ht,h1,h2]
   have:(Tab.col kd l).cells[o]? = some (.int kd (l.getD o 0)):=by
    simp[Tab.cells,List.getElem?_eq_getElem h3]
   simp only[xaT this]
  .cases h
 .rename_i sh l ht
  rw[oM]at h
  obtain⟨u,h1,h2⟩:=h
  cases h2
  rw[Blk.real_some ht]
  exact h1
 .cases h
theorem KX{P:Program}{t:TypeId}{k:Blk}{o:Nat}{r:Bool×V}(h:YU P t k o=some r) : ∀t,k.tab=some t->t.isTok=false:=by
 intro tb ht
 unfold YU at h
 rw[ht]at h
 cases tb<;>first|rfl|cases h
theorem Yt{P:Program}{t:TypeId}{k:Blk}{off n f:Nat}{i:Int}{r:Bool×V}(h:KN P t k off i n f=some r) : ∀t,k.tab=some t->t.isTok=false:=by
 intro tb ht
 unfold KN at h
 rw[ht]at h
 cases tb<;>first|rfl|cases h
theorem xgb{P:Program}{t:TypeId}{k:Blk}{o:Nat}{r:Bool×V}(h:YU P t k o=some r):k.win=none:=by
 unfold YU at h
 unfold Blk.win
 split at h
 .rename_i ht;rw[ht]
 .rename_i ht;rw[ht]
 .rename_i ht;rw[ht]
 .cases h
theorem jq(l:List C)(o:Nat):splice l o []=some l:=by cases l<;>cases o<;>rfl
theorem Kw{l:List C}{o:Nat}{x:C}(h:o<l.length):splice l o [x]=some (l.set o x):=by
 induction l generalizing o with
 | nil=>simp at h
 | cons a l ih=>
  cases o with
  | zero=>simp[splice,jq]
  | succ o=>simp at h;simp[splice,ih h]
theorem Xg : ∀ (sh:List CK) (j:Nat) (a:Int) (r:List Int),rowG sh (j+1) (a::r)=rowG sh j r
 | [],j,a,r=>rfl
 | s::sh,j,a,r=>by
  simp only[rowG]
  rw[Xg sh (j+1) a r]
  rfl
theorem kV : ∀ (xs:List C) (sh:List CK) (r:List Int),yk xs=some (sh,r)->rowC sh r=xs/\sh.length=xs.length
 | [],sh,r,h=>by simp only[yk,oI,dI]at h;obtain⟨rfl,rfl⟩:=h;exact⟨rfl,rfl⟩
 | .int k n::l,sh,r,h=>by
  simp only[yk]at h
  split at h
  .rename_i lq r' hr
   cases h
   obtain⟨h1,h2⟩:=kV l lq r' hr
   refine⟨?_,by simp[h2]⟩
   show _::rowG lq 1 (n::r')=_
   rw[Xg];exact congrArg (C.int k n :: ·) h1
  .cases h
 | .bool b::l,sh,r,h=>by
  simp only[yk]at h
  split at h
  .rename_i lq r' hr
   cases h
   obtain⟨h1,h2⟩:=kV l lq r' hr
   refine⟨?_,by simp[h2]⟩
   show CK.bool.cell (bif b then 1 else 0)::rowG lq 1 ((bif b then 1 else 0)::r')=_
   rw[Xg]
   have:CK.bool.cell (bif b then 1 else 0) = .bool b:=by cases b<;>rfl
   rw[this];exact congrArg (C.bool b :: ·) h1
  .cases h
 | .nilp::l,sh,r,h=>by simp[yk]at h
 | .ptr _ _::l,sh,r,h=>by simp[yk]at h
 | .nils::l,sh,r,h=>by simp[yk]at h
 | .sl _ _ _ _::l,sh,r,h=>by simp[yk]at h
 | .slg _ _ _::l,sh,r,h=>by simp[yk]at h
 | .pr _ _ _ _ _::l,sh,r,h=>by simp[yk]at h
 | .slw _ _ _ _ _::l,sh,r,h=>by simp[yk]at h
 | .slr _ _::l,sh,r,h=>by simp[yk]at h
 | .slv _ _ _ _::l,sh,r,h=>by simp[yk]at h
 | .slx _ _ _ _ _ _::l,sh,r,h=>by simp[yk]at h
 | .fn _ _::l,sh,r,h=>by simp[yk]at h
 | .meth _ _::l,sh,r,h=>by simp[yk]at h
 | .nilf::l,sh,r,h=>by simp[yk]at h
 | .nili::l,sh,r,h=>by simp[yk]at h
 | .nilm::l,sh,r,h=>by simp[yk]at h
 | .port::l,sh,r,h=>by simp[yk]at h
 | .mp _::l,sh,r,h=>by simp[yk]at h
 | .str _::l,sh,r,h=>by simp[yk]at h
 | .gp _ _::l,sh,r,h=>by simp[yk]at h
 | .ifc _ _::l,sh,r,h=>by simp[yk]at h
theorem YX : ∀ (xs ys rest:List C),xs.length=ys.length->splice (ys++rest) 0 xs=some (xs++rest)
 | [],[],rest,_=>jq _ _
 | x::xs,y::ys,rest,h=>by
  simp only[List.cons_append,splice]
  rw[YX xs ys rest (by simpa using h)]
 | [],_::_,rest,h=>by simp at h
 | _::_,[],rest,h=>by simp at h
theorem qQ : ∀ (ys rest:List C) (o:Nat) (xs r:List C),splice rest o xs=some r->splice (ys++rest) (ys.length+o) xs=some (ys++r)
 | [],rest,o,xs,r,h=>by simpa using h
 | y::ys,rest,o,[],r,h=>by
  rw[jq]at h |-
  cases h;rfl
 | y::ys,rest,o,x::xs,r,h=>by
  rw[show(y::ys).length+o=(ys.length+o)+1 by simp only[List.length_cons];omega]
  simp only[List.cons_append,splice]
  rw[qQ ys rest o (x::xs) r h]
theorem Vi{sh:List CK}{r:List Int} : ∀ {l:List (List Int)} {i:Nat},i<l.length->splice (l.flatMap (rowC sh)) (i*sh.length) (rowC sh r)=some ((l.set i r).flatMap (rowC sh))
 | [],i,h=>by simp at h
 | a::l,0,h=>by
  rw[Nat.zero_mul,List.flatMap_cons,List.set_cons_zero,List.flatMap_cons]
  exact YX _ _ _ (by rw[yh,yh])
 | a::l,i+1,h=>by
  rw[List.flatMap_cons,List.set_cons_succ,List.flatMap_cons,show(i+1)*sh.length=(rowC sh a).length+i*sh.length by rw[yh,Nat.add_mul];omega]
  exact qQ _ _ _ _ _ (Vi (by simpa using h))
theorem qj : ∀ (a b:List C) (j:Nat) (xs c:List C),splice a j xs=some c->splice (a++b) j xs=some (c++b)
 | a,b,j,[],c,h=>by
  rw[jq]at h |-
  cases h;rfl
 | [],b,j,x::xs,c,h=>by simp[splice]at h
 | y::a,b,0,x::xs,c,h=>by
  simp only[List.cons_append,splice]at h |-
  split at h
  .rename_i r hr
   cases h
   rw[qj a b 0 xs r hr]
   rfl
  .cases h
 | y::a,b,j+1,x::xs,c,h=>by
  simp only[List.cons_append,splice]at h |-
  split at h
  .rename_i r hr
   cases h
   rw[qj a b j (x::xs) r hr]
   rfl
  .cases h
theorem YY{sh:List CK}{xs cs:List C}{r:List Int}{j:Nat}(hr:rowC sh r=cs) : ∀ {l:List (List Int)} {i:Nat},i<l.length->splice (rowC sh (getR l i)) j xs=some cs->splice (l.flatMap (rowC sh)) (i*sh.length+j) xs=some ((l.set i r).flatMap (rowC sh))
 | [],i,h,_=>by simp at h
 | a::l,0,h,hs=>by
  rw[Nat.zero_mul,Nat.zero_add,List.flatMap_cons,List.set_cons_zero,List.flatMap_cons,hr]
  exact qj _ _ _ _ _ hs
 | a::l,i+1,h,hs=>by
  rw[List.flatMap_cons,List.set_cons_succ,List.flatMap_cons,show(i+1)*sh.length+j=(rowC sh a).length+(i*sh.length+j)by rw[yh,Nat.add_mul];omega]
  exact qQ _ _ _ _ _ (YY hr (by simpa using h) hs)
theorem xgc{sh:List CK}{l:List (List Int)}{o:Nat}{xs:List C}{r:List Int}(h:xdK sh l o xs=some r)(hi:o / sh.length<l.length):splice (l.flatMap (rowC sh)) o xs=some ((l.set (o / sh.length) r).flatMap (rowC sh)):=by
 have K8:=Nat.div_add_mod o sh.length
 unfold xdK at h
 split at h
 .rename_i lq r' hu
  split at h
  .rename_i hc
   obtain⟨rfl,Fn⟩:=hc
   cases h
   obtain⟨h1,_⟩:=kV xs lq r hu
   have ho:o=o / lq.length*lq.length:=by
    rw[Fn,Nat.mul_comm]at K8
    omega
   have key:=Vi (sh:=lq) (r:=r) hi
   rw[<- ho,h1]at key
   exact key
  .split at h
   .rename_i cs hs
    split at h
    .rename_i nn r2 Jf
     split at h
     .rename_i he
      subst he
      cases h
      have key:=YY (kV cs nn r Jf).1 hi hs
      rwa [show o / nn.length*nn.length+o%nn.length=o by rw[Nat.mul_comm];omega]at key
     .cases h
    .cases h
   .cases h
 .cases h
theorem Xh{k k':Blk}{o:Nat}{xs:List C}{g:Bool}(h:kZ k o xs=some (g,k')):k.win=none/\k'.win=none/\k'.wid=k.wid:=by
 unfold kZ at h
 unfold Blk.win Blk.wid
 split at h
 .rename_i ht
  split at h
  .cases h;simp only[ht];trivial
  .cases h
 .rename_i kd l ht
  split at h
  .split at h
   .cases h;simp only[ht];trivial
   .cases h
  .cases h
 .rename_i sh l ht
  split at h
  .cases h;simp only[ht];trivial
  .cases h
 .cases h
theorem vY{k k':Blk}{o:Nat}{xs:List C}{g:Bool}(h:kZ k o xs=some (g,k')):k.mapped=none/\k'.mapped=none:=by
 unfold kZ at h
 unfold Blk.mapped
 split at h
 .rename_i ht
  split at h
  .cases h;simp only[ht];trivial
  .cases h
 .rename_i kd l ht
  split at h
  .split at h
   .cases h;simp only[ht];trivial
   .cases h
  .cases h
 .rename_i sh l ht
  split at h
  .cases h;simp only[ht];trivial
  .cases h
 .cases h
theorem qR{k k':Blk}{o:Nat}{xs:List C}(h:kZ k o xs=some (true,k')):k.virt=false/\k'.virt=false:=by
 unfold kZ at h
 split at h
 .rename_i ht
  split at h
  .cases h;exact⟨Blk.virt_none ht,Blk.virt_none (k :={k with cells:=_}) ht⟩
  .cases h
 .rename_i kd l ht
  split at h
  .split at h
   .simp only[oI,dI]at h
    obtain⟨h3,rfl⟩:=h
    rw[xaS,decide_eq_true_eq]at h3
    unfold Blk.virt
    simp only[ht]
    cases l with
    | nil=>simp at h3
    | cons a l=>cases o<;>simp[wX]
   .cases h
  .cases h
 .rename_i sh l ht
  split at h
  .simp only[oI,dI]at h
   obtain⟨h3,rfl⟩:=h
   rw[blt_eq,decide_eq_true_eq]at h3
   unfold Blk.virt
   simp only[ht]
   cases l with
   | nil=>simp at h3
   | cons a l=>cases (o / sh.length)<;>simp[wX]
  .cases h
 .cases h
theorem xgd{k k':Blk}{o:Nat}{xs:List C}(hk:k.ok)(h:kZ k o xs=some (true,k')):k'.ok/\k'.elem=k.elem/\k'.grown=k.grown/\splice k.real o xs=some k'.real:=by
 unfold kZ at h
 split at h
 .rename_i ht
  split at h
  .rename_i cs bk
   cases h
   refine⟨Blk.ok_none ht,rfl,rfl,?_⟩
   rw[Blk.real_none ht,Blk.real_none (k :={k with cells:=cs}) ht]
   exact bk
  .cases h
 .rename_i kd l ht
  split at h
  .rename_i kd' x
   split at h
   .rename_i ft
    subst ft
    simp only[oI,dI]at h
    obtain⟨h3,rfl⟩:=h
    rw[xaS,decide_eq_true_eq]at h3
    refine⟨fun t _ _=>hk _ ht rfl,rfl,rfl,?_⟩
    rw[Blk.real_some ht,Blk.real_some (k :={k with tab:=some (.col kd' (l.set o x))}) rfl]
    simp only[Tab.cells]
    rw[Kw (by simpa using h3),List.map_set]
   .cases h
  .cases h
 .rename_i sh l ht
  split at h
  .rename_i r hu
   simp only[oI,dI]at h
   obtain⟨h3,rfl⟩:=h
   rw[blt_eq,decide_eq_true_eq]at h3
   refine⟨fun t _ _=>hk _ ht rfl,rfl,rfl,?_⟩
   rw[Blk.real_some ht,Blk.real_some (k :={k with tab:=some (.rows sh (l.set (o / sh.length) r))}) rfl]
   exact xgc hu h3
  .cases h
 .cases h
theorem cell_of{w:World}{r o:Nat}{c:Array Value}{t:TypeId}{f:Nat×Nat}(h:w.heap[r]? = some (.cells c t f)):w.cell? ⟨r,o,none⟩=c[o]? :=by
 simp[World.cell?,h]
theorem wM(P:Program)(w:World)(r o:Nat) : ∀ (n i:Nat) (vs:List Value) (acc:Array Value),vs.length=n->(∀j,j<n->w.cell? ⟨r,o+(i+j),none⟩=vs[j]?)->
  (loadCellsFrom ⟨r,o,none⟩ i n acc).run P w = .ok (acc++vs.toArray) w
 | 0,i,vs,acc,hl,h=>by
  obtain rfl:=List.length_eq_zero_iff.1 hl
  simp[loadCellsFrom,pure,Sem.run]
 | n+1,i,[],acc,hl,h=>by simp at hl
 | n+1,i,v::vs,acc,hl,h=>by
  have h0:=h 0 (by omega)
  simp only[Nat.add_zero,List.getElem?_cons_zero]at h0
  have ha:(⟨r,o,none⟩:Addr).add i=⟨r,o+i,none⟩:=by
   unfold Addr.add
   split
   .rename_i hi;subst hi;rfl
   .rfl
  have ih:=wM P w r o n (i+1) vs (acc.push v) (by simpa using hl) fun j hj=>by
   have:=h (j+1) (by omega)
   rw[show i+1+j=i+(j+1)by omega,this]
   simp
  simp only[loadCellsFrom,ha,load,bind,Sem.bind,Sem.run,h0,ih]
  simp
theorem wZ{P:Program}{t:TypeId}{d:TypeDesc}(h:P.underlying t=some d)(w:World):(isAgg t).run P w = .ok (xhv d) w:=by
 simp only[isAgg,underlying,program,bind,Sem.bind,Sem.run,h]
 cases d<;>rfl
theorem xw{P:Program}{t:TypeId}{n:Nat}(h:xR P t=some n)(w:World):(sizeOf t).run P w = .ok n w:=by
 unfold xR at h
 rw[oM]at h
 obtain⟨i,hi,rfl⟩:=h
 simp[sizeOf,typeInfo,program,bind,Sem.bind,Sem.run,hi,pure]
theorem xa{P:Program}{t:TypeId}{d:TypeDesc}(h:P.underlying t=some d)(w:World):(underlying t).run P w = .ok d w:=by
 simp[underlying,program,bind,Sem.bind,Sem.run,h,pure]
theorem Zt{l:List C}{o:Nat}{x:C}(h:slice l o 1=some [x]):l[o]? = some x:=by
 have:=((qO l o 1 [x] h).2 0 (by omega)).1
 simpa using this.symm
theorem jd{pv:Value}{P:Program}{e:Env}{cells:List C}{cs:List Value}{w:World}{r q o:Nat}{t:TypeId}{v:V}
  (hd:denL pv e cells=some cs) (hw : ∀j u,cs[j]? = some u->w.cell? ⟨r,q+j,none⟩=some u) (h:partT P t cells o=some v) :
  ∃rv,(loadVar t ⟨r,q+o,none⟩).run P w = .ok rv w/\denV pv e v=some rv:=by
 unfold partT KM at h
 split at h
 .rename_i n hu hn
  rw[oM]at hu
  obtain⟨d,eq,dr⟩:=hu
  rw[oM]at h
  obtain⟨l,hl,rfl⟩:=h
  have bu:denL pv e l=some (cs.extract o (o+n))/\(n=0\/o+n<=cs.length):=by
   rcases Xe hd hl with⟨h1,h2⟩|⟨rfl,rfl⟩
   .exact⟨h1,.inr h2⟩
   .exact⟨by simp[denL],.inl rfl⟩
  refine⟨.agg (cs.extract o (o+n)).toArray,?_,by simp[denV,bu.1]⟩
  have hr:=wM P w r (q+o) n 0 (cs.extract o (o+n)) #[] (by simp;omega) fun j hj=>by
   have ao:o+j<cs.length:=by omega
   rw[show q+o+(0+j)=q+(o+j)by omega,hw (o+j) _ (List.getElem?_eq_getElem ao),List.extract_eq_take_drop,List.getElem?_take,dB (by omega),List.getElem?_drop,List.getElem?_eq_getElem ao]
  simp only[loadVar,Sem.run_bind,wZ eq,Result.andThen_ok,dr,if_true,xw hn,loadCells,hr,Sem.run_pure]
  simp
 .rename_i n hu hn
  rw[oM]at hu
  obtain⟨d,eq,dr⟩:=hu
  split at h
  .rename_i x hx
   cases h
   obtain⟨rv,h1,h2⟩:=ku hd (Zt hx)
   refine⟨rv,?_,h1⟩
   have hc:=hw o rv h2
   simp[loadVar,wZ eq,dr,hc]
  .cases h
 .cases h
theorem KY{pv:Value}{P:Program}{e:Env}{cells:List C}{cs tl:List Value}{w:World}{r o:Nat}{el t:TypeId}{v:V}{f:Nat×Nat}
  (hd:denL pv e cells=some cs) (hw:w.heap[r]? = some (.cells (cs++tl).toArray el f)) (h:partT P t cells o=some v) :
  ∃rv,(loadVar t ⟨r,o,none⟩).run P w = .ok rv w/\denV pv e v=some rv:=by
 have:=jd (P:=P) (q:=0) hd (fun j u hj=>by
  rw[Nat.zero_add,cell_of hw,List.getElem?_toArray,List.getElem?_append_left (List.getElem?_eq_some_iff.1 hj).1,hj]) h
 rwa [Nat.zero_add]at this
theorem kv{pv:Value}{P:Program}{e:Env}{cells:List C}{cs:List Value}{w:World}{o:Nat}{t:TypeId}{v:V}
  (hd:denL pv e cells=some cs) (h:partT P t cells o=some v) :
  ∃rv,(part t cs.toArray o).run P w = .ok rv w/\denV pv e v=some rv:=by
 unfold partT KM at h
 split at h
 .rename_i n hu hn
  rw[oM]at hu
  obtain⟨d,eq,dr⟩:=hu
  rw[oM]at h
  obtain⟨l,hl,rfl⟩:=h
  have bu:denL pv e l=some (cs.extract o (o+n)):=by
   rcases Xe hd hl with⟨h1,h2⟩|⟨rfl,rfl⟩
   .exact h1
   .simp[denL]
  refine⟨.agg (cs.extract o (o+n)).toArray,?_,by simp[denV,bu]⟩
  simp[part,wZ eq,dr,xw hn]
 .rename_i n hu hn
  rw[oM]at hu
  obtain⟨d,eq,dr⟩:=hu
  split at h
  .rename_i x hx
   cases h
   obtain⟨rv,h1,h2⟩:=ku hd (Zt hx)
   refine⟨rv,?_,h1⟩
   simp[part,wZ eq,dr,h2]
  .cases h
 .cases h
/-! ### writing -/
theorem setCell_eq{w:World}{r o:Nat}{c:Array Value}{t:TypeId}{f:Nat×Nat}(h:w.heap[r]? = some (.cells c t f))(v:Value) :
  w.setCell ⟨r,o,none⟩ v = {w with heap:=w.heap.setIfInBounds r (.cells (c.setIfInBounds o v) t f)}:=by
 obtain⟨hr,hc⟩:=Array.getElem?_eq_some_iff.1 h
 simp only[World.setCell]
 congr 1
 apply Array.ext
 .simp
 .intro i h1 h2
  rw[Array.getElem_modify]
  split
  .rename_i hi;subst hi;simp[hc]
  .rename_i hi
   rw[Array.getElem_setIfInBounds_ne _ hi]
theorem vK(P:Program)(r o:Nat)(el:TypeId) : ∀ (vs:List Value) (i:Nat) (w:World) (cs:List Value),w.heap[r]? = some (.cells cs.toArray el (0,0))->(∀v∈vs,One v)->o+i+vs.length<=cs.length->
  (storeCells ⟨r,o,none⟩ vs i).run P w = .ok () {w with heap:=w.heap.setIfInBounds r (.cells (put cs (o+i) vs).toArray el (0,0))}
 | [],i,w,cs,hw,h1,hl=>by
  obtain⟨hr,hc⟩:=Array.getElem?_eq_some_iff.1 hw
  simp only[storeCells,Sem.run_pure,put]
  congr 1
  have:w.heap.setIfInBounds r (.cells cs.toArray el (0,0))=w.heap:=by
   rw[<- hc,Array.setIfInBounds_def,dif_pos hr,Array.set_getElem_self]
  rw[this]
 | v::vs,i,w,cs,hw,h1,hl=>by
  simp only[List.length_cons]at hl
  have ha:(⟨r,o,none⟩:Addr).add i=⟨r,o+i,none⟩:=by
   unfold Addr.add
   split
   .rename_i hi;subst hi;rfl
   .rfl
  have fw : ∃u,w.cell? ⟨r,o+i,none⟩=some u:=by
   rw[cell_of hw]
   exact⟨cs[o+i]'(by omega),by simp⟩
  obtain⟨u,hu⟩:=fw
  have C7:w.frozen? ⟨r,o+i,none⟩=false:=by simp[World.frozen?,hw]
  have hv:=h1 v (by simp)
  have az:(store ⟨r,o+i,none⟩ v).run P w = .ok () (w.setCell ⟨r,o+i,none⟩ v):=by
   cases v with
   | agg c=>exact absurd rfl (hv.1 c)
   | tuple c=>exact absurd rfl (hv.2 c)
   | _=>simp only[store,Sem.run,hu,C7];rfl
  obtain⟨hr,hc⟩:=Array.getElem?_eq_some_iff.1 hw
  have Er:(w.setCell ⟨r,o+i,none⟩ v).heap[r]? = some (.cells (cs.set (o+i) v).toArray el (0,0)):=by
   rw[setCell_eq hw]
   simp[hr]
  have ih:=vK P r o el vs (i+1) (w.setCell ⟨r,o+i,none⟩ v) (cs.set (o+i) v) Er (fun x hx=>h1 x (by simp[hx])) (by simp;omega)
  simp only[storeCells,ha,Sem.run_bind,az,Result.andThen_ok,ih]
  congr 1
  rw[setCell_eq hw]
  simp only[put,Nat.add_assoc,Array.setIfInBounds_setIfInBounds]
theorem Emb.stored{pv:Pv}{e:Env}{H:Heap}{w:World}(E:Emb pv e H w){b:Nat}{k kn:Blk}{r:Nat×Nat}{zp tl:List Value}(hk:blkAt H b=some k)(hr:e[b]? = some r)
  (hd:denL pv e kn.real=some zp) (ay:kn.ok) (ss:kn.elem=k.elem) (eo:kn.grown=k.grown) (y9:k.win=none) (Cq:kn.win=none) (lw:k.virt=false) (Cr:kn.virt=false) (pq:kn.wid=k.wid) (h1:k.grown=false->tl = []) (h2:k.grown=true->(zp++tl).length=r.2*k.wid/\r.2<=maxLen) (J5:k.mapped=none) (Jx:kn.mapped=none) :
  Emb pv e (setB H b (some kn)) {w with heap:=w.heap.setIfInBounds r.1 (.cells (zp++tl).toArray k.elem (0,0))}:=by
 obtain⟨r0,Ma,tl0,my,_,Jc,_,_⟩:=E.row b k hk y9 lw J5
 rw[hr]at my
 cases my
 obtain⟨ao,_⟩:=Array.getElem?_eq_some_iff.1 Jc
 have oq : ∀i k',blkAt (setB H b (some kn)) i=some k'->(i=b/\k'=kn)\/(i≠b/\blkAt H i=some k'):=by
  intro i k' h
  rw[yz,xH,List.getElem?_set]at h
  split at h
  .rename_i hi
   subst hi
   split at h
   .simp at h;exact .inl ⟨rfl,h.symm⟩
   .simp at h
  .rename_i hi
   exact .inr ⟨fun h=>hi h.symm,by rw[xH];exact h⟩
 refine⟨by rw[yz,List.length_set];exact E.len,fun i k' am =>?_,fun i j k' k'' r1 r2 h3 h4 h5 h6 h7 v1 v2 =>?_,fun i k' am =>?_⟩
 rotate_right
 .rcases oq i k' am with⟨_,rfl⟩|⟨_,h⟩
  .exact ay
  .exact E.ok i k' h
 .rcases oq i k' am with⟨rfl,rfl⟩|⟨ae,am⟩
  .exact⟨r,zp,hr,hd,Lies.mk (tl:=tl) Cq (by simp[ao,ss]) (fun h=>h1 (eo.symm.trans h)) (fun h=>by rw[pq];exact h2 (eo.symm.trans h)) Jx (fun t ht=>by cases hq:t.isTok with|false=>rfl|true=>(cases t<;>first|cases hq|skip);unfold Blk.virt at Cr;rw[ht]at Cr;cases Cr)⟩
  .obtain⟨r',cs,ct,eq,f6⟩:=E.lies i k' am
   refine⟨r',cs,ct,eq,f6.same fun hv =>?_⟩
   have:r.1≠r'.1:=fun h=>ae (E.inj i b k' k r' r am hk ct hr h.symm hv lw (.inr y9))
   simp[Array.getElem?_setIfInBounds,this]
 .have g1 : ∃k1,blkAt H i=some k1/\k1.win.isSome=k'.win.isSome/\k1.virt=false:=by rcases oq i k' h3 with⟨h,h'⟩|⟨_,h⟩<;>first|exact⟨k,h▸hk,by rw[h',y9,Cq],lw⟩|exact⟨_,h,rfl,v1⟩
  have g2 : ∃k1,blkAt H j=some k1/\k1.win.isSome=k''.win.isSome/\k1.virt=false:=by rcases oq j k'' h4 with⟨h,h'⟩|⟨_,h⟩<;>first|exact⟨k,h▸hk,by rw[h',y9,Cq],lw⟩|exact⟨_,h,rfl,v2⟩
  obtain⟨k1,g1,g3,g5⟩:=g1
  obtain⟨k2,g2,g4,g6⟩:=g2
  rw[<- g3,<- g4]
  exact E.alone i j k1 k2 r1 r2 g1 g2 h5 h6 h7 g5 g6
theorem xdO{e:Env}{H:Heap}{b:Nat}{k kn:Blk}(hk:blkAt H b=some k)(lx:kn.win=none->k.win=none)(lw:k.virt=false){q:Bool}{x:Nat}(h:Own q e (setB H b (some kn)) x):Own q e H x:=by
 obtain⟨i,k',r,h1,h2,h3,hv,h4⟩:=h
 rw[yz,xH,List.getElem?_set]at h1
 split at h1
 .rename_i hi
  subst hi
  refine⟨b,k,r,hk,h2,h3,lw,fun hq=>lx ?_⟩
  split at h1
  .simp only[Option.join_some,oI]at h1
   rw[h1];exact h4 hq
  .simp at h1
 .exact⟨i,k',r,by rw[xH];exact h1,h2,h3,hv,h4⟩
/-! ### new blocks -/
theorem heap_alloc(w:World)(o:Obj):(w.alloc o).heap=w.heap.push o:=rfl
theorem yC(H:Heap)(k:Blk)(i:Nat):blkAt (newB H k) i=if i=H.length then some k else blkAt H i:=by
 rw[xH,xH,newB]
 by_cases h:i<H.length
 .rw[List.getElem?_append_left h,dA (by omega)]
 .by_cases h2:i=H.length
  .subst h2;simp
  .rw[dA h2,List.getElem?_eq_none (by simp;omega),List.getElem?_eq_none (by omega)]
theorem Emb.made{pv:Pv}{e:Env}{H:Heap}{w:World}(E:Emb pv e H w){cs:List C}{vs:List Value}(t:TypeId)(hd:denL pv e cs=some vs)(cap:Nat) :
  Emb pv (e ++ [(w.heap.size,cap)]) (newB H ⟨cs,t,false,none⟩) (w.alloc (.cells vs.toArray t)):=by
 have hx:Ext e (e ++ [(w.heap.size,cap)]):=⟨_,rfl⟩
 have aj:=E.len
 have ar : ∀i k,blkAt (newB H ⟨cs,t,false,none⟩) i=some k->(i=H.length/\k=⟨cs,t,false,none⟩)\/(blkAt H i=some k/\i<H.length):=by
  intro i k h
  rw[yC]at h
  split at h
  .cases h;exact .inl ⟨‹_›,rfl⟩
  .refine .inr ⟨h,?_⟩
   rw[xH]at h
   by_cases hi:i<H.length
   .exact hi
   .rw[List.getElem?_eq_none (by omega)]at h;simp at h
 refine⟨by simp[newB,aj],fun i k hk =>?_,fun i j k k' r r' hk am hr ct he v1 v2 =>?_,fun i k hk =>?_⟩
 rotate_right
 .rcases ar i k hk with⟨_,rfl⟩|⟨h,_⟩
  .intro t ht _;cases ht
  .exact E.ok i k h
 .rcases ar i k hk with⟨rfl,rfl⟩|⟨hk,hi⟩
  .refine⟨(w.heap.size,cap),vs,by simp[aj],yE hx _ _ hd,Lies.mk (tl :=[]) rfl (by rw[heap_alloc];simp) (fun _=>rfl) (fun h=>by cases h)⟩
  .obtain⟨r,cs',hr,eq,hw⟩:=E.lies i k hk
   refine⟨r,cs',hx.get hr,yE hx _ _ eq,hw.same fun hv =>?_⟩
   rw[heap_alloc,Array.getElem?_push,dA (Nat.ne_of_lt (hw.lt hv))]
 .have old : ∀i k r,blkAt H i=some k->k.virt=false->i<H.length->(e ++ [(w.heap.size,cap)])[i]? = some r->e[i]? = some r/\r.1<w.heap.size:=by
   intro i k r hk hv hi hr
   rw[List.getElem?_append_left (by omega)]at hr
   exact⟨hr,E.own_lt (vS hk hr hv)⟩
  have new : ∀r,(e ++ [(w.heap.size,cap)])[H.length]? = some r->r.1=w.heap.size:=by
   intro r hr
   rw[aj,List.getElem?_append_right (by omega)]at hr
   simp at hr
   simp[<- hr]
  rcases ar i k hk with⟨rfl,rfl⟩|⟨hk,hi⟩<;>rcases ar j k' am with⟨rfl,rfl⟩|⟨am,hj⟩
  .exact .inl rfl
  .have:=new r hr;have:=(old j k' r' am v2 hj ct).2;omega
  .have:=new r' ct;have:=(old i k r hk v1 hi hr).2;omega
  .exact E.alone i j k k' r r' hk am (old i k r hk v1 hi hr).1 (old j k' r' am v2 hj ct).1 he v1 v2
theorem xhB{pv:Pv}{e:Env}{H:Heap}{w:World}(E:Emb pv e H w){k:Blk}{cap x:Nat}{q:Bool}(h:Own q (e ++ [(w.heap.size,cap)]) (newB H k) x):Own q e H x\/x=w.heap.size:=by
 obtain⟨i,k',r,h1,h2,h3,hv,h4⟩:=h
 rw[yC]at h1
 split at h1
 .rename_i hi
  right
  rw[hi,E.len,List.getElem?_append_right (by omega)]at h2
  simp at h2
  rw[<- h3,<- h2]
 .left
  have:i<H.length:=by
   rw[xH]at h1
   by_cases hi:i<H.length
   .exact hi
   .rw[List.getElem?_eq_none (by omega)]at h1;simp at h1
  rw[List.getElem?_append_left (by rw[<- E.len];exact this)]at h2
  exact⟨i,k',r,h1,h2,h3,hv,h4⟩
end Lx
namespace Lx
open Go
def Did(P:Program)(pv:Pv)(ra:Operand->Value)(o:Oper)(e:Env)(H:Heap)(w:World)(v:V)(H':Heap):Prop:=
 ∃nx w' e' rv,(execOp ra o).run P w = .ok nx w'/\(nx = .value rv\/nx = .skip/\rv=undef)/\Ext e e'/\denV pv e' v=some rv/\Emb pv e' H' w'/\Keeps (Own true e H) w w'/\
 ∀q b,Own q e' H' b->Own q e H b\/w.heap.size<=b
def Says(pv:Value)(e:Env)(ρ:Operand->Option V)(ra:Operand->Value):Prop :=∀x v,ρ x=some v->denV pv e v=some (ra x)
section
variable{ρ:Operand->Option V}{P:Program}{pv:Pv}{ra:Operand->Value}{o:Oper}{e:Env}{H:Heap}{w:World}
theorem xt{v:V}{rv:Value}(E:Emb pv e H w)(h:(execOp ra o).run P w = .ok (.value rv) w)(hd:denV pv e v=some rv):Did P pv ra o e H w v H:=
 ⟨.value rv,w,e,rv,h,.inl rfl,Ext.refl e,hd,E,Keeps.refl _ w,fun _ _ hb =>.inl hb⟩
theorem Vj{cs:List C}{vs:List Value}{t:TypeId}{v:V}{rv:Value}{cap:Nat}(E:Emb pv e H w)(hd:denL pv e cs=some vs)
  (h:(execOp ra o).run P w = .ok (.value rv) (w.alloc (.cells vs.toArray t))) (hv:denV pv (e ++ [(w.heap.size,cap)]) v=some rv):Did P pv ra o e H w v (newB H ⟨cs,t,false,none⟩):=by
 refine⟨.value rv,_,e ++ [(w.heap.size,cap)],rv,h,.inl rfl,⟨_,rfl⟩,hv,E.made t hd cap,?_,fun q b hb =>?_⟩
 .refine⟨rfl,rfl,rfl,by rw[heap_alloc];simp,fun b hb _ =>?_⟩
  rw[heap_alloc,Array.getElem?_push,dA (by omega)]
 .rcases xhB E hb with h|h
  .exact .inl h
  .exact .inr (by omega)
theorem xfd(b c:Nat)(E:Emb pv e H w):den pv (e ++ [(b,c)]) (.ptr H.length 0)=some (.pointer (some ⟨b,0,none⟩)):=by
 simp[den,E.len]
theorem xcc{x:Operand}{v:V}(hρ:Says pv e ρ ra)(E:Emb pv e H w)(ho:o.op = .move x\/o.op = .assign x)(h:ρ x=some v):Did P pv ra o e H w v H:=by
 refine xt E (rv:=ra x) ?_ (hρ x v h)
 rcases ho with ho|ho<;>simp[execOp,ho]
theorem xcd{c a b:Operand}{t:Bool}{v:V}(hρ:Says pv e ρ ra)(E:Emb pv e H w)(ho:o.op = .pick c a b)(hc:ρ c=some (.c (.bool t)))(h:ρ (cond t a b)=some v):Did P pv ra o e H w v H:=by
 have h1:=hρ c _ hc
 simp only[denV,den,oI]at h1
 refine xt E (rv:=ra (cond t a b)) ?_ (hρ _ v h)
 cases t<;>simp[execOp,ho,<- h1,asBool]
theorem ke{t:TypeId}{z:V}(h:jH P t=some z)(pv:Value)(e:Env) : ∃v,(∀w,(zeroValue t).run P w = .ok v w)/\denV pv e z=some v:=by
 unfold jH at h
 split at h
 .rename_i i hi
  split at h
  .rename_i v hv
   exact⟨v,fun w=>by simp[zeroValue,typeInfo,program,Sem.run,hi,hv,bind,Sem.bind,pure],Vf h⟩
  .cases h
 .cases h
theorem xge{t:TypeId}{z:V}{cs:List C}(hp:One pv)(E:Emb pv e H w)(ho:o.op = .alloc t)(hz:jH P t=some z)(hc:z.cells=some cs):Did P pv ra o e H w (.c (.ptr H.length 0)) (newB H ⟨cs,t,false,none⟩):=by
 obtain⟨v,h1,h2⟩:=ke hz pv e
 refine Vj (cap:=0) E (vq hp h2 hc) (rv :=.pointer (some ⟨w.heap.size,0,none⟩)) ?_ (xfd _ _ E)
 simp[execOp,ho,Instr.alloc,h1,newVar,newRow]
theorem did_box{t:TypeId}{x:Operand}{v:V}{cs:List C}(hρ:Says pv e ρ ra)(hp:One pv)(E:Emb pv e H w)(ho:o.op = .box t x)(hx:ρ x=some v)(hc:v.cells=some cs):Did P pv ra o e H w (.c (.ptr H.length 0)) (newB H ⟨cs,t,false,none⟩):=by
 refine Vj (cap:=0) E (vq hp (hρ x v hx) hc) (rv :=.pointer (some ⟨w.heap.size,0,none⟩)) ?_ (xfd _ _ E)
 simp[execOp,ho,Instr.box,newVar,newRow]
theorem xhC{t:TypeId}{a:Operand}{b p:Nat}{k:Blk}{v:V}(hρ:Says pv e ρ ra)(E:Emb pv e H w)(ho:o.op = .load t a)(ha:ρ a=some (.c (.ptr b p)))(hk:blkAt H b=some k)(h:YU P t k p=some (true,v)):Did P pv ra o e H w v H:=by
 obtain⟨r,cs,hr,hd,hw⟩:=E.lies b k hk
 have h1:=hρ a _ ha
 simp only[denV,den,hr,dN,oI]at h1
 obtain⟨rv,h2,h3⟩:=jd (P:=P) (q:=0) hd (fun j u hj=>by
  obtain⟨tl,h4,_⟩:=hw.own (xgb h) (Blk.virt_some (KX h) hd hj) (Blk.mapped_some hd hj)
  rw[Nat.zero_add,cell_of h4,List.getElem?_toArray,List.getElem?_append_left (List.getElem?_eq_some_iff.1 hj).1,hj]) (xcb (E.ok b k hk) h)
 rw[Nat.zero_add]at h2
 refine xt E (rv:=rv) ?_ h3
 simp[execOp,ho,<- h1,Instr.loadAt,Instr.sureAddr,h2]
theorem xgf{t:TypeId}{a:Operand}{b off n f:Nat}{i:Int}{k:Blk}{v:V}(hρ:Says pv e ρ ra)(E:Emb pv e H w)(ho:o.op = .load t a)(ha:ρ a=some (.c (.pr b off i n f)))(hk:blkAt H b=some k)(h:KN P t k off i n f=some (true,v)):Did P pv ra o e H w v H:=by
 obtain⟨r,cs,hr,hd,hl⟩:=E.lies b k hk
 have h1:=hρ a _ ha
 simp only[denV,den,hr,dN,oI]at h1
 obtain⟨uy,hp⟩:=xca h
 have fw : ∀j u,cs[j]? = some u->w.cell? ⟨r.1,off+j,none⟩=some u:=by
  rcases uy with⟨hw,rfl⟩|hw
  .intro j u hj
   obtain⟨tl,h4,_⟩:=hl.own hw (Blk.virt_some (Yt h) hd hj) (Blk.mapped_some hd hj)
   rw[Nat.zero_add,cell_of h4,List.getElem?_toArray,List.getElem?_append_left (List.getElem?_eq_some_iff.1 hj).1,hj]
  .intro j u hj
   rcases hl.2 with hl|hl
   .rw[Blk.virt_some (Yt h) hd hj]at hl;cases hl
   .rw[Blk.mapped_some hd hj,hw]at hl
    exact hl.2 j u hj
 obtain⟨rv,h2,h3⟩:=jd (P:=P) hd fw hp
 refine xt E (rv:=rv) ?_ h3
 simp[execOp,ho,<- h1,Instr.loadAt,Instr.sureAddr,h2]
theorem prO_eq(off:Nat)(i:Int)(m f:Nat):prO off i m f=off+(i.toNat*m+f):=by
 unfold prO
 split
 .omega
 .rfl
theorem KZ{t:TypeId}{a x:Operand}{b p n:Nat}{k kn:Blk}{v:V}{xs:List C}(hρ:Says pv e ρ ra)(hp:One pv)(E:Emb pv e H w)(ho:o.op = .store t a x)
  (ha : ∃r,e[b]? = some r/\ra a = .pointer (some ⟨r.1,p,none⟩)) (hx:ρ x=some v) (hk:blkAt H b=some k) (hc:v.cells=some xs) (hn:xR P t=some n) (hl:xs.length=n) (az:kZ k p xs=some (true,kn)) :
  Did P pv ra o e H w .undef (setB H b (some kn)):=by
 obtain⟨y9,Cq,pq⟩:=Xh az
 obtain⟨lw,Cr⟩:=qR az
 obtain⟨r,cs,tl,hr,hd,hw,h1,h2⟩:=E.row b k hk y9 lw (vY az).1
 obtain⟨ay,ss,eo,hs⟩:=xgd (E.ok b k hk) az
 obtain⟨cs',zk⟩ : ∃cs',cs'=kn.real:=⟨_,rfl⟩
 rw[<- zk]at hs
 obtain⟨r',ct,g1⟩:=ha
 obtain rfl:r=r':=by rw[hr]at ct;exact Option.some.inj ct
 have g2:=vq hp (hρ x v hx) hc
 have aj:=xN g2
 have hlk:=xN hd
 obtain rfl:=qi _ _ _ _ hs
 have ze:p+(ra x).cells.toList.length<=cs.length\/(ra x).cells.toList = []:=by
  rcases Yr _ _ _ _ hs with h|h
  .left;omega
  .right;rw[h]at aj;exact List.length_eq_zero_iff.1 aj
 have aa:(storeCells ⟨r.1,p,none⟩ (ra x).cells.toList).run P w = .ok () {w with heap:=w.heap.setIfInBounds r.1 (.cells (put cs p (ra x).cells.toList++tl).toArray k.elem (0,0))}:=by
  rcases ze with h|h
  .have:=vK P r.1 p k.elem (ra x).cells.toList 0 w (cs++tl) hw (Vd hp g2) (by simp at h |-;omega)
   rw[this,xdN _ _ _ _ (by simpa using h)]
   rfl
  .rw[h]
   obtain⟨ao,bx⟩:=Array.getElem?_eq_some_iff.1 hw
   simp only[storeCells,Sem.run_pure,put]
   congr 1
   have:w.heap.setIfInBounds r.1 (.cells (cs++tl).toArray k.elem (0,0))=w.heap:=by
    rw[<- bx,Array.setIfInBounds_def,dif_pos ao,Array.set_getElem_self]
   rw[this]
 refine⟨.skip,_,e,undef,?_,.inr ⟨rfl,rfl⟩,Ext.refl e,rfl,E.stored hk hr (by rw[<- zk];exact xb8 hd g2) ay ss eo y9 Cq lw Cr pq h1 (fun h=>by have:=h2 h;simp[xdM]at this |-;exact this) (vY az).1 (vY az).2,?_,fun q b' hb =>.inl (xdO hk (fun _=>y9) lw hb)⟩
 .have ai:(ra x).cells.size=n:=by rw[<- Array.length_toList,aj,hl]
  simp only[execOp,ho,g1,Instr.storeAt,Instr.sureAddr,storeVar,Sem.run_bind,Sem.run_pure,Result.andThen_ok,xw hn,ai,ne_eq,not_true_eq_false,if_false,aa]
 .exact⟨rfl,rfl,rfl,by simp,fun b' du Az=>by
   have:r.1≠b':=fun h=>Az ⟨b,k,r,hk,hr,h,lw,fun _=>y9⟩
   simp[Array.getElem?_setIfInBounds,this]⟩
theorem vI{x:Operand}{k:IntKind}{n:Int}(hρ:Says pv e ρ ra)(h:ρ x=some (.c (.int k n))):ra x = .int k n:=by
 have:=hρ x _ h
 simpa[denV,den]using this.symm
theorem xhD{s d:TypeId}{x:Operand}{k j:IntKind}{n:Int}(hρ:Says pv e ρ ra)(E:Emb pv e H w)(ho:o.op = .convert s d x)(hx:ρ x=some (.c (.int j n)))(hu:P.underlying d=some (.int k))(hs : ∃t,P.underlying s=some t) :
  Did P pv ra o e H w (.c (.int k (k.wrap n))) H:=by
 refine xt E (rv :=.int k (k.wrap n)) ?_ rfl
 obtain⟨t,hs⟩:=hs
 simp only[execOp,ho,vI hρ hx,convert,Sem.run_bind,xa hs,xa hu,Result.andThen_ok]
 cases t<;>simp[Conv.intToInt]
theorem did_un{op:UnOp}{t:TypeId}{x:Operand}{a r:C}(hρ:Says pv e ρ ra)(E:Emb pv e H w)(ho:o.op = .unOp op t x)(hx:ρ x=some (.c a))(h:evUn op a=some r):Did P pv ra o e H w (.c r) H:=by
 have h1:=hρ x _ hx
 unfold evUn at h
 split at h<;>cases h<;>simp only[denV,den,oI]at h1
 .exact xt E (rv :=.int _ _) (by simp[execOp,ho,<- h1,Op.unary,Op.intArith]) rfl
 .exact xt E (rv :=.int _ _) (by simp[execOp,ho,<- h1,Op.unary,intBits_xor]) rfl
 .exact xt E (rv :=.bool _) (by simp[execOp,ho,<- h1,Op.unary]) rfl
theorem qk{x:Operand}{b p:Nat}(hρ:Says pv e ρ ra)(h:ρ x=some (.c (.ptr b p))) : ∃r,e[b]? = some r/\ra x = .pointer (some ⟨r.1,p,none⟩):=by
 have:=hρ x _ h
 simp only[denV,den,oM]at this
 obtain⟨r,h1,h2⟩:=this
 exact⟨r,h1,h2.symm⟩
theorem xfe{x:Operand}{l:List C}(hρ:Says pv e ρ ra)(h:ρ x=some (.agg l)) : ∃vs,denL pv e l=some vs/\ra x = .agg vs.toArray:=by
 have:=hρ x _ h
 simp only[denV,oM]at this
 obtain⟨r,h1,h2⟩:=this
 exact⟨r,h1,h2.symm⟩
theorem yd(r p n:Nat):(⟨r,p,none⟩:Addr).add n=⟨r,p+n,none⟩:=by
 unfold Addr.add
 split
 .rename_i h;subst h;rfl
 .rfl
theorem xgg{t:TypeId}{x:Operand}{f:Nat}{fs:Array Field}{fd:Field}{cs:List C}{v:V}(hρ:Says pv e ρ ra)(E:Emb pv e H w)(ho:o.op = .field t x f)(hu:P.underlying t=some (.struct fs))(hx:ρ x=some (.agg cs))(hf:fs[f]? = some fd)
  (h:partT P fd.type cs fd.offset=some v):Did P pv ra o e H w v H:=by
 obtain⟨vs,h1,h2⟩:=xfe hρ hx
 obtain⟨rv,h3,h4⟩:=kv (P:=P) (w:=w) h1 h
 refine xt E (rv:=rv) ?_ h4
 simp[execOp,ho,h2,Instr.field,xa hu,hf,asAgg,h3]
theorem Ky{t:TypeId}{x:Operand}{f:Nat}{fs:Array Field}{fd:Field}{b p n:Nat}(hρ:Says pv e ρ ra)(E:Emb pv e H w)(ho:o.op = .fieldAddr t x f)(hu:P.underlying t=some (.struct fs))(hx:ρ x=some (.c (.ptr b p)))(hf:fs[f]? = some fd)
  (hn:xR P fd.type=some n) (dc:n≠0):Did P pv ra o e H w (.c (.ptr b (p+fd.offset))) H:=by
 obtain⟨r,h1,h2⟩:=qk hρ hx
 refine xt E (rv :=.pointer (some ⟨r.1,p+fd.offset,none⟩)) ?_ (by simp[denV,den,h1])
 simp[execOp,ho,h2,Instr.fieldAt,xa hu,hf,Instr.sureAddr,fieldPlace,xw hn,dc,yd]
theorem Vk{x:Operand}{b off n f:Nat}{i:Int}(hρ:Says pv e ρ ra)(h:ρ x=some (.c (.pr b off i n f))) : ∃r,e[b]? = some r/\ra x = .pointer (some ⟨r.1,off+(i.toNat*n+f),none⟩):=by
 have:=hρ x _ h
 simp only[denV,den,oM]at this
 obtain⟨r,h1,h2⟩:=this
 exact⟨r,h1,h2.symm⟩
theorem Vl{t:TypeId}{x:Operand}{f:Nat}{fs:Array Field}{fd:Field}{b off m q n:Nat}{i:Int}(hρ:Says pv e ρ ra)(E:Emb pv e H w)(ho:o.op = .fieldAddr t x f)(hu:P.underlying t=some (.struct fs))(hx:ρ x=some (.c (.pr b off i m q)))(hf:fs[f]? = some fd)
  (hn:xR P fd.type=some n) (dc:n≠0):Did P pv ra o e H w (.c (.pr b off i m (q+fd.offset))) H:=by
 obtain⟨r,h1,h2⟩:=Vk hρ hx
 refine xt E (rv :=.pointer (some ⟨r.1,off+(i.toNat*m+(q+fd.offset)),none⟩)) ?_ (by simp[denV,den,h1])
 rw[show off+(i.toNat*m+(q+fd.offset))=off+(i.toNat*m+q)+fd.offset by omega]
 simp[execOp,ho,h2,Instr.fieldAt,xa hu,hf,Instr.sureAddr,fieldPlace,xw hn,dc,yd]
theorem xce{x:Operand}{i:Nat}{l:List V1}{v:V1}(hρ:Says pv e ρ ra)(E:Emb pv e H w)(ho:o.op = .extract x i)(hx:ρ x=some (.tup l))(h:l[i]? = some v):Did P pv ra o e H w v.up H:=by
 have h1:=hρ x _ hx
 simp only[denV,oM]at h1
 obtain⟨vs,h2,h3⟩:=h1
 obtain⟨y,h4,h5⟩:=yD _ _ _ h2 i v h
 refine xt E (rv:=y) ?_ (by rw[xfb];exact h4)
 simp[execOp,ho,<- h3,Instr.extract,h5]
theorem xaU{x:Operand}{v:V}(ns : ∃t u,pv.val = .iface t u)(hρ:Says pv e ρ ra)(E:Emb pv e H w)(ho:o.op = .nilCheck x)(hx:ρ x=some v)(h1:v ≠ .c .nilp)(h2:v ≠ .c .nili)(h3:v ≠ .c .nilf)(h4 : ∀s c,v ≠ .c (.meth s c)):Did P pv ra o e H w v H:=by
 have hd:=hρ x v hx
 refine xt E (rv:=ra x) ?_ hd
 cases v with
 | c a=>
  cases a<;>simp only[denV,den,oI,oM]at hd
  case nilp=>exact absurd rfl h1
  case nili=>exact absurd rfl h2
  case nilf=>exact absurd rfl h3
  case meth s c=>exact absurd rfl (h4 s c)
  case port=>obtain⟨t,u,Jm⟩:=ns;rw[Jm]at hd;simp[execOp,ho,<- hd]
  case slg=>
   obtain⟨r,_,hd⟩:=dU.1 hd
   split at hd
   .simp only[oI]at hd;simp[execOp,ho,<- hd]
   .cases hd
  case slx=>
   obtain⟨r,_,hd⟩:=dU.1 hd
   split at hd
   .simp only[oI]at hd;simp[execOp,ho,<- hd]
   .cases hd
  case slr=>
   obtain⟨r,_,hd⟩:=dU.1 hd
   split at hd
   .rcases(vg hd).2 with h|⟨_,h⟩<;>simp[execOp,ho,h]
   .split at hd
    .simp only[oI]at hd;simp[execOp,ho,<- hd]
    .cases hd
  case slv=>
   obtain⟨r,_,hd⟩:=dU.1 hd
   split at hd
   .split at hd
    .rcases(vg hd).2 with h|⟨_,h⟩<;>simp[execOp,ho,h]
    .cases hd
   .split at hd
    .simp only[oI]at hd;simp[execOp,ho,<- hd]
    .cases hd
  all_goals first
   | (obtain⟨_,_,hd⟩:=hd;simp[execOp,ho,<- hd])
   | simp[execOp,ho,<- hd]
 | agg l=>
  simp only[denV,oM]at hd
  obtain⟨_,_,hd⟩:=hd
  simp[execOp,ho,<- hd]
 | tup l=>
  simp only[denV,oM]at hd
  obtain⟨_,_,hd⟩:=hd
  simp[execOp,ho,<- hd]
theorem xaV{t el:TypeId}{x ix:Operand}{len b p n:Nat}{k:IntKind}{i:Int}(hρ:Says pv e ρ ra)(E:Emb pv e H w)(ho:o.op = .indexAddr t x ix)(hu:P.underlying t=some (.array len el))(hx:ρ x=some (.c (.ptr b p)))(hi:ρ ix=some (.c (.int k i)))
  (hn:xR P el=some n) (hg:0<=i/\i<(len:Int)):Did P pv ra o e H w (.c (.ptr b (p+i.toNat*n))) H:=by
 obtain⟨r,h1,h2⟩:=qk hρ hx
 refine xt E (rv :=.pointer (some ⟨r.1,p+i.toNat*n,none⟩)) ?_ (by simp[denV,den,h1])
 simp[execOp,ho,h2,vI hρ hi,Instr.indexAt,asIntOf,xa hu,Instr.sureAddr,hg,xw hn,yd]
theorem xcf{t el:TypeId}{x ix:Operand}{len cap b p n:Nat}{k:IntKind}{i:Int}(hρ:Says pv e ρ ra)(E:Emb pv e H w)(ho:o.op = .indexAddr t x ix)(hu:P.underlying t=some (.slice el))(hx:ρ x=some (.c (.sl b p len cap)))(hi:ρ ix=some (.c (.int k i)))
  (hn:xR P el=some n) (hg:0<=i/\i<(len:Int)):Did P pv ra o e H w (.c (.ptr b (p+i.toNat*n))) H:=by
 have:=hρ x _ hx
 simp only[denV,den,oM]at this
 obtain⟨r,h1,h2⟩:=this
 refine xt E (rv :=.pointer (some ⟨r.1,p+i.toNat*n,none⟩)) ?_ (by simp[denV,den,h1])
 simp[execOp,ho,<- h2,vI hρ hi,Instr.indexAt,asIntOf,xa hu,hg,xw hn,yd]
theorem xaW{t el:TypeId}{x ix:Operand}{len b q:Nat}{k:IntKind}{i:Int}(hρ:Says pv e ρ ra)(E:Emb pv e H w)(ho:o.op = .indexAddr t x ix)(hu:P.underlying t=some (.slice el))(hx:ρ x=some (.c (.slg b q len)))(hi:ρ ix=some (.c (.int k i)))
  (hn:xR P el=some 1) (hg:0<=i/\i<(len:Int)):Did P pv ra o e H w (.c (.ptr b (q+i.toNat))) H:=by
 have:=hρ x _ hx
 simp only[denV,den,dU]at this
 obtain⟨r,h1,h2⟩:=this
 split at h2
 .rename_i bu
  simp only[oI]at h2
  have ae:r.2≠q:=by omega
  rw[dA ae]at h2
  refine xt E (rv :=.pointer (some ⟨r.1,q+i.toNat,none⟩)) ?_ (by simp[denV,den,h1])
  simp[execOp,ho,<- h2,vI hρ hi,Instr.indexAt,asIntOf,xa hu,hg,xw hn,yd]
 .cases h2
theorem xaX{t el:TypeId}{x ix:Operand}{z:Option Addr}{len cap b p n:Nat}{k:IntKind}{i:Int}(hρ:Says pv e ρ ra)(E:Emb pv e H w)(ho:o.op = .indexAddr t x ix)(hu:P.underlying t=some (.slice el))(hx:ρ x=some (.c (.slw b p z len cap)))(hi:ρ ix=some (.c (.int k i)))
  (hn:xR P el=some n) (hg:0<=i/\i<(len:Int)):Did P pv ra o e H w (.c (.pr b p i n 0)) H:=by
 have:=hρ x _ hx
 simp only[denV,den,oM]at this
 obtain⟨r,h1,h2⟩:=this
 rw[dA (by omega)]at h2
 refine xt E (rv :=.pointer (some ⟨r.1,p+(i.toNat*n+0),none⟩)) ?_ (by simp[denV,den,h1])
 rw[Nat.add_zero]
 simp[execOp,ho,<- h2,vI hρ hi,Instr.indexAt,asIntOf,xa hu,hg,xw hn,yd]
theorem xaY{t el:TypeId}{x ix:Operand}{len b n:Nat}{k:IntKind}{i:Int}(hρ:Says pv e ρ ra)(E:Emb pv e H w)(ho:o.op = .indexAddr t x ix)(hu:P.underlying t=some (.slice el))(hx:ρ x=some (.c (.slr b len)))(hi:ρ ix=some (.c (.int k i)))
  (hn:xR P el=some n) (hg:0<=i/\i<(len:Int)):Did P pv ra o e H w (.c (.pr b 0 i n 0)) H:=by
 have:=hρ x _ hx
 simp only[denV,den,dU]at this
 obtain⟨r,h1,h2⟩:=this
 rw[dA (by omega)]at h2
 split at h2
 .simp only[oI]at h2
  refine xt E (rv :=.pointer (some ⟨r.1,0+(i.toNat*n+0),none⟩)) ?_ (by simp[denV,den,h1])
  rw[Nat.add_zero]
  simp[execOp,ho,<- h2,vI hρ hi,Instr.indexAt,asIntOf,xa hu,hg,xw hn,yd]
 .cases h2
theorem xaZ{t el:TypeId}{x ix:Operand}{len b q n:Nat}{k:IntKind}{i:Int}(hρ:Says pv e ρ ra)(E:Emb pv e H w)(ho:o.op = .indexAddr t x ix)(hu:P.underlying t=some (.slice el))(hx:ρ x=some (.c (.slv b n q len)))(hi:ρ ix=some (.c (.int k i)))
  (hn:xR P el=some n) (hg:0<=i/\i<(len:Int)):Did P pv ra o e H w (.c (.pr b 0 ((q:Int)+i) n 0)) H:=by
 have:=hρ x _ hx
 simp only[denV,den,dU]at this
 obtain⟨r,h1,h2⟩:=this
 have e0:((q:Int)+i).toNat=q+i.toNat:=by omega
 split at h2
 .rw[dA (by omega)]at h2;cases h2
 .split at h2
  .simp only[oI]at h2
   rw[dA (by omega)]at h2
   refine xt E (rv :=.pointer (some ⟨r.1,0+(((q:Int)+i).toNat*n+0),none⟩)) ?_ (by simp[denV,den,h1])
   rw[Nat.add_zero,e0,Nat.add_mul]
   simp[execOp,ho,<- h2,vI hρ hi,Instr.indexAt,asIntOf,xa hu,hg,xw hn,yd]
  .cases h2
theorem xa0{t el:TypeId}{x ix:Operand}{len b p d a c:Nat}{k:IntKind}{i:Int}(hρ:Says pv e ρ ra)(E:Emb pv e H w)(ho:o.op = .indexAddr t x ix)(hu:P.underlying t=some (.slice el))(hx:ρ x=some (.c (.slx b p d a len c)))(hi:ρ ix=some (.c (.int k i)))
  (hn:xR P el=some 1) (hg:0<=i/\i<(len:Int)):Did P pv ra o e H w (.c (.pr b p ((d:Int)+i) 1 0)) H:=by
 have:=hρ x _ hx
 simp only[denV,den,dU]at this
 obtain⟨r,h1,h2⟩:=this
 have e0:((d:Int)+i).toNat=d+i.toNat:=by omega
 split at h2
 .rename_i h0
  have h0:a=p+d:=by omega
  subst h0
  simp only[oI]at h2
  refine xt E (rv :=.pointer (some ⟨r.1,p+(((d:Int)+i).toNat*1+0),none⟩)) ?_ (by simp[denV,den,h1])
  rw[Nat.add_zero,e0,Nat.mul_one,<- Nat.add_assoc]
  simp[execOp,ho,<- h2,vI hρ hi,Instr.indexAt,asIntOf,xa hu,hg,xw hn,yd]
 .cases h2
theorem xgh{t el:TypeId}{x ix:Operand}{len n:Nat}{k:IntKind}{i:Int}{cs:List C}{v:V}(hρ:Says pv e ρ ra)(E:Emb pv e H w)(ho:o.op = .index t x ix)(hu:P.underlying t=some (.array len el))(hx:ρ x=some (.agg cs))(hi:ρ ix=some (.c (.int k i)))
  (hn:xR P el=some n) (hg:0<=i/\i<(len:Int)) (h:partT P el cs (i.toNat*n)=some v):Did P pv ra o e H w v H:=by
 obtain⟨vs,h1,h2⟩:=xfe hρ hx
 obtain⟨rv,h3,h4⟩:=kv (P:=P) (w:=w) h1 h
 refine xt E (rv:=rv) ?_ h4
 simp[execOp,ho,h2,vI hρ hi,Instr.index,asIntOf,xa hu,hg,xw hn,h3]
theorem xdP{t el:TypeId}{x ix:Operand}{len n b p:Nat}{k:IntKind}{i:Int}(hρ:Says pv e ρ ra)(E:Emb pv e H w)(ho:o.op = .indexAddr t x ix)(hu:P.underlying t=some (.array len el))(hx:ρ x=some (.c (.gp b p)))(hi:ρ ix=some (.c (.int k i)))
  (hn:xR P el=some n) (hg:0<=i/\i<(len:Int)):Did P pv ra o e H w (.c (.gp b (p+i.toNat*n))) H:=by
 have h1:=hρ x _ hx
 simp only[denV,den,oI]at h1
 refine xt E (rv :=.pointer (some ⟨b,p+i.toNat*n,none⟩)) ?_ rfl
 simp[execOp,ho,<- h1,vI hρ hi,Instr.indexAt,Instr.sureAddr,asIntOf,xa hu,hg,xw hn,yd]
theorem xdQ{t:TypeId}{z:ByteArray}{x ix:Operand}{k:IntKind}{i:Int}(hρ:Says pv e ρ ra)(E:Emb pv e H w)(ho:o.op = .index t x ix)(hu:P.underlying t=some .string)(hx:ρ x=some (.c (.str z)))(hi:ρ ix=some (.c (.int k i)))(hg:0<=i/\i<(z.size:Int)):Did P pv ra o e H w (.c (.int .u8 (z.data.getD i.toNat 0).toNat)) H:=by
 have h1:=hρ x _ hx
 simp only[denV,den,oI]at h1
 have h2:z[i.toNat]? = some (z.data.getD i.toNat 0):=by
  have ao:i.toNat<z.size:=by omega
  rw[getElem?_pos z i.toNat ao]
  simp only[Array.getD,ByteArray.getElem_eq_getElem_data]
  rw[dif_pos (show i.toNat<z.data.size from ao)]
  rfl
 refine xt E (rv :=.int .u8 (z.data.getD i.toNat 0).toNat) ?_ rfl
 simp[execOp,ho,<- h1,vI hρ hi,Instr.index,asIntOf,xa hu,hg.1,h2]
theorem xcg{t el:TypeId}{x:Operand}{n b len:Nat}(hρ:Says pv e ρ ra)(E:Emb pv e H w)(ho:o.op = .sliceToArrayPointer t x)(hu:P.underlying t=some (.array n el))(hx:ρ x=some (.c (.slr b len)))(h0:0<len)(hg:n<=len):Did P pv ra o e H w (.c (.ptr b 0)) H:=by
 have h1:=hρ x _ hx
 simp only[denV,den,dU]at h1
 obtain⟨r,h1,h2⟩:=h1
 rw[dA (by omega)]at h2
 split at h2
 .simp only[oI]at h2
  refine xt E (rv :=.pointer (some ⟨r.1,0,none⟩)) ?_ (by simp[denV,den,h1])
  simp[execOp,ho,<- h2,Instr.arrayAt,xa hu,show ¬len<n by omega]
 .cases h2
theorem xdR{op:BinOp}{k:IntKind}{a b:Int}{c:C}(h:xdJ op k a b=some (true,c))(t:TypeId)(hs:op ≠ .shl/\op ≠ .shr) : ∃rv,(binOp op t (.int k a) (.int k b))=pure rv/\den pv e c=some rv:=by
 unfold xdJ at h
 split at h<;>(try simp only[oI,dI,Bool.not_eq_eq_eq_not,Bool.not_true,dQ]at h)
 all_goals first
  | (obtain⟨h1,rfl⟩:=h;exact⟨_,by simp[binOp,Op.intArith,Op.intDiv,h1,intBits_and,intBits_or,intBits_xor,intBits_andNot,Op.intCmp],rfl⟩)
  | exact absurd h (by simp)
theorem XH{op:BinOp}{k k':IntKind}{a b:Int}{c:C}(h:Xv op k a b=some (true,c))(t:TypeId) : ∃rv,(binOp op t (.int k a) (.int k' b))=pure rv/\den pv e c=some rv:=by
 unfold Xv at h
 split at h<;>(try simp only[oI,dI,Bool.not_eq_eq_eq_not,Bool.not_true,decide_eq_false_iff_not]at h)
 .obtain⟨h1,rfl⟩:=h
  exact⟨_,by simp[binOp,Op.shift,h1],rfl⟩
 .obtain⟨h1,rfl⟩:=h
  exact⟨_,by simp[binOp,Op.shift,h1],rfl⟩
 .exact absurd h (by simp)
theorem xhE{X:Operand}(h:vw X=true) : ∃v,X = .const v:=by
 cases X<;>simp[vw]at h
 exact⟨_,rfl⟩
def EqOk(P:Program)(w:World)(t:TypeId)(q r:Bool)(x y:Value):Prop:=
 (∀n,(Op.equalIn (n+1) t x y).run P w = .ok r w)/\(∀op (X Y:Operand),(q=true->vw X=true\/vw Y=true)->(eqGuard op t X Y x y).run P w = .ok () w)/\binOp .eql t x y=(do pure (.bool (<- Op.equal t x y)))/\binOp .neq t x y=(do pure (.bool (!(<- Op.equal t x y))))
theorem WD{pv:Value}{d:TypeDesc}{t:TypeId}{q:Bool}{a b:C}{r:Bool}{x y:Value}(hu:P.underlying t=some d)(ns : ∃t u,pv = .iface t u)(ha:den pv e a=some x)(hb:den pv e b=some y)(h:eqC d q a b=some r) :
  EqOk P w t q r x y:=by
 obtain⟨tp,up,rfl⟩:=ns
 have plain : ∀ {x y:Value} {r:Bool},(∀n,(Op.equalIn (n+1) t x y).run P w = .ok r w)->(∀op (X Y:Operand),(eqGuard op t X Y x y).run P w = .ok () w)->binOp .eql t x y=(do pure (.bool (<- Op.equal t x y)))->binOp .neq t x y=(do pure (.bool (!(<- Op.equal t x y))))->EqOk P w t q r x y:=fun h1 h2 h3 h4=>⟨h1,fun op X Y _=>h2 op X Y,h3,h4⟩
 have g : ∀ {x y:Value},(∀op (X Y:Operand),(eqGuard op t X Y x y)=(do if !(op matches .eql | .neq)then return;pure ())) ->∀op (X Y:Operand),(eqGuard op t X Y x y).run P w = .ok () w:=by
  intro x y h op X Y
  rw[h]
  cases op<;>simp
 unfold eqC at h
 split at h
 .split at h
  .cases h
   simp only[den,oI]at ha hb
   subst ha;subst hb
   exact plain (fun n=>by simp[Op.equalIn,xa hu]) (g fun op X Y=>by cases op<;>rfl) rfl rfl
  .cases h
 .split at h
  .cases h
   simp only[den,oI]at ha hb
   subst ha;subst hb
   exact plain (fun n=>by simp[Op.equalIn,xa hu]) (g fun op X Y=>by cases op<;>rfl) rfl rfl
  .cases h
   simp only[den,oI,oM]at ha hb
   obtain⟨_,_,rfl⟩:=hb;subst ha
   exact plain (fun n=>by simp[Op.equalIn,xa hu]) (g fun op X Y=>by cases op<;>rfl) rfl rfl
  .cases h
   simp only[den,oI,oM]at ha hb
   obtain⟨_,_,rfl⟩:=ha;subst hb
   exact plain (fun n=>by simp[Op.equalIn,xa hu]) (g fun op X Y=>by cases op<;>rfl) rfl rfl
  .cases h
 .split at h
  .split at h
   .rename_i hq
    cases h
    simp only[den,oI]at ha hb
    subst ha;subst hb
    refine⟨fun n=>by simp[Op.equalIn,xa hu],fun op X Y hc =>?_,rfl,rfl⟩
    rcases hc hq with h|h<;>obtain⟨v,rfl⟩:=xhE h<;>cases op<;>simp[eqGuard]
   .cases h
  .cases h
   simp only[den,oI]at ha hb
   subst ha;subst hb
   exact plain (fun n=>by simp[Op.equalIn,xa hu]) (g fun op X Y=>by cases op<;>rfl) rfl rfl
  .cases h
   simp only[den,oI]at ha hb
   subst ha;subst hb
   exact plain (fun n=>by simp[Op.equalIn,xa hu]) (g fun op X Y=>by cases op<;>rfl) rfl rfl
  .cases h
   simp only[den,oI,oM]at ha hb
   obtain⟨_,_,rfl⟩:=hb;subst ha
   exact plain (fun n=>by simp[Op.equalIn,xa hu]) (g fun op X Y=>by cases op<;>rfl) rfl rfl
  .cases h
   simp only[den,oI,oM]at ha hb
   obtain⟨_,_,rfl⟩:=ha;subst hb
   exact plain (fun n=>by simp[Op.equalIn,xa hu]) (g fun op X Y=>by cases op<;>rfl) rfl rfl
  .cases h
 .split at h
  .cases h
   simp only[den,oI]at ha hb
   subst ha;subst hb
   exact plain (fun n=>by simp[Op.equalIn,xa hu]) (g fun op X Y=>by cases op<;>rfl) rfl rfl
  .cases h
   simp only[den,oI,oM]at ha hb
   obtain⟨_,_,rfl⟩:=hb;subst ha
   exact plain (fun n=>by simp[Op.equalIn,xa hu]) (g fun op X Y=>by cases op<;>rfl) rfl rfl
  .cases h
   simp only[den,oI,oM]at ha hb
   obtain⟨_,_,rfl⟩:=ha;subst hb
   exact plain (fun n=>by simp[Op.equalIn,xa hu]) (g fun op X Y=>by cases op<;>rfl) rfl rfl
  .cases h
 .split at h
  .cases h
   simp only[den,oI]at ha hb
   subst ha;subst hb
   exact plain (fun n=>by simp[Op.equalIn,xa hu]) (g fun op X Y=>by cases op<;>rfl) rfl rfl
  .cases h
   simp only[den,oI,oM]at ha hb
   obtain⟨_,_,rfl⟩:=hb;subst ha
   exact plain (fun n=>by simp[Op.equalIn,xa hu]) (g fun op X Y=>by cases op<;>rfl) rfl rfl
  .cases h
   simp only[den,oI,oM]at ha hb
   obtain⟨_,_,rfl⟩:=ha;subst hb
   exact plain (fun n=>by simp[Op.equalIn,xa hu]) (g fun op X Y=>by cases op<;>rfl) rfl rfl
  .cases h
   simp only[den,oI,dU]at ha hb
   obtain⟨_,_,hb⟩:=hb;subst ha
   split at hb<;>cases hb
   exact plain (fun n=>by simp[Op.equalIn,xa hu]) (g fun op X Y=>by cases op<;>rfl) rfl rfl
  .cases h
   simp only[den,oI,dU]at ha hb
   obtain⟨_,_,ha⟩:=ha;subst hb
   split at ha<;>cases ha
   exact plain (fun n=>by simp[Op.equalIn,xa hu]) (g fun op X Y=>by cases op<;>rfl) rfl rfl
  .split at h
   .cases h
   .rename_i ae
    cases h
    simp only[den,oI,dU,dA ae]at ha hb
    obtain⟨_,_,hb⟩:=hb;subst ha
    split at hb<;>cases hb
    exact plain (fun n=>by simp[Op.equalIn,xa hu]) (g fun op X Y=>by cases op<;>rfl) rfl rfl
  .split at h
   .cases h
   .rename_i ae
    cases h
    simp only[den,oI,dU,dA ae]at ha hb
    obtain⟨_,_,ha⟩:=ha;subst hb
    split at ha<;>cases ha
    exact plain (fun n=>by simp[Op.equalIn,xa hu]) (g fun op X Y=>by cases op<;>rfl) rfl rfl
  .cases h
 .cases h
end
end Lx
namespace Lx
open Go
section
variable{ρ:Operand->Option V}{P:Program}{pv:Pv}{ra:Operand->Value}{o:Oper}{e:Env}{H:Heap}{w:World}
theorem xff{x:Operand}{a:C}(hρ:Says pv e ρ ra)(h:ρ x=some (.c a)):den pv e a=some (ra x):=hρ x _ h
theorem xgi(op:BinOp)(t:TypeId)(X Y:Operand)(k j:IntKind)(a b:Int):(eqGuard op t X Y (.int k a) (.int j b)).run P w = .ok () w:=by
 unfold eqGuard
 cases op<;>simp
theorem did_bin{op:BinOp}{t u:TypeId}{x y:Operand}{a b r:C}(ns : ∃t u,pv.val = .iface t u)(hρ:Says pv e ρ ra)(E:Emb pv e H w)(ho:o.op = .binOp op t x y u)(hx:ρ x=some (.c a))(hy:ρ y=some (.c b))(h:xe7 P op t x y a b=some (true,r)):Did P pv ra o e H w (.c r) H:=by
 have dr:=xff hρ hx
 have ig:=xff hρ hy
 have fin : ∀rv,(binOp op t (ra x) (ra y)).run P w = .ok rv w->(eqGuard op t x y (ra x) (ra y)).run P w = .ok () w->den pv e r=some rv->Did P pv ra o e H w (.c r) H:=by
  intro rv h1 h2 h3
  refine xt E (rv:=rv) ?_ h3
  simp[execOp,ho,h1,h2]
 unfold xe7 at h
 split at h
 .rename_i k m k' n
  simp only[den,oI]at dr ig
  have hg:(eqGuard op t x y (ra x) (ra y)).run P w = .ok () w:=by rw[<- dr,<- ig];exact xgi ..
  split at h
  .obtain⟨rv,h1,h2⟩:=XH (pv:=pv) (e:=e) (k':=k') h t
   exact fin rv (by rw[<- dr,<- ig,h1];rfl) hg h2
  .obtain⟨rv,h1,h2⟩:=XH (pv:=pv) (e:=e) (k':=k') h t
   exact fin rv (by rw[<- dr,<- ig,h1];rfl) hg h2
  .rename_i ip nr
   split at h
   .rename_i hk
    subst hk
    obtain⟨rv,h1,h2⟩:=xdR (pv:=pv) (e:=e) h t ⟨fun hh=>ip hh,fun hh=>nr hh⟩
    exact fin rv (by rw[<- dr,<- ig,h1];rfl) hg h2
   .cases h
 .rename_i a b ae
  have hq : ∀ (q:Bool),q=(vw x||vw y)->q=true->vw x=true\/vw y=true:=by
   intro q h1 h2
   rw[h1]at h2
   simpa using h2
  have cr:Op.maxDepth=9999+1:=rfl
  split at h
  .rename_i d hu
   rw[oM]at h
   obtain⟨r',h1,h2⟩:=h
   simp only[dI,true_and]at h2
   subst h2
   obtain⟨g1,g2,g3,_⟩:=WD (P:=P) (w:=w) hu ns dr ig h1
   exact fin (.bool r') (by rw[g3];simp only[Op.equal,cr,Sem.run_bind,g1,Result.andThen_ok,Sem.run_pure]) (g2 _ _ _ (hq _ rfl)) rfl
  .rename_i d hu
   rw[oM]at h
   obtain⟨r',h1,h2⟩:=h
   simp only[dI,true_and]at h2
   subst h2
   obtain⟨g1,g2,_,g3⟩:=WD (P:=P) (w:=w) hu ns dr ig h1
   exact fin (.bool (!r')) (by rw[g3];simp only[Op.equal,cr,Sem.run_bind,g1,Result.andThen_ok,Sem.run_pure]) (g2 _ _ _ (hq _ rfl)) rfl
  .cases h
theorem Vm{pv:Value}{rec:TypeId->V->V->Option Bool}{m:Nat}(IH : ∀t x y r rx ry,rec t x y=some r->denV pv e x=some rx->denV pv e y=some ry->(Op.equalIn m t rx ry).run P w = .ok r w){xs ys:List C}{vx vy:List Value}(hx:denL pv e xs=some vx)(hy:denL pv e ys=some vy) :
  ∀ (fs:List Field) (r:Bool),YT rec P fs xs ys=some r->(Op.eqFields m vx.toArray vy.toArray fs).run P w = .ok r w
 | [],r,h=>by simp only[YT,oI]at h;subst h;rfl
 | f::fs,r,h=>by
  simp only[YT]at h
  by_cases hn:f.name = "_"
  .rw[dB hn]at h
   simp only[Op.eqFields,hn,ne_eq,not_true_eq_false,if_false]
   exact Vm IH hx hy fs r h
  .rw[dA hn]at h
   split at h
   .rename_i a b ha hb
    split at h
    .rename_i p q hp hq
     cases h
     obtain⟨ra,h1,h2⟩:=kv (w:=w) hx ha
     obtain⟨rb,h3,h4⟩:=kv (w:=w) hy hb
     have h5:=IH _ _ _ _ _ _ hp h2 h4
     simp only[Op.eqFields,ne_eq,hn,not_false_eq_true,if_true,Sem.run_bind,h1,h3,h5,Result.andThen_ok]
     cases p
     .simp
     .simpa using Vm IH hx hy fs q hq
    .cases h
   .cases h
theorem WE{pv:Value} : ∀ (d:Nat) (t:TypeId) (x y:V) (r:Bool) (rx ry:Value),eqF P d t x y=some r->denV pv e x=some rx->denV pv e y=some ry ->∀n,(Op.equalIn (n+d) t rx ry).run P w = .ok r w
 | 0,t,x,y,r,rx,ry,h,_,_,_=>by simp[eqF]at h
 | d+1,t,x,y,r,rx,ry,h,hx,hy,n=>by
  unfold eqF at h
  split at h
  .rename_i a b hu
   cases h
   simp only[denV,den,oI]at hx hy
   subst hx hy
   exact run_equalIn_bool w (n+d) t a b hu
  .rename_i k0 k a k' b hu
   split at h
   .rename_i hk
    cases h
    subst hk
    simp only[denV,den,oI]at hx hy
    subst hx hy
    exact run_equalIn_int w (n+d) t k _ a b hu
   .cases h
  .rename_i fs xs ys hu
   split at h
   .cases h
   .rename_i hs
    simp only[denV,oM]at hx hy
    obtain⟨vx,h1,rfl⟩:=hx
    obtain⟨vy,h2,rfl⟩:=hy
    have hf:P.fieldsOf t=fs:=by simp only[Program.fieldsOf,hu]
    rw[show n+(d+1)=(n+d)+1 from rfl,run_equalIn_struct w (n+d) t vx.toArray vy.toArray (by rw[hf];exact hu) (by simpa using hs),hf]
    exact Vm (fun t x y r rx ry h hx hy=>WE d t x y r rx ry h hx hy n) h1 h2 fs.toList r h
  .cases h
theorem xhF{op:BinOp}{t u:TypeId}{x y:Operand}{l m:List C}{r:C}(hρ:Says pv e ρ ra)(E:Emb pv e H w)(ho:o.op = .binOp op t x y u)(hx:ρ x=some (.agg l))(hy:ρ y=some (.agg m))(h:xaN P op t l m=some r):Did P pv ra o e H w (.c r) H:=by
 have dr:=hρ x _ hx
 have ig:=hρ y _ hy
 simp only[denV,oM]at dr ig
 obtain⟨vx,h1,h2⟩:=dr
 obtain⟨vy,h3,h4⟩:=ig
 unfold xaN at h
 split at h
 .cases h
 .rename_i hg
  have Ad:=run_eqGuard_agg (P:=P) w op t x y vx.toArray vy.toArray (by simpa using hg)
  split at h
  .rename_i q hq
   cases h
   have hr:=WE (pv:=pv) (e:=e) (w:=w) 10 t _ _ q (.agg vx.toArray) (.agg vy.toArray) hq (by simp only[denV,h1,dN]) (by simp only[denV,h3,dN]) 9990
   refine xt E (rv :=.bool q) ?_ rfl
   have hb:=run_eql_struct (P:=P) w t vx.toArray vy.toArray
   rw[hr]at hb
   simp only[execOp,ho,<- h2,<- h4,Sem.run_bind,Ad,Result.andThen_ok,hb,Sem.run_pure]
  .rename_i q hq
   cases h
   have hr:=WE (pv:=pv) (e:=e) (w:=w) 10 t _ _ q (.agg vx.toArray) (.agg vy.toArray) hq (by simp only[denV,h1,dN]) (by simp only[denV,h3,dN]) 9990
   refine xt E (rv :=.bool (!q)) ?_ rfl
   have hb:=run_neq_struct (P:=P) w t vx.toArray vy.toArray
   rw[hr]at hb
   simp only[execOp,ho,<- h2,<- h4,Sem.run_bind,Ad,Result.andThen_ok,hb,Sem.run_pure]
  .cases h
theorem vZ{pv:Value}(hρ:Says pv e ρ ra) : ∀ (l:List Operand) (vs:List V),allSome ρ l=some vs->allSome (denV pv e) vs=some (l.map ra)
 | [],vs,h=>by simp only[allSome,oI]at h;subst h;rfl
 | x::l,vs,h=>by
  simp only[allSome]at h
  split at h
  .rename_i v hv
   split at h
   .rename_i us hu
    cases h
    simp only[allSome,hρ x v hv,vZ hρ l us hu,List.map_cons]
   .cases h
  .cases h
theorem xch : ∀ (vs:List V) (cs:List C) (rs:List Value),WW vs=some cs->allSome (denV pv e) vs=some rs->denL pv e cs=some rs
 | [],cs,rs,h,hr=>by
  simp only[WW,allSome,oI]at h hr
  subst h;subst hr;rfl
 | v::vs,cs,rs,h,hr=>by
  simp only[WW,allSome]at h hr
  split at h
  .rename_i x hx
   split at h
   .rename_i us hu
    cases h
    split at hr
    .rename_i y hy
     split at hr
     .rename_i ys fz
      cases hr
      cases v with
      | c a=>
       simp only[oI]at hx
       subst hx
       simp only[denV]at hy
       simp only[denL,hy,xch vs us ys hu fz]
      | agg l=>simp at hx
      | tup l=>simp at hx
     .cases hr
    .cases hr
   .cases h
  .cases h
theorem xhG{f:FuncId}{first captured:Array Operand}{vs:List V}{cs:List C}(hρ:Says pv e ρ ra)(E:Emb pv e H w)(ho:o.op = .makeFunc (.func f) first captured)(hf:first.size=0)(h1:allSome ρ captured.toList=some vs)(h2:WW vs=some cs):Did P pv ra o e H w (.c (.fn f cs)) H:=by
 have h3:=xch (pv:=pv) (e:=e) _ _ _ h2 (vZ hρ _ _ h1)
 refine xt E (rv :=.func (.func f) #[] (captured.map ra)) ?_ ?_
 .have:first = #[]:=Array.eq_empty_of_size_eq_zero hf
  subst this
  simp[execOp,ho,Instr.makeFunc]
 .simp only[denV,den,h3,dN,oI,Value.func.injEq,true_and]
  rw[<- Array.toList_map]
theorem xhH{s:String}{first captured:Array Operand}{x:Operand}{c:C}(hρ:Says pv e ρ ra)(E:Emb pv e H w)(ho:o.op = .makeFunc (.method s) first captured)(hf:captured.size=0)(h1:first.toList = [x])(h2:ρ x=some (.c c)):Did P pv ra o e H w (.c (.meth s c)) H:=by
 have h3:=hρ x _ h2
 refine xt E (rv :=.func (.method s) #[ra x] #[]) ?_ ?_
 .have:captured = #[]:=Array.eq_empty_of_size_eq_zero hf
  subst this
  have:first = #[x]:=by rw[<- Array.toArray_toList (xs:=first),h1]
  subst this
  simp[execOp,ho,Instr.makeFunc]
 .simp only[denV]at h3
  simp[denV,den,h3]
theorem Vn(hρ:Says pv e ρ ra){x:Option Operand}{v:Option V}(h:optO ρ x=some v):(x=none/\v=none)\/ ∃y u,x=some y/\v=some u/\denV pv e u=some (ra y):=by
 cases x with
 | none=>simp only[optO,oI]at h;exact .inl ⟨rfl,h.symm⟩
 | some y=>
  simp only[optO,oM]at h
  obtain⟨u,h1,rfl⟩:=h
  exact .inr ⟨y,u,rfl,rfl,hρ y u h1⟩
theorem wz{v:V}{rv:Value}{most n dflt:Nat}{code:BoundsCode}(hv:denV pv e v=some rv)(h:xE (some v) dflt most=some (true,n)):(Instr.sliceBound rv most code).run P w = .ok n w:=by
 unfold xE at h
 split at h
 .rename_i h0;cases h0
 .rename_i k i h0
  cases h0
  simp only[oI,dI,decide_eq_true_eq]at h
  simp only[denV,den,oI]at hv
  subst hv
  simp[Instr.sliceBound,asIntOf,h.1,h.2]
 .cases h
theorem wl{isSlice:Bool}{len cap h' l':Nat}{lo hi:Option Operand}{lv hv:Option V}(hρ:Says pv e ρ ra)(h1:optO ρ lo=some lv)(h2:optO ρ hi=some hv)(h3:xE hv len cap=some (true,h'))(h4:xE lv 0 h'=some (true,l')) :
  (Instr.sliceBounds isSlice len cap (lo.map ra) (hi.map ra) none).run P w = .ok (l',h',cap) w:=by
 rcases Vn hρ h2 with⟨rfl,rfl⟩|⟨y,u,rfl,rfl,hu⟩<;>rcases Vn hρ h1 with⟨rfl,rfl⟩|⟨y',u',rfl,rfl,Bu⟩
 .simp only[xE,oI,dI,true_and]at h3 h4
  subst h3;subst h4
  simp[Instr.sliceBounds]
 .simp only[xE,oI,dI,true_and]at h3
  subst h3
  simp[Instr.sliceBounds,wz Bu h4]
 .simp only[xE,oI,dI,true_and]at h4
  subst h4
  simp[Instr.sliceBounds,wz hu h3]
 .simp[Instr.sliceBounds,wz Bu h4,wz hu h3]
theorem YZ{isSlice:Bool}{len cap most m' h' l':Nat}{lo:Option Operand}{hi mx:Operand}{lv:Option V}{hv mv:V}(hρ:Says pv e ρ ra)(h1:optO ρ lo=some lv)(h2:ρ hi=some hv)(h0:ρ mx=some mv)(bu:most<=cap)(h5:xE (some mv) 0 most=some (true,m'))(h3:xE (some hv) 0 m'=some (true,h'))(h4:xE lv 0 h'=some (true,l')) :
  (Instr.sliceBounds isSlice len cap (lo.map ra) (some (ra hi)) (some (ra mx))).run P w = .ok (l',h',m') w:=by
 have b0 : ∀code,(Instr.sliceBound (ra mx) cap code).run P w = .ok m' w:=fun code=>by
  have h6:xE (some mv) 0 cap=some (true,m'):=by
   unfold xE at h5 |-
   split at h5
   .rename_i h7;cases h7
   .rename_i k i h7
    cases h7
    simp only[oI,dI,decide_eq_true_eq]at h5 |-
    exact⟨⟨h5.1.1,by omega⟩,h5.2⟩
   .cases h5
  exact wz (hρ mx mv h0) h6
 rcases Vn hρ h1 with⟨rfl,rfl⟩|⟨y',u',rfl,rfl,Bu⟩
 .simp only[xE,oI,dI,true_and]at h4
  subst h4
  simp[Instr.sliceBounds,b0,wz (hρ hi hv h2) h3]
 .simp[Instr.sliceBounds,b0,wz Bu h4,wz (hρ hi hv h2) h3]
theorem xgj{z b o most:Nat}{s:C}{rv:Value}(h:viewS z s=some (b,o,most))(hd:den pv e s=some rv) : ∃r len cap,e[b]? = some r/\rv = .slice (some ⟨r.1,o,none⟩) len cap/\most<=cap:=by
 unfold viewS at h
 split at h
 .cases h
  simp only[den,oM]at hd
  obtain⟨r,h1,rfl⟩:=hd
  exact⟨r,_,_,h1,rfl,dJ _⟩
 .split at h
  .rename_i h0
   cases h
   simp only[den,dU]at hd
   obtain⟨r,h1,hd⟩:=hd
   rw[dA (by omega)]at hd
   split at hd
   .rename_i bu
    cases hd
    exact⟨r,_,_,h1,rfl,bu⟩
   .cases hd
  .cases h
 .split at h
  .rename_i h0
   obtain⟨rfl,h0⟩:=h0
   cases h
   simp only[den,dU]at hd
   obtain⟨r,h1,hd⟩:=hd
   split at hd
   .rename_i hr
    rw[dA (by omega)]at hd
    cases hd
   .split at hd
    .rename_i hr bu
     cases hd
     rw[dA (by omega)]
     exact⟨r,_,_,h1,rfl,by omega⟩
    .cases hd
  .cases h
 .split at h
  .rename_i h0
   cases h
   simp only[den,dU]at hd
   obtain⟨r,h1,hd⟩:=hd
   split at hd
   .rename_i bu
    rw[ite_self]at hd
    cases hd
    exact⟨r,_,_,h1,rfl,by omega⟩
   .cases hd
  .cases h
 .cases h
theorem vT{v:Option V}{d m n:Nat}(h:xE v d m=some (true,n))(hd:d<=m):n<=m:=by
 unfold xE at h
 split at h
 .simp only[oI,dI,true_and]at h;omega
 .simp only[oI,dI,decide_eq_true_eq]at h;omega
 .cases h
theorem xhI{v:V}{d d' m:Nat}:xE (some v) d m=xE (some v) d' m:=by
 cases v with
 | c x=>cases x<;>rfl
 | agg _=>rfl
 | tup _=>rfl
theorem xaa{b o d a n c:Nat}{s:C}{pv:Value}{rv:Value}(h:xe8 s=some (true,b,o,d,a,n,c))(h0:0<n)(hd:den pv e s=some rv) : ∃r,e[b]? = some r/\rv = .slice (some ⟨r.1,a,none⟩) n c/\a=o+d/\n<=c:=by
 unfold xe8 at h
 split at h
 .simp only[oI,dI,Nat.ble_eq]at h
  obtain⟨ot,rfl,rfl,rfl,rfl,rfl,rfl⟩:=h
  simp only[den,oM]at hd
  obtain⟨r,h1,rfl⟩:=hd
  exact⟨r,h1,by rw[dA (by omega)],rfl,ot⟩
 .cases h
  simp only[den,dU]at hd
  obtain⟨r,h1,hd⟩:=hd
  split at hd
  .rename_i hh
   cases hd
   exact⟨r,h1,rfl,by omega,hh.2⟩
  .cases hd
 .cases h
theorem Vo{s:C}{l h m:Option V}{c:C}(hs:WT s l h m=some (true,c)) : ∃b o d a n cap m' h' l',xe8 s=some (true,b,o,d,a,n,cap)/\xE m cap cap=some (true,m')/\xE h n m'=some (true,h')/\xE l 0 h'=some (true,l')/\0<n/\c = .slx b o (d+l') (if m'=l' then a else a+l') (h'-l') (m'-l'):=by
 unfold WT at hs
 split at hs
 .rename_i g b o d a n cap hv
  split at hs
  .rename_i g0 m' ff
   split at hs
   .rename_i g1 h' fm
    split at hs
    .rename_i g2 l' eb
     simp only[oI,dI,dM,Nat.blt_eq]at hs
     obtain⟨⟨⟨⟨⟨rfl,rfl⟩,rfl⟩,rfl⟩,h0⟩,rfl⟩:=hs
     exact⟨b,o,d,a,n,cap,m',h',l',hv,ff,fm,eb,h0,rfl⟩
    .cases hs
   .cases hs
  .cases hs
 .cases hs
theorem xfg{pv:Value}{r:Nat×Nat}{b o d a l' h' m':Nat}(h1:e[b]? = some r)(ha:a=o+d)(hl:l'<=h')(hm:h'<=m'):den pv e (.slx b o (d+l') (if m'=l' then a else a+l') (h'-l') (m'-l'))=some (.slice (some ⟨r.1,if m'=l' then a else a+l',none⟩) (h'-l') (m'-l')):=by
 simp only[den,h1,Option.bind_some]
 rw[dB]
 refine⟨?_,by omega⟩
 by_cases he:m'=l'
 .left;omega
 .right;rw[dA he];omega
theorem xdS{t:TypeId}{x:Operand}{lo hi:Option Operand}{mx:Operand}{c:C}(hρ:Says pv e ρ ra)(E:Emb pv e H w)(ho:o.op = .slice t x lo hi (some mx))(h:WU P t (ρ x) (optO ρ lo) (optO ρ hi) (ρ mx)=some (true,c)):Did P pv ra o e H w (.c c) H:=by
 unfold WU at h
 split at h
 .rename_i el s l hh m hu hx hl ic hm
  split at h
  .rename_i z hz
   split at h
   .rename_i b q most hv
    split at h
    .rename_i g0 m' ff
     split at h
     .rename_i g1 h' fm
      split at h
      .rename_i g2 l' eb
       simp only[oI,dI,dM]at h
       obtain⟨⟨⟨rfl,rfl⟩,rfl⟩,rfl⟩:=h
       obtain⟨un,rfl,F9⟩ : ∃y,hi=some y/\ρ y=some hh:=by
        cases hi with
        | none=>simp[optO]at ic
        | some y=>simp only[optO,oM]at ic;obtain⟨u,h1,h2⟩:=ic;cases h2;exact⟨y,rfl,h1⟩
       have hs:=hρ x _ hx
       simp only[denV]at hs
       obtain⟨r,len,cap,g1,g2,g3⟩:=xgj hv hs
       refine xt E (rv :=.slice (some ⟨r.1,if m'=l' then q else q+l'*z,none⟩) (h'-l') (m'-l')) ?_ (by simp[denV,den,g1])
       simp only[execOp,ho,g2,Instr.sliceAt,Sem.run_bind,xa hu,Result.andThen_ok,Instr.slice,dN,YZ hρ hl F9 hm g3 ff fm eb,xw hz,yd,Sem.run_pure]
       split<;>rfl
      .cases h
     .cases h
    .cases h
   .split at h
    .rename_i El
     subst El
     obtain⟨b,q,d,a,n,cap,m',h',l',hv,ff,fm,eb,h0,rfl⟩:=Vo h
     obtain⟨un,rfl,F9⟩ : ∃y,hi=some y/\ρ y=some hh:=by
      cases hi with
      | none=>simp[optO]at ic
      | some y=>simp only[optO,oM]at ic;obtain⟨u,h1,h2⟩:=ic;cases h2;exact⟨y,rfl,h1⟩
     have hs:=hρ x _ hx
     simp only[denV]at hs
     obtain⟨r,g1,g2,g3,_⟩:=xaa hv h0 hs
     rw[xhI (d':=0)]at ff fm
     have Dr:h'<=m':=by
      unfold xE at fm
      split at fm
      .rename_i he;cases he
      .rename_i he;simp only[oI,dI,decide_eq_true_eq]at fm;omega
      .cases fm
     have tt:=vT eb (Nat.zero_le _)
     refine xt E (rv :=.slice (some ⟨r.1,if m'=l' then a else a+l',none⟩) (h'-l') (m'-l')) ?_ (by simp only[denV];exact xfg g1 g3 tt Dr)
     simp only[execOp,ho,g2,Instr.sliceAt,Sem.run_bind,xa hu,Result.andThen_ok,Instr.slice,dN,YZ hρ hl F9 hm (dJ _) ff fm eb,xw hz,yd,Sem.run_pure,Nat.mul_one]
     split<;>rfl
    .cases h
  .cases h
 .cases h
theorem xdT{t el:TypeId}{x:Operand}{lo hi:Option Operand}{lv hv:Option V}{s c:C}(hρ:Says pv e ρ ra)(E:Emb pv e H w)(ho:o.op = .slice t x lo hi none)(hu:P.underlying t=some (.slice el))(hx:ρ x=some (.c s))(hz:xR P el=some 1)
  (h1:optO ρ lo=some lv) (h2:optO ρ hi=some hv) (h:WT s lv hv none=some (true,c)):Did P pv ra o e H w (.c c) H:=by
 obtain⟨b,q,d,a,n,cap,m',h',l',dt,ff,fm,eb,h0,rfl⟩:=Vo h
 have hs:=hρ x _ hx
 simp only[denV]at hs
 obtain⟨r,g1,g2,g3,cb⟩:=xaa dt h0 hs
 simp only[xE,oI,dI,true_and]at ff
 subst ff
 have Dr:=vT fm cb
 have tt:=vT eb (Nat.zero_le _)
 refine xt E (rv :=.slice (some ⟨r.1,if cap=l' then a else a+l',none⟩) (h'-l') (cap-l')) ?_ (by simp only[denV];exact xfg g1 g3 tt Dr)
 simp only[execOp,ho,g2,Instr.sliceAt,Sem.run_bind,xa hu,Result.andThen_ok,Instr.slice,Option.map_none,wl hρ h1 h2 fm eb,xw hz,dN,yd,Sem.run_pure,Nat.mul_one]
 split<;>rfl
theorem xa1{t el:TypeId}{x:Operand}{lo hi:Option Operand}{lv hv:Option V}{n b p z h' l':Nat}(hρ:Says pv e ρ ra)(E:Emb pv e H w)(ho:o.op = .slice t x lo hi none)(hu:P.underlying t=some (.array n el))(hx:ρ x=some (.c (.ptr b p)))
  (h1:optO ρ lo=some lv) (h2:optO ρ hi=some hv) (hz:xR P el=some z) (h3:xE hv n n=some (true,h')) (h4:xE lv 0 h'=some (true,l')):Did P pv ra o e H w (.c (.sl b (if n=l' then p else p+l'*z) (h'-l') (n-l'))) H:=by
 obtain⟨r,g1,g2⟩:=qk hρ hx
 refine xt E (rv :=.slice (some ⟨r.1,if n=l' then p else p+l'*z,none⟩) (h'-l') (n-l')) ?_ (by simp[denV,den,g1])
 simp only[execOp,ho,g2,Instr.sliceAt,Sem.run_bind,xa hu,Result.andThen_ok,Instr.sureAddr,Sem.run_pure,Option.map_none,wl hρ h1 h2 h3 h4,xw hz,yd]
 split<;>rfl
theorem xci{t el:TypeId}{x:Operand}{lo hi:Option Operand}{lv hv:Option V}{len cap b p z h' l':Nat}(hρ:Says pv e ρ ra)(E:Emb pv e H w)(ho:o.op = .slice t x lo hi none)(hu:P.underlying t=some (.slice el))(hx:ρ x=some (.c (.sl b p len cap)))
  (h1:optO ρ lo=some lv) (h2:optO ρ hi=some hv) (hz:xR P el=some z) (h3:xE hv len cap=some (true,h')) (h4:xE lv 0 h'=some (true,l')):Did P pv ra o e H w (.c (.sl b (if cap=l' then p else p+l'*z) (h'-l') (cap-l'))) H:=by
 have:=hρ x _ hx
 simp only[denV,den,oM]at this
 obtain⟨r,g1,g2⟩:=this
 refine xt E (rv :=.slice (some ⟨r.1,if cap=l' then p else p+l'*z,none⟩) (h'-l') (cap-l')) ?_ (by simp[denV,den,g1])
 simp only[execOp,ho,<- g2,Instr.sliceAt,Sem.run_bind,xa hu,Result.andThen_ok,Instr.slice,Option.map_none,wl hρ h1 h2 h3 h4,xw hz,dN,yd,Sem.run_pure]
 split<;>rfl
/-! ### structs and rows that are built -/
theorem xcj : ∀ (l:List Value) (k off:Nat) (cs:Array Value),(l.zipIdx k).foldl (fun cs (c:Value×Nat)=>cs.setIfInBounds (off+c.2) c.1) cs=(put cs.toList (off+k) l).toArray
 | [],k,off,cs=>by simp[put]
 | v::l,k,off,cs=>by
  simp only[List.zipIdx_cons,List.foldl_cons,put]
  rw[xcj l (k+1) off,Array.toList_setIfInBounds]
  rw[Nat.add_assoc]
theorem qS{pv:Value}{place:Nat->Option (Nat×Nat)}(hp:One pv) : ∀ (ps:List (Nat×V)) (rs:List (Nat×Value)) (cells r:List C) (vs:List Value),ZO place cells ps=some r->denL pv e cells=some vs->
  allSome (fun p=>(denV pv e p.2).map fun v=>(p.1,v)) ps=some rs ->∃us,Instr.fill place vs.toArray rs=some us.toArray/\denL pv e r=some us
 | [],rs,cells,r,vs,h,hd,hr=>by
  simp only[ZO,oI]at h
  simp only[allSome,oI]at hr
  subst h;subst hr
  exact⟨vs,rfl,hd⟩
 | (i,v)::ps,rs,cells,r,vs,h,hd,hr=>by
  simp only[ZO]at h
  simp only[allSome]at hr
  split at hr
  .rename_i y hy
   split at hr
   .rename_i ys fz
    cases hr
    rw[oM]at hy
    obtain⟨rv,cf,rfl⟩:=hy
    split at h
    .rename_i off size xs et ez
     split at h
     .rename_i hc
      split at h
      .rename_i cs bk
       obtain rfl:=qi _ _ _ _ bk
       have h2:=vq hp cf ez
       have so:=xN h2
       have hl:=xN hd
       obtain⟨us,h3,h4⟩:=qS hp ps ys _ r (put vs off rv.cells.toList) h (xb8 hd h2) fz
       refine⟨us,?_,h4⟩
       simp only[Instr.fill,et]
       have e1:rv.cells.size=size:=by rw[<- Array.length_toList,so,hc.1]
       rw[dA (by simp[e1];omega)]
       rw[<- h3]
       congr 1
       rw[<- Array.foldl_toList,Array.toList_zipIdx,xcj]
       simp
      .cases h
     .cases h
    .cases h
   .cases hr
  .cases hr
theorem jK{pv:Value}(hρ:Says pv e ρ ra) : ∀ (l:List (Nat×Operand)) (ps:List (Nat×V)),partsOf ρ l=some ps->allSome (fun p=>(denV pv e p.2).map fun v=>(p.1,v)) ps=some (l.map fun p=>(p.1,ra p.2))
 | [],ps,h=>by simp only[partsOf,allSome,oI]at h;subst h;rfl
 | (i,x)::l,ps,h=>by
  simp only[partsOf,allSome]at h
  split at h
  .rename_i y hy
   split at h
   .rename_i ys fz
    cases h
    rw[oM]at hy
    obtain⟨v,hv,rfl⟩:=hy
    have:=jK hρ l ys (by simpa[partsOf]using fz)
    simp only[allSome,hρ x v hv,dN,this,List.map_cons]
   .cases h
  .cases h
theorem xck{α β:Type}(f:α->Sem β)(g:α->Option β)(w:World)(h : ∀x y,g x=some y->(f x).run P w = .ok y w) : ∀ (l:List α) (r:List β),allSome g l=some r->(l.mapM f).run P w = .ok r w
 | [],r,hr=>by simp only[allSome,oI]at hr;subst hr;simp
 | x::l,r,hr=>by
  simp only[allSome]at hr
  split at hr
  .rename_i y hy
   split at hr
   .rename_i ys fz
    cases hr
    simp[List.mapM_cons,h x y hy,xck f g w h l ys fz]
   .cases hr
  .cases hr
theorem xdU{t:TypeId}{parts:Array (Nat×Operand)}{z:V}{ps:List (Nat×V)}{cs r:List C}{fs:Array Field}{places:List (Nat×Nat)}(hp:One pv)(hρ:Says pv e ρ ra)(E:Emb pv e H w)(ho:o.op = .build t parts)(hz:jH P t=some z)
  (lr:partsOf ρ parts.toList=some ps) (hc:z.cells=some cs) (hu:P.underlying t=some (.struct fs)) (et:allSome (fun f:Field=>(xR P f.type).map fun n=>(f.offset,n)) fs.toList=some places) (h:ZO (fun i=>places[i]?) cs ps=some r) :
  Did P pv ra o e H w (.agg r) H:=by
 obtain⟨zv,h1,h2⟩:=ke hz pv e
 obtain⟨us,h3,h4⟩:=qS hp ps _ cs r _ h (vq hp h2 hc) (jK hρ _ _ lr)
 refine xt E (rv :=.agg us.toArray) ?_ (by simp[denV,h4])
 have hm:(fs.mapM fun f=>do pure (f.offset,<- sizeOf f.type):Sem (Array (Nat×Nat))).run P w = .ok places.toArray w:=by
  rw[Array.mapM_eq_mapM_toList]
  have:=xck (P:=P) (fun f:Field=>(do pure (f.offset,<- sizeOf f.type):Sem (Nat×Nat))) (fun f:Field=>(xR P f.type).map fun n=>(f.offset,n)) w (fun f y hy=>by
   rw[oM]at hy
   obtain⟨n,hn,rfl⟩:=hy
   simp[xw hn]) fs.toList places et
  simp only[Sem.run_map,this,Result.andThen_ok]
 have fv:Instr.fill (fun i=>places.toArray[i]?) zv.cells (parts.map fun p=>(p.1,ra p.2)).toList=some us.toArray:=by
  rw[<- h3]
  simp
 simp only[execOp,ho,Instr.build,Sem.run_bind,h1,Result.andThen_ok,xa hu]
 simp only[hm,Result.andThen_ok]
 have:(parts.map fun(p:Nat×Operand)=>(p.fst,ra p.snd)).toList=(parts.map fun(x:Nat×Operand)=>match x with|(i,x)=>(i,ra x)).toList:=rfl
 simp only[<- this,fv]
 rfl
theorem xdV{t el:TypeId}{len n:Nat}{parts:Array (Nat×Operand)}{z:V}{ps:List (Nat×V)}{cs r:List C}(hp:One pv)(hρ:Says pv e ρ ra)(E:Emb pv e H w)(ho:o.op = .build t parts)(hz:jH P t=some z)
  (lr:partsOf ρ parts.toList=some ps) (hc:z.cells=some cs) (hu:P.underlying t=some (.array len el)) (hn:xR P el=some n) (h:ZO (fun i=>some (i*n,n)) cs ps=some r) :
  Did P pv ra o e H w (.agg r) H:=by
 obtain⟨zv,h1,h2⟩:=ke hz pv e
 obtain⟨us,h3,h4⟩:=qS hp ps _ cs r _ h (vq hp h2 hc) (jK hρ _ _ lr)
 refine xt E (rv :=.agg us.toArray) ?_ (by simp[denV,h4])
 have fv:Instr.fill (fun i=>some (i*n,n)) zv.cells (parts.map fun p=>(p.1,ra p.2)).toList=some us.toArray:=by
  rw[<- h3]
  simp
 simp only[execOp,ho,Instr.build,Sem.run_bind,h1,Result.andThen_ok,xa hu,xw hn]
 have:(parts.map fun(p:Nat×Operand)=>(p.fst,ra p.snd)).toList=(parts.map fun(x:Nat×Operand)=>match x with|(i,x)=>(i,ra x)).toList:=rfl
 simp only[<- this,fv]
 rfl
theorem xfh{zs:List Value}(h0:0<zs.length) : ∀ (len i:Nat),i<len*zs.length->((List.replicate len zs).flatten)[i]? = zs[i%zs.length]?
 | 0,i,h=>by simp at h
 | len+1,i,h=>by
  rw[List.replicate_succ,List.flatten_cons]
  by_cases hi:i<zs.length
  .rw[List.getElem?_append_left hi,Nat.mod_eq_of_lt hi]
  .have e1:(len+1)*zs.length=len*zs.length+zs.length:=Nat.succ_mul ..
   rw[List.getElem?_append_right (by omega),xfh h0 len (i-zs.length) (by omega)]
   congr 1
   exact(Nat.mod_eq_sub_mod (by omega)).symm
theorem vL{pv:Value} : ∀ {a b:List C} {x y:List Value},denL pv e a=some x->denL pv e b=some y->denL pv e (a++b)=some (x++y)
 | [],b,x,y,h,h'=>by simp only[denL,oI]at h;subst h;exact h'
 | c::a,b,x,y,h,h'=>by
  simp only[denL]at h
  split at h
  .rename_i v hv
   split at h
   .rename_i us hu
    cases h
    simp only[List.cons_append,denL,hv,vL hu h']
   .cases h
  .cases h
theorem xa2{pv:Value}{zs:List C}{vs:List Value}(h:denL pv e zs=some vs) : ∀n,denL pv e (rep zs n)=some (List.replicate n vs).flatten
 | 0=>by simp[rep,denL]
 | n+1=>by
  have ih:=xa2 h n
  simp only[rep,List.replicate_succ,List.flatten_cons]
  exact vL h ih
theorem Vp{t el:TypeId}{len n:Nat}{parts:Array (Nat×Operand)}{z:V}{ps:List (Nat×V)}{zs r:List C}(hp:One pv)(hρ:Says pv e ρ ra)(E:Emb pv e H w)(ho:o.op = .buildSlice t len parts)(hu:P.underlying t=some (.slice el))(lr:partsOf ρ parts.toList=some ps)
  (hn:xR P el=some n) (hz:jH P el=some z) (hc:z.cells=some zs) (h0:zs.length=n/\0<n/\len*n<=1000) (h:ZO (fun i=>some (i*n,n)) (rep zs len) ps=some r) :
  Did P pv ra o e H w (.c (.sl H.length 0 len len)) (newB H ⟨r,el,false,none⟩):=by
 obtain⟨zv,h1,h2⟩:=ke hz pv e
 have Hc:=vq hp h2 hc
 obtain⟨us,h3,h4⟩:=qS hp ps _ _ r _ h (xa2 Hc len) (jK hρ _ _ lr)
 refine Vj (cap:=0) E h4 (rv :=.slice (some ⟨w.heap.size,0,none⟩) len len) ?_ (by simp[denV,den,E.len])
 have aj:zv.cells.size=n:=by rw[<- Array.length_toList,xN Hc,h0.1]
 have dl:((if len*n=0 then pure #[]else do pure (<- zeroValue el).cells:Sem (Array Value)).run P w) = .ok (if len*n=0 then #[]else zv.cells) w:=by
  split<;>simp[h1]
 have lb:(Array.range (len*n)).map (fun i=>(if len*n=0 then #[]else zv.cells)[i%(if len*n=0 then #[]else zv.cells).size]!)=((List.replicate len zv.cells.toList).flatten).toArray:=by
  apply Array.ext
  .simp[aj]
  .intro i g1 g2
   simp only[Array.size_map,Array.size_range]at g1
   have ae:len*n≠0:=by omega
   have g3:=xfh (zs:=zv.cells.toList) (by simp[aj];omega) len i (by simpa[aj]using g1)
   have hm:i%zv.cells.size<zv.cells.size:=Nat.mod_lt _ (by omega)
   simp only[Array.getElem_map,Array.getElem_range,dA ae,List.getElem_toArray]
   rw[getElem!_pos zv.cells (i%zv.cells.size) hm]
   simp only[Array.length_toList]at g3
   rw[List.getElem?_eq_getElem (by simpa using g2),List.getElem?_eq_getElem (by simpa using hm),oI]at g3
   rw[g3]
   simp
 have Gl : ¬ (len*n>2 ^ 24):=by omega
 have fv:Instr.fill (fun i=>some (i*n,n)) ((Array.range (len*n)).map (fun i=>(if len*n=0 then #[]else zv.cells)[i%(if len*n=0 then #[]else zv.cells).size]!)) (parts.map fun p=>(p.1,ra p.2)).toList=some us.toArray:=by
  rw[lb,<- h3]
  simp
 simp only[execOp,ho,Instr.buildSlice,Sem.run_bind,xa hu,Result.andThen_ok,xw hn,dA Gl,Sem.run_pure]
 by_cases Dj:len*n=0
 .simp only[dB Dj]at fv |-
  simp only[Sem.run_bind,Sem.run_pure,Result.andThen_ok,fv]
  simp[newRow]
 .simp only[dA Dj]at fv |-
  simp only[Sem.run_bind,h1,Sem.run_pure,Result.andThen_ok,fv]
  simp[newRow]
theorem Wa{u:Value}{e:Env}{b q d a n c:Nat}{rv:Value}(h:den u e (.slx b q d a n c)=some rv) : ∃a c,rv = .slice a n c:=by
 simp only[den,dU]at h
 obtain⟨r,_,h⟩:=h
 split at h
 .cases h;exact⟨_,_,rfl⟩
 .cases h
theorem Wb{u:Value}{e:Env}{b z q n:Nat}{rv:Value}(h:den u e (.slv b z q n)=some rv) : ∃a c,rv = .slice a n c:=by
 simp only[den,dU]at h
 obtain⟨r,_,h⟩:=h
 split at h
 .split at h
  .rename_i h0
   obtain rfl:n=0:=by omega
   rcases(vg h).2 with rfl|⟨a,rfl⟩<;>exact⟨_,_,rfl⟩
  .cases h
 .split at h
  .cases h;exact⟨_,_,rfl⟩
  .cases h
theorem did_len{b:Builtin}{args:Array Operand}{ats:Array TypeId}{vs:List V}{v:V}{H':Heap}(hρ:Says pv e ρ ra)(E:Emb pv e H w)(ho:o.op = .call {callee :=.builtin b,args:=args,argTypes:=ats})(hv:allSome ρ args.toList=some vs)
  (h:yv P b ats.toList vs H=some (.val true v H')):Did P pv ra o e H w v H':=by
 have ha:=vZ hρ _ _ hv
 have bh:args.map ra=(args.toList.map ra).toArray:=by rw[<- Array.toList_map]
 have run : ∀ (s:Sem Value) (rv:Value),(∀cs,builtin b ats o.type cs (args.map ra)=(do pure (.value (<- s))))->s.run P w = .ok rv w->denV pv e v=some rv->Did P pv ra o e H w v H:=by
  intro s rv h1 h2 h3
  refine xt E (rv:=rv) ?_ h3
  simp only[execOp,ho,resolve,Sem.run_bind,Sem.run_pure,Result.andThen_ok,invoke]
  rw[h1]
  simp only[Sem.run_bind,h2,Sem.run_pure,Result.andThen_ok]
 unfold yv at h
 split at h
 .rename_i t x h1
  have bq:ats = #[t]:=by rw[<- Array.toArray_toList (xs:=ats),h1]
  simp only[allSome]at ha
  split at ha
  .rename_i rv cf
   simp only[oI]at ha
   have h2:args.map ra = #[rv]:=by rw[bh,<- ha]
   split at h
   .rename_i hu
    cases h
    simp only[denV,den,oI]at cf
    subst cf
    exact run (Builtin.len_ ats o.type (args.map ra)) _ (fun _=>rfl) (by rw[h2,bq];simp[Builtin.len_,xa hu,goInt]) rfl
   .rename_i hu
    cases h
    simp only[denV,den,oM]at cf
    obtain⟨_,_,rfl⟩:=cf
    exact run (Builtin.len_ ats o.type (args.map ra)) _ (fun _=>rfl) (by rw[h2,bq];simp[Builtin.len_,xa hu,goInt]) rfl
   .rename_i hu
    cases h
    simp only[denV,den,dU]at cf
    obtain⟨_,_,cf⟩:=cf
    split at cf
    .cases cf
     exact run (Builtin.len_ ats o.type (args.map ra)) _ (fun _=>rfl) (by rw[h2,bq];simp[Builtin.len_,xa hu,goInt]) rfl
    .cases cf
   .rename_i hu
    cases h
    simp only[denV,den,oM]at cf
    obtain⟨_,_,rfl⟩:=cf
    exact run (Builtin.len_ ats o.type (args.map ra)) _ (fun _=>rfl) (by rw[h2,bq];simp[Builtin.len_,xa hu,goInt]) rfl
   .rename_i hu
    cases h
    simp only[denV,den,dU]at cf
    obtain⟨_,_,cf⟩:=cf
    split at cf
    .rename_i h0
     subst h0
     obtain⟨b0,rfl⟩ : ∃b,rv = .slice b 0 0:=by rcases(vg cf).2 with h|⟨a,h⟩<;>exact⟨_,h⟩
     exact run (Builtin.len_ ats o.type (args.map ra)) _ (fun _=>rfl) (by rw[h2,bq];simp[Builtin.len_,xa hu,goInt]) rfl
    .split at cf
     .cases cf
      exact run (Builtin.len_ ats o.type (args.map ra)) _ (fun _=>rfl) (by rw[h2,bq];simp[Builtin.len_,xa hu,goInt]) rfl
     .cases cf
   .rename_i hu
    cases h
    simp only[denV]at cf
    obtain⟨a0,c0,rfl⟩:=Wb cf
    exact run (Builtin.len_ ats o.type (args.map ra)) _ (fun _=>rfl) (by rw[h2,bq];simp[Builtin.len_,xa hu,goInt]) rfl
   .rename_i hu
    cases h
    simp only[denV]at cf
    obtain⟨a0,c0,rfl⟩:=Wa cf
    exact run (Builtin.len_ ats o.type (args.map ra)) _ (fun _=>rfl) (by rw[h2,bq];simp[Builtin.len_,xa hu,goInt]) rfl
   .rename_i hu
    cases h
    exact run (Builtin.len_ ats o.type (args.map ra)) _ (fun _=>rfl) (by rw[h2,bq];simp[Builtin.len_,xa hu,goInt]) rfl
   .cases h
  .cases ha
 .rename_i k x k' y
  simp only[allSome,denV,den,oI]at ha
  cases h
  have h2:args.map ra = #[.int k x,.int k' y]:=by rw[bh,<- ha]
  exact run (Builtin.min_ ats o.type (args.map ra)) _ (fun _=>rfl) (by rw[h2];simp[Builtin.min_,Builtin.min2]) rfl
 .rename_i k x k' y
  simp only[allSome,denV,den,oI]at ha
  cases h
  have h2:args.map ra = #[.int k x,.int k' y]:=by rw[bh,<- ha]
  exact run (Builtin.max_ ats o.type (args.map ra)) _ (fun _=>rfl) (by rw[h2];simp[Builtin.max_,Builtin.max2]) rfl
 .cases h
theorem xgk{t:TypeId}{x:Operand}{c:C}{d:TypeDesc}(hρ:Says pv e ρ ra)(E:Emb pv e H w)(ho:o.op = .makeInterface t x)(hx:ρ x=some (.c c))(hu:P.underlying t=some d)(hd:WX d=false):Did P pv ra o e H w (.c (.ifc t c)) H:=by
 have h1:=hρ x _ hx
 refine xt E (rv :=.iface t (ra x)) ?_ ?_
 .simp only[execOp,ho,Instr.makeInterface,Sem.run_bind,xa hu,Result.andThen_ok]
  cases d<;>simp[WX]at hd |-
 .simp only[denV,den]at h1 |-
  rw[h1];rfl
/-! ### rows that grow -/
theorem qT{v:Option V}{d m m' n:Nat}(h:xE v d m=some (true,n))(hm:m<=m'):xE v d m'=some (true,n):=by
 unfold xE at h |-
 split at h
 .exact h
 .rename_i k i
  simp only[oI,dI,decide_eq_true_eq]at h |-
  exact⟨⟨h.1.1,by omega⟩,h.2⟩
 .cases h
theorem xa3{t el:TypeId}{x:Operand}{lo hi:Option Operand}{lv hv:Option V}{len b h' l':Nat}(hρ:Says pv e ρ ra)(E:Emb pv e H w)(ho:o.op = .slice t x lo hi none)(hu:P.underlying t=some (.slice el))(hx:ρ x=some (.c (.slg b 0 len)))
  (h1:optO ρ lo=some lv) (h2:optO ρ hi=some hv) (hz:xR P el=some 1) (h3:xE hv len len=some (true,h')) (h4:xE lv 0 h'=some (true,l')):Did P pv ra o e H w (.c (.slg b l' (h'-l'))) H:=by
 have:=hρ x _ hx
 simp only[denV,den,dU]at this
 obtain⟨r,g1,g2⟩:=this
 split at g2
 .rename_i bu
  simp only[oI,ite_self,Nat.sub_zero,Nat.zero_add]at g2 bu
  have h5:=vT h3 (dJ _)
  have h6:=vT h4 (Nat.zero_le _)
  have Di:=qT h3 bu
  refine xt E (rv :=.slice (some ⟨r.1,if r.2=l' then 0 else l',none⟩) (h'-l') (r.2-l')) ?_ ?_
  .simp only[execOp,ho,<- g2,Instr.sliceAt,Sem.run_bind,xa hu,Result.andThen_ok,Instr.slice,Option.map_none,wl hρ h1 h2 Di h4,xw hz,dN,yd,Sem.run_pure]
   split<;>simp
  .simp only[denV,den,g1,Option.bind_some]
   rw[dB (by omega)]
 .cases g2
theorem xa4{t el:TypeId}{x:Operand}{lo hi:Option Operand}{lv hv:Option V}{z q n b h' l':Nat}(hρ:Says pv e ρ ra)(E:Emb pv e H w)(ho:o.op = .slice t x lo hi none)(hu:P.underlying t=some (.slice el))(hz:xR P el=some z)(hx:ρ x=some (.c (.slv b z q n)))
  (h1:optO ρ lo=some lv) (h2:optO ρ hi=some hv) (h3:xE hv n n=some (true,h')) (h4:xE lv 0 h'=some (true,l')) (ao:l'<n):Did P pv ra o e H w (.c (.slv b z (q+l') (h'-l'))) H:=by
 have:=hρ x _ hx
 simp only[denV,den,dU]at this
 obtain⟨r,g1,g2⟩:=this
 have h5:=vT h3 (dJ _)
 have h6:=vT h4 (Nat.zero_le _)
 split at g2
 .rename_i hr
  rw[dA (by omega)]at g2
  cases g2
 .split at g2
  .rename_i hr bu
   simp only[oI]at g2
   have Di:=qT h3 (show n<=r.2-q by omega)
   refine xt E (rv :=.slice (some ⟨r.1,(q+l')*z,none⟩) (h'-l') (r.2-q-l')) ?_ ?_
   .simp only[execOp,ho,<- g2,Instr.sliceAt,Sem.run_bind,xa hu,Result.andThen_ok,Instr.slice,Option.map_none,wl hρ h1 h2 Di h4,xw hz,dN,yd,Sem.run_pure]
    rw[dA (show ¬r.2=q by omega),dA (show ¬r.2-q=l' by omega),Nat.add_mul]
   .simp only[denV,den,g1,Option.bind_some]
    rw[dA hr,dB (by omega),dA (show ¬r.2=q+l' by omega),Nat.sub_sub]
  .cases g2
theorem xa5{t el:TypeId}{x:Operand}{lo hi:Option Operand}{lv hv:Option V}{z len b h' l':Nat}(hρ:Says pv e ρ ra)(E:Emb pv e H w)(ho:o.op = .slice t x lo hi none)(hu:P.underlying t=some (.slice el))(hx:ρ x=some (.c (.slr b len)))
  (h1:optO ρ lo=some lv) (h2:optO ρ hi=some hv) (hz:xR P el=some z) (h3:xE hv len len=some (true,h')) (h4:xE lv 0 h'=some (true,l')):Did P pv ra o e H w (.c (.slv b z l' (h'-l'))) H:=by
 have:=hρ x _ hx
 simp only[denV,den,dU]at this
 obtain⟨r,g1,g2⟩:=this
 have h5:=vT h3 (dJ _)
 have h6:=vT h4 (Nat.zero_le _)
 split at g2
 .rename_i h0
  subst h0
  obtain⟨my,g3⟩:=vg g2
  obtain rfl:h'=0:=by omega
  obtain rfl:l'=0:=by omega
  obtain⟨b0,ff⟩ : ∃b,ra x = .slice b 0 0:=by rcases g3 with h|⟨a,h⟩<;>exact⟨_,h⟩
  refine xt E (rv :=.slice b0 0 0) ?_ ?_
  .simp only[execOp,ho,ff,Instr.sliceAt,Sem.run_bind,xa hu,Result.andThen_ok,Instr.slice,Option.map_none,wl hρ h1 h2 h3 h4,xw hz,Sem.run_pure]
   simp
  .simp only[denV,den,g1,Option.bind_some]
   rw[dB my,dB True.intro,g2,ff]
 .split at g2
  .rename_i h0 bu
   simp only[oI]at g2
   have Di:=qT h3 bu
   refine xt E (rv :=.slice (some ⟨r.1,if r.2=l' then 0 else l'*z,none⟩) (h'-l') (r.2-l')) ?_ ?_
   .simp only[execOp,ho,<- g2,Instr.sliceAt,Sem.run_bind,xa hu,Result.andThen_ok,Instr.slice,Option.map_none,wl hρ h1 h2 Di h4,xw hz,dN,yd,Sem.run_pure]
    split<;>simp
   .simp only[denV,den,g1,Option.bind_some]
    rw[dA (by omega),dB (by omega)]
  .cases g2
theorem one_cell{v:Value}(h:One v):v.oneCell'=true:=by
 cases v with
 | agg cs=>exact absurd rfl (h.1 cs)
 | tuple cs=>exact absurd rfl (h.2 cs)
 | _=>rfl
theorem Kz{el:TypeId}(h:WV P el=true) : ∃i z,P.info? el=some i/\i.zero=some z/\i.size=1/\i.bytes<=64/\z.cells.size=1:=by
 unfold WV at h
 split at h
 .rename_i i hi
  split at h
  .rename_i z hz
   simp only[dM,beq_iff_eq,decide_eq_true_eq]at h
   exact⟨i,z,hi,hz,h.1.1,h.1.2,h.2⟩
  .cases h
 .cases h
theorem Zu{H:Heap}{b i:Nat}{k:Blk}(h:blkAt (setB H b none) i=some k):i≠b/\blkAt H i=some k:=by
 rw[yz,xH,List.getElem?_set]at h
 split at h
 .split at h<;>simp at h
 .rename_i hi
  exact⟨fun h=>hi h.symm,by rw[xH];exact h⟩
theorem Emb.grew{pv:Pv}{e:Env}{H H1:Heap}{w w':World}(E:Emb pv e H w){row:Option Nat}(aj:H1.length=H.length)(av : ∀i k,blkAt H1 i=some k->blkAt H i=some k/\ ∀r,e[i]? = some r->k.virt=false->some r.1≠row)
  (hg:w.grownBy w' row) {kn:Blk} {vs:List Value} {el:TypeId} {g cap:Nat} {cur:Array Value} (kok:kn.ok) (kw:kn.win=none) (kg:kn.grown=true) (kel:kn.elem=el) (hd:denL pv e kn.real=some vs) (hw:w'.heap[g]? = some (.cells cur el (0,0))) (cb:cap<=maxLen) (ai:cur.size=cap*kn.wid) (Ey:cur.toList.take vs.length=vs)
  (hn:some g=row\/w.heap.size<=g) (km:kn.mapped=none) (hq : ∀t,kn.tab=some t->t.isTok=false:=by first|(intro t ht;cases ht;done)|(intro t ht;cases ht;rfl)|assumption):Emb pv (e ++ [(g,cap)]) (newB H1 kn) w':=by
 have hx:Ext e (e ++ [(g,cap)]):=⟨_,rfl⟩
 have ss:=E.len
 have ar : ∀i k,blkAt (newB H1 kn) i=some k->(i=H1.length/\k=kn)\/(blkAt H1 i=some k/\i<H1.length):=by
  intro i k h
  rw[yC]at h
  split at h
  .cases h;exact .inl ⟨‹_›,rfl⟩
  .refine .inr ⟨h,?_⟩
   rw[xH]at h
   by_cases hi:i<H1.length
   .exact hi
   .rw[List.getElem?_eq_none (by omega)]at h;simp at h
 have old : ∀i k r,blkAt H1 i=some k->i<H1.length->(e ++ [(g,cap)])[i]? = some r->e[i]? = some r/\(k.virt=false->r.1≠g):=by
  intro i k r hk hi hr
  rw[List.getElem?_append_left (by omega)]at hr
  obtain⟨h1,h2⟩:=av i k hk
  refine⟨hr,fun hv h =>?_⟩
  have ao:=E.own_lt (vS h1 hr hv)
  rcases hn with hn|hn
  .exact h2 r hr hv (by rw[<- hn,h])
  .omega
 have new : ∀r,(e ++ [(g,cap)])[H1.length]? = some r->r.1=g:=by
  intro r hr
  rw[List.getElem?_append_right (by omega)]at hr
  rw[show H1.length-e.length=0 by omega]at hr
  simp at hr
  simp[<- hr]
 refine⟨by simp[newB,aj,ss],fun i k hk =>?_,fun i j k k' r r' hk am hr ct he v1 v2 =>?_,fun i k hk =>?_⟩
 rotate_right
 .rcases ar i k hk with⟨_,rfl⟩|⟨h,_⟩
  .exact kok
  .exact E.ok i k (av i k h).1
 .rcases ar i k hk with⟨rfl,rfl⟩|⟨hk,hi⟩
  .refine⟨(g,cap),vs,?_,yE hx _ _ hd,Lies.mk (tl:=cur.toList.drop vs.length) kw ?_ (fun h=>(by rw[kg]at h;cases h)) (fun _=>⟨?_,cb⟩) km hq⟩
   .rw[List.getElem?_append_right (by omega),show H1.length-e.length=0 by omega];rfl
   .rw[kel,<- Ey,List.length_take]
    rw[show min vs.length cur.toList.length=vs.length by
     have:=congrArg List.length Ey;rw[List.length_take]at this;exact this]
    rw[List.take_append_drop];simpa using hw
   .have:=congrArg List.length Ey
    rw[List.length_take]at this
    simp only[Array.length_toList]at this
    simp only[dO,List.length_drop,Array.length_toList]
    omega
  .obtain⟨h1,h2⟩:=av i k hk
   obtain⟨r,cs',hr,eq,f6⟩:=E.lies i k h1
   exact⟨r,cs',hx.get hr,yE hx _ _ eq,f6.same fun hv=>hg.block r.1 (E.own_lt (vS h1 hr hv)) (h2 r hr hv)⟩
 .rcases ar i k hk with⟨rfl,_⟩|⟨hk,hi⟩<;>rcases ar j k' am with⟨rfl,_⟩|⟨am,hj⟩
  .exact .inl rfl
  .exact absurd (he.symm.trans (new r hr)) ((old j k' r' am hj ct).2 v2)
  .exact absurd (he.trans (new r' ct)) ((old i k r hk hi hr).2 v1)
  .exact E.alone i j k k' r r' (av i k hk).1 (av j k' am).1 (old i k r hk hi hr).1 (old j k' r' am hj ct).1 he v1 v2
theorem Vq{e:Env}{H H1:Heap}{g cap x:Nat}{k:Blk}(ss:H.length=e.length)(aj:H1.length=H.length)(av : ∀i k,blkAt H1 i=some k->blkAt H i=some k){q:Bool}(h:Own q (e ++ [(g,cap)]) (newB H1 k) x):Own q e H x\/x=g:=by
 obtain⟨i,k',r,h1,h2,h3,hv,h4⟩:=h
 rw[yC]at h1
 split at h1
 .rename_i hi
  right
  rw[hi,List.getElem?_append_right (by omega),show H1.length-e.length=0 by omega]at h2
  simp at h2
  rw[<- h3,<- h2]
 .left
  have:i<H1.length:=by
   rw[xH]at h1
   by_cases hi:i<H1.length
   .exact hi
   .rw[List.getElem?_eq_none (by omega)]at h1;simp at h1
  rw[List.getElem?_append_left (by omega)]at h2
  exact⟨i,k',r,av i k' h1,h2,h3,hv,h4⟩
theorem KA{el:TypeId}{c:C}{k:Blk}{q:Nat}{r:Stp}(h:kT P el c k q H=some r) : ∃g v H',r = .val g v H':=by
 unfold kT at h
 repeat' split at h
 all_goals first|(cases h;exact⟨_,_,_,rfl⟩)|cases h
theorem KB{el:TypeId}{c:C}{n b q:Nat}{r:Stp}(h:kU P el c n b q H=some r) : ∃g v H',r = .val g v H':=by
 unfold kU at h
 repeat' split at h
 all_goals first|(cases h;exact⟨_,_,_,rfl⟩)|cases h
theorem ZQ{el:TypeId}{s x:C}{r:Stp}(h:vQ P el s x H=some r) : ∃g v H',r = .val g v H':=by
 unfold vQ at h
 repeat' split at h
 all_goals first|(cases h;exact⟨_,_,_,rfl⟩)|cases h
theorem kO{ts:List TypeId}{vs:List V}{q:Stp}(h:wH P ts vs H=some q) : ∃g v H',q = .val g v H':=by
 unfold wH at h
 split at h
 .split at h
  .split at h
   .exact ZQ h
   .cases h
  .cases h
 .split at h
  .split at h
   .exact ZQ h
   .cases h
  .cases h
 .split at h
  .split at h
   .split at h
    .exact KA h
    .cases h
   .cases h
  .cases h
 .split at h
  .split at h
   .split at h
    .split at h
     .split at h
      .split at h
       .cases h;exact⟨_,_,_,rfl⟩
       .split at h
        .split at h
         .cases h;exact⟨_,_,_,rfl⟩
         .cases h
        .cases h
       .cases h
      .cases h
     .cases h
    .exact KB h
   .cases h
  .cases h
 .cases h
theorem xa6{t ty el:TypeId}{i:TypeInfo}{z:Value}(ht:P.underlying t=some (.slice el))(hi:P.info? el=some i)(hz:i.zero=some z){a src:Addr}{n c:Nat}{xs:List Value}(hl:xs.length=n*i.size)(hn : ∀j u,xs[j]? = some u->w.cell? (src.add j)=some u)(h0:0<n)(h1:n<=2000)(h2:n*i.bytes<=281474976710656) :
  (Builtin.append_ #[t,t] ty #[.slice (some a) 0 0,.slice (some src) n c]).run P w=(Builtin.append_ #[t,t] ty #[.slice none 0 0,.slice (some src) n c]).run P w:=by
 rw[run_append_nil (P:=P) w t ty el i z ht hi hz src n c xs hl hn h0 (by omega) h2]
 have:=run_append_grow (P:=P) w t ty el i z ht hi hz a 0 0 [] (by simp) (fun j v h=>by simp at h) src n c xs hl hn (by omega) (by omega) (by rw[Nat.zero_add,nextslicecap_zero h0];exact h2)
 rw[this]
 simp
theorem xcl{t ty el:TypeId}{i:TypeInfo}(ht:P.underlying t=some (.slice el))(hi:P.info? el=some i){base xb:Option Addr}{n c xc:Nat}(ot:n<=c) :
  (Builtin.append_ #[t,t] ty #[.slice base n c,.slice xb 0 xc]).run P w = .ok (.slice base n c) w:=by
 cases base<;>cases xb<;>simp[Builtin.append_,run_underlying ht,sizeOf,typeInfo,hi,Builtin.lenOf,Builtin.firstCells,ot,loadCells,loadCellsFrom,storeCells]
theorem Emb.virtNew{pv:Pv}{e:Env}{H H1:Heap}{w:World}(E:Emb pv e H w)(aj:H1.length=H.length)(av : ∀i k,blkAt H1 i=some k->blkAt H i=some k){kn:Blk}(hv:kn.virt=true)(mu:kn.real = [])(ay:kn.ok)(r:Nat×Nat)(hq : ∀t,kn.tab=some t->t.isTok=false:=by first|(intro t ht;cases ht;done)|(intro t ht;cases ht;rfl)|assumption):Emb pv (e ++ [r]) (newB H1 kn) w/\ ∀q b,Own q (e ++ [r]) (newB H1 kn) b->Own q e H b:=by
 have hx:Ext e (e ++ [r]):=⟨_,rfl⟩
 have ss:=E.len
 have ar : ∀i k,blkAt (newB H1 kn) i=some k->(i=H1.length/\k=kn)\/(blkAt H1 i=some k/\i<H1.length):=by
  intro i k h
  rw[yC]at h
  split at h
  .cases h;exact .inl ⟨‹_›,rfl⟩
  .refine .inr ⟨h,?_⟩
   rw[xH]at h
   by_cases hi:i<H1.length
   .exact hi
   .rw[List.getElem?_eq_none (by omega)]at h;simp at h
 refine⟨⟨by simp[newB,aj,ss],fun i k hk =>?_,fun i j k k' r1 Ip hk am hr ct he v1 v2 =>?_,fun i k hk =>?_⟩,?_⟩
 .rcases ar i k hk with⟨rfl,rfl⟩|⟨hk,hi⟩
  .exact⟨r,[],by rw[List.getElem?_append_right (by omega),show H1.length-e.length=0 by omega];rfl,by rw[mu];rfl,Tk.of hq,.inl hv⟩
  .obtain⟨r1,cs',hr,eq,hw⟩:=E.lies i k (av i k hk)
   exact⟨r1,cs',hx.get hr,yE hx _ _ eq,hw⟩
 .rcases ar i k hk with⟨_,rfl⟩|⟨hk,hi⟩
  .rw[hv]at v1;cases v1
  .rcases ar j k' am with⟨_,rfl⟩|⟨am,hj⟩
   .rw[hv]at v2;cases v2
   .rw[List.getElem?_append_left (by omega)]at hr ct
    exact E.alone i j k k' r1 Ip (av i k hk) (av j k' am) hr ct he v1 v2
 .rcases ar i k hk with⟨_,rfl⟩|⟨hk,hi⟩
  .exact ay
  .exact E.ok i k (av i k hk)
 .rintro q b ⟨i,k,r1,h1,h2,h3,h4,h5⟩
  rcases ar i k h1 with⟨_,rfl⟩|⟨h6,h7⟩
  .rw[hv]at h4;cases h4
  .rw[List.getElem?_append_left (by omega)]at h2
   exact⟨i,k,r1,av i k h6,h2,h3,h4,h5⟩
theorem kx{args:Array Operand}{ats:Array TypeId}{v:V}{H':Heap}(E:Emb pv e H w)(ho:o.op = .call {callee :=.builtin .append,args:=args,argTypes:=ats}){t el:TypeId}(bq:ats = #[t,t])(hu:P.underlying t=some (.slice el))
  {inf:TypeInfo} {z:Value} {size:Nat} (gm:P.info? el=some inf) (em:inf.zero=some z) (nv:inf.size=size) (rz:inf.bytes<=512) (pf:z.cells.size=size) (h0:0<size)
  {sv sv':Value} {len n:Nat} {us xs:List Value} {src:Addr} {c:Nat} (bh:args.map ra = #[sv',.slice (some src) n c]) (np:sv'=sv\/sv = .slice none 0 0/\ ∃a,sv' = .slice (some a) 0 0) (Ho:w.ownsRow 0 el size sv len us) (cm : ∀j u,xs[j]? = some u->w.cell? (src.add j)=some u) (m9:xs.length=n*size) (gg : ∀u∈xs,u.oneCell'=true)
  (aj:len+n<=2000) (dc:0<n) {row:Option Nat} (lb:sv.ownBlock=row) {H1:Heap} (f7:H1.length=H.length) (av : ∀i k,blkAt H1 i=some k->blkAt H i=some k/\ ∀r,e[i]? = some r->k.virt=false->some r.1≠row) (dk : ∀b,row=some b ->∀q,Own q e H b)
  {kn:Blk} (ia:denL pv e kn.real=some (us++xs)) (kok:kn.ok) (kw:kn.win=none) (kwd:kn.wid=size) (kg:kn.grown=true) (kel:kn.elem=el)
  (dt : ∀g cap,len+n<=cap->denV pv (e ++ [(g,cap)]) v=some (.slice (some ⟨g,0,none⟩) (len+n) cap)) (hH':H'=newB H1 kn) (hq : ∀t,kn.tab=some t->t.isTok=false:=by first|(intro t ht;cases ht;done)|(intro t ht;cases ht;rfl)|assumption):Did P pv ra o e H w v H':=by
 obtain⟨v',w',aa,Co,Bd,w7,Bn⟩:=run_append_own_at (P:=P) (w:=w) 0 t o.type el inf z size inf.bytes hu gm em nv rfl pf h0 sv len us Ho src n c _ m9 cm gg
  (by unfold maxLen;omega) (by have:(len+n)*inf.bytes<=2000*512:=Nat.mul_le_mul aj rz;omega) (Nat.zero_le _)
 rw[lb]at Bd
 have so:=Co.1
 rcases Co.2 with⟨_,h0'⟩|⟨g,cap,cur,rfl,_,Hw,ow,C6,Gb,Ga⟩
 .omega
 .have eo:some g=row\/w.heap.size<=g:=by
   rcases Bn with h2|h2
   .rw[lb]at h2;exact .inl h2
   .simp only[Value.ownBlock,oI]at h2;exact .inr (by omega)
  have hE:=E.grew (H1:=H1) f7 av Bd kok kw kg kel ia Hw C6 (by rw[kwd];exact Gb) (by rw[so];exact Ga) eo (by
   have tg:0<xs.length:=by rw[m9];exact Nat.mul_pos dc h0
   exact Blk.mapped_some ia (j:=us.length) (v:=xs[0]) (by rw[List.getElem?_append_right (dJ _),Nat.sub_self,List.getElem?_eq_getElem tg]))
  subst hH'
  refine⟨.value (.slice (some ⟨g,0,none⟩) (len+n) cap),w',e ++ [(g,cap)],_,?_,.inl rfl,⟨_,rfl⟩,dt g cap ow,hE,?_,fun q b hb =>?_⟩
  .simp only[execOp,ho,resolve,Sem.run_bind,Sem.run_pure,Result.andThen_ok,invoke,builtin]
   have Ch:(Builtin.append_ #[t,t] o.type #[sv',.slice (some src) n c]).run P w = .ok (.slice (some ⟨g,0,none⟩) (len+n) cap) w':=by
    rcases np with h|⟨rfl,a,rfl⟩
    .rw[h];exact aa
    .have tu:len=0:=by
      rcases Ho.2 with⟨_,h⟩|⟨g,cap,cur,h,_⟩
      .exact h
      .cases h
     subst tu
     have hb:n*inf.bytes<=2000*512:=Nat.mul_le_mul (by omega) rz
     rw[xa6 hu gm em (by rw[m9,nv]) cm dc (by omega) (by omega)]
     exact aa
   rw[bh,bq,Ch]
   rfl
  .exact⟨Bd.os,Bd.tape,Bd.output,Bd.size,fun b hb Ab=>Bd.block b hb fun hc=>Ab (dk b hc.symm _)⟩
  .rcases Vq E.len f7 (fun i k hk=>(av i k hk).1) hb with h2|rfl
   .exact .inl h2
   .rcases eo with h2|h2
    .exact .inl (dk _ h2.symm _)
    .exact .inr h2
theorem yT{el:TypeId}{n:Nat}(h:wY P el n=true) : ∃i z,P.info? el=some i/\i.zero=some z/\i.size=n/\i.bytes<=512/\z.cells.size=n/\1<=n:=by
 unfold wY at h
 split at h
 .rename_i i hi
  split at h
  .rename_i z hz
   simp only[dM,beq_iff_eq,decide_eq_true_eq]at h
   exact⟨i,z,hi,hz,h.1.1.1.1,h.1.2,h.2,h.1.1.1.2⟩
  .cases h
 .cases h
theorem Zv{k:Blk}{o n:Nat}{r:List C}(hn:0<n)(h:slice k.own o n=some r):k.tab=none:=by
 cases ht:k.tab with
 | none=>rfl
 | some t=>rw[Blk.own_some ht]at h;have:=(Ys h).1;omega
theorem Zw{k:Blk}{sh:List CK}{l:List (List Int)}(h:k.tab=some (.rows sh l))(hg:k.grown=true):k.virt=wX l:=by unfold Blk.virt;rw[h,hg];rfl
theorem Vr{k:Blk}{kd:IntKind}{l:List Int}(h:k.tab=some (.col kd l))(hg:k.grown=true):k.virt=wX l:=by unfold Blk.virt;rw[h,hg];rfl
/-! ### rows appended to rows -/
theorem xab{sh:List CK} : ∀ (l:List (List Int)) (o:Nat),(l.flatMap (rowC sh)).drop (o*sh.length)=(l.drop o).flatMap (rowC sh)
 | l,0=>by simp
 | [],o+1=>by simp
 | r::l,o+1=>by
  rw[List.flatMap_cons,List.drop_succ_cons,<- xab l o,Nat.add_mul,Nat.one_mul,Nat.add_comm,List.drop_append,yh,List.drop_eq_nil_of_le (by rw[yh];omega),List.nil_append]
  congr 1;omega
theorem xac{sh:List CK} : ∀ (l:List (List Int)) (m:Nat),(l.flatMap (rowC sh)).take (m*sh.length)=(l.take m).flatMap (rowC sh)
 | l,0=>by simp
 | [],m+1=>by simp
 | r::l,m+1=>by
  rw[List.flatMap_cons,List.take_succ_cons,List.flatMap_cons,<- xac l m,Nat.add_mul,Nat.one_mul,Nat.add_comm,List.take_append,yh,List.take_of_length_le (by rw[yh];omega)]
  congr 2;omega
def RowT(z:Nat)(t:Tab):Prop:=(∃sh l,t = .rows sh l/\sh.length=z)\/ ∃kd l,t = .col kd l/\1=z
theorem RowT.tok{z:Nat}{t:Tab}(h:RowT z t):t.isTok=false:=by rcases h with⟨_,_,rfl,_⟩|⟨_,_,rfl,_⟩<;>rfl
theorem RowT.blk{z:Nat}{t:Tab}{k:Blk}(h:RowT z t)(hk:k.tab=some t)(hg:k.grown=true)(hz:0<z):k.win=none/\k.mapped=none/\k.wid=z/\(k.virt=true->t.cells = [])/\(t.cells = []->k.virt=true):=by
 rcases h with⟨sh,l,rfl,h⟩|⟨kd,l,rfl,h⟩
 .refine⟨by unfold Blk.win;rw[hk],by unfold Blk.mapped;rw[hk],by unfold Blk.wid;rw[hk];exact h,fun hv =>?_,fun hv =>?_⟩
  .rw[Zw hk hg]at hv
   cases l with
   | nil=>rfl
   | cons=>cases hv
  .rw[Zw hk hg]
   cases l with
   | nil=>rfl
   | cons a l=>
    have:=congrArg List.length hv
    simp only[Tab.cells,wy,List.length_cons,List.length_nil,h,Nat.add_mul]at this
    omega
 .refine⟨by unfold Blk.win;rw[hk],by unfold Blk.mapped;rw[hk],by unfold Blk.wid;rw[hk];exact h,fun hv =>?_,fun hv =>?_⟩
  .rw[Vr hk hg]at hv
   cases l with
   | nil=>rfl
   | cons=>cases hv
  .rw[Vr hk hg]
   cases l with
   | nil=>rfl
   | cons a l=>simp[Tab.cells]at hv
theorem xcm{α:Type}{w:Option Nat}{m:Nat}{l:List α}(h:cutOk w m l=true):w.getD 0+m<=l.length/\cutL w m l=(l.drop (w.getD 0)).take m:=by
 cases w with
 | none=>
  have:=dP h
  refine⟨by simp;omega,?_⟩
  show l=(l.drop 0).take m
  rw[List.drop_zero,List.take_of_length_le (by omega)]
 | some o=>exact⟨Nat.le_of_ble_eq_true h,rfl⟩
theorem WF{z m len:Nat}{w:Option Nat}{t2 t tn:Tab}(h:catT z w m len t2 t=some (true,tn)):RowT z t2/\RowT z t/\RowT z tn/\t2.cells.length=len*z/\len<=1000/\m<=1000/\(w.getD 0+m)*z<=t.cells.length/\tn.cells=t2.cells++(t.cells.drop (w.getD 0*z)).take (m*z):=by
 unfold catT at h
 split at h
 .split at h
  .rename_i nn l2 sh l hc
   obtain⟨rfl,rfl⟩:=hc
   simp only[oI,dI,dM]at h
   obtain⟨⟨⟨⟨h1,h2⟩,h3⟩,h4⟩,rfl⟩:=h
   obtain⟨h5,h6⟩:=xcm h3
   refine⟨.inl ⟨_,_,rfl,rfl⟩,.inl ⟨_,_,rfl,rfl⟩,.inl ⟨_,_,rfl,rfl⟩,?_,Nat.le_of_ble_eq_true h2,Nat.le_of_ble_eq_true h4,?_,?_⟩
   .simp only[Tab.cells,wy];rw[dP h1]
   .simp only[Tab.cells,wy];exact Nat.mul_le_mul_right _ h5
   .simp only[Tab.cells,List.flatMap_append];rw[h6,xab,xac]
  .cases h
 .split at h
  .rename_i Eh l2 kd l hc
   obtain⟨rfl,rfl⟩:=hc
   simp only[oI,dI,dM]at h
   obtain⟨⟨⟨⟨h1,h2⟩,h3⟩,h4⟩,rfl⟩:=h
   obtain⟨h5,h6⟩:=xcm h3
   refine⟨.inr ⟨_,_,rfl,rfl⟩,.inr ⟨_,_,rfl,rfl⟩,.inr ⟨_,_,rfl,rfl⟩,?_,Nat.le_of_ble_eq_true h2,Nat.le_of_ble_eq_true h4,?_,?_⟩
   .simp only[Tab.cells,List.length_map];have:=dP h1;omega
   .simp only[Tab.cells,List.length_map];omega
   .simp only[Tab.cells,List.map_append];rw[h6,List.map_take,List.map_drop,Nat.mul_one,Nat.mul_one]
  .cases h
 .cases h
theorem xcn{z m len:Nat}{w:Option Nat}{t tn:Tab}{g:Bool}(h:catT z w m len t.empty t=some (g,tn)):t.empty.cells = []:=by
 cases t<;>first|rfl|(simp[catT,Tab.empty]at h)
theorem xco{z m b:Nat}{ww:Option Nat}{x:C}{xv:Value}{k:Blk}{tb:Tab}(hz:0<z)(E:Emb pv e H w)(hx:den pv e x=some xv)(hv:xaO z x=some (b,ww,m))(hk:blkAt H b=some k)(ht:k.tab=some tb)(hg:k.grown=true)(hr:RowT z tb)(bu:(ww.getD 0+m)*z<=tb.cells.length) :
  (m=0 ->∃xb xc,xv = .slice xb 0 xc)/\(0<m ->∃r us xc,xv = .slice (some ⟨r,ww.getD 0*z,none⟩) m xc/\denL pv e ((tb.cells.drop (ww.getD 0*z)).take (m*z))=some us/\us.length=m*z/\ ∀j u,us[j]? = some u->w.cell? ((⟨r,ww.getD 0*z,none⟩:Addr).add j)=some u):=by
 have zero : ∀ {r v},qP r=some v ->∃xb xc,v = .slice xb 0 xc:=fun h=>by
  rcases(vg h).2 with rfl|⟨a,rfl⟩<;>exact⟨_,_,rfl⟩
 have key:0<m ->∃r cs tl,e[b]? = some r/\denL pv e tb.cells=some cs/\w.heap[r.1]? = some (.cells (cs++tl).toArray k.elem (0,0))/\ww.getD 0+m<=r.2:=fun hm=>by
  obtain⟨a1,a2,a3,a4,_⟩:=hr.blk ht hg hz
  have B1:0<m*z:=Nat.mul_pos hm hz
  have zu:k.virt=false:=by
   cases hvk:k.virt with
   | false=>rfl
   | true=>
    rw[a4 hvk]at bu
    simp only[List.length_nil,Nat.add_mul]at bu
    omega
  obtain⟨r,cs,tl,b1,b2,b3,_,b5⟩:=E.row b k hk a1 zu a2
  rw[Blk.real_some ht hr.tok]at b2
  refine⟨r,cs,tl,b1,b2,b3,?_⟩
  obtain⟨b6,_⟩:=b5 hg
  rw[a3,dO,xN b2]at b6
  exact Nat.le_of_mul_le_mul_right (show(ww.getD 0+m)*z<=r.2*z by omega) hz
 have cells : ∀ {r:Nat×Nat} {cs tl:List Value},denL pv e tb.cells=some cs->w.heap[r.1]? = some (.cells (cs++tl).toArray k.elem (0,0)) ->∃us,denL pv e ((tb.cells.drop (ww.getD 0*z)).take (m*z))=some us/\us.length=m*z/\ ∀j u,us[j]? = some u->w.cell? ((⟨r.1,ww.getD 0*z,none⟩:Addr).add j)=some u:=fun {r cs tl} hd hw=>by
  have hl:=xN hd
  have Jj:ww.getD 0*z+m*z<=cs.length:=by rw[hl,<- Nat.add_mul];exact bu
  refine⟨(cs.drop (ww.getD 0*z)).take (m*z),XE ?_ fun i c hc =>?_,by simp;omega,fun j u hj =>?_⟩
  .simp only[List.length_take,List.length_drop,hl]
  .rw[List.getElem?_take]at hc |-
   split at hc
   .rename_i hi
    rw[dB hi,List.getElem?_drop]
    rw[List.getElem?_drop]at hc
    obtain⟨v,h1,h2⟩:=ku hd hc
    rw[h1,h2]
   .cases hc
  .rw[List.getElem?_take]at hj
   split at hj
   .rename_i Fz
    rw[List.getElem?_drop]at hj
    rw[yd,cell_of hw,List.getElem?_toArray,List.getElem?_append_left (by omega)]
    exact hj
   .cases hj
 unfold xaO at hv
 split at hv
 .rename_i b' z' o' m'
  split at hv
  .rename_i I1
   subst I1
   simp only[oI,dI]at hv
   obtain⟨rfl,rfl,rfl⟩:=hv
   simp only[Option.getD_some]at *
   refine⟨fun hm =>?_,fun hm =>?_⟩
   .subst hm
    simp only[den,dU]at hx
    obtain⟨r,_,h2⟩:=hx
    split at h2
    .split at h2
     .exact zero h2
     .cases h2
    .split at h2
     .cases h2;exact⟨_,_,rfl⟩
     .cases h2
   .obtain⟨r,cs,tl,h1,h2,h3,h4⟩:=key hm
    simp only[den,h1,Option.bind_some]at hx
    rw[dA (by omega),dB (by omega),dA (by omega)]at hx
    obtain⟨us,g1,g2,g3⟩:=cells h2 h3
    cases hx
    exact⟨_,us,_,rfl,g1,g2,g3⟩
  .cases hv
 .rename_i b' m'
  simp only[oI,dI]at hv
  obtain⟨rfl,rfl,rfl⟩:=hv
  simp only[Option.getD_none]at *
  refine⟨fun hm =>?_,fun hm =>?_⟩
  .subst hm
   simp only[den,dU]at hx
   obtain⟨r,_,h2⟩:=hx
   exact zero h2
  .obtain⟨r,cs,tl,h1,h2,h3,h4⟩:=key hm
   simp only[den,h1,Option.bind_some]at hx
   rw[dA (by omega),dB (by omega)]at hx
   obtain⟨us,g1,g2,g3⟩:=cells h2 h3
   cases hx
   exact⟨_,us,_,by rw[Nat.zero_mul],g1,g2,g3⟩
 .cases hv
theorem Wc{args:Array Operand}{ats:Array TypeId}{v:V}{H':Heap}(hp:One pv)(E:Emb pv e H w)(ho:o.op = .call {callee :=.builtin .append,args:=args,argTypes:=ats}){t el:TypeId}(bq:ats = #[t,t])(hu:P.underlying t=some (.slice el))
  {s x:C} {sv xv:Value} (bh:args.map ra = #[sv,xv]) (hs:den pv e s=some sv) (hx:den pv e x=some xv) (h:vQ P el s x H=some (.val true v H')):Did P pv ra o e H w v H':=by
 unfold vQ at h
 split at h
 rotate_left
 .cases h
 rename_i z ai
 split at h
 rotate_left
 .cases h
 rename_i eo
 obtain⟨inf,zv,gm,em,nv,rz,pf,Hv⟩:=yT eo
 split at h
 rotate_left
 .cases h
 rename_i b ww m uh
 split at h
 rotate_left
 .cases h
 rename_i k hk
 split at h
 rotate_left
 .cases h
 rename_i tb dy
 split at h
 rotate_left
 .cases h
 rename_i A3
 -- nothing is appended
 have il : ∀ {H1:Heap} {tn:Tab} {len:Nat} {xb base:Option Addr} {xc cap:Nat} (r:Nat×Nat) (us:List Value),H1.length=H.length->(∀i k,blkAt H1 i=some k->blkAt H i=some k/\ ∀r',e[i]? = some r'->k.virt=false->some r'.1≠if len=0 then none else some r.1)->RowT z tn->xv = .slice xb 0 xc->sv = .slice base len cap->len<=cap->
   denV pv (e ++ [r]) (.c (.slr H.length (len+0)))=some sv->denL pv e tn.cells=some us->us.length=len*z->(0<len->(∀q,Own q e H r.1)/\ ∃cur,w.heap[r.1]? = some (.cells cur el (0,0))/\r.2<=maxLen/\cur.size=r.2*z/\cur.toList.take us.length=us)->v = .c (.slr H.length (len+0))->H'=newB H1 ⟨[],el,true,some tn⟩->Did P pv ra o e H w v H':=by
  intro H1 tn len xb base xc cap r us f7 av gf mq np J4 eu Hk Je az dt hH'
  subst mq np dt hH'
  have aa:(execOp ra o).run P w = .ok (.value (.slice base len cap)) w:=by
   simp only[execOp,ho,resolve,Sem.run_bind,Sem.run_pure,Result.andThen_ok,invoke,builtin]
   rw[bh,bq,xcl hu gm J4]
   rfl
  have kp:Keeps (Own true e H) w w:=Keeps.refl _ _
  obtain⟨b1,b2,b3,b4,b5⟩:=gf.blk (k:=⟨[],el,true,some tn⟩) rfl rfl (by omega)
  by_cases h0:len=0
  .subst h0
   obtain rfl:us = []:=List.eq_nil_of_length_eq_zero (by simpa using Je)
   have ur:tn.cells = []:=List.eq_nil_of_length_eq_zero (by rw[<- xN Hk];rfl)
   obtain⟨E1,dk⟩:=E.virtNew (kn:=⟨[],el,true,some tn⟩) f7 (fun i k hk=>(av i k hk).1) (b5 ur) (by rw[Blk.real_some rfl gf.tok];exact ur) (fun t _ _=>rfl) r (by intro t ht;cases ht;exact gf.tok)
   exact⟨_,w,e ++ [r],_,aa,.inl rfl,⟨_,rfl⟩,eu,E1,kp,fun q b hb =>.inl (dk q b hb)⟩
  .obtain⟨c1,cur,c2,c3,c4,c5⟩:=az (by omega)
   rw[dA h0]at av
   have hE:=E.grew (H1:=H1) (kn:=⟨[],el,true,some tn⟩) (row:=some r.1) f7 av ⟨rfl,rfl,rfl,dJ _,fun _ _ _=>rfl⟩ (fun t _ _=>rfl) b1 rfl rfl (vs:=us) (by rw[Blk.real_some rfl gf.tok];exact Hk) c2 c3 (by rw[b3];exact c4) c5 (.inl rfl) b2 (by intro t ht;cases ht;exact gf.tok)
   refine⟨_,w,e ++ [r],_,aa,.inl rfl,⟨_,rfl⟩,eu,hE,kp,fun q b hb =>?_⟩
   rcases Vq E.len f7 (fun i k hk=>(av i k hk).1) hb with h2|rfl
   .exact .inl h2
   .exact .inl (c1 q)
 have eu : ∀ (len g cap:Nat),0<len->len<=cap->denV pv (e ++ [(g,cap)]) (.c (.slr H.length len))=some (.slice (some ⟨g,0,none⟩) len cap):=fun len g cap hl cb=>by
  simp only[denV,den]
  rw[List.getElem?_append_right (by have:=E.len;omega),show H.length-e.length=0 by have:=E.len;omega]
  simp only[List.getElem?_cons_zero,Option.bind_some]
  rw[dA (by omega),dB cb]
 have hdenE : ∀ (r:Nat×Nat) (len:Nat),denV pv (e ++ [r]) (.c (.slr H.length len))=(if len=0 then qP r else if len<=r.2 then some (.slice (some ⟨r.1,0,none⟩) len r.2)else none):=fun r len=>by
  simp only[denV,den]
  rw[List.getElem?_append_right (by have:=E.len;omega),show H.length-e.length=0 by have:=E.len;omega]
  simp only[List.getElem?_cons_zero,Option.bind_some]
 have one : ∀ {l:List C} {us:List Value},denL pv e l=some us ->∀u∈us,u.oneCell'=true:=fun h u hu=>one_cell (Vd hp h u hu)
 split at h
 .rename_i b2 len
  split at h
  rotate_left
  .cases h
  rename_i k2 cw
  split at h
  rotate_left
  .cases h
  rename_i B5 ce
  split at h
  rotate_left
  .cases h
  rename_i nz
  obtain⟨lz,ll⟩:=nz
  split at h
  rotate_left
  .cases h
  rename_i g tn nk
  simp only[oI,Stp.val.injEq]at h
  obtain⟨rfl,dt,hH'⟩:=h
  obtain⟨r1,Eg,r3,so,bu,J2,Bo,dl⟩:=WF nk
  obtain⟨uw,uv⟩:=xco (by omega) E hx uh hk dy A3 Eg Bo
  obtain⟨w1,w2,w3,w4,w5⟩:=r1.blk ce lz (by omega)
  obtain⟨n1,n2,n3,_,_⟩:=r3.blk (k:=⟨[],el,true,some tn⟩) rfl rfl (by omega)
  have f7:(setB H b2 none).length=H.length:=by rw[yz,List.length_set]
  obtain⟨rr,oj,iq,ny,_⟩:=E.lies b2 k2 cw
  rw[Blk.real_some ce r1.tok]at ny
  have u0:oj.length=len*z:=by rw[xN ny,so]
  have d5:=hs
  simp only[den,iq,Option.bind_some]at hs
  by_cases h0:len=0
  .subst h0
   rw[dB rfl]at hs
   have av : ∀i k,blkAt (setB H b2 none) i=some k->blkAt H i=some k/\ ∀r',e[i]? = some r'->k.virt=false->some r'.1≠none:=fun i k hk=>⟨(Zu hk).2,fun _ _ _ h=>by cases h⟩
   obtain rfl:oj = []:=List.eq_nil_of_length_eq_zero (by simpa using u0)
   by_cases hm:m=0
   .subst hm
    obtain⟨xb,xc,mq⟩:=uw rfl
    have ur:tn.cells=B5.cells:=by rw[dl];simp
    have ri : ∃base,sv = .slice base 0 0:=by rcases(vg hs).2 with h|⟨a,h⟩<;>exact⟨_,h⟩
    obtain⟨base,ri⟩:=ri
    exact il rr [] f7 (by simpa using av) r3 mq ri (dJ _) (by rw[hdenE,dB rfl];exact hs) (by rw[ur];exact ny) (by simp) (fun h=>absurd h (by omega)) dt.symm hH'.symm
   .obtain⟨r,us,xc,mq,it,m9,cm⟩:=uv (by omega)
    subst mq dt
    exact kx (kn:=⟨[],el,true,some tn⟩) (sv :=.slice none 0 0) (sv':=sv) (len:=0) (us :=[]) (row:=none) E ho bq hu gm em nv rz pf (by omega) bh ((vg hs).2.imp id fun h=>⟨rfl,h⟩) ⟨by simp,.inl ⟨rfl,rfl⟩⟩ cm m9 (one it) (by omega) (by omega) rfl f7 av (fun b h=>by cases h)
     (by rw[Blk.real_some (k:=⟨[],el,true,some tn⟩) rfl r3.tok,dl];exact vL ny it) (fun t _ _=>rfl) n1 n3 rfl rfl (fun g cap hc=>eu _ g cap (by omega) hc) hH'.symm (by intro t ht;cases ht;exact r3.tok)
  .rw[dA h0]at hs
   split at hs
   rotate_left
   .cases hs
   rename_i cb
   simp only[oI]at hs
   have zu:k2.virt=false:=by
    cases hvk:k2.virt with
    | false=>rfl
    | true=>
     rw[w4 hvk]at so
     have:0<len*z:=Nat.mul_pos (by omega) (by omega)
     simp only[List.length_nil]at so;omega
   obtain⟨rr',cs,tl,q1,q2,q3,_,q5⟩:=E.row b2 k2 cw w1 zu w2
   rw[iq]at q1
   cases q1
   rw[Blk.real_some ce r1.tok,ny,oI]at q2
   subst q2
   obtain⟨q6,q7⟩:=q5 lz
   rw[w3]at q6
   have av : ∀i k,blkAt (setB H b2 none) i=some k->blkAt H i=some k/\ ∀r',e[i]? = some r'->k.virt=false->some r'.1≠some rr.1:=fun i k3 d7=>by
    obtain⟨h5,h6⟩:=Zu d7
    refine⟨h6,fun r3 E8 Et h7=>h5 ?_⟩
    simp only[oI]at h7
    exact E.inj i b2 k3 k2 r3 rr h6 cw E8 iq h7 Et zu (.inr w1)
   have dk : ∀q,Own q e H rr.1:=fun q=>⟨b2,k2,rr,cw,iq,rfl,zu,fun _=>w1⟩
   rw[ll]at q3
   by_cases hm:m=0
   .subst hm
    obtain⟨xb,xc,mq⟩:=uw rfl
    have ur:tn.cells=B5.cells:=by rw[dl];simp
    exact il rr oj f7 (by rw[dA h0];exact av) r3 mq hs.symm cb (by rw[hdenE,dA (by omega),dB (by omega),<- hs];rfl) (by rw[ur];exact ny) u0 (fun _=>⟨dk,(oj++tl).toArray,q3,q7,by simpa using q6,by simp⟩) dt.symm hH'.symm
   .obtain⟨r,us,xc,mq,it,m9,cm⟩:=uv (by omega)
    subst mq dt
    refine kx (kn:=⟨[],el,true,some tn⟩) (sv':=sv) (len:=len) (us:=oj) (row:=some rr.1) E ho bq hu gm em nv rz pf (by omega) bh (.inl hs.symm) ⟨u0,.inr ⟨rr.1,rr.2,(oj++tl).toArray,rfl,Nat.zero_le _,q3,cb,q7,by simpa using q6,?_⟩⟩ cm m9 (one it) (by omega) (by omega) rfl f7 av (fun b h=>by cases h;exact dk)
     (by rw[Blk.real_some (k:=⟨[],el,true,some tn⟩) rfl r3.tok,dl];exact vL ny it) (fun t _ _=>rfl) n1 n3 rfl rfl (fun g cap hc=>eu _ g cap (by omega) hc) hH'.symm (by intro t ht;cases ht;exact r3.tok)
    rw[List.take_left' u0]
 .rename_i b2
  split at h
  rotate_left
  .cases h
  rename_i k2 cw
  split at h
  rotate_left
  .cases h
  split at h
  rotate_left
  .cases h
  rename_i g tn nk
  simp only[oI,Stp.val.injEq]at h
  obtain⟨rfl,dt,hH'⟩:=h
  have K6:=xcn nk
  obtain⟨r1,Eg,r3,so,bu,J2,Bo,dl⟩:=WF nk
  rw[K6,List.nil_append]at dl
  obtain⟨uw,uv⟩:=xco (by omega) E hx uh hk dy A3 Eg Bo
  obtain⟨n1,n2,n3,_,_⟩:=r3.blk (k:=⟨[],el,true,some tn⟩) rfl rfl (by omega)
  have av : ∀i k,blkAt H i=some k->blkAt H i=some k/\ ∀r',e[i]? = some r'->k.virt=false->some r'.1≠none:=fun i k hk=>⟨hk,fun _ _ _ h=>by cases h⟩
  simp only[den,oM]at hs
  obtain⟨rr,iq,rfl⟩:=hs
  by_cases hm:m=0
  .subst hm
   obtain⟨xb,xc,mq⟩:=uw rfl
   have ur:tn.cells = []:=by rw[dl];simp
   exact il (rr.1+1,0) [] rfl (by rw[dB rfl];exact av) r3 mq rfl (dJ _) (by rw[hdenE,dB rfl];simp[qP]) (by rw[ur];rfl) (by simp) (fun h=>absurd h (by omega)) dt.symm hH'.symm
  .obtain⟨r,us,xc,mq,it,m9,cm⟩:=uv (by omega)
   subst mq dt
   exact kx (kn:=⟨[],el,true,some tn⟩) (sv :=.slice none 0 0) (len:=0) (us :=[]) (row:=none) E ho bq hu gm em nv rz pf (by omega) bh (.inr ⟨rfl,_,rfl⟩) ⟨by simp,.inl ⟨rfl,rfl⟩⟩ cm m9 (one it) (by omega) (by omega) rfl rfl av (fun b h=>by cases h)
    (by rw[Blk.real_some (k:=⟨[],el,true,some tn⟩) rfl r3.tok,dl];exact it) (fun t _ _=>rfl) n1 n3 rfl rfl (fun g cap hc=>eu _ g cap (by omega) hc) hH'.symm (by intro t ht;cases ht;exact r3.tok)
 .cases h
theorem xdW{args:Array Operand}{ats:Array TypeId}{vs:List V}{v:V}{H':Heap}(hp:One pv)(hρ:Says pv e ρ ra)(E:Emb pv e H w)(ho:o.op = .call {callee :=.builtin .append,args:=args,argTypes:=ats})(hv:allSome ρ args.toList=some vs)
  (h:wH P ats.toList vs H=some (.val true v H')):Did P pv ra o e H w v H':=by
 have ha:=vZ hρ _ _ hv
 have bh:args.map ra=(args.toList.map ra).toArray:=by rw[<- Array.toList_map]
 have nm : ∀ (s:C) (b q n c:Nat) (sv:Value) (r:Nat×Nat),vs = [.c s,.c (.sl b q n c)]->den pv e s=some sv->e[b]? = some r->args.map ra = #[sv,.slice (some ⟨r.1,q,none⟩) n c]:=fun s b q n c sv r ee np hr=>by
  rw[bh]
  rw[ee]at ha
  simp only[allSome,denV,np,den,hr,dN,oI]at ha
  rw[<- ha]
 have denA : ∀ (s x:C),vs = [.c s,.c x] ->∃sv xv,den pv e s=some sv/\den pv e x=some xv/\args.map ra = #[sv,xv]:=fun s x ee=>by
  rw[bh]
  rw[ee]at ha
  simp only[allSome,denV]at ha
  split at ha
  .rename_i sv np
   split at ha
   .rename_i l hl
    split at hl
    .rename_i xv mq
     simp only[oI]at hl ha
     refine⟨sv,xv,np,mq,?_⟩
     rw[<- ha,<- hl]
    .cases hl
   .cases ha
  .cases ha
 have denS : ∀ (s:C) (y:V),vs = [.c s,y] ->∃sv,den pv e s=some sv:=fun s y ee=>by
  rw[ee]at ha
  simp only[allSome,denV]at ha
  split at ha
  .exact⟨_,‹_›⟩
  .cases ha
 have src : ∀ (b q n:Nat) (k:Blk) (size:Nat) (xs:List C),0<n->blkAt H b=some k->0<size->slice k.own q (n*size)=some xs ->∃r us,e[b]? = some r/\denL pv e xs=some us/\us.length=n*size/\(∀u∈us,u.oneCell'=true)/\
   ∀j u,us[j]? = some u->w.cell? ((⟨r.1,q,none⟩:Addr).add j)=some u:=fun b q n k size xs dc hk Jl ez=>by
  have ro:0<n*size:=Nat.mul_pos dc Jl
  have dy:=Zv ro ez
  obtain⟨r,cs,tl,hr,hd,hw,_,_⟩:=E.row b k hk (Blk.win_none dy) (Blk.virt_none dy)
  obtain⟨it,hbx⟩:denL pv e xs=some (cs.extract q (q+n*size))/\q+n*size<=cs.length:=by
   rcases Xe hd (Xf ez)with h2|⟨h2,_⟩
   .exact h2
   .omega
  refine⟨r,_,hr,it,by simp;omega,fun u hu=>one_cell (Vd hp it u hu),fun j u hj =>?_⟩
  have A5:j<n*size:=by
   have:=(List.getElem?_eq_some_iff.1 hj).1
   simp at this;omega
  rw[yd,cell_of hw,List.getElem?_toArray,List.getElem?_append_left (by omega)]
  rw[List.extract_eq_take_drop,List.getElem?_take,dB (by omega),List.getElem?_drop]at hj
  exact hj
 have old : ∀ (b2:Nat) (k2:Blk) (r2:Nat×Nat),blkAt H b2=some k2->k2.win=none->k2.virt=false->e[b2]? = some r2->(setB H b2 none).length=H.length/\(∀i k,blkAt (setB H b2 none) i=some k->blkAt H i=some k/\ ∀r,e[i]? = some r->k.virt=false->some r.1≠some r2.1)/\(∀b,some r2.1=some b ->∀q,Own q e H b):=fun b2 k2 r2 cw Bt Hj cj=>by
  refine⟨by rw[yz,List.length_set],fun i k3 d7 =>?_,fun b3 Lc q =>?_⟩
  .obtain⟨h5,h6⟩:=Zu d7
   refine⟨h6,fun r3 E8 Et h7=>h5 ?_⟩
   simp only[oI]at h7
   exact E.inj i b2 k3 k2 r3 r2 h6 cw E8 cj h7 Et Hj (.inr Bt)
  .cases Lc
   exact⟨b2,k2,r2,cw,cj,rfl,Hj,fun _=>Bt⟩
 have oldN : ∀ (b2:Nat),(setB H b2 none).length=H.length/\(∀i k,blkAt (setB H b2 none) i=some k->blkAt H i=some k/\ ∀r,e[i]? = some r->k.virt=false->some r.1≠none):=fun b2=>
  ⟨by rw[yz,List.length_set],fun i k3 d7=>⟨(Zu d7).2,fun _ _ _ h=>by cases h⟩⟩
 unfold wH at h
 split at h
 .rename_i t u s b m h1
  split at h
  .rename_i hc
   subst hc
   have bq:ats = #[t,t]:=by rw[<- Array.toArray_toList (xs:=ats),h1]
   split at h
   .rename_i el hu
    obtain⟨sv,xv,g1,g2,g3⟩:=denA _ _ rfl
    exact Wc hp E ho bq hu g3 g1 g2 h
   .cases h
  .cases h
 .rename_i t u s b z q m h1
  split at h
  .rename_i hc
   subst hc
   have bq:ats = #[t,t]:=by rw[<- Array.toArray_toList (xs:=ats),h1]
   split at h
   .rename_i el hu
    obtain⟨sv,xv,g1,g2,g3⟩:=denA _ _ rfl
    exact Wc hp E ho bq hu g3 g1 g2 h
   .cases h
  .cases h
 .rename_i t u b2 len b q n c h1
  split at h
  .rename_i hc
   obtain⟨rfl,rfl⟩:=hc
   have bq:ats = #[t,t]:=by rw[<- Array.toArray_toList (xs:=ats),h1]
   split at h
   .rename_i el hu
    split at h
    .rename_i k hk
     unfold kT at h
     split at h
     .rename_i size ai
      split at h
      .rename_i eo
       obtain⟨inf,z,gm,em,nv,rz,pf,Hv⟩:=yT eo
       split at h
       .rename_i xs ez
        split at h
        .rename_i sh pn dx
         obtain⟨lb,u5⟩:=kV _ _ _ dx
         obtain⟨r,us,hr,it,m9,gg,cm⟩:=src b q 1 k size xs (by omega) hk (by omega) (by rw[Nat.one_mul];exact ez)
         have Bv:sh.length=size:=by rw[u5];exact(Zs ez).1
         have eu : ∀ (len g cap:Nat),len+1<=cap->denV pv (e ++ [(g,cap)]) (.c (.slr H.length (len+1)))=some (.slice (some ⟨g,0,none⟩) (len+1) cap):=fun len g cap cb=>by
          simp only[denV,den]
          rw[List.getElem?_append_right (by have:=E.len;omega),show H.length-e.length=0 by have:=E.len;omega]
          simp only[List.getElem?_cons_zero,Option.bind_some]
          rw[dA (by omega),dB (by omega)]
         have key : ∀ (k2:Blk) (kn:Blk) (m:Nat) (oj:List Value),blkAt H b2=some k2->k2.win=none->k2.grown=true->k2.elem=el->k2.wid=size->k2.virt=decide (m=0)->m=len->len<=1000->denL pv e k2.real=some oj->oj.length=m*size->
           kn.ok->(∀t,kn.tab=some t->t.isTok=false)->kn.win=none->kn.wid=size->kn.grown=true->kn.elem=el->denL pv e kn.real=some (oj++us)->v = .c (.slr H.length (len+1))->H'=newB (setB H b2 none) kn->Did P pv ra o e H w v H':=by
          intro k2 kn m oj cw Hh lz ll pq Jd hm bu ny ul kok hq kw kwd kg kel ft dt hH'
          subst hm
          by_cases h0:m=0
          .subst h0
           obtain⟨r2,Ah,cj,ia,_⟩:=E.lies b2 k2 cw
           obtain⟨sv,np⟩:=denS _ _ rfl
           have I2:qP r2=some sv:=by simpa only[den,cj,Option.bind_some,if_true]using np
           obtain rfl:oj = []:=by simpa using ul
           obtain⟨o1,o2⟩:=oldN b2
           subst dt
           exact kx (kn:=kn) (sv :=.slice none 0 0) (sv':=sv) (len:=0) (us :=[]) (row:=none) E ho bq hu gm em nv rz pf (by omega) (nm _ b q 1 c _ r rfl np hr) ((vg I2).2.imp id fun h=>⟨rfl,h⟩) ⟨by simp,.inl ⟨rfl,rfl⟩⟩ cm m9 gg (by omega) (by omega) rfl o1 o2 (fun b h=>by cases h)
            ft kok kw kwd kg kel (eu 0) hH'
          .have zu:k2.virt=false:=by rw[Jd];simpa using h0
           obtain⟨r2,Ah,D9,cj,ia,Bt,_,Bc⟩:=E.row b2 k2 cw Hh zu (by
            have tg:0<oj.length:=by rw[ul];exact Nat.mul_pos (by omega) (by omega)
            exact Blk.mapped_some ny (List.getElem?_eq_getElem tg))
           rw[ny,oI]at ia
           subst ia
           obtain⟨ng,Bb⟩:=Bc lz
           rw[pq]at ng
           have cb:m<=r2.2:=by
            rw[dO,ul]at ng
            exact Nat.le_of_mul_le_mul_right (show m*size<=r2.2*size by omega) (by omega)
           have np:den pv e (.slr b2 m)=some (.slice (some ⟨r2.1,0,none⟩) m r2.2):=by
            simp only[den,cj,Option.bind_some]
            rw[dA h0,dB cb]
           obtain⟨o1,o2,o3⟩:=old b2 k2 r2 cw Hh zu cj
           subst dt
           refine kx (kn:=kn) (len:=m) (us:=oj) (row:=some r2.1) E ho bq hu gm em nv rz pf (by omega) (nm _ b q 1 c _ r rfl np hr) (.inl rfl) ⟨ul,.inr ⟨r2.1,r2.2,(oj++D9).toArray,rfl,Nat.zero_le _,by rw[<- ll];exact Bt,cb,Bb,by simpa using ng,?_⟩⟩ cm m9 gg (by omega) (by omega) rfl o1 o2 o3
            ft kok kw kwd kg kel (eu m) hH'
           rw[List.take_left' ul]
         simp only at h
         .split at h
          .rename_i k2 cw
           obtain⟨r2,Ah,cj,ia,_⟩:=E.lies b2 k2 cw
           split at h
           .rename_i nn l ce
            split at h
            .rename_i nz
             obtain⟨rfl,lz,ll⟩:=nz
             simp only[oI,Stp.val.injEq,dM]at h
             obtain⟨⟨gt,bu⟩,dt,hH'⟩:=h
             have tt:=dP gt
             have y8:=Nat.le_of_ble_eq_true bu
             have cq:=xN ia
             rw[Blk.real_some ce]at cq
             simp only[Tab.cells,wy,Bv]at cq
             refine key k2 ⟨[],el,true,some (.rows nn (l ++ [pn]))⟩ l.length Ah cw (by unfold Blk.win;rw[ce]) lz ll (by unfold Blk.wid;rw[ce];exact Bv) (by rw[Zw ce lz];cases l<;>simp[wX]) tt y8 ia cq (fun t _ _=>rfl) (by intro t ht;cases ht;rfl) rfl Bv rfl rfl ?_ dt.symm hH'.symm
             show denL pv e (List.flatMap (rowC nn) (l ++ [pn]))=_
             rw[List.flatMap_append]
             simp only[List.flatMap_cons,List.flatMap_nil,List.append_nil]
             rw[lb]
             rw[Blk.real_some ce]at ia
             exact vL ia it
            .cases h
           .rename_i kd l ce
            split at h
            .rename_i nz
             obtain⟨E4,lz,ll⟩:=nz
             subst E4
             obtain rfl:1=size:=Bv
             simp only[oI,Stp.val.injEq,dM]at h
             obtain⟨⟨gt,bu⟩,dt,hH'⟩:=h
             have tt:=dP gt
             have y8:=Nat.le_of_ble_eq_true bu
             have cq:=xN ia
             rw[Blk.real_some ce]at cq
             simp only[Tab.cells,List.length_map]at cq
             obtain⟨x0,tg⟩ : ∃x0,pn = [x0]:=by
              match xs,dx with
              | [.int k' n'],dx=>simp only[yk,oI,dI]at dx;exact⟨n',dx.2.symm⟩
              | [],dx=>simp[yk]at dx
              | .int _ _::y::ys,dx=>simp at u5
              | .bool _::ys,dx=>simp only[yk]at dx;split at dx<;>simp at dx
              | .nilp::_,dx | .ptr _ _::_,dx | .nils::_,dx | .nilm::_,dx | .sl _ _ _ _::_,dx | .slg _ _ _::_,dx | .pr _ _ _ _ _::_,dx | .slw _ _ _ _ _::_,dx | .slr _ _::_,dx | .slv _ _ _ _::_,dx | .fn _ _::_,dx | .meth _ _::_,dx | .nilf::_,dx | .nili::_,dx | .port::_,dx | .str _::_,dx | .gp _ _::_,dx | .mp _::_,dx | .ifc _ _::_,dx=>simp[yk]at dx
             subst tg
             refine key k2 ⟨[],el,true,some (.col kd (l ++ [x0]))⟩ l.length Ah cw (by unfold Blk.win;rw[ce]) lz ll (by unfold Blk.wid;rw[ce]) (by rw[Vr ce lz];cases l<;>simp[wX]) tt y8 ia (by rw[Nat.mul_one];exact cq) (fun t _ _=>rfl) (by intro t ht;cases ht;rfl) rfl rfl rfl rfl ?_ dt.symm hH'.symm
             show denL pv e (List.map (C.int kd) (l ++ [x0]))=_
             rw[List.map_append]
             rw[Blk.real_some ce]at ia
             refine vL ia ?_
             rw[<- lb]at it
             exact it
            .cases h
           .cases h
          .cases h
        .cases h
       .cases h
      .cases h
     .cases h
    .cases h
   .cases h
  .cases h
 .rename_i t u s b q n c _ h1
  split at h
  .rename_i hc
   obtain⟨rfl,dc,Dp⟩:=hc
   have bq:ats = #[t,t]:=by rw[<- Array.toArray_toList (xs:=ats),h1]
   split at h
   .rename_i el hu
    split at h
    .rename_i eo
     obtain⟨inf,z,gm,em,nv,rz,pf⟩:=Kz eo
     split at h
     .rename_i k hk
      split at h
      .rename_i xs ez
       obtain⟨r,us,hr,it,m9,gg,cm⟩:=src b q n k 1 xs dc hk (by omega) (by rw[Nat.mul_one];exact ez)
       have eu : ∀ (len g cap:Nat),len+n<=cap->denV pv (e ++ [(g,cap)]) (.c (.slg H.length 0 (len+n)))=some (.slice (some ⟨g,0,none⟩) (len+n) cap):=fun len g cap cb=>by
        simp only[denV,den]
        rw[List.getElem?_append_right (by have:=E.len;omega),show H.length-e.length=0 by have:=E.len;omega]
        simp only[List.getElem?_cons_zero,Option.bind_some]
        rw[dB (by omega)]
        simp
       split at h
       .cases h
        have h9:=eu 0
        simp only[Nat.zero_add]at h9
        exact kx (len:=0) (us :=[]) (row:=none) E ho bq hu gm em nv (by omega) pf (by decide) (nm _ b q n c (.slice none 0 0) r rfl rfl hr) (.inl rfl) ⟨rfl,.inl ⟨rfl,rfl⟩⟩ cm m9 gg (by omega) dc rfl rfl (fun i k hk=>⟨hk,fun r _ _ h=>by cases h⟩) (fun b h=>by cases h)
         (by rw[Blk.real_none rfl];exact it) (Blk.ok_none rfl) (Blk.win_none rfl) rfl rfl rfl (by simpa using h9) rfl
       .rename_i b2 len _
        split at h
        .rename_i k2 cw
         split at h
         .rename_i nz
          obtain⟨ce,lz,ll,Gi,y8⟩:=nz
          cases h
          have io:k2.tab=none:=by simpa using ce
          obtain⟨r2,Ah,D9,cj,ia,Bt,_,Bc⟩:=E.row b2 k2 cw (Blk.win_none io) (Blk.virt_none io)
          rw[Blk.real_none io]at ia
          obtain⟨ng,Bb⟩:=Bc lz
          have pq:k2.wid=1:=by unfold Blk.wid;rw[io]
          rw[pq,Nat.mul_one]at ng
          have cq:=xN ia
          have np:den pv e (.slg b2 0 len)=some (.slice (some ⟨r2.1,0,none⟩) len r2.2):=by
           simp only[den,cj,Option.bind_some]
           rw[dB (by rw[<- ng,dO,cq,Gi];omega)]
           simp
          obtain⟨o1,o2,o3⟩:=old b2 k2 r2 cw (Blk.win_none io) (Blk.virt_none io) cj
          refine kx (len:=len) (us:=Ah) (row:=some r2.1) E ho bq hu gm em nv (by omega) pf (by decide) (nm _ b q n c _ r rfl np hr) (.inl rfl) ⟨by omega,.inr ⟨r2.1,r2.2,(Ah++D9).toArray,rfl,Nat.zero_le _,by rw[<- ll];exact Bt,?_,Bb,?_,?_⟩⟩ cm m9 gg (by omega) dc rfl o1 o2 o3
           (by rw[Blk.real_none rfl];exact vL ia it) (Blk.ok_none rfl) (Blk.win_none rfl) rfl rfl rfl (eu len) rfl
          .rw[<- ng,dO];omega
          .simpa using ng
          .simp only[Nat.mul_one]
           rw[List.take_left' (by omega)]
         .cases h
        .cases h
       .cases h
      .cases h
     .cases h
    .unfold kU at h
     split at h
     rotate_left
     .cases h
     split at h
     rotate_left
     .cases h
     rename_i Fl
     subst Fl
     split at h
     rotate_left
     .cases h
     rename_i k hk
     split at h
     rotate_left
     .cases h
     rename_i size ai
     split at h
     rotate_left
     .cases h
     rename_i eo
     obtain⟨inf,z,gm,em,nv,rz,pf,Hv⟩:=yT eo
     split at h
     rotate_left
     .cases h
     rename_i xs ez
     split at h
     rotate_left
     .cases h
     rename_i sh pn dx
     simp only[oI,Stp.val.injEq,true_and]at h
     obtain⟨rfl,hH'⟩:=h
     obtain⟨lb,u5⟩:=kV _ _ _ dx
     obtain⟨r,us,hr,it,m9,gg,cm⟩:=src b q 1 k size xs (by omega) hk (by omega) (by rw[Nat.one_mul];exact ez)
     have Bv:sh.length=size:=by rw[u5];exact(Zs ez).1
     refine kx (kn:=⟨[],el,true,some (.rows sh [pn])⟩) (sv :=.slice none 0 0) (sv' :=.slice none 0 0) (len:=0) (us :=[]) (row:=none) E ho bq hu gm em nv rz pf (by omega) (nm _ b q 1 c _ r rfl rfl hr) (.inl rfl) ⟨by simp,.inl ⟨rfl,rfl⟩⟩ cm m9 gg (by omega) (by omega) rfl rfl (fun i k hk=>⟨hk,fun _ _ _ h=>by cases h⟩) (fun b h=>by cases h)
      ?_ (fun t _ _=>rfl) rfl Bv rfl rfl (fun g cap cb =>?_) hH'.symm
     .show denL pv e (List.flatMap (rowC sh) [pn])=_
      simp only[List.flatMap_cons,List.flatMap_nil,List.append_nil,List.nil_append]
      rw[lb];exact it
     .simp only[denV,den]
      rw[List.getElem?_append_right (by have:=E.len;omega),show H.length-e.length=0 by have:=E.len;omega]
      simp only[List.getElem?_cons_zero,Option.bind_some]
      rw[dA (by omega),dB (by omega)]
   .cases h
  .cases h
 .cases h
/-! ### maps -/
theorem xhJ{c:C}(h:wU c=true):den pv e c=some (flatV c):=by cases c<;>first|rfl|(simp[wU]at h)
theorem xad : ∀ {l:List C},l.all wU=true->denL pv e l=some (l.map flatV)
 | [],h=>rfl
 | c::l,h=>by
  simp only[List.all_cons,dM]at h
  simp only[denL,xhJ h.1,xad h.2,List.map_cons]
theorem xcp{t k:TypeId}{g:Bool}{sh:List CK}{r0:List Int}(E:Emb pv e H w)(ho:o.op = .makeMap t none)(ht:mapT P t=some (k,g,sh,r0)):Did P pv ra o e H w (.c (.mp H.length)) (newB H ⟨[],t,false,some (.imap g sh [])⟩):=by cases ht
theorem xdX{t:TypeId}{m x:Operand}{ok:Bool}{v:V}{H':Heap}(hρ:Says pv e ρ ra)(E:Emb pv e H w)(ho:o.op = .lookup t m x ok)(h:ja P t (ρ m) (ρ x) ok H=some (.val true v H')):Did P pv ra o e H w v H':=by cases h
theorem xdY{t:TypeId}{m x y:Operand}{v:V}{H':Heap}(hρ:Says pv e ρ ra)(E:Emb pv e H w)(ho:o.op = .mapUpdate t m x y)(h:jb P t (ρ m) (ρ x) (ρ y) H=some (.val true v H')):Did P pv ra o e H w v H':=by cases h
theorem xdZ{args:Array Operand}{ats:Array TypeId}{vs:List V}{v:V}{H':Heap}(hρ:Says pv e ρ ra)(E:Emb pv e H w)(ho:o.op = .call {callee :=.builtin .delete,args:=args,argTypes:=ats})(hv:allSome ρ args.toList=some vs)
  (h:jc P ats.toList vs H=some (.val true v H')):Did P pv ra o e H w v H':=by cases h
/-! ### rows of zeros -/
theorem KC{t el:TypeId}{l c:Operand}{kd k k':IntKind}{n n':Int}(hρ:Says pv e ρ ra)(E:Emb pv e H w)(ho:o.op = .makeSlice t l c)(hu:P.underlying t=some (.slice el))(hl:ρ l=some (.c (.int k n)))(hc:ρ c=some (.c (.int k' n')))(hz:jH P el=some (.c (.int kd 0)))(eo:wY P el 1=true)
  (hg:n'=n/\0<=n/\n<=1000):Did P pv ra o e H w (.c (.slr H.length n.toNat)) (newB H ⟨[],el,true,some (.col kd (List.replicate n.toNat 0))⟩):=by
 obtain⟨rfl,dc,Dp⟩:=hg
 obtain⟨inf,z,gm,em,nv,rz,pf,_⟩:=yT eo
 obtain⟨zv,h1,h2⟩:=ke hz pv e
 obtain rfl:z = .int kd 0:=by
  have h3:=h1 w
  simp[zeroValue,typeInfo,gm,em]at h3
  simp only[denV,den,oI]at h2
  rw[h2];exact h3
 have hm:((inf.bytes:Int)*n'<=281474976710656):=by
  have:(inf.bytes:Int)*n'<=512*1000:=Int.mul_le_mul (by omega) Dp dc (by omega)
  omega
 have aa:(execOp ra o).run P w = .ok (.value (.slice (some ⟨w.heap.size,0,none⟩) n'.toNat n'.toNat)) (w.alloc (.cells (List.replicate n'.toNat (.int kd 0)).toArray el)):=by
  simp only[execOp,ho,vI hρ hl,vI hρ hc,Sem.run_bind,run_make w t el inf _ hu gm em k k' n' n' dc (Int.le_refl _) hm (by omega),Result.andThen_ok,Sem.run_pure]
  have:madeCells (Value.int kd 0).cells (n'.toNat*inf.size)=(List.replicate n'.toNat (.int kd 0)).toArray:=by
   rw[nv,Nat.mul_one]
   apply Array.ext
   .simp[madeCells]
   .intro i g1 g2
    simp[madeCells,Value.cells,Nat.mod_one]
  rw[this]
 have mu:denL pv e (List.map (C.int kd) (List.replicate n'.toNat 0))=some (List.replicate n'.toNat (.int kd 0)):=by
  rw[xad (by simp[wU])]
  simp[flatV]
 have kp : ∀S,Keeps S w (w.alloc (.cells (List.replicate n'.toNat (.int kd 0)).toArray el)):=fun S=>⟨rfl,rfl,rfl,by rw[heap_alloc];simp,fun b hb _=>by rw[heap_alloc,Array.getElem?_push,dA (by omega)]⟩
 by_cases h0:n'.toNat=0
 .have E1:Emb pv e H (w.alloc (.cells (List.replicate n'.toNat (.int kd 0)).toArray el)):=E.ofSame fun b hb=>(kp (fun _=>False)).block b (E.own_lt hb) (fun h=>h)
  obtain⟨E2,dk⟩:=E1.virtNew (H1:=H) (kn:=⟨[],el,true,some (.col kd (List.replicate n'.toNat 0))⟩) rfl (fun i k hk=>hk) (by rw[h0];rfl) (by rw[h0];rfl) (fun t _ _=>rfl) (w.heap.size+1,0)
  refine⟨_,_,e ++ [(w.heap.size+1,0)],_,aa,.inl rfl,⟨_,rfl⟩,?_,E2,kp _,fun q b hb =>.inl (dk q b hb)⟩
  simp only[denV,den]
  rw[List.getElem?_append_right (by have:=E.len;omega),show H.length-e.length=0 by have:=E.len;omega,h0]
  simp[qP]
 .have hE:=E.grew (H1:=H) (kn:=⟨[],el,true,some (.col kd (List.replicate n'.toNat 0))⟩) (row:=none) rfl (fun i k hk=>⟨hk,fun r _ _ h=>by cases h⟩) (World.grownBy_alloc w (.cells (List.replicate n'.toNat (.int kd 0)).toArray el) none) (fun t _ _=>rfl) rfl rfl rfl mu (heap_alloc_new w _) (cap:=n'.toNat) (by unfold maxLen;omega) (by simp[Blk.wid]) (by simp) (.inr (dJ _)) rfl
  refine⟨_,_,e ++ [(w.heap.size,n'.toNat)],_,aa,.inl rfl,⟨_,rfl⟩,?_,hE,kp _,fun q b hb =>?_⟩
  .simp only[denV,den]
   rw[List.getElem?_append_right (by have:=E.len;omega),show H.length-e.length=0 by have:=E.len;omega]
   simp only[List.getElem?_cons_zero,Option.bind_some]
   rw[dA h0,dB (dJ _)]
  .rcases Vq E.len rfl (fun i k hk=>hk) hb with h|rfl
   .exact .inl h
   .exact .inr (dJ _)
end
end Lx
end Go.Proofs.YtfagfflkgmcnpaaGreatDoor
