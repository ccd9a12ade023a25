/- Part. -/
import Derived.Test.YtfagfflkgmcnpaaGreatDoorStM2
import Derived.Test.YtfagfflkgmcnpaaGreatDoorProg
set_option linter.all false
open Go.IntKind (i64 u64 u32 u8)
set_option maxRecDepth 1000000
namespace Go.Proofs.YtfagfflkgmcnpaaGreatDoor
namespace Lx
open Go
abbrev Sm:=List V->Heap->Option Sum
def Sum.tree(S:Sum):T (V×Heap):=S.t.bind fun a=>match S.f a with
 | some r =>.ret r
 | none =>.fail
theorem Sum.run_tree{σ:Type}{step:PStep σ}{S:Sum}{s s':σ}{x:S.α}{r:V×Heap}(h:S.t.run step s=some (x,s'))(hf:S.f x=some r):S.tree.run step s=some (r,s'):=by
 simp only[Sum.tree,T.run_bind,h,hf,T.run]
theorem xhc{α β:Type}(c:Bool)(a b:T α)(k:α->T β):(cond c a b).bind k=cond c (a.bind k) (b.bind k):=by cases c<;>rfl
theorem vn{α β:Type}(a:α)(k:α->T β):(T.ret a).bind k=k a:=rfl
theorem bind_op{α β:Type}(o:POp)(f:o.Ans->T α)(k:α->T β):(T.op o f).bind k=T.op o fun x=>(f x).bind k:=rfl
theorem xhd{α β:Type}(k:α->T β):(T.fail:T α).bind k = .fail:=rfl
theorem ey{α:Type}{a b c:α}(h:a=b)(k:c=b:=by kernel_rfl):c=a:=k.trans h.symm
theorem bz:(∀ {α β:Type} (c:Bool) (a b:T α) (k:α->T β),(cond c a b).bind k=cond c (a.bind k) (b.bind k))/\(∀ {α β:Type} (a:α) (k:α->T β),(T.ret a).bind k=k a)/\(∀ {α β:Type} (o:POp) (f:o.Ans->T α) (k:α->T β),(T.op o f).bind k=T.op o fun x=>(f x).bind k)/\(∀ {α β:Type} (k:α->T β),(T.fail:T α).bind k = .fail)/\ ∀ {α β γ:Type} (t:T α) (f:α->T β) (g:β->T γ),(t.bind f).bind g=t.bind fun a=>(f a).bind g:=⟨xhc,vn,bind_op,xhd,T.bind_assoc⟩
def xU:List (Nat×Sm)->Nat->Option Sm
 | [],_=>none
 | (g,m)::l,f=>bif Nat.beq g f then some m else xU l f
theorem xaJ : ∀ {l:List (Nat×Sm)} {f:Nat} {m:Sm},xU l f=some m->(f,m)∈l
 | [],f,m,h=>by simp[xU]at h
 | (g,m')::l,f,m,h=>by
  simp only[xU]at h
  cases hb:Nat.beq g f with
  | true=>
   rw[hb]at h
   simp only[cond_true,oI]at h
   have:g=f:=dP hb
   subst this;subst h
   simp
  | false=>
   rw[hb]at h
   exact List.mem_cons_of_mem _ (xaJ h)
section
variable{σ:Type}{I:Port Tryz.prog σ}
theorem mixed:(Tryz.prog).follows .mixedOrders=true:=by kernel_rfl
end
end Lx
namespace Lx
open Go
/-! ### what its functions come to -/
def maskW(many:Int):Int:=u64.wrap (u64.wrap (1*2 ^ min many.toNat u64.bits)-1)
def xbR(n pos many:Int):Int:=u64.wrap (bits .and .u64 (u64.wrap n) (maskW many)*2 ^ min pos.toNat u64.bits)
structure Ref where
 (idx:Int) (mark:Bool) (ver:Int)
def Ref.cells(r:Ref):List C :=[.int .i64 r.idx,.bool r.mark,.int .u32 r.ver]
def orW(a b:Int):Int:=bits .or .u64 a b
def Ref.word(r:Ref):Int:=bif r.mark then orW (orW (xbR r.idx 0 24) (xbR r.ver 32 32)) 16777216 else orW (xbR r.idx 0 24) (xbR r.ver 32 32)
/-! ### summaries -/
def one(c:C):Option Sum:=some (mkS Unit (.ret ()) fun _=>some (.c c,[]))
def agg(l:List C):Option Sum:=some (mkS Unit (.ret ()) fun _=>some (.agg l,[]))
section
variable{σ:Type}{I:Port Tryz.prog σ}
end
end Lx
namespace Lx
open Go
structure Geo where
 (pages threads b0 b1 b2 b3 b4 b5 b6 b7 b8 b9 b10 b11 b12 b13 b14 b15 b16 b17 b18 b19:Int)
def Geo.cells(g:Geo):List C :=[.int .i64 g.pages,.int .i64 g.threads,.int .i64 g.b0,.int .i64 g.b1,.int .i64 g.b2,.int .i64 g.b3,.int .i64 g.b4,.int .i64 g.b5,.int .i64 g.b6,.int .i64 g.b7,.int .i64 g.b8,.int .i64 g.b9,.int .i64 g.b10,.int .i64 g.b11,.int .i64 g.b12,.int .i64 g.b13,.int .i64 g.b14,.int .i64 g.b15,.int .i64 g.b16,.int .i64 g.b17,.int .i64 g.b18,.int .i64 g.b19]
def geoOf:List C->Option Geo
 | [.int .i64 x0,.int .i64 x1,.int .i64 x2,.int .i64 x3,.int .i64 x4,.int .i64 x5,.int .i64 x6,.int .i64 x7,.int .i64 x8,.int .i64 x9,.int .i64 x10,.int .i64 x11,.int .i64 x12,.int .i64 x13,.int .i64 x14,.int .i64 x15,.int .i64 x16,.int .i64 x17,.int .i64 x18,.int .i64 x19,.int .i64 x20,.int .i64 x21]=>some ⟨x0,x1,x2,x3,x4,x5,x6,x7,x8,x9,x10,x11,x12,x13,x14,x15,x16,x17,x18,x19,x20,x21⟩
 | _=>none
theorem xiU{l:List C}{g:Geo}(h:geoOf l=some g):l=g.cells:=by
 unfold geoOf at h
 split at h
 .cases h;rfl
 .cases h
def Geo.base(g:Geo):Nat->Int
 | 0=>g.b0
 | 1=>g.b1
 | 2=>g.b2
 | 3=>g.b3
 | 4=>g.b4
 | 5=>g.b5
 | 6=>g.b6
 | 7=>g.b7
 | 8=>g.b8
 | 9=>g.b9
 | 10=>g.b10
 | 11=>g.b11
 | 12=>g.b12
 | 13=>g.b13
 | 14=>g.b14
 | 15=>g.b15
 | 16=>g.b16
 | 17=>g.b17
 | 18=>g.b18
 | 19=>g.b19
 | _=>0
def inF(n k many:Int):Int:=bif decide (n<0)then -1 else bif decide (n>1073741824)then -1 else bif decide (k<0)then -1 else bif decide (k>=many)then -1 else i64.wrap (i64.wrap (n*many)+k)
end Lx
namespace Lx
open Go
def xeT(l:List C):Option (Geo×List C):=match geoOf (l.take 22) with
 | some g=>some (g,l.drop 22)
 | none=>none
theorem xhe{l r:List C}{g:Geo}(h:xeT l=some (g,r)):l=g.cells++r:=by
 unfold xeT at h
 split at h
 .rename_i g' hg
  cases h
  rw[<- xiU hg]
  exact(List.take_append_drop 22 l).symm
 .cases h
/-! ### states by patterns -/
abbrev yS:=List Int
abbrev xq:=List (List Int)
abbrev yW:=Option Addr
inductive Lt where
 | i (n:Int)
 | b (x:Bool)
 | g (x:Geo)
 | l (x:List Int)
 | r (x:List (List Int))
 | n (x:Nat)
 | z (x:Option Addr)
inductive PC where
 | int (k:IntKind)
 | bool
 | geo
 | raw (c:C)
 | slr (b:Nat)
 | slw (b:Nat)
 | slx (b:Nat)
 | sl (b o:Nat)
 | pr (b m f:Nat)
 | fn (f:FuncId) (l:List PC)
def xdk:C->C->Bool
 | .nilp,.nilp=>true
 | .nils,.nils=>true
 | .nilf,.nilf=>true
 | .nili,.nili=>true
 | .port,.port=>true
 | .ptr b o,.ptr b' o'=>Nat.beq b b'&&Nat.beq o o'
 | .mp b,.mp b'=>Nat.beq b b'
 | .sl b o n c,.sl b' o' n' c'=>Nat.beq b b'&&Nat.beq o o'&&Nat.beq n n'&&Nat.beq c c'
 | .slg b o n,.slg b' o' n'=>Nat.beq b b'&&Nat.beq o o'&&Nat.beq n n'
 | _,_=>false
theorem xiV{a b:C}(h:xdk a b=true):a=b:=by
 unfold xdk at h
 split at h<;>first|rfl|cases h|skip
 .simp only[dM]at h
  rw[dP h.1,dP h.2]
 .rw[dP h]
 .simp only[dM]at h
  rw[dP h.1.1.1,dP h.1.1.2,dP h.1.2,dP h.2]
 .simp only[dM]at h
  rw[dP h.1.1,dP h.1.2,dP h.2]
mutual
def mC:PC->C->Option (List Lt)
 | .int k,.int k' n=>if k=k' then some [.i n]else none
 | .bool,.bool b=>some [.b b]
 | .raw c,c'=>bif xdk c c' then some []else none
 | .slr b,.slr b' n=>bif Nat.beq b b' then some [.n n]else none
 | .slw b,.slw b' o z n c=>bif Nat.beq b b' then some [.n o,.z z,.n n,.n c]else none
 | .slx b,.slx b' o d a n c=>bif Nat.beq b b' then some [.n o,.n d,.n a,.n n,.n c]else none
 | .sl b o,.sl b' o' n c=>bif Nat.beq b b'&&Nat.beq o o' then some [.n n,.n c]else none
 | .pr b m f,.pr b' o i m' f'=>bif Nat.beq b b'&&(Nat.beq m m'&&Nat.beq f f')then some [.n o,.i i]else none
 | .fn f l,.fn f' caps=>if f=f' then mCs l caps else none
 | _,_=>none
def mCs:List PC->List C->Option (List Lt)
 | [],[]=>some []
 | .geo::l,cs=>match xeT cs with
  | some (g,r)=>match mCs l r with
   | some a=>some (.g g::a)
   | none=>none
  | none=>none
 | p::l,c::cs=>match mC p c with
  | some a=>match mCs l cs with
   | some b=>some (a++b)
   | none=>none
  | none=>none
 | _,_=>none
end
mutual
def iC:PC->List Lt->Option (C×List Lt)
 | .int k,.i n::r=>some (.int k n,r)
 | .bool,.b x::r=>some (.bool x,r)
 | .raw c,r=>some (c,r)
 | .slr b,.n n::r=>some (.slr b n,r)
 | .slw b,.n o :: .z z :: .n n :: .n c::r=>some (.slw b o z n c,r)
 | .slx b,.n o :: .n d :: .n a :: .n n :: .n c::r=>some (.slx b o d a n c,r)
 | .sl b o,.n n :: .n c::r=>some (.sl b o n c,r)
 | .pr b m f,.n o :: .i i::r=>some (.pr b o i m f,r)
 | .fn f l,r=>match iCs l r with
  | some (cs,r')=>some (.fn f cs,r')
  | none=>none
 | _,_=>none
def iCs:List PC->List Lt->Option (List C×List Lt)
 | [],r=>some ([],r)
 | .geo::l,.g g::r=>match iCs l r with
  | some (cs,r')=>some (g.cells++cs,r')
  | none=>none
 | p::l,r=>match iC p r with
  | some (c,r')=>match iCs l r' with
   | some (cs,r2)=>some (c::cs,r2)
   | none=>none
  | none=>none
end
mutual
theorem mC_eq : ∀ (p:PC) (c:C) (a:List Lt),mC p c=some a ->∀r,iC p (a++r)=some (c,r)
 | .int k,c,a,h,r=>by
  cases c
  case int k' n=>
   simp only[mC]at h
   split at h
   .rename_i hk;subst hk;cases h;rfl
   .cases h
  all_goals simp[mC]at h
 | .bool,c,a,h,r=>by
  cases c
  case bool b=>simp only[mC]at h;cases h;rfl
  all_goals simp[mC]at h
 | .raw c,c',a,h,r=>by
  have h':(bif xdk c c' then some []else none)=some a:=by rw[<- h];cases c'<;>rfl
  cases hr:xdk c c' with
  | true=>rw[hr]at h';cases h';rw[xiV hr];rfl
  | false=>rw[hr]at h';cases h'
 | .slr b,c,a,h,r=>by
  cases c
  case slr b' n=>
   simp only[mC]at h
   cases hr:Nat.beq b b' with
   | true=>rw[hr]at h;cases h;rw[dP hr];rfl
   | false=>rw[hr]at h;cases h
  all_goals simp[mC]at h
 | .slw b,c,a,h,r=>by
  cases c
  case slw b' o z n cp=>
   simp only[mC]at h
   cases hr:Nat.beq b b' with
   | true=>rw[hr]at h;cases h;rw[dP hr];rfl
   | false=>rw[hr]at h;cases h
  all_goals simp[mC]at h
 | .slx b,c,a,h,r=>by
  cases c
  case slx b' o d x n cp=>
   simp only[mC]at h
   cases hr:Nat.beq b b' with
   | true=>rw[hr]at h;cases h;rw[dP hr];rfl
   | false=>rw[hr]at h;cases h
  all_goals simp[mC]at h
 | .sl b o,c,a,h,r=>by
  cases c
  case sl b' o' n cp=>
   simp only[mC]at h
   cases hr:(Nat.beq b b'&&Nat.beq o o') with
   | true=>
    rw[hr]at h;cases h
    rw[dM]at hr
    rw[dP hr.1,dP hr.2];rfl
   | false=>rw[hr]at h;cases h
  all_goals simp[mC]at h
 | .pr b m f,c,a,h,r=>by
  cases c
  case pr b' o i m' f'=>
   simp only[mC]at h
   cases hr:(Nat.beq b b'&&(Nat.beq m m'&&Nat.beq f f')) with
   | true=>
    rw[hr]at h;cases h
    rw[dM,dM]at hr
    rw[dP hr.1,dP hr.2.1,dP hr.2.2];rfl
   | false=>rw[hr]at h;cases h
  all_goals simp[mC]at h
 | .fn f l,c,a,h,r=>by
  cases c
  case fn f' caps=>
   simp only[mC]at h
   split at h
   .rename_i hf;subst hf
    simp only[iC,YQ l caps a h r]
   .cases h
  all_goals simp[mC]at h
 | .geo,c,a,h,r=>by cases c<;>simp[mC]at h
theorem YQ : ∀ (ps:List PC) (cs:List C) (a:List Lt),mCs ps cs=some a ->∀r,iCs ps (a++r)=some (cs,r)
 | [],cs,a,h,r=>by
  cases cs with
  | nil=>simp only[mCs]at h;cases h;rfl
  | cons c cs=>simp[mCs]at h
 | p::l,cs,a,h,r=>by
  by_cases hp:p = .geo
  .subst hp
   simp only[mCs]at h
   split at h
   .rename_i g r' hg
    split at h
    .rename_i a' ha
     cases h
     simp only[List.cons_append,iCs,YQ l _ _ ha r]
     rw[xhe hg]
    .cases h
   .cases h
  .cases cs with
   | nil=>cases p<;>simp[mCs]at h hp
   | cons c cs=>
    have h':mCs (p::l) (c::cs)=match mC p c with
     | some a=>match mCs l cs with
      | some b=>some (a++b)
      | none=>none
     | none=>none:=by cases p<;>first|rfl|exact absurd rfl hp
    rw[h']at h
    split at h
    .rename_i a1 h1
     split at h
     .rename_i a2 h2
      cases h
      have e1:=mC_eq p c a1 h1 (a2++r)
      have e2:=YQ l cs a2 h2 r
      have Ll:iCs (p::l) (a1++a2++r)=match iC p (a1++a2++r) with
       | some (c,r')=>match iCs l r' with
        | some (cs,r2)=>some (c::cs,r2)
        | none=>none
       | none=>none:=by cases p<;>first|rfl|exact absurd rfl hp
      rw[Ll,List.append_assoc,e1]
      simp only[e2]
     .cases h
    .cases h
end
inductive PV where
 | c (p:PC)
 | agg (l:List PC)
 | tup (l:List (PC ⊕ List PC))
def mV1:PC ⊕ List PC->V1->Option (List Lt)
 | .inl p,.c x=>mC p x
 | .inr l,.agg cs=>mCs l cs
 | _,_=>none
def iV1:PC ⊕ List PC->List Lt->Option (V1×List Lt)
 | .inl p,r=>match iC p r with
  | some (c,r')=>some (.c c,r')
  | none=>none
 | .inr l,r=>match iCs l r with
  | some (cs,r')=>some (.agg cs,r')
  | none=>none
theorem mV1_eq{p:PC ⊕ List PC}{v:V1}{a:List Lt}(h:mV1 p v=some a)(r:List Lt):iV1 p (a++r)=some (v,r):=by
 cases p<;>cases v<;>simp only[mV1]at h<;>first|cases h|skip
 .simp only[iV1,mC_eq _ _ _ h r]
 .simp only[iV1,YQ _ _ _ h r]
def mRow{α β:Type}(m:α->β->Option (List Lt)):List α->List β->Option (List Lt)
 | [],[]=>some []
 | p::l,c::cs=>match m p c with
  | some a=>match mRow m l cs with
   | some b=>some (a++b)
   | none=>none
  | none=>none
 | _,_=>none
def iRow{α β:Type}(i:α->List Lt->Option (β×List Lt)):List α->List Lt->Option (List β×List Lt)
 | [],r=>some ([],r)
 | p::l,r=>match i p r with
  | some (c,r')=>match iRow i l r' with
   | some (cs,r2)=>some (c::cs,r2)
   | none=>none
  | none=>none
theorem xbS{α β:Type}{m:α->β->Option (List Lt)}{i:α->List Lt->Option (β×List Lt)}(hm : ∀p v a,m p v=some a ->∀r,i p (a++r)=some (v,r)) :
  ∀ (ps:List α) (vs:List β) (a:List Lt),mRow m ps vs=some a ->∀r,iRow i ps (a++r)=some (vs,r)
 | [],[],a,h,r=>by simp only[mRow]at h;cases h;rfl
 | [],_::_,a,h,r=>by simp[mRow]at h
 | _::_,[],a,h,r=>by simp[mRow]at h
 | p::l,v::vs,a,h,r=>by
  simp only[mRow]at h
  split at h
  .rename_i a1 h1
   split at h
   .rename_i a2 h2
    cases h
    simp only[iRow,List.append_assoc,hm p v a1 h1 (a2++r),xbS hm l vs a2 h2 r]
   .cases h
  .cases h
def mV:PV->V->Option (List Lt)
 | .c p,.c x=>mC p x
 | .agg l,.agg cs=>mCs l cs
 | .tup l,.tup vs=>mRow mV1 l vs
 | _,_=>none
def iV:PV->List Lt->Option (V×List Lt)
 | .c p,r=>match iC p r with
  | some (c,r')=>some (.c c,r')
  | none=>none
 | .agg l,r=>match iCs l r with
  | some (cs,r')=>some (.agg cs,r')
  | none=>none
 | .tup l,r=>match iRow iV1 l r with
  | some (cs,r')=>some (.tup cs,r')
  | none=>none
theorem mV_eq{p:PV}{v:V}{a:List Lt}(h:mV p v=some a)(r:List Lt):iV p (a++r)=some (v,r):=by
 cases p<;>cases v<;>simp only[mV]at h<;>first|cases h|skip
 .simp only[iV,mC_eq _ _ _ h r]
 .simp only[iV,YQ _ _ _ h r]
 .simp only[iV,xbS (m:=mV1) (i:=iV1) (fun _ _ _ h r=>mV1_eq h r) _ _ _ h r]
inductive PS where
 | tip
 | leaf (p:PV)
 | node (l r:PS)
def mS:PS->Sl->Option (List Lt)
 | .tip,.tip=>some []
 | .leaf p,.leaf v=>mV p v
 | .node l r,.node l' r'=>match mS l l' with
  | some a=>match mS r r' with
   | some b=>some (a++b)
   | none=>none
  | none=>none
 | _,_=>none
def iS:PS->List Lt->Option (Sl×List Lt)
 | .tip,r=>some (.tip,r)
 | .leaf p,r=>match iV p r with
  | some (v,r')=>some (.leaf v,r')
  | none=>none
 | .node l q,r=>match iS l r with
  | some (x,r')=>match iS q r' with
   | some (y,r'')=>some (.node x y,r'')
   | none=>none
  | none=>none
theorem mS_eq : ∀ {p:PS} {s:Sl} {a:List Lt},mS p s=some a ->∀r,iS p (a++r)=some (s,r)
 | .tip,.tip,a,h,r=>by simp only[mS]at h;cases h;rfl
 | .leaf p,.leaf v,a,h,r=>by
  simp only[mS]at h
  simp only[iS,mV_eq h r]
 | .node l q,.node l' q',a,h,r=>by
  simp only[mS]at h
  split at h
  .rename_i a1 h1
   split at h
   .rename_i a2 h2
    cases h
    simp only[iS,List.append_assoc,mS_eq h1 (a2++r),mS_eq h2 r]
   .cases h
  .cases h
 | .tip,.leaf _,a,h,r | .tip,.node _ _,a,h,r | .leaf _,.tip,a,h,r | .leaf _,.node _ _,a,h,r | .node _ _,.tip,a,h,r | .node _ _,.leaf _,a,h,r=>by simp[mS]at h
inductive PT where
 | col (k:IntKind)
 | rows (sh:List CK)
 | wcol (k:IntKind)
 | wrows (sh:List CK)
 | imap (g:Bool) (sh:List CK)
structure PB where
 cells:List PC
 elem:TypeId
 grown:Bool
 tab:Option PT
def mT:Option PT->Option Tab->Option (List Lt)
 | none,none=>some []
 | some (.col k),some (.col k' l)=>if k'=k then some [.l l]else none
 | some (.rows sh),some (.rows lq l)=>if lq=sh then some [.r l]else none
 | some (.wcol k),some (.wcol o k' l)=>if k'=k then some [.n o,.l l]else none
 | some (.wrows sh),some (.wrows o lq l)=>if lq=sh then some [.n o,.r l]else none
 | some (.imap g sh),some (.imap g' lq l)=>if g'=g/\lq=sh then some [.r l]else none
 | _,_=>none
def iT:Option PT->List Lt->Option (Option Tab×List Lt)
 | none,r=>some (none,r)
 | some (.col k),.l l::r=>some (some (.col k l),r)
 | some (.rows sh),.r l::r=>some (some (.rows sh l),r)
 | some (.wcol k),.n o :: .l l::r=>some (some (.wcol o k l),r)
 | some (.wrows sh),.n o :: .r l::r=>some (some (.wrows o sh l),r)
 | some (.imap g sh),.r l::r=>some (some (.imap g sh l),r)
 | _,_=>none
theorem mT_eq{p:Option PT}{v:Option Tab}{a:List Lt}(h:mT p v=some a)(r:List Lt):iT p (a++r)=some (v,r):=by
 unfold mT at h
 split at h
 .cases h;rfl
 .split at h
  .rename_i hk;subst hk;cases h;rfl
  .cases h
 .split at h
  .rename_i hk;subst hk;cases h;rfl
  .cases h
 .split at h
  .rename_i hk;subst hk;cases h;rfl
  .cases h
 .split at h
  .rename_i hk;subst hk;cases h;rfl
  .cases h
 .split at h
  .rename_i hk;obtain⟨rfl,rfl⟩:=hk;cases h;rfl
  .cases h
 .cases h
def mB:Option PB->Option Blk->Option (List Lt)
 | none,none=>some []
 | some p,some k=>bif Nat.beq p.elem k.elem&&(p.grown==k.grown)then(match mCs p.cells k.cells with
  | some a=>match mT p.tab k.tab with
   | some b=>some (a++b)
   | none=>none
  | none=>none)else none
 | _,_=>none
def iB:Option PB->List Lt->Option (Option Blk×List Lt)
 | none,r=>some (none,r)
 | some p,r=>match iCs p.cells r with
  | some (cs,r')=>match iT p.tab r' with
   | some (t,r'')=>some (some ⟨cs,p.elem,p.grown,t⟩,r'')
   | none=>none
  | none=>none
theorem mB_eq{p:Option PB}{v:Option Blk}{a:List Lt}(h:mB p v=some a)(r:List Lt):iB p (a++r)=some (v,r):=by
 cases p<;>cases v<;>simp only[mB]at h<;>first|cases h;rfl|cases h|skip
 rename_i p k
 cases hc:(Nat.beq p.elem k.elem&&(p.grown==k.grown)) with
 | false=>rw[hc]at h;cases h
 | true=>
  rw[hc]at h
  simp only[dM,beq_iff_eq]at hc
  simp only[cond_true]at h
  cases h1:mCs p.cells k.cells with
  | none=>rw[h1]at h;cases h
  | some a1=>
   rw[h1]at h
   simp only at h
   cases h2:mT p.tab k.tab with
   | none=>rw[h2]at h;cases h
   | some b1=>
    rw[h2]at h
    cases h
    simp only[iB,List.append_assoc,YQ _ _ _ h1 (b1++r),mT_eq h2 r,dP hc.1,hc.2]
structure PTm where
 n:Nat
 s:PS
structure Pat where
 slots:PTm
 heap:List (Option PB)
def PS.left:PS->PS
 | .node l _=>l
 | _ =>.tip
def PS.right:PS->PS
 | .node _ r=>r
 | _ =>.tip
def setP:Nat->PS->Nat->PV->PS
 | 0,s,t,v=>bif Nat.beq t 0 then .leaf v else s
 | d+1,s,t,v=>bif Nat.blt t (2 ^ d)then .node (setP d s.left t v) s.right else .node s.left (setP d s.right (t-2 ^ d) v)
def wu(n _:Nat)(l:List (Nat×PV)):PTm:=⟨n,l.foldl (fun s p=>setP 9 s p.1 p.2) .tip⟩
def wR(p:Pat)(st:St):Option (List Lt):=
 bif Nat.beq p.slots.n st.tmps.n then(match mS p.slots.s st.tmps.s with
 | some a=>match mRow mB p.heap st.heap with
  | some b=>some (a++b)
  | none=>none
 | none=>none)else none
def yX(p:Pat)(ls:List Lt):St:=
 match iS p.slots.s ls with
 | some (t,r)=>match iRow iB p.heap r with
  | some (h,_)=>⟨⟨p.slots.n,t⟩,h⟩
  | none=>⟨⟨0,.tip⟩,[]⟩
 | none=>⟨⟨0,.tip⟩,[]⟩
theorem vr{p:Pat}{st:St}{ls:List Lt}(h:wR p st=some ls):st=yX p ls:=by
 unfold wR at h
 cases hn:Nat.beq p.slots.n st.tmps.n with
 | false=>rw[hn]at h;cases h
 | true=>
  rw[hn]at h
  have Az:=dP hn
  simp only[cond_true]at h
  split at h
  .rename_i a ha
   split at h
   .rename_i b hb
    cases h
    have e1:=mS_eq ha b
    have e2:=xbS (m:=mB) (i:=iB) (fun _ _ _ h r=>mB_eq h r) _ _ _ hb []
    rw[List.append_nil]at e2
    simp only[yX,e1,e2,Az]
   .cases h
  .cases h
abbrev LF:=St->(Ex->St->T R)->Option (T R)
def ek:List CK :=[.int .i64,.int .u8,.int .i64,.int .i64,.int .i64,.int .i64,.int .i64,.int .u8,.int .i64,.int .i64,.int .i64,.int .i64,.bool,.int .i64,.int .i64,.int .u8,.int .u64,.int .u64,.int .u64,.int .u64,.int .u64,.int .i64,.int .i64,.int .i64]
def ekp:List PC :=[.int .i64,.int .u8,.int .i64,.int .i64,.int .i64,.int .i64,.int .i64,.int .u8,.int .i64,.int .i64,.int .i64,.int .i64,.bool,.int .i64,.int .i64,.int .u8,.int .u64,.int .u64,.int .u64,.int .u64,.int .u64,.int .i64,.int .i64,.int .i64]
noncomputable abbrev lf(k:List (Nat×Sm))(u:Fu)(m:Nat)(x:LS)(p:List Nat)(f:Func):=jj Tryz.prog (xU k) u m x (wC p f) (kG p f)
end Lx
end Go.Proofs.YtfagfflkgmcnpaaGreatDoor
