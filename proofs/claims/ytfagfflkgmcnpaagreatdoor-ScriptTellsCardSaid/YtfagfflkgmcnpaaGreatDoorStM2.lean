/- Part. -/
import Derived.Test.YtfagfflkgmcnpaaGreatDoorStM1
import Derived.Scope
set_option linter.all false
namespace Go.Proofs.YtfagfflkgmcnpaaGreatDoor
namespace Lx
open Go
def Flat(pv:Value)(v:V)(rv:Value):Prop :=∀e,denV pv e v=some rv
structure PortB(P:Program) where
 pv:Pv
 t:TypeId
 u:Value
 isIface:pv.val = .iface t u
 sure : ∀name,portMeth name=true->hasPort P=true ->∀w,(nilAhead (P.types.size+Made.depth) t u name).run P w = .ok (some false) w
structure PortR(P:Program)(σ:Type) extends PortB P where
 step:PStep σ
 Rep:σ->(Nat->Prop)->World->Prop
 lt : ∀ {s F w},Rep s F w ->∀b,F b->b<w.heap.size
 stable : ∀ {s F w w'},Rep s F w->(∀b,F b->w'.heap[b]? = w.heap[b]?)->Rep s F w'
structure Port(P:Program)(σ:Type) extends PortR P σ where
 does : ∀ {name args p s s' x F w} {vs:List Value},popOf name args=some p->step p s=some (x,s')->allSome (denV pv []) args=some vs->Rep s F w->
  ∃f recv rv,(∀w,(callMethod pv name vs.toArray).run P w = .ok (.enter f (#[recv]++vs.toArray)) w)/\Flat pv (ansV p x) rv/\
   Calls P f (#[recv]++vs.toArray) w fun e w'=>e = .returned rv/\ ∃F',Rep s' F' w'/\Keeps F w w'/\ ∀b,F' b->F b\/w.heap.size<=b
instance{P:Program}{σ:Type}:CoeOut (PortR P σ) (PortB P):=⟨PortR.toPortB⟩
instance{P:Program}{σ:Type}:CoeOut (Port P σ) (PortR P σ):=⟨Port.toPortR⟩
section
variable{P:Program}(I:PortB P)
theorem PortB.one:One I.pv:=by show One I.pv.val;rw[I.isIface];exact⟨(fun _ h=>by cases h),(fun _ h=>by cases h)⟩
theorem PortB.ex : ∃t u,I.pv.val = .iface t u:=⟨I.t,I.u,I.isIface⟩
variable{ρ:Operand->Option V}{ra:Operand->Value}{o:Oper}{e:Env}{H:Heap}{w:World}
theorem xhK{x:Operand}{s:String}(hρ:Says I.pv e ρ ra)(E:Emb I.pv e H w)(ho:o.op = .nilCheck x)(hx:ρ x=some (.c (.meth s .port)))(hs:portMeth s=true)(hP:hasPort P=true):Did P I.pv ra o e H w (.c (.meth s .port)) H:=by
 have h1:=hρ x _ hx
 refine xt E (rv:=ra x) ?_ h1
 simp only[denV,den,dN,oI]at h1
 rw[I.isIface]at h1
 have h2:=I.sure s hs hP w
 simp only[execOp,ho,<- h1]
 simp[show(program.run P w) = .ok P w from rfl,h2]
theorem sure_eq{t:TypeId}{name:String}{f:FuncId}(h:ZP P t name=some f)(v:Value)(w:World):(nilAhead (P.types.size+Made.depth) t v name).run P w = .ok (some false) w:=by
 unfold ZP at h
 split at h
 .rename_i i hi
  split at h
  .rename_i m hm
   split at h
   .rename_i f' el hp hf hu
    cases h
    change (nilAhead ((P.types.size+(Made.depth-1))+1) t v name).run P w=_
    simp[nilAhead,typeInfo,program,Sem.run,bind,Sem.bind,pure,hi,hm,hp,hf,followBlind]
   .cases h
  .cases h
 .cases h
theorem xgl{x:Operand}{s:String}{t:TypeId}{c:C}{f:FuncId}{pv:Pv}(hρ:Says pv e ρ ra)(E:Emb pv e H w)(ho:o.op = .nilCheck x)(hx:ρ x=some (.c (.meth s (.ifc t c))))(hs:ZP P t s=some f):Did P pv ra o e H w (.c (.meth s (.ifc t c))) H:=by
 have h1:=hρ x _ hx
 refine xt E (rv:=ra x) ?_ h1
 simp only[denV,den,Option.map_map,oM]at h1
 obtain⟨u,h2,h3⟩:=h1
 have h4:=sure_eq hs u w
 simp only[Function.comp]at h3
 simp only[execOp,ho,<- h3]
 simp[show(program.run P w) = .ok P w from rfl,h4]
theorem Vs{v:V}{H':Heap}(hρ:Says I.pv e ρ ra)(E:Emb I.pv e H w)(h:evStep P o.op ρ H=some (.val true v H')):Did P I.pv ra o e H w v H':=by
 have hp:=I.one
 have ns:=I.ex
 generalize ho:o.op=op at h
 unfold evStep at h
 split at h
 case h_1 x=>
  rw[oM]at h;obtain⟨v',h1,h2⟩:=h;cases h2
  exact xcc hρ E (.inl ho) h1
 case h_2 x=>
  rw[oM]at h;obtain⟨v',h1,h2⟩:=h;cases h2
  exact xcc hρ E (.inr ho) h1
 case h_3 c a b=>
  split at h
  .rename_i t hc
   cases t
   .simp only[oM]at h;obtain⟨v',h1,h2⟩:=h;cases h2
    exact xcd hρ E ho hc h1
   .simp only[oM]at h;obtain⟨v',h1,h2⟩:=h;cases h2
    exact xcd hρ E ho hc h1
  .cases h
 case h_4 t=>
  split at h
  .rename_i z hz
   split at h
   .rename_i cs hc
    cases h
    exact xge hp E ho hz hc
   .cases h
  .cases h
 case h_5 t x=>
  split at h
  .rename_i v' hv
   split at h
   .rename_i cs hc
    cases h
    exact did_box hρ hp E ho hv hc
   .cases h
  .cases h
 case h_6 t parts=>
  split at h
  .rename_i z ps hz lr
   split at h
   .rename_i cs fs hc hu
    split at h
    .rename_i places et
     rw[oM]at h;obtain⟨r,h1,h2⟩:=h;cases h2
     exact xdU hp hρ E ho hz lr hc hu et h1
    .cases h
   .rename_i cs n el hc hu
    split at h
    .rename_i n hn
     rw[oM]at h;obtain⟨r,h1,h2⟩:=h;cases h2
     exact xdV hp hρ E ho hz lr hc hu hn h1
    .cases h
   .cases h
  .cases h
 case h_7 t len parts=>
  split at h
  .rename_i el ps hu lr
   split at h
   .rename_i n z hn hz
    split at h
    .rename_i zs An
     split at h
     .rename_i h0
      split at h
      .rename_i r hr
       cases h
       exact Vp hp hρ E ho hu lr hn hz An h0 hr
      .cases h
     .cases h
    .cases h
   .cases h
  .cases h
 case h_8 t a=>
  split at h
  .rename_i b q ha
   split at h
   .rename_i k hk
    rw[oM]at h;obtain⟨⟨g,r⟩,h1,h2⟩:=h
    simp only[Stp.val.injEq]at h2
    obtain⟨rfl,rfl,rfl⟩:=h2
    exact xhC hρ E ho ha hk h1
   .cases h
  .rename_i b off i n f ha
   split at h
   .rename_i k hk
    rw[oM]at h;obtain⟨⟨g,r⟩,h1,h2⟩:=h
    simp only[Stp.val.injEq]at h2
    obtain⟨rfl,rfl,rfl⟩:=h2
    exact xgf hρ E ho ha hk h1
   .cases h
  .cases h
 case h_9 t a x=>
  split at h
  .rename_i b q v' ha hx
   split at h
   .rename_i k xs n hk ez hn
    split at h
    .rename_i hl
     split at h
     .rename_i g kn bk
      simp only[oI,Stp.val.injEq]at h
      obtain⟨rfl,rfl,rfl⟩:=h
      exact KZ hρ hp E ho (qk hρ ha) hx hk ez hn hl bk
     .cases h
    .cases h
   .cases h
  .rename_i b off i m f v' ha hx
   split at h
   .rename_i k xs n hk ez hn
    split at h
    .rename_i hl
     split at h
     .rename_i g kn bk
      simp only[oI,Stp.val.injEq]at h
      obtain⟨rfl,rfl,rfl⟩:=h
      refine KZ hρ hp E ho ?_ hx hk ez hn hl bk
      obtain⟨r,g1,g2⟩:=Vk hρ ha
      exact⟨r,g1,by rw[prO_eq];exact g2⟩
     .cases h
    .cases h
   .cases h
  .cases h
 case h_10 x=>
  split at h
  .cases h
  .cases h
  .cases h
  .rename_i s c hx
   split at h
   .split at h
    .rename_i hs
     cases h
     exact xhK I hρ E ho hx hs.1 hs.2
    .cases h
   .split at h
    .rename_i hm
     cases h
     exact xgl hρ E ho hx hm
    .cases h
   .cases h
  .cases h
   rename_i h1 h2 h3 h4 hx
   exact xaU ns hρ E ho hx h1 h2 h3 h4
  .cases h
 case h_11 op t x y u=>
  split at h
  .rename_i a b ha hb
   rw[oM]at h;obtain⟨⟨g,r⟩,h1,h2⟩:=h
   simp only[Stp.val.injEq]at h2
   obtain⟨rfl,rfl,rfl⟩:=h2
   exact did_bin ns hρ E ho ha hb h1
  .rename_i l m ha hb
   rw[oM]at h;obtain⟨r,h1,h2⟩:=h;cases h2
   exact xhF hρ E ho ha hb h1
  .cases h
 case h_12 op t x=>
  split at h
  .rename_i a ha
   rw[oM]at h;obtain⟨r,h1,h2⟩:=h;cases h2
   exact did_un hρ E ho ha h1
  .cases h
 case h_13 s d x=>
  split at h
  .rename_i k n t j hx hs hd
   cases h
   exact xhD hρ E ho hx hd ⟨_,hs⟩
  .cases h
 case h_14 f first captured=>
  split at h
  .rename_i hf
   split at h
   .rename_i vs ee
    rw[oM]at h;obtain⟨r,h1,h2⟩:=h;cases h2
    exact xhG hρ E ho hf ee h1
   .cases h
  .cases h
 case h_15 s first captured=>
  split at h
  .rename_i hf
   split at h
   .rename_i x hx
    split at h
    .rename_i c hc
     cases h
     exact xhH hρ E ho hf hx hc
    .cases h
   .cases h
  .cases h
 case h_16 t x lo hi=>
  split at h
  .rename_i n el b q l hh hu hx hl ic
   split at h
   .rename_i z g1 h' hz fm
    split at h
    .rename_i g2 l' eb
     simp only[oI,Stp.val.injEq,dM]at h
     obtain⟨⟨rfl,rfl⟩,rfl,rfl⟩:=h
     exact xa1 hρ E ho hu hx hl ic hz fm eb
    .cases h
   .cases h
  .rename_i el b q len cap l hh hu hx hl ic
   split at h
   .rename_i z g1 h' hz fm
    split at h
    .rename_i g2 l' eb
     simp only[oI,Stp.val.injEq,dM]at h
     obtain⟨⟨rfl,rfl⟩,rfl,rfl⟩:=h
     exact xci hρ E ho hu hx hl ic hz fm eb
    .cases h
   .cases h
  .rename_i el b len l hh hu hx hl ic
   split at h
   .rename_i g1 h' fm
    split at h
    .rename_i g2 l' eb
     split at h
     .rename_i hz
      simp only[oI,Stp.val.injEq,dM]at h
      obtain⟨⟨rfl,rfl⟩,rfl,rfl⟩:=h
      exact xa3 hρ E ho hu hx hl ic hz fm eb
     .cases h
    .cases h
   .cases h
  .rename_i el b len l hh hu hx hl ic
   split at h
   .rename_i z g1 h' hz fm
    split at h
    .rename_i g2 l' eb
     simp only[oI,Stp.val.injEq,dM]at h
     obtain⟨⟨rfl,rfl⟩,rfl,rfl⟩:=h
     exact xa5 hρ E ho hu hx hl ic hz fm eb
    .cases h
   .cases h
  .rename_i el b z q n l hh hu hx hl ic
   split at h
   .rename_i g1 h' fm
    split at h
    .rename_i g2 l' eb
     split at h
     .rename_i hz
      simp only[oI,Stp.val.injEq,dM,Nat.blt_eq]at h
      obtain⟨⟨⟨rfl,rfl⟩,ao⟩,rfl,rfl⟩:=h
      exact xa4 hρ E ho hu hz hx hl ic fm eb ao
     .cases h
    .cases h
   .cases h
  .rename_i el s l hh _ _ _ _ _ hu hx hl ic
   split at h
   .rename_i hz
    rw[oM]at h
    obtain⟨⟨g,c⟩,h1,h2⟩:=h
    simp only[Stp.val.injEq]at h2
    obtain⟨rfl,rfl,rfl⟩:=h2
    exact xdT hρ E ho hu hx hz hl ic h1
   .cases h
  .cases h
 case h_17 t x f=>
  split at h
  .rename_i fs b q hu hx
   split at h
   .rename_i fd zf
    split at h
    .rename_i n hn
     split at h
     .cases h
     .rename_i dc
      cases h
      exact Ky hρ E ho hu hx zf hn dc
    .cases h
   .cases h
  .rename_i fs b off i m q hu hx
   split at h
   .rename_i fd zf
    split at h
    .rename_i n hn
     split at h
     .cases h
     .rename_i dc
      cases h
      exact Vl hρ E ho hu hx zf hn dc
    .cases h
   .cases h
  .cases h
 case h_18 t x f=>
  split at h
  .rename_i fs cs hu hx
   split at h
   .rename_i fd zf
    rw[oM]at h;obtain⟨r,h1,h2⟩:=h;cases h2
    exact xgg hρ E ho hu hx zf h1
   .cases h
  .cases h
 case h_19 t x ix=>
  split at h
  .rename_i len el b q k i hu hx hi
   rw[oM]at h;obtain⟨n,h1,h2⟩:=h
   simp only[Stp.val.injEq,decide_eq_true_eq]at h2
   obtain⟨hg,rfl,rfl⟩:=h2
   exact xaV hρ E ho hu hx hi h1 hg
  .rename_i el b q len cap k i hu hx hi
   rw[oM]at h;obtain⟨n,h1,h2⟩:=h
   simp only[Stp.val.injEq,decide_eq_true_eq]at h2
   obtain⟨hg,rfl,rfl⟩:=h2
   exact xcf hρ E ho hu hx hi h1 hg
  .rename_i el b q len k i hu hx hi
   split at h
   .rename_i h1
    simp only[oI,Stp.val.injEq,decide_eq_true_eq]at h
    obtain⟨hg,rfl,rfl⟩:=h
    exact xaW hρ E ho hu hx hi h1 hg
   .cases h
  .rename_i el b q z len cap k i hu hx hi
   rw[oM]at h;obtain⟨n,h1,h2⟩:=h
   simp only[Stp.val.injEq,decide_eq_true_eq]at h2
   obtain⟨hg,rfl,rfl⟩:=h2
   exact xaX hρ E ho hu hx hi h1 hg
  .rename_i el b len k i hu hx hi
   rw[oM]at h;obtain⟨n,h1,h2⟩:=h
   simp only[Stp.val.injEq,decide_eq_true_eq]at h2
   obtain⟨hg,rfl,rfl⟩:=h2
   exact xaY hρ E ho hu hx hi h1 hg
  .rename_i el b z q len k i hu hx hi
   split at h
   .rename_i hz
    simp only[oI,Stp.val.injEq,decide_eq_true_eq]at h
    obtain⟨hg,rfl,rfl⟩:=h
    exact xaZ hρ E ho hu hx hi hz hg
   .cases h
  .rename_i el b q d a len c k i hu hx hi
   split at h
   .rename_i hz
    simp only[oI,Stp.val.injEq,decide_eq_true_eq]at h
    obtain⟨hg,rfl,rfl⟩:=h
    exact xa0 hρ E ho hu hx hi hz hg
   .cases h
  .rename_i len el b q k i hu hx hi
   rw[oM]at h;obtain⟨n,h1,h2⟩:=h
   simp only[Stp.val.injEq,decide_eq_true_eq]at h2
   obtain⟨hg,rfl,rfl⟩:=h2
   exact xdP hρ E ho hu hx hi h1 hg
  .cases h
 case h_20 t x ix=>
  split at h
  .rename_i len el cs k i hu hx hi
   split at h
   .rename_i n hn
    rw[oM]at h;obtain⟨v',h1,h2⟩:=h
    simp only[Stp.val.injEq,decide_eq_true_eq]at h2
    obtain⟨hg,rfl,rfl⟩:=h2
    exact xgh hρ E ho hu hx hi hn hg (xhw h1 hg)
   .cases h
  .rename_i z k i hu hx hi
   simp only[oI,Stp.val.injEq,decide_eq_true_eq]at h
   obtain⟨hg,rfl,rfl⟩:=h
   exact xdQ hρ E ho hu hx hi hg
  .cases h
 case h_21 t ix=>
  split at h
  .rename_i l hx
   rw[oM]at h;obtain⟨v',h1,h2⟩:=h;cases h2
   exact xce hρ E ho hx h1
  .cases h
 case h_22 c=>
  split at h
  .rename_i args bh
   split at h
   .rename_i b hb
    have gi:o.op = .call {callee :=.builtin b,args:=c.args,argTypes:=c.argTypes}:=by rw[ho,<- hb]
    split at h
    .exact xdW hp hρ E gi bh h
    .exact xdZ hρ E gi bh h
    .exact did_len hρ E gi bh h
   .split at h
    .rw[oM]at h;obtain⟨v',h1,h2⟩:=h;cases h2
    .rw[oM]at h;obtain⟨v',h1,h2⟩:=h;cases h2
    .cases h
   .split at h
    .cases h
    .rw[oM]at h;obtain⟨v',h1,h2⟩:=h;cases h2
    .cases h
  .cases h
 case h_23 t l c=>
  split at h
  .rename_i el k n k' n' hu hl hc
   split at h
   .rename_i kd i hz
    split at h
    .rename_i J9
     obtain⟨eo,rfl⟩:=J9
     simp only[oI,Stp.val.injEq,decide_eq_true_eq]at h
     obtain⟨hg,rfl,rfl⟩:=h
     exact KC hρ E ho hu hl hc hz eo hg
    .cases h
   .cases h
  .cases h
 case h_24 t=>
  split at h
  .rename_i ht
   cases h
   exact xcp E ho ht
  .cases h
 case h_25 t m x ok=>exact xdX hρ E ho h
 case h_26 t m x y=>exact xdY hρ E ho h
 case h_27 t x=>
  split at h
  .rename_i c d hx hu
   split at h
   .cases h
   .rename_i hd
    cases h
    exact xgk hρ E ho hx hu (by simpa using hd)
  .cases h
 case h_28 t x=>
  split at h
  .rename_i n el b len hu hx
   split at h
   .rename_i h0
    simp only[oI,Stp.val.injEq,Nat.ble_eq]at h
    obtain⟨hg,rfl,rfl⟩:=h
    exact xcg hρ E ho hu hx h0 hg
   .cases h
  .cases h
 case h_29 t x lo hi mx=>
  rw[oM]at h;obtain⟨⟨g,c⟩,h1,h2⟩:=h
  simp only[Stp.val.injEq]at h2
  obtain⟨rfl,rfl,rfl⟩:=h2
  exact xdS hρ E ho h1
 case h_30=>cases h
end
end Lx
namespace Lx
open Go
theorem xI{H:Heap}{i:Nat}{k:Blk}:blkAt H i=some k↔H[i]? = some (some k):=by
 rw[xH]
 cases h:H[i]? with
 | none=>simp
 | some x=>simp
theorem Blk.win_of{k k':Blk}(h:k.tab=k'.tab):k.win=k'.win:=by unfold Blk.win;rw[h]
theorem Blk.wid_of{k k':Blk}(h:k.tab=k'.tab):k.wid=k'.wid:=by unfold Blk.wid;rw[h]
theorem Blk.virt_of{k k':Blk}(h:k.tab=k'.tab)(h':k.grown=k'.grown):k.virt=k'.virt:=by unfold Blk.virt;rw[h,h']
theorem Blk.mapped_of{k k':Blk}(h:k.tab=k'.tab):k.mapped=k'.mapped:=by unfold Blk.mapped;rw[h]
theorem Lies.like{A:Pv}{w:World}{r:Nat×Nat}{k k':Blk}{cs:List Value}(h:Lies A w r k' cs)(h1:k.elem=k'.elem)(h2:k.grown=k'.grown)(h3:k.tab=k'.tab):Lies A w r k cs:=by
 unfold Lies Tk at h |-
 rw[h3,Blk.virt_of h3 h2,Blk.mapped_of h3,Blk.win_of h3,Blk.wid_of h3,h1,h2];exact h
/-! ### renaming -/
mutual
theorem XK{pv:Value}{e e':Env}{r:Nat->Option Nat}(hr : ∀b b' x,r b=some b'->e[b]? = some x->e'[b']? = some x) : ∀ (c c':C) (v:Value),renC r c=some c'->den pv e c=some v->den pv e' c'=some v
 | .bool b,c',v,h,hv=>by simp only[renC,oI]at h;subst h;simpa[den]using hv
 | .int k n,c',v,h,hv=>by simp only[renC,oI]at h;subst h;simpa[den]using hv
 | .nilp,c',v,h,hv=>by simp only[renC,oI]at h;subst h;simpa[den]using hv
 | .nils,c',v,h,hv=>by simp only[renC,oI]at h;subst h;simpa[den]using hv
 | .nilf,c',v,h,hv=>by simp only[renC,oI]at h;subst h;simpa[den]using hv
 | .nili,c',v,h,hv=>by simp only[renC,oI]at h;subst h;simpa[den]using hv
 | .nilm,c',v,h,hv=>by simp only[renC,oI]at h;subst h;simpa[den]using hv
 | .port,c',v,h,hv=>by simp only[renC,oI]at h;subst h;simpa[den]using hv
 | .str z,c',v,h,hv=>by simp only[renC,oI]at h;subst h;simpa[den]using hv
 | .gp g o,c',v,h,hv=>by simp only[renC,oI]at h;subst h;simpa[den]using hv
 | .mp b,c',v,h,hv=>by
  simp only[renC,oM]at h
  obtain⟨b',hb,rfl⟩:=h
  simp only[den,oM]at hv |-
  obtain⟨x,hx,rfl⟩:=hv
  exact⟨x,hr b b' x hb hx,rfl⟩
 | .ptr b o,c',v,h,hv=>by
  simp only[renC,oM]at h
  obtain⟨b',hb,rfl⟩:=h
  simp only[den]at hv |-
  exact xh (fun x hx=>hr b b' x hb hx) hv
 | .sl b o n m,c',v,h,hv=>by
  simp only[renC,oM]at h
  obtain⟨b',hb,rfl⟩:=h
  simp only[den]at hv |-
  exact xh (fun x hx=>hr b b' x hb hx) hv
 | .slg b o n,c',v,h,hv=>by
  simp only[renC,oM]at h
  obtain⟨b',hb,rfl⟩:=h
  simp only[den]at hv |-
  exact yH (fun x hx=>hr b b' x hb hx) hv
 | .pr b o i n f,c',v,h,hv=>by
  simp only[renC,oM]at h
  obtain⟨b',hb,rfl⟩:=h
  simp only[den]at hv |-
  exact xh (fun x hx=>hr b b' x hb hx) hv
 | .slw b o z n m,c',v,h,hv=>by
  simp only[renC,oM]at h
  obtain⟨b',hb,rfl⟩:=h
  simp only[den]at hv |-
  exact xh (fun x hx=>hr b b' x hb hx) hv
 | .slr b n,c',v,h,hv=>by
  simp only[renC,oM]at h
  obtain⟨b',hb,rfl⟩:=h
  simp only[den]at hv |-
  exact yH (fun x hx=>hr b b' x hb hx) hv
 | .slv b z o n,c',v,h,hv=>by
  simp only[renC,oM]at h
  obtain⟨b',hb,rfl⟩:=h
  simp only[den]at hv |-
  exact yH (fun x hx=>hr b b' x hb hx) hv
 | .slx b o d a n m,c',v,h,hv=>by
  simp only[renC,oM]at h
  obtain⟨b',hb,rfl⟩:=h
  simp only[den]at hv |-
  exact yH (fun x hx=>hr b b' x hb hx) hv
 | .fn f caps,c',v,h,hv=>by
  simp only[renC,oM]at h
  obtain⟨l,hl,rfl⟩:=h
  simp only[den]at hv |-
  exact xh (fun x hx=>jL hr caps l x hl hx) hv
 | .meth s c,c',v,h,hv=>by
  simp only[renC,oM]at h
  obtain⟨l,hl,rfl⟩:=h
  simp only[den]at hv |-
  exact xh (fun x hx=>XK hr c l x hl hx) hv
 | .ifc t c,c',v,h,hv=>by
  simp only[renC,oM]at h
  obtain⟨l,hl,rfl⟩:=h
  simp only[den]at hv |-
  exact xh (fun x hx=>XK hr c l x hl hx) hv
theorem jL{pv:Value}{e e':Env}{r:Nat->Option Nat}(hr : ∀b b' x,r b=some b'->e[b]? = some x->e'[b']? = some x) : ∀ (l l':List C) (vs:List Value),wI r l=some l'->denL pv e l=some vs->denL pv e' l'=some vs
 | [],l',vs,h,hv=>by simp only[wI,oI]at h;subst h;simpa[denL]using hv
 | c::l,l',vs,h,hv=>by
  simp only[wI]at h
  split at h
  .rename_i c' hc
   split at h
   .rename_i l'' hl
    cases h
    simp only[denL]at hv |-
    split at hv
    .rename_i v Af
     split at hv
     .rename_i us hu
      cases hv
      rw[XK hr c c' v hc Af,jL hr l l'' us hl hu]
     .cases hv
    .cases hv
   .cases h
  .cases h
end
theorem xgm{pv:Value}{e e':Env}{r:Nat->Option Nat}(hr : ∀b b' x,r b=some b'->e[b]? = some x->e'[b']? = some x)(x x':V1)(v:Value)(h:YV r x=some x')(hv:vX pv e x=some v):vX pv e' x'=some v:=by
 cases x with
 | c a=>
  simp only[YV,oM]at h
  obtain⟨a',ha,rfl⟩:=h
  exact XK hr a a' v ha hv
 | agg l=>
  simp only[YV,oM]at h
  obtain⟨a',ha,rfl⟩:=h
  simp only[vX]at hv |-
  exact xh (fun x hx=>jL hr l a' x ha hx) hv
theorem kP{α β γ δ:Type}{f:α->Option β}{g:α->Option γ}{h:β->Option δ}{j:γ->δ}(hh : ∀x y z,f x=some y->g x=some z->h y=some (j z)) : ∀ (l:List α) (ys:List β) (zs:List γ),allSome f l=some ys->allSome g l=some zs->allSome h ys=some (zs.map j)
 | [],ys,zs,h1,h2=>by
  simp only[allSome,oI]at h1 h2
  subst h1;subst h2;rfl
 | x::l,ys,zs,h1,h2=>by
  simp only[allSome]at h1 h2
  split at h1
  .rename_i y hy
   split at h1
   .rename_i If fz
    cases h1
    split at h2
    .rename_i z hz
     split at h2
     .rename_i Ie An
      cases h2
      simp only[allSome,hh x y z hy hz,kP hh l If Ie fz An,List.map_cons]
     .cases h2
    .cases h2
   .cases h1
  .cases h1
theorem jM{pv:Value}{e e':Env}{r:Nat->Option Nat}(hr : ∀b b' x,r b=some b'->e[b]? = some x->e'[b']? = some x)(x x':V)(v:Value)(h:renV r x=some x')(hv:denV pv e x=some v):denV pv e' x'=some v:=by
 cases x with
 | c a=>
  simp only[renV,oM]at h
  obtain⟨a',ha,rfl⟩:=h
  exact XK hr a a' v ha hv
 | agg l=>
  simp only[renV,oM]at h
  obtain⟨a',ha,rfl⟩:=h
  simp only[denV]at hv |-
  exact xh (fun x hx=>jL hr l a' x ha hx) hv
 | tup l=>
  simp only[renV,oM]at h
  obtain⟨l',hl,rfl⟩:=h
  simp only[denV,oM]at hv |-
  obtain⟨vs,h1,h2⟩:=hv
  refine⟨vs,?_,h2⟩
  have:=kP (h:=vX pv e') (j:=id) (fun x y z hy hz=>xgm hr x y z hy hz) l l' vs hl h1
  simpa using this
/-! ### the blocks that values lead to -/
theorem jN(H:Heap) : ∀ (n:Nat) (todo acc l:List Nat),wv H n todo acc=some l->acc.Nodup->(∀b∈acc,∃k,blkAt H b=some k)->l.Nodup/\(∀b∈l,∃k,blkAt H b=some k)/\ ∃x,l=acc++x
 | n,[],acc,l,h,h1,h2=>by
  have:acc=l:=by cases n<;>simpa[wv]using h
  subst this
  exact⟨h1,h2,[],by simp⟩
 | 0,b::todo,acc,l,h,h1,h2=>by simp[wv]at h
 | n+1,b::todo,acc,l,h,h1,h2=>by
  simp only[wv]at h
  split at h
  .exact jN H n todo acc l h h1 h2
  .rename_i hc
   split at h
   .rename_i k hk
    have hb:b∉acc:=by simpa using hc
    obtain⟨g1,g2,x,g3⟩:=jN H n _ (acc ++ [b]) l h (by
     rw[List.nodup_append]
     refine⟨h1,by simp,fun a ha c hc =>?_⟩
     simp only[List.mem_singleton]at hc
     subst hc
     exact fun e=>hb (e▸ha)) (fun c hc=>by
     rcases List.mem_append.1 hc with h|h
     .exact h2 c h
     .simp only[List.mem_singleton]at h
      subst h
      exact⟨k,hk⟩)
    exact⟨g1,g2,[b]++x,by rw[g3];simp⟩
   .cases h
theorem xaf{H:Heap}{m:Nat}{todo l:List Nat}(h:xaP H m todo=some l):l.Nodup/\ ∀b∈l,b<H.length:=by
 unfold xaP at h
 split at h
 .rename_i bu
  have bu:=Nat.le_of_ble_eq_true bu
  split at h
  .rename_i l0 ul
   cases h
   obtain⟨g1,g2,_⟩:=jN H _ _ _ l0 ul (List.nodup_range.filter _) fun b hb=>Option.isSome_iff_exists.1 (List.mem_filter.1 hb).2
   refine⟨?_,fun b hb =>?_⟩
   .rw[List.nodup_append]
    refine⟨List.nodup_range,g1.filter _,fun a ha c hc Lf =>?_⟩
    subst Lf
    have h1:=List.mem_range.1 ha
    have h2:=Nat.le_of_ble_eq_true (List.mem_filter.1 hc).2
    omega
   .rcases List.mem_append.1 hb with hb|hb
    .exact Nat.lt_of_lt_of_le (List.mem_range.1 hb) bu
    .obtain⟨k,hk⟩:=g2 b (List.mem_filter.1 hb).1
     rw[xI]at hk
     exact(List.getElem?_eq_some_iff.1 hk).1
  .cases h
 .cases h
theorem Zx : ∀ (l:List Nat) (b i:Nat),idx l b=some i->l[i]? = some b
 | [],b,i,h=>by simp[idx]at h
 | x::l,b,i,h=>by
  simp only[idx]at h
  split at h
  .rename_i hx
   cases h
   simp[hx]
  .rw[oM]at h
   obtain⟨j,hj,rfl⟩:=h
   simpa using Zx l b j hj
theorem yA : ∀ (l:List Nat) (xs:List (Option Blk)) (H:Heap),(vF H l xs).length=H.length
 | [],xs,H=>by simp[vF]
 | b::l,[],H=>by simp[vF]
 | b::l,x::xs,H=>by simp only[vF];rw[yA l xs,yz,List.length_set]
theorem jr : ∀ (l:List Nat) (xs:List (Option Blk)) (H:Heap) (j:Nat),j∉l->(vF H l xs)[j]? = H[j]?
 | [],xs,H,j,h=>by simp[vF]
 | b::l,[],H,j,h=>by simp[vF]
 | b::l,x::xs,H,j,h=>by
  simp only[List.mem_cons,not_or]at h
  simp only[vF]
  rw[jr l xs _ j h.2,yz,List.getElem?_set_ne (fun e=>h.1 e.symm)]
theorem Yv : ∀ (l:List Nat) (xs:List (Option Blk)) (H:Heap) (i j:Nat) (x:Option Blk),l.Nodup->l[i]? = some j->xs[i]? = some x->j<H.length->(vF H l xs)[j]? = some x
 | [],xs,H,i,j,x,hn,hl,hx,hj=>by simp at hl
 | b::l,[],H,i,j,x,hn,hl,hx,hj=>by simp at hx
 | b::l,y::xs,H,0,j,x,hn,hl,hx,hj=>by
  simp only[List.getElem?_cons_zero,oI]at hl hx
  subst hl;subst hx
  simp only[vF]
  rw[jr l xs _ b (List.nodup_cons.1 hn).1,yz,List.getElem?_set_self hj]
 | b::l,y::xs,H,i+1,j,x,hn,hl,hx,hj=>by
  simp only[List.getElem?_cons_succ]at hl hx
  simp only[vF]
  exact Yv l xs _ i j x (List.nodup_cons.1 hn).2 hl hx (by rw[yz,List.length_set];exact hj)
/-! ### a callee's blocks -/
theorem Yw{r:Nat->Option Nat}{x:Option Blk}{k':Blk}(h:renB r x=some (some k')) : ∃k,x=some k/\wI r k.cells=some k'.cells/\k'.elem=k.elem/\k'.grown=k.grown/\k'.tab=k.tab:=by
 cases x with
 | none=>simp[renB]at h
 | some k=>
  simp only[renB,oM,oI]at h
  obtain⟨cs,h1,rfl⟩:=h
  exact⟨k,rfl,h1,rfl,rfl,rfl⟩
theorem Vt{pv:Value}{e e':Env}{r:Nat->Option Nat}(hr : ∀b b' x,r b=some b'->e[b]? = some x->e'[b']? = some x){k k':Blk}(hc:wI r k.cells=some k'.cells)(ht:k'.tab=k.tab){cs:List Value}(h:denL pv e k.real=some cs):denL pv e' k'.real=some cs:=by
 cases hk:k.tab with
 | none=>
  rw[Blk.real_none hk]at h
  rw[Blk.real_none (ht.trans hk)]
  exact jL hr _ _ _ hc h
 | some t=>
  cases hq:t.isTok with
  | false=>
   rw[Blk.real_some hk]at h
   rw[Blk.real_some (ht.trans hk),Zr (pv:=pv) (e:=e) (Vg t)]
   exact h
  | true=>
   cases t<;>first|cases hq|skip
   rw[Blk.real_tok hk]at h
   rw[Blk.real_tok (ht.trans hk)]
   exact jL hr _ _ _ hc h
theorem xd1{r:Nat->Option Nat}{k k':Blk}(hc:wI r k.cells=some k'.cells)(ht:k'.tab=k.tab)(hk:k.ok):k'.ok:=by
 intro t h hq
 rw[hk t (ht.symm.trans h) hq]at hc
 simp only[wI,oI]at hc
 exact hc.symm
theorem Emb.sub{pv:Pv}{e:Env}{H:Heap}{w:World}(E:Emb pv e H w){l:List Nat}(hn:l.Nodup)(hk : ∀b∈l,b<H.length){H0:Heap}(h:allSome (fun b=>renB (idx l) (blkAt H b)) l=some H0) :
  ∃e0:Env,e0.length=l.length/\(∀ (i b:Nat),l[i]? = some b->e0[i]? = e[b]?)/\Emb pv e0 H0 w/\ ∀q x,Own q e0 H0 x ->∃i∈l,∃k r,blkAt H i=some k/\e[i]? = some r/\r.1=x/\k.virt=false/\(q=true->k.win=none):=by
 have hl:=xV _ _ _ h
 have cx : ∀ (i b:Nat),l[i]? = some b->(l.map fun b=>(e[b]?).getD (0,0))[i]? = e[b]? :=by
  intro i b hb
  have gt:=hk b (List.mem_of_getElem? hb)
  obtain⟨r,hr⟩ : ∃r,e[b]? = some r:=⟨_,List.getElem?_eq_getElem (by have:=E.len;omega)⟩
  rw[List.getElem?_map,hb,hr]
  simp[hr]
 have hr : ∀b b' x,idx l b=some b'->e[b]? = some x->(l.map fun b=>(e[b]?).getD (0,0))[b']? = some x:=fun b b' x h1 h2=>(cx b' b (Zx l b b' h1)).trans h2
 have orig : ∀i k,blkAt H0 i=some k ->∃b k',l[i]? = some b/\blkAt H b=some k'/\wI (idx l) k'.cells=some k.cells/\k.elem=k'.elem/\k.grown=k'.grown/\k.tab=k'.tab:=by
  intro i k hk
  rw[xI]at hk
  have hi:i<l.length:=by rw[<- hl];exact(List.getElem?_eq_some_iff.1 hk).1
  obtain⟨y,h1,h2⟩:=yD _ _ _ h i _ (List.getElem?_eq_getElem hi)
  rw[hk]at h2
  cases h2
  obtain⟨k',h3,h4,h5,h6,h7⟩:=Yw h1
  exact⟨l[i],k',List.getElem?_eq_getElem hi,h3,h4,h5,h6,h7⟩
 refine⟨l.map fun b=>(e[b]?).getD (0,0),by simp,cx,⟨by simp[hl],fun i k hk =>?_,fun i j k k' r r' h1 h2 h3 h4 h5 v1 v2 =>?_,fun i k hk =>?_⟩,fun q x hx =>?_⟩
 .obtain⟨b,k',h1,h2,h3,h4,h5,h6⟩:=orig i k hk
  obtain⟨r,cs,g1,g2,g3⟩:=E.lies b k' h2
  exact⟨r,cs,(cx i b h1).trans g1,Vt hr h3 h6 g2,g3.like h4 h5 h6⟩
 rotate_left
 .obtain⟨b,k',h1,h2,h3,h4,h5,h6⟩:=orig i k hk
  exact xd1 h3 h6 (E.ok b k' h2)
 rotate_right
 .obtain⟨b,kb,g1,g2,_,_,u1,w1⟩:=orig i k h1
  obtain⟨c,kc,g3,g4,_,_,u2,w2⟩:=orig j k' h2
  rw[Blk.virt_of w1 u1]at v1
  rw[Blk.virt_of w2 u2]at v2
  rw[cx i b g1]at h3
  rw[cx j c g3]at h4
  rcases E.alone b c kb kc r r' g2 g4 h3 h4 h5 v1 v2 with this|hw
  .subst this
   exact .inl ((List.getElem?_inj (List.getElem?_eq_some_iff.1 g1).1 hn).1 (g1.trans g3.symm))
  .rw[Blk.win_of w1,Blk.win_of w2];exact .inr hw
 .obtain⟨i,k,r,h1,h2,h3,hv,h4⟩:=hx
  obtain⟨b,kb,g1,g2,_,_,u3,g3⟩:=orig i k h1
  rw[cx i b g1]at h2
  exact⟨b,List.mem_of_getElem? g1,kb,r,g2,h2,h3,by rw[<- Blk.virt_of g3 u3];exact hv,fun hq=>by rw[<- Blk.win_of g3];exact h4 hq⟩
def Xj{P:Program}{σ:Type}(I:Port P σ)(f:FuncId)(m:List V->Heap->Option Sum):Prop:=
 (∃fn c,P.funcs[f]? = some fn/\(fn.name == "runtime.NumGoroutine")=false/\fn.body=some c)/\
 ∀args H S,m args H=some S ->∀e w s F vs,Emb I.pv e H w->allSome (denV I.pv e) args=some vs->I.Rep s F w->(∀b,Own false e H b ->¬F b)->
 ∀x v H' s',S.t.run I.step s=some (x,s')->S.f x=some (v,H')->
 Calls P f vs.toArray w fun en w' =>∃e' F' rv,en = .returned rv/\Ext e e'/\denV I.pv e' v=some rv/\Emb I.pv e' H' w'/\I.Rep s' F' w'/\(∀b,Own false e' H' b ->¬F' b)/\
 Keeps (fun b=>Own true e H b\/F b) w w'/\ ∀q b,Own q e' H' b\/F' b->Own q e H b\/F b\/w.heap.size<=b
theorem T.run_bind_some{α β σ:Type}{step:PStep σ}{t:T α}{f:α->T β}{s s':σ}{b:β}(h:(t.bind f).run step s=some (b,s')) : ∃a s1,t.run step s=some (a,s1)/\(f a).run step s1=some (b,s'):=by
 rw[T.run_bind]at h
 split at h
 .rename_i a s1 hs
  exact⟨a,s1,hs,h⟩
 .cases h
theorem xd2{P:Program}{σ:Type}(I:Port P σ){Γ:xK}(hΓ : ∀f m,Γ f=some m->Xj I f m){f:FuncId}{args:List V}{H:Heap}{S:Sum}(h:wJ Γ f args H=some S)
  {e:Env} {w:World} {s s':σ} {F:Nat->Prop} {vs:List Value} (E:Emb I.pv e H w) (hv:allSome (denV I.pv e) args=some vs) (hR:I.Rep s F w) (hF : ∀b,Own false e H b ->¬F b) {v:V} {H':Heap} {x:S.α} (aa:S.t.run I.step s=some (x,s')) (aw:S.f x=some (v,H')) :
  (∃fn c,P.funcs[f]? = some fn/\(fn.name == "runtime.NumGoroutine")=false/\fn.body=some c)/\
  Calls P f vs.toArray w fun en w' =>∃e' F' rv,en = .returned rv/\Ext e e'/\denV I.pv e' v=some rv/\Emb I.pv e' H' w'/\I.Rep s' F' w'/\(∀b,Own false e' H' b ->¬F' b)/\
    Keeps (fun b=>Own true e H b\/F b) w w'/\ ∀q b,Own q e' H' b\/F' b->Own q e H b\/F b\/w.heap.size<=b:=by
 unfold wJ at h
 split at h
 .cases h
 .rename_i m hm
  obtain⟨an,ef⟩:=hΓ f m hm
  refine⟨an,?_⟩
  split at h
  .cases h
  .rename_i l hl
   obtain⟨hn,hk,_⟩:=jN H _ _ [] l hl (by simp) (by simp)
   split at h
   .rename_i cz H0 bh hH0
    split at h
    .cases h
    .rename_i t0 Ap
     cases h
     obtain⟨e0,tu,nh,E0,m8⟩:=E.sub hn (fun b hb=>(hk b hb).elim fun k h=>by rw[xI]at h;exact(List.getElem?_eq_some_iff.1 h).1) hH0
     have ea:=aa
     have cj:=aw
     have hr : ∀b b' x,idx l b=some b'->e[b]? = some x->e0[b']? = some x:=fun b b' x h1 h2=>(nh b' b (Zx l b b' h1)).trans h2
     have ox:allSome (denV I.pv e0) cz=some vs:=by
      have:=kP (h:=denV I.pv e0) (j:=id) (fun x y z hy hz=>jM hr x y z hy hz) args cz vs bh hv
      simpa using this
     have mo : ∀q x,Own q e0 H0 x->Own q e H x:=by
      intro q x hx
      obtain⟨i,hi,k,r,h1,h2,h3,hv,h4⟩:=m8 q x hx
      exact⟨i,k,r,h1,h2,h3,hv,h4⟩
     simp only at cj
     split at cj
     .cases cj
     rename_i r0 my
     obtain⟨v0,H1⟩:=r0
     simp only at cj
     split at cj
     .rename_i v1 H2 ti hH2
      split at cj
      .rename_i bu
       simp only[oI,dI]at cj
       obtain⟨rfl,rfl⟩:=cj
       refine(ef cz H0 t0 Ap e0 w s F vs E0 ox hR (fun b hb=>hF b (mo _ b hb)) x v0 H1 _ ea my).mono ?_
       rintro en w' ⟨L9,F',rv,K5,⟨xs,hx⟩,hd,E1,hR',hF',hK,ci⟩
       subst hx
       have Fw:=E.len
       have lj:Ext e (e++xs):=⟨xs,rfl⟩
       have hb : ∀i i' y,(fun i=>some (vD l H.length i)) i=some i'->(e0++xs)[i]? = some y->(e++xs)[i']? = some y:=by
        intro i i' y h1 h2
        simp only[oI]at h1
        subst h1
        unfold vD
        split
        .rename_i hi
         rw[List.getElem?_append_left (by omega)]at h2
         rw[nh i l[i] (List.getElem?_eq_getElem hi)]at h2
         rw[List.getD_eq_getElem?_getD,List.getElem?_eq_getElem hi]
         exact lj.get h2
        .rename_i hi
         rw[List.getElem?_append_right (by omega)]at h2
         rw[List.getElem?_append_right (by omega),<- h2]
         congr 1
         omega
       have f7:=xV _ _ _ hH2
       have orig : ∀i k,H2[i]? = some (some k) ->∃k',blkAt H1 i=some k'/\wI (fun i=>some (vD l H.length i)) k'.cells=some k.cells/\k.elem=k'.elem/\k.grown=k'.grown/\k.tab=k'.tab:=by
        intro i k hk
        have hi:i<H1.length:=by rw[<- f7];exact(List.getElem?_eq_some_iff.1 hk).1
        obtain⟨y,h1,h2⟩:=yD _ _ _ hH2 i _ (List.getElem?_eq_getElem hi)
        rw[hk]at h2
        cases h2
        obtain⟨k',h3,h4,h5,h6,h7⟩:=Yw h1
        exact⟨k',by rw[xI,List.getElem?_eq_getElem hi,h3],h4,h5,h6,h7⟩
       -- where a block behind the call comes from
       have from_ : ∀j k,blkAt (vF H l H2++H2.drop l.length) j=some k->(j∉l/\blkAt H j=some k)\/ ∃i,vD l H.length i=j/\H2[i]? = some (some k):=by
        intro j k hj
        rw[xI]at hj
        by_cases ou:j<H.length
        .rw[List.getElem?_append_left (by rw[yA];exact ou)]at hj
         by_cases ap:j∈l
         .right
          obtain⟨i,hi⟩:=List.getElem?_of_mem ap
          have um:=(List.getElem?_eq_some_iff.1 hi).1
          have em:i<H2.length:=by omega
          rw[Yv l H2 H i j _ hn hi (List.getElem?_eq_getElem em) ou]at hj
          refine⟨i,?_,by rw[List.getElem?_eq_getElem em,hj]⟩
          unfold vD
          rw[dB um,List.getD_eq_getElem?_getD,hi]
          rfl
         .left
          rw[jr l H2 H j ap]at hj
          exact⟨ap,by rw[xI];exact hj⟩
        .right
         rw[List.getElem?_append_right (by rw[yA];omega),yA,List.getElem?_drop]at hj
         refine⟨l.length+(j-H.length),?_,hj⟩
         unfold vD
         rw[dA (by omega)]
         omega
       have away : ∀q j k r,j∉l->blkAt H j=some k->e[j]? = some r->k.virt=false->(q=false->k.win=none) ->¬ (Own q e0 H0 r.1\/F r.1)/\r.1<w.heap.size:=by
        intro q j k r hj d6 Au hv hq
        refine⟨fun h =>?_,E.own_lt (vS d6 Au hv)⟩
        rcases h with h|h
        .obtain⟨i,hi,k',r',h1,h2,h3,dt,h4⟩:=m8 _ _ h
         refine hj (E.inj i j k' k r' r h1 d6 h2 Au h3 dt hv ?_▸hi)
         cases q with
         | false=>exact .inr (hq rfl)
         | true=>exact .inl (h4 rfl)
        .exact hF _ (vS d6 Au hv) h
       have te : ∀q b,Own q (e++xs) (vF H l H2++H2.drop l.length) b->Own q (e0++xs) H1 b\/(∃j k r,j∉l/\blkAt H j=some k/\e[j]? = some r/\r.1=b/\k.virt=false/\(q=true->k.win=none)):=by
        rintro q b ⟨j,k,r,h1,h2,h3,hv,h4⟩
        rcases from_ j k h1 with⟨hj,d6⟩|⟨i,hi,tv⟩
        .right
         refine⟨j,k,r,hj,d6,?_,h3,hv,h4⟩
         have:j<H.length:=(List.getElem?_eq_some_iff.1 (xI.1 d6)).1
         rwa [List.getElem?_append_left (by omega)]at h2
        .left
         obtain⟨k',g1,_,_,g4,g5⟩:=orig i k tv
         obtain⟨r',g2⟩:=E1.get g1
         have:=hb i j r' (congrArg some hi) g2
         rw[h2]at this
         cases this
         exact⟨i,k',r,g1,g2,h3,by rw[<- Blk.virt_of g5 g4];exact hv,fun hq=>by rw[<- Blk.win_of g5];exact h4 hq⟩
       refine⟨e++xs,F',rv,K5,lj,jM hb v0 v1 rv ti hd,⟨?_,?_,?_,?_⟩,hR',?_,hK.mono (fun b hb=>hb.imp (mo _ b) id),?_⟩
       .have:=E1.len
        simp only[dO,yA,List.length_drop]at this |-
        omega
       .intro j k hj
        rcases from_ j k hj with⟨ou,d6⟩|⟨i,hi,tv⟩
        .obtain⟨r,cs,g1,g2,g3⟩:=E.lies j k d6
         refine⟨r,cs,lj.get g1,yE lj _ _ g2,g3.same fun hv =>?_⟩
         obtain⟨a1,a2⟩:=away true j k r ou d6 g1 hv (fun h=>by cases h)
         exact hK.block r.1 a2 a1
        .obtain⟨k',g1,g2,g3,g4,g5⟩:=orig i k tv
         obtain⟨r,cs,a1,a2,a3⟩:=E1.lies i k' g1
         exact⟨r,cs,hb i j r (congrArg some hi) a1,Vt hb g2 g5 a2,a3.like g3 g4 g5⟩
       .intro i j k k' r r' h1 h2 h3 h4 h5 v1 v2
        have mixed : ∀i j k k' r r',(i∉l/\blkAt H i=some k)->(∃q,vD l H.length q=j/\H2[q]? = some (some k'))->(e++xs)[i]? = some r->(e++xs)[j]? = some r'->r.1=r'.1->k.virt=false->k'.virt=false->k.win.isSome=true/\k'.win.isSome=true:=by
         rintro i j k k' r r' ⟨h1,h2⟩ ⟨q,h3,h4⟩ h5 h6 h7 v1 v2
         obtain⟨kq,g1,_,_,g4,g5⟩:=orig q k' h4
         obtain⟨rq,g2⟩:=E1.get g1
         have g3:=hb q j rq (congrArg some h3) g2
         rw[h6]at g3
         cases g3
         have:i<H.length:=(List.getElem?_eq_some_iff.1 (xI.1 h2)).1
         rw[List.getElem?_append_left (by omega)]at h5
         have bad : ∀q',(q'=false->k.win=none)->(q'=true->kq.win=none)->False:=by
          intro q' Av tq
          obtain⟨a1,a2⟩:=away q' i k r h1 h2 h5 v1 Av
          rcases ci q' r'.1 (.inl ⟨q,kq,r',g1,g2,rfl,by rw[<- Blk.virt_of g5 g4];exact v2,tq⟩)with h|h|h
          .exact a1 (.inl (h7▸h))
          .exact a1 (.inr (h7▸h))
          .omega
         rw[Blk.win_of g5]
         constructor
         .cases hk:k.win with
          | some _=>rfl
          | none=>exact(bad false (fun _=>hk) (fun h=>by cases h)).elim
         .cases hk:kq.win with
          | some _=>rfl
          | none=>exact(bad true (fun h=>by cases h) (fun _=>hk)).elim
        rcases from_ i k h1 with g1|g1<;>rcases from_ j k' h2 with g2|g2
        .have hi:i<H.length:=(List.getElem?_eq_some_iff.1 (xI.1 g1.2)).1
         have hj:j<H.length:=(List.getElem?_eq_some_iff.1 (xI.1 g2.2)).1
         rw[List.getElem?_append_left (by omega)]at h3 h4
         exact E.alone i j k k' r r' g1.2 g2.2 h3 h4 h5 v1 v2
        .exact .inr (mixed i j k k' r r' g1 g2 h3 h4 h5 v1 v2)
        .exact .inr (mixed j i k' k r' r g2 g1 h4 h3 h5.symm v2 v1).symm
        .obtain⟨p,p1,p2⟩:=g1
         obtain⟨q,q1,q2⟩:=g2
         obtain⟨kp,a1,_,_,u1,w1⟩:=orig p k p2
         obtain⟨kq,b1,_,_,u2,w2⟩:=orig q k' q2
         rw[Blk.virt_of w1 u1]at v1
         rw[Blk.virt_of w2 u2]at v2
         obtain⟨rp,a2⟩:=E1.get a1
         obtain⟨rq,b2⟩:=E1.get b1
         have a3:=hb p i rp (congrArg some p1) a2
         have b3:=hb q j rq (congrArg some q1) b2
         rw[h3]at a3
         rw[h4]at b3
         cases a3;cases b3
         rcases E1.alone p q kp kq r r' a1 b1 a2 b2 h5 v1 v2 with this|this
         .left;rw[<- p1,<- q1,this]
         .right;rw[Blk.win_of w1,Blk.win_of w2];exact this
       .intro j k hj
        rcases from_ j k hj with⟨ou,d6⟩|⟨i,hi,tv⟩
        .exact E.ok j k d6
        .obtain⟨k',g1,g2,g3,g4,g5⟩:=orig i k tv
         exact xd1 g2 g5 (E1.ok i k' g1)
       .intro b du hf
        rcases te _ b du with h|⟨j,k,r,h1,h2,h3,rfl,hv,_⟩
        .exact hF' b h hf
        .obtain⟨a1,a2⟩:=away true j k r h1 h2 h3 hv (fun h=>by cases h)
         rcases ci true r.1 (.inr hf)with h|h|h
         .exact a1 (.inl h)
         .exact a1 (.inr h)
         .omega
       .intro q b du
        have fin:(Own q e0 H0 b\/F b\/w.heap.size<=b)->Own q e H b\/F b\/w.heap.size<=b:=fun h=>h.imp (mo _ b) id
        rcases du with du|du
        .rcases te _ b du with h|⟨j,k,r,h1,h2,h3,rfl,hv,h4⟩
         .exact fin (ci _ b (.inl h))
         .exact .inl ⟨j,k,r,h2,h3,rfl,hv,h4⟩
        .exact fin (ci _ b (.inr du))
      .cases cj
     .cases cj
   .cases h
/-! ### calls that leave no further blocks -/
mutual
theorem jO{r r':Nat->Option Nat}(h : ∀i j,r i=some j->r' i=some j) : ∀ (c c':C),renC r c=some c'->renC r' c=some c'
 | .bool b,c',hc=>by simpa[renC]using hc
 | .int k n,c',hc=>by simpa[renC]using hc
 | .nilp,c',hc=>by simpa[renC]using hc
 | .nils,c',hc=>by simpa[renC]using hc
 | .nilf,c',hc=>by simpa[renC]using hc
 | .nili,c',hc=>by simpa[renC]using hc
 | .nilm,c',hc=>by simpa[renC]using hc
 | .port,c',hc=>by simpa[renC]using hc
 | .str z,c',hc=>by simpa[renC]using hc
 | .gp g o,c',hc=>by simpa[renC]using hc
 | .mp b,c',hc=>by simp only[renC]at hc |-;exact xh (fun x hx=>h b x hx) hc
 | .ptr b o,c',hc=>by simp only[renC]at hc |-;exact xh (fun x hx=>h b x hx) hc
 | .sl b o n m,c',hc=>by simp only[renC]at hc |-;exact xh (fun x hx=>h b x hx) hc
 | .slg b o n,c',hc=>by simp only[renC]at hc |-;exact xh (fun x hx=>h b x hx) hc
 | .pr b o i n f,c',hc=>by simp only[renC]at hc |-;exact xh (fun x hx=>h b x hx) hc
 | .slw b o z n m,c',hc=>by simp only[renC]at hc |-;exact xh (fun x hx=>h b x hx) hc
 | .slr b n,c',hc=>by simp only[renC]at hc |-;exact xh (fun x hx=>h b x hx) hc
 | .slv b z o n,c',hc=>by simp only[renC]at hc |-;exact xh (fun x hx=>h b x hx) hc
 | .slx b o d a n m,c',hc=>by simp only[renC]at hc |-;exact xh (fun x hx=>h b x hx) hc
 | .fn f caps,c',hc=>by simp only[renC]at hc |-;exact xh (fun x hx=>jf h caps x hx) hc
 | .meth s c,c',hc=>by simp only[renC]at hc |-;exact xh (fun x hx=>jO h c x hx) hc
 | .ifc t c,c',hc=>by simp only[renC]at hc |-;exact xh (fun x hx=>jO h c x hx) hc
theorem jf{r r':Nat->Option Nat}(h : ∀i j,r i=some j->r' i=some j) : ∀ (l l':List C),wI r l=some l'->wI r' l=some l'
 | [],l',hl=>by simpa[wI]using hl
 | c::l,l',hl=>by
  simp only[wI]at hl |-
  split at hl
  .rename_i c' hc
   split at hl
   .rename_i l2 so
    cases hl
    rw[jO h c c' hc,jf h l l2 so]
   .cases hl
  .cases hl
end
theorem xd3{r r':Nat->Option Nat}(h : ∀i j,r i=some j->r' i=some j)(x x':V1)(hx:YV r x=some x'):YV r' x=some x':=by
 cases x with
 | c a=>simp only[YV]at hx |-;exact xh (fun y hy=>jO h a y hy) hx
 | agg l=>simp only[YV]at hx |-;exact xh (fun y hy=>jf h l y hy) hx
theorem xgn{r r':Nat->Option Nat}(h : ∀i j,r i=some j->r' i=some j)(x x':V)(hx:renV r x=some x'):renV r' x=some x':=by
 cases x with
 | c a=>simp only[renV]at hx |-;exact xh (fun y hy=>jO h a y hy) hx
 | agg l=>simp only[renV]at hx |-;exact xh (fun y hy=>jf h l y hy) hx
 | tup l=>simp only[renV]at hx |-;exact xh (fun y hy=>kN (fun a b Dh=>xd3 h a b Dh) l y hy) hx
theorem xgo{r r':Nat->Option Nat}(h : ∀i j,r i=some j->r' i=some j)(x:Option Blk)(y:Option Blk)(hx:renB r x=some y):renB r' x=some y:=by
 cases x with
 | none=>simpa[renB]using hx
 | some k=>simp only[renB]at hx |-;exact xh (fun y hy=>jf h k.cells y hy) hx
theorem Vu{Γ:xK}{A:List Nat}{f:FuncId}{args:List V}{H:Heap}{S:Sum}(h:wh Γ A f args H=some S) : ∃f2,wJ Γ f args H=some ⟨S.α,S.t,f2,S.b,S.hb⟩/\ ∀x q,S.f x=some q->f2 x=some q:=by
 unfold wh at h
 unfold wJ
 split at h
 .cases h
 .rename_i m hm
  split at h
  .cases h
  .rename_i l hl
   split at h
   .cases h
   .split at h
    .rename_i cz H0 h1 h2
     split at h
     .cases h
     .rename_i S0 hS0
      cases h
      simp only[hm,hl,h1,h2,hS0]
      refine⟨_,rfl,fun x q hq =>?_⟩
      split at hq
      .cases hq
      .rename_i r hr
       split at hq
       .rename_i v H1 hv hH1
        split at hq
        .rename_i aj
         cases hq
         have av : ∀i j,l[i]? = some j->(fun i=>some (vD l H.length i)) i=some j:=by
          intro i j gz
          have hi:=(List.getElem?_eq_some_iff.1 gz).1
          simp only[vD,dB hi,List.getD_eq_getElem?_getD,gz,Option.getD_some]
         rw[xgn av _ _ hv,kN (fun a b Dh=>xgo av a b Dh) _ _ hH1]
         simp only[aj,dJ,if_true]
         rw[<- aj,List.drop_length,List.append_nil]
        .cases hq
       .cases hq
    .cases h
end Lx
namespace Lx
open Go
structure Rel(pv:Pv)(e:Env)(st:St)(a:Act)(w:World):Prop where
 emb:Emb pv e st.heap w
 len:st.tmps.n<=a.tmps.size
 tmps : ∀ (t:Nat) v,getT st.tmps t=some v ->∃rv,a.tmps[t]? = some rv/\denV pv e v=some rv
 defers:a.defers = []
structure Cfg{P:Program}{σ:Type}(I:PortR P σ)(S0:Bool->Nat->Prop)(w0:World)(e0 e:Env)(st:St)(s:σ)(F:Nat->Prop)(a:Act)(w:World):Prop where
 rel:Rel I.pv e st a w
 rep:I.Rep s F w
 disj : ∀b,Own false e st.heap b ->¬F b
 keeps:Keeps (S0 true) w0 w
 mine : ∀q b,Own q e st.heap b\/F b->S0 q b\/w0.heap.size<=b
 ext:Ext e0 e
section
variable{P:Program}{σ:Type}{I:PortR P σ}{Γ:xK}{S0:Bool->Nat->Prop}{w0:World}{e0:Env}{e:Env}{st:St}{s:σ}{F:Nat->Prop}{a:Act}{w:World}
theorem Rel.says{pv:Pv}(R:Rel pv e st a w):Says pv e (xW st.tmps) a.eval:=by
 intro x v h
 cases x with
 | tmp t=>
  obtain⟨rv,h1,h2⟩:=R.tmps t v h
  simp only[Act.eval]
  rw[h2,Array.getD_eq_getD_getElem?,h1]
  rfl
 | const c=>exact Vf h
 | global g=>
  simp only[xW,oI]at h
  subst h
  rfl
 | func f=>
  simp only[xW,oI]at h
  subst h
  simp[denV,den,denL,Act.eval]
theorem Zy{l:Tm}{d:Nat}{v:V}(h:getT l d=some v):setT l d v=l:=by
 obtain⟨h1,h2⟩:=vR h
 unfold setT
 rw[blt_eq]
 simp only[h1,decide_true,cond_true,Yp 9 l.s d v h2]
theorem Wd(l:Tm)(dst:Option Tmp)(v:V):(putT l dst v).n=l.n:=by
 cases dst<;>simp[putT,xdL]
theorem put_size(a:Act)(dst:Option Tmp)(v:Value):(a.put dst v).tmps.size=a.tmps.size:=by
 cases dst<;>simp[Act.put]
theorem Rel.put{pv:Pv}{e':Env}{H':Heap}{w':World}{v:V}{rv:Value}(R:Rel pv e st a w)(hx:Ext e e')(E:Emb pv e' H' w')(hv:denV pv e' v=some rv)(dst:Option Tmp):Rel pv e' ⟨putT st.tmps dst v,H'⟩ (a.put dst rv) w':=by
 refine⟨E,by rw[Wd,put_size];exact R.len,fun t u h =>?_,by cases dst<;>exact R.defers⟩
 cases dst with
 | none=>
  obtain⟨r,h1,h2⟩:=R.tmps t u h
  exact⟨r,h1,XD hx _ _ h2⟩
 | some d=>
  simp only[putT]at h
  simp only[Act.put]
  by_cases Bl:d=t
  .subst Bl
   obtain⟨hd,rfl⟩:=kM h
   refine⟨rv,?_,hv⟩
   have:=R.len
   rw[Array.getElem?_setIfInBounds_self_of_lt (by omega)]
  .rw[yN _ _ (fun hh=>Bl hh.symm)]at h
   obtain⟨r,h1,h2⟩:=R.tmps t u h
   refine⟨r,?_,XD hx _ _ h2⟩
   rw[Array.getElem?_setIfInBounds_ne Bl]
   exact h1
theorem Cfg.did{e':Env}{H':Heap}{w':World}{v:V}{rv:Value}(C:Cfg I S0 w0 e0 e st s F a w)(hx:Ext e e')(hv:denV I.pv e' v=some rv)(E:Emb I.pv e' H' w')(hK:Keeps (Own true e st.heap) w w')(hn : ∀q b,Own q e' H' b->Own q e st.heap b\/w.heap.size<=b)(dst:Option Tmp) :
  Cfg I S0 w0 e0 e' ⟨putT st.tmps dst v,H'⟩ s F (a.put dst rv) w':=by
 refine⟨C.rel.put hx E hv dst,I.stable C.rep fun b hb=>hK.block b (I.lt C.rep b hb) fun h=>C.disj b h.weak hb,fun b hb hf =>?_,C.keeps.trans hK fun b hb=>C.mine _ b (.inl hb),fun q b hb =>?_,C.ext.trans hx⟩
 .rcases hn _ b hb with h|h
  .exact C.disj b h hf
  .have:=I.lt C.rep b hf;omega
 .rcases hb with hb|hb
  .rcases hn _ b hb with h|h
   .exact C.mine _ b (.inl h)
   .right
    have:=C.keeps.size
    omega
  .exact C.mine _ b (.inr hb)
theorem Cfg.called{e':Env}{H':Heap}{w':World}{F':Nat->Prop}{s':σ}{v:V}{rv:Value}(C:Cfg I S0 w0 e0 e st s F a w)(hx:Ext e e')(hv:denV I.pv e' v=some rv)(E:Emb I.pv e' H' w')(hR:I.Rep s' F' w')(hd : ∀b,Own false e' H' b ->¬F' b)
  (hK:Keeps (fun b=>Own true e st.heap b\/F b) w w') (hn : ∀q b,Own q e' H' b\/F' b->Own q e st.heap b\/F b\/w.heap.size<=b) (dst:Option Tmp):Cfg I S0 w0 e0 e' ⟨putT st.tmps dst v,H'⟩ s' F' (a.put dst rv) w':=by
 refine⟨C.rel.put hx E hv dst,hR,hd,C.keeps.trans hK fun b hb=>C.mine _ b hb,fun q b hb =>?_,C.ext.trans hx⟩
 rcases hn _ b hb with h|h|h
 .exact C.mine _ b (.inl h)
 .exact C.mine _ b (.inr h)
 .right
  have:=C.keeps.size
  omega
theorem qW{α β:Type}{f:α->Option β} : ∀ {l l':List α} {r r':List β},allSome f l=some r->allSome f l'=some r'->allSome f (l++l')=some (r++r')
 | [],l',r,r',h,h'=>by simp only[allSome,oI]at h;subst h;exact h'
 | x::l,l',r,r',h,h'=>by
  simp only[allSome]at h
  split at h
  .rename_i y hy
   split at h
   .rename_i ys fz
    cases h
    simp only[List.cons_append,allSome,hy,qW fz h']
   .cases h
  .cases h
theorem xag{pv:Value}{e:Env} : ∀ {cs:List C} {rs:List Value},denL pv e cs=some rs->allSome (denV pv e) (cs.map .c)=some rs
 | [],rs,h=>by simp only[denL,oI]at h;subst h;rfl
 | c::cs,rs,h=>by
  simp only[denL]at h
  split at h
  .rename_i v hv
   split at h
   .rename_i us hu
    cases h
    simp only[List.map_cons,allSome,denV,hv,xag hu]
   .cases h
  .cases h
theorem meth_eq{P:Program}{t:TypeId}{name:String}{f:FuncId}(h:ZP P t name=some f)(v:Value)(w:World):(method (P.types.size+Made.depth) t v name).run P w = .ok (f,v) w:=by
 unfold ZP at h
 split at h
 .rename_i i hi
  split at h
  .rename_i m hm
   split at h
   .rename_i f' el hp hf hu
    cases h
    change (method ((P.types.size+(Made.depth-1))+1) t v name).run P w=_
    simp[method,typeInfo,program,Sem.run,bind,Sem.bind,pure,hi,hm,hp,hf,follow,receiverAt,Place.get,underlying,hu]
   .cases h
  .cases h
 .cases h
theorem xhL{P:Program}{t:TypeId}{name:String}{f:FuncId}(h:ZP P t name=some f)(v:Value)(args:Array Value)(w:World):(callMethod (.iface t v) name args).run P w=(callFunc f (#[v]++args)).run P w:=by
 show((do let p <- program;let q <- method (p.types.size+Made.depth) t v name;callFunc q.1 (#[q.2]++args):Sem Next)).run P w=_
 rw[Sem.run_bind]
 show(Result.andThen (.ok P w) fun p w=>((do let q <- method (p.types.size+Made.depth) t v name;callFunc q.1 (#[q.2]++args):Sem Next)).run P w)=_
 simp only[Result.andThen_ok]
 rw[Sem.run_bind,meth_eq h]
 rfl
theorem Zz{pv:Value}{ρ:Operand->Option V}{ra:Operand->Value}{o:Oper}{H:Heap}{f:FuncId}{args:List V}(hρ:Says pv e ρ ra)(h:evStep P o.op ρ H=some (.call f args))
  (hb : ∃fn c,P.funcs[f]? = some fn/\(fn.name == "runtime.NumGoroutine")=false/\fn.body=some c) :
  ∃vs,allSome (denV pv e) args=some vs/\(execOp ra o).run P w = .ok (.enter f vs.toArray) w:=by
 generalize ho:o.op=op at h
 obtain⟨fn,c,Bh,Bg,Bf⟩:=hb
 unfold evStep at h
 split at h
 case h_22 c=>
  split at h
  .rename_i vs ee
   split at h
   .rename_i b hb
    exfalso
    split at h
    .obtain⟨_,_,_,h2⟩:=kO h;cases h2
    .unfold jc at h;(repeat' (split at h))<;>cases h
    .unfold yv at h
     split at h
     .split at h<;>cases h
     .cases h
     .cases h
     .cases h
   .rename_i r name hg
    split at h
    .rw[oM]at h;obtain⟨_,_,h2⟩:=h;cases h2
    .rename_i t x hr
     rw[oM]at h;obtain⟨q,h2,h3⟩:=h;cases h3
     have h1:=vZ hρ _ _ ee
     have h4:=hρ r _ hr
     simp only[denV,den,oM]at h4
     obtain⟨rx,h5,h6⟩:=h4
     have h0:(c.args.map ra)=(c.args.toList.map ra).toArray:=by rw[<- Array.toList_map]
     refine⟨rx::c.args.toList.map ra,by simp only[allSome,denV,h5,h1],?_⟩
     simp only[execOp,ho,resolve,hg,<- h6,Sem.run_bind,Sem.run_pure,Result.andThen_ok,invoke]
     simp only[h0,List.append_toArray,List.singleton_append,List.getElem?_toArray,List.getElem?_cons_zero,List.extract_toArray,List.size_toArray,List.length_cons,List.extract_eq_take_drop,List.drop_succ_cons,List.drop_zero]
     rw[List.take_of_length_le (by simp),xhL h2]
     simp only[callFunc,Sem.run_bind,program,Sem.run,Result.andThen_ok,Bh,Bg,Bf]
     simp
    .cases h
   .rename_i g hg
    split at h
    .rename_i f' caps cb
     cases h
     have h1:=vZ hρ _ _ ee
     have h2:=hρ g _ cb
     simp only[denV,den,oM]at h2
     obtain⟨rs,h3,h4⟩:=h2
     refine⟨_,qW h1 (xag h3),?_⟩
     simp only[execOp,ho,resolve,hg,<- h4,Deferred.ofValue,Sem.run_bind,Sem.run_pure,Result.andThen_ok,invoke,callFunc,program,Sem.run,Bh,Bg,Bf]
     simp
    .rw[oM]at h;obtain⟨_,_,h2⟩:=h;cases h2
    .cases h
  .cases h
 all_goals
  exfalso
  (try unfold ja at h);(try unfold jb at h);(repeat' (split at h))<;>first
   | cases h
   | (rw[oM]at h;obtain⟨_,_,h2⟩:=h;cases h2)
theorem xgp{pv:Value}{e:Env}{c:C}(h:wU c=true):den pv e c=den pv [] c:=by
 cases c<;>first|rfl|cases h
theorem xcu{pv:Value}{e:Env} : ∀ {l:List C} {vs:List Value},l.all wU=true->denL pv e l=some vs->denL pv [] l=some vs
 | [],vs,h,hv=>hv
 | c::l,vs,h,hv=>by
  simp only[List.all_cons,dM]at h
  simp only[denL]at hv |-
  split at hv
  .rename_i v hc
   split at hv
   .rename_i us hu
    cases hv
    rw[xcu h.2 hu,<- xgp (e:=e) h.1,hc]
   .cases hv
  .cases hv
theorem XL{pv:Value}{e:Env}{name:String}{args:List V}{p:POp}{vs:List Value}(h:popOf name args=some p)(hv:allSome (denV pv e) args=some vs):allSome (denV pv []) args=some vs:=by
 unfold popOf at h
 split at h
 .exact hv
 .exact hv
 .exact hv
 .exact hv
 .exact hv
 .split at h
  .split at h
   .rename_i l _ hl
    simp only[allSome,denV]at hv |-
    cases hd:denL pv e l with
    | none=>rw[hd]at hv;simp at hv
    | some us=>rw[xcu hl hd];rw[hd]at hv;exact hv
   .cases h
  .cases h
 .cases h
theorem xgq{ρ:Operand->Option V}{ra:Operand->Value}{o:Oper}{H:Heap}{p:POp}(hρ:Says I.pv e ρ ra)(h:evStep P o.op ρ H=some (.port p)) :
  ∃name args vs,popOf name args=some p/\allSome (denV I.pv []) args=some vs/\(execOp ra o).run P w=(callMethod I.pv name vs.toArray).run P w:=by
 generalize ho:o.op=op at h
 unfold evStep at h
 split at h
 case h_22 c=>
  split at h
  .rename_i vs ee
   have h1:=vZ hρ _ _ ee
   have h0:(c.args.map ra)=(c.args.toList.map ra).toArray:=by rw[<- Array.toList_map]
   split at h
   .rename_i b hb
    exfalso
    split at h
    .obtain⟨_,_,_,h2⟩:=kO h;cases h2
    .unfold jc at h;(repeat' (split at h))<;>cases h
    .unfold yv at h
     split at h
     .split at h<;>cases h
     .cases h
     .cases h
     .cases h
   .rename_i r name hg
    split at h
    .rename_i hr
     rw[oM]at h;obtain⟨q,h2,h3⟩:=h;cases h3
     have h4:=hρ r _ hr
     simp only[denV,den,oI]at h4
     refine⟨name,vs,_,h2,XL h2 h1,?_⟩
     simp only[execOp,ho,resolve,hg,<- h4,Sem.run_bind,Sem.run_pure,Result.andThen_ok,invoke]
     simp only[h0,List.append_toArray,List.singleton_append,List.getElem?_toArray,List.getElem?_cons_zero,List.extract_toArray,List.size_toArray,List.length_cons,List.extract_eq_take_drop,List.drop_succ_cons,List.drop_zero]
     rw[List.take_of_length_le (by simp)]
    .rw[oM]at h;obtain⟨_,_,h2⟩:=h;cases h2
    .cases h
   .rename_i g hg
    split at h
    .cases h
    .rename_i name hr
     rw[oM]at h;obtain⟨q,h2,h3⟩:=h;cases h3
     have h4:=hρ g _ hr
     simp only[denV,den,dN,oI]at h4
     refine⟨name,vs,_,h2,XL h2 h1,?_⟩
     simp only[execOp,ho,resolve,hg,<- h4,Deferred.ofValue,Sem.run_bind,Sem.run_pure,Result.andThen_ok,invoke]
     simp only[h0,List.append_toArray,List.singleton_append,List.getElem?_toArray,List.getElem?_cons_zero,List.extract_toArray,List.size_toArray,List.length_cons,List.extract_eq_take_drop,List.drop_succ_cons,List.drop_zero]
     rw[List.take_of_length_le (by simp)]
    .cases h
  .cases h
 all_goals
  exfalso
  (try unfold ja at h);(try unfold jb at h);(repeat' (split at h))<;>first
   | cases h
   | (rw[oM]at h;obtain⟨_,_,h2⟩:=h;cases h2)
/-! ### one operation -/
theorem Flat.ext{pv:Value}{v:V}{rv:Value}(h:Flat pv v rv)(e:Env):denV pv e v=some rv:=h e
mutual
theorem jg{pv:Value}{e:Env} : ∀ (c:C),idsC c = []->den pv e c=den pv [] c
 | .bool b,h=>rfl
 | .int k n,h=>rfl
 | .nilp,h=>rfl
 | .ptr b o,h=>by simp[idsC]at h
 | .nils,h=>rfl
 | .sl b o n c,h=>by simp[idsC]at h
 | .slg b o n,h=>by simp[idsC]at h
 | .pr b o i n f,h=>by simp[idsC]at h
 | .slw b o z n c,h=>by simp[idsC]at h
 | .slr b n,h=>by simp[idsC]at h
 | .slv b z o n,h=>by simp[idsC]at h
 | .slx b o d a n c,h=>by simp[idsC]at h
 | .fn f caps,h=>by simp only[idsC]at h;simp only[den,js caps h]
 | .meth s c,h=>by simp only[idsC]at h;simp only[den,jg c h]
 | .nilf,h=>rfl
 | .nili,h=>rfl
 | .nilm,h=>rfl
 | .port,h=>rfl
 | .str z,h=>rfl
 | .gp g o,h=>rfl
 | .mp b,h=>by simp[idsC]at h
 | .ifc t c,h=>by simp only[idsC]at h;simp only[den,jg c h]
theorem js{pv:Value}{e:Env} : ∀ (l:List C),vf l = []->denL pv e l=denL pv [] l
 | [],h=>rfl
 | c::l,h=>by
  simp only[vf,List.append_eq_nil_iff]at h
  simp only[denL,jg c h.1,js l h.2]
end
theorem xa9{pv:Value}{e:Env}(x:V1)(h:xe9 x = []):vX pv e x=vX pv [] x:=by
 cases x with
 | c a=>exact jg a h
 | agg l=>simp only[vX,js l h]
theorem yR{α β:Type}{f g:α->Option β} : ∀ {l:List α},(∀x∈l,f x=g x)->allSome f l=allSome g l
 | [],h=>rfl
 | x::l,h=>by simp only[allSome,h x (by simp),yR (l:=l) fun y hy=>h y (by simp[hy])]
theorem wA{pv:Value}{e:Env}(x:V)(h:idsV x = []):denV pv e x=denV pv [] x:=by
 cases x with
 | c a=>exact jg a h
 | agg l=>simp only[denV,js l h]
 | tup l=>
  simp only[idsV,List.flatMap_eq_nil_iff]at h
  simp only[denV,yR fun y hy=>xa9 y (h y hy)]
theorem xba(pv:Pv)(w:World):Emb pv [] [] w:=⟨rfl,fun i k h=>by simp[blkAt]at h,fun i j k k' r r' h=>by simp[blkAt]at h,fun i k h=>by simp[blkAt]at h⟩
theorem jt{q:Bool}(b:Nat) : ¬Own q [] [] b:=by rintro ⟨i,k,r,h,_⟩;simp[blkAt]at h
theorem xd4{I:Port P σ}(hΓ : ∀f m,Γ f=some m->Xj I f m){f:FuncId}{args:List V}{S:Sum}(h:jF Γ f args=some S){vs:List Value}{s':σ}(hv:allSome (denV I.pv e) args=some vs)(hR:I.Rep s F w){v:V}{H':Heap}{x:S.α}(aa:S.t.run I.step s=some (x,s'))(aw:S.f x=some (v,H')) :
  (∃fn c,P.funcs[f]? = some fn/\(fn.name == "runtime.NumGoroutine")=false/\fn.body=some c)/\H' = []/\idsV v = []/\
  Calls P f vs.toArray w fun en w' =>∃F' rv,en = .returned rv/\Flat I.pv v rv/\I.Rep s' F' w'/\Keeps F w w'/\ ∀b,F' b->F b\/w.heap.size<=b:=by
 unfold jF at h
 split at h
 .cases h
 .rename_i tw
  split at h
  .cases h
  .rename_i m hm
   obtain⟨an,ef⟩:=hΓ f m hm
   split at h
   .cases h
   .rename_i t0 Ap
    cases h
    have ea:=aa
    have cj:=aw
    simp only at cj
    split at cj
    .cases cj
    rename_i r0 my
    obtain⟨v0,H1⟩:=r0
    simp only at cj
    split at cj
    .rename_i oo
     simp only[oI,dI]at cj
     obtain⟨rfl,rfl⟩:=cj
     refine⟨an,rfl,oo,?_⟩
     have dt:allSome (denV I.pv []) args=some vs:=by
      rw[<- hv]
      rw[List.flatMap_eq_nil_iff]at tw
      exact(yR fun x hx=>wA x (tw x hx)).symm
     refine(ef args [] t0 Ap [] w s F vs (xba _ _) dt hR (fun b hb=>(jt b hb).elim) x v0 [] _ ea my).mono ?_
     rintro en w' ⟨e',F',rv,h1,h2,h3,h4,h5,h6,h7,h8⟩
     refine⟨F',rv,h1,fun e =>?_,h5,h7.mono fun b hb=>hb.resolve_left (jt b),fun b hb =>?_⟩
     .rw[wA v0 oo,<- wA (e:=e') v0 oo]
      exact h3
     .rcases h8 true b (.inr hb)with h|h
      .exact(jt b h).elim
      .exact h
    .cases cj
theorem Yx{σ β:Type}{step:PStep σ}(f:FuncId)(args:List V)(o:Oper)(st:St)(k:St->T β)(s:σ) :
  (vz Γ f args o st k).run step s=match(vz Γ f args o st T.ret).run step s with
   | some (ac,s')=>(k ac).run step s'
   | none=>none:=by
 unfold vz
 split
 .rename_i S _
  simp only[S.hb,T.run_bind]
  cases S.t.run step s with
  | none=>rfl
  | some xs=>
   simp only
   cases S.f xs.1<;>rfl
 .rfl
theorem We{I:Port P σ}(hΓ : ∀f m,Γ f=some m->Xj I f m){β:Type}{pu:PM}{o:Oper}{k:St->T β}{r:β×σ}(C:Cfg I.toPortR S0 w0 e0 e st s F a w)(h:(yQ P Γ pu o st k).run I.step s=some r) :
  ∃ac s',(k ac).run I.step s'=some r/\(yQ P Γ pu o st T.ret).run I.step s=some (ac,s')/\
   ∀K Q,(∀e' F' a' w',(∃rv,a'=a.put o.dst rv)->Cfg I.toPortR S0 w0 e0 e' ac s' F' a' w'->K a' w')->o.wp P a w K Q:=by
 have hρ:=C.rel.says
 have E:=C.rel.emb
 unfold yQ at h
 split at h
 .rename_i g v H' bt
  cases hg:okV pu st.heap H'
  .rw[hg]at h;simp[T.run]at h
  cases g
  .rw[hg]at h;simp[T.run]at h
  .rw[hg]at h
   refine⟨⟨putT st.tmps o.dst v,H'⟩,s,h,by simp only[yQ,bt,hg,cond_true,T.run],fun K Q hK =>?_⟩
   obtain⟨nx,w',e',rv,h1,h2,h3,h4,h5,h6,h7⟩:=Vs I.toPortB hρ E bt
   have C':=C.did h3 h4 h5 h6 h7 o.dst
   unfold Oper.wp
   rw[h1]
   rcases h2 with rfl|⟨rfl,rfl⟩
   .exact hK _ _ _ _ ⟨_,rfl⟩ C'
   .exact hK _ _ _ _ ⟨_,rfl⟩ C'
 .rename_i p bt
  simp only[T.run]at h
  split at h
  .rename_i x s1 bo
   refine⟨⟨putT st.tmps o.dst (ansV p x),st.heap⟩,s1,h,by simp only[yQ,bt,T.run,bo],fun K Q hK =>?_⟩
   obtain⟨name,args,vs,h1,h2,h3⟩:=xgq (w:=w) hρ bt
   obtain⟨f,recv,rv,h4,h5,h6⟩:=I.does h1 bo h2 C.rep
   unfold Oper.wp
   rw[h3,h4]
   rw[Oper.upon_enter]
   refine h6.mono ?_
   rintro en w' ⟨rfl,F',h7,h8,h9⟩
   refine hK e F' _ _ ⟨_,rfl⟩ (C.called (Ext.refl e) (h5 e) (E.ofSame fun b hb=>h8.block b (E.own_lt hb) fun hf=>C.disj b hb hf) h7 (fun b hb hf =>?_) (h8.mono fun b hb =>.inr hb) (fun q b hb =>?_) o.dst)
   .rcases h9 b hf with h|h
    .exact C.disj b hb h
    .have:=E.own_lt hb;omega
   .rcases hb with hb|hb
    .exact .inl hb
    .exact .inr (h9 b hb)
  .cases h
 .rename_i f args bt
  have main : ∀ (st1:T β) (k:St->T β),st1=vz Γ f args o st k->st1.run I.step s=some r->
    (∃ac s',(k ac).run I.step s'=some r/\(vz Γ f args o st T.ret).run I.step s=some (ac,s')/\
     ∀K Q,(∀e' F' a' w',(∃rv,a'=a.put o.dst rv)->Cfg I.toPortR S0 w0 e0 e' ac s' F' a' w'->K a' w')->o.wp P a w K Q):=by
   intro st1 k az h
   subst az
   unfold vz at h
   split at h
   .rename_i t ht
    rw[t.hb]at h
    obtain⟨x,s1,h1,h2⟩:=T.run_bind_some h
    split at h2
    rotate_left
    .cases h2
    rename_i r0 aw
    obtain⟨v,H'⟩:=r0
    simp only at h2
    refine⟨⟨putT st.tmps o.dst v,H'⟩,s1,h2,by simp only[vz,ht,t.hb,T.run_bind,h1,aw,T.run],fun K Q hK =>?_⟩
    have an : ∃fn c,P.funcs[f]? = some fn/\(fn.name == "runtime.NumGoroutine")=false/\fn.body=some c:=by
     unfold wJ at ht
     split at ht
     .cases ht
     .exact(hΓ f _ ‹_›).1
    obtain⟨vs,g1,g2⟩:=Zz (w:=w) hρ bt an
    obtain⟨_,ew⟩:=xd2 I hΓ ht E g1 C.rep C.disj h1 aw
    unfold Oper.wp
    rw[g2,Oper.upon_enter]
    refine ew.mono ?_
    rintro en w' ⟨e',F',rv,rfl,h3,h4,h5,h6,h7,h8,h9⟩
    exact hK _ _ _ _ ⟨_,rfl⟩ (C.called h3 h4 h5 h6 h7 h8 h9 o.dst)
   .cases h
  cases pu
  .simp only at h
   obtain⟨ac,s',g1,g2,g3⟩:=main _ _ rfl h
   exact⟨ac,s',g1,by simp only[yQ,bt];exact g2,g3⟩
  .simp only at h
   split at h
   .rename_i t ht
    rw[t.hb]at h
    obtain⟨x,s1,h1,h2⟩:=T.run_bind_some h
    split at h2
    rotate_left
    .cases h2
    rename_i r0 aw
    obtain⟨v,H'⟩:=r0
    simp only at h2
    refine⟨⟨putT st.tmps o.dst v,st.heap⟩,s1,h2,by simp only[yQ,bt,ht,t.hb,T.run_bind,h1,aw,T.run],fun K Q hK =>?_⟩
    have an : ∃fn c,P.funcs[f]? = some fn/\(fn.name == "runtime.NumGoroutine")=false/\fn.body=some c:=by
     unfold jF at ht
     split at ht
     .cases ht
     .split at ht
      .cases ht
      .exact(hΓ f _ ‹_›).1
    obtain⟨vs,g1,g2⟩:=Zz (w:=w) hρ bt an
    obtain⟨_,_,_,ew⟩:=xd4 hΓ ht g1 C.rep h1 aw
    unfold Oper.wp
    rw[g2,Oper.upon_enter]
    refine ew.mono ?_
    rintro en w' ⟨F',rv,rfl,h5,h7,h8,h9⟩
    refine hK e F' _ _ ⟨_,rfl⟩ (C.called (Ext.refl e) (h5 e) (E.ofSame fun b hb=>h8.block b (E.own_lt hb) fun hf=>C.disj b hb hf) h7 (fun b hb hf =>?_) (h8.mono fun b hb =>.inr hb) (fun q b hb =>?_) o.dst)
    .rcases h9 b hf with h|h
     .exact C.disj b hb h
     .have:=E.own_lt hb;omega
    .rcases hb with hb|hb
     .exact .inl hb
     .exact .inr (h9 b hb)
   .cases h
  .rename_i A
   simp only at h
   split at h
   .rename_i sj
    obtain⟨ac,s',g1,g2,g3⟩:=main _ _ rfl h
    exact⟨ac,s',g1,by simp only[yQ,bt,sj];exact g2,g3⟩
   .rename_i sj
    obtain⟨ac,s',g1,g2,g3⟩:=main _ _ rfl h
    cases za:kA A st.heap ac.heap
    .rw[za]at g1;simp[T.run]at g1
    .rw[za]at g1
     exact⟨ac,s',g1,by simp only[yQ,bt,sj];rw[Yx,g2];simp only[za,cond_true,T.run],g3⟩
  .rename_i A
   simp only at h
   split at h
   .rename_i t ht
    rw[t.hb]at h
    obtain⟨x,s1,h1,h2⟩:=T.run_bind_some h
    split at h2
    rotate_left
    .cases h2
    rename_i r0 aw
    obtain⟨f2,hc,hf⟩:=Vu ht
    have t8:=hf x r0 aw
    obtain⟨ac,s',g1,g2,g3⟩:=main (vz Γ f args o st k) k rfl (by simp only[vz,hc,t.hb,T.run_bind,h1,t8];exact h2)
    simp only[vz,hc,t.hb,T.run_bind,h1,t8,T.run,oI,dI]at g2
    obtain⟨rfl,rfl⟩:=g2
    exact⟨_,_,g1,by simp only[yQ,bt,ht,t.hb,T.run_bind,h1,aw,T.run],g3⟩
   .cases h
  .cases h
  .cases h
 .cases h
end
end Lx
namespace Lx
open Go
section
variable{P:Program}{σ:Type}{I:PortR P σ}{Γ:xK}{S0:Bool->Nat->Prop}{w0:World}{e0:Env}{e:Env}{st:St}{s:σ}{F:Nat->Prop}{a:Act}{w:World}{ops:Array Oper}
def qX(P:Program)(ops:Array Oper)(Q:Exit->Act->World->Prop)(o:Oper)(K:Act->World->Prop)(a:Act)(w:World):Prop:=
 if Region.wanted o (yielded ops a.tmps)then o.wp P a w K Q else K (a.put o.dst undef) w
theorem Cfg.skip(C:Cfg I S0 w0 e0 e st s F a w)(dst:Option Tmp):Cfg I S0 w0 e0 e ⟨putT st.tmps dst .undef,st.heap⟩ s F (a.put dst undef) w:=
 C.did (Ext.refl e) rfl C.rel.emb (Keeps.refl _ w) (fun _ _ h =>.inl h) dst
theorem KE{I:Port P σ}(hΓ : ∀f m,Γ f=some m->Xj I f m){β:Type}{pu:PM}{o:Oper}{k:St->T β}{r:β×σ}(C:Cfg I.toPortR S0 w0 e0 e st s F a w)(h:(yl P Γ ops pu o st k).run I.step s=some r) :
  ∃ac s',(k ac).run I.step s'=some r/\(yl P Γ ops pu o st T.ret).run I.step s=some (ac,s')/\
   ∀K Q,(∀e' F' a' w',(∃rv,a'=a.put o.dst rv)->Cfg I.toPortR S0 w0 e0 e' ac s' F' a' w'->K a' w')->qX P ops Q o K a w:=by
 unfold yl at h
 split at h
 .rename_i hg
  obtain⟨ac,s',h1,h2,h3⟩:=We hΓ C h
  refine⟨ac,s',h1,by simp only[yl,hg];exact h2,fun K Q hK =>?_⟩
  unfold qX
  rw[dB (by simp[Region.wanted,hg])]
  exact h3 K Q hK
 .rename_i j want hg
  split at h
  .cases h
  .rename_i sl ri
   have hy : ∀rv,a.tmps[sl]? = some rv->yielded ops a.tmps j=match rv with | .bool b=>some b|_=>none:=by
    intro rv cf
    unfold yielded
    rw[ri]
    simp only[Option.bind_some,cf]
    cases rv<;>rfl
   have skipped : ∀ (b:Option Bool),yielded ops a.tmps j=b->b≠some want ->∀K Q,(∀e' F' a' w',(∃rv,a'=a.put o.dst rv)->Cfg I.toPortR S0 w0 e0 e' ⟨putT st.tmps o.dst .undef,st.heap⟩ s F' a' w'->K a' w')->qX P ops Q o K a w:=by
    intro b hb ae K Q hK
    unfold qX
    rw[dA (by simp only[Region.wanted,hg,hb];simpa using ae)]
    exact hK _ _ _ _ ⟨_,rfl⟩ (C.skip o.dst)
   split at h
   .rename_i b hb
    obtain⟨rv,h1,h2⟩:=C.rel.tmps sl _ hb
    simp only[denV,den,oI]at h2
    subst h2
    have po:=hy _ h1
    simp only at po
    have e1 : ∀b',b'=b->(⟨setT st.tmps sl (.c (.bool b')),st.heap⟩:St)=st:=by
     rintro b' rfl
     rw[Zy hb]
    have he:(yl P Γ ops pu o st (T.ret:St->T St))=if b=want then yQ P Γ pu o st T.ret else WZ o st T.ret:=by
     simp only[yl,hg,ri,hb]
     cases b<;>cases want<;>simp only[cond_true,cond_false,e1 _ rfl]<;>rfl
    have hk:(if b=want then yQ P Γ pu o st k else WZ o st k).run I.step s=some r:=by
     rw[<- h]
     cases b<;>cases want<;>simp only[cond_true,cond_false,e1 _ rfl]<;>rfl
    by_cases zm:b=want
    .rw[dB zm]at hk he
     obtain⟨ac,s',g1,g2,g3⟩:=We hΓ C hk
     refine⟨ac,s',g1,by rw[he];exact g2,fun K Q hK =>?_⟩
     unfold qX
     rw[dB (by simp[Region.wanted,hg,po,zm])]
     exact g3 K Q hK
    .rw[dA zm]at hk he
     exact⟨_,s,hk,by rw[he];rfl,skipped _ po (by simpa using zm)⟩
   .rename_i hb
    obtain⟨rv,h1,h2⟩:=C.rel.tmps sl _ hb
    simp only[denV,allSome,dN,oI]at h2
    subst h2
    have po:=hy _ h1
    simp only at po
    exact⟨_,s,h,by simp only[yl,hg,ri,hb];rfl,skipped _ po (by simp)⟩
   .cases h
theorem xbb{I:Port P σ}(hΓ : ∀f m,Γ f=some m->Xj I f m){β:Type}{pu:PM}{o:Oper}{k:St->T β}{r:β×σ}(C:Cfg I.toPortR S0 w0 e0 e st s F a w)(h:(yl P Γ ops pu o st k).run I.step s=some r) :
  ∃ac s',(k ac).run I.step s'=some r/\(yl P Γ ops pu o st T.ret).run I.step s=some (ac,s')/\
   ∀K Q,(∀e' F' a' w',Cfg I.toPortR S0 w0 e0 e' ac s' F' a' w'->K a' w')->qX P ops Q o K a w:=by
 obtain⟨ac,s',h1,h2,h3⟩:=KE hΓ C h
 exact⟨ac,s',h1,h2,fun K Q hK=>h3 K Q fun e' F' a' w' _ C'=>hK e' F' a' w' C'⟩
/-! ### one operation as a step of what it does to slots, blocks and the port -/
theorem T.bind_ret{α:Type}(t:T α):t.bind T.ret=t:=by
 induction t with
 | ret a=>rfl
 | fail=>rfl
 | op o k ih=>simp only[T.bind];congr 1;funext c;exact ih c
theorem T.bind_assoc{α β γ:Type}(t:T α)(f:α->T β)(g:β->T γ):(t.bind f).bind g=t.bind fun a=>(f a).bind g:=by
 induction t with
 | ret a=>rfl
 | fail=>rfl
 | op o k ih=>simp only[T.bind];congr 1;funext c;exact ih c
theorem Vv{β:Type}(pu:PM)(o:Oper)(st:St)(k:St->T β):yQ P Γ pu o st k=(yQ P Γ pu o st T.ret).bind k:=by
 unfold yQ
 split
 .rename_i g v H _
  cases okV pu st.heap H<;>cases g<;>rfl
 .rfl
 .have hc : ∀ {β:Type} (k:St->T β) f args,vz Γ f args o st k=(vz Γ f args o st T.ret).bind k:=by
   intro β k f args
   unfold vz
   split
   .rename_i S _
    rw[S.hb,S.hb,T.bind_assoc]
    congr 1
    funext x
    cases S.f x<;>rfl
   .rfl
  cases pu
  .exact hc _ _ _
  .simp only
   split
   .rename_i S _
    rw[S.hb,S.hb,T.bind_assoc]
    congr 1
    funext x
    cases S.f x<;>rfl
   .rfl
  .simp only
   split
   .exact hc _ _ _
   .rw[hc (fun ac=>cond _ (k ac) .fail),hc (fun ac=>cond _ (T.ret ac) .fail),T.bind_assoc]
    congr 1
    funext x
    cases kA _ st.heap x.heap<;>rfl
  .simp only
   split
   .rename_i S _
    rw[S.hb,S.hb,T.bind_assoc]
    congr 1
    funext x
    cases S.f x<;>rfl
   .rfl
  .rfl
  .rfl
 .rfl
theorem qY{β:Type}(pu:PM)(o:Oper)(st:St)(k:St->T β):yl P Γ ops pu o st k=(yl P Γ ops pu o st T.ret).bind k:=by
 unfold yl
 split
 .exact Vv ..
 .rename_i j want _
  split
  .rfl
  .split
   .rename_i b _
    cases b<;>cases want<;>first|exact Vv .. | rfl
   .rfl
   .rfl
def Vw(Γ:xK)(I:PortR P σ)(f:FuncId)(args:List V)(H:Heap)(s:σ):Option (V×Heap×σ):=match wJ Γ f args H with
 | some S=>match S.t.run I.step s with
  | some (x,s')=>match S.f x with
   | some r=>some (r.1,r.2,s')
   | none=>none
  | none=>none
 | none=>none
def vd(Γ:xK)(I:PortR P σ)(pu:PM)(H:Heap)(s:σ):Option Stp->Option (V×Heap×σ)
 | some (.val g v H')=>if(okV pu H H'&&g)=true then some (v,H',s)else none
 | some (.port p)=>match I.step p s with
  | some (x,s')=>some (ansV p x,H,s')
  | none=>none
 | some (.call f args)=>match pu with
  | .free=>Vw Γ I f args H s
  | .avoid A=>match Wz A H args with
   | true=>Vw Γ I f args H s
   | false=>match Vw Γ I f args H s with
    | some r=>match kA A H r.2.1 with
     | true=>some r
     | false=>none
    | none=>none
  | .keep A=>match wh Γ A f args H with
   | some S=>match S.t.run I.step s with
    | some (x,s')=>match S.f x with
     | some r=>some (r.1,r.2,s')
     | none=>none
    | none=>none
   | none=>none
  | .pure=>match jF Γ f args with
   | some S=>match S.t.run I.step s with
    | some (x,s')=>match S.f x with
     | some r=>some (r.1,H,s')
     | none=>none
    | none=>none
   | none=>none
  | .fresh=>none
  | .part _=>none
 | none=>none
def valO(Γ:xK)(I:PortR P σ)(ops:Array Oper)(pu:PM)(o:Oper)(tmps:Tm)(H:Heap)(s:σ):Option (V×Heap×σ):=
 match o.guard with
 | none=>vd Γ I pu H s (evStep P o.op (xW tmps) H)
 | some (j,want)=>match(ops[j]?).bind (·.dst) with
  | none=>none
  | some sl=>match getT tmps sl with
   | some (.c (.bool b))=>if b=want then vd Γ I pu H s (evStep P o.op (xW tmps) H)else some (.undef,H,s)
   | some (.tup [])=>some (.undef,H,s)
   | _=>none
theorem xah(pu:PM)(o:Oper)(tmps:Tm)(H:Heap)(s:σ):(yQ P Γ pu o ⟨tmps,H⟩ T.ret).run I.step s=(vd Γ I pu H s (evStep P o.op (xW tmps) H)).map fun r=>((⟨putT tmps o.dst r.1,r.2.1⟩:St),r.2.2):=by
 unfold yQ
 simp only
 generalize evStep P o.op (xW tmps) H=q
 cases q with
 | none=>rfl
 | some q=>
  cases q with
  | val g v H'=>
   simp only[vd]
   cases okV pu H H'<;>cases g<;>rfl
  | port p=>
   simp only[T.run,vd]
   cases I.step p s<;>rfl
  | call f args=>
   have hc:(vz Γ f args o ⟨tmps,H⟩ T.ret).run I.step s=(Vw Γ I f args H s).map fun r=>((⟨putT tmps o.dst r.1,r.2.1⟩:St),r.2.2):=by
    unfold vz Vw
    simp only
    cases wJ Γ f args H with
    | none=>rfl
    | some S=>
     simp only[S.hb,T.run_bind]
     cases S.t.run I.step s with
     | none=>rfl
     | some xs=>
      simp only
      cases S.f xs.1<;>rfl
   cases pu
   .simp only[vd]
    exact hc
   .simp only[vd]
    cases jF Γ f args with
    | none=>rfl
    | some S=>
     simp only[S.hb,T.run_bind]
     cases S.t.run I.step s with
     | none=>rfl
     | some xs=>
      simp only
      cases S.f xs.1<;>rfl
   .rename_i A
    simp only[vd]
    cases Wz A H args
    .simp only
     rw[Yx,hc]
     cases Vw Γ I f args H s with
     | none=>rfl
     | some r=>
      simp only[dN]
      cases kA A H r.2.1<;>rfl
    .exact hc
   .rename_i A
    simp only[vd]
    cases wh Γ A f args H with
    | none=>rfl
    | some S=>
     simp only[S.hb,T.run_bind]
     cases S.t.run I.step s with
     | none=>rfl
     | some xs=>
      simp only
      cases S.f xs.1<;>rfl
   .rfl
   .rfl
theorem ql(pu:PM)(o:Oper)(tmps:Tm)(H:Heap)(s:σ):(yl P Γ ops pu o ⟨tmps,H⟩ T.ret).run I.step s=(valO Γ I ops pu o tmps H s).map fun r=>((⟨putT tmps o.dst r.1,r.2.1⟩:St),r.2.2):=by
 unfold yl valO
 simp only
 cases o.guard with
 | none=>exact xah ..
 | some jw=>
  obtain⟨j,want⟩:=jw
  simp only
  cases (ops[j]?).bind (·.dst) with
  | none=>rfl
  | some sl=>
   simp only
   cases hb:getT tmps sl with
   | none=>rfl
   | some v=>
    cases v with
    | agg l=>rfl
    | tup l=>cases l<;>rfl
    | c x=>
     cases x with
     | bool b=>
      have e1 : ∀b',b'=b->setT tmps sl (.c (.bool b'))=tmps:=by
       rintro b' rfl
       exact Zy hb
      cases b<;>cases want<;>simp only[cond_true,cond_false,e1 _ rfl,if_true,Bool.false_eq_true,Bool.true_eq_false,if_false]<;>first|exact xah .. | rfl
     | _=>rfl
end
end Lx
namespace Lx
open Go
theorem ZR{ρ ρ':Operand->Option V}{l:List (Nat×Operand)}(h : ∀x∈l.map (·.2),ρ x=ρ' x):partsOf ρ l=partsOf ρ' l:=by
 unfold partsOf
 refine yR fun p hp =>?_
 rw[h p.2 (List.mem_map.2 ⟨p,hp,rfl⟩)]
theorem qm{ρ ρ':Operand->Option V}{x:Option Operand}(h : ∀y∈x.toArray,ρ y=ρ' y):optO ρ x=optO ρ' x:=by
 cases x with
 | none=>rfl
 | some y=>simp only[optO,h y (by simp)]
theorem xbc{P:Program}{op:Op}{ρ ρ':Operand->Option V}{H:Heap}(h : ∀x∈op.operands,ρ x=ρ' x):evStep P op ρ H=evStep P op ρ' H:=by
 cases op<;>simp only[Op.operands]at h<;>try rfl
 case move x=>simp only[evStep,h x (by simp)]
 case assign x=>simp only[evStep,h x (by simp)]
 case pick c a b=>simp only[evStep,h c (by simp),h a (by simp),h b (by simp)]
 case box t x=>simp only[evStep,h x (by simp)]
 case build t ps=>simp only[evStep,ZR (ρ:=ρ) (ρ':=ρ') (l:=ps.toList) fun x hx=>h x (by simpa using hx)]
 case buildSlice t n ps=>simp only[evStep,ZR (ρ:=ρ) (ρ':=ρ') (l:=ps.toList) fun x hx=>h x (by simpa using hx)]
 case load t x=>simp only[evStep,h x (by simp)]
 case store t x y=>simp only[evStep,h x (by simp),h y (by simp)]
 case nilCheck x=>simp only[evStep,h x (by simp)]
 case binOp o t x y u=>simp only[evStep,h x (by simp),h y (by simp)]
 case unOp o t x=>simp only[evStep,h x (by simp)]
 case convert s d x=>simp only[evStep,h x (by simp)]
 case makeFunc fn first captured=>
  cases fn<;>try rfl
  .simp only[evStep,yR (f:=ρ) (g:=ρ') (l:=captured.toList) fun x hx=>h x (by simp at hx |-;exact .inr hx)]
  .simp only[evStep]
   split
   .split
    .rename_i x hx
     rw[h x (by simp;left;rw[<- Array.mem_toList_iff,hx];simp)]
    .rfl
   .rfl
 case slice t x lo hi mx=>
  cases mx with
  | some y=>simp only[evStep,h x (by simp),h y (by simp),qm (ρ:=ρ) (ρ':=ρ') (x:=lo) fun y hy=>h y (by simp at hy |-;simp[hy]),qm (ρ:=ρ) (ρ':=ρ') (x:=hi) fun y hy=>h y (by simp at hy |-;simp[hy])]
  | none=>
   simp only[evStep,h x (by simp),qm (ρ:=ρ) (ρ':=ρ') (x:=lo) fun y hy=>h y (by simp at hy |-;simp[hy]),qm (ρ:=ρ) (ρ':=ρ') (x:=hi) fun y hy=>h y (by simp at hy |-;simp[hy])]
 case fieldAddr t x f=>simp only[evStep,h x (by simp)]
 case field t x f=>simp only[evStep,h x (by simp)]
 case indexAddr t x y=>simp only[evStep,h x (by simp),h y (by simp)]
 case index t x y=>simp only[evStep,h x (by simp),h y (by simp)]
 case extract x i=>simp only[evStep,h x (by simp)]
 case makeInterface t x=>simp only[evStep,h x (by simp)]
 case sliceToArrayPointer t x=>simp only[evStep,h x (by simp)]
 case makeMap t r=>cases r<;>rfl
 case makeSlice t l c=>simp only[evStep,h l (by simp),h c (by simp)]
 case call c=>
  have h1:allSome ρ c.args.toList=allSome ρ' c.args.toList:=yR fun x hx=>h x (by simp[Call.operands];right;simpa using hx)
  simp only[evStep,h1]
  cases hc:c.callee with
  | builtin b=>rfl
  | invoke r n=>simp only[h r (by simp[Call.operands,hc])]
  | value f=>simp only[h f (by simp[Call.operands,hc])]
/-! ### how operations hang on the blocks -/
def setH(H:Heap):Stp->Stp
 | .val g v _ =>.val g v H
 | q=>q
theorem yI{α:Type}(x:Option α)(g:α->Bool)(v:α->V)(H:Heap):(x.map fun a=>Stp.val (g a) (v a) H)=Option.map (setH H) (x.map fun a=>Stp.val (g a) (v a) []):=by
 cases x<;>rfl
theorem Vx{P:Program}{b:Builtin}{ts:List TypeId}{vs:List V}{H:Heap}:yv P b ts vs H=Option.map (setH H) (yv P b ts vs []):=by
 unfold yv
 split
 .split<;>rfl
 .rfl
 .rfl
 .rfl
theorem kind0{P:Program}{op:Op}{ρ:Operand->Option V}{H:Heap}(hk:xj op=0):evStep P op ρ H=Option.map (setH H) (evStep P op ρ []):=by
 cases op<;>simp[xj]at hk
 case lookup t a x ok=>cases a<;>simp at hk
 case store t a x=>cases a<;>simp at hk
 case move x=>simp only[evStep];exact yI (ρ x) (fun _=>true) id H
 case assign x=>simp only[evStep];exact yI (ρ x) (fun _=>true) id H
 case pick c a b=>
  simp only[evStep]
  split
  .rename_i t _
   cases t
   .exact yI (ρ b) (fun _=>true) id H
   .exact yI (ρ a) (fun _=>true) id H
  .rfl
 case build t ps=>
  simp only[evStep]
  split
  .split
   .split
    .exact yI _ (fun _=>true) (fun r =>.agg r) H
    .rfl
   .split
    .exact yI _ (fun _=>true) (fun r =>.agg r) H
    .rfl
   .rfl
  .rfl
 case nilCheck x=>
  simp only[evStep]
  split
  .rfl
  .rfl
  .rfl
  .split
   .split<;>rfl
   .split<;>rfl
   .rfl
  .rfl
  .rfl
 case binOp o t x y u=>
  simp only[evStep]
  split
  .exact yI _ (fun r:Bool×C=>r.1) (fun r:Bool×C =>.c r.2) H
  .exact yI _ (fun _:C=>true) (fun r:C =>.c r) H
  .rfl
 case unOp o t x=>
  simp only[evStep]
  split
  .exact yI _ (fun _=>true) (fun r =>.c r) H
  .rfl
 case convert a b x=>
  simp only[evStep]
  split<;>rfl
 case makeFunc fn first captured=>
  cases fn<;>try rfl
  .simp only[evStep]
   split
   .split
    .exact yI _ (fun _=>true) (fun cs =>.c (.fn _ cs)) H
    .rfl
   .rfl
  .simp only[evStep]
   split
   .split
    .split<;>rfl
    .rfl
   .rfl
 case slice t x lo hi mx=>
  cases mx with
  | some y=>simp only[evStep];exact yI _ (fun r:Bool×C=>r.1) (fun r =>.c r.2) H
  | none=>
   simp only[evStep]
   split
   .split
    .split<;>rfl
    .rfl
   .split
    .split<;>rfl
    .rfl
   .split
    .split
     .split<;>rfl
     .rfl
    .rfl
   .split
    .split<;>rfl
    .rfl
   .split
    .split
     .split<;>rfl
     .rfl
    .rfl
   .split
    .exact yI _ (fun r:Bool×C=>r.1) (fun r =>.c r.2) H
    .rfl
   .rfl
 case fieldAddr t x f=>
  simp only[evStep]
  split
  .split
   .split
    .split<;>rfl
    .rfl
   .rfl
  .split
   .split
    .split<;>rfl
    .rfl
   .rfl
  .rfl
 case field t x f=>
  simp only[evStep]
  split
  .split
   .exact yI _ (fun _=>true) id H
   .rfl
  .rfl
 case indexAddr t x y=>
  simp only[evStep]
  split
  .rename_i len e b o k i _ _ _
   exact yI _ (fun _=>decide (0<=i/\i<(len:Int))) (fun n =>.c (.ptr b (o+i.toNat*n))) H
  .rename_i e b o len c k i _ _ _
   exact yI _ (fun _=>decide (0<=i/\i<(len:Int))) (fun n =>.c (.ptr b (o+i.toNat*n))) H
  .split<;>rfl
  .rename_i e b o z len c k i _ _ _
   exact yI _ (fun _=>decide (0<=i/\i<(len:Int))) (fun n =>.c (.pr b o i n 0)) H
  .rename_i e b len k i _ _ _
   exact yI _ (fun _=>decide (0<=i/\i<(len:Int))) (fun n =>.c (.pr b 0 i n 0)) H
  .split<;>rfl
  .split<;>rfl
  .rename_i len e b o k i _ _ _
   exact yI _ (fun _=>decide (0<=i/\i<(len:Int))) (fun n =>.c (.gp b (o+i.toNat*n))) H
  .rfl
 case index t x y=>
  simp only[evStep]
  split
  .rename_i len e cs k i _ _ _
   split
   .exact yI _ (fun _=>decide (0<=i/\i<(len:Int))) id H
   .rfl
  .rfl
  .rfl
 case extract x i=>
  simp only[evStep]
  split
  .exact yI _ (fun _=>true) (fun v:V1=>v.up) H
  .rfl
 case makeInterface t x=>
  simp only[evStep]
  split
  .split<;>rfl
  .rfl
 case sliceToArrayPointer t x=>
  simp only[evStep]
  split
  .split<;>rfl
  .rfl
 case call c=>
  obtain⟨callee,args,ats⟩:=c
  cases callee<;>simp[xj]at hk
  simp only[evStep]
  split
  .split at hk
   .exact Vx
   .exact Vx
   .exact Vx
   .cases hk
   .cases hk
  .rfl
theorem xgr{P:Program}{op:Op}{ρ:Operand->Option V}{H:Heap}{q:Stp}(hk:xj op=0)(h:evStep P op ρ H=some q) : ∃g v,q = .val g v H/\ ∀H2,evStep P op ρ H2=some (.val g v H2):=by
 rw[kind0 hk,oM]at h
 obtain⟨q0,h1,rfl⟩:=h
 have hc : ∀ {f args},q0 ≠ .call f args:=by
  rintro f args rfl
  cases op<;>simp[xj]at hk
  case lookup t a x ok=>cases a<;>simp at hk
  case store t a x=>cases a<;>simp at hk
  case call c=>
   obtain⟨callee,as,ats⟩:=c
   cases callee<;>simp[xj]at hk
   simp only[evStep]at h1
   split at h1
   .split at hk
    .simp only at h1;unfold yv at h1;(repeat' (split at h1))<;>cases h1
    .simp only at h1;unfold yv at h1;(repeat' (split at h1))<;>cases h1
    .simp only at h1;unfold yv at h1;(repeat' (split at h1))<;>cases h1
    .cases hk
    .cases hk
   .cases h1
  all_goals
   simp only[evStep]at h1
   (repeat' (split at h1))<;>first
    | contradiction
    | cases h1
    | (rw[oM]at h1;obtain⟨_,_,h2⟩:=h1;cases h2)
 have hp : ∀ {p},q0 ≠ .port p:=by
  rintro p rfl
  cases op<;>simp[xj]at hk
  case lookup t a x ok=>cases a<;>simp at hk
  case store t a x=>cases a<;>simp at hk
  case call c=>
   obtain⟨callee,as,ats⟩:=c
   cases callee<;>simp[xj]at hk
   simp only[evStep]at h1
   split at h1
   .split at hk
    .simp only at h1;unfold yv at h1;(repeat' (split at h1))<;>cases h1
    .simp only at h1;unfold yv at h1;(repeat' (split at h1))<;>cases h1
    .simp only at h1;unfold yv at h1;(repeat' (split at h1))<;>cases h1
    .cases hk
    .cases hk
   .cases h1
  all_goals
   simp only[evStep]at h1
   (repeat' (split at h1))<;>first
    | contradiction
    | cases h1
    | (rw[oM]at h1;obtain⟨_,_,h2⟩:=h1;cases h2)
 cases q0 with
 | val g v H0=>exact⟨g,v,rfl,fun H2=>by rw[kind0 hk,h1];rfl⟩
 | port p=>exact absurd rfl hp
 | call f args=>exact absurd rfl hc
theorem xgs{P:Program}{op:Op}{ρ:Operand->Option V}{H:Heap}{q:Stp}(hk:xj op=1)(h:evStep P op ρ H=some q) :
  ∃g v b,q = .val g v H/\(∃k,blkAt H b=some k)/\(∃x,x∈op.operands/\ptrB (ρ x)=some b)/\ ∀H2,blkAt H2 b=blkAt H b->evStep P op ρ H2=some (.val g v H2):=by
 cases op<;>simp[xj]at hk
 case lookup t a x ok=>cases a<;>simp at hk
 case store t a x=>cases a<;>simp at hk
 case load t x=>
  simp only[evStep]at h
  split at h
  .rename_i b o hx
   split at h
   .rename_i k hb
    rw[oM]at h
    obtain⟨v,h1,rfl⟩:=h
    refine⟨v.1,v.2,b,rfl,⟨k,hb⟩,⟨x,by simp[Op.operands],by rw[hx];rfl⟩,fun H2 h2 =>?_⟩
    simp only[evStep,hx,h2,hb,h1,dN]
   .cases h
  .rename_i b off i n f hx
   split at h
   .rename_i k hb
    rw[oM]at h
    obtain⟨v,h1,rfl⟩:=h
    refine⟨v.1,v.2,b,rfl,⟨k,hb⟩,⟨x,by simp[Op.operands],by rw[hx];rfl⟩,fun H2 h2 =>?_⟩
    simp only[evStep,hx,h2,hb,h1,dN]
   .cases h
  .cases h
 case call c=>
  obtain⟨callee,as,ats⟩:=c
  cases callee<;>simp[xj]at hk
  split at hk<;>simp at hk
theorem xgt{P:Program}{t:TypeId}{m x:Operand}{ok:Bool}{ρ:Operand->Option V}{H:Heap}{q:Stp}(h:evStep P (.lookup t m x ok) ρ H=some q) :
  ∃g v b,q = .val g v H/\ρ m=some (.c (.mp b))/\ ∀H2,blkAt H2 b=blkAt H b->evStep P (.lookup t m x ok) ρ H2=some (.val g v H2):=by
 have h2:(none:Option Stp)=some q:=h
 cases h2
theorem xgu{P:Program}{op:Op}{ρ:Operand->Option V}{H:Heap}{q:Stp}(hk:xj op=2)(h:evStep P op ρ H=some q) :
  ∃v k,q = .val true v (newB H k)/\ ∀H2,H2.length=H.length->evStep P op ρ H2=some (.val true v (newB H2 k)):=by
 cases op<;>simp[xj]at hk
 case lookup t a x ok=>cases a<;>simp at hk
 case store t a x=>cases a<;>simp at hk
 case alloc t=>
  simp only[evStep]at h |-
  split at h
  .rename_i z hz
   split at h
   .rename_i cs hc
    cases h
    exact⟨_,_,rfl,fun H2 h2=>by rw[h2]⟩
   .cases h
  .cases h
 case box t x=>
  simp only[evStep]at h |-
  split at h
  .rename_i z hz
   split at h
   .rename_i cs hc
    cases h
    exact⟨_,_,rfl,fun H2 h2=>by rw[h2]⟩
   .cases h
  .cases h
 case buildSlice t len ps=>
  simp only[evStep]at h |-
  split at h
  .rename_i el ps' hu lr
   split at h
   .rename_i n z hn hz
    split at h
    .rename_i zs An
     split at h
     .rename_i h0
      split at h
      .rename_i r hr
       cases h
       exact⟨_,_,rfl,fun H2 h2=>by simp only[hu,lr,hn,hz,An,dB h0,hr,h2]⟩
      .cases h
     .cases h
    .cases h
   .cases h
  .cases h
 case call c=>
  obtain⟨callee,as,ats⟩:=c
  cases callee<;>simp[xj]at hk
  split at hk<;>simp at hk
theorem new_val{P:Program}{op:Op}{ρ:Operand->Option V}{H:Heap}{q:Stp}(hk:(∃t,op = .alloc t)\/ ∃t len ps,op = .buildSlice t len ps)(h:evStep P op ρ H=some q) :
  ∃ (f:Nat->V) (kb:Blk) (rvf:Nat->Value),kb.tab=none/\kb.grown=false/\(∀H2,evStep P op ρ H2=some (.val true (f H2.length) (newB H2 kb)))/\(∀pv e x c,denV pv (e ++ [(x,c)]) (f e.length)=some (rvf x))/\ ∀pv e (ra:Operand->Value),One pv->Says pv e ρ ra ->∃vs,denL pv e kb.cells=some vs:=by
 rcases hk with⟨t,rfl⟩|⟨t,len,ps,rfl⟩
 .simp only[evStep]at h |-
  split at h
  .rename_i z hz
   split at h
   .rename_i cs hc
    refine⟨fun n =>.c (.ptr n 0),⟨cs,t,false,none⟩,fun x =>.pointer (some ⟨x,0,none⟩),rfl,rfl,fun H2=>rfl,fun pv e x c=>by simp[denV,den],fun pv e ra hp _ =>?_⟩
    obtain⟨rv,_,h2⟩:=ke hz pv e
    exact⟨_,vq hp h2 hc⟩
   .cases h
  .cases h
 .simp only[evStep]at h |-
  split at h
  .rename_i el ps' hu lr
   split at h
   .rename_i n z hn hz
    split at h
    .rename_i zs An
     split at h
     .rename_i h0
      split at h
      .rename_i r hr
       refine⟨fun n =>.c (.sl n 0 len len),⟨r,el,false,none⟩,fun x =>.slice (some ⟨x,0,none⟩) len len,rfl,rfl,fun H2=>dB h0,fun pv e x c=>by simp[denV,den],fun pv e ra hp hρ =>?_⟩
       obtain⟨zv,_,h2⟩:=ke hz pv e
       obtain⟨us,_,h4⟩:=qS hp ps' _ _ r _ hr (xa2 (vq hp h2 An) len) (jK hρ _ _ lr)
       exact⟨us,h4⟩
      .cases h
     .cases h
    .cases h
   .cases h
  .cases h
theorem Xk : ∀ {H H':Heap} {b:Nat} {k:Blk},KO H H'=true->blkAt H b=some k ->∃k',blkAt H' b=some k'
 | [],H',b,k,h,hb=>by simp[blkAt]at hb
 | some x::H,some y::H',0,k,h,hb=>⟨y,rfl⟩
 | some x::H,some y::H',b+1,k,h,hb=>by
  have:=Xk (H:=H) (H':=H') (b:=b) (k:=k) h hb
  exact this
 | none::H,none::H',0,k,h,hb=>by simp[blkAt]at hb
 | none::H,none::H',b+1,k,h,hb=>by
  have:=Xk (H:=H) (H':=H') (b:=b) (k:=k) h hb
  exact this
 | some x::H,[],b,k,h,hb=>by cases h
 | none::H,[],b,k,h,hb=>by cases h
 | some x::H,none::H',b,k,h,hb=>by cases h
 | none::H,some y::H',b,k,h,hb=>by cases h
theorem ZA : ∀ (H:Heap) (x:Heap),KO H (H++x)=true
 | [],x=>rfl
 | some y::H,x=>ZA H x
 | none::H,x=>ZA H x
theorem xhM(pu:PM)(H:Heap):okV pu H H=true:=by
 cases pu with
 | fresh=>have:=ZA H [];rw[List.append_nil]at this;exact this
 | part A=>
  simp only[okV,List.all_eq_true]
  intro a _
  cases blkAt H a<;>rfl
 | _=>rfl
theorem okV_new(pu:PM)(H:Heap)(k:Blk):okV pu H (newB H k)=true:=by
 cases pu with
 | fresh=>exact ZA H _
 | part A=>
  simp only[okV,List.all_eq_true]
  intro a _
  rw[yC]
  split
  .cases blkAt H a<;>rfl
  .cases blkAt H a<;>rfl
 | _=>rfl
theorem KF{P:Program}{ts:List TypeId}{vs:List V}{H:Heap}{q:Stp}(h:wH P ts vs H=some q) : ∃g v kn,q = .val g v (newB H kn)\/ ∃b2 k2,blkAt H b2=some k2/\q = .val g v (newB (setB H b2 none) kn):=by
 unfold wH at h
 (repeat' (split at h))<;>try (unfold vQ at h)
 all_goals try (unfold kT at h)
 all_goals try (unfold kU at h)
 all_goals (repeat' (split at h))
 all_goals first
  | (cases h;done)
  | (cases h;exact⟨_,_,_,.inl rfl⟩)
  | (cases h;exact⟨_,_,_,.inr ⟨_,_,by assumption,rfl⟩⟩)
theorem xai{P:Program}{op:Op}{ρ:Operand->Option V}{H:Heap}{q:Stp}(hk:xj op=6)(h:evStep P op ρ H=some q) : ∃g v H',q = .val g v H'/\(∀a,a<H.length->xhx (blkAt H a) (blkAt H' a)=true->blkAt H' a=blkAt H a)/\(KO H H'=true ->∃k,H'=newB H k):=by
 cases op<;>simp[xj]at hk
 case lookup t a x ok=>cases a<;>simp at hk
 case store t a x=>cases a<;>simp at hk
 case call c=>
  obtain⟨callee,as,ats⟩:=c
  cases callee with
  | builtin b=>
   simp only[evStep]at h
   split at h
   .cases b<;>simp at hk
    obtain⟨g,v,kn,rfl|⟨b2,k2,eb,rfl⟩⟩:=KF h
    .exact⟨_,_,_,rfl,fun a ha _=>by rw[yC,dA (by omega)],fun _=>⟨_,rfl⟩⟩
    .refine⟨_,_,_,rfl,fun a ha hk =>?_,fun hs =>?_⟩
     .have e0:blkAt (newB (setB H b2 none) kn) a=blkAt (setB H b2 none) a:=by rw[yC,yz,List.length_set,dA (by omega)]
      rw[e0]at hk |-
      by_cases he:b2=a
      .subst he
       have e1:blkAt (setB H b2 none) b2=none:=by rw[yz,xH,List.getElem?_set_self ha];rfl
       rw[e1,eb]at hk
       cases hk
      .rw[yz,xH,xH,List.getElem?_set_ne he]
     obtain⟨k',am⟩:=Xk hs eb
     have ao:b2<H.length:=by
      rw[xH]at eb
      by_cases hi:b2<H.length
      .exact hi
      .rw[List.getElem?_eq_none (by omega)]at eb;simp at eb
     rw[yC]at am
     rw[yz,List.length_set,dA (by omega),xH,List.getElem?_set_self ao]at am
     cases am
   .cases h
  | invoke r n=>simp[xj]at hk
  | value f=>simp[xj]at hk
theorem jP{P:Program}{op:Op}{ρ:Operand->Option V}{H:Heap}{q:Stp}(hk:xj op=3)(h:evStep P op ρ H=some q):(∀g v H',q ≠ .val g v H')/\ ∀H2,evStep P op ρ H2=some q:=by
 cases op<;>simp[xj]at hk
 case lookup t a x ok=>cases a<;>simp at hk
 case store t a x=>cases a<;>simp at hk
 case call c=>
  obtain⟨callee,as,ats⟩:=c
  cases callee with
  | builtin b=>simp[xj]at hk;split at hk<;>simp at hk
  | invoke r n=>
   simp only[evStep]at h |-
   refine⟨fun g v H' e =>?_,fun _=>h⟩
   subst e
   (repeat' (split at h))<;>first
    | cases h
    | (rw[oM]at h;obtain⟨_,_,h2⟩:=h;cases h2)
  | value f=>
   simp only[evStep]at h |-
   refine⟨fun g v H' e =>?_,fun _=>h⟩
   subst e
   (repeat' (split at h))<;>first
    | cases h
    | (rw[oM]at h;obtain⟨_,_,h2⟩:=h;cases h2)
end Lx
namespace Lx
open Go
section
variable{P:Program}{σ:Type}{I:PortR P σ}{Γ:xK}{S0:Bool->Nat->Prop}{w0:World}{e0:Env}{ops:Array Oper}
theorem xgv{tmps:Tm}{dst:Option Tmp}{v:V}{x:Operand}(h : ∀d,dst=some d->x ≠ .tmp d):xW (putT tmps dst v) x=xW tmps x:=by
 cases dst with
 | none=>rfl
 | some d=>
  cases x with
  | tmp t=>
   have ae:t≠d:=fun hh=>h d rfl (by rw[hh])
   simp only[xW,putT,yN _ _ ae]
  | _=>rfl
theorem XM{pu:PM}{o:Oper}{tmps:Tm}{dst:Option Tmp}{v:V}{H:Heap}{s:σ}(h : ∀d,dst=some d->d∉o.looksAt ops):valO Γ I ops pu o (putT tmps dst v) H s=valO Γ I ops pu o tmps H s:=by
 have e1:evStep P o.op (xW (putT tmps dst v)) H=evStep P o.op (xW tmps) H:=xbc fun x hx=>xgv fun d hd I9=>by
  subst I9
  refine h d hd ?_
  simp only[Oper.looksAt,List.mem_append,List.mem_filterMap]
  exact .inl ⟨.tmp d,by simpa using hx,rfl⟩
 unfold valO
 rw[e1]
 cases hg:o.guard with
 | none=>rfl
 | some jw=>
  obtain⟨j,want⟩:=jw
  simp only
  cases ri:(ops[j]?).bind (·.dst) with
  | none=>rfl
  | some sl=>
   simp only
   have:getT (putT tmps dst v) sl=getT tmps sl:=by
    cases dst with
    | none=>rfl
    | some d=>
     have ae:sl≠d:=by
      rintro rfl
      refine h sl rfl ?_
      simp only[Oper.looksAt,List.mem_append,hg,ri]
      exact .inr (by simp)
     simp only[putT,yN _ _ ae]
   rw[this]
theorem yU(pu:PM)(o:Oper)(tmps:Tm):(∀H s,valO Γ I ops pu o tmps H s=vd Γ I pu H s (evStep P o.op (xW tmps) H))\/(∀H s,valO Γ I ops pu o tmps H s=some (.undef,H,s))\/(∀H s,valO Γ I ops pu o tmps H s=none):=by
 unfold valO
 cases o.guard with
 | none=>exact .inl fun _ _=>rfl
 | some jw=>
  obtain⟨j,want⟩:=jw
  simp only
  cases (ops[j]?).bind (·.dst) with
  | none=>exact .inr (.inr fun _ _=>rfl)
  | some sl=>
   simp only
   cases getT tmps sl with
   | none=>exact .inr (.inr fun _ _=>rfl)
   | some v=>
    cases v with
    | agg l=>exact .inr (.inr fun _ _=>rfl)
    | tup l=>cases l<;>first|exact .inr (.inl fun _ _=>rfl)|exact .inr (.inr fun _ _=>rfl)
    | c x=>
     cases x with
     | bool b=>
      by_cases h:b=want
      .subst h;exact .inl fun _ _=>dB rfl
      .exact .inr (.inl fun _ _=>dA h)
     | _=>exact .inr (.inr fun _ _=>rfl)
variable{pu:PM}{o:Oper}{tmps:Tm}{H H':Heap}{s s':σ}{v:V}
theorem ju{g:Bool}{u:V}{H0:Heap}(h:vd Γ I pu H s (some (.val g u H0))=some (v,H',s')):g=true/\u=v/\H0=H'/\s=s'/\okV pu H H0=true:=by
 simp only[vd]at h
 split at h
 .rename_i hg
  simp only[oI,dI]at h
  simp only[dM]at hg
  exact⟨hg.2,h.1,h.2.1,h.2.2,hg.1⟩
 .cases h
theorem Yy{u:V}(pu:PM)(H:Heap)(s:σ):vd Γ I pu H s (some (.val true u H))=some (u,H,s):=by
 simp only[vd,xhM,Bool.and_self,if_true]
theorem xcv{u:V}(pu:PM)(H:Heap)(k:Blk)(s:σ):vd Γ I pu H s (some (.val true u (newB H k)))=some (u,newB H k,s):=by
 simp only[vd,okV_new,Bool.and_self,if_true]
def Idle(Γ:xK)(I:PortR P σ)(ops:Array Oper)(pu:PM)(o:Oper)(tmps:Tm)(v:V):Prop :=∀H s,valO Γ I ops pu o tmps H s=some (v,H,s)
theorem beh0(hk:xj o.op=0)(h:valO Γ I ops pu o tmps H s=some (v,H',s')):H'=H/\s'=s/\Idle Γ I ops pu o tmps v:=by
 rcases yU (Γ:=Γ) (I:=I) (ops:=ops) pu o tmps with hc|hc|hc
 .rw[hc]at h
  cases hq:evStep P o.op (xW tmps) H with
  | none=>rw[hq]at h;cases h
  | some q=>
   obtain⟨g,u,rfl,h2⟩:=xgr hk hq
   rw[hq]at h
   obtain⟨rfl,rfl,rfl,rfl,_⟩:=ju h
   exact⟨rfl,rfl,fun H2 s2=>by rw[hc,h2];exact Yy pu H2 s2⟩
 .rw[hc]at h
  cases h
  exact⟨rfl,rfl,hc⟩
 .rw[hc]at h;cases h
theorem xd5(c:Value):ptrB (qJ c)=none:=by
 unfold qJ
 split
 .cases allSome qe _<;>rfl
 .split<;>rfl
 .unfold qe;split<;>rfl
theorem beh1(hk:xj o.op=1)(h:valO Γ I ops pu o tmps H s=some (v,H',s')):H'=H/\s'=s/\(Idle Γ I ops pu o tmps v\/ ∃b,(∃ (t p:Nat),(∃ty,o.op = .load ty (.tmp t))/\ptrB (getT tmps t)=some b)/\ ∀H2 s2,blkAt H2 b=blkAt H b->valO Γ I ops pu o tmps H2 s2=some (v,H2,s2)):=by
 have uk : ∃ty a,o.op = .load ty a:=by
  cases ab:o.op with
  | load ty a=>exact⟨ty,a,rfl⟩
  | store ty a x=>cases a<;>simp[xj,ab]at hk
  | lookup ty a x ok=>cases a<;>simp[xj,ab]at hk
  | call c=>obtain⟨callee,as,ats⟩:=c;cases callee<;>simp[xj,ab]at hk;split at hk<;>simp at hk
  | _=>simp[xj,ab]at hk
 obtain⟨ty,ad,uk⟩:=uk
 rcases yU (Γ:=Γ) (I:=I) (ops:=ops) pu o tmps with hc|hc|hc
 .rw[hc]at h
  cases hq:evStep P o.op (xW tmps) H with
  | none=>rw[hq]at h;cases h
  | some q=>
   obtain⟨g,u,b,rfl,hb,⟨x,hx,B6⟩,h2⟩:=xgs hk hq
   rw[hq]at h
   obtain⟨rfl,rfl,rfl,rfl,_⟩:=ju h
   refine⟨rfl,rfl,.inr ⟨b,?_,fun H2 s2 eb=>by rw[hc,h2 H2 eb];exact Yy pu H2 s2⟩⟩
   have ck:x=ad:=by rw[uk]at hx;simpa[Op.operands]using hx
   cases x with
   | tmp t=>exact⟨t,0,⟨ty,by rw[uk,<- ck]⟩,B6⟩
   | const c=>
    simp only[xW,xd5]at B6
    cases B6
   | global g=>simp[xW,ptrB]at B6
   | func f=>simp[xW,ptrB]at B6
 .rw[hc]at h
  cases h
  exact⟨rfl,rfl,.inl hc⟩
 .rw[hc]at h;cases h
theorem beh7(hk:xj o.op=7)(h:valO Γ I ops pu o tmps H s=some (v,H',s')):H'=H/\s'=s/\(Idle Γ I ops pu o tmps v\/ ∃b,(∃t,getT tmps t=some (.c (.mp b)))/\ ∀H2 s2,blkAt H2 b=blkAt H b->valO Γ I ops pu o tmps H2 s2=some (v,H2,s2)):=by
 have uk : ∃ty t x ok,o.op = .lookup ty (.tmp t) x ok:=by
  cases ab:o.op with
  | lookup ty a x ok=>cases a<;>first|exact⟨ty,_,x,ok,rfl⟩|(simp[xj,ab]at hk)
  | store ty a x=>cases a<;>simp[xj,ab]at hk
  | call c=>obtain⟨callee,as,ats⟩:=c;cases callee<;>simp[xj,ab]at hk;split at hk<;>simp at hk
  | _=>simp[xj,ab]at hk
 obtain⟨ty,t,x,ok,uk⟩:=uk
 rcases yU (Γ:=Γ) (I:=I) (ops:=ops) pu o tmps with hc|hc|hc
 .rw[hc]at h
  cases hq:evStep P o.op (xW tmps) H with
  | none=>rw[hq]at h;cases h
  | some q=>
   rw[uk]at hq
   obtain⟨g,u,b,rfl,hb,h2⟩:=xgt hq
   rw[uk,hq]at h
   obtain⟨rfl,rfl,rfl,rfl,_⟩:=ju h
   exact⟨rfl,rfl,.inr ⟨b,⟨t,hb⟩,fun H2 s2 eb=>by rw[hc,uk,h2 H2 eb];exact Yy pu H2 s2⟩⟩
 .rw[hc]at h
  cases h
  exact⟨rfl,rfl,.inl hc⟩
 .rw[hc]at h;cases h
theorem beh2(hk:xj o.op=2)(h:valO Γ I ops pu o tmps H s=some (v,H',s')):s'=s/\((H'=H/\Idle Γ I ops pu o tmps v)\/ ∃k,H'=newB H k/\ ∀H2 s2,H2.length=H.length->valO Γ I ops pu o tmps H2 s2=some (v,newB H2 k,s2)):=by
 rcases yU (Γ:=Γ) (I:=I) (ops:=ops) pu o tmps with hc|hc|hc
 .rw[hc]at h
  cases hq:evStep P o.op (xW tmps) H with
  | none=>rw[hq]at h;cases h
  | some q=>
   obtain⟨u,k,rfl,h2⟩:=xgu hk hq
   rw[hq]at h
   obtain⟨_,rfl,rfl,rfl,_⟩:=ju h
   exact⟨rfl,.inr ⟨k,rfl,fun H2 s2 hl=>by rw[hc,h2 H2 hl];exact xcv pu H2 k s2⟩⟩
 .rw[hc]at h
  cases h
  exact⟨rfl,.inl ⟨rfl,hc⟩⟩
 .rw[hc]at h;cases h
theorem beh3(hk:xj o.op=3)(h:valO Γ I ops .pure o tmps H s=some (v,H',s')):H'=H/\ ∀H2,valO Γ I ops .pure o tmps H2 s=some (v,H2,s'):=by
 rcases yU (Γ:=Γ) (I:=I) (ops:=ops) .pure o tmps with hc|hc|hc
 .rw[hc]at h
  cases hq:evStep P o.op (xW tmps) H with
  | none=>rw[hq]at h;cases h
  | some q=>
   obtain⟨h1,h2⟩:=jP hk hq
   rw[hq]at h
   cases q with
   | val g u H0=>exact absurd rfl (h1 g u H0)
   | port p=>
    simp only[vd]at h
    cases hs:I.step p s with
    | none=>rw[hs]at h;cases h
    | some vs=>
     rw[hs]at h
     cases h
     exact⟨rfl,fun H2=>by rw[hc,h2 H2];simp only[vd,hs]⟩
   | call f args=>
    simp only[vd]at h
    cases ht:jF Γ f args with
    | none=>rw[ht]at h;cases h
    | some S=>
     rw[ht]at h
     simp only at h
     cases hr:S.t.run I.step s with
     | none=>rw[hr]at h;cases h
     | some r=>
      rw[hr]at h
      simp only at h
      cases hf:S.f r.1 with
      | none=>rw[hf]at h;cases h
      | some q=>
       rw[hf]at h
       cases h
       exact⟨rfl,fun H2=>by rw[hc,h2 H2];simp only[vd,ht,hr,hf]⟩
 .rw[hc]at h
  cases h
  exact⟨rfl,fun H2=>hc H2 s⟩
 .rw[hc]at h;cases h
theorem qZ : ∀ (l:List Nat) (xs:List (Option Blk)) (H:Heap) (b:Nat),b∉l->blkAt (vF H l xs) b=blkAt H b
 | [],xs,H,b,h=>by cases xs<;>rfl
 | c::l,[],H,b,h=>rfl
 | c::l,x::xs,H,b,h=>by
  rw[vF,qZ l xs _ b (fun hh=>h (by simp[hh])),yz,xH,xH,List.getElem?_set_ne (fun hh=>h (by simp[hh]))]
theorem xbd{f:FuncId}{args:List V}{S:Sum}{x:S.α}{q:V×Heap}{l:List Nat}{b:Nat}(h:wJ Γ f args H=some S)(hf:S.f x=some q)(hr:wv H 1000 (args.flatMap idsV) []=some l)(hb:b∉l)(ao:b<H.length):blkAt q.2 b=blkAt H b:=by
 unfold wJ at h
 split at h
 .cases h
 .rw[hr]at h
  simp only at h
  split at h
  .split at h
   .cases h
   .cases h
    simp only at hf
    split at hf
    .cases hf
    .split at hf
     .split at hf
      .cases hf
       simp only
       rw[xH,List.getElem?_append_left (by rw[yA];exact ao),<- xH,qZ _ _ _ _ hb]
      .cases hf
     .cases hf
  .cases h
/-! ### calls that leave no further blocks, beside a new block -/
def Closed(tmps:Tm)(H:Heap):Prop:=(∀t v,getT tmps t=some v ->∀b∈idsV v,b<H.length)/\ ∀i k,blkAt H i=some k ->∀b∈vf k.cells,b<H.length
theorem Vy{H:Heap}{b:Nat}{k:Blk}(h:blkAt H b=some k):b<H.length:=(List.getElem?_eq_some_iff.1 (xI.1 h)).1
theorem Xl{H:Heap}{k:Blk}(hc : ∀i kk,blkAt H i=some kk ->∀b∈vf kk.cells,b<H.length) : ∀ (n:Nat) (todo acc:List Nat),(∀b∈todo,b<H.length)->wv (newB H k) n todo acc=wv H n todo acc
 | n,[],acc,h=>by cases n<;>rfl
 | 0,b::todo,acc,h=>rfl
 | n+1,b::todo,acc,h=>by
  simp only[wv]
  have hb:=h b (by simp)
  have ao:blkAt (newB H k) b=blkAt H b:=by rw[yC,dA (by omega)]
  rw[ao]
  split
  .exact Xl hc n todo acc fun x hx=>h x (by simp[hx])
  .split
   .rename_i kk hk
    refine Xl hc n _ _ fun x hx =>?_
    rcases List.mem_append.1 hx with hx|hx
    .exact hc b kk hk x hx
    .exact h x (by simp[hx])
   .rfl
theorem Vz(k:Blk) : ∀ (l:List Nat) (xs:List (Option Blk)) (H:Heap),(∀b∈l,b<H.length)->vF (newB H k) l xs=newB (vF H l xs) k
 | [],xs,H,h=>by cases xs<;>rfl
 | c::l,[],H,h=>rfl
 | c::l,x::xs,H,h=>by
  simp only[vF]
  have hb:=h c (by simp)
  have:setB (newB H k) c x=newB (setB H c x) k:=by
   rw[yz,yz,newB,newB,List.set_append_left _ _ hb]
  rw[this]
  exact Vz k l xs _ fun b hb=>by rw[yz,List.length_set];exact h b (by simp[hb])
theorem xgw(l:List Nat)(xs:List (Option Blk))(H:Heap):(vF H l xs).length=H.length:=yA ..
theorem xgx{A:List Nat}{f:FuncId}{args:List V}{k:Blk}(hc : ∀i kk,blkAt H i=some kk ->∀b∈vf kk.cells,b<H.length)(ha : ∀b∈args.flatMap idsV,b<H.length) :
  wh Γ A f args (newB H k)=(wh Γ A f args H).map fun S=>⟨S.α,S.t,fun a=>(S.f a).map fun q=>(q.1,newB q.2 k),S.b,S.hb⟩:=by
 unfold wh
 cases Γ f with
 | none=>rfl
 | some m=>
  simp only
  rw[Xl hc _ _ _ ha]
  cases hl:wv H 1000 (args.flatMap idsV) [] with
  | none=>rfl
  | some l=>
   simp only
   obtain⟨_,hk,_⟩:=jN H _ _ [] l hl (by simp) (by simp)
   have ao : ∀b∈l,b<H.length:=fun b hb=>by obtain⟨kk,h⟩:=hk b hb;exact Vy h
   have e1:allSome (fun b=>renB (idx l) (blkAt (newB H k) b)) l=allSome (fun b=>renB (idx l) (blkAt H b)) l:=by
    have : ∀q:List Nat,(∀b∈q,b<H.length)->allSome (fun b=>renB (idx l) (blkAt (newB H k) b)) q=allSome (fun b=>renB (idx l) (blkAt H b)) q:=by
     intro q
     induction q with
     | nil=>intro _;rfl
     | cons x q ih=>
      intro h
      have hx:=h x (by simp)
      simp only[allSome,ih fun b hb=>h b (by simp[hb])]
      rw[yC,dA (by omega)]
    exact this l ao
   rw[e1]
   cases A.all fun b=> !(l.contains b) with
   | false=>rfl
   | true=>
    simp only
    cases allSome (renV (idx l)) args with
    | none=>rfl
    | some cz=>
     cases allSome (fun b=>renB (idx l) (blkAt H b)) l with
     | none=>rfl
     | some H0=>
      simp only
      cases m cz H0 with
      | none=>rfl
      | some S=>
       simp only[dN,oI,Sum.mk.injEq,heq_eq_eq,true_and,and_true]
       funext a
       cases S.f a with
       | none=>rfl
       | some r=>
        simp only
        cases renV (fun i=>l[i]?) r.1 with
        | none=>rfl
        | some v=>
         cases allSome (renB fun i=>l[i]?) r.2 with
         | none=>rfl
         | some H1=>
          simp only
          split
          .simp only[dN,Vz k l H1 H ao]
          .rfl
theorem xgy{A:List Nat}{f:FuncId}{args:List V}{S:Sum}{x:S.α}{q:V×Heap}(h:wh Γ A f args H=some S)(hf:S.f x=some q):q.2.length=H.length/\ ∀b∈A,blkAt q.2 b=blkAt H b:=by
 unfold wh at h
 split at h
 .cases h
 .split at h
  .cases h
  .rename_i l hl
   split at h
   .cases h
   .rename_i hA
    split at h
    .split at h
     .cases h
     .cases h
      simp only at hf
      split at hf
      .cases hf
      .split at hf
       .split at hf
        .cases hf
         refine⟨xgw ..,fun b hb=>qZ _ _ _ _ fun hm =>?_⟩
         rw[List.all_eq_true]at hA
         have:=hA b hb
         rw[List.contains_iff_mem.2 hm]at this
         cases this
        .cases hf
       .cases hf
    .cases h
theorem xd6{x:Value}{v:V}(h:qJ x=some v):idsV v = []:=by
 have hc : ∀ {x:Value} {c:C},qe x=some c->idsC c = []:=by
  intro x c h
  unfold qe at h
  split at h<;>cases h<;>rfl
 have bk : ∀ (l:List Value) (r:List C),allSome qe l=some r->vf r = []:=by
  intro l
  induction l with
  | nil=>intro r h;simp only[allSome,oI]at h;subst h;rfl
  | cons a l ih=>
   intro r h
   simp only[allSome]at h
   split at h
   .rename_i y hy
    split at h
    .rename_i ys fz
     cases h
     simp only[vf,hc hy,ih ys fz,List.append_nil]
    .cases h
   .cases h
 unfold qJ at h
 split at h
 .rw[oM]at h;obtain⟨r,h1,rfl⟩:=h;exact bk _ _ h1
 .split at h
  .cases h;rfl
  .cases h
 .rw[oM]at h;obtain⟨r,h1,rfl⟩:=h;exact hc h1
theorem Yz{tmps:Tm}{H:Heap}(hc : ∀t v,getT tmps t=some v ->∀b∈idsV v,b<H.length){x:Operand}{v:V}(h:xW tmps x=some v) : ∀b∈idsV v,b<H.length:=by
 cases x with
 | tmp t=>exact hc t v h
 | const c=>rw[xd6 h];intro b hb;cases hb
 | global g=>simp only[xW,oI]at h;subst h;intro b hb;simp[idsV,idsC]at hb
 | func f=>simp only[xW,oI]at h;subst h;intro b hb;simp[idsV,idsC,vf]at hb
theorem Za{tmps:Tm}{H:Heap}(hc : ∀t v,getT tmps t=some v ->∀b∈idsV v,b<H.length) : ∀ (l:List Operand) (vs:List V),allSome (xW tmps) l=some vs ->∀b∈vs.flatMap idsV,b<H.length
 | [],vs,h,b,hb=>by simp only[allSome,oI]at h;subst h;simp at hb
 | x::l,vs,h,b,hb=>by
  simp only[allSome]at h
  split at h
  .rename_i y hy
   split at h
   .rename_i ys fz
    cases h
    simp only[List.flatMap_cons,List.mem_append]at hb
    rcases hb with hb|hb
    .exact Yz hc hy b hb
    .exact Za hc l ys fz b hb
   .cases h
  .cases h
theorem xcw : ∀caps:List C,(caps.map V.c).flatMap idsV=vf caps
 | []=>rfl
 | c::l=>by simp only[List.map_cons,List.flatMap_cons,xcw l,idsV,vf]
theorem xhN{tmps:Tm}{H H2:Heap}(hc : ∀t v,getT tmps t=some v ->∀b∈idsV v,b<H.length){op:Op}(hk:xj op=3){f:FuncId}{args:List V}(h:evStep P op (xW tmps) H2=some (.call f args)) : ∀b∈args.flatMap idsV,b<H.length:=by
 cases op<;>simp[xj]at hk
 case lookup t a x ok=>cases a<;>simp at hk
 case call c=>
  obtain⟨callee,as,ats⟩:=c
  cases callee with
  | builtin b=>simp at hk;split at hk<;>simp at hk
  | invoke r n=>
   simp only[evStep]at h
   split at h
   .rename_i vs ee
    split at h
    .rw[oM]at h;obtain⟨_,_,h2⟩:=h;cases h2
    .rename_i t x hr
     rw[oM]at h;obtain⟨q,h2,h3⟩:=h;cases h3
     intro b hb
     rw[List.flatMap_cons,List.mem_append]at hb
     rcases hb with hb|hb
     .exact Yz hc hr b (by simpa[idsV,idsC]using hb)
     .exact Za hc _ _ ee b hb
    .cases h
   .cases h
  | value g=>
   simp only[evStep]at h
   split at h
   .rename_i vs ee
    split at h
    .rename_i f' caps hf
     cases h
     intro b hb
     rw[List.flatMap_append,List.mem_append,xcw]at hb
     rcases hb with hb|hb
     .exact Za hc _ _ ee b hb
     .exact Yz hc hf b (by simpa[idsV,idsC]using hb)
    .rw[oM]at h;obtain⟨_,_,h2⟩:=h;cases h2
    .cases h
   .cases h
 case store t a x=>cases a<;>simp at hk
theorem behK{B:List Nat}(hk:xj o.op=3)(cq:Closed tmps H)(kk:Blk):valO Γ I ops (.keep B) o tmps (newB H kk) s=(valO Γ I ops (.keep B) o tmps H s).map fun r=>(r.1,newB r.2.1 kk,r.2.2):=by
 rcases yU (Γ:=Γ) (I:=I) (ops:=ops) (.keep B) o tmps with hc|hc|hc
 .rw[hc,hc]
  cases hq:evStep P o.op (xW tmps) H with
  | none=>
   cases tq:evStep P o.op (xW tmps) (newB H kk) with
   | none=>rfl
   | some q=>have:=(jP hk tq).2 H;rw[hq]at this;cases this
  | some q=>
   obtain⟨h1,h2⟩:=jP hk hq
   rw[h2]
   cases q with
   | val g u H0=>exact absurd rfl (h1 g u H0)
   | port p=>
    simp only[vd]
    cases I.step p s<;>rfl
   | call f args=>
    simp only[vd]
    rw[xgx cq.2 (xhN cq.1 hk hq)]
    cases wh Γ B f args H with
    | none=>rfl
    | some S=>
     simp only[dN]
     cases S.t.run I.step s with
     | none=>rfl
     | some r=>
      simp only
      cases S.f r.1<;>rfl
 .rw[hc,hc];rfl
 .rw[hc,hc];rfl
theorem XN{B:List Nat}(hk:xj o.op=3)(h:valO Γ I ops (.keep B) o tmps H s=some (v,H',s')):H'.length=H.length/\ ∀b∈B,blkAt H' b=blkAt H b:=by
 rcases yU (Γ:=Γ) (I:=I) (ops:=ops) (.keep B) o tmps with hc|hc|hc
 .rw[hc]at h
  cases hq:evStep P o.op (xW tmps) H with
  | none=>rw[hq]at h;cases h
  | some q=>
   obtain⟨h1,h2⟩:=jP hk hq
   rw[hq]at h
   cases q with
   | val g u H0=>exact absurd rfl (h1 g u H0)
   | port p=>
    simp only[vd]at h
    cases hs:I.step p s with
    | none=>rw[hs]at h;cases h
    | some vs=>rw[hs]at h;cases h;exact⟨rfl,fun _ _=>rfl⟩
   | call f args=>
    simp only[vd]at h
    cases ht:wh Γ B f args H with
    | none=>rw[ht]at h;cases h
    | some S=>
     rw[ht]at h
     simp only at h
     cases hr:S.t.run I.step s with
     | none=>rw[hr]at h;cases h
     | some r=>
      rw[hr]at h
      simp only at h
      cases hf:S.f r.1 with
      | none=>rw[hf]at h;cases h
      | some q=>
       rw[hf]at h
       cases h
       exact xgy ht hf
 .rw[hc]at h;cases h;exact⟨rfl,fun _ _=>rfl⟩
 .rw[hc]at h;cases h
theorem beh5(hk:xj o.op=5)(h:valO Γ I ops pu o tmps H s=some (v,H',s')):s'=s/\((H'=H/\Idle Γ I ops pu o tmps v)\/ ∃b kn,(∃t,(∃ty x,o.op = .store ty (.tmp t) x)/\ptrB (getT tmps t)=some b)/\H'=setB H b (some kn)):=by
 have az : ∃ty t x,o.op = .store ty (.tmp t) x:=by
  cases ab:o.op with
  | store ty a x=>cases a<;>first|exact⟨ty,_,x,rfl⟩|(simp[xj,ab]at hk)
  | lookup ty a x ok=>cases a<;>simp[xj,ab]at hk
  | call c=>obtain⟨callee,as,ats⟩:=c;cases callee<;>simp[xj,ab]at hk;try (split at hk<;>simp at hk)
  | _=>simp[xj,ab]at hk
 obtain⟨ty,t,x,az⟩:=az
 rcases yU (Γ:=Γ) (I:=I) (ops:=ops) pu o tmps with hc|hc|hc
 .rw[hc]at h
  cases hq:evStep P o.op (xW tmps) H with
  | none=>rw[hq]at h;cases h
  | some q=>
   rw[hq]at h
   rw[az]at hq
   simp only[evStep,xW]at hq
   split at hq
   .rename_i b p u ha hx
    split at hq
    .rename_i kb xs n hb ez hn
     split at hq
     .split at hq
      .rename_i g kn lx
       cases hq
       obtain⟨_,rfl,rfl,rfl,_⟩:=ju h
       exact⟨rfl,.inr ⟨b,kn,⟨t,⟨ty,x,az⟩,by rw[ha];rfl⟩,rfl⟩⟩
      .cases hq
     .cases hq
    .cases hq
   .rename_i b off i m f u ha hx
    split at hq
    .rename_i kb xs n hb ez hn
     split at hq
     .split at hq
      .rename_i g kn lx
       cases hq
       obtain⟨_,rfl,rfl,rfl,_⟩:=ju h
       exact⟨rfl,.inr ⟨b,kn,⟨t,⟨ty,x,az⟩,by rw[ha];rfl⟩,rfl⟩⟩
      .cases hq
     .cases hq
    .cases hq
   .cases hq
 .rw[hc]at h
  cases h
  exact⟨rfl,.inl ⟨rfl,hc⟩⟩
 .rw[hc]at h;cases h
theorem xhO{x y:C}(h:xfa x y=true):x=y:=by
  unfold xfa at h
  split at h<;>first
    | rfl
    | cases h
    | (simp only[dM,Nat.beq_eq,beq_iff_eq,decide_eq_true_eq]at h
       simp[h])
theorem xaj : ∀ {l m:List C},Yo l m=true->l=m
 | [],[],_=>rfl
 | x::l,y::m,h=>by
  simp only[Yo,dM]at h
  rw[xhO h.1,xaj h.2]
 | [],_::_,h=>by cases h
 | _::_,[],h=>by cases h
theorem ZB : ∀ {l m:List Int},qK l m=true->l=m
 | [],[],_=>rfl
 | x::l,y::m,h=>by
  simp only[qK,dM,decide_eq_true_eq]at h
  rw[h.1,ZB h.2]
 | [],_::_,h=>by cases h
 | _::_,[],h=>by cases h
theorem YA : ∀ {l m:List (List Int)},WY l m=true->l=m
 | [],[],_=>rfl
 | x::l,y::m,h=>by
  simp only[WY,dM]at h
  rw[ZB h.1,YA h.2]
 | [],_::_,h=>by cases h
 | _::_,[],h=>by cases h
theorem xd7{x y:Tab}(h:WA x y=true):x=y:=by
  unfold WA at h
  split at h<;>first
    | cases h
    | (simp only[dM,Nat.beq_eq,decide_eq_true_eq]at h
       first
         | (obtain⟨h1,h2⟩:=h;rw[h1,ZB h2])
         | (obtain⟨h1,h2⟩:=h;rw[h1,YA h2])
         | (obtain⟨⟨h0,h1⟩,h2⟩:=h;rw[h0,h1,ZB h2])
         | (obtain⟨⟨h0,h1⟩,h2⟩:=h;rw[h0,h1,YA h2])
         | (obtain⟨h1,h2⟩:=h;rw[h1,h2]))
theorem xcx{x y:Option Tab}(h:Xw x y=true):x=y:=by
 cases x<;>cases y
 .rfl
 .cases h
 .cases h
 .rw[xd7 h]
theorem xd8{x y:Option Blk}(h:Xx x y=true):x=y:=by
 cases x with
 | none=>cases y with
  | none=>rfl
  | some y=>cases h
 | some x=>cases y with
  | none=>cases h
  | some y=>
   obtain⟨c,e,g,t⟩:=x
   obtain⟨c',e',g',t'⟩:=y
   simp only[Xx,dM,Nat.beq_eq,beq_iff_eq]at h
   obtain⟨⟨⟨h1,h2⟩,h3⟩,h4⟩:=h
   rw[xaj h1,h2,h3,xcx h4]
theorem xgz{A:List Nat}{H H':Heap}(h:kA A H H'=true){b:Nat}(hb:b∈A):blkAt H' b=blkAt H b:=by
 simp only[kA,List.all_eq_true]at h
 exact(xd8 (h b hb)).symm
theorem behA{B:List Nat}(hk:xj o.op=3)(h:valO Γ I ops (.avoid B) o tmps H s=some (v,H',s')) : ∀b∈B,blkAt H' b=blkAt H b:=by
 intro b hb
 rcases yU (Γ:=Γ) (I:=I) (ops:=ops) (.avoid B) o tmps with hc|hc|hc
 .rw[hc]at h
  cases hq:evStep P o.op (xW tmps) H with
  | none=>rw[hq]at h;cases h
  | some q=>
   obtain⟨h1,h2⟩:=jP hk hq
   rw[hq]at h
   cases q with
   | val g u H0=>exact absurd rfl (h1 g u H0)
   | port p=>
    simp only[vd]at h
    cases hs:I.step p s with
    | none=>rw[hs]at h;cases h
    | some vs=>rw[hs]at h;cases h;rfl
   | call f args=>
    simp only[vd]at h
    split at h
    .rename_i sj
     unfold Wz at sj
     split at sj
     .rename_i l hl
      rw[List.all_eq_true]at sj
      have:=sj b hb
      simp only[dM,Bool.not_eq_true',decide_eq_true_eq]at this
      obtain⟨Hr,ao⟩:=this
      have Fk:b∉l:=fun hm=>by rw[List.contains_iff_mem.2 hm]at Hr;cases Hr
      unfold Vw at h
      cases ht:wJ Γ f args H with
      | none=>rw[ht]at h;cases h
      | some S=>
       rw[ht]at h
       simp only at h
       cases hr:S.t.run I.step s with
       | none=>rw[hr]at h;cases h
       | some r=>
        rw[hr]at h
        simp only at h
        cases hf:S.f r.1 with
        | none=>rw[hf]at h;cases h
        | some q=>
         rw[hf]at h
         cases h
         exact xbd ht hf hl Fk ao
     .cases sj
    .split at h
     .rename_i r hr
      split at h
      .rename_i za
       cases h
       exact xgz za hb
      .cases h
     .cases h
 .rw[hc]at h;cases h;rfl
 .rw[hc]at h;cases h
theorem beh6(hk:xj o.op=6)(h:valO Γ I ops .fresh o tmps H s=some (v,H',s')):s'=s/\((H'=H/\Idle Γ I ops .fresh o tmps v)\/ ∃k,H'=newB H k):=by
 rcases yU (Γ:=Γ) (I:=I) (ops:=ops) .fresh o tmps with hc|hc|hc
 .rw[hc]at h
  cases hq:evStep P o.op (xW tmps) H with
  | none=>rw[hq]at h;cases h
  | some q=>
   obtain⟨g,u,H0,rfl,_,h2⟩:=xai hk hq
   rw[hq]at h
   obtain⟨_,rfl,rfl,rfl,hs⟩:=ju h
   exact⟨rfl,.inr (h2 hs)⟩
 .rw[hc]at h
  cases h
  exact⟨rfl,.inl ⟨rfl,hc⟩⟩
 .rw[hc]at h;cases h
theorem beh6p{B:List Nat}(hk:xj o.op=6)(h:valO Γ I ops (.part B) o tmps H s=some (v,H',s')):s'=s/\((H'=H/\Idle Γ I ops (.part B) o tmps v)\/ ∀a∈B,a<H.length->blkAt H' a=blkAt H a):=by
 rcases yU (Γ:=Γ) (I:=I) (ops:=ops) (.part B) o tmps with hc|hc|hc
 .rw[hc]at h
  cases hq:evStep P o.op (xW tmps) H with
  | none=>rw[hq]at h;cases h
  | some q=>
   obtain⟨g,u,H0,rfl,h2,_⟩:=xai hk hq
   rw[hq]at h
   obtain⟨_,rfl,rfl,rfl,hs⟩:=ju h
   simp only[okV,List.all_eq_true]at hs
   exact⟨rfl,.inr fun a ha hl=>h2 a hl (hs a ha)⟩
 .rw[hc]at h
  cases h
  exact⟨rfl,.inl ⟨rfl,hc⟩⟩
 .rw[hc]at h;cases h
def Parts(tmps:Tm)(pu:PM)(x:Oper):Prop :=∃B,pu = .part B/\ ∀ty t b (p:Nat),x.op = .load ty (.tmp t)->ptrB (getT tmps t)=some b->b∈B
theorem xcy(H:Heap)(k:Blk):(newB H k).length=H.length+1:=by simp[newB]
theorem vM{H:Heap}{k:Blk}{b:Nat}(h:b<H.length):blkAt (newB H k) b=blkAt H b:=by
 rw[yC,dA (by omega)]
def xd9(tmps:Tm)(pu:PM)(x:Oper):Prop:=xj x.op=1/\ ∃B,(pu = .avoid B\/pu = .keep B)/\ ∀ty t b (p:Nat),x.op = .load ty (.tmp t)->ptrB (getT tmps t)=some b->b∈B
theorem xea{i j:Nat}(hk:Zp i j=true)(hi : ¬i=0)(hj : ¬j=0):(i=1/\j=1)\/(i=1/\j=2)\/(i=1/\j=3)\/(i=2/\j=1)\/(i=3/\j=1)\/(i=2/\j=3)\/(i=3/\j=2)\/(i=1/\j=5)\/(i=1/\j=6)\/(i=6/\j=1)\/(i=7/\j=1)\/(i=7/\j=2)\/(i=7/\j=7)\/(i=1/\j=7)\/(i=2/\j=7):=by
 simp only[Zp,Bool.or_eq_true,dM,beq_iff_eq,decide_eq_true_eq]at hk
 rcases hk with(((((((((h|h)|h)|h)|h)|h)|h)|h)|h)|h)|h
 .exact absurd h hi
 .exact absurd h hj
 .obtain⟨rfl,h⟩:=h
  have:j=1\/j=2\/j=3:=by omega
  rcases this with rfl|rfl|rfl<;>simp
 .obtain⟨rfl,h⟩:=h
  have:i=1\/i=2\/i=3:=by omega
  rcases this with rfl|rfl|rfl<;>simp
 rotate_right
 .obtain⟨rfl,h|h⟩:=h<;>subst h<;>simp
 rotate_right
 .obtain⟨rfl,(h|h)|h⟩:=h<;>subst h<;>simp
 all_goals
  obtain⟨rfl,rfl⟩:=h
  simp
theorem xhP{x y:Oper}{px py:PM}{vx vy:V}{Hx Hy:Heap}{sx sy:σ}(hk:Zp (xj x.op) (xj y.op)=true)(hx:valO Γ I ops px x tmps H s=some (vx,Hx,sx))(hy:valO Γ I ops py y tmps Hx sx=some (vy,Hy,sy))
  (u9:xj x.op=3->(xj y.op=1\/xj y.op=2)->px = .pure\/xd9 tmps px y\/(xj y.op=2/\ ∃B,px = .keep B)) (Hn:xj y.op=3->(xj x.op=1\/xj x.op=2)->py = .pure\/xd9 tmps py x\/(xj x.op=2/\ ∃B,py = .keep B)) (hs : ∀t b (p:Nat),ptrB (getT tmps t)=some b->b<H.length)
  (cq:Closed tmps H) (bf:xj x.op=1->xj y.op=5 ->∀tx t tz z q b (p:Nat) c,x.op = .load tx (.tmp t)->y.op = .store tz (.tmp z) q->ptrB (getT tmps t)=some b->ptrB (getT tmps z)=some c->b≠c)
  (Li:xj x.op=6->xj y.op=1->px = .fresh\/Parts tmps px y) (Lh:xj y.op=6->xj x.op=1->py = .fresh\/Parts tmps py x) :
  ∃H1 s1,valO Γ I ops py y tmps H s=some (vy,H1,s1)/\valO Γ I ops px x tmps H1 s1=some (vx,Hy,sy):=by
 have idleX:Hx=H->sx=s->Idle Γ I ops px x tmps vx ->∃H1 s1,valO Γ I ops py y tmps H s=some (vy,H1,s1)/\valO Γ I ops px x tmps H1 s1=some (vx,Hy,sy):=by
  rintro rfl rfl hi
  exact⟨Hy,sy,hy,hi _ _⟩
 have idleY:Hy=Hx->sy=sx->Idle Γ I ops py y tmps vy ->∃H1 s1,valO Γ I ops py y tmps H s=some (vy,H1,s1)/\valO Γ I ops px x tmps H1 s1=some (vx,Hy,sy):=by
  rintro rfl rfl hi
  exact⟨H,s,hi _ _,hx⟩
 by_cases tg:xj x.op=0
 .obtain⟨h1,h2,h3⟩:=beh0 tg hx
  exact idleX h1 h2 h3
 by_cases Hf:xj y.op=0
 .obtain⟨h1,h2,h3⟩:=beh0 Hf hy
  exact idleY h1 h2 h3
 have Bm:=xea hk tg Hf
 rcases Bm with⟨k1,k2⟩|⟨k1,k2⟩|⟨k1,k2⟩|⟨k1,k2⟩|⟨k1,k2⟩|⟨k1,k2⟩|⟨k1,k2⟩|⟨k1,k2⟩|⟨k1,k2⟩|⟨k1,k2⟩|⟨k1,k2⟩|⟨k1,k2⟩|⟨k1,k2⟩|⟨k1,k2⟩|⟨k1,k2⟩
 .obtain⟨rfl,rfl,h3⟩:=beh1 k1 hx
  obtain⟨rfl,rfl,h6⟩:=beh1 k2 hy
  exact⟨_,_,hy,hx⟩
 .obtain⟨rfl,rfl,h3⟩:=beh1 k1 hx
  obtain⟨rfl,h6⟩:=beh2 k2 hy
  rcases h3 with h3|⟨b,⟨t,p,_,hb⟩,h3⟩
  .exact idleX rfl rfl h3
  .rcases h6 with⟨rfl,h6⟩|⟨k,rfl,h6⟩
   .exact idleY rfl rfl h6
   .exact⟨_,_,hy,h3 _ _ (vM (hs t b p hb))⟩
 .obtain⟨rfl,rfl,h3⟩:=beh1 k1 hx
  rcases h3 with h3|⟨b,⟨t,p,⟨ty,ab⟩,hb⟩,h3⟩
  .exact idleX rfl rfl h3
  .rcases Hn k2 (.inl k1)with rfl|⟨_,B,rfl|rfl,hB⟩|⟨h0,_⟩
   .obtain⟨rfl,h6⟩:=beh3 k2 hy
    exact⟨_,_,hy,h3 _ _ rfl⟩
   .exact⟨_,_,hy,h3 _ _ (behA k2 hy b (hB ty t b p ab hb))⟩
   .exact⟨_,_,hy,h3 _ _ ((XN k2 hy).2 b (hB ty t b p ab hb))⟩
   .omega
 .obtain⟨rfl,h3⟩:=beh2 k1 hx
  obtain⟨rfl,rfl,h6⟩:=beh1 k2 hy
  rcases h3 with⟨rfl,h3⟩|⟨k,rfl,h3⟩
  .exact idleX rfl rfl h3
  .rcases h6 with h6|⟨b,⟨t,p,_,hb⟩,h6⟩
   .exact idleY rfl rfl h6
   .exact⟨H,_,h6 _ _ (vM (hs t b p hb)).symm,hx⟩
 .obtain⟨rfl,rfl,h6⟩:=beh1 k2 hy
  rcases h6 with h6|⟨b,⟨t,p,⟨ty,ab⟩,hb⟩,h6⟩
  .exact idleY rfl rfl h6
  .rcases u9 k1 (.inl k2)with rfl|⟨_,B,rfl|rfl,hB⟩|⟨h0,_⟩
   .obtain⟨rfl,h3⟩:=beh3 k1 hx
    exact⟨_,_,h6 _ _ rfl,hx⟩
   .exact⟨_,_,h6 _ _ (behA k1 hx b (hB ty t b p ab hb)).symm,hx⟩
   .exact⟨_,_,h6 _ _ ((XN k1 hx).2 b (hB ty t b p ab hb)).symm,hx⟩
   .omega
 .obtain⟨rfl,h3⟩:=beh2 k1 hx
  rcases Hn k2 (.inr k1)with rfl|h|⟨_,B,rfl⟩
  .obtain⟨rfl,h6⟩:=beh3 k2 hy
   rcases h3 with⟨rfl,h3⟩|⟨k,rfl,h3⟩
   .exact idleX rfl rfl h3
   .exact⟨H,_,h6 H,h3 _ _ rfl⟩
  .have:=h.1;omega
  .rcases h3 with⟨rfl,h3⟩|⟨k,rfl,h3⟩
   .exact idleX rfl rfl h3
   .rw[behK k2 cq,oM]at hy
    obtain⟨⟨v1,H1,s1⟩,h4,h5⟩:=hy
    cases h5
    exact⟨H1,s1,h4,h3 _ _ (XN k2 h4).1⟩
 .rcases u9 k1 (.inr k2)with rfl|h|⟨_,B,rfl⟩
  .obtain⟨rfl,h3⟩:=beh3 k1 hx
   obtain⟨rfl,h6⟩:=beh2 k2 hy
   rcases h6 with⟨rfl,h6⟩|⟨k,rfl,h6⟩
   .exact idleY rfl rfl h6
   .exact⟨_,_,h6 _ _ rfl,h3 _⟩
  .have:=h.1;omega
  .obtain⟨rfl,h6⟩:=beh2 k2 hy
   rcases h6 with⟨rfl,h6⟩|⟨k,rfl,h6⟩
   .exact idleY rfl rfl h6
   .exact⟨newB H k,s,h6 _ _ (XN k1 hx).1.symm,by rw[behK k1 cq,hx];rfl⟩
 .obtain⟨rfl,rfl,h3⟩:=beh1 k1 hx
  obtain⟨rfl,h6⟩:=beh5 k2 hy
  rcases h3 with h3|⟨b,⟨t,p,⟨ty,ab⟩,hb⟩,h3⟩
  .exact idleX rfl rfl h3
  .rcases h6 with⟨rfl,h6⟩|⟨c,kn,⟨z,⟨Aj,q,Fg⟩,hc⟩,rfl⟩
   .exact idleY rfl rfl h6
   .have ae:=bf k1 k2 ty t Aj z q b p c ab Fg hb hc
    exact⟨_,_,hy,h3 _ _ (by rw[yz,xH,xH,List.getElem?_set_ne (fun hh=>ae hh.symm)])⟩
 .obtain⟨rfl,rfl,h3⟩:=beh1 k1 hx
  rcases Lh k2 k1 with rfl|⟨B,rfl,hB⟩
  .obtain⟨rfl,h6⟩:=beh6 k2 hy
   rcases h3 with h3|⟨b,⟨t,p,_,hb⟩,h3⟩
   .exact idleX rfl rfl h3
   .rcases h6 with⟨rfl,h6⟩|⟨k,rfl⟩
    .exact idleY rfl rfl h6
    .exact⟨_,_,hy,h3 _ _ (vM (hs t b p hb))⟩
  .obtain⟨rfl,h6⟩:=beh6p k2 hy
   rcases h3 with h3|⟨b,⟨t,p,⟨ty,ab⟩,hb⟩,h3⟩
   .exact idleX rfl rfl h3
   .rcases h6 with⟨rfl,h6⟩|h6
    .exact idleY rfl rfl h6
    .exact⟨_,_,hy,h3 _ _ (h6 b (hB ty t b p ab hb) (hs t b p hb))⟩
 .rcases Li k1 k2 with rfl|⟨B,rfl,hB⟩
  .obtain⟨rfl,h3⟩:=beh6 k1 hx
   obtain⟨rfl,rfl,h6⟩:=beh1 k2 hy
   rcases h3 with⟨rfl,h3⟩|⟨k,rfl⟩
   .exact idleX rfl rfl h3
   .rcases h6 with h6|⟨b,⟨t,p,_,hb⟩,h6⟩
    .exact idleY rfl rfl h6
    .exact⟨H,_,h6 _ _ (vM (hs t b p hb)).symm,hx⟩
  .obtain⟨rfl,h3⟩:=beh6p k1 hx
   obtain⟨rfl,rfl,h6⟩:=beh1 k2 hy
   rcases h3 with⟨rfl,h3⟩|h3
   .exact idleX rfl rfl h3
   .rcases h6 with h6|⟨b,⟨t,p,⟨ty,ab⟩,hb⟩,h6⟩
    .exact idleY rfl rfl h6
    .exact⟨H,_,h6 _ _ (h3 b (hB ty t b p ab hb) (hs t b p hb)).symm,hx⟩
 .obtain⟨rfl,rfl,h3⟩:=beh7 k1 hx
  obtain⟨rfl,rfl,h6⟩:=beh1 k2 hy
  exact⟨_,_,hy,hx⟩
 .obtain⟨rfl,rfl,h3⟩:=beh7 k1 hx
  obtain⟨rfl,h6⟩:=beh2 k2 hy
  rcases h3 with h3|⟨b,⟨t,ht⟩,h3⟩
  .exact idleX rfl rfl h3
  .rcases h6 with⟨rfl,h6⟩|⟨k,rfl,h6⟩
   .exact idleY rfl rfl h6
   .exact⟨_,_,hy,h3 _ _ (vM (cq.1 t _ ht b (by simp[idsV,idsC])))⟩
 .obtain⟨rfl,rfl,h3⟩:=beh7 k1 hx
  obtain⟨rfl,rfl,h6⟩:=beh7 k2 hy
  exact⟨_,_,hy,hx⟩
 .obtain⟨rfl,rfl,h3⟩:=beh1 k1 hx
  obtain⟨rfl,rfl,h6⟩:=beh7 k2 hy
  exact⟨_,_,hy,hx⟩
 .obtain⟨rfl,h3⟩:=beh2 k1 hx
  obtain⟨rfl,rfl,h6⟩:=beh7 k2 hy
  rcases h3 with⟨rfl,h3⟩|⟨k,rfl,h3⟩
  .exact idleX rfl rfl h3
  .rcases h6 with h6|⟨b,⟨t,ht⟩,h6⟩
   .exact idleY rfl rfl h6
   .exact⟨H,_,h6 _ _ (vM (cq.1 t _ ht b (by simp[idsV,idsC]))).symm,hx⟩
theorem xgA(l:Tm){x y:Option Tmp}(v u:V)(h : ∀d,x=some d->y≠some d):putT (putT l x v) y u=putT (putT l y u) x v:=by
 cases x with
 | none=>cases y<;>rfl
 | some d=>
  cases y with
  | none=>rfl
  | some e=>
   have ae:d≠e:=fun he=>h d rfl (by rw[he])
   simp only[putT,setT]
   rw[blt_eq,blt_eq]
   by_cases h1:d<l.n<;>by_cases h2:e<l.n<;>simp only[h1,h2,decide_true,decide_false,cond_true,cond_false,blt_eq]
   rw[Yq 9 _ _ _ _ _ ae]
end
end Lx
namespace Lx
open Go
/-! ### what lies ahead of what -/
def qn(acc:Array Nat)(o:Oper):Nat:=o.after.foldl (fun s e=>if Region.binds .any e then s ||| 2 ^ e.on ||| acc.getD e.on 0 else s) 0
theorem xcz(acc:Array Nat)(d:Nat) : ∀ (l:List Edge) (m:Nat),(l.foldl (fun s e=>if Region.binds .any e then s ||| 2 ^ e.on ||| acc.getD e.on 0 else s) m).testBit d=true->m.testBit d=true\/ ∃e∈l,Region.binds .any e=true/\(e.on=d\/(acc.getD e.on 0).testBit d=true)
 | [],m,h =>.inl h
 | e::l,m,h=>by
  rw[List.foldl_cons]at h
  rcases xcz acc d l _ h with h|⟨e',h1,h2⟩
  .by_cases hb:Region.binds .any e=true
   .rw[dB hb]at h
    simp only[Nat.testBit_or,Bool.or_eq_true,Nat.testBit_two_pow,decide_eq_true_eq]at h
    rcases h with(h|h)|h
    .exact .inl h
    .exact .inr ⟨e,by simp,hb,.inl h⟩
    .exact .inr ⟨e,by simp,hb,.inr h⟩
   .rw[dA hb]at h
    exact .inl h
  .exact .inr ⟨e',by simp[h1],h2⟩
theorem Wg : ∀ (l p:List Oper) (acc:Array Nat),acc.size=p.length->(∀ (i:Nat) o d,p[i]? = some o->(acc.getD i 0).testBit d=true ->∃e∈o.after.toList,Region.binds .any e=true/\(e.on=d\/(acc.getD e.on 0).testBit d=true))->
  ∀ (i:Nat) o d,(p++l)[i]? = some o->((l.foldl (fun acc o=>acc.push (qn acc o)) acc).getD i 0).testBit d=true->
   ∃e∈o.after.toList,Region.binds .any e=true/\(e.on=d\/((l.foldl (fun acc o=>acc.push (qn acc o)) acc).getD e.on 0).testBit d=true)
 | [],p,acc,hs,h,i,o,d,hi,hb=>h i o d (by simpa using hi) hb
 | x::l,p,acc,hs,h,i,o,d,hi,hb=>by
  rw[List.foldl_cons]at hb |-
  refine Wg l (p ++ [x]) (acc.push (qn acc x)) (by simp[hs]) (fun i o d hi hb =>?_) i o d (by simpa using hi) hb
  have old : ∀j,j<acc.size->(acc.push (qn acc x)).getD j 0=acc.getD j 0:=by
   intro j hj
   simp only[Array.getD_eq_getD_getElem?,Array.getElem?_push,dA (Nat.ne_of_lt hj)]
  have keep : ∀j d,(acc.getD j 0).testBit d=true->((acc.push (qn acc x)).getD j 0).testBit d=true:=by
   intro j d hj
   by_cases ao:j<acc.size
   .rw[old j ao];exact hj
   .rw[Array.getD_eq_getD_getElem?,Array.getElem?_eq_none (by omega)]at hj
    simp at hj
  by_cases ao:i<p.length
  .rw[List.getElem?_append_left ao]at hi
   rw[old i (by omega)]at hb
   obtain⟨e,h1,h2,h3⟩:=h i o d hi hb
   exact⟨e,h1,h2,h3.imp id (keep _ _)⟩
  .have un:i=p.length:=by
    have:=(List.getElem?_eq_some_iff.1 hi).1
    simp at this
    omega
   subst un
   simp at hi
   subst hi
   have e1:(acc.push (qn acc x)).getD p.length 0=qn acc x:=by
    rw[<- hs]
    simp[Array.getD_eq_getD_getElem?]
   rw[e1]at hb
   unfold qn at hb
   rw[<- Array.foldl_toList]at hb
   rcases xcz acc d _ _ hb with hb|⟨e,h1,h2,h3⟩
   .simp at hb
   .exact⟨e,h1,h2,h3.imp id (keep _ _)⟩
theorem Wh(ops:Array Oper)(i:Nat)(o:Oper)(d:Nat)(hi:ops[i]? = some o)(hb:((Region.before ops).getD i 0).testBit d=true) :
  ∃e∈o.after.toList,Region.binds .any e=true/\(e.on=d\/((Region.before ops).getD e.on 0).testBit d=true):=by
 have e1:Region.before ops=ops.toList.foldl (fun acc o=>acc.push (qn acc o)) #[]:=by
  unfold Region.before
  rw[<- Array.foldl_toList]
  rfl
 rw[e1]at hb |-
 exact Wg ops.toList [] #[] rfl (fun i o d h=>by simp at h) i o d (by simpa using hi) hb
theorem jh{ops:Array Oper}{S:Nat->Prop}(hS : ∀ (j:Nat) o,S j->ops[j]? = some o ->∀e∈o.after.toList,Region.binds .any e=true->S e.on)
  (d8 : ∀ (j:Nat) o,ops[j]? = some o ->∀e∈o.after.toList,Region.binds .any e=true->e.on<j) : ∀ (n i:Nat) o,i<=n->ops[i]? = some o->(∀e∈o.after.toList,Region.binds .any e=true->S e.on) ->∀d,¬S d->((Region.before ops).getD i 0).testBit d=false
 | 0,i,o,hn,hi,hr,d,hd=>by
  obtain rfl:i=0:=by omega
  cases hb:((Region.before ops).getD 0 0).testBit d with
  | false=>rfl
  | true=>
   obtain⟨e,h1,h2,_⟩:=Wh ops 0 o d hi hb
   exact absurd (d8 0 o hi e h1 h2) (by omega)
 | n+1,i,o,hn,hi,hr,d,hd=>by
  cases hb:((Region.before ops).getD i 0).testBit d with
  | false=>rfl
  | true=>
   obtain⟨e,h1,h2,h3⟩:=Wh ops i o d hi hb
   have ao:=d8 i o hi e h1 h2
   have hSe:=hr e h1 h2
   rcases h3 with h3|h3
   .exact absurd (h3▸hSe) hd
   .have A2:e.on<ops.size:=by have:=(Array.getElem?_eq_some_iff.1 hi).1;omega
    have Hp:=Array.getElem?_eq_getElem A2
    rw[jh hS d8 n e.on _ (by omega) Hp (fun e' h4 h5=>hS e.on _ hSe Hp e' h4 h5) d hd]at h3
    cases h3
theorem xgB{ops:Array Oper}(d8 : ∀ (j:Nat) o,ops[j]? = some o ->∀e∈o.after.toList,Region.binds .any e=true->e.on<j) : ∀ (n i d:Nat),i<=n->i<=d->i<ops.size->((Region.before ops).getD i 0).testBit d=false
 | n,i,d,hn,hd,hi=>jh (S:=fun j=>j<i) (fun j o hj ho e h1 h2=>by have:=d8 j o ho e h1 h2;omega) d8 i i _ (dJ _) (Array.getElem?_eq_getElem hi) (fun e h1 h2=>d8 i _ (Array.getElem?_eq_getElem hi) e h1 h2) d (by omega)
section
variable{P:Program}{σ:Type}{I:PortR P σ}{Γ:xK}{S0:Bool->Nat->Prop}{w0:World}{e0:Env}{ops:Array Oper}{β:Type}{k:St->T β}{b:Array Nat}{D:List Nat}
def valD(Γ:xK)(I:PortR P σ)(ops:Array Oper)(b:Array Nat)(D:List Nat)(A:List (Nat×Nat))(i:Nat)(o:Oper)(tmps:Tm)(H:Heap)(s:σ):Option (V×Heap×σ):=match offD ops b A i o tmps with
 | true=>valO Γ I ops (wL ops b D A i) o tmps H s
 | false=>none
theorem wm{A:List (Nat×Nat)}{i:Nat}{o:Oper}{l:List Nat}{tmps:Tm}{H:Heap}{s:σ}(ho:ops[i]? = some o):(yM P Γ ops b D A (i::l) ⟨tmps,H⟩ k).run I.step s=match valD Γ I ops b D A i o tmps H s with
  | some r=>(yM P Γ ops b D A l ⟨putT tmps o.dst r.1,r.2.1⟩ k).run I.step r.2.2
  | none=>none:=by
 simp only[yM,ho,valD]
 cases offD ops b A i o tmps with
 | false=>rfl
 | true=>
  simp only
  rw[qY,T.run_bind,ql]
  cases valO Γ I ops (wL ops b D A i) o tmps H s<;>rfl
theorem xbe{A:List (Nat×Nat)}{i:Nat}{o:Oper}{tmps:Tm}{H:Heap}{s:σ}{r:V×Heap×σ}(h:valD Γ I ops b D A i o tmps H s=some r):offD ops b A i o tmps=true/\valO Γ I ops (wL ops b D A i) o tmps H s=some r:=by
 unfold valD at h
 split at h
 .exact⟨‹_›,h⟩
 .cases h
theorem xbf{A:List (Nat×Nat)}{i:Nat}{o:Oper}{tmps:Tm}{H:Heap}{s:σ}(h:offD ops b A i o tmps=true):valD Γ I ops b D A i o tmps H s=valO Γ I ops (wL ops b D A i) o tmps H s:=by
 unfold valD
 rw[h]
theorem xcA{o:Oper}{tmps:Tm}{dst:Option Tmp}{v:V}(h : ∀d,dst=some d->d∉o.looksAt ops):Xy o.op (putT tmps dst v)=Xy o.op tmps:=by
 cases dst with
 | none=>rfl
 | some d=>
  have hd:=h d rfl
  unfold Xy
  split
  .rename_i ty q w ab
   have ae:q≠d:=by
    rintro rfl
    refine hd ?_
    simp only[Oper.looksAt,List.mem_append,List.mem_filterMap]
    exact .inl ⟨.tmp q,by rw[ab];simp[Op.operands],rfl⟩
   simp only[putT]
   rw[yN _ _ ae]
  .rfl
theorem xhQ{A:List (Nat×Nat)}{i:Nat}{o:Oper}{tmps:Tm}{dst:Option Tmp}{v:V}(h : ∀d,dst=some d->d∉o.looksAt ops):offD ops b A i o (putT tmps dst v)=offD ops b A i o tmps:=by
 unfold offD
 rw[xcA h]
theorem xcB{A:List (Nat×Nat)}{i:Nat}{o:Oper}{tmps:Tm}{dst:Option Tmp}{v:V}{H:Heap}{s:σ}(h : ∀d,dst=some d->d∉o.looksAt ops):valD Γ I ops b D A i o (putT tmps dst v) H s=valD Γ I ops b D A i o tmps H s:=by
 unfold valD
 rw[xhQ h,XM h]
theorem xgC{A:List (Nat×Nat)}{i:Nat}{o:Oper}{tmps:Tm}(h:xj o.op≠5):offD ops b A i o tmps=true:=by
 unfold offD
 simp[h]
def Alive(I:PortR P σ)(st:St)(s:σ):Prop :=∃S0 w0 e0 e F a w,Cfg I S0 w0 e0 e st s F a w
theorem xgD{o:Oper}{K:Act->World->Prop}{a:Act}{w:World}(h:qX P ops (fun _ _ _=>False) o K a w) : ∃a' w',K a' w':=by
  unfold qX at h
  split at h
  . unfold Oper.wp at h
    generalize(execOp a.eval o).run P w=r at h
    cases r with
    | ok n w'=>
      cases n<;>simp only[Oper.upon]at h<;>first
        | exact⟨_,_,h⟩
        | (obtain⟨en,w'',fr,hR,_⟩:=h []
           cases en<;>simp only at hR<;>first
            | exact⟨_,_,hR⟩
            | exact hR.elim
            | (obtain⟨_,_,h⟩:=hR;exact h.elim))
        | (obtain⟨v,w'',hR,_⟩:=h default [];exact⟨_,_,hR⟩)
        | exact h.elim
    | halt x w'=>cases x<;>simp only[Oper.upon]at h
  . exact⟨_,_,h⟩
theorem Alive.next{I:Port P σ}(hΓ : ∀f m,Γ f=some m->Xj I f m){pu:PM}{o:Oper}{tmps:Tm}{H:Heap}{s:σ}{r:V×Heap×σ}(h:Alive I.toPortR ⟨tmps,H⟩ s)(hv:valO Γ I.toPortR ops pu o tmps H s=some r):Alive I.toPortR ⟨putT tmps o.dst r.1,r.2.1⟩ r.2.2:=by
 obtain⟨S0,w0,e0,e,F,a,w,C⟩:=h
 have aa:(yl P Γ ops pu o ⟨tmps,H⟩ T.ret).run I.step s=some ((⟨putT tmps o.dst r.1,r.2.1⟩:St),r.2.2):=by rw[ql,hv];rfl
 obtain⟨ac,s',h1,_,h3⟩:=xbb hΓ C aa
 simp only[T.run,oI,dI]at h1
 obtain⟨rfl,rfl⟩:=h1
 obtain⟨a',w',e',F',C'⟩:=xgD (h3 (fun a' w' =>∃e' F',Cfg I.toPortR S0 w0 e0 e' ⟨putT tmps o.dst r.1,r.2.1⟩ r.2.2 F' a' w') _ fun e' F' a' w' C'=>⟨e',F',C'⟩)
 exact⟨S0,w0,e0,e',F',a',w',C'⟩
mutual
theorem XO{pv:Value}{e:Env} : ∀ (c:C) (v:Value),den pv e c=some v ->∀b∈idsC c,b<e.length
 | .bool _,v,h,b,hb | .int _ _,v,h,b,hb | .nilp,v,h,b,hb | .str _,v,h,b,hb | .gp _ _,v,h,b,hb | .nils,v,h,b,hb | .nilf,v,h,b,hb | .nili,v,h,b,hb | .nilm,v,h,b,hb | .port,v,h,b,hb=>by simp[idsC]at hb
 | .ptr c o,v,h,b,hb=>by
  simp only[idsC,List.mem_singleton]at hb;subst hb
  simp only[den,oM]at h;obtain⟨r,h1,_⟩:=h
  exact(List.getElem?_eq_some_iff.1 h1).1
 | .sl c o n m,v,h,b,hb=>by
  simp only[idsC,List.mem_singleton]at hb;subst hb
  simp only[den,oM]at h;obtain⟨r,h1,_⟩:=h
  exact(List.getElem?_eq_some_iff.1 h1).1
 | .slg c o n,v,h,b,hb=>by
  simp only[idsC,List.mem_singleton]at hb;subst hb
  simp only[den,dU]at h;obtain⟨r,h1,_⟩:=h
  exact(List.getElem?_eq_some_iff.1 h1).1
 | .pr c o i n f,v,h,b,hb=>by
  simp only[idsC,List.mem_singleton]at hb;subst hb
  simp only[den,oM]at h;obtain⟨r,h1,_⟩:=h
  exact(List.getElem?_eq_some_iff.1 h1).1
 | .slw c o z n m,v,h,b,hb=>by
  simp only[idsC,List.mem_singleton]at hb;subst hb
  simp only[den,oM]at h;obtain⟨r,h1,_⟩:=h
  exact(List.getElem?_eq_some_iff.1 h1).1
 | .slr c n,v,h,b,hb=>by
  simp only[idsC,List.mem_singleton]at hb;subst hb
  simp only[den,dU]at h;obtain⟨r,h1,_⟩:=h
  exact(List.getElem?_eq_some_iff.1 h1).1
 | .slv c z o n,v,h,b,hb=>by
  simp only[idsC,List.mem_singleton]at hb;subst hb
  simp only[den,dU]at h;obtain⟨r,h1,_⟩:=h
  exact(List.getElem?_eq_some_iff.1 h1).1
 | .slx c o d a n m,v,h,b,hb=>by
  simp only[idsC,List.mem_singleton]at hb;subst hb
  simp only[den,dU]at h;obtain⟨r,h1,_⟩:=h
  exact(List.getElem?_eq_some_iff.1 h1).1
 | .mp c,v,h,b,hb=>by
  simp only[idsC,List.mem_singleton]at hb;subst hb
  simp only[den,oM]at h;obtain⟨r,h1,_⟩:=h
  exact(List.getElem?_eq_some_iff.1 h1).1
 | .fn f caps,v,h,b,hb=>by
  simp only[den,oM]at h;obtain⟨vs,h1,_⟩:=h
  exact jQ caps vs h1 b (by simpa[idsC]using hb)
 | .meth s c,v,h,b,hb=>by
  simp only[den,oM]at h;obtain⟨u,h1,_⟩:=h
  exact XO c u h1 b (by simpa[idsC]using hb)
 | .ifc t c,v,h,b,hb=>by
  simp only[den,oM]at h;obtain⟨u,h1,_⟩:=h
  exact XO c u h1 b (by simpa[idsC]using hb)
theorem jQ{pv:Value}{e:Env} : ∀ (l:List C) (vs:List Value),denL pv e l=some vs ->∀b∈vf l,b<e.length
 | [],vs,h,b,hb=>by simp[vf]at hb
 | c::l,vs,h,b,hb=>by
  simp only[denL]at h
  split at h
  .rename_i v hv
   split at h
   .rename_i us hu
    simp only[vf,List.mem_append]at hb
    rcases hb with hb|hb
    .exact XO c v hv b hb
    .exact jQ l us hu b hb
   .cases h
  .cases h
end
theorem xgE{pv:Value}{e:Env}(x:V1)(v:Value)(h:vX pv e x=some v) : ∀b∈xe9 x,b<e.length:=by
 cases x with
 | c a=>exact XO a v h
 | agg l=>simp only[vX,oM]at h;obtain⟨vs,h1,_⟩:=h;exact jQ l vs h1
theorem xcC{pv:Value}{e:Env}(x:V)(v:Value)(h:denV pv e x=some v) : ∀b∈idsV x,b<e.length:=by
 cases x with
 | c a=>exact XO a v h
 | agg l=>simp only[denV,oM]at h;obtain⟨vs,h1,_⟩:=h;exact jQ l vs h1
 | tup l=>
  simp only[denV,oM]at h
  obtain⟨vs,h1,_⟩:=h
  intro b hb
  simp only[idsV,List.mem_flatMap]at hb
  obtain⟨y,hy,hb⟩:=hb
  obtain⟨i,hi⟩:=List.getElem?_of_mem hy
  obtain⟨z,h2,_⟩:=yD _ _ _ h1 i y hi
  exact xgE y z h2 b hb
theorem Alive.ptr{tmps:Tm}{H:Heap}{s:σ}(h:Alive I ⟨tmps,H⟩ s) : ∀t b (p:Nat),ptrB (getT tmps t)=some b->b<H.length:=by
 obtain⟨S0,w0,e0,e,F,a,w,C⟩:=h
 intro t b p hb
 have hl:=C.rel.emb.len
 simp only at hl
 have main : ∀v,getT tmps t=some v->b∈idsV v->b<H.length:=by
  intro v hv hm
  obtain⟨rv,_,h2⟩:=C.rel.tmps t v hv
  rw[hl];exact xcC v rv h2 b hm
 unfold ptrB at hb
 split at hb
 .rename_i c o hv;cases hb;exact main _ hv (by simp[idsV,idsC])
 .rename_i c o i n f hv;cases hb;exact main _ hv (by simp[idsV,idsC])
 .cases hb
theorem Alive.closed{tmps:Tm}{H:Heap}{s:σ}(h:Alive I ⟨tmps,H⟩ s):Closed tmps H:=by
 obtain⟨S0,w0,e0,e,F,a,w,C⟩:=h
 have hl:=C.rel.emb.len
 simp only at hl
 refine⟨fun t v hv b hb =>?_,fun i k hk b hb =>?_⟩
 .obtain⟨rv,_,h2⟩:=C.rel.tmps t v hv
  rw[hl];exact xcC v rv h2 b hb
 .obtain⟨r,cs,_,hd,_⟩:=C.rel.emb.lies i k hk
  have ay:=C.rel.emb.ok i k hk
  cases ht:k.tab with
  | none=>
   rw[Blk.real_none ht]at hd
   rw[hl];exact jQ k.cells cs hd b hb
  | some t=>
   cases hq:t.isTok with
   | false=>rw[ay t ht hq]at hb;simp[vf]at hb
   | true=>
    cases t<;>first|cases hq|skip
    rw[Blk.real_tok ht]at hd
    rw[hl];exact jQ k.cells cs hd b hb
def Off(ops:Array Oper)(A:List (Nat×Nat))(pu:PM)(y:Oper):Prop:=pu = .pure\/(∃q B,xj y.op=1/\yp ops y.op=some q/\(pu = .avoid B\/pu = .keep B)/\ ∀c,(q,c)∈A->c∈B)\/(xj y.op=2/\ ∃B,pu = .keep B)
def Diff(ops:Array Oper)(b:Array Nat)(A:List (Nat×Nat))(j:Nat)(x y:Oper):Prop :=∃q,yp ops x.op=some q/\((∃q',yp ops y.op=some q'/\ ∀c c',(q,c)∈A->(q',c')∈A->c≠c')\/(yp ops y.op=none/\q∈besides ops b j))
def OffP(ops:Array Oper)(A:List (Nat×Nat))(pu:PM)(y:Oper):Prop:=pu = .fresh\/ ∃q B,yp ops y.op=some q/\pu = .part B/\ ∀c,(q,c)∈A->c∈B
def xfi(ops:Array Oper)(b:Array Nat)(D:List Nat)(A:List (Nat×Nat))(i j:Nat):Prop :=∃x y,ops[i]? = some x/\ops[j]? = some y/\Xd ops x y=true/\
 (xj x.op=3->(xj y.op=1\/xj y.op=2)->Off ops A (wL ops b D A i) y)/\
 (xj y.op=3->(xj x.op=1\/xj x.op=2)->Off ops A (wL ops b D A j) x)/\
 (xj x.op=1->xj y.op=5->Diff ops b A j x y)/\
 (xj x.op=6->xj y.op=1->OffP ops A (wL ops b D A i) y)/\(xj y.op=6->xj x.op=1->OffP ops A (wL ops b D A j) x)
def HeldA(ops:Array Oper)(A:List (Nat×Nat))(tmps:Tm):Prop :=∀ (i:Nat) o q l c,ops[i]? = some o->yp ops o.op=some q->wK ops 6 q=some l->c∈l ->∀b,blkB (getT tmps c)=some b->(q,b)∈A
theorem blkB_of{v:Option V}{b:Nat}(h:ptrB v=some b):blkB v=some b:=by
 unfold ptrB at h
 split at h
 .cases h;rfl
 .cases h;rfl
 .cases h
theorem VA{ops:Array Oper} : ∀ (n q:Nat) (l:List Nat),wK ops n q=some l->q∈l
 | 0,q,l,h=>by cases h
 | n+1,q,l,h=>by
  unfold wK at h
  split at h
  .cases h;simp
  .split at h
   .simp only[oM]at h;obtain⟨l',_,rfl⟩:=h;simp
   .simp only[oM]at h;obtain⟨l',_,rfl⟩:=h;simp
   .simp only[oM]at h;obtain⟨l',_,rfl⟩:=h;simp
   .simp only[oM]at h;obtain⟨l',_,rfl⟩:=h;simp
   .cases h
  .cases h
def VB(o:Op)(x:Nat):Prop:=(∃t f,o = .fieldAddr t (.tmp x) f)\/(∃t ix,o = .indexAddr t (.tmp x) ix)\/o = .move (.tmp x)\/o = .nilCheck (.tmp x)
theorem VC{ops:Array Oper}{j:Nat}{o:Oper}{c:Nat}(ho:ops[j]? = some o)(hd:o.dst=some c) : ∀ (n q:Nat) (l:List Nat),wK ops n q=some l->c∈l ->∃x∈l,VB o.op x
 | 0,q,l,h,hc=>by cases h
 | n+1,q,l,h,hc=>by
  have ap:c=q->o∈ops.toList.filter fun o=>o.dst==some q:=by
   rintro rfl
   rw[List.mem_filter]
   exact⟨by rw[Array.mem_toList_iff];exact Array.mem_of_getElem? ho,by simp[hd]⟩
  unfold wK at h
  split at h
  .rename_i hf
   cases h
   simp only[List.mem_singleton]at hc
   have:=ap hc
   rw[hf]at this
   cases this
  .rename_i o' hf
   have main : ∀x,(wK ops n x).map (fun l=>q::l)=some l->(o=o'->VB o.op x) ->∃x∈l,VB o.op x:=by
    intro x hm ab
    simp only[oM]at hm
    obtain⟨l',h1,rfl⟩:=hm
    rcases List.mem_cons.1 hc with hq|ah
    .have:=ap hq
     rw[hf,List.mem_singleton]at this
     exact⟨x,List.mem_cons_of_mem _ (VA n x l' h1),ab this⟩
    .obtain⟨y,h2,h3⟩:=VC ho hd n x l' h1 ah
     exact⟨y,List.mem_cons_of_mem _ h2,h3⟩
   split at h
   .rename_i t x f ab
    exact main x h fun he =>.inl ⟨t,f,by rw[he,ab]⟩
   .rename_i t x ix ab
    exact main x h fun he =>.inr (.inl ⟨t,ix,by rw[he,ab]⟩)
   .rename_i x ab
    exact main x h fun he =>.inr (.inr (.inl (by rw[he,ab])))
   .rename_i x ab
    exact main x h fun he =>.inr (.inr (.inr (by rw[he,ab])))
   .cases h
  .cases h
theorem ev_root{P:Program}{o:Op}{x:Nat}{tmps:Tm}{H:Heap}{q:Stp}(ho:VB o x)(h:evStep P o (xW tmps) H=some q) :
    ∃g v,q = .val g v H/\ ∀b,blkB (some v)=some b->blkB (getT tmps x)=some b:=by
  rcases ho with⟨t,f,rfl⟩|⟨t,ix,rfl⟩|rfl|rfl
  rotate_right 2
  . simp only[evStep,oM]at h
    obtain⟨v,h1,rfl⟩:=h
    refine⟨_,_,rfl,fun b hb =>?_⟩
    have e1:xW tmps (.tmp x)=getT tmps x:=rfl
    rw[<- e1,h1];exact hb
  . have e1:xW tmps (.tmp x)=getT tmps x:=rfl
    simp only[evStep,e1]at h
    split at h
    . cases h;exact⟨_,_,rfl,fun b hb=>by cases hb⟩
    . cases h;exact⟨_,_,rfl,fun b hb=>by cases hb⟩
    . cases h;exact⟨_,_,rfl,fun b hb=>by cases hb⟩
    . split at h
      . split at h
        . cases h;exact⟨_,_,rfl,fun b hb=>by cases hb⟩
        . cases h
      . split at h
        . cases h;exact⟨_,_,rfl,fun b hb=>by cases hb⟩
        . cases h
      . cases h
    . rename_i v _ _ _ _ hx
      cases h
      exact⟨_,_,rfl,fun b hb=>by rw[hx];exact hb⟩
    . cases h
  . simp only[evStep,xW]at h
    split at h
    . rename_i fs b o _ hx
      split at h
      . split at h
        . split at h
          . cases h
          . cases h
            refine⟨_,_,rfl,fun b' hb =>?_⟩
            rw[hx];exact hb
        . cases h
      . cases h
    . rename_i fs b off i m o _ hx
      split at h
      . split at h
        . split at h
          . cases h
          . cases h
            refine⟨_,_,rfl,fun b' hb =>?_⟩
            rw[hx];exact hb
        . cases h
      . cases h
    . cases h
  . simp only[evStep]at h
    have e1:xW tmps (.tmp x)=getT tmps x:=rfl
    rw[e1]at h
    split at h
    all_goals first
      | cases h;done
      | (rename_i hx _
         simp only[oM]at h
         obtain⟨n,_,rfl⟩:=h
         refine⟨_,_,rfl,fun b' hb =>?_⟩
         rw[hx];exact hb)
      | (rename_i hx _
         split at h
         . cases h
           refine⟨_,_,rfl,fun b' hb =>?_⟩
           rw[hx];exact hb
         . cases h)
theorem xhR{pu:PM}{o:Oper}{x:Nat}{tmps:Tm}{H:Heap}{s:σ}{r:V×Heap×σ}(ho:VB o.op x)(h:valO Γ I ops pu o tmps H s=some r) :
  ∀b,blkB (some r.1)=some b->blkB (getT tmps x)=some b:=by
 have main:vd Γ I pu H s (evStep P o.op (xW tmps) H)=some r ->∀b,blkB (some r.1)=some b->blkB (getT tmps x)=some b:=by
  intro h
  cases hq:evStep P o.op (xW tmps) H with
  | none=>rw[hq]at h;cases h
  | some q=>
   obtain⟨g,v,rfl,hv⟩:=ev_root ho hq
   rw[hq]at h
   simp only[vd]at h
   split at h
   .cases h;exact hv
   .cases h
 unfold valO at h
 split at h
 .exact main h
 .split at h
  .cases h
  .split at h
   .split at h
    .exact main h
    .cases h;intro b hb;cases hb
   .cases h;intro b hb;cases hb
   .cases h
theorem HeldA.ptr{A:List (Nat×Nat)}{tmps:Tm}(h:HeldA ops A tmps){i:Nat}{x:Oper}{q b:Nat}(hx:ops[i]? = some x)(hq:yp ops x.op=some q)(hb:ptrB (getT tmps q)=some b):(q,b)∈A:=by
 have hs:(wK ops 6 q).isSome=true:=by
  unfold yp at hq
  split at hq
  .split at hq
   .rename_i hh;cases hq;exact hh
   .cases hq
  .split at hq
   .rename_i hh;cases hq;exact hh
   .cases hq
  .cases hq
 obtain⟨l,hl⟩:=Option.isSome_iff_exists.1 hs
 exact h i x q l q hx hq hl (VA _ _ _ hl) b (blkB_of hb)
theorem ky{o:Op}{q:Nat}(h:yp ops o=some q):(∃ty,o = .load ty (.tmp q))\/ ∃ty x,o = .store ty (.tmp q) x:=by
 unfold yp at h
 split at h
 .rename_i ty q'
  split at h
  .cases h
   exact .inl ⟨ty,rfl⟩
  .cases h
 .rename_i ty q' x
  split at h
  .cases h
   exact .inr ⟨ty,x,rfl⟩
  .cases h
 .cases h
theorem HeldA.put{A:List (Nat×Nat)}{tmps:Tm}(h:HeldA ops A tmps){j:Nat}{o:Oper}{pu:PM}{H:Heap}{s:σ}{r:V×Heap×σ}(ho:ops[j]? = some o)(hv:valO Γ I ops pu o tmps H s=some r):HeldA ops A (putT tmps o.dst r.1):=by
 intro i x q l c hx hq hl hc b hb
 cases hd:o.dst with
 | none=>rw[hd]at hb;exact h i x q l c hx hq hl hc b hb
 | some d=>
  rw[hd]at hb
  simp only[putT]at hb
  by_cases dw:c=d
  .subst dw
   obtain⟨y,hy,ab⟩:=VC ho hd 6 q l hl hc
   cases hg:getT (setT tmps c r.1) c with
   | none=>rw[hg]at hb;cases hb
   | some u=>
    obtain⟨_,rfl⟩:=kM hg
    rw[hg]at hb
    exact h i x q l y hx hq hl hy b (xhR ab hv b hb)
  .rw[yN _ _ dw]at hb
   exact h i x q l c hx hq hl hc b hb
theorem HeldA.avoids{A:List (Nat×Nat)}{tmps:Tm}(h:HeldA ops A tmps){i:Nat}{x:Oper}(hx:ops[i]? = some x){pu:PM}(hp:Off ops A pu x):pu = .pure\/xd9 tmps pu x\/(xj x.op=2/\ ∃B,pu = .keep B):=by
 rcases hp with hp|⟨q,B,h1,h2,h3,h4⟩|hp
 .exact .inl hp
 .refine .inr (.inl ⟨h1,B,h3,fun ty t b p ab hg=>h4 b ?_⟩)
  obtain⟨Aj,h5⟩|⟨Aj,y',h5⟩:=ky h2
  .rw[h5]at ab
   cases ab
   exact h.ptr hx h2 hg
  .rw[h5]at ab;cases ab
 .exact .inr (.inr hp)
theorem HeldA.parts{A:List (Nat×Nat)}{tmps:Tm}(h:HeldA ops A tmps){i:Nat}{x:Oper}(hx:ops[i]? = some x){pu:PM}(hp:OffP ops A pu x):pu = .fresh\/Parts tmps pu x:=by
 rcases hp with hp|⟨q,B,h2,h3,h4⟩
 .exact .inl hp
 .refine .inr ⟨B,h3,fun ty t b p ab hg=>h4 b ?_⟩
  obtain⟨Aj,h5⟩|⟨Aj,y',h5⟩:=ky h2
  .rw[h5]at ab
   cases ab
   exact h.ptr hx h2 hg
  .rw[h5]at ab;cases ab
theorem HeldA.diff{A:List (Nat×Nat)}{tmps:Tm}(h:HeldA ops A tmps){i j:Nat}{x y:Oper}(hx:ops[i]? = some x)(hy:ops[j]? = some y)(bw:offD ops b A j y tmps=true)(hd:xj x.op=1->xj y.op=5->Diff ops b A j x y) :
  xj x.op=1->xj y.op=5 ->∀tx t tz z q b (p:Nat) c,x.op = .load tx (.tmp t)->y.op = .store tz (.tmp z) q->ptrB (getT tmps t)=some b->ptrB (getT tmps z)=some c->b≠c:=by
 intro k1 k5 tx t tz z w b0 p c ui zy hb hc
 obtain⟨q,h1,⟨q',h2,h3⟩|⟨hn,Lb⟩⟩:=hd k1 k5
 rotate_left
 .obtain⟨ty,h5⟩|⟨ty,u,h5⟩:=ky h1
  .rw[h5]at ui;cases ui
   have hm:=h.ptr hx h1 hb
   have az:Xy y.op tmps=some c:=by rw[zy];exact hc
   unfold offD at bw
   rw[az,hn]at bw
   simp only[k5,beq_self_eq_true,Bool.not_true,Option.isSome_none,Bool.or_self,Bool.false_or,List.all_eq_true]at bw
   have h7:=bw _ hm
   have h8:(besides ops b j).contains t=true:=by simpa using Lb
   simp only[h8,Bool.not_true,Bool.false_or,bne_iff_ne,ne_eq]at h7
   exact h7
  .rw[h5]at ui;cases ui
 obtain⟨ty,h5⟩|⟨ty,u,h5⟩:=ky h1
 .rw[h5]at ui;cases ui
  obtain⟨Aj,h6⟩|⟨Aj,u,h6⟩:=ky h2
  .rw[h6]at zy;cases zy
  .rw[h6]at zy;cases zy
   exact h3 b0 c (h.ptr hx h1 hb) (h.ptr hy h2 hc)
 .rw[h5]at ui;cases ui
theorem wi{ops:Array Oper}{i:Nat}{o:Oper}(h:ops[i]? = some o):(o,i)∈ops.toList.zipIdx:=by
 rw[List.mem_zipIdx_iff_getElem?]
 simpa using h
theorem Xm{ops:Array Oper}(ay:vB ops b D=true) : ∀ (j:Nat) o,ops[j]? = some o ->∀e∈o.after.toList,Region.binds .any e=true->e.on<j:=by
 intro j o ho e he hb
 unfold vB at ay
 simp only[dM,List.all_eq_true]at ay
 have h1:=ay.1 (o,j) (wi ho)
 simp only[Array.all_eq_true_iff_forall_mem]at h1
 have h2:=h1 e (by simpa using he)
 simp only[hb,Bool.not_true,Bool.false_or,decide_eq_true_eq]at h2
 exact h2
theorem xcD{ops:Array Oper}(ay:vB ops b D=true){i j:Nat}{x y:Oper}(hx:ops[i]? = some x)(hy:ops[j]? = some y)(gz:i<j)(hb:(b.getD j 0).testBit i=false)(hi:i∉D)(hj:j∉D):Xd ops x y=true:=by
 unfold vB at ay
 simp only[dM,List.all_eq_true]at ay
 have h1:=ay.2 (y,j) (wi hy) (x,i) (wi hx)
 have c1:D.contains i=false:=by simpa using hi
 have c2:D.contains j=false:=by simpa using hj
 simp only[gz,decide_true,Bool.not_true,Bool.false_or,hb,c1,c2]at h1
 exact h1
theorem xcE{ops:Array Oper}(D:List Nat)(ay:qL ops b=true):vB ops b D=true:=by
 unfold qL at ay
 unfold vB
 simp only[dM,List.all_eq_true]at ay |-
 refine⟨ay.1,fun p hp q hq =>?_⟩
 have:=ay.2 p hp q hq
 simp only[Bool.or_eq_true]at this |-
 rcases this with(h|h)|h
 .exact .inl (.inl (.inl (.inl h)))
 .exact .inl (.inr h)
 .exact .inr h
theorem VD{b:Array Nat}{D:List Nat}{A:List (Nat×Nat)}{i j:Nat}{x y:Oper}(hx:ops[i]? = some x)(hy:ops[j]? = some y)(k6:xj x.op=6)(k1:xj y.op=1)(ae:j≠i)(ho:vp b j i=false):OffP ops A (wL ops b D A i) y:=by
 unfold wL
 rw[hx]
 have n3:(xj x.op==3)=false:=by rw[k6];rfl
 have e6:(xj x.op==6)=true:=by rw[k6];rfl
 simp only[n3,e6,Bool.false_eq_true,if_false,if_true]
 split
 .exact .inl rfl
 .rename_i uc
  simp only[Bool.not_eq_true,List.any_eq_false]at uc
  have er:=uc (y,j) (wi hy)
  have sq:(j != i)=true:=by simpa using ae
  simp only[ho,sq,Bool.not_false,Bool.true_and]at er
  have held : ∃q,yp ops y.op=some q/\q∈besides ops b i:=by
   cases hq:yp ops y.op with
   | none=>rw[k1,hq]at er;simp at er
   | some q=>
    refine⟨q,rfl,?_⟩
    unfold besides
    rw[List.mem_filterMap]
    refine⟨(y,j),wi hy,?_⟩
    simp[ho,ae,k1,hq]
  obtain⟨q,hq,ap⟩:=held
  split
  .rename_i hb;rw[hb]at ap;cases ap
  .rename_i q0 l hb
   refine .inr ⟨q,_,hq,rfl,fun c hc =>?_⟩
   rw[List.mem_map]
   refine⟨(q,c),?_,rfl⟩
   rw[List.mem_filter]
   refine⟨hc,?_⟩
   rw[<- hb]
   simpa using ap
theorem xfj{b:Array Nat}{D:List Nat}{A:List (Nat×Nat)}{i j:Nat}{x y:Oper}(hx:ops[i]? = some x)(hy:ops[j]? = some y)(k3:xj x.op=3)(k12:xj y.op=1\/xj y.op=2)(ae:j≠i)(ho:vp b j i=false)(hD:j∉D) :
  Off ops A (wL ops b D A i) y:=by
 unfold wL
 rw[hx]
 simp only[k3,beq_self_eq_true,if_true]
 split
 .exact .inl rfl
 .rename_i uc
  simp only[Bool.not_eq_true,List.any_eq_false]at uc
  have er:=uc (y,j) (wi hy)
  have sq:(j != i)=true:=by simpa using ae
  simp only[ho,sq,Bool.not_false,Bool.true_and]at er
  have held:xj y.op=1 ->∃q,yp ops y.op=some q/\q∈besides ops b i:=by
   intro eh
   cases hq:yp ops y.op with
   | none=>rw[eh,hq]at er;simp at er
   | some q=>
    refine⟨q,rfl,?_⟩
    unfold besides
    rw[List.mem_filterMap]
    refine⟨(y,j),wi hy,?_⟩
    simp[ho,ae,eh,hq]
  split
  .rcases k12 with eh|cw
   .obtain⟨q,hq,ap⟩:=held eh
    refine .inr (.inl ⟨q,_,eh,hq,.inr rfl,fun c hc =>?_⟩)
    rw[List.mem_map]
    refine⟨(q,c),?_,rfl⟩
    rw[List.mem_filter]
    refine⟨hc,?_⟩
    simpa using ap
   .exact .inr (.inr ⟨cw,_,rfl⟩)
  .rename_i Fj
   simp only[Bool.not_eq_true,List.any_eq_false]at Fj
   have Em:=Fj (y,j) (wi hy)
   simp only[ho,sq,Bool.not_false,Bool.true_and]at Em
   have n2 : ¬xj y.op=2:=fun h2=>by rw[h2]at Em;simp[hD]at Em
   have eh:xj y.op=1:=k12.resolve_right n2
   obtain⟨q,hq,ap⟩:=held eh
   split
   .rename_i hb;rw[hb]at ap;cases ap
   .rename_i q0 l hb
    refine .inr (.inl ⟨q,_,eh,hq,.inl rfl,fun c hc =>?_⟩)
    rw[List.mem_map]
    refine⟨(q,c),?_,rfl⟩
    rw[List.mem_filter]
    refine⟨hc,?_⟩
    rw[<- hb]
    simpa using ap
theorem diff_of{b:Array Nat}{A:List (Nat×Nat)}(hd:qf ops b A=true){i j:Nat}{x y:Oper}(hx:ops[i]? = some x)(hy:ops[j]? = some y)(gz:i<j)(hb:(b.getD j 0).testBit i=false)(La:(b.getD i 0).testBit j=false) :
  xj x.op=1->xj y.op=5->Diff ops b A j x y:=by
 intro k1 k5
 unfold qf at hd
 simp only[List.all_eq_true]at hd
 have h1:=hd (y,j) (wi hy)
 simp only[k5,beq_self_eq_true,Bool.not_true,Bool.false_or,List.all_eq_true]at h1
 have h2:=h1 (x,i) (wi hx)
 simp only[gz,decide_true,Bool.not_true,Bool.false_or,hb,k1,beq_self_eq_true]at h2
 split at h2
 .rename_i q q' hq Fc
  refine⟨q,hq,.inl ⟨q',Fc,fun c c' hc ah =>?_⟩⟩
  simp only[List.all_eq_true]at h2
  have h3:=h2 (q,c) hc (q',c') ah
  simpa using h3
 .rename_i q hq Fc
  refine⟨q,hq,.inr ⟨Fc,?_⟩⟩
  unfold besides
  rw[List.mem_filterMap]
  refine⟨(x,i),wi hx,?_⟩
  have ae:i≠j:=by omega
  have ho:vp b i j=false:=by simp only[vp,hb,La,Bool.or_self]
  simp[ho,ae,k1,hq]
 .cases h2
theorem Wj(tmps:Tm):HeldA ops (kB ops tmps) tmps:=by
 intro i o q l c hx hq hl hc b hb
 unfold kB
 rw[List.mem_flatMap]
 refine⟨o,by rw[Array.mem_toList_iff];exact Array.mem_of_getElem? hx,?_⟩
 simp only[hq,hl,List.mem_filterMap]
 exact⟨c,hc,by rw[hb]⟩
/-! ### new blocks that are made late: in the world they may stand ahead -/
theorem Xn{o:Oper}(h:newOp P o=true):o.guard=none/\(∃d,o.dst=some d)/\((∃t,o.op = .alloc t)\/ ∃t len ps,o.op = .buildSlice t len ps)/\xj o.op=2:=by
 unfold newOp at h
 split at h
 .rename_i d hg hd
  refine⟨hg,⟨d,hd⟩,?_⟩
  split at h
  .rename_i t ab
   exact⟨.inl ⟨t,ab⟩,by rw[ab];rfl⟩
  .rename_i t len ps ab
   exact⟨.inr ⟨t,len,ps,ab⟩,by rw[ab];rfl⟩
  .cases h
 .cases h
structure LateD(P:Program)(ops:Array Oper)(D:List Nat):Prop where
 op : ∀d∈D,∃o,ops[d]? = some o/\newOp P o=true
 dep : ∀d∈D,∀c∈D,((Region.before ops).getD d 0).testBit c=false
 dst : ∀d∈D,∀i o o' dd,i≠d->ops[i]? = some o->ops[d]? = some o'->o'.dst=some dd->o.dst≠some dd
def FitP(ops:Array Oper)(b:Array Nat)(D:List Nat)(A:List (Nat×Nat))(p q:Nat):Prop:=
 (b.getD p 0).testBit q=false/\((b.getD q 0).testBit p=true\/xfi ops b D A p q\/
 (q∈D/\(∃x y,ops[p]? = some x/\ops[q]? = some y/\x.apart ops y=true)/\ ∀i,i<ops.size->(b.getD i 0).testBit q=true->(b.getD i 0).testBit p=true))
theorem FitP.apart{A:List (Nat×Nat)}{p q:Nat}(h:FitP ops b D A p q)(hb:(b.getD q 0).testBit p=false){x y:Oper}(hx:ops[p]? = some x)(hy:ops[q]? = some y):(∀d,x.dst=some d->d∉y.looksAt ops)/\ ∀d,y.dst=some d->d∉x.looksAt ops:=by
 rcases h.2 with h1|⟨x',y',h1,h2,h3,_⟩|⟨_,⟨x',y',h1,h2,h3⟩,_⟩
 .rw[hb]at h1;cases h1
 .rw[hx]at h1;rw[hy]at h2;cases h1;cases h2
  simp only[Xd,dM]at h3
  exact⟨(Oper.apart_spec h3.2).1,(Oper.apart_spec h3.2).2.2⟩
 .rw[hx]at h1;rw[hy]at h2;cases h1;cases h2
  exact⟨(Oper.apart_spec h3).1,(Oper.apart_spec h3).2.2⟩
theorem Emb.found{pv:Pv}{e:Env}{H:Heap}{w:World}(E:Emb pv e H w){kb:Blk}{vs:List Value}{x:Nat}(ht:kb.tab=none)(ow:kb.grown=false)(hd:denL pv e kb.cells=some vs)(cap:Nat)(hx:w.heap[x]? = some (.cells vs.toArray kb.elem (0,0)))(hn : ¬Own false e H x) :
  Emb pv (e ++ [(x,cap)]) (newB H kb) w:=by
 obtain⟨cs,t,g,tb⟩:=kb
 simp only at ht ow hd hx
 subst ht ow
 have En:Ext e (e ++ [(x,cap)]):=⟨_,rfl⟩
 have aj:=E.len
 have ar : ∀i k,blkAt (newB H ⟨cs,t,false,none⟩) i=some k->(i=H.length/\k=⟨cs,t,false,none⟩)\/(blkAt H i=some k/\i<H.length):=by
  intro i k h
  rw[yC]at h
  split at h
  .cases h;exact .inl ⟨‹_›,rfl⟩
  .refine .inr ⟨h,?_⟩
   rw[xH]at h
   by_cases hi:i<H.length
   .exact hi
   .rw[List.getElem?_eq_none (by omega)]at h;simp at h
 refine⟨by simp[newB,aj],fun i k hk =>?_,fun i j k k' r r' hk am hr ct he v1 v2 =>?_,fun i k hk =>?_⟩
 rotate_right
 .rcases ar i k hk with⟨_,rfl⟩|⟨h,_⟩
  .intro t ht _;cases ht
  .exact E.ok i k h
 .rcases ar i k hk with⟨rfl,rfl⟩|⟨hk,hi⟩
  .exact⟨(x,cap),vs,by simp[aj],yE En _ _ hd,Lies.mk (tl :=[]) rfl (by simpa using hx) (fun _=>rfl) (fun h=>by cases h)⟩
  .obtain⟨r,cs',hr,eq,hw⟩:=E.lies i k hk
   exact⟨r,cs',En.get hr,yE En _ _ eq,hw⟩
 .have old : ∀i k r,blkAt H i=some k->k.virt=false->i<H.length->(e ++ [(x,cap)])[i]? = some r->e[i]? = some r/\r.1≠x:=by
   intro i k r hk hv hi hr
   rw[List.getElem?_append_left (by omega)]at hr
   exact⟨hr,fun hh=>hn (hh▸vS hk hr hv)⟩
  have new : ∀r,(e ++ [(x,cap)])[H.length]? = some r->r.1=x:=by
   intro r hr
   rw[aj,List.getElem?_append_right (by omega)]at hr
   simp at hr
   simp[<- hr]
  rcases ar i k hk with⟨rfl,rfl⟩|⟨hk,hi⟩<;>rcases ar j k' am with⟨rfl,rfl⟩|⟨am,hj⟩
  .exact .inl rfl
  .exact absurd (he.symm.trans (new r hr)) (old j k' r' am v2 hj ct).2
  .exact absurd (he.trans (new r' ct)) (old i k r hk v1 hi hr).2
  .exact E.alone i j k k' r r' hk am (old i k r hk v1 hi hr).1 (old j k' r' am v2 hj ct).1 he v1 v2
theorem YB{pv:Pv}{e:Env}{H:Heap}{w:World}(E:Emb pv e H w){k:Blk}{cap x y:Nat}{q:Bool}(h:Own q (e ++ [(y,cap)]) (newB H k) x):Own q e H x\/x=y:=by
 obtain⟨i,k',r,h1,h2,h3,hv,h4⟩:=h
 rw[yC]at h1
 split at h1
 .rename_i hi
  right
  rw[hi,E.len,List.getElem?_append_right (by omega)]at h2
  simp at h2
  rw[<- h3,<- h2]
 .left
  have:i<H.length:=by
   rw[xH]at h1
   by_cases hi:i<H.length
   .exact hi
   .rw[List.getElem?_eq_none (by omega)]at h1;simp at h1
  rw[List.getElem?_append_left (by rw[<- E.len];exact this)]at h2
  exact⟨i,k',r,h1,h2,h3,hv,h4⟩
theorem Emb.unnew{pv:Pv}{e:Env}{H:Heap}{w w':World}{kb:Blk}{r:Nat×Nat}(E:Emb pv e H w)(E':Emb pv (e ++ [r]) (newB H kb) w'):Emb pv e H w':=by
 have aj:=E.len
 have hold : ∀i k,blkAt H i=some k->i<H.length/\blkAt (newB H kb) i=some k:=by
  intro i k h
  have hi:=Vy h
  exact⟨hi,by rw[vM hi];exact h⟩
 refine⟨aj,fun i k hk =>?_,E.alone,E.ok⟩
 obtain⟨hi,am⟩:=hold i k hk
 obtain⟨r1,cs,h1,h2,_⟩:=E.lies i k hk
 obtain⟨r2,Ah,g1,g2,g3⟩:=E'.lies i k am
 rw[List.getElem?_append_left (by omega),h1]at g1
 cases g1
 rw[yE ⟨[r],rfl⟩ _ _ h2]at g2
 cases g2
 exact⟨_,_,h1,h2,g3⟩
structure Waits(I:PortR P σ)(Γ:xK)(ops:Array Oper)(w0:World)(e:Env)(st:St)(F:Nat->Prop)(a:Act)(w:World)(d x:Nat):Prop where
 at_ : ∃ (o:Oper) (dd:Nat) (f:Nat->V) (kb:Blk) (rvf:Nat->Value) (vs:List Value),ops[d]? = some o/\o.dst=some dd/\kb.tab=none/\kb.grown=false/\(∀pu H s,valO Γ I ops pu o st.tmps H s=some (f H.length,newB H kb,s))/\(∀e x c,denV I.pv (e ++ [(x,c)]) (f e.length)=some (rvf x))/\denL I.pv e kb.cells=some vs/\
  (dd<a.tmps.size->a.tmps[dd]? = some (rvf x))/\w.heap[x]? = some (.cells vs.toArray kb.elem (0,0))
 own : ¬Own false e st.heap x
 port : ¬F x
 new:w0.heap.size<=x
structure LRow(I:PortR P σ)(Γ:xK)(ops:Array Oper)(D:List Nat)(A:List (Nat×Nat))(S0:Bool->Nat->Prop)(w0:World)(e0:Env)(U L:List Nat)(X:Nat->Nat)(e:Env)(st:St)(s:σ)(F:Nat->Prop)(a:Act)(w:World):Prop where
 cfg:Cfg I S0 w0 e0 e st s F a w
 lt : ∀i∈L,i<ops.size
 nd:L.Nodup
 fit:L.Pairwise (FitP ops (Region.before ops) D A)
 inn : ∀i∈U,i∈L
 waits : ∀i∈L,i∉U->i∈D/\Waits I Γ ops w0 e st F a w i (X i)
 inj : ∀i∈L,∀j∈L,i∉U->j∉U->X i=X j->i=j
 free : ∀i∈L,i∈D ->∀o d,ops[i]? = some o->o.dst=some d->getT st.tmps d=none
 held:HeldA ops A st.tmps
theorem LRow.told(hD:LateD P ops D){A:List (Nat×Nat)}{U l1 l2:List Nat}{X:Nat->Nat}{d:Nat}{e:Env}{st:St}{s:σ}{F:Nat->Prop}{a:Act}{w:World}{r:β×σ}
  (R:LRow I Γ ops D A S0 w0 e0 U (l1++d::l2) X e st s F a w) (hdU:d∉U) (h:(yM P Γ ops (Region.before ops) D A (d::(l1++l2)) st k).run I.step s=some r) :
  ∃e' ac,LRow I Γ ops D A S0 w0 e0 U (l1++l2) X e' ac s F a w/\(yM P Γ ops (Region.before ops) D A (l1++l2) ac k).run I.step s=some r:=by
 have hdL:d∈l1++d::l2:=by simp
 obtain⟨hdD,W⟩:=R.waits d hdL hdU
 obtain⟨o,dd,f,kb,rvf,vs,ho,bp,ht,hg,o7,hf,eu,Ew,Bn⟩:=W.at_
 obtain⟨tmps,H⟩:=st
 have av : ∀i∈l1++l2,i∈l1++d::l2:=by
  intro i hi
  rcases List.mem_append.1 hi with h|h<;>simp[h]
 have w9:d∉l1++l2:=by
  have:=R.nd
  rw[List.nodup_append]at this
  obtain⟨_,h2,h3⟩:=this
  rw[List.nodup_cons]at h2
  intro hm
  rcases List.mem_append.1 hm with hm|hm
  .exact h3 d hm d (by simp) rfl
  .exact h2.1 hm
 rw[wm ho]at h
 have ge:=o7 (wL ops (Region.before ops) D A d) H s
 have C0:=HeldA.put (tmps:=tmps) R.held ho ge
 have Cp:offD ops (Region.before ops) A d o tmps=true:=xgC (by
  obtain⟨o',gi,du⟩:=hD.op d hdD
  rw[ho]at gi;cases gi
  rw[(Xn du).2.2.2];decide)
 rw[xbf Cp,ge]at h
 simp only at h
 have E:=R.cfg.rel.emb
 refine⟨e ++ [(X d,0)],⟨putT tmps o.dst (f H.length),newB H kb⟩,⟨⟨⟨E.found ht hg eu 0 Bn W.own,?_,?_,R.cfg.rel.defers⟩,R.cfg.rep,?_,R.cfg.keeps,?_,R.cfg.ext.trans ⟨_,rfl⟩⟩,fun i hi=>R.lt i (av i hi),?_,?_,fun i hi =>?_,fun i hi hu =>?_,fun i hi j hj=>R.inj i (av i hi) j (av j hj),fun i hi hiD o' d' gi eq =>?_,C0⟩,h⟩
 .rw[Wd];exact R.cfg.rel.len
 .intro t' v hv
  simp only[bp,putT]at hv
  by_cases ht:t'=dd
  .subst ht
   obtain⟨ao,rfl⟩:=kM hv
   exact⟨_,Ew (Nat.lt_of_lt_of_le ao R.cfg.rel.len),by rw[E.len];exact hf e (X d) 0⟩
  .rw[yN _ _ ht]at hv
   obtain⟨gw,h1,h2⟩:=R.cfg.rel.tmps t' v hv
   exact⟨gw,h1,XD ⟨_,rfl⟩ _ _ h2⟩
 .intro b hb
  rcases YB E hb with hb|rfl
  .exact R.cfg.disj b hb
  .exact W.port
 .intro q b hb
  rcases hb with hb|hb
  .rcases YB E hb with hb|rfl
   .exact R.cfg.mine _ b (.inl hb)
   .exact .inr W.new
  .exact R.cfg.mine _ b (.inr hb)
 .have:=R.nd
  exact List.Nodup.sublist (List.Sublist.append_left (List.sublist_cons_self d l2) l1) this
 .exact List.Pairwise.sublist (List.Sublist.append_left (List.sublist_cons_self d l2) l1) R.fit
 .have:=R.inn i hi
  simp only[List.mem_append,List.mem_cons]at this |-
  rcases this with h|rfl|h
  .exact .inl h
  .exact absurd hi hdU
  .exact .inr h
 .obtain⟨h1,Wi⟩:=R.waits i (av i hi) hu
  refine⟨h1,?_,fun dk =>?_,Wi.port,Wi.new⟩
  .obtain⟨oi,di,fi,kbi,rvfi,vsi,q1,q2,q3,q4,q5,q6,q7,q8,q9⟩:=Wi.at_
   refine⟨oi,di,fi,kbi,rvfi,vsi,q1,q2,q3,q4,fun pu H2 s2 =>?_,q6,yE ⟨_,rfl⟩ _ _ q7,q8,q9⟩
   rw[XM]
   .exact q5 pu H2 s2
   .rcases List.mem_append.1 hi with hm|hm
    .exact(((List.pairwise_append.1 R.fit).2.2 i hm d (by simp)).apart (hD.dep d hdD i h1) q1 ho).2
    .exact(((List.pairwise_cons.1 (List.pairwise_append.1 R.fit).2.1).1 i hm).apart (hD.dep i h1 d hdD) ho q1).1
  .rcases YB E dk with hb|hb
   .exact Wi.own hb
   .have:=R.inj i (av i hi) d hdL hu hdU hb
    subst this
    exact w9 hi
 .have h1:=R.free i (av i hi) hiD o' d' gi eq
  have ae:d'≠dd:=by
   rintro rfl
   exact hD.dst d hdD i o' o d' (fun hh=>w9 (hh▸hi)) gi ho bp eq
  simp only[bp,putT,yN _ _ ae]
  exact h1
theorem LRow.fin{I:Port P σ}(hΓ : ∀f m,Γ f=some m->Xj I f m)(hD:LateD P ops D){A:List (Nat×Nat)}{X:Nat->Nat}{s:σ}{F:Nat->Prop}{a:Act}{w:World}{r:β×σ} : ∀ (L:List Nat) (e:Env) (st:St),LRow I.toPortR Γ ops D A S0 w0 e0 [] L X e st s F a w->(yM P Γ ops (Region.before ops) D A L st k).run I.step s=some r->
   ∃e' ac,Cfg I.toPortR S0 w0 e0 e' ac s F a w/\(k ac).run I.step s=some r
 | [],e,st,R,h=>⟨e,st,R.cfg,h⟩
 | d::L,e,st,R,h=>by
  obtain⟨e',ac,R',h'⟩:=LRow.told (l1 :=[]) hD R (by simp) h
  exact LRow.fin hΓ hD L e' ac R' h'
theorem Cfg.rebase{e:Env}{st:St}{s:σ}{F:Nat->Prop}{a:Act}{w:World}(C:Cfg I S0 w0 e0 e st s F a w):Cfg I (fun q b=>Own q e st.heap b\/F b) w e e st s F a w:=
 ⟨C.rel,C.rep,C.disj,Keeps.refl _ w,fun q b hb =>.inl hb,Ext.refl e⟩
theorem Cfg.compose{I':PortR P σ}{e e':Env}{st ac:St}{s s':σ}{F F':Nat->Prop}{a a':Act}{w w':World}(C:Cfg I S0 w0 e0 e st s F a w)(C':Cfg I' (fun q b=>Own q e st.heap b\/F b) w e e' ac s' F' a' w'):Cfg I' S0 w0 e0 e' ac s' F' a' w':=by
 refine⟨C'.rel,C'.rep,C'.disj,C.keeps.trans C'.keeps fun b hb=>C.mine _ b hb,fun q b hb =>?_,C.ext.trans C'.ext⟩
 rcases C'.mine _ b hb with h|h
 .exact C.mine _ b h
 .right
  have:=C.keeps.size
  omega
theorem least{p:Nat->Prop}{n:Nat}(h:p n) : ∃m,p m/\ ∀j,j<m ->¬p j:=by
 induction n using Nat.strongRecOn with
 | _ n ih=>
  by_cases hh : ∃m,m<n/\p m
  .obtain⟨m,h1,h2⟩:=hh
   exact ih m h1 h2
  .exact⟨n,h,fun j hj hp=>hh ⟨j,hj,hp⟩⟩
theorem xfk{A:List (Nat×Nat)}{d:Nat}{o:Oper}(ho:ops[d]? = some o){r:β×σ}{l2:List Nat} : ∀ (l1:List Nat) (tmps:Tm) (H:Heap) (s:σ),(∀c∈l1,∀x,ops[c]? = some x ->∀d',x.dst=some d'->d'∉o.looksAt ops)->
  (yM P Γ ops b D A (l1++d::l2) ⟨tmps,H⟩ k).run I.step s=some r ->∃pu H' s' rr,valO Γ I ops pu o tmps H' s'=some rr
 | [],tmps,H,s,hc,h=>by
  rw[List.nil_append,wm ho]at h
  split at h
  .exact⟨_,_,_,_,(xbe ‹_›).2⟩
  .cases h
 | c::l1,tmps,H,s,hc,h=>by
  cases hx:ops[c]? with
  | none=>rw[List.cons_append]at h;simp only[yM,hx,T.run]at h;cases h
  | some x=>
   rw[List.cons_append,wm hx]at h
   split at h
   .obtain⟨pu,H',s',rr,iq⟩:=xfk ho l1 _ _ _ (fun c' ah=>hc c' (by simp[ah])) h
    rw[XM (hc c (by simp) x hx)]at iq
    exact⟨pu,H',s',rr,iq⟩
   .cases h
theorem xak{A:List (Nat×Nat)}(ay:vB ops (Region.before ops) D=true)(zh:qf ops (Region.before ops) A=true){p q:Nat}(hp:p<ops.size)(hq:q<ops.size)(rn:p<q)(hpD:p∉D)(hqD:q∉D):FitP ops (Region.before ops) D A p q:=by
 have d8:=Xm ay
 have Ab:=xgB d8 p p q (dJ _) (by omega) hp
 refine⟨Ab,?_⟩
 cases hb:((Region.before ops).getD q 0).testBit p with
 | true=>exact .inl rfl
 | false=>
  have ab:=Array.getElem?_eq_getElem hp
  have sk:=Array.getElem?_eq_getElem hq
  refine .inr (.inl ⟨_,_,ab,sk,xcD ay ab sk rn hb hpD hqD,fun k3 k12 =>?_,fun k3 k12 =>?_,diff_of zh ab sk rn hb Ab,fun k6 k1 =>?_,fun k6 k1 =>?_⟩)
  .exact xfj ab sk k3 k12 (by omega) (by simp only[vp,Ab,hb,Bool.or_self]) hqD
  .exact xfj sk ab k3 k12 (by omega) (by simp only[vp,Ab,hb,Bool.or_self]) hpD
  .exact VD ab sk k6 k1 (by omega) (by simp only[vp,Ab,hb,Bool.or_self])
  .exact VD sk ab k6 k1 (by omega) (by simp only[vp,Ab,hb,Bool.or_self])
theorem Wk{f:Nat->Nat->Bool} : ∀ {l:List Nat},Xz f l=true->l.Pairwise (fun p q=>f p q=true)
 | [],_=>List.Pairwise.nil
 | x::l,h=>by
  simp only[Xz,dM,List.all_eq_true]at h
  exact List.Pairwise.cons h.1 (Wk h.2)
theorem ji(m:Nat) : ∀ (d i:Nat) (s:Sl) (t:Nat) (v:V),getS d (wT m d i s) t=some v->m.testBit (i+t)=true
 | 0,i,s,t,v,h=>by
  cases s with
  | leaf w=>
   simp only[wT]at h
   cases hb:m.testBit i with
   | true=>
    rw[hb]at h
    simp only[cond_true,getS]at h
    cases ht:Nat.beq t 0 with
    | true=>rw[dP ht];simpa using hb
    | false=>rw[ht]at h;cases h
   | false=>rw[hb]at h;simp[getS]at h
  | tip=>simp[wT,getS]at h
  | node l r=>simp[wT,getS]at h
 | d+1,i,s,t,v,h=>by
  cases s with
  | node l r=>
   simp only[wT]at h
   rw[xb7]at h
   simp only[getS]at h
   cases hb:Nat.blt t (2 ^ d) with
   | true=>rw[hb]at h;exact ji m d i l t v h
   | false=>
    rw[hb]at h
    have:=ji m d _ r _ v h
    rw[blt_eq,decide_eq_false_iff_not]at hb
    rw[show i+t=i+2 ^ d+(t-2 ^ d)by omega]
    exact this
  | tip=>simp[wT,getS]at h
  | leaf w=>simp[wT,getS]at h
theorem xal(ops:Array Oper)(t:Nat) : ∀ (D:List Nat) (m:Nat),(m.testBit t=true\/ ∃d∈D,(ops[d]?).bind (·.dst)=some t)->(D.foldl (fun m d=>match(ops[d]?).bind (·.dst) with|some t=>m ||| (1 <<< t)|none=>m) m).testBit t=true
 | [],m,h=>by
  rcases h with h|⟨d,hd,_⟩
  .exact h
  .cases hd
 | d::D,m,h=>by
  rw[List.foldl_cons]
  refine xal ops t D _ ?_
  rcases h with h|⟨d',hd,hh⟩
  .left
   split
   .rw[Nat.testBit_or,h];rfl
   .exact h
  .rcases List.mem_cons.1 hd with rfl|hd
   .left
    rw[hh]
    simp only[Nat.testBit_or,Nat.one_shiftLeft,Nat.testBit_two_pow_self,Bool.or_true]
   .exact .inr ⟨d',hd,hh⟩
theorem Wl{ops:Array Oper}{D:List Nat}{l:Tm}{t:Nat}{v:V}(h:getT (vG ops D l) t=some v):getT l t=some v/\ ∀d∈D,(ops[d]?).bind (·.dst)≠some t:=by
 obtain⟨h1,h2⟩:=vR h
 simp only[vG]at h1 h2
 refine⟨?_,fun d hd hh =>?_⟩
 .unfold getT
  rw[blt_eq]
  simp only[h1,decide_true,cond_true]
  exact qh _ _ _ _ _ _ h2
 .have h3:=ji _ _ _ _ _ _ h2
  rw[Nat.zero_add]at h3
  simp only[xhy,Nat.testBit_xor,Nat.testBit_and]at h3
  generalize(1 <<< 512-1).testBit t=q at h3
  generalize hz:Nat.testBit (List.foldl _ 0 D) t=z at h3
  have El:z=true:=hz.symm.trans (xal ops t D 0 (.inr ⟨d,hd,hh⟩))
  subst El
  cases q<;>cases h3
theorem xhS{A:List (Nat×Nat)}(ay:vB ops (Region.before ops) D=true)(zh:qf ops (Region.before ops) A=true)(hD:LateD P ops D){p q:Nat}(hp:p<ops.size)(hq:q<ops.size)(h:fitB ops (Region.before ops) D p q=true):FitP ops (Region.before ops) D A p q:=by
 have ab:=Array.getElem?_eq_getElem hp
 have sk:=Array.getElem?_eq_getElem hq
 unfold fitB at h
 simp only[dM,Bool.not_eq_true',Bool.or_eq_true,ab,sk]at h
 refine⟨h.1.2,?_⟩
 rcases h.2 with h2|h2
 .exact .inl h2
 .rcases h2 with⟨⟨hqD,Ld⟩,dm⟩|h2
  .have hqD:q∈D:=by simpa using hqD
   refine .inr (.inr ⟨hqD,⟨_,_,ab,sk,Ld⟩,fun i J7 hi =>?_⟩)
   simp only[List.all_eq_true,Bool.or_eq_true,Bool.not_eq_true']at dm
   rcases dm i (by simpa using J7)with h3|h3
   .rw[hi]at h3;cases h3
   .exact h3
  .have kindD : ∀d∈D,∀o,ops[d]? = some o->xj o.op=2:=by
    intro d hd o ho
    obtain⟨o',gi,hb⟩:=hD.op d hd
    rw[ho]at gi;cases gi
    exact(Xn hb).2.2.2
   split at h2
   .rename_i rn
    simp only[dM,bne_iff_ne,ne_eq]at h2
    obtain⟨⟨n1,n2⟩,h3⟩:=h2
    refine .inr (.inl ⟨_,_,ab,sk,h3,fun k3=>absurd k3 n1,fun k3=>absurd k3 n2,fun k1 k5 =>?_,fun k6 k1 =>?_,fun k6 k1 =>?_⟩)
    all_goals
     simp only[Bool.or_eq_true]at rn
     rcases rn with hh|hh
     .have:=kindD p (by simpa using hh) _ ab
      omega
     .have:=kindD q (by simpa using hh) _ sk
      omega
   .rename_i rn
    simp only[Bool.or_eq_false_iff]at rn
    exact(xak ay zh hp hq (by simpa using h2) (by simpa using rn.1) (by simpa using rn.2)).2
end
end Lx
namespace Lx
open Go
/-! ### states of which less is known -/
mutual
theorem Zb{pv:Value}{e:Env}{n:Nat} : ∀ (c:C),(∀b∈idsC c,b<n)->den pv (e.take n) c=den pv e c
 | .bool b,h=>rfl
 | .int k i,h=>rfl
 | .nilp,h=>rfl
 | .ptr b o,h=>by simp only[den,List.getElem?_take_of_lt (h b (by simp[idsC]))]
 | .nils,h=>rfl
 | .sl b o m c,h=>by simp only[den,List.getElem?_take_of_lt (h b (by simp[idsC]))]
 | .slg b o m,h=>by simp only[den,List.getElem?_take_of_lt (h b (by simp[idsC]))]
 | .pr b o i m f,h=>by simp only[den,List.getElem?_take_of_lt (h b (by simp[idsC]))]
 | .slw b o z m c,h=>by simp only[den,List.getElem?_take_of_lt (h b (by simp[idsC]))]
 | .slr b m,h=>by simp only[den,List.getElem?_take_of_lt (h b (by simp[idsC]))]
 | .slv b z o m,h=>by simp only[den,List.getElem?_take_of_lt (h b (by simp[idsC]))]
 | .slx b o d a m c,h=>by simp only[den,List.getElem?_take_of_lt (h b (by simp[idsC]))]
 | .fn f caps,h=>by simp only[den,kW caps (by simpa[idsC]using h)]
 | .meth s c,h=>by simp only[den,Zb c (by simpa[idsC]using h)]
 | .nilf,h=>rfl
 | .nili,h=>rfl
 | .nilm,h=>rfl
 | .port,h=>rfl
 | .str z,h=>rfl
 | .gp g o,h=>rfl
 | .mp b,h=>by simp only[den,List.getElem?_take_of_lt (h b (by simp[idsC]))]
 | .ifc t c,h=>by simp only[den,Zb c (by simpa[idsC]using h)]
theorem kW{pv:Value}{e:Env}{n:Nat} : ∀ (l:List C),(∀b∈vf l,b<n)->denL pv (e.take n) l=denL pv e l
 | [],h=>rfl
 | c::l,h=>by simp only[denL,Zb c (fun b hb=>h b (by simp[vf,hb])),kW l (fun b hb=>h b (by simp[vf,hb]))]
end
theorem xeb{pv:Value}{e:Env}{n:Nat}(x:V1)(h : ∀b∈xe9 x,b<n):vX pv (e.take n) x=vX pv e x:=by
 cases x with
 | c a=>exact Zb a h
 | agg l=>simp only[vX,kW l h]
theorem xgF{pv:Value}{e:Env}{n:Nat}(x:V)(h : ∀b∈idsV x,b<n):denV pv (e.take n) x=denV pv e x:=by
 cases x with
 | c a=>exact Zb a h
 | agg l=>simp only[denV,kW l h]
 | tup l=>
  simp only[denV]
  rw[yR fun y hy=>xeb y fun b hb=>h b (by simp only[idsV,List.mem_flatMap];exact⟨y,hy,hb⟩)]
theorem qo(H:Heap) : ∀ (n:Nat) (todo acc l:List Nat),wv H n todo acc=some l->(∀b∈acc,∀k,blkAt H b=some k ->∀x∈vf k.cells,x∈acc\/x∈todo)->(∀b∈todo,b∈l)/\(∀b∈acc,b∈l)/\ ∀b∈l,∀k,blkAt H b=some k ->∀x∈vf k.cells,x∈l
 | n,[],acc,l,h,h1=>by
  have:acc=l:=by cases n<;>simpa[wv]using h
  subst this
  exact⟨by simp,fun _ h=>h,fun b hb k hk x hx=>(h1 b hb k hk x hx).resolve_right (by simp)⟩
 | 0,b::todo,acc,l,h,h1=>by simp[wv]at h
 | n+1,b::todo,acc,l,h,h1=>by
  simp only[wv]at h
  split at h
  .rename_i hc
   have hb:b∈acc:=by simpa using hc
   obtain⟨g1,g2,g3⟩:=qo H n todo acc l h (fun c hc k hk x hx=>by
    rcases h1 c hc k hk x hx with h|h
    .exact .inl h
    .rcases List.mem_cons.1 h with h|h
     .exact .inl (h▸hb)
     .exact .inr h)
   refine⟨fun c hc =>?_,g2,g3⟩
   rcases List.mem_cons.1 hc with h|h
   .exact g2 c (h▸hb)
   .exact g1 c h
  .split at h
   .rename_i k hk
    obtain⟨g1,g2,g3⟩:=qo H n (vf k.cells++todo) (acc ++ [b]) l h (fun c hc k' am x hx=>by
     rcases List.mem_append.1 hc with hc|hc
     .rcases h1 c hc k' am x hx with h|h
      .exact .inl (by simp[h])
      .rcases List.mem_cons.1 h with h|h
       .exact .inl (by simp[h])
       .exact .inr (by simp[h])
     .simp only[List.mem_singleton]at hc
      subst hc
      rw[hk]at am
      cases am
      exact .inr (by simp[hx]))
    refine⟨fun c hc =>?_,fun c hc=>g2 c (by simp[hc]),g3⟩
    rcases List.mem_cons.1 hc with h|h
    .exact g2 c (by simp[h])
    .exact g1 c (by simp[h])
   .cases h
theorem XP : ∀ (l:List Nat) (b:Nat),b∈l->b<XA l
 | [],b,h=>by simp at h
 | x::l,b,h=>by
  simp only[XA]
  rcases List.mem_cons.1 h with h|h
  .omega
  .have:=XP l b h;omega
theorem XQ(l:List Nat) : ∀ (i:Nat) (H:Heap),(qN l i H).length=H.length
 | i,[]=>rfl
 | i,x::H=>by simp only[qN,List.length_cons,XQ l (i+1) H]
theorem xam(l:List Nat) : ∀ (i:Nat) (H:Heap) (j:Nat),(qN l i H)[j]? = (H[j]?).map fun x=>if l.contains (i+j)then x else none
 | i,[],j=>by simp[qN]
 | i,x::H,0=>by simp[qN]
 | i,x::H,j+1=>by
  simp only[qN,List.getElem?_cons_succ,xam l (i+1) H j]
  rw[show i+1+j=i+(j+1)by omega]
theorem xgG{m:Nat}{l:Tm}{t:Nat}{v:V}(h:getT (keepT m l) t=some v):getT l t=some v:=by
 obtain⟨h1,h2⟩:=vR h
 unfold getT
 rw[blt_eq]
 simp only[show t<l.n from h1,decide_true,cond_true]
 exact qh m 9 0 l.s t v h2
section
variable{P:Program}{σ:Type}{I:PortR P σ}{Γ:xK}{S0:Bool->Nat->Prop}{w0:World}{e0:Env}
theorem Emb.keep{pv:Pv}{e:Env}{H:Heap}{w:World}(E:Emb pv e H w){l:List Nat}{N:Nat}(hN:XA l<=N)(cq : ∀b∈l,∀k,blkAt H b=some k ->∀x∈vf k.cells,x∈l) :
  Emb pv (e.take N) ((qN l 0 H).take N) w/\ ∀q b,Own q (e.take N) ((qN l 0 H).take N) b->Own q e H b:=by
 have orig : ∀i k,blkAt ((qN l 0 H).take N) i=some k->i∈l/\i<N/\blkAt H i=some k:=by
  intro i k h
  rw[xI,List.getElem?_take]at h
  split at h
  .rename_i hi
   rw[xam]at h
   cases hh:H[i]? with
   | none=>rw[hh]at h;simp at h
   | some x=>
    rw[hh]at h
    simp only[dN,oI,Nat.zero_add]at h
    split at h
    .rename_i hc
     exact⟨by simpa using hc,hi,by rw[xI,hh,h]⟩
    .cases h
  .cases h
 have env : ∀i r,i<N->((e.take N)[i]? = some r↔e[i]? = some r):=by
  intro i r hi
  rw[List.getElem?_take_of_lt hi]
 refine⟨⟨?_,fun i k hk =>?_,fun i j k k' r r' h1 h2 h3 h4 h5 v1 v2 =>?_,fun i k hk=>E.ok i k (orig i k hk).2.2⟩,fun q b hb =>?_⟩
 .have:=E.len
  simp only[List.length_take,XQ]
  omega
 .obtain⟨h1,h2,h3⟩:=orig i k hk
  obtain⟨r,cs,g1,g2,g3⟩:=E.lies i k h3
  refine⟨r,cs,(env i r h2).2 g1,?_,g3⟩
  cases hk:k.tab with
  | none=>
   rw[Blk.real_none hk]at g2 |-
   rw[kW _ fun b hb=>Nat.lt_of_lt_of_le (XP l b (cq i h1 k h3 b hb)) hN]
   exact g2
  | some t=>
   cases hq:t.isTok with
   | false=>
    rw[Blk.real_some hk]at g2 |-
    rw[Zr (pv:=pv) (e:=e) (Vg t)]
    exact g2
   | true=>
    cases t<;>first|cases hq|skip
    rw[Blk.real_tok hk]at g2 |-
    rw[kW _ fun b hb=>Nat.lt_of_lt_of_le (XP l b (cq i h1 k h3 b hb)) hN]
    exact g2
 .obtain⟨_,a2,a3⟩:=orig i k h1
  obtain⟨_,b2,b3⟩:=orig j k' h2
  exact E.alone i j k k' r r' a3 b3 ((env i r a2).1 h3) ((env j r' b2).1 h4) h5 v1 v2
 .obtain⟨i,k,r,h1,h2,h3⟩:=hb
  obtain⟨_,a2,a3⟩:=orig i k h1
  exact⟨i,k,r,a3,(env i r a2).1 h2,h3⟩
theorem Cfg.norm{e:Env}{st st1:St}{s:σ}{F:Nat->Prop}{a:Act}{w:World}{m:Nat}(C:Cfg I S0 w0 e0 e st s F a w)(h:norm e0.length m st=some st1) : ∃e1,Cfg I S0 w0 e0 e1 st1 s F a w:=by
 unfold Lx.norm at h
 simp only at h
 split at h
 .rename_i l hl
  cases h
  obtain⟨g1,_,g3⟩:=qo st.heap _ _ [] l hl (by simp)
  obtain⟨E1,ho⟩:=C.rel.emb.keep (Nat.le_max_right e0.length (XA l)) g3
  refine⟨e.take (max e0.length (XA l)),⟨E1,C.rel.len,fun t v hv =>?_,C.rel.defers⟩,C.rep,fun b hb=>C.disj b (ho _ b hb),C.keeps,fun q b hb=>C.mine _ b (hb.imp (ho _ b) id),?_⟩
  rotate_left
  .obtain⟨x,hx⟩:=C.ext
   have bu:e0.length<=max e0.length (XA l):=Nat.le_max_left _ _
   exact⟨x.take (max e0.length (XA l)-e0.length),by rw[hx,List.take_append,List.take_of_length_le bu]⟩
  obtain⟨rv,h1,h2⟩:=C.rel.tmps t v (xgG hv)
  refine⟨rv,h1,?_⟩
  rw[xgF v fun b hb=>Nat.lt_of_lt_of_le (XP l b (g1 b ?_)) (Nat.le_max_right _ _)]
  .exact h2
  .refine List.mem_append.2 (.inr ?_)
   exact Vc 9 _ t v (vR hv).2 b hb
 .cases h
theorem Cfg.conv1{e:Env}{st:St}{s:σ}{F:Nat->Prop}{a:Act}{w:World}(c:Cv)(C:Cfg I S0 w0 e0 e st s F a w) : ∃e1,Cfg I S0 w0 e0 e1 (Lx.conv1 c st) s F a w:=by
 unfold Lx.conv1
 split
 rotate_left
 .exact⟨e,C⟩
 rename_i hg
 have E:=C.rel.emb
 have aj:=E.len
 have hx:Ext e (e ++ [(0,0)]):=⟨_,rfl⟩
 obtain⟨tmps,H⟩:=st
 simp only at hg aj E
 generalize lx:(⟨[],c.el,true,some c.ek.tab⟩:Blk)=kn
 have hv:kn.virt=true:=by subst lx;unfold Blk.virt;cases c.ek<;>rfl
 have mu:kn.real = []:=by subst lx;unfold Blk.real;cases c.ek<;>rfl
 have ar : ∀i k,blkAt (newB H kn) i=some k->(i=H.length/\k=kn)\/(blkAt H i=some k/\i<H.length):=by
  intro i k h
  rw[yC]at h
  split at h
  .cases h;exact .inl ⟨‹_›,rfl⟩
  .refine .inr ⟨h,?_⟩
   rw[xH]at h
   by_cases hi:i<H.length
   .exact hi
   .rw[List.getElem?_eq_none (by omega)]at h;simp at h
 have own : ∀q b,Own q (e ++ [(0,0)]) (newB H kn) b->Own q e H b:=by
  rintro q b ⟨i,k,r,h1,h2,h3,h4,h5⟩
  rcases ar i k h1 with⟨_,rfl⟩|⟨h6,h7⟩
  .rw[hv]at h4;cases h4
  .rw[List.getElem?_append_left (by omega)]at h2
   exact⟨i,k,r,h6,h2,h3,h4,h5⟩
 refine⟨e ++ [(0,0)],⟨⟨by simp[newB,aj],fun i k hk =>?_,fun i j k k' r r' hk am hr ct he v1 v2 =>?_,fun i k hk =>?_⟩,by rw[xdL];exact C.rel.len,fun t v uo =>?_,C.rel.defers⟩,C.rep,fun b hb=>C.disj b (own _ b hb),C.keeps,fun q b hb=>C.mine _ b (hb.imp (own _ b) id),C.ext.trans hx⟩
 .rcases ar i k hk with⟨rfl,rfl⟩|⟨hk,hi⟩
  .exact⟨(0,0),[],by simp[aj],by rw[mu];rfl,⟨Tk.of (by subst lx;intro t ht;cases ht;cases c.ek<;>rfl),.inl hv⟩⟩
  .obtain⟨r,cs',hr,eq,hw⟩:=E.lies i k hk
   exact⟨r,cs',hx.get hr,yE hx _ _ eq,hw⟩
 .rcases ar i k hk with⟨_,rfl⟩|⟨hk,hi⟩
  .rw[hv]at v1;cases v1
  .rcases ar j k' am with⟨_,rfl⟩|⟨am,hj⟩
   .rw[hv]at v2;cases v2
   .rw[List.getElem?_append_left (by omega)]at hr ct
    exact E.alone i j k k' r r' hk am hr ct he v1 v2
 .rcases ar i k hk with⟨_,rfl⟩|⟨hk,hi⟩
  .subst lx;intro t _ _;rfl
  .exact E.ok i k hk
 .by_cases ht:t=c.slot
  .subst ht
   obtain⟨_,rfl⟩:=kM uo
   obtain⟨rv,h1,h2⟩:=C.rel.tmps _ _ hg
   refine⟨rv,h1,?_⟩
   simp only[denV,den]at h2 |-
   rw[aj,List.getElem?_append_right (by omega),Nat.sub_self]
   exact h2
  .rw[yN _ _ ht]at uo
   obtain⟨rv,h1,h2⟩:=C.rel.tmps t v uo
   exact⟨rv,h1,XD hx _ _ h2⟩
theorem Cfg.convs{s:σ}{F:Nat->Prop}{a:Act}{w:World} : ∀ (l:List Cv) {e:Env} {st:St} (_:Cfg I S0 w0 e0 e st s F a w),∃e1,Cfg I S0 w0 e0 e1 (Lx.convs l st) s F a w
 | [],e,st,C=>⟨e,C⟩
 | c::l,e,st,C=>by
  obtain⟨e1,C1⟩:=Cfg.conv1 c C
  exact Cfg.convs l C1
theorem sub_ext{e0 e e1:Env}{l:List Nat}(hx:Ext e0 e)(fq:l.take e0.length=List.range e0.length)(aj:e1.length=l.length)(cx : ∀ (i b:Nat),l[i]? = some b->e1[i]? = e[b]?):Ext e0 e1:=by
 obtain⟨x,rfl⟩:=hx
 have bu:e0.length<=l.length:=by
  have:=congrArg List.length fq
  simp at this
  omega
 refine⟨e1.drop e0.length,?_⟩
 rw[<- List.take_append_drop e0.length e1]
 congr 1
 .apply List.ext_getElem?
  intro i
  rw[List.getElem?_take]
  split
  .rename_i hi
   have Fv:l[i]? = some i:=by
    have:=congrArg (·[i]?) fq
    simp only[List.getElem?_take_of_lt hi]at this
    rw[this,List.getElem?_range hi]
   rw[cx i i Fv,List.getElem?_append_left hi]
  .rename_i hi
   rw[List.getElem?_eq_none (by omega)]
 .simp
theorem VE{r:Nat->Option Nat} : ∀ (d:Nat) (s s':Sl) (t:Nat) (v:V),renS r s=some s'->getS d s' t=some v ->∃u,getS d s t=some u/\renV r u=some v
 | d,.tip,s',t,v,h,hv=>by
  simp only[renS,oI]at h;subst h
  rw[kr]at hv;cases hv
 | d,.leaf u,s',t,v,h,hv=>by
  simp only[renS]at h
  split at h
  .rename_i u' hu
   cases h
   cases d with
   | zero=>
    simp only[getS]at hv |-
    cases hb:Nat.beq t 0 with
    | true=>rw[hb]at hv;cases hv;exact⟨u,rfl,hu⟩
    | false=>rw[hb]at hv;cases hv
   | succ d=>simp[getS]at hv
  .cases h
 | d,.node a b,s',t,v,h,hv=>by
  simp only[renS]at h
  split at h
  .rename_i x y hx hy
   cases h
   cases d with
   | zero=>simp[getS]at hv
   | succ d=>
    simp only[getS]at hv |-
    cases hb:Nat.blt t (2 ^ d) with
    | true=>rw[hb]at hv;exact VE d a x t v hx hv
    | false=>rw[hb]at hv;exact VE d b y _ v hy hv
  .cases h
theorem Cfg.renum{e:Env}{st st1:St}{s:σ}{F:Nat->Prop}{a:Act}{w:World}(C:Cfg I S0 w0 e0 e st s F a w)(h:renum e0.length st=some st1) : ∃e1,Cfg I S0 w0 e0 e1 st1 s F a w:=by
 unfold Lx.renum at h
 split at h
 .rename_i l hl
  obtain⟨hn,hk⟩:=xaf hl
  split at h
  .rename_i fq
   split at h
   .rename_i s' H1 ip hH1
    cases h
    obtain⟨e1,aj,cx,E1,dk⟩:=C.rel.emb.sub hn hk hH1
    have hr : ∀b b' x,idx l b=some b'->e[b]? = some x->e1[b']? = some x:=fun b b' x h1 h2=>(cx b' b (Zx l b b' h1)).trans h2
    have own : ∀q b,Own q e1 H1 b->Own q e st.heap b:=fun q b hb=>by
     obtain⟨i,hi,k,r,h1,h2,h3,hv,h4⟩:=dk _ b hb
     exact⟨i,k,r,h1,h2,h3,hv,h4⟩
    refine⟨e1,⟨E1,C.rel.len,fun t v hv =>?_,C.rel.defers⟩,C.rep,fun b hb=>C.disj b (own _ b hb),C.keeps,fun q b hb=>C.mine _ b (hb.imp (own _ b) id),sub_ext C.ext (by simpa using fq) aj cx⟩
    obtain⟨h5,h6⟩:=vR hv
    obtain⟨u,h7,h8⟩:=VE 9 _ _ t v ip h6
    have h9:getT st.tmps t=some u:=by
     unfold getT
     rw[blt_eq]
     simp only[show t<st.tmps.n from h5,decide_true,cond_true]
     exact h7
    obtain⟨rv,g1,g2⟩:=C.rel.tmps t u h9
    exact⟨rv,g1,jM hr u v rv h8 g2⟩
   .cases h
  .cases h
 .cases h
theorem Cfg.normC{e:Env}{st st1:St}{s:σ}{F:Nat->Prop}{a:Act}{w:World}{m:Nat}{n:Fu}(C:Cfg I S0 w0 e0 e st s F a w)(h:normC n e0.length m st=some st1) : ∃e1,Cfg I S0 w0 e0 e1 st1 s F a w:=by
 unfold Lx.normC at h
 split at h
 .rename_i st2 h2
  obtain⟨e2,C2⟩:=C.norm h2
  obtain⟨e3,C3⟩:=Cfg.convs n.cv C2
  split at h
  .exact C3.renum h
  .cases h;exact⟨e3,C3⟩
 .cases h
theorem Cfg.drew{e:Env}{st:St}{s:σ}{F:Nat->Prop}{a:Act}{w:World}(C:Cfg I S0 w0 e0 e st s F a w):Cfg I S0 w0 e0 e st s F a {w with drawn:=w.drawn+1}:=
 ⟨⟨C.rel.emb.ofSame fun _ _=>rfl,C.rel.len,C.rel.tmps,C.rel.defers⟩,I.stable C.rep fun _ _=>rfl,C.disj,⟨C.keeps.os,C.keeps.tape,C.keeps.output,C.keeps.size,C.keeps.block⟩,C.mine,C.ext⟩
/-! ### code -/
def Ex.up:Ex->Exit
 | .normal =>.normal
 | .exit i =>.exit i
 | .ret =>.ret
theorem Wm{tmps:Tm}{c:Operand}{t:Bool}(h:xW tmps c=some (.c (.bool t))):refine tmps c t=tmps:=by
 cases c with
 | tmp i=>exact Zy h
 | _=>rfl
end
end Lx
namespace Lx
open Go
theorem qp{pv:Pv}{e0 e:Env}{H H':Heap}{w:World}{v v':V}{rv:Value}(E:Emb pv e H w)(hv:denV pv e v=some rv)(hx:Ext e0 e)(h:finish e0.length v H=some (v',H')) :
  ∃e',Ext e0 e'/\denV pv e' v'=some rv/\Emb pv e' H' w/\ ∀q b,Own q e' H' b->Own q e H b:=by
 unfold finish at h
 split at h
 .rename_i l hl
  obtain⟨hn,hk⟩:=xaf hl
  split at h
  .rename_i fq
   split at h
   .rename_i v1 H1 ti hH1
    cases h
    obtain⟨e1,aj,cx,E1,dk⟩:=E.sub hn hk hH1
    have hr : ∀b b' x,idx l b=some b'->e[b]? = some x->e1[b']? = some x:=fun b b' x h1 h2=>(cx b' b (Zx l b b' h1)).trans h2
    refine⟨e1,?_,jM hr v v' rv ti hv,E1,fun q b hb =>?_⟩
    .obtain⟨x,rfl⟩:=hx
     have ht:l.take e0.length=List.range e0.length:=by simpa using fq
     have bu:e0.length<=l.length:=by
      have:=congrArg List.length ht
      simp at this
      omega
     refine⟨e1.drop e0.length,?_⟩
     rw[<- List.take_append_drop e0.length e1]
     congr 1
     .apply List.ext_getElem?
      intro i
      rw[List.getElem?_take]
      split
      .rename_i hi
       have Fv:l[i]? = some i:=by
        have:=congrArg (·[i]?) ht
        simp only[List.getElem?_take_of_lt hi]at this
        rw[this,List.getElem?_range hi]
       rw[cx i i Fv,List.getElem?_append_left hi]
      .rename_i hi
       rw[List.getElem?_eq_none (by omega)]
     .simp
    .obtain⟨i,hi,k,r,h1,h2,h3,hv,h4⟩:=dk _ b hb
     exact⟨i,k,r,h1,h2,h3,hv,h4⟩
   .cases h
  .cases h
 .cases h
section
variable{P:Program}{σ:Type}{I:Port P σ}{Γ:xK}
theorem res_run{pv:Pv}{e:Env}{st:St}{a:Act}{w:World}(R:Rel pv e st a w){x:ResultVar}{v:V1}(h:Vb P st x=some v)(g:ResultVar->Sem Value)(g1 : ∀t,g (.tmp t)=pure (a.tmps.getD t undef))(g2 : ∀p t,g (.cell p t)=(do loadVar t (<- asAddr (a.tmps.getD p undef)))) :
  ∃rv,(g x).run P w = .ok rv w/\vX pv e v=some rv:=by
 cases x with
 | tmp t=>
  simp only[Vb]at h
  cases hg:getT st.tmps t with
  | none=>rw[hg]at h;simp at h
  | some u=>
   rw[hg]at h
   simp only[Option.bind_some]at h
   obtain⟨rv,h1,h2⟩:=R.tmps t u hg
   refine⟨rv,?_,by rw[KR h];exact h2⟩
   rw[g1]
   simp[Array.getD_eq_getD_getElem?,h1]
 | cell p t=>
  simp only[Vb]at h
  split at h
  .rename_i b q hg
   split at h
   .rename_i k hk
    cases hp:partT P t k.own q with
    | none=>rw[hp]at h;simp at h
    | some u=>
     rw[hp]at h
     simp only[Option.bind_some]at h
     obtain⟨r,cs,a1,a2,a3⟩:=R.emb.lies b k hk
     obtain⟨rp,h1,h2⟩:=R.tmps p _ hg
     simp only[denV,den,a1,dN,oI]at h2
     subst h2
     obtain⟨rv,h3,h4⟩ : ∃rv,(loadVar t ⟨r.1,q,none⟩).run P w = .ok rv w/\denV pv e u=some rv:=by
      cases ht:k.tab with
      | none=>
       obtain⟨tl,a4,_⟩:=a3.own (Blk.win_none ht) (Blk.virt_none ht) (Blk.mapped_none ht)
       exact KY (P:=P) a2 a4 (KW hp)
      | some tb=>
       rw[Blk.own_some ht]at hp
       have:=jd (P:=P) (pv:=pv) (e:=e) (cells :=[]) (cs :=[]) (w:=w) (r:=r.1) (q:=0) rfl (fun j u hj=>by simp at hj) hp
       rwa [Nat.zero_add]at this
     refine⟨rv,?_,by rw[KR h];exact h4⟩
     rw[g2]
     simp[Array.getD_eq_getD_getElem?,h1,asAddr,h3]
   .cases h
  .cases h
theorem xbg{pv:Pv}{e:Env}{st:St}{a:Act}{w:World}(R:Rel pv e st a w)(g:ResultVar->Sem Value)(g1 : ∀t,g (.tmp t)=pure (a.tmps.getD t undef))(g2 : ∀p t,g (.cell p t)=(do loadVar t (<- asAddr (a.tmps.getD p undef)))) :
  ∀ (l:List ResultVar) (vs:List V1),allSome (Vb P st) l=some vs ->∃rs,(l.mapM g).run P w = .ok rs w/\allSome (vX pv e) vs=some rs
 | [],vs,h=>by simp only[allSome,oI]at h;subst h;exact⟨[],by simp,rfl⟩
 | x::l,vs,h=>by
  simp only[allSome]at h
  split at h
  .rename_i y hy
   split at h
   .rename_i ys fz
    cases h
    obtain⟨rv,h1,h2⟩:=res_run R hy g g1 g2
    obtain⟨rs,h3,h4⟩:=xbg R g g1 g2 l ys fz
    refine⟨rv::rs,?_,by simp only[allSome,h2,h4]⟩
    rw[List.mapM_cons]
    simp only[Sem.run_bind,h1,Result.andThen_ok,h3,Sem.run_pure]
   .cases h
  .cases h
theorem VF(fn:Func)(tmps:Array Value) : ∃g:ResultVar->Sem Value,results fn tmps=(do let vs <- fn.results.mapM g;pure (if h:vs.size=1 then vs[0]else .tuple vs))/\(∀t,g (.tmp t)=pure (tmps.getD t undef))/\ ∀p t,g (.cell p t)=(do loadVar t (<- asAddr (tmps.getD p undef))):=by
 refine⟨_,rfl,?_,?_⟩
 .intro t;rfl
 .intro p t;rfl
theorem Zc{pv:Pv}{e:Env}{st:St}{a:Act}{w:World}{fn:Func}(R:Rel pv e st a w){v:V}(h:resV P fn st=some v) : ∃rv,(results fn a.tmps).run P w = .ok rv w/\denV pv e v=some rv:=by
 obtain⟨g,hg,g1,g2⟩:=VF fn a.tmps
 unfold resV at h
 rw[hg]
 simp only[Array.mapM_eq_mapM_toList]
 split at h
 .rename_i u hu
  cases h
  obtain⟨rs,h1,h2⟩:=xbg (P:=P) R g g1 g2 _ _ hu
  simp only[allSome]at h2
  split at h2
  .rename_i rv cf
   cases h2
   refine⟨rv,?_,by rw[xfb];exact cf⟩
   simp only[Sem.run_bind,Sem.run_map,h1]
   rfl
  .cases h2
 .rename_i l ae hl
  cases h
  obtain⟨rs,h1,h2⟩:=xbg (P:=P) R g g1 g2 _ _ hl
  have aj:=xV _ _ _ h2
  refine⟨.tuple rs.toArray,?_,by simp[denV,h2]⟩
  simp only[Sem.run_bind,Sem.run_map,h1]
  simp only[Result.andThen_ok,Sem.run_pure]
  rw[dif_neg]
  intro h3
  simp only[List.size_toArray]at h3
  rw[aj]at h3
  obtain⟨x,hx⟩:=List.length_eq_one_iff.1 h3
  exact ae x hx
 .cases h
end
end Lx
namespace Lx
open Go
def vo{ι β:Type}:Nat->(ι->(ι->T β)->T β)->ι->T β
 | 0,_,_ =>.fail
 | n+1,B,i=>B i fun i'=>vo n B i'
theorem qq{ι β:Type}{F:St->(St->T β)->T β}{S:ι->St}{B:ι->(ι->T β)->T β}(h : ∀i k,F (S i) k=B i fun i'=>k (S i')) : ∀ (n:Nat) (i:ι),vH n F (S i)=vo n B i
 | 0,_=>rfl
 | n+1,i=>by
  rw[vH,vo,h]
  congr 1
  funext i'
  exact qq h n i'
theorem wn{ι β γ:Type}{B:ι->(ι->T β)->T β}{B':ι->(ι->T γ)->T γ}(κ:β->T γ)(h : ∀i k,(B i k).bind κ=B' i fun i'=>(k i').bind κ) : ∀ (n:Nat) (i:ι),(vo n B i).bind κ=vo n B' i
 | 0,_=>rfl
 | n+1,i=>by
  rw[vo,vo,h]
  congr 1
  funext i'
  exact wn κ h n i'
def xfl{β:Type}(P:Program)(Γ:xK)(n:Fu)(m0:Nat)(c:Code)(lv:Nat)(K:Ex->St->T β)(st:St)(k:St->T β):T β:=
 ev P Γ n m0 c (lv ||| (ue c).1) st fun e ac=>match e with
  | .normal=>match normC n m0 (lv ||| (ue c).1) ac with
   | some st2=>k st2
   | none =>.fail
  | .exit i=>match normC n m0 lv ac with
   | some st2=>K (.exit i) st2
   | none =>.fail
  | .ret=>match normC n m0 lv ac with
   | some st2=>K .ret st2
   | none =>.fail
abbrev R:=V×Heap
inductive LS where
 | no
 | two (a b:LS)
 | loop (f:St->(Ex->St->T R)->Option (T R)) (a:LS)
 | peel (f:St->(Ex->St->T R)->Option (T R)) (a:LS)
 | cut (f:St->(Ex->St->T R)->Option (T R)) (a b:LS)
def ev2(P:Program)(Γ:xK)(n:Fu)(m0:Nat):LS->Code->Nat->St->(Ex->St->T R)->T R
 | .two x y,.seq a b,lv,st,K=>ev2 P Γ n m0 x a (lv ||| (ue b).1) st fun e ac=>match e with
  | .normal=>match cutS n b with
   | true=>match normC n m0 (lv ||| (ue b).1) ac with
    | some st2=>ev2 P Γ n m0 y b lv st2 (jI n m0 lv K)
    | none =>.fail
   | false=>ev2 P Γ n m0 y b lv ac K
  | .exit i=>K (.exit i) ac
  | .ret=>K .ret ac
 | .two x y,.cond c a b,lv,st,K=>match xW st.tmps c with
  | some (.c (.bool t))=>cond t (ev2 P Γ n m0 x a lv ⟨refine st.tmps c true,st.heap⟩ K) (ev2 P Γ n m0 y b lv ⟨refine st.tmps c false,st.heap⟩ K)
  | _ =>.fail
 | .two x _,.block id c,lv,st,K=>ev2 P Γ n m0 x c lv st fun e ac=>match e with
  | .normal=>K .normal ac
  | .exit i=>if i=id then K .normal ac else K (.exit i) ac
  | .ret=>K .ret ac
 | .two x _,.scope c,lv,st,K=>ev2 P Γ n m0 x c lv st K
 | .loop f x,.loop c,lv,st,K=>match normC n m0 (lv ||| (ue c).1) st with
  | some st1=>match f st1 K with
   | some t=>t
   | none=>vH n.n (fun st k=>ev2 P Γ n m0 x c (lv ||| (ue c).1) st fun e ac=>match e with
    | .normal=>match normC n m0 (lv ||| (ue c).1) ac with
     | some st2=>k st2
     | none =>.fail
    | .exit i=>match normC n m0 lv ac with
     | some st2=>K (.exit i) st2
     | none =>.fail
    | .ret=>match normC n m0 lv ac with
     | some st2=>K .ret st2
     | none =>.fail) st1
  | none =>.fail
 | .peel f x,.loop c,lv,st,K=>match normC n m0 (lv ||| (ue c).1) st with
  | some st1=>match n.n with
   | 0 =>.fail
   | m+1=>ev2 P Γ n m0 x c (lv ||| (ue c).1) st1 fun e ac=>match e with
    | .normal=>match normC n m0 (lv ||| (ue c).1) ac with
     | some st3=>match f st3 K with
      | some t=>t
      | none=>vH m (fun st k=>ev2 P Γ n m0 x c (lv ||| (ue c).1) st fun e ac=>match e with
       | .normal=>match normC n m0 (lv ||| (ue c).1) ac with
        | some st2=>k st2
        | none =>.fail
       | .exit i=>match normC n m0 lv ac with
        | some st2=>K (.exit i) st2
        | none =>.fail
       | .ret=>match normC n m0 lv ac with
        | some st2=>K .ret st2
        | none =>.fail) st3
     | none =>.fail
    | .exit i=>match normC n m0 lv ac with
     | some st2=>K (.exit i) st2
     | none =>.fail
    | .ret=>match normC n m0 lv ac with
     | some st2=>K .ret st2
     | none =>.fail
  | none =>.fail
 | .cut f x y,.seq a b,lv,st,K=>ev2 P Γ n m0 x a (lv ||| (ue b).1) st fun e ac=>match e with
  | .normal=>match cutS n b with
   | true=>match normC n m0 (lv ||| (ue b).1) ac with
    | some st2=>match f st2 K with
     | some t=>t
     | none=>ev2 P Γ n m0 y b lv st2 (jI n m0 lv K)
    | none =>.fail
   | false=>ev2 P Γ n m0 y b lv ac K
  | .exit i=>K (.exit i) ac
  | .ret=>K .ret ac
 | _,c,lv,st,K=>ev P Γ n m0 c lv st K
def jj(P:Program)(Γ:xK)(n:Fu)(m0:Nat)(x:LS)(c:Code)(lv:Nat)(K:Ex->St->T R)(st:St)(k:St->T R):T R:=
 ev2 P Γ n m0 x c (lv ||| (ue c).1) st fun e ac=>match e with
  | .normal=>match normC n m0 (lv ||| (ue c).1) ac with
   | some st2=>k st2
   | none =>.fail
  | .exit i=>match normC n m0 lv ac with
   | some st2=>K (.exit i) st2
   | none =>.fail
  | .ret=>match normC n m0 lv ac with
   | some st2=>K .ret st2
   | none =>.fail
def Good(P:Program)(Γ:xK)(n:Fu)(m0:Nat):LS->Code->Nat->Prop
 | .two x y,.seq a b,lv=>Good P Γ n m0 x a (lv ||| (ue b).1)/\Good P Γ n m0 y b lv
 | .two x y,.cond _ a b,lv=>Good P Γ n m0 x a lv/\Good P Γ n m0 y b lv
 | .two x _,.block _ c,lv=>Good P Γ n m0 x c lv
 | .two x _,.scope c,lv=>Good P Γ n m0 x c lv
 | .loop f x,.loop c,lv=>Good P Γ n m0 x c (lv ||| (ue c).1)/\ ∀st K t,f st K=some t->vH n.n (jj P Γ n m0 x c lv K) st=t
 | .peel f x,.loop c,lv=>Good P Γ n m0 x c (lv ||| (ue c).1)/\ ∀st K t,f st K=some t->vH (n.n-1) (jj P Γ n m0 x c lv K) st=t
 | .cut f x y,.seq a b,lv=>Good P Γ n m0 x a (lv ||| (ue b).1)/\Good P Γ n m0 y b lv/\ ∀st K t,f st K=some t->ev2 P Γ n m0 y b lv st (jI n m0 lv K)=t
 | _,_,_=>True
theorem VG{P:Program}{Γ:xK}{n:Fu}{m0:Nat} : ∀ (x:LS) (c:Code) (lv:Nat),Good P Γ n m0 x c lv ->∀ (st:St) (K:Ex->St->T R),ev2 P Γ n m0 x c lv st K=ev P Γ n m0 c lv st K:=by
 intro x
 induction x with
 | no=>intro c lv _ st K;simp only[ev2]
 | two x y hx hy=>
  intro c lv hg st K
  cases c with
  | seq a b=>
   simp only[Good]at hg
   simp only[ev2,ev]
   rw[hx a _ hg.1]
   congr 1
   funext e ac
   cases e with
   | normal=>
    simp only[hy b lv hg.2]
    cases cutS n b with
    | true=>cases normC n m0 (lv ||| (ue b).1) ac<;>rfl
    | false=>rfl
   | exit i=>rfl
   | ret=>rfl
  | cond c a b=>
   simp only[Good]at hg
   simp only[ev2,ev,hx a _ hg.1,hy b _ hg.2]
   rfl
  | block id c=>
   simp only[Good]at hg
   simp only[ev2,ev]
   rw[hx c _ hg]
   rfl
  | scope c=>
   simp only[Good]at hg
   simp only[ev2,ev]
   rw[hx c _ hg]
  | _=>simp only[ev2]
 | loop f x hx=>
  intro c lv hg st K
  cases c with
  | loop c=>
   simp only[Good]at hg
   simp only[ev2,ev]
   cases hn:normC n m0 (lv ||| (ue c).1) st with
   | none=>rfl
   | some st1=>
    simp only
    cases ht:f st1 K with
    | none=>
     simp only[hx c _ hg.1]
     rfl
    | some t=>
     simp only
     rw[<- hg.2 st1 K t ht]
     have:jj P Γ n m0 x c lv K=xfl P Γ n m0 c lv K:=by
      funext st k
      simp only[jj,xfl]
      rw[hx c _ hg.1]
     rw[this]
     rfl
  | _=>simp only[ev2]
 | peel f x hx=>
  intro c lv hg st K
  cases c with
  | loop c=>
   simp only[Good]at hg
   have hF:jj P Γ n m0 x c lv K=xfl P Γ n m0 c lv K:=by
    funext st k
    simp only[jj,xfl]
    rw[hx c _ hg.1]
   simp only[ev2,ev]
   cases hn:normC n m0 (lv ||| (ue c).1) st with
   | none=>rfl
   | some st1=>
    simp only
    have h2:=hg.2
    cases hm:n.n with
    | zero=>rfl
    | succ m=>
     rw[hm]at h2
     simp only[Nat.add_sub_cancel]at h2
     simp only[vH]
     rw[hx c _ hg.1]
     congr 1
     funext e ac
     cases e with
     | normal=>
      simp only
      cases normC n m0 (lv ||| (ue c).1) ac with
      | none=>rfl
      | some st3=>
       simp only
       cases ht:f st3 K with
       | none=>
        simp only[hx c _ hg.1]
        rfl
       | some t=>
        simp only
        rw[<- h2 st3 K t ht,hF]
        rfl
     | exit i=>rfl
     | ret=>rfl
  | _=>simp only[ev2]
 | cut f x y hx hy=>
  intro c lv hg st K
  cases c with
  | seq a b=>
   simp only[Good]at hg
   simp only[ev2,ev]
   rw[hx a _ hg.1]
   congr 1
   funext e ac
   cases e with
   | normal=>
    simp only
    cases cutS n b with
    | true=>
     simp only
     cases normC n m0 (lv ||| (ue b).1) ac with
     | none=>rfl
     | some st2=>
      simp only
      cases h:f st2 K with
      | none=>exact hy b lv hg.2.1 st2 _
      | some t=>exact(hg.2.2 st2 K t h).symm.trans (hy b lv hg.2.1 st2 _)
    | false=>exact hy b lv hg.2.1 ac K
   | exit i=>rfl
   | ret=>rfl
  | _=>simp only[ev2]
def evF2(P:Program)(Γ:xK)(n:Fu)(x:LS)(fn:Func)(args:List V)(H:Heap):T (V×Heap):=
 match fn.body with
 | some c=>ev2 P Γ n H.length x c (yy fn.results.toList) ⟨begun fn args,H⟩ (endF P fn H.length)
 | none =>.fail
theorem ZC{P:Program}{Γ:xK}{n:Fu}{x:LS}{fn:Func}{args:List V}{H:Heap}{c:Code}(hc:fn.body=some c)(hg:Good P Γ n H.length x c (yy fn.results.toList)):evF2 P Γ n x fn args H=evF P Γ n fn args H:=by
 unfold evF2 evF
 rw[hc]
 exact VG _ _ _ hg _ _
/-! ### where the loops of a function lie -/
def wB:List Nat->Code->Nat->Option (Code×Nat)
 | [],.loop c,lv=>some (c,lv)
 | 0::p,.seq a b,lv=>wB p a (lv ||| (ue b).1)
 | _::p,.seq _ b,lv=>wB p b lv
 | 0::p,.cond _ a _,lv=>wB p a lv
 | _::p,.cond _ _ b,lv=>wB p b lv
 | _::p,.block _ c,lv=>wB p c lv
 | _::p,.scope c,lv=>wB p c lv
 | _::p,.loop c,lv=>wB p c (lv ||| (ue c).1)
 | _,_,_=>none
def wC(p:List Nat)(fn:Func):Code:=match fn.body with
 | some c=>match wB p c (yy fn.results.toList) with
  | some r=>r.1
  | none =>.skip
 | none =>.skip
def kG(p:List Nat)(fn:Func):Nat:=match fn.body with
 | some c=>match wB p c (yy fn.results.toList) with
  | some r=>r.2
  | none=>0
 | none=>0
def lsAt(f:St->(Ex->St->T R)->Option (T R))(x:LS):List Nat->LS
 | [] =>.loop f x
 | 0::p =>.two (lsAt f x p) .no
 | _::p =>.two .no (lsAt f x p)
theorem jv{P:Program}{Γ:xK}{n:Fu}{m0:Nat}{c:Code}{lv:Nat}:Good P Γ n m0 .no c lv:=by unfold Good;trivial
theorem xbh{P:Program}{Γ:xK}{n:Fu}{m0:Nat}{f:St->(Ex->St->T R)->Option (T R)}{x:LS} : ∀ (p:List Nat) (c:Code) (lv:Nat),
  (∀c' bv,wB p c lv=some (c',bv)->Good P Γ n m0 x c' (bv ||| (ue c').1)/\ ∀st K t,f st K=some t->vH n.n (jj P Γ n m0 x c' bv K) st=t)->Good P Γ n m0 (lsAt f x p) c lv:=by
 intro p
 induction p with
 | nil=>
  intro c lv h
  cases c with
  | loop c=>simp only[lsAt,Good];exact h c lv rfl
  | _=>simp only[lsAt,Good]
 | cons a p ih=>
  intro c lv h
  cases a with
  | zero=>
   cases c with
   | seq a b=>simp only[lsAt,Good];exact⟨ih a _ fun c' bv hl=>h c' bv hl,trivial⟩
   | cond c a b=>simp only[lsAt,Good];exact⟨ih a _ fun c' bv hl=>h c' bv hl,trivial⟩
   | block id c=>simp only[lsAt,Good];exact ih c _ fun c' bv hl=>h c' bv hl
   | scope c=>simp only[lsAt,Good];exact ih c _ fun c' bv hl=>h c' bv hl
   | _=>simp only[lsAt,Good]
  | succ a=>
   cases c with
   | seq a b=>simp only[lsAt,Good];exact⟨trivial,ih b _ fun c' bv hl=>h c' bv hl⟩
   | cond c a b=>simp only[lsAt,Good];exact⟨trivial,ih b _ fun c' bv hl=>h c' bv hl⟩
   | block id c=>simp only[lsAt,Good]
   | scope c=>simp only[lsAt,Good]
   | _=>simp only[lsAt,Good]
theorem WG{P:Program}{Γ:xK}{n:Fu}{m0:Nat}{f:St->(Ex->St->T R)->Option (T R)}{x:LS}{p:List Nat}{fn:Func}{c:Code}(hc:fn.body=some c)(h:Good P Γ n m0 x (wC p fn) (kG p fn ||| (ue (wC p fn)).1))
  (hl : ∀st K t,f st K=some t->vH n.n (jj P Γ n m0 x (wC p fn) (kG p fn) K) st=t):Good P Γ n m0 (lsAt f x p) c (yy fn.results.toList):=by
 refine xbh p c _ fun c' bv he =>?_
 have h1:wC p fn=c':=by simp only[wC,hc,he]
 have h2:kG p fn=bv:=by simp only[kG,hc,he]
 subst h1;subst h2
 exact⟨h,hl⟩
theorem xhT(q:List Nat) : ∀ (p:List Nat) (c:Code) (lv:Nat) (c':Code) (bv:Nat),wB p c lv=some (c',bv)->wB (p++0::q) c lv=wB q c' (bv ||| (ue c').1):=by
 intro p
 induction p with
 | nil=>
  intro c lv c' bv h
  cases c<;>simp only[wB]at h<;>(try cases h)
  rfl
 | cons a p ih=>
  intro c lv c' bv h
  cases a with
  | zero=>cases c<;>simp only[wB]at h<;>(try cases h)<;>exact ih _ _ _ _ h
  | succ a=>cases c<;>simp only[wB]at h<;>(try cases h)<;>exact ih _ _ _ _ h
theorem good_in{P:Program}{Γ:xK}{n:Fu}{m0:Nat}{f:St->(Ex->St->T R)->Option (T R)}{x:LS}{p q:List Nat}{fn:Func}{c:Code}(hc:fn.body=some c)(h:Good P Γ n m0 x (wC (p++0::q) fn) (kG (p++0::q) fn ||| (ue (wC (p++0::q) fn)).1))
  (hl : ∀st K t,f st K=some t->vH n.n (jj P Γ n m0 x (wC (p++0::q) fn) (kG (p++0::q) fn) K) st=t) (hp:(wB p c (yy fn.results.toList)).isSome=true):Good P Γ n m0 (lsAt f x q) (wC p fn) (kG p fn ||| (ue (wC p fn)).1):=by
 refine xbh q _ _ fun c' bv he =>?_
 cases hq:wB p c (yy fn.results.toList) with
 | none=>rw[hq]at hp;cases hp
 | some r=>
  have h1:wC p fn=r.1:=by simp only[wC,hc,hq]
  have h2:kG p fn=r.2:=by simp only[kG,hc,hq]
  have h3:=xhT q p c _ r.1 r.2 hq
  rw[h1,h2]at he
  have h4:wC (p++0::q) fn=c':=by simp only[wC,hc,h3,he]
  have h5:kG (p++0::q) fn=bv:=by simp only[kG,hc,h3,he]
  subst h4;subst h5
  exact⟨h,hl⟩
def vJ:List Nat->Code->Nat->Option (Code×Nat)
 | [],c,lv=>some (c,lv)
 | 0::p,.seq a b,lv=>vJ p a (lv ||| (ue b).1)
 | _::p,.seq _ b,lv=>vJ p b lv
 | 0::p,.cond _ a _,lv=>vJ p a lv
 | _::p,.cond _ _ b,lv=>vJ p b lv
 | _::p,.block _ c,lv=>vJ p c lv
 | _::p,.scope c,lv=>vJ p c lv
 | _::p,.loop c,lv=>vJ p c (lv ||| (ue c).1)
 | _,_,_=>none
def cutC(p:List Nat)(fn:Func):Code:=match fn.body with
 | some c=>match vJ p c (yy fn.results.toList) with
  | some r=>r.1
  | none =>.skip
 | none =>.skip
def cutV(p:List Nat)(fn:Func):Nat:=match fn.body with
 | some c=>match vJ p c (yy fn.results.toList) with
  | some r=>r.2
  | none=>0
 | none=>0
def csAt(f:St->(Ex->St->T R)->Option (T R))(x:LS):List Nat->LS
 | [] =>.no
 | 0::p =>.two (csAt f x p) .no
 | (_+1) :: [] =>.cut f .no x
 | (_+1)::p =>.two .no (csAt f x p)
theorem xan{P:Program}{Γ:xK}{n:Fu}{m0:Nat}{f:St->(Ex->St->T R)->Option (T R)}{x:LS} : ∀ (p:List Nat) (c:Code) (lv:Nat),
  (∀c' bv,vJ p c lv=some (c',bv)->Good P Γ n m0 x c' bv/\ ∀st K t,f st K=some t->ev2 P Γ n m0 x c' bv st (jI n m0 bv K)=t)->Good P Γ n m0 (csAt f x p) c lv:=by
 intro p
 induction p with
 | nil=>intro c lv h;simp only[csAt,Good]
 | cons a p ih=>
  intro c lv h
  cases a with
  | zero=>
   cases c with
   | seq a b=>simp only[csAt,Good];exact⟨ih a _ fun c' bv hl=>h c' bv hl,trivial⟩
   | cond c a b=>simp only[csAt,Good];exact⟨ih a _ fun c' bv hl=>h c' bv hl,trivial⟩
   | block id c=>simp only[csAt,Good];exact ih c _ fun c' bv hl=>h c' bv hl
   | scope c=>simp only[csAt,Good];exact ih c _ fun c' bv hl=>h c' bv hl
   | _=>simp only[csAt,Good]
  | succ a=>
   cases p with
   | nil=>
    cases c with
    | seq a b=>
     obtain⟨h1,h2⟩:=h b lv rfl
     simp only[csAt,Good]
     exact⟨trivial,h1,h2⟩
    | _=>simp only[csAt,Good]
   | cons a2 p=>
    cases c with
    | seq a b=>simp only[csAt,Good];exact⟨trivial,ih b _ fun c' bv hl=>h c' bv hl⟩
    | cond c a b=>simp only[csAt,Good];exact⟨trivial,ih b _ fun c' bv hl=>h c' bv hl⟩
    | block id c=>simp only[csAt,Good]
    | scope c=>simp only[csAt,Good]
    | _=>simp only[csAt,Good]
theorem xgH(q:List Nat) : ∀ (p:List Nat) (c:Code) (lv:Nat) (c':Code) (bv:Nat),vJ p c lv=some (c',bv)->vJ (p++q) c lv=vJ q c' bv:=by
 intro p
 induction p with
 | nil=>
  intro c lv c' bv h
  simp only[vJ,oI,dI]at h
  obtain⟨rfl,rfl⟩:=h
  rfl
 | cons a p ih=>
  intro c lv c' bv h
  cases a with
  | zero=>cases c<;>simp only[vJ]at h<;>(try cases h)<;>exact ih _ _ _ _ h
  | succ a=>cases c<;>simp only[vJ]at h<;>(try cases h)<;>exact ih _ _ _ _ h
theorem xgI(q:List Nat) : ∀ (p:List Nat) (c:Code) (lv:Nat) (c':Code) (bv:Nat),vJ p c lv=some (c',bv)->wB (p++q) c lv=wB q c' bv:=by
 intro p
 induction p with
 | nil=>
  intro c lv c' bv h
  simp only[vJ,oI,dI]at h
  obtain⟨rfl,rfl⟩:=h
  rfl
 | cons a p ih=>
  intro c lv c' bv h
  cases a with
  | zero=>cases c<;>simp only[vJ]at h<;>(try cases h)<;>exact ih _ _ _ _ h
  | succ a=>cases c<;>simp only[vJ]at h<;>(try cases h)<;>exact ih _ _ _ _ h
section
variable{P:Program}{Γ:xK}{n:Fu}{m0:Nat}{f:St->(Ex->St->T R)->Option (T R)}{x:LS}{p q:List Nat}{fn:Func}{c:Code}
theorem Zd(hc:fn.body=some c)(hx:Good P Γ n m0 x (cutC p fn) (cutV p fn))
  (hl : ∀st K t,f st K=some t->ev2 P Γ n m0 x (cutC p fn) (cutV p fn) st (jI n m0 (cutV p fn) K)=t):Good P Γ n m0 (csAt f x p) c (yy fn.results.toList):=by
 refine xan p c _ fun c' bv he =>?_
 have h1:cutC p fn=c':=by simp only[cutC,hc,he]
 have h2:cutV p fn=bv:=by simp only[cutV,hc,he]
 subst h1;subst h2
 exact⟨hx,hl⟩
theorem xbi(hc:fn.body=some c)(hx:Good P Γ n m0 x (cutC (p++q) fn) (cutV (p++q) fn))
  (hl : ∀st K t,f st K=some t->ev2 P Γ n m0 x (cutC (p++q) fn) (cutV (p++q) fn) st (jI n m0 (cutV (p++q) fn) K)=t) (hp:(vJ p c (yy fn.results.toList)).isSome=true):Good P Γ n m0 (csAt f x q) (cutC p fn) (cutV p fn):=by
 refine xan q _ _ fun c' bv he =>?_
 cases hq:vJ p c (yy fn.results.toList) with
 | none=>rw[hq]at hp;cases hp
 | some r=>
  have h1:cutC p fn=r.1:=by simp only[cutC,hc,hq]
  have h2:cutV p fn=r.2:=by simp only[cutV,hc,hq]
  have h3:=xgH q p c _ r.1 r.2 hq
  rw[h1,h2]at he
  have h4:cutC (p++q) fn=c':=by simp only[cutC,hc,h3,he]
  have h5:cutV (p++q) fn=bv:=by simp only[cutV,hc,h3,he]
  subst h4;subst h5
  exact⟨hx,hl⟩
theorem xcF(hc:fn.body=some c)(hx:Good P Γ n m0 x (wC (p++q) fn) (kG (p++q) fn ||| (ue (wC (p++q) fn)).1))
  (hl : ∀st K t,f st K=some t->vH n.n (jj P Γ n m0 x (wC (p++q) fn) (kG (p++q) fn) K) st=t) (hp:(vJ p c (yy fn.results.toList)).isSome=true):Good P Γ n m0 (lsAt f x q) (cutC p fn) (cutV p fn):=by
 refine xbh q _ _ fun c' bv he =>?_
 cases hq:vJ p c (yy fn.results.toList) with
 | none=>rw[hq]at hp;cases hp
 | some r=>
  have h1:cutC p fn=r.1:=by simp only[cutC,hc,hq]
  have h2:cutV p fn=r.2:=by simp only[cutV,hc,hq]
  have h3:=xgI q p c _ r.1 r.2 hq
  rw[h1,h2]at he
  have h4:wC (p++q) fn=c':=by simp only[wC,hc,h3,he]
  have h5:kG (p++q) fn=bv:=by simp only[kG,hc,h3,he]
  subst h4;subst h5
  exact⟨hx,hl⟩
end
def xG:Nat:=4096
theorem ve{fn:Func}(h:fn.body.isSome=true):fn.body=some (fn.body.getD .skip):=by
 cases hb:fn.body with
 | none=>rw[hb]at h;cases h
 | some c=>rfl
end Lx
namespace Lx
open Go
section
variable{P:Program}{Γ:xK}
theorem XR{β γ:Type}{ops:Array Oper}(κ:β->T γ)(pu o st k):(yl P Γ ops pu o st k).bind κ=yl P Γ ops pu o st fun ac=>(k ac).bind κ:=by
 rw[qY,T.bind_assoc,<- qY]
theorem VH{β γ:Type}{ops:Array Oper}(κ:β->T γ) : ∀ (l:List Oper) (st:St) (k:St->T β),(KP P Γ ops l st k).bind κ=KP P Γ ops l st fun ac=>(k ac).bind κ
 | [],st,k=>rfl
 | o::l,st,k=>by
  simp only[KP]
  rw[XR]
  congr 1
  funext ac
  exact VH κ l ac k
theorem jx{β γ:Type}{ops:Array Oper}{b:Array Nat}{D:List Nat}{A:List (Nat×Nat)}(κ:β->T γ) : ∀ (l:List Nat) (st:St) (k:St->T β),(yM P Γ ops b D A l st k).bind κ=yM P Γ ops b D A l st fun ac=>(k ac).bind κ
 | [],st,k=>rfl
 | i::l,st,k=>by
  simp only[yM]
  split
  .split
   .rw[XR]
    congr 1
    funext ac
    exact jx κ l ac k
   .rfl
  .rfl
theorem VI{β γ:Type}{F:St->(St->T β)->T β}{G:St->(St->T γ)->T γ}(κ:β->T γ)(h : ∀st k,(F st k).bind κ=G st fun ac=>(k ac).bind κ) : ∀ (n:Nat) (st:St),(vH n F st).bind κ=vH n G st
 | 0,_=>rfl
 | n+1,st=>by
  simp only[vH]
  rw[h]
  congr 1
  funext ac
  exact VI κ h n ac
theorem ev_bind{β γ:Type}(n:Fu)(m0:Nat)(κ:β->T γ) : ∀ (c:Code) (lv:Nat) (st:St) (K:Ex->St->T β),(ev P Γ n m0 c lv st K).bind κ=ev P Γ n m0 c lv st fun e ac=>(K e ac).bind κ:=by
 intro c
 induction c with
 | skip=>intro lv st K;rfl
 | label=>intro lv st K;rfl
 | seq a b iha ihb=>
  intro lv st K
  simp only[ev]
  rw[iha]
  congr 1
  funext e ac
  cases e with
  | normal=>
   simp only
   cases cutS n b with
   | true=>
    simp only
    cases normC n m0 (lv ||| (ue b).1) ac with
    | none=>rfl
    | some st2=>
     simp only
     rw[ihb]
     congr 1
     funext e3 st3
     unfold jI
     cases normC n m0 lv st3<;>rfl
   | false=>exact ihb _ _ _
  | exit i=>rfl
  | ret=>rfl
 | cond c a b iha ihb=>
  intro lv st K
  simp only[ev]
  split
  .rename_i t _
   cases t
   .exact ihb _ _ _
   .exact iha _ _ _
  .rfl
 | block id c ih=>
  intro lv st K
  simp only[ev]
  rw[ih]
  congr 1
  funext e ac
  cases e with
  | normal=>rfl
  | exit i=>simp only;split<;>rfl
  | ret=>rfl
 | scope c ih=>intro lv st K;exact ih _ _ _
 | exit id=>intro lv st K;rfl
 | ret=>intro lv st K;rfl
 | loop c ih=>
  intro lv st K
  simp only[ev]
  split
  .refine VI κ (fun st k =>?_) n.n _
   rw[ih]
   congr 1
   funext e ac
   cases e with
   | normal=>simp only;split<;>rfl
   | exit i=>simp only;split<;>rfl
   | ret=>simp only;split<;>rfl
  .rfl
 | region p ops draw=>
  intro lv st K
  simp only[ev]
  split
  .split
   .split
    .exact jx κ _ _ _
    .rfl
   .split
    .split
     .exact jx κ _ _ _
     .rfl
    .split
     .exact jx κ _ _ _
     .rfl
  .exact VH κ _ _ _
 | _=>intros;rfl
def evFK{β:Type}(P:Program)(Γ:xK)(n:Fu)(fn:Func)(args:List V)(H:Heap)(k:V×Heap->T β):T β:=
 match fn.body with
 | some c=>ev P Γ n H.length c (yy fn.results.toList) ⟨begun fn args,H⟩ fun e st=>match e with
  | .exit _ =>.fail
  | .normal | .ret=>match resV P fn st with
   | some v=>match finish H.length v st.heap with
    | some r=>k r
    | none =>.fail
   | none =>.fail
 | none =>.fail
theorem xgJ{β:Type}(n:Fu)(fn:Func)(args:List V)(H:Heap)(k:V×Heap->T β):evFK P Γ n fn args H k=(evF P Γ n fn args H).bind k:=by
 cases hb:fn.body with
 | none=>simp only[evFK,evF,hb];rfl
 | some c=>
  simp only[evFK,evF,hb]
  rw[ev_bind]
  congr 1
  funext e st
  cases e with
  | exit i=>rfl
  | normal=>
   simp only[endF]
   cases resV P fn st with
   | none=>rfl
   | some v=>simp only;cases finish (List.length H) v st.heap<;>rfl
  | ret=>
   simp only[endF]
   cases resV P fn st with
   | none=>rfl
   | some v=>simp only;cases finish (List.length H) v st.heap<;>rfl
def inl(P:Program)(Γ:xK)(n:Fu)(fn:Func):List V->Heap->Option Sum:=fun args H=>
 some ⟨V×Heap,evF P Γ n fn args H,some,fun _ k=>evFK P Γ n fn args H k,fun _ k=>xgJ n fn args H k⟩
end
end Lx
end Go.Proofs.YtfagfflkgmcnpaaGreatDoor
