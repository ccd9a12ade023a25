/- Part. -/
import Derived.Test.YtealkpadijffoaaGreatDoorSkM1
import Derived.Scope
set_option linter.all false
namespace Go.Proofs.YtealkpadijffoaaGreatDoor
namespace Lx
open Go
def Flat(pv:Value)(v:V)(rv:Value):Prop :=∀e,denV pv e v=some rv
structure PortB(P:Program) where
 pv:Pv
 t:TypeId
 u:Value
 isIface:pv.val = .iface t u
 sure : ∀name,portMeth name=true->hasPort P=true ->∀w,(nilAhead (P.types.size+Made.depth) t u name).run P w = .ok (some false) w
structure PortR(P:Program)(σ:Type) extends PortB P where
 step:PStep σ
 Rep:σ->(Nat->Prop)->World->Prop
 lt : ∀ {s F w},Rep s F w ->∀b,F b->b<w.heap.size
 stable : ∀ {s F w w'},Rep s F w->(∀b,F b->w'.heap[b]? = w.heap[b]?)->Rep s F w'
structure Port(P:Program)(σ:Type) extends PortR P σ where
 does : ∀ {name args p s s' x F w} {vs:List Value},popOf name args=some p->step p s=some (x,s')->allSome (denV pv []) args=some vs->Rep s F w->
  ∃f recv rv,(∀w,(callMethod pv name vs.toArray).run P w = .ok (.enter f (#[recv]++vs.toArray)) w)/\Flat pv (ansV p x) rv/\
   Calls P f (#[recv]++vs.toArray) w fun e w'=>e = .returned rv/\ ∃F',Rep s' F' w'/\Keeps F w w'/\ ∀b,F' b->F b\/w.heap.size<=b
instance{P:Program}{σ:Type}:CoeOut (PortR P σ) (PortB P):=⟨PortR.toPortB⟩
instance{P:Program}{σ:Type}:CoeOut (Port P σ) (PortR P σ):=⟨Port.toPortR⟩
section
variable{P:Program}(I:PortB P)
theorem PortB.one:One I.pv:=by show One I.pv.val;rw[I.isIface];exact⟨(fun _ h=>by cases h),(fun _ h=>by cases h)⟩
theorem PortB.ex : ∃t u,I.pv.val = .iface t u:=⟨I.t,I.u,I.isIface⟩
variable{ρ:Operand->Option V}{ra:Operand->Value}{o:Oper}{e:Env}{H:Heap}{w:World}
theorem xe9{x:Operand}{s:String}(hρ:Says I.pv e ρ ra)(E:Emb I.pv e H w)(ho:o.op = .nilCheck x)(hx:ρ x=some (.c (.meth s .port)))(hs:portMeth s=true)(hP:hasPort P=true):Did P I.pv ra o e H w (.c (.meth s .port)) H:=by
 have h1:=hρ x _ hx
 refine xq E (rv:=ra x) ?_ h1
 simp only[denV,den,Option.map_some,oI]at h1
 rw[I.isIface]at h1
 have h2:=I.sure s hs hP w
 simp only[execOp,ho,<- h1]
 simp[show(program.run P w) = .ok P w from rfl,h2]
theorem sure_eq{t:TypeId}{name:String}{f:FuncId}(h:qN P t name=some f)(v:Value)(w:World):(nilAhead (P.types.size+Made.depth) t v name).run P w = .ok (some false) w:=by
 unfold qN at h
 split at h
 ·rename_i i hi
  split at h
  ·rename_i m hm
   split at h
   ·rename_i f' el hp hf hu
    cases h
    change (nilAhead ((P.types.size+(Made.depth-1))+1) t v name).run P w=_
    simp[nilAhead,typeInfo,program,Sem.run,bind,Sem.bind,pure,hi,hm,hp,hf,followBlind]
   ·cases h
  ·cases h
 ·cases h
theorem xd4{x:Operand}{s:String}{t:TypeId}{c:C}{f:FuncId}{pv:Pv}(hρ:Says pv e ρ ra)(E:Emb pv e H w)(ho:o.op = .nilCheck x)(hx:ρ x=some (.c (.meth s (.ifc t c))))(hs:qN P t s=some f):Did P pv ra o e H w (.c (.meth s (.ifc t c))) H:=by
 have h1:=hρ x _ hx
 refine xq E (rv:=ra x) ?_ h1
 simp only[denV,den,Option.map_map,oM]at h1
 obtain⟨u,h2,h3⟩:=h1
 have h4:=sure_eq hs u w
 simp only[Function.comp]at h3
 simp only[execOp,ho,<- h3]
 simp[show(program.run P w) = .ok P w from rfl,h4]
theorem YX{v:V}{H':Heap}(hρ:Says I.pv e ρ ra)(E:Emb I.pv e H w)(h:evStep P o.op ρ H=some (.val true v H')):Did P I.pv ra o e H w v H':=by
 have hp:=I.one
 have hpi:=I.ex
 generalize ho:o.op=op at h
 unfold evStep at h
 split at h
 case h_1 x=>
  rw[oM]at h;obtain⟨v',h1,h2⟩:=h;cases h2
  exact xaL hρ E (.inl ho) h1
 case h_2 x=>
  rw[oM]at h;obtain⟨v',h1,h2⟩:=h;cases h2
  exact xaL hρ E (.inr ho) h1
 case h_3 c a b=>
  split at h
  ·rename_i t hc
   cases t
   ·simp only[oM]at h;obtain⟨v',h1,h2⟩:=h;cases h2
    exact xaM hρ E ho hc h1
   ·simp only[oM]at h;obtain⟨v',h1,h2⟩:=h;cases h2
    exact xaM hρ E ho hc h1
  ·cases h
 case h_4 t=>
  split at h
  ·rename_i z hz
   split at h
   ·rename_i cs hc
    cases h
    exact xdX hp E ho hz hc
   ·cases h
  ·cases h
 case h_5 t x=>
  split at h
  ·rename_i v' hv
   split at h
   ·rename_i cs hc
    cases h
    exact did_box hρ hp E ho hv hc
   ·cases h
  ·cases h
 case h_6 t parts=>
  split at h
  ·rename_i z ps hz hps
   split at h
   ·rename_i cs fs hc hu
    split at h
    ·rename_i places hpl
     rw[oM]at h;obtain⟨r,h1,h2⟩:=h;cases h2
     exact xb5 hp hρ E ho hz hps hc hu hpl h1
    ·cases h
   ·rename_i cs n el hc hu
    split at h
    ·rename_i n hn
     rw[oM]at h;obtain⟨r,h1,h2⟩:=h;cases h2
     exact xb6 hp hρ E ho hz hps hc hu hn h1
    ·cases h
   ·cases h
  ·cases h
 case h_7 t len parts=>
  split at h
  ·rename_i el ps hu hps
   split at h
   ·rename_i n z hn hz
    split at h
    ·rename_i zs hzs
     split at h
     ·rename_i h0
      split at h
      ·rename_i r hr
       cases h
       exact YT hp hρ E ho hu hps hn hz hzs h0 hr
      ·cases h
     ·cases h
    ·cases h
   ·cases h
  ·cases h
 case h_8 t a=>
  split at h
  ·rename_i b q ha
   split at h
   ·rename_i k hk
    rw[oM]at h;obtain⟨⟨g,r⟩,h1,h2⟩:=h
    simp only[Stp.val.injEq]at h2
    obtain⟨rfl,rfl,rfl⟩:=h2
    exact xe2 hρ E ho ha hk h1
   ·cases h
  ·rename_i b off i n f ha
   split at h
   ·rename_i k hk
    rw[oM]at h;obtain⟨⟨g,r⟩,h1,h2⟩:=h
    simp only[Stp.val.injEq]at h2
    obtain⟨rfl,rfl,rfl⟩:=h2
    exact xdY hρ E ho ha hk h1
   ·cases h
  ·cases h
 case h_9 t a x=>
  split at h
  ·rename_i b q v' ha hx
   split at h
   ·rename_i k xs n hk hxs hn
    split at h
    ·rename_i hl
     split at h
     ·rename_i g kn hcs
      simp only[oI,Stp.val.injEq]at h
      obtain⟨rfl,rfl,rfl⟩:=h
      exact VC hρ hp E ho (ju hρ ha) hx hk hxs hn hl hcs
     ·cases h
    ·cases h
   ·cases h
  ·rename_i b off i m f v' ha hx
   split at h
   ·rename_i k xs n hk hxs hn
    split at h
    ·rename_i hl
     split at h
     ·rename_i g kn hcs
      simp only[oI,Stp.val.injEq]at h
      obtain⟨rfl,rfl,rfl⟩:=h
      refine VC hρ hp E ho ?_ hx hk hxs hn hl hcs
      obtain⟨r,g1,g2⟩:=YO hρ ha
      exact⟨r,g1,by rw[prO_eq];exact g2⟩
     ·cases h
    ·cases h
   ·cases h
  ·cases h
 case h_10 x=>
  split at h
  ·cases h
  ·cases h
  ·cases h
  ·rename_i s c hx
   split at h
   ·split at h
    ·rename_i hs
     cases h
     exact xe9 I hρ E ho hx hs.1 hs.2
    ·cases h
   ·split at h
    ·rename_i hm
     cases h
     exact xd4 hρ E ho hx hm
    ·cases h
   ·cases h
  ·cases h
   rename_i h1 h2 h3 h4 hx
   exact Kw hpi hρ E ho hx h1 h2 h3 h4
  ·cases h
 case h_11 op t x y u=>
  split at h
  ·rename_i a b ha hb
   rw[oM]at h;obtain⟨⟨g,r⟩,h1,h2⟩:=h
   simp only[Stp.val.injEq]at h2
   obtain⟨rfl,rfl,rfl⟩:=h2
   exact did_bin hpi hρ E ho ha hb h1
  ·rename_i l m ha hb
   rw[oM]at h;obtain⟨r,h1,h2⟩:=h;cases h2
   exact xe5 hρ E ho ha hb h1
  ·cases h
 case h_12 op t x=>
  split at h
  ·rename_i a ha
   rw[oM]at h;obtain⟨r,h1,h2⟩:=h;cases h2
   exact did_un hρ E ho ha h1
  ·cases h
 case h_13 s d x=>
  split at h
  ·rename_i k n t j hx hs hd
   cases h
   exact xe3 hρ E ho hx hd ⟨_,hs⟩
  ·cases h
 case h_14 f first captured=>
  split at h
  ·rename_i hf
   split at h
   ·rename_i vs hvs
    rw[oM]at h;obtain⟨r,h1,h2⟩:=h;cases h2
    exact xe6 hρ E ho hf hvs h1
   ·cases h
  ·cases h
 case h_15 s first captured=>
  split at h
  ·rename_i hf
   split at h
   ·rename_i x hx
    split at h
    ·rename_i c hc
     cases h
     exact xe7 hρ E ho hf hx hc
    ·cases h
   ·cases h
  ·cases h
 case h_16 t x lo hi=>
  split at h
  ·rename_i n el b q l hh hu hx hl hh'
   split at h
   ·rename_i z g1 h' hz hb1
    split at h
    ·rename_i g2 l' hb2
     simp only[oI,Stp.val.injEq,Bool.and_eq_true]at h
     obtain⟨⟨rfl,rfl⟩,rfl,rfl⟩:=h
     exact KF hρ E ho hu hx hl hh' hz hb1 hb2
    ·cases h
   ·cases h
  ·rename_i el b q len cap l hh hu hx hl hh'
   split at h
   ·rename_i z g1 h' hz hb1
    split at h
    ·rename_i g2 l' hb2
     simp only[oI,Stp.val.injEq,Bool.and_eq_true]at h
     obtain⟨⟨rfl,rfl⟩,rfl,rfl⟩:=h
     exact xaR hρ E ho hu hx hl hh' hz hb1 hb2
    ·cases h
   ·cases h
  ·rename_i el b len l hh hu hx hl hh'
   split at h
   ·rename_i g1 h' hb1
    split at h
    ·rename_i g2 l' hb2
     split at h
     ·rename_i hz
      simp only[oI,Stp.val.injEq,Bool.and_eq_true]at h
      obtain⟨⟨rfl,rfl⟩,rfl,rfl⟩:=h
      exact KH hρ E ho hu hx hl hh' hz hb1 hb2
     ·cases h
    ·cases h
   ·cases h
  ·rename_i el b len l hh hu hx hl hh'
   split at h
   ·rename_i z g1 h' hz hb1
    split at h
    ·rename_i g2 l' hb2
     simp only[oI,Stp.val.injEq,Bool.and_eq_true]at h
     obtain⟨⟨rfl,rfl⟩,rfl,rfl⟩:=h
     exact KJ hρ E ho hu hx hl hh' hz hb1 hb2
    ·cases h
   ·cases h
  ·rename_i el b z q n l hh hu hx hl hh'
   split at h
   ·rename_i g1 h' hb1
    split at h
    ·rename_i g2 l' hb2
     split at h
     ·rename_i hz
      simp only[oI,Stp.val.injEq,Bool.and_eq_true,Nat.blt_eq]at h
      obtain⟨⟨⟨rfl,rfl⟩,hlt⟩,rfl,rfl⟩:=h
      exact KI hρ E ho hu hz hx hl hh' hb1 hb2 hlt
     ·cases h
    ·cases h
   ·cases h
  ·rename_i el s l hh _ _ _ _ _ hu hx hl hh'
   split at h
   ·rename_i hz
    rw[oM]at h
    obtain⟨⟨g,c⟩,h1,h2⟩:=h
    simp only[Stp.val.injEq]at h2
    obtain⟨rfl,rfl,rfl⟩:=h2
    exact xb4 hρ E ho hu hx hz hl hh' h1
   ·cases h
  ·cases h
 case h_17 t x f=>
  split at h
  ·rename_i fs b q hu hx
   split at h
   ·rename_i fd hfd
    split at h
    ·rename_i n hn
     split at h
     ·cases h
     ·rename_i hn0
      cases h
      exact Vb hρ E ho hu hx hfd hn hn0
    ·cases h
   ·cases h
  ·rename_i fs b off i m q hu hx
   split at h
   ·rename_i fd hfd
    split at h
    ·rename_i n hn
     split at h
     ·cases h
     ·rename_i hn0
      cases h
      exact YP hρ E ho hu hx hfd hn hn0
    ·cases h
   ·cases h
  ·cases h
 case h_18 t x f=>
  split at h
  ·rename_i fs cs hu hx
   split at h
   ·rename_i fd hfd
    rw[oM]at h;obtain⟨r,h1,h2⟩:=h;cases h2
    exact xdZ hρ E ho hu hx hfd h1
   ·cases h
  ·cases h
 case h_19 t x ix=>
  split at h
  ·rename_i len el b q k i hu hx hi
   rw[oM]at h;obtain⟨n,h1,h2⟩:=h
   simp only[Stp.val.injEq,decide_eq_true_eq]at h2
   obtain⟨hg,rfl,rfl⟩:=h2
   exact Ky hρ E ho hu hx hi h1 hg
  ·rename_i el b q len cap k i hu hx hi
   rw[oM]at h;obtain⟨n,h1,h2⟩:=h
   simp only[Stp.val.injEq,decide_eq_true_eq]at h2
   obtain⟨hg,rfl,rfl⟩:=h2
   exact xaO hρ E ho hu hx hi h1 hg
  ·rename_i el b q len k i hu hx hi
   split at h
   ·rename_i h1
    simp only[oI,Stp.val.injEq,decide_eq_true_eq]at h
    obtain⟨hg,rfl,rfl⟩:=h
    exact Kz hρ E ho hu hx hi h1 hg
   ·cases h
  ·rename_i el b q z len cap k i hu hx hi
   rw[oM]at h;obtain⟨n,h1,h2⟩:=h
   simp only[Stp.val.injEq,decide_eq_true_eq]at h2
   obtain⟨hg,rfl,rfl⟩:=h2
   exact KA hρ E ho hu hx hi h1 hg
  ·rename_i el b len k i hu hx hi
   rw[oM]at h;obtain⟨n,h1,h2⟩:=h
   simp only[Stp.val.injEq,decide_eq_true_eq]at h2
   obtain⟨hg,rfl,rfl⟩:=h2
   exact KB hρ E ho hu hx hi h1 hg
  ·rename_i el b z q len k i hu hx hi
   split at h
   ·rename_i hz
    simp only[oI,Stp.val.injEq,decide_eq_true_eq]at h
    obtain⟨hg,rfl,rfl⟩:=h
    exact KC hρ E ho hu hx hi hz hg
   ·cases h
  ·rename_i el b q d a len c k i hu hx hi
   split at h
   ·rename_i hz
    simp only[oI,Stp.val.injEq,decide_eq_true_eq]at h
    obtain⟨hg,rfl,rfl⟩:=h
    exact KE hρ E ho hu hx hi hz hg
   ·cases h
  ·rename_i len el b q k i hu hx hi
   rw[oM]at h;obtain⟨n,h1,h2⟩:=h
   simp only[Stp.val.injEq,decide_eq_true_eq]at h2
   obtain⟨hg,rfl,rfl⟩:=h2
   exact xb0 hρ E ho hu hx hi h1 hg
  ·cases h
 case h_20 t x ix=>
  split at h
  ·rename_i len el cs k i hu hx hi
   split at h
   ·rename_i n hn
    rw[oM]at h;obtain⟨v',h1,h2⟩:=h
    simp only[Stp.val.injEq,decide_eq_true_eq]at h2
    obtain⟨hg,rfl,rfl⟩:=h2
    exact xd0 hρ E ho hu hx hi hn hg (xeU h1 hg)
   ·cases h
  ·rename_i z k i hu hx hi
   simp only[oI,Stp.val.injEq,decide_eq_true_eq]at h
   obtain⟨hg,rfl,rfl⟩:=h
   exact xb1 hρ E ho hu hx hi hg
  ·cases h
 case h_21 t ix=>
  split at h
  ·rename_i l hx
   rw[oM]at h;obtain⟨v',h1,h2⟩:=h;cases h2
   exact xaN hρ E ho hx h1
  ·cases h
 case h_22 c=>
  split at h
  ·rename_i args hargs
   split at h
   ·rename_i b hb
    have ho':o.op = .call {callee :=.builtin b,args:=c.args,argTypes:=c.argTypes}:=by rw[ho,<- hb]
    split at h
    ·exact xb7 hp hρ E ho' hargs h
    ·exact xca hρ E ho' hargs h
    ·exact did_len hρ E ho' hargs h
   ·split at h
    ·rw[oM]at h;obtain⟨v',h1,h2⟩:=h;cases h2
    ·rw[oM]at h;obtain⟨v',h1,h2⟩:=h;cases h2
    ·cases h
   ·split at h
    ·cases h
    ·rw[oM]at h;obtain⟨v',h1,h2⟩:=h;cases h2
    ·cases h
  ·cases h
 case h_23 t l c=>
  split at h
  ·rename_i el k n k' n' hu hl hc
   split at h
   ·rename_i kd i hz
    split at h
    ·rename_i hgi
     obtain⟨hgr,rfl⟩:=hgi
     simp only[oI,Stp.val.injEq,decide_eq_true_eq]at h
     obtain⟨hg,rfl,rfl⟩:=h
     exact Vf hρ E ho hu hl hc hz hgr hg
    ·cases h
   ·cases h
  ·cases h
 case h_24 t=>
  split at h
  ·rename_i ht
   cases h
   exact xa0 E ho ht
  ·cases h
 case h_25 t m x ok=>exact xb8 hρ E ho h
 case h_26 t m x y=>exact xb9 hρ E ho h
 case h_27 t x=>
  split at h
  ·rename_i c d hx hu
   split at h
   ·cases h
   ·rename_i hd
    cases h
    exact xd3 hρ E ho hx hu (by simpa using hd)
  ·cases h
 case h_28 t x=>
  split at h
  ·rename_i n el b len hu hx
   split at h
   ·rename_i h0
    simp only[oI,Stp.val.injEq,Nat.ble_eq]at h
    obtain⟨hg,rfl,rfl⟩:=h
    exact xaP hρ E ho hu hx h0 hg
   ·cases h
  ·cases h
 case h_29 t x lo hi mx=>
  rw[oM]at h;obtain⟨⟨g,c⟩,h1,h2⟩:=h
  simp only[Stp.val.injEq]at h2
  obtain⟨rfl,rfl,rfl⟩:=h2
  exact xb3 hρ E ho h1
 case h_30=>cases h
end
end Lx
namespace Lx
open Go
theorem xG{H:Heap}{i:Nat}{k:Blk}:blkAt H i=some k↔H[i]? = some (some k):=by
 rw[xz]
 cases h:H[i]? with
 | none=>simp
 | some x=>simp
theorem Blk.win_of{k k':Blk}(h:k.tab=k'.tab):k.win=k'.win:=by unfold Blk.win;rw[h]
theorem Blk.wid_of{k k':Blk}(h:k.tab=k'.tab):k.wid=k'.wid:=by unfold Blk.wid;rw[h]
theorem Blk.virt_of{k k':Blk}(h:k.tab=k'.tab)(h':k.grown=k'.grown):k.virt=k'.virt:=by unfold Blk.virt;rw[h,h']
theorem Blk.mapped_of{k k':Blk}(h:k.tab=k'.tab):k.mapped=k'.mapped:=by unfold Blk.mapped;rw[h]
theorem Lies.like{A:Pv}{w:World}{r:Nat×Nat}{k k':Blk}{cs:List Value}(h:Lies A w r k' cs)(h1:k.elem=k'.elem)(h2:k.grown=k'.grown)(h3:k.tab=k'.tab):Lies A w r k cs:=by
 unfold Lies Tk at h |-
 rw[h3,Blk.virt_of h3 h2,Blk.mapped_of h3,Blk.win_of h3,Blk.wid_of h3,h1,h2];exact h
/-! ### renaming -/
mutual
theorem ZA{pv:Value}{e e':Env}{r:Nat->Option Nat}(hr : ∀b b' x,r b=some b'->e[b]? = some x->e'[b']? = some x) : ∀ (c c':C) (v:Value),renC r c=some c'->den pv e c=some v->den pv e' c'=some v
 | .bool b,c',v,h,hv=>by simp only[renC,oI]at h;subst h;simpa[den]using hv
 | .int k n,c',v,h,hv=>by simp only[renC,oI]at h;subst h;simpa[den]using hv
 | .nilp,c',v,h,hv=>by simp only[renC,oI]at h;subst h;simpa[den]using hv
 | .nils,c',v,h,hv=>by simp only[renC,oI]at h;subst h;simpa[den]using hv
 | .nilf,c',v,h,hv=>by simp only[renC,oI]at h;subst h;simpa[den]using hv
 | .nili,c',v,h,hv=>by simp only[renC,oI]at h;subst h;simpa[den]using hv
 | .nilm,c',v,h,hv=>by simp only[renC,oI]at h;subst h;simpa[den]using hv
 | .port,c',v,h,hv=>by simp only[renC,oI]at h;subst h;simpa[den]using hv
 | .str z,c',v,h,hv=>by simp only[renC,oI]at h;subst h;simpa[den]using hv
 | .gp g o,c',v,h,hv=>by simp only[renC,oI]at h;subst h;simpa[den]using hv
 | .mp b,c',v,h,hv=>by
  simp only[renC,oM]at h
  obtain⟨b',hb,rfl⟩:=h
  simp only[den,oM]at hv |-
  obtain⟨x,hx,rfl⟩:=hv
  exact⟨x,hr b b' x hb hx,rfl⟩
 | .ptr b o,c',v,h,hv=>by
  simp only[renC,oM]at h
  obtain⟨b',hb,rfl⟩:=h
  simp only[den]at hv |-
  exact xi (fun x hx=>hr b b' x hb hx) hv
 | .sl b o n m,c',v,h,hv=>by
  simp only[renC,oM]at h
  obtain⟨b',hb,rfl⟩:=h
  simp only[den]at hv |-
  exact xi (fun x hx=>hr b b' x hb hx) hv
 | .slg b o n,c',v,h,hv=>by
  simp only[renC,oM]at h
  obtain⟨b',hb,rfl⟩:=h
  simp only[den]at hv |-
  exact yy (fun x hx=>hr b b' x hb hx) hv
 | .pr b o i n f,c',v,h,hv=>by
  simp only[renC,oM]at h
  obtain⟨b',hb,rfl⟩:=h
  simp only[den]at hv |-
  exact xi (fun x hx=>hr b b' x hb hx) hv
 | .slw b o z n m,c',v,h,hv=>by
  simp only[renC,oM]at h
  obtain⟨b',hb,rfl⟩:=h
  simp only[den]at hv |-
  exact xi (fun x hx=>hr b b' x hb hx) hv
 | .slr b n,c',v,h,hv=>by
  simp only[renC,oM]at h
  obtain⟨b',hb,rfl⟩:=h
  simp only[den]at hv |-
  exact yy (fun x hx=>hr b b' x hb hx) hv
 | .slv b z o n,c',v,h,hv=>by
  simp only[renC,oM]at h
  obtain⟨b',hb,rfl⟩:=h
  simp only[den]at hv |-
  exact yy (fun x hx=>hr b b' x hb hx) hv
 | .slx b o d a n m,c',v,h,hv=>by
  simp only[renC,oM]at h
  obtain⟨b',hb,rfl⟩:=h
  simp only[den]at hv |-
  exact yy (fun x hx=>hr b b' x hb hx) hv
 | .fn f caps,c',v,h,hv=>by
  simp only[renC,oM]at h
  obtain⟨l,hl,rfl⟩:=h
  simp only[den]at hv |-
  exact xi (fun x hx=>kY hr caps l x hl hx) hv
 | .meth s c,c',v,h,hv=>by
  simp only[renC,oM]at h
  obtain⟨l,hl,rfl⟩:=h
  simp only[den]at hv |-
  exact xi (fun x hx=>ZA hr c l x hl hx) hv
 | .ifc t c,c',v,h,hv=>by
  simp only[renC,oM]at h
  obtain⟨l,hl,rfl⟩:=h
  simp only[den]at hv |-
  exact xi (fun x hx=>ZA hr c l x hl hx) hv
theorem kY{pv:Value}{e e':Env}{r:Nat->Option Nat}(hr : ∀b b' x,r b=some b'->e[b]? = some x->e'[b']? = some x) : ∀ (l l':List C) (vs:List Value),vZ r l=some l'->denL pv e l=some vs->denL pv e' l'=some vs
 | [],l',vs,h,hv=>by simp only[vZ,oI]at h;subst h;simpa[denL]using hv
 | c::l,l',vs,h,hv=>by
  simp only[vZ]at h
  split at h
  ·rename_i c' hc
   split at h
   ·rename_i l'' hl
    cases h
    simp only[denL]at hv |-
    split at hv
    ·rename_i v hcv
     split at hv
     ·rename_i us hu
      cases hv
      rw[ZA hr c c' v hc hcv,kY hr l l'' us hl hu]
     ·cases hv
    ·cases hv
   ·cases h
  ·cases h
end
theorem xd5{pv:Value}{e e':Env}{r:Nat->Option Nat}(hr : ∀b b' x,r b=some b'->e[b]? = some x->e'[b']? = some x)(x x':V1)(v:Value)(h:XF r x=some x')(hv:vo pv e x=some v):vo pv e' x'=some v:=by
 cases x with
 | c a=>
  simp only[XF,oM]at h
  obtain⟨a',ha,rfl⟩:=h
  exact ZA hr a a' v ha hv
 | agg l=>
  simp only[XF,oM]at h
  obtain⟨a',ha,rfl⟩:=h
  simp only[vo]at hv |-
  exact xi (fun x hx=>kY hr l a' x ha hx) hv
theorem wX{α β γ δ:Type}{f:α->Option β}{g:α->Option γ}{h:β->Option δ}{j:γ->δ}(hh : ∀x y z,f x=some y->g x=some z->h y=some (j z)) : ∀ (l:List α) (ys:List β) (zs:List γ),allSome f l=some ys->allSome g l=some zs->allSome h ys=some (zs.map j)
 | [],ys,zs,h1,h2=>by
  simp only[allSome,oI]at h1 h2
  subst h1;subst h2;rfl
 | x::l,ys,zs,h1,h2=>by
  simp only[allSome]at h1 h2
  split at h1
  ·rename_i y hy
   split at h1
   ·rename_i ys' hys
    cases h1
    split at h2
    ·rename_i z hz
     split at h2
     ·rename_i zs' hzs
      cases h2
      simp only[allSome,hh x y z hy hz,wX hh l ys' zs' hys hzs,List.map_cons]
     ·cases h2
    ·cases h2
   ·cases h1
  ·cases h1
theorem kZ{pv:Value}{e e':Env}{r:Nat->Option Nat}(hr : ∀b b' x,r b=some b'->e[b]? = some x->e'[b']? = some x)(x x':V)(v:Value)(h:renV r x=some x')(hv:denV pv e x=some v):denV pv e' x'=some v:=by
 cases x with
 | c a=>
  simp only[renV,oM]at h
  obtain⟨a',ha,rfl⟩:=h
  exact ZA hr a a' v ha hv
 | agg l=>
  simp only[renV,oM]at h
  obtain⟨a',ha,rfl⟩:=h
  simp only[denV]at hv |-
  exact xi (fun x hx=>kY hr l a' x ha hx) hv
 | tup l=>
  simp only[renV,oM]at h
  obtain⟨l',hl,rfl⟩:=h
  simp only[denV,oM]at hv |-
  obtain⟨vs,h1,h2⟩:=hv
  refine⟨vs,?_,h2⟩
  have:=wX (h:=vo pv e') (j:=id) (fun x y z hy hz=>xd5 hr x y z hy hz) l l' vs hl h1
  simpa using this
/-! ### the blocks that values lead to -/
theorem ja(H:Heap) : ∀ (n:Nat) (todo acc l:List Nat),vQ H n todo acc=some l->acc.Nodup->(∀b∈acc,∃k,blkAt H b=some k)->l.Nodup/\(∀b∈l,∃k,blkAt H b=some k)/\ ∃x,l=acc++x
 | n,[],acc,l,h,h1,h2=>by
  have:acc=l:=by cases n<;>simpa[vQ]using h
  subst this
  exact⟨h1,h2,[],by simp⟩
 | 0,b::todo,acc,l,h,h1,h2=>by simp[vQ]at h
 | n+1,b::todo,acc,l,h,h1,h2=>by
  simp only[vQ]at h
  split at h
  ·exact ja H n todo acc l h h1 h2
  ·rename_i hc
   split at h
   ·rename_i k hk
    have hb:b∉acc:=by simpa using hc
    obtain⟨g1,g2,x,g3⟩:=ja H n _ (acc ++ [b]) l h (by
     rw[List.nodup_append]
     refine⟨h1,by simp,fun a ha c hc =>?_⟩
     simp only[List.mem_singleton]at hc
     subst hc
     exact fun e=>hb (e▸ha)) (fun c hc=>by
     rcases List.mem_append.1 hc with h|h
     ·exact h2 c h
     ·simp only[List.mem_singleton]at h
      subst h
      exact⟨k,hk⟩)
    exact⟨g1,g2,[b]++x,by rw[g3];simp⟩
   ·cases h
theorem VG{H:Heap}{m:Nat}{todo l:List Nat}(h:Kn H m todo=some l):l.Nodup/\ ∀b∈l,b<H.length:=by
 unfold Kn at h
 split at h
 ·rename_i hle
  have hle:=Nat.le_of_ble_eq_true hle
  split at h
  ·rename_i l0 hl0
   cases h
   obtain⟨g1,g2,_⟩:=ja H _ _ _ l0 hl0 (List.nodup_range.filter _) fun b hb=>Option.isSome_iff_exists.1 (List.mem_filter.1 hb).2
   refine⟨?_,fun b hb =>?_⟩
   ·rw[List.nodup_append]
    refine⟨List.nodup_range,g1.filter _,fun a ha c hc hac =>?_⟩
    subst hac
    have h1:=List.mem_range.1 ha
    have h2:=Nat.le_of_ble_eq_true (List.mem_filter.1 hc).2
    omega
   ·rcases List.mem_append.1 hb with hb|hb
    ·exact Nat.lt_of_lt_of_le (List.mem_range.1 hb) hle
    ·obtain⟨k,hk⟩:=g2 b (List.mem_filter.1 hb).1
     rw[xG]at hk
     exact(List.getElem?_eq_some_iff.1 hk).1
  ·cases h
 ·cases h
theorem qC : ∀ (l:List Nat) (b i:Nat),idx l b=some i->l[i]? = some b
 | [],b,i,h=>by simp[idx]at h
 | x::l,b,i,h=>by
  simp only[idx]at h
  split at h
  ·rename_i hx
   cases h
   simp[hx]
  ·rw[oM]at h
   obtain⟨j,hj,rfl⟩:=h
   simpa using qC l b j hj
theorem yu : ∀ (l:List Nat) (xs:List (Option Blk)) (H:Heap),(vk H l xs).length=H.length
 | [],xs,H=>by simp[vk]
 | b::l,[],H=>by simp[vk]
 | b::l,x::xs,H=>by simp only[vk];rw[yu l xs,yl,List.length_set]
theorem kK : ∀ (l:List Nat) (xs:List (Option Blk)) (H:Heap) (j:Nat),j∉l->(vk H l xs)[j]? = H[j]?
 | [],xs,H,j,h=>by simp[vk]
 | b::l,[],H,j,h=>by simp[vk]
 | b::l,x::xs,H,j,h=>by
  simp only[List.mem_cons,not_or]at h
  simp only[vk]
  rw[kK l xs _ j h.2,yl,List.getElem?_set_ne (fun e=>h.1 e.symm)]
theorem Xh : ∀ (l:List Nat) (xs:List (Option Blk)) (H:Heap) (i j:Nat) (x:Option Blk),l.Nodup->l[i]? = some j->xs[i]? = some x->j<H.length->(vk H l xs)[j]? = some x
 | [],xs,H,i,j,x,hn,hl,hx,hj=>by simp at hl
 | b::l,[],H,i,j,x,hn,hl,hx,hj=>by simp at hx
 | b::l,y::xs,H,0,j,x,hn,hl,hx,hj=>by
  simp only[List.getElem?_cons_zero,oI]at hl hx
  subst hl;subst hx
  simp only[vk]
  rw[kK l xs _ b (List.nodup_cons.1 hn).1,yl,List.getElem?_set_self hj]
 | b::l,y::xs,H,i+1,j,x,hn,hl,hx,hj=>by
  simp only[List.getElem?_cons_succ]at hl hx
  simp only[vk]
  exact Xh l xs _ i j x (List.nodup_cons.1 hn).2 hl hx (by rw[yl,List.length_set];exact hj)
/-! ### a callee's blocks -/
theorem Xi{r:Nat->Option Nat}{x:Option Blk}{k':Blk}(h:renB r x=some (some k')) : ∃k,x=some k/\vZ r k.cells=some k'.cells/\k'.elem=k.elem/\k'.grown=k.grown/\k'.tab=k.tab:=by
 cases x with
 | none=>simp[renB]at h
 | some k=>
  simp only[renB,oM,oI]at h
  obtain⟨cs,h1,rfl⟩:=h
  exact⟨k,rfl,h1,rfl,rfl,rfl⟩
theorem YY{pv:Value}{e e':Env}{r:Nat->Option Nat}(hr : ∀b b' x,r b=some b'->e[b]? = some x->e'[b']? = some x){k k':Blk}(hc:vZ r k.cells=some k'.cells)(ht:k'.tab=k.tab){cs:List Value}(h:denL pv e k.real=some cs):denL pv e' k'.real=some cs:=by
 cases hk:k.tab with
 | none=>
  rw[Blk.real_none hk]at h
  rw[Blk.real_none (ht.trans hk)]
  exact kY hr _ _ _ hc h
 | some t=>
  cases hq:t.isTok with
  | false=>
   rw[Blk.real_some hk]at h
   rw[Blk.real_some (ht.trans hk),Xc (pv:=pv) (e:=e) (xaG t)]
   exact h
  | true=>
   cases t<;>first|cases hq|skip
   rw[Blk.real_tok hk]at h
   rw[Blk.real_tok (ht.trans hk)]
   exact kY hr _ _ _ hc h
theorem xcb{r:Nat->Option Nat}{k k':Blk}(hc:vZ r k.cells=some k'.cells)(ht:k'.tab=k.tab)(hk:k.ok):k'.ok:=by
 intro t h hq
 rw[hk t (ht.symm.trans h) hq]at hc
 simp only[vZ,oI]at hc
 exact hc.symm
theorem Emb.sub{pv:Pv}{e:Env}{H:Heap}{w:World}(E:Emb pv e H w){l:List Nat}(hn:l.Nodup)(hk : ∀b∈l,b<H.length){H0:Heap}(h:allSome (fun b=>renB (idx l) (blkAt H b)) l=some H0) :
  ∃e0:Env,e0.length=l.length/\(∀ (i b:Nat),l[i]? = some b->e0[i]? = e[b]?)/\Emb pv e0 H0 w/\ ∀q x,Own q e0 H0 x ->∃i∈l,∃k r,blkAt H i=some k/\e[i]? = some r/\r.1=x/\k.virt=false/\(q=true->k.win=none):=by
 have hl:=xQ _ _ _ h
 have hget : ∀ (i b:Nat),l[i]? = some b->(l.map fun b=>(e[b]?).getD (0,0))[i]? = e[b]? :=by
  intro i b hb
  have hbl:=hk b (List.mem_of_getElem? hb)
  obtain⟨r,hr⟩ : ∃r,e[b]? = some r:=⟨_,List.getElem?_eq_getElem (by have:=E.len;omega)⟩
  rw[List.getElem?_map,hb,hr]
  simp[hr]
 have hr : ∀b b' x,idx l b=some b'->e[b]? = some x->(l.map fun b=>(e[b]?).getD (0,0))[b']? = some x:=fun b b' x h1 h2=>(hget b' b (qC l b b' h1)).trans h2
 have orig : ∀i k,blkAt H0 i=some k ->∃b k',l[i]? = some b/\blkAt H b=some k'/\vZ (idx l) k'.cells=some k.cells/\k.elem=k'.elem/\k.grown=k'.grown/\k.tab=k'.tab:=by
  intro i k hk
  rw[xG]at hk
  have hi:i<l.length:=by rw[<- hl];exact(List.getElem?_eq_some_iff.1 hk).1
  obtain⟨y,h1,h2⟩:=yw _ _ _ h i _ (List.getElem?_eq_getElem hi)
  rw[hk]at h2
  cases h2
  obtain⟨k',h3,h4,h5,h6,h7⟩:=Xi h1
  exact⟨l[i],k',List.getElem?_eq_getElem hi,h3,h4,h5,h6,h7⟩
 refine⟨l.map fun b=>(e[b]?).getD (0,0),by simp,hget,⟨by simp[hl],fun i k hk =>?_,fun i j k k' r r' h1 h2 h3 h4 h5 v1 v2 =>?_,fun i k hk =>?_⟩,fun q x hx =>?_⟩
 ·obtain⟨b,k',h1,h2,h3,h4,h5,h6⟩:=orig i k hk
  obtain⟨r,cs,g1,g2,g3⟩:=E.lies b k' h2
  exact⟨r,cs,(hget i b h1).trans g1,YY hr h3 h6 g2,g3.like h4 h5 h6⟩
 rotate_left
 ·obtain⟨b,k',h1,h2,h3,h4,h5,h6⟩:=orig i k hk
  exact xcb h3 h6 (E.ok b k' h2)
 rotate_right
 ·obtain⟨b,kb,g1,g2,_,_,u1,w1⟩:=orig i k h1
  obtain⟨c,kc,g3,g4,_,_,u2,w2⟩:=orig j k' h2
  rw[Blk.virt_of w1 u1]at v1
  rw[Blk.virt_of w2 u2]at v2
  rw[hget i b g1]at h3
  rw[hget j c g3]at h4
  rcases E.alone b c kb kc r r' g2 g4 h3 h4 h5 v1 v2 with this|hw
  ·subst this
   exact .inl ((List.getElem?_inj (List.getElem?_eq_some_iff.1 g1).1 hn).1 (g1.trans g3.symm))
  ·rw[Blk.win_of w1,Blk.win_of w2];exact .inr hw
 ·obtain⟨i,k,r,h1,h2,h3,hv,h4⟩:=hx
  obtain⟨b,kb,g1,g2,_,_,u3,g3⟩:=orig i k h1
  rw[hget i b g1]at h2
  exact⟨b,List.mem_of_getElem? g1,kb,r,g2,h2,h3,by rw[<- Blk.virt_of g3 u3];exact hv,fun hq=>by rw[<- Blk.win_of g3];exact h4 hq⟩
def Ze{P:Program}{σ:Type}(I:Port P σ)(f:FuncId)(m:List V->Heap->Option Sum):Prop:=
 (∃fn c,P.funcs[f]? = some fn/\(fn.name == "runtime.NumGoroutine")=false/\fn.body=some c)/\
 ∀args H S,m args H=some S ->∀e w s F vs,Emb I.pv e H w->allSome (denV I.pv e) args=some vs->I.Rep s F w->(∀b,Own false e H b ->¬F b)->
 ∀x v H' s',S.t.run I.step s=some (x,s')->S.f x=some (v,H')->
 Calls P f vs.toArray w fun en w' =>∃e' F' rv,en = .returned rv/\Ext e e'/\denV I.pv e' v=some rv/\Emb I.pv e' H' w'/\I.Rep s' F' w'/\(∀b,Own false e' H' b ->¬F' b)/\
 Keeps (fun b=>Own true e H b\/F b) w w'/\ ∀q b,Own q e' H' b\/F' b->Own q e H b\/F b\/w.heap.size<=b
theorem T.run_bind_some{α β σ:Type}{step:PStep σ}{t:T α}{f:α->T β}{s s':σ}{b:β}(h:(t.bind f).run step s=some (b,s')) : ∃a s1,t.run step s=some (a,s1)/\(f a).run step s1=some (b,s'):=by
 rw[T.run_bind]at h
 split at h
 ·rename_i a s1 hs
  exact⟨a,s1,hs,h⟩
 ·cases h
theorem xcc{P:Program}{σ:Type}(I:Port P σ){Γ:yc}(hΓ : ∀f m,Γ f=some m->Ze I f m){f:FuncId}{args:List V}{H:Heap}{S:Sum}(h:wa Γ f args H=some S)
  {e:Env} {w:World} {s s':σ} {F:Nat->Prop} {vs:List Value} (E:Emb I.pv e H w) (hv:allSome (denV I.pv e) args=some vs) (hR:I.Rep s F w) (hF : ∀b,Own false e H b ->¬F b) {v:V} {H':Heap} {x:S.α} (hrun:S.t.run I.step s=some (x,s')) (hfx:S.f x=some (v,H')) :
  (∃fn c,P.funcs[f]? = some fn/\(fn.name == "runtime.NumGoroutine")=false/\fn.body=some c)/\
  Calls P f vs.toArray w fun en w' =>∃e' F' rv,en = .returned rv/\Ext e e'/\denV I.pv e' v=some rv/\Emb I.pv e' H' w'/\I.Rep s' F' w'/\(∀b,Own false e' H' b ->¬F' b)/\
    Keeps (fun b=>Own true e H b\/F b) w w'/\ ∀q b,Own q e' H' b\/F' b->Own q e H b\/F b\/w.heap.size<=b:=by
 unfold wa at h
 split at h
 ·cases h
 ·rename_i m hm
  obtain⟨hbody,hsound⟩:=hΓ f m hm
  refine⟨hbody,?_⟩
  split at h
  ·cases h
  ·rename_i l hl
   obtain⟨hn,hk,_⟩:=ja H _ _ [] l hl (by simp) (by simp)
   split at h
   ·rename_i args' H0 hargs hH0
    split at h
    ·cases h
    ·rename_i t0 ht0
     cases h
     obtain⟨e0,hlen0,hget0,E0,hown0⟩:=E.sub hn (fun b hb=>(hk b hb).elim fun k h=>by rw[xG]at h;exact(List.getElem?_eq_some_iff.1 h).1) hH0
     have hr1:=hrun
     have hr2:=hfx
     have hr : ∀b b' x,idx l b=some b'->e[b]? = some x->e0[b']? = some x:=fun b b' x h1 h2=>(hget0 b' b (qC l b b' h1)).trans h2
     have hargs0:allSome (denV I.pv e0) args'=some vs:=by
      have:=wX (h:=denV I.pv e0) (j:=id) (fun x y z hy hz=>kZ hr x y z hy hz) args args' vs hargs hv
      simpa using this
     have own0 : ∀q x,Own q e0 H0 x->Own q e H x:=by
      intro q x hx
      obtain⟨i,hi,k,r,h1,h2,h3,hv,h4⟩:=hown0 q x hx
      exact⟨i,k,r,h1,h2,h3,hv,h4⟩
     simp only at hr2
     split at hr2
     ·cases hr2
     rename_i r0 hr0
     obtain⟨v0,H1⟩:=r0
     simp only at hr2
     split at hr2
     ·rename_i v1 H2 hv1 hH2
      split at hr2
      ·rename_i hle
       simp only[oI,Prod.mk.injEq]at hr2
       obtain⟨rfl,rfl⟩:=hr2
       refine(hsound args' H0 t0 ht0 e0 w s F vs E0 hargs0 hR (fun b hb=>hF b (own0 _ b hb)) x v0 H1 _ hr1 hr0).mono ?_
       rintro en w' ⟨e0',F',rv,hen,⟨xs,hx⟩,hd,E1,hR',hF',hK,hnew⟩
       subst hx
       have hle':=E.len
       have hext:Ext e (e++xs):=⟨xs,rfl⟩
       have hb : ∀i i' y,(fun i=>some (vi l H.length i)) i=some i'->(e0++xs)[i]? = some y->(e++xs)[i']? = some y:=by
        intro i i' y h1 h2
        simp only[oI]at h1
        subst h1
        unfold vi
        split
        ·rename_i hi
         rw[List.getElem?_append_left (by omega)]at h2
         rw[hget0 i l[i] (List.getElem?_eq_getElem hi)]at h2
         rw[List.getD_eq_getElem?_getD,List.getElem?_eq_getElem hi]
         exact hext.get h2
        ·rename_i hi
         rw[List.getElem?_append_right (by omega)]at h2
         rw[List.getElem?_append_right (by omega),<- h2]
         congr 1
         omega
       have hl1:=xQ _ _ _ hH2
       have orig : ∀i k,H2[i]? = some (some k) ->∃k',blkAt H1 i=some k'/\vZ (fun i=>some (vi l H.length i)) k'.cells=some k.cells/\k.elem=k'.elem/\k.grown=k'.grown/\k.tab=k'.tab:=by
        intro i k hk
        have hi:i<H1.length:=by rw[<- hl1];exact(List.getElem?_eq_some_iff.1 hk).1
        obtain⟨y,h1,h2⟩:=yw _ _ _ hH2 i _ (List.getElem?_eq_getElem hi)
        rw[hk]at h2
        cases h2
        obtain⟨k',h3,h4,h5,h6,h7⟩:=Xi h1
        exact⟨k',by rw[xG,List.getElem?_eq_getElem hi,h3],h4,h5,h6,h7⟩
       -- where a block behind the call comes from
       have from_ : ∀j k,blkAt (vk H l H2++H2.drop l.length) j=some k->(j∉l/\blkAt H j=some k)\/ ∃i,vi l H.length i=j/\H2[i]? = some (some k):=by
        intro j k hj
        rw[xG]at hj
        by_cases hjl:j<H.length
        ·rw[List.getElem?_append_left (by rw[yu];exact hjl)]at hj
         by_cases hmem:j∈l
         ·right
          obtain⟨i,hi⟩:=List.getElem?_of_mem hmem
          have hil:=(List.getElem?_eq_some_iff.1 hi).1
          have hi2:i<H2.length:=by omega
          rw[Xh l H2 H i j _ hn hi (List.getElem?_eq_getElem hi2) hjl]at hj
          refine⟨i,?_,by rw[List.getElem?_eq_getElem hi2,hj]⟩
          unfold vi
          rw[if_pos hil,List.getD_eq_getElem?_getD,hi]
          rfl
         ·left
          rw[kK l H2 H j hmem]at hj
          exact⟨hmem,by rw[xG];exact hj⟩
        ·right
         rw[List.getElem?_append_right (by rw[yu];omega),yu,List.getElem?_drop]at hj
         refine⟨l.length+(j-H.length),?_,hj⟩
         unfold vi
         rw[if_neg (by omega)]
         omega
       have away : ∀q j k r,j∉l->blkAt H j=some k->e[j]? = some r->k.virt=false->(q=false->k.win=none) ->¬ (Own q e0 H0 r.1\/F r.1)/\r.1<w.heap.size:=by
        intro q j k r hj hkj hrj hv hq
        refine⟨fun h =>?_,E.own_lt (yQ hkj hrj hv)⟩
        rcases h with h|h
        ·obtain⟨i,hi,k',r',h1,h2,h3,hv',h4⟩:=hown0 _ _ h
         refine hj (E.inj i j k' k r' r h1 hkj h2 hrj h3 hv' hv ?_▸hi)
         cases q with
         | false=>exact .inr (hq rfl)
         | true=>exact .inl (h4 rfl)
        ·exact hF _ (yQ hkj hrj hv) h
       have own1 : ∀q b,Own q (e++xs) (vk H l H2++H2.drop l.length) b->Own q (e0++xs) H1 b\/(∃j k r,j∉l/\blkAt H j=some k/\e[j]? = some r/\r.1=b/\k.virt=false/\(q=true->k.win=none)):=by
        rintro q b ⟨j,k,r,h1,h2,h3,hv,h4⟩
        rcases from_ j k h1 with⟨hj,hkj⟩|⟨i,hi,hki⟩
        ·right
         refine⟨j,k,r,hj,hkj,?_,h3,hv,h4⟩
         have:j<H.length:=(List.getElem?_eq_some_iff.1 (xG.1 hkj)).1
         rwa [List.getElem?_append_left (by omega)]at h2
        ·left
         obtain⟨k',g1,_,_,g4,g5⟩:=orig i k hki
         obtain⟨r',g2⟩:=E1.get g1
         have:=hb i j r' (congrArg some hi) g2
         rw[h2]at this
         cases this
         exact⟨i,k',r,g1,g2,h3,by rw[<- Blk.virt_of g5 g4];exact hv,fun hq=>by rw[<- Blk.win_of g5];exact h4 hq⟩
       refine⟨e++xs,F',rv,hen,hext,kZ hb v0 v1 rv hv1 hd,⟨?_,?_,?_,?_⟩,hR',?_,hK.mono (fun b hb=>hb.imp (own0 _ b) id),?_⟩
       ·have:=E1.len
        simp only[List.length_append,yu,List.length_drop]at this |-
        omega
       ·intro j k hj
        rcases from_ j k hj with⟨hjl,hkj⟩|⟨i,hi,hki⟩
        ·obtain⟨r,cs,g1,g2,g3⟩:=E.lies j k hkj
         refine⟨r,cs,hext.get g1,yt hext _ _ g2,g3.same fun hv =>?_⟩
         obtain⟨a1,a2⟩:=away true j k r hjl hkj g1 hv (fun h=>by cases h)
         exact hK.block r.1 a2 a1
        ·obtain⟨k',g1,g2,g3,g4,g5⟩:=orig i k hki
         obtain⟨r,cs,a1,a2,a3⟩:=E1.lies i k' g1
         exact⟨r,cs,hb i j r (congrArg some hi) a1,YY hb g2 g5 a2,a3.like g3 g4 g5⟩
       ·intro i j k k' r r' h1 h2 h3 h4 h5 v1 v2
        have mixed : ∀i j k k' r r',(i∉l/\blkAt H i=some k)->(∃q,vi l H.length q=j/\H2[q]? = some (some k'))->(e++xs)[i]? = some r->(e++xs)[j]? = some r'->r.1=r'.1->k.virt=false->k'.virt=false->k.win.isSome=true/\k'.win.isSome=true:=by
         rintro i j k k' r r' ⟨h1,h2⟩ ⟨q,h3,h4⟩ h5 h6 h7 v1 v2
         obtain⟨kq,g1,_,_,g4,g5⟩:=orig q k' h4
         obtain⟨rq,g2⟩:=E1.get g1
         have g3:=hb q j rq (congrArg some h3) g2
         rw[h6]at g3
         cases g3
         have:i<H.length:=(List.getElem?_eq_some_iff.1 (xG.1 h2)).1
         rw[List.getElem?_append_left (by omega)]at h5
         have bad : ∀q',(q'=false->k.win=none)->(q'=true->kq.win=none)->False:=by
          intro q' hq1 hq2
          obtain⟨a1,a2⟩:=away q' i k r h1 h2 h5 v1 hq1
          rcases hnew q' r'.1 (.inl ⟨q,kq,r',g1,g2,rfl,by rw[<- Blk.virt_of g5 g4];exact v2,hq2⟩)with h|h|h
          ·exact a1 (.inl (h7▸h))
          ·exact a1 (.inr (h7▸h))
          ·omega
         rw[Blk.win_of g5]
         constructor
         ·cases hk:k.win with
          | some _=>rfl
          | none=>exact(bad false (fun _=>hk) (fun h=>by cases h)).elim
         ·cases hk:kq.win with
          | some _=>rfl
          | none=>exact(bad true (fun h=>by cases h) (fun _=>hk)).elim
        rcases from_ i k h1 with g1|g1<;>rcases from_ j k' h2 with g2|g2
        ·have hi:i<H.length:=(List.getElem?_eq_some_iff.1 (xG.1 g1.2)).1
         have hj:j<H.length:=(List.getElem?_eq_some_iff.1 (xG.1 g2.2)).1
         rw[List.getElem?_append_left (by omega)]at h3 h4
         exact E.alone i j k k' r r' g1.2 g2.2 h3 h4 h5 v1 v2
        ·exact .inr (mixed i j k k' r r' g1 g2 h3 h4 h5 v1 v2)
        ·exact .inr (mixed j i k' k r' r g2 g1 h4 h3 h5.symm v2 v1).symm
        ·obtain⟨p,p1,p2⟩:=g1
         obtain⟨q,q1,q2⟩:=g2
         obtain⟨kp,a1,_,_,u1,w1⟩:=orig p k p2
         obtain⟨kq,b1,_,_,u2,w2⟩:=orig q k' q2
         rw[Blk.virt_of w1 u1]at v1
         rw[Blk.virt_of w2 u2]at v2
         obtain⟨rp,a2⟩:=E1.get a1
         obtain⟨rq,b2⟩:=E1.get b1
         have a3:=hb p i rp (congrArg some p1) a2
         have b3:=hb q j rq (congrArg some q1) b2
         rw[h3]at a3
         rw[h4]at b3
         cases a3;cases b3
         rcases E1.alone p q kp kq r r' a1 b1 a2 b2 h5 v1 v2 with this|this
         ·left;rw[<- p1,<- q1,this]
         ·right;rw[Blk.win_of w1,Blk.win_of w2];exact this
       ·intro j k hj
        rcases from_ j k hj with⟨hjl,hkj⟩|⟨i,hi,hki⟩
        ·exact E.ok j k hkj
        ·obtain⟨k',g1,g2,g3,g4,g5⟩:=orig i k hki
         exact xcb g2 g5 (E1.ok i k' g1)
       ·intro b hb' hf
        rcases own1 _ b hb' with h|⟨j,k,r,h1,h2,h3,rfl,hv,_⟩
        ·exact hF' b h hf
        ·obtain⟨a1,a2⟩:=away true j k r h1 h2 h3 hv (fun h=>by cases h)
         rcases hnew true r.1 (.inr hf)with h|h|h
         ·exact a1 (.inl h)
         ·exact a1 (.inr h)
         ·omega
       ·intro q b hb'
        have fin:(Own q e0 H0 b\/F b\/w.heap.size<=b)->Own q e H b\/F b\/w.heap.size<=b:=fun h=>h.imp (own0 _ b) id
        rcases hb' with hb'|hb'
        ·rcases own1 _ b hb' with h|⟨j,k,r,h1,h2,h3,rfl,hv,h4⟩
         ·exact fin (hnew _ b (.inl h))
         ·exact .inl ⟨j,k,r,h2,h3,rfl,hv,h4⟩
        ·exact fin (hnew _ b (.inr hb'))
      ·cases hr2
     ·cases hr2
   ·cases h
/-! ### calls that leave no further blocks -/
mutual
theorem jb{r r':Nat->Option Nat}(h : ∀i j,r i=some j->r' i=some j) : ∀ (c c':C),renC r c=some c'->renC r' c=some c'
 | .bool b,c',hc=>by simpa[renC]using hc
 | .int k n,c',hc=>by simpa[renC]using hc
 | .nilp,c',hc=>by simpa[renC]using hc
 | .nils,c',hc=>by simpa[renC]using hc
 | .nilf,c',hc=>by simpa[renC]using hc
 | .nili,c',hc=>by simpa[renC]using hc
 | .nilm,c',hc=>by simpa[renC]using hc
 | .port,c',hc=>by simpa[renC]using hc
 | .str z,c',hc=>by simpa[renC]using hc
 | .gp g o,c',hc=>by simpa[renC]using hc
 | .mp b,c',hc=>by simp only[renC]at hc |-;exact xi (fun x hx=>h b x hx) hc
 | .ptr b o,c',hc=>by simp only[renC]at hc |-;exact xi (fun x hx=>h b x hx) hc
 | .sl b o n m,c',hc=>by simp only[renC]at hc |-;exact xi (fun x hx=>h b x hx) hc
 | .slg b o n,c',hc=>by simp only[renC]at hc |-;exact xi (fun x hx=>h b x hx) hc
 | .pr b o i n f,c',hc=>by simp only[renC]at hc |-;exact xi (fun x hx=>h b x hx) hc
 | .slw b o z n m,c',hc=>by simp only[renC]at hc |-;exact xi (fun x hx=>h b x hx) hc
 | .slr b n,c',hc=>by simp only[renC]at hc |-;exact xi (fun x hx=>h b x hx) hc
 | .slv b z o n,c',hc=>by simp only[renC]at hc |-;exact xi (fun x hx=>h b x hx) hc
 | .slx b o d a n m,c',hc=>by simp only[renC]at hc |-;exact xi (fun x hx=>h b x hx) hc
 | .fn f caps,c',hc=>by simp only[renC]at hc |-;exact xi (fun x hx=>kz h caps x hx) hc
 | .meth s c,c',hc=>by simp only[renC]at hc |-;exact xi (fun x hx=>jb h c x hx) hc
 | .ifc t c,c',hc=>by simp only[renC]at hc |-;exact xi (fun x hx=>jb h c x hx) hc
theorem kz{r r':Nat->Option Nat}(h : ∀i j,r i=some j->r' i=some j) : ∀ (l l':List C),vZ r l=some l'->vZ r' l=some l'
 | [],l',hl=>by simpa[vZ]using hl
 | c::l,l',hl=>by
  simp only[vZ]at hl |-
  split at hl
  ·rename_i c' hc
   split at hl
   ·rename_i l2 hl2
    cases hl
    rw[jb h c c' hc,kz h l l2 hl2]
   ·cases hl
  ·cases hl
end
theorem xcd{r r':Nat->Option Nat}(h : ∀i j,r i=some j->r' i=some j)(x x':V1)(hx:XF r x=some x'):XF r' x=some x':=by
 cases x with
 | c a=>simp only[XF]at hx |-;exact xi (fun y hy=>jb h a y hy) hx
 | agg l=>simp only[XF]at hx |-;exact xi (fun y hy=>kz h l y hy) hx
theorem xd6{r r':Nat->Option Nat}(h : ∀i j,r i=some j->r' i=some j)(x x':V)(hx:renV r x=some x'):renV r' x=some x':=by
 cases x with
 | c a=>simp only[renV]at hx |-;exact xi (fun y hy=>jb h a y hy) hx
 | agg l=>simp only[renV]at hx |-;exact xi (fun y hy=>kz h l y hy) hx
 | tup l=>simp only[renV]at hx |-;exact xi (fun y hy=>wV (fun a b hab=>xcd h a b hab) l y hy) hx
theorem xd7{r r':Nat->Option Nat}(h : ∀i j,r i=some j->r' i=some j)(x:Option Blk)(y:Option Blk)(hx:renB r x=some y):renB r' x=some y:=by
 cases x with
 | none=>simpa[renB]using hx
 | some k=>simp only[renB]at hx |-;exact xi (fun y hy=>kz h k.cells y hy) hx
theorem YZ{Γ:yc}{A:List Nat}{f:FuncId}{args:List V}{H:Heap}{S:Sum}(h:vK Γ A f args H=some S) : ∃f2,wa Γ f args H=some ⟨S.α,S.t,f2,S.b,S.hb⟩/\ ∀x q,S.f x=some q->f2 x=some q:=by
 unfold vK at h
 unfold wa
 split at h
 ·cases h
 ·rename_i m hm
  split at h
  ·cases h
  ·rename_i l hl
   split at h
   ·cases h
   ·split at h
    ·rename_i args' H0 h1 h2
     split at h
     ·cases h
     ·rename_i S0 hS0
      cases h
      simp only[hm,hl,h1,h2,hS0]
      refine⟨_,rfl,fun x q hq =>?_⟩
      split at hq
      ·cases hq
      ·rename_i r hr
       split at hq
       ·rename_i v H1 hv hH1
        split at hq
        ·rename_i hlen
         cases hq
         have hsub : ∀i j,l[i]? = some j->(fun i=>some (vi l H.length i)) i=some j:=by
          intro i j hij
          have hi:=(List.getElem?_eq_some_iff.1 hij).1
          simp only[vi,if_pos hi,List.getD_eq_getElem?_getD,hij,Option.getD_some]
         rw[xd6 hsub _ _ hv,wV (fun a b hab=>xd7 hsub a b hab) _ _ hH1]
         simp only[hlen,Nat.le_refl,if_true]
         rw[<- hlen,List.drop_length,List.append_nil]
        ·cases hq
       ·cases hq
    ·cases h
end Lx
namespace Lx
open Go
structure Rel(pv:Pv)(e:Env)(st:St)(a:Act)(w:World):Prop where
 emb:Emb pv e st.heap w
 len:st.tmps.n<=a.tmps.size
 tmps : ∀ (t:Nat) v,getT st.tmps t=some v ->∃rv,a.tmps[t]? = some rv/\denV pv e v=some rv
 defers:a.defers = []
structure Cfg{P:Program}{σ:Type}(I:PortR P σ)(S0:Bool->Nat->Prop)(w0:World)(e0 e:Env)(st:St)(s:σ)(F:Nat->Prop)(a:Act)(w:World):Prop where
 rel:Rel I.pv e st a w
 rep:I.Rep s F w
 disj : ∀b,Own false e st.heap b ->¬F b
 keeps:Keeps (S0 true) w0 w
 mine : ∀q b,Own q e st.heap b\/F b->S0 q b\/w0.heap.size<=b
 ext:Ext e0 e
section
variable{P:Program}{σ:Type}{I:PortR P σ}{Γ:yc}{S0:Bool->Nat->Prop}{w0:World}{e0:Env}{e:Env}{st:St}{s:σ}{F:Nat->Prop}{a:Act}{w:World}
theorem Rel.says{pv:Pv}(R:Rel pv e st a w):Says pv e (xW st.tmps) a.eval:=by
 intro x v h
 cases x with
 | tmp t=>
  obtain⟨rv,h1,h2⟩:=R.tmps t v h
  simp only[Act.eval]
  rw[h2,Array.getD_eq_getD_getElem?,h1]
  rfl
 | const c=>exact YI h
 | global g=>
  simp only[xW,oI]at h
  subst h
  rfl
 | func f=>
  simp only[xW,oI]at h
  subst h
  simp[denV,den,denL,Act.eval]
theorem qD{l:Tm}{d:Nat}{v:V}(h:getT l d=some v):setT l d v=l:=by
 obtain⟨h1,h2⟩:=vB h
 unfold setT
 rw[blt_eq]
 simp only[h1,decide_true,cond_true,ZZ 9 l.s d v h2]
theorem XN(l:Tm)(dst:Option Tmp)(v:V):(putT l dst v).n=l.n:=by
 cases dst<;>simp[putT,xbX]
theorem put_size(a:Act)(dst:Option Tmp)(v:Value):(a.put dst v).tmps.size=a.tmps.size:=by
 cases dst<;>simp[Act.put]
theorem Rel.put{pv:Pv}{e':Env}{H':Heap}{w':World}{v:V}{rv:Value}(R:Rel pv e st a w)(hx:Ext e e')(E:Emb pv e' H' w')(hv:denV pv e' v=some rv)(dst:Option Tmp):Rel pv e' ⟨putT st.tmps dst v,H'⟩ (a.put dst rv) w':=by
 refine⟨E,by rw[XN,put_size];exact R.len,fun t u h =>?_,by cases dst<;>exact R.defers⟩
 cases dst with
 | none=>
  obtain⟨r,h1,h2⟩:=R.tmps t u h
  exact⟨r,h1,Zw hx _ _ h2⟩
 | some d=>
  simp only[putT]at h
  simp only[Act.put]
  by_cases hdt:d=t
  ·subst hdt
   obtain⟨hd,rfl⟩:=wU h
   refine⟨rv,?_,hv⟩
   have:=R.len
   rw[Array.getElem?_setIfInBounds_self_of_lt (by omega)]
  ·rw[yE _ _ (fun hh=>hdt hh.symm)]at h
   obtain⟨r,h1,h2⟩:=R.tmps t u h
   refine⟨r,?_,Zw hx _ _ h2⟩
   rw[Array.getElem?_setIfInBounds_ne hdt]
   exact h1
theorem Cfg.did{e':Env}{H':Heap}{w':World}{v:V}{rv:Value}(C:Cfg I S0 w0 e0 e st s F a w)(hx:Ext e e')(hv:denV I.pv e' v=some rv)(E:Emb I.pv e' H' w')(hK:Keeps (Own true e st.heap) w w')(hn : ∀q b,Own q e' H' b->Own q e st.heap b\/w.heap.size<=b)(dst:Option Tmp) :
  Cfg I S0 w0 e0 e' ⟨putT st.tmps dst v,H'⟩ s F (a.put dst rv) w':=by
 refine⟨C.rel.put hx E hv dst,I.stable C.rep fun b hb=>hK.block b (I.lt C.rep b hb) fun h=>C.disj b h.weak hb,fun b hb hf =>?_,C.keeps.trans hK fun b hb=>C.mine _ b (.inl hb),fun q b hb =>?_,C.ext.trans hx⟩
 ·rcases hn _ b hb with h|h
  ·exact C.disj b h hf
  ·have:=I.lt C.rep b hf;omega
 ·rcases hb with hb|hb
  ·rcases hn _ b hb with h|h
   ·exact C.mine _ b (.inl h)
   ·right
    have:=C.keeps.size
    omega
  ·exact C.mine _ b (.inr hb)
theorem Cfg.called{e':Env}{H':Heap}{w':World}{F':Nat->Prop}{s':σ}{v:V}{rv:Value}(C:Cfg I S0 w0 e0 e st s F a w)(hx:Ext e e')(hv:denV I.pv e' v=some rv)(E:Emb I.pv e' H' w')(hR:I.Rep s' F' w')(hd : ∀b,Own false e' H' b ->¬F' b)
  (hK:Keeps (fun b=>Own true e st.heap b\/F b) w w') (hn : ∀q b,Own q e' H' b\/F' b->Own q e st.heap b\/F b\/w.heap.size<=b) (dst:Option Tmp):Cfg I S0 w0 e0 e' ⟨putT st.tmps dst v,H'⟩ s' F' (a.put dst rv) w':=by
 refine⟨C.rel.put hx E hv dst,hR,hd,C.keeps.trans hK fun b hb=>C.mine _ b hb,fun q b hb =>?_,C.ext.trans hx⟩
 rcases hn _ b hb with h|h|h
 ·exact C.mine _ b (.inl h)
 ·exact C.mine _ b (.inr h)
 ·right
  have:=C.keeps.size
  omega
theorem jX{α β:Type}{f:α->Option β} : ∀ {l l':List α} {r r':List β},allSome f l=some r->allSome f l'=some r'->allSome f (l++l')=some (r++r')
 | [],l',r,r',h,h'=>by simp only[allSome,oI]at h;subst h;exact h'
 | x::l,l',r,r',h,h'=>by
  simp only[allSome]at h
  split at h
  ·rename_i y hy
   split at h
   ·rename_i ys hys
    cases h
    simp only[List.cons_append,allSome,hy,jX hys h']
   ·cases h
  ·cases h
theorem VH{pv:Value}{e:Env} : ∀ {cs:List C} {rs:List Value},denL pv e cs=some rs->allSome (denV pv e) (cs.map .c)=some rs
 | [],rs,h=>by simp only[denL,oI]at h;subst h;rfl
 | c::cs,rs,h=>by
  simp only[denL]at h
  split at h
  ·rename_i v hv
   split at h
   ·rename_i us hu
    cases h
    simp only[List.map_cons,allSome,denV,hv,VH hu]
   ·cases h
  ·cases h
theorem meth_eq{P:Program}{t:TypeId}{name:String}{f:FuncId}(h:qN P t name=some f)(v:Value)(w:World):(method (P.types.size+Made.depth) t v name).run P w = .ok (f,v) w:=by
 unfold qN at h
 split at h
 ·rename_i i hi
  split at h
  ·rename_i m hm
   split at h
   ·rename_i f' el hp hf hu
    cases h
    change (method ((P.types.size+(Made.depth-1))+1) t v name).run P w=_
    simp[method,typeInfo,program,Sem.run,bind,Sem.bind,pure,hi,hm,hp,hf,follow,receiverAt,Place.get,underlying,hu]
   ·cases h
  ·cases h
 ·cases h
theorem xfa{P:Program}{t:TypeId}{name:String}{f:FuncId}(h:qN P t name=some f)(v:Value)(args:Array Value)(w:World):(callMethod (.iface t v) name args).run P w=(callFunc f (#[v]++args)).run P w:=by
 show((do let p <- program;let q <- method (p.types.size+Made.depth) t v name;callFunc q.1 (#[q.2]++args):Sem Next)).run P w=_
 rw[Sem.run_bind]
 show(Result.andThen (.ok P w) fun p w=>((do let q <- method (p.types.size+Made.depth) t v name;callFunc q.1 (#[q.2]++args):Sem Next)).run P w)=_
 simp only[Result.andThen_ok]
 rw[Sem.run_bind,meth_eq h]
 rfl
theorem qE{pv:Value}{ρ:Operand->Option V}{ra:Operand->Value}{o:Oper}{H:Heap}{f:FuncId}{args:List V}(hρ:Says pv e ρ ra)(h:evStep P o.op ρ H=some (.call f args))
  (hb : ∃fn c,P.funcs[f]? = some fn/\(fn.name == "runtime.NumGoroutine")=false/\fn.body=some c) :
  ∃vs,allSome (denV pv e) args=some vs/\(execOp ra o).run P w = .ok (.enter f vs.toArray) w:=by
 generalize ho:o.op=op at h
 obtain⟨fn,c,hf1,hf2,hf3⟩:=hb
 unfold evStep at h
 split at h
 case h_22 c=>
  split at h
  ·rename_i vs hvs
   split at h
   ·rename_i b hb
    exfalso
    split at h
    ·obtain⟨_,_,_,h2⟩:=wW h;cases h2
    ·unfold wF at h;(repeat' (split at h))<;>cases h
    ·unfold yp at h
     split at h
     ·split at h<;>cases h
     ·cases h
     ·cases h
     ·cases h
   ·rename_i r name hg
    split at h
    ·rw[oM]at h;obtain⟨_,_,h2⟩:=h;cases h2
    ·rename_i t x hr
     rw[oM]at h;obtain⟨q,h2,h3⟩:=h;cases h3
     have h1:=vq hρ _ _ hvs
     have h4:=hρ r _ hr
     simp only[denV,den,oM]at h4
     obtain⟨rx,h5,h6⟩:=h4
     have h0:(c.args.map ra)=(c.args.toList.map ra).toArray:=by rw[<- Array.toList_map]
     refine⟨rx::c.args.toList.map ra,by simp only[allSome,denV,h5,h1],?_⟩
     simp only[execOp,ho,resolve,hg,<- h6,Sem.run_bind,Sem.run_pure,Result.andThen_ok,invoke]
     simp only[h0,List.append_toArray,List.singleton_append,List.getElem?_toArray,List.getElem?_cons_zero,List.extract_toArray,List.size_toArray,List.length_cons,List.extract_eq_take_drop,List.drop_succ_cons,List.drop_zero]
     rw[List.take_of_length_le (by simp),xfa h2]
     simp only[callFunc,Sem.run_bind,program,Sem.run,Result.andThen_ok,hf1,hf2,hf3]
     simp
    ·cases h
   ·rename_i g hg
    split at h
    ·rename_i f' caps hcap
     cases h
     have h1:=vq hρ _ _ hvs
     have h2:=hρ g _ hcap
     simp only[denV,den,oM]at h2
     obtain⟨rs,h3,h4⟩:=h2
     refine⟨_,jX h1 (VH h3),?_⟩
     simp only[execOp,ho,resolve,hg,<- h4,Deferred.ofValue,Sem.run_bind,Sem.run_pure,Result.andThen_ok,invoke,callFunc,program,Sem.run,hf1,hf2,hf3]
     simp
    ·rw[oM]at h;obtain⟨_,_,h2⟩:=h;cases h2
    ·cases h
  ·cases h
 all_goals
  exfalso
  (try unfold yO at h);(try unfold wE at h);(repeat' (split at h))<;>first
   | cases h
   | (rw[oM]at h;obtain⟨_,_,h2⟩:=h;cases h2)
theorem xd8{pv:Value}{e:Env}{c:C}(h:ku c=true):den pv e c=den pv [] c:=by
 cases c<;>first|rfl|cases h
theorem xa1{pv:Value}{e:Env} : ∀ {l:List C} {vs:List Value},l.all ku=true->denL pv e l=some vs->denL pv [] l=some vs
 | [],vs,h,hv=>hv
 | c::l,vs,h,hv=>by
  simp only[List.all_cons,Bool.and_eq_true]at h
  simp only[denL]at hv |-
  split at hv
  ·rename_i v hc
   split at hv
   ·rename_i us hu
    cases hv
    rw[xa1 h.2 hu,<- xd8 (e:=e) h.1,hc]
   ·cases hv
  ·cases hv
theorem ZB{pv:Value}{e:Env}{name:String}{args:List V}{p:POp}{vs:List Value}(h:popOf name args=some p)(hv:allSome (denV pv e) args=some vs):allSome (denV pv []) args=some vs:=by
 unfold popOf at h
 split at h
 ·exact hv
 ·exact hv
 ·exact hv
 ·exact hv
 ·exact hv
 ·split at h
  ·split at h
   ·rename_i l _ hl
    simp only[allSome,denV]at hv |-
    cases hd:denL pv e l with
    | none=>rw[hd]at hv;simp at hv
    | some us=>rw[xa1 hl hd];rw[hd]at hv;exact hv
   ·cases h
  ·cases h
 ·cases h
theorem xd9{ρ:Operand->Option V}{ra:Operand->Value}{o:Oper}{H:Heap}{p:POp}(hρ:Says I.pv e ρ ra)(h:evStep P o.op ρ H=some (.port p)) :
  ∃name args vs,popOf name args=some p/\allSome (denV I.pv []) args=some vs/\(execOp ra o).run P w=(callMethod I.pv name vs.toArray).run P w:=by
 generalize ho:o.op=op at h
 unfold evStep at h
 split at h
 case h_22 c=>
  split at h
  ·rename_i vs hvs
   have h1:=vq hρ _ _ hvs
   have h0:(c.args.map ra)=(c.args.toList.map ra).toArray:=by rw[<- Array.toList_map]
   split at h
   ·rename_i b hb
    exfalso
    split at h
    ·obtain⟨_,_,_,h2⟩:=wW h;cases h2
    ·unfold wF at h;(repeat' (split at h))<;>cases h
    ·unfold yp at h
     split at h
     ·split at h<;>cases h
     ·cases h
     ·cases h
     ·cases h
   ·rename_i r name hg
    split at h
    ·rename_i hr
     rw[oM]at h;obtain⟨q,h2,h3⟩:=h;cases h3
     have h4:=hρ r _ hr
     simp only[denV,den,oI]at h4
     refine⟨name,vs,_,h2,ZB h2 h1,?_⟩
     simp only[execOp,ho,resolve,hg,<- h4,Sem.run_bind,Sem.run_pure,Result.andThen_ok,invoke]
     simp only[h0,List.append_toArray,List.singleton_append,List.getElem?_toArray,List.getElem?_cons_zero,List.extract_toArray,List.size_toArray,List.length_cons,List.extract_eq_take_drop,List.drop_succ_cons,List.drop_zero]
     rw[List.take_of_length_le (by simp)]
    ·rw[oM]at h;obtain⟨_,_,h2⟩:=h;cases h2
    ·cases h
   ·rename_i g hg
    split at h
    ·cases h
    ·rename_i name hr
     rw[oM]at h;obtain⟨q,h2,h3⟩:=h;cases h3
     have h4:=hρ g _ hr
     simp only[denV,den,Option.map_some,oI]at h4
     refine⟨name,vs,_,h2,ZB h2 h1,?_⟩
     simp only[execOp,ho,resolve,hg,<- h4,Deferred.ofValue,Sem.run_bind,Sem.run_pure,Result.andThen_ok,invoke]
     simp only[h0,List.append_toArray,List.singleton_append,List.getElem?_toArray,List.getElem?_cons_zero,List.extract_toArray,List.size_toArray,List.length_cons,List.extract_eq_take_drop,List.drop_succ_cons,List.drop_zero]
     rw[List.take_of_length_le (by simp)]
    ·cases h
  ·cases h
 all_goals
  exfalso
  (try unfold yO at h);(try unfold wE at h);(repeat' (split at h))<;>first
   | cases h
   | (rw[oM]at h;obtain⟨_,_,h2⟩:=h;cases h2)
/-! ### one operation -/
theorem Flat.ext{pv:Value}{v:V}{rv:Value}(h:Flat pv v rv)(e:Env):denV pv e v=some rv:=h e
mutual
theorem kA{pv:Value}{e:Env} : ∀ (c:C),idsC c = []->den pv e c=den pv [] c
 | .bool b,h=>rfl
 | .int k n,h=>rfl
 | .nilp,h=>rfl
 | .ptr b o,h=>by simp[idsC]at h
 | .nils,h=>rfl
 | .sl b o n c,h=>by simp[idsC]at h
 | .slg b o n,h=>by simp[idsC]at h
 | .pr b o i n f,h=>by simp[idsC]at h
 | .slw b o z n c,h=>by simp[idsC]at h
 | .slr b n,h=>by simp[idsC]at h
 | .slv b z o n,h=>by simp[idsC]at h
 | .slx b o d a n c,h=>by simp[idsC]at h
 | .fn f caps,h=>by simp only[idsC]at h;simp only[den,kL caps h]
 | .meth s c,h=>by simp only[idsC]at h;simp only[den,kA c h]
 | .nilf,h=>rfl
 | .nili,h=>rfl
 | .nilm,h=>rfl
 | .port,h=>rfl
 | .str z,h=>rfl
 | .gp g o,h=>rfl
 | .mp b,h=>by simp[idsC]at h
 | .ifc t c,h=>by simp only[idsC]at h;simp only[den,kA c h]
theorem kL{pv:Value}{e:Env} : ∀ (l:List C),yR l = []->denL pv e l=denL pv [] l
 | [],h=>rfl
 | c::l,h=>by
  simp only[yR,List.append_eq_nil_iff]at h
  simp only[denL,kA c h.1,kL l h.2]
end
theorem KM{pv:Value}{e:Env}(x:V1)(h:xda x = []):vo pv e x=vo pv [] x:=by
 cases x with
 | c a=>exact kA a h
 | agg l=>simp only[vo,kL l h]
theorem yI{α β:Type}{f g:α->Option β} : ∀ {l:List α},(∀x∈l,f x=g x)->allSome f l=allSome g l
 | [],h=>rfl
 | x::l,h=>by simp only[allSome,h x (by simp),yI (l:=l) fun y hy=>h y (by simp[hy])]
theorem vU{pv:Value}{e:Env}(x:V)(h:idsV x = []):denV pv e x=denV pv [] x:=by
 cases x with
 | c a=>exact kA a h
 | agg l=>simp only[denV,kL l h]
 | tup l=>
  simp only[idsV,List.flatMap_eq_nil_iff]at h
  simp only[denV,yI fun y hy=>KM y (h y hy)]
theorem Yl(pv:Pv)(w:World):Emb pv [] [] w:=⟨rfl,fun i k h=>by simp[blkAt]at h,fun i j k k' r r' h=>by simp[blkAt]at h,fun i k h=>by simp[blkAt]at h⟩
theorem wY{q:Bool}(b:Nat) : ¬Own q [] [] b:=by rintro ⟨i,k,r,h,_⟩;simp[blkAt]at h
theorem xce{I:Port P σ}(hΓ : ∀f m,Γ f=some m->Ze I f m){f:FuncId}{args:List V}{S:Sum}(h:kR Γ f args=some S){vs:List Value}{s':σ}(hv:allSome (denV I.pv e) args=some vs)(hR:I.Rep s F w){v:V}{H':Heap}{x:S.α}(hrun:S.t.run I.step s=some (x,s'))(hfx:S.f x=some (v,H')) :
  (∃fn c,P.funcs[f]? = some fn/\(fn.name == "runtime.NumGoroutine")=false/\fn.body=some c)/\H' = []/\idsV v = []/\
  Calls P f vs.toArray w fun en w' =>∃F' rv,en = .returned rv/\Flat I.pv v rv/\I.Rep s' F' w'/\Keeps F w w'/\ ∀b,F' b->F b\/w.heap.size<=b:=by
 unfold kR at h
 split at h
 ·cases h
 ·rename_i hids
  split at h
  ·cases h
  ·rename_i m hm
   obtain⟨hbody,hsound⟩:=hΓ f m hm
   split at h
   ·cases h
   ·rename_i t0 ht0
    cases h
    have hr1:=hrun
    have hr2:=hfx
    simp only at hr2
    split at hr2
    ·cases hr2
    rename_i r0 hr0
    obtain⟨v0,H1⟩:=r0
    simp only at hr2
    split at hr2
    ·rename_i hv0
     simp only[oI,Prod.mk.injEq]at hr2
     obtain⟨rfl,rfl⟩:=hr2
     refine⟨hbody,rfl,hv0,?_⟩
     have hv':allSome (denV I.pv []) args=some vs:=by
      rw[<- hv]
      rw[List.flatMap_eq_nil_iff]at hids
      exact(yI fun x hx=>vU x (hids x hx)).symm
     refine(hsound args [] t0 ht0 [] w s F vs (Yl _ _) hv' hR (fun b hb=>(wY b hb).elim) x v0 [] _ hr1 hr0).mono ?_
     rintro en w' ⟨e',F',rv,h1,h2,h3,h4,h5,h6,h7,h8⟩
     refine⟨F',rv,h1,fun e =>?_,h5,h7.mono fun b hb=>hb.resolve_left (wY b),fun b hb =>?_⟩
     ·rw[vU v0 hv0,<- vU (e:=e') v0 hv0]
      exact h3
     ·rcases h8 true b (.inr hb)with h|h
      ·exact(wY b h).elim
      ·exact h
    ·cases hr2
theorem Xj{σ β:Type}{step:PStep σ}(f:FuncId)(args:List V)(o:Oper)(st:St)(k:St->T β)(s:σ) :
  (ve Γ f args o st k).run step s=match(ve Γ f args o st T.ret).run step s with
   | some (st',s')=>(k st').run step s'
   | none=>none:=by
 unfold ve
 split
 ·rename_i S _
  simp only[S.hb,T.run_bind]
  cases S.t.run step s with
  | none=>rfl
  | some xs=>
   simp only
   cases S.f xs.1<;>rfl
 ·rfl
theorem XO{I:Port P σ}(hΓ : ∀f m,Γ f=some m->Ze I f m){β:Type}{pu:PM}{o:Oper}{k:St->T β}{r:β×σ}(C:Cfg I.toPortR S0 w0 e0 e st s F a w)(h:(yH P Γ pu o st k).run I.step s=some r) :
  ∃st' s',(k st').run I.step s'=some r/\(yH P Γ pu o st T.ret).run I.step s=some (st',s')/\
   ∀K Q,(∀e' F' a' w',(∃rv,a'=a.put o.dst rv)->Cfg I.toPortR S0 w0 e0 e' st' s' F' a' w'->K a' w')->o.wp P a w K Q:=by
 have hρ:=C.rel.says
 have E:=C.rel.emb
 unfold yH at h
 split at h
 ·rename_i g v H' hev
  cases hg:okV pu st.heap H'
  ·rw[hg]at h;simp[T.run]at h
  cases g
  ·rw[hg]at h;simp[T.run]at h
  ·rw[hg]at h
   refine⟨⟨putT st.tmps o.dst v,H'⟩,s,h,by simp only[yH,hev,hg,cond_true,T.run],fun K Q hK =>?_⟩
   obtain⟨nx,w',e',rv,h1,h2,h3,h4,h5,h6,h7⟩:=YX I.toPortB hρ E hev
   have C':=C.did h3 h4 h5 h6 h7 o.dst
   unfold Oper.wp
   rw[h1]
   rcases h2 with rfl|⟨rfl,rfl⟩
   ·exact hK _ _ _ _ ⟨_,rfl⟩ C'
   ·exact hK _ _ _ _ ⟨_,rfl⟩ C'
 ·rename_i p hev
  simp only[T.run]at h
  split at h
  ·rename_i x s1 hstep
   refine⟨⟨putT st.tmps o.dst (ansV p x),st.heap⟩,s1,h,by simp only[yH,hev,T.run,hstep],fun K Q hK =>?_⟩
   obtain⟨name,args,vs,h1,h2,h3⟩:=xd9 (w:=w) hρ hev
   obtain⟨f,recv,rv,h4,h5,h6⟩:=I.does h1 hstep h2 C.rep
   unfold Oper.wp
   rw[h3,h4]
   rw[Oper.upon_enter]
   refine h6.mono ?_
   rintro en w' ⟨rfl,F',h7,h8,h9⟩
   refine hK e F' _ _ ⟨_,rfl⟩ (C.called (Ext.refl e) (h5 e) (E.ofSame fun b hb=>h8.block b (E.own_lt hb) fun hf=>C.disj b hb hf) h7 (fun b hb hf =>?_) (h8.mono fun b hb =>.inr hb) (fun q b hb =>?_) o.dst)
   ·rcases h9 b hf with h|h
    ·exact C.disj b hb h
    ·have:=E.own_lt hb;omega
   ·rcases hb with hb|hb
    ·exact .inl hb
    ·exact .inr (h9 b hb)
  ·cases h
 ·rename_i f args hev
  have main : ∀ (st1:T β) (k:St->T β),st1=ve Γ f args o st k->st1.run I.step s=some r->
    (∃st' s',(k st').run I.step s'=some r/\(ve Γ f args o st T.ret).run I.step s=some (st',s')/\
     ∀K Q,(∀e' F' a' w',(∃rv,a'=a.put o.dst rv)->Cfg I.toPortR S0 w0 e0 e' st' s' F' a' w'->K a' w')->o.wp P a w K Q):=by
   intro st1 k hst h
   subst hst
   unfold ve at h
   split at h
   ·rename_i t ht
    rw[t.hb]at h
    obtain⟨x,s1,h1,h2⟩:=T.run_bind_some h
    split at h2
    rotate_left
    ·cases h2
    rename_i r0 hfx
    obtain⟨v,H'⟩:=r0
    simp only at h2
    refine⟨⟨putT st.tmps o.dst v,H'⟩,s1,h2,by simp only[ve,ht,t.hb,T.run_bind,h1,hfx,T.run],fun K Q hK =>?_⟩
    have hbody : ∃fn c,P.funcs[f]? = some fn/\(fn.name == "runtime.NumGoroutine")=false/\fn.body=some c:=by
     unfold wa at ht
     split at ht
     ·cases ht
     ·exact(hΓ f _ ‹_›).1
    obtain⟨vs,g1,g2⟩:=qE (w:=w) hρ hev hbody
    obtain⟨_,hcall⟩:=xcc I hΓ ht E g1 C.rep C.disj h1 hfx
    unfold Oper.wp
    rw[g2,Oper.upon_enter]
    refine hcall.mono ?_
    rintro en w' ⟨e',F',rv,rfl,h3,h4,h5,h6,h7,h8,h9⟩
    exact hK _ _ _ _ ⟨_,rfl⟩ (C.called h3 h4 h5 h6 h7 h8 h9 o.dst)
   ·cases h
  cases pu
  ·simp only at h
   obtain⟨st',s',g1,g2,g3⟩:=main _ _ rfl h
   exact⟨st',s',g1,by simp only[yH,hev];exact g2,g3⟩
  ·simp only at h
   split at h
   ·rename_i t ht
    rw[t.hb]at h
    obtain⟨x,s1,h1,h2⟩:=T.run_bind_some h
    split at h2
    rotate_left
    ·cases h2
    rename_i r0 hfx
    obtain⟨v,H'⟩:=r0
    simp only at h2
    refine⟨⟨putT st.tmps o.dst v,st.heap⟩,s1,h2,by simp only[yH,hev,ht,t.hb,T.run_bind,h1,hfx,T.run],fun K Q hK =>?_⟩
    have hbody : ∃fn c,P.funcs[f]? = some fn/\(fn.name == "runtime.NumGoroutine")=false/\fn.body=some c:=by
     unfold kR at ht
     split at ht
     ·cases ht
     ·split at ht
      ·cases ht
      ·exact(hΓ f _ ‹_›).1
    obtain⟨vs,g1,g2⟩:=qE (w:=w) hρ hev hbody
    obtain⟨_,_,_,hcall⟩:=xce hΓ ht g1 C.rep h1 hfx
    unfold Oper.wp
    rw[g2,Oper.upon_enter]
    refine hcall.mono ?_
    rintro en w' ⟨F',rv,rfl,h5,h7,h8,h9⟩
    refine hK e F' _ _ ⟨_,rfl⟩ (C.called (Ext.refl e) (h5 e) (E.ofSame fun b hb=>h8.block b (E.own_lt hb) fun hf=>C.disj b hb hf) h7 (fun b hb hf =>?_) (h8.mono fun b hb =>.inr hb) (fun q b hb =>?_) o.dst)
    ·rcases h9 b hf with h|h
     ·exact C.disj b hb h
     ·have:=E.own_lt hb;omega
    ·rcases hb with hb|hb
     ·exact .inl hb
     ·exact .inr (h9 b hb)
   ·cases h
  ·rename_i A
   simp only at h
   split at h
   ·rename_i hav
    obtain⟨st',s',g1,g2,g3⟩:=main _ _ rfl h
    exact⟨st',s',g1,by simp only[yH,hev,hav];exact g2,g3⟩
   ·rename_i hav
    obtain⟨st',s',g1,g2,g3⟩:=main _ _ rfl h
    cases hke:jM A st.heap st'.heap
    ·rw[hke]at g1;simp[T.run]at g1
    ·rw[hke]at g1
     exact⟨st',s',g1,by simp only[yH,hev,hav];rw[Xj,g2];simp only[hke,cond_true,T.run],g3⟩
  ·rename_i A
   simp only at h
   split at h
   ·rename_i t ht
    rw[t.hb]at h
    obtain⟨x,s1,h1,h2⟩:=T.run_bind_some h
    split at h2
    rotate_left
    ·cases h2
    rename_i r0 hfx
    obtain⟨f2,hc,hf⟩:=YZ ht
    have hfx2:=hf x r0 hfx
    obtain⟨st',s',g1,g2,g3⟩:=main (ve Γ f args o st k) k rfl (by simp only[ve,hc,t.hb,T.run_bind,h1,hfx2];exact h2)
    simp only[ve,hc,t.hb,T.run_bind,h1,hfx2,T.run,oI,Prod.mk.injEq]at g2
    obtain⟨rfl,rfl⟩:=g2
    exact⟨_,_,g1,by simp only[yH,hev,ht,t.hb,T.run_bind,h1,hfx,T.run],g3⟩
   ·cases h
  ·cases h
  ·cases h
 ·cases h
end
end Lx
namespace Lx
open Go
section
variable{P:Program}{σ:Type}{I:PortR P σ}{Γ:yc}{S0:Bool->Nat->Prop}{w0:World}{e0:Env}{e:Env}{st:St}{s:σ}{F:Nat->Prop}{a:Act}{w:World}{ops:Array Oper}
def jY(P:Program)(ops:Array Oper)(Q:Exit->Act->World->Prop)(o:Oper)(K:Act->World->Prop)(a:Act)(w:World):Prop:=
 if Region.wanted o (yielded ops a.tmps)then o.wp P a w K Q else K (a.put o.dst undef) w
theorem Cfg.skip(C:Cfg I S0 w0 e0 e st s F a w)(dst:Option Tmp):Cfg I S0 w0 e0 e ⟨putT st.tmps dst .undef,st.heap⟩ s F (a.put dst undef) w:=
 C.did (Ext.refl e) rfl C.rel.emb (Keeps.refl _ w) (fun _ _ h =>.inl h) dst
theorem Vg{I:Port P σ}(hΓ : ∀f m,Γ f=some m->Ze I f m){β:Type}{pu:PM}{o:Oper}{k:St->T β}{r:β×σ}(C:Cfg I.toPortR S0 w0 e0 e st s F a w)(h:(ye P Γ ops pu o st k).run I.step s=some r) :
  ∃st' s',(k st').run I.step s'=some r/\(ye P Γ ops pu o st T.ret).run I.step s=some (st',s')/\
   ∀K Q,(∀e' F' a' w',(∃rv,a'=a.put o.dst rv)->Cfg I.toPortR S0 w0 e0 e' st' s' F' a' w'->K a' w')->jY P ops Q o K a w:=by
 unfold ye at h
 split at h
 ·rename_i hg
  obtain⟨st',s',h1,h2,h3⟩:=XO hΓ C h
  refine⟨st',s',h1,by simp only[ye,hg];exact h2,fun K Q hK =>?_⟩
  unfold jY
  rw[if_pos (by simp[Region.wanted,hg])]
  exact h3 K Q hK
 ·rename_i j want hg
  split at h
  ·cases h
  ·rename_i sl hsl
   have hy : ∀rv,a.tmps[sl]? = some rv->yielded ops a.tmps j=match rv with | .bool b=>some b|_=>none:=by
    intro rv hrv
    unfold yielded
    rw[hsl]
    simp only[Option.bind_some,hrv]
    cases rv<;>rfl
   have skipped : ∀ (b:Option Bool),yielded ops a.tmps j=b->b≠some want ->∀K Q,(∀e' F' a' w',(∃rv,a'=a.put o.dst rv)->Cfg I.toPortR S0 w0 e0 e' ⟨putT st.tmps o.dst .undef,st.heap⟩ s F' a' w'->K a' w')->jY P ops Q o K a w:=by
    intro b hb hne K Q hK
    unfold jY
    rw[if_neg (by simp only[Region.wanted,hg,hb];simpa using hne)]
    exact hK _ _ _ _ ⟨_,rfl⟩ (C.skip o.dst)
   split at h
   ·rename_i b hb
    obtain⟨rv,h1,h2⟩:=C.rel.tmps sl _ hb
    simp only[denV,den,oI]at h2
    subst h2
    have hyb:=hy _ h1
    simp only at hyb
    have e1 : ∀b',b'=b->(⟨setT st.tmps sl (.c (.bool b')),st.heap⟩:St)=st:=by
     rintro b' rfl
     rw[qD hb]
    have he:(ye P Γ ops pu o st (T.ret:St->T St))=if b=want then yH P Γ pu o st T.ret else Yy o st T.ret:=by
     simp only[ye,hg,hsl,hb]
     cases b<;>cases want<;>simp only[cond_true,cond_false,e1 _ rfl]<;>rfl
    have hk:(if b=want then yH P Γ pu o st k else Yy o st k).run I.step s=some r:=by
     rw[<- h]
     cases b<;>cases want<;>simp only[cond_true,cond_false,e1 _ rfl]<;>rfl
    by_cases hbw:b=want
    ·rw[if_pos hbw]at hk he
     obtain⟨st',s',g1,g2,g3⟩:=XO hΓ C hk
     refine⟨st',s',g1,by rw[he];exact g2,fun K Q hK =>?_⟩
     unfold jY
     rw[if_pos (by simp[Region.wanted,hg,hyb,hbw])]
     exact g3 K Q hK
    ·rw[if_neg hbw]at hk he
     exact⟨_,s,hk,by rw[he];rfl,skipped _ hyb (by simpa using hbw)⟩
   ·rename_i hb
    obtain⟨rv,h1,h2⟩:=C.rel.tmps sl _ hb
    simp only[denV,allSome,Option.map_some,oI]at h2
    subst h2
    have hyb:=hy _ h1
    simp only at hyb
    exact⟨_,s,h,by simp only[ye,hg,hsl,hb];rfl,skipped _ hyb (by simp)⟩
   ·cases h
theorem KN{I:Port P σ}(hΓ : ∀f m,Γ f=some m->Ze I f m){β:Type}{pu:PM}{o:Oper}{k:St->T β}{r:β×σ}(C:Cfg I.toPortR S0 w0 e0 e st s F a w)(h:(ye P Γ ops pu o st k).run I.step s=some r) :
  ∃st' s',(k st').run I.step s'=some r/\(ye P Γ ops pu o st T.ret).run I.step s=some (st',s')/\
   ∀K Q,(∀e' F' a' w',Cfg I.toPortR S0 w0 e0 e' st' s' F' a' w'->K a' w')->jY P ops Q o K a w:=by
 obtain⟨st',s',h1,h2,h3⟩:=Vg hΓ C h
 exact⟨st',s',h1,h2,fun K Q hK=>h3 K Q fun e' F' a' w' _ C'=>hK e' F' a' w' C'⟩
/-! ### one operation as a step of what it does to slots, blocks and the port -/
theorem T.bind_assoc{α β γ:Type}(t:T α)(f:α->T β)(g:β->T γ):(t.bind f).bind g=t.bind fun a=>(f a).bind g:=by
 induction t with
 | ret a=>rfl
 | fail=>rfl
 | op o k ih=>simp only[T.bind];congr 1;funext c;exact ih c
theorem Wa{β:Type}(pu:PM)(o:Oper)(st:St)(k:St->T β):yH P Γ pu o st k=(yH P Γ pu o st T.ret).bind k:=by
 unfold yH
 split
 ·rename_i g v H _
  cases okV pu st.heap H<;>cases g<;>rfl
 ·rfl
 ·have hc : ∀ {β:Type} (k:St->T β) f args,ve Γ f args o st k=(ve Γ f args o st T.ret).bind k:=by
   intro β k f args
   unfold ve
   split
   ·rename_i S _
    rw[S.hb,S.hb,T.bind_assoc]
    congr 1
    funext x
    cases S.f x<;>rfl
   ·rfl
  cases pu
  ·exact hc _ _ _
  ·simp only
   split
   ·rename_i S _
    rw[S.hb,S.hb,T.bind_assoc]
    congr 1
    funext x
    cases S.f x<;>rfl
   ·rfl
  ·simp only
   split
   ·exact hc _ _ _
   ·rw[hc (fun st'=>cond _ (k st') .fail),hc (fun st'=>cond _ (T.ret st') .fail),T.bind_assoc]
    congr 1
    funext x
    cases jM _ st.heap x.heap<;>rfl
  ·simp only
   split
   ·rename_i S _
    rw[S.hb,S.hb,T.bind_assoc]
    congr 1
    funext x
    cases S.f x<;>rfl
   ·rfl
  ·rfl
  ·rfl
 ·rfl
theorem jZ{β:Type}(pu:PM)(o:Oper)(st:St)(k:St->T β):ye P Γ ops pu o st k=(ye P Γ ops pu o st T.ret).bind k:=by
 unfold ye
 split
 ·exact Wa ..
 ·rename_i j want _
  split
  ·rfl
  ·split
   ·rename_i b _
    cases b<;>cases want<;>first|exact Wa .. | rfl
   ·rfl
   ·rfl
def Wb(Γ:yc)(I:PortR P σ)(f:FuncId)(args:List V)(H:Heap)(s:σ):Option (V×Heap×σ):=match wa Γ f args H with
 | some S=>match S.t.run I.step s with
  | some (x,s')=>match S.f x with
   | some r=>some (r.1,r.2,s')
   | none=>none
  | none=>none
 | none=>none
def yP(Γ:yc)(I:PortR P σ)(pu:PM)(H:Heap)(s:σ):Option Stp->Option (V×Heap×σ)
 | some (.val g v H')=>if(okV pu H H'&&g)=true then some (v,H',s)else none
 | some (.port p)=>match I.step p s with
  | some (x,s')=>some (ansV p x,H,s')
  | none=>none
 | some (.call f args)=>match pu with
  | .free=>Wb Γ I f args H s
  | .avoid A=>match Yf A H args with
   | true=>Wb Γ I f args H s
   | false=>match Wb Γ I f args H s with
    | some r=>match jM A H r.2.1 with
     | true=>some r
     | false=>none
    | none=>none
  | .keep A=>match vK Γ A f args H with
   | some S=>match S.t.run I.step s with
    | some (x,s')=>match S.f x with
     | some r=>some (r.1,r.2,s')
     | none=>none
    | none=>none
   | none=>none
  | .pure=>match kR Γ f args with
   | some S=>match S.t.run I.step s with
    | some (x,s')=>match S.f x with
     | some r=>some (r.1,H,s')
     | none=>none
    | none=>none
   | none=>none
  | .fresh=>none
  | .part _=>none
 | none=>none
def valO(Γ:yc)(I:PortR P σ)(ops:Array Oper)(pu:PM)(o:Oper)(tmps:Tm)(H:Heap)(s:σ):Option (V×Heap×σ):=
 match o.guard with
 | none=>yP Γ I pu H s (evStep P o.op (xW tmps) H)
 | some (j,want)=>match(ops[j]?).bind (·.dst) with
  | none=>none
  | some sl=>match getT tmps sl with
   | some (.c (.bool b))=>if b=want then yP Γ I pu H s (evStep P o.op (xW tmps) H)else some (.undef,H,s)
   | some (.tup [])=>some (.undef,H,s)
   | _=>none
theorem VI(pu:PM)(o:Oper)(tmps:Tm)(H:Heap)(s:σ):(yH P Γ pu o ⟨tmps,H⟩ T.ret).run I.step s=(yP Γ I pu H s (evStep P o.op (xW tmps) H)).map fun r=>((⟨putT tmps o.dst r.1,r.2.1⟩:St),r.2.2):=by
 unfold yH
 simp only
 generalize evStep P o.op (xW tmps) H=q
 cases q with
 | none=>rfl
 | some q=>
  cases q with
  | val g v H'=>
   simp only[yP]
   cases okV pu H H'<;>cases g<;>rfl
  | port p=>
   simp only[T.run,yP]
   cases I.step p s<;>rfl
  | call f args=>
   have hc:(ve Γ f args o ⟨tmps,H⟩ T.ret).run I.step s=(Wb Γ I f args H s).map fun r=>((⟨putT tmps o.dst r.1,r.2.1⟩:St),r.2.2):=by
    unfold ve Wb
    simp only
    cases wa Γ f args H with
    | none=>rfl
    | some S=>
     simp only[S.hb,T.run_bind]
     cases S.t.run I.step s with
     | none=>rfl
     | some xs=>
      simp only
      cases S.f xs.1<;>rfl
   cases pu
   ·simp only[yP]
    exact hc
   ·simp only[yP]
    cases kR Γ f args with
    | none=>rfl
    | some S=>
     simp only[S.hb,T.run_bind]
     cases S.t.run I.step s with
     | none=>rfl
     | some xs=>
      simp only
      cases S.f xs.1<;>rfl
   ·rename_i A
    simp only[yP]
    cases Yf A H args
    ·simp only
     rw[Xj,hc]
     cases Wb Γ I f args H s with
     | none=>rfl
     | some r=>
      simp only[Option.map_some]
      cases jM A H r.2.1<;>rfl
    ·exact hc
   ·rename_i A
    simp only[yP]
    cases vK Γ A f args H with
    | none=>rfl
    | some S=>
     simp only[S.hb,T.run_bind]
     cases S.t.run I.step s with
     | none=>rfl
     | some xs=>
      simp only
      cases S.f xs.1<;>rfl
   ·rfl
   ·rfl
theorem jv(pu:PM)(o:Oper)(tmps:Tm)(H:Heap)(s:σ):(ye P Γ ops pu o ⟨tmps,H⟩ T.ret).run I.step s=(valO Γ I ops pu o tmps H s).map fun r=>((⟨putT tmps o.dst r.1,r.2.1⟩:St),r.2.2):=by
 unfold ye valO
 simp only
 cases o.guard with
 | none=>exact VI ..
 | some jw=>
  obtain⟨j,want⟩:=jw
  simp only
  cases (ops[j]?).bind (·.dst) with
  | none=>rfl
  | some sl=>
   simp only
   cases hb:getT tmps sl with
   | none=>rfl
   | some v=>
    cases v with
    | agg l=>rfl
    | tup l=>cases l<;>rfl
    | c x=>
     cases x with
     | bool b=>
      have e1 : ∀b',b'=b->setT tmps sl (.c (.bool b'))=tmps:=by
       rintro b' rfl
       exact qD hb
      cases b<;>cases want<;>simp only[cond_true,cond_false,e1 _ rfl,if_true,Bool.false_eq_true,Bool.true_eq_false,if_false]<;>first|exact VI .. | rfl
     | _=>rfl
end
end Lx
namespace Lx
open Go
theorem qP{ρ ρ':Operand->Option V}{l:List (Nat×Operand)}(h : ∀x∈l.map (·.2),ρ x=ρ' x):partsOf ρ l=partsOf ρ' l:=by
 unfold partsOf
 refine yI fun p hp =>?_
 rw[h p.2 (List.mem_map.2 ⟨p,hp,rfl⟩)]
theorem jx{ρ ρ':Operand->Option V}{x:Option Operand}(h : ∀y∈x.toArray,ρ y=ρ' y):optO ρ x=optO ρ' x:=by
 cases x with
 | none=>rfl
 | some y=>simp only[optO,h y (by simp)]
theorem KO{P:Program}{op:Op}{ρ ρ':Operand->Option V}{H:Heap}(h : ∀x∈op.operands,ρ x=ρ' x):evStep P op ρ H=evStep P op ρ' H:=by
 cases op<;>simp only[Op.operands]at h<;>try rfl
 case move x=>simp only[evStep,h x (by simp)]
 case assign x=>simp only[evStep,h x (by simp)]
 case pick c a b=>simp only[evStep,h c (by simp),h a (by simp),h b (by simp)]
 case box t x=>simp only[evStep,h x (by simp)]
 case build t ps=>simp only[evStep,qP (ρ:=ρ) (ρ':=ρ') (l:=ps.toList) fun x hx=>h x (by simpa using hx)]
 case buildSlice t n ps=>simp only[evStep,qP (ρ:=ρ) (ρ':=ρ') (l:=ps.toList) fun x hx=>h x (by simpa using hx)]
 case load t x=>simp only[evStep,h x (by simp)]
 case store t x y=>simp only[evStep,h x (by simp),h y (by simp)]
 case nilCheck x=>simp only[evStep,h x (by simp)]
 case binOp o t x y u=>simp only[evStep,h x (by simp),h y (by simp)]
 case unOp o t x=>simp only[evStep,h x (by simp)]
 case convert s d x=>simp only[evStep,h x (by simp)]
 case makeFunc fn first captured=>
  cases fn<;>try rfl
  ·simp only[evStep,yI (f:=ρ) (g:=ρ') (l:=captured.toList) fun x hx=>h x (by simp at hx |-;exact .inr hx)]
  ·simp only[evStep]
   split
   ·split
    ·rename_i x hx
     rw[h x (by simp;left;rw[<- Array.mem_toList_iff,hx];simp)]
    ·rfl
   ·rfl
 case slice t x lo hi mx=>
  cases mx with
  | some y=>simp only[evStep,h x (by simp),h y (by simp),jx (ρ:=ρ) (ρ':=ρ') (x:=lo) fun y hy=>h y (by simp at hy |-;simp[hy]),jx (ρ:=ρ) (ρ':=ρ') (x:=hi) fun y hy=>h y (by simp at hy |-;simp[hy])]
  | none=>
   simp only[evStep,h x (by simp),jx (ρ:=ρ) (ρ':=ρ') (x:=lo) fun y hy=>h y (by simp at hy |-;simp[hy]),jx (ρ:=ρ) (ρ':=ρ') (x:=hi) fun y hy=>h y (by simp at hy |-;simp[hy])]
 case fieldAddr t x f=>simp only[evStep,h x (by simp)]
 case field t x f=>simp only[evStep,h x (by simp)]
 case indexAddr t x y=>simp only[evStep,h x (by simp),h y (by simp)]
 case index t x y=>simp only[evStep,h x (by simp),h y (by simp)]
 case extract x i=>simp only[evStep,h x (by simp)]
 case makeInterface t x=>simp only[evStep,h x (by simp)]
 case sliceToArrayPointer t x=>simp only[evStep,h x (by simp)]
 case makeMap t r=>cases r<;>rfl
 case makeSlice t l c=>simp only[evStep,h l (by simp),h c (by simp)]
 case lookup t m x ok=>simp only[evStep,h m (by simp),h x (by simp)]
 case mapUpdate t m x v=>simp only[evStep,h m (by simp),h x (by simp),h v (by simp)]
 case call c=>
  have h1:allSome ρ c.args.toList=allSome ρ' c.args.toList:=yI fun x hx=>h x (by simp[Call.operands];right;simpa using hx)
  simp only[evStep,h1]
  cases hc:c.callee with
  | builtin b=>rfl
  | invoke r n=>simp only[h r (by simp[Call.operands,hc])]
  | value f=>simp only[h f (by simp[Call.operands,hc])]
/-! ### how operations hang on the blocks -/
def setH(H:Heap):Stp->Stp
 | .val g v _ =>.val g v H
 | q=>q
theorem yz{α:Type}(x:Option α)(g:α->Bool)(v:α->V)(H:Heap):(x.map fun a=>Stp.val (g a) (v a) H)=Option.map (setH H) (x.map fun a=>Stp.val (g a) (v a) []):=by
 cases x<;>rfl
theorem Wc{P:Program}{b:Builtin}{ts:List TypeId}{vs:List V}{H:Heap}:yp P b ts vs H=Option.map (setH H) (yp P b ts vs []):=by
 unfold yp
 split
 ·split<;>rfl
 ·rfl
 ·rfl
 ·rfl
theorem kind0{P:Program}{op:Op}{ρ:Operand->Option V}{H:Heap}(hk:xj op=0):evStep P op ρ H=Option.map (setH H) (evStep P op ρ []):=by
 cases op<;>simp[xj]at hk
 case lookup t a x ok=>cases a<;>simp at hk
 case store t a x=>cases a<;>simp at hk
 case move x=>simp only[evStep];exact yz (ρ x) (fun _=>true) id H
 case assign x=>simp only[evStep];exact yz (ρ x) (fun _=>true) id H
 case pick c a b=>
  simp only[evStep]
  split
  ·rename_i t _
   cases t
   ·exact yz (ρ b) (fun _=>true) id H
   ·exact yz (ρ a) (fun _=>true) id H
  ·rfl
 case build t ps=>
  simp only[evStep]
  split
  ·split
   ·split
    ·exact yz _ (fun _=>true) (fun r =>.agg r) H
    ·rfl
   ·split
    ·exact yz _ (fun _=>true) (fun r =>.agg r) H
    ·rfl
   ·rfl
  ·rfl
 case nilCheck x=>
  simp only[evStep]
  split
  ·rfl
  ·rfl
  ·rfl
  ·split
   ·split<;>rfl
   ·split<;>rfl
   ·rfl
  ·rfl
  ·rfl
 case binOp o t x y u=>
  simp only[evStep]
  split
  ·exact yz _ (fun r:Bool×C=>r.1) (fun r:Bool×C =>.c r.2) H
  ·exact yz _ (fun _:C=>true) (fun r:C =>.c r) H
  ·rfl
 case unOp o t x=>
  simp only[evStep]
  split
  ·exact yz _ (fun _=>true) (fun r =>.c r) H
  ·rfl
 case convert a b x=>
  simp only[evStep]
  split<;>rfl
 case makeFunc fn first captured=>
  cases fn<;>try rfl
  ·simp only[evStep]
   split
   ·split
    ·exact yz _ (fun _=>true) (fun cs =>.c (.fn _ cs)) H
    ·rfl
   ·rfl
  ·simp only[evStep]
   split
   ·split
    ·split<;>rfl
    ·rfl
   ·rfl
 case slice t x lo hi mx=>
  cases mx with
  | some y=>simp only[evStep];exact yz _ (fun r:Bool×C=>r.1) (fun r =>.c r.2) H
  | none=>
   simp only[evStep]
   split
   ·split
    ·split<;>rfl
    ·rfl
   ·split
    ·split<;>rfl
    ·rfl
   ·split
    ·split
     ·split<;>rfl
     ·rfl
    ·rfl
   ·split
    ·split<;>rfl
    ·rfl
   ·split
    ·split
     ·split<;>rfl
     ·rfl
    ·rfl
   ·split
    ·exact yz _ (fun r:Bool×C=>r.1) (fun r =>.c r.2) H
    ·rfl
   ·rfl
 case fieldAddr t x f=>
  simp only[evStep]
  split
  ·split
   ·split
    ·split<;>rfl
    ·rfl
   ·rfl
  ·split
   ·split
    ·split<;>rfl
    ·rfl
   ·rfl
  ·rfl
 case field t x f=>
  simp only[evStep]
  split
  ·split
   ·exact yz _ (fun _=>true) id H
   ·rfl
  ·rfl
 case indexAddr t x y=>
  simp only[evStep]
  split
  ·rename_i len e b o k i _ _ _
   exact yz _ (fun _=>decide (0<=i/\i<(len:Int))) (fun n =>.c (.ptr b (o+i.toNat*n))) H
  ·rename_i e b o len c k i _ _ _
   exact yz _ (fun _=>decide (0<=i/\i<(len:Int))) (fun n =>.c (.ptr b (o+i.toNat*n))) H
  ·split<;>rfl
  ·rename_i e b o z len c k i _ _ _
   exact yz _ (fun _=>decide (0<=i/\i<(len:Int))) (fun n =>.c (.pr b o i n 0)) H
  ·rename_i e b len k i _ _ _
   exact yz _ (fun _=>decide (0<=i/\i<(len:Int))) (fun n =>.c (.pr b 0 i n 0)) H
  ·split<;>rfl
  ·split<;>rfl
  ·rename_i len e b o k i _ _ _
   exact yz _ (fun _=>decide (0<=i/\i<(len:Int))) (fun n =>.c (.gp b (o+i.toNat*n))) H
  ·rfl
 case index t x y=>
  simp only[evStep]
  split
  ·rename_i len e cs k i _ _ _
   split
   ·exact yz _ (fun _=>decide (0<=i/\i<(len:Int))) id H
   ·rfl
  ·rfl
  ·rfl
 case extract x i=>
  simp only[evStep]
  split
  ·exact yz _ (fun _=>true) (fun v:V1=>v.up) H
  ·rfl
 case makeInterface t x=>
  simp only[evStep]
  split
  ·split<;>rfl
  ·rfl
 case sliceToArrayPointer t x=>
  simp only[evStep]
  split
  ·split<;>rfl
  ·rfl
 case call c=>
  obtain⟨callee,args,ats⟩:=c
  cases callee<;>simp[xj]at hk
  simp only[evStep]
  split
  ·split at hk
   ·exact Wc
   ·exact Wc
   ·exact Wc
   ·cases hk
   ·cases hk
  ·rfl
theorem xea{P:Program}{op:Op}{ρ:Operand->Option V}{H:Heap}{q:Stp}(hk:xj op=0)(h:evStep P op ρ H=some q) : ∃g v,q = .val g v H/\ ∀H2,evStep P op ρ H2=some (.val g v H2):=by
 rw[kind0 hk,oM]at h
 obtain⟨q0,h1,rfl⟩:=h
 have hc : ∀ {f args},q0 ≠ .call f args:=by
  rintro f args rfl
  cases op<;>simp[xj]at hk
  case lookup t a x ok=>cases a<;>simp at hk
  case store t a x=>cases a<;>simp at hk
  case call c=>
   obtain⟨callee,as,ats⟩:=c
   cases callee<;>simp[xj]at hk
   simp only[evStep]at h1
   split at h1
   ·split at hk
    ·simp only at h1;unfold yp at h1;(repeat' (split at h1))<;>cases h1
    ·simp only at h1;unfold yp at h1;(repeat' (split at h1))<;>cases h1
    ·simp only at h1;unfold yp at h1;(repeat' (split at h1))<;>cases h1
    ·cases hk
    ·cases hk
   ·cases h1
  all_goals
   simp only[evStep]at h1
   (repeat' (split at h1))<;>first
    | contradiction
    | cases h1
    | (rw[oM]at h1;obtain⟨_,_,h2⟩:=h1;cases h2)
 have hp : ∀ {p},q0 ≠ .port p:=by
  rintro p rfl
  cases op<;>simp[xj]at hk
  case lookup t a x ok=>cases a<;>simp at hk
  case store t a x=>cases a<;>simp at hk
  case call c=>
   obtain⟨callee,as,ats⟩:=c
   cases callee<;>simp[xj]at hk
   simp only[evStep]at h1
   split at h1
   ·split at hk
    ·simp only at h1;unfold yp at h1;(repeat' (split at h1))<;>cases h1
    ·simp only at h1;unfold yp at h1;(repeat' (split at h1))<;>cases h1
    ·simp only at h1;unfold yp at h1;(repeat' (split at h1))<;>cases h1
    ·cases hk
    ·cases hk
   ·cases h1
  all_goals
   simp only[evStep]at h1
   (repeat' (split at h1))<;>first
    | contradiction
    | cases h1
    | (rw[oM]at h1;obtain⟨_,_,h2⟩:=h1;cases h2)
 cases q0 with
 | val g v H0=>exact⟨g,v,rfl,fun H2=>by rw[kind0 hk,h1];rfl⟩
 | port p=>exact absurd rfl hp
 | call f args=>exact absurd rfl hc
theorem xeb{P:Program}{op:Op}{ρ:Operand->Option V}{H:Heap}{q:Stp}(hk:xj op=1)(h:evStep P op ρ H=some q) :
  ∃g v b,q = .val g v H/\(∃k,blkAt H b=some k)/\(∃x,x∈op.operands/\ptrB (ρ x)=some b)/\ ∀H2,blkAt H2 b=blkAt H b->evStep P op ρ H2=some (.val g v H2):=by
 cases op<;>simp[xj]at hk
 case lookup t a x ok=>cases a<;>simp at hk
 case store t a x=>cases a<;>simp at hk
 case load t x=>
  simp only[evStep]at h
  split at h
  ·rename_i b o hx
   split at h
   ·rename_i k hb
    rw[oM]at h
    obtain⟨v,h1,rfl⟩:=h
    refine⟨v.1,v.2,b,rfl,⟨k,hb⟩,⟨x,by simp[Op.operands],by rw[hx];rfl⟩,fun H2 h2 =>?_⟩
    simp only[evStep,hx,h2,hb,h1,Option.map_some]
   ·cases h
  ·rename_i b off i n f hx
   split at h
   ·rename_i k hb
    rw[oM]at h
    obtain⟨v,h1,rfl⟩:=h
    refine⟨v.1,v.2,b,rfl,⟨k,hb⟩,⟨x,by simp[Op.operands],by rw[hx];rfl⟩,fun H2 h2 =>?_⟩
    simp only[evStep,hx,h2,hb,h1,Option.map_some]
   ·cases h
  ·cases h
 case call c=>
  obtain⟨callee,as,ats⟩:=c
  cases callee<;>simp[xj]at hk
  split at hk<;>simp at hk
theorem xec{P:Program}{t:TypeId}{m x:Operand}{ok:Bool}{ρ:Operand->Option V}{H:Heap}{q:Stp}(h:evStep P (.lookup t m x ok) ρ H=some q) :
  ∃g v b,q = .val g v H/\ρ m=some (.c (.mp b))/\ ∀H2,blkAt H2 b=blkAt H b->evStep P (.lookup t m x ok) ρ H2=some (.val g v H2):=by
 change yO P t (ρ m) (ρ x) ok H=some q at h
 unfold yO at h
 split at h
 rotate_left
 ·cases h
 rename_i b z hm hx
 split at h
 rotate_left
 ·cases h
 rename_i k kt g0 sh0 r0 hk ht
 split at h
 rotate_left
 ·cases h
 rename_i g sh l hmp
 split at h
 rotate_left
 ·cases h
 rename_i hgs
 split at h
 ·split at h
  ·rename_i v hv
   cases h
   refine⟨_,_,b,rfl,hm,fun H2 h2 =>?_⟩
   show yO P t (ρ m) (ρ x) true H2=_
   simp only[yO,hm,hx,h2,hk,ht,hmp,if_pos hgs,hv]
  ·cases h
 ·cases h
  refine⟨_,_,b,rfl,hm,fun H2 h2 =>?_⟩
  show yO P t (ρ m) (ρ x) false H2=_
  simp only[yO,hm,hx,h2,hk,ht,hmp,if_pos hgs]
theorem xed{P:Program}{op:Op}{ρ:Operand->Option V}{H:Heap}{q:Stp}(hk:xj op=2)(h:evStep P op ρ H=some q) :
  ∃v k,q = .val true v (newB H k)/\ ∀H2,H2.length=H.length->evStep P op ρ H2=some (.val true v (newB H2 k)):=by
 cases op<;>simp[xj]at hk
 case lookup t a x ok=>cases a<;>simp at hk
 case store t a x=>cases a<;>simp at hk
 case alloc t=>
  simp only[evStep]at h |-
  split at h
  ·rename_i z hz
   split at h
   ·rename_i cs hc
    cases h
    exact⟨_,_,rfl,fun H2 h2=>by rw[h2]⟩
   ·cases h
  ·cases h
 case box t x=>
  simp only[evStep]at h |-
  split at h
  ·rename_i z hz
   split at h
   ·rename_i cs hc
    cases h
    exact⟨_,_,rfl,fun H2 h2=>by rw[h2]⟩
   ·cases h
  ·cases h
 case buildSlice t len ps=>
  simp only[evStep]at h |-
  split at h
  ·rename_i el ps' hu hps
   split at h
   ·rename_i n z hn hz
    split at h
    ·rename_i zs hzs
     split at h
     ·rename_i h0
      split at h
      ·rename_i r hr
       cases h
       exact⟨_,_,rfl,fun H2 h2=>by simp only[hu,hps,hn,hz,hzs,if_pos h0,hr,h2]⟩
      ·cases h
     ·cases h
    ·cases h
   ·cases h
  ·cases h
 case call c=>
  obtain⟨callee,as,ats⟩:=c
  cases callee<;>simp[xj]at hk
  split at hk<;>simp at hk
theorem new_val{P:Program}{op:Op}{ρ:Operand->Option V}{H:Heap}{q:Stp}(hk:(∃t,op = .alloc t)\/ ∃t len ps,op = .buildSlice t len ps)(h:evStep P op ρ H=some q) :
  ∃ (f:Nat->V) (kb:Blk) (rvf:Nat->Value),kb.tab=none/\kb.grown=false/\(∀H2,evStep P op ρ H2=some (.val true (f H2.length) (newB H2 kb)))/\(∀pv e x c,denV pv (e ++ [(x,c)]) (f e.length)=some (rvf x))/\ ∀pv e (ra:Operand->Value),One pv->Says pv e ρ ra ->∃vs,denL pv e kb.cells=some vs:=by
 rcases hk with⟨t,rfl⟩|⟨t,len,ps,rfl⟩
 ·simp only[evStep]at h |-
  split at h
  ·rename_i z hz
   split at h
   ·rename_i cs hc
    refine⟨fun n =>.c (.ptr n 0),⟨cs,t,false,none⟩,fun x =>.pointer (some ⟨x,0,none⟩),rfl,rfl,fun H2=>rfl,fun pv e x c=>by simp[denV,den],fun pv e ra hp _ =>?_⟩
    obtain⟨rv,_,h2⟩:=vS hz pv e
    exact⟨_,vc hp h2 hc⟩
   ·cases h
  ·cases h
 ·simp only[evStep]at h |-
  split at h
  ·rename_i el ps' hu hps
   split at h
   ·rename_i n z hn hz
    split at h
    ·rename_i zs hzs
     split at h
     ·rename_i h0
      split at h
      ·rename_i r hr
       refine⟨fun n =>.c (.sl n 0 len len),⟨r,el,false,none⟩,fun x =>.slice (some ⟨x,0,none⟩) len len,rfl,rfl,fun H2=>if_pos h0,fun pv e x c=>by simp[denV,den],fun pv e ra hp hρ =>?_⟩
       obtain⟨zv,_,h2⟩:=vS hz pv e
       obtain⟨us,_,h4⟩:=jV hp ps' _ _ r _ hr (KG (vc hp h2 hzs) len) (kX hρ _ _ hps)
       exact⟨us,h4⟩
      ·cases h
     ·cases h
    ·cases h
   ·cases h
  ·cases h
theorem Zf : ∀ {H H':Heap} {b:Nat} {k:Blk},Vq H H'=true->blkAt H b=some k ->∃k',blkAt H' b=some k'
 | [],H',b,k,h,hb=>by simp[blkAt]at hb
 | some x::H,some y::H',0,k,h,hb=>⟨y,rfl⟩
 | some x::H,some y::H',b+1,k,h,hb=>by
  have:=Zf (H:=H) (H':=H') (b:=b) (k:=k) h hb
  exact this
 | none::H,none::H',0,k,h,hb=>by simp[blkAt]at hb
 | none::H,none::H',b+1,k,h,hb=>by
  have:=Zf (H:=H) (H':=H') (b:=b) (k:=k) h hb
  exact this
 | some x::H,[],b,k,h,hb=>by cases h
 | none::H,[],b,k,h,hb=>by cases h
 | some x::H,none::H',b,k,h,hb=>by cases h
 | none::H,some y::H',b,k,h,hb=>by cases h
theorem qF : ∀ (H:Heap) (x:Heap),Vq H (H++x)=true
 | [],x=>rfl
 | some y::H,x=>qF H x
 | none::H,x=>qF H x
theorem xfb(pu:PM)(H:Heap):okV pu H H=true:=by
 cases pu with
 | fresh=>have:=qF H [];rw[List.append_nil]at this;exact this
 | part A=>
  simp only[okV,List.all_eq_true]
  intro a _
  cases blkAt H a<;>rfl
 | _=>rfl
theorem okV_new(pu:PM)(H:Heap)(k:Blk):okV pu H (newB H k)=true:=by
 cases pu with
 | fresh=>exact qF H _
 | part A=>
  simp only[okV,List.all_eq_true]
  intro a _
  rw[yq]
  split
  ·cases blkAt H a<;>rfl
  ·cases blkAt H a<;>rfl
 | _=>rfl
theorem Vh{P:Program}{ts:List TypeId}{vs:List V}{H:Heap}{q:Stp}(h:vY P ts vs H=some q) : ∃g v kn,q = .val g v (newB H kn)\/ ∃b2 k2,blkAt H b2=some k2/\q = .val g v (newB (setB H b2 none) kn):=by
 unfold vY at h
 (repeat' (split at h))<;>try (unfold vA at h)
 all_goals try (unfold kh at h)
 all_goals try (unfold ki at h)
 all_goals (repeat' (split at h))
 all_goals first
  | (cases h;done)
  | (cases h;exact⟨_,_,_,.inl rfl⟩)
  | (cases h;exact⟨_,_,_,.inr ⟨_,_,by assumption,rfl⟩⟩)
theorem VJ{P:Program}{op:Op}{ρ:Operand->Option V}{H:Heap}{q:Stp}(hk:xj op=6)(h:evStep P op ρ H=some q) : ∃g v H',q = .val g v H'/\(∀a,a<H.length->xeV (blkAt H a) (blkAt H' a)=true->blkAt H' a=blkAt H a)/\(Vq H H'=true ->∃k,H'=newB H k):=by
 cases op<;>simp[xj]at hk
 case lookup t a x ok=>cases a<;>simp at hk
 case store t a x=>cases a<;>simp at hk
 case call c=>
  obtain⟨callee,as,ats⟩:=c
  cases callee with
  | builtin b=>
   simp only[evStep]at h
   split at h
   ·cases b<;>simp at hk
    obtain⟨g,v,kn,rfl|⟨b2,k2,hb2,rfl⟩⟩:=Vh h
    ·exact⟨_,_,_,rfl,fun a ha _=>by rw[yq,if_neg (by omega)],fun _=>⟨_,rfl⟩⟩
    ·refine⟨_,_,_,rfl,fun a ha hk =>?_,fun hs =>?_⟩
     ·have e0:blkAt (newB (setB H b2 none) kn) a=blkAt (setB H b2 none) a:=by rw[yq,yl,List.length_set,if_neg (by omega)]
      rw[e0]at hk |-
      by_cases he:b2=a
      ·subst he
       have e1:blkAt (setB H b2 none) b2=none:=by rw[yl,xz,List.getElem?_set_self ha];rfl
       rw[e1,hb2]at hk
       cases hk
      ·rw[yl,xz,xz,List.getElem?_set_ne he]
     obtain⟨k',hk'⟩:=Zf hs hb2
     have hlt:b2<H.length:=by
      rw[xz]at hb2
      by_cases hi:b2<H.length
      ·exact hi
      ·rw[List.getElem?_eq_none (by omega)]at hb2;simp at hb2
     rw[yq]at hk'
     rw[yl,List.length_set,if_neg (by omega),xz,List.getElem?_set_self hlt]at hk'
     cases hk'
   ·cases h
  | invoke r n=>simp[xj]at hk
  | value f=>simp[xj]at hk
theorem jc{P:Program}{op:Op}{ρ:Operand->Option V}{H:Heap}{q:Stp}(hk:xj op=3)(h:evStep P op ρ H=some q):(∀g v H',q ≠ .val g v H')/\ ∀H2,evStep P op ρ H2=some q:=by
 cases op<;>simp[xj]at hk
 case lookup t a x ok=>cases a<;>simp at hk
 case store t a x=>cases a<;>simp at hk
 case call c=>
  obtain⟨callee,as,ats⟩:=c
  cases callee with
  | builtin b=>simp[xj]at hk;split at hk<;>simp at hk
  | invoke r n=>
   simp only[evStep]at h |-
   refine⟨fun g v H' e =>?_,fun _=>h⟩
   subst e
   (repeat' (split at h))<;>first
    | cases h
    | (rw[oM]at h;obtain⟨_,_,h2⟩:=h;cases h2)
  | value f=>
   simp only[evStep]at h |-
   refine⟨fun g v H' e =>?_,fun _=>h⟩
   subst e
   (repeat' (split at h))<;>first
    | cases h
    | (rw[oM]at h;obtain⟨_,_,h2⟩:=h;cases h2)
end Lx
namespace Lx
open Go
section
variable{P:Program}{σ:Type}{I:PortR P σ}{Γ:yc}{S0:Bool->Nat->Prop}{w0:World}{e0:Env}{ops:Array Oper}
theorem xee{tmps:Tm}{dst:Option Tmp}{v:V}{x:Operand}(h : ∀d,dst=some d->x ≠ .tmp d):xW (putT tmps dst v) x=xW tmps x:=by
 cases dst with
 | none=>rfl
 | some d=>
  cases x with
  | tmp t=>
   have hne:t≠d:=fun hh=>h d rfl (by rw[hh])
   simp only[xW,putT,yE _ _ hne]
  | _=>rfl
theorem ZC{pu:PM}{o:Oper}{tmps:Tm}{dst:Option Tmp}{v:V}{H:Heap}{s:σ}(h : ∀d,dst=some d->d∉o.looksAt ops):valO Γ I ops pu o (putT tmps dst v) H s=valO Γ I ops pu o tmps H s:=by
 have e1:evStep P o.op (xW (putT tmps dst v)) H=evStep P o.op (xW tmps) H:=KO fun x hx=>xee fun d hd hxd=>by
  subst hxd
  refine h d hd ?_
  simp only[Oper.looksAt,List.mem_append,List.mem_filterMap]
  exact .inl ⟨.tmp d,by simpa using hx,rfl⟩
 unfold valO
 rw[e1]
 cases hg:o.guard with
 | none=>rfl
 | some jw=>
  obtain⟨j,want⟩:=jw
  simp only
  cases hsl:(ops[j]?).bind (·.dst) with
  | none=>rfl
  | some sl=>
   simp only
   have:getT (putT tmps dst v) sl=getT tmps sl:=by
    cases dst with
    | none=>rfl
    | some d=>
     have hne:sl≠d:=by
      rintro rfl
      refine h sl rfl ?_
      simp only[Oper.looksAt,List.mem_append,hg,hsl]
      exact .inr (by simp)
     simp only[putT,yE _ _ hne]
   rw[this]
theorem yL(pu:PM)(o:Oper)(tmps:Tm):(∀H s,valO Γ I ops pu o tmps H s=yP Γ I pu H s (evStep P o.op (xW tmps) H))\/(∀H s,valO Γ I ops pu o tmps H s=some (.undef,H,s))\/(∀H s,valO Γ I ops pu o tmps H s=none):=by
 unfold valO
 cases o.guard with
 | none=>exact .inl fun _ _=>rfl
 | some jw=>
  obtain⟨j,want⟩:=jw
  simp only
  cases (ops[j]?).bind (·.dst) with
  | none=>exact .inr (.inr fun _ _=>rfl)
  | some sl=>
   simp only
   cases getT tmps sl with
   | none=>exact .inr (.inr fun _ _=>rfl)
   | some v=>
    cases v with
    | agg l=>exact .inr (.inr fun _ _=>rfl)
    | tup l=>cases l<;>first|exact .inr (.inl fun _ _=>rfl)|exact .inr (.inr fun _ _=>rfl)
    | c x=>
     cases x with
     | bool b=>
      by_cases h:b=want
      ·subst h;exact .inl fun _ _=>if_pos rfl
      ·exact .inr (.inl fun _ _=>if_neg h)
     | _=>exact .inr (.inr fun _ _=>rfl)
variable{pu:PM}{o:Oper}{tmps:Tm}{H H':Heap}{s s':σ}{v:V}
theorem kM{g:Bool}{u:V}{H0:Heap}(h:yP Γ I pu H s (some (.val g u H0))=some (v,H',s')):g=true/\u=v/\H0=H'/\s=s'/\okV pu H H0=true:=by
 simp only[yP]at h
 split at h
 ·rename_i hg
  simp only[oI,Prod.mk.injEq]at h
  simp only[Bool.and_eq_true]at hg
  exact⟨hg.2,h.1,h.2.1,h.2.2,hg.1⟩
 ·cases h
theorem Xk{u:V}(pu:PM)(H:Heap)(s:σ):yP Γ I pu H s (some (.val true u H))=some (u,H,s):=by
 simp only[yP,xfb,Bool.and_self,if_true]
theorem xa2{u:V}(pu:PM)(H:Heap)(k:Blk)(s:σ):yP Γ I pu H s (some (.val true u (newB H k)))=some (u,newB H k,s):=by
 simp only[yP,okV_new,Bool.and_self,if_true]
def Idle(Γ:yc)(I:PortR P σ)(ops:Array Oper)(pu:PM)(o:Oper)(tmps:Tm)(v:V):Prop :=∀H s,valO Γ I ops pu o tmps H s=some (v,H,s)
theorem beh0(hk:xj o.op=0)(h:valO Γ I ops pu o tmps H s=some (v,H',s')):H'=H/\s'=s/\Idle Γ I ops pu o tmps v:=by
 rcases yL (Γ:=Γ) (I:=I) (ops:=ops) pu o tmps with hc|hc|hc
 ·rw[hc]at h
  cases hq:evStep P o.op (xW tmps) H with
  | none=>rw[hq]at h;cases h
  | some q=>
   obtain⟨g,u,rfl,h2⟩:=xea hk hq
   rw[hq]at h
   obtain⟨rfl,rfl,rfl,rfl,_⟩:=kM h
   exact⟨rfl,rfl,fun H2 s2=>by rw[hc,h2];exact Xk pu H2 s2⟩
 ·rw[hc]at h
  cases h
  exact⟨rfl,rfl,hc⟩
 ·rw[hc]at h;cases h
theorem xcf(c:Value):ptrB (jL c)=none:=by
 unfold jL
 split
 ·cases allSome jp _<;>rfl
 ·split<;>rfl
 ·unfold jp;split<;>rfl
theorem beh1(hk:xj o.op=1)(h:valO Γ I ops pu o tmps H s=some (v,H',s')):H'=H/\s'=s/\(Idle Γ I ops pu o tmps v\/ ∃b,(∃ (t p:Nat),(∃ty,o.op = .load ty (.tmp t))/\ptrB (getT tmps t)=some b)/\ ∀H2 s2,blkAt H2 b=blkAt H b->valO Γ I ops pu o tmps H2 s2=some (v,H2,s2)):=by
 have hld : ∃ty a,o.op = .load ty a:=by
  cases hop:o.op with
  | load ty a=>exact⟨ty,a,rfl⟩
  | store ty a x=>cases a<;>simp[xj,hop]at hk
  | lookup ty a x ok=>cases a<;>simp[xj,hop]at hk
  | call c=>obtain⟨callee,as,ats⟩:=c;cases callee<;>simp[xj,hop]at hk;split at hk<;>simp at hk
  | _=>simp[xj,hop]at hk
 obtain⟨ty,ad,hld⟩:=hld
 rcases yL (Γ:=Γ) (I:=I) (ops:=ops) pu o tmps with hc|hc|hc
 ·rw[hc]at h
  cases hq:evStep P o.op (xW tmps) H with
  | none=>rw[hq]at h;cases h
  | some q=>
   obtain⟨g,u,b,rfl,hb,⟨x,hx,hxp⟩,h2⟩:=xeb hk hq
   rw[hq]at h
   obtain⟨rfl,rfl,rfl,rfl,_⟩:=kM h
   refine⟨rfl,rfl,.inr ⟨b,?_,fun H2 s2 hb2=>by rw[hc,h2 H2 hb2];exact Xk pu H2 s2⟩⟩
   have hxa:x=ad:=by rw[hld]at hx;simpa[Op.operands]using hx
   cases x with
   | tmp t=>exact⟨t,0,⟨ty,by rw[hld,<- hxa]⟩,hxp⟩
   | const c=>
    simp only[xW,xcf]at hxp
    cases hxp
   | global g=>simp[xW,ptrB]at hxp
   | func f=>simp[xW,ptrB]at hxp
 ·rw[hc]at h
  cases h
  exact⟨rfl,rfl,.inl hc⟩
 ·rw[hc]at h;cases h
theorem beh7(hk:xj o.op=7)(h:valO Γ I ops pu o tmps H s=some (v,H',s')):H'=H/\s'=s/\(Idle Γ I ops pu o tmps v\/ ∃b,(∃t,getT tmps t=some (.c (.mp b)))/\ ∀H2 s2,blkAt H2 b=blkAt H b->valO Γ I ops pu o tmps H2 s2=some (v,H2,s2)):=by
 have hld : ∃ty t x ok,o.op = .lookup ty (.tmp t) x ok:=by
  cases hop:o.op with
  | lookup ty a x ok=>cases a<;>first|exact⟨ty,_,x,ok,rfl⟩|(simp[xj,hop]at hk)
  | store ty a x=>cases a<;>simp[xj,hop]at hk
  | call c=>obtain⟨callee,as,ats⟩:=c;cases callee<;>simp[xj,hop]at hk;split at hk<;>simp at hk
  | _=>simp[xj,hop]at hk
 obtain⟨ty,t,x,ok,hld⟩:=hld
 rcases yL (Γ:=Γ) (I:=I) (ops:=ops) pu o tmps with hc|hc|hc
 ·rw[hc]at h
  cases hq:evStep P o.op (xW tmps) H with
  | none=>rw[hq]at h;cases h
  | some q=>
   rw[hld]at hq
   obtain⟨g,u,b,rfl,hb,h2⟩:=xec hq
   rw[hld,hq]at h
   obtain⟨rfl,rfl,rfl,rfl,_⟩:=kM h
   exact⟨rfl,rfl,.inr ⟨b,⟨t,hb⟩,fun H2 s2 hb2=>by rw[hc,hld,h2 H2 hb2];exact Xk pu H2 s2⟩⟩
 ·rw[hc]at h
  cases h
  exact⟨rfl,rfl,.inl hc⟩
 ·rw[hc]at h;cases h
theorem beh2(hk:xj o.op=2)(h:valO Γ I ops pu o tmps H s=some (v,H',s')):s'=s/\((H'=H/\Idle Γ I ops pu o tmps v)\/ ∃k,H'=newB H k/\ ∀H2 s2,H2.length=H.length->valO Γ I ops pu o tmps H2 s2=some (v,newB H2 k,s2)):=by
 rcases yL (Γ:=Γ) (I:=I) (ops:=ops) pu o tmps with hc|hc|hc
 ·rw[hc]at h
  cases hq:evStep P o.op (xW tmps) H with
  | none=>rw[hq]at h;cases h
  | some q=>
   obtain⟨u,k,rfl,h2⟩:=xed hk hq
   rw[hq]at h
   obtain⟨_,rfl,rfl,rfl,_⟩:=kM h
   exact⟨rfl,.inr ⟨k,rfl,fun H2 s2 hl=>by rw[hc,h2 H2 hl];exact xa2 pu H2 k s2⟩⟩
 ·rw[hc]at h
  cases h
  exact⟨rfl,.inl ⟨rfl,hc⟩⟩
 ·rw[hc]at h;cases h
theorem beh3(hk:xj o.op=3)(h:valO Γ I ops .pure o tmps H s=some (v,H',s')):H'=H/\ ∀H2,valO Γ I ops .pure o tmps H2 s=some (v,H2,s'):=by
 rcases yL (Γ:=Γ) (I:=I) (ops:=ops) .pure o tmps with hc|hc|hc
 ·rw[hc]at h
  cases hq:evStep P o.op (xW tmps) H with
  | none=>rw[hq]at h;cases h
  | some q=>
   obtain⟨h1,h2⟩:=jc hk hq
   rw[hq]at h
   cases q with
   | val g u H0=>exact absurd rfl (h1 g u H0)
   | port p=>
    simp only[yP]at h
    cases hs:I.step p s with
    | none=>rw[hs]at h;cases h
    | some vs=>
     rw[hs]at h
     cases h
     exact⟨rfl,fun H2=>by rw[hc,h2 H2];simp only[yP,hs]⟩
   | call f args=>
    simp only[yP]at h
    cases ht:kR Γ f args with
    | none=>rw[ht]at h;cases h
    | some S=>
     rw[ht]at h
     simp only at h
     cases hr:S.t.run I.step s with
     | none=>rw[hr]at h;cases h
     | some r=>
      rw[hr]at h
      simp only at h
      cases hf:S.f r.1 with
      | none=>rw[hf]at h;cases h
      | some q=>
       rw[hf]at h
       cases h
       exact⟨rfl,fun H2=>by rw[hc,h2 H2];simp only[yP,ht,hr,hf]⟩
 ·rw[hc]at h
  cases h
  exact⟨rfl,fun H2=>hc H2 s⟩
 ·rw[hc]at h;cases h
theorem qb : ∀ (l:List Nat) (xs:List (Option Blk)) (H:Heap) (b:Nat),b∉l->blkAt (vk H l xs) b=blkAt H b
 | [],xs,H,b,h=>by cases xs<;>rfl
 | c::l,[],H,b,h=>rfl
 | c::l,x::xs,H,b,h=>by
  rw[vk,qb l xs _ b (fun hh=>h (by simp[hh])),yl,xz,xz,List.getElem?_set_ne (fun hh=>h (by simp[hh]))]
theorem KP{f:FuncId}{args:List V}{S:Sum}{x:S.α}{q:V×Heap}{l:List Nat}{b:Nat}(h:wa Γ f args H=some S)(hf:S.f x=some q)(hr:vQ H 1000 (args.flatMap idsV) []=some l)(hb:b∉l)(hlt:b<H.length):blkAt q.2 b=blkAt H b:=by
 unfold wa at h
 split at h
 ·cases h
 ·rw[hr]at h
  simp only at h
  split at h
  ·split at h
   ·cases h
   ·cases h
    simp only at hf
    split at hf
    ·cases hf
    ·split at hf
     ·split at hf
      ·cases hf
       simp only
       rw[xz,List.getElem?_append_left (by rw[yu];exact hlt),<- xz,qb _ _ _ _ hb]
      ·cases hf
     ·cases hf
  ·cases h
/-! ### calls that leave no further blocks, beside a new block -/
def Closed(tmps:Tm)(H:Heap):Prop:=(∀t v,getT tmps t=some v ->∀b∈idsV v,b<H.length)/\ ∀i k,blkAt H i=some k ->∀b∈yR k.cells,b<H.length
theorem Wd{H:Heap}{b:Nat}{k:Blk}(h:blkAt H b=some k):b<H.length:=(List.getElem?_eq_some_iff.1 (xG.1 h)).1
theorem Zg{H:Heap}{k:Blk}(hc : ∀i kk,blkAt H i=some kk ->∀b∈yR kk.cells,b<H.length) : ∀ (n:Nat) (todo acc:List Nat),(∀b∈todo,b<H.length)->vQ (newB H k) n todo acc=vQ H n todo acc
 | n,[],acc,h=>by cases n<;>rfl
 | 0,b::todo,acc,h=>rfl
 | n+1,b::todo,acc,h=>by
  simp only[vQ]
  have hb:=h b (by simp)
  have hlt:blkAt (newB H k) b=blkAt H b:=by rw[yq,if_neg (by omega)]
  rw[hlt]
  split
  ·exact Zg hc n todo acc fun x hx=>h x (by simp[hx])
  ·split
   ·rename_i kk hk
    refine Zg hc n _ _ fun x hx =>?_
    rcases List.mem_append.1 hx with hx|hx
    ·exact hc b kk hk x hx
    ·exact h x (by simp[hx])
   ·rfl
theorem We(k:Blk) : ∀ (l:List Nat) (xs:List (Option Blk)) (H:Heap),(∀b∈l,b<H.length)->vk (newB H k) l xs=newB (vk H l xs) k
 | [],xs,H,h=>by cases xs<;>rfl
 | c::l,[],H,h=>rfl
 | c::l,x::xs,H,h=>by
  simp only[vk]
  have hb:=h c (by simp)
  have:setB (newB H k) c x=newB (setB H c x) k:=by
   rw[yl,yl,newB,newB,List.set_append_left _ _ hb]
  rw[this]
  exact We k l xs _ fun b hb=>by rw[yl,List.length_set];exact h b (by simp[hb])
theorem xef(l:List Nat)(xs:List (Option Blk))(H:Heap):(vk H l xs).length=H.length:=yu ..
theorem xeg{A:List Nat}{f:FuncId}{args:List V}{k:Blk}(hc : ∀i kk,blkAt H i=some kk ->∀b∈yR kk.cells,b<H.length)(ha : ∀b∈args.flatMap idsV,b<H.length) :
  vK Γ A f args (newB H k)=(vK Γ A f args H).map fun S=>⟨S.α,S.t,fun a=>(S.f a).map fun q=>(q.1,newB q.2 k),S.b,S.hb⟩:=by
 unfold vK
 cases Γ f with
 | none=>rfl
 | some m=>
  simp only
  rw[Zg hc _ _ _ ha]
  cases hl:vQ H 1000 (args.flatMap idsV) [] with
  | none=>rfl
  | some l=>
   simp only
   obtain⟨_,hk,_⟩:=ja H _ _ [] l hl (by simp) (by simp)
   have hlt : ∀b∈l,b<H.length:=fun b hb=>by obtain⟨kk,h⟩:=hk b hb;exact Wd h
   have e1:allSome (fun b=>renB (idx l) (blkAt (newB H k) b)) l=allSome (fun b=>renB (idx l) (blkAt H b)) l:=by
    have : ∀q:List Nat,(∀b∈q,b<H.length)->allSome (fun b=>renB (idx l) (blkAt (newB H k) b)) q=allSome (fun b=>renB (idx l) (blkAt H b)) q:=by
     intro q
     induction q with
     | nil=>intro _;rfl
     | cons x q ih=>
      intro h
      have hx:=h x (by simp)
      simp only[allSome,ih fun b hb=>h b (by simp[hb])]
      rw[yq,if_neg (by omega)]
    exact this l hlt
   rw[e1]
   cases A.all fun b=> !(l.contains b) with
   | false=>rfl
   | true=>
    simp only
    cases allSome (renV (idx l)) args with
    | none=>rfl
    | some args'=>
     cases allSome (fun b=>renB (idx l) (blkAt H b)) l with
     | none=>rfl
     | some H0=>
      simp only
      cases m args' H0 with
      | none=>rfl
      | some S=>
       simp only[Option.map_some,oI,Sum.mk.injEq,heq_eq_eq,true_and,and_true]
       funext a
       cases S.f a with
       | none=>rfl
       | some r=>
        simp only
        cases renV (fun i=>l[i]?) r.1 with
        | none=>rfl
        | some v=>
         cases allSome (renB fun i=>l[i]?) r.2 with
         | none=>rfl
         | some H1=>
          simp only
          split
          ·simp only[Option.map_some,We k l H1 H hlt]
          ·rfl
theorem xeh{A:List Nat}{f:FuncId}{args:List V}{S:Sum}{x:S.α}{q:V×Heap}(h:vK Γ A f args H=some S)(hf:S.f x=some q):q.2.length=H.length/\ ∀b∈A,blkAt q.2 b=blkAt H b:=by
 unfold vK at h
 split at h
 ·cases h
 ·split at h
  ·cases h
  ·rename_i l hl
   split at h
   ·cases h
   ·rename_i hA
    split at h
    ·split at h
     ·cases h
     ·cases h
      simp only at hf
      split at hf
      ·cases hf
      ·split at hf
       ·split at hf
        ·cases hf
         refine⟨xef ..,fun b hb=>qb _ _ _ _ fun hm =>?_⟩
         rw[List.all_eq_true]at hA
         have:=hA b hb
         rw[List.contains_iff_mem.2 hm]at this
         cases this
        ·cases hf
       ·cases hf
    ·cases h
theorem xcg{x:Value}{v:V}(h:jL x=some v):idsV v = []:=by
 have hc : ∀ {x:Value} {c:C},jp x=some c->idsC c = []:=by
  intro x c h
  unfold jp at h
  split at h<;>cases h<;>rfl
 have hcs : ∀ (l:List Value) (r:List C),allSome jp l=some r->yR r = []:=by
  intro l
  induction l with
  | nil=>intro r h;simp only[allSome,oI]at h;subst h;rfl
  | cons a l ih=>
   intro r h
   simp only[allSome]at h
   split at h
   ·rename_i y hy
    split at h
    ·rename_i ys hys
     cases h
     simp only[yR,hc hy,ih ys hys,List.append_nil]
    ·cases h
   ·cases h
 unfold jL at h
 split at h
 ·rw[oM]at h;obtain⟨r,h1,rfl⟩:=h;exact hcs _ _ h1
 ·split at h
  ·cases h;rfl
  ·cases h
 ·rw[oM]at h;obtain⟨r,h1,rfl⟩:=h;exact hc h1
theorem Xl{tmps:Tm}{H:Heap}(hc : ∀t v,getT tmps t=some v ->∀b∈idsV v,b<H.length){x:Operand}{v:V}(h:xW tmps x=some v) : ∀b∈idsV v,b<H.length:=by
 cases x with
 | tmp t=>exact hc t v h
 | const c=>rw[xcg h];intro b hb;cases hb
 | global g=>simp only[xW,oI]at h;subst h;intro b hb;simp[idsV,idsC]at hb
 | func f=>simp only[xW,oI]at h;subst h;intro b hb;simp[idsV,idsC,yR]at hb
theorem qc{tmps:Tm}{H:Heap}(hc : ∀t v,getT tmps t=some v ->∀b∈idsV v,b<H.length) : ∀ (l:List Operand) (vs:List V),allSome (xW tmps) l=some vs ->∀b∈vs.flatMap idsV,b<H.length
 | [],vs,h,b,hb=>by simp only[allSome,oI]at h;subst h;simp at hb
 | x::l,vs,h,b,hb=>by
  simp only[allSome]at h
  split at h
  ·rename_i y hy
   split at h
   ·rename_i ys hys
    cases h
    simp only[List.flatMap_cons,List.mem_append]at hb
    rcases hb with hb|hb
    ·exact Xl hc hy b hb
    ·exact qc hc l ys hys b hb
   ·cases h
  ·cases h
theorem xa3 : ∀caps:List C,(caps.map V.c).flatMap idsV=yR caps
 | []=>rfl
 | c::l=>by simp only[List.map_cons,List.flatMap_cons,xa3 l,idsV,yR]
theorem xfc{tmps:Tm}{H H2:Heap}(hc : ∀t v,getT tmps t=some v ->∀b∈idsV v,b<H.length){op:Op}(hk:xj op=3){f:FuncId}{args:List V}(h:evStep P op (xW tmps) H2=some (.call f args)) : ∀b∈args.flatMap idsV,b<H.length:=by
 cases op<;>simp[xj]at hk
 case lookup t a x ok=>cases a<;>simp at hk
 case call c=>
  obtain⟨callee,as,ats⟩:=c
  cases callee with
  | builtin b=>simp at hk;split at hk<;>simp at hk
  | invoke r n=>
   simp only[evStep]at h
   split at h
   ·rename_i vs hvs
    split at h
    ·rw[oM]at h;obtain⟨_,_,h2⟩:=h;cases h2
    ·rename_i t x hr
     rw[oM]at h;obtain⟨q,h2,h3⟩:=h;cases h3
     intro b hb
     rw[List.flatMap_cons,List.mem_append]at hb
     rcases hb with hb|hb
     ·exact Xl hc hr b (by simpa[idsV,idsC]using hb)
     ·exact qc hc _ _ hvs b hb
    ·cases h
   ·cases h
  | value g=>
   simp only[evStep]at h
   split at h
   ·rename_i vs hvs
    split at h
    ·rename_i f' caps hf
     cases h
     intro b hb
     rw[List.flatMap_append,List.mem_append,xa3]at hb
     rcases hb with hb|hb
     ·exact qc hc _ _ hvs b hb
     ·exact Xl hc hf b (by simpa[idsV,idsC]using hb)
    ·rw[oM]at h;obtain⟨_,_,h2⟩:=h;cases h2
    ·cases h
   ·cases h
 case store t a x=>cases a<;>simp at hk
theorem behK{B:List Nat}(hk:xj o.op=3)(hcl:Closed tmps H)(kk:Blk):valO Γ I ops (.keep B) o tmps (newB H kk) s=(valO Γ I ops (.keep B) o tmps H s).map fun r=>(r.1,newB r.2.1 kk,r.2.2):=by
 rcases yL (Γ:=Γ) (I:=I) (ops:=ops) (.keep B) o tmps with hc|hc|hc
 ·rw[hc,hc]
  cases hq:evStep P o.op (xW tmps) H with
  | none=>
   cases hq2:evStep P o.op (xW tmps) (newB H kk) with
   | none=>rfl
   | some q=>have:=(jc hk hq2).2 H;rw[hq]at this;cases this
  | some q=>
   obtain⟨h1,h2⟩:=jc hk hq
   rw[h2]
   cases q with
   | val g u H0=>exact absurd rfl (h1 g u H0)
   | port p=>
    simp only[yP]
    cases I.step p s<;>rfl
   | call f args=>
    simp only[yP]
    rw[xeg hcl.2 (xfc hcl.1 hk hq)]
    cases vK Γ B f args H with
    | none=>rfl
    | some S=>
     simp only[Option.map_some]
     cases S.t.run I.step s with
     | none=>rfl
     | some r=>
      simp only
      cases S.f r.1<;>rfl
 ·rw[hc,hc];rfl
 ·rw[hc,hc];rfl
theorem ZD{B:List Nat}(hk:xj o.op=3)(h:valO Γ I ops (.keep B) o tmps H s=some (v,H',s')):H'.length=H.length/\ ∀b∈B,blkAt H' b=blkAt H b:=by
 rcases yL (Γ:=Γ) (I:=I) (ops:=ops) (.keep B) o tmps with hc|hc|hc
 ·rw[hc]at h
  cases hq:evStep P o.op (xW tmps) H with
  | none=>rw[hq]at h;cases h
  | some q=>
   obtain⟨h1,h2⟩:=jc hk hq
   rw[hq]at h
   cases q with
   | val g u H0=>exact absurd rfl (h1 g u H0)
   | port p=>
    simp only[yP]at h
    cases hs:I.step p s with
    | none=>rw[hs]at h;cases h
    | some vs=>rw[hs]at h;cases h;exact⟨rfl,fun _ _=>rfl⟩
   | call f args=>
    simp only[yP]at h
    cases ht:vK Γ B f args H with
    | none=>rw[ht]at h;cases h
    | some S=>
     rw[ht]at h
     simp only at h
     cases hr:S.t.run I.step s with
     | none=>rw[hr]at h;cases h
     | some r=>
      rw[hr]at h
      simp only at h
      cases hf:S.f r.1 with
      | none=>rw[hf]at h;cases h
      | some q=>
       rw[hf]at h
       cases h
       exact xeh ht hf
 ·rw[hc]at h;cases h;exact⟨rfl,fun _ _=>rfl⟩
 ·rw[hc]at h;cases h
theorem beh5(hk:xj o.op=5)(h:valO Γ I ops pu o tmps H s=some (v,H',s')):s'=s/\((H'=H/\Idle Γ I ops pu o tmps v)\/ ∃b kn,(∃t,(∃ty x,o.op = .store ty (.tmp t) x)/\ptrB (getT tmps t)=some b)/\H'=setB H b (some kn)):=by
 have hst : ∃ty t x,o.op = .store ty (.tmp t) x:=by
  cases hop:o.op with
  | store ty a x=>cases a<;>first|exact⟨ty,_,x,rfl⟩|(simp[xj,hop]at hk)
  | lookup ty a x ok=>cases a<;>simp[xj,hop]at hk
  | call c=>obtain⟨callee,as,ats⟩:=c;cases callee<;>simp[xj,hop]at hk;try (split at hk<;>simp at hk)
  | _=>simp[xj,hop]at hk
 obtain⟨ty,t,x,hst⟩:=hst
 rcases yL (Γ:=Γ) (I:=I) (ops:=ops) pu o tmps with hc|hc|hc
 ·rw[hc]at h
  cases hq:evStep P o.op (xW tmps) H with
  | none=>rw[hq]at h;cases h
  | some q=>
   rw[hq]at h
   rw[hst]at hq
   simp only[evStep,xW]at hq
   split at hq
   ·rename_i b p u ha hx
    split at hq
    ·rename_i kb xs n hb hxs hn
     split at hq
     ·split at hq
      ·rename_i g kn hkn
       cases hq
       obtain⟨_,rfl,rfl,rfl,_⟩:=kM h
       exact⟨rfl,.inr ⟨b,kn,⟨t,⟨ty,x,hst⟩,by rw[ha];rfl⟩,rfl⟩⟩
      ·cases hq
     ·cases hq
    ·cases hq
   ·rename_i b off i m f u ha hx
    split at hq
    ·rename_i kb xs n hb hxs hn
     split at hq
     ·split at hq
      ·rename_i g kn hkn
       cases hq
       obtain⟨_,rfl,rfl,rfl,_⟩:=kM h
       exact⟨rfl,.inr ⟨b,kn,⟨t,⟨ty,x,hst⟩,by rw[ha];rfl⟩,rfl⟩⟩
      ·cases hq
     ·cases hq
    ·cases hq
   ·cases hq
 ·rw[hc]at h
  cases h
  exact⟨rfl,.inl ⟨rfl,hc⟩⟩
 ·rw[hc]at h;cases h
theorem xfd{x y:C}(h:sameC x y=true):x=y:=by
  unfold sameC at h
  split at h<;>first
    | rfl
    | cases h
    | (simp only[Bool.and_eq_true,Nat.beq_eq,beq_iff_eq,decide_eq_true_eq]at h
       simp[h])
theorem VK : ∀ {l m:List C},Ko l m=true->l=m
 | [],[],_=>rfl
 | x::l,y::m,h=>by
  simp only[Ko,Bool.and_eq_true]at h
  rw[xfd h.1,VK h.2]
 | [],_::_,h=>by cases h
 | _::_,[],h=>by cases h
theorem qG : ∀ {l m:List Int},ZY l m=true->l=m
 | [],[],_=>rfl
 | x::l,y::m,h=>by
  simp only[ZY,Bool.and_eq_true,decide_eq_true_eq]at h
  rw[h.1,qG h.2]
 | [],_::_,h=>by cases h
 | _::_,[],h=>by cases h
theorem Xm : ∀ {l m:List (List Int)},Yx l m=true->l=m
 | [],[],_=>rfl
 | x::l,y::m,h=>by
  simp only[Yx,Bool.and_eq_true]at h
  rw[qG h.1,Xm h.2]
 | [],_::_,h=>by cases h
 | _::_,[],h=>by cases h
theorem xch{x y:Tab}(h:Kp x y=true):x=y:=by
  unfold Kp at h
  split at h<;>first
    | cases h
    | (simp only[Bool.and_eq_true,Nat.beq_eq,decide_eq_true_eq]at h
       first
         | (obtain⟨h1,h2⟩:=h;rw[h1,qG h2])
         | (obtain⟨h1,h2⟩:=h;rw[h1,Xm h2])
         | (obtain⟨⟨h0,h1⟩,h2⟩:=h;rw[h0,h1,qG h2])
         | (obtain⟨⟨h0,h1⟩,h2⟩:=h;rw[h0,h1,Xm h2])
         | (obtain⟨h1,h2⟩:=h;rw[h1,h2]))
theorem xa4{x y:Option Tab}(h:xaB x y=true):x=y:=by
 cases x<;>cases y
 ·rfl
 ·cases h
 ·cases h
 ·rw[xch h]
theorem xci{x y:Option Blk}(h:Kq x y=true):x=y:=by
 cases x with
 | none=>cases y with
  | none=>rfl
  | some y=>cases h
 | some x=>cases y with
  | none=>cases h
  | some y=>
   obtain⟨c,e,g,t⟩:=x
   obtain⟨c',e',g',t'⟩:=y
   simp only[Kq,Bool.and_eq_true,Nat.beq_eq,beq_iff_eq]at h
   obtain⟨⟨⟨h1,h2⟩,h3⟩,h4⟩:=h
   rw[VK h1,h2,h3,xa4 h4]
theorem xei{A:List Nat}{H H':Heap}(h:jM A H H'=true){b:Nat}(hb:b∈A):blkAt H' b=blkAt H b:=by
 simp only[jM,List.all_eq_true]at h
 exact(xci (h b hb)).symm
theorem behA{B:List Nat}(hk:xj o.op=3)(h:valO Γ I ops (.avoid B) o tmps H s=some (v,H',s')) : ∀b∈B,blkAt H' b=blkAt H b:=by
 intro b hb
 rcases yL (Γ:=Γ) (I:=I) (ops:=ops) (.avoid B) o tmps with hc|hc|hc
 ·rw[hc]at h
  cases hq:evStep P o.op (xW tmps) H with
  | none=>rw[hq]at h;cases h
  | some q=>
   obtain⟨h1,h2⟩:=jc hk hq
   rw[hq]at h
   cases q with
   | val g u H0=>exact absurd rfl (h1 g u H0)
   | port p=>
    simp only[yP]at h
    cases hs:I.step p s with
    | none=>rw[hs]at h;cases h
    | some vs=>rw[hs]at h;cases h;rfl
   | call f args=>
    simp only[yP]at h
    split at h
    ·rename_i hav
     unfold Yf at hav
     split at hav
     ·rename_i l hl
      rw[List.all_eq_true]at hav
      have:=hav b hb
      simp only[Bool.and_eq_true,Bool.not_eq_true',decide_eq_true_eq]at this
      obtain⟨hnl,hlt⟩:=this
      have hnl':b∉l:=fun hm=>by rw[List.contains_iff_mem.2 hm]at hnl;cases hnl
      unfold Wb at h
      cases ht:wa Γ f args H with
      | none=>rw[ht]at h;cases h
      | some S=>
       rw[ht]at h
       simp only at h
       cases hr:S.t.run I.step s with
       | none=>rw[hr]at h;cases h
       | some r=>
        rw[hr]at h
        simp only at h
        cases hf:S.f r.1 with
        | none=>rw[hf]at h;cases h
        | some q=>
         rw[hf]at h
         cases h
         exact KP ht hf hl hnl' hlt
     ·cases hav
    ·split at h
     ·rename_i r hr
      split at h
      ·rename_i hke
       cases h
       exact xei hke hb
      ·cases h
     ·cases h
 ·rw[hc]at h;cases h;rfl
 ·rw[hc]at h;cases h
theorem beh6(hk:xj o.op=6)(h:valO Γ I ops .fresh o tmps H s=some (v,H',s')):s'=s/\((H'=H/\Idle Γ I ops .fresh o tmps v)\/ ∃k,H'=newB H k):=by
 rcases yL (Γ:=Γ) (I:=I) (ops:=ops) .fresh o tmps with hc|hc|hc
 ·rw[hc]at h
  cases hq:evStep P o.op (xW tmps) H with
  | none=>rw[hq]at h;cases h
  | some q=>
   obtain⟨g,u,H0,rfl,_,h2⟩:=VJ hk hq
   rw[hq]at h
   obtain⟨_,rfl,rfl,rfl,hs⟩:=kM h
   exact⟨rfl,.inr (h2 hs)⟩
 ·rw[hc]at h
  cases h
  exact⟨rfl,.inl ⟨rfl,hc⟩⟩
 ·rw[hc]at h;cases h
theorem beh6p{B:List Nat}(hk:xj o.op=6)(h:valO Γ I ops (.part B) o tmps H s=some (v,H',s')):s'=s/\((H'=H/\Idle Γ I ops (.part B) o tmps v)\/ ∀a∈B,a<H.length->blkAt H' a=blkAt H a):=by
 rcases yL (Γ:=Γ) (I:=I) (ops:=ops) (.part B) o tmps with hc|hc|hc
 ·rw[hc]at h
  cases hq:evStep P o.op (xW tmps) H with
  | none=>rw[hq]at h;cases h
  | some q=>
   obtain⟨g,u,H0,rfl,h2,_⟩:=VJ hk hq
   rw[hq]at h
   obtain⟨_,rfl,rfl,rfl,hs⟩:=kM h
   simp only[okV,List.all_eq_true]at hs
   exact⟨rfl,.inr fun a ha hl=>h2 a hl (hs a ha)⟩
 ·rw[hc]at h
  cases h
  exact⟨rfl,.inl ⟨rfl,hc⟩⟩
 ·rw[hc]at h;cases h
def Parts(tmps:Tm)(pu:PM)(x:Oper):Prop :=∃B,pu = .part B/\ ∀ty t b (p:Nat),x.op = .load ty (.tmp t)->ptrB (getT tmps t)=some b->b∈B
theorem xa5(H:Heap)(k:Blk):(newB H k).length=H.length+1:=by simp[newB]
theorem vt{H:Heap}{k:Blk}{b:Nat}(h:b<H.length):blkAt (newB H k) b=blkAt H b:=by
 rw[yq,if_neg (by omega)]
def xcj(tmps:Tm)(pu:PM)(x:Oper):Prop:=xj x.op=1/\ ∃B,(pu = .avoid B\/pu = .keep B)/\ ∀ty t b (p:Nat),x.op = .load ty (.tmp t)->ptrB (getT tmps t)=some b->b∈B
theorem xck{i j:Nat}(hk:qt i j=true)(hi : ¬i=0)(hj : ¬j=0):(i=1/\j=1)\/(i=1/\j=2)\/(i=1/\j=3)\/(i=2/\j=1)\/(i=3/\j=1)\/(i=2/\j=3)\/(i=3/\j=2)\/(i=1/\j=5)\/(i=1/\j=6)\/(i=6/\j=1)\/(i=7/\j=1)\/(i=7/\j=2)\/(i=7/\j=7)\/(i=1/\j=7)\/(i=2/\j=7):=by
 simp only[qt,Bool.or_eq_true,Bool.and_eq_true,beq_iff_eq,decide_eq_true_eq]at hk
 rcases hk with(((((((((h|h)|h)|h)|h)|h)|h)|h)|h)|h)|h
 ·exact absurd h hi
 ·exact absurd h hj
 ·obtain⟨rfl,h⟩:=h
  have:j=1\/j=2\/j=3:=by omega
  rcases this with rfl|rfl|rfl<;>simp
 ·obtain⟨rfl,h⟩:=h
  have:i=1\/i=2\/i=3:=by omega
  rcases this with rfl|rfl|rfl<;>simp
 rotate_right
 ·obtain⟨rfl,h|h⟩:=h<;>subst h<;>simp
 rotate_right
 ·obtain⟨rfl,(h|h)|h⟩:=h<;>subst h<;>simp
 all_goals
  obtain⟨rfl,rfl⟩:=h
  simp
theorem xfe{x y:Oper}{px py:PM}{vx vy:V}{Hx Hy:Heap}{sx sy:σ}(hk:qt (xj x.op) (xj y.op)=true)(hx:valO Γ I ops px x tmps H s=some (vx,Hx,sx))(hy:valO Γ I ops py y tmps Hx sx=some (vy,Hy,sy))
  (hpx:xj x.op=3->(xj y.op=1\/xj y.op=2)->px = .pure\/xcj tmps px y\/(xj y.op=2/\ ∃B,px = .keep B)) (hpy:xj y.op=3->(xj x.op=1\/xj x.op=2)->py = .pure\/xcj tmps py x\/(xj x.op=2/\ ∃B,py = .keep B)) (hs : ∀t b (p:Nat),ptrB (getT tmps t)=some b->b<H.length)
  (hcl:Closed tmps H) (hdf:xj x.op=1->xj y.op=5 ->∀tx t tz z q b (p:Nat) c,x.op = .load tx (.tmp t)->y.op = .store tz (.tmp z) q->ptrB (getT tmps t)=some b->ptrB (getT tmps z)=some c->b≠c)
  (h6x:xj x.op=6->xj y.op=1->px = .fresh\/Parts tmps px y) (h6y:xj y.op=6->xj x.op=1->py = .fresh\/Parts tmps py x) :
  ∃H1 s1,valO Γ I ops py y tmps H s=some (vy,H1,s1)/\valO Γ I ops px x tmps H1 s1=some (vx,Hy,sy):=by
 have idleX:Hx=H->sx=s->Idle Γ I ops px x tmps vx ->∃H1 s1,valO Γ I ops py y tmps H s=some (vy,H1,s1)/\valO Γ I ops px x tmps H1 s1=some (vx,Hy,sy):=by
  rintro rfl rfl hi
  exact⟨Hy,sy,hy,hi _ _⟩
 have idleY:Hy=Hx->sy=sx->Idle Γ I ops py y tmps vy ->∃H1 s1,valO Γ I ops py y tmps H s=some (vy,H1,s1)/\valO Γ I ops px x tmps H1 s1=some (vx,Hy,sy):=by
  rintro rfl rfl hi
  exact⟨H,s,hi _ _,hx⟩
 by_cases hx0:xj x.op=0
 ·obtain⟨h1,h2,h3⟩:=beh0 hx0 hx
  exact idleX h1 h2 h3
 by_cases hy0:xj y.op=0
 ·obtain⟨h1,h2,h3⟩:=beh0 hy0 hy
  exact idleY h1 h2 h3
 have hcases:=xck hk hx0 hy0
 rcases hcases with⟨k1,k2⟩|⟨k1,k2⟩|⟨k1,k2⟩|⟨k1,k2⟩|⟨k1,k2⟩|⟨k1,k2⟩|⟨k1,k2⟩|⟨k1,k2⟩|⟨k1,k2⟩|⟨k1,k2⟩|⟨k1,k2⟩|⟨k1,k2⟩|⟨k1,k2⟩|⟨k1,k2⟩|⟨k1,k2⟩
 ·obtain⟨rfl,rfl,h3⟩:=beh1 k1 hx
  obtain⟨rfl,rfl,h6⟩:=beh1 k2 hy
  exact⟨_,_,hy,hx⟩
 ·obtain⟨rfl,rfl,h3⟩:=beh1 k1 hx
  obtain⟨rfl,h6⟩:=beh2 k2 hy
  rcases h3 with h3|⟨b,⟨t,p,_,hb⟩,h3⟩
  ·exact idleX rfl rfl h3
  ·rcases h6 with⟨rfl,h6⟩|⟨k,rfl,h6⟩
   ·exact idleY rfl rfl h6
   ·exact⟨_,_,hy,h3 _ _ (vt (hs t b p hb))⟩
 ·obtain⟨rfl,rfl,h3⟩:=beh1 k1 hx
  rcases h3 with h3|⟨b,⟨t,p,⟨ty,hop⟩,hb⟩,h3⟩
  ·exact idleX rfl rfl h3
  ·rcases hpy k2 (.inl k1)with rfl|⟨_,B,rfl|rfl,hB⟩|⟨h0,_⟩
   ·obtain⟨rfl,h6⟩:=beh3 k2 hy
    exact⟨_,_,hy,h3 _ _ rfl⟩
   ·exact⟨_,_,hy,h3 _ _ (behA k2 hy b (hB ty t b p hop hb))⟩
   ·exact⟨_,_,hy,h3 _ _ ((ZD k2 hy).2 b (hB ty t b p hop hb))⟩
   ·omega
 ·obtain⟨rfl,h3⟩:=beh2 k1 hx
  obtain⟨rfl,rfl,h6⟩:=beh1 k2 hy
  rcases h3 with⟨rfl,h3⟩|⟨k,rfl,h3⟩
  ·exact idleX rfl rfl h3
  ·rcases h6 with h6|⟨b,⟨t,p,_,hb⟩,h6⟩
   ·exact idleY rfl rfl h6
   ·exact⟨H,_,h6 _ _ (vt (hs t b p hb)).symm,hx⟩
 ·obtain⟨rfl,rfl,h6⟩:=beh1 k2 hy
  rcases h6 with h6|⟨b,⟨t,p,⟨ty,hop⟩,hb⟩,h6⟩
  ·exact idleY rfl rfl h6
  ·rcases hpx k1 (.inl k2)with rfl|⟨_,B,rfl|rfl,hB⟩|⟨h0,_⟩
   ·obtain⟨rfl,h3⟩:=beh3 k1 hx
    exact⟨_,_,h6 _ _ rfl,hx⟩
   ·exact⟨_,_,h6 _ _ (behA k1 hx b (hB ty t b p hop hb)).symm,hx⟩
   ·exact⟨_,_,h6 _ _ ((ZD k1 hx).2 b (hB ty t b p hop hb)).symm,hx⟩
   ·omega
 ·obtain⟨rfl,h3⟩:=beh2 k1 hx
  rcases hpy k2 (.inr k1)with rfl|h|⟨_,B,rfl⟩
  ·obtain⟨rfl,h6⟩:=beh3 k2 hy
   rcases h3 with⟨rfl,h3⟩|⟨k,rfl,h3⟩
   ·exact idleX rfl rfl h3
   ·exact⟨H,_,h6 H,h3 _ _ rfl⟩
  ·have:=h.1;omega
  ·rcases h3 with⟨rfl,h3⟩|⟨k,rfl,h3⟩
   ·exact idleX rfl rfl h3
   ·rw[behK k2 hcl,oM]at hy
    obtain⟨⟨v1,H1,s1⟩,h4,h5⟩:=hy
    cases h5
    exact⟨H1,s1,h4,h3 _ _ (ZD k2 h4).1⟩
 ·rcases hpx k1 (.inr k2)with rfl|h|⟨_,B,rfl⟩
  ·obtain⟨rfl,h3⟩:=beh3 k1 hx
   obtain⟨rfl,h6⟩:=beh2 k2 hy
   rcases h6 with⟨rfl,h6⟩|⟨k,rfl,h6⟩
   ·exact idleY rfl rfl h6
   ·exact⟨_,_,h6 _ _ rfl,h3 _⟩
  ·have:=h.1;omega
  ·obtain⟨rfl,h6⟩:=beh2 k2 hy
   rcases h6 with⟨rfl,h6⟩|⟨k,rfl,h6⟩
   ·exact idleY rfl rfl h6
   ·exact⟨newB H k,s,h6 _ _ (ZD k1 hx).1.symm,by rw[behK k1 hcl,hx];rfl⟩
 ·obtain⟨rfl,rfl,h3⟩:=beh1 k1 hx
  obtain⟨rfl,h6⟩:=beh5 k2 hy
  rcases h3 with h3|⟨b,⟨t,p,⟨ty,hop⟩,hb⟩,h3⟩
  ·exact idleX rfl rfl h3
  ·rcases h6 with⟨rfl,h6⟩|⟨c,kn,⟨z,⟨ty',q,hop'⟩,hc⟩,rfl⟩
   ·exact idleY rfl rfl h6
   ·have hne:=hdf k1 k2 ty t ty' z q b p c hop hop' hb hc
    exact⟨_,_,hy,h3 _ _ (by rw[yl,xz,xz,List.getElem?_set_ne (fun hh=>hne hh.symm)])⟩
 ·obtain⟨rfl,rfl,h3⟩:=beh1 k1 hx
  rcases h6y k2 k1 with rfl|⟨B,rfl,hB⟩
  ·obtain⟨rfl,h6⟩:=beh6 k2 hy
   rcases h3 with h3|⟨b,⟨t,p,_,hb⟩,h3⟩
   ·exact idleX rfl rfl h3
   ·rcases h6 with⟨rfl,h6⟩|⟨k,rfl⟩
    ·exact idleY rfl rfl h6
    ·exact⟨_,_,hy,h3 _ _ (vt (hs t b p hb))⟩
  ·obtain⟨rfl,h6⟩:=beh6p k2 hy
   rcases h3 with h3|⟨b,⟨t,p,⟨ty,hop⟩,hb⟩,h3⟩
   ·exact idleX rfl rfl h3
   ·rcases h6 with⟨rfl,h6⟩|h6
    ·exact idleY rfl rfl h6
    ·exact⟨_,_,hy,h3 _ _ (h6 b (hB ty t b p hop hb) (hs t b p hb))⟩
 ·rcases h6x k1 k2 with rfl|⟨B,rfl,hB⟩
  ·obtain⟨rfl,h3⟩:=beh6 k1 hx
   obtain⟨rfl,rfl,h6⟩:=beh1 k2 hy
   rcases h3 with⟨rfl,h3⟩|⟨k,rfl⟩
   ·exact idleX rfl rfl h3
   ·rcases h6 with h6|⟨b,⟨t,p,_,hb⟩,h6⟩
    ·exact idleY rfl rfl h6
    ·exact⟨H,_,h6 _ _ (vt (hs t b p hb)).symm,hx⟩
  ·obtain⟨rfl,h3⟩:=beh6p k1 hx
   obtain⟨rfl,rfl,h6⟩:=beh1 k2 hy
   rcases h3 with⟨rfl,h3⟩|h3
   ·exact idleX rfl rfl h3
   ·rcases h6 with h6|⟨b,⟨t,p,⟨ty,hop⟩,hb⟩,h6⟩
    ·exact idleY rfl rfl h6
    ·exact⟨H,_,h6 _ _ (h3 b (hB ty t b p hop hb) (hs t b p hb)).symm,hx⟩
 ·obtain⟨rfl,rfl,h3⟩:=beh7 k1 hx
  obtain⟨rfl,rfl,h6⟩:=beh1 k2 hy
  exact⟨_,_,hy,hx⟩
 ·obtain⟨rfl,rfl,h3⟩:=beh7 k1 hx
  obtain⟨rfl,h6⟩:=beh2 k2 hy
  rcases h3 with h3|⟨b,⟨t,ht⟩,h3⟩
  ·exact idleX rfl rfl h3
  ·rcases h6 with⟨rfl,h6⟩|⟨k,rfl,h6⟩
   ·exact idleY rfl rfl h6
   ·exact⟨_,_,hy,h3 _ _ (vt (hcl.1 t _ ht b (by simp[idsV,idsC])))⟩
 ·obtain⟨rfl,rfl,h3⟩:=beh7 k1 hx
  obtain⟨rfl,rfl,h6⟩:=beh7 k2 hy
  exact⟨_,_,hy,hx⟩
 ·obtain⟨rfl,rfl,h3⟩:=beh1 k1 hx
  obtain⟨rfl,rfl,h6⟩:=beh7 k2 hy
  exact⟨_,_,hy,hx⟩
 ·obtain⟨rfl,h3⟩:=beh2 k1 hx
  obtain⟨rfl,rfl,h6⟩:=beh7 k2 hy
  rcases h3 with⟨rfl,h3⟩|⟨k,rfl,h3⟩
  ·exact idleX rfl rfl h3
  ·rcases h6 with h6|⟨b,⟨t,ht⟩,h6⟩
   ·exact idleY rfl rfl h6
   ·exact⟨H,_,h6 _ _ (vt (hcl.1 t _ ht b (by simp[idsV,idsC]))).symm,hx⟩
theorem xej(l:Tm){x y:Option Tmp}(v u:V)(h : ∀d,x=some d->y≠some d):putT (putT l x v) y u=putT (putT l y u) x v:=by
 cases x with
 | none=>cases y<;>rfl
 | some d=>
  cases y with
  | none=>rfl
  | some e=>
   have hne:d≠e:=fun he=>h d rfl (by rw[he])
   simp only[putT,setT]
   rw[blt_eq,blt_eq]
   by_cases h1:d<l.n<;>by_cases h2:e<l.n<;>simp only[h1,h2,decide_true,decide_false,cond_true,cond_false,blt_eq]
   rw[Xa 9 _ _ _ _ _ hne]
end
end Lx
namespace Lx
open Go
/-! ### what lies ahead of what -/
def jy(acc:Array Nat)(o:Oper):Nat:=o.after.foldl (fun s e=>if Region.binds .any e then s ||| 2 ^ e.on ||| acc.getD e.on 0 else s) 0
theorem xa6(acc:Array Nat)(d:Nat) : ∀ (l:List Edge) (m:Nat),(l.foldl (fun s e=>if Region.binds .any e then s ||| 2 ^ e.on ||| acc.getD e.on 0 else s) m).testBit d=true->m.testBit d=true\/ ∃e∈l,Region.binds .any e=true/\(e.on=d\/(acc.getD e.on 0).testBit d=true)
 | [],m,h =>.inl h
 | e::l,m,h=>by
  rw[List.foldl_cons]at h
  rcases xa6 acc d l _ h with h|⟨e',h1,h2⟩
  ·by_cases hb:Region.binds .any e=true
   ·rw[if_pos hb]at h
    simp only[Nat.testBit_or,Bool.or_eq_true,Nat.testBit_two_pow,decide_eq_true_eq]at h
    rcases h with(h|h)|h
    ·exact .inl h
    ·exact .inr ⟨e,by simp,hb,.inl h⟩
    ·exact .inr ⟨e,by simp,hb,.inr h⟩
   ·rw[if_neg hb]at h
    exact .inl h
  ·exact .inr ⟨e',by simp[h1],h2⟩
theorem XP : ∀ (l p:List Oper) (acc:Array Nat),acc.size=p.length->(∀ (i:Nat) o d,p[i]? = some o->(acc.getD i 0).testBit d=true ->∃e∈o.after.toList,Region.binds .any e=true/\(e.on=d\/(acc.getD e.on 0).testBit d=true))->
  ∀ (i:Nat) o d,(p++l)[i]? = some o->((l.foldl (fun acc o=>acc.push (jy acc o)) acc).getD i 0).testBit d=true->
   ∃e∈o.after.toList,Region.binds .any e=true/\(e.on=d\/((l.foldl (fun acc o=>acc.push (jy acc o)) acc).getD e.on 0).testBit d=true)
 | [],p,acc,hs,h,i,o,d,hi,hb=>h i o d (by simpa using hi) hb
 | x::l,p,acc,hs,h,i,o,d,hi,hb=>by
  rw[List.foldl_cons]at hb |-
  refine XP l (p ++ [x]) (acc.push (jy acc x)) (by simp[hs]) (fun i o d hi hb =>?_) i o d (by simpa using hi) hb
  have old : ∀j,j<acc.size->(acc.push (jy acc x)).getD j 0=acc.getD j 0:=by
   intro j hj
   simp only[Array.getD_eq_getD_getElem?,Array.getElem?_push,if_neg (Nat.ne_of_lt hj)]
  have keep : ∀j d,(acc.getD j 0).testBit d=true->((acc.push (jy acc x)).getD j 0).testBit d=true:=by
   intro j d hj
   by_cases hlt:j<acc.size
   ·rw[old j hlt];exact hj
   ·rw[Array.getD_eq_getD_getElem?,Array.getElem?_eq_none (by omega)]at hj
    simp at hj
  by_cases hlt:i<p.length
  ·rw[List.getElem?_append_left hlt]at hi
   rw[old i (by omega)]at hb
   obtain⟨e,h1,h2,h3⟩:=h i o d hi hb
   exact⟨e,h1,h2,h3.imp id (keep _ _)⟩
  ·have hi':i=p.length:=by
    have:=(List.getElem?_eq_some_iff.1 hi).1
    simp at this
    omega
   subst hi'
   simp at hi
   subst hi
   have e1:(acc.push (jy acc x)).getD p.length 0=jy acc x:=by
    rw[<- hs]
    simp[Array.getD_eq_getD_getElem?]
   rw[e1]at hb
   unfold jy at hb
   rw[<- Array.foldl_toList]at hb
   rcases xa6 acc d _ _ hb with hb|⟨e,h1,h2,h3⟩
   ·simp at hb
   ·exact⟨e,h1,h2,h3.imp id (keep _ _)⟩
theorem XQ(ops:Array Oper)(i:Nat)(o:Oper)(d:Nat)(hi:ops[i]? = some o)(hb:((Region.before ops).getD i 0).testBit d=true) :
  ∃e∈o.after.toList,Region.binds .any e=true/\(e.on=d\/((Region.before ops).getD e.on 0).testBit d=true):=by
 have e1:Region.before ops=ops.toList.foldl (fun acc o=>acc.push (jy acc o)) #[]:=by
  unfold Region.before
  rw[<- Array.foldl_toList]
  rfl
 rw[e1]at hb |-
 exact XP ops.toList [] #[] rfl (fun i o d h=>by simp at h) i o d (by simpa using hi) hb
theorem kB{ops:Array Oper}{S:Nat->Prop}(hS : ∀ (j:Nat) o,S j->ops[j]? = some o ->∀e∈o.after.toList,Region.binds .any e=true->S e.on)
  (hdec : ∀ (j:Nat) o,ops[j]? = some o ->∀e∈o.after.toList,Region.binds .any e=true->e.on<j) : ∀ (n i:Nat) o,i<=n->ops[i]? = some o->(∀e∈o.after.toList,Region.binds .any e=true->S e.on) ->∀d,¬S d->((Region.before ops).getD i 0).testBit d=false
 | 0,i,o,hn,hi,hr,d,hd=>by
  obtain rfl:i=0:=by omega
  cases hb:((Region.before ops).getD 0 0).testBit d with
  | false=>rfl
  | true=>
   obtain⟨e,h1,h2,_⟩:=XQ ops 0 o d hi hb
   exact absurd (hdec 0 o hi e h1 h2) (by omega)
 | n+1,i,o,hn,hi,hr,d,hd=>by
  cases hb:((Region.before ops).getD i 0).testBit d with
  | false=>rfl
  | true=>
   obtain⟨e,h1,h2,h3⟩:=XQ ops i o d hi hb
   have hlt:=hdec i o hi e h1 h2
   have hSe:=hr e h1 h2
   rcases h3 with h3|h3
   ·exact absurd (h3▸hSe) hd
   ·have hlt':e.on<ops.size:=by have:=(Array.getElem?_eq_some_iff.1 hi).1;omega
    have hoe:=Array.getElem?_eq_getElem hlt'
    rw[kB hS hdec n e.on _ (by omega) hoe (fun e' h4 h5=>hS e.on _ hSe hoe e' h4 h5) d hd]at h3
    cases h3
theorem xek{ops:Array Oper}(hdec : ∀ (j:Nat) o,ops[j]? = some o ->∀e∈o.after.toList,Region.binds .any e=true->e.on<j) : ∀ (n i d:Nat),i<=n->i<=d->i<ops.size->((Region.before ops).getD i 0).testBit d=false
 | n,i,d,hn,hd,hi=>kB (S:=fun j=>j<i) (fun j o hj ho e h1 h2=>by have:=hdec j o ho e h1 h2;omega) hdec i i _ (Nat.le_refl _) (Array.getElem?_eq_getElem hi) (fun e h1 h2=>hdec i _ (Array.getElem?_eq_getElem hi) e h1 h2) d (by omega)
section
variable{P:Program}{σ:Type}{I:PortR P σ}{Γ:yc}{S0:Bool->Nat->Prop}{w0:World}{e0:Env}{ops:Array Oper}{β:Type}{k:St->T β}{b:Array Nat}{D:List Nat}
def valD(Γ:yc)(I:PortR P σ)(ops:Array Oper)(b:Array Nat)(D:List Nat)(A:List (Nat×Nat))(i:Nat)(o:Oper)(tmps:Tm)(H:Heap)(s:σ):Option (V×Heap×σ):=match offD ops b A i o tmps with
 | true=>valO Γ I ops (we ops b D A i) o tmps H s
 | false=>none
theorem vO{A:List (Nat×Nat)}{i:Nat}{o:Oper}{l:List Nat}{tmps:Tm}{H:Heap}{s:σ}(ho:ops[i]? = some o):(yD P Γ ops b D A (i::l) ⟨tmps,H⟩ k).run I.step s=match valD Γ I ops b D A i o tmps H s with
  | some r=>(yD P Γ ops b D A l ⟨putT tmps o.dst r.1,r.2.1⟩ k).run I.step r.2.2
  | none=>none:=by
 simp only[yD,ho,valD]
 cases offD ops b A i o tmps with
 | false=>rfl
 | true=>
  simp only
  rw[jZ,T.run_bind,jv]
  cases valO Γ I ops (we ops b D A i) o tmps H s<;>rfl
theorem KQ{A:List (Nat×Nat)}{i:Nat}{o:Oper}{tmps:Tm}{H:Heap}{s:σ}{r:V×Heap×σ}(h:valD Γ I ops b D A i o tmps H s=some r):offD ops b A i o tmps=true/\valO Γ I ops (we ops b D A i) o tmps H s=some r:=by
 unfold valD at h
 split at h
 ·exact⟨‹_›,h⟩
 ·cases h
theorem KR{A:List (Nat×Nat)}{i:Nat}{o:Oper}{tmps:Tm}{H:Heap}{s:σ}(h:offD ops b A i o tmps=true):valD Γ I ops b D A i o tmps H s=valO Γ I ops (we ops b D A i) o tmps H s:=by
 unfold valD
 rw[h]
theorem xa7{o:Oper}{tmps:Tm}{dst:Option Tmp}{v:V}(h : ∀d,dst=some d->d∉o.looksAt ops):Zp o.op (putT tmps dst v)=Zp o.op tmps:=by
 cases dst with
 | none=>rfl
 | some d=>
  have hd:=h d rfl
  unfold Zp
  split
  ·rename_i ty q w hop
   have hne:q≠d:=by
    rintro rfl
    refine hd ?_
    simp only[Oper.looksAt,List.mem_append,List.mem_filterMap]
    exact .inl ⟨.tmp q,by rw[hop];simp[Op.operands],rfl⟩
   simp only[putT]
   rw[yE _ _ hne]
  ·rfl
theorem xff{A:List (Nat×Nat)}{i:Nat}{o:Oper}{tmps:Tm}{dst:Option Tmp}{v:V}(h : ∀d,dst=some d->d∉o.looksAt ops):offD ops b A i o (putT tmps dst v)=offD ops b A i o tmps:=by
 unfold offD
 rw[xa7 h]
theorem xa8{A:List (Nat×Nat)}{i:Nat}{o:Oper}{tmps:Tm}{dst:Option Tmp}{v:V}{H:Heap}{s:σ}(h : ∀d,dst=some d->d∉o.looksAt ops):valD Γ I ops b D A i o (putT tmps dst v) H s=valD Γ I ops b D A i o tmps H s:=by
 unfold valD
 rw[xff h,ZC h]
theorem xel{A:List (Nat×Nat)}{i:Nat}{o:Oper}{tmps:Tm}(h:xj o.op≠5):offD ops b A i o tmps=true:=by
 unfold offD
 simp[h]
def Alive(I:PortR P σ)(st:St)(s:σ):Prop :=∃S0 w0 e0 e F a w,Cfg I S0 w0 e0 e st s F a w
theorem xem{o:Oper}{K:Act->World->Prop}{a:Act}{w:World}(h:jY P ops (fun _ _ _=>False) o K a w) : ∃a' w',K a' w':=by
  unfold jY at h
  split at h
  . unfold Oper.wp at h
    generalize(execOp a.eval o).run P w=r at h
    cases r with
    | ok n w'=>
      cases n<;>simp only[Oper.upon]at h<;>first
        | exact⟨_,_,h⟩
        | (obtain⟨en,w'',fr,hR,_⟩:=h []
           cases en<;>simp only at hR<;>first
            | exact⟨_,_,hR⟩
            | exact hR.elim
            | (obtain⟨_,_,h⟩:=hR;exact h.elim))
        | (obtain⟨v,w'',hR,_⟩:=h default [];exact⟨_,_,hR⟩)
        | exact h.elim
    | halt x w'=>cases x<;>simp only[Oper.upon]at h
  . exact⟨_,_,h⟩
theorem Alive.next{I:Port P σ}(hΓ : ∀f m,Γ f=some m->Ze I f m){pu:PM}{o:Oper}{tmps:Tm}{H:Heap}{s:σ}{r:V×Heap×σ}(h:Alive I.toPortR ⟨tmps,H⟩ s)(hv:valO Γ I.toPortR ops pu o tmps H s=some r):Alive I.toPortR ⟨putT tmps o.dst r.1,r.2.1⟩ r.2.2:=by
 obtain⟨S0,w0,e0,e,F,a,w,C⟩:=h
 have hrun:(ye P Γ ops pu o ⟨tmps,H⟩ T.ret).run I.step s=some ((⟨putT tmps o.dst r.1,r.2.1⟩:St),r.2.2):=by rw[jv,hv];rfl
 obtain⟨st',s',h1,_,h3⟩:=KN hΓ C hrun
 simp only[T.run,oI,Prod.mk.injEq]at h1
 obtain⟨rfl,rfl⟩:=h1
 obtain⟨a',w',e',F',C'⟩:=xem (h3 (fun a' w' =>∃e' F',Cfg I.toPortR S0 w0 e0 e' ⟨putT tmps o.dst r.1,r.2.1⟩ r.2.2 F' a' w') _ fun e' F' a' w' C'=>⟨e',F',C'⟩)
 exact⟨S0,w0,e0,e',F',a',w',C'⟩
mutual
theorem ZE{pv:Value}{e:Env} : ∀ (c:C) (v:Value),den pv e c=some v ->∀b∈idsC c,b<e.length
 | .bool _,v,h,b,hb | .int _ _,v,h,b,hb | .nilp,v,h,b,hb | .str _,v,h,b,hb | .gp _ _,v,h,b,hb | .nils,v,h,b,hb | .nilf,v,h,b,hb | .nili,v,h,b,hb | .nilm,v,h,b,hb | .port,v,h,b,hb=>by simp[idsC]at hb
 | .ptr c o,v,h,b,hb=>by
  simp only[idsC,List.mem_singleton]at hb;subst hb
  simp only[den,oM]at h;obtain⟨r,h1,_⟩:=h
  exact(List.getElem?_eq_some_iff.1 h1).1
 | .sl c o n m,v,h,b,hb=>by
  simp only[idsC,List.mem_singleton]at hb;subst hb
  simp only[den,oM]at h;obtain⟨r,h1,_⟩:=h
  exact(List.getElem?_eq_some_iff.1 h1).1
 | .slg c o n,v,h,b,hb=>by
  simp only[idsC,List.mem_singleton]at hb;subst hb
  simp only[den,Option.bind_eq_some_iff]at h;obtain⟨r,h1,_⟩:=h
  exact(List.getElem?_eq_some_iff.1 h1).1
 | .pr c o i n f,v,h,b,hb=>by
  simp only[idsC,List.mem_singleton]at hb;subst hb
  simp only[den,oM]at h;obtain⟨r,h1,_⟩:=h
  exact(List.getElem?_eq_some_iff.1 h1).1
 | .slw c o z n m,v,h,b,hb=>by
  simp only[idsC,List.mem_singleton]at hb;subst hb
  simp only[den,oM]at h;obtain⟨r,h1,_⟩:=h
  exact(List.getElem?_eq_some_iff.1 h1).1
 | .slr c n,v,h,b,hb=>by
  simp only[idsC,List.mem_singleton]at hb;subst hb
  simp only[den,Option.bind_eq_some_iff]at h;obtain⟨r,h1,_⟩:=h
  exact(List.getElem?_eq_some_iff.1 h1).1
 | .slv c z o n,v,h,b,hb=>by
  simp only[idsC,List.mem_singleton]at hb;subst hb
  simp only[den,Option.bind_eq_some_iff]at h;obtain⟨r,h1,_⟩:=h
  exact(List.getElem?_eq_some_iff.1 h1).1
 | .slx c o d a n m,v,h,b,hb=>by
  simp only[idsC,List.mem_singleton]at hb;subst hb
  simp only[den,Option.bind_eq_some_iff]at h;obtain⟨r,h1,_⟩:=h
  exact(List.getElem?_eq_some_iff.1 h1).1
 | .mp c,v,h,b,hb=>by
  simp only[idsC,List.mem_singleton]at hb;subst hb
  simp only[den,oM]at h;obtain⟨r,h1,_⟩:=h
  exact(List.getElem?_eq_some_iff.1 h1).1
 | .fn f caps,v,h,b,hb=>by
  simp only[den,oM]at h;obtain⟨vs,h1,_⟩:=h
  exact jd caps vs h1 b (by simpa[idsC]using hb)
 | .meth s c,v,h,b,hb=>by
  simp only[den,oM]at h;obtain⟨u,h1,_⟩:=h
  exact ZE c u h1 b (by simpa[idsC]using hb)
 | .ifc t c,v,h,b,hb=>by
  simp only[den,oM]at h;obtain⟨u,h1,_⟩:=h
  exact ZE c u h1 b (by simpa[idsC]using hb)
theorem jd{pv:Value}{e:Env} : ∀ (l:List C) (vs:List Value),denL pv e l=some vs ->∀b∈yR l,b<e.length
 | [],vs,h,b,hb=>by simp[yR]at hb
 | c::l,vs,h,b,hb=>by
  simp only[denL]at h
  split at h
  ·rename_i v hv
   split at h
   ·rename_i us hu
    simp only[yR,List.mem_append]at hb
    rcases hb with hb|hb
    ·exact ZE c v hv b hb
    ·exact jd l us hu b hb
   ·cases h
  ·cases h
end
theorem xen{pv:Value}{e:Env}(x:V1)(v:Value)(h:vo pv e x=some v) : ∀b∈xda x,b<e.length:=by
 cases x with
 | c a=>exact ZE a v h
 | agg l=>simp only[vo,oM]at h;obtain⟨vs,h1,_⟩:=h;exact jd l vs h1
theorem xa9{pv:Value}{e:Env}(x:V)(v:Value)(h:denV pv e x=some v) : ∀b∈idsV x,b<e.length:=by
 cases x with
 | c a=>exact ZE a v h
 | agg l=>simp only[denV,oM]at h;obtain⟨vs,h1,_⟩:=h;exact jd l vs h1
 | tup l=>
  simp only[denV,oM]at h
  obtain⟨vs,h1,_⟩:=h
  intro b hb
  simp only[idsV,List.mem_flatMap]at hb
  obtain⟨y,hy,hb⟩:=hb
  obtain⟨i,hi⟩:=List.getElem?_of_mem hy
  obtain⟨z,h2,_⟩:=yw _ _ _ h1 i y hi
  exact xen y z h2 b hb
theorem Alive.ptr{tmps:Tm}{H:Heap}{s:σ}(h:Alive I ⟨tmps,H⟩ s) : ∀t b (p:Nat),ptrB (getT tmps t)=some b->b<H.length:=by
 obtain⟨S0,w0,e0,e,F,a,w,C⟩:=h
 intro t b p hb
 have hl:=C.rel.emb.len
 simp only at hl
 have main : ∀v,getT tmps t=some v->b∈idsV v->b<H.length:=by
  intro v hv hm
  obtain⟨rv,_,h2⟩:=C.rel.tmps t v hv
  rw[hl];exact xa9 v rv h2 b hm
 unfold ptrB at hb
 split at hb
 ·rename_i c o hv;cases hb;exact main _ hv (by simp[idsV,idsC])
 ·rename_i c o i n f hv;cases hb;exact main _ hv (by simp[idsV,idsC])
 ·cases hb
theorem Alive.closed{tmps:Tm}{H:Heap}{s:σ}(h:Alive I ⟨tmps,H⟩ s):Closed tmps H:=by
 obtain⟨S0,w0,e0,e,F,a,w,C⟩:=h
 have hl:=C.rel.emb.len
 simp only at hl
 refine⟨fun t v hv b hb =>?_,fun i k hk b hb =>?_⟩
 ·obtain⟨rv,_,h2⟩:=C.rel.tmps t v hv
  rw[hl];exact xa9 v rv h2 b hb
 ·obtain⟨r,cs,_,hd,_⟩:=C.rel.emb.lies i k hk
  have hok:=C.rel.emb.ok i k hk
  cases ht:k.tab with
  | none=>
   rw[Blk.real_none ht]at hd
   rw[hl];exact jd k.cells cs hd b hb
  | some t=>
   cases hq:t.isTok with
   | false=>rw[hok t ht hq]at hb;simp[yR]at hb
   | true=>
    cases t<;>first|cases hq|skip
    rw[Blk.real_tok ht]at hd
    rw[hl];exact jd k.cells cs hd b hb
def Off(ops:Array Oper)(A:List (Nat×Nat))(pu:PM)(y:Oper):Prop:=pu = .pure\/(∃q B,xj y.op=1/\yj ops y.op=some q/\(pu = .avoid B\/pu = .keep B)/\ ∀c,(q,c)∈A->c∈B)\/(xj y.op=2/\ ∃B,pu = .keep B)
def Diff(ops:Array Oper)(b:Array Nat)(A:List (Nat×Nat))(j:Nat)(x y:Oper):Prop :=∃q,yj ops x.op=some q/\((∃q',yj ops y.op=some q'/\ ∀c c',(q,c)∈A->(q',c')∈A->c≠c')\/(yj ops y.op=none/\q∈besides ops b j))
def OffP(ops:Array Oper)(A:List (Nat×Nat))(pu:PM)(y:Oper):Prop:=pu = .fresh\/ ∃q B,yj ops y.op=some q/\pu = .part B/\ ∀c,(q,c)∈A->c∈B
def xdk(ops:Array Oper)(b:Array Nat)(D:List Nat)(A:List (Nat×Nat))(i j:Nat):Prop :=∃x y,ops[i]? = some x/\ops[j]? = some y/\qZ ops x y=true/\
 (xj x.op=3->(xj y.op=1\/xj y.op=2)->Off ops A (we ops b D A i) y)/\
 (xj y.op=3->(xj x.op=1\/xj x.op=2)->Off ops A (we ops b D A j) x)/\
 (xj x.op=1->xj y.op=5->Diff ops b A j x y)/\
 (xj x.op=6->xj y.op=1->OffP ops A (we ops b D A i) y)/\(xj y.op=6->xj x.op=1->OffP ops A (we ops b D A j) x)
def HeldA(ops:Array Oper)(A:List (Nat×Nat))(tmps:Tm):Prop :=∀ (i:Nat) o q l c,ops[i]? = some o->yj ops o.op=some q->wd ops 6 q=some l->c∈l ->∀b,blkB (getT tmps c)=some b->(q,b)∈A
theorem blkB_of{v:Option V}{b:Nat}(h:ptrB v=some b):blkB v=some b:=by
 unfold ptrB at h
 split at h
 ·cases h;rfl
 ·cases h;rfl
 ·cases h
theorem Wg{ops:Array Oper} : ∀ (n q:Nat) (l:List Nat),wd ops n q=some l->q∈l
 | 0,q,l,h=>by cases h
 | n+1,q,l,h=>by
  unfold wd at h
  split at h
  ·cases h;simp
  ·split at h
   ·simp only[oM]at h;obtain⟨l',_,rfl⟩:=h;simp
   ·simp only[oM]at h;obtain⟨l',_,rfl⟩:=h;simp
   ·simp only[oM]at h;obtain⟨l',_,rfl⟩:=h;simp
   ·simp only[oM]at h;obtain⟨l',_,rfl⟩:=h;simp
   ·cases h
  ·cases h
def Wh(o:Op)(x:Nat):Prop:=(∃t f,o = .fieldAddr t (.tmp x) f)\/(∃t ix,o = .indexAddr t (.tmp x) ix)\/o = .move (.tmp x)\/o = .nilCheck (.tmp x)
theorem Wj{ops:Array Oper}{j:Nat}{o:Oper}{c:Nat}(ho:ops[j]? = some o)(hd:o.dst=some c) : ∀ (n q:Nat) (l:List Nat),wd ops n q=some l->c∈l ->∃x∈l,Wh o.op x
 | 0,q,l,h,hc=>by cases h
 | n+1,q,l,h,hc=>by
  have hmem:c=q->o∈ops.toList.filter fun o=>o.dst==some q:=by
   rintro rfl
   rw[List.mem_filter]
   exact⟨by rw[Array.mem_toList_iff];exact Array.mem_of_getElem? ho,by simp[hd]⟩
  unfold wd at h
  split at h
  ·rename_i hf
   cases h
   simp only[List.mem_singleton]at hc
   have:=hmem hc
   rw[hf]at this
   cases this
  ·rename_i o' hf
   have main : ∀x,(wd ops n x).map (fun l=>q::l)=some l->(o=o'->Wh o.op x) ->∃x∈l,Wh o.op x:=by
    intro x hm hop
    simp only[oM]at hm
    obtain⟨l',h1,rfl⟩:=hm
    rcases List.mem_cons.1 hc with hq|hc'
    ·have:=hmem hq
     rw[hf,List.mem_singleton]at this
     exact⟨x,List.mem_cons_of_mem _ (Wg n x l' h1),hop this⟩
    ·obtain⟨y,h2,h3⟩:=Wj ho hd n x l' h1 hc'
     exact⟨y,List.mem_cons_of_mem _ h2,h3⟩
   split at h
   ·rename_i t x f hop
    exact main x h fun he =>.inl ⟨t,f,by rw[he,hop]⟩
   ·rename_i t x ix hop
    exact main x h fun he =>.inr (.inl ⟨t,ix,by rw[he,hop]⟩)
   ·rename_i x hop
    exact main x h fun he =>.inr (.inr (.inl (by rw[he,hop])))
   ·rename_i x hop
    exact main x h fun he =>.inr (.inr (.inr (by rw[he,hop])))
   ·cases h
  ·cases h
theorem ev_root{P:Program}{o:Op}{x:Nat}{tmps:Tm}{H:Heap}{q:Stp}(ho:Wh o x)(h:evStep P o (xW tmps) H=some q) :
    ∃g v,q = .val g v H/\ ∀b,blkB (some v)=some b->blkB (getT tmps x)=some b:=by
  rcases ho with⟨t,f,rfl⟩|⟨t,ix,rfl⟩|rfl|rfl
  rotate_right 2
  . simp only[evStep,oM]at h
    obtain⟨v,h1,rfl⟩:=h
    refine⟨_,_,rfl,fun b hb =>?_⟩
    have e1:xW tmps (.tmp x)=getT tmps x:=rfl
    rw[<- e1,h1];exact hb
  . have e1:xW tmps (.tmp x)=getT tmps x:=rfl
    simp only[evStep,e1]at h
    split at h
    . cases h;exact⟨_,_,rfl,fun b hb=>by cases hb⟩
    . cases h;exact⟨_,_,rfl,fun b hb=>by cases hb⟩
    . cases h;exact⟨_,_,rfl,fun b hb=>by cases hb⟩
    . split at h
      . split at h
        . cases h;exact⟨_,_,rfl,fun b hb=>by cases hb⟩
        . cases h
      . split at h
        . cases h;exact⟨_,_,rfl,fun b hb=>by cases hb⟩
        . cases h
      . cases h
    . rename_i v _ _ _ _ hx
      cases h
      exact⟨_,_,rfl,fun b hb=>by rw[hx];exact hb⟩
    . cases h
  . simp only[evStep,xW]at h
    split at h
    . rename_i fs b o _ hx
      split at h
      . split at h
        . split at h
          . cases h
          . cases h
            refine⟨_,_,rfl,fun b' hb =>?_⟩
            rw[hx];exact hb
        . cases h
      . cases h
    . rename_i fs b off i m o _ hx
      split at h
      . split at h
        . split at h
          . cases h
          . cases h
            refine⟨_,_,rfl,fun b' hb =>?_⟩
            rw[hx];exact hb
        . cases h
      . cases h
    . cases h
  . simp only[evStep]at h
    have e1:xW tmps (.tmp x)=getT tmps x:=rfl
    rw[e1]at h
    split at h
    all_goals first
      | cases h;done
      | (rename_i hx _
         simp only[oM]at h
         obtain⟨n,_,rfl⟩:=h
         refine⟨_,_,rfl,fun b' hb =>?_⟩
         rw[hx];exact hb)
      | (rename_i hx _
         split at h
         . cases h
           refine⟨_,_,rfl,fun b' hb =>?_⟩
           rw[hx];exact hb
         . cases h)
theorem xfg{pu:PM}{o:Oper}{x:Nat}{tmps:Tm}{H:Heap}{s:σ}{r:V×Heap×σ}(ho:Wh o.op x)(h:valO Γ I ops pu o tmps H s=some r) :
  ∀b,blkB (some r.1)=some b->blkB (getT tmps x)=some b:=by
 have main:yP Γ I pu H s (evStep P o.op (xW tmps) H)=some r ->∀b,blkB (some r.1)=some b->blkB (getT tmps x)=some b:=by
  intro h
  cases hq:evStep P o.op (xW tmps) H with
  | none=>rw[hq]at h;cases h
  | some q=>
   obtain⟨g,v,rfl,hv⟩:=ev_root ho hq
   rw[hq]at h
   simp only[yP]at h
   split at h
   ·cases h;exact hv
   ·cases h
 unfold valO at h
 split at h
 ·exact main h
 ·split at h
  ·cases h
  ·split at h
   ·split at h
    ·exact main h
    ·cases h;intro b hb;cases hb
   ·cases h;intro b hb;cases hb
   ·cases h
theorem HeldA.ptr{A:List (Nat×Nat)}{tmps:Tm}(h:HeldA ops A tmps){i:Nat}{x:Oper}{q b:Nat}(hx:ops[i]? = some x)(hq:yj ops x.op=some q)(hb:ptrB (getT tmps q)=some b):(q,b)∈A:=by
 have hs:(wd ops 6 q).isSome=true:=by
  unfold yj at hq
  split at hq
  ·split at hq
   ·rename_i hh;cases hq;exact hh
   ·cases hq
  ·split at hq
   ·rename_i hh;cases hq;exact hh
   ·cases hq
  ·cases hq
 obtain⟨l,hl⟩:=Option.isSome_iff_exists.1 hs
 exact h i x q l q hx hq hl (Wg _ _ _ hl) b (blkB_of hb)
theorem wK{o:Op}{q:Nat}(h:yj ops o=some q):(∃ty,o = .load ty (.tmp q))\/ ∃ty x,o = .store ty (.tmp q) x:=by
 unfold yj at h
 split at h
 ·rename_i ty q'
  split at h
  ·cases h
   exact .inl ⟨ty,rfl⟩
  ·cases h
 ·rename_i ty q' x
  split at h
  ·cases h
   exact .inr ⟨ty,x,rfl⟩
  ·cases h
 ·cases h
theorem HeldA.put{A:List (Nat×Nat)}{tmps:Tm}(h:HeldA ops A tmps){j:Nat}{o:Oper}{pu:PM}{H:Heap}{s:σ}{r:V×Heap×σ}(ho:ops[j]? = some o)(hv:valO Γ I ops pu o tmps H s=some r):HeldA ops A (putT tmps o.dst r.1):=by
 intro i x q l c hx hq hl hc b hb
 cases hd:o.dst with
 | none=>rw[hd]at hb;exact h i x q l c hx hq hl hc b hb
 | some d=>
  rw[hd]at hb
  simp only[putT]at hb
  by_cases hcd:c=d
  ·subst hcd
   obtain⟨y,hy,hop⟩:=Wj ho hd 6 q l hl hc
   cases hg:getT (setT tmps c r.1) c with
   | none=>rw[hg]at hb;cases hb
   | some u=>
    obtain⟨_,rfl⟩:=wU hg
    rw[hg]at hb
    exact h i x q l y hx hq hl hy b (xfg hop hv b hb)
  ·rw[yE _ _ hcd]at hb
   exact h i x q l c hx hq hl hc b hb
theorem HeldA.avoids{A:List (Nat×Nat)}{tmps:Tm}(h:HeldA ops A tmps){i:Nat}{x:Oper}(hx:ops[i]? = some x){pu:PM}(hp:Off ops A pu x):pu = .pure\/xcj tmps pu x\/(xj x.op=2/\ ∃B,pu = .keep B):=by
 rcases hp with hp|⟨q,B,h1,h2,h3,h4⟩|hp
 ·exact .inl hp
 ·refine .inr (.inl ⟨h1,B,h3,fun ty t b p hop hg=>h4 b ?_⟩)
  obtain⟨ty',h5⟩|⟨ty',y',h5⟩:=wK h2
  ·rw[h5]at hop
   cases hop
   exact h.ptr hx h2 hg
  ·rw[h5]at hop;cases hop
 ·exact .inr (.inr hp)
theorem HeldA.parts{A:List (Nat×Nat)}{tmps:Tm}(h:HeldA ops A tmps){i:Nat}{x:Oper}(hx:ops[i]? = some x){pu:PM}(hp:OffP ops A pu x):pu = .fresh\/Parts tmps pu x:=by
 rcases hp with hp|⟨q,B,h2,h3,h4⟩
 ·exact .inl hp
 ·refine .inr ⟨B,h3,fun ty t b p hop hg=>h4 b ?_⟩
  obtain⟨ty',h5⟩|⟨ty',y',h5⟩:=wK h2
  ·rw[h5]at hop
   cases hop
   exact h.ptr hx h2 hg
  ·rw[h5]at hop;cases hop
theorem HeldA.diff{A:List (Nat×Nat)}{tmps:Tm}(h:HeldA ops A tmps){i j:Nat}{x y:Oper}(hx:ops[i]? = some x)(hy:ops[j]? = some y)(hoff:offD ops b A j y tmps=true)(hd:xj x.op=1->xj y.op=5->Diff ops b A j x y) :
  xj x.op=1->xj y.op=5 ->∀tx t tz z q b (p:Nat) c,x.op = .load tx (.tmp t)->y.op = .store tz (.tmp z) q->ptrB (getT tmps t)=some b->ptrB (getT tmps z)=some c->b≠c:=by
 intro k1 k5 tx t tz z w b0 p c hox hoy hb hc
 obtain⟨q,h1,⟨q',h2,h3⟩|⟨hn,hb5⟩⟩:=hd k1 k5
 rotate_left
 ·obtain⟨ty,h5⟩|⟨ty,u,h5⟩:=wK h1
  ·rw[h5]at hox;cases hox
   have hm:=h.ptr hx h1 hb
   have hst:Zp y.op tmps=some c:=by rw[hoy];exact hc
   unfold offD at hoff
   rw[hst,hn]at hoff
   simp only[k5,beq_self_eq_true,Bool.not_true,Option.isSome_none,Bool.or_self,Bool.false_or,List.all_eq_true]at hoff
   have h7:=hoff _ hm
   have h8:(besides ops b j).contains t=true:=by simpa using hb5
   simp only[h8,Bool.not_true,Bool.false_or,bne_iff_ne,ne_eq]at h7
   exact h7
  ·rw[h5]at hox;cases hox
 obtain⟨ty,h5⟩|⟨ty,u,h5⟩:=wK h1
 ·rw[h5]at hox;cases hox
  obtain⟨ty',h6⟩|⟨ty',u,h6⟩:=wK h2
  ·rw[h6]at hoy;cases hoy
  ·rw[h6]at hoy;cases hoy
   exact h3 b0 c (h.ptr hx h1 hb) (h.ptr hy h2 hc)
 ·rw[h5]at hox;cases hox
theorem vL{ops:Array Oper}{i:Nat}{o:Oper}(h:ops[i]? = some o):(o,i)∈ops.toList.zipIdx:=by
 rw[List.mem_zipIdx_iff_getElem?]
 simpa using h
theorem Zh{ops:Array Oper}(hok:vg ops b D=true) : ∀ (j:Nat) o,ops[j]? = some o ->∀e∈o.after.toList,Region.binds .any e=true->e.on<j:=by
 intro j o ho e he hb
 unfold vg at hok
 simp only[Bool.and_eq_true,List.all_eq_true]at hok
 have h1:=hok.1 (o,j) (vL ho)
 simp only[Array.all_eq_true_iff_forall_mem]at h1
 have h2:=h1 e (by simpa using he)
 simp only[hb,Bool.not_true,Bool.false_or,decide_eq_true_eq]at h2
 exact h2
theorem xba{ops:Array Oper}(hok:vg ops b D=true){i j:Nat}{x y:Oper}(hx:ops[i]? = some x)(hy:ops[j]? = some y)(hij:i<j)(hb:(b.getD j 0).testBit i=false)(hi:i∉D)(hj:j∉D):qZ ops x y=true:=by
 unfold vg at hok
 simp only[Bool.and_eq_true,List.all_eq_true]at hok
 have h1:=hok.2 (y,j) (vL hy) (x,i) (vL hx)
 have c1:D.contains i=false:=by simpa using hi
 have c2:D.contains j=false:=by simpa using hj
 simp only[hij,decide_true,Bool.not_true,Bool.false_or,hb,c1,c2]at h1
 exact h1
theorem xbb{ops:Array Oper}(D:List Nat)(hok:jN ops b=true):vg ops b D=true:=by
 unfold jN at hok
 unfold vg
 simp only[Bool.and_eq_true,List.all_eq_true]at hok |-
 refine⟨hok.1,fun p hp q hq =>?_⟩
 have:=hok.2 p hp q hq
 simp only[Bool.or_eq_true]at this |-
 rcases this with(h|h)|h
 ·exact .inl (.inl (.inl (.inl h)))
 ·exact .inl (.inr h)
 ·exact .inr h
theorem Wk{b:Array Nat}{D:List Nat}{A:List (Nat×Nat)}{i j:Nat}{x y:Oper}(hx:ops[i]? = some x)(hy:ops[j]? = some y)(k6:xj x.op=6)(k1:xj y.op=1)(hne:j≠i)(ho:yZ b j i=false):OffP ops A (we ops b D A i) y:=by
 unfold we
 rw[hx]
 have n3:(xj x.op==3)=false:=by rw[k6];rfl
 have e6:(xj x.op==6)=true:=by rw[k6];rfl
 simp only[n3,e6,Bool.false_eq_true,if_false,if_true]
 split
 ·exact .inl rfl
 ·rename_i hany
  simp only[Bool.not_eq_true,List.any_eq_false]at hany
  have hy':=hany (y,j) (vL hy)
  have hji:(j != i)=true:=by simpa using hne
  simp only[ho,hji,Bool.not_false,Bool.true_and]at hy'
  have held : ∃q,yj ops y.op=some q/\q∈besides ops b i:=by
   cases hq:yj ops y.op with
   | none=>rw[k1,hq]at hy';simp at hy'
   | some q=>
    refine⟨q,rfl,?_⟩
    unfold besides
    rw[List.mem_filterMap]
    refine⟨(y,j),vL hy,?_⟩
    simp[ho,hne,k1,hq]
  obtain⟨q,hq,hmem⟩:=held
  split
  ·rename_i hb;rw[hb]at hmem;cases hmem
  ·rename_i q0 l hb
   refine .inr ⟨q,_,hq,rfl,fun c hc =>?_⟩
   rw[List.mem_map]
   refine⟨(q,c),?_,rfl⟩
   rw[List.mem_filter]
   refine⟨hc,?_⟩
   rw[<- hb]
   simpa using hmem
theorem xdl{b:Array Nat}{D:List Nat}{A:List (Nat×Nat)}{i j:Nat}{x y:Oper}(hx:ops[i]? = some x)(hy:ops[j]? = some y)(k3:xj x.op=3)(k12:xj y.op=1\/xj y.op=2)(hne:j≠i)(ho:yZ b j i=false)(hD:j∉D) :
  Off ops A (we ops b D A i) y:=by
 unfold we
 rw[hx]
 simp only[k3,beq_self_eq_true,if_true]
 split
 ·exact .inl rfl
 ·rename_i hany
  simp only[Bool.not_eq_true,List.any_eq_false]at hany
  have hy':=hany (y,j) (vL hy)
  have hji:(j != i)=true:=by simpa using hne
  simp only[ho,hji,Bool.not_false,Bool.true_and]at hy'
  have held:xj y.op=1 ->∃q,yj ops y.op=some q/\q∈besides ops b i:=by
   intro hk1
   cases hq:yj ops y.op with
   | none=>rw[hk1,hq]at hy';simp at hy'
   | some q=>
    refine⟨q,rfl,?_⟩
    unfold besides
    rw[List.mem_filterMap]
    refine⟨(y,j),vL hy,?_⟩
    simp[ho,hne,hk1,hq]
  split
  ·rcases k12 with hk1|hk2
   ·obtain⟨q,hq,hmem⟩:=held hk1
    refine .inr (.inl ⟨q,_,hk1,hq,.inr rfl,fun c hc =>?_⟩)
    rw[List.mem_map]
    refine⟨(q,c),?_,rfl⟩
    rw[List.mem_filter]
    refine⟨hc,?_⟩
    simpa using hmem
   ·exact .inr (.inr ⟨hk2,_,rfl⟩)
  ·rename_i hno
   simp only[Bool.not_eq_true,List.any_eq_false]at hno
   have hy2:=hno (y,j) (vL hy)
   simp only[ho,hji,Bool.not_false,Bool.true_and]at hy2
   have n2 : ¬xj y.op=2:=fun h2=>by rw[h2]at hy2;simp[hD]at hy2
   have hk1:xj y.op=1:=k12.resolve_right n2
   obtain⟨q,hq,hmem⟩:=held hk1
   split
   ·rename_i hb;rw[hb]at hmem;cases hmem
   ·rename_i q0 l hb
    refine .inr (.inl ⟨q,_,hk1,hq,.inl rfl,fun c hc =>?_⟩)
    rw[List.mem_map]
    refine⟨(q,c),?_,rfl⟩
    rw[List.mem_filter]
    refine⟨hc,?_⟩
    rw[<- hb]
    simpa using hmem
theorem diff_of{b:Array Nat}{A:List (Nat×Nat)}(hd:jq ops b A=true){i j:Nat}{x y:Oper}(hx:ops[i]? = some x)(hy:ops[j]? = some y)(hij:i<j)(hb:(b.getD j 0).testBit i=false)(hbi:(b.getD i 0).testBit j=false) :
  xj x.op=1->xj y.op=5->Diff ops b A j x y:=by
 intro k1 k5
 unfold jq at hd
 simp only[List.all_eq_true]at hd
 have h1:=hd (y,j) (vL hy)
 simp only[k5,beq_self_eq_true,Bool.not_true,Bool.false_or,List.all_eq_true]at h1
 have h2:=h1 (x,i) (vL hx)
 simp only[hij,decide_true,Bool.not_true,Bool.false_or,hb,k1,beq_self_eq_true]at h2
 split at h2
 ·rename_i q q' hq hq'
  refine⟨q,hq,.inl ⟨q',hq',fun c c' hc hc' =>?_⟩⟩
  simp only[List.all_eq_true]at h2
  have h3:=h2 (q,c) hc (q',c') hc'
  simpa using h3
 ·rename_i q hq hq'
  refine⟨q,hq,.inr ⟨hq',?_⟩⟩
  unfold besides
  rw[List.mem_filterMap]
  refine⟨(x,i),vL hx,?_⟩
  have hne:i≠j:=by omega
  have ho:yZ b i j=false:=by simp only[yZ,hb,hbi,Bool.or_self]
  simp[ho,hne,k1,hq]
 ·cases h2
theorem XR(tmps:Tm):HeldA ops (wM ops tmps) tmps:=by
 intro i o q l c hx hq hl hc b hb
 unfold wM
 rw[List.mem_flatMap]
 refine⟨o,by rw[Array.mem_toList_iff];exact Array.mem_of_getElem? hx,?_⟩
 simp only[hq,hl,List.mem_filterMap]
 exact⟨c,hc,by rw[hb]⟩
/-! ### new blocks that are made late: in the world they may stand ahead -/
theorem Zi{o:Oper}(h:newOp P o=true):o.guard=none/\(∃d,o.dst=some d)/\((∃t,o.op = .alloc t)\/ ∃t len ps,o.op = .buildSlice t len ps)/\xj o.op=2:=by
 unfold newOp at h
 split at h
 ·rename_i d hg hd
  refine⟨hg,⟨d,hd⟩,?_⟩
  split at h
  ·rename_i t hop
   exact⟨.inl ⟨t,hop⟩,by rw[hop];rfl⟩
  ·rename_i t len ps hop
   exact⟨.inr ⟨t,len,ps,hop⟩,by rw[hop];rfl⟩
  ·cases h
 ·cases h
structure LateD(P:Program)(ops:Array Oper)(D:List Nat):Prop where
 op : ∀d∈D,∃o,ops[d]? = some o/\newOp P o=true
 dep : ∀d∈D,∀c∈D,((Region.before ops).getD d 0).testBit c=false
 dst : ∀d∈D,∀i o o' dd,i≠d->ops[i]? = some o->ops[d]? = some o'->o'.dst=some dd->o.dst≠some dd
def FitP(ops:Array Oper)(b:Array Nat)(D:List Nat)(A:List (Nat×Nat))(p q:Nat):Prop:=
 (b.getD p 0).testBit q=false/\((b.getD q 0).testBit p=true\/xdk ops b D A p q\/
 (q∈D/\(∃x y,ops[p]? = some x/\ops[q]? = some y/\x.apart ops y=true)/\ ∀i,i<ops.size->(b.getD i 0).testBit q=true->(b.getD i 0).testBit p=true))
theorem FitP.apart{A:List (Nat×Nat)}{p q:Nat}(h:FitP ops b D A p q)(hb:(b.getD q 0).testBit p=false){x y:Oper}(hx:ops[p]? = some x)(hy:ops[q]? = some y):(∀d,x.dst=some d->d∉y.looksAt ops)/\ ∀d,y.dst=some d->d∉x.looksAt ops:=by
 rcases h.2 with h1|⟨x',y',h1,h2,h3,_⟩|⟨_,⟨x',y',h1,h2,h3⟩,_⟩
 ·rw[hb]at h1;cases h1
 ·rw[hx]at h1;rw[hy]at h2;cases h1;cases h2
  simp only[qZ,Bool.and_eq_true]at h3
  exact⟨(Oper.apart_spec h3.2).1,(Oper.apart_spec h3.2).2.2⟩
 ·rw[hx]at h1;rw[hy]at h2;cases h1;cases h2
  exact⟨(Oper.apart_spec h3).1,(Oper.apart_spec h3).2.2⟩
theorem Emb.found{pv:Pv}{e:Env}{H:Heap}{w:World}(E:Emb pv e H w){kb:Blk}{vs:List Value}{x:Nat}(ht:kb.tab=none)(hgn:kb.grown=false)(hd:denL pv e kb.cells=some vs)(cap:Nat)(hx:w.heap[x]? = some (.cells vs.toArray kb.elem (0,0)))(hn : ¬Own false e H x) :
  Emb pv (e ++ [(x,cap)]) (newB H kb) w:=by
 obtain⟨cs,t,g,tb⟩:=kb
 simp only at ht hgn hd hx
 subst ht hgn
 have hxt:Ext e (e ++ [(x,cap)]):=⟨_,rfl⟩
 have hlen:=E.len
 have hsplit : ∀i k,blkAt (newB H ⟨cs,t,false,none⟩) i=some k->(i=H.length/\k=⟨cs,t,false,none⟩)\/(blkAt H i=some k/\i<H.length):=by
  intro i k h
  rw[yq]at h
  split at h
  ·cases h;exact .inl ⟨‹_›,rfl⟩
  ·refine .inr ⟨h,?_⟩
   rw[xz]at h
   by_cases hi:i<H.length
   ·exact hi
   ·rw[List.getElem?_eq_none (by omega)]at h;simp at h
 refine⟨by simp[newB,hlen],fun i k hk =>?_,fun i j k k' r r' hk hk' hr hr' he v1 v2 =>?_,fun i k hk =>?_⟩
 rotate_right
 ·rcases hsplit i k hk with⟨_,rfl⟩|⟨h,_⟩
  ·intro t ht _;cases ht
  ·exact E.ok i k h
 ·rcases hsplit i k hk with⟨rfl,rfl⟩|⟨hk,hi⟩
  ·exact⟨(x,cap),vs,by simp[hlen],yt hxt _ _ hd,Lies.mk (tl :=[]) rfl (by simpa using hx) (fun _=>rfl) (fun h=>by cases h)⟩
  ·obtain⟨r,cs',hr,hd',hw⟩:=E.lies i k hk
   exact⟨r,cs',hxt.get hr,yt hxt _ _ hd',hw⟩
 ·have old : ∀i k r,blkAt H i=some k->k.virt=false->i<H.length->(e ++ [(x,cap)])[i]? = some r->e[i]? = some r/\r.1≠x:=by
   intro i k r hk hv hi hr
   rw[List.getElem?_append_left (by omega)]at hr
   exact⟨hr,fun hh=>hn (hh▸yQ hk hr hv)⟩
  have new : ∀r,(e ++ [(x,cap)])[H.length]? = some r->r.1=x:=by
   intro r hr
   rw[hlen,List.getElem?_append_right (by omega)]at hr
   simp at hr
   simp[<- hr]
  rcases hsplit i k hk with⟨rfl,rfl⟩|⟨hk,hi⟩<;>rcases hsplit j k' hk' with⟨rfl,rfl⟩|⟨hk',hj⟩
  ·exact .inl rfl
  ·exact absurd (he.symm.trans (new r hr)) (old j k' r' hk' v2 hj hr').2
  ·exact absurd (he.trans (new r' hr')) (old i k r hk v1 hi hr).2
  ·exact E.alone i j k k' r r' hk hk' (old i k r hk v1 hi hr).1 (old j k' r' hk' v2 hj hr').1 he v1 v2
theorem Xn{pv:Pv}{e:Env}{H:Heap}{w:World}(E:Emb pv e H w){k:Blk}{cap x y:Nat}{q:Bool}(h:Own q (e ++ [(y,cap)]) (newB H k) x):Own q e H x\/x=y:=by
 obtain⟨i,k',r,h1,h2,h3,hv,h4⟩:=h
 rw[yq]at h1
 split at h1
 ·rename_i hi
  right
  rw[hi,E.len,List.getElem?_append_right (by omega)]at h2
  simp at h2
  rw[<- h3,<- h2]
 ·left
  have:i<H.length:=by
   rw[xz]at h1
   by_cases hi:i<H.length
   ·exact hi
   ·rw[List.getElem?_eq_none (by omega)]at h1;simp at h1
  rw[List.getElem?_append_left (by rw[<- E.len];exact this)]at h2
  exact⟨i,k',r,h1,h2,h3,hv,h4⟩
theorem Emb.unnew{pv:Pv}{e:Env}{H:Heap}{w w':World}{kb:Blk}{r:Nat×Nat}(E:Emb pv e H w)(E':Emb pv (e ++ [r]) (newB H kb) w'):Emb pv e H w':=by
 have hlen:=E.len
 have hold : ∀i k,blkAt H i=some k->i<H.length/\blkAt (newB H kb) i=some k:=by
  intro i k h
  have hi:=Wd h
  exact⟨hi,by rw[vt hi];exact h⟩
 refine⟨hlen,fun i k hk =>?_,E.alone,E.ok⟩
 obtain⟨hi,hk'⟩:=hold i k hk
 obtain⟨r1,cs,h1,h2,_⟩:=E.lies i k hk
 obtain⟨r2,cs2,g1,g2,g3⟩:=E'.lies i k hk'
 rw[List.getElem?_append_left (by omega),h1]at g1
 cases g1
 rw[yt ⟨[r],rfl⟩ _ _ h2]at g2
 cases g2
 exact⟨_,_,h1,h2,g3⟩
structure Waits(I:PortR P σ)(Γ:yc)(ops:Array Oper)(w0:World)(e:Env)(st:St)(F:Nat->Prop)(a:Act)(w:World)(d x:Nat):Prop where
 at_ : ∃ (o:Oper) (dd:Nat) (f:Nat->V) (kb:Blk) (rvf:Nat->Value) (vs:List Value),ops[d]? = some o/\o.dst=some dd/\kb.tab=none/\kb.grown=false/\(∀pu H s,valO Γ I ops pu o st.tmps H s=some (f H.length,newB H kb,s))/\(∀e x c,denV I.pv (e ++ [(x,c)]) (f e.length)=some (rvf x))/\denL I.pv e kb.cells=some vs/\
  (dd<a.tmps.size->a.tmps[dd]? = some (rvf x))/\w.heap[x]? = some (.cells vs.toArray kb.elem (0,0))
 own : ¬Own false e st.heap x
 port : ¬F x
 new:w0.heap.size<=x
structure LRow(I:PortR P σ)(Γ:yc)(ops:Array Oper)(D:List Nat)(A:List (Nat×Nat))(S0:Bool->Nat->Prop)(w0:World)(e0:Env)(U L:List Nat)(X:Nat->Nat)(e:Env)(st:St)(s:σ)(F:Nat->Prop)(a:Act)(w:World):Prop where
 cfg:Cfg I S0 w0 e0 e st s F a w
 lt : ∀i∈L,i<ops.size
 nd:L.Nodup
 fit:L.Pairwise (FitP ops (Region.before ops) D A)
 inn : ∀i∈U,i∈L
 waits : ∀i∈L,i∉U->i∈D/\Waits I Γ ops w0 e st F a w i (X i)
 inj : ∀i∈L,∀j∈L,i∉U->j∉U->X i=X j->i=j
 free : ∀i∈L,i∈D ->∀o d,ops[i]? = some o->o.dst=some d->getT st.tmps d=none
 held:HeldA ops A st.tmps
theorem LRow.told(hD:LateD P ops D){A:List (Nat×Nat)}{U l1 l2:List Nat}{X:Nat->Nat}{d:Nat}{e:Env}{st:St}{s:σ}{F:Nat->Prop}{a:Act}{w:World}{r:β×σ}
  (R:LRow I Γ ops D A S0 w0 e0 U (l1++d::l2) X e st s F a w) (hdU:d∉U) (h:(yD P Γ ops (Region.before ops) D A (d::(l1++l2)) st k).run I.step s=some r) :
  ∃e' st',LRow I Γ ops D A S0 w0 e0 U (l1++l2) X e' st' s F a w/\(yD P Γ ops (Region.before ops) D A (l1++l2) st' k).run I.step s=some r:=by
 have hdL:d∈l1++d::l2:=by simp
 obtain⟨hdD,W⟩:=R.waits d hdL hdU
 obtain⟨o,dd,f,kb,rvf,vs,ho,hdst,ht,hg,hval0,hf,hden,htmp,hblk⟩:=W.at_
 obtain⟨tmps,H⟩:=st
 have hsub : ∀i∈l1++l2,i∈l1++d::l2:=by
  intro i hi
  rcases List.mem_append.1 hi with h|h<;>simp[h]
 have hnd:d∉l1++l2:=by
  have:=R.nd
  rw[List.nodup_append]at this
  obtain⟨_,h2,h3⟩:=this
  rw[List.nodup_cons]at h2
  intro hm
  rcases List.mem_append.1 hm with hm|hm
  ·exact h3 d hm d (by simp) rfl
  ·exact h2.1 hm
 rw[vO ho]at h
 have hval:=hval0 (we ops (Region.before ops) D A d) H s
 have hheld:=HeldA.put (tmps:=tmps) R.held ho hval
 have hoffd:offD ops (Region.before ops) A d o tmps=true:=xel (by
  obtain⟨o',ho',hb'⟩:=hD.op d hdD
  rw[ho]at ho';cases ho'
  rw[(Zi hb').2.2.2];decide)
 rw[KR hoffd,hval]at h
 simp only at h
 have E:=R.cfg.rel.emb
 refine⟨e ++ [(X d,0)],⟨putT tmps o.dst (f H.length),newB H kb⟩,⟨⟨⟨E.found ht hg hden 0 hblk W.own,?_,?_,R.cfg.rel.defers⟩,R.cfg.rep,?_,R.cfg.keeps,?_,R.cfg.ext.trans ⟨_,rfl⟩⟩,fun i hi=>R.lt i (hsub i hi),?_,?_,fun i hi =>?_,fun i hi hu =>?_,fun i hi j hj=>R.inj i (hsub i hi) j (hsub j hj),fun i hi hiD o' d' ho' hd' =>?_,hheld⟩,h⟩
 ·rw[XN];exact R.cfg.rel.len
 ·intro t' v hv
  simp only[hdst,putT]at hv
  by_cases ht:t'=dd
  ·subst ht
   obtain⟨hlt,rfl⟩:=wU hv
   exact⟨_,htmp (Nat.lt_of_lt_of_le hlt R.cfg.rel.len),by rw[E.len];exact hf e (X d) 0⟩
  ·rw[yE _ _ ht]at hv
   obtain⟨rv',h1,h2⟩:=R.cfg.rel.tmps t' v hv
   exact⟨rv',h1,Zw ⟨_,rfl⟩ _ _ h2⟩
 ·intro b hb
  rcases Xn E hb with hb|rfl
  ·exact R.cfg.disj b hb
  ·exact W.port
 ·intro q b hb
  rcases hb with hb|hb
  ·rcases Xn E hb with hb|rfl
   ·exact R.cfg.mine _ b (.inl hb)
   ·exact .inr W.new
  ·exact R.cfg.mine _ b (.inr hb)
 ·have:=R.nd
  exact List.Nodup.sublist (List.Sublist.append_left (List.sublist_cons_self d l2) l1) this
 ·exact List.Pairwise.sublist (List.Sublist.append_left (List.sublist_cons_self d l2) l1) R.fit
 ·have:=R.inn i hi
  simp only[List.mem_append,List.mem_cons]at this |-
  rcases this with h|rfl|h
  ·exact .inl h
  ·exact absurd hi hdU
  ·exact .inr h
 ·obtain⟨h1,Wi⟩:=R.waits i (hsub i hi) hu
  refine⟨h1,?_,fun hown =>?_,Wi.port,Wi.new⟩
  ·obtain⟨oi,di,fi,kbi,rvfi,vsi,q1,q2,q3,q4,q5,q6,q7,q8,q9⟩:=Wi.at_
   refine⟨oi,di,fi,kbi,rvfi,vsi,q1,q2,q3,q4,fun pu H2 s2 =>?_,q6,yt ⟨_,rfl⟩ _ _ q7,q8,q9⟩
   rw[ZC]
   ·exact q5 pu H2 s2
   ·rcases List.mem_append.1 hi with hm|hm
    ·exact(((List.pairwise_append.1 R.fit).2.2 i hm d (by simp)).apart (hD.dep d hdD i h1) q1 ho).2
    ·exact(((List.pairwise_cons.1 (List.pairwise_append.1 R.fit).2.1).1 i hm).apart (hD.dep i h1 d hdD) ho q1).1
  ·rcases Xn E hown with hb|hb
   ·exact Wi.own hb
   ·have:=R.inj i (hsub i hi) d hdL hu hdU hb
    subst this
    exact hnd hi
 ·have h1:=R.free i (hsub i hi) hiD o' d' ho' hd'
  have hne:d'≠dd:=by
   rintro rfl
   exact hD.dst d hdD i o' o d' (fun hh=>hnd (hh▸hi)) ho' ho hdst hd'
  simp only[hdst,putT,yE _ _ hne]
  exact h1
theorem LRow.fin{I:Port P σ}(hΓ : ∀f m,Γ f=some m->Ze I f m)(hD:LateD P ops D){A:List (Nat×Nat)}{X:Nat->Nat}{s:σ}{F:Nat->Prop}{a:Act}{w:World}{r:β×σ} : ∀ (L:List Nat) (e:Env) (st:St),LRow I.toPortR Γ ops D A S0 w0 e0 [] L X e st s F a w->(yD P Γ ops (Region.before ops) D A L st k).run I.step s=some r->
   ∃e' st',Cfg I.toPortR S0 w0 e0 e' st' s F a w/\(k st').run I.step s=some r
 | [],e,st,R,h=>⟨e,st,R.cfg,h⟩
 | d::L,e,st,R,h=>by
  obtain⟨e',st',R',h'⟩:=LRow.told (l1 :=[]) hD R (by simp) h
  exact LRow.fin hΓ hD L e' st' R' h'
theorem Cfg.rebase{e:Env}{st:St}{s:σ}{F:Nat->Prop}{a:Act}{w:World}(C:Cfg I S0 w0 e0 e st s F a w):Cfg I (fun q b=>Own q e st.heap b\/F b) w e e st s F a w:=
 ⟨C.rel,C.rep,C.disj,Keeps.refl _ w,fun q b hb =>.inl hb,Ext.refl e⟩
theorem Cfg.compose{I':PortR P σ}{e e':Env}{st st':St}{s s':σ}{F F':Nat->Prop}{a a':Act}{w w':World}(C:Cfg I S0 w0 e0 e st s F a w)(C':Cfg I' (fun q b=>Own q e st.heap b\/F b) w e e' st' s' F' a' w'):Cfg I' S0 w0 e0 e' st' s' F' a' w':=by
 refine⟨C'.rel,C'.rep,C'.disj,C.keeps.trans C'.keeps fun b hb=>C.mine _ b hb,fun q b hb =>?_,C.ext.trans C'.ext⟩
 rcases C'.mine _ b hb with h|h
 ·exact C.mine _ b h
 ·right
  have:=C.keeps.size
  omega
theorem least{p:Nat->Prop}{n:Nat}(h:p n) : ∃m,p m/\ ∀j,j<m ->¬p j:=by
 induction n using Nat.strongRecOn with
 | _ n ih=>
  by_cases hh : ∃m,m<n/\p m
  ·obtain⟨m,h1,h2⟩:=hh
   exact ih m h1 h2
  ·exact⟨n,h,fun j hj hp=>hh ⟨j,hj,hp⟩⟩
theorem xdm{A:List (Nat×Nat)}{d:Nat}{o:Oper}(ho:ops[d]? = some o){r:β×σ}{l2:List Nat} : ∀ (l1:List Nat) (tmps:Tm) (H:Heap) (s:σ),(∀c∈l1,∀x,ops[c]? = some x ->∀d',x.dst=some d'->d'∉o.looksAt ops)->
  (yD P Γ ops b D A (l1++d::l2) ⟨tmps,H⟩ k).run I.step s=some r ->∃pu H' s' rr,valO Γ I ops pu o tmps H' s'=some rr
 | [],tmps,H,s,hc,h=>by
  rw[List.nil_append,vO ho]at h
  split at h
  ·exact⟨_,_,_,_,(KQ ‹_›).2⟩
  ·cases h
 | c::l1,tmps,H,s,hc,h=>by
  cases hx:ops[c]? with
  | none=>rw[List.cons_append]at h;simp only[yD,hx,T.run]at h;cases h
  | some x=>
   rw[List.cons_append,vO hx]at h
   split at h
   ·obtain⟨pu,H',s',rr,hrr⟩:=xdm ho l1 _ _ _ (fun c' hc'=>hc c' (by simp[hc'])) h
    rw[ZC (hc c (by simp) x hx)]at hrr
    exact⟨pu,H',s',rr,hrr⟩
   ·cases h
theorem VL{A:List (Nat×Nat)}(hok:vg ops (Region.before ops) D=true)(hdo:jq ops (Region.before ops) A=true){p q:Nat}(hp:p<ops.size)(hq:q<ops.size)(hpq:p<q)(hpD:p∉D)(hqD:q∉D):FitP ops (Region.before ops) D A p q:=by
 have hdec:=Zh hok
 have hnb:=xek hdec p p q (Nat.le_refl _) (by omega) hp
 refine⟨hnb,?_⟩
 cases hb:((Region.before ops).getD q 0).testBit p with
 | true=>exact .inl rfl
 | false=>
  have hop:=Array.getElem?_eq_getElem hp
  have hoq:=Array.getElem?_eq_getElem hq
  refine .inr (.inl ⟨_,_,hop,hoq,xba hok hop hoq hpq hb hpD hqD,fun k3 k12 =>?_,fun k3 k12 =>?_,diff_of hdo hop hoq hpq hb hnb,fun k6 k1 =>?_,fun k6 k1 =>?_⟩)
  ·exact xdl hop hoq k3 k12 (by omega) (by simp only[yZ,hnb,hb,Bool.or_self]) hqD
  ·exact xdl hoq hop k3 k12 (by omega) (by simp only[yZ,hnb,hb,Bool.or_self]) hpD
  ·exact Wk hop hoq k6 k1 (by omega) (by simp only[yZ,hnb,hb,Bool.or_self])
  ·exact Wk hoq hop k6 k1 (by omega) (by simp only[yZ,hnb,hb,Bool.or_self])
theorem XS{f:Nat->Nat->Bool} : ∀ {l:List Nat},Zq f l=true->l.Pairwise (fun p q=>f p q=true)
 | [],_=>List.Pairwise.nil
 | x::l,h=>by
  simp only[Zq,Bool.and_eq_true,List.all_eq_true]at h
  exact List.Pairwise.cons h.1 (XS h.2)
theorem kC(m:Nat) : ∀ (d i:Nat) (s:Sl) (t:Nat) (v:V),getS d (wo m d i s) t=some v->m.testBit (i+t)=true
 | 0,i,s,t,v,h=>by
  cases s with
  | leaf w=>
   simp only[wo]at h
   cases hb:m.testBit i with
   | true=>
    rw[hb]at h
    simp only[cond_true,getS]at h
    cases ht:Nat.beq t 0 with
    | true=>rw[Nat.eq_of_beq_eq_true ht];simpa using hb
    | false=>rw[ht]at h;cases h
   | false=>rw[hb]at h;simp[getS]at h
  | tip=>simp[wo,getS]at h
  | node l r=>simp[wo,getS]at h
 | d+1,i,s,t,v,h=>by
  cases s with
  | node l r=>
   simp only[wo]at h
   rw[xaE]at h
   simp only[getS]at h
   cases hb:Nat.blt t (2 ^ d) with
   | true=>rw[hb]at h;exact kC m d i l t v h
   | false=>
    rw[hb]at h
    have:=kC m d _ r _ v h
    rw[blt_eq,decide_eq_false_iff_not]at hb
    rw[show i+t=i+2 ^ d+(t-2 ^ d)by omega]
    exact this
  | tip=>simp[wo,getS]at h
  | leaf w=>simp[wo,getS]at h
theorem VM(ops:Array Oper)(t:Nat) : ∀ (D:List Nat) (m:Nat),(m.testBit t=true\/ ∃d∈D,(ops[d]?).bind (·.dst)=some t)->(D.foldl (fun m d=>match(ops[d]?).bind (·.dst) with|some t=>m ||| (1 <<< t)|none=>m) m).testBit t=true
 | [],m,h=>by
  rcases h with h|⟨d,hd,_⟩
  ·exact h
  ·cases hd
 | d::D,m,h=>by
  rw[List.foldl_cons]
  refine VM ops t D _ ?_
  rcases h with h|⟨d',hd,hh⟩
  ·left
   split
   ·rw[Nat.testBit_or,h];rfl
   ·exact h
  ·rcases List.mem_cons.1 hd with rfl|hd
   ·left
    rw[hh]
    simp only[Nat.testBit_or,Nat.one_shiftLeft,Nat.testBit_two_pow_self,Bool.or_true]
   ·exact .inr ⟨d',hd,hh⟩
theorem XT{ops:Array Oper}{D:List Nat}{l:Tm}{t:Nat}{v:V}(h:getT (vl ops D l) t=some v):getT l t=some v/\ ∀d∈D,(ops[d]?).bind (·.dst)≠some t:=by
 obtain⟨h1,h2⟩:=vB h
 simp only[vl]at h1 h2
 refine⟨?_,fun d hd hh =>?_⟩
 ·unfold getT
  rw[blt_eq]
  simp only[h1,decide_true,cond_true]
  exact jr _ _ _ _ _ _ h2
 ·have h3:=kC _ _ _ _ _ _ h2
  rw[Nat.zero_add]at h3
  simp only[xeW,Nat.testBit_xor,Nat.testBit_and]at h3
  generalize(1 <<< 512-1).testBit t=q at h3
  generalize hz:Nat.testBit (List.foldl _ 0 D) t=z at h3
  have hz1:z=true:=hz.symm.trans (VM ops t D 0 (.inr ⟨d,hd,hh⟩))
  subst hz1
  cases q<;>cases h3
theorem xfh{A:List (Nat×Nat)}(hok:vg ops (Region.before ops) D=true)(hdo:jq ops (Region.before ops) A=true)(hD:LateD P ops D){p q:Nat}(hp:p<ops.size)(hq:q<ops.size)(h:fitB ops (Region.before ops) D p q=true):FitP ops (Region.before ops) D A p q:=by
 have hop:=Array.getElem?_eq_getElem hp
 have hoq:=Array.getElem?_eq_getElem hq
 unfold fitB at h
 simp only[Bool.and_eq_true,Bool.not_eq_true',Bool.or_eq_true,hop,hoq]at h
 refine⟨h.1.2,?_⟩
 rcases h.2 with h2|h2
 ·exact .inl h2
 ·rcases h2 with⟨⟨hqD,hap⟩,hall⟩|h2
  ·have hqD:q∈D:=by simpa using hqD
   refine .inr (.inr ⟨hqD,⟨_,_,hop,hoq,hap⟩,fun i his hi =>?_⟩)
   simp only[List.all_eq_true,Bool.or_eq_true,Bool.not_eq_true']at hall
   rcases hall i (by simpa using his)with h3|h3
   ·rw[hi]at h3;cases h3
   ·exact h3
  ·have kindD : ∀d∈D,∀o,ops[d]? = some o->xj o.op=2:=by
    intro d hd o ho
    obtain⟨o',ho',hb⟩:=hD.op d hd
    rw[ho]at ho';cases ho'
    exact(Zi hb).2.2.2
   split at h2
   ·rename_i hpq
    simp only[Bool.and_eq_true,bne_iff_ne,ne_eq]at h2
    obtain⟨⟨n1,n2⟩,h3⟩:=h2
    refine .inr (.inl ⟨_,_,hop,hoq,h3,fun k3=>absurd k3 n1,fun k3=>absurd k3 n2,fun k1 k5 =>?_,fun k6 k1 =>?_,fun k6 k1 =>?_⟩)
    all_goals
     simp only[Bool.or_eq_true]at hpq
     rcases hpq with hh|hh
     ·have:=kindD p (by simpa using hh) _ hop
      omega
     ·have:=kindD q (by simpa using hh) _ hoq
      omega
   ·rename_i hpq
    simp only[Bool.or_eq_false_iff]at hpq
    exact(VL hok hdo hp hq (by simpa using h2) (by simpa using hpq.1) (by simpa using hpq.2)).2
end
end Lx
namespace Lx
open Go
/-! ### states of which less is known -/
mutual
theorem qe{pv:Value}{e:Env}{n:Nat} : ∀ (c:C),(∀b∈idsC c,b<n)->den pv (e.take n) c=den pv e c
 | .bool b,h=>rfl
 | .int k i,h=>rfl
 | .nilp,h=>rfl
 | .ptr b o,h=>by simp only[den,List.getElem?_take_of_lt (h b (by simp[idsC]))]
 | .nils,h=>rfl
 | .sl b o m c,h=>by simp only[den,List.getElem?_take_of_lt (h b (by simp[idsC]))]
 | .slg b o m,h=>by simp only[den,List.getElem?_take_of_lt (h b (by simp[idsC]))]
 | .pr b o i m f,h=>by simp only[den,List.getElem?_take_of_lt (h b (by simp[idsC]))]
 | .slw b o z m c,h=>by simp only[den,List.getElem?_take_of_lt (h b (by simp[idsC]))]
 | .slr b m,h=>by simp only[den,List.getElem?_take_of_lt (h b (by simp[idsC]))]
 | .slv b z o m,h=>by simp only[den,List.getElem?_take_of_lt (h b (by simp[idsC]))]
 | .slx b o d a m c,h=>by simp only[den,List.getElem?_take_of_lt (h b (by simp[idsC]))]
 | .fn f caps,h=>by simp only[den,kl caps (by simpa[idsC]using h)]
 | .meth s c,h=>by simp only[den,qe c (by simpa[idsC]using h)]
 | .nilf,h=>rfl
 | .nili,h=>rfl
 | .nilm,h=>rfl
 | .port,h=>rfl
 | .str z,h=>rfl
 | .gp g o,h=>rfl
 | .mp b,h=>by simp only[den,List.getElem?_take_of_lt (h b (by simp[idsC]))]
 | .ifc t c,h=>by simp only[den,qe c (by simpa[idsC]using h)]
theorem kl{pv:Value}{e:Env}{n:Nat} : ∀ (l:List C),(∀b∈yR l,b<n)->denL pv (e.take n) l=denL pv e l
 | [],h=>rfl
 | c::l,h=>by simp only[denL,qe c (fun b hb=>h b (by simp[yR,hb])),kl l (fun b hb=>h b (by simp[yR,hb]))]
end
theorem xcl{pv:Value}{e:Env}{n:Nat}(x:V1)(h : ∀b∈xda x,b<n):vo pv (e.take n) x=vo pv e x:=by
 cases x with
 | c a=>exact qe a h
 | agg l=>simp only[vo,kl l h]
theorem xeo{pv:Value}{e:Env}{n:Nat}(x:V)(h : ∀b∈idsV x,b<n):denV pv (e.take n) x=denV pv e x:=by
 cases x with
 | c a=>exact qe a h
 | agg l=>simp only[denV,kl l h]
 | tup l=>
  simp only[denV]
  rw[yI fun y hy=>xcl y fun b hb=>h b (by simp only[idsV,List.mem_flatMap];exact⟨y,hy,hb⟩)]
theorem jz(H:Heap) : ∀ (n:Nat) (todo acc l:List Nat),vQ H n todo acc=some l->(∀b∈acc,∀k,blkAt H b=some k ->∀x∈yR k.cells,x∈acc\/x∈todo)->(∀b∈todo,b∈l)/\(∀b∈acc,b∈l)/\ ∀b∈l,∀k,blkAt H b=some k ->∀x∈yR k.cells,x∈l
 | n,[],acc,l,h,h1=>by
  have:acc=l:=by cases n<;>simpa[vQ]using h
  subst this
  exact⟨by simp,fun _ h=>h,fun b hb k hk x hx=>(h1 b hb k hk x hx).resolve_right (by simp)⟩
 | 0,b::todo,acc,l,h,h1=>by simp[vQ]at h
 | n+1,b::todo,acc,l,h,h1=>by
  simp only[vQ]at h
  split at h
  ·rename_i hc
   have hb:b∈acc:=by simpa using hc
   obtain⟨g1,g2,g3⟩:=jz H n todo acc l h (fun c hc k hk x hx=>by
    rcases h1 c hc k hk x hx with h|h
    ·exact .inl h
    ·rcases List.mem_cons.1 h with h|h
     ·exact .inl (h▸hb)
     ·exact .inr h)
   refine⟨fun c hc =>?_,g2,g3⟩
   rcases List.mem_cons.1 hc with h|h
   ·exact g2 c (h▸hb)
   ·exact g1 c h
  ·split at h
   ·rename_i k hk
    obtain⟨g1,g2,g3⟩:=jz H n (yR k.cells++todo) (acc ++ [b]) l h (fun c hc k' hk' x hx=>by
     rcases List.mem_append.1 hc with hc|hc
     ·rcases h1 c hc k' hk' x hx with h|h
      ·exact .inl (by simp[h])
      ·rcases List.mem_cons.1 h with h|h
       ·exact .inl (by simp[h])
       ·exact .inr (by simp[h])
     ·simp only[List.mem_singleton]at hc
      subst hc
      rw[hk]at hk'
      cases hk'
      exact .inr (by simp[hx]))
    refine⟨fun c hc =>?_,fun c hc=>g2 c (by simp[hc]),g3⟩
    rcases List.mem_cons.1 hc with h|h
    ·exact g2 c (by simp[h])
    ·exact g1 c (by simp[h])
   ·cases h
theorem ZF : ∀ (l:List Nat) (b:Nat),b∈l->b<Zr l
 | [],b,h=>by simp at h
 | x::l,b,h=>by
  simp only[Zr]
  rcases List.mem_cons.1 h with h|h
  ·omega
  ·have:=ZF l b h;omega
theorem ZG(l:List Nat) : ∀ (i:Nat) (H:Heap),(jP l i H).length=H.length
 | i,[]=>rfl
 | i,x::H=>by simp only[jP,List.length_cons,ZG l (i+1) H]
theorem VN(l:List Nat) : ∀ (i:Nat) (H:Heap) (j:Nat),(jP l i H)[j]? = (H[j]?).map fun x=>if l.contains (i+j)then x else none
 | i,[],j=>by simp[jP]
 | i,x::H,0=>by simp[jP]
 | i,x::H,j+1=>by
  simp only[jP,List.getElem?_cons_succ,VN l (i+1) H j]
  rw[show i+1+j=i+(j+1)by omega]
theorem xep{m:Nat}{l:Tm}{t:Nat}{v:V}(h:getT (keepT m l) t=some v):getT l t=some v:=by
 obtain⟨h1,h2⟩:=vB h
 unfold getT
 rw[blt_eq]
 simp only[show t<l.n from h1,decide_true,cond_true]
 exact jr m 9 0 l.s t v h2
section
variable{P:Program}{σ:Type}{I:PortR P σ}{Γ:yc}{S0:Bool->Nat->Prop}{w0:World}{e0:Env}
theorem Emb.keep{pv:Pv}{e:Env}{H:Heap}{w:World}(E:Emb pv e H w){l:List Nat}{N:Nat}(hN:Zr l<=N)(hcl : ∀b∈l,∀k,blkAt H b=some k ->∀x∈yR k.cells,x∈l) :
  Emb pv (e.take N) ((jP l 0 H).take N) w/\ ∀q b,Own q (e.take N) ((jP l 0 H).take N) b->Own q e H b:=by
 have orig : ∀i k,blkAt ((jP l 0 H).take N) i=some k->i∈l/\i<N/\blkAt H i=some k:=by
  intro i k h
  rw[xG,List.getElem?_take]at h
  split at h
  ·rename_i hi
   rw[VN]at h
   cases hh:H[i]? with
   | none=>rw[hh]at h;simp at h
   | some x=>
    rw[hh]at h
    simp only[Option.map_some,oI,Nat.zero_add]at h
    split at h
    ·rename_i hc
     exact⟨by simpa using hc,hi,by rw[xG,hh,h]⟩
    ·cases h
  ·cases h
 have env : ∀i r,i<N->((e.take N)[i]? = some r↔e[i]? = some r):=by
  intro i r hi
  rw[List.getElem?_take_of_lt hi]
 refine⟨⟨?_,fun i k hk =>?_,fun i j k k' r r' h1 h2 h3 h4 h5 v1 v2 =>?_,fun i k hk=>E.ok i k (orig i k hk).2.2⟩,fun q b hb =>?_⟩
 ·have:=E.len
  simp only[List.length_take,ZG]
  omega
 ·obtain⟨h1,h2,h3⟩:=orig i k hk
  obtain⟨r,cs,g1,g2,g3⟩:=E.lies i k h3
  refine⟨r,cs,(env i r h2).2 g1,?_,g3⟩
  cases hk:k.tab with
  | none=>
   rw[Blk.real_none hk]at g2 |-
   rw[kl _ fun b hb=>Nat.lt_of_lt_of_le (ZF l b (hcl i h1 k h3 b hb)) hN]
   exact g2
  | some t=>
   cases hq:t.isTok with
   | false=>
    rw[Blk.real_some hk]at g2 |-
    rw[Xc (pv:=pv) (e:=e) (xaG t)]
    exact g2
   | true=>
    cases t<;>first|cases hq|skip
    rw[Blk.real_tok hk]at g2 |-
    rw[kl _ fun b hb=>Nat.lt_of_lt_of_le (ZF l b (hcl i h1 k h3 b hb)) hN]
    exact g2
 ·obtain⟨_,a2,a3⟩:=orig i k h1
  obtain⟨_,b2,b3⟩:=orig j k' h2
  exact E.alone i j k k' r r' a3 b3 ((env i r a2).1 h3) ((env j r' b2).1 h4) h5 v1 v2
 ·obtain⟨i,k,r,h1,h2,h3⟩:=hb
  obtain⟨_,a2,a3⟩:=orig i k h1
  exact⟨i,k,r,a3,(env i r a2).1 h2,h3⟩
theorem Cfg.norm{e:Env}{st st1:St}{s:σ}{F:Nat->Prop}{a:Act}{w:World}{m:Nat}(C:Cfg I S0 w0 e0 e st s F a w)(h:norm e0.length m st=some st1) : ∃e1,Cfg I S0 w0 e0 e1 st1 s F a w:=by
 unfold Lx.norm at h
 simp only at h
 split at h
 ·rename_i l hl
  cases h
  obtain⟨g1,_,g3⟩:=jz st.heap _ _ [] l hl (by simp)
  obtain⟨E1,ho⟩:=C.rel.emb.keep (Nat.le_max_right e0.length (Zr l)) g3
  refine⟨e.take (max e0.length (Zr l)),⟨E1,C.rel.len,fun t v hv =>?_,C.rel.defers⟩,C.rep,fun b hb=>C.disj b (ho _ b hb),C.keeps,fun q b hb=>C.mine _ b (hb.imp (ho _ b) id),?_⟩
  rotate_left
  ·obtain⟨x,hx⟩:=C.ext
   have hle:e0.length<=max e0.length (Zr l):=Nat.le_max_left _ _
   exact⟨x.take (max e0.length (Zr l)-e0.length),by rw[hx,List.take_append,List.take_of_length_le hle]⟩
  obtain⟨rv,h1,h2⟩:=C.rel.tmps t v (xep hv)
  refine⟨rv,h1,?_⟩
  rw[xeo v fun b hb=>Nat.lt_of_lt_of_le (ZF l b (g1 b ?_)) (Nat.le_max_right _ _)]
  ·exact h2
  ·refine List.mem_append.2 (.inr ?_)
   exact YF 9 _ t v (vB hv).2 b hb
 ·cases h
theorem Cfg.conv1{e:Env}{st:St}{s:σ}{F:Nat->Prop}{a:Act}{w:World}(c:Cv)(C:Cfg I S0 w0 e0 e st s F a w) : ∃e1,Cfg I S0 w0 e0 e1 (Lx.conv1 c st) s F a w:=by
 unfold Lx.conv1
 split
 rotate_left
 ·exact⟨e,C⟩
 rename_i hg
 have E:=C.rel.emb
 have hlen:=E.len
 have hx:Ext e (e ++ [(0,0)]):=⟨_,rfl⟩
 obtain⟨tmps,H⟩:=st
 simp only at hg hlen E
 generalize hkn:(⟨[],c.el,true,some c.ek.tab⟩:Blk)=kn
 have hv:kn.virt=true:=by subst hkn;unfold Blk.virt;cases c.ek<;>rfl
 have hreal:kn.real = []:=by subst hkn;unfold Blk.real;cases c.ek<;>rfl
 have hsplit : ∀i k,blkAt (newB H kn) i=some k->(i=H.length/\k=kn)\/(blkAt H i=some k/\i<H.length):=by
  intro i k h
  rw[yq]at h
  split at h
  ·cases h;exact .inl ⟨‹_›,rfl⟩
  ·refine .inr ⟨h,?_⟩
   rw[xz]at h
   by_cases hi:i<H.length
   ·exact hi
   ·rw[List.getElem?_eq_none (by omega)]at h;simp at h
 have own : ∀q b,Own q (e ++ [(0,0)]) (newB H kn) b->Own q e H b:=by
  rintro q b ⟨i,k,r,h1,h2,h3,h4,h5⟩
  rcases hsplit i k h1 with⟨_,rfl⟩|⟨h6,h7⟩
  ·rw[hv]at h4;cases h4
  ·rw[List.getElem?_append_left (by omega)]at h2
   exact⟨i,k,r,h6,h2,h3,h4,h5⟩
 refine⟨e ++ [(0,0)],⟨⟨by simp[newB,hlen],fun i k hk =>?_,fun i j k k' r r' hk hk' hr hr' he v1 v2 =>?_,fun i k hk =>?_⟩,by rw[xbX];exact C.rel.len,fun t v hgv =>?_,C.rel.defers⟩,C.rep,fun b hb=>C.disj b (own _ b hb),C.keeps,fun q b hb=>C.mine _ b (hb.imp (own _ b) id),C.ext.trans hx⟩
 ·rcases hsplit i k hk with⟨rfl,rfl⟩|⟨hk,hi⟩
  ·exact⟨(0,0),[],by simp[hlen],by rw[hreal];rfl,⟨Tk.of (by subst hkn;intro t ht;cases ht;cases c.ek<;>rfl),.inl hv⟩⟩
  ·obtain⟨r,cs',hr,hd',hw⟩:=E.lies i k hk
   exact⟨r,cs',hx.get hr,yt hx _ _ hd',hw⟩
 ·rcases hsplit i k hk with⟨_,rfl⟩|⟨hk,hi⟩
  ·rw[hv]at v1;cases v1
  ·rcases hsplit j k' hk' with⟨_,rfl⟩|⟨hk',hj⟩
   ·rw[hv]at v2;cases v2
   ·rw[List.getElem?_append_left (by omega)]at hr hr'
    exact E.alone i j k k' r r' hk hk' hr hr' he v1 v2
 ·rcases hsplit i k hk with⟨_,rfl⟩|⟨hk,hi⟩
  ·subst hkn;intro t _ _;rfl
  ·exact E.ok i k hk
 ·by_cases ht:t=c.slot
  ·subst ht
   obtain⟨_,rfl⟩:=wU hgv
   obtain⟨rv,h1,h2⟩:=C.rel.tmps _ _ hg
   refine⟨rv,h1,?_⟩
   simp only[denV,den]at h2 |-
   rw[hlen,List.getElem?_append_right (by omega),Nat.sub_self]
   exact h2
  ·rw[yE _ _ ht]at hgv
   obtain⟨rv,h1,h2⟩:=C.rel.tmps t v hgv
   exact⟨rv,h1,Zw hx _ _ h2⟩
theorem Cfg.convs{s:σ}{F:Nat->Prop}{a:Act}{w:World} : ∀ (l:List Cv) {e:Env} {st:St} (_:Cfg I S0 w0 e0 e st s F a w),∃e1,Cfg I S0 w0 e0 e1 (Lx.convs l st) s F a w
 | [],e,st,C=>⟨e,C⟩
 | c::l,e,st,C=>by
  obtain⟨e1,C1⟩:=Cfg.conv1 c C
  exact Cfg.convs l C1
theorem sub_ext{e0 e e1:Env}{l:List Nat}(hx:Ext e0 e)(htake:l.take e0.length=List.range e0.length)(hlen:e1.length=l.length)(hget : ∀ (i b:Nat),l[i]? = some b->e1[i]? = e[b]?):Ext e0 e1:=by
 obtain⟨x,rfl⟩:=hx
 have hle:e0.length<=l.length:=by
  have:=congrArg List.length htake
  simp at this
  omega
 refine⟨e1.drop e0.length,?_⟩
 rw[<- List.take_append_drop e0.length e1]
 congr 1
 ·apply List.ext_getElem?
  intro i
  rw[List.getElem?_take]
  split
  ·rename_i hi
   have hli:l[i]? = some i:=by
    have:=congrArg (·[i]?) htake
    simp only[List.getElem?_take_of_lt hi]at this
    rw[this,List.getElem?_range hi]
   rw[hget i i hli,List.getElem?_append_left hi]
  ·rename_i hi
   rw[List.getElem?_eq_none (by omega)]
 ·simp
theorem Wl{r:Nat->Option Nat} : ∀ (d:Nat) (s s':Sl) (t:Nat) (v:V),renS r s=some s'->getS d s' t=some v ->∃u,getS d s t=some u/\renV r u=some v
 | d,.tip,s',t,v,h,hv=>by
  simp only[renS,oI]at h;subst h
  rw[wG]at hv;cases hv
 | d,.leaf u,s',t,v,h,hv=>by
  simp only[renS]at h
  split at h
  ·rename_i u' hu
   cases h
   cases d with
   | zero=>
    simp only[getS]at hv |-
    cases hb:Nat.beq t 0 with
    | true=>rw[hb]at hv;cases hv;exact⟨u,rfl,hu⟩
    | false=>rw[hb]at hv;cases hv
   | succ d=>simp[getS]at hv
  ·cases h
 | d,.node a b,s',t,v,h,hv=>by
  simp only[renS]at h
  split at h
  ·rename_i x y hx hy
   cases h
   cases d with
   | zero=>simp[getS]at hv
   | succ d=>
    simp only[getS]at hv |-
    cases hb:Nat.blt t (2 ^ d) with
    | true=>rw[hb]at hv;exact Wl d a x t v hx hv
    | false=>rw[hb]at hv;exact Wl d b y _ v hy hv
  ·cases h
theorem Cfg.renum{e:Env}{st st1:St}{s:σ}{F:Nat->Prop}{a:Act}{w:World}(C:Cfg I S0 w0 e0 e st s F a w)(h:renum e0.length st=some st1) : ∃e1,Cfg I S0 w0 e0 e1 st1 s F a w:=by
 unfold Lx.renum at h
 split at h
 ·rename_i l hl
  obtain⟨hn,hk⟩:=VG hl
  split at h
  ·rename_i htake
   split at h
   ·rename_i s' H1 hs1 hH1
    cases h
    obtain⟨e1,hlen,hget,E1,hown⟩:=C.rel.emb.sub hn hk hH1
    have hr : ∀b b' x,idx l b=some b'->e[b]? = some x->e1[b']? = some x:=fun b b' x h1 h2=>(hget b' b (qC l b b' h1)).trans h2
    have own : ∀q b,Own q e1 H1 b->Own q e st.heap b:=fun q b hb=>by
     obtain⟨i,hi,k,r,h1,h2,h3,hv,h4⟩:=hown _ b hb
     exact⟨i,k,r,h1,h2,h3,hv,h4⟩
    refine⟨e1,⟨E1,C.rel.len,fun t v hv =>?_,C.rel.defers⟩,C.rep,fun b hb=>C.disj b (own _ b hb),C.keeps,fun q b hb=>C.mine _ b (hb.imp (own _ b) id),sub_ext C.ext (by simpa using htake) hlen hget⟩
    obtain⟨h5,h6⟩:=vB hv
    obtain⟨u,h7,h8⟩:=Wl 9 _ _ t v hs1 h6
    have h9:getT st.tmps t=some u:=by
     unfold getT
     rw[blt_eq]
     simp only[show t<st.tmps.n from h5,decide_true,cond_true]
     exact h7
    obtain⟨rv,g1,g2⟩:=C.rel.tmps t u h9
    exact⟨rv,g1,kZ hr u v rv h8 g2⟩
   ·cases h
  ·cases h
 ·cases h
theorem Cfg.normC{e:Env}{st st1:St}{s:σ}{F:Nat->Prop}{a:Act}{w:World}{m:Nat}{n:Fu}(C:Cfg I S0 w0 e0 e st s F a w)(h:normC n e0.length m st=some st1) : ∃e1,Cfg I S0 w0 e0 e1 st1 s F a w:=by
 unfold Lx.normC at h
 split at h
 ·rename_i st2 h2
  obtain⟨e2,C2⟩:=C.norm h2
  obtain⟨e3,C3⟩:=Cfg.convs n.cv C2
  split at h
  ·exact C3.renum h
  ·cases h;exact⟨e3,C3⟩
 ·cases h
theorem Cfg.drew{e:Env}{st:St}{s:σ}{F:Nat->Prop}{a:Act}{w:World}(C:Cfg I S0 w0 e0 e st s F a w):Cfg I S0 w0 e0 e st s F a {w with drawn:=w.drawn+1}:=
 ⟨⟨C.rel.emb.ofSame fun _ _=>rfl,C.rel.len,C.rel.tmps,C.rel.defers⟩,I.stable C.rep fun _ _=>rfl,C.disj,⟨C.keeps.os,C.keeps.tape,C.keeps.output,C.keeps.size,C.keeps.block⟩,C.mine,C.ext⟩
/-! ### code -/
def Ex.up:Ex->Exit
 | .normal =>.normal
 | .exit i =>.exit i
 | .ret =>.ret
theorem XU{tmps:Tm}{c:Operand}{t:Bool}(h:xW tmps c=some (.c (.bool t))):refine tmps c t=tmps:=by
 cases c with
 | tmp i=>exact qD h
 | _=>rfl
end
end Lx
namespace Lx
open Go
theorem jA{pv:Pv}{e0 e:Env}{H H':Heap}{w:World}{v v':V}{rv:Value}(E:Emb pv e H w)(hv:denV pv e v=some rv)(hx:Ext e0 e)(h:finish e0.length v H=some (v',H')) :
  ∃e',Ext e0 e'/\denV pv e' v'=some rv/\Emb pv e' H' w/\ ∀q b,Own q e' H' b->Own q e H b:=by
 unfold finish at h
 split at h
 ·rename_i l hl
  obtain⟨hn,hk⟩:=VG hl
  split at h
  ·rename_i htake
   split at h
   ·rename_i v1 H1 hv1 hH1
    cases h
    obtain⟨e1,hlen,hget,E1,hown⟩:=E.sub hn hk hH1
    have hr : ∀b b' x,idx l b=some b'->e[b]? = some x->e1[b']? = some x:=fun b b' x h1 h2=>(hget b' b (qC l b b' h1)).trans h2
    refine⟨e1,?_,kZ hr v v' rv hv1 hv,E1,fun q b hb =>?_⟩
    ·obtain⟨x,rfl⟩:=hx
     have ht:l.take e0.length=List.range e0.length:=by simpa using htake
     have hle:e0.length<=l.length:=by
      have:=congrArg List.length ht
      simp at this
      omega
     refine⟨e1.drop e0.length,?_⟩
     rw[<- List.take_append_drop e0.length e1]
     congr 1
     ·apply List.ext_getElem?
      intro i
      rw[List.getElem?_take]
      split
      ·rename_i hi
       have hli:l[i]? = some i:=by
        have:=congrArg (·[i]?) ht
        simp only[List.getElem?_take_of_lt hi]at this
        rw[this,List.getElem?_range hi]
       rw[hget i i hli,List.getElem?_append_left hi]
      ·rename_i hi
       rw[List.getElem?_eq_none (by omega)]
     ·simp
    ·obtain⟨i,hi,k,r,h1,h2,h3,hv,h4⟩:=hown _ b hb
     exact⟨i,k,r,h1,h2,h3,hv,h4⟩
   ·cases h
  ·cases h
 ·cases h
section
variable{P:Program}{σ:Type}{I:Port P σ}{Γ:yc}
theorem res_run{pv:Pv}{e:Env}{st:St}{a:Act}{w:World}(R:Rel pv e st a w){x:ResultVar}{v:V1}(h:YB P st x=some v)(g:ResultVar->Sem Value)(g1 : ∀t,g (.tmp t)=pure (a.tmps.getD t undef))(g2 : ∀p t,g (.cell p t)=(do loadVar t (<- asAddr (a.tmps.getD p undef)))) :
  ∃rv,(g x).run P w = .ok rv w/\vo pv e v=some rv:=by
 cases x with
 | tmp t=>
  simp only[YB]at h
  cases hg:getT st.tmps t with
  | none=>rw[hg]at h;simp at h
  | some u=>
   rw[hg]at h
   simp only[Option.bind_some]at h
   obtain⟨rv,h1,h2⟩:=R.tmps t u hg
   refine⟨rv,?_,by rw[Vw h];exact h2⟩
   rw[g1]
   simp[Array.getD_eq_getD_getElem?,h1]
 | cell p t=>
  simp only[YB]at h
  split at h
  ·rename_i b q hg
   split at h
   ·rename_i k hk
    cases hp:partT P t k.own q with
    | none=>rw[hp]at h;simp at h
    | some u=>
     rw[hp]at h
     simp only[Option.bind_some]at h
     obtain⟨r,cs,a1,a2,a3⟩:=R.emb.lies b k hk
     obtain⟨rp,h1,h2⟩:=R.tmps p _ hg
     simp only[denV,den,a1,Option.map_some,oI]at h2
     subst h2
     obtain⟨rv,h3,h4⟩ : ∃rv,(loadVar t ⟨r.1,q,none⟩).run P w = .ok rv w/\denV pv e u=some rv:=by
      cases ht:k.tab with
      | none=>
       obtain⟨tl,a4,_⟩:=a3.own (Blk.win_none ht) (Blk.virt_none ht) (Blk.mapped_none ht)
       exact VB (P:=P) a2 a4 (Vz hp)
      | some tb=>
       rw[Blk.own_some ht]at hp
       have:=ky (P:=P) (pv:=pv) (e:=e) (cells :=[]) (cs :=[]) (w:=w) (r:=r.1) (q:=0) rfl (fun j u hj=>by simp at hj) hp
       rwa [Nat.zero_add]at this
     refine⟨rv,?_,by rw[Vw h];exact h4⟩
     rw[g2]
     simp[Array.getD_eq_getD_getElem?,h1,asAddr,h3]
   ·cases h
  ·cases h
theorem KT{pv:Pv}{e:Env}{st:St}{a:Act}{w:World}(R:Rel pv e st a w)(g:ResultVar->Sem Value)(g1 : ∀t,g (.tmp t)=pure (a.tmps.getD t undef))(g2 : ∀p t,g (.cell p t)=(do loadVar t (<- asAddr (a.tmps.getD p undef)))) :
  ∀ (l:List ResultVar) (vs:List V1),allSome (YB P st) l=some vs ->∃rs,(l.mapM g).run P w = .ok rs w/\allSome (vo pv e) vs=some rs
 | [],vs,h=>by simp only[allSome,oI]at h;subst h;exact⟨[],by simp,rfl⟩
 | x::l,vs,h=>by
  simp only[allSome]at h
  split at h
  ·rename_i y hy
   split at h
   ·rename_i ys hys
    cases h
    obtain⟨rv,h1,h2⟩:=res_run R hy g g1 g2
    obtain⟨rs,h3,h4⟩:=KT R g g1 g2 l ys hys
    refine⟨rv::rs,?_,by simp only[allSome,h2,h4]⟩
    rw[List.mapM_cons]
    simp only[Sem.run_bind,h1,Result.andThen_ok,h3,Sem.run_pure]
   ·cases h
  ·cases h
theorem Wm(fn:Func)(tmps:Array Value) : ∃g:ResultVar->Sem Value,results fn tmps=(do let vs <- fn.results.mapM g;pure (if h:vs.size=1 then vs[0]else .tuple vs))/\(∀t,g (.tmp t)=pure (tmps.getD t undef))/\ ∀p t,g (.cell p t)=(do loadVar t (<- asAddr (tmps.getD p undef))):=by
 refine⟨_,rfl,?_,?_⟩
 ·intro t;rfl
 ·intro p t;rfl
theorem qf{pv:Pv}{e:Env}{st:St}{a:Act}{w:World}{fn:Func}(R:Rel pv e st a w){v:V}(h:resV P fn st=some v) : ∃rv,(results fn a.tmps).run P w = .ok rv w/\denV pv e v=some rv:=by
 obtain⟨g,hg,g1,g2⟩:=Wm fn a.tmps
 unfold resV at h
 rw[hg]
 simp only[Array.mapM_eq_mapM_toList]
 split at h
 ·rename_i u hu
  cases h
  obtain⟨rs,h1,h2⟩:=KT (P:=P) R g g1 g2 _ _ hu
  simp only[allSome]at h2
  split at h2
  ·rename_i rv hrv
   cases h2
   refine⟨rv,?_,by rw[xdd];exact hrv⟩
   simp only[Sem.run_bind,Sem.run_map,h1]
   rfl
  ·cases h2
 ·rename_i l hne hl
  cases h
  obtain⟨rs,h1,h2⟩:=KT (P:=P) R g g1 g2 _ _ hl
  have hlen:=xQ _ _ _ h2
  refine⟨.tuple rs.toArray,?_,by simp[denV,h2]⟩
  simp only[Sem.run_bind,Sem.run_map,h1]
  simp only[Result.andThen_ok,Sem.run_pure]
  rw[dif_neg]
  intro h3
  simp only[List.size_toArray]at h3
  rw[hlen]at h3
  obtain⟨x,hx⟩:=List.length_eq_one_iff.1 h3
  exact hne x hx
 ·cases h
end
end Lx
namespace Lx
open Go
section
variable{P:Program}{Γ:yc}
theorem ZH{β γ:Type}{ops:Array Oper}(κ:β->T γ)(pu:PM)(o:Oper)(st:St)(k:St->T β):(ye P Γ ops pu o st k).bind κ=ye P Γ ops pu o st fun st'=>(k st').bind κ:=by
 rw[jZ,T.bind_assoc,<- jZ]
theorem Wn{β γ:Type}{ops:Array Oper}(κ:β->T γ) : ∀ (l:List Oper) (st:St) (k:St->T β),(Vr P Γ ops l st k).bind κ=Vr P Γ ops l st fun st'=>(k st').bind κ
 | [],st,k=>rfl
 | o::l,st,k=>by
  simp only[Vr]
  rw[ZH]
  congr 1
  funext st'
  exact Wn κ l st' k
theorem kN{β γ:Type}{ops:Array Oper}{b:Array Nat}{D:List Nat}{A:List (Nat×Nat)}(κ:β->T γ) : ∀ (l:List Nat) (st:St) (k:St->T β),(yD P Γ ops b D A l st k).bind κ=yD P Γ ops b D A l st fun st'=>(k st').bind κ
 | [],st,k=>rfl
 | i::l,st,k=>by
  simp only[yD]
  split
  ·split
   ·rw[ZH]
    congr 1
    funext st'
    exact kN κ l st' k
   ·rfl
  ·rfl
theorem Wo{β γ:Type}{F:St->(St->T β)->T β}{G:St->(St->T γ)->T γ}(κ:β->T γ)(h : ∀st k,(F st k).bind κ=G st fun st'=>(k st').bind κ) : ∀ (n:Nat) (st:St),(YA n F st).bind κ=YA n G st
 | 0,_=>rfl
 | n+1,st=>by
  simp only[YA]
  rw[h]
  congr 1
  funext st'
  exact Wo κ h n st'
theorem ev_bind{β γ:Type}(n:Fu)(m0:Nat)(κ:β->T γ) : ∀ (c:Code) (lv:Nat) (st:St) (K:Ex->St->T β),(ev P Γ n m0 c lv st K).bind κ=ev P Γ n m0 c lv st fun e st'=>(K e st').bind κ:=by
 intro c
 induction c with
 | skip=>intro lv st K;rfl
 | label=>intro lv st K;rfl
 | seq a b iha ihb=>
  intro lv st K
  simp only[ev]
  rw[iha]
  congr 1
  funext e st'
  cases e with
  | normal=>
   simp only
   cases cutS n b with
   | true=>
    simp only
    cases normC n m0 (lv ||| (ue b).1) st' with
    | none=>rfl
    | some st2=>
     simp only
     rw[ihb]
     congr 1
     funext e3 st3
     unfold xdb
     cases normC n m0 lv st3<;>rfl
   | false=>exact ihb _ _ _
  | exit i=>rfl
  | ret=>rfl
 | cond c a b iha ihb=>
  intro lv st K
  simp only[ev]
  split
  ·rename_i t _
   cases t
   ·exact ihb _ _ _
   ·exact iha _ _ _
  ·rfl
 | block id c ih=>
  intro lv st K
  simp only[ev]
  rw[ih]
  congr 1
  funext e st'
  cases e with
  | normal=>rfl
  | exit i=>simp only;split<;>rfl
  | ret=>rfl
 | scope c ih=>intro lv st K;exact ih _ _ _
 | exit id=>intro lv st K;rfl
 | ret=>intro lv st K;rfl
 | loop c ih=>
  intro lv st K
  simp only[ev]
  split
  ·refine Wo κ (fun st k =>?_) n.n _
   rw[ih]
   congr 1
   funext e st'
   cases e with
   | normal=>simp only;split<;>rfl
   | exit i=>simp only;split<;>rfl
   | ret=>simp only;split<;>rfl
  ·rfl
 | region p ops draw=>
  intro lv st K
  simp only[ev]
  split
  ·split
   ·split
    ·exact kN κ _ _ _
    ·rfl
   ·split
    ·split
     ·exact kN κ _ _ _
     ·rfl
    ·split
     ·exact kN κ _ _ _
     ·rfl
  ·exact Wn κ _ _ _
 | _=>intros;rfl
def evFK{β:Type}(P:Program)(Γ:yc)(n:Fu)(fn:Func)(args:List V)(H:Heap)(k:V×Heap->T β):T β:=
 match fn.body with
 | some c=>ev P Γ n H.length c (Yg fn.results.toList) ⟨begun fn args,H⟩ fun e st=>match e with
  | .exit _ =>.fail
  | .normal | .ret=>match resV P fn st with
   | some v=>match finish H.length v st.heap with
    | some r=>k r
    | none =>.fail
   | none =>.fail
 | none =>.fail
theorem xeq{β:Type}(n:Fu)(fn:Func)(args:List V)(H:Heap)(k:V×Heap->T β):evFK P Γ n fn args H k=(evF P Γ n fn args H).bind k:=by
 cases hb:fn.body with
 | none=>simp only[evFK,evF,hb];rfl
 | some c=>
  simp only[evFK,evF,hb]
  rw[ev_bind]
  congr 1
  funext e st
  cases e with
  | exit i=>rfl
  | normal=>
   simp only[endF]
   cases resV P fn st with
   | none=>rfl
   | some v=>simp only;cases finish (List.length H) v st.heap<;>rfl
  | ret=>
   simp only[endF]
   cases resV P fn st with
   | none=>rfl
   | some v=>simp only;cases finish (List.length H) v st.heap<;>rfl
def inl(P:Program)(Γ:yc)(n:Fu)(fn:Func):List V->Heap->Option Sum:=fun args H=>
 some ⟨V×Heap,evF P Γ n fn args H,some,fun _ k=>evFK P Γ n fn args H k,fun _ k=>xeq n fn args H k⟩
end
end Lx
end Go.Proofs.YtealkpadijffoaaGreatDoor
