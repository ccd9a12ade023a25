/- Part. -/
import Derived.Test.YtcicjcggclhbfaaGreatCsM1
import Derived.Scope
set_option linter.all false
open Go.IntKind (i64 u64 u32 u8)
namespace Go.Proofs.YtcicjcggclhbfaaGreat
namespace Lx
open Go
def Flat(pv:Value)(v:V)(rv:Value):Prop :=∀e,denV pv e v=some rv
structure Port(P:Program)(σ:Type) where
 pv:Value
 t:TypeId
 u:Value
 isIface:pv = .iface t u
 step:PStep σ
 Rep:σ->(Nat->Prop)->World->Prop
 lt : ∀ {s F w},Rep s F w ->∀b,F b->b<w.heap.size
 stable : ∀ {s F w w'},Rep s F w->(∀b,F b->w'.heap[b]? = w.heap[b]?)->Rep s F w'
 sure : ∀name,portMeth name=true ->∀w,(nilAhead (P.types.size+Made.depth) t u name).run P w = .ok (some false) w
 does : ∀ {name args p s s' x F w} {vs:List Value},popOf name args=some p->step p s=some (x,s')->allSome (denV pv []) args=some vs->Rep s F w->
  ∃f recv rv,(∀w,(callMethod pv name vs.toArray).run P w = .ok (.enter f (#[recv]++vs.toArray)) w)/\Flat pv (ansV p x) rv/\
   Calls P f (#[recv]++vs.toArray) w fun e w'=>e = .returned rv/\ ∃F',Rep s' F' w'/\Keeps F w w'/\ ∀b,F' b->F b\/w.heap.size<=b
section
variable{P:Program}{σ:Type}(I:Port P σ)
theorem Port.one:One I.pv:=by rw[I.isIface];exact⟨(fun _ h=>by cases h),(fun _ h=>by cases h)⟩
theorem Port.ex : ∃t u,I.pv = .iface t u:=⟨I.t,I.u,I.isIface⟩
variable{ρ:Operand->Option V}{ra:Operand->Value}{o:Oper}{e:Env}{H:Heap}{w:World}
theorem xAE{x:Operand}{s:String}(hρ:Says I.pv e ρ ra)(E:Emb I.pv e H w)(ho:o.op = .nilCheck x)(hx:ρ x=some (.c (.meth s .port)))(hs:portMeth s=true):Did P I.pv ra o e H w (.c (.meth s .port)) H:=by
 have h1:=hρ x _ hx
 refine xH E (rv:=ra x) ?_ h1
 simp only[denV,den,dL,oI]at h1
 rw[I.isIface]at h1
 have h2:=I.sure s hs w
 simp only[execOp,ho,<- h1]
 simp[show(program.run P w) = .ok P w from rfl,h2]
theorem xrm{v:V}{H':Heap}(hρ:Says I.pv e ρ ra)(E:Emb I.pv e H w)(h:xl P o.op ρ H=some (.val true v H')):Did P I.pv ra o e H w v H':=by
 have hp:=I.one
 have Ag:=I.ex
 generalize ho:o.op=op at h
 unfold xl at h
 split at h
 case h_1 x=>
  rw[oM]at h;obtain⟨v',h1,h2⟩:=h;cases h2
  exact xoQ hρ E (.inl ho) h1
 case h_2 x=>
  rw[oM]at h;obtain⟨v',h1,h2⟩:=h;cases h2
  exact xoQ hρ E (.inr ho) h1
 case h_3 c a b=>
  split at h
  .rename_i t hc
   cases t
   .simp only[oM]at h;obtain⟨v',h1,h2⟩:=h;cases h2
    exact xoR hρ E ho hc h1
   .simp only[oM]at h;obtain⟨v',h1,h2⟩:=h;cases h2
    exact xoR hρ E ho hc h1
  .cases h
 case h_4 t=>
  split at h
  .rename_i z hz
   split at h
   .rename_i cs hc
    cases h
    exact xxx hp E ho hz hc
   .cases h
  .cases h
 case h_5 t x=>
  split at h
  .rename_i v' hv
   split at h
   .rename_i cs hc
    cases h
    exact did_box hρ hp E ho hv hc
   .cases h
  .cases h
 case h_6 t parts=>
  split at h
  .rename_i z ps hz rc
   split at h
   .rename_i cs fs hc hu
    split at h
    .rename_i places bw
     rw[oM]at h;obtain⟨r,h1,h2⟩:=h;cases h2
     exact xsO hp hρ E ho hz rc hc hu bw h1
    .cases h
   .rename_i cs n el hc hu
    split at h
    .rename_i n hn
     rw[oM]at h;obtain⟨r,h1,h2⟩:=h;cases h2
     exact xsP hp hρ E ho hz rc hc hu hn h1
    .cases h
   .cases h
  .cases h
 case h_7 t len parts=>
  split at h
  .rename_i el ps hu rc
   split at h
   .rename_i n z hn hz
    split at h
    .rename_i zs uh
     split at h
     .rename_i h0
      split at h
      .rename_i r hr
       cases h
       exact xfH hp hρ E ho hu rc hn hz uh h0 hr
      .cases h
     .cases h
    .cases h
   .cases h
  .cases h
 case h_8 t a=>
  split at h
  .rename_i b q ha
   split at h
   .rename_i k hk
    rw[oM]at h;obtain⟨⟨g,r⟩,h1,h2⟩:=h
    simp only[Stp.val.injEq]at h2
    obtain⟨rfl,rfl,rfl⟩:=h2
    exact xz3 hρ E ho ha hk h1
   .cases h
  .rename_i b off i n f ha
   split at h
   .rename_i k hk
    rw[oM]at h;obtain⟨⟨g,r⟩,h1,h2⟩:=h
    simp only[Stp.val.injEq]at h2
    obtain⟨rfl,rfl,rfl⟩:=h2
    exact xxy hρ E ho ha hk h1
   .cases h
  .cases h
 case h_9 t a x=>
  split at h
  .rename_i b q v' ha hx
   split at h
   .rename_i k xs n hk oh hn
    split at h
    .rename_i hl
     split at h
     .rename_i g kn dz
      simp only[oI,Stp.val.injEq]at h
      obtain⟨rfl,rfl,rfl⟩:=h
      exact xjB hρ hp E ho (xeg hρ ha) hx hk oh hn hl dz
     .cases h
    .cases h
   .cases h
  .rename_i b off i m f v' ha hx
   split at h
   .rename_i k xs n hk oh hn
    split at h
    .rename_i hl
     split at h
     .rename_i g kn dz
      simp only[oI,Stp.val.injEq]at h
      obtain⟨rfl,rfl,rfl⟩:=h
      refine xjB hρ hp E ho ?_ hx hk oh hn hl dz
      obtain⟨r,g1,g2⟩:=xz5 hρ ha
      exact⟨r,g1,by rw[prO_eq];exact g2⟩
     .cases h
    .cases h
   .cases h
  .cases h
 case h_10 x=>
  split at h
  .cases h
  .cases h
  .cases h
  .rename_i s c hx
   split at h
   .split at h
    .rename_i hs
     cases h
     exact xAE I hρ E ho hx hs
    .cases h
   .cases h
  .cases h
   rename_i h1 h2 h3 h4 hx
   exact xld Ag hρ E ho hx h1 h2 h3 h4
  .cases h
 case h_11 op t x y u=>
  split at h
  .rename_i a b ha hb
   rw[oM]at h;obtain⟨⟨g,r⟩,h1,h2⟩:=h
   simp only[Stp.val.injEq]at h2
   obtain⟨rfl,rfl,rfl⟩:=h2
   exact did_bin Ag hρ E ho ha hb h1
  .rename_i l m ha hb
   rw[oM]at h;obtain⟨r,h1,h2⟩:=h;cases h2
   exact xz7 hρ E ho ha hb h1
  .cases h
 case h_12 op t x=>
  split at h
  .rename_i a ha
   rw[oM]at h;obtain⟨r,h1,h2⟩:=h;cases h2
   exact did_un hρ E ho ha h1
  .cases h
 case h_13 s d x=>
  split at h
  .rename_i k n t j hx hs hd
   cases h
   exact xz4 hρ E ho hx hd ⟨_,hs⟩
  .cases h
 case h_14 f first captured=>
  split at h
  .rename_i hf
   split at h
   .rename_i vs ma
    rw[oM]at h;obtain⟨r,h1,h2⟩:=h;cases h2
    exact xz8 hρ E ho hf ma h1
   .cases h
  .cases h
 case h_15 s first captured=>
  split at h
  .rename_i hf
   split at h
   .rename_i x hx
    split at h
    .rename_i c hc
     cases h
     exact xz9 hρ E ho hf hx hc
    .cases h
   .cases h
  .cases h
 case h_16 t x lo hi=>
  split at h
  .rename_i n el b q l hh hu hx hl Do
   split at h
   .rename_i z g1 h' hz dl
    split at h
    .rename_i g2 l' cm
     simp only[oI,Stp.val.injEq,dK]at h
     obtain⟨⟨rfl,rfl⟩,rfl,rfl⟩:=h
     exact xlj hρ E ho hu hx hl Do hz dl cm
    .cases h
   .cases h
  .rename_i el b q len cap l hh hu hx hl Do
   split at h
   .rename_i z g1 h' hz dl
    split at h
    .rename_i g2 l' cm
     simp only[oI,Stp.val.injEq,dK]at h
     obtain⟨⟨rfl,rfl⟩,rfl,rfl⟩:=h
     exact xoW hρ E ho hu hx hl Do hz dl cm
    .cases h
   .cases h
  .rename_i el b len l hh hu hx hl Do
   split at h
   .rename_i g1 h' dl
    split at h
    .rename_i g2 l' cm
     split at h
     .rename_i hz
      simp only[oI,Stp.val.injEq,dK]at h
      obtain⟨⟨rfl,rfl⟩,rfl,rfl⟩:=h
      exact xlk hρ E ho hu hx hl Do hz dl cm
     .cases h
    .cases h
   .cases h
  .rename_i el b len l hh hu hx hl Do
   split at h
   .rename_i z g1 h' hz dl
    split at h
    .rename_i g2 l' cm
     simp only[oI,Stp.val.injEq,dK]at h
     obtain⟨⟨rfl,rfl⟩,rfl,rfl⟩:=h
     exact xll hρ E ho hu hx hl Do hz dl cm
    .cases h
   .cases h
  .cases h
 case h_17 t x f=>
  split at h
  .rename_i fs b q hu hx
   split at h
   .rename_i fd Gj
    split at h
    .rename_i n hn
     split at h
     .cases h
     .rename_i ll
      cases h
      exact xiA hρ E ho hu hx Gj hn ll
    .cases h
   .cases h
  .rename_i fs b off i m q hu hx
   split at h
   .rename_i fd Gj
    split at h
    .rename_i n hn
     split at h
     .cases h
     .rename_i ll
      cases h
      exact xfF hρ E ho hu hx Gj hn ll
    .cases h
   .cases h
  .cases h
 case h_18 t x f=>
  split at h
  .rename_i fs cs hu hx
   split at h
   .rename_i fd Gj
    rw[oM]at h;obtain⟨r,h1,h2⟩:=h;cases h2
    exact xxz hρ E ho hu hx Gj h1
   .cases h
  .cases h
 case h_19 t x ix=>
  split at h
  .rename_i len el b q k i hu hx hi
   rw[oM]at h;obtain⟨n,h1,h2⟩:=h
   simp only[Stp.val.injEq,decide_eq_true_eq]at h2
   obtain⟨hg,rfl,rfl⟩:=h2
   exact xle hρ E ho hu hx hi h1 hg
  .rename_i el b q len cap k i hu hx hi
   rw[oM]at h;obtain⟨n,h1,h2⟩:=h
   simp only[Stp.val.injEq,decide_eq_true_eq]at h2
   obtain⟨hg,rfl,rfl⟩:=h2
   exact xoT hρ E ho hu hx hi h1 hg
  .rename_i el b q len k i hu hx hi
   split at h
   .rename_i h1
    simp only[oI,Stp.val.injEq,decide_eq_true_eq]at h
    obtain⟨hg,rfl,rfl⟩:=h
    exact xlf hρ E ho hu hx hi h1 hg
   .cases h
  .rename_i el b q z len cap k i hu hx hi
   rw[oM]at h;obtain⟨n,h1,h2⟩:=h
   simp only[Stp.val.injEq,decide_eq_true_eq]at h2
   obtain⟨hg,rfl,rfl⟩:=h2
   exact xlg hρ E ho hu hx hi h1 hg
  .rename_i el b len k i hu hx hi
   rw[oM]at h;obtain⟨n,h1,h2⟩:=h
   simp only[Stp.val.injEq,decide_eq_true_eq]at h2
   obtain⟨hg,rfl,rfl⟩:=h2
   exact xlh hρ E ho hu hx hi h1 hg
  .cases h
 case h_20 t x ix=>
  split at h
  .rename_i len el cs k i hu hx hi
   split at h
   .rename_i n hn
    rw[oM]at h;obtain⟨v',h1,h2⟩:=h
    simp only[Stp.val.injEq,decide_eq_true_eq]at h2
    obtain⟨hg,rfl,rfl⟩:=h2
    exact xxA hρ E ho hu hx hi hn hg (xzW h1 hg)
   .cases h
  .cases h
 case h_21 t ix=>
  split at h
  .rename_i l hx
   rw[oM]at h;obtain⟨v',h1,h2⟩:=h;cases h2
   exact xoS hρ E ho hx h1
  .cases h
 case h_22 c=>
  split at h
  .rename_i args bx
   split at h
   .rename_i b hb
    have mr:o.op = .call {callee :=.builtin b,args:=c.args,argTypes:=c.argTypes}:=by rw[ho,<- hb]
    split at h
    .exact xsQ hp hρ E mr bx h
    .exact xsT hρ E mr bx h
    .exact did_len hρ E mr bx h
   .split at h
    .rw[oM]at h;obtain⟨v',h1,h2⟩:=h;cases h2
    .cases h
   .split at h
    .cases h
    .rw[oM]at h;obtain⟨v',h1,h2⟩:=h;cases h2
    .cases h
  .cases h
 case h_23 t l c=>
  split at h
  .rename_i el k n k' n' hu hl hc
   split at h
   .rename_i kd i hz
    split at h
    .rename_i P6
     obtain⟨oc,rfl⟩:=P6
     simp only[oI,Stp.val.injEq,decide_eq_true_eq]at h
     obtain⟨hg,rfl,rfl⟩:=h
     exact xiD hρ E ho hu hl hc hz oc hg
    .cases h
   .cases h
  .cases h
 case h_24 t=>
  split at h
  .rename_i ht
   cases h
   exact xo3 E ho ht
  .cases h
 case h_25 t m x ok=>exact xsR hρ E ho h
 case h_26 t m x y=>exact xsS hρ E ho h
 case h_27 t x=>
  split at h
  .rename_i c d hx hu
   split at h
   .cases h
   .rename_i hd
    cases h
    exact xxC hρ E ho hx hu (by simpa using hd)
  .cases h
 case h_28=>cases h
end
end Lx
namespace Lx
open Go
theorem yf{H:Heap}{i:Nat}{k:Blk}:blkAt H i=some k↔H[i]? = some (some k):=by
 rw[xN]
 cases h:H[i]? with
 | none=>simp
 | some x=>simp
theorem Blk.win_of{k k':Blk}(h:k.tab=k'.tab):k.win=k'.win:=by unfold Blk.win;rw[h]
theorem Blk.wid_of{k k':Blk}(h:k.tab=k'.tab):k.wid=k'.wid:=by unfold Blk.wid;rw[h]
theorem Blk.virt_of{k k':Blk}(h:k.tab=k'.tab)(h':k.grown=k'.grown):k.virt=k'.virt:=by unfold Blk.virt;rw[h,h']
theorem Blk.mapped_of{k k':Blk}(h:k.tab=k'.tab):k.mapped=k'.mapped:=by unfold Blk.mapped;rw[h]
theorem Lies.like{w:World}{r:Nat×Nat}{k k':Blk}{cs:List Value}(h:Lies w r k' cs)(h1:k.elem=k'.elem)(h2:k.grown=k'.grown)(h3:k.tab=k'.tab):Lies w r k cs:=by
 unfold Lies at h |-
 rw[Blk.virt_of h3 h2,Blk.mapped_of h3,Blk.win_of h3,Blk.wid_of h3,h1,h2];exact h
/-! ### renaming -/
mutual
theorem xa5{pv:Value}{e e':Env}{r:Nat->Option Nat}(hr : ∀b b' x,r b=some b'->e[b]? = some x->e'[b']? = some x) : ∀ (c c':C) (v:Value),renC r c=some c'->den pv e c=some v->den pv e' c'=some v
 | .bool b,c',v,h,hv=>by simp only[renC,oI]at h;subst h;simpa[den]using hv
 | .int k n,c',v,h,hv=>by simp only[renC,oI]at h;subst h;simpa[den]using hv
 | .nilp,c',v,h,hv=>by simp only[renC,oI]at h;subst h;simpa[den]using hv
 | .nils,c',v,h,hv=>by simp only[renC,oI]at h;subst h;simpa[den]using hv
 | .nilf,c',v,h,hv=>by simp only[renC,oI]at h;subst h;simpa[den]using hv
 | .nili,c',v,h,hv=>by simp only[renC,oI]at h;subst h;simpa[den]using hv
 | .port,c',v,h,hv=>by simp only[renC,oI]at h;subst h;simpa[den]using hv
 | .mp b,c',v,h,hv=>by
  simp only[renC,oM]at h
  obtain⟨b',hb,rfl⟩:=h
  simp only[den,oM]at hv |-
  obtain⟨x,hx,rfl⟩:=hv
  exact⟨x,hr b b' x hb hx,rfl⟩
 | .ptr b o,c',v,h,hv=>by
  simp only[renC,oM]at h
  obtain⟨b',hb,rfl⟩:=h
  simp only[den]at hv |-
  exact xn (fun x hx=>hr b b' x hb hx) hv
 | .sl b o n m,c',v,h,hv=>by
  simp only[renC,oM]at h
  obtain⟨b',hb,rfl⟩:=h
  simp only[den]at hv |-
  exact xn (fun x hx=>hr b b' x hb hx) hv
 | .slg b o n,c',v,h,hv=>by
  simp only[renC,oM]at h
  obtain⟨b',hb,rfl⟩:=h
  simp only[den]at hv |-
  exact yW (fun x hx=>hr b b' x hb hx) hv
 | .pr b o i n f,c',v,h,hv=>by
  simp only[renC,oM]at h
  obtain⟨b',hb,rfl⟩:=h
  simp only[den]at hv |-
  exact xn (fun x hx=>hr b b' x hb hx) hv
 | .slw b o z n m,c',v,h,hv=>by
  simp only[renC,oM]at h
  obtain⟨b',hb,rfl⟩:=h
  simp only[den]at hv |-
  exact xn (fun x hx=>hr b b' x hb hx) hv
 | .slr b n,c',v,h,hv=>by
  simp only[renC,oM]at h
  obtain⟨b',hb,rfl⟩:=h
  simp only[den]at hv |-
  exact yW (fun x hx=>hr b b' x hb hx) hv
 | .slv b z o n,c',v,h,hv=>by
  simp only[renC,oM]at h
  obtain⟨b',hb,rfl⟩:=h
  simp only[den]at hv |-
  exact yW (fun x hx=>hr b b' x hb hx) hv
 | .fn f caps,c',v,h,hv=>by
  simp only[renC,oM]at h
  obtain⟨l,hl,rfl⟩:=h
  simp only[den]at hv |-
  exact xn (fun x hx=>XU hr caps l x hl hx) hv
 | .meth s c,c',v,h,hv=>by
  simp only[renC,oM]at h
  obtain⟨l,hl,rfl⟩:=h
  simp only[den]at hv |-
  exact xn (fun x hx=>xa5 hr c l x hl hx) hv
 | .ifc t c,c',v,h,hv=>by
  simp only[renC,oM]at h
  obtain⟨l,hl,rfl⟩:=h
  simp only[den]at hv |-
  exact xn (fun x hx=>xa5 hr c l x hl hx) hv
theorem XU{pv:Value}{e e':Env}{r:Nat->Option Nat}(hr : ∀b b' x,r b=some b'->e[b]? = some x->e'[b']? = some x) : ∀ (l l':List C) (vs:List Value),wC r l=some l'->denL pv e l=some vs->denL pv e' l'=some vs
 | [],l',vs,h,hv=>by simp only[wC,oI]at h;subst h;simpa[denL]using hv
 | c::l,l',vs,h,hv=>by
  simp only[wC]at h
  split at h
  .rename_i c' hc
   split at h
   .rename_i l'' hl
    cases h
    simp only[denL]at hv |-
    split at hv
    .rename_i v Qn
     split at hv
     .rename_i us hu
      cases hv
      rw[xa5 hr c c' v hc Qn,XU hr l l'' us hl hu]
     .cases hv
    .cases hv
   .cases h
  .cases h
end
theorem xyw{pv:Value}{e e':Env}{r:Nat->Option Nat}(hr : ∀b b' x,r b=some b'->e[b]? = some x->e'[b']? = some x)(x x':V1)(v:Value)(h:xdg r x=some x')(hv:yV pv e x=some v):yV pv e' x'=some v:=by
 cases x with
 | c a=>
  simp only[xdg,oM]at h
  obtain⟨a',ha,rfl⟩:=h
  exact xa5 hr a a' v ha hv
 | agg l=>
  simp only[xdg,oM]at h
  obtain⟨a',ha,rfl⟩:=h
  simp only[yV]at hv |-
  exact xn (fun x hx=>XU hr l a' x ha hx) hv
theorem ZR{α β γ δ:Type}{f:α->Option β}{g:α->Option γ}{h:β->Option δ}{j:γ->δ}(hh : ∀x y z,f x=some y->g x=some z->h y=some (j z)) : ∀ (l:List α) (ys:List β) (zs:List γ),allSome f l=some ys->allSome g l=some zs->allSome h ys=some (zs.map j)
 | [],ys,zs,h1,h2=>by
  simp only[allSome,oI]at h1 h2
  subst h1;subst h2;rfl
 | x::l,ys,zs,h1,h2=>by
  simp only[allSome]at h1 h2
  split at h1
  .rename_i y hy
   split at h1
   .rename_i Nu lr
    cases h1
    split at h2
    .rename_i z hz
     split at h2
     .rename_i Nt uh
      cases h2
      simp only[allSome,hh x y z hy hz,ZR hh l Nu Nt lr uh,List.map_cons]
     .cases h2
    .cases h2
   .cases h1
  .cases h1
theorem xa6{pv:Value}{e e':Env}{r:Nat->Option Nat}(hr : ∀b b' x,r b=some b'->e[b]? = some x->e'[b']? = some x)(x x':V)(v:Value)(h:renV r x=some x')(hv:denV pv e x=some v):denV pv e' x'=some v:=by
 cases x with
 | c a=>
  simp only[renV,oM]at h
  obtain⟨a',ha,rfl⟩:=h
  exact xa5 hr a a' v ha hv
 | agg l=>
  simp only[renV,oM]at h
  obtain⟨a',ha,rfl⟩:=h
  simp only[denV]at hv |-
  exact xn (fun x hx=>XU hr l a' x ha hx) hv
 | tup l=>
  simp only[renV,oM]at h
  obtain⟨l',hl,rfl⟩:=h
  simp only[denV,oM]at hv |-
  obtain⟨vs,h1,h2⟩:=hv
  refine⟨vs,?_,h2⟩
  have:=ZR (h:=yV pv e') (j:=id) (fun x y z hy hz=>xyw hr x y z hy hz) l l' vs hl h1
  simpa using this
/-! ### the blocks that values lead to -/
theorem XV(H:Heap) : ∀ (n:Nat) (todo acc l:List Nat),wf H n todo acc=some l->acc.Nodup->(∀b∈acc,∃k,blkAt H b=some k)->l.Nodup/\(∀b∈l,∃k,blkAt H b=some k)/\ ∃x,l=acc++x
 | n,[],acc,l,h,h1,h2=>by
  have:acc=l:=by cases n<;>simpa[wf]using h
  subst this
  exact⟨h1,h2,[],by simp⟩
 | 0,b::todo,acc,l,h,h1,h2=>by simp[wf]at h
 | n+1,b::todo,acc,l,h,h1,h2=>by
  simp only[wf]at h
  split at h
  .exact XV H n todo acc l h h1 h2
  .rename_i hc
   split at h
   .rename_i k hk
    have hb:b∉acc:=by simpa using hc
    obtain⟨g1,g2,x,g3⟩:=XV H n _ (acc ++ [b]) l h (by
     rw[List.nodup_append]
     refine⟨h1,by simp,fun a ha c hc =>?_⟩
     simp only[List.mem_singleton]at hc
     subst hc
     exact fun e=>hb (e▸ha)) (fun c hc=>by
     rcases List.mem_append.1 hc with h|h
     .exact h2 c h
     .simp only[List.mem_singleton]at h
      subst h
      exact⟨k,hk⟩)
    exact⟨g1,g2,[b]++x,by rw[g3];simp⟩
   .cases h
theorem xki{H:Heap}{m:Nat}{todo l:List Nat}(h:xk8 H m todo=some l):l.Nodup/\ ∀b∈l,∃k,blkAt H b=some k:=by
 unfold xk8 at h
 split at h
 .rename_i ga
  rw[List.all_eq_true]at ga
  obtain⟨g1,g2,_⟩:=XV H _ _ _ l h List.nodup_range fun b hb=>Option.isSome_iff_exists.1 (ga b hb)
  exact⟨g1,g2⟩
 .cases h
theorem xa7 : ∀ (l:List Nat) (b i:Nat),idx l b=some i->l[i]? = some b
 | [],b,i,h=>by simp[idx]at h
 | x::l,b,i,h=>by
  simp only[idx]at h
  split at h
  .rename_i hx
   cases h
   simp[hx]
  .rw[oM]at h
   obtain⟨j,hj,rfl⟩:=h
   simpa using xa7 l b j hj
theorem ve : ∀ (l:List Nat) (xs:List (Option Blk)) (H:Heap),(vJ H l xs).length=H.length
 | [],xs,H=>by simp[vJ]
 | b::l,[],H=>by simp[vJ]
 | b::l,x::xs,H=>by simp only[vJ];rw[ve l xs,yC,List.length_set]
theorem XW : ∀ (l:List Nat) (xs:List (Option Blk)) (H:Heap) (j:Nat),j∉l->(vJ H l xs)[j]? = H[j]?
 | [],xs,H,j,h=>by simp[vJ]
 | b::l,[],H,j,h=>by simp[vJ]
 | b::l,x::xs,H,j,h=>by
  simp only[List.mem_cons,not_or]at h
  simp only[vJ]
  rw[XW l xs _ j h.2,yC,List.getElem?_set_ne (fun e=>h.1 e.symm)]
theorem xkj : ∀ (l:List Nat) (xs:List (Option Blk)) (H:Heap) (i j:Nat) (x:Option Blk),l.Nodup->l[i]? = some j->xs[i]? = some x->j<H.length->(vJ H l xs)[j]? = some x
 | [],xs,H,i,j,x,hn,hl,hx,hj=>by simp at hl
 | b::l,[],H,i,j,x,hn,hl,hx,hj=>by simp at hx
 | b::l,y::xs,H,0,j,x,hn,hl,hx,hj=>by
  simp only[List.getElem?_cons_zero,oI]at hl hx
  subst hl;subst hx
  simp only[vJ]
  rw[XW l xs _ b (List.nodup_cons.1 hn).1,yC,List.getElem?_set_self hj]
 | b::l,y::xs,H,i+1,j,x,hn,hl,hx,hj=>by
  simp only[List.getElem?_cons_succ]at hl hx
  simp only[vJ]
  exact xkj l xs _ i j x (List.nodup_cons.1 hn).2 hl hx (by rw[yC,List.length_set];exact hj)
/-! ### a callee's blocks -/
theorem xkk{r:Nat->Option Nat}{x:Option Blk}{k':Blk}(h:renB r x=some (some k')) : ∃k,x=some k/\wC r k.cells=some k'.cells/\k'.elem=k.elem/\k'.grown=k.grown/\k'.tab=k.tab:=by
 cases x with
 | none=>simp[renB]at h
 | some k=>
  simp only[renB,oM,oI]at h
  obtain⟨cs,h1,rfl⟩:=h
  exact⟨k,rfl,h1,rfl,rfl,rfl⟩
theorem xrn{pv:Value}{e e':Env}{r:Nat->Option Nat}(hr : ∀b b' x,r b=some b'->e[b]? = some x->e'[b']? = some x){k k':Blk}(hc:wC r k.cells=some k'.cells)(ht:k'.tab=k.tab){cs:List Value}(h:denL pv e k.real=some cs):denL pv e' k'.real=some cs:=by
 cases hk:k.tab with
 | none=>
  rw[Blk.real_none hk]at h
  rw[Blk.real_none (ht.trans hk)]
  exact XU hr _ _ _ hc h
 | some t=>
  rw[Blk.real_some hk]at h
  rw[Blk.real_some (ht.trans hk),qH (pv:=pv) (e:=e) (xfC t)]
  exact h
theorem xAF{r:Nat->Option Nat}{k k':Blk}(hc:wC r k.cells=some k'.cells)(ht:k'.tab=k.tab)(hk:k.ok):k'.ok:=by
 intro t h
 rw[hk t (ht.symm.trans h)]at hc
 simp only[wC,oI]at hc
 exact hc.symm
theorem Emb.sub{pv:Value}{e:Env}{H:Heap}{w:World}(E:Emb pv e H w){l:List Nat}(hn:l.Nodup)(hk : ∀b∈l,∃k,blkAt H b=some k){H0:Heap}(h:allSome (fun b=>renB (idx l) (blkAt H b)) l=some H0) :
  ∃e0:Env,e0.length=l.length/\(∀ (i b:Nat),l[i]? = some b->e0[i]? = e[b]?)/\Emb pv e0 H0 w/\ ∀q x,Own q e0 H0 x ->∃i∈l,∃k r,blkAt H i=some k/\e[i]? = some r/\r.1=x/\k.virt=false/\(q=true->k.win=none):=by
 have hl:=ye _ _ _ h
 have cj : ∀ (i b:Nat),l[i]? = some b->(l.map fun b=>(e[b]?).getD (0,0))[i]? = e[b]? :=by
  intro i b hb
  obtain⟨k,hk⟩:=hk b (List.mem_of_getElem? hb)
  obtain⟨r,hr⟩:=E.get hk
  rw[List.getElem?_map,hb,hr]
  simp[hr]
 have hr : ∀b b' x,idx l b=some b'->e[b]? = some x->(l.map fun b=>(e[b]?).getD (0,0))[b']? = some x:=fun b b' x h1 h2=>(cj b' b (xa7 l b b' h1)).trans h2
 have orig : ∀i k,blkAt H0 i=some k ->∃b k',l[i]? = some b/\blkAt H b=some k'/\wC (idx l) k'.cells=some k.cells/\k.elem=k'.elem/\k.grown=k'.grown/\k.tab=k'.tab:=by
  intro i k hk
  rw[yf]at hk
  have hi:i<l.length:=by rw[<- hl];exact(List.getElem?_eq_some_iff.1 hk).1
  obtain⟨y,h1,h2⟩:=yH _ _ _ h i _ (List.getElem?_eq_getElem hi)
  rw[hk]at h2
  cases h2
  obtain⟨k',h3,h4,h5,h6,h7⟩:=xkk h1
  exact⟨l[i],k',List.getElem?_eq_getElem hi,h3,h4,h5,h6,h7⟩
 refine⟨l.map fun b=>(e[b]?).getD (0,0),by simp,cj,⟨by simp[hl],fun i k hk =>?_,fun i j k k' r r' h1 h2 h3 h4 h5 v1 v2 =>?_,fun i k hk =>?_⟩,fun q x hx =>?_⟩
 .obtain⟨b,k',h1,h2,h3,h4,h5,h6⟩:=orig i k hk
  obtain⟨r,cs,g1,g2,g3⟩:=E.lies b k' h2
  exact⟨r,cs,(cj i b h1).trans g1,xrn hr h3 h6 g2,g3.like h4 h5 h6⟩
 rotate_left
 .obtain⟨b,k',h1,h2,h3,h4,h5,h6⟩:=orig i k hk
  exact xAF h3 h6 (E.ok b k' h2)
 rotate_right
 .obtain⟨b,kb,g1,g2,_,_,u1,w1⟩:=orig i k h1
  obtain⟨c,kc,g3,g4,_,_,u2,w2⟩:=orig j k' h2
  rw[Blk.virt_of w1 u1]at v1
  rw[Blk.virt_of w2 u2]at v2
  rw[cj i b g1]at h3
  rw[cj j c g3]at h4
  rcases E.alone b c kb kc r r' g2 g4 h3 h4 h5 v1 v2 with this|hw
  .subst this
   exact .inl ((List.getElem?_inj (List.getElem?_eq_some_iff.1 g1).1 hn).1 (g1.trans g3.symm))
  .rw[Blk.win_of w1,Blk.win_of w2];exact .inr hw
 .obtain⟨i,k,r,h1,h2,h3,hv,h4⟩:=hx
  obtain⟨b,kb,g1,g2,_,_,u3,g3⟩:=orig i k h1
  rw[cj i b g1]at h2
  exact⟨b,List.mem_of_getElem? g1,kb,r,g2,h2,h3,by rw[<- Blk.virt_of g3 u3];exact hv,fun hq=>by rw[<- Blk.win_of g3];exact h4 hq⟩
def SoundF{P:Program}{σ:Type}(I:Port P σ)(f:FuncId)(m:List V->Heap->Option Sum):Prop:=
 (∃fn c,P.funcs[f]? = some fn/\(fn.name == "runtime.NumGoroutine")=false/\fn.body=some c)/\
 ∀args H S,m args H=some S ->∀e w s F vs,Emb I.pv e H w->allSome (denV I.pv e) args=some vs->I.Rep s F w->(∀b,Own false e H b ->¬F b)->
 ∀x v H' s',S.t.run I.step s=some (x,s')->S.f x=some (v,H')->
 Calls P f vs.toArray w fun en w' =>∃e' F' rv,en = .returned rv/\Ext e e'/\denV I.pv e' v=some rv/\Emb I.pv e' H' w'/\I.Rep s' F' w'/\(∀b,Own false e' H' b ->¬F' b)/\
 Keeps (fun b=>Own true e H b\/F b) w w'/\ ∀q b,Own q e' H' b\/F' b->Own q e H b\/F b\/w.heap.size<=b
theorem T.run_bind_some{α β σ:Type}{step:PStep σ}{t:T α}{f:α->T β}{s s':σ}{b:β}(h:(t.bind f).run step s=some (b,s')) : ∃a s1,t.run step s=some (a,s1)/\(f a).run step s1=some (b,s'):=by
 rw[T.run_bind]at h
 split at h
 .rename_i a s1 hs
  exact⟨a,s1,hs,h⟩
 .cases h
theorem xuZ{P:Program}{σ:Type}(I:Port P σ){Γ:yc}(hΓ : ∀f m,Γ f=some m->SoundF I f m){f:FuncId}{args:List V}{H:Heap}{S:Sum}(h:jn Γ f args H=some S)
  {e:Env} {w:World} {s s':σ} {F:Nat->Prop} {vs:List Value} (E:Emb I.pv e H w) (hv:allSome (denV I.pv e) args=some vs) (hR:I.Rep s F w) (hF : ∀b,Own false e H b ->¬F b) {v:V} {H':Heap} {x:S.α} (hrun:S.t.run I.step s=some (x,s')) (cx:S.f x=some (v,H')) :
  (∃fn c,P.funcs[f]? = some fn/\(fn.name == "runtime.NumGoroutine")=false/\fn.body=some c)/\
  Calls P f vs.toArray w fun en w' =>∃e' F' rv,en = .returned rv/\Ext e e'/\denV I.pv e' v=some rv/\Emb I.pv e' H' w'/\I.Rep s' F' w'/\(∀b,Own false e' H' b ->¬F' b)/\
    Keeps (fun b=>Own true e H b\/F b) w w'/\ ∀q b,Own q e' H' b\/F' b->Own q e H b\/F b\/w.heap.size<=b:=by
 unfold jn at h
 split at h
 .cases h
 .rename_i m hm
  obtain⟨bh,o6⟩:=hΓ f m hm
  refine⟨bh,?_⟩
  split at h
  .cases h
  .rename_i l hl
   obtain⟨hn,hk,_⟩:=XV H _ _ [] l hl (by simp) (by simp)
   split at h
   .rename_i fy H0 bx hH0
    split at h
    .cases h
    .rename_i t0 uk
     cases h
     obtain⟨e0,Bm,Bq,E0,Bj⟩:=E.sub hn hk hH0
     have uw:=hrun
     have dv:=cx
     have hr : ∀b b' x,idx l b=some b'->e[b]? = some x->e0[b']? = some x:=fun b b' x h1 h2=>(Bq b' b (xa7 l b b' h1)).trans h2
     have D1:allSome (denV I.pv e0) fy=some vs:=by
      have:=ZR (h:=denV I.pv e0) (j:=id) (fun x y z hy hz=>xa6 hr x y z hy hz) args fy vs bx hv
      simpa using this
     have Cs : ∀q x,Own q e0 H0 x->Own q e H x:=by
      intro q x hx
      obtain⟨i,hi,k,r,h1,h2,h3,hv,h4⟩:=Bj q x hx
      exact⟨i,k,r,h1,h2,h3,hv,h4⟩
     simp only at dv
     split at dv
     .cases dv
     rename_i r0 df
     obtain⟨v0,H1⟩:=r0
     simp only at dv
     split at dv
     .rename_i v1 H2 Jj hH2
      split at dv
      .rename_i ff
       simp only[oI,dH]at dv
       obtain⟨rfl,rfl⟩:=dv
       refine(o6 fy H0 t0 uk e0 w s F vs E0 D1 hR (fun b hb=>hF b (Cs _ b hb)) x v0 H1 _ uw df).mono ?_
       rintro en w' ⟨e0',F',rv,Qf,⟨xs,hx⟩,hd,E1,hR',hF',hK,j8⟩
       subst hx
       have Pv:=E.len
       have Ap:Ext e (e++xs):=⟨xs,rfl⟩
       have hb : ∀i i' y,(fun i=>some (jm l H.length i)) i=some i'->(e0++xs)[i]? = some y->(e++xs)[i']? = some y:=by
        intro i i' y h1 h2
        simp only[oI]at h1
        subst h1
        unfold jm
        split
        .rename_i hi
         rw[List.getElem?_append_left (by omega)]at h2
         rw[Bq i l[i] (List.getElem?_eq_getElem hi)]at h2
         rw[List.getD_eq_getElem?_getD,List.getElem?_eq_getElem hi]
         exact Ap.get h2
        .rename_i hi
         rw[List.getElem?_append_right (by omega)]at h2
         rw[List.getElem?_append_right (by omega),<- h2]
         congr 1
         omega
       have fg:=ye _ _ _ hH2
       have orig : ∀i k,H2[i]? = some (some k) ->∃k',blkAt H1 i=some k'/\wC (fun i=>some (jm l H.length i)) k'.cells=some k.cells/\k.elem=k'.elem/\k.grown=k'.grown/\k.tab=k'.tab:=by
        intro i k hk
        have hi:i<H1.length:=by rw[<- fg];exact(List.getElem?_eq_some_iff.1 hk).1
        obtain⟨y,h1,h2⟩:=yH _ _ _ hH2 i _ (List.getElem?_eq_getElem hi)
        rw[hk]at h2
        cases h2
        obtain⟨k',h3,h4,h5,h6,h7⟩:=xkk h1
        exact⟨k',by rw[yf,List.getElem?_eq_getElem hi,h3],h4,h5,h6,h7⟩
       -- where a block behind the call comes from
       have from_ : ∀j k,blkAt (vJ H l H2++H2.drop l.length) j=some k->(j∉l/\blkAt H j=some k)\/ ∃i,jm l H.length i=j/\H2[i]? = some (some k):=by
        intro j k hj
        rw[yf]at hj
        by_cases sn:j<H.length
        .rw[List.getElem?_append_left (by rw[ve];exact sn)]at hj
         by_cases bi:j∈l
         .right
          obtain⟨i,hi⟩:=List.getElem?_of_mem bi
          have F6:=(List.getElem?_eq_some_iff.1 hi).1
          have dy:i<H2.length:=by omega
          rw[xkj l H2 H i j _ hn hi (List.getElem?_eq_getElem dy) sn]at hj
          refine⟨i,?_,by rw[List.getElem?_eq_getElem dy,hj]⟩
          unfold jm
          rw[dB F6,List.getD_eq_getElem?_getD,hi]
          rfl
         .left
          rw[XW l H2 H j bi]at hj
          exact⟨bi,by rw[yf];exact hj⟩
        .right
         rw[List.getElem?_append_right (by rw[ve];omega),ve,List.getElem?_drop]at hj
         refine⟨l.length+(j-H.length),?_,hj⟩
         unfold jm
         rw[dA (by omega)]
         omega
       have away : ∀q j k r,j∉l->blkAt H j=some k->e[j]? = some r->k.virt=false->(q=false->k.win=none) ->¬ (Own q e0 H0 r.1\/F r.1)/\r.1<w.heap.size:=by
        intro q j k r hj w8 Ju hv hq
        refine⟨fun h =>?_,E.own_lt (Zt w8 Ju hv)⟩
        rcases h with h|h
        .obtain⟨i,hi,k',r',h1,h2,h3,ft,h4⟩:=Bj _ _ h
         refine hj (E.inj i j k' k r' r h1 w8 h2 Ju h3 ft hv ?_▸hi)
         cases q with
         | false=>exact .inr (hq rfl)
         | true=>exact .inl (h4 rfl)
        .exact hF _ (Zt w8 Ju hv) h
       have Ev : ∀q b,Own q (e++xs) (vJ H l H2++H2.drop l.length) b->Own q (e0++xs) H1 b\/(∃j k r,j∉l/\blkAt H j=some k/\e[j]? = some r/\r.1=b/\k.virt=false/\(q=true->k.win=none)):=by
        rintro q b ⟨j,k,r,h1,h2,h3,hv,h4⟩
        rcases from_ j k h1 with⟨hj,w8⟩|⟨i,hi,F4⟩
        .right
         refine⟨j,k,r,hj,w8,?_,h3,hv,h4⟩
         have:j<H.length:=(List.getElem?_eq_some_iff.1 (yf.1 w8)).1
         rwa [List.getElem?_append_left (by omega)]at h2
        .left
         obtain⟨k',g1,_,_,g4,g5⟩:=orig i k F4
         obtain⟨r',g2⟩:=E1.get g1
         have:=hb i j r' (congrArg some hi) g2
         rw[h2]at this
         cases this
         exact⟨i,k',r,g1,g2,h3,by rw[<- Blk.virt_of g5 g4];exact hv,fun hq=>by rw[<- Blk.win_of g5];exact h4 hq⟩
       refine⟨e++xs,F',rv,Qf,Ap,xa6 hb v0 v1 rv Jj hd,⟨?_,?_,?_,?_⟩,hR',?_,hK.mono (fun b hb=>hb.imp (Cs _ b) id),?_⟩
       .have:=E1.len
        simp only[dM,ve,List.length_drop]at this |-
        omega
       .intro j k hj
        rcases from_ j k hj with⟨sn,w8⟩|⟨i,hi,F4⟩
        .obtain⟨r,cs,g1,g2,g3⟩:=E.lies j k w8
         refine⟨r,cs,Ap.get g1,ym Ap _ _ g2,g3.same fun hv =>?_⟩
         obtain⟨a1,a2⟩:=away true j k r sn w8 g1 hv (fun h=>by cases h)
         exact hK.block r.1 a2 a1
        .obtain⟨k',g1,g2,g3,g4,g5⟩:=orig i k F4
         obtain⟨r,cs,a1,a2,a3⟩:=E1.lies i k' g1
         exact⟨r,cs,hb i j r (congrArg some hi) a1,xrn hb g2 g5 a2,a3.like g3 g4 g5⟩
       .intro i j k k' r r' h1 h2 h3 h4 h5 v1 v2
        have mixed : ∀i j k k' r r',(i∉l/\blkAt H i=some k)->(∃q,jm l H.length q=j/\H2[q]? = some (some k'))->(e++xs)[i]? = some r->(e++xs)[j]? = some r'->r.1=r'.1->k.virt=false->k'.virt=false->k.win.isSome=true/\k'.win.isSome=true:=by
         rintro i j k k' r r' ⟨h1,h2⟩ ⟨q,h3,h4⟩ h5 h6 h7 v1 v2
         obtain⟨kq,g1,_,_,g4,g5⟩:=orig q k' h4
         obtain⟨rq,g2⟩:=E1.get g1
         have g3:=hb q j rq (congrArg some h3) g2
         rw[h6]at g3
         cases g3
         have:i<H.length:=(List.getElem?_eq_some_iff.1 (yf.1 h2)).1
         rw[List.getElem?_append_left (by omega)]at h5
         have bad : ∀q',(q'=false->k.win=none)->(q'=true->kq.win=none)->False:=by
          intro q' G5 mf
          obtain⟨a1,a2⟩:=away q' i k r h1 h2 h5 v1 G5
          rcases j8 q' r'.1 (.inl ⟨q,kq,r',g1,g2,rfl,by rw[<- Blk.virt_of g5 g4];exact v2,mf⟩)with h|h|h
          .exact a1 (.inl (h7▸h))
          .exact a1 (.inr (h7▸h))
          .omega
         rw[Blk.win_of g5]
         constructor
         .cases hk:k.win with
          | some _=>rfl
          | none=>exact(bad false (fun _=>hk) (fun h=>by cases h)).elim
         .cases hk:kq.win with
          | some _=>rfl
          | none=>exact(bad true (fun h=>by cases h) (fun _=>hk)).elim
        rcases from_ i k h1 with g1|g1<;>rcases from_ j k' h2 with g2|g2
        .have hi:i<H.length:=(List.getElem?_eq_some_iff.1 (yf.1 g1.2)).1
         have hj:j<H.length:=(List.getElem?_eq_some_iff.1 (yf.1 g2.2)).1
         rw[List.getElem?_append_left (by omega)]at h3 h4
         exact E.alone i j k k' r r' g1.2 g2.2 h3 h4 h5 v1 v2
        .exact .inr (mixed i j k k' r r' g1 g2 h3 h4 h5 v1 v2)
        .exact .inr (mixed j i k' k r' r g2 g1 h4 h3 h5.symm v2 v1).symm
        .obtain⟨p,p1,p2⟩:=g1
         obtain⟨q,q1,q2⟩:=g2
         obtain⟨kp,a1,_,_,u1,w1⟩:=orig p k p2
         obtain⟨kq,b1,_,_,u2,w2⟩:=orig q k' q2
         rw[Blk.virt_of w1 u1]at v1
         rw[Blk.virt_of w2 u2]at v2
         obtain⟨rp,a2⟩:=E1.get a1
         obtain⟨rq,b2⟩:=E1.get b1
         have a3:=hb p i rp (congrArg some p1) a2
         have b3:=hb q j rq (congrArg some q1) b2
         rw[h3]at a3
         rw[h4]at b3
         cases a3;cases b3
         rcases E1.alone p q kp kq r r' a1 b1 a2 b2 h5 v1 v2 with this|this
         .left;rw[<- p1,<- q1,this]
         .right;rw[Blk.win_of w1,Blk.win_of w2];exact this
       .intro j k hj
        rcases from_ j k hj with⟨sn,w8⟩|⟨i,hi,F4⟩
        .exact E.ok j k w8
        .obtain⟨k',g1,g2,g3,g4,g5⟩:=orig i k F4
         exact xAF g2 g5 (E1.ok i k' g1)
       .intro b ib hf
        rcases Ev _ b ib with h|⟨j,k,r,h1,h2,h3,rfl,hv,_⟩
        .exact hF' b h hf
        .obtain⟨a1,a2⟩:=away true j k r h1 h2 h3 hv (fun h=>by cases h)
         rcases j8 true r.1 (.inr hf)with h|h|h
         .exact a1 (.inl h)
         .exact a1 (.inr h)
         .omega
       .intro q b ib
        have fin:(Own q e0 H0 b\/F b\/w.heap.size<=b)->Own q e H b\/F b\/w.heap.size<=b:=fun h=>h.imp (Cs _ b) id
        rcases ib with ib|ib
        .rcases Ev _ b ib with h|⟨j,k,r,h1,h2,h3,rfl,hv,h4⟩
         .exact fin (j8 _ b (.inl h))
         .exact .inl ⟨j,k,r,h2,h3,rfl,hv,h4⟩
        .exact fin (j8 _ b (.inr ib))
      .cases dv
     .cases dv
   .cases h
/-! ### calls that leave no further blocks -/
mutual
theorem qZ{r r':Nat->Option Nat}(h : ∀i j,r i=some j->r' i=some j) : ∀ (c c':C),renC r c=some c'->renC r' c=some c'
 | .bool b,c',hc=>by simpa[renC]using hc
 | .int k n,c',hc=>by simpa[renC]using hc
 | .nilp,c',hc=>by simpa[renC]using hc
 | .nils,c',hc=>by simpa[renC]using hc
 | .nilf,c',hc=>by simpa[renC]using hc
 | .nili,c',hc=>by simpa[renC]using hc
 | .port,c',hc=>by simpa[renC]using hc
 | .mp b,c',hc=>by simp only[renC]at hc |-;exact xn (fun x hx=>h b x hx) hc
 | .ptr b o,c',hc=>by simp only[renC]at hc |-;exact xn (fun x hx=>h b x hx) hc
 | .sl b o n m,c',hc=>by simp only[renC]at hc |-;exact xn (fun x hx=>h b x hx) hc
 | .slg b o n,c',hc=>by simp only[renC]at hc |-;exact xn (fun x hx=>h b x hx) hc
 | .pr b o i n f,c',hc=>by simp only[renC]at hc |-;exact xn (fun x hx=>h b x hx) hc
 | .slw b o z n m,c',hc=>by simp only[renC]at hc |-;exact xn (fun x hx=>h b x hx) hc
 | .slr b n,c',hc=>by simp only[renC]at hc |-;exact xn (fun x hx=>h b x hx) hc
 | .slv b z o n,c',hc=>by simp only[renC]at hc |-;exact xn (fun x hx=>h b x hx) hc
 | .fn f caps,c',hc=>by simp only[renC]at hc |-;exact xn (fun x hx=>jL h caps x hx) hc
 | .meth s c,c',hc=>by simp only[renC]at hc |-;exact xn (fun x hx=>qZ h c x hx) hc
 | .ifc t c,c',hc=>by simp only[renC]at hc |-;exact xn (fun x hx=>qZ h c x hx) hc
theorem jL{r r':Nat->Option Nat}(h : ∀i j,r i=some j->r' i=some j) : ∀ (l l':List C),wC r l=some l'->wC r' l=some l'
 | [],l',hl=>by simpa[wC]using hl
 | c::l,l',hl=>by
  simp only[wC]at hl |-
  split at hl
  .rename_i c' hc
   split at hl
   .rename_i l2 fp
    cases hl
    rw[qZ h c c' hc,jL h l l2 fp]
   .cases hl
  .cases hl
end
theorem xu0{r r':Nat->Option Nat}(h : ∀i j,r i=some j->r' i=some j)(x x':V1)(hx:xdg r x=some x'):xdg r' x=some x':=by
 cases x with
 | c a=>simp only[xdg]at hx |-;exact xn (fun y hy=>qZ h a y hy) hx
 | agg l=>simp only[xdg]at hx |-;exact xn (fun y hy=>jL h l y hy) hx
theorem xyx{r r':Nat->Option Nat}(h : ∀i j,r i=some j->r' i=some j)(x x':V)(hx:renV r x=some x'):renV r' x=some x':=by
 cases x with
 | c a=>simp only[renV]at hx |-;exact xn (fun y hy=>qZ h a y hy) hx
 | agg l=>simp only[renV]at hx |-;exact xn (fun y hy=>jL h l y hy) hx
 | tup l=>simp only[renV]at hx |-;exact xn (fun y hy=>kJ (fun a b Hi=>xu0 h a b Hi) l y hy) hx
theorem xyy{r r':Nat->Option Nat}(h : ∀i j,r i=some j->r' i=some j)(x:Option Blk)(y:Option Blk)(hx:renB r x=some y):renB r' x=some y:=by
 cases x with
 | none=>simpa[renB]using hx
 | some k=>simp only[renB]at hx |-;exact xn (fun y hy=>jL h k.cells y hy) hx
theorem xu1{Γ:yc}{A:List Nat}{f:FuncId}{args:List V}{H:Heap}{S:Sum}(h:vQ Γ A f args H=some S) : ∃f2,jn Γ f args H=some ⟨S.α,S.t,f2,S.b,S.hb⟩/\ ∀x q,S.f x=some q->f2 x=some q:=by
 unfold vQ at h
 unfold jn
 split at h
 .cases h
 .rename_i m hm
  split at h
  .cases h
  .rename_i l hl
   split at h
   .cases h
   .split at h
    .rename_i fy H0 h1 h2
     split at h
     .cases h
     .rename_i S0 hS0
      cases h
      simp only[hm,hl,h1,h2,hS0]
      refine⟨_,rfl,fun x q hq =>?_⟩
      split at hq
      .cases hq
      .rename_i r hr
       split at hq
       .rename_i v H1 hv hH1
        split at hq
        .rename_i af
         cases hq
         have aw : ∀i j,l[i]? = some j->(fun i=>some (jm l H.length i)) i=some j:=by
          intro i j dx
          have hi:=(List.getElem?_eq_some_iff.1 dx).1
          simp only[jm,dB hi,List.getD_eq_getElem?_getD,dx,Option.getD_some]
         rw[xyx aw _ _ hv,kJ (fun a b Hi=>xyy aw a b Hi) _ _ hH1]
         simp only[af,dI,if_true]
         rw[<- af,List.drop_length,List.append_nil]
        .cases hq
       .cases hq
    .cases h
end Lx
namespace Lx
open Go
structure Rel(pv:Value)(e:Env)(st:St)(a:Act)(w:World):Prop where
 emb:Emb pv e st.heap w
 len:st.tmps.n<=a.tmps.size
 tmps : ∀ (t:Nat) v,getT st.tmps t=some v ->∃rv,a.tmps[t]? = some rv/\denV pv e v=some rv
 defers:a.defers = []
structure Cfg{P:Program}{σ:Type}(I:Port P σ)(S0:Bool->Nat->Prop)(w0:World)(e0 e:Env)(st:St)(s:σ)(F:Nat->Prop)(a:Act)(w:World):Prop where
 rel:Rel I.pv e st a w
 rep:I.Rep s F w
 disj : ∀b,Own false e st.heap b ->¬F b
 keeps:Keeps (S0 true) w0 w
 mine : ∀q b,Own q e st.heap b\/F b->S0 q b\/w0.heap.size<=b
 ext:Ext e0 e
section
variable{P:Program}{σ:Type}{I:Port P σ}{Γ:yc}{S0:Bool->Nat->Prop}{w0:World}{e0:Env}{e:Env}{st:St}{s:σ}{F:Nat->Prop}{a:Act}{w:World}
theorem Rel.says{pv:Value}(R:Rel pv e st a w):Says pv e (xW st.tmps) a.eval:=by
 intro x v h
 cases x with
 | tmp t=>
  obtain⟨rv,h1,h2⟩:=R.tmps t v h
  simp only[Act.eval]
  rw[h2,Array.getD_eq_getD_getElem?,h1]
  rfl
 | const c=>exact xfB h
 | global g=>simp[xW]at h
 | func f=>
  simp only[xW,oI]at h
  subst h
  simp[denV,den,denL,Act.eval]
theorem xcS{l:Tm}{d:Nat}{v:V}(h:getT l d=some v):setT l d v=l:=by
 obtain⟨h1,h2⟩:=wH h
 unfold setT
 rw[blt_eq]
 simp only[h1,decide_true,cond_true,xbD 9 l.s d v h2]
theorem xdI(l:Tm)(dst:Option Tmp)(v:V):(putT l dst v).n=l.n:=by
 cases dst<;>simp[putT,xsI]
theorem XX(a:Act)(dst:Option Tmp)(v:Value):(a.put dst v).tmps.size=a.tmps.size:=by
 cases dst<;>simp[Act.put]
theorem Rel.put{pv:Value}{e':Env}{H':Heap}{w':World}{v:V}{rv:Value}(R:Rel pv e st a w)(hx:Ext e e')(E:Emb pv e' H' w')(hv:denV pv e' v=some rv)(dst:Option Tmp):Rel pv e' ⟨putT st.tmps dst v,H'⟩ (a.put dst rv) w':=by
 refine⟨E,by rw[xdI,XX];exact R.len,fun t u h =>?_,by cases dst<;>exact R.defers⟩
 cases dst with
 | none=>
  obtain⟨r,h1,h2⟩:=R.tmps t u h
  exact⟨r,h1,KI hx _ _ h2⟩
 | some d=>
  simp only[putT]at h
  simp only[Act.put]
  by_cases Lh:d=t
  .subst Lh
   obtain⟨hd,rfl⟩:=kI h
   refine⟨rv,?_,hv⟩
   have:=R.len
   rw[Array.getElem?_setIfInBounds_self_of_lt (by omega)]
  .rw[yG _ _ (fun hh=>Lh hh.symm)]at h
   obtain⟨r,h1,h2⟩:=R.tmps t u h
   refine⟨r,?_,KI hx _ _ h2⟩
   rw[Array.getElem?_setIfInBounds_ne Lh]
   exact h1
theorem Cfg.did{e':Env}{H':Heap}{w':World}{v:V}{rv:Value}(C:Cfg I S0 w0 e0 e st s F a w)(hx:Ext e e')(hv:denV I.pv e' v=some rv)(E:Emb I.pv e' H' w')(hK:Keeps (Own true e st.heap) w w')(hn : ∀q b,Own q e' H' b->Own q e st.heap b\/w.heap.size<=b)(dst:Option Tmp) :
  Cfg I S0 w0 e0 e' ⟨putT st.tmps dst v,H'⟩ s F (a.put dst rv) w':=by
 refine⟨C.rel.put hx E hv dst,I.stable C.rep fun b hb=>hK.block b (I.lt C.rep b hb) fun h=>C.disj b h.weak hb,fun b hb hf =>?_,C.keeps.trans hK fun b hb=>C.mine _ b (.inl hb),fun q b hb =>?_,C.ext.trans hx⟩
 .rcases hn _ b hb with h|h
  .exact C.disj b h hf
  .have:=I.lt C.rep b hf;omega
 .rcases hb with hb|hb
  .rcases hn _ b hb with h|h
   .exact C.mine _ b (.inl h)
   .right
    have:=C.keeps.size
    omega
  .exact C.mine _ b (.inr hb)
theorem Cfg.called{e':Env}{H':Heap}{w':World}{F':Nat->Prop}{s':σ}{v:V}{rv:Value}(C:Cfg I S0 w0 e0 e st s F a w)(hx:Ext e e')(hv:denV I.pv e' v=some rv)(E:Emb I.pv e' H' w')(hR:I.Rep s' F' w')(hd : ∀b,Own false e' H' b ->¬F' b)
  (hK:Keeps (fun b=>Own true e st.heap b\/F b) w w') (hn : ∀q b,Own q e' H' b\/F' b->Own q e st.heap b\/F b\/w.heap.size<=b) (dst:Option Tmp):Cfg I S0 w0 e0 e' ⟨putT st.tmps dst v,H'⟩ s' F' (a.put dst rv) w':=by
 refine⟨C.rel.put hx E hv dst,hR,hd,C.keeps.trans hK fun b hb=>C.mine _ b hb,fun q b hb =>?_,C.ext.trans hx⟩
 rcases hn _ b hb with h|h|h
 .exact C.mine _ b (.inl h)
 .exact C.mine _ b (.inr h)
 .right
  have:=C.keeps.size
  omega
theorem XY{α β:Type}{f:α->Option β} : ∀ {l l':List α} {r r':List β},allSome f l=some r->allSome f l'=some r'->allSome f (l++l')=some (r++r')
 | [],l',r,r',h,h'=>by simp only[allSome,oI]at h;subst h;exact h'
 | x::l,l',r,r',h,h'=>by
  simp only[allSome]at h
  split at h
  .rename_i y hy
   split at h
   .rename_i ys lr
    cases h
    simp only[List.cons_append,allSome,hy,XY lr h']
   .cases h
  .cases h
theorem xkl{pv:Value}{e:Env} : ∀ {cs:List C} {rs:List Value},denL pv e cs=some rs->allSome (denV pv e) (cs.map .c)=some rs
 | [],rs,h=>by simp only[denL,oI]at h;subst h;rfl
 | c::cs,rs,h=>by
  simp only[denL]at h
  split at h
  .rename_i v hv
   split at h
   .rename_i us hu
    cases h
    simp only[List.map_cons,allSome,denV,hv,xkl hu]
   .cases h
  .cases h
theorem xkm{pv:Value}{ρ:Operand->Option V}{ra:Operand->Value}{o:Oper}{H:Heap}{f:FuncId}{args:List V}(hρ:Says pv e ρ ra)(h:xl P o.op ρ H=some (.call f args))
  (hb : ∃fn c,P.funcs[f]? = some fn/\(fn.name == "runtime.NumGoroutine")=false/\fn.body=some c) :
  ∃vs,allSome (denV pv e) args=some vs/\(execOp ra o).run P w = .ok (.enter f vs.toArray) w:=by
 generalize ho:o.op=op at h
 obtain⟨fn,c,Qe,Ao,Qd⟩:=hb
 unfold xl at h
 split at h
 case h_22 c=>
  split at h
  .rename_i vs ma
   split at h
   .rename_i b hb
    exfalso
    split at h
    .obtain⟨_,_,_,h2⟩:=KO h;cases h2
    .unfold KE at h;(repeat' (split at h))<;>cases h
    .unfold yu at h
     split at h
     .split at h<;>cases h
     .cases h
     .cases h
     .cases h
   .split at h
    .rw[oM]at h;obtain⟨_,_,h2⟩:=h;cases h2
    .cases h
   .rename_i g hg
    split at h
    .rename_i f' caps gn
     cases h
     have h1:=qI hρ _ _ ma
     have h2:=hρ g _ gn
     simp only[denV,den,oM]at h2
     obtain⟨rs,h3,h4⟩:=h2
     refine⟨_,XY h1 (xkl h3),?_⟩
     simp only[execOp,ho,resolve,hg,<- h4,Deferred.ofValue,Sem.run_bind,Sem.run_pure,Result.andThen_ok,invoke,callFunc,program,Sem.run,Qe,Ao,Qd]
     simp
    .rw[oM]at h;obtain⟨_,_,h2⟩:=h;cases h2
    .cases h
  .cases h
 all_goals
  exfalso
  (try unfold KC at h);(try unfold KD at h);(repeat' (split at h))<;>first
   | cases h
   | (rw[oM]at h;obtain⟨_,_,h2⟩:=h;cases h2)
theorem xyz{pv:Value}{e:Env}{c:C}(h:yx c=true):den pv e c=den pv [] c:=by
 cases c<;>first|rfl|cases h
theorem xro{pv:Value}{e:Env} : ∀ {l:List C} {vs:List Value},l.all yx=true->denL pv e l=some vs->denL pv [] l=some vs
 | [],vs,h,hv=>hv
 | c::l,vs,h,hv=>by
  simp only[List.all_cons,dK]at h
  simp only[denL]at hv |-
  split at hv
  .rename_i v hc
   split at hv
   .rename_i us hu
    cases hv
    rw[xro h.2 hu,<- xyz (e:=e) h.1,hc]
   .cases hv
  .cases hv
theorem xrp{pv:Value}{e:Env}{name:String}{args:List V}{p:POp}{vs:List Value}(h:popOf name args=some p)(hv:allSome (denV pv e) args=some vs):allSome (denV pv []) args=some vs:=by
 unfold popOf at h
 split at h
 .exact hv
 .exact hv
 .exact hv
 .exact hv
 .exact hv
 .split at h
  .split at h
   .rename_i l _ hl
    simp only[allSome,denV]at hv |-
    cases hd:denL pv e l with
    | none=>rw[hd]at hv;simp at hv
    | some us=>rw[xro hl hd];rw[hd]at hv;exact hv
   .cases h
  .cases h
 .cases h
theorem xyA{ρ:Operand->Option V}{ra:Operand->Value}{o:Oper}{H:Heap}{p:POp}(hρ:Says I.pv e ρ ra)(h:xl P o.op ρ H=some (.port p)) :
  ∃name args vs,popOf name args=some p/\allSome (denV I.pv []) args=some vs/\(execOp ra o).run P w=(callMethod I.pv name vs.toArray).run P w:=by
 generalize ho:o.op=op at h
 unfold xl at h
 split at h
 case h_22 c=>
  split at h
  .rename_i vs ma
   have h1:=qI hρ _ _ ma
   have h0:(c.args.map ra)=(c.args.toList.map ra).toArray:=by rw[<- Array.toList_map]
   split at h
   .rename_i b hb
    exfalso
    split at h
    .obtain⟨_,_,_,h2⟩:=KO h;cases h2
    .unfold KE at h;(repeat' (split at h))<;>cases h
    .unfold yu at h
     split at h
     .split at h<;>cases h
     .cases h
     .cases h
     .cases h
   .rename_i r name hg
    split at h
    .rename_i hr
     rw[oM]at h;obtain⟨q,h2,h3⟩:=h;cases h3
     have h4:=hρ r _ hr
     simp only[denV,den,oI]at h4
     refine⟨name,vs,_,h2,xrp h2 h1,?_⟩
     simp only[execOp,ho,resolve,hg,<- h4,Sem.run_bind,Sem.run_pure,Result.andThen_ok,invoke]
     simp only[h0,List.append_toArray,List.singleton_append,List.getElem?_toArray,List.getElem?_cons_zero,List.extract_toArray,List.size_toArray,List.length_cons,List.extract_eq_take_drop,List.drop_succ_cons,List.drop_zero]
     rw[List.take_of_length_le (by simp)]
    .cases h
   .rename_i g hg
    split at h
    .cases h
    .rename_i name hr
     rw[oM]at h;obtain⟨q,h2,h3⟩:=h;cases h3
     have h4:=hρ g _ hr
     simp only[denV,den,dL,oI]at h4
     refine⟨name,vs,_,h2,xrp h2 h1,?_⟩
     simp only[execOp,ho,resolve,hg,<- h4,Deferred.ofValue,Sem.run_bind,Sem.run_pure,Result.andThen_ok,invoke]
     simp only[h0,List.append_toArray,List.singleton_append,List.getElem?_toArray,List.getElem?_cons_zero,List.extract_toArray,List.size_toArray,List.length_cons,List.extract_eq_take_drop,List.drop_succ_cons,List.drop_zero]
     rw[List.take_of_length_le (by simp)]
    .cases h
  .cases h
 all_goals
  exfalso
  (try unfold KC at h);(try unfold KD at h);(repeat' (split at h))<;>first
   | cases h
   | (rw[oM]at h;obtain⟨_,_,h2⟩:=h;cases h2)
/-! ### one operation -/
theorem Flat.ext{pv:Value}{v:V}{rv:Value}(h:Flat pv v rv)(e:Env):denV pv e v=some rv:=h e
mutual
theorem jM{pv:Value}{e:Env} : ∀ (c:C),idsC c = []->den pv e c=den pv [] c
 | .bool b,h=>rfl
 | .int k n,h=>rfl
 | .nilp,h=>rfl
 | .ptr b o,h=>by simp[idsC]at h
 | .nils,h=>rfl
 | .sl b o n c,h=>by simp[idsC]at h
 | .slg b o n,h=>by simp[idsC]at h
 | .pr b o i n f,h=>by simp[idsC]at h
 | .slw b o z n c,h=>by simp[idsC]at h
 | .slr b n,h=>by simp[idsC]at h
 | .slv b z o n,h=>by simp[idsC]at h
 | .fn f caps,h=>by simp only[idsC]at h;simp only[den,qm caps h]
 | .meth s c,h=>by simp only[idsC]at h;simp only[den,jM c h]
 | .nilf,h=>rfl
 | .nili,h=>rfl
 | .port,h=>rfl
 | .mp b,h=>by simp[idsC]at h
 | .ifc t c,h=>by simp only[idsC]at h;simp only[den,jM c h]
theorem qm{pv:Value}{e:Env} : ∀ (l:List C),yU l = []->denL pv e l=denL pv [] l
 | [],h=>rfl
 | c::l,h=>by
  simp only[yU,List.append_eq_nil_iff]at h
  simp only[denL,jM c h.1,qm l h.2]
end
theorem xnC{pv:Value}{e:Env}(x:V1)(h:xwm x = []):yV pv e x=yV pv [] x:=by
 cases x with
 | c a=>exact jM a h
 | agg l=>simp only[yV,qm l h]
theorem allSome_congr{α β:Type}{f g:α->Option β} : ∀ {l:List α},(∀x∈l,f x=g x)->allSome f l=allSome g l
 | [],h=>rfl
 | x::l,h=>by simp only[allSome,h x (by simp),allSome_congr (l:=l) fun y hy=>h y (by simp[hy])]
theorem XZ{pv:Value}{e:Env}(x:V)(h:idsV x = []):denV pv e x=denV pv [] x:=by
 cases x with
 | c a=>exact jM a h
 | agg l=>simp only[denV,qm l h]
 | tup l=>
  simp only[idsV,List.flatMap_eq_nil_iff]at h
  simp only[denV,allSome_congr fun y hy=>xnC y (h y hy)]
theorem xnD(pv:Value)(w:World):Emb pv [] [] w:=⟨rfl,fun i k h=>by simp[blkAt]at h,fun i j k k' r r' h=>by simp[blkAt]at h,fun i k h=>by simp[blkAt]at h⟩
theorem kP{q:Bool}(b:Nat) : ¬Own q [] [] b:=by rintro ⟨i,k,r,h,_⟩;simp[blkAt]at h
theorem xu2(hΓ : ∀f m,Γ f=some m->SoundF I f m){f:FuncId}{args:List V}{S:Sum}(h:Vm Γ f args=some S){vs:List Value}{s':σ}(hv:allSome (denV I.pv e) args=some vs)(hR:I.Rep s F w){v:V}{H':Heap}{x:S.α}(hrun:S.t.run I.step s=some (x,s'))(cx:S.f x=some (v,H')) :
  (∃fn c,P.funcs[f]? = some fn/\(fn.name == "runtime.NumGoroutine")=false/\fn.body=some c)/\H' = []/\idsV v = []/\
  Calls P f vs.toArray w fun en w' =>∃F' rv,en = .returned rv/\Flat I.pv v rv/\I.Rep s' F' w'/\Keeps F w w'/\ ∀b,F' b->F b\/w.heap.size<=b:=by
 unfold Vm at h
 split at h
 .cases h
 .rename_i F7
  split at h
  .cases h
  .rename_i m hm
   obtain⟨bh,o6⟩:=hΓ f m hm
   split at h
   .cases h
   .rename_i t0 uk
    cases h
    have uw:=hrun
    have dv:=cx
    simp only at dv
    split at dv
    .cases dv
    rename_i r0 df
    obtain⟨v0,H1⟩:=r0
    simp only at dv
    split at dv
    .rename_i Jk
     simp only[oI,dH]at dv
     obtain⟨rfl,rfl⟩:=dv
     refine⟨bh,rfl,Jk,?_⟩
     have ft:allSome (denV I.pv []) args=some vs:=by
      rw[<- hv]
      rw[List.flatMap_eq_nil_iff]at F7
      exact(allSome_congr fun x hx=>XZ x (F7 x hx)).symm
     refine(o6 args [] t0 uk [] w s F vs (xnD _ _) ft hR (fun b hb=>(kP b hb).elim) x v0 [] _ uw df).mono ?_
     rintro en w' ⟨e',F',rv,h1,h2,h3,h4,h5,h6,h7,h8⟩
     refine⟨F',rv,h1,fun e =>?_,h5,h7.mono fun b hb=>hb.resolve_left (kP b),fun b hb =>?_⟩
     .rw[XZ v0 Jk,<- XZ (e:=e') v0 Jk]
      exact h3
     .rcases h8 true b (.inr hb)with h|h
      .exact(kP b h).elim
      .exact h
    .cases dv
theorem xdJ(hΓ : ∀f m,Γ f=some m->SoundF I f m){β:Type}{pu:PM}{o:Oper}{k:St->T β}{r:β×σ}(C:Cfg I S0 w0 e0 e st s F a w)(h:(wn P Γ pu o st k).run I.step s=some r) :
  ∃ai s',(k ai).run I.step s'=some r/\(wn P Γ pu o st T.ret).run I.step s=some (ai,s')/\
   ∀K Q,(∀e' F' a' w',(∃rv,a'=a.put o.dst rv)->Cfg I S0 w0 e0 e' ai s' F' a' w'->K a' w')->o.wp P a w K Q:=by
 have hρ:=C.rel.says
 have E:=C.rel.emb
 unfold wn at h
 split at h
 .rename_i g v H' pf
  cases hg:okV pu st.heap H'
  .rw[hg]at h;simp[T.run]at h
  cases g
  .rw[hg]at h;simp[T.run]at h
  .rw[hg]at h
   refine⟨⟨putT st.tmps o.dst v,H'⟩,s,h,by simp only[wn,pf,hg,cond_true,T.run],fun K Q hK =>?_⟩
   obtain⟨nx,w',e',rv,h1,h2,h3,h4,h5,h6,h7⟩:=xrm I hρ E pf
   have C':=C.did h3 h4 h5 h6 h7 o.dst
   unfold Oper.wp
   rw[h1]
   rcases h2 with rfl|⟨rfl,rfl⟩
   .exact hK _ _ _ _ ⟨_,rfl⟩ C'
   .exact hK _ _ _ _ ⟨_,rfl⟩ C'
 .rename_i p pf
  simp only[T.run]at h
  split at h
  .rename_i x s1 pz
   refine⟨⟨putT st.tmps o.dst (ansV p x),st.heap⟩,s1,h,by simp only[wn,pf,T.run,pz],fun K Q hK =>?_⟩
   obtain⟨name,args,vs,h1,h2,h3⟩:=xyA (w:=w) hρ pf
   obtain⟨f,recv,rv,h4,h5,h6⟩:=I.does h1 pz h2 C.rep
   unfold Oper.wp
   rw[h3,h4]
   rw[Oper.upon_enter]
   refine h6.mono ?_
   rintro en w' ⟨rfl,F',h7,h8,h9⟩
   refine hK e F' _ _ ⟨_,rfl⟩ (C.called (Ext.refl e) (h5 e) (E.ofSame fun b hb=>h8.block b (E.own_lt hb) fun hf=>C.disj b hb hf) h7 (fun b hb hf =>?_) (h8.mono fun b hb =>.inr hb) (fun q b hb =>?_) o.dst)
   .rcases h9 b hf with h|h
    .exact C.disj b hb h
    .have:=E.own_lt hb;omega
   .rcases hb with hb|hb
    .exact .inl hb
    .exact .inr (h9 b hb)
  .cases h
 .rename_i f args pf
  have main : ∀ (st1:T β),st1=jZ Γ f args o st k->st1.run I.step s=some r->
    (∃ai s',(k ai).run I.step s'=some r/\(jZ Γ f args o st T.ret).run I.step s=some (ai,s')/\
     ∀K Q,(∀e' F' a' w',(∃rv,a'=a.put o.dst rv)->Cfg I S0 w0 e0 e' ai s' F' a' w'->K a' w')->o.wp P a w K Q):=by
   intro st1 ce h
   subst ce
   unfold jZ at h
   split at h
   .rename_i t ht
    rw[t.hb]at h
    obtain⟨x,s1,h1,h2⟩:=T.run_bind_some h
    split at h2
    rotate_left
    .cases h2
    rename_i r0 cx
    obtain⟨v,H'⟩:=r0
    simp only at h2
    refine⟨⟨putT st.tmps o.dst v,H'⟩,s1,h2,by simp only[jZ,ht,t.hb,T.run_bind,h1,cx,T.run],fun K Q hK =>?_⟩
    have bh : ∃fn c,P.funcs[f]? = some fn/\(fn.name == "runtime.NumGoroutine")=false/\fn.body=some c:=by
     unfold jn at ht
     split at ht
     .cases ht
     .exact(hΓ f _ ‹_›).1
    obtain⟨vs,g1,g2⟩:=xkm (w:=w) hρ pf bh
    obtain⟨_,zb⟩:=xuZ I hΓ ht E g1 C.rep C.disj h1 cx
    unfold Oper.wp
    rw[g2,Oper.upon_enter]
    refine zb.mono ?_
    rintro en w' ⟨e',F',rv,rfl,h3,h4,h5,h6,h7,h8,h9⟩
    exact hK _ _ _ _ ⟨_,rfl⟩ (C.called h3 h4 h5 h6 h7 h8 h9 o.dst)
   .cases h
  cases pu
  .simp only at h
   obtain⟨ai,s',g1,g2,g3⟩:=main _ rfl h
   exact⟨ai,s',g1,by simp only[wn,pf];exact g2,g3⟩
  .simp only at h
   split at h
   .rename_i t ht
    rw[t.hb]at h
    obtain⟨x,s1,h1,h2⟩:=T.run_bind_some h
    split at h2
    rotate_left
    .cases h2
    rename_i r0 cx
    obtain⟨v,H'⟩:=r0
    simp only at h2
    refine⟨⟨putT st.tmps o.dst v,st.heap⟩,s1,h2,by simp only[wn,pf,ht,t.hb,T.run_bind,h1,cx,T.run],fun K Q hK =>?_⟩
    have bh : ∃fn c,P.funcs[f]? = some fn/\(fn.name == "runtime.NumGoroutine")=false/\fn.body=some c:=by
     unfold Vm at ht
     split at ht
     .cases ht
     .split at ht
      .cases ht
      .exact(hΓ f _ ‹_›).1
    obtain⟨vs,g1,g2⟩:=xkm (w:=w) hρ pf bh
    obtain⟨_,_,_,zb⟩:=xu2 hΓ ht g1 C.rep h1 cx
    unfold Oper.wp
    rw[g2,Oper.upon_enter]
    refine zb.mono ?_
    rintro en w' ⟨F',rv,rfl,h5,h7,h8,h9⟩
    refine hK e F' _ _ ⟨_,rfl⟩ (C.called (Ext.refl e) (h5 e) (E.ofSame fun b hb=>h8.block b (E.own_lt hb) fun hf=>C.disj b hb hf) h7 (fun b hb hf =>?_) (h8.mono fun b hb =>.inr hb) (fun q b hb =>?_) o.dst)
    .rcases h9 b hf with h|h
     .exact C.disj b hb h
     .have:=E.own_lt hb;omega
    .rcases hb with hb|hb
     .exact .inl hb
     .exact .inr (h9 b hb)
   .cases h
  .rename_i A
   simp only at h
   split at h
   .rename_i D0
    obtain⟨ai,s',g1,g2,g3⟩:=main _ rfl h
    exact⟨ai,s',g1,by simp only[wn,pf,D0];exact g2,g3⟩
   .cases h
  .rename_i A
   simp only at h
   split at h
   .rename_i t ht
    rw[t.hb]at h
    obtain⟨x,s1,h1,h2⟩:=T.run_bind_some h
    split at h2
    rotate_left
    .cases h2
    rename_i r0 cx
    obtain⟨f2,hc,hf⟩:=xu1 ht
    have Ge:=hf x r0 cx
    obtain⟨ai,s',g1,g2,g3⟩:=main (jZ Γ f args o st k) rfl (by simp only[jZ,hc,t.hb,T.run_bind,h1,Ge];exact h2)
    simp only[jZ,hc,t.hb,T.run_bind,h1,Ge,T.run,oI,dH]at g2
    obtain⟨rfl,rfl⟩:=g2
    exact⟨_,_,g1,by simp only[wn,pf,ht,t.hb,T.run_bind,h1,cx,T.run],g3⟩
   .cases h
  .cases h
 .cases h
end
end Lx
namespace Lx
open Go
section
variable{P:Program}{σ:Type}{I:Port P σ}{Γ:yc}{S0:Bool->Nat->Prop}{w0:World}{e0:Env}{e:Env}{st:St}{s:σ}{F:Nat->Prop}{a:Act}{w:World}{ops:Array Oper}
def qA(P:Program)(ops:Array Oper)(Q:Exit->Act->World->Prop)(o:Oper)(K:Act->World->Prop)(a:Act)(w:World):Prop:=
 if Region.wanted o (yielded ops a.tmps)then o.wp P a w K Q else K (a.put o.dst undef) w
theorem Cfg.skip(C:Cfg I S0 w0 e0 e st s F a w)(dst:Option Tmp):Cfg I S0 w0 e0 e ⟨putT st.tmps dst .undef,st.heap⟩ s F (a.put dst undef) w:=
 C.did (Ext.refl e) rfl C.rel.emb (Keeps.refl _ w) (fun _ _ h =>.inl h) dst
theorem Vj(hΓ : ∀f m,Γ f=some m->SoundF I f m){β:Type}{pu:PM}{o:Oper}{k:St->T β}{r:β×σ}(C:Cfg I S0 w0 e0 e st s F a w)(h:(vb P Γ ops pu o st k).run I.step s=some r) :
  ∃ai s',(k ai).run I.step s'=some r/\(vb P Γ ops pu o st T.ret).run I.step s=some (ai,s')/\
   ∀K Q,(∀e' F' a' w',(∃rv,a'=a.put o.dst rv)->Cfg I S0 w0 e0 e' ai s' F' a' w'->K a' w')->qA P ops Q o K a w:=by
 unfold vb at h
 split at h
 .rename_i hg
  obtain⟨ai,s',h1,h2,h3⟩:=xdJ hΓ C h
  refine⟨ai,s',h1,by simp only[vb,hg];exact h2,fun K Q hK =>?_⟩
  unfold qA
  rw[dB (by simp[Region.wanted,hg])]
  exact h3 K Q hK
 .rename_i j want hg
  split at h
  .cases h
  .rename_i sl d8
   have hy : ∀rv,a.tmps[sl]? = some rv->yielded ops a.tmps j=match rv with | .bool b=>some b|_=>none:=by
    intro rv fm
    unfold yielded
    rw[d8]
    simp only[Option.bind_some,fm]
    cases rv<;>rfl
   have skipped : ∀ (b:Option Bool),yielded ops a.tmps j=b->b≠some want ->∀K Q,(∀e' F' a' w',(∃rv,a'=a.put o.dst rv)->Cfg I S0 w0 e0 e' ⟨putT st.tmps o.dst .undef,st.heap⟩ s F' a' w'->K a' w')->qA P ops Q o K a w:=by
    intro b hb aq K Q hK
    unfold qA
    rw[dA (by simp only[Region.wanted,hg,hb];simpa using aq)]
    exact hK _ _ _ _ ⟨_,rfl⟩ (C.skip o.dst)
   split at h
   .rename_i b hb
    obtain⟨rv,h1,h2⟩:=C.rel.tmps sl _ hb
    simp only[denV,den,oI]at h2
    subst h2
    have D5:=hy _ h1
    simp only at D5
    have e1 : ∀b',b'=b->(⟨setT st.tmps sl (.c (.bool b')),st.heap⟩:St)=st:=by
     rintro b' rfl
     rw[xcS hb]
    have he:(vb P Γ ops pu o st (T.ret:St->T St))=if b=want then wn P Γ pu o st T.ret else xoI o st T.ret:=by
     simp only[vb,hg,d8,hb]
     cases b<;>cases want<;>simp only[cond_true,cond_false,e1 _ rfl]<;>rfl
    have hk:(if b=want then wn P Γ pu o st k else xoI o st k).run I.step s=some r:=by
     rw[<- h]
     cases b<;>cases want<;>simp only[cond_true,cond_false,e1 _ rfl]<;>rfl
    by_cases Hf:b=want
    .rw[dB Hf]at hk he
     obtain⟨ai,s',g1,g2,g3⟩:=xdJ hΓ C hk
     refine⟨ai,s',g1,by rw[he];exact g2,fun K Q hK =>?_⟩
     unfold qA
     rw[dB (by simp[Region.wanted,hg,D5,Hf])]
     exact g3 K Q hK
    .rw[dA Hf]at hk he
     exact⟨_,s,hk,by rw[he];rfl,skipped _ D5 (by simpa using Hf)⟩
   .rename_i hb
    obtain⟨rv,h1,h2⟩:=C.rel.tmps sl _ hb
    simp only[denV,allSome,dL,oI]at h2
    subst h2
    have D5:=hy _ h1
    simp only at D5
    exact⟨_,s,h,by simp only[vb,hg,d8,hb];rfl,skipped _ D5 (by simp)⟩
   .cases h
theorem xa8(hΓ : ∀f m,Γ f=some m->SoundF I f m){β:Type}{pu:PM}{o:Oper}{k:St->T β}{r:β×σ}(C:Cfg I S0 w0 e0 e st s F a w)(h:(vb P Γ ops pu o st k).run I.step s=some r) :
  ∃ai s',(k ai).run I.step s'=some r/\(vb P Γ ops pu o st T.ret).run I.step s=some (ai,s')/\
   ∀K Q,(∀e' F' a' w',Cfg I S0 w0 e0 e' ai s' F' a' w'->K a' w')->qA P ops Q o K a w:=by
 obtain⟨ai,s',h1,h2,h3⟩:=Vj hΓ C h
 exact⟨ai,s',h1,h2,fun K Q hK=>h3 K Q fun e' F' a' w' _ C'=>hK e' F' a' w' C'⟩
theorem xdK(hΓ : ∀f m,Γ f=some m->SoundF I f m){β:Type}{k:St->T β}{r:β×σ}{Q:Exit->Act->World->Prop}(hQ : ∀e' ai s' F' a' w',(k ai).run I.step s'=some r->Cfg I S0 w0 e0 e' ai s' F' a' w'->Q .normal a' w') :
  ∀ (l:List Oper) {e:Env} {st:St} {s:σ} {F:Nat->Prop} {a:Act} {w:World},Cfg I S0 w0 e0 e st s F a w->(xjr P Γ ops l st k).run I.step s=some r->wpList P ops Q l a w
 | [],e,st,s,F,a,w,C,h=>hQ e st s F a w h C
 | o::l,e,st,s,F,a,w,C,h=>by
  obtain⟨ai,s',h1,_,h3⟩:=xa8 hΓ C h
  have:=h3 (wpList P ops Q l) Q fun e' F' a' w' C'=>xdK hΓ hQ l C' h1
  unfold qA at this
  unfold wpList
  split
  .rename_i hw;rw[dB hw]at this;exact .inl this
  .rename_i hw;rw[dA hw]at this;exact this
/-! ### one operation as a step of what it does to slots, blocks and the port -/
theorem T.bind_assoc{α β γ:Type}(t:T α)(f:α->T β)(g:β->T γ):(t.bind f).bind g=t.bind fun a=>(f a).bind g:=by
 induction t with
 | ret a=>rfl
 | fail=>rfl
 | op o k ih=>simp only[T.bind];congr 1;funext c;exact ih c
theorem xht{β:Type}(pu:PM)(o:Oper)(st:St)(k:St->T β):wn P Γ pu o st k=(wn P Γ pu o st T.ret).bind k:=by
 unfold wn
 split
 .rename_i g v H _
  cases okV pu st.heap H<;>cases g<;>rfl
 .rfl
 .have hc : ∀f args,jZ Γ f args o st k=(jZ Γ f args o st T.ret).bind k:=by
   intro f args
   unfold jZ
   split
   .rename_i S _
    rw[S.hb,S.hb,T.bind_assoc]
    congr 1
    funext x
    cases S.f x<;>rfl
   .rfl
  cases pu
  .exact hc _ _
  .simp only
   split
   .rename_i S _
    rw[S.hb,S.hb,T.bind_assoc]
    congr 1
    funext x
    cases S.f x<;>rfl
   .rfl
  .simp only
   split
   .exact hc _ _
   .rfl
  .simp only
   split
   .rename_i S _
    rw[S.hb,S.hb,T.bind_assoc]
    congr 1
    funext x
    cases S.f x<;>rfl
   .rfl
  .rfl
 .rfl
theorem Ya{β:Type}(pu:PM)(o:Oper)(st:St)(k:St->T β):vb P Γ ops pu o st k=(vb P Γ ops pu o st T.ret).bind k:=by
 unfold vb
 split
 .exact xht ..
 .rename_i j want _
  split
  .rfl
  .split
   .rename_i b _
    cases b<;>cases want<;>first|exact xht .. | rfl
   .rfl
   .rfl
def xrq(Γ:yc)(I:Port P σ)(f:FuncId)(args:List V)(H:Heap)(s:σ):Option (V×Heap×σ):=match jn Γ f args H with
 | some S=>match S.t.run I.step s with
  | some (x,s')=>match S.f x with
   | some r=>some (r.1,r.2,s')
   | none=>none
  | none=>none
 | none=>none
def yS(Γ:yc)(I:Port P σ)(pu:PM)(H:Heap)(s:σ):Option Stp->Option (V×Heap×σ)
 | some (.val g v H')=>if(okV pu H H'&&g)=true then some (v,H',s)else none
 | some (.port p)=>match I.step p s with
  | some (x,s')=>some (ansV p x,H,s')
  | none=>none
 | some (.call f args)=>match pu with
  | .free=>xrq Γ I f args H s
  | .avoid A=>match xee A H args with
   | true=>xrq Γ I f args H s
   | false=>none
  | .keep A=>match vQ Γ A f args H with
   | some S=>match S.t.run I.step s with
    | some (x,s')=>match S.f x with
     | some r=>some (r.1,r.2,s')
     | none=>none
    | none=>none
   | none=>none
  | .pure=>match Vm Γ f args with
   | some S=>match S.t.run I.step s with
    | some (x,s')=>match S.f x with
     | some r=>some (r.1,H,s')
     | none=>none
    | none=>none
   | none=>none
  | .fresh=>none
 | none=>none
def valO(Γ:yc)(I:Port P σ)(ops:Array Oper)(pu:PM)(o:Oper)(tmps:Tm)(H:Heap)(s:σ):Option (V×Heap×σ):=
 match o.guard with
 | none=>yS Γ I pu H s (xl P o.op (xW tmps) H)
 | some (j,want)=>match(ops[j]?).bind (·.dst) with
  | none=>none
  | some sl=>match getT tmps sl with
   | some (.c (.bool b))=>if b=want then yS Γ I pu H s (xl P o.op (xW tmps) H)else some (.undef,H,s)
   | some (.tup [])=>some (.undef,H,s)
   | _=>none
theorem xkn(pu:PM)(o:Oper)(tmps:Tm)(H:Heap)(s:σ):(wn P Γ pu o ⟨tmps,H⟩ T.ret).run I.step s=(yS Γ I pu H s (xl P o.op (xW tmps) H)).map fun r=>((⟨putT tmps o.dst r.1,r.2.1⟩:St),r.2.2):=by
 unfold wn
 simp only
 generalize xl P o.op (xW tmps) H=q
 cases q with
 | none=>rfl
 | some q=>
  cases q with
  | val g v H'=>
   simp only[yS]
   cases okV pu H H'<;>cases g<;>rfl
  | port p=>
   simp only[T.run,yS]
   cases I.step p s<;>rfl
  | call f args=>
   have hc:(jZ Γ f args o ⟨tmps,H⟩ T.ret).run I.step s=(xrq Γ I f args H s).map fun r=>((⟨putT tmps o.dst r.1,r.2.1⟩:St),r.2.2):=by
    unfold jZ xrq
    simp only
    cases jn Γ f args H with
    | none=>rfl
    | some S=>
     simp only[S.hb,T.run_bind]
     cases S.t.run I.step s with
     | none=>rfl
     | some xs=>
      simp only
      cases S.f xs.1<;>rfl
   cases pu
   .simp only[yS]
    exact hc
   .simp only[yS]
    cases Vm Γ f args with
    | none=>rfl
    | some S=>
     simp only[S.hb,T.run_bind]
     cases S.t.run I.step s with
     | none=>rfl
     | some xs=>
      simp only
      cases S.f xs.1<;>rfl
   .rename_i A
    simp only[yS]
    cases xee A H args
    .rfl
    .exact hc
   .rename_i A
    simp only[yS]
    cases vQ Γ A f args H with
    | none=>rfl
    | some S=>
     simp only[S.hb,T.run_bind]
     cases S.t.run I.step s with
     | none=>rfl
     | some xs=>
      simp only
      cases S.f xs.1<;>rfl
   .rfl
theorem Kg(pu:PM)(o:Oper)(tmps:Tm)(H:Heap)(s:σ):(vb P Γ ops pu o ⟨tmps,H⟩ T.ret).run I.step s=(valO Γ I ops pu o tmps H s).map fun r=>((⟨putT tmps o.dst r.1,r.2.1⟩:St),r.2.2):=by
 unfold vb valO
 simp only
 cases o.guard with
 | none=>exact xkn ..
 | some jw=>
  obtain⟨j,want⟩:=jw
  simp only
  cases (ops[j]?).bind (·.dst) with
  | none=>rfl
  | some sl=>
   simp only
   cases hb:getT tmps sl with
   | none=>rfl
   | some v=>
    cases v with
    | agg l=>rfl
    | tup l=>cases l<;>rfl
    | c x=>
     cases x with
     | bool b=>
      have e1 : ∀b',b'=b->setT tmps sl (.c (.bool b'))=tmps:=by
       rintro b' rfl
       exact xcS hb
      cases b<;>cases want<;>simp only[cond_true,cond_false,e1 _ rfl,if_true,Bool.false_eq_true,Bool.true_eq_false,if_false]<;>first|exact xkn .. | rfl
     | _=>rfl
end
end Lx
namespace Lx
open Go
theorem Vk{ρ ρ':Operand->Option V}{l:List (Nat×Operand)}(h : ∀x∈l.map (·.2),ρ x=ρ' x):partsOf ρ l=partsOf ρ' l:=by
 unfold partsOf
 refine allSome_congr fun p hp =>?_
 rw[h p.2 (List.mem_map.2 ⟨p,hp,rfl⟩)]
theorem xhu{ρ ρ':Operand->Option V}{x:Option Operand}(h : ∀y∈x.toArray,ρ y=ρ' y):optO ρ x=optO ρ' x:=by
 cases x with
 | none=>rfl
 | some y=>simp only[optO,h y (by simp)]
theorem xnE{P:Program}{op:Op}{ρ ρ':Operand->Option V}{H:Heap}(h : ∀x∈op.operands,ρ x=ρ' x):xl P op ρ H=xl P op ρ' H:=by
 cases op<;>simp only[Op.operands]at h<;>try rfl
 case move x=>simp only[xl,h x (by simp)]
 case assign x=>simp only[xl,h x (by simp)]
 case pick c a b=>simp only[xl,h c (by simp),h a (by simp),h b (by simp)]
 case box t x=>simp only[xl,h x (by simp)]
 case build t ps=>simp only[xl,Vk (ρ:=ρ) (ρ':=ρ') (l:=ps.toList) fun x hx=>h x (by simpa using hx)]
 case buildSlice t n ps=>simp only[xl,Vk (ρ:=ρ) (ρ':=ρ') (l:=ps.toList) fun x hx=>h x (by simpa using hx)]
 case load t x=>simp only[xl,h x (by simp)]
 case store t x y=>simp only[xl,h x (by simp),h y (by simp)]
 case nilCheck x=>simp only[xl,h x (by simp)]
 case binOp o t x y u=>simp only[xl,h x (by simp),h y (by simp)]
 case unOp o t x=>simp only[xl,h x (by simp)]
 case convert s d x=>simp only[xl,h x (by simp)]
 case makeFunc fn first captured=>
  cases fn<;>try rfl
  .simp only[xl,allSome_congr (f:=ρ) (g:=ρ') (l:=captured.toList) fun x hx=>h x (by simp at hx |-;exact .inr hx)]
  .simp only[xl]
   split
   .split
    .rename_i x hx
     rw[h x (by simp;left;rw[<- Array.mem_toList_iff,hx];simp)]
    .rfl
   .rfl
 case slice t x lo hi mx=>
  cases mx with
  | some y=>rfl
  | none=>
   simp only[xl,h x (by simp),xhu (ρ:=ρ) (ρ':=ρ') (x:=lo) fun y hy=>h y (by simp at hy |-;simp[hy]),xhu (ρ:=ρ) (ρ':=ρ') (x:=hi) fun y hy=>h y (by simp at hy |-;simp[hy])]
 case fieldAddr t x f=>simp only[xl,h x (by simp)]
 case field t x f=>simp only[xl,h x (by simp)]
 case indexAddr t x y=>simp only[xl,h x (by simp),h y (by simp)]
 case index t x y=>simp only[xl,h x (by simp),h y (by simp)]
 case extract x i=>simp only[xl,h x (by simp)]
 case makeInterface t x=>simp only[xl,h x (by simp)]
 case makeMap t r=>cases r<;>rfl
 case makeSlice t l c=>simp only[xl,h l (by simp),h c (by simp)]
 case call c=>
  have h1:allSome ρ c.args.toList=allSome ρ' c.args.toList:=allSome_congr fun x hx=>h x (by simp[Call.operands];right;simpa using hx)
  simp only[xl,h1]
  cases hc:c.callee with
  | builtin b=>rfl
  | invoke r n=>simp only[h r (by simp[Call.operands,hc])]
  | value f=>simp only[h f (by simp[Call.operands,hc])]
/-! ### how operations hang on the blocks -/
def setH(H:Heap):Stp->Stp
 | .val g v _ =>.val g v H
 | q=>q
theorem yK{α:Type}(x:Option α)(g:α->Bool)(v:α->V)(H:Heap):(x.map fun a=>Stp.val (g a) (v a) H)=Option.map (setH H) (x.map fun a=>Stp.val (g a) (v a) []):=by
 cases x<;>rfl
theorem xhv{P:Program}{b:Builtin}{ts:List TypeId}{vs:List V}{H:Heap}:yu P b ts vs H=Option.map (setH H) (yu P b ts vs []):=by
 unfold yu
 split
 .split<;>rfl
 .rfl
 .rfl
 .rfl
theorem kind0{P:Program}{op:Op}{ρ:Operand->Option V}{H:Heap}(hk:xq op=0):xl P op ρ H=Option.map (setH H) (xl P op ρ []):=by
 cases op<;>simp[xq]at hk
 case store t a x=>cases a<;>simp at hk
 case move x=>simp only[xl];exact yK (ρ x) (fun _=>true) id H
 case assign x=>simp only[xl];exact yK (ρ x) (fun _=>true) id H
 case pick c a b=>
  simp only[xl]
  split
  .rename_i t _
   cases t
   .exact yK (ρ b) (fun _=>true) id H
   .exact yK (ρ a) (fun _=>true) id H
  .rfl
 case build t ps=>
  simp only[xl]
  split
  .split
   .split
    .exact yK _ (fun _=>true) (fun r =>.agg r) H
    .rfl
   .split
    .exact yK _ (fun _=>true) (fun r =>.agg r) H
    .rfl
   .rfl
  .rfl
 case nilCheck x=>
  simp only[xl]
  split
  .rfl
  .rfl
  .rfl
  .split
   .split<;>rfl
   .rfl
  .rfl
  .rfl
 case binOp o t x y u=>
  simp only[xl]
  split
  .exact yK _ (fun r:Bool×C=>r.1) (fun r:Bool×C =>.c r.2) H
  .exact yK _ (fun _:C=>true) (fun r:C =>.c r) H
  .rfl
 case unOp o t x=>
  simp only[xl]
  split
  .exact yK _ (fun _=>true) (fun r =>.c r) H
  .rfl
 case convert a b x=>
  simp only[xl]
  split<;>rfl
 case makeFunc fn first captured=>
  cases fn<;>try rfl
  .simp only[xl]
   split
   .split
    .exact yK _ (fun _=>true) (fun cs =>.c (.fn _ cs)) H
    .rfl
   .rfl
  .simp only[xl]
   split
   .split
    .split<;>rfl
    .rfl
   .rfl
 case slice t x lo hi mx=>
  cases mx with
  | some y=>rfl
  | none=>
   simp only[xl]
   split
   .split
    .split<;>rfl
    .rfl
   .split
    .split<;>rfl
    .rfl
   .split
    .split
     .split<;>rfl
     .rfl
    .rfl
   .split
    .split<;>rfl
    .rfl
   .rfl
 case fieldAddr t x f=>
  simp only[xl]
  split
  .split
   .split
    .split<;>rfl
    .rfl
   .rfl
  .split
   .split
    .split<;>rfl
    .rfl
   .rfl
  .rfl
 case field t x f=>
  simp only[xl]
  split
  .split
   .exact yK _ (fun _=>true) id H
   .rfl
  .rfl
 case indexAddr t x y=>
  simp only[xl]
  split
  .rename_i len e b o k i _ _ _
   exact yK _ (fun _=>decide (0<=i/\i<(len:Int))) (fun n =>.c (.ptr b (o+i.toNat*n))) H
  .rename_i e b o len c k i _ _ _
   exact yK _ (fun _=>decide (0<=i/\i<(len:Int))) (fun n =>.c (.ptr b (o+i.toNat*n))) H
  .split<;>rfl
  .rename_i e b o z len c k i _ _ _
   exact yK _ (fun _=>decide (0<=i/\i<(len:Int))) (fun n =>.c (.pr b o i n 0)) H
  .rename_i e b len k i _ _ _
   exact yK _ (fun _=>decide (0<=i/\i<(len:Int))) (fun n =>.c (.pr b 0 i n 0)) H
  .rfl
 case index t x y=>
  simp only[xl]
  split
  .rename_i len e cs k i _ _ _
   split
   .exact yK _ (fun _=>decide (0<=i/\i<(len:Int))) id H
   .rfl
  .rfl
 case extract x i=>
  simp only[xl]
  split
  .exact yK _ (fun _=>true) (fun v:V1=>v.up) H
  .rfl
 case makeInterface t x=>
  simp only[xl]
  split
  .split<;>rfl
  .rfl
 case call c=>
  obtain⟨callee,args,ats⟩:=c
  cases callee<;>simp[xq]at hk
  simp only[xl]
  split
  .split at hk
   .exact xhv
   .exact xhv
   .exact xhv
   .cases hk
   .cases hk
  .rfl
theorem xyB{P:Program}{op:Op}{ρ:Operand->Option V}{H:Heap}{q:Stp}(hk:xq op=0)(h:xl P op ρ H=some q) : ∃g v,q = .val g v H/\ ∀H2,xl P op ρ H2=some (.val g v H2):=by
 rw[kind0 hk,oM]at h
 obtain⟨q0,h1,rfl⟩:=h
 have hc : ∀ {f args},q0 ≠ .call f args:=by
  rintro f args rfl
  cases op<;>simp[xq]at hk
  case store t a x=>cases a<;>simp at hk
  case call c=>
   obtain⟨callee,as,ats⟩:=c
   cases callee<;>simp[xq]at hk
   simp only[xl]at h1
   split at h1
   .split at hk
    .simp only at h1;unfold yu at h1;(repeat' (split at h1))<;>cases h1
    .simp only at h1;unfold yu at h1;(repeat' (split at h1))<;>cases h1
    .simp only at h1;unfold yu at h1;(repeat' (split at h1))<;>cases h1
    .cases hk
    .cases hk
   .cases h1
  all_goals
   simp only[xl]at h1
   (repeat' (split at h1))<;>first
    | contradiction
    | cases h1
    | (rw[oM]at h1;obtain⟨_,_,h2⟩:=h1;cases h2)
 have hp : ∀ {p},q0 ≠ .port p:=by
  rintro p rfl
  cases op<;>simp[xq]at hk
  case store t a x=>cases a<;>simp at hk
  case call c=>
   obtain⟨callee,as,ats⟩:=c
   cases callee<;>simp[xq]at hk
   simp only[xl]at h1
   split at h1
   .split at hk
    .simp only at h1;unfold yu at h1;(repeat' (split at h1))<;>cases h1
    .simp only at h1;unfold yu at h1;(repeat' (split at h1))<;>cases h1
    .simp only at h1;unfold yu at h1;(repeat' (split at h1))<;>cases h1
    .cases hk
    .cases hk
   .cases h1
  all_goals
   simp only[xl]at h1
   (repeat' (split at h1))<;>first
    | contradiction
    | cases h1
    | (rw[oM]at h1;obtain⟨_,_,h2⟩:=h1;cases h2)
 cases q0 with
 | val g v H0=>exact⟨g,v,rfl,fun H2=>by rw[kind0 hk,h1];rfl⟩
 | port p=>exact absurd rfl hp
 | call f args=>exact absurd rfl hc
theorem xyC{P:Program}{op:Op}{ρ:Operand->Option V}{H:Heap}{q:Stp}(hk:xq op=1)(h:xl P op ρ H=some q) :
  ∃g v b,q = .val g v H/\(∃k,blkAt H b=some k)/\(∃x,x∈op.operands/\ptrB (ρ x)=some b)/\ ∀H2,blkAt H2 b=blkAt H b->xl P op ρ H2=some (.val g v H2):=by
 cases op<;>simp[xq]at hk
 case store t a x=>cases a<;>simp at hk
 case load t x=>
  simp only[xl]at h
  split at h
  .rename_i b o hx
   split at h
   .rename_i k hb
    rw[oM]at h
    obtain⟨v,h1,rfl⟩:=h
    refine⟨v.1,v.2,b,rfl,⟨k,hb⟩,⟨x,by simp[Op.operands],by rw[hx];rfl⟩,fun H2 h2 =>?_⟩
    simp only[xl,hx,h2,hb,h1,dL]
   .cases h
  .rename_i b off i n f hx
   split at h
   .rename_i k hb
    rw[oM]at h
    obtain⟨v,h1,rfl⟩:=h
    refine⟨v.1,v.2,b,rfl,⟨k,hb⟩,⟨x,by simp[Op.operands],by rw[hx];rfl⟩,fun H2 h2 =>?_⟩
    simp only[xl,hx,h2,hb,h1,dL]
   .cases h
  .cases h
 case call c=>
  obtain⟨callee,as,ats⟩:=c
  cases callee<;>simp[xq]at hk
  split at hk<;>simp at hk
theorem xyD{P:Program}{op:Op}{ρ:Operand->Option V}{H:Heap}{q:Stp}(hk:xq op=2)(h:xl P op ρ H=some q) :
  ∃v k,q = .val true v (newB H k)/\ ∀H2,H2.length=H.length->xl P op ρ H2=some (.val true v (newB H2 k)):=by
 cases op<;>simp[xq]at hk
 case store t a x=>cases a<;>simp at hk
 case alloc t=>
  simp only[xl]at h |-
  split at h
  .rename_i z hz
   split at h
   .rename_i cs hc
    cases h
    exact⟨_,_,rfl,fun H2 h2=>by rw[h2]⟩
   .cases h
  .cases h
 case box t x=>
  simp only[xl]at h |-
  split at h
  .rename_i z hz
   split at h
   .rename_i cs hc
    cases h
    exact⟨_,_,rfl,fun H2 h2=>by rw[h2]⟩
   .cases h
  .cases h
 case buildSlice t len ps=>
  simp only[xl]at h |-
  split at h
  .rename_i el L9 hu rc
   split at h
   .rename_i n z hn hz
    split at h
    .rename_i zs uh
     split at h
     .rename_i h0
      split at h
      .rename_i r hr
       cases h
       exact⟨_,_,rfl,fun H2 h2=>by simp only[hu,rc,hn,hz,uh,dB h0,hr,h2]⟩
      .cases h
     .cases h
    .cases h
   .cases h
  .cases h
 case call c=>
  obtain⟨callee,as,ats⟩:=c
  cases callee<;>simp[xq]at hk
  split at hk<;>simp at hk
theorem new_val{P:Program}{op:Op}{ρ:Operand->Option V}{H:Heap}{q:Stp}(hk:(∃t,op = .alloc t)\/ ∃t len ps,op = .buildSlice t len ps)(h:xl P op ρ H=some q) :
  ∃ (f:Nat->V) (kb:Blk) (rvf:Nat->Value),kb.tab=none/\kb.grown=false/\(∀H2,xl P op ρ H2=some (.val true (f H2.length) (newB H2 kb)))/\(∀pv e x c,denV pv (e ++ [(x,c)]) (f e.length)=some (rvf x))/\ ∀pv e (ra:Operand->Value),One pv->Says pv e ρ ra ->∃vs,denL pv e kb.cells=some vs:=by
 rcases hk with⟨t,rfl⟩|⟨t,len,ps,rfl⟩
 .simp only[xl]at h |-
  split at h
  .rename_i z hz
   split at h
   .rename_i cs hc
    refine⟨fun n =>.c (.ptr n 0),⟨cs,t,false,none⟩,fun x =>.pointer (some ⟨x,0,none⟩),rfl,rfl,fun H2=>rfl,fun pv e x c=>by simp[denV,den],fun pv e ra hp _ =>?_⟩
    obtain⟨rv,_,h2⟩:=wI hz pv e
    exact⟨_,vc hp h2 hc⟩
   .cases h
  .cases h
 .simp only[xl]at h |-
  split at h
  .rename_i el L9 hu rc
   split at h
   .rename_i n z hn hz
    split at h
    .rename_i zs uh
     split at h
     .rename_i h0
      split at h
      .rename_i r hr
       refine⟨fun n =>.c (.sl n 0 len len),⟨r,el,false,none⟩,fun x =>.slice (some ⟨x,0,none⟩) len len,rfl,rfl,fun H2=>dB h0,fun pv e x c=>by simp[denV,den],fun pv e ra hp hρ =>?_⟩
       obtain⟨zv,_,h2⟩:=wI hz pv e
       obtain⟨us,_,h4⟩:=Xy hp L9 _ _ r _ hr (den_rep (vc hp h2 uh) len) (qJ hρ _ _ rc)
       exact⟨us,h4⟩
      .cases h
     .cases h
    .cases h
   .cases h
  .cases h
theorem Kh : ∀ {H H':Heap} {b:Nat} {k:Blk},xjq H H'=true->blkAt H b=some k ->∃k',blkAt H' b=some k'
 | [],H',b,k,h,hb=>by simp[blkAt]at hb
 | some x::H,some y::H',0,k,h,hb=>⟨y,rfl⟩
 | some x::H,some y::H',b+1,k,h,hb=>by
  have:=Kh (H:=H) (H':=H') (b:=b) (k:=k) h hb
  exact this
 | none::H,none::H',0,k,h,hb=>by simp[blkAt]at hb
 | none::H,none::H',b+1,k,h,hb=>by
  have:=Kh (H:=H) (H':=H') (b:=b) (k:=k) h hb
  exact this
 | some x::H,[],b,k,h,hb=>by cases h
 | none::H,[],b,k,h,hb=>by cases h
 | some x::H,none::H',b,k,h,hb=>by cases h
 | none::H,some y::H',b,k,h,hb=>by cases h
theorem Wy : ∀ (H:Heap) (x:Heap),xjq H (H++x)=true
 | [],x=>rfl
 | some y::H,x=>Wy H x
 | none::H,x=>Wy H x
theorem xAG(pu:PM)(H:Heap):okV pu H H=true:=by
 cases pu<;>first|rfl|(have:=Wy H [];rw[List.append_nil]at this;exact this)
theorem okV_new(pu:PM)(H:Heap)(k:Blk):okV pu H (newB H k)=true:=by
 cases pu<;>first|rfl|exact Wy H _
theorem xjk{P:Program}{ts:List TypeId}{vs:List V}{H:Heap}{q:Stp}(h:jk P ts vs H=some q) : ∃g v kn,q = .val g v (newB H kn)\/ ∃b2 k2,blkAt H b2=some k2/\q = .val g v (newB (setB H b2 none) kn):=by
 unfold jk at h
 (repeat' (split at h))<;>try (unfold wG at h)
 all_goals try (unfold qF at h)
 all_goals (repeat' (split at h))
 all_goals first
  | (cases h;done)
  | (cases h;exact⟨_,_,_,.inl rfl⟩)
  | (cases h;exact⟨_,_,_,.inr ⟨_,_,by assumption,rfl⟩⟩)
theorem xyE{P:Program}{op:Op}{ρ:Operand->Option V}{H:Heap}{q:Stp}(hk:xq op=6)(h:xl P op ρ H=some q) : ∃g v H',q = .val g v H'/\(xjq H H'=true ->∃k,H'=newB H k):=by
 cases op<;>simp[xq]at hk
 case store t a x=>cases a<;>simp at hk
 case call c=>
  obtain⟨callee,as,ats⟩:=c
  cases callee with
  | builtin b=>
   simp only[xl]at h
   split at h
   .cases b<;>simp at hk
    obtain⟨g,v,kn,rfl|⟨b2,k2,cm,rfl⟩⟩:=xjk h
    .exact⟨_,_,_,rfl,fun _=>⟨_,rfl⟩⟩
    .refine⟨_,_,_,rfl,fun hs =>?_⟩
     obtain⟨k',cw⟩:=Kh hs cm
     have an:b2<H.length:=by
      rw[xN]at cm
      by_cases hi:b2<H.length
      .exact hi
      .rw[List.getElem?_eq_none (by omega)]at cm;simp at cm
     rw[yz]at cw
     rw[yC,List.length_set,dA (by omega),xN,List.getElem?_set_self an]at cw
     cases cw
   .cases h
  | invoke r n=>simp[xq]at hk
  | value f=>simp[xq]at hk
theorem Za{P:Program}{op:Op}{ρ:Operand->Option V}{H:Heap}{q:Stp}(hk:xq op=3)(h:xl P op ρ H=some q):(∀g v H',q ≠ .val g v H')/\ ∀H2,xl P op ρ H2=some q:=by
 cases op<;>simp[xq]at hk
 case store t a x=>cases a<;>simp at hk
 case call c=>
  obtain⟨callee,as,ats⟩:=c
  cases callee with
  | builtin b=>simp[xq]at hk;split at hk<;>simp at hk
  | invoke r n=>
   simp only[xl]at h |-
   refine⟨fun g v H' e =>?_,fun _=>h⟩
   subst e
   (repeat' (split at h))<;>first
    | cases h
    | (rw[oM]at h;obtain⟨_,_,h2⟩:=h;cases h2)
  | value f=>
   simp only[xl]at h |-
   refine⟨fun g v H' e =>?_,fun _=>h⟩
   subst e
   (repeat' (split at h))<;>first
    | cases h
    | (rw[oM]at h;obtain⟨_,_,h2⟩:=h;cases h2)
end Lx
namespace Lx
open Go
section
variable{P:Program}{σ:Type}{I:Port P σ}{Γ:yc}{S0:Bool->Nat->Prop}{w0:World}{e0:Env}{ops:Array Oper}
theorem xyF{tmps:Tm}{dst:Option Tmp}{v:V}{x:Operand}(h : ∀d,dst=some d->x ≠ .tmp d):xW (putT tmps dst v) x=xW tmps x:=by
 cases dst with
 | none=>rfl
 | some d=>
  cases x with
  | tmp t=>
   have aq:t≠d:=fun hh=>h d rfl (by rw[hh])
   simp only[xW,putT,yG _ _ aq]
  | _=>rfl
theorem Yb{pu:PM}{o:Oper}{tmps:Tm}{dst:Option Tmp}{v:V}{H:Heap}{s:σ}(h : ∀d,dst=some d->d∉o.looksAt ops):valO Γ I ops pu o (putT tmps dst v) H s=valO Γ I ops pu o tmps H s:=by
 have e1:xl P o.op (xW (putT tmps dst v)) H=xl P o.op (xW tmps) H:=xnE fun x hx=>xyF fun d hd Ou=>by
  subst Ou
  refine h d hd ?_
  simp only[Oper.looksAt,List.mem_append,List.mem_filterMap]
  exact .inl ⟨.tmp d,by simpa using hx,rfl⟩
 unfold valO
 rw[e1]
 cases hg:o.guard with
 | none=>rfl
 | some jw=>
  obtain⟨j,want⟩:=jw
  simp only
  cases d8:(ops[j]?).bind (·.dst) with
  | none=>rfl
  | some sl=>
   simp only
   have:getT (putT tmps dst v) sl=getT tmps sl:=by
    cases dst with
    | none=>rfl
    | some d=>
     have aq:sl≠d:=by
      rintro rfl
      refine h sl rfl ?_
      simp only[Oper.looksAt,List.mem_append,hg,d8]
      exact .inr (by simp)
     simp only[putT,yG _ _ aq]
   rw[this]
theorem vf(pu:PM)(o:Oper)(tmps:Tm):(∀H s,valO Γ I ops pu o tmps H s=yS Γ I pu H s (xl P o.op (xW tmps) H))\/(∀H s,valO Γ I ops pu o tmps H s=some (.undef,H,s))\/(∀H s,valO Γ I ops pu o tmps H s=none):=by
 unfold valO
 cases o.guard with
 | none=>exact .inl fun _ _=>rfl
 | some jw=>
  obtain⟨j,want⟩:=jw
  simp only
  cases (ops[j]?).bind (·.dst) with
  | none=>exact .inr (.inr fun _ _=>rfl)
  | some sl=>
   simp only
   cases getT tmps sl with
   | none=>exact .inr (.inr fun _ _=>rfl)
   | some v=>
    cases v with
    | agg l=>exact .inr (.inr fun _ _=>rfl)
    | tup l=>cases l<;>first|exact .inr (.inl fun _ _=>rfl)|exact .inr (.inr fun _ _=>rfl)
    | c x=>
     cases x with
     | bool b=>
      by_cases h:b=want
      .subst h;exact .inl fun _ _=>dB rfl
      .exact .inr (.inl fun _ _=>dA h)
     | _=>exact .inr (.inr fun _ _=>rfl)
variable{pu:PM}{o:Oper}{tmps:Tm}{H H':Heap}{s s':σ}{v:V}
theorem Wz{g:Bool}{u:V}{H0:Heap}(h:yS Γ I pu H s (some (.val g u H0))=some (v,H',s')):g=true/\u=v/\H0=H'/\s=s'/\okV pu H H0=true:=by
 simp only[yS]at h
 split at h
 .rename_i hg
  simp only[oI,dH]at h
  simp only[dK]at hg
  exact⟨hg.2,h.1,h.2.1,h.2.2,hg.1⟩
 .cases h
theorem xko{u:V}(pu:PM)(H:Heap)(s:σ):yS Γ I pu H s (some (.val true u H))=some (u,H,s):=by
 simp only[yS,xAG,Bool.and_self,if_true]
theorem xrr{u:V}(pu:PM)(H:Heap)(k:Blk)(s:σ):yS Γ I pu H s (some (.val true u (newB H k)))=some (u,newB H k,s):=by
 simp only[yS,okV_new,Bool.and_self,if_true]
def Idle(Γ:yc)(I:Port P σ)(ops:Array Oper)(pu:PM)(o:Oper)(tmps:Tm)(v:V):Prop :=∀H s,valO Γ I ops pu o tmps H s=some (v,H,s)
theorem beh0(hk:xq o.op=0)(h:valO Γ I ops pu o tmps H s=some (v,H',s')):H'=H/\s'=s/\Idle Γ I ops pu o tmps v:=by
 rcases vf (Γ:=Γ) (I:=I) (ops:=ops) pu o tmps with hc|hc|hc
 .rw[hc]at h
  cases hq:xl P o.op (xW tmps) H with
  | none=>rw[hq]at h;cases h
  | some q=>
   obtain⟨g,u,rfl,h2⟩:=xyB hk hq
   rw[hq]at h
   obtain⟨rfl,rfl,rfl,rfl,_⟩:=Wz h
   exact⟨rfl,rfl,fun H2 s2=>by rw[hc,h2];exact xko pu H2 s2⟩
 .rw[hc]at h
  cases h
  exact⟨rfl,rfl,hc⟩
 .rw[hc]at h;cases h
theorem xu3(c:Value):ptrB (Xs c)=none:=by
 unfold Xs
 split
 .cases allSome Zo _<;>rfl
 .split<;>rfl
 .unfold Zo;split<;>rfl
theorem beh1(hk:xq o.op=1)(h:valO Γ I ops pu o tmps H s=some (v,H',s')):H'=H/\s'=s/\(Idle Γ I ops pu o tmps v\/ ∃b,(∃ (t p:Nat),(∃ty,o.op = .load ty (.tmp t))/\ptrB (getT tmps t)=some b)/\ ∀H2 s2,blkAt H2 b=blkAt H b->valO Γ I ops pu o tmps H2 s2=some (v,H2,s2)):=by
 have G9 : ∃ty a,o.op = .load ty a:=by
  cases am:o.op with
  | load ty a=>exact⟨ty,a,rfl⟩
  | store ty a x=>cases a<;>simp[xq,am]at hk
  | call c=>obtain⟨callee,as,ats⟩:=c;cases callee<;>simp[xq,am]at hk;split at hk<;>simp at hk
  | _=>simp[xq,am]at hk
 obtain⟨ty,ad,G9⟩:=G9
 rcases vf (Γ:=Γ) (I:=I) (ops:=ops) pu o tmps with hc|hc|hc
 .rw[hc]at h
  cases hq:xl P o.op (xW tmps) H with
  | none=>rw[hq]at h;cases h
  | some q=>
   obtain⟨g,u,b,rfl,hb,⟨x,hx,Ez⟩,h2⟩:=xyC hk hq
   rw[hq]at h
   obtain⟨rfl,rfl,rfl,rfl,_⟩:=Wz h
   refine⟨rfl,rfl,.inr ⟨b,?_,fun H2 s2 cm=>by rw[hc,h2 H2 cm];exact xko pu H2 s2⟩⟩
   have Ov:x=ad:=by rw[G9]at hx;simpa[Op.operands]using hx
   cases x with
   | tmp t=>exact⟨t,0,⟨ty,by rw[G9,<- Ov]⟩,Ez⟩
   | const c=>
    simp only[xW,xu3]at Ez
    cases Ez
   | global g=>simp[xW,ptrB]at Ez
   | func f=>simp[xW,ptrB]at Ez
 .rw[hc]at h
  cases h
  exact⟨rfl,rfl,.inl hc⟩
 .rw[hc]at h;cases h
theorem beh2(hk:xq o.op=2)(h:valO Γ I ops pu o tmps H s=some (v,H',s')):s'=s/\((H'=H/\Idle Γ I ops pu o tmps v)\/ ∃k,H'=newB H k/\ ∀H2 s2,H2.length=H.length->valO Γ I ops pu o tmps H2 s2=some (v,newB H2 k,s2)):=by
 rcases vf (Γ:=Γ) (I:=I) (ops:=ops) pu o tmps with hc|hc|hc
 .rw[hc]at h
  cases hq:xl P o.op (xW tmps) H with
  | none=>rw[hq]at h;cases h
  | some q=>
   obtain⟨u,k,rfl,h2⟩:=xyD hk hq
   rw[hq]at h
   obtain⟨_,rfl,rfl,rfl,_⟩:=Wz h
   exact⟨rfl,.inr ⟨k,rfl,fun H2 s2 hl=>by rw[hc,h2 H2 hl];exact xrr pu H2 k s2⟩⟩
 .rw[hc]at h
  cases h
  exact⟨rfl,.inl ⟨rfl,hc⟩⟩
 .rw[hc]at h;cases h
theorem beh3(hk:xq o.op=3)(h:valO Γ I ops .pure o tmps H s=some (v,H',s')):H'=H/\ ∀H2,valO Γ I ops .pure o tmps H2 s=some (v,H2,s'):=by
 rcases vf (Γ:=Γ) (I:=I) (ops:=ops) .pure o tmps with hc|hc|hc
 .rw[hc]at h
  cases hq:xl P o.op (xW tmps) H with
  | none=>rw[hq]at h;cases h
  | some q=>
   obtain⟨h1,h2⟩:=Za hk hq
   rw[hq]at h
   cases q with
   | val g u H0=>exact absurd rfl (h1 g u H0)
   | port p=>
    simp only[yS]at h
    cases hs:I.step p s with
    | none=>rw[hs]at h;cases h
    | some vs=>
     rw[hs]at h
     cases h
     exact⟨rfl,fun H2=>by rw[hc,h2 H2];simp only[yS,hs]⟩
   | call f args=>
    simp only[yS]at h
    cases ht:Vm Γ f args with
    | none=>rw[ht]at h;cases h
    | some S=>
     rw[ht]at h
     simp only at h
     cases hr:S.t.run I.step s with
     | none=>rw[hr]at h;cases h
     | some r=>
      rw[hr]at h
      simp only at h
      cases hf:S.f r.1 with
      | none=>rw[hf]at h;cases h
      | some q=>
       rw[hf]at h
       cases h
       exact⟨rfl,fun H2=>by rw[hc,h2 H2];simp only[yS,ht,hr,hf]⟩
 .rw[hc]at h
  cases h
  exact⟨rfl,fun H2=>hc H2 s⟩
 .rw[hc]at h;cases h
theorem Yc : ∀ (l:List Nat) (xs:List (Option Blk)) (H:Heap) (b:Nat),b∉l->blkAt (vJ H l xs) b=blkAt H b
 | [],xs,H,b,h=>by cases xs<;>rfl
 | c::l,[],H,b,h=>rfl
 | c::l,x::xs,H,b,h=>by
  rw[vJ,Yc l xs _ b (fun hh=>h (by simp[hh])),yC,xN,xN,List.getElem?_set_ne (fun hh=>h (by simp[hh]))]
theorem xnF{f:FuncId}{args:List V}{S:Sum}{x:S.α}{q:V×Heap}{l:List Nat}{b:Nat}(h:jn Γ f args H=some S)(hf:S.f x=some q)(hr:wf H 1000 (args.flatMap idsV) []=some l)(hb:b∉l)(an:b<H.length):blkAt q.2 b=blkAt H b:=by
 unfold jn at h
 split at h
 .cases h
 .rw[hr]at h
  simp only at h
  split at h
  .split at h
   .cases h
   .cases h
    simp only at hf
    split at hf
    .cases hf
    .split at hf
     .split at hf
      .cases hf
       simp only
       rw[xN,List.getElem?_append_left (by rw[ve];exact an),<- xN,Yc _ _ _ _ hb]
      .cases hf
     .cases hf
  .cases h
/-! ### calls that leave no further blocks, beside a new block -/
def Closed(tmps:Tm)(H:Heap):Prop:=(∀t v,getT tmps t=some v ->∀b∈idsV v,b<H.length)/\ ∀i k,blkAt H i=some k ->∀b∈yU k.cells,b<H.length
theorem xhw{H:Heap}{b:Nat}{k:Blk}(h:blkAt H b=some k):b<H.length:=(List.getElem?_eq_some_iff.1 (yf.1 h)).1
theorem Ki{H:Heap}{k:Blk}(hc : ∀i kk,blkAt H i=some kk ->∀b∈yU kk.cells,b<H.length) : ∀ (n:Nat) (todo acc:List Nat),(∀b∈todo,b<H.length)->wf (newB H k) n todo acc=wf H n todo acc
 | n,[],acc,h=>by cases n<;>rfl
 | 0,b::todo,acc,h=>rfl
 | n+1,b::todo,acc,h=>by
  simp only[wf]
  have hb:=h b (by simp)
  have an:blkAt (newB H k) b=blkAt H b:=by rw[yz,dA (by omega)]
  rw[an]
  split
  .exact Ki hc n todo acc fun x hx=>h x (by simp[hx])
  .split
   .rename_i kk hk
    refine Ki hc n _ _ fun x hx =>?_
    rcases List.mem_append.1 hx with hx|hx
    .exact hc b kk hk x hx
    .exact h x (by simp[hx])
   .rfl
theorem xhx(k:Blk) : ∀ (l:List Nat) (xs:List (Option Blk)) (H:Heap),(∀b∈l,b<H.length)->vJ (newB H k) l xs=newB (vJ H l xs) k
 | [],xs,H,h=>by cases xs<;>rfl
 | c::l,[],H,h=>rfl
 | c::l,x::xs,H,h=>by
  simp only[vJ]
  have hb:=h c (by simp)
  have:setB (newB H k) c x=newB (setB H c x) k:=by
   rw[yC,yC,newB,newB,List.set_append_left _ _ hb]
  rw[this]
  exact xhx k l xs _ fun b hb=>by rw[yC,List.length_set];exact h b (by simp[hb])
theorem xyG(l:List Nat)(xs:List (Option Blk))(H:Heap):(vJ H l xs).length=H.length:=ve ..
theorem xyH{A:List Nat}{f:FuncId}{args:List V}{k:Blk}(hc : ∀i kk,blkAt H i=some kk ->∀b∈yU kk.cells,b<H.length)(ha : ∀b∈args.flatMap idsV,b<H.length) :
  vQ Γ A f args (newB H k)=(vQ Γ A f args H).map fun S=>⟨S.α,S.t,fun a=>(S.f a).map fun q=>(q.1,newB q.2 k),S.b,S.hb⟩:=by
 unfold vQ
 cases Γ f with
 | none=>rfl
 | some m=>
  simp only
  rw[Ki hc _ _ _ ha]
  cases hl:wf H 1000 (args.flatMap idsV) [] with
  | none=>rfl
  | some l=>
   simp only
   obtain⟨_,hk,_⟩:=XV H _ _ [] l hl (by simp) (by simp)
   have an : ∀b∈l,b<H.length:=fun b hb=>by obtain⟨kk,h⟩:=hk b hb;exact xhw h
   have e1:allSome (fun b=>renB (idx l) (blkAt (newB H k) b)) l=allSome (fun b=>renB (idx l) (blkAt H b)) l:=by
    have : ∀q:List Nat,(∀b∈q,b<H.length)->allSome (fun b=>renB (idx l) (blkAt (newB H k) b)) q=allSome (fun b=>renB (idx l) (blkAt H b)) q:=by
     intro q
     induction q with
     | nil=>intro _;rfl
     | cons x q ih=>
      intro h
      have hx:=h x (by simp)
      simp only[allSome,ih fun b hb=>h b (by simp[hb])]
      rw[yz,dA (by omega)]
    exact this l an
   rw[e1]
   cases A.all fun b=> !(l.contains b) with
   | false=>rfl
   | true=>
    simp only
    cases allSome (renV (idx l)) args with
    | none=>rfl
    | some fy=>
     cases allSome (fun b=>renB (idx l) (blkAt H b)) l with
     | none=>rfl
     | some H0=>
      simp only
      cases m fy H0 with
      | none=>rfl
      | some S=>
       simp only[dL,oI,Sum.mk.injEq,heq_eq_eq,true_and,and_true]
       funext a
       cases S.f a with
       | none=>rfl
       | some r=>
        simp only
        cases renV (fun i=>l[i]?) r.1 with
        | none=>rfl
        | some v=>
         cases allSome (renB fun i=>l[i]?) r.2 with
         | none=>rfl
         | some H1=>
          simp only
          split
          .simp only[dL,xhx k l H1 H an]
          .rfl
theorem xyI{A:List Nat}{f:FuncId}{args:List V}{S:Sum}{x:S.α}{q:V×Heap}(h:vQ Γ A f args H=some S)(hf:S.f x=some q):q.2.length=H.length/\ ∀b∈A,blkAt q.2 b=blkAt H b:=by
 unfold vQ at h
 split at h
 .cases h
 .split at h
  .cases h
  .rename_i l hl
   split at h
   .cases h
   .rename_i hA
    split at h
    .split at h
     .cases h
     .cases h
      simp only at hf
      split at hf
      .cases hf
      .split at hf
       .split at hf
        .cases hf
         refine⟨xyG ..,fun b hb=>Yc _ _ _ _ fun hm =>?_⟩
         rw[List.all_eq_true]at hA
         have:=hA b hb
         rw[List.contains_iff_mem.2 hm]at this
         cases this
        .cases hf
       .cases hf
    .cases h
theorem xu4{x:Value}{v:V}(h:Xs x=some v):idsV v = []:=by
 have hc : ∀ {x:Value} {c:C},Zo x=some c->idsC c = []:=by
  intro x c h
  unfold Zo at h
  split at h<;>cases h<;>rfl
 have dz : ∀ (l:List Value) (r:List C),allSome Zo l=some r->yU r = []:=by
  intro l
  induction l with
  | nil=>intro r h;simp only[allSome,oI]at h;subst h;rfl
  | cons a l ih=>
   intro r h
   simp only[allSome]at h
   split at h
   .rename_i y hy
    split at h
    .rename_i ys lr
     cases h
     simp only[yU,hc hy,ih ys lr,List.append_nil]
    .cases h
   .cases h
 unfold Xs at h
 split at h
 .rw[oM]at h;obtain⟨r,h1,rfl⟩:=h;exact dz _ _ h1
 .split at h
  .cases h;rfl
  .cases h
 .rw[oM]at h;obtain⟨r,h1,rfl⟩:=h;exact hc h1
theorem xkp{tmps:Tm}{H:Heap}(hc : ∀t v,getT tmps t=some v ->∀b∈idsV v,b<H.length){x:Operand}{v:V}(h:xW tmps x=some v) : ∀b∈idsV v,b<H.length:=by
 cases x with
 | tmp t=>exact hc t v h
 | const c=>rw[xu4 h];intro b hb;cases hb
 | global g=>simp[xW]at h
 | func f=>simp only[xW,oI]at h;subst h;intro b hb;simp[idsV,idsC,yU]at hb
theorem xdL{tmps:Tm}{H:Heap}(hc : ∀t v,getT tmps t=some v ->∀b∈idsV v,b<H.length) : ∀ (l:List Operand) (vs:List V),allSome (xW tmps) l=some vs ->∀b∈vs.flatMap idsV,b<H.length
 | [],vs,h,b,hb=>by simp only[allSome,oI]at h;subst h;simp at hb
 | x::l,vs,h,b,hb=>by
  simp only[allSome]at h
  split at h
  .rename_i y hy
   split at h
   .rename_i ys lr
    cases h
    simp only[List.flatMap_cons,List.mem_append]at hb
    rcases hb with hb|hb
    .exact xkp hc hy b hb
    .exact xdL hc l ys lr b hb
   .cases h
  .cases h
theorem xrs : ∀caps:List C,(caps.map V.c).flatMap idsV=yU caps
 | []=>rfl
 | c::l=>by simp only[List.map_cons,List.flatMap_cons,xrs l,idsV,yU]
theorem xAH{tmps:Tm}{H H2:Heap}(hc : ∀t v,getT tmps t=some v ->∀b∈idsV v,b<H.length){op:Op}(hk:xq op=3){f:FuncId}{args:List V}(h:xl P op (xW tmps) H2=some (.call f args)) : ∀b∈args.flatMap idsV,b<H.length:=by
 cases op<;>simp[xq]at hk
 case call c=>
  obtain⟨callee,as,ats⟩:=c
  cases callee with
  | builtin b=>simp at hk;split at hk<;>simp at hk
  | invoke r n=>
   simp only[xl]at h
   (repeat' (split at h))<;>first
    | cases h
    | (rw[oM]at h;obtain⟨_,_,h2⟩:=h;cases h2)
  | value g=>
   simp only[xl]at h
   split at h
   .rename_i vs ma
    split at h
    .rename_i f' caps hf
     cases h
     intro b hb
     rw[List.flatMap_append,List.mem_append,xrs]at hb
     rcases hb with hb|hb
     .exact xdL hc _ _ ma b hb
     .exact xkp hc hf b (by simpa[idsV,idsC]using hb)
    .rw[oM]at h;obtain⟨_,_,h2⟩:=h;cases h2
    .cases h
   .cases h
 case store t a x=>cases a<;>simp at hk
theorem behK{B:List Nat}(hk:xq o.op=3)(gg:Closed tmps H)(kk:Blk):valO Γ I ops (.keep B) o tmps (newB H kk) s=(valO Γ I ops (.keep B) o tmps H s).map fun r=>(r.1,newB r.2.1 kk,r.2.2):=by
 rcases vf (Γ:=Γ) (I:=I) (ops:=ops) (.keep B) o tmps with hc|hc|hc
 .rw[hc,hc]
  cases hq:xl P o.op (xW tmps) H with
  | none=>
   cases mf:xl P o.op (xW tmps) (newB H kk) with
   | none=>rfl
   | some q=>have:=(Za hk mf).2 H;rw[hq]at this;cases this
  | some q=>
   obtain⟨h1,h2⟩:=Za hk hq
   rw[h2]
   cases q with
   | val g u H0=>exact absurd rfl (h1 g u H0)
   | port p=>
    simp only[yS]
    cases I.step p s<;>rfl
   | call f args=>
    simp only[yS]
    rw[xyH gg.2 (xAH gg.1 hk hq)]
    cases vQ Γ B f args H with
    | none=>rfl
    | some S=>
     simp only[dL]
     cases S.t.run I.step s with
     | none=>rfl
     | some r=>
      simp only
      cases S.f r.1<;>rfl
 .rw[hc,hc];rfl
 .rw[hc,hc];rfl
theorem xa9{B:List Nat}(hk:xq o.op=3)(h:valO Γ I ops (.keep B) o tmps H s=some (v,H',s')):H'.length=H.length/\ ∀b∈B,blkAt H' b=blkAt H b:=by
 rcases vf (Γ:=Γ) (I:=I) (ops:=ops) (.keep B) o tmps with hc|hc|hc
 .rw[hc]at h
  cases hq:xl P o.op (xW tmps) H with
  | none=>rw[hq]at h;cases h
  | some q=>
   obtain⟨h1,h2⟩:=Za hk hq
   rw[hq]at h
   cases q with
   | val g u H0=>exact absurd rfl (h1 g u H0)
   | port p=>
    simp only[yS]at h
    cases hs:I.step p s with
    | none=>rw[hs]at h;cases h
    | some vs=>rw[hs]at h;cases h;exact⟨rfl,fun _ _=>rfl⟩
   | call f args=>
    simp only[yS]at h
    cases ht:vQ Γ B f args H with
    | none=>rw[ht]at h;cases h
    | some S=>
     rw[ht]at h
     simp only at h
     cases hr:S.t.run I.step s with
     | none=>rw[hr]at h;cases h
     | some r=>
      rw[hr]at h
      simp only at h
      cases hf:S.f r.1 with
      | none=>rw[hf]at h;cases h
      | some q=>
       rw[hf]at h
       cases h
       exact xyI ht hf
 .rw[hc]at h;cases h;exact⟨rfl,fun _ _=>rfl⟩
 .rw[hc]at h;cases h
theorem beh5(hk:xq o.op=5)(h:valO Γ I ops pu o tmps H s=some (v,H',s')):s'=s/\((H'=H/\Idle Γ I ops pu o tmps v)\/ ∃b kn,(∃t,(∃ty x,o.op = .store ty (.tmp t) x)/\ptrB (getT tmps t)=some b)/\H'=setB H b (some kn)):=by
 have ce : ∃ty t x,o.op = .store ty (.tmp t) x:=by
  cases am:o.op with
  | store ty a x=>cases a<;>first|exact⟨ty,_,x,rfl⟩|(simp[xq,am]at hk)
  | call c=>obtain⟨callee,as,ats⟩:=c;cases callee<;>simp[xq,am]at hk;try (split at hk<;>simp at hk)
  | _=>simp[xq,am]at hk
 obtain⟨ty,t,x,ce⟩:=ce
 rcases vf (Γ:=Γ) (I:=I) (ops:=ops) pu o tmps with hc|hc|hc
 .rw[hc]at h
  cases hq:xl P o.op (xW tmps) H with
  | none=>rw[hq]at h;cases h
  | some q=>
   rw[hq]at h
   rw[ce]at hq
   simp only[xl,xW]at hq
   split at hq
   .rename_i b p u ha hx
    split at hq
    .rename_i kb xs n hb oh hn
     split at hq
     .split at hq
      .rename_i g kn tq
       cases hq
       obtain⟨_,rfl,rfl,rfl,_⟩:=Wz h
       exact⟨rfl,.inr ⟨b,kn,⟨t,⟨ty,x,ce⟩,by rw[ha];rfl⟩,rfl⟩⟩
      .cases hq
     .cases hq
    .cases hq
   .rename_i b off i m f u ha hx
    split at hq
    .rename_i kb xs n hb oh hn
     split at hq
     .split at hq
      .rename_i g kn tq
       cases hq
       obtain⟨_,rfl,rfl,rfl,_⟩:=Wz h
       exact⟨rfl,.inr ⟨b,kn,⟨t,⟨ty,x,ce⟩,by rw[ha];rfl⟩,rfl⟩⟩
      .cases hq
     .cases hq
    .cases hq
   .cases hq
 .rw[hc]at h
  cases h
  exact⟨rfl,.inl ⟨rfl,hc⟩⟩
 .rw[hc]at h;cases h
theorem behA{B:List Nat}(hk:xq o.op=3)(h:valO Γ I ops (.avoid B) o tmps H s=some (v,H',s')) : ∀b∈B,blkAt H' b=blkAt H b:=by
 intro b hb
 rcases vf (Γ:=Γ) (I:=I) (ops:=ops) (.avoid B) o tmps with hc|hc|hc
 .rw[hc]at h
  cases hq:xl P o.op (xW tmps) H with
  | none=>rw[hq]at h;cases h
  | some q=>
   obtain⟨h1,h2⟩:=Za hk hq
   rw[hq]at h
   cases q with
   | val g u H0=>exact absurd rfl (h1 g u H0)
   | port p=>
    simp only[yS]at h
    cases hs:I.step p s with
    | none=>rw[hs]at h;cases h
    | some vs=>rw[hs]at h;cases h;rfl
   | call f args=>
    simp only[yS]at h
    split at h
    .rename_i D0
     unfold xee at D0
     split at D0
     .rename_i l hl
      rw[List.all_eq_true]at D0
      have:=D0 b hb
      simp only[dK,Bool.not_eq_true',decide_eq_true_eq]at this
      obtain⟨M7,an⟩:=this
      have J5:b∉l:=fun hm=>by rw[List.contains_iff_mem.2 hm]at M7;cases M7
      unfold xrq at h
      cases ht:jn Γ f args H with
      | none=>rw[ht]at h;cases h
      | some S=>
       rw[ht]at h
       simp only at h
       cases hr:S.t.run I.step s with
       | none=>rw[hr]at h;cases h
       | some r=>
        rw[hr]at h
        simp only at h
        cases hf:S.f r.1 with
        | none=>rw[hf]at h;cases h
        | some q=>
         rw[hf]at h
         cases h
         exact xnF ht hf hl J5 an
     .cases D0
    .cases h
 .rw[hc]at h;cases h;rfl
 .rw[hc]at h;cases h
theorem beh6(hk:xq o.op=6)(h:valO Γ I ops .fresh o tmps H s=some (v,H',s')):s'=s/\((H'=H/\Idle Γ I ops .fresh o tmps v)\/ ∃k,H'=newB H k):=by
 rcases vf (Γ:=Γ) (I:=I) (ops:=ops) .fresh o tmps with hc|hc|hc
 .rw[hc]at h
  cases hq:xl P o.op (xW tmps) H with
  | none=>rw[hq]at h;cases h
  | some q=>
   obtain⟨g,u,H0,rfl,h2⟩:=xyE hk hq
   rw[hq]at h
   obtain⟨_,rfl,rfl,rfl,hs⟩:=Wz h
   exact⟨rfl,.inr (h2 hs)⟩
 .rw[hc]at h
  cases h
  exact⟨rfl,.inl ⟨rfl,hc⟩⟩
 .rw[hc]at h;cases h
theorem xrt(H:Heap)(k:Blk):(newB H k).length=H.length+1:=by simp[newB]
theorem wX{H:Heap}{k:Blk}{b:Nat}(h:b<H.length):blkAt (newB H k) b=blkAt H b:=by
 rw[yz,dA (by omega)]
def xu5(tmps:Tm)(pu:PM)(x:Oper):Prop:=xq x.op=1/\ ∃B,(pu = .avoid B\/pu = .keep B)/\ ∀ty t b (p:Nat),x.op = .load ty (.tmp t)->ptrB (getT tmps t)=some b->b∈B
theorem xu6{i j:Nat}(hk:Ys i j=true)(hi : ¬i=0)(hj : ¬j=0):(i=1/\j=1)\/(i=1/\j=2)\/(i=1/\j=3)\/(i=2/\j=1)\/(i=3/\j=1)\/(i=2/\j=3)\/(i=3/\j=2)\/(i=1/\j=5)\/(i=1/\j=6)\/(i=6/\j=1):=by
 simp only[Ys,Bool.or_eq_true,dK,beq_iff_eq,decide_eq_true_eq]at hk
 rcases hk with(((((((h|h)|h)|h)|h)|h)|h)|h)|h
 .exact absurd h hi
 .exact absurd h hj
 .obtain⟨rfl,h⟩:=h
  have:j=1\/j=2\/j=3:=by omega
  rcases this with rfl|rfl|rfl<;>simp
 .obtain⟨rfl,h⟩:=h
  have:i=1\/i=2\/i=3:=by omega
  rcases this with rfl|rfl|rfl<;>simp
 all_goals
  obtain⟨rfl,rfl⟩:=h
  simp
theorem xAI{x y:Oper}{px py:PM}{vx vy:V}{Hx Hy:Heap}{sx sy:σ}(hk:Ys (xq x.op) (xq y.op)=true)(hx:valO Γ I ops px x tmps H s=some (vx,Hx,sx))(hy:valO Γ I ops py y tmps Hx sx=some (vy,Hy,sy))
  (Mz:xq x.op=3->(xq y.op=1\/xq y.op=2)->px = .pure\/xu5 tmps px y\/(xq y.op=2/\ ∃B,px = .keep B)) (My:xq y.op=3->(xq x.op=1\/xq x.op=2)->py = .pure\/xu5 tmps py x\/(xq x.op=2/\ ∃B,py = .keep B)) (hs : ∀t b (p:Nat),ptrB (getT tmps t)=some b->b<H.length)
  (gg:Closed tmps H) (Ql:xq x.op=1->xq y.op=5 ->∀tx t tz z q b (p:Nat) c,x.op = .load tx (.tmp t)->y.op = .store tz (.tmp z) q->ptrB (getT tmps t)=some b->ptrB (getT tmps z)=some c->b≠c)
  (Qw:xq x.op=6->xq y.op=1->px = .fresh) (Qv:xq y.op=6->xq x.op=1->py = .fresh) :
  ∃H1 s1,valO Γ I ops py y tmps H s=some (vy,H1,s1)/\valO Γ I ops px x tmps H1 s1=some (vx,Hy,sy):=by
 have idleX:Hx=H->sx=s->Idle Γ I ops px x tmps vx ->∃H1 s1,valO Γ I ops py y tmps H s=some (vy,H1,s1)/\valO Γ I ops px x tmps H1 s1=some (vx,Hy,sy):=by
  rintro rfl rfl hi
  exact⟨Hy,sy,hy,hi _ _⟩
 have idleY:Hy=Hx->sy=sx->Idle Γ I ops py y tmps vy ->∃H1 s1,valO Γ I ops py y tmps H s=some (vy,H1,s1)/\valO Γ I ops px x tmps H1 s1=some (vx,Hy,sy):=by
  rintro rfl rfl hi
  exact⟨H,s,hi _ _,hx⟩
 by_cases nf:xq x.op=0
 .obtain⟨h1,h2,h3⟩:=beh0 nf hx
  exact idleX h1 h2 h3
 by_cases Mk:xq y.op=0
 .obtain⟨h1,h2,h3⟩:=beh0 Mk hy
  exact idleY h1 h2 h3
 have Dz:=xu6 hk nf Mk
 rcases Dz with⟨k1,k2⟩|⟨k1,k2⟩|⟨k1,k2⟩|⟨k1,k2⟩|⟨k1,k2⟩|⟨k1,k2⟩|⟨k1,k2⟩|⟨k1,k2⟩|⟨k1,k2⟩|⟨k1,k2⟩
 .obtain⟨rfl,rfl,h3⟩:=beh1 k1 hx
  obtain⟨rfl,rfl,h6⟩:=beh1 k2 hy
  exact⟨_,_,hy,hx⟩
 .obtain⟨rfl,rfl,h3⟩:=beh1 k1 hx
  obtain⟨rfl,h6⟩:=beh2 k2 hy
  rcases h3 with h3|⟨b,⟨t,p,_,hb⟩,h3⟩
  .exact idleX rfl rfl h3
  .rcases h6 with⟨rfl,h6⟩|⟨k,rfl,h6⟩
   .exact idleY rfl rfl h6
   .exact⟨_,_,hy,h3 _ _ (wX (hs t b p hb))⟩
 .obtain⟨rfl,rfl,h3⟩:=beh1 k1 hx
  rcases h3 with h3|⟨b,⟨t,p,⟨ty,am⟩,hb⟩,h3⟩
  .exact idleX rfl rfl h3
  .rcases My k2 (.inl k1)with rfl|⟨_,B,rfl|rfl,hB⟩|⟨h0,_⟩
   .obtain⟨rfl,h6⟩:=beh3 k2 hy
    exact⟨_,_,hy,h3 _ _ rfl⟩
   .exact⟨_,_,hy,h3 _ _ (behA k2 hy b (hB ty t b p am hb))⟩
   .exact⟨_,_,hy,h3 _ _ ((xa9 k2 hy).2 b (hB ty t b p am hb))⟩
   .omega
 .obtain⟨rfl,h3⟩:=beh2 k1 hx
  obtain⟨rfl,rfl,h6⟩:=beh1 k2 hy
  rcases h3 with⟨rfl,h3⟩|⟨k,rfl,h3⟩
  .exact idleX rfl rfl h3
  .rcases h6 with h6|⟨b,⟨t,p,_,hb⟩,h6⟩
   .exact idleY rfl rfl h6
   .exact⟨H,_,h6 _ _ (wX (hs t b p hb)).symm,hx⟩
 .obtain⟨rfl,rfl,h6⟩:=beh1 k2 hy
  rcases h6 with h6|⟨b,⟨t,p,⟨ty,am⟩,hb⟩,h6⟩
  .exact idleY rfl rfl h6
  .rcases Mz k1 (.inl k2)with rfl|⟨_,B,rfl|rfl,hB⟩|⟨h0,_⟩
   .obtain⟨rfl,h3⟩:=beh3 k1 hx
    exact⟨_,_,h6 _ _ rfl,hx⟩
   .exact⟨_,_,h6 _ _ (behA k1 hx b (hB ty t b p am hb)).symm,hx⟩
   .exact⟨_,_,h6 _ _ ((xa9 k1 hx).2 b (hB ty t b p am hb)).symm,hx⟩
   .omega
 .obtain⟨rfl,h3⟩:=beh2 k1 hx
  rcases My k2 (.inr k1)with rfl|h|⟨_,B,rfl⟩
  .obtain⟨rfl,h6⟩:=beh3 k2 hy
   rcases h3 with⟨rfl,h3⟩|⟨k,rfl,h3⟩
   .exact idleX rfl rfl h3
   .exact⟨H,_,h6 H,h3 _ _ rfl⟩
  .have:=h.1;omega
  .rcases h3 with⟨rfl,h3⟩|⟨k,rfl,h3⟩
   .exact idleX rfl rfl h3
   .rw[behK k2 gg,oM]at hy
    obtain⟨⟨v1,H1,s1⟩,h4,h5⟩:=hy
    cases h5
    exact⟨H1,s1,h4,h3 _ _ (xa9 k2 h4).1⟩
 .rcases Mz k1 (.inr k2)with rfl|h|⟨_,B,rfl⟩
  .obtain⟨rfl,h3⟩:=beh3 k1 hx
   obtain⟨rfl,h6⟩:=beh2 k2 hy
   rcases h6 with⟨rfl,h6⟩|⟨k,rfl,h6⟩
   .exact idleY rfl rfl h6
   .exact⟨_,_,h6 _ _ rfl,h3 _⟩
  .have:=h.1;omega
  .obtain⟨rfl,h6⟩:=beh2 k2 hy
   rcases h6 with⟨rfl,h6⟩|⟨k,rfl,h6⟩
   .exact idleY rfl rfl h6
   .exact⟨newB H k,s,h6 _ _ (xa9 k1 hx).1.symm,by rw[behK k1 gg,hx];rfl⟩
 .obtain⟨rfl,rfl,h3⟩:=beh1 k1 hx
  obtain⟨rfl,h6⟩:=beh5 k2 hy
  rcases h3 with h3|⟨b,⟨t,p,⟨ty,am⟩,hb⟩,h3⟩
  .exact idleX rfl rfl h3
  .rcases h6 with⟨rfl,h6⟩|⟨c,kn,⟨z,⟨Es,q,J2⟩,hc⟩,rfl⟩
   .exact idleY rfl rfl h6
   .have aq:=Ql k1 k2 ty t Es z q b p c am J2 hb hc
    exact⟨_,_,hy,h3 _ _ (by rw[yC,xN,xN,List.getElem?_set_ne (fun hh=>aq hh.symm)])⟩
 .obtain⟨rfl,rfl,h3⟩:=beh1 k1 hx
  obtain rfl:=Qv k2 k1
  obtain⟨rfl,h6⟩:=beh6 k2 hy
  rcases h3 with h3|⟨b,⟨t,p,_,hb⟩,h3⟩
  .exact idleX rfl rfl h3
  .rcases h6 with⟨rfl,h6⟩|⟨k,rfl⟩
   .exact idleY rfl rfl h6
   .exact⟨_,_,hy,h3 _ _ (wX (hs t b p hb))⟩
 .obtain rfl:=Qw k1 k2
  obtain⟨rfl,h3⟩:=beh6 k1 hx
  obtain⟨rfl,rfl,h6⟩:=beh1 k2 hy
  rcases h3 with⟨rfl,h3⟩|⟨k,rfl⟩
  .exact idleX rfl rfl h3
  .rcases h6 with h6|⟨b,⟨t,p,_,hb⟩,h6⟩
   .exact idleY rfl rfl h6
   .exact⟨H,_,h6 _ _ (wX (hs t b p hb)).symm,hx⟩
theorem xyJ(l:Tm){x y:Option Tmp}(v u:V)(h : ∀d,x=some d->y≠some d):putT (putT l x v) y u=putT (putT l y u) x v:=by
 cases x with
 | none=>cases y<;>rfl
 | some d=>
  cases y with
  | none=>rfl
  | some e=>
   have aq:d≠e:=fun he=>h d rfl (by rw[he])
   simp only[putT,setT]
   rw[blt_eq,blt_eq]
   by_cases h1:d<l.n<;>by_cases h2:e<l.n<;>simp only[h1,h2,decide_true,decide_false,cond_true,cond_false,blt_eq]
   rw[xbE 9 _ _ _ _ _ aq]
end
end Lx
namespace Lx
open Go
/-! ### what lies ahead of what -/
def ZS(acc:Array Nat)(o:Oper):Nat:=o.after.foldl (fun s e=>if Region.binds .any e then s ||| 2 ^ e.on ||| acc.getD e.on 0 else s) 0
theorem xru(acc:Array Nat)(d:Nat) : ∀ (l:List Edge) (m:Nat),(l.foldl (fun s e=>if Region.binds .any e then s ||| 2 ^ e.on ||| acc.getD e.on 0 else s) m).testBit d=true->m.testBit d=true\/ ∃e∈l,Region.binds .any e=true/\(e.on=d\/(acc.getD e.on 0).testBit d=true)
 | [],m,h =>.inl h
 | e::l,m,h=>by
  rw[List.foldl_cons]at h
  rcases xru acc d l _ h with h|⟨e',h1,h2⟩
  .by_cases hb:Region.binds .any e=true
   .rw[dB hb]at h
    simp only[Nat.testBit_or,Bool.or_eq_true,Nat.testBit_two_pow,decide_eq_true_eq]at h
    rcases h with(h|h)|h
    .exact .inl h
    .exact .inr ⟨e,by simp,hb,.inl h⟩
    .exact .inr ⟨e,by simp,hb,.inr h⟩
   .rw[dA hb]at h
    exact .inl h
  .exact .inr ⟨e',by simp[h1],h2⟩
theorem xdM : ∀ (l p:List Oper) (acc:Array Nat),acc.size=p.length->(∀ (i:Nat) o d,p[i]? = some o->(acc.getD i 0).testBit d=true ->∃e∈o.after.toList,Region.binds .any e=true/\(e.on=d\/(acc.getD e.on 0).testBit d=true))->
  ∀ (i:Nat) o d,(p++l)[i]? = some o->((l.foldl (fun acc o=>acc.push (ZS acc o)) acc).getD i 0).testBit d=true->
   ∃e∈o.after.toList,Region.binds .any e=true/\(e.on=d\/((l.foldl (fun acc o=>acc.push (ZS acc o)) acc).getD e.on 0).testBit d=true)
 | [],p,acc,hs,h,i,o,d,hi,hb=>h i o d (by simpa using hi) hb
 | x::l,p,acc,hs,h,i,o,d,hi,hb=>by
  rw[List.foldl_cons]at hb |-
  refine xdM l (p ++ [x]) (acc.push (ZS acc x)) (by simp[hs]) (fun i o d hi hb =>?_) i o d (by simpa using hi) hb
  have old : ∀j,j<acc.size->(acc.push (ZS acc x)).getD j 0=acc.getD j 0:=by
   intro j hj
   simp only[Array.getD_eq_getD_getElem?,Array.getElem?_push,dA (Nat.ne_of_lt hj)]
  have keep : ∀j d,(acc.getD j 0).testBit d=true->((acc.push (ZS acc x)).getD j 0).testBit d=true:=by
   intro j d hj
   by_cases an:j<acc.size
   .rw[old j an];exact hj
   .rw[Array.getD_eq_getD_getElem?,Array.getElem?_eq_none (by omega)]at hj
    simp at hj
  by_cases an:i<p.length
  .rw[List.getElem?_append_left an]at hi
   rw[old i (by omega)]at hb
   obtain⟨e,h1,h2,h3⟩:=h i o d hi hb
   exact⟨e,h1,h2,h3.imp id (keep _ _)⟩
  .have oa:i=p.length:=by
    have:=(List.getElem?_eq_some_iff.1 hi).1
    simp at this
    omega
   subst oa
   simp at hi
   subst hi
   have e1:(acc.push (ZS acc x)).getD p.length 0=ZS acc x:=by
    rw[<- hs]
    simp[Array.getD_eq_getD_getElem?]
   rw[e1]at hb
   unfold ZS at hb
   rw[<- Array.foldl_toList]at hb
   rcases xru acc d _ _ hb with hb|⟨e,h1,h2,h3⟩
   .simp at hb
   .exact⟨e,h1,h2,h3.imp id (keep _ _)⟩
theorem xdN(ops:Array Oper)(i:Nat)(o:Oper)(d:Nat)(hi:ops[i]? = some o)(hb:((Region.before ops).getD i 0).testBit d=true) :
  ∃e∈o.after.toList,Region.binds .any e=true/\(e.on=d\/((Region.before ops).getD e.on 0).testBit d=true):=by
 have e1:Region.before ops=ops.toList.foldl (fun acc o=>acc.push (ZS acc o)) #[]:=by
  unfold Region.before
  rw[<- Array.foldl_toList]
  rfl
 rw[e1]at hb |-
 exact xdM ops.toList [] #[] rfl (fun i o d h=>by simp at h) i o d (by simpa using hi) hb
theorem jN{ops:Array Oper}{S:Nat->Prop}(hS : ∀ (j:Nat) o,S j->ops[j]? = some o ->∀e∈o.after.toList,Region.binds .any e=true->S e.on)
  (fv : ∀ (j:Nat) o,ops[j]? = some o ->∀e∈o.after.toList,Region.binds .any e=true->e.on<j) : ∀ (n i:Nat) o,i<=n->ops[i]? = some o->(∀e∈o.after.toList,Region.binds .any e=true->S e.on) ->∀d,¬S d->((Region.before ops).getD i 0).testBit d=false
 | 0,i,o,hn,hi,hr,d,hd=>by
  obtain rfl:i=0:=by omega
  cases hb:((Region.before ops).getD 0 0).testBit d with
  | false=>rfl
  | true=>
   obtain⟨e,h1,h2,_⟩:=xdN ops 0 o d hi hb
   exact absurd (fv 0 o hi e h1 h2) (by omega)
 | n+1,i,o,hn,hi,hr,d,hd=>by
  cases hb:((Region.before ops).getD i 0).testBit d with
  | false=>rfl
  | true=>
   obtain⟨e,h1,h2,h3⟩:=xdN ops i o d hi hb
   have an:=fv i o hi e h1 h2
   have hSe:=hr e h1 h2
   rcases h3 with h3|h3
   .exact absurd (h3▸hSe) hd
   .have pa:e.on<ops.size:=by have:=(Array.getElem?_eq_some_iff.1 hi).1;omega
    have M3:=Array.getElem?_eq_getElem pa
    rw[jN hS fv n e.on _ (by omega) M3 (fun e' h4 h5=>hS e.on _ hSe M3 e' h4 h5) d hd]at h3
    cases h3
theorem xyK{ops:Array Oper}(fv : ∀ (j:Nat) o,ops[j]? = some o ->∀e∈o.after.toList,Region.binds .any e=true->e.on<j) : ∀ (n i d:Nat),i<=n->i<=d->i<ops.size->((Region.before ops).getD i 0).testBit d=false
 | n,i,d,hn,hd,hi=>jN (S:=fun j=>j<i) (fun j o hj ho e h1 h2=>by have:=fv j o ho e h1 h2;omega) fv i i _ (dI _) (Array.getElem?_eq_getElem hi) (fun e h1 h2=>fv i _ (Array.getElem?_eq_getElem hi) e h1 h2) d (by omega)
section
variable{P:Program}{σ:Type}{I:Port P σ}{Γ:yc}{S0:Bool->Nat->Prop}{w0:World}{e0:Env}{ops:Array Oper}{β:Type}{k:St->T β}{b:Array Nat}{D:List Nat}
theorem vZ{A:List (Nat×Nat)}{i:Nat}{o:Oper}{l:List Nat}{tmps:Tm}{H:Heap}{s:σ}(ho:ops[i]? = some o):(yA P Γ ops b D A (i::l) ⟨tmps,H⟩ k).run I.step s=match valO Γ I ops (kB ops b D A i) o tmps H s with
  | some r=>(yA P Γ ops b D A l ⟨putT tmps o.dst r.1,r.2.1⟩ k).run I.step r.2.2
  | none=>none:=by
 simp only[yA,ho]
 rw[Ya,T.run_bind,Kg]
 cases valO Γ I ops (kB ops b D A i) o tmps H s<;>rfl
def Alive(I:Port P σ)(st:St)(s:σ):Prop :=∃S0 w0 e0 e F a w,Cfg I S0 w0 e0 e st s F a w
theorem xyL{o:Oper}{K:Act->World->Prop}{a:Act}{w:World}(h:qA P ops (fun _ _ _=>False) o K a w) : ∃a' w',K a' w':=by
  unfold qA at h
  split at h
  . unfold Oper.wp at h
    generalize(execOp a.eval o).run P w=r at h
    cases r with
    | ok n w'=>
      cases n<;>simp only[Oper.upon]at h<;>first
        | exact⟨_,_,h⟩
        | (obtain⟨en,w'',fr,hR,_⟩:=h []
           cases en<;>simp only at hR<;>first
            | exact⟨_,_,hR⟩
            | exact hR.elim
            | (obtain⟨_,_,h⟩:=hR;exact h.elim))
        | (obtain⟨v,w'',hR,_⟩:=h default [];exact⟨_,_,hR⟩)
        | exact h.elim
    | halt x w'=>cases x<;>simp only[Oper.upon]at h
  . exact⟨_,_,h⟩
theorem Alive.next(hΓ : ∀f m,Γ f=some m->SoundF I f m){pu:PM}{o:Oper}{tmps:Tm}{H:Heap}{s:σ}{r:V×Heap×σ}(h:Alive I ⟨tmps,H⟩ s)(hv:valO Γ I ops pu o tmps H s=some r):Alive I ⟨putT tmps o.dst r.1,r.2.1⟩ r.2.2:=by
 obtain⟨S0,w0,e0,e,F,a,w,C⟩:=h
 have hrun:(vb P Γ ops pu o ⟨tmps,H⟩ T.ret).run I.step s=some ((⟨putT tmps o.dst r.1,r.2.1⟩:St),r.2.2):=by rw[Kg,hv];rfl
 obtain⟨ai,s',h1,_,h3⟩:=xa8 hΓ C hrun
 simp only[T.run,oI,dH]at h1
 obtain⟨rfl,rfl⟩:=h1
 obtain⟨a',w',e',F',C'⟩:=xyL (h3 (fun a' w' =>∃e' F',Cfg I S0 w0 e0 e' ⟨putT tmps o.dst r.1,r.2.1⟩ r.2.2 F' a' w') _ fun e' F' a' w' C'=>⟨e',F',C'⟩)
 exact⟨S0,w0,e0,e',F',a',w',C'⟩
mutual
theorem xba{pv:Value}{e:Env} : ∀ (c:C) (v:Value),den pv e c=some v ->∀b∈idsC c,b<e.length
 | .bool _,v,h,b,hb | .int _ _,v,h,b,hb | .nilp,v,h,b,hb | .nils,v,h,b,hb | .nilf,v,h,b,hb | .nili,v,h,b,hb | .port,v,h,b,hb=>by simp[idsC]at hb
 | .ptr c o,v,h,b,hb=>by
  simp only[idsC,List.mem_singleton]at hb;subst hb
  simp only[den,oM]at h;obtain⟨r,h1,_⟩:=h
  exact(List.getElem?_eq_some_iff.1 h1).1
 | .sl c o n m,v,h,b,hb=>by
  simp only[idsC,List.mem_singleton]at hb;subst hb
  simp only[den,oM]at h;obtain⟨r,h1,_⟩:=h
  exact(List.getElem?_eq_some_iff.1 h1).1
 | .slg c o n,v,h,b,hb=>by
  simp only[idsC,List.mem_singleton]at hb;subst hb
  simp only[den,dQ]at h;obtain⟨r,h1,_⟩:=h
  exact(List.getElem?_eq_some_iff.1 h1).1
 | .pr c o i n f,v,h,b,hb=>by
  simp only[idsC,List.mem_singleton]at hb;subst hb
  simp only[den,oM]at h;obtain⟨r,h1,_⟩:=h
  exact(List.getElem?_eq_some_iff.1 h1).1
 | .slw c o z n m,v,h,b,hb=>by
  simp only[idsC,List.mem_singleton]at hb;subst hb
  simp only[den,oM]at h;obtain⟨r,h1,_⟩:=h
  exact(List.getElem?_eq_some_iff.1 h1).1
 | .slr c n,v,h,b,hb=>by
  simp only[idsC,List.mem_singleton]at hb;subst hb
  simp only[den,dQ]at h;obtain⟨r,h1,_⟩:=h
  exact(List.getElem?_eq_some_iff.1 h1).1
 | .slv c z o n,v,h,b,hb=>by
  simp only[idsC,List.mem_singleton]at hb;subst hb
  simp only[den,dQ]at h;obtain⟨r,h1,_⟩:=h
  exact(List.getElem?_eq_some_iff.1 h1).1
 | .mp c,v,h,b,hb=>by
  simp only[idsC,List.mem_singleton]at hb;subst hb
  simp only[den,oM]at h;obtain⟨r,h1,_⟩:=h
  exact(List.getElem?_eq_some_iff.1 h1).1
 | .fn f caps,v,h,b,hb=>by
  simp only[den,oM]at h;obtain⟨vs,h1,_⟩:=h
  exact Yd caps vs h1 b (by simpa[idsC]using hb)
 | .meth s c,v,h,b,hb=>by
  simp only[den,oM]at h;obtain⟨u,h1,_⟩:=h
  exact xba c u h1 b (by simpa[idsC]using hb)
 | .ifc t c,v,h,b,hb=>by
  simp only[den,oM]at h;obtain⟨u,h1,_⟩:=h
  exact xba c u h1 b (by simpa[idsC]using hb)
theorem Yd{pv:Value}{e:Env} : ∀ (l:List C) (vs:List Value),denL pv e l=some vs ->∀b∈yU l,b<e.length
 | [],vs,h,b,hb=>by simp[yU]at hb
 | c::l,vs,h,b,hb=>by
  simp only[denL]at h
  split at h
  .rename_i v hv
   split at h
   .rename_i us hu
    simp only[yU,List.mem_append]at hb
    rcases hb with hb|hb
    .exact xba c v hv b hb
    .exact Yd l us hu b hb
   .cases h
  .cases h
end
theorem xyM{pv:Value}{e:Env}(x:V1)(v:Value)(h:yV pv e x=some v) : ∀b∈xwm x,b<e.length:=by
 cases x with
 | c a=>exact xba a v h
 | agg l=>simp only[yV,oM]at h;obtain⟨vs,h1,_⟩:=h;exact Yd l vs h1
theorem xrv{pv:Value}{e:Env}(x:V)(v:Value)(h:denV pv e x=some v) : ∀b∈idsV x,b<e.length:=by
 cases x with
 | c a=>exact xba a v h
 | agg l=>simp only[denV,oM]at h;obtain⟨vs,h1,_⟩:=h;exact Yd l vs h1
 | tup l=>
  simp only[denV,oM]at h
  obtain⟨vs,h1,_⟩:=h
  intro b hb
  simp only[idsV,List.mem_flatMap]at hb
  obtain⟨y,hy,hb⟩:=hb
  obtain⟨i,hi⟩:=List.getElem?_of_mem hy
  obtain⟨z,h2,_⟩:=yH _ _ _ h1 i y hi
  exact xyM y z h2 b hb
theorem Alive.ptr{tmps:Tm}{H:Heap}{s:σ}(h:Alive I ⟨tmps,H⟩ s) : ∀t b (p:Nat),ptrB (getT tmps t)=some b->b<H.length:=by
 obtain⟨S0,w0,e0,e,F,a,w,C⟩:=h
 intro t b p hb
 have hl:=C.rel.emb.len
 simp only at hl
 have main : ∀v,getT tmps t=some v->b∈idsV v->b<H.length:=by
  intro v hv hm
  obtain⟨rv,_,h2⟩:=C.rel.tmps t v hv
  rw[hl];exact xrv v rv h2 b hm
 unfold ptrB at hb
 split at hb
 .rename_i c o hv;cases hb;exact main _ hv (by simp[idsV,idsC])
 .rename_i c o i n f hv;cases hb;exact main _ hv (by simp[idsV,idsC])
 .cases hb
theorem Alive.closed{tmps:Tm}{H:Heap}{s:σ}(h:Alive I ⟨tmps,H⟩ s):Closed tmps H:=by
 obtain⟨S0,w0,e0,e,F,a,w,C⟩:=h
 have hl:=C.rel.emb.len
 simp only at hl
 refine⟨fun t v hv b hb =>?_,fun i k hk b hb =>?_⟩
 .obtain⟨rv,_,h2⟩:=C.rel.tmps t v hv
  rw[hl];exact xrv v rv h2 b hb
 .obtain⟨r,cs,_,hd,_⟩:=C.rel.emb.lies i k hk
  have bl:=C.rel.emb.ok i k hk
  cases ht:k.tab with
  | none=>
   rw[Blk.real_none ht]at hd
   rw[hl];exact Yd k.cells cs hd b hb
  | some t=>rw[bl t ht]at hb;simp[yU]at hb
def Off(ops:Array Oper)(A:List (Nat×Nat))(pu:PM)(y:Oper):Prop:=pu = .pure\/(∃q B,xq y.op=1/\yd ops y.op=some q/\(pu = .avoid B\/pu = .keep B)/\ ∀c,(q,c)∈A->c∈B)\/(xq y.op=2/\ ∃B,pu = .keep B)
def xwS(ops:Array Oper)(b:Array Nat)(D:List Nat)(A:List (Nat×Nat))(i j:Nat):Prop :=∃x y,ops[i]? = some x/\ops[j]? = some y/\Vn ops x y=true/\
 (xq x.op=3->(xq y.op=1\/xq y.op=2)->Off ops A (kB ops b D A i) y)/\
 (xq y.op=3->(xq x.op=1\/xq x.op=2)->Off ops A (kB ops b D A j) x)/\
 (xq x.op=1->xq y.op=5 ->∃q q',yd ops x.op=some q/\yd ops y.op=some q'/\ ∀c c',(q,c)∈A->(q',c')∈A->c≠c')/\
 (xq x.op=6->xq y.op=1->kB ops b D A i = .fresh)/\(xq y.op=6->xq x.op=1->kB ops b D A j = .fresh)
def HeldA(ops:Array Oper)(A:List (Nat×Nat))(tmps:Tm):Prop :=∀ (i:Nat) o q l c,ops[i]? = some o->yd ops o.op=some q->wo ops 6 q=some l->c∈l ->∀b,blkB (getT tmps c)=some b->(q,b)∈A
theorem blkB_of{v:Option V}{b:Nat}(h:ptrB v=some b):blkB v=some b:=by
 unfold ptrB at h
 split at h
 .cases h;rfl
 .cases h;rfl
 .cases h
theorem xhy{ops:Array Oper} : ∀ (n q:Nat) (l:List Nat),wo ops n q=some l->q∈l
 | 0,q,l,h=>by cases h
 | n+1,q,l,h=>by
  unfold wo at h
  split at h
  .cases h;simp
  .split at h
   .simp only[oM]at h;obtain⟨l',_,rfl⟩:=h;simp
   .simp only[oM]at h;obtain⟨l',_,rfl⟩:=h;simp
   .simp only[oM]at h;obtain⟨l',_,rfl⟩:=h;simp
   .simp only[oM]at h;obtain⟨l',_,rfl⟩:=h;simp
   .cases h
  .cases h
def xhz(o:Op)(x:Nat):Prop:=(∃t f,o = .fieldAddr t (.tmp x) f)\/(∃t ix,o = .indexAddr t (.tmp x) ix)\/o = .move (.tmp x)\/o = .nilCheck (.tmp x)
theorem xhA{ops:Array Oper}{j:Nat}{o:Oper}{c:Nat}(ho:ops[j]? = some o)(hd:o.dst=some c) : ∀ (n q:Nat) (l:List Nat),wo ops n q=some l->c∈l ->∃x∈l,xhz o.op x
 | 0,q,l,h,hc=>by cases h
 | n+1,q,l,h,hc=>by
  have bi:c=q->o∈ops.toList.filter fun o=>o.dst==some q:=by
   rintro rfl
   rw[List.mem_filter]
   exact⟨by rw[Array.mem_toList_iff];exact Array.mem_of_getElem? ho,by simp[hd]⟩
  unfold wo at h
  split at h
  .rename_i hf
   cases h
   simp only[List.mem_singleton]at hc
   have:=bi hc
   rw[hf]at this
   cases this
  .rename_i o' hf
   have main : ∀x,(wo ops n x).map (fun l=>q::l)=some l->(o=o'->xhz o.op x) ->∃x∈l,xhz o.op x:=by
    intro x hm am
    simp only[oM]at hm
    obtain⟨l',h1,rfl⟩:=hm
    rcases List.mem_cons.1 hc with hq|zc
    .have:=bi hq
     rw[hf,List.mem_singleton]at this
     exact⟨x,List.mem_cons_of_mem _ (xhy n x l' h1),am this⟩
    .obtain⟨y,h2,h3⟩:=xhA ho hd n x l' h1 zc
     exact⟨y,List.mem_cons_of_mem _ h2,h3⟩
   split at h
   .rename_i t x f am
    exact main x h fun he =>.inl ⟨t,f,by rw[he,am]⟩
   .rename_i t x ix am
    exact main x h fun he =>.inr (.inl ⟨t,ix,by rw[he,am]⟩)
   .rename_i x am
    exact main x h fun he =>.inr (.inr (.inl (by rw[he,am])))
   .rename_i x am
    exact main x h fun he =>.inr (.inr (.inr (by rw[he,am])))
   .cases h
  .cases h
theorem ev_root{P:Program}{o:Op}{x:Nat}{tmps:Tm}{H:Heap}{q:Stp}(ho:xhz o x)(h:xl P o (xW tmps) H=some q) :
    ∃g v,q = .val g v H/\ ∀b,blkB (some v)=some b->blkB (getT tmps x)=some b:=by
  rcases ho with⟨t,f,rfl⟩|⟨t,ix,rfl⟩|rfl|rfl
  rotate_right 2
  . simp only[xl,oM]at h
    obtain⟨v,h1,rfl⟩:=h
    refine⟨_,_,rfl,fun b hb =>?_⟩
    have e1:xW tmps (.tmp x)=getT tmps x:=rfl
    rw[<- e1,h1];exact hb
  . have e1:xW tmps (.tmp x)=getT tmps x:=rfl
    simp only[xl,e1]at h
    split at h
    . cases h;exact⟨_,_,rfl,fun b hb=>by cases hb⟩
    . cases h;exact⟨_,_,rfl,fun b hb=>by cases hb⟩
    . cases h;exact⟨_,_,rfl,fun b hb=>by cases hb⟩
    . split at h
      . split at h
        . cases h;exact⟨_,_,rfl,fun b hb=>by cases hb⟩
        . cases h
      . cases h
    . rename_i v _ _ _ _ hx
      cases h
      exact⟨_,_,rfl,fun b hb=>by rw[hx];exact hb⟩
    . cases h
  . simp only[xl,xW]at h
    split at h
    . rename_i fs b o _ hx
      split at h
      . split at h
        . split at h
          . cases h
          . cases h
            refine⟨_,_,rfl,fun b' hb =>?_⟩
            rw[hx];exact hb
        . cases h
      . cases h
    . rename_i fs b off i m o _ hx
      split at h
      . split at h
        . split at h
          . cases h
          . cases h
            refine⟨_,_,rfl,fun b' hb =>?_⟩
            rw[hx];exact hb
        . cases h
      . cases h
    . cases h
  . simp only[xl]at h
    have e1:xW tmps (.tmp x)=getT tmps x:=rfl
    rw[e1]at h
    split at h
    all_goals first
      | cases h;done
      | (rename_i hx _
         simp only[oM]at h
         obtain⟨n,_,rfl⟩:=h
         refine⟨_,_,rfl,fun b' hb =>?_⟩
         rw[hx];exact hb)
      | (rename_i hx _
         split at h
         . cases h
           refine⟨_,_,rfl,fun b' hb =>?_⟩
           rw[hx];exact hb
         . cases h)
theorem xAJ{pu:PM}{o:Oper}{x:Nat}{tmps:Tm}{H:Heap}{s:σ}{r:V×Heap×σ}(ho:xhz o.op x)(h:valO Γ I ops pu o tmps H s=some r) :
  ∀b,blkB (some r.1)=some b->blkB (getT tmps x)=some b:=by
 have main:yS Γ I pu H s (xl P o.op (xW tmps) H)=some r ->∀b,blkB (some r.1)=some b->blkB (getT tmps x)=some b:=by
  intro h
  cases hq:xl P o.op (xW tmps) H with
  | none=>rw[hq]at h;cases h
  | some q=>
   obtain⟨g,v,rfl,hv⟩:=ev_root ho hq
   rw[hq]at h
   simp only[yS]at h
   split at h
   .cases h;exact hv
   .cases h
 unfold valO at h
 split at h
 .exact main h
 .split at h
  .cases h
  .split at h
   .split at h
    .exact main h
    .cases h;intro b hb;cases hb
   .cases h;intro b hb;cases hb
   .cases h
theorem HeldA.ptr{A:List (Nat×Nat)}{tmps:Tm}(h:HeldA ops A tmps){i:Nat}{x:Oper}{q b:Nat}(hx:ops[i]? = some x)(hq:yd ops x.op=some q)(hb:ptrB (getT tmps q)=some b):(q,b)∈A:=by
 have hs:(wo ops 6 q).isSome=true:=by
  unfold yd at hq
  split at hq
  .split at hq
   .rename_i hh;cases hq;exact hh
   .cases hq
  .split at hq
   .rename_i hh;cases hq;exact hh
   .cases hq
  .cases hq
 obtain⟨l,hl⟩:=Option.isSome_iff_exists.1 hs
 exact h i x q l q hx hq hl (xhy _ _ _ hl) b (blkB_of hb)
theorem Ye{o:Op}{q:Nat}(h:yd ops o=some q):(∃ty,o = .load ty (.tmp q))\/ ∃ty x,o = .store ty (.tmp q) x:=by
 unfold yd at h
 split at h
 .rename_i ty q'
  split at h
  .cases h
   exact .inl ⟨ty,rfl⟩
  .cases h
 .rename_i ty q' x
  split at h
  .cases h
   exact .inr ⟨ty,x,rfl⟩
  .cases h
 .cases h
theorem HeldA.put{A:List (Nat×Nat)}{tmps:Tm}(h:HeldA ops A tmps){j:Nat}{o:Oper}{pu:PM}{H:Heap}{s:σ}{r:V×Heap×σ}(ho:ops[j]? = some o)(hv:valO Γ I ops pu o tmps H s=some r):HeldA ops A (putT tmps o.dst r.1):=by
 intro i x q l c hx hq hl hc b hb
 cases hd:o.dst with
 | none=>rw[hd]at hb;exact h i x q l c hx hq hl hc b hb
 | some d=>
  rw[hd]at hb
  simp only[putT]at hb
  by_cases Bu:c=d
  .subst Bu
   obtain⟨y,hy,am⟩:=xhA ho hd 6 q l hl hc
   cases hg:getT (setT tmps c r.1) c with
   | none=>rw[hg]at hb;cases hb
   | some u=>
    obtain⟨_,rfl⟩:=kI hg
    rw[hg]at hb
    exact h i x q l y hx hq hl hy b (xAJ am hv b hb)
  .rw[yG _ _ Bu]at hb
   exact h i x q l c hx hq hl hc b hb
theorem HeldA.avoids{A:List (Nat×Nat)}{tmps:Tm}(h:HeldA ops A tmps){i:Nat}{x:Oper}(hx:ops[i]? = some x){pu:PM}(hp:Off ops A pu x):pu = .pure\/xu5 tmps pu x\/(xq x.op=2/\ ∃B,pu = .keep B):=by
 rcases hp with hp|⟨q,B,h1,h2,h3,h4⟩|hp
 .exact .inl hp
 .refine .inr (.inl ⟨h1,B,h3,fun ty t b p am hg=>h4 b ?_⟩)
  obtain⟨Es,h5⟩|⟨Es,y',h5⟩:=Ye h2
  .rw[h5]at am
   cases am
   exact h.ptr hx h2 hg
  .rw[h5]at am;cases am
 .exact .inr (.inr hp)
theorem HeldA.diff{A:List (Nat×Nat)}{tmps:Tm}(h:HeldA ops A tmps){i j:Nat}{x y:Oper}(hx:ops[i]? = some x)(hy:ops[j]? = some y)(hd:xq x.op=1->xq y.op=5 ->∃q q',yd ops x.op=some q/\yd ops y.op=some q'/\ ∀c c',(q,c)∈A->(q',c')∈A->c≠c') :
  xq x.op=1->xq y.op=5 ->∀tx t tz z q b (p:Nat) c,x.op = .load tx (.tmp t)->y.op = .store tz (.tmp z) q->ptrB (getT tmps t)=some b->ptrB (getT tmps z)=some c->b≠c:=by
 intro k1 k5 tx t tz z w b p c G8 G7 hb hc
 obtain⟨q,q',h1,h2,h3⟩:=hd k1 k5
 obtain⟨ty,h5⟩|⟨ty,u,h5⟩:=Ye h1
 .rw[h5]at G8;cases G8
  obtain⟨Es,h6⟩|⟨Es,u,h6⟩:=Ye h2
  .rw[h6]at G7;cases G7
  .rw[h6]at G7;cases G7
   exact h3 b c (h.ptr hx h1 hb) (h.ptr hy h2 hc)
 .rw[h5]at G8;cases G8
theorem Kj(hΓ : ∀f m,Γ f=some m->SoundF I f m){A:List (Nat×Nat)}{j:Nat}{r:β×σ}{l2:List Nat} : ∀ (l1:List Nat) (tmps:Tm) (H:Heap) (s:σ),(∀i∈l1,xwS ops b D A i j)->HeldA ops A tmps->Alive I ⟨tmps,H⟩ s->
  (yA P Γ ops b D A (l1++j::l2) ⟨tmps,H⟩ k).run I.step s=some r->(yA P Γ ops b D A (j::(l1++l2)) ⟨tmps,H⟩ k).run I.step s=some r
 | [],tmps,H,s,hs,hA,ha,h=>h
 | i::l1,tmps,H,s,hs,hA,ha,h=>by
  obtain⟨x,y,hx,hy,bl,rd,Ea,Ph,Pf,Pe⟩:=hs i (by simp)
  rw[List.cons_append,vZ hx]at h
  split at h
  .rename_i rx Dd
   have ih:=Kj hΓ l1 _ _ _ (fun i' oa=>hs i' (by simp[oa])) (hA.put hx Dd) (ha.next hΓ Dd) h
   rw[vZ hy]at ih
   split at ih
   .rename_i ry Mx
    simp only[Vn,dK]at bl
    obtain⟨a1,a2,a3⟩:=Oper.apart_spec bl.2
    rw[Yb (fun d hd=>a1 d hd)]at Mx
    obtain⟨H1,s1,g1,g2⟩:=xAI (vx:=rx.1) (vy:=ry.1) (Hx:=rx.2.1) (Hy:=ry.2.1) (sx:=rx.2.2) (sy:=ry.2.2) bl.1 Dd Mx (fun k3 zi=>hA.avoids hy (rd k3 zi)) (fun k3 zi=>hA.avoids hx (Ea k3 zi)) ha.ptr ha.closed (hA.diff hx hy Ph) Pf Pe
    rw[vZ hy,g1]
    simp only
    rw[List.cons_append,vZ hx,Yb (fun d hd=>a3 d hd),g2]
    simp only
    rw[xyJ _ _ _ (fun d hd he=>a2 d he hd)]
    exact ih
   .cases ih
  .cases h
theorem ko{ops:Array Oper}{i:Nat}{o:Oper}(h:ops[i]? = some o):(o,i)∈ops.toList.zipIdx:=by
 rw[List.mem_zipIdx_iff_getElem?]
 simpa using h
theorem Kk{ops:Array Oper}(bl:vm ops b D=true) : ∀ (j:Nat) o,ops[j]? = some o ->∀e∈o.after.toList,Region.binds .any e=true->e.on<j:=by
 intro j o ho e he hb
 unfold vm at bl
 simp only[dK,List.all_eq_true]at bl
 have h1:=bl.1 (o,j) (ko ho)
 simp only[Array.all_eq_true_iff_forall_mem]at h1
 have h2:=h1 e (by simpa using he)
 simp only[hb,Bool.not_true,Bool.false_or,decide_eq_true_eq]at h2
 exact h2
theorem xrw{ops:Array Oper}(bl:vm ops b D=true){i j:Nat}{x y:Oper}(hx:ops[i]? = some x)(hy:ops[j]? = some y)(dx:i<j)(hb:(b.getD j 0).testBit i=false)(hi:i∉D)(hj:j∉D):Vn ops x y=true:=by
 unfold vm at bl
 simp only[dK,List.all_eq_true]at bl
 have h1:=bl.2 (y,j) (ko hy) (x,i) (ko hx)
 have c1:D.contains i=false:=by simpa using hi
 have c2:D.contains j=false:=by simpa using hj
 simp only[dx,decide_true,Bool.not_true,Bool.false_or,hb,c1,c2]at h1
 exact h1
theorem xrx{ops:Array Oper}(D:List Nat)(bl:Xt ops b=true):vm ops b D=true:=by
 unfold Xt at bl
 unfold vm
 simp only[dK,List.all_eq_true]at bl |-
 refine⟨bl.1,fun p hp q hq =>?_⟩
 have:=bl.2 p hp q hq
 simp only[Bool.or_eq_true]at this |-
 rcases this with(h|h)|h
 .exact .inl (.inl (.inl (.inl h)))
 .exact .inl (.inr h)
 .exact .inr h
theorem xhB{b:Array Nat}{D:List Nat}{A:List (Nat×Nat)}{i j:Nat}{x y:Oper}(hx:ops[i]? = some x)(hy:ops[j]? = some y)(k6:xq x.op=6)(k1:xq y.op=1)(aq:j≠i)(ho:vH b j i=false):kB ops b D A i = .fresh:=by
 unfold kB
 rw[hx]
 have n3:(xq x.op==3)=false:=by rw[k6];rfl
 have e6:(xq x.op==6)=true:=by rw[k6];rfl
 simp only[n3,e6,Bool.false_eq_true,if_false,if_true]
 rw[dB]
 rw[List.any_eq_true]
 exact⟨(y,j),ko hy,by simp[ho,aq,k1]⟩
theorem xwT{b:Array Nat}{D:List Nat}{A:List (Nat×Nat)}{i j:Nat}{x y:Oper}(hx:ops[i]? = some x)(hy:ops[j]? = some y)(k3:xq x.op=3)(zi:xq y.op=1\/xq y.op=2)(aq:j≠i)(ho:vH b j i=false)(hD:j∉D) :
  Off ops A (kB ops b D A i) y:=by
 unfold kB
 rw[hx]
 simp only[k3,beq_self_eq_true,if_true]
 split
 .exact .inl rfl
 .rename_i Gt
  simp only[Bool.not_eq_true,List.any_eq_false]at Gt
  have zz:=Gt (y,j) (ko hy)
  have rh:(j != i)=true:=by simpa using aq
  simp only[ho,rh,Bool.not_false,Bool.true_and]at zz
  have held:xq y.op=1 ->∃q,yd ops y.op=some q/\q∈besides ops b i:=by
   intro iw
   cases hq:yd ops y.op with
   | none=>rw[iw,hq]at zz;simp at zz
   | some q=>
    refine⟨q,rfl,?_⟩
    unfold besides
    rw[List.mem_filterMap]
    refine⟨(y,j),ko hy,?_⟩
    simp[ho,aq,iw,hq]
  split
  .rcases zi with iw|ef
   .obtain⟨q,hq,bi⟩:=held iw
    refine .inr (.inl ⟨q,_,iw,hq,.inr rfl,fun c hc =>?_⟩)
    rw[List.mem_map]
    refine⟨(q,c),?_,rfl⟩
    rw[List.mem_filter]
    refine⟨hc,?_⟩
    simpa using bi
   .exact .inr (.inr ⟨ef,_,rfl⟩)
  .rename_i bg
   simp only[Bool.not_eq_true,List.any_eq_false]at bg
   have I8:=bg (y,j) (ko hy)
   simp only[ho,rh,Bool.not_false,Bool.true_and]at I8
   have n2 : ¬xq y.op=2:=fun h2=>by rw[h2]at I8;simp[hD]at I8
   have iw:xq y.op=1:=zi.resolve_right n2
   obtain⟨q,hq,bi⟩:=held iw
   split
   .rename_i hb;rw[hb]at bi;cases bi
   .rename_i q0 l hb
    refine .inr (.inl ⟨q,_,iw,hq,.inl rfl,fun c hc =>?_⟩)
    rw[List.mem_map]
    refine⟨(q,c),?_,rfl⟩
    rw[List.mem_filter]
    refine⟨hc,?_⟩
    rw[<- hb]
    simpa using bi
theorem diff_of{b:Array Nat}{A:List (Nat×Nat)}(hd:Zp ops b A=true){i j:Nat}{x y:Oper}(hx:ops[i]? = some x)(hy:ops[j]? = some y)(dx:i<j)(hb:(b.getD j 0).testBit i=false) :
  xq x.op=1->xq y.op=5 ->∃q q',yd ops x.op=some q/\yd ops y.op=some q'/\ ∀c c',(q,c)∈A->(q',c')∈A->c≠c':=by
 intro k1 k5
 unfold Zp at hd
 simp only[List.all_eq_true]at hd
 have h1:=hd (y,j) (ko hy)
 simp only[k5,beq_self_eq_true,Bool.not_true,Bool.false_or,List.all_eq_true]at h1
 have h2:=h1 (x,i) (ko hx)
 simp only[dx,decide_true,Bool.not_true,Bool.false_or,hb,k1,beq_self_eq_true]at h2
 split at h2
 .rename_i q q' hq G6
  refine⟨q,q',hq,G6,fun c c' hc zc =>?_⟩
  simp only[List.all_eq_true]at h2
  have h3:=h2 (q,c) hc (q',c') zc
  simpa using h3
 .cases h2
theorem xdO(tmps:Tm):HeldA ops (kC ops tmps) tmps:=by
 intro i o q l c hx hq hl hc b hb
 unfold kC
 rw[List.mem_flatMap]
 refine⟨o,by rw[Array.mem_toList_iff];exact Array.mem_of_getElem? hx,?_⟩
 simp only[hq,hl,List.mem_filterMap]
 exact⟨c,hc,by rw[hb]⟩
/-! ### new blocks that are made late: in the world they may stand ahead -/
theorem xhC{o:Oper}(h:newOp P o=true):o.guard=none/\(∃d,o.dst=some d)/\((∃t,o.op = .alloc t)\/ ∃t len ps,o.op = .buildSlice t len ps)/\xq o.op=2:=by
 unfold newOp at h
 split at h
 .rename_i d hg hd
  refine⟨hg,⟨d,hd⟩,?_⟩
  split at h
  .rename_i t am
   exact⟨.inl ⟨t,am⟩,by rw[am];rfl⟩
  .rename_i t len ps am
   exact⟨.inr ⟨t,len,ps,am⟩,by rw[am];rfl⟩
  .cases h
 .cases h
structure LateD(P:Program)(ops:Array Oper)(D:List Nat):Prop where
 op : ∀d∈D,∃o,ops[d]? = some o/\newOp P o=true
 dep : ∀d∈D,∀c∈D,((Region.before ops).getD d 0).testBit c=false
 dst : ∀d∈D,∀i o o' dd,i≠d->ops[i]? = some o->ops[d]? = some o'->o'.dst=some dd->o.dst≠some dd
def FitP(ops:Array Oper)(b:Array Nat)(D:List Nat)(A:List (Nat×Nat))(p q:Nat):Prop:=
 (b.getD p 0).testBit q=false/\((b.getD q 0).testBit p=true\/xwS ops b D A p q\/
 (q∈D/\(∃x y,ops[p]? = some x/\ops[q]? = some y/\x.apart ops y=true)/\ ∀i,i<ops.size->(b.getD i 0).testBit q=true->(b.getD i 0).testBit p=true))
theorem FitP.apart{A:List (Nat×Nat)}{p q:Nat}(h:FitP ops b D A p q)(hb:(b.getD q 0).testBit p=false){x y:Oper}(hx:ops[p]? = some x)(hy:ops[q]? = some y):(∀d,x.dst=some d->d∉y.looksAt ops)/\ ∀d,y.dst=some d->d∉x.looksAt ops:=by
 rcases h.2 with h1|⟨x',y',h1,h2,h3,_⟩|⟨_,⟨x',y',h1,h2,h3⟩,_⟩
 .rw[hb]at h1;cases h1
 .rw[hx]at h1;rw[hy]at h2;cases h1;cases h2
  simp only[Vn,dK]at h3
  exact⟨(Oper.apart_spec h3.2).1,(Oper.apart_spec h3.2).2.2⟩
 .rw[hx]at h1;rw[hy]at h2;cases h1;cases h2
  exact⟨(Oper.apart_spec h3).1,(Oper.apart_spec h3).2.2⟩
theorem Emb.found{pv:Value}{e:Env}{H:Heap}{w:World}(E:Emb pv e H w){kb:Blk}{vs:List Value}{x:Nat}(ht:kb.tab=none)(dc:kb.grown=false)(hd:denL pv e kb.cells=some vs)(cap:Nat)(hx:w.heap[x]? = some (.cells vs.toArray kb.elem (0,0)))(hn : ¬Own false e H x) :
  Emb pv (e ++ [(x,cap)]) (newB H kb) w:=by
 obtain⟨cs,t,g,tb⟩:=kb
 simp only at ht dc hd hx
 subst ht dc
 have I9:Ext e (e ++ [(x,cap)]):=⟨_,rfl⟩
 have af:=E.len
 have au : ∀i k,blkAt (newB H ⟨cs,t,false,none⟩) i=some k->(i=H.length/\k=⟨cs,t,false,none⟩)\/(blkAt H i=some k/\i<H.length):=by
  intro i k h
  rw[yz]at h
  split at h
  .cases h;exact .inl ⟨‹_›,rfl⟩
  .refine .inr ⟨h,?_⟩
   rw[xN]at h
   by_cases hi:i<H.length
   .exact hi
   .rw[List.getElem?_eq_none (by omega)]at h;simp at h
 refine⟨by simp[newB,af],fun i k hk =>?_,fun i j k k' r r' hk cw hr dw he v1 v2 =>?_,fun i k hk =>?_⟩
 rotate_right
 .rcases au i k hk with⟨_,rfl⟩|⟨h,_⟩
  .intro t ht;cases ht
  .exact E.ok i k h
 .rcases au i k hk with⟨rfl,rfl⟩|⟨hk,hi⟩
  .exact⟨(x,cap),vs,by simp[af],ym I9 _ _ hd,Lies.mk (tl :=[]) rfl (by simpa using hx) (fun _=>rfl) (fun h=>by cases h)⟩
  .obtain⟨r,ru,hr,iz,hw⟩:=E.lies i k hk
   exact⟨r,ru,I9.get hr,ym I9 _ _ iz,hw⟩
 .have old : ∀i k r,blkAt H i=some k->k.virt=false->i<H.length->(e ++ [(x,cap)])[i]? = some r->e[i]? = some r/\r.1≠x:=by
   intro i k r hk hv hi hr
   rw[List.getElem?_append_left (by omega)]at hr
   exact⟨hr,fun hh=>hn (hh▸Zt hk hr hv)⟩
  have new : ∀r,(e ++ [(x,cap)])[H.length]? = some r->r.1=x:=by
   intro r hr
   rw[af,List.getElem?_append_right (by omega)]at hr
   simp at hr
   simp[<- hr]
  rcases au i k hk with⟨rfl,rfl⟩|⟨hk,hi⟩<;>rcases au j k' cw with⟨rfl,rfl⟩|⟨cw,hj⟩
  .exact .inl rfl
  .exact absurd (he.symm.trans (new r hr)) (old j k' r' cw v2 hj dw).2
  .exact absurd (he.trans (new r' dw)) (old i k r hk v1 hi hr).2
  .exact E.alone i j k k' r r' hk cw (old i k r hk v1 hi hr).1 (old j k' r' cw v2 hj dw).1 he v1 v2
theorem xcT{pv:Value}{e:Env}{H:Heap}{w:World}(E:Emb pv e H w){k:Blk}{cap x y:Nat}{q:Bool}(h:Own q (e ++ [(y,cap)]) (newB H k) x):Own q e H x\/x=y:=by
 obtain⟨i,k',r,h1,h2,h3,hv,h4⟩:=h
 rw[yz]at h1
 split at h1
 .rename_i hi
  right
  rw[hi,E.len,List.getElem?_append_right (by omega)]at h2
  simp at h2
  rw[<- h3,<- h2]
 .left
  have:i<H.length:=by
   rw[xN]at h1
   by_cases hi:i<H.length
   .exact hi
   .rw[List.getElem?_eq_none (by omega)]at h1;simp at h1
  rw[List.getElem?_append_left (by rw[<- E.len];exact this)]at h2
  exact⟨i,k',r,h1,h2,h3,hv,h4⟩
theorem Emb.unnew{pv:Value}{e:Env}{H:Heap}{w w':World}{kb:Blk}{r:Nat×Nat}(E:Emb pv e H w)(E':Emb pv (e ++ [r]) (newB H kb) w'):Emb pv e H w':=by
 have af:=E.len
 have hold : ∀i k,blkAt H i=some k->i<H.length/\blkAt (newB H kb) i=some k:=by
  intro i k h
  have hi:=xhw h
  exact⟨hi,by rw[wX hi];exact h⟩
 refine⟨af,fun i k hk =>?_,E.alone,E.ok⟩
 obtain⟨hi,cw⟩:=hold i k hk
 obtain⟨r1,cs,h1,h2,_⟩:=E.lies i k hk
 obtain⟨r2,Bv,g1,g2,g3⟩:=E'.lies i k cw
 rw[List.getElem?_append_left (by omega),h1]at g1
 cases g1
 rw[ym ⟨[r],rfl⟩ _ _ h2]at g2
 cases g2
 exact⟨_,_,h1,h2,g3⟩
structure Waits(I:Port P σ)(Γ:yc)(ops:Array Oper)(w0:World)(e:Env)(st:St)(F:Nat->Prop)(a:Act)(w:World)(d x:Nat):Prop where
 at_ : ∃ (o:Oper) (dd:Nat) (f:Nat->V) (kb:Blk) (rvf:Nat->Value) (vs:List Value),ops[d]? = some o/\o.dst=some dd/\kb.tab=none/\kb.grown=false/\(∀pu H s,valO Γ I ops pu o st.tmps H s=some (f H.length,newB H kb,s))/\(∀e x c,denV I.pv (e ++ [(x,c)]) (f e.length)=some (rvf x))/\denL I.pv e kb.cells=some vs/\
  (dd<a.tmps.size->a.tmps[dd]? = some (rvf x))/\w.heap[x]? = some (.cells vs.toArray kb.elem (0,0))
 own : ¬Own false e st.heap x
 port : ¬F x
 new:w0.heap.size<=x
structure LRow(I:Port P σ)(Γ:yc)(ops:Array Oper)(D:List Nat)(A:List (Nat×Nat))(S0:Bool->Nat->Prop)(w0:World)(e0:Env)(U L:List Nat)(X:Nat->Nat)(e:Env)(st:St)(s:σ)(F:Nat->Prop)(a:Act)(w:World):Prop where
 cfg:Cfg I S0 w0 e0 e st s F a w
 lt : ∀i∈L,i<ops.size
 nd:L.Nodup
 fit:L.Pairwise (FitP ops (Region.before ops) D A)
 inn : ∀i∈U,i∈L
 waits : ∀i∈L,i∉U->i∈D/\Waits I Γ ops w0 e st F a w i (X i)
 inj : ∀i∈L,∀j∈L,i∉U->j∉U->X i=X j->i=j
 free : ∀i∈L,i∈D ->∀o d,ops[i]? = some o->o.dst=some d->getT st.tmps d=none
 held:HeldA ops A st.tmps
theorem LRow.told(hD:LateD P ops D){A:List (Nat×Nat)}{U l1 l2:List Nat}{X:Nat->Nat}{d:Nat}{e:Env}{st:St}{s:σ}{F:Nat->Prop}{a:Act}{w:World}{r:β×σ}
  (R:LRow I Γ ops D A S0 w0 e0 U (l1++d::l2) X e st s F a w) (hdU:d∉U) (h:(yA P Γ ops (Region.before ops) D A (d::(l1++l2)) st k).run I.step s=some r) :
  ∃e' ai,LRow I Γ ops D A S0 w0 e0 U (l1++l2) X e' ai s F a w/\(yA P Γ ops (Region.before ops) D A (l1++l2) ai k).run I.step s=some r:=by
 have hdL:d∈l1++d::l2:=by simp
 obtain⟨hdD,W⟩:=R.waits d hdL hdU
 obtain⟨o,dd,f,kb,rvf,vs,ho,lc,ht,hg,pq,hf,gm,Jl,hblk⟩:=W.at_
 obtain⟨tmps,H⟩:=st
 have aw : ∀i∈l1++l2,i∈l1++d::l2:=by
  intro i hi
  rcases List.mem_append.1 hi with h|h<;>simp[h]
 have cf:d∉l1++l2:=by
  have:=R.nd
  rw[List.nodup_append]at this
  obtain⟨_,h2,h3⟩:=this
  rw[List.nodup_cons]at h2
  intro hm
  rcases List.mem_append.1 hm with hm|hm
  .exact h3 d hm d (by simp) rfl
  .exact h2.1 hm
 rw[vZ ho]at h
 have mn:=pq (kB ops (Region.before ops) D A d) H s
 have F9:=HeldA.put (tmps:=tmps) R.held ho mn
 rw[mn]at h
 simp only at h
 have E:=R.cfg.rel.emb
 refine⟨e ++ [(X d,0)],⟨putT tmps o.dst (f H.length),newB H kb⟩,⟨⟨⟨E.found ht hg gm 0 hblk W.own,?_,?_,R.cfg.rel.defers⟩,R.cfg.rep,?_,R.cfg.keeps,?_,R.cfg.ext.trans ⟨_,rfl⟩⟩,fun i hi=>R.lt i (aw i hi),?_,?_,fun i hi =>?_,fun i hi hu =>?_,fun i hi j hj=>R.inj i (aw i hi) j (aw j hj),fun i hi hiD o' d' mr iz =>?_,F9⟩,h⟩
 .rw[xdI];exact R.cfg.rel.len
 .intro t' v hv
  simp only[lc,putT]at hv
  by_cases ht:t'=dd
  .subst ht
   obtain⟨an,rfl⟩:=kI hv
   exact⟨_,Jl (Nat.lt_of_lt_of_le an R.cfg.rel.len),by rw[E.len];exact hf e (X d) 0⟩
  .rw[yG _ _ ht]at hv
   obtain⟨Ck,h1,h2⟩:=R.cfg.rel.tmps t' v hv
   exact⟨Ck,h1,KI ⟨_,rfl⟩ _ _ h2⟩
 .intro b hb
  rcases xcT E hb with hb|rfl
  .exact R.cfg.disj b hb
  .exact W.port
 .intro q b hb
  rcases hb with hb|hb
  .rcases xcT E hb with hb|rfl
   .exact R.cfg.mine _ b (.inl hb)
   .exact .inr W.new
  .exact R.cfg.mine _ b (.inr hb)
 .have:=R.nd
  exact List.Nodup.sublist (List.Sublist.append_left (List.sublist_cons_self d l2) l1) this
 .exact List.Pairwise.sublist (List.Sublist.append_left (List.sublist_cons_self d l2) l1) R.fit
 .have:=R.inn i hi
  simp only[List.mem_append,List.mem_cons]at this |-
  rcases this with h|rfl|h
  .exact .inl h
  .exact absurd hi hdU
  .exact .inr h
 .obtain⟨h1,Wi⟩:=R.waits i (aw i hi) hu
  refine⟨h1,?_,fun ax =>?_,Wi.port,Wi.new⟩
  .obtain⟨oi,di,fi,kbi,rvfi,vsi,q1,q2,q3,q4,q5,q6,q7,q8,q9⟩:=Wi.at_
   refine⟨oi,di,fi,kbi,rvfi,vsi,q1,q2,q3,q4,fun pu H2 s2 =>?_,q6,ym ⟨_,rfl⟩ _ _ q7,q8,q9⟩
   rw[Yb]
   .exact q5 pu H2 s2
   .rcases List.mem_append.1 hi with hm|hm
    .exact(((List.pairwise_append.1 R.fit).2.2 i hm d (by simp)).apart (hD.dep d hdD i h1) q1 ho).2
    .exact(((List.pairwise_cons.1 (List.pairwise_append.1 R.fit).2.1).1 i hm).apart (hD.dep i h1 d hdD) ho q1).1
  .rcases xcT E ax with hb|hb
   .exact Wi.own hb
   .have:=R.inj i (aw i hi) d hdL hu hdU hb
    subst this
    exact cf hi
 .have h1:=R.free i (aw i hi) hiD o' d' mr iz
  have aq:d'≠dd:=by
   rintro rfl
   exact hD.dst d hdD i o' o d' (fun hh=>cf (hh▸hi)) mr ho lc iz
  simp only[lc,putT,yG _ _ aq]
  exact h1
theorem LRow.settle(hΓ : ∀f m,Γ f=some m->SoundF I f m)(hD:LateD P ops D){A:List (Nat×Nat)}{U:List Nat}{X:Nat->Nat}{i:Nat}{s:σ}{F:Nat->Prop}{a:Act}{w:World}{r:β×σ}
  (hiU:i∈U) (hiD:i∉D) (gz : ∀c∈U,((Region.before ops).getD i 0).testBit c=false) (hw : ∀j,j<ops.size->j∉U ->∀c∈U,((Region.before ops).getD j 0).testBit c=false) : ∀ (n:Nat) (L:List Nat) (e:Env) (st:St),L.length=n->LRow I Γ ops D A S0 w0 e0 U L X e st s F a w->(yA P Γ ops (Region.before ops) D A L st k).run I.step s=some r->
   ∃l1 l2 e' ai,LRow I Γ ops D A S0 w0 e0 U (l1++i::l2) X e' ai s F a w/\(yA P Γ ops (Region.before ops) D A (l1++i::l2) ai k).run I.step s=some r/\ ∀c∈l1,((Region.before ops).getD i 0).testBit c=false
 | 0,L,e,st,hn,R,h=>by
  obtain rfl:=List.length_eq_zero_iff.1 hn
  have:=R.inn i hiU
  cases this
 | n+1,L,e,st,hn,R,h=>by
  obtain⟨l1,l2,rfl⟩:=List.append_of_mem (R.inn i hiU)
  by_cases ga : ∀c∈l1,((Region.before ops).getD i 0).testBit c=false
  .exact⟨l1,l2,e,st,R,h,ga⟩
  .obtain⟨m1,d,m2,rfl,hb,nu⟩ : ∃m1 d m2,l1=m1++d::m2/\((Region.before ops).getD i 0).testBit d=true/\ ∀c∈m1,((Region.before ops).getD i 0).testBit c=false:=by
    clear h R hn
    induction l1 with
    | nil=>exact absurd (fun c hc=>by cases hc) ga
    | cons x l ih=>
     by_cases hx:((Region.before ops).getD i 0).testBit x=true
     .exact⟨[],x,l,rfl,hx,fun c hc=>by cases hc⟩
     .have hx:((Region.before ops).getD i 0).testBit x=false:=by simpa using hx
      obtain⟨m1,d,m2,h1,h2,h3⟩:=ih fun hh=>ga fun c hc=>by
       rcases List.mem_cons.1 hc with rfl|hc
       .exact hx
       .exact hh c hc
      refine⟨x::m1,d,m2,by rw[h1];rfl,h2,fun c hc =>?_⟩
      rcases List.mem_cons.1 hc with rfl|hc
      .exact hx
      .exact h3 c hc
   have hdU:d∉U:=fun hu=>by have:=gz d hu;rw[hb]at this;cases this
   have hdL:d∈(m1++d::m2)++i::l2:=by simp
   obtain⟨hdD,W⟩:=R.waits d hdL hdU
   have e1:(m1++d::m2)++i::l2=m1++d::(m2++i::l2):=by simp
   rw[e1]at R h
   have Jn : ∀c∈m1,xwS ops (Region.before ops) D A c d:=by
    intro c hc
    have hf:=(List.pairwise_append.1 R.fit).2.2 c hc d (by simp)
    have pj:((Region.before ops).getD d 0).testBit c=false:=by
     by_cases hcU:c∈U
     .exact hw d (R.lt d (by simp)) hdU c hcU
     .exact hD.dep d hdD c (R.waits c (by simp[hc]) hcU).1
    rcases hf.2 with h1|h1|⟨_,_,h1⟩
    .rw[pj]at h1;cases h1
    .exact h1
    .have:=h1 i (R.lt i (R.inn i hiU)) hb
     rw[nu c hc]at this;cases this
   obtain⟨tmps,H⟩:=st
   have ao:=Kj hΓ m1 tmps H s Jn R.held ⟨S0,w0,e0,e,F,a,w,R.cfg⟩ h
   obtain⟨e',ai,R',h'⟩:=R.told hD hdU ao
   have hl:(m1++(m2++i::l2)).length=n:=by
    simp only[dM,List.length_cons]at hn |-;omega
   exact LRow.settle hΓ hD hiU hiD gz hw n _ e' ai hl R' h'
theorem LRow.fin(hΓ : ∀f m,Γ f=some m->SoundF I f m)(hD:LateD P ops D){A:List (Nat×Nat)}{X:Nat->Nat}{s:σ}{F:Nat->Prop}{a:Act}{w:World}{r:β×σ} : ∀ (L:List Nat) (e:Env) (st:St),LRow I Γ ops D A S0 w0 e0 [] L X e st s F a w->(yA P Γ ops (Region.before ops) D A L st k).run I.step s=some r->
   ∃e' ai,Cfg I S0 w0 e0 e' ai s F a w/\(k ai).run I.step s=some r
 | [],e,st,R,h=>⟨e,st,R.cfg,h⟩
 | d::L,e,st,R,h=>by
  obtain⟨e',ai,R',h'⟩:=LRow.told (l1 :=[]) hD R (by simp) h
  exact LRow.fin hΓ hD L e' ai R' h'
theorem Cfg.rebase{e:Env}{st:St}{s:σ}{F:Nat->Prop}{a:Act}{w:World}(C:Cfg I S0 w0 e0 e st s F a w):Cfg I (fun q b=>Own q e st.heap b\/F b) w e e st s F a w:=
 ⟨C.rel,C.rep,C.disj,Keeps.refl _ w,fun q b hb =>.inl hb,Ext.refl e⟩
theorem Cfg.compose{e e':Env}{st ai:St}{s s':σ}{F F':Nat->Prop}{a a':Act}{w w':World}(C:Cfg I S0 w0 e0 e st s F a w)(C':Cfg I (fun q b=>Own q e st.heap b\/F b) w e e' ai s' F' a' w'):Cfg I S0 w0 e0 e' ai s' F' a' w':=by
 refine⟨C'.rel,C'.rep,C'.disj,C.keeps.trans C'.keeps fun b hb=>C.mine _ b hb,fun q b hb =>?_,C.ext.trans C'.ext⟩
 rcases C'.mine _ b hb with h|h
 .exact C.mine _ b h
 .right
  have:=C.keeps.size
  omega
theorem least{p:Nat->Prop}{n:Nat}(h:p n) : ∃m,p m/\ ∀j,j<m ->¬p j:=by
 induction n using Nat.strongRecOn with
 | _ n ih=>
  by_cases hh : ∃m,m<n/\p m
  .obtain⟨m,h1,h2⟩:=hh
   exact ih m h1 h2
  .exact⟨n,h,fun j hj hp=>hh ⟨j,hj,hp⟩⟩
theorem xwU{A:List (Nat×Nat)}{d:Nat}{o:Oper}(ho:ops[d]? = some o){r:β×σ}{l2:List Nat} : ∀ (l1:List Nat) (tmps:Tm) (H:Heap) (s:σ),(∀c∈l1,∀x,ops[c]? = some x ->∀d',x.dst=some d'->d'∉o.looksAt ops)->
  (yA P Γ ops b D A (l1++d::l2) ⟨tmps,H⟩ k).run I.step s=some r ->∃pu H' s' rr,valO Γ I ops pu o tmps H' s'=some rr
 | [],tmps,H,s,hc,h=>by
  rw[List.nil_append,vZ ho]at h
  split at h
  .exact⟨_,_,_,_,‹_›⟩
  .cases h
 | c::l1,tmps,H,s,hc,h=>by
  cases hx:ops[c]? with
  | none=>rw[List.cons_append]at h;simp only[yA,hx,T.run]at h;cases h
  | some x=>
   rw[List.cons_append,vZ hx]at h
   split at h
   .obtain⟨pu,H',s',rr,fx⟩:=xwU ho l1 _ _ _ (fun c' zc=>hc c' (by simp[zc])) h
    rw[Yb (hc c (by simp) x hx)]at fx
    exact⟨pu,H',s',rr,fx⟩
   .cases h
theorem WA(hΓ : ∀f m,Γ f=some m->SoundF I f m){A:List (Nat×Nat)}(fv : ∀ (j:Nat) o,ops[j]? = some o ->∀e∈o.after.toList,Region.binds .any e=true->e.on<j)(hD:LateD P ops D){r:β×σ}{Q:Exit->Act->World->Prop}(hQ : ∀e' ai s' F' a' w',(k ai).run I.step s'=some r->Cfg I S0 w0 e0 e' ai s' F' a' w'->Q .normal a' w') :
  ∀ (n:Nat) (U L:List Nat) (X:Nat->Nat) (listed:Array Bool) (e:Env) (st:St) (s:σ) (F:Nat->Prop) (a:Act) (w:World),U.length=n->U.Nodup->listed.size=ops.size->(∀i,i<ops.size->(i∈U↔listed[i]? = some false))->
   (∀ (j:Nat) o,listed[j]? = some true->ops[j]? = some o ->∀e∈o.after.toList,Region.binds .any e=true->listed[e.on]? = some true)->
   LRow I Γ ops D A S0 w0 e0 U L X e st s F a w->(yA P Γ ops (Region.before ops) D A L st k).run I.step s=some r->wpAny P .any ops Q n listed a w
 | 0,U,L,X,listed,e,st,s,F,a,w,hn,cf,sf,hU,gg,R,h=>by
  obtain rfl:=List.length_eq_zero_iff.1 hn
  obtain⟨e',ai,C',h'⟩:=R.fin hΓ hD L e st h
  refine⟨?_,hQ e' ai s F a w h' C'⟩
  unfold Region.ready
  rw[List.filter_eq_nil_iff]
  intro i hi
  have oa:i<ops.size:=by simpa using hi
  have : ¬listed[i]? = some false:=fun h=>by have:=(hU i oa).2 h;cases this
  have cj:listed[i]? = some listed[i]:=Array.getElem?_eq_getElem (by omega)
  rw[cj]at this
  have ht:listed[i]=true:=by
   cases hh:listed[i] with
   | true=>rfl
   | false=>rw[hh]at this;exact absurd rfl this
  simp[Array.getD_eq_getD_getElem?,cj,ht]
 | n+1,U,L,X,listed,e,st,s,F,a,w,hn,cf,sf,hU,gg,R,h=>by
  have an : ∀i∈U,i<ops.size:=fun i hi=>R.lt i (R.inn i hi)
  have isT : ∀i,i<ops.size->i∉U->listed[i]? = some true:=by
   intro i hi Pm
   have h1 : ¬listed[i]? = some false:=fun h=>Pm ((hU i hi).2 h)
   have cj:listed[i]? = some listed[i]:=Array.getElem?_eq_getElem (by omega)
   rw[cj]at h1 |-
   cases hh:listed[i] with
   | true=>rfl
   | false=>rw[hh]at h1;exact absurd rfl h1
  refine⟨fun hr =>?_,fun i hi =>?_⟩
  .exfalso
   cases hU0:U with
   | nil=>rw[hU0]at hn;simp at hn
   | cons i1 U'=>
    obtain⟨i0,Bo,J9⟩:=least (p:=fun i=>i∈U) (n:=i1) (by rw[hU0];simp)
    have h0:=an i0 Bo
    have bi:i0∈Region.ready .any ops listed:=by
     unfold Region.ready
     rw[List.mem_filter]
     refine⟨by simpa using h0,?_⟩
     have hf:=(hU i0 h0).1 Bo
     have ho:=Array.getElem?_eq_getElem h0
     rw[ho]
     simp only[Array.getD_eq_getD_getElem?,hf,Option.getD_some,Bool.not_false,Bool.true_and,dL,Array.all_eq_true_iff_forall_mem]
     intro e he
     by_cases hb:Region.binds .any e=true
     .have pa:=fv i0 _ ho e (by simpa using he) hb
      rw[isT e.on (by omega) (J9 e.on pa)]
      simp
     .simp[hb]
    rw[hr]at bi
    cases bi
  .unfold Region.ready at hi
   rw[List.mem_filter]at hi
   obtain⟨co,dy⟩:=hi
   have co:i<ops.size:=by simpa using co
   have ho:=Array.getElem?_eq_getElem co
   rw[ho]at dy
   simp only[dK,dL,Option.getD_some,Array.all_eq_true_iff_forall_mem]at dy
   have cj:listed[i]? = some listed[i]:=Array.getElem?_eq_getElem (by omega)
   have Ds:listed[i]? = some false:=by
    have:=dy.1
    rw[Array.getD_eq_getD_getElem?,cj]at this
    rw[cj]
    simpa using this
   have hiU:=(hU i co).2 Ds
   have y9 : ∀e∈(ops[i]).after.toList,Region.binds .any e=true->listed[e.on]? = some true:=by
    intro e he hb
    have:=dy.2 e (by simpa using he)
    simp only[hb,Bool.not_true,Bool.false_or,Array.getD_eq_getD_getElem?]at this
    cases hh:listed[e.on]? with
    | none=>rw[hh]at this;simp at this
    | some t=>rw[hh]at this;simp at this;rw[this]
   have iq : ∀j,(listed.setIfInBounds i true)[j]? = if i=j then some true else listed[j]? :=by
    intro j
    rw[Array.getElem?_setIfInBounds]
    split
    .rename_i dx;rw[dB (by omega)]
    .rfl
   have Bl:(U.erase i).length=n:=by rw[List.length_erase_of_mem hiU];omega
   have u6:(U.erase i).Nodup:=cf.erase i
   have hmemE : ∀j,j∈U.erase i↔j≠i/\j∈U:=fun j=>cf.mem_erase_iff
   have E5:(listed.setIfInBounds i true).size=ops.size:=by simp[sf]
   have hU' : ∀j,j<ops.size->(j∈U.erase i↔(listed.setIfInBounds i true)[j]? = some false):=by
    intro j hj
    rw[iq,hmemE]
    by_cases dx:i=j
    .subst dx;simp
    .rw[dA dx,<- hU j hj]
     exact⟨fun h=>h.2,fun h=>⟨fun hh=>dx hh.symm,h⟩⟩
   have Gm : ∀ (j:Nat) o,(listed.setIfInBounds i true)[j]? = some true->ops[j]? = some o ->∀e∈o.after.toList,Region.binds .any e=true->(listed.setIfInBounds i true)[e.on]? = some true:=by
    intro j o hj Bk e he hb
    rw[iq]at hj |-
    split
    .rfl
    .split at hj
     .rename_i dx
      subst dx
      rw[ho]at Bk
      cases Bk
      exact y9 e he hb
     .exact gg j o hj Bk e he hb
   by_cases hiD:i∈D
   ·-- a new block: it stands, and waits
    obtain⟨o,M4,j8⟩:=hD.op i hiD
    rw[ho]at M4;cases M4
    obtain⟨hg,⟨dd,lc⟩,am,_⟩:=xhC j8
    have E:=R.cfg.rel.emb
    have C:=R.cfg
    have E9:getT st.tmps dd=none:=R.free i (R.inn i hiU) hiD _ _ ho lc
    obtain⟨tmps,H⟩:=st
    obtain⟨l1,l2,hL⟩:=List.append_of_mem (R.inn i hiU)
    have gz : ∀c∈U,((Region.before ops).getD i 0).testBit c=false:=by
     intro c hc
     refine jN (S:=fun j=>listed[j]? = some true) gg fv i i _ (dI _) ho y9 c ?_
     have:=(hU c (an c hc)).1 hc
     rw[this];simp
    have mg : ∀c∈L,((Region.before ops).getD i 0).testBit c=false:=by
     intro c hc
     by_cases hcU:c∈U
     .exact gz c hcU
     .exact hD.dep i hiD c (R.waits c hc hcU).1
    have dm : ∃pu H' s' rr,valO Γ I ops pu (ops[i]) tmps H' s'=some rr:=by
     rw[hL]at h
     have eg:=R.fit
     rw[hL]at eg
     exact xwU ho l1 tmps H s (fun c hc x hx=>(((List.pairwise_append.1 eg).2.2 c hc i (by simp)).apart (mg c (by rw[hL];simp[hc])) hx ho).1) h
    obtain⟨f,kb,rvf,ht,dc,pf,hf,dz⟩ : ∃ (f:Nat->V) (kb:Blk) (rvf:Nat->Value),kb.tab=none/\kb.grown=false/\(∀H2,xl P (ops[i]).op (xW tmps) H2=some (.val true (f H2.length) (newB H2 kb)))/\(∀pv e x c,denV pv (e ++ [(x,c)]) (f e.length)=some (rvf x))/\ ∀pv e (ra:Operand->Value),One pv->Says pv e (xW tmps) ra ->∃vs,denL pv e kb.cells=some vs:=by
     obtain⟨pu,H',s',rr,fx⟩:=dm
     simp only[valO,hg]at fx
     cases hq:xl P (ops[i]).op (xW tmps) H' with
     | none=>rw[hq]at fx;cases fx
     | some q=>exact new_val am hq
    have mn : ∀pu H2 s2,valO Γ I ops pu (ops[i]) tmps H2 s2=some (f H2.length,newB H2 kb,s2):=by
     intro pu H2 s2
     simp only[valO,hg,pf]
     exact xrr pu H2 kb s2
    obtain⟨vs,ma⟩:=dz I.pv e a.eval I.one C.rel.says
    obtain⟨nx,w',e',rv,h1,h2,h3,h4,h5,h6,h7⟩:=xrm I (o:=ops[i]) C.rel.says E (pf H)
    obtain⟨xs,rfl⟩:=h3
    obtain⟨⟨x,cp⟩,rfl⟩ : ∃r,xs = [r]:=by
     have hl:=h5.len
     rw[xrt,dM,E.len]at hl
     match xs,hl with
     | [r],_=>exact⟨r,rfl⟩
     | [],hl=>simp at hl
     | _::_::_,hl=>simp at hl
    obtain rfl:rv=rvf x:=by
     have:=hf I.pv e x cp
     rw[<- E.len,h4]at this
     exact Option.some.inj this
    have K6:blkAt (newB H kb) H.length=some kb:=by rw[yz,dB rfl]
    have Dd:(e ++ [(x,cp)])[H.length]? = some (x,cp):=by rw[E.len];simp
    obtain⟨r1,cs,tl,q1,q2,q3,q4,_⟩:=h5.row H.length kb K6 (Blk.win_none ht) (Blk.virt_none ht) (Blk.mapped_none ht)
    rw[Dd]at q1;cases q1
    rw[Blk.real_none ht,ym ⟨_,rfl⟩ _ _ ma]at q2;cases q2
    rw[q4 dc,List.append_nil]at q3
    have Ml:w.heap.size<=x:=by
     rcases h7 false x ⟨H.length,kb,(x,cp),K6,Dd,rfl,Blk.virt_none ht,fun h=>by cases h⟩with mr|mr
     .obtain⟨i2,k2,r2,g1,g2,g3,g4,_⟩:=mr
      have dy:i2<H.length:=xhw g1
      rcases h5.alone i2 H.length k2 kb r2 (x,cp) (by rw[wX dy];exact g1) K6 (by rw[List.getElem?_append_left (by rw[<- E.len];exact dy)];exact g2) Dd g3 g4 (Blk.virt_none ht)with h8|⟨_,h8⟩
      .omega
      .rw[Blk.win_none ht]at h8;cases h8
     .exact mr
    have Bg : ∀b,b<w.heap.size ->¬Own true e H b->w'.heap[b]? = w.heap[b]? :=h6.block
    have R':LRow I Γ ops D A S0 w0 e0 (U.erase i) L (fun j=>if j=i then x else X j) e ⟨tmps,H⟩ s F (a.put (some dd) (rvf x)) w':=by
     have O5:=C.keeps.size
     have Ff : ∀t',t'≠dd->(a.put (some dd) (rvf x)).tmps[t']? = a.tmps[t']? :=by
      intro t' O3
      simp only[Act.put]
      rw[Array.getElem?_setIfInBounds_ne (fun hh=>O3 hh.symm)]
     have hXlt : ∀j∈L,j∉U->X j<w.heap.size:=by
      intro j hj ng
      obtain⟨_,W⟩:=R.waits j hj ng
      obtain⟨_,_,_,_,_,_,_,_,_,_,_,_,_,_,hb⟩:=W.at_
      exact(Array.getElem?_eq_some_iff.1 hb).1
     have de : ∀j,j∉U.erase i->j=i\/j∉U:=by
      intro j hj
      by_cases rh:j=i
      .exact .inl rh
      .exact .inr fun hu=>hj ((hmemE j).2 ⟨rh,hu⟩)
     refine⟨⟨⟨E.unnew h5,?_,fun t' v hv =>?_,C.rel.defers⟩,I.stable C.rep fun b hb=>Bg b (I.lt C.rep b hb) fun mr=>C.disj b mr.weak hb,C.disj,C.keeps.trans h6 fun b hb=>C.mine true b (.inl hb),C.mine,C.ext⟩,R.lt,R.nd,R.fit,fun j hj=>R.inn j ((hmemE j).1 hj).2,fun j hj ng =>?_,fun j hj j' pb ng Dm he =>?_,R.free,R.held⟩
     .rw[XX];exact C.rel.len
     .have:t'≠dd:=fun hh=>by rw[hh,E9]at hv;cases hv
      rw[Ff t' this]
      exact C.rel.tmps t' v hv
     .rcases de j ng with rfl|ng
      .refine⟨hiD,⟨_,dd,f,kb,rvf,vs,ho,lc,ht,dc,mn,fun e x c=>hf I.pv e x c,ma,?_,?_⟩,?_,?_,?_⟩
       .intro fw
        rw[XX]at fw
        simp only[Act.put,if_true]
        rw[Array.getElem?_setIfInBounds_self_of_lt fw]
       .rw[dB rfl];exact q3
       .rw[dB rfl];intro hb;have:=E.own_lt hb;omega
       .rw[dB rfl];intro hb;have:=I.lt C.rep _ hb;omega
       .rw[dB rfl];omega
      .obtain⟨hjD,W⟩:=R.waits j hj ng
       have rh:j≠i:=fun hh=>ng (hh▸hiU)
       obtain⟨o,d',f',Om,Hw,zt,p1,p2,p3,p4,p5,p6,p7,p8,p9⟩:=W.at_
       rw[dA rh]
       have Ar:d'≠dd:=by
        rintro rfl
        exact hD.dst i hiD j o _ d' rh p1 ho lc p2
       refine⟨hjD,⟨o,d',f',Om,Hw,zt,p1,p2,p3,p4,p5,p6,p7,(fun hh=>by rw[Ff d' Ar];rw[XX]at hh;exact p8 hh),?_⟩,W.own,W.port,W.new⟩
       rw[Bg _ (hXlt j hj ng) fun mr=>W.own mr.weak];exact p9
     .have lo : ∀q,q∉U->q≠i:=fun q hq hh=>hq (hh▸hiU)
      rcases de j ng with Ak|Ak<;>rcases de j' Dm with oq|oq
      .rw[Ak,oq]
      .rw[dB Ak,dA (lo j' oq)]at he
       have:=hXlt j' pb oq;omega
      .rw[dB oq,dA (lo j Ak)]at he
       have:=hXlt j hj Ak;omega
      .rw[dA (lo j Ak),dA (lo j' oq)]at he
       exact R.inj j hj j' pb Ak oq he
    have key:=WA hΓ fv hD hQ n (U.erase i) L _ _ e ⟨tmps,H⟩ s F _ _ Bl u6 E5 hU' Gm R' h
    unfold wpOp
    rw[ho]
    simp only
    rw[dB (by simp[Region.wanted,hg])]
    left
    unfold Oper.wp
    rw[h1]
    rcases h2 with rfl|⟨rfl,hu⟩
    .simp only[Oper.upon,lc]
     exact key
    .rw[hu]at key
     simp only[Oper.upon,lc]
     exact key
   ·-- another one: those that it needs are told
    have gz : ∀c∈U,((Region.before ops).getD i 0).testBit c=false:=by
     intro c hc
     refine jN (S:=fun j=>listed[j]? = some true) gg fv i i _ (dI _) ho y9 c ?_
     have:=(hU c (an c hc)).1 hc
     rw[this];simp
    have hw : ∀j,j<ops.size->j∉U ->∀c∈U,((Region.before ops).getD j 0).testBit c=false:=by
     intro j hj ng c hc
     refine jN (S:=fun j=>listed[j]? = some true) gg fv j j _ (dI _) (Array.getElem?_eq_getElem hj) (fun e he hb=>gg j _ (isT j hj ng) (Array.getElem?_eq_getElem hj) e he hb) c ?_
     have:=(hU c (an c hc)).1 hc
     rw[this];simp
    obtain⟨l1,l2,e1,st1,R1,h1,fg⟩:=R.settle hΓ hD hiU hiD gz hw L.length L e st rfl h
    have om:=List.pairwise_append.1 R1.fit
    have Pc:=List.pairwise_cons.1 om.2.1
    have E6 : ∀c∈l1,xwS ops (Region.before ops) D A c i:=by
     intro c hc
     rcases(om.2.2 c hc i (by simp)).2 with g|g|⟨g,_⟩
     .rw[fg c hc]at g;cases g
     .exact g
     .exact absurd g hiD
    obtain⟨tmps,H⟩:=st1
    have y4:=Kj hΓ l1 tmps H s E6 R1.held ⟨S0,w0,e0,e1,F,a,w,R1.cfg⟩ h1
    simp only[yA,ho]at y4
    obtain⟨ai,s',g1,g2,g3⟩:=Vj hΓ R1.cfg.rebase y4
    obtain⟨pu',H',s1',rr,fm,um⟩ : ∃pu H s,∃rr:V×Heap×σ,valO Γ I ops pu (ops[i]) tmps H s=some rr/\ai.tmps=putT tmps (ops[i]).dst rr.1:=by
     rw[Kg]at g2
     rw[oM]at g2
     obtain⟨rr,Js,fx⟩:=g2
     cases fx
     exact⟨_,_,_,_,Js,rfl⟩
    have hniL:i∉l1++l2:=by
     have:=R1.nd
     rw[List.nodup_append]at this
     obtain⟨_,h2,h3⟩:=this
     rw[List.nodup_cons]at h2
     intro hm
     rcases List.mem_append.1 hm with hm|hm
     .exact h3 i hm i (by simp) rfl
     .exact h2.1 hm
    have aw : ∀j∈l1++l2,j∈l1++i::l2:=by
     intro j hj
     rcases List.mem_append.1 hj with h|h<;>simp[h]
    have Ar : ∀j∈l1++l2,j∈D ->∀o d,ops[j]? = some o->o.dst=some d->(ops[i]).dst≠some d:=by
     intro j hj hjD o d Bk hd Gk
     exact hD.dst j hjD i _ o d (fun hh=>hniL (hh▸hj)) ho Bk hd Gk
    have key:=g3 (wpAny P .any ops Q n (listed.setIfInBounds i true)) Q fun e' F' a' w' D2 C'=>by
     obtain⟨rv,D2⟩:=D2
     have j8 : ∀j∈l1++l2,j∉U.erase i->j∉U:=by
      intro j hj ng hu
      exact ng ((hmemE j).2 ⟨fun hh=>hniL (hh▸hj),hu⟩)
     refine WA hΓ fv hD hQ n (U.erase i) (l1++l2) X _ e' ai s' F' a' w' Bl u6 E5 hU' Gm ⟨R1.cfg.compose C',fun j hj=>R1.lt j (aw j hj),?_,?_,fun j hj =>?_,fun j hj ng =>?_,fun j hj j' pb ng Dm he=>R1.inj j (aw j hj) j' (aw j' pb) (j8 j hj ng) (j8 j' pb Dm) he,fun j hj hjD o d Bk hd =>?_,?_⟩ g1
     .exact List.Nodup.sublist (List.Sublist.append_left (List.sublist_cons_self i l2) l1) R1.nd
     .exact List.Pairwise.sublist (List.Sublist.append_left (List.sublist_cons_self i l2) l1) R1.fit
     .obtain⟨rh,hu⟩:=(hmemE j).1 hj
      have:=R1.inn j hu
      simp only[List.mem_append,List.mem_cons]at this |-
      rcases this with h|h|h
      .exact .inl h
      .exact absurd h rh
      .exact .inr h
     .obtain⟨hjD,W⟩:=R1.waits j (aw j hj) (j8 j hj ng)
      obtain⟨o,d,f,kb,rvf,vs,q1,q4,q2,q3,q5,q6,q7,q8,q9⟩:=W.at_
      have K1:=(Array.getElem?_eq_some_iff.1 q9).1
      have hnS : ∀q,¬ (Own q e1 H (X j)\/F (X j)):=fun q hh=>hh.elim (fun h=>W.own h.weak) W.port
      refine⟨hjD,⟨o,d,f,kb,rvf,vs,q1,q4,q2,q3,?_,q6,ym C'.ext _ _ q7,?_,by rw[C'.keeps.block _ K1 (hnS true)];exact q9⟩,fun hb =>?_,fun hb =>?_,W.new⟩
      .intro pu H2 s2
       rw[um,Yb]
       .exact q5 pu H2 s2
       .rcases List.mem_append.1 hj with hm|hm
        .exact((om.2.2 j hm i (by simp)).apart (fg j hm) q1 ho).2
        .exact((Pc.1 j hm).apart (hw j (R1.lt j (aw j hj)) (j8 j hj ng) i hiU) ho q1).1
      .have aq:=Ar j hj hjD o d q1 q4
       intro hh
       rw[D2]at hh |-
       rw[XX]at hh
       cases Gk:(ops[i]).dst with
       | none=>exact q8 hh
       | some di=>
        rw[Gk]at aq
        simp only[Act.put]
        rw[Array.getElem?_setIfInBounds_ne (fun hh=>aq (by rw[hh]))]
        exact q8 hh
      .rcases C'.mine _ _ (.inl hb)with h|h
       .exact hnS _ h
       .omega
      .rcases C'.mine true _ (.inr hb)with h|h
       .exact hnS _ h
       .omega
     .have q1:=R1.free j (aw j hj) hjD o d Bk hd
      have aq:=Ar j hj hjD o d Bk hd
      rw[um]
      cases Gk:(ops[i]).dst with
      | none=>exact q1
      | some di=>
       rw[Gk]at aq
       have:d≠di:=fun hh=>aq (by rw[hh])
       simp only[putT,yG _ _ this]
       exact q1
     .rw[um];exact R1.held.put ho fm
    unfold qA at key
    unfold wpOp
    rw[ho]
    simp only
    split
    .rename_i hw;rw[dB hw]at key;exact .inl key
    .rename_i hw;rw[dA hw]at key;exact key
theorem xkq{A:List (Nat×Nat)}(bl:vm ops (Region.before ops) D=true)(Aq:Zp ops (Region.before ops) A=true){p q:Nat}(hp:p<ops.size)(hq:q<ops.size)(mq:p<q)(hpD:p∉D)(hqD:q∉D):FitP ops (Region.before ops) D A p q:=by
 have fv:=Kk bl
 have Dj:=xyK fv p p q (dI _) (by omega) hp
 refine⟨Dj,?_⟩
 cases hb:((Region.before ops).getD q 0).testBit p with
 | true=>exact .inl rfl
 | false=>
  have am:=Array.getElem?_eq_getElem hp
  have tj:=Array.getElem?_eq_getElem hq
  refine .inr (.inl ⟨_,_,am,tj,xrw bl am tj mq hb hpD hqD,fun k3 zi =>?_,fun k3 zi =>?_,diff_of Aq am tj mq hb,fun k6 k1 =>?_,fun k6 k1 =>?_⟩)
  .exact xwT am tj k3 zi (by omega) (by simp only[vH,Dj,hb,Bool.or_self]) hqD
  .exact xwT tj am k3 zi (by omega) (by simp only[vH,Dj,hb,Bool.or_self]) hpD
  .exact xhB am tj k6 k1 (by omega) (by simp only[vH,Dj,hb,Bool.or_self])
  .exact xhB tj am k6 k1 (by omega) (by simp only[vH,Dj,hb,Bool.or_self])
theorem xnG(hΓ : ∀f m,Γ f=some m->SoundF I f m)(hm:P.follows .mixedOrders=true)(bl:Xt ops (Region.before ops)=true){id:Nat}{st:St}(Aq:Zp ops (Region.before ops) (kC ops st.tmps)=true){r:β×σ}{Q:Exit->Act->World->Prop}(hQ : ∀e' ai s' F' a' w',(k ai).run I.step s'=some r->Cfg I S0 w0 e0 e' ai s' F' a' w'->Q .normal a' w')
  {e:Env} {s:σ} {F:Nat->Prop} {a:Act} {w:World} (C:Cfg I S0 w0 e0 e st s F a {w with drawn:=w.drawn+1}) (h:(yA P Γ ops (Region.before ops) [] (kC ops st.tmps) (List.range ops.size) st k).run I.step s=some r):(Code.region id ops true).wp P Q a w:=by
 have bl:=xrx [] bl
 refine wp_region_any hm (WA (D :=[]) hΓ (Kk bl) ⟨(fun d hd=>by cases hd),(fun d hd=>by cases hd),fun d hd=>by cases hd⟩ hQ ops.size (List.range ops.size) (List.range ops.size) (fun _=>0) _ e st s F a _ (by simp) List.nodup_range (by simp) (fun i hi =>?_) (fun j o hj =>?_) ⟨C,fun i hi=>by simpa using hi,List.nodup_range,?_,fun i hi=>hi,fun i hi hn=>absurd hi hn,fun i hi j hj hn=>absurd hi hn,(fun i hi hd=>by cases hd),xdO _⟩ h)
 .simp[hi]
 .rw[Array.getElem?_replicate]at hj
  split at hj<;>simp at hj
 .refine List.Pairwise.imp_of_mem (fun {p q} hp hq mq =>?_) (List.pairwise_lt_range (n:=ops.size))
  exact xkq bl Aq (by simpa using hp) (by simpa using hq) mq (by simp) (by simp)
theorem xdP{f:Nat->Nat->Bool} : ∀ {l:List Nat},KF f l=true->l.Pairwise (fun p q=>f p q=true)
 | [],_=>List.Pairwise.nil
 | x::l,h=>by
  simp only[KF,dK,List.all_eq_true]at h
  exact List.Pairwise.cons h.1 (xdP h.2)
theorem jO(m:Nat) : ∀ (d i:Nat) (s:Sl) (t:Nat) (v:V),getS d (wA m d i s) t=some v->m.testBit (i+t)=true
 | 0,i,s,t,v,h=>by
  cases s with
  | leaf w=>
   simp only[wA]at h
   cases hb:m.testBit i with
   | true=>
    rw[hb]at h
    simp only[cond_true,getS]at h
    cases ht:Nat.beq t 0 with
    | true=>rw[dN ht];simpa using hb
    | false=>rw[ht]at h;cases h
   | false=>rw[hb]at h;simp[getS]at h
  | tip=>simp[wA,getS]at h
  | node l r=>simp[wA,getS]at h
 | d+1,i,s,t,v,h=>by
  cases s with
  | node l r=>
   simp only[wA]at h
   rw[xoK]at h
   simp only[getS]at h
   cases hb:Nat.blt t (2 ^ d) with
   | true=>rw[hb]at h;exact jO m d i l t v h
   | false=>
    rw[hb]at h
    have:=jO m d _ r _ v h
    rw[blt_eq,decide_eq_false_iff_not]at hb
    rw[show i+t=i+2 ^ d+(t-2 ^ d)by omega]
    exact this
  | tip=>simp[wA,getS]at h
  | leaf w=>simp[wA,getS]at h
theorem xkr(ops:Array Oper)(t:Nat) : ∀ (D:List Nat) (m:Nat),(m.testBit t=true\/ ∃d∈D,(ops[d]?).bind (·.dst)=some t)->(D.foldl (fun m d=>match(ops[d]?).bind (·.dst) with|some t=>m ||| (1 <<< t)|none=>m) m).testBit t=true
 | [],m,h=>by
  rcases h with h|⟨d,hd,_⟩
  .exact h
  .cases hd
 | d::D,m,h=>by
  rw[List.foldl_cons]
  refine xkr ops t D _ ?_
  rcases h with h|⟨d',hd,hh⟩
  .left
   split
   .rw[Nat.testBit_or,h];rfl
   .exact h
  .rcases List.mem_cons.1 hd with rfl|hd
   .left
    rw[hh]
    simp only[Nat.testBit_or,Nat.one_shiftLeft,Nat.testBit_two_pow_self,Bool.or_true]
   .exact .inr ⟨d',hd,hh⟩
theorem xdQ{ops:Array Oper}{D:List Nat}{l:Tm}{t:Nat}{v:V}(h:getT (vp ops D l) t=some v):getT l t=some v/\ ∀d∈D,(ops[d]?).bind (·.dst)≠some t:=by
 obtain⟨h1,h2⟩:=wH h
 simp only[vp]at h1 h2
 refine⟨?_,fun d hd hh =>?_⟩
 .unfold getT
  rw[blt_eq]
  simp only[h1,decide_true,cond_true]
  exact Zq _ _ _ _ _ _ h2
 .have h3:=jO _ _ _ _ _ _ h2
  rw[Nat.zero_add]at h3
  simp only[xzX,Nat.testBit_xor,Nat.testBit_and]at h3
  generalize(1 <<< 512-1).testBit t=q at h3
  generalize hz:Nat.testBit (List.foldl _ 0 D) t=z at h3
  have tf:z=true:=hz.symm.trans (xkr ops t D 0 (.inr ⟨d,hd,hh⟩))
  subst tf
  cases q<;>cases h3
theorem xAK{A:List (Nat×Nat)}(bl:vm ops (Region.before ops) D=true)(Aq:Zp ops (Region.before ops) A=true)(hD:LateD P ops D){p q:Nat}(hp:p<ops.size)(hq:q<ops.size)(h:fitB ops (Region.before ops) D p q=true):FitP ops (Region.before ops) D A p q:=by
 have am:=Array.getElem?_eq_getElem hp
 have tj:=Array.getElem?_eq_getElem hq
 unfold fitB at h
 simp only[dK,Bool.not_eq_true',Bool.or_eq_true,am,tj]at h
 refine⟨h.1.2,?_⟩
 rcases h.2 with h2|h2
 .exact .inl h2
 .rcases h2 with⟨⟨hqD,Nl⟩,ga⟩|h2
  .have hqD:q∈D:=by simpa using hqD
   refine .inr (.inr ⟨hqD,⟨_,_,am,tj,Nl⟩,fun i Py hi =>?_⟩)
   simp only[List.all_eq_true,Bool.or_eq_true,Bool.not_eq_true']at ga
   rcases ga i (by simpa using Py)with h3|h3
   .rw[hi]at h3;cases h3
   .exact h3
  .have kindD : ∀d∈D,∀o,ops[d]? = some o->xq o.op=2:=by
    intro d hd o ho
    obtain⟨o',mr,hb⟩:=hD.op d hd
    rw[ho]at mr;cases mr
    exact(xhC hb).2.2.2
   split at h2
   .rename_i mq
    simp only[dK,bne_iff_ne,ne_eq]at h2
    obtain⟨⟨n1,n2⟩,h3⟩:=h2
    refine .inr (.inl ⟨_,_,am,tj,h3,fun k3=>absurd k3 n1,fun k3=>absurd k3 n2,fun k1 k5 =>?_,fun k6 k1 =>?_,fun k6 k1 =>?_⟩)
    all_goals
     simp only[Bool.or_eq_true]at mq
     rcases mq with hh|hh
     .have:=kindD p (by simpa using hh) _ am
      omega
     .have:=kindD q (by simpa using hh) _ tj
      omega
   .rename_i mq
    simp only[Bool.or_eq_false_iff]at mq
    exact(xkq bl Aq hp hq (by simpa using h2) (by simpa using mq.1) (by simpa using mq.2)).2
theorem xbb(hΓ : ∀f m,Γ f=some m->SoundF I f m)(hm:P.follows .mixedOrders=true)(bl:vm ops (Region.before ops) D=true){id:Nat}{st:St}{L:List Nat}(Aq:Zp ops (Region.before ops) (kC ops (vp ops D st.tmps))=true)(hl:xk9 P ops (Region.before ops) D L=true){r:β×σ}{Q:Exit->Act->World->Prop}(hQ : ∀e' ai s' F' a' w',(k ai).run I.step s'=some r->Cfg I S0 w0 e0 e' ai s' F' a' w'->Q .normal a' w')
  {e:Env} {s:σ} {F:Nat->Prop} {a:Act} {w:World} (C:Cfg I S0 w0 e0 e st s F a {w with drawn:=w.drawn+1}) (h:(yA P Γ ops (Region.before ops) D (kC ops (vp ops D st.tmps)) L ⟨vp ops D st.tmps,st.heap⟩ k).run I.step s=some r):(Code.region id ops true).wp P Q a w:=by
 unfold xk9 at hl
 simp only[dK,List.all_eq_true,beq_iff_eq]at hl
 obtain⟨⟨⟨af,ga⟩,om⟩,ig⟩:=hl
 have hD:LateD P ops D:=by
  refine⟨fun d hd =>?_,fun d hd c hc =>?_,fun d hd i o o' dd aq ho mr Qm Aq =>?_⟩
  .have:=(ig d hd).1
   split at this
   .exact⟨_,‹_›,(dK _ _▸this).1⟩
   .cases this
  .have:=(ig d hd).2 c hc
   simpa using this
  .have:=(ig d hd).1
   rw[mr]at this
   simp only[dK,List.all_eq_true]at this
   have h1:=this.2 (o,i) (ko ho)
   simp only[Bool.or_eq_true,beq_iff_eq,bne_iff_ne,ne_eq]at h1
   rcases h1 with h1|h1
   .exact aq h1
   .exact h1 (Aq.trans Qm.symm)
 have bi : ∀i,i<ops.size->i∈L:=fun i hi=>by
  have:=ga i (by simpa using hi)
  simpa using this
 have an : ∀i∈L,i<ops.size:=fun i hi=>by simpa using af i hi
 have M0:=xdP om
 have cf:L.Nodup:=by
  refine List.Pairwise.imp (fun {p q} h =>?_) M0
  unfold fitB at h
  simp only[dK,bne_iff_ne,ne_eq]at h
  exact h.1.1
 have C2:Cfg I S0 w0 e0 e ⟨vp ops D st.tmps,st.heap⟩ s F a {w with drawn:=w.drawn+1}:=
  ⟨⟨C.rel.emb,C.rel.len,fun t v hv=>C.rel.tmps t v (xdQ hv).1,C.rel.defers⟩,C.rep,C.disj,C.keeps,C.mine,C.ext⟩
 refine wp_region_any hm (WA hΓ (Kk bl) hD hQ ops.size (List.range ops.size) L (fun _=>0) _ e ⟨vp ops D st.tmps,st.heap⟩ s F a _ (by simp) List.nodup_range (by simp) (fun i hi =>?_) (fun j o hj =>?_) ⟨C2,an,cf,?_,fun i hi=>bi i (by simpa using hi),fun i hi hn=>absurd (by simpa using an i hi) hn,fun i hi j hj hn=>absurd (by simpa using an i hi) hn,fun i hi hd o dd ho lc =>?_,xdO _⟩ h)
 .simp[hi]
 .rw[Array.getElem?_replicate]at hj
  split at hj<;>simp at hj
 .refine List.Pairwise.imp_of_mem (fun {p q} hp hq mq =>?_) M0
  exact xAK bl Aq hD (an p hp) (an q hq) mq
 .cases hg:getT (vp ops D st.tmps) dd with
  | none=>rfl
  | some v=>
   have:=(xdQ hg).2 i hd
   rw[ho]at this
   exact absurd lc this
end
end Lx
namespace Lx
open Go
/-! ### states of which less is known -/
mutual
theorem Yf{pv:Value}{e:Env}{n:Nat} : ∀ (c:C),(∀b∈idsC c,b<n)->den pv (e.take n) c=den pv e c
 | .bool b,h=>rfl
 | .int k i,h=>rfl
 | .nilp,h=>rfl
 | .ptr b o,h=>by simp only[den,List.getElem?_take_of_lt (h b (by simp[idsC]))]
 | .nils,h=>rfl
 | .sl b o m c,h=>by simp only[den,List.getElem?_take_of_lt (h b (by simp[idsC]))]
 | .slg b o m,h=>by simp only[den,List.getElem?_take_of_lt (h b (by simp[idsC]))]
 | .pr b o i m f,h=>by simp only[den,List.getElem?_take_of_lt (h b (by simp[idsC]))]
 | .slw b o z m c,h=>by simp only[den,List.getElem?_take_of_lt (h b (by simp[idsC]))]
 | .slr b m,h=>by simp only[den,List.getElem?_take_of_lt (h b (by simp[idsC]))]
 | .slv b z o m,h=>by simp only[den,List.getElem?_take_of_lt (h b (by simp[idsC]))]
 | .fn f caps,h=>by simp only[den,Zb caps (by simpa[idsC]using h)]
 | .meth s c,h=>by simp only[den,Yf c (by simpa[idsC]using h)]
 | .nilf,h=>rfl
 | .nili,h=>rfl
 | .port,h=>rfl
 | .mp b,h=>by simp only[den,List.getElem?_take_of_lt (h b (by simp[idsC]))]
 | .ifc t c,h=>by simp only[den,Yf c (by simpa[idsC]using h)]
theorem Zb{pv:Value}{e:Env}{n:Nat} : ∀ (l:List C),(∀b∈yU l,b<n)->denL pv (e.take n) l=denL pv e l
 | [],h=>rfl
 | c::l,h=>by simp only[denL,Yf c (fun b hb=>h b (by simp[yU,hb])),Zb l (fun b hb=>h b (by simp[yU,hb]))]
end
theorem xu7{pv:Value}{e:Env}{n:Nat}(x:V1)(h : ∀b∈xwm x,b<n):yV pv (e.take n) x=yV pv e x:=by
 cases x with
 | c a=>exact Yf a h
 | agg l=>simp only[yV,Zb l h]
theorem xyN{pv:Value}{e:Env}{n:Nat}(x:V)(h : ∀b∈idsV x,b<n):denV pv (e.take n) x=denV pv e x:=by
 cases x with
 | c a=>exact Yf a h
 | agg l=>simp only[denV,Zb l h]
 | tup l=>
  simp only[denV]
  rw[allSome_congr fun y hy=>xu7 y fun b hb=>h b (by simp only[idsV,List.mem_flatMap];exact⟨y,hy,hb⟩)]
theorem ZT(H:Heap) : ∀ (n:Nat) (todo acc l:List Nat),wf H n todo acc=some l->(∀b∈acc,∀k,blkAt H b=some k ->∀x∈yU k.cells,x∈acc\/x∈todo)->(∀b∈todo,b∈l)/\(∀b∈acc,b∈l)/\ ∀b∈l,∀k,blkAt H b=some k ->∀x∈yU k.cells,x∈l
 | n,[],acc,l,h,h1=>by
  have:acc=l:=by cases n<;>simpa[wf]using h
  subst this
  exact⟨by simp,fun _ h=>h,fun b hb k hk x hx=>(h1 b hb k hk x hx).resolve_right (by simp)⟩
 | 0,b::todo,acc,l,h,h1=>by simp[wf]at h
 | n+1,b::todo,acc,l,h,h1=>by
  simp only[wf]at h
  split at h
  .rename_i hc
   have hb:b∈acc:=by simpa using hc
   obtain⟨g1,g2,g3⟩:=ZT H n todo acc l h (fun c hc k hk x hx=>by
    rcases h1 c hc k hk x hx with h|h
    .exact .inl h
    .rcases List.mem_cons.1 h with h|h
     .exact .inl (h▸hb)
     .exact .inr h)
   refine⟨fun c hc =>?_,g2,g3⟩
   rcases List.mem_cons.1 hc with h|h
   .exact g2 c (h▸hb)
   .exact g1 c h
  .split at h
   .rename_i k hk
    obtain⟨g1,g2,g3⟩:=ZT H n (yU k.cells++todo) (acc ++ [b]) l h (fun c hc k' cw x hx=>by
     rcases List.mem_append.1 hc with hc|hc
     .rcases h1 c hc k' cw x hx with h|h
      .exact .inl (by simp[h])
      .rcases List.mem_cons.1 h with h|h
       .exact .inl (by simp[h])
       .exact .inr (by simp[h])
     .simp only[List.mem_singleton]at hc
      subst hc
      rw[hk]at cw
      cases cw
      exact .inr (by simp[hx]))
    refine⟨fun c hc =>?_,fun c hc=>g2 c (by simp[hc]),g3⟩
    rcases List.mem_cons.1 hc with h|h
    .exact g2 c (by simp[h])
    .exact g1 c (by simp[h])
   .cases h
theorem xbc : ∀ (l:List Nat) (b:Nat),b∈l->b<jo l
 | [],b,h=>by simp at h
 | x::l,b,h=>by
  simp only[jo]
  rcases List.mem_cons.1 h with h|h
  .omega
  .have:=xbc l b h;omega
theorem xbd(l:List Nat) : ∀ (i:Nat) (H:Heap),(Xv l i H).length=H.length
 | i,[]=>rfl
 | i,x::H=>by simp only[Xv,List.length_cons,xbd l (i+1) H]
theorem xks(l:List Nat) : ∀ (i:Nat) (H:Heap) (j:Nat),(Xv l i H)[j]? = (H[j]?).map fun x=>if l.contains (i+j)then x else none
 | i,[],j=>by simp[Xv]
 | i,x::H,0=>by simp[Xv]
 | i,x::H,j+1=>by
  simp only[Xv,List.getElem?_cons_succ,xks l (i+1) H j]
  rw[show i+1+j=i+(j+1)by omega]
theorem xyO{m:Nat}{l:Tm}{t:Nat}{v:V}(h:getT (keepT m l) t=some v):getT l t=some v:=by
 obtain⟨h1,h2⟩:=wH h
 unfold getT
 rw[blt_eq]
 simp only[show t<l.n from h1,decide_true,cond_true]
 exact Zq m 9 0 l.s t v h2
section
variable{P:Program}{σ:Type}{I:Port P σ}{Γ:yc}{S0:Bool->Nat->Prop}{w0:World}{e0:Env}
theorem Emb.keep{pv:Value}{e:Env}{H:Heap}{w:World}(E:Emb pv e H w){l:List Nat}(gg : ∀b∈l,∀k,blkAt H b=some k ->∀x∈yU k.cells,x∈l) :
  Emb pv (e.take (jo l)) ((Xv l 0 H).take (jo l)) w/\ ∀q b,Own q (e.take (jo l)) ((Xv l 0 H).take (jo l)) b->Own q e H b:=by
 have orig : ∀i k,blkAt ((Xv l 0 H).take (jo l)) i=some k->i∈l/\i<jo l/\blkAt H i=some k:=by
  intro i k h
  rw[yf,List.getElem?_take]at h
  split at h
  .rename_i hi
   rw[xks]at h
   cases hh:H[i]? with
   | none=>rw[hh]at h;simp at h
   | some x=>
    rw[hh]at h
    simp only[dL,oI,Nat.zero_add]at h
    split at h
    .rename_i hc
     exact⟨by simpa using hc,hi,by rw[yf,hh,h]⟩
    .cases h
  .cases h
 have env : ∀i r,i<jo l->((e.take (jo l))[i]? = some r↔e[i]? = some r):=by
  intro i r hi
  rw[List.getElem?_take_of_lt hi]
 refine⟨⟨?_,fun i k hk =>?_,fun i j k k' r r' h1 h2 h3 h4 h5 v1 v2 =>?_,fun i k hk=>E.ok i k (orig i k hk).2.2⟩,fun q b hb =>?_⟩
 .have:=E.len
  simp only[List.length_take,xbd]
  omega
 .obtain⟨h1,h2,h3⟩:=orig i k hk
  obtain⟨r,cs,g1,g2,g3⟩:=E.lies i k h3
  refine⟨r,cs,(env i r h2).2 g1,?_,g3⟩
  cases hk:k.tab with
  | none=>
   rw[Blk.real_none hk]at g2 |-
   rw[Zb _ fun b hb=>xbc l b (gg i h1 k h3 b hb)]
   exact g2
  | some t=>
   rw[Blk.real_some hk]at g2 |-
   rw[qH (pv:=pv) (e:=e) (xfC t)]
   exact g2
 .obtain⟨_,a2,a3⟩:=orig i k h1
  obtain⟨_,b2,b3⟩:=orig j k' h2
  exact E.alone i j k k' r r' a3 b3 ((env i r a2).1 h3) ((env j r' b2).1 h4) h5 v1 v2
 .obtain⟨i,k,r,h1,h2,h3⟩:=hb
  obtain⟨_,a2,a3⟩:=orig i k h1
  exact⟨i,k,r,a3,(env i r a2).1 h2,h3⟩
theorem Cfg.norm{e:Env}{st st1:St}{s:σ}{F:Nat->Prop}{a:Act}{w:World}{m:Nat}(C:Cfg I S0 w0 e0 e st s F a w)(h:norm e0.length m st=some st1) : ∃e1,Cfg I S0 w0 e0 e1 st1 s F a w:=by
 unfold Lx.norm at h
 simp only at h
 split at h
 .rename_i l hl
  cases h
  obtain⟨g1,_,g3⟩:=ZT st.heap _ _ [] l hl (by simp)
  obtain⟨E1,ho⟩:=C.rel.emb.keep g3
  refine⟨e.take (jo l),⟨E1,C.rel.len,fun t v hv =>?_,C.rel.defers⟩,C.rep,fun b hb=>C.disj b (ho _ b hb),C.keeps,fun q b hb=>C.mine _ b (hb.imp (ho _ b) id),?_⟩
  rotate_left
  .obtain⟨x,hx⟩:=C.ext
   have ff:e0.length<=jo l:=by
    rcases Nat.eq_zero_or_pos e0.length with h0|h0
    .omega
    .have:=xbc l (e0.length-1) (g1 _ (by simp;omega))
     omega
   exact⟨x.take (jo l-e0.length),by rw[hx,List.take_append,List.take_of_length_le ff]⟩
  obtain⟨rv,h1,h2⟩:=C.rel.tmps t v (xyO hv)
  refine⟨rv,h1,?_⟩
  rw[xyN v fun b hb=>xbc l b (g1 b ?_)]
  .exact h2
  .refine List.mem_append.2 (.inr ?_)
   exact xfy 9 _ t v (wH hv).2 b hb
 .cases h
theorem Cfg.conv1{e:Env}{st:St}{s:σ}{F:Nat->Prop}{a:Act}{w:World}(c:Cv)(C:Cfg I S0 w0 e0 e st s F a w) : ∃e1,Cfg I S0 w0 e0 e1 (Lx.conv1 c st) s F a w:=by
 unfold Lx.conv1
 split
 rotate_left
 .exact⟨e,C⟩
 rename_i hg
 have E:=C.rel.emb
 have af:=E.len
 have hx:Ext e (e ++ [(0,0)]):=⟨_,rfl⟩
 obtain⟨tmps,H⟩:=st
 simp only at hg af E
 generalize tq:(⟨[],c.el,true,some c.ek.tab⟩:Blk)=kn
 have hv:kn.virt=true:=by subst tq;unfold Blk.virt;cases c.ek<;>rfl
 have ns:kn.real = []:=by subst tq;unfold Blk.real;cases c.ek<;>rfl
 have au : ∀i k,blkAt (newB H kn) i=some k->(i=H.length/\k=kn)\/(blkAt H i=some k/\i<H.length):=by
  intro i k h
  rw[yz]at h
  split at h
  .cases h;exact .inl ⟨‹_›,rfl⟩
  .refine .inr ⟨h,?_⟩
   rw[xN]at h
   by_cases hi:i<H.length
   .exact hi
   .rw[List.getElem?_eq_none (by omega)]at h;simp at h
 have own : ∀q b,Own q (e ++ [(0,0)]) (newB H kn) b->Own q e H b:=by
  rintro q b ⟨i,k,r,h1,h2,h3,h4,h5⟩
  rcases au i k h1 with⟨_,rfl⟩|⟨h6,h7⟩
  .rw[hv]at h4;cases h4
  .rw[List.getElem?_append_left (by omega)]at h2
   exact⟨i,k,r,h6,h2,h3,h4,h5⟩
 refine⟨e ++ [(0,0)],⟨⟨by simp[newB,af],fun i k hk =>?_,fun i j k k' r r' hk cw hr dw he v1 v2 =>?_,fun i k hk =>?_⟩,by rw[xsI];exact C.rel.len,fun t v Ld =>?_,C.rel.defers⟩,C.rep,fun b hb=>C.disj b (own _ b hb),C.keeps,fun q b hb=>C.mine _ b (hb.imp (own _ b) id),C.ext.trans hx⟩
 .rcases au i k hk with⟨rfl,rfl⟩|⟨hk,hi⟩
  .exact⟨(0,0),[],by simp[af],by rw[ns];rfl,.inl hv⟩
  .obtain⟨r,ru,hr,iz,hw⟩:=E.lies i k hk
   exact⟨r,ru,hx.get hr,ym hx _ _ iz,hw⟩
 .rcases au i k hk with⟨_,rfl⟩|⟨hk,hi⟩
  .rw[hv]at v1;cases v1
  .rcases au j k' cw with⟨_,rfl⟩|⟨cw,hj⟩
   .rw[hv]at v2;cases v2
   .rw[List.getElem?_append_left (by omega)]at hr dw
    exact E.alone i j k k' r r' hk cw hr dw he v1 v2
 .rcases au i k hk with⟨_,rfl⟩|⟨hk,hi⟩
  .subst tq;intro t _;rfl
  .exact E.ok i k hk
 .by_cases ht:t=c.slot
  .subst ht
   obtain⟨_,rfl⟩:=kI Ld
   obtain⟨rv,h1,h2⟩:=C.rel.tmps _ _ hg
   refine⟨rv,h1,?_⟩
   simp only[denV,den]at h2 |-
   rw[af,List.getElem?_append_right (by omega),Nat.sub_self]
   exact h2
  .rw[yG _ _ ht]at Ld
   obtain⟨rv,h1,h2⟩:=C.rel.tmps t v Ld
   exact⟨rv,h1,KI hx _ _ h2⟩
theorem Cfg.convs{s:σ}{F:Nat->Prop}{a:Act}{w:World} : ∀ (l:List Cv) {e:Env} {st:St} (_:Cfg I S0 w0 e0 e st s F a w),∃e1,Cfg I S0 w0 e0 e1 (Lx.convs l st) s F a w
 | [],e,st,C=>⟨e,C⟩
 | c::l,e,st,C=>by
  obtain⟨e1,C1⟩:=Cfg.conv1 c C
  exact Cfg.convs l C1
theorem sub_ext{e0 e e1:Env}{l:List Nat}(hx:Ext e0 e)(md:l.take e0.length=List.range e0.length)(af:e1.length=l.length)(cj : ∀ (i b:Nat),l[i]? = some b->e1[i]? = e[b]?):Ext e0 e1:=by
 obtain⟨x,rfl⟩:=hx
 have ff:e0.length<=l.length:=by
  have:=congrArg List.length md
  simp at this
  omega
 refine⟨e1.drop e0.length,?_⟩
 rw[<- List.take_append_drop e0.length e1]
 congr 1
 .apply List.ext_getElem?
  intro i
  rw[List.getElem?_take]
  split
  .rename_i hi
   have K4:l[i]? = some i:=by
    have:=congrArg (·[i]?) md
    simp only[List.getElem?_take_of_lt hi]at this
    rw[this,List.getElem?_range hi]
   rw[cj i i K4,List.getElem?_append_left hi]
  .rename_i hi
   rw[List.getElem?_eq_none (by omega)]
 .simp
theorem xhD{r:Nat->Option Nat} : ∀ (d:Nat) (s s':Sl) (t:Nat) (v:V),renS r s=some s'->getS d s' t=some v ->∃u,getS d s t=some u/\renV r u=some v
 | d,.tip,s',t,v,h,hv=>by
  simp only[renS,oI]at h;subst h
  rw[qG]at hv;cases hv
 | d,.leaf u,s',t,v,h,hv=>by
  simp only[renS]at h
  split at h
  .rename_i u' hu
   cases h
   cases d with
   | zero=>
    simp only[getS]at hv |-
    cases hb:Nat.beq t 0 with
    | true=>rw[hb]at hv;cases hv;exact⟨u,rfl,hu⟩
    | false=>rw[hb]at hv;cases hv
   | succ d=>simp[getS]at hv
  .cases h
 | d,.node a b,s',t,v,h,hv=>by
  simp only[renS]at h
  split at h
  .rename_i x y hx hy
   cases h
   cases d with
   | zero=>simp[getS]at hv
   | succ d=>
    simp only[getS]at hv |-
    cases hb:Nat.blt t (2 ^ d) with
    | true=>rw[hb]at hv;exact xhD d a x t v hx hv
    | false=>rw[hb]at hv;exact xhD d b y _ v hy hv
  .cases h
theorem Cfg.renum{e:Env}{st st1:St}{s:σ}{F:Nat->Prop}{a:Act}{w:World}(C:Cfg I S0 w0 e0 e st s F a w)(h:renum e0.length st=some st1) : ∃e1,Cfg I S0 w0 e0 e1 st1 s F a w:=by
 unfold Lx.renum at h
 split at h
 .rename_i l hl
  obtain⟨hn,hk⟩:=xki hl
  split at h
  .rename_i md
   split at h
   .rename_i s' H1 cq hH1
    cases h
    obtain⟨e1,af,cj,E1,ax⟩:=C.rel.emb.sub hn hk hH1
    have hr : ∀b b' x,idx l b=some b'->e[b]? = some x->e1[b']? = some x:=fun b b' x h1 h2=>(cj b' b (xa7 l b b' h1)).trans h2
    have own : ∀q b,Own q e1 H1 b->Own q e st.heap b:=fun q b hb=>by
     obtain⟨i,hi,k,r,h1,h2,h3,hv,h4⟩:=ax _ b hb
     exact⟨i,k,r,h1,h2,h3,hv,h4⟩
    refine⟨e1,⟨E1,C.rel.len,fun t v hv =>?_,C.rel.defers⟩,C.rep,fun b hb=>C.disj b (own _ b hb),C.keeps,fun q b hb=>C.mine _ b (hb.imp (own _ b) id),sub_ext C.ext (by simpa using md) af cj⟩
    obtain⟨h5,h6⟩:=wH hv
    obtain⟨u,h7,h8⟩:=xhD 9 _ _ t v cq h6
    have h9:getT st.tmps t=some u:=by
     unfold getT
     rw[blt_eq]
     simp only[show t<st.tmps.n from h5,decide_true,cond_true]
     exact h7
    obtain⟨rv,g1,g2⟩:=C.rel.tmps t u h9
    exact⟨rv,g1,xa6 hr u v rv h8 g2⟩
   .cases h
  .cases h
 .cases h
theorem Cfg.normC{e:Env}{st st1:St}{s:σ}{F:Nat->Prop}{a:Act}{w:World}{m:Nat}{n:Fu}(C:Cfg I S0 w0 e0 e st s F a w)(h:normC n e0.length m st=some st1) : ∃e1,Cfg I S0 w0 e0 e1 st1 s F a w:=by
 unfold Lx.normC at h
 split at h
 .rename_i st2 h2
  obtain⟨e2,C2⟩:=C.norm h2
  obtain⟨e3,C3⟩:=Cfg.convs n.cv C2
  split at h
  .exact C3.renum h
  .cases h;exact⟨e3,C3⟩
 .cases h
theorem Cfg.drew{e:Env}{st:St}{s:σ}{F:Nat->Prop}{a:Act}{w:World}(C:Cfg I S0 w0 e0 e st s F a w):Cfg I S0 w0 e0 e st s F a {w with drawn:=w.drawn+1}:=
 ⟨⟨C.rel.emb.ofSame fun _ _=>rfl,C.rel.len,C.rel.tmps,C.rel.defers⟩,I.stable C.rep fun _ _=>rfl,C.disj,⟨C.keeps.os,C.keeps.tape,C.keeps.output,C.keeps.size,C.keeps.block⟩,C.mine,C.ext⟩
/-! ### code -/
def Ex.up:Ex->Exit
 | .normal =>.normal
 | .exit i =>.exit i
 | .ret =>.ret
theorem xdR{tmps:Tm}{c:Operand}{t:Bool}(h:xW tmps c=some (.c (.bool t))):refine tmps c t=tmps:=by
 cases c with
 | tmp i=>exact xcS h
 | _=>rfl
theorem ws(hΓ : ∀f m,Γ f=some m->SoundF I f m)(hm:P.follows .mixedOrders=true)(n:Fu){β:Type}{r:β×σ} : ∀ (c:Code) (lv:Nat) (K:Ex->St->T β) (Q:Exit->Act->World->Prop),
  (∀ex e st s F a w,(K ex st).run I.step s=some r->Cfg I S0 w0 e0 e st s F a w->Q ex.up a w)->
  ∀e st s F a w,Cfg I S0 w0 e0 e st s F a w->(ev P Γ n e0.length c lv st K).run I.step s=some r->c.wp P Q a w
 | .skip,lv,K,Q,hQ,e,st,s,F,a,w,C,h=>wp_skip (hQ .normal e st s F a w h C)
 | .label _,lv,K,Q,hQ,e,st,s,F,a,w,C,h=>wp_label (hQ .normal e st s F a w h C)
 | .exit i,lv,K,Q,hQ,e,st,s,F,a,w,C,h=>wp_exit (hQ (.exit i) e st s F a w h C)
 | .ret,lv,K,Q,hQ,e,st,s,F,a,w,C,h=>wp_ret (hQ .ret e st s F a w h C)
 | .seq x y,lv,K,Q,hQ,e,st,s,F,a,w,C,h=>by
  refine wp_seq (ws hΓ hm n x _ _ _ (fun ex e' ai s' F' a' w' hk C' =>?_) e st s F a w C h)
  cases ex with
  | normal=>
   simp only at hk
   split at hk
   .split at hk
    .rename_i st2 hn
     obtain⟨e2,C2⟩:=C'.normC hn
     refine ws hΓ hm n y lv (xfx n e0.length lv K) Q (fun ex e3 Ay s3 F3 a3 w3 mi C3 =>?_) e2 st2 s' F' a' w' C2 hk
     unfold xfx at mi
     split at mi
     .rename_i N7 Pn
      obtain⟨e4,C4⟩:=C3.normC Pn
      exact hQ ex e4 N7 s3 F3 a3 w3 mi C4
     .cases mi
    .cases hk
   .exact ws hΓ hm n y lv K Q hQ e' ai s' F' a' w' C' hk
  | exit i=>exact hQ (.exit i) e' ai s' F' a' w' hk C'
  | ret=>exact hQ .ret e' ai s' F' a' w' hk C'
 | .cond c x y,lv,K,Q,hQ,e,st,s,F,a,w,C,h=>by
  simp only[ev]at h
  split at h
  .rename_i t hc
   have hv:=C.rel.says c _ hc
   simp only[denV,den,oI]at hv
   cases t
   .rw[cond_false,xdR hc]at h
    exact wp_cond_false hv.symm (ws hΓ hm n y lv K Q hQ e st s F a w C h)
   .rw[cond_true,xdR hc]at h
    exact wp_cond_true hv.symm (ws hΓ hm n x lv K Q hQ e st s F a w C h)
  .cases h
 | .block id c,lv,K,Q,hQ,e,st,s,F,a,w,C,h=>by
  refine wp_block (ws hΓ hm n c lv _ _ (fun ex e' ai s' F' a' w' hk C' =>?_) e st s F a w C h)
  cases ex with
  | normal=>exact hQ .normal e' ai s' F' a' w' hk C'
  | exit i=>
   simp only at hk
   simp only[Ex.up,Exit.inBlock]
   split
   .rename_i hi;rw[dB hi]at hk;exact hQ .normal e' ai s' F' a' w' hk C'
   .rename_i hi;rw[dA hi]at hk;exact hQ (.exit i) e' ai s' F' a' w' hk C'
  | ret=>exact hQ .ret e' ai s' F' a' w' hk C'
 | .scope c,lv,K,Q,hQ,e,st,s,F,a,w,C,h=>by
  refine wp_scope_straight (ws hΓ hm n c lv K _ (fun ex e' ai s' F' a' w' hk C' =>?_) e st s F a w C h)
  have:=hQ ex e' ai s' F' a' w' hk C'
  cases ex<;>exact this
 | .region id ops draw,lv,K,Q,hQ,e,st,s,F,a,w,C,h=>by
  simp only[ev]at h
  cases draw
  .exact wp_region_list (xdK hΓ (fun e' ai s' F' a' w' hk C'=>hQ .normal e' ai s' F' a' w' hk C') ops.toList C h)
  .simp only at h
   split at h
   .split at h
    .rename_i bl
     exact xbb hΓ hm bl.1.1 bl.1.2 bl.2 (fun e' ai s' F' a' w' hk C'=>hQ .normal e' ai s' F' a' w' hk C') C.drew h
    .cases h
   .split at h
    .split at h
     .rename_i bl
      exact xnG hΓ hm bl.1 bl.2 (fun e' ai s' F' a' w' hk C'=>hQ .normal e' ai s' F' a' w' hk C') C.drew h
     .cases h
    .split at h
     .rename_i bl
      exact xbb hΓ hm (xrx _ bl.1.1) bl.1.2 bl.2 (fun e' ai s' F' a' w' hk C'=>hQ .normal e' ai s' F' a' w' hk C') C.drew h
     .cases h
 | .loop c,lv,K,Q,hQ,e,st,s,F,a,w,C,h=>by
  simp only[ev]at h
  intro b k cs
  have key : ∀ (m:Nat) e st s F a w,Cfg I S0 w0 e0 e st s F a w->(xD m (fun st k=>ev P Γ n e0.length c (lv ||| (ue c).1) st fun e ai=>match e with
    | .normal=>match normC n e0.length (lv ||| (ue c).1) ai with
     | some st2=>k st2
     | none =>.fail
    | .exit i=>match normC n e0.length lv ai with
     | some st2=>K (.exit i) st2
     | none =>.fail
    | .ret=>match normC n e0.length lv ai with
     | some st2=>K .ret st2
     | none =>.fail) st).run I.step s=some r ->∃ex a' w',Q ex a' w'/\Arrives P (lone (b.at a (.code c :: .inLoop c::k)) cs w) b k cs ex a' w':=by
   intro m
   induction m with
   | zero=>intro e st s F a w C h;cases h
   | succ m ih=>
    intro e st s F a w C h
    simp only[xD]at h
    have bh:c.wp P (Exit.then (fun a' w' =>∃ex a'' w'',Q ex a'' w''/\Arrives P (lone (b.at a' (.code c :: .inLoop c::k)) cs w') b k cs ex a'' w'') Q) a w:=by
     refine ws hΓ hm n c _ _ _ (fun ex e' ai s' F' a' w' hk C' =>?_) e st s F a w C h
     cases ex with
     | normal=>
      simp only at hk
      split at hk
      .rename_i st2 hn
       obtain⟨e2,C2⟩:=C'.normC hn
       exact ih e2 st2 s' F' a' w' C2 hk
      .cases hk
     | exit i=>
      simp only at hk
      split at hk
      .rename_i st2 hn
       obtain⟨e2,C2⟩:=C'.normC hn
       exact hQ (.exit i) e2 st2 s' F' a' w' hk C2
      .cases hk
     | ret=>
      simp only at hk
      split at hk
      .rename_i st2 hn
       obtain⟨e2,C2⟩:=C'.normC hn
       exact hQ .ret e2 st2 s' F' a' w' hk C2
      .cases hk
    obtain⟨ex,a1,w1,hq,mz⟩:=bh b (.inLoop c::k) cs
    cases ex with
    | normal=>
     obtain⟨Q5,a2,w2,mf,Gr⟩:=hq
     exact⟨Q5,a2,w2,mf,.of_steps (Steps.trans mz (.one step_inLoop)) Gr⟩
    | exit i=>exact⟨_,a1,w1,hq,.pass (x :=.inLoop c) rfl (fun _ _ =>.inl (by simp)) mz⟩
    | goto l=>exact⟨_,a1,w1,hq,.pass (x :=.inLoop c) rfl (fun _ _ =>.inl (by simp)) mz⟩
    | ret=>exact⟨_,a1,w1,hq,.pass (x :=.inLoop c) rfl (fun _ _ =>.inl (by simp)) mz⟩
    | panic ch=>exact⟨_,a1,w1,hq,.pass (x :=.inLoop c) rfl (fun _ _ =>.inl (by simp)) mz⟩
    | outgrown=>exact⟨_,a1,w1,hq,.pass (x :=.inLoop c) rfl (fun _ _ =>.inl (by simp)) mz⟩
  split at h
  .rename_i st1 hn
   obtain⟨e1,C1⟩:=C.normC hn
   obtain⟨ex,a',w',hq,mz⟩:=key n.n e1 st1 s F a w C1 h
   exact⟨ex,a',w',hq,.of_steps (.one step_loop) mz⟩
  .cases h
 | .goto _,lv,K,Q,hQ,e,st,s,F,a,w,C,h=>by simp[ev,T.run]at h
 | .rangeFunc ..,lv,K,Q,hQ,e,st,s,F,a,w,C,h=>by simp[ev,T.run]at h
 | .refuse _,lv,K,Q,hQ,e,st,s,F,a,w,C,h=>by simp[ev,T.run]at h
end
end Lx
namespace Lx
open Go
theorem xnH{pv:Value}{e0 e:Env}{H H':Heap}{w:World}{v v':V}{rv:Value}(E:Emb pv e H w)(hv:denV pv e v=some rv)(hx:Ext e0 e)(h:finish e0.length v H=some (v',H')) :
  ∃e',Ext e0 e'/\denV pv e' v'=some rv/\Emb pv e' H' w/\ ∀q b,Own q e' H' b->Own q e H b:=by
 unfold finish at h
 split at h
 .rename_i l hl
  obtain⟨hn,hk⟩:=xki hl
  split at h
  .rename_i md
   split at h
   .rename_i v1 H1 Jj hH1
    cases h
    obtain⟨e1,af,cj,E1,ax⟩:=E.sub hn hk hH1
    have hr : ∀b b' x,idx l b=some b'->e[b]? = some x->e1[b']? = some x:=fun b b' x h1 h2=>(cj b' b (xa7 l b b' h1)).trans h2
    refine⟨e1,?_,xa6 hr v v' rv Jj hv,E1,fun q b hb =>?_⟩
    .obtain⟨x,rfl⟩:=hx
     have ht:l.take e0.length=List.range e0.length:=by simpa using md
     have ff:e0.length<=l.length:=by
      have:=congrArg List.length ht
      simp at this
      omega
     refine⟨e1.drop e0.length,?_⟩
     rw[<- List.take_append_drop e0.length e1]
     congr 1
     .apply List.ext_getElem?
      intro i
      rw[List.getElem?_take]
      split
      .rename_i hi
       have K4:l[i]? = some i:=by
        have:=congrArg (·[i]?) ht
        simp only[List.getElem?_take_of_lt hi]at this
        rw[this,List.getElem?_range hi]
       rw[cj i i K4,List.getElem?_append_left hi]
      .rename_i hi
       rw[List.getElem?_eq_none (by omega)]
     .simp
    .obtain⟨i,hi,k,r,h1,h2,h3,hv,h4⟩:=ax _ b hb
     exact⟨i,k,r,h1,h2,h3,hv,h4⟩
   .cases h
  .cases h
 .cases h
section
variable{P:Program}{σ:Type}{I:Port P σ}{Γ:yc}
theorem res_run{pv:Value}{e:Env}{st:St}{a:Act}{w:World}(R:Rel pv e st a w){x:ResultVar}{v:V1}(h:xoJ P st x=some v)(g:ResultVar->Sem Value)(g1 : ∀t,g (.tmp t)=pure (a.tmps.getD t undef))(g2 : ∀p t,g (.cell p t)=(do loadVar t (<- asAddr (a.tmps.getD p undef)))) :
  ∃rv,(g x).run P w = .ok rv w/\yV pv e v=some rv:=by
 cases x with
 | tmp t=>
  simp only[xoJ]at h
  cases hg:getT st.tmps t with
  | none=>rw[hg]at h;simp at h
  | some u=>
   rw[hg]at h
   simp only[Option.bind_some]at h
   obtain⟨rv,h1,h2⟩:=R.tmps t u hg
   refine⟨rv,?_,by rw[xjt h];exact h2⟩
   rw[g1]
   simp[Array.getD_eq_getD_getElem?,h1]
 | cell p t=>
  simp only[xoJ]at h
  split at h
  .rename_i b q hg
   split at h
   .rename_i k hk
    cases hp:yD P t k.cells q with
    | none=>rw[hp]at h;simp at h
    | some u=>
     rw[hp]at h
     simp only[Option.bind_some]at h
     obtain⟨r,cs,a1,a2,a3⟩:=R.emb.lies b k hk
     obtain⟨rp,h1,h2⟩:=R.tmps p _ hg
     simp only[denV,den,a1,dL,oI]at h2
     subst h2
     obtain⟨rv,h3,h4⟩ : ∃rv,(loadVar t ⟨r.1,q,none⟩).run P w = .ok rv w/\denV pv e u=some rv:=by
      cases ht:k.tab with
      | none=>
       obtain⟨tl,a4,_⟩:=a3.own (Blk.win_none ht) (Blk.virt_none ht) (Blk.mapped_none ht)
       exact xxw (P:=P) a2 a4 (xjz (R.emb.ok b k hk) hp)
      | some tb=>
       rw[R.emb.ok b k hk tb ht]at hp
       have:=Zu (P:=P) (pv:=pv) (e:=e) (cells :=[]) (cs :=[]) (w:=w) (r:=r.1) (q:=0) rfl (fun j u hj=>by simp at hj) hp
       rwa [Nat.zero_add]at this
     refine⟨rv,?_,by rw[xjt h];exact h4⟩
     rw[g2]
     simp[Array.getD_eq_getD_getElem?,h1,asAddr,h3]
   .cases h
  .cases h
theorem xnI{pv:Value}{e:Env}{st:St}{a:Act}{w:World}(R:Rel pv e st a w)(g:ResultVar->Sem Value)(g1 : ∀t,g (.tmp t)=pure (a.tmps.getD t undef))(g2 : ∀p t,g (.cell p t)=(do loadVar t (<- asAddr (a.tmps.getD p undef)))) :
  ∀ (l:List ResultVar) (vs:List V1),allSome (xoJ P st) l=some vs ->∃rs,(l.mapM g).run P w = .ok rs w/\allSome (yV pv e) vs=some rs
 | [],vs,h=>by simp only[allSome,oI]at h;subst h;exact⟨[],by simp,rfl⟩
 | x::l,vs,h=>by
  simp only[allSome]at h
  split at h
  .rename_i y hy
   split at h
   .rename_i ys lr
    cases h
    obtain⟨rv,h1,h2⟩:=res_run R hy g g1 g2
    obtain⟨rs,h3,h4⟩:=xnI R g g1 g2 l ys lr
    refine⟨rv::rs,?_,by simp only[allSome,h2,h4]⟩
    rw[List.mapM_cons]
    simp only[Sem.run_bind,h1,Result.andThen_ok,h3,Sem.run_pure]
   .cases h
  .cases h
theorem xu8(fn:Func)(tmps:Array Value) : ∃g:ResultVar->Sem Value,results fn tmps=(do let vs <- fn.results.mapM g;pure (if h:vs.size=1 then vs[0]else .tuple vs))/\(∀t,g (.tmp t)=pure (tmps.getD t undef))/\ ∀p t,g (.cell p t)=(do loadVar t (<- asAddr (tmps.getD p undef))):=by
 refine⟨_,rfl,?_,?_⟩
 .intro t;rfl
 .intro p t;rfl
theorem xry{pv:Value}{e:Env}{st:St}{a:Act}{w:World}{fn:Func}(R:Rel pv e st a w){v:V}(h:resV P fn st=some v) : ∃rv,(results fn a.tmps).run P w = .ok rv w/\denV pv e v=some rv:=by
 obtain⟨g,hg,g1,g2⟩:=xu8 fn a.tmps
 unfold resV at h
 rw[hg]
 simp only[Array.mapM_eq_mapM_toList]
 split at h
 .rename_i u hu
  cases h
  obtain⟨rs,h1,h2⟩:=xnI (P:=P) R g g1 g2 _ _ hu
  simp only[allSome]at h2
  split at h2
  .rename_i rv fm
   cases h2
   refine⟨rv,?_,by rw[xwn];exact fm⟩
   simp only[Sem.run_bind,Sem.run_map,h1]
   rfl
  .cases h2
 .rename_i l aq hl
  cases h
  obtain⟨rs,h1,h2⟩:=xnI (P:=P) R g g1 g2 _ _ hl
  have af:=ye _ _ _ h2
  refine⟨.tuple rs.toArray,?_,by simp[denV,h2]⟩
  simp only[Sem.run_bind,Sem.run_map,h1]
  simp only[Result.andThen_ok,Sem.run_pure]
  rw[dif_neg]
  intro h3
  simp only[List.size_toArray]at h3
  rw[af]at h3
  obtain⟨x,hx⟩:=List.length_eq_one_iff.1 h3
  exact aq x hx
 .cases h
theorem xcU (hΓ : ∀f m,Γ f=some m->SoundF I f m) (hm:P.follows .mixedOrders=true) {f:FuncId} {fn:Func} (hf:P.funcs[f]? = some fn) (cu:(fn.name == "runtime.NumGoroutine")=false) (bh:fn.body.isSome=true) (n:Fu) :
  SoundF I f (fun args H=>some (mkS (V×Heap) (evF P Γ n fn args H) some)):=by
 obtain⟨c,hb⟩:=Option.isSome_iff_exists.1 bh
 refine⟨⟨fn,c,hf,cu,hb⟩,?_⟩
 intro args H S ht e w s F vs E hv hR hF x v H' s' hrun cx
 cases ht
 simp only[oI]at cx
 subst cx
 simp only[evF,hb,E.len]at hrun
 have af:=ye _ _ _ hv
 refine calls_of_wp hf hb (ws (S0:=fun q b=>Own q e H b\/F b) (w0:=w) (e0:=e) hΓ hm n c _ _ _ (fun ex e' ai s1 F' a' w' hk C =>?_) e ⟨begun fn args,H⟩ s F _ w ?_ hrun)
 .have Lg : ∃u,resV P fn ai=some u/\ ∃r',finish e.length u ai.heap=some r'/\r'=(v,H')/\s1=s':=by
   cases ex with
   | exit i=>simp[endF,T.run]at hk
   | normal=>
    simp only[endF]at hk
    split at hk
    .rename_i u hu
     split at hk
     .rename_i r' dw
      simp only[T.run,oI,dH]at hk
      exact⟨u,hu,r',dw,hk.1,hk.2⟩
     .cases hk
    .cases hk
   | ret=>
    simp only[endF]at hk
    split at hk
    .rename_i u hu
     split at hk
     .rename_i r' dw
      simp only[T.run,oI,dH]at hk
      exact⟨u,hu,r',dw,hk.1,hk.2⟩
     .cases hk
    .cases hk
  obtain⟨u,hu,r',dw,rfl,rfl⟩:=Lg
  obtain⟨rv,h1,h2⟩:=xry (P:=P) C.rel hu
  obtain⟨e2,h3,h4,h5,h6⟩:=xnH C.rel.emb h2 C.ext dw
  have Bi:a'.defers = []/\ ∃v',(results fn a'.tmps).run P w' = .ok v' w'/\ ∃e' F' rv,Ending.returned v' = .returned rv/\Ext e e'/\denV I.pv e' v=some rv/\Emb I.pv e' H' w'/\I.Rep s1 F' w'/\(∀b,Own false e' H' b ->¬F' b)/\
    Keeps (fun b=>Own true e H b\/F b) w w'/\ ∀q b,Own q e' H' b\/F' b->Own q e H b\/F b\/w.heap.size<=b:=by
   refine⟨C.rel.defers,rv,h1,e2,F',rv,rfl,h3,h4,h5,C.rep,fun b hb=>C.disj b (h6 _ b hb),C.keeps,fun q b hb =>?_⟩
   rcases C.mine _ b (hb.imp (h6 _ b) id)with(h|h)|h
   .exact .inl h
   .exact .inr (.inl h)
   .exact .inr (.inr h)
  cases ex with
  | exit i=>simp[endF,T.run]at hk
  | normal=>exact Bi
  | ret=>exact Bi
 .refine⟨⟨E,?_,fun t u hu =>?_,rfl⟩,hR,hF,Keeps.refl _ w,fun q b hb =>.inl hb,Ext.refl e⟩
  .simp[begun,af];omega
  .obtain⟨_,hu⟩:=wH hu
   rcases xdh args 0 .tip t u hu with⟨_,h1⟩|h1
   .rw[Nat.sub_zero]at h1
    have ht:=(List.getElem?_eq_some_iff.1 h1).1
    obtain⟨y,h2,h3⟩:=yH _ _ _ hv t _ h1
    refine⟨y,?_,h2⟩
    rw[Array.getElem?_append_left (by simpa[af]using ht)]
    simpa using h3
   .rw[qG]at h1;cases h1
end
end Lx
namespace Lx
open Go
def xu{ι β:Type}:Nat->(ι->(ι->T β)->T β)->ι->T β
 | 0,_,_ =>.fail
 | n+1,B,i=>B i fun i'=>xu n B i'
theorem xt{ι β:Type}{F:St->(St->T β)->T β}{S:ι->St}{B:ι->(ι->T β)->T β}(h : ∀i k,F (S i) k=B i fun i'=>k (S i')) : ∀ (n:Nat) (i:ι),xD n F (S i)=xu n B i
 | 0,_=>rfl
 | n+1,i=>by
  rw[xD,xu,h]
  congr 1
  funext i'
  exact xt h n i'
theorem xi{ι β γ:Type}{B:ι->(ι->T β)->T β}{B':ι->(ι->T γ)->T γ}(κ:β->T γ)(h : ∀i k,(B i k).bind κ=B' i fun i'=>(k i').bind κ) : ∀ (n:Nat) (i:ι),(xu n B i).bind κ=xu n B' i
 | 0,_=>rfl
 | n+1,i=>by
  rw[xu,xu,h]
  congr 1
  funext i'
  exact xi κ h n i'
def xwV{β:Type}(P:Program)(Γ:yc)(n:Fu)(m0:Nat)(c:Code)(lv:Nat)(K:Ex->St->T β)(st:St)(k:St->T β):T β:=
 ev P Γ n m0 c (lv ||| (ue c).1) st fun e ai=>match e with
  | .normal=>match normC n m0 (lv ||| (ue c).1) ai with
   | some st2=>k st2
   | none =>.fail
  | .exit i=>match normC n m0 lv ai with
   | some st2=>K (.exit i) st2
   | none =>.fail
  | .ret=>match normC n m0 lv ai with
   | some st2=>K .ret st2
   | none =>.fail
abbrev R:=V×Heap
inductive LS where
 | no
 | two (a b:LS)
 | loop (f:St->(Ex->St->T R)->Option (T R)) (a:LS)
 | peel (f:St->(Ex->St->T R)->Option (T R)) (a:LS)
 | cut (f:St->(Ex->St->T R)->Option (T R)) (a b:LS)
def ev2(P:Program)(Γ:yc)(n:Fu)(m0:Nat):LS->Code->Nat->St->(Ex->St->T R)->T R
 | .two x y,.seq a b,lv,st,K=>ev2 P Γ n m0 x a (lv ||| (ue b).1) st fun e ai=>match e with
  | .normal=>match cutS n b with
   | true=>match normC n m0 (lv ||| (ue b).1) ai with
    | some st2=>ev2 P Γ n m0 y b lv st2 (xfx n m0 lv K)
    | none =>.fail
   | false=>ev2 P Γ n m0 y b lv ai K
  | .exit i=>K (.exit i) ai
  | .ret=>K .ret ai
 | .two x y,.cond c a b,lv,st,K=>match xW st.tmps c with
  | some (.c (.bool t))=>cond t (ev2 P Γ n m0 x a lv ⟨refine st.tmps c true,st.heap⟩ K) (ev2 P Γ n m0 y b lv ⟨refine st.tmps c false,st.heap⟩ K)
  | _ =>.fail
 | .two x _,.block id c,lv,st,K=>ev2 P Γ n m0 x c lv st fun e ai=>match e with
  | .normal=>K .normal ai
  | .exit i=>if i=id then K .normal ai else K (.exit i) ai
  | .ret=>K .ret ai
 | .two x _,.scope c,lv,st,K=>ev2 P Γ n m0 x c lv st K
 | .loop f x,.loop c,lv,st,K=>match normC n m0 (lv ||| (ue c).1) st with
  | some st1=>match f st1 K with
   | some t=>t
   | none=>xD n.n (fun st k=>ev2 P Γ n m0 x c (lv ||| (ue c).1) st fun e ai=>match e with
    | .normal=>match normC n m0 (lv ||| (ue c).1) ai with
     | some st2=>k st2
     | none =>.fail
    | .exit i=>match normC n m0 lv ai with
     | some st2=>K (.exit i) st2
     | none =>.fail
    | .ret=>match normC n m0 lv ai with
     | some st2=>K .ret st2
     | none =>.fail) st1
  | none =>.fail
 | .peel f x,.loop c,lv,st,K=>match normC n m0 (lv ||| (ue c).1) st with
  | some st1=>match n.n with
   | 0 =>.fail
   | m+1=>ev2 P Γ n m0 x c (lv ||| (ue c).1) st1 fun e ai=>match e with
    | .normal=>match normC n m0 (lv ||| (ue c).1) ai with
     | some Ay=>match f Ay K with
      | some t=>t
      | none=>xD m (fun st k=>ev2 P Γ n m0 x c (lv ||| (ue c).1) st fun e ai=>match e with
       | .normal=>match normC n m0 (lv ||| (ue c).1) ai with
        | some st2=>k st2
        | none =>.fail
       | .exit i=>match normC n m0 lv ai with
        | some st2=>K (.exit i) st2
        | none =>.fail
       | .ret=>match normC n m0 lv ai with
        | some st2=>K .ret st2
        | none =>.fail) Ay
     | none =>.fail
    | .exit i=>match normC n m0 lv ai with
     | some st2=>K (.exit i) st2
     | none =>.fail
    | .ret=>match normC n m0 lv ai with
     | some st2=>K .ret st2
     | none =>.fail
  | none =>.fail
 | .cut f x y,.seq a b,lv,st,K=>ev2 P Γ n m0 x a (lv ||| (ue b).1) st fun e ai=>match e with
  | .normal=>match cutS n b with
   | true=>match normC n m0 (lv ||| (ue b).1) ai with
    | some st2=>match f st2 K with
     | some t=>t
     | none=>ev2 P Γ n m0 y b lv st2 (xfx n m0 lv K)
    | none =>.fail
   | false=>ev2 P Γ n m0 y b lv ai K
  | .exit i=>K (.exit i) ai
  | .ret=>K .ret ai
 | _,c,lv,st,K=>ev P Γ n m0 c lv st K
def qB(P:Program)(Γ:yc)(n:Fu)(m0:Nat)(x:LS)(c:Code)(lv:Nat)(K:Ex->St->T R)(st:St)(k:St->T R):T R:=
 ev2 P Γ n m0 x c (lv ||| (ue c).1) st fun e ai=>match e with
  | .normal=>match normC n m0 (lv ||| (ue c).1) ai with
   | some st2=>k st2
   | none =>.fail
  | .exit i=>match normC n m0 lv ai with
   | some st2=>K (.exit i) st2
   | none =>.fail
  | .ret=>match normC n m0 lv ai with
   | some st2=>K .ret st2
   | none =>.fail
def Good(P:Program)(Γ:yc)(n:Fu)(m0:Nat):LS->Code->Nat->Prop
 | .two x y,.seq a b,lv=>Good P Γ n m0 x a (lv ||| (ue b).1)/\Good P Γ n m0 y b lv
 | .two x y,.cond _ a b,lv=>Good P Γ n m0 x a lv/\Good P Γ n m0 y b lv
 | .two x _,.block _ c,lv=>Good P Γ n m0 x c lv
 | .two x _,.scope c,lv=>Good P Γ n m0 x c lv
 | .loop f x,.loop c,lv=>Good P Γ n m0 x c (lv ||| (ue c).1)/\ ∀st K t,f st K=some t->xD n.n (qB P Γ n m0 x c lv K) st=t
 | .peel f x,.loop c,lv=>Good P Γ n m0 x c (lv ||| (ue c).1)/\ ∀st K t,f st K=some t->xD (n.n-1) (qB P Γ n m0 x c lv K) st=t
 | .cut f x y,.seq a b,lv=>Good P Γ n m0 x a (lv ||| (ue b).1)/\Good P Γ n m0 y b lv/\ ∀st K t,f st K=some t->ev2 P Γ n m0 y b lv st (xfx n m0 lv K)=t
 | _,_,_=>True
theorem xhE{P:Program}{Γ:yc}{n:Fu}{m0:Nat} : ∀ (x:LS) (c:Code) (lv:Nat),Good P Γ n m0 x c lv ->∀ (st:St) (K:Ex->St->T R),ev2 P Γ n m0 x c lv st K=ev P Γ n m0 c lv st K:=by
 intro x
 induction x with
 | no=>intro c lv _ st K;simp only[ev2]
 | two x y hx hy=>
  intro c lv hg st K
  cases c with
  | seq a b=>
   simp only[Good]at hg
   simp only[ev2,ev]
   rw[hx a _ hg.1]
   congr 1
   funext e ai
   cases e with
   | normal=>
    simp only[hy b lv hg.2]
    cases cutS n b with
    | true=>cases normC n m0 (lv ||| (ue b).1) ai<;>rfl
    | false=>rfl
   | exit i=>rfl
   | ret=>rfl
  | cond c a b=>
   simp only[Good]at hg
   simp only[ev2,ev,hx a _ hg.1,hy b _ hg.2]
   rfl
  | block id c=>
   simp only[Good]at hg
   simp only[ev2,ev]
   rw[hx c _ hg]
   rfl
  | scope c=>
   simp only[Good]at hg
   simp only[ev2,ev]
   rw[hx c _ hg]
  | _=>simp only[ev2]
 | loop f x hx=>
  intro c lv hg st K
  cases c with
  | loop c=>
   simp only[Good]at hg
   simp only[ev2,ev]
   cases hn:normC n m0 (lv ||| (ue c).1) st with
   | none=>rfl
   | some st1=>
    simp only
    cases ht:f st1 K with
    | none=>
     simp only[hx c _ hg.1]
     rfl
    | some t=>
     simp only
     rw[<- hg.2 st1 K t ht]
     have:qB P Γ n m0 x c lv K=xwV P Γ n m0 c lv K:=by
      funext st k
      simp only[qB,xwV]
      rw[hx c _ hg.1]
     rw[this]
     rfl
  | _=>simp only[ev2]
 | peel f x hx=>
  intro c lv hg st K
  cases c with
  | loop c=>
   simp only[Good]at hg
   have hF:qB P Γ n m0 x c lv K=xwV P Γ n m0 c lv K:=by
    funext st k
    simp only[qB,xwV]
    rw[hx c _ hg.1]
   simp only[ev2,ev]
   cases hn:normC n m0 (lv ||| (ue c).1) st with
   | none=>rfl
   | some st1=>
    simp only
    have h2:=hg.2
    cases hm:n.n with
    | zero=>rfl
    | succ m=>
     rw[hm]at h2
     simp only[Nat.add_sub_cancel]at h2
     simp only[xD]
     rw[hx c _ hg.1]
     congr 1
     funext e ai
     cases e with
     | normal=>
      simp only
      cases normC n m0 (lv ||| (ue c).1) ai with
      | none=>rfl
      | some Ay=>
       simp only
       cases ht:f Ay K with
       | none=>
        simp only[hx c _ hg.1]
        rfl
       | some t=>
        simp only
        rw[<- h2 Ay K t ht,hF]
        rfl
     | exit i=>rfl
     | ret=>rfl
  | _=>simp only[ev2]
 | cut f x y hx hy=>
  intro c lv hg st K
  cases c with
  | seq a b=>
   simp only[Good]at hg
   simp only[ev2,ev]
   rw[hx a _ hg.1]
   congr 1
   funext e ai
   cases e with
   | normal=>
    simp only
    cases cutS n b with
    | true=>
     simp only
     cases normC n m0 (lv ||| (ue b).1) ai with
     | none=>rfl
     | some st2=>
      simp only
      cases h:f st2 K with
      | none=>exact hy b lv hg.2.1 st2 _
      | some t=>exact(hg.2.2 st2 K t h).symm.trans (hy b lv hg.2.1 st2 _)
    | false=>exact hy b lv hg.2.1 ai K
   | exit i=>rfl
   | ret=>rfl
  | _=>simp only[ev2]
def evF2(P:Program)(Γ:yc)(n:Fu)(x:LS)(fn:Func)(args:List V)(H:Heap):T (V×Heap):=
 match fn.body with
 | some c=>ev2 P Γ n H.length x c (xw fn.results.toList) ⟨begun fn args,H⟩ (endF P fn H.length)
 | none =>.fail
theorem xE{P:Program}{Γ:yc}{n:Fu}{x:LS}{fn:Func}{args:List V}{H:Heap}{c:Code}(hc:fn.body=some c)(hg:Good P Γ n H.length x c (xw fn.results.toList)):evF2 P Γ n x fn args H=evF P Γ n fn args H:=by
 unfold evF2 evF
 rw[hc]
 exact xhE _ _ _ hg _ _
/-! ### where the loops of a function lie -/
def wE:List Nat->Code->Nat->Option (Code×Nat)
 | [],.loop c,lv=>some (c,lv)
 | 0::p,.seq a b,lv=>wE p a (lv ||| (ue b).1)
 | _::p,.seq _ b,lv=>wE p b lv
 | 0::p,.cond _ a _,lv=>wE p a lv
 | _::p,.cond _ _ b,lv=>wE p b lv
 | _::p,.block _ c,lv=>wE p c lv
 | _::p,.scope c,lv=>wE p c lv
 | _::p,.loop c,lv=>wE p c (lv ||| (ue c).1)
 | _,_,_=>none
def jP(p:List Nat)(fn:Func):Code:=match fn.body with
 | some c=>match wE p c (xw fn.results.toList) with
  | some r=>r.1
  | none =>.skip
 | none =>.skip
def Xr(p:List Nat)(fn:Func):Nat:=match fn.body with
 | some c=>match wE p c (xw fn.results.toList) with
  | some r=>r.2
  | none=>0
 | none=>0
def lsAt(f:St->(Ex->St->T R)->Option (T R))(x:LS):List Nat->LS
 | [] =>.loop f x
 | 0::p =>.two (lsAt f x p) .no
 | _::p =>.two .no (lsAt f x p)
theorem xA{P:Program}{Γ:yc}{n:Fu}{m0:Nat}{c:Code}{lv:Nat}:Good P Γ n m0 .no c lv:=by unfold Good;trivial
theorem xwW{P:Program}{Γ:yc}{n:Fu}{m0:Nat}{f:St->(Ex->St->T R)->Option (T R)}{x:LS} : ∀ (p:List Nat) (c:Code) (lv:Nat),
  (∀c' iv,wE p c lv=some (c',iv)->Good P Γ n m0 x c' (iv ||| (ue c').1)/\ ∀st K t,f st K=some t->xD n.n (qB P Γ n m0 x c' iv K) st=t)->Good P Γ n m0 (lsAt f x p) c lv:=by
 intro p
 induction p with
 | nil=>
  intro c lv h
  cases c with
  | loop c=>simp only[lsAt,Good];exact h c lv rfl
  | _=>simp only[lsAt,Good]
 | cons a p ih=>
  intro c lv h
  cases a with
  | zero=>
   cases c with
   | seq a b=>simp only[lsAt,Good];exact⟨ih a _ fun c' iv hl=>h c' iv hl,trivial⟩
   | cond c a b=>simp only[lsAt,Good];exact⟨ih a _ fun c' iv hl=>h c' iv hl,trivial⟩
   | block id c=>simp only[lsAt,Good];exact ih c _ fun c' iv hl=>h c' iv hl
   | scope c=>simp only[lsAt,Good];exact ih c _ fun c' iv hl=>h c' iv hl
   | _=>simp only[lsAt,Good]
  | succ a=>
   cases c with
   | seq a b=>simp only[lsAt,Good];exact⟨trivial,ih b _ fun c' iv hl=>h c' iv hl⟩
   | cond c a b=>simp only[lsAt,Good];exact⟨trivial,ih b _ fun c' iv hl=>h c' iv hl⟩
   | block id c=>simp only[lsAt,Good]
   | scope c=>simp only[lsAt,Good]
   | _=>simp only[lsAt,Good]
theorem xB{P:Program}{Γ:yc}{n:Fu}{m0:Nat}{f:St->(Ex->St->T R)->Option (T R)}{x:LS}{p:List Nat}{fn:Func}{c:Code}(hc:fn.body=some c)(h:Good P Γ n m0 x (jP p fn) (Xr p fn ||| (ue (jP p fn)).1))
  (hl : ∀st K t,f st K=some t->xD n.n (qB P Γ n m0 x (jP p fn) (Xr p fn) K) st=t):Good P Γ n m0 (lsAt f x p) c (xw fn.results.toList):=by
 refine xwW p c _ fun c' iv he =>?_
 have h1:jP p fn=c':=by simp only[jP,hc,he]
 have h2:Xr p fn=iv:=by simp only[Xr,hc,he]
 subst h1;subst h2
 exact⟨h,hl⟩
theorem xAL(q:List Nat) : ∀ (p:List Nat) (c:Code) (lv:Nat) (c':Code) (iv:Nat),wE p c lv=some (c',iv)->wE (p++0::q) c lv=wE q c' (iv ||| (ue c').1):=by
 intro p
 induction p with
 | nil=>
  intro c lv c' iv h
  cases c<;>simp only[wE]at h<;>(try cases h)
  rfl
 | cons a p ih=>
  intro c lv c' iv h
  cases a with
  | zero=>cases c<;>simp only[wE]at h<;>(try cases h)<;>exact ih _ _ _ _ h
  | succ a=>cases c<;>simp only[wE]at h<;>(try cases h)<;>exact ih _ _ _ _ h
theorem vS{P:Program}{Γ:yc}{n:Fu}{m0:Nat}{f:St->(Ex->St->T R)->Option (T R)}{x:LS}{p q:List Nat}{fn:Func}{c:Code}(hc:fn.body=some c)(h:Good P Γ n m0 x (jP (p++0::q) fn) (Xr (p++0::q) fn ||| (ue (jP (p++0::q) fn)).1))
  (hl : ∀st K t,f st K=some t->xD n.n (qB P Γ n m0 x (jP (p++0::q) fn) (Xr (p++0::q) fn) K) st=t) (hp:(wE p c (xw fn.results.toList)).isSome=true):Good P Γ n m0 (lsAt f x q) (jP p fn) (Xr p fn ||| (ue (jP p fn)).1):=by
 refine xwW q _ _ fun c' iv he =>?_
 cases hq:wE p c (xw fn.results.toList) with
 | none=>rw[hq]at hp;cases hp
 | some r=>
  have h1:jP p fn=r.1:=by simp only[jP,hc,hq]
  have h2:Xr p fn=r.2:=by simp only[Xr,hc,hq]
  have h3:=xAL q p c _ r.1 r.2 hq
  rw[h1,h2]at he
  have h4:jP (p++0::q) fn=c':=by simp only[jP,hc,h3,he]
  have h5:Xr (p++0::q) fn=iv:=by simp only[Xr,hc,h3,he]
  subst h4;subst h5
  exact⟨h,hl⟩
section
variable{P:Program}{Γ:yc}{n:Fu}{m0:Nat}{f:St->(Ex->St->T R)->Option (T R)}{x:LS}{p q:List Nat}{fn:Func}{c:Code}
end
def xa:Nat:=4096
theorem xg{fn:Func}(h:fn.body.isSome=true):fn.body=some (fn.body.getD .skip):=by
 cases hb:fn.body with
 | none=>rw[hb]at h;cases h
 | some c=>rfl
end Lx
namespace Lx
open Go
section
variable{P:Program}{Γ:yc}
theorem xbe{β γ:Type}{ops:Array Oper}(κ:β->T γ)(pu o st k):(vb P Γ ops pu o st k).bind κ=vb P Γ ops pu o st fun ai=>(k ai).bind κ:=by
 rw[Ya,T.bind_assoc,<- Ya]
theorem xhF{β γ:Type}{ops:Array Oper}(κ:β->T γ) : ∀ (l:List Oper) (st:St) (k:St->T β),(xjr P Γ ops l st k).bind κ=xjr P Γ ops l st fun ai=>(k ai).bind κ
 | [],st,k=>rfl
 | o::l,st,k=>by
  simp only[xjr]
  rw[xbe]
  congr 1
  funext ai
  exact xhF κ l ai k
theorem qn{β γ:Type}{ops:Array Oper}{b:Array Nat}{D:List Nat}{A:List (Nat×Nat)}(κ:β->T γ) : ∀ (l:List Nat) (st:St) (k:St->T β),(yA P Γ ops b D A l st k).bind κ=yA P Γ ops b D A l st fun ai=>(k ai).bind κ
 | [],st,k=>rfl
 | i::l,st,k=>by
  simp only[yA]
  split
  .rw[xbe]
   congr 1
   funext ai
   exact qn κ l ai k
  .rfl
theorem xhG{β γ:Type}{F:St->(St->T β)->T β}{G:St->(St->T γ)->T γ}(κ:β->T γ)(h : ∀st k,(F st k).bind κ=G st fun ai=>(k ai).bind κ) : ∀ (n:Nat) (st:St),(xD n F st).bind κ=xD n G st
 | 0,_=>rfl
 | n+1,st=>by
  simp only[xD]
  rw[h]
  congr 1
  funext ai
  exact xhG κ h n ai
theorem ev_bind{β γ:Type}(n:Fu)(m0:Nat)(κ:β->T γ) : ∀ (c:Code) (lv:Nat) (st:St) (K:Ex->St->T β),(ev P Γ n m0 c lv st K).bind κ=ev P Γ n m0 c lv st fun e ai=>(K e ai).bind κ:=by
 intro c
 induction c with
 | skip=>intro lv st K;rfl
 | label=>intro lv st K;rfl
 | seq a b iha ihb=>
  intro lv st K
  simp only[ev]
  rw[iha]
  congr 1
  funext e ai
  cases e with
  | normal=>
   simp only
   cases cutS n b with
   | true=>
    simp only
    cases normC n m0 (lv ||| (ue b).1) ai with
    | none=>rfl
    | some st2=>
     simp only
     rw[ihb]
     congr 1
     funext e3 Ay
     unfold xfx
     cases normC n m0 lv Ay<;>rfl
   | false=>exact ihb _ _ _
  | exit i=>rfl
  | ret=>rfl
 | cond c a b iha ihb=>
  intro lv st K
  simp only[ev]
  split
  .rename_i t _
   cases t
   .exact ihb _ _ _
   .exact iha _ _ _
  .rfl
 | block id c ih=>
  intro lv st K
  simp only[ev]
  rw[ih]
  congr 1
  funext e ai
  cases e with
  | normal=>rfl
  | exit i=>simp only;split<;>rfl
  | ret=>rfl
 | scope c ih=>intro lv st K;exact ih _ _ _
 | exit id=>intro lv st K;rfl
 | ret=>intro lv st K;rfl
 | loop c ih=>
  intro lv st K
  simp only[ev]
  split
  .refine xhG κ (fun st k =>?_) n.n _
   rw[ih]
   congr 1
   funext e ai
   cases e with
   | normal=>simp only;split<;>rfl
   | exit i=>simp only;split<;>rfl
   | ret=>simp only;split<;>rfl
  .rfl
 | region p ops draw=>
  intro lv st K
  simp only[ev]
  split
  .split
   .split
    .exact qn κ _ _ _
    .rfl
   .split
    .split
     .exact qn κ _ _ _
     .rfl
    .split
     .exact qn κ _ _ _
     .rfl
  .exact xhF κ _ _ _
 | _=>intros;rfl
def evFK{β:Type}(P:Program)(Γ:yc)(n:Fu)(fn:Func)(args:List V)(H:Heap)(k:V×Heap->T β):T β:=
 match fn.body with
 | some c=>ev P Γ n H.length c (xw fn.results.toList) ⟨begun fn args,H⟩ fun e st=>match e with
  | .exit _ =>.fail
  | .normal | .ret=>match resV P fn st with
   | some v=>match finish H.length v st.heap with
    | some r=>k r
    | none =>.fail
   | none =>.fail
 | none =>.fail
theorem xyP{β:Type}(n:Fu)(fn:Func)(args:List V)(H:Heap)(k:V×Heap->T β):evFK P Γ n fn args H k=(evF P Γ n fn args H).bind k:=by
 cases hb:fn.body with
 | none=>simp only[evFK,evF,hb];rfl
 | some c=>
  simp only[evFK,evF,hb]
  rw[ev_bind]
  congr 1
  funext e st
  cases e with
  | exit i=>rfl
  | normal=>
   simp only[endF]
   cases resV P fn st with
   | none=>rfl
   | some v=>simp only;cases finish (List.length H) v st.heap<;>rfl
  | ret=>
   simp only[endF]
   cases resV P fn st with
   | none=>rfl
   | some v=>simp only;cases finish (List.length H) v st.heap<;>rfl
def inl(P:Program)(Γ:yc)(n:Fu)(fn:Func):List V->Heap->Option Sum:=fun args H=>
 some ⟨V×Heap,evF P Γ n fn args H,some,fun _ k=>evFK P Γ n fn args H k,fun _ k=>xyP n fn args H k⟩
theorem xcV {σ:Type} {I:Port P σ} (hΓ : ∀f m,Γ f=some m->SoundF I f m) (hm:P.follows .mixedOrders=true) {f:FuncId} {fn:Func} (hf:P.funcs[f]? = some fn) (cu:(fn.name == "runtime.NumGoroutine")=false) (bh:fn.body.isSome=true) (n:Fu):SoundF I f (inl P Γ n fn):=by
 have h:=xcU (I:=I) hΓ hm hf cu bh n
 refine⟨h.1,fun args H S hS =>?_⟩
 have:=h.2 args H _ rfl
 cases hS
 exact this
end
end Lx
end Go.Proofs.YtcicjcggclhbfaaGreat
