/- Part. -/
import Derived.Test.YtaegelbaghaooaaGreatCbM1
import Derived.Scope
set_option linter.all false
open Go.IntKind (i64 u64 u32 u8)
namespace Go.Proofs.YtaegelbaghaooaaGreat
namespace Lx
open Go
def Flat(pv:Value)(v:V)(rv:Value):Prop :=∀e,denV pv e v=some rv
structure Port(P:Program)(σ:Type) where
 pv:Value
 t:TypeId
 u:Value
 isIface:pv = .iface t u
 step:PStep σ
 Rep:σ->(Nat->Prop)->World->Prop
 lt : ∀ {s F w},Rep s F w ->∀b,F b->b<w.heap.size
 stable : ∀ {s F w w'},Rep s F w->(∀b,F b->w'.heap[b]? = w.heap[b]?)->Rep s F w'
 sure : ∀name,portMeth name=true ->∀w,(nilAhead (P.types.size+Made.depth) t u name).run P w = .ok (some false) w
 does : ∀ {name args p s s' x F w} {vs:List Value},popOf name args=some p->step p s=some (x,s')->allSome (denV pv []) args=some vs->Rep s F w->
  ∃f recv rv,(∀w,(callMethod pv name vs.toArray).run P w = .ok (.enter f (#[recv]++vs.toArray)) w)/\Flat pv (ansV p x) rv/\
   Calls P f (#[recv]++vs.toArray) w fun e w'=>e = .returned rv/\ ∃F',Rep s' F' w'/\Keeps F w w'/\ ∀b,F' b->F b\/w.heap.size<=b
section
variable{P:Program}{σ:Type}(I:Port P σ)
theorem Port.one:One I.pv:=by rw[I.isIface];exact⟨(fun _ h=>by cases h),(fun _ h=>by cases h)⟩
theorem Port.ex : ∃t u,I.pv = .iface t u:=⟨I.t,I.u,I.isIface⟩
variable{ρ:Operand->Option V}{ra:Operand->Value}{o:Oper}{e:Env}{H:Heap}{w:World}
theorem xwW{x:Operand}{s:String}(hρ:Says I.pv e ρ ra)(E:Emb I.pv e H w)(ho:o.op = .nilCheck x)(hx:ρ x=some (.c (.meth s .port)))(hs:portMeth s=true):Did P I.pv ra o e H w (.c (.meth s .port)) H:=by
 have h1:=hρ x _ hx
 refine xw E (rv:=ra x) ?_ h1
 simp only[denV,den,Option.map_some,oI]at h1
 rw[I.isIface]at h1
 have h2:=I.sure s hs w
 simp only[execOp,ho,<- h1]
 simp[show(program.run P w) = .ok P w from rfl,h2]
theorem xwX{v:V}{H':Heap}(hρ:Says I.pv e ρ ra)(E:Emb I.pv e H w)(h:xf P o.op ρ H=some (.val true v H')):Did P I.pv ra o e H w v H':=by
 have hp:=I.one
 have hpi:=I.ex
 generalize ho:o.op=op at h
 unfold xf at h
 split at h
 case h_1 x=>
  rw[oM]at h;obtain⟨v',h1,h2⟩:=h;cases h2
  exact xl4 hρ E (.inl ho) h1
 case h_2 x=>
  rw[oM]at h;obtain⟨v',h1,h2⟩:=h;cases h2
  exact xl4 hρ E (.inr ho) h1
 case h_3 c a b=>
  split at h
  ·rename_i t hc
   cases t
   ·simp only[oM]at h;obtain⟨v',h1,h2⟩:=h;cases h2
    exact xl5 hρ E ho hc h1
   ·simp only[oM]at h;obtain⟨v',h1,h2⟩:=h;cases h2
    exact xl5 hρ E ho hc h1
  ·cases h
 case h_4 t=>
  split at h
  ·rename_i z hz
   split at h
   ·rename_i cs hc
    cases h
    exact xtW hp E ho hz hc
   ·cases h
  ·cases h
 case h_5 t x=>
  split at h
  ·rename_i v' hv
   split at h
   ·rename_i cs hc
    cases h
    exact did_box hρ hp E ho hv hc
   ·cases h
  ·cases h
 case h_6 t parts=>
  split at h
  ·rename_i z ps hz hps
   split at h
   ·rename_i cs fs hc hu
    split at h
    ·rename_i places hpl
     rw[oM]at h;obtain⟨r,h1,h2⟩:=h;cases h2
     exact xpD hp hρ E ho hz hps hc hu hpl h1
    ·cases h
   ·rename_i cs n el hc hu
    split at h
    ·rename_i n hn
     rw[oM]at h;obtain⟨r,h1,h2⟩:=h;cases h2
     exact xpE hp hρ E ho hz hps hc hu hn h1
    ·cases h
   ·cases h
  ·cases h
 case h_7 t len parts=>
  split at h
  ·rename_i el ps hu hps
   split at h
   ·rename_i n z hn hz
    split at h
    ·rename_i zs hzs
     split at h
     ·rename_i h0
      split at h
      ·rename_i r hr
       cases h
       exact xdZ hp hρ E ho hu hps hn hz hzs h0 hr
      ·cases h
     ·cases h
    ·cases h
   ·cases h
  ·cases h
 case h_8 t a=>
  split at h
  ·rename_i b q ha
   split at h
   ·rename_i k hk
    rw[oM]at h;obtain⟨⟨g,r⟩,h1,h2⟩:=h
    simp only[Stp.val.injEq]at h2
    obtain⟨rfl,rfl,rfl⟩:=h2
    exact xwj hρ E ho ha hk h1
   ·cases h
  ·rename_i b off i n f ha
   split at h
   ·rename_i k hk
    rw[oM]at h;obtain⟨⟨g,r⟩,h1,h2⟩:=h
    simp only[Stp.val.injEq]at h2
    obtain⟨rfl,rfl,rfl⟩:=h2
    exact xtX hρ E ho ha hk h1
   ·cases h
  ·cases h
 case h_9 t a x=>
  split at h
  ·rename_i b q v' ha hx
   split at h
   ·rename_i k xs n hk hxs hn
    split at h
    ·rename_i hl
     split at h
     ·rename_i g kn hcs
      simp only[oI,Stp.val.injEq]at h
      obtain⟨rfl,rfl,rfl⟩:=h
      exact xhw hρ hp E ho (xcQ hρ ha) hx hk hxs hn hl hcs
     ·cases h
    ·cases h
   ·cases h
  ·rename_i b off i m f v' ha hx
   split at h
   ·rename_i k xs n hk hxs hn
    split at h
    ·rename_i hl
     split at h
     ·rename_i g kn hcs
      simp only[oI,Stp.val.injEq]at h
      obtain⟨rfl,rfl,rfl⟩:=h
      refine xhw hρ hp E ho ?_ hx hk hxs hn hl hcs
      obtain⟨r,g1,g2⟩:=xwl hρ ha
      exact⟨r,g1,by rw[prO_eq];exact g2⟩
     ·cases h
    ·cases h
   ·cases h
  ·cases h
 case h_10 x=>
  split at h
  ·cases h
  ·cases h
  ·cases h
  ·rename_i s c hx
   split at h
   ·split at h
    ·rename_i hs
     cases h
     exact xwW I hρ E ho hx hs
    ·cases h
   ·cases h
  ·cases h
   rename_i h1 h2 h3 h4 hx
   exact xi2 hpi hρ E ho hx h1 h2 h3 h4
  ·cases h
 case h_11 op t x y u=>
  split at h
  ·rename_i a b ha hb
   rw[oM]at h;obtain⟨⟨g,r⟩,h1,h2⟩:=h
   simp only[Stp.val.injEq]at h2
   obtain⟨rfl,rfl,rfl⟩:=h2
   exact did_bin hpi hρ E ho ha hb h1
  ·rename_i l m ha hb
   rw[oM]at h;obtain⟨r,h1,h2⟩:=h;cases h2
   exact xwn hρ E ho ha hb h1
  ·cases h
 case h_12 op t x=>
  split at h
  ·rename_i a ha
   rw[oM]at h;obtain⟨r,h1,h2⟩:=h;cases h2
   exact did_un hρ E ho ha h1
  ·cases h
 case h_13 s d x=>
  split at h
  ·rename_i k n t j hx hs hd
   cases h
   exact xwk hρ E ho hx hd ⟨_,hs⟩
  ·cases h
 case h_14 f first captured=>
  split at h
  ·rename_i hf
   split at h
   ·rename_i vs hvs
    rw[oM]at h;obtain⟨r,h1,h2⟩:=h;cases h2
    exact xwo hρ E ho hf hvs h1
   ·cases h
  ·cases h
 case h_15 s first captured=>
  split at h
  ·rename_i hf
   split at h
   ·rename_i x hx
    split at h
    ·rename_i c hc
     cases h
     exact xwp hρ E ho hf hx hc
    ·cases h
   ·cases h
  ·cases h
 case h_16 t x lo hi=>
  split at h
  ·rename_i n el b q l hh hu hx hl hh'
   split at h
   ·rename_i z g1 h' hz hb1
    split at h
    ·rename_i g2 l' hb2
     simp only[oI,Stp.val.injEq,Bool.and_eq_true]at h
     obtain⟨⟨rfl,rfl⟩,rfl,rfl⟩:=h
     exact xi8 hρ E ho hu hx hl hh' hz hb1 hb2
    ·cases h
   ·cases h
  ·rename_i el b q len cap l hh hu hx hl hh'
   split at h
   ·rename_i z g1 h' hz hb1
    split at h
    ·rename_i g2 l' hb2
     simp only[oI,Stp.val.injEq,Bool.and_eq_true]at h
     obtain⟨⟨rfl,rfl⟩,rfl,rfl⟩:=h
     exact xma hρ E ho hu hx hl hh' hz hb1 hb2
    ·cases h
   ·cases h
  ·rename_i el b len l hh hu hx hl hh'
   split at h
   ·rename_i g1 h' hb1
    split at h
    ·rename_i g2 l' hb2
     split at h
     ·rename_i hz
      simp only[oI,Stp.val.injEq,Bool.and_eq_true]at h
      obtain⟨⟨rfl,rfl⟩,rfl,rfl⟩:=h
      exact xi9 hρ E ho hu hx hl hh' hz hb1 hb2
     ·cases h
    ·cases h
   ·cases h
  ·cases h
 case h_17 t x f=>
  split at h
  ·rename_i fs b q hu hx
   split at h
   ·rename_i fd hfd
    split at h
    ·rename_i n hn
     split at h
     ·cases h
     ·rename_i hn0
      cases h
      exact xgx hρ E ho hu hx hfd hn hn0
    ·cases h
   ·cases h
  ·rename_i fs b off i m q hu hx
   split at h
   ·rename_i fd hfd
    split at h
    ·rename_i n hn
     split at h
     ·cases h
     ·rename_i hn0
      cases h
      exact xdX hρ E ho hu hx hfd hn hn0
    ·cases h
   ·cases h
  ·cases h
 case h_18 t x f=>
  split at h
  ·rename_i fs cs hu hx
   split at h
   ·rename_i fd hfd
    rw[oM]at h;obtain⟨r,h1,h2⟩:=h;cases h2
    exact xtY hρ E ho hu hx hfd h1
   ·cases h
  ·cases h
 case h_19 t x ix=>
  split at h
  ·rename_i len el b q k i hu hx hi
   rw[oM]at h;obtain⟨n,h1,h2⟩:=h
   simp only[Stp.val.injEq,decide_eq_true_eq]at h2
   obtain⟨hg,rfl,rfl⟩:=h2
   exact xi3 hρ E ho hu hx hi h1 hg
  ·rename_i el b q len cap k i hu hx hi
   rw[oM]at h;obtain⟨n,h1,h2⟩:=h
   simp only[Stp.val.injEq,decide_eq_true_eq]at h2
   obtain⟨hg,rfl,rfl⟩:=h2
   exact xl7 hρ E ho hu hx hi h1 hg
  ·rename_i el b q len k i hu hx hi
   split at h
   ·rename_i h1
    simp only[oI,Stp.val.injEq,decide_eq_true_eq]at h
    obtain⟨hg,rfl,rfl⟩:=h
    exact xi4 hρ E ho hu hx hi h1 hg
   ·cases h
  ·rename_i el b q z len cap k i hu hx hi
   rw[oM]at h;obtain⟨n,h1,h2⟩:=h
   simp only[Stp.val.injEq,decide_eq_true_eq]at h2
   obtain⟨hg,rfl,rfl⟩:=h2
   exact xi5 hρ E ho hu hx hi h1 hg
  ·rename_i el b len k i hu hx hi
   rw[oM]at h;obtain⟨n,h1,h2⟩:=h
   simp only[Stp.val.injEq,decide_eq_true_eq]at h2
   obtain⟨hg,rfl,rfl⟩:=h2
   exact xi6 hρ E ho hu hx hi h1 hg
  ·cases h
 case h_20 t x ix=>
  split at h
  ·rename_i len el cs k i hu hx hi
   split at h
   ·rename_i n hn
    rw[oM]at h;obtain⟨v',h1,h2⟩:=h
    simp only[Stp.val.injEq,decide_eq_true_eq]at h2
    obtain⟨hg,rfl,rfl⟩:=h2
    exact xtZ hρ E ho hu hx hi hn hg (xwa h1 hg)
   ·cases h
  ·cases h
 case h_21 t ix=>
  split at h
  ·rename_i l hx
   rw[oM]at h;obtain⟨v',h1,h2⟩:=h;cases h2
   exact xl6 hρ E ho hx h1
  ·cases h
 case h_22 c=>
  split at h
  ·rename_i args hargs
   split at h
   ·rename_i b hb
    have ho':o.op = .call {callee :=.builtin b,args:=c.args,argTypes:=c.argTypes}:=by rw[ho,<- hb]
    split at h
    ·exact xpF hp hρ E ho' hargs h
    ·exact xpI hρ E ho' hargs h
    ·exact did_len hρ E ho' hargs h
   ·split at h
    ·rw[oM]at h;obtain⟨v',h1,h2⟩:=h;cases h2
    ·cases h
   ·split at h
    ·cases h
    ·rw[oM]at h;obtain⟨v',h1,h2⟩:=h;cases h2
    ·cases h
  ·cases h
 case h_23 t=>
  split at h
  ·rename_i ht
   cases h
   exact xmg E ho ht
  ·cases h
 case h_24 t m x ok=>exact xpG hρ E ho h
 case h_25 t m x y=>exact xpH hρ E ho h
 case h_26 t x=>
  split at h
  ·rename_i c d hx hu
   split at h
   ·cases h
   ·rename_i hd
    cases h
    exact xt1 hρ E ho hx hu (by simpa using hd)
  ·cases h
 case h_27=>cases h
end
end Lx
namespace Lx
open Go
theorem xT{H:Heap}{i:Nat}{k:Blk}:blkAt H i=some k↔H[i]? = some (some k):=by
 rw[xH]
 cases h:H[i]? with
 | none=>simp
 | some x=>simp
theorem Blk.win_of{k k':Blk}(h:k.tab=k'.tab):k.win=k'.win:=by unfold Blk.win;rw[h]
theorem Blk.wid_of{k k':Blk}(h:k.tab=k'.tab):k.wid=k'.wid:=by unfold Blk.wid;rw[h]
theorem Blk.virt_of{k k':Blk}(h:k.tab=k'.tab)(h':k.grown=k'.grown):k.virt=k'.virt:=by unfold Blk.virt;rw[h,h']
theorem Blk.mapped_of{k k':Blk}(h:k.tab=k'.tab):k.mapped=k'.mapped:=by unfold Blk.mapped;rw[h]
theorem Lies.like{w:World}{r:Nat×Nat}{k k':Blk}{cs:List Value}(h:Lies w r k' cs)(h1:k.elem=k'.elem)(h2:k.grown=k'.grown)(h3:k.tab=k'.tab):Lies w r k cs:=by
 unfold Lies at h |-
 rw[Blk.virt_of h3 h2,Blk.mapped_of h3,Blk.win_of h3,Blk.wid_of h3,h1,h2];exact h
/-! ### renaming -/
mutual
theorem KR{pv:Value}{e e':Env}{r:Nat->Option Nat}(hr : ∀b b' x,r b=some b'->e[b]? = some x->e'[b']? = some x) : ∀ (c c':C) (v:Value),renC r c=some c'->den pv e c=some v->den pv e' c'=some v
 | .bool b,c',v,h,hv=>by simp only[renC,oI]at h;subst h;simpa[den]using hv
 | .int k n,c',v,h,hv=>by simp only[renC,oI]at h;subst h;simpa[den]using hv
 | .nilp,c',v,h,hv=>by simp only[renC,oI]at h;subst h;simpa[den]using hv
 | .nils,c',v,h,hv=>by simp only[renC,oI]at h;subst h;simpa[den]using hv
 | .nilf,c',v,h,hv=>by simp only[renC,oI]at h;subst h;simpa[den]using hv
 | .nili,c',v,h,hv=>by simp only[renC,oI]at h;subst h;simpa[den]using hv
 | .port,c',v,h,hv=>by simp only[renC,oI]at h;subst h;simpa[den]using hv
 | .mp b,c',v,h,hv=>by
  simp only[renC,oM]at h
  obtain⟨b',hb,rfl⟩:=h
  simp only[den,oM]at hv |-
  obtain⟨x,hx,rfl⟩:=hv
  exact⟨x,hr b b' x hb hx,rfl⟩
 | .ptr b o,c',v,h,hv=>by
  simp only[renC,oM]at h
  obtain⟨b',hb,rfl⟩:=h
  simp only[den]at hv |-
  exact xg (fun x hx=>hr b b' x hb hx) hv
 | .sl b o n m,c',v,h,hv=>by
  simp only[renC,oM]at h
  obtain⟨b',hb,rfl⟩:=h
  simp only[den]at hv |-
  exact xg (fun x hx=>hr b b' x hb hx) hv
 | .slg b o n,c',v,h,hv=>by
  simp only[renC,oM]at h
  obtain⟨b',hb,rfl⟩:=h
  simp only[den]at hv |-
  exact vL (fun x hx=>hr b b' x hb hx) hv
 | .pr b o i n f,c',v,h,hv=>by
  simp only[renC,oM]at h
  obtain⟨b',hb,rfl⟩:=h
  simp only[den]at hv |-
  exact xg (fun x hx=>hr b b' x hb hx) hv
 | .slw b o z n m,c',v,h,hv=>by
  simp only[renC,oM]at h
  obtain⟨b',hb,rfl⟩:=h
  simp only[den]at hv |-
  exact xg (fun x hx=>hr b b' x hb hx) hv
 | .slr b n,c',v,h,hv=>by
  simp only[renC,oM]at h
  obtain⟨b',hb,rfl⟩:=h
  simp only[den]at hv |-
  exact vL (fun x hx=>hr b b' x hb hx) hv
 | .fn f caps,c',v,h,hv=>by
  simp only[renC,oM]at h
  obtain⟨l,hl,rfl⟩:=h
  simp only[den]at hv |-
  exact xg (fun x hx=>ZU hr caps l x hl hx) hv
 | .meth s c,c',v,h,hv=>by
  simp only[renC,oM]at h
  obtain⟨l,hl,rfl⟩:=h
  simp only[den]at hv |-
  exact xg (fun x hx=>KR hr c l x hl hx) hv
 | .ifc t c,c',v,h,hv=>by
  simp only[renC,oM]at h
  obtain⟨l,hl,rfl⟩:=h
  simp only[den]at hv |-
  exact xg (fun x hx=>KR hr c l x hl hx) hv
theorem ZU{pv:Value}{e e':Env}{r:Nat->Option Nat}(hr : ∀b b' x,r b=some b'->e[b]? = some x->e'[b']? = some x) : ∀ (l l':List C) (vs:List Value),vX r l=some l'->denL pv e l=some vs->denL pv e' l'=some vs
 | [],l',vs,h,hv=>by simp only[vX,oI]at h;subst h;simpa[denL]using hv
 | c::l,l',vs,h,hv=>by
  simp only[vX]at h
  split at h
  ·rename_i c' hc
   split at h
   ·rename_i l'' hl
    cases h
    simp only[denL]at hv |-
    split at hv
    ·rename_i v hcv
     split at hv
     ·rename_i us hu
      cases hv
      rw[KR hr c c' v hc hcv,ZU hr l l'' us hl hu]
     ·cases hv
    ·cases hv
   ·cases h
  ·cases h
end
theorem xuX{pv:Value}{e e':Env}{r:Nat->Option Nat}(hr : ∀b b' x,r b=some b'->e[b]? = some x->e'[b']? = some x)(x x':V1)(v:Value)(h:xbX r x=some x')(hv:yD pv e x=some v):yD pv e' x'=some v:=by
 cases x with
 | c a=>
  simp only[xbX,oM]at h
  obtain⟨a',ha,rfl⟩:=h
  exact KR hr a a' v ha hv
 | agg l=>
  simp only[xbX,oM]at h
  obtain⟨a',ha,rfl⟩:=h
  simp only[yD]at hv |-
  exact xg (fun x hx=>ZU hr l a' x ha hx) hv
theorem qR{α β γ δ:Type}{f:α->Option β}{g:α->Option γ}{h:β->Option δ}{j:γ->δ}(hh : ∀x y z,f x=some y->g x=some z->h y=some (j z)) : ∀ (l:List α) (ys:List β) (zs:List γ),allSome f l=some ys->allSome g l=some zs->allSome h ys=some (zs.map j)
 | [],ys,zs,h1,h2=>by
  simp only[allSome,oI]at h1 h2
  subst h1;subst h2;rfl
 | x::l,ys,zs,h1,h2=>by
  simp only[allSome]at h1 h2
  split at h1
  ·rename_i y hy
   split at h1
   ·rename_i ys' hys
    cases h1
    split at h2
    ·rename_i z hz
     split at h2
     ·rename_i zs' hzs
      cases h2
      simp only[allSome,hh x y z hy hz,qR hh l ys' zs' hys hzs,List.map_cons]
     ·cases h2
    ·cases h2
   ·cases h1
  ·cases h1
theorem KS{pv:Value}{e e':Env}{r:Nat->Option Nat}(hr : ∀b b' x,r b=some b'->e[b]? = some x->e'[b']? = some x)(x x':V)(v:Value)(h:renV r x=some x')(hv:denV pv e x=some v):denV pv e' x'=some v:=by
 cases x with
 | c a=>
  simp only[renV,oM]at h
  obtain⟨a',ha,rfl⟩:=h
  exact KR hr a a' v ha hv
 | agg l=>
  simp only[renV,oM]at h
  obtain⟨a',ha,rfl⟩:=h
  simp only[denV]at hv |-
  exact xg (fun x hx=>ZU hr l a' x ha hx) hv
 | tup l=>
  simp only[renV,oM]at h
  obtain⟨l',hl,rfl⟩:=h
  simp only[denV,oM]at hv |-
  obtain⟨vs,h1,h2⟩:=hv
  refine⟨vs,?_,h2⟩
  have:=qR (h:=yD pv e') (j:=id) (fun x y z hy hz=>xuX hr x y z hy hz) l l' vs hl h1
  simpa using this
/-! ### the blocks that values lead to -/
theorem ZV(H:Heap) : ∀ (n:Nat) (todo acc l:List Nat),vB H n todo acc=some l->acc.Nodup->(∀b∈acc,∃k,blkAt H b=some k)->l.Nodup/\(∀b∈l,∃k,blkAt H b=some k)/\ ∃x,l=acc++x
 | n,[],acc,l,h,h1,h2=>by
  have:acc=l:=by cases n<;>simpa[vB]using h
  subst this
  exact⟨h1,h2,[],by simp⟩
 | 0,b::todo,acc,l,h,h1,h2=>by simp[vB]at h
 | n+1,b::todo,acc,l,h,h1,h2=>by
  simp only[vB]at h
  split at h
  ·exact ZV H n todo acc l h h1 h2
  ·rename_i hc
   split at h
   ·rename_i k hk
    have hb:b∉acc:=by simpa using hc
    obtain⟨g1,g2,x,g3⟩:=ZV H n _ (acc ++ [b]) l h (by
     rw[List.nodup_append]
     refine⟨h1,by simp,fun a ha c hc =>?_⟩
     simp only[List.mem_singleton]at hc
     subst hc
     exact fun e=>hb (e▸ha)) (fun c hc=>by
     rcases List.mem_append.1 hc with h|h
     ·exact h2 c h
     ·simp only[List.mem_singleton]at h
      subst h
      exact⟨k,hk⟩)
    exact⟨g1,g2,[b]++x,by rw[g3];simp⟩
   ·cases h
theorem xic{H:Heap}{m:Nat}{todo l:List Nat}(h:xiW H m todo=some l):l.Nodup/\ ∀b∈l,∃k,blkAt H b=some k:=by
 unfold xiW at h
 split at h
 ·rename_i hall
  rw[List.all_eq_true]at hall
  obtain⟨g1,g2,_⟩:=ZV H _ _ _ l h List.nodup_range fun b hb=>Option.isSome_iff_exists.1 (hall b hb)
  exact⟨g1,g2⟩
 ·cases h
theorem KT : ∀ (l:List Nat) (b i:Nat),idx l b=some i->l[i]? = some b
 | [],b,i,h=>by simp[idx]at h
 | x::l,b,i,h=>by
  simp only[idx]at h
  split at h
  ·rename_i hx
   cases h
   simp[hx]
  ·rw[oM]at h
   obtain⟨j,hj,rfl⟩:=h
   simpa using KT l b j hj
theorem yP : ∀ (l:List Nat) (xs:List (Option Blk)) (H:Heap),(vj H l xs).length=H.length
 | [],xs,H=>by simp[vj]
 | b::l,[],H=>by simp[vj]
 | b::l,x::xs,H=>by simp only[vj];rw[yP l xs,yo,List.length_set]
theorem ZW : ∀ (l:List Nat) (xs:List (Option Blk)) (H:Heap) (j:Nat),j∉l->(vj H l xs)[j]? = H[j]?
 | [],xs,H,j,h=>by simp[vj]
 | b::l,[],H,j,h=>by simp[vj]
 | b::l,x::xs,H,j,h=>by
  simp only[List.mem_cons,not_or]at h
  simp only[vj]
  rw[ZW l xs _ j h.2,yo,List.getElem?_set_ne (fun e=>h.1 e.symm)]
theorem xid : ∀ (l:List Nat) (xs:List (Option Blk)) (H:Heap) (i j:Nat) (x:Option Blk),l.Nodup->l[i]? = some j->xs[i]? = some x->j<H.length->(vj H l xs)[j]? = some x
 | [],xs,H,i,j,x,hn,hl,hx,hj=>by simp at hl
 | b::l,[],H,i,j,x,hn,hl,hx,hj=>by simp at hx
 | b::l,y::xs,H,0,j,x,hn,hl,hx,hj=>by
  simp only[List.getElem?_cons_zero,oI]at hl hx
  subst hl;subst hx
  simp only[vj]
  rw[ZW l xs _ b (List.nodup_cons.1 hn).1,yo,List.getElem?_set_self hj]
 | b::l,y::xs,H,i+1,j,x,hn,hl,hx,hj=>by
  simp only[List.getElem?_cons_succ]at hl hx
  simp only[vj]
  exact xid l xs _ i j x (List.nodup_cons.1 hn).2 hl hx (by rw[yo,List.length_set];exact hj)
/-! ### a callee's blocks -/
theorem xie{r:Nat->Option Nat}{x:Option Blk}{k':Blk}(h:renB r x=some (some k')) : ∃k,x=some k/\vX r k.cells=some k'.cells/\k'.elem=k.elem/\k'.grown=k.grown/\k'.tab=k.tab:=by
 cases x with
 | none=>simp[renB]at h
 | some k=>
  simp only[renB,oM,oI]at h
  obtain⟨cs,h1,rfl⟩:=h
  exact⟨k,rfl,h1,rfl,rfl,rfl⟩
theorem xoA{pv:Value}{e e':Env}{r:Nat->Option Nat}(hr : ∀b b' x,r b=some b'->e[b]? = some x->e'[b']? = some x){k k':Blk}(hc:vX r k.cells=some k'.cells)(ht:k'.tab=k.tab){cs:List Value}(h:denL pv e k.real=some cs):denL pv e' k'.real=some cs:=by
 cases hk:k.tab with
 | none=>
  rw[Blk.real_none hk]at h
  rw[Blk.real_none (ht.trans hk)]
  exact ZU hr _ _ _ hc h
 | some t=>
  rw[Blk.real_some hk]at h
  rw[Blk.real_some (ht.trans hk),jM (pv:=pv) (e:=e) (xdT t)]
  exact h
theorem xwY{r:Nat->Option Nat}{k k':Blk}(hc:vX r k.cells=some k'.cells)(ht:k'.tab=k.tab)(hk:k.ok):k'.ok:=by
 intro t h
 rw[hk t (ht.symm.trans h)]at hc
 simp only[vX,oI]at hc
 exact hc.symm
theorem Emb.sub{pv:Value}{e:Env}{H:Heap}{w:World}(E:Emb pv e H w){l:List Nat}(hn:l.Nodup)(hk : ∀b∈l,∃k,blkAt H b=some k){H0:Heap}(h:allSome (fun b=>renB (idx l) (blkAt H b)) l=some H0) :
  ∃e0:Env,e0.length=l.length/\(∀ (i b:Nat),l[i]? = some b->e0[i]? = e[b]?)/\Emb pv e0 H0 w/\ ∀q x,Own q e0 H0 x ->∃i∈l,∃k r,blkAt H i=some k/\e[i]? = some r/\r.1=x/\k.virt=false/\(q=true->k.win=none):=by
 have hl:=xS _ _ _ h
 have hget : ∀ (i b:Nat),l[i]? = some b->(l.map fun b=>(e[b]?).getD (0,0))[i]? = e[b]? :=by
  intro i b hb
  obtain⟨k,hk⟩:=hk b (List.mem_of_getElem? hb)
  obtain⟨r,hr⟩:=E.get hk
  rw[List.getElem?_map,hb,hr]
  simp[hr]
 have hr : ∀b b' x,idx l b=some b'->e[b]? = some x->(l.map fun b=>(e[b]?).getD (0,0))[b']? = some x:=fun b b' x h1 h2=>(hget b' b (KT l b b' h1)).trans h2
 have orig : ∀i k,blkAt H0 i=some k ->∃b k',l[i]? = some b/\blkAt H b=some k'/\vX (idx l) k'.cells=some k.cells/\k.elem=k'.elem/\k.grown=k'.grown/\k.tab=k'.tab:=by
  intro i k hk
  rw[xT]at hk
  have hi:i<l.length:=by rw[<- hl];exact(List.getElem?_eq_some_iff.1 hk).1
  obtain⟨y,h1,h2⟩:=yu _ _ _ h i _ (List.getElem?_eq_getElem hi)
  rw[hk]at h2
  cases h2
  obtain⟨k',h3,h4,h5,h6,h7⟩:=xie h1
  exact⟨l[i],k',List.getElem?_eq_getElem hi,h3,h4,h5,h6,h7⟩
 refine⟨l.map fun b=>(e[b]?).getD (0,0),by simp,hget,⟨by simp[hl],fun i k hk =>?_,fun i j k k' r r' h1 h2 h3 h4 h5 v1 v2 =>?_,fun i k hk =>?_⟩,fun q x hx =>?_⟩
 ·obtain⟨b,k',h1,h2,h3,h4,h5,h6⟩:=orig i k hk
  obtain⟨r,cs,g1,g2,g3⟩:=E.lies b k' h2
  exact⟨r,cs,(hget i b h1).trans g1,xoA hr h3 h6 g2,g3.like h4 h5 h6⟩
 rotate_left
 ·obtain⟨b,k',h1,h2,h3,h4,h5,h6⟩:=orig i k hk
  exact xwY h3 h6 (E.ok b k' h2)
 rotate_right
 ·obtain⟨b,kb,g1,g2,_,_,u1,w1⟩:=orig i k h1
  obtain⟨c,kc,g3,g4,_,_,u2,w2⟩:=orig j k' h2
  rw[Blk.virt_of w1 u1]at v1
  rw[Blk.virt_of w2 u2]at v2
  rw[hget i b g1]at h3
  rw[hget j c g3]at h4
  rcases E.alone b c kb kc r r' g2 g4 h3 h4 h5 v1 v2 with this|hw
  ·subst this
   exact .inl ((List.getElem?_inj (List.getElem?_eq_some_iff.1 g1).1 hn).1 (g1.trans g3.symm))
  ·rw[Blk.win_of w1,Blk.win_of w2];exact .inr hw
 ·obtain⟨i,k,r,h1,h2,h3,hv,h4⟩:=hx
  obtain⟨b,kb,g1,g2,_,_,u3,g3⟩:=orig i k h1
  rw[hget i b g1]at h2
  exact⟨b,List.mem_of_getElem? g1,kb,r,g2,h2,h3,by rw[<- Blk.virt_of g3 u3];exact hv,fun hq=>by rw[<- Blk.win_of g3];exact h4 hq⟩
def SoundF{P:Program}{σ:Type}(I:Port P σ)(f:FuncId)(m:List V->Heap->Option Sum):Prop:=
 (∃fn c,P.funcs[f]? = some fn/\(fn.name == "runtime.NumGoroutine")=false/\fn.body=some c)/\
 ∀args H S,m args H=some S ->∀e w s F vs,Emb I.pv e H w->allSome (denV I.pv e) args=some vs->I.Rep s F w->(∀b,Own false e H b ->¬F b)->
 ∀x v H' s',S.t.run I.step s=some (x,s')->S.f x=some (v,H')->
 Calls P f vs.toArray w fun en w' =>∃e' F' rv,en = .returned rv/\Ext e e'/\denV I.pv e' v=some rv/\Emb I.pv e' H' w'/\I.Rep s' F' w'/\(∀b,Own false e' H' b ->¬F' b)/\
 Keeps (fun b=>Own true e H b\/F b) w w'/\ ∀q b,Own q e' H' b\/F' b->Own q e H b\/F b\/w.heap.size<=b
theorem T.run_bind_some{α β σ:Type}{step:PStep σ}{t:T α}{f:α->T β}{s s':σ}{b:β}(h:(t.bind f).run step s=some (b,s')) : ∃a s1,t.run step s=some (a,s1)/\(f a).run step s1=some (b,s'):=by
 rw[T.run_bind]at h
 split at h
 ·rename_i a s1 hs
  exact⟨a,s1,hs,h⟩
 ·cases h
theorem xrO{P:Program}{σ:Type}(I:Port P σ){Γ:xQ}(hΓ : ∀f m,Γ f=some m->SoundF I f m){f:FuncId}{args:List V}{H:Heap}{S:Sum}(h:kA Γ f args H=some S)
  {e:Env} {w:World} {s s':σ} {F:Nat->Prop} {vs:List Value} (E:Emb I.pv e H w) (hv:allSome (denV I.pv e) args=some vs) (hR:I.Rep s F w) (hF : ∀b,Own false e H b ->¬F b) {v:V} {H':Heap} {x:S.α} (hrun:S.t.run I.step s=some (x,s')) (hfx:S.f x=some (v,H')) :
  (∃fn c,P.funcs[f]? = some fn/\(fn.name == "runtime.NumGoroutine")=false/\fn.body=some c)/\
  Calls P f vs.toArray w fun en w' =>∃e' F' rv,en = .returned rv/\Ext e e'/\denV I.pv e' v=some rv/\Emb I.pv e' H' w'/\I.Rep s' F' w'/\(∀b,Own false e' H' b ->¬F' b)/\
    Keeps (fun b=>Own true e H b\/F b) w w'/\ ∀q b,Own q e' H' b\/F' b->Own q e H b\/F b\/w.heap.size<=b:=by
 unfold kA at h
 split at h
 ·cases h
 ·rename_i m hm
  obtain⟨hbody,hsound⟩:=hΓ f m hm
  refine⟨hbody,?_⟩
  split at h
  ·cases h
  ·rename_i l hl
   obtain⟨hn,hk,_⟩:=ZV H _ _ [] l hl (by simp) (by simp)
   split at h
   ·rename_i args' H0 hargs hH0
    split at h
    ·cases h
    ·rename_i t0 ht0
     cases h
     obtain⟨e0,hlen0,hget0,E0,hown0⟩:=E.sub hn hk hH0
     have hr1:=hrun
     have hr2:=hfx
     have hr : ∀b b' x,idx l b=some b'->e[b]? = some x->e0[b']? = some x:=fun b b' x h1 h2=>(hget0 b' b (KT l b b' h1)).trans h2
     have hargs0:allSome (denV I.pv e0) args'=some vs:=by
      have:=qR (h:=denV I.pv e0) (j:=id) (fun x y z hy hz=>KS hr x y z hy hz) args args' vs hargs hv
      simpa using this
     have own0 : ∀q x,Own q e0 H0 x->Own q e H x:=by
      intro q x hx
      obtain⟨i,hi,k,r,h1,h2,h3,hv,h4⟩:=hown0 q x hx
      exact⟨i,k,r,h1,h2,h3,hv,h4⟩
     simp only at hr2
     split at hr2
     ·cases hr2
     rename_i r0 hr0
     obtain⟨v0,H1⟩:=r0
     simp only at hr2
     split at hr2
     ·rename_i v1 H2 hv1 hH2
      split at hr2
      ·rename_i hle
       simp only[oI,Prod.mk.injEq]at hr2
       obtain⟨rfl,rfl⟩:=hr2
       refine(hsound args' H0 t0 ht0 e0 w s F vs E0 hargs0 hR (fun b hb=>hF b (own0 _ b hb)) x v0 H1 _ hr1 hr0).mono ?_
       rintro en w' ⟨e0',F',rv,hen,⟨xs,hx⟩,hd,E1,hR',hF',hK,hnew⟩
       subst hx
       have hle':=E.len
       have hext:Ext e (e++xs):=⟨xs,rfl⟩
       have hb : ∀i i' y,(fun i=>some (kz l H.length i)) i=some i'->(e0++xs)[i]? = some y->(e++xs)[i']? = some y:=by
        intro i i' y h1 h2
        simp only[oI]at h1
        subst h1
        unfold kz
        split
        ·rename_i hi
         rw[List.getElem?_append_left (by omega)]at h2
         rw[hget0 i l[i] (List.getElem?_eq_getElem hi)]at h2
         rw[List.getD_eq_getElem?_getD,List.getElem?_eq_getElem hi]
         exact hext.get h2
        ·rename_i hi
         rw[List.getElem?_append_right (by omega)]at h2
         rw[List.getElem?_append_right (by omega),<- h2]
         congr 1
         omega
       have hl1:=xS _ _ _ hH2
       have orig : ∀i k,H2[i]? = some (some k) ->∃k',blkAt H1 i=some k'/\vX (fun i=>some (kz l H.length i)) k'.cells=some k.cells/\k.elem=k'.elem/\k.grown=k'.grown/\k.tab=k'.tab:=by
        intro i k hk
        have hi:i<H1.length:=by rw[<- hl1];exact(List.getElem?_eq_some_iff.1 hk).1
        obtain⟨y,h1,h2⟩:=yu _ _ _ hH2 i _ (List.getElem?_eq_getElem hi)
        rw[hk]at h2
        cases h2
        obtain⟨k',h3,h4,h5,h6,h7⟩:=xie h1
        exact⟨k',by rw[xT,List.getElem?_eq_getElem hi,h3],h4,h5,h6,h7⟩
       -- where a block behind the call comes from
       have from_ : ∀j k,blkAt (vj H l H2++H2.drop l.length) j=some k->(j∉l/\blkAt H j=some k)\/ ∃i,kz l H.length i=j/\H2[i]? = some (some k):=by
        intro j k hj
        rw[xT]at hj
        by_cases hjl:j<H.length
        ·rw[List.getElem?_append_left (by rw[yP];exact hjl)]at hj
         by_cases hmem:j∈l
         ·right
          obtain⟨i,hi⟩:=List.getElem?_of_mem hmem
          have hil:=(List.getElem?_eq_some_iff.1 hi).1
          have hi2:i<H2.length:=by omega
          rw[xid l H2 H i j _ hn hi (List.getElem?_eq_getElem hi2) hjl]at hj
          refine⟨i,?_,by rw[List.getElem?_eq_getElem hi2,hj]⟩
          unfold kz
          rw[if_pos hil,List.getD_eq_getElem?_getD,hi]
          rfl
         ·left
          rw[ZW l H2 H j hmem]at hj
          exact⟨hmem,by rw[xT];exact hj⟩
        ·right
         rw[List.getElem?_append_right (by rw[yP];omega),yP,List.getElem?_drop]at hj
         refine⟨l.length+(j-H.length),?_,hj⟩
         unfold kz
         rw[if_neg (by omega)]
         omega
       have away : ∀q j k r,j∉l->blkAt H j=some k->e[j]? = some r->k.virt=false->(q=false->k.win=none) ->¬ (Own q e0 H0 r.1\/F r.1)/\r.1<w.heap.size:=by
        intro q j k r hj hkj hrj hv hq
        refine⟨fun h =>?_,E.own_lt (wQ hkj hrj hv)⟩
        rcases h with h|h
        ·obtain⟨i,hi,k',r',h1,h2,h3,hv',h4⟩:=hown0 _ _ h
         refine hj (E.inj i j k' k r' r h1 hkj h2 hrj h3 hv' hv ?_▸hi)
         cases q with
         | false=>exact .inr (hq rfl)
         | true=>exact .inl (h4 rfl)
        ·exact hF _ (wQ hkj hrj hv) h
       have own1 : ∀q b,Own q (e++xs) (vj H l H2++H2.drop l.length) b->Own q (e0++xs) H1 b\/(∃j k r,j∉l/\blkAt H j=some k/\e[j]? = some r/\r.1=b/\k.virt=false/\(q=true->k.win=none)):=by
        rintro q b ⟨j,k,r,h1,h2,h3,hv,h4⟩
        rcases from_ j k h1 with⟨hj,hkj⟩|⟨i,hi,hki⟩
        ·right
         refine⟨j,k,r,hj,hkj,?_,h3,hv,h4⟩
         have:j<H.length:=(List.getElem?_eq_some_iff.1 (xT.1 hkj)).1
         rwa [List.getElem?_append_left (by omega)]at h2
        ·left
         obtain⟨k',g1,_,_,g4,g5⟩:=orig i k hki
         obtain⟨r',g2⟩:=E1.get g1
         have:=hb i j r' (congrArg some hi) g2
         rw[h2]at this
         cases this
         exact⟨i,k',r,g1,g2,h3,by rw[<- Blk.virt_of g5 g4];exact hv,fun hq=>by rw[<- Blk.win_of g5];exact h4 hq⟩
       refine⟨e++xs,F',rv,hen,hext,KS hb v0 v1 rv hv1 hd,⟨?_,?_,?_,?_⟩,hR',?_,hK.mono (fun b hb=>hb.imp (own0 _ b) id),?_⟩
       ·have:=E1.len
        simp only[List.length_append,yP,List.length_drop]at this |-
        omega
       ·intro j k hj
        rcases from_ j k hj with⟨hjl,hkj⟩|⟨i,hi,hki⟩
        ·obtain⟨r,cs,g1,g2,g3⟩:=E.lies j k hkj
         refine⟨r,cs,hext.get g1,yH hext _ _ g2,g3.same fun hv =>?_⟩
         obtain⟨a1,a2⟩:=away true j k r hjl hkj g1 hv (fun h=>by cases h)
         exact hK.block r.1 a2 a1
        ·obtain⟨k',g1,g2,g3,g4,g5⟩:=orig i k hki
         obtain⟨r,cs,a1,a2,a3⟩:=E1.lies i k' g1
         exact⟨r,cs,hb i j r (congrArg some hi) a1,xoA hb g2 g5 a2,a3.like g3 g4 g5⟩
       ·intro i j k k' r r' h1 h2 h3 h4 h5 v1 v2
        have mixed : ∀i j k k' r r',(i∉l/\blkAt H i=some k)->(∃q,kz l H.length q=j/\H2[q]? = some (some k'))->(e++xs)[i]? = some r->(e++xs)[j]? = some r'->r.1=r'.1->k.virt=false->k'.virt=false->k.win.isSome=true/\k'.win.isSome=true:=by
         rintro i j k k' r r' ⟨h1,h2⟩ ⟨q,h3,h4⟩ h5 h6 h7 v1 v2
         obtain⟨kq,g1,_,_,g4,g5⟩:=orig q k' h4
         obtain⟨rq,g2⟩:=E1.get g1
         have g3:=hb q j rq (congrArg some h3) g2
         rw[h6]at g3
         cases g3
         have:i<H.length:=(List.getElem?_eq_some_iff.1 (xT.1 h2)).1
         rw[List.getElem?_append_left (by omega)]at h5
         have bad : ∀q',(q'=false->k.win=none)->(q'=true->kq.win=none)->False:=by
          intro q' hq1 hq2
          obtain⟨a1,a2⟩:=away q' i k r h1 h2 h5 v1 hq1
          rcases hnew q' r'.1 (.inl ⟨q,kq,r',g1,g2,rfl,by rw[<- Blk.virt_of g5 g4];exact v2,hq2⟩)with h|h|h
          ·exact a1 (.inl (h7▸h))
          ·exact a1 (.inr (h7▸h))
          ·omega
         rw[Blk.win_of g5]
         constructor
         ·cases hk:k.win with
          | some _=>rfl
          | none=>exact(bad false (fun _=>hk) (fun h=>by cases h)).elim
         ·cases hk:kq.win with
          | some _=>rfl
          | none=>exact(bad true (fun h=>by cases h) (fun _=>hk)).elim
        rcases from_ i k h1 with g1|g1<;>rcases from_ j k' h2 with g2|g2
        ·have hi:i<H.length:=(List.getElem?_eq_some_iff.1 (xT.1 g1.2)).1
         have hj:j<H.length:=(List.getElem?_eq_some_iff.1 (xT.1 g2.2)).1
         rw[List.getElem?_append_left (by omega)]at h3 h4
         exact E.alone i j k k' r r' g1.2 g2.2 h3 h4 h5 v1 v2
        ·exact .inr (mixed i j k k' r r' g1 g2 h3 h4 h5 v1 v2)
        ·exact .inr (mixed j i k' k r' r g2 g1 h4 h3 h5.symm v2 v1).symm
        ·obtain⟨p,p1,p2⟩:=g1
         obtain⟨q,q1,q2⟩:=g2
         obtain⟨kp,a1,_,_,u1,w1⟩:=orig p k p2
         obtain⟨kq,b1,_,_,u2,w2⟩:=orig q k' q2
         rw[Blk.virt_of w1 u1]at v1
         rw[Blk.virt_of w2 u2]at v2
         obtain⟨rp,a2⟩:=E1.get a1
         obtain⟨rq,b2⟩:=E1.get b1
         have a3:=hb p i rp (congrArg some p1) a2
         have b3:=hb q j rq (congrArg some q1) b2
         rw[h3]at a3
         rw[h4]at b3
         cases a3;cases b3
         rcases E1.alone p q kp kq r r' a1 b1 a2 b2 h5 v1 v2 with this|this
         ·left;rw[<- p1,<- q1,this]
         ·right;rw[Blk.win_of w1,Blk.win_of w2];exact this
       ·intro j k hj
        rcases from_ j k hj with⟨hjl,hkj⟩|⟨i,hi,hki⟩
        ·exact E.ok j k hkj
        ·obtain⟨k',g1,g2,g3,g4,g5⟩:=orig i k hki
         exact xwY g2 g5 (E1.ok i k' g1)
       ·intro b hb' hf
        rcases own1 _ b hb' with h|⟨j,k,r,h1,h2,h3,rfl,hv,_⟩
        ·exact hF' b h hf
        ·obtain⟨a1,a2⟩:=away true j k r h1 h2 h3 hv (fun h=>by cases h)
         rcases hnew true r.1 (.inr hf)with h|h|h
         ·exact a1 (.inl h)
         ·exact a1 (.inr h)
         ·omega
       ·intro q b hb'
        have fin:(Own q e0 H0 b\/F b\/w.heap.size<=b)->Own q e H b\/F b\/w.heap.size<=b:=fun h=>h.imp (own0 _ b) id
        rcases hb' with hb'|hb'
        ·rcases own1 _ b hb' with h|⟨j,k,r,h1,h2,h3,rfl,hv,h4⟩
         ·exact fin (hnew _ b (.inl h))
         ·exact .inl ⟨j,k,r,h2,h3,rfl,hv,h4⟩
        ·exact fin (hnew _ b (.inr hb'))
      ·cases hr2
     ·cases hr2
   ·cases h
/-! ### calls that leave no further blocks -/
mutual
theorem qa{r r':Nat->Option Nat}(h : ∀i j,r i=some j->r' i=some j) : ∀ (c c':C),renC r c=some c'->renC r' c=some c'
 | .bool b,c',hc=>by simpa[renC]using hc
 | .int k n,c',hc=>by simpa[renC]using hc
 | .nilp,c',hc=>by simpa[renC]using hc
 | .nils,c',hc=>by simpa[renC]using hc
 | .nilf,c',hc=>by simpa[renC]using hc
 | .nili,c',hc=>by simpa[renC]using hc
 | .port,c',hc=>by simpa[renC]using hc
 | .mp b,c',hc=>by simp only[renC]at hc |-;exact xg (fun x hx=>h b x hx) hc
 | .ptr b o,c',hc=>by simp only[renC]at hc |-;exact xg (fun x hx=>h b x hx) hc
 | .sl b o n m,c',hc=>by simp only[renC]at hc |-;exact xg (fun x hx=>h b x hx) hc
 | .slg b o n,c',hc=>by simp only[renC]at hc |-;exact xg (fun x hx=>h b x hx) hc
 | .pr b o i n f,c',hc=>by simp only[renC]at hc |-;exact xg (fun x hx=>h b x hx) hc
 | .slw b o z n m,c',hc=>by simp only[renC]at hc |-;exact xg (fun x hx=>h b x hx) hc
 | .slr b n,c',hc=>by simp only[renC]at hc |-;exact xg (fun x hx=>h b x hx) hc
 | .fn f caps,c',hc=>by simp only[renC]at hc |-;exact xg (fun x hx=>kV h caps x hx) hc
 | .meth s c,c',hc=>by simp only[renC]at hc |-;exact xg (fun x hx=>qa h c x hx) hc
 | .ifc t c,c',hc=>by simp only[renC]at hc |-;exact xg (fun x hx=>qa h c x hx) hc
theorem kV{r r':Nat->Option Nat}(h : ∀i j,r i=some j->r' i=some j) : ∀ (l l':List C),vX r l=some l'->vX r' l=some l'
 | [],l',hl=>by simpa[vX]using hl
 | c::l,l',hl=>by
  simp only[vX]at hl |-
  split at hl
  ·rename_i c' hc
   split at hl
   ·rename_i l2 hl2
    cases hl
    rw[qa h c c' hc,kV h l l2 hl2]
   ·cases hl
  ·cases hl
end
theorem xrP{r r':Nat->Option Nat}(h : ∀i j,r i=some j->r' i=some j)(x x':V1)(hx:xbX r x=some x'):xbX r' x=some x':=by
 cases x with
 | c a=>simp only[xbX]at hx |-;exact xg (fun y hy=>qa h a y hy) hx
 | agg l=>simp only[xbX]at hx |-;exact xg (fun y hy=>kV h l y hy) hx
theorem xuY{r r':Nat->Option Nat}(h : ∀i j,r i=some j->r' i=some j)(x x':V)(hx:renV r x=some x'):renV r' x=some x':=by
 cases x with
 | c a=>simp only[renV]at hx |-;exact xg (fun y hy=>qa h a y hy) hx
 | agg l=>simp only[renV]at hx |-;exact xg (fun y hy=>kV h l y hy) hx
 | tup l=>simp only[renV]at hx |-;exact xg (fun y hy=>wP (fun a b hab=>xrP h a b hab) l y hy) hx
theorem xuZ{r r':Nat->Option Nat}(h : ∀i j,r i=some j->r' i=some j)(x:Option Blk)(y:Option Blk)(hx:renB r x=some y):renB r' x=some y:=by
 cases x with
 | none=>simpa[renB]using hx
 | some k=>simp only[renB]at hx |-;exact xg (fun y hy=>kV h k.cells y hy) hx
theorem xrQ{Γ:xQ}{A:List Nat}{f:FuncId}{args:List V}{H:Heap}{S:Sum}(h:vq Γ A f args H=some S) : ∃f2,kA Γ f args H=some ⟨S.α,S.t,f2,S.b,S.hb⟩/\ ∀x q,S.f x=some q->f2 x=some q:=by
 unfold vq at h
 unfold kA
 split at h
 ·cases h
 ·rename_i m hm
  split at h
  ·cases h
  ·rename_i l hl
   split at h
   ·cases h
   ·split at h
    ·rename_i args' H0 h1 h2
     split at h
     ·cases h
     ·rename_i S0 hS0
      cases h
      simp only[hm,hl,h1,h2,hS0]
      refine⟨_,rfl,fun x q hq =>?_⟩
      split at hq
      ·cases hq
      ·rename_i r hr
       split at hq
       ·rename_i v H1 hv hH1
        split at hq
        ·rename_i hlen
         cases hq
         have hsub : ∀i j,l[i]? = some j->(fun i=>some (kz l H.length i)) i=some j:=by
          intro i j hij
          have hi:=(List.getElem?_eq_some_iff.1 hij).1
          simp only[kz,if_pos hi,List.getD_eq_getElem?_getD,hij,Option.getD_some]
         rw[xuY hsub _ _ hv,wP (fun a b hab=>xuZ hsub a b hab) _ _ hH1]
         simp only[hlen,Nat.le_refl,if_true]
         rw[<- hlen,List.drop_length,List.append_nil]
        ·cases hq
       ·cases hq
    ·cases h
end Lx
namespace Lx
open Go
structure Rel(pv:Value)(e:Env)(st:St)(a:Act)(w:World):Prop where
 emb:Emb pv e st.heap w
 len:st.tmps.n<=a.tmps.size
 tmps : ∀ (t:Nat) v,getT st.tmps t=some v ->∃rv,a.tmps[t]? = some rv/\denV pv e v=some rv
 defers:a.defers = []
structure Cfg{P:Program}{σ:Type}(I:Port P σ)(S0:Bool->Nat->Prop)(w0:World)(e0 e:Env)(st:St)(s:σ)(F:Nat->Prop)(a:Act)(w:World):Prop where
 rel:Rel I.pv e st a w
 rep:I.Rep s F w
 disj : ∀b,Own false e st.heap b ->¬F b
 keeps:Keeps (S0 true) w0 w
 mine : ∀q b,Own q e st.heap b\/F b->S0 q b\/w0.heap.size<=b
 ext:Ext e0 e
section
variable{P:Program}{σ:Type}{I:Port P σ}{Γ:xQ}{S0:Bool->Nat->Prop}{w0:World}{e0:Env}{e:Env}{st:St}{s:σ}{F:Nat->Prop}{a:Act}{w:World}
theorem Rel.says{pv:Value}(R:Rel pv e st a w):Says pv e (xO st.tmps) a.eval:=by
 intro x v h
 cases x with
 | tmp t=>
  obtain⟨rv,h1,h2⟩:=R.tmps t v h
  simp only[Act.eval]
  rw[h2,Array.getD_eq_getD_getElem?,h1]
  rfl
 | const c=>exact xdS h
 | global g=>simp[xO]at h
 | func f=>
  simp only[xO,oI]at h
  subst h
  simp[denV,den,denL,Act.eval]
theorem xbC{l:Tm}{d:Nat}{v:V}(h:getT l d=some v):setT l d v=l:=by
 obtain⟨h1,h2⟩:=we h
 unfold setT
 rw[blt_eq]
 simp only[h1,decide_true,cond_true,xar 9 l.s d v h2]
theorem xcl(l:Tm)(dst:Option Tmp)(v:V):(putT l dst v).n=l.n:=by
 cases dst<;>simp[putT,xpy]
theorem ZX(a:Act)(dst:Option Tmp)(v:Value):(a.put dst v).tmps.size=a.tmps.size:=by
 cases dst<;>simp[Act.put]
theorem Rel.put{pv:Value}{e':Env}{H':Heap}{w':World}{v:V}{rv:Value}(R:Rel pv e st a w)(hx:Ext e e')(E:Emb pv e' H' w')(hv:denV pv e' v=some rv)(dst:Option Tmp):Rel pv e' ⟨putT st.tmps dst v,H'⟩ (a.put dst rv) w':=by
 refine⟨E,by rw[xcl,ZX];exact R.len,fun t u h =>?_,by cases dst<;>exact R.defers⟩
 cases dst with
 | none=>
  obtain⟨r,h1,h2⟩:=R.tmps t u h
  exact⟨r,h1,Vv hx _ _ h2⟩
 | some d=>
  simp only[putT]at h
  simp only[Act.put]
  by_cases hdt:d=t
  ·subst hdt
   obtain⟨hd,rfl⟩:=wO h
   refine⟨rv,?_,hv⟩
   have:=R.len
   rw[Array.getElem?_setIfInBounds_self_of_lt (by omega)]
  ·rw[yt _ _ (fun hh=>hdt hh.symm)]at h
   obtain⟨r,h1,h2⟩:=R.tmps t u h
   refine⟨r,?_,Vv hx _ _ h2⟩
   rw[Array.getElem?_setIfInBounds_ne hdt]
   exact h1
theorem Cfg.did{e':Env}{H':Heap}{w':World}{v:V}{rv:Value}(C:Cfg I S0 w0 e0 e st s F a w)(hx:Ext e e')(hv:denV I.pv e' v=some rv)(E:Emb I.pv e' H' w')(hK:Keeps (Own true e st.heap) w w')(hn : ∀q b,Own q e' H' b->Own q e st.heap b\/w.heap.size<=b)(dst:Option Tmp) :
  Cfg I S0 w0 e0 e' ⟨putT st.tmps dst v,H'⟩ s F (a.put dst rv) w':=by
 refine⟨C.rel.put hx E hv dst,I.stable C.rep fun b hb=>hK.block b (I.lt C.rep b hb) fun h=>C.disj b h.weak hb,fun b hb hf =>?_,C.keeps.trans hK fun b hb=>C.mine _ b (.inl hb),fun q b hb =>?_,C.ext.trans hx⟩
 ·rcases hn _ b hb with h|h
  ·exact C.disj b h hf
  ·have:=I.lt C.rep b hf;omega
 ·rcases hb with hb|hb
  ·rcases hn _ b hb with h|h
   ·exact C.mine _ b (.inl h)
   ·right
    have:=C.keeps.size
    omega
  ·exact C.mine _ b (.inr hb)
theorem Cfg.called{e':Env}{H':Heap}{w':World}{F':Nat->Prop}{s':σ}{v:V}{rv:Value}(C:Cfg I S0 w0 e0 e st s F a w)(hx:Ext e e')(hv:denV I.pv e' v=some rv)(E:Emb I.pv e' H' w')(hR:I.Rep s' F' w')(hd : ∀b,Own false e' H' b ->¬F' b)
  (hK:Keeps (fun b=>Own true e st.heap b\/F b) w w') (hn : ∀q b,Own q e' H' b\/F' b->Own q e st.heap b\/F b\/w.heap.size<=b) (dst:Option Tmp):Cfg I S0 w0 e0 e' ⟨putT st.tmps dst v,H'⟩ s' F' (a.put dst rv) w':=by
 refine⟨C.rel.put hx E hv dst,hR,hd,C.keeps.trans hK fun b hb=>C.mine _ b hb,fun q b hb =>?_,C.ext.trans hx⟩
 rcases hn _ b hb with h|h|h
 ·exact C.mine _ b (.inl h)
 ·exact C.mine _ b (.inr h)
 ·right
  have:=C.keeps.size
  omega
theorem ZY{α β:Type}{f:α->Option β} : ∀ {l l':List α} {r r':List β},allSome f l=some r->allSome f l'=some r'->allSome f (l++l')=some (r++r')
 | [],l',r,r',h,h'=>by simp only[allSome,oI]at h;subst h;exact h'
 | x::l,l',r,r',h,h'=>by
  simp only[allSome]at h
  split at h
  ·rename_i y hy
   split at h
   ·rename_i ys hys
    cases h
    simp only[List.cons_append,allSome,hy,ZY hys h']
   ·cases h
  ·cases h
theorem xif{pv:Value}{e:Env} : ∀ {cs:List C} {rs:List Value},denL pv e cs=some rs->allSome (denV pv e) (cs.map .c)=some rs
 | [],rs,h=>by simp only[denL,oI]at h;subst h;rfl
 | c::cs,rs,h=>by
  simp only[denL]at h
  split at h
  ·rename_i v hv
   split at h
   ·rename_i us hu
    cases h
    simp only[List.map_cons,allSome,denV,hv,xif hu]
   ·cases h
  ·cases h
theorem xig{pv:Value}{ρ:Operand->Option V}{ra:Operand->Value}{o:Oper}{H:Heap}{f:FuncId}{args:List V}(hρ:Says pv e ρ ra)(h:xf P o.op ρ H=some (.call f args))
  (hb : ∃fn c,P.funcs[f]? = some fn/\(fn.name == "runtime.NumGoroutine")=false/\fn.body=some c) :
  ∃vs,allSome (denV pv e) args=some vs/\(execOp ra o).run P w = .ok (.enter f vs.toArray) w:=by
 generalize ho:o.op=op at h
 obtain⟨fn,c,hf1,hf2,hf3⟩:=hb
 unfold xf at h
 split at h
 case h_22 c=>
  split at h
  ·rename_i vs hvs
   split at h
   ·rename_i b hb
    exfalso
    split at h
    ·obtain⟨_,_,_,h2⟩:=VB h;cases h2
    ·unfold Zq at h;(repeat' (split at h))<;>cases h
    ·unfold yg at h
     split at h
     ·split at h<;>cases h
     ·cases h
     ·cases h
     ·cases h
   ·split at h
    ·rw[oM]at h;obtain⟨_,_,h2⟩:=h;cases h2
    ·cases h
   ·rename_i g hg
    split at h
    ·rename_i f' caps hcap
     cases h
     have h1:=kD hρ _ _ hvs
     have h2:=hρ g _ hcap
     simp only[denV,den,oM]at h2
     obtain⟨rs,h3,h4⟩:=h2
     refine⟨_,ZY h1 (xif h3),?_⟩
     simp only[execOp,ho,resolve,hg,<- h4,Deferred.ofValue,Sem.run_bind,Sem.run_pure,Result.andThen_ok,invoke,callFunc,program,Sem.run,hf1,hf2,hf3]
     simp
    ·rw[oM]at h;obtain⟨_,_,h2⟩:=h;cases h2
    ·cases h
  ·cases h
 all_goals
  exfalso
  (try unfold Zo at h);(try unfold Zp at h);(repeat' (split at h))<;>first
   | cases h
   | (rw[oM]at h;obtain⟨_,_,h2⟩:=h;cases h2)
theorem xu0{pv:Value}{e:Env}{c:C}(h:yl c=true):den pv e c=den pv [] c:=by
 cases c<;>first|rfl|cases h
theorem xoB{pv:Value}{e:Env} : ∀ {l:List C} {vs:List Value},l.all yl=true->denL pv e l=some vs->denL pv [] l=some vs
 | [],vs,h,hv=>hv
 | c::l,vs,h,hv=>by
  simp only[List.all_cons,Bool.and_eq_true]at h
  simp only[denL]at hv |-
  split at hv
  ·rename_i v hc
   split at hv
   ·rename_i us hu
    cases hv
    rw[xoB h.2 hu,<- xu0 (e:=e) h.1,hc]
   ·cases hv
  ·cases hv
theorem xoC{pv:Value}{e:Env}{name:String}{args:List V}{p:POp}{vs:List Value}(h:popOf name args=some p)(hv:allSome (denV pv e) args=some vs):allSome (denV pv []) args=some vs:=by
 unfold popOf at h
 split at h
 ·exact hv
 ·exact hv
 ·exact hv
 ·exact hv
 ·exact hv
 ·split at h
  ·split at h
   ·rename_i l _ hl
    simp only[allSome,denV]at hv |-
    cases hd:denL pv e l with
    | none=>rw[hd]at hv;simp at hv
    | some us=>rw[xoB hl hd];rw[hd]at hv;exact hv
   ·cases h
  ·cases h
 ·cases h
theorem xu1{ρ:Operand->Option V}{ra:Operand->Value}{o:Oper}{H:Heap}{p:POp}(hρ:Says I.pv e ρ ra)(h:xf P o.op ρ H=some (.port p)) :
  ∃name args vs,popOf name args=some p/\allSome (denV I.pv []) args=some vs/\(execOp ra o).run P w=(callMethod I.pv name vs.toArray).run P w:=by
 generalize ho:o.op=op at h
 unfold xf at h
 split at h
 case h_22 c=>
  split at h
  ·rename_i vs hvs
   have h1:=kD hρ _ _ hvs
   have h0:(c.args.map ra)=(c.args.toList.map ra).toArray:=by rw[<- Array.toList_map]
   split at h
   ·rename_i b hb
    exfalso
    split at h
    ·obtain⟨_,_,_,h2⟩:=VB h;cases h2
    ·unfold Zq at h;(repeat' (split at h))<;>cases h
    ·unfold yg at h
     split at h
     ·split at h<;>cases h
     ·cases h
     ·cases h
     ·cases h
   ·rename_i r name hg
    split at h
    ·rename_i hr
     rw[oM]at h;obtain⟨q,h2,h3⟩:=h;cases h3
     have h4:=hρ r _ hr
     simp only[denV,den,oI]at h4
     refine⟨name,vs,_,h2,xoC h2 h1,?_⟩
     simp only[execOp,ho,resolve,hg,<- h4,Sem.run_bind,Sem.run_pure,Result.andThen_ok,invoke]
     simp only[h0,List.append_toArray,List.singleton_append,List.getElem?_toArray,List.getElem?_cons_zero,List.extract_toArray,List.size_toArray,List.length_cons,List.extract_eq_take_drop,List.drop_succ_cons,List.drop_zero]
     rw[List.take_of_length_le (by simp)]
    ·cases h
   ·rename_i g hg
    split at h
    ·cases h
    ·rename_i name hr
     rw[oM]at h;obtain⟨q,h2,h3⟩:=h;cases h3
     have h4:=hρ g _ hr
     simp only[denV,den,Option.map_some,oI]at h4
     refine⟨name,vs,_,h2,xoC h2 h1,?_⟩
     simp only[execOp,ho,resolve,hg,<- h4,Deferred.ofValue,Sem.run_bind,Sem.run_pure,Result.andThen_ok,invoke]
     simp only[h0,List.append_toArray,List.singleton_append,List.getElem?_toArray,List.getElem?_cons_zero,List.extract_toArray,List.size_toArray,List.length_cons,List.extract_eq_take_drop,List.drop_succ_cons,List.drop_zero]
     rw[List.take_of_length_le (by simp)]
    ·cases h
  ·cases h
 all_goals
  exfalso
  (try unfold Zo at h);(try unfold Zp at h);(repeat' (split at h))<;>first
   | cases h
   | (rw[oM]at h;obtain⟨_,_,h2⟩:=h;cases h2)
/-! ### one operation -/
theorem Flat.ext{pv:Value}{v:V}{rv:Value}(h:Flat pv v rv)(e:Env):denV pv e v=some rv:=h e
mutual
theorem kW{pv:Value}{e:Env} : ∀ (c:C),idsC c = []->den pv e c=den pv [] c
 | .bool b,h=>rfl
 | .int k n,h=>rfl
 | .nilp,h=>rfl
 | .ptr b o,h=>by simp[idsC]at h
 | .nils,h=>rfl
 | .sl b o n c,h=>by simp[idsC]at h
 | .slg b o n,h=>by simp[idsC]at h
 | .pr b o i n f,h=>by simp[idsC]at h
 | .slw b o z n c,h=>by simp[idsC]at h
 | .slr b n,h=>by simp[idsC]at h
 | .fn f caps,h=>by simp only[idsC]at h;simp only[den,js caps h]
 | .meth s c,h=>by simp only[idsC]at h;simp only[den,kW c h]
 | .nilf,h=>rfl
 | .nili,h=>rfl
 | .port,h=>rfl
 | .mp b,h=>by simp[idsC]at h
 | .ifc t c,h=>by simp only[idsC]at h;simp only[den,kW c h]
theorem js{pv:Value}{e:Env} : ∀ (l:List C),yF l = []->denL pv e l=denL pv [] l
 | [],h=>rfl
 | c::l,h=>by
  simp only[yF,List.append_eq_nil_iff]at h
  simp only[denL,kW c h.1,js l h.2]
end
theorem xlm{pv:Value}{e:Env}(x:V1)(h:xsS x = []):yD pv e x=yD pv [] x:=by
 cases x with
 | c a=>exact kW a h
 | agg l=>simp only[yD,js l h]
theorem allSome_congr{α β:Type}{f g:α->Option β} : ∀ {l:List α},(∀x∈l,f x=g x)->allSome f l=allSome g l
 | [],h=>rfl
 | x::l,h=>by simp only[allSome,h x (by simp),allSome_congr (l:=l) fun y hy=>h y (by simp[hy])]
theorem ZZ{pv:Value}{e:Env}(x:V)(h:idsV x = []):denV pv e x=denV pv [] x:=by
 cases x with
 | c a=>exact kW a h
 | agg l=>simp only[denV,js l h]
 | tup l=>
  simp only[idsV,List.flatMap_eq_nil_iff]at h
  simp only[denV,allSome_congr fun y hy=>xlm y (h y hy)]
theorem xln(pv:Value)(w:World):Emb pv [] [] w:=⟨rfl,fun i k h=>by simp[blkAt]at h,fun i j k k' r r' h=>by simp[blkAt]at h,fun i k h=>by simp[blkAt]at h⟩
theorem wX{q:Bool}(b:Nat) : ¬Own q [] [] b:=by rintro ⟨i,k,r,h,_⟩;simp[blkAt]at h
theorem xrR(hΓ : ∀f m,Γ f=some m->SoundF I f m){f:FuncId}{args:List V}{S:Sum}(h:We Γ f args=some S){vs:List Value}{s':σ}(hv:allSome (denV I.pv e) args=some vs)(hR:I.Rep s F w){v:V}{H':Heap}{x:S.α}(hrun:S.t.run I.step s=some (x,s'))(hfx:S.f x=some (v,H')) :
  (∃fn c,P.funcs[f]? = some fn/\(fn.name == "runtime.NumGoroutine")=false/\fn.body=some c)/\H' = []/\idsV v = []/\
  Calls P f vs.toArray w fun en w' =>∃F' rv,en = .returned rv/\Flat I.pv v rv/\I.Rep s' F' w'/\Keeps F w w'/\ ∀b,F' b->F b\/w.heap.size<=b:=by
 unfold We at h
 split at h
 ·cases h
 ·rename_i hids
  split at h
  ·cases h
  ·rename_i m hm
   obtain⟨hbody,hsound⟩:=hΓ f m hm
   split at h
   ·cases h
   ·rename_i t0 ht0
    cases h
    have hr1:=hrun
    have hr2:=hfx
    simp only at hr2
    split at hr2
    ·cases hr2
    rename_i r0 hr0
    obtain⟨v0,H1⟩:=r0
    simp only at hr2
    split at hr2
    ·rename_i hv0
     simp only[oI,Prod.mk.injEq]at hr2
     obtain⟨rfl,rfl⟩:=hr2
     refine⟨hbody,rfl,hv0,?_⟩
     have hv':allSome (denV I.pv []) args=some vs:=by
      rw[<- hv]
      rw[List.flatMap_eq_nil_iff]at hids
      exact(allSome_congr fun x hx=>ZZ x (hids x hx)).symm
     refine(hsound args [] t0 ht0 [] w s F vs (xln _ _) hv' hR (fun b hb=>(wX b hb).elim) x v0 [] _ hr1 hr0).mono ?_
     rintro en w' ⟨e',F',rv,h1,h2,h3,h4,h5,h6,h7,h8⟩
     refine⟨F',rv,h1,fun e =>?_,h5,h7.mono fun b hb=>hb.resolve_left (wX b),fun b hb =>?_⟩
     ·rw[ZZ v0 hv0,<- ZZ (e:=e') v0 hv0]
      exact h3
     ·rcases h8 true b (.inr hb)with h|h
      ·exact(wX b h).elim
      ·exact h
    ·cases hr2
theorem xcm(hΓ : ∀f m,Γ f=some m->SoundF I f m){β:Type}{pu:PM}{o:Oper}{k:St->T β}{r:β×σ}(C:Cfg I S0 w0 e0 e st s F a w)(h:(vH P Γ pu o st k).run I.step s=some r) :
  ∃st' s',(k st').run I.step s'=some r/\(vH P Γ pu o st T.ret).run I.step s=some (st',s')/\
   ∀K Q,(∀e' F' a' w',(∃rv,a'=a.put o.dst rv)->Cfg I S0 w0 e0 e' st' s' F' a' w'->K a' w')->o.wp P a w K Q:=by
 have hρ:=C.rel.says
 have E:=C.rel.emb
 unfold vH at h
 split at h
 ·rename_i g v H' hev
  cases g
  ·simp[T.run]at h
  ·refine⟨⟨putT st.tmps o.dst v,H'⟩,s,h,by simp only[vH,hev,cond_true,T.run],fun K Q hK =>?_⟩
   obtain⟨nx,w',e',rv,h1,h2,h3,h4,h5,h6,h7⟩:=xwX I hρ E hev
   have C':=C.did h3 h4 h5 h6 h7 o.dst
   unfold Oper.wp
   rw[h1]
   rcases h2 with rfl|⟨rfl,rfl⟩
   ·exact hK _ _ _ _ ⟨_,rfl⟩ C'
   ·exact hK _ _ _ _ ⟨_,rfl⟩ C'
 ·rename_i p hev
  simp only[T.run]at h
  split at h
  ·rename_i x s1 hstep
   refine⟨⟨putT st.tmps o.dst (ansV p x),st.heap⟩,s1,h,by simp only[vH,hev,T.run,hstep],fun K Q hK =>?_⟩
   obtain⟨name,args,vs,h1,h2,h3⟩:=xu1 (w:=w) hρ hev
   obtain⟨f,recv,rv,h4,h5,h6⟩:=I.does h1 hstep h2 C.rep
   unfold Oper.wp
   rw[h3,h4]
   rw[Oper.upon_enter]
   refine h6.mono ?_
   rintro en w' ⟨rfl,F',h7,h8,h9⟩
   refine hK e F' _ _ ⟨_,rfl⟩ (C.called (Ext.refl e) (h5 e) (E.ofSame fun b hb=>h8.block b (E.own_lt hb) fun hf=>C.disj b hb hf) h7 (fun b hb hf =>?_) (h8.mono fun b hb =>.inr hb) (fun q b hb =>?_) o.dst)
   ·rcases h9 b hf with h|h
    ·exact C.disj b hb h
    ·have:=E.own_lt hb;omega
   ·rcases hb with hb|hb
    ·exact .inl hb
    ·exact .inr (h9 b hb)
  ·cases h
 ·rename_i f args hev
  have main : ∀ (st1:T β),st1=je Γ f args o st k->st1.run I.step s=some r->
    (∃st' s',(k st').run I.step s'=some r/\(je Γ f args o st T.ret).run I.step s=some (st',s')/\
     ∀K Q,(∀e' F' a' w',(∃rv,a'=a.put o.dst rv)->Cfg I S0 w0 e0 e' st' s' F' a' w'->K a' w')->o.wp P a w K Q):=by
   intro st1 hst h
   subst hst
   unfold je at h
   split at h
   ·rename_i t ht
    rw[t.hb]at h
    obtain⟨x,s1,h1,h2⟩:=T.run_bind_some h
    split at h2
    rotate_left
    ·cases h2
    rename_i r0 hfx
    obtain⟨v,H'⟩:=r0
    simp only at h2
    refine⟨⟨putT st.tmps o.dst v,H'⟩,s1,h2,by simp only[je,ht,t.hb,T.run_bind,h1,hfx,T.run],fun K Q hK =>?_⟩
    have hbody : ∃fn c,P.funcs[f]? = some fn/\(fn.name == "runtime.NumGoroutine")=false/\fn.body=some c:=by
     unfold kA at ht
     split at ht
     ·cases ht
     ·exact(hΓ f _ ‹_›).1
    obtain⟨vs,g1,g2⟩:=xig (w:=w) hρ hev hbody
    obtain⟨_,hcall⟩:=xrO I hΓ ht E g1 C.rep C.disj h1 hfx
    unfold Oper.wp
    rw[g2,Oper.upon_enter]
    refine hcall.mono ?_
    rintro en w' ⟨e',F',rv,rfl,h3,h4,h5,h6,h7,h8,h9⟩
    exact hK _ _ _ _ ⟨_,rfl⟩ (C.called h3 h4 h5 h6 h7 h8 h9 o.dst)
   ·cases h
  cases pu
  ·simp only at h
   obtain⟨st',s',g1,g2,g3⟩:=main _ rfl h
   exact⟨st',s',g1,by simp only[vH,hev];exact g2,g3⟩
  ·simp only at h
   split at h
   ·rename_i t ht
    rw[t.hb]at h
    obtain⟨x,s1,h1,h2⟩:=T.run_bind_some h
    split at h2
    rotate_left
    ·cases h2
    rename_i r0 hfx
    obtain⟨v,H'⟩:=r0
    simp only at h2
    refine⟨⟨putT st.tmps o.dst v,st.heap⟩,s1,h2,by simp only[vH,hev,ht,t.hb,T.run_bind,h1,hfx,T.run],fun K Q hK =>?_⟩
    have hbody : ∃fn c,P.funcs[f]? = some fn/\(fn.name == "runtime.NumGoroutine")=false/\fn.body=some c:=by
     unfold We at ht
     split at ht
     ·cases ht
     ·split at ht
      ·cases ht
      ·exact(hΓ f _ ‹_›).1
    obtain⟨vs,g1,g2⟩:=xig (w:=w) hρ hev hbody
    obtain⟨_,_,_,hcall⟩:=xrR hΓ ht g1 C.rep h1 hfx
    unfold Oper.wp
    rw[g2,Oper.upon_enter]
    refine hcall.mono ?_
    rintro en w' ⟨F',rv,rfl,h5,h7,h8,h9⟩
    refine hK e F' _ _ ⟨_,rfl⟩ (C.called (Ext.refl e) (h5 e) (E.ofSame fun b hb=>h8.block b (E.own_lt hb) fun hf=>C.disj b hb hf) h7 (fun b hb hf =>?_) (h8.mono fun b hb =>.inr hb) (fun q b hb =>?_) o.dst)
    ·rcases h9 b hf with h|h
     ·exact C.disj b hb h
     ·have:=E.own_lt hb;omega
    ·rcases hb with hb|hb
     ·exact .inl hb
     ·exact .inr (h9 b hb)
   ·cases h
  ·rename_i A
   simp only at h
   split at h
   ·rename_i hav
    obtain⟨st',s',g1,g2,g3⟩:=main _ rfl h
    exact⟨st',s',g1,by simp only[vH,hev,hav];exact g2,g3⟩
   ·cases h
  ·rename_i A
   simp only at h
   split at h
   ·rename_i t ht
    rw[t.hb]at h
    obtain⟨x,s1,h1,h2⟩:=T.run_bind_some h
    split at h2
    rotate_left
    ·cases h2
    rename_i r0 hfx
    obtain⟨f2,hc,hf⟩:=xrQ ht
    have hfx2:=hf x r0 hfx
    obtain⟨st',s',g1,g2,g3⟩:=main (je Γ f args o st k) rfl (by simp only[je,hc,t.hb,T.run_bind,h1,hfx2];exact h2)
    simp only[je,hc,t.hb,T.run_bind,h1,hfx2,T.run,oI,Prod.mk.injEq]at g2
    obtain⟨rfl,rfl⟩:=g2
    exact⟨_,_,g1,by simp only[vH,hev,ht,t.hb,T.run_bind,h1,hfx,T.run],g3⟩
   ·cases h
 ·cases h
end
end Lx
namespace Lx
open Go
section
variable{P:Program}{σ:Type}{I:Port P σ}{Γ:xQ}{S0:Bool->Nat->Prop}{w0:World}{e0:Env}{e:Env}{st:St}{s:σ}{F:Nat->Prop}{a:Act}{w:World}{ops:Array Oper}
def jF(P:Program)(ops:Array Oper)(Q:Exit->Act->World->Prop)(o:Oper)(K:Act->World->Prop)(a:Act)(w:World):Prop:=
 if Region.wanted o (yielded ops a.tmps)then o.wp P a w K Q else K (a.put o.dst undef) w
theorem Cfg.skip(C:Cfg I S0 w0 e0 e st s F a w)(dst:Option Tmp):Cfg I S0 w0 e0 e ⟨putT st.tmps dst .undef,st.heap⟩ s F (a.put dst undef) w:=
 C.did (Ext.refl e) rfl C.rel.emb (Keeps.refl _ w) (fun _ _ h =>.inl h) dst
theorem Wa(hΓ : ∀f m,Γ f=some m->SoundF I f m){β:Type}{pu:PM}{o:Oper}{k:St->T β}{r:β×σ}(C:Cfg I S0 w0 e0 e st s F a w)(h:(yO P Γ ops pu o st k).run I.step s=some r) :
  ∃st' s',(k st').run I.step s'=some r/\(yO P Γ ops pu o st T.ret).run I.step s=some (st',s')/\
   ∀K Q,(∀e' F' a' w',(∃rv,a'=a.put o.dst rv)->Cfg I S0 w0 e0 e' st' s' F' a' w'->K a' w')->jF P ops Q o K a w:=by
 unfold yO at h
 split at h
 ·rename_i hg
  obtain⟨st',s',h1,h2,h3⟩:=xcm hΓ C h
  refine⟨st',s',h1,by simp only[yO,hg];exact h2,fun K Q hK =>?_⟩
  unfold jF
  rw[if_pos (by simp[Region.wanted,hg])]
  exact h3 K Q hK
 ·rename_i j want hg
  split at h
  ·cases h
  ·rename_i sl hsl
   have hy : ∀rv,a.tmps[sl]? = some rv->yielded ops a.tmps j=match rv with | .bool b=>some b|_=>none:=by
    intro rv hrv
    unfold yielded
    rw[hsl]
    simp only[Option.bind_some,hrv]
    cases rv<;>rfl
   have skipped : ∀ (b:Option Bool),yielded ops a.tmps j=b->b≠some want ->∀K Q,(∀e' F' a' w',(∃rv,a'=a.put o.dst rv)->Cfg I S0 w0 e0 e' ⟨putT st.tmps o.dst .undef,st.heap⟩ s F' a' w'->K a' w')->jF P ops Q o K a w:=by
    intro b hb hne K Q hK
    unfold jF
    rw[if_neg (by simp only[Region.wanted,hg,hb];simpa using hne)]
    exact hK _ _ _ _ ⟨_,rfl⟩ (C.skip o.dst)
   split at h
   ·rename_i b hb
    obtain⟨rv,h1,h2⟩:=C.rel.tmps sl _ hb
    simp only[denV,den,oI]at h2
    subst h2
    have hyb:=hy _ h1
    simp only at hyb
    have e1 : ∀b',b'=b->(⟨setT st.tmps sl (.c (.bool b')),st.heap⟩:St)=st:=by
     rintro b' rfl
     rw[xbC hb]
    have he:(yO P Γ ops pu o st (T.ret:St->T St))=if b=want then vH P Γ pu o st T.ret else xlS o st T.ret:=by
     simp only[yO,hg,hsl,hb]
     cases b<;>cases want<;>simp only[cond_true,cond_false,e1 _ rfl]<;>rfl
    have hk:(if b=want then vH P Γ pu o st k else xlS o st k).run I.step s=some r:=by
     rw[<- h]
     cases b<;>cases want<;>simp only[cond_true,cond_false,e1 _ rfl]<;>rfl
    by_cases hbw:b=want
    ·rw[if_pos hbw]at hk he
     obtain⟨st',s',g1,g2,g3⟩:=xcm hΓ C hk
     refine⟨st',s',g1,by rw[he];exact g2,fun K Q hK =>?_⟩
     unfold jF
     rw[if_pos (by simp[Region.wanted,hg,hyb,hbw])]
     exact g3 K Q hK
    ·rw[if_neg hbw]at hk he
     exact⟨_,s,hk,by rw[he];rfl,skipped _ hyb (by simpa using hbw)⟩
   ·rename_i hb
    obtain⟨rv,h1,h2⟩:=C.rel.tmps sl _ hb
    simp only[denV,allSome,Option.map_some,oI]at h2
    subst h2
    have hyb:=hy _ h1
    simp only at hyb
    exact⟨_,s,h,by simp only[yO,hg,hsl,hb];rfl,skipped _ hyb (by simp)⟩
   ·cases h
theorem KU(hΓ : ∀f m,Γ f=some m->SoundF I f m){β:Type}{pu:PM}{o:Oper}{k:St->T β}{r:β×σ}(C:Cfg I S0 w0 e0 e st s F a w)(h:(yO P Γ ops pu o st k).run I.step s=some r) :
  ∃st' s',(k st').run I.step s'=some r/\(yO P Γ ops pu o st T.ret).run I.step s=some (st',s')/\
   ∀K Q,(∀e' F' a' w',Cfg I S0 w0 e0 e' st' s' F' a' w'->K a' w')->jF P ops Q o K a w:=by
 obtain⟨st',s',h1,h2,h3⟩:=Wa hΓ C h
 exact⟨st',s',h1,h2,fun K Q hK=>h3 K Q fun e' F' a' w' _ C'=>hK e' F' a' w' C'⟩
theorem xcn(hΓ : ∀f m,Γ f=some m->SoundF I f m){β:Type}{k:St->T β}{r:β×σ}{Q:Exit->Act->World->Prop}(hQ : ∀e' st' s' F' a' w',(k st').run I.step s'=some r->Cfg I S0 w0 e0 e' st' s' F' a' w'->Q .normal a' w') :
  ∀ (l:List Oper) {e:Env} {st:St} {s:σ} {F:Nat->Prop} {a:Act} {w:World},Cfg I S0 w0 e0 e st s F a w->(xhl P Γ ops l st k).run I.step s=some r->wpList P ops Q l a w
 | [],e,st,s,F,a,w,C,h=>hQ e st s F a w h C
 | o::l,e,st,s,F,a,w,C,h=>by
  obtain⟨st',s',h1,_,h3⟩:=KU hΓ C h
  have:=h3 (wpList P ops Q l) Q fun e' F' a' w' C'=>xcn hΓ hQ l C' h1
  unfold jF at this
  unfold wpList
  split
  ·rename_i hw;rw[if_pos hw]at this;exact .inl this
  ·rename_i hw;rw[if_neg hw]at this;exact this
/-! ### one operation as a step of what it does to slots, blocks and the port -/
theorem T.bind_assoc{α β γ:Type}(t:T α)(f:α->T β)(g:β->T γ):(t.bind f).bind g=t.bind fun a=>(f a).bind g:=by
 induction t with
 | ret a=>rfl
 | fail=>rfl
 | op o k ih=>simp only[T.bind];congr 1;funext c;exact ih c
theorem xfK{β:Type}(pu:PM)(o:Oper)(st:St)(k:St->T β):vH P Γ pu o st k=(vH P Γ pu o st T.ret).bind k:=by
 unfold vH
 split
 ·rename_i g v H _
  cases g<;>rfl
 ·rfl
 ·have hc : ∀f args,je Γ f args o st k=(je Γ f args o st T.ret).bind k:=by
   intro f args
   unfold je
   split
   ·rename_i S _
    rw[S.hb,S.hb,T.bind_assoc]
    congr 1
    funext x
    cases S.f x<;>rfl
   ·rfl
  cases pu
  ·exact hc _ _
  ·simp only
   split
   ·rename_i S _
    rw[S.hb,S.hb,T.bind_assoc]
    congr 1
    funext x
    cases S.f x<;>rfl
   ·rfl
  ·simp only
   split
   ·exact hc _ _
   ·rfl
  ·simp only
   split
   ·rename_i S _
    rw[S.hb,S.hb,T.bind_assoc]
    congr 1
    funext x
    cases S.f x<;>rfl
   ·rfl
 ·rfl
theorem Xa{β:Type}(pu:PM)(o:Oper)(st:St)(k:St->T β):yO P Γ ops pu o st k=(yO P Γ ops pu o st T.ret).bind k:=by
 unfold yO
 split
 ·exact xfK ..
 ·rename_i j want _
  split
  ·rfl
  ·split
   ·rename_i b _
    cases b<;>cases want<;>first|exact xfK .. | rfl
   ·rfl
   ·rfl
def xoD(Γ:xQ)(I:Port P σ)(f:FuncId)(args:List V)(H:Heap)(s:σ):Option (V×Heap×σ):=match kA Γ f args H with
 | some S=>match S.t.run I.step s with
  | some (x,s')=>match S.f x with
   | some r=>some (r.1,r.2,s')
   | none=>none
  | none=>none
 | none=>none
def yK(Γ:xQ)(I:Port P σ)(pu:PM)(H:Heap)(s:σ):Option Stp->Option (V×Heap×σ)
 | some (.val g v H')=>if g then some (v,H',s)else none
 | some (.port p)=>match I.step p s with
  | some (x,s')=>some (ansV p x,H,s')
  | none=>none
 | some (.call f args)=>match pu with
  | .free=>xoD Γ I f args H s
  | .avoid A=>match xcN A H args with
   | true=>xoD Γ I f args H s
   | false=>none
  | .keep A=>match vq Γ A f args H with
   | some S=>match S.t.run I.step s with
    | some (x,s')=>match S.f x with
     | some r=>some (r.1,r.2,s')
     | none=>none
    | none=>none
   | none=>none
  | .pure=>match We Γ f args with
   | some S=>match S.t.run I.step s with
    | some (x,s')=>match S.f x with
     | some r=>some (r.1,H,s')
     | none=>none
    | none=>none
   | none=>none
 | none=>none
def valO(Γ:xQ)(I:Port P σ)(ops:Array Oper)(pu:PM)(o:Oper)(tmps:Tm)(H:Heap)(s:σ):Option (V×Heap×σ):=
 match o.guard with
 | none=>yK Γ I pu H s (xf P o.op (xO tmps) H)
 | some (j,want)=>match(ops[j]?).bind (·.dst) with
  | none=>none
  | some sl=>match getT tmps sl with
   | some (.c (.bool b))=>if b=want then yK Γ I pu H s (xf P o.op (xO tmps) H)else some (.undef,H,s)
   | some (.tup [])=>some (.undef,H,s)
   | _=>none
theorem xih(pu:PM)(o:Oper)(tmps:Tm)(H:Heap)(s:σ):(vH P Γ pu o ⟨tmps,H⟩ T.ret).run I.step s=(yK Γ I pu H s (xf P o.op (xO tmps) H)).map fun r=>((⟨putT tmps o.dst r.1,r.2.1⟩:St),r.2.2):=by
 unfold vH
 simp only
 generalize xf P o.op (xO tmps) H=q
 cases q with
 | none=>rfl
 | some q=>
  cases q with
  | val g v H'=>cases g<;>rfl
  | port p=>
   simp only[T.run,yK]
   cases I.step p s<;>rfl
  | call f args=>
   have hc:(je Γ f args o ⟨tmps,H⟩ T.ret).run I.step s=(xoD Γ I f args H s).map fun r=>((⟨putT tmps o.dst r.1,r.2.1⟩:St),r.2.2):=by
    unfold je xoD
    simp only
    cases kA Γ f args H with
    | none=>rfl
    | some S=>
     simp only[S.hb,T.run_bind]
     cases S.t.run I.step s with
     | none=>rfl
     | some xs=>
      simp only
      cases S.f xs.1<;>rfl
   cases pu
   ·simp only[yK]
    exact hc
   ·simp only[yK]
    cases We Γ f args with
    | none=>rfl
    | some S=>
     simp only[S.hb,T.run_bind]
     cases S.t.run I.step s with
     | none=>rfl
     | some xs=>
      simp only
      cases S.f xs.1<;>rfl
   ·rename_i A
    simp only[yK]
    cases xcN A H args
    ·rfl
    ·exact hc
   ·rename_i A
    simp only[yK]
    cases vq Γ A f args H with
    | none=>rfl
    | some S=>
     simp only[S.hb,T.run_bind]
     cases S.t.run I.step s with
     | none=>rfl
     | some xs=>
      simp only
      cases S.f xs.1<;>rfl
theorem WX(pu:PM)(o:Oper)(tmps:Tm)(H:Heap)(s:σ):(yO P Γ ops pu o ⟨tmps,H⟩ T.ret).run I.step s=(valO Γ I ops pu o tmps H s).map fun r=>((⟨putT tmps o.dst r.1,r.2.1⟩:St),r.2.2):=by
 unfold yO valO
 simp only
 cases o.guard with
 | none=>exact xih ..
 | some jw=>
  obtain⟨j,want⟩:=jw
  simp only
  cases (ops[j]?).bind (·.dst) with
  | none=>rfl
  | some sl=>
   simp only
   cases hb:getT tmps sl with
   | none=>rfl
   | some v=>
    cases v with
    | agg l=>rfl
    | tup l=>cases l<;>rfl
    | c x=>
     cases x with
     | bool b=>
      have e1 : ∀b',b'=b->setT tmps sl (.c (.bool b'))=tmps:=by
       rintro b' rfl
       exact xbC hb
      cases b<;>cases want<;>simp only[cond_true,cond_false,e1 _ rfl,if_true,Bool.false_eq_true,Bool.true_eq_false,if_false]<;>first|exact xih .. | rfl
     | _=>rfl
end
end Lx
namespace Lx
open Go
theorem Wb{ρ ρ':Operand->Option V}{l:List (Nat×Operand)}(h : ∀x∈l.map (·.2),ρ x=ρ' x):partsOf ρ l=partsOf ρ' l:=by
 unfold partsOf
 refine allSome_congr fun p hp =>?_
 rw[h p.2 (List.mem_map.2 ⟨p,hp,rfl⟩)]
theorem xfL{ρ ρ':Operand->Option V}{x:Option Operand}(h : ∀y∈x.toArray,ρ y=ρ' y):optO ρ x=optO ρ' x:=by
 cases x with
 | none=>rfl
 | some y=>simp only[optO,h y (by simp)]
theorem xlo{P:Program}{op:Op}{ρ ρ':Operand->Option V}{H:Heap}(h : ∀x∈op.operands,ρ x=ρ' x):xf P op ρ H=xf P op ρ' H:=by
 cases op<;>simp only[Op.operands]at h<;>try rfl
 case move x=>simp only[xf,h x (by simp)]
 case assign x=>simp only[xf,h x (by simp)]
 case pick c a b=>simp only[xf,h c (by simp),h a (by simp),h b (by simp)]
 case box t x=>simp only[xf,h x (by simp)]
 case build t ps=>simp only[xf,Wb (ρ:=ρ) (ρ':=ρ') (l:=ps.toList) fun x hx=>h x (by simpa using hx)]
 case buildSlice t n ps=>simp only[xf,Wb (ρ:=ρ) (ρ':=ρ') (l:=ps.toList) fun x hx=>h x (by simpa using hx)]
 case load t x=>simp only[xf,h x (by simp)]
 case store t x y=>simp only[xf,h x (by simp),h y (by simp)]
 case nilCheck x=>simp only[xf,h x (by simp)]
 case binOp o t x y u=>simp only[xf,h x (by simp),h y (by simp)]
 case unOp o t x=>simp only[xf,h x (by simp)]
 case convert s d x=>simp only[xf,h x (by simp)]
 case makeFunc fn first captured=>
  cases fn<;>try rfl
  ·simp only[xf,allSome_congr (f:=ρ) (g:=ρ') (l:=captured.toList) fun x hx=>h x (by simp at hx |-;exact .inr hx)]
  ·simp only[xf]
   split
   ·split
    ·rename_i x hx
     rw[h x (by simp;left;rw[<- Array.mem_toList_iff,hx];simp)]
    ·rfl
   ·rfl
 case slice t x lo hi mx=>
  cases mx with
  | some y=>rfl
  | none=>
   simp only[xf,h x (by simp),xfL (ρ:=ρ) (ρ':=ρ') (x:=lo) fun y hy=>h y (by simp at hy |-;simp[hy]),xfL (ρ:=ρ) (ρ':=ρ') (x:=hi) fun y hy=>h y (by simp at hy |-;simp[hy])]
 case fieldAddr t x f=>simp only[xf,h x (by simp)]
 case field t x f=>simp only[xf,h x (by simp)]
 case indexAddr t x y=>simp only[xf,h x (by simp),h y (by simp)]
 case index t x y=>simp only[xf,h x (by simp),h y (by simp)]
 case extract x i=>simp only[xf,h x (by simp)]
 case makeInterface t x=>simp only[xf,h x (by simp)]
 case makeMap t r=>cases r<;>rfl
 case lookup t m x ok=>simp only[xf,h m (by simp),h x (by simp)]
 case mapUpdate t m x v=>simp only[xf,h m (by simp),h x (by simp),h v (by simp)]
 case call c=>
  have h1:allSome ρ c.args.toList=allSome ρ' c.args.toList:=allSome_congr fun x hx=>h x (by simp[Call.operands];right;simpa using hx)
  simp only[xf,h1]
  cases hc:c.callee with
  | builtin b=>rfl
  | invoke r n=>simp only[h r (by simp[Call.operands,hc])]
  | value f=>simp only[h f (by simp[Call.operands,hc])]
/-! ### how operations hang on the blocks -/
def setH(H:Heap):Stp->Stp
 | .val g v _ =>.val g v H
 | q=>q
theorem yw{α:Type}(x:Option α)(g:α->Bool)(v:α->V)(H:Heap):(x.map fun a=>Stp.val (g a) (v a) H)=Option.map (setH H) (x.map fun a=>Stp.val (g a) (v a) []):=by
 cases x<;>rfl
theorem xfM{P:Program}{b:Builtin}{ts:List TypeId}{vs:List V}{H:Heap}:yg P b ts vs H=Option.map (setH H) (yg P b ts vs []):=by
 unfold yg
 split
 ·split<;>rfl
 ·rfl
 ·rfl
 ·rfl
theorem kind0{P:Program}{op:Op}{ρ:Operand->Option V}{H:Heap}(hk:xn op=0):xf P op ρ H=Option.map (setH H) (xf P op ρ []):=by
 cases op<;>simp[xn]at hk
 case store t a x=>cases a<;>simp at hk
 case move x=>simp only[xf];exact yw (ρ x) (fun _=>true) id H
 case assign x=>simp only[xf];exact yw (ρ x) (fun _=>true) id H
 case pick c a b=>
  simp only[xf]
  split
  ·rename_i t _
   cases t
   ·exact yw (ρ b) (fun _=>true) id H
   ·exact yw (ρ a) (fun _=>true) id H
  ·rfl
 case build t ps=>
  simp only[xf]
  split
  ·split
   ·split
    ·exact yw _ (fun _=>true) (fun r =>.agg r) H
    ·rfl
   ·split
    ·exact yw _ (fun _=>true) (fun r =>.agg r) H
    ·rfl
   ·rfl
  ·rfl
 case nilCheck x=>
  simp only[xf]
  split
  ·rfl
  ·rfl
  ·rfl
  ·split
   ·split<;>rfl
   ·rfl
  ·rfl
  ·rfl
 case binOp o t x y u=>
  simp only[xf]
  split
  ·exact yw _ (fun r:Bool×C=>r.1) (fun r:Bool×C =>.c r.2) H
  ·exact yw _ (fun _:C=>true) (fun r:C =>.c r) H
  ·rfl
 case unOp o t x=>
  simp only[xf]
  split
  ·exact yw _ (fun _=>true) (fun r =>.c r) H
  ·rfl
 case convert a b x=>
  simp only[xf]
  split<;>rfl
 case makeFunc fn first captured=>
  cases fn<;>try rfl
  ·simp only[xf]
   split
   ·split
    ·exact yw _ (fun _=>true) (fun cs =>.c (.fn _ cs)) H
    ·rfl
   ·rfl
  ·simp only[xf]
   split
   ·split
    ·split<;>rfl
    ·rfl
   ·rfl
 case slice t x lo hi mx=>
  cases mx with
  | some y=>rfl
  | none=>
   simp only[xf]
   split
   ·split
    ·split<;>rfl
    ·rfl
   ·split
    ·split<;>rfl
    ·rfl
   ·split
    ·split
     ·split<;>rfl
     ·rfl
    ·rfl
   ·rfl
 case fieldAddr t x f=>
  simp only[xf]
  split
  ·split
   ·split
    ·split<;>rfl
    ·rfl
   ·rfl
  ·split
   ·split
    ·split<;>rfl
    ·rfl
   ·rfl
  ·rfl
 case field t x f=>
  simp only[xf]
  split
  ·split
   ·exact yw _ (fun _=>true) id H
   ·rfl
  ·rfl
 case indexAddr t x y=>
  simp only[xf]
  split
  ·rename_i len e b o k i _ _ _
   exact yw _ (fun _=>decide (0<=i/\i<(len:Int))) (fun n =>.c (.ptr b (o+i.toNat*n))) H
  ·rename_i e b o len c k i _ _ _
   exact yw _ (fun _=>decide (0<=i/\i<(len:Int))) (fun n =>.c (.ptr b (o+i.toNat*n))) H
  ·split<;>rfl
  ·rename_i e b o z len c k i _ _ _
   exact yw _ (fun _=>decide (0<=i/\i<(len:Int))) (fun n =>.c (.pr b o i n 0)) H
  ·rename_i e b len k i _ _ _
   exact yw _ (fun _=>decide (0<=i/\i<(len:Int))) (fun n =>.c (.pr b 0 i n 0)) H
  ·rfl
 case index t x y=>
  simp only[xf]
  split
  ·rename_i len e cs k i _ _ _
   split
   ·exact yw _ (fun _=>decide (0<=i/\i<(len:Int))) id H
   ·rfl
  ·rfl
 case extract x i=>
  simp only[xf]
  split
  ·exact yw _ (fun _=>true) (fun v:V1=>v.up) H
  ·rfl
 case makeInterface t x=>
  simp only[xf]
  split
  ·split<;>rfl
  ·rfl
 case call c=>
  obtain⟨callee,args,ats⟩:=c
  cases callee<;>simp[xn]at hk
  simp only[xf]
  split
  ·split at hk
   ·exact xfM
   ·exact xfM
   ·exact xfM
   ·cases hk
  ·rfl
theorem xu2{P:Program}{op:Op}{ρ:Operand->Option V}{H:Heap}{q:Stp}(hk:xn op=0)(h:xf P op ρ H=some q) : ∃g v,q = .val g v H/\ ∀H2,xf P op ρ H2=some (.val g v H2):=by
 rw[kind0 hk,oM]at h
 obtain⟨q0,h1,rfl⟩:=h
 have hc : ∀ {f args},q0 ≠ .call f args:=by
  rintro f args rfl
  cases op<;>simp[xn]at hk
  case store t a x=>cases a<;>simp at hk
  case call c=>
   obtain⟨callee,as,ats⟩:=c
   cases callee<;>simp[xn]at hk
   simp only[xf]at h1
   split at h1
   ·split at hk
    ·simp only at h1;unfold yg at h1;(repeat' (split at h1))<;>cases h1
    ·simp only at h1;unfold yg at h1;(repeat' (split at h1))<;>cases h1
    ·simp only at h1;unfold yg at h1;(repeat' (split at h1))<;>cases h1
    ·cases hk
   ·cases h1
  all_goals
   simp only[xf]at h1
   (repeat' (split at h1))<;>first
    | contradiction
    | cases h1
    | (rw[oM]at h1;obtain⟨_,_,h2⟩:=h1;cases h2)
 have hp : ∀ {p},q0 ≠ .port p:=by
  rintro p rfl
  cases op<;>simp[xn]at hk
  case store t a x=>cases a<;>simp at hk
  case call c=>
   obtain⟨callee,as,ats⟩:=c
   cases callee<;>simp[xn]at hk
   simp only[xf]at h1
   split at h1
   ·split at hk
    ·simp only at h1;unfold yg at h1;(repeat' (split at h1))<;>cases h1
    ·simp only at h1;unfold yg at h1;(repeat' (split at h1))<;>cases h1
    ·simp only at h1;unfold yg at h1;(repeat' (split at h1))<;>cases h1
    ·cases hk
   ·cases h1
  all_goals
   simp only[xf]at h1
   (repeat' (split at h1))<;>first
    | contradiction
    | cases h1
    | (rw[oM]at h1;obtain⟨_,_,h2⟩:=h1;cases h2)
 cases q0 with
 | val g v H0=>exact⟨g,v,rfl,fun H2=>by rw[kind0 hk,h1];rfl⟩
 | port p=>exact absurd rfl hp
 | call f args=>exact absurd rfl hc
theorem xu3{P:Program}{op:Op}{ρ:Operand->Option V}{H:Heap}{q:Stp}(hk:xn op=1)(h:xf P op ρ H=some q) :
  ∃g v b,q = .val g v H/\(∃k,blkAt H b=some k)/\(∃x,x∈op.operands/\ptrB (ρ x)=some b)/\ ∀H2,blkAt H2 b=blkAt H b->xf P op ρ H2=some (.val g v H2):=by
 cases op<;>simp[xn]at hk
 case store t a x=>cases a<;>simp at hk
 case load t x=>
  simp only[xf]at h
  split at h
  ·rename_i b o hx
   split at h
   ·rename_i k hb
    rw[oM]at h
    obtain⟨v,h1,rfl⟩:=h
    refine⟨v.1,v.2,b,rfl,⟨k,hb⟩,⟨x,by simp[Op.operands],by rw[hx];rfl⟩,fun H2 h2 =>?_⟩
    simp only[xf,hx,h2,hb,h1,Option.map_some]
   ·cases h
  ·rename_i b off i n f hx
   split at h
   ·rename_i k hb
    rw[oM]at h
    obtain⟨v,h1,rfl⟩:=h
    refine⟨v.1,v.2,b,rfl,⟨k,hb⟩,⟨x,by simp[Op.operands],by rw[hx];rfl⟩,fun H2 h2 =>?_⟩
    simp only[xf,hx,h2,hb,h1,Option.map_some]
   ·cases h
  ·cases h
 case call c=>
  obtain⟨callee,as,ats⟩:=c
  cases callee<;>simp[xn]at hk
  split at hk<;>simp at hk
theorem xu4{P:Program}{op:Op}{ρ:Operand->Option V}{H:Heap}{q:Stp}(hk:xn op=2)(h:xf P op ρ H=some q) :
  ∃v k,q = .val true v (newB H k)/\ ∀H2,H2.length=H.length->xf P op ρ H2=some (.val true v (newB H2 k)):=by
 cases op<;>simp[xn]at hk
 case store t a x=>cases a<;>simp at hk
 case alloc t=>
  simp only[xf]at h |-
  split at h
  ·rename_i z hz
   split at h
   ·rename_i cs hc
    cases h
    exact⟨_,_,rfl,fun H2 h2=>by rw[h2]⟩
   ·cases h
  ·cases h
 case box t x=>
  simp only[xf]at h |-
  split at h
  ·rename_i z hz
   split at h
   ·rename_i cs hc
    cases h
    exact⟨_,_,rfl,fun H2 h2=>by rw[h2]⟩
   ·cases h
  ·cases h
 case buildSlice t len ps=>
  simp only[xf]at h |-
  split at h
  ·rename_i el ps' hu hps
   split at h
   ·rename_i n z hn hz
    split at h
    ·rename_i zs hzs
     split at h
     ·rename_i h0
      split at h
      ·rename_i r hr
       cases h
       exact⟨_,_,rfl,fun H2 h2=>by simp only[hu,hps,hn,hz,hzs,if_pos h0,hr,h2]⟩
      ·cases h
     ·cases h
    ·cases h
   ·cases h
  ·cases h
 case call c=>
  obtain⟨callee,as,ats⟩:=c
  cases callee<;>simp[xn]at hk
  split at hk<;>simp at hk
theorem qb{P:Program}{op:Op}{ρ:Operand->Option V}{H:Heap}{q:Stp}(hk:xn op=3)(h:xf P op ρ H=some q):(∀g v H',q ≠ .val g v H')/\ ∀H2,xf P op ρ H2=some q:=by
 cases op<;>simp[xn]at hk
 case store t a x=>cases a<;>simp at hk
 case call c=>
  obtain⟨callee,as,ats⟩:=c
  cases callee with
  | builtin b=>simp[xn]at hk;split at hk<;>simp at hk
  | invoke r n=>
   simp only[xf]at h |-
   refine⟨fun g v H' e =>?_,fun _=>h⟩
   subst e
   (repeat' (split at h))<;>first
    | cases h
    | (rw[oM]at h;obtain⟨_,_,h2⟩:=h;cases h2)
  | value f=>
   simp only[xf]at h |-
   refine⟨fun g v H' e =>?_,fun _=>h⟩
   subst e
   (repeat' (split at h))<;>first
    | cases h
    | (rw[oM]at h;obtain⟨_,_,h2⟩:=h;cases h2)
end Lx
namespace Lx
open Go
section
variable{P:Program}{σ:Type}{I:Port P σ}{Γ:xQ}{S0:Bool->Nat->Prop}{w0:World}{e0:Env}{ops:Array Oper}
theorem xu5{tmps:Tm}{dst:Option Tmp}{v:V}{x:Operand}(h : ∀d,dst=some d->x ≠ .tmp d):xO (putT tmps dst v) x=xO tmps x:=by
 cases dst with
 | none=>rfl
 | some d=>
  cases x with
  | tmp t=>
   have hne:t≠d:=fun hh=>h d rfl (by rw[hh])
   simp only[xO,putT,yt _ _ hne]
  | _=>rfl
theorem xoE{pu:PM}{o:Oper}{tmps:Tm}{dst:Option Tmp}{v:V}{H:Heap}{s:σ}(h : ∀d,dst=some d->d∉o.looksAt ops):valO Γ I ops pu o (putT tmps dst v) H s=valO Γ I ops pu o tmps H s:=by
 have e1:xf P o.op (xO (putT tmps dst v)) H=xf P o.op (xO tmps) H:=xlo fun x hx=>xu5 fun d hd hxd=>by
  subst hxd
  refine h d hd ?_
  simp only[Oper.looksAt,List.mem_append,List.mem_filterMap]
  exact .inl ⟨.tmp d,by simpa using hx,rfl⟩
 unfold valO
 rw[e1]
 cases hg:o.guard with
 | none=>rfl
 | some jw=>
  obtain⟨j,want⟩:=jw
  simp only
  cases hsl:(ops[j]?).bind (·.dst) with
  | none=>rfl
  | some sl=>
   simp only
   have:getT (putT tmps dst v) sl=getT tmps sl:=by
    cases dst with
    | none=>rfl
    | some d=>
     have hne:sl≠d:=by
      rintro rfl
      refine h sl rfl ?_
      simp only[Oper.looksAt,List.mem_append,hg,hsl]
      exact .inr (by simp)
     simp only[putT,yt _ _ hne]
   rw[this]
theorem vf(pu:PM)(o:Oper)(tmps:Tm):(∀H s,valO Γ I ops pu o tmps H s=yK Γ I pu H s (xf P o.op (xO tmps) H))\/(∀H s,valO Γ I ops pu o tmps H s=some (.undef,H,s))\/(∀H s,valO Γ I ops pu o tmps H s=none):=by
 unfold valO
 cases o.guard with
 | none=>exact .inl fun _ _=>rfl
 | some jw=>
  obtain⟨j,want⟩:=jw
  simp only
  cases (ops[j]?).bind (·.dst) with
  | none=>exact .inr (.inr fun _ _=>rfl)
  | some sl=>
   simp only
   cases getT tmps sl with
   | none=>exact .inr (.inr fun _ _=>rfl)
   | some v=>
    cases v with
    | agg l=>exact .inr (.inr fun _ _=>rfl)
    | tup l=>cases l<;>first|exact .inr (.inl fun _ _=>rfl)|exact .inr (.inr fun _ _=>rfl)
    | c x=>
     cases x with
     | bool b=>
      by_cases h:b=want
      ·subst h;exact .inl fun _ _=>if_pos rfl
      ·exact .inr (.inl fun _ _=>if_neg h)
     | _=>exact .inr (.inr fun _ _=>rfl)
variable{pu:PM}{o:Oper}{tmps:Tm}{H H':Heap}{s s':σ}{v:V}
def Idle(Γ:xQ)(I:Port P σ)(ops:Array Oper)(pu:PM)(o:Oper)(tmps:Tm)(v:V):Prop :=∀H s,valO Γ I ops pu o tmps H s=some (v,H,s)
theorem beh0(hk:xn o.op=0)(h:valO Γ I ops pu o tmps H s=some (v,H',s')):H'=H/\s'=s/\Idle Γ I ops pu o tmps v:=by
 rcases vf (Γ:=Γ) (I:=I) (ops:=ops) pu o tmps with hc|hc|hc
 ·rw[hc]at h
  cases hq:xf P o.op (xO tmps) H with
  | none=>rw[hq]at h;cases h
  | some q=>
   obtain⟨g,u,rfl,h2⟩:=xu2 hk hq
   rw[hq]at h
   cases g<;>simp only[yK,Bool.false_eq_true,if_false,if_true,reduceCtorEq,oI,Prod.mk.injEq]at h
   obtain⟨rfl,rfl,rfl⟩:=h
   exact⟨rfl,rfl,fun H2 s2=>by rw[hc,h2];rfl⟩
 ·rw[hc]at h
  cases h
  exact⟨rfl,rfl,hc⟩
 ·rw[hc]at h;cases h
theorem xrS(c:Value):ptrB (Zm c)=none:=by
 unfold Zm
 split
 ·cases allSome qq _<;>rfl
 ·split<;>rfl
 ·unfold qq;split<;>rfl
theorem beh1(hk:xn o.op=1)(h:valO Γ I ops pu o tmps H s=some (v,H',s')):H'=H/\s'=s/\(Idle Γ I ops pu o tmps v\/ ∃b,(∃ (t p:Nat),(∃ty,o.op = .load ty (.tmp t))/\ptrB (getT tmps t)=some b)/\ ∀H2 s2,blkAt H2 b=blkAt H b->valO Γ I ops pu o tmps H2 s2=some (v,H2,s2)):=by
 have hld : ∃ty a,o.op = .load ty a:=by
  cases hop:o.op with
  | load ty a=>exact⟨ty,a,rfl⟩
  | store ty a x=>cases a<;>simp[xn,hop]at hk
  | call c=>obtain⟨callee,as,ats⟩:=c;cases callee<;>simp[xn,hop]at hk;split at hk<;>simp at hk
  | _=>simp[xn,hop]at hk
 obtain⟨ty,ad,hld⟩:=hld
 rcases vf (Γ:=Γ) (I:=I) (ops:=ops) pu o tmps with hc|hc|hc
 ·rw[hc]at h
  cases hq:xf P o.op (xO tmps) H with
  | none=>rw[hq]at h;cases h
  | some q=>
   obtain⟨g,u,b,rfl,hb,⟨x,hx,hxp⟩,h2⟩:=xu3 hk hq
   rw[hq]at h
   cases g<;>simp only[yK,Bool.false_eq_true,if_false,if_true,reduceCtorEq,oI,Prod.mk.injEq]at h
   obtain⟨rfl,rfl,rfl⟩:=h
   refine⟨rfl,rfl,.inr ⟨b,?_,fun H2 s2 hb2=>by rw[hc,h2 H2 hb2];rfl⟩⟩
   have hxa:x=ad:=by rw[hld]at hx;simpa[Op.operands]using hx
   cases x with
   | tmp t=>exact⟨t,0,⟨ty,by rw[hld,<- hxa]⟩,hxp⟩
   | const c=>
    simp only[xO,xrS]at hxp
    cases hxp
   | global g=>simp[xO,ptrB]at hxp
   | func f=>simp[xO,ptrB]at hxp
 ·rw[hc]at h
  cases h
  exact⟨rfl,rfl,.inl hc⟩
 ·rw[hc]at h;cases h
theorem beh2(hk:xn o.op=2)(h:valO Γ I ops pu o tmps H s=some (v,H',s')):s'=s/\((H'=H/\Idle Γ I ops pu o tmps v)\/ ∃k,H'=newB H k/\ ∀H2 s2,H2.length=H.length->valO Γ I ops pu o tmps H2 s2=some (v,newB H2 k,s2)):=by
 rcases vf (Γ:=Γ) (I:=I) (ops:=ops) pu o tmps with hc|hc|hc
 ·rw[hc]at h
  cases hq:xf P o.op (xO tmps) H with
  | none=>rw[hq]at h;cases h
  | some q=>
   obtain⟨u,k,rfl,h2⟩:=xu4 hk hq
   rw[hq]at h
   simp only[yK,if_true,oI,Prod.mk.injEq]at h
   obtain⟨rfl,rfl,rfl⟩:=h
   exact⟨rfl,.inr ⟨k,rfl,fun H2 s2 hl=>by rw[hc,h2 H2 hl];rfl⟩⟩
 ·rw[hc]at h
  cases h
  exact⟨rfl,.inl ⟨rfl,hc⟩⟩
 ·rw[hc]at h;cases h
theorem beh3(hk:xn o.op=3)(h:valO Γ I ops .pure o tmps H s=some (v,H',s')):H'=H/\ ∀H2,valO Γ I ops .pure o tmps H2 s=some (v,H2,s'):=by
 rcases vf (Γ:=Γ) (I:=I) (ops:=ops) .pure o tmps with hc|hc|hc
 ·rw[hc]at h
  cases hq:xf P o.op (xO tmps) H with
  | none=>rw[hq]at h;cases h
  | some q=>
   obtain⟨h1,h2⟩:=qb hk hq
   rw[hq]at h
   cases q with
   | val g u H0=>exact absurd rfl (h1 g u H0)
   | port p=>
    simp only[yK]at h
    cases hs:I.step p s with
    | none=>rw[hs]at h;cases h
    | some vs=>
     rw[hs]at h
     cases h
     exact⟨rfl,fun H2=>by rw[hc,h2 H2];simp only[yK,hs]⟩
   | call f args=>
    simp only[yK]at h
    cases ht:We Γ f args with
    | none=>rw[ht]at h;cases h
    | some S=>
     rw[ht]at h
     simp only at h
     cases hr:S.t.run I.step s with
     | none=>rw[hr]at h;cases h
     | some r=>
      rw[hr]at h
      simp only at h
      cases hf:S.f r.1 with
      | none=>rw[hf]at h;cases h
      | some q=>
       rw[hf]at h
       cases h
       exact⟨rfl,fun H2=>by rw[hc,h2 H2];simp only[yK,ht,hr,hf]⟩
 ·rw[hc]at h
  cases h
  exact⟨rfl,fun H2=>hc H2 s⟩
 ·rw[hc]at h;cases h
theorem Xb : ∀ (l:List Nat) (xs:List (Option Blk)) (H:Heap) (b:Nat),b∉l->blkAt (vj H l xs) b=blkAt H b
 | [],xs,H,b,h=>by cases xs<;>rfl
 | c::l,[],H,b,h=>rfl
 | c::l,x::xs,H,b,h=>by
  rw[vj,Xb l xs _ b (fun hh=>h (by simp[hh])),yo,xH,xH,List.getElem?_set_ne (fun hh=>h (by simp[hh]))]
theorem xlp{f:FuncId}{args:List V}{S:Sum}{x:S.α}{q:V×Heap}{l:List Nat}{b:Nat}(h:kA Γ f args H=some S)(hf:S.f x=some q)(hr:vB H 1000 (args.flatMap idsV) []=some l)(hb:b∉l)(hlt:b<H.length):blkAt q.2 b=blkAt H b:=by
 unfold kA at h
 split at h
 ·cases h
 ·rw[hr]at h
  simp only at h
  split at h
  ·split at h
   ·cases h
   ·cases h
    simp only at hf
    split at hf
    ·cases hf
    ·split at hf
     ·split at hf
      ·cases hf
       simp only
       rw[xH,List.getElem?_append_left (by rw[yP];exact hlt),<- xH,Xb _ _ _ _ hb]
      ·cases hf
     ·cases hf
  ·cases h
/-! ### calls that leave no further blocks, beside a new block -/
def Closed(tmps:Tm)(H:Heap):Prop:=(∀t v,getT tmps t=some v ->∀b∈idsV v,b<H.length)/\ ∀i k,blkAt H i=some k ->∀b∈yF k.cells,b<H.length
theorem xwZ{H:Heap}{b:Nat}{k:Blk}(h:blkAt H b=some k):b<H.length:=(List.getElem?_eq_some_iff.1 (xT.1 h)).1
theorem WY{H:Heap}{k:Blk}(hc : ∀i kk,blkAt H i=some kk ->∀b∈yF kk.cells,b<H.length) : ∀ (n:Nat) (todo acc:List Nat),(∀b∈todo,b<H.length)->vB (newB H k) n todo acc=vB H n todo acc
 | n,[],acc,h=>by cases n<;>rfl
 | 0,b::todo,acc,h=>rfl
 | n+1,b::todo,acc,h=>by
  simp only[vB]
  have hb:=h b (by simp)
  have hlt:blkAt (newB H k) b=blkAt H b:=by rw[yI,if_neg (by omega)]
  rw[hlt]
  split
  ·exact WY hc n todo acc fun x hx=>h x (by simp[hx])
  ·split
   ·rename_i kk hk
    refine WY hc n _ _ fun x hx =>?_
    rcases List.mem_append.1 hx with hx|hx
    ·exact hc b kk hk x hx
    ·exact h x (by simp[hx])
   ·rfl
theorem xfN(k:Blk) : ∀ (l:List Nat) (xs:List (Option Blk)) (H:Heap),(∀b∈l,b<H.length)->vj (newB H k) l xs=newB (vj H l xs) k
 | [],xs,H,h=>by cases xs<;>rfl
 | c::l,[],H,h=>rfl
 | c::l,x::xs,H,h=>by
  simp only[vj]
  have hb:=h c (by simp)
  have:setB (newB H k) c x=newB (setB H c x) k:=by
   rw[yo,yo,newB,newB,List.set_append_left _ _ hb]
  rw[this]
  exact xfN k l xs _ fun b hb=>by rw[yo,List.length_set];exact h b (by simp[hb])
theorem xu6(l:List Nat)(xs:List (Option Blk))(H:Heap):(vj H l xs).length=H.length:=yP ..
theorem xu7{A:List Nat}{f:FuncId}{args:List V}{k:Blk}(hc : ∀i kk,blkAt H i=some kk ->∀b∈yF kk.cells,b<H.length)(ha : ∀b∈args.flatMap idsV,b<H.length) :
  vq Γ A f args (newB H k)=(vq Γ A f args H).map fun S=>⟨S.α,S.t,fun a=>(S.f a).map fun q=>(q.1,newB q.2 k),S.b,S.hb⟩:=by
 unfold vq
 cases Γ f with
 | none=>rfl
 | some m=>
  simp only
  rw[WY hc _ _ _ ha]
  cases hl:vB H 1000 (args.flatMap idsV) [] with
  | none=>rfl
  | some l=>
   simp only
   obtain⟨_,hk,_⟩:=ZV H _ _ [] l hl (by simp) (by simp)
   have hlt : ∀b∈l,b<H.length:=fun b hb=>by obtain⟨kk,h⟩:=hk b hb;exact xwZ h
   have e1:allSome (fun b=>renB (idx l) (blkAt (newB H k) b)) l=allSome (fun b=>renB (idx l) (blkAt H b)) l:=by
    have : ∀q:List Nat,(∀b∈q,b<H.length)->allSome (fun b=>renB (idx l) (blkAt (newB H k) b)) q=allSome (fun b=>renB (idx l) (blkAt H b)) q:=by
     intro q
     induction q with
     | nil=>intro _;rfl
     | cons x q ih=>
      intro h
      have hx:=h x (by simp)
      simp only[allSome,ih fun b hb=>h b (by simp[hb])]
      rw[yI,if_neg (by omega)]
    exact this l hlt
   rw[e1]
   cases A.all fun b=> !(l.contains b) with
   | false=>rfl
   | true=>
    simp only
    cases allSome (renV (idx l)) args with
    | none=>rfl
    | some args'=>
     cases allSome (fun b=>renB (idx l) (blkAt H b)) l with
     | none=>rfl
     | some H0=>
      simp only
      cases m args' H0 with
      | none=>rfl
      | some S=>
       simp only[Option.map_some,oI,Sum.mk.injEq,heq_eq_eq,true_and,and_true]
       funext a
       cases S.f a with
       | none=>rfl
       | some r=>
        simp only
        cases renV (fun i=>l[i]?) r.1 with
        | none=>rfl
        | some v=>
         cases allSome (renB fun i=>l[i]?) r.2 with
         | none=>rfl
         | some H1=>
          simp only
          split
          ·simp only[Option.map_some,xfN k l H1 H hlt]
          ·rfl
theorem xu8{A:List Nat}{f:FuncId}{args:List V}{S:Sum}{x:S.α}{q:V×Heap}(h:vq Γ A f args H=some S)(hf:S.f x=some q):q.2.length=H.length/\ ∀b∈A,blkAt q.2 b=blkAt H b:=by
 unfold vq at h
 split at h
 ·cases h
 ·split at h
  ·cases h
  ·rename_i l hl
   split at h
   ·cases h
   ·rename_i hA
    split at h
    ·split at h
     ·cases h
     ·cases h
      simp only at hf
      split at hf
      ·cases hf
      ·split at hf
       ·split at hf
        ·cases hf
         refine⟨xu6 ..,fun b hb=>Xb _ _ _ _ fun hm =>?_⟩
         rw[List.all_eq_true]at hA
         have:=hA b hb
         rw[List.contains_iff_mem.2 hm]at this
         cases this
        ·cases hf
       ·cases hf
    ·cases h
theorem xrT{x:Value}{v:V}(h:Zm x=some v):idsV v = []:=by
 have hc : ∀ {x:Value} {c:C},qq x=some c->idsC c = []:=by
  intro x c h
  unfold qq at h
  split at h<;>cases h<;>rfl
 have hcs : ∀ (l:List Value) (r:List C),allSome qq l=some r->yF r = []:=by
  intro l
  induction l with
  | nil=>intro r h;simp only[allSome,oI]at h;subst h;rfl
  | cons a l ih=>
   intro r h
   simp only[allSome]at h
   split at h
   ·rename_i y hy
    split at h
    ·rename_i ys hys
     cases h
     simp only[yF,hc hy,ih ys hys,List.append_nil]
    ·cases h
   ·cases h
 unfold Zm at h
 split at h
 ·rw[oM]at h;obtain⟨r,h1,rfl⟩:=h;exact hcs _ _ h1
 ·split at h
  ·cases h;rfl
  ·cases h
 ·rw[oM]at h;obtain⟨r,h1,rfl⟩:=h;exact hc h1
theorem xii{tmps:Tm}{H:Heap}(hc : ∀t v,getT tmps t=some v ->∀b∈idsV v,b<H.length){x:Operand}{v:V}(h:xO tmps x=some v) : ∀b∈idsV v,b<H.length:=by
 cases x with
 | tmp t=>exact hc t v h
 | const c=>rw[xrT h];intro b hb;cases hb
 | global g=>simp[xO]at h
 | func f=>simp only[xO,oI]at h;subst h;intro b hb;simp[idsV,idsC,yF]at hb
theorem xco{tmps:Tm}{H:Heap}(hc : ∀t v,getT tmps t=some v ->∀b∈idsV v,b<H.length) : ∀ (l:List Operand) (vs:List V),allSome (xO tmps) l=some vs ->∀b∈vs.flatMap idsV,b<H.length
 | [],vs,h,b,hb=>by simp only[allSome,oI]at h;subst h;simp at hb
 | x::l,vs,h,b,hb=>by
  simp only[allSome]at h
  split at h
  ·rename_i y hy
   split at h
   ·rename_i ys hys
    cases h
    simp only[List.flatMap_cons,List.mem_append]at hb
    rcases hb with hb|hb
    ·exact xii hc hy b hb
    ·exact xco hc l ys hys b hb
   ·cases h
  ·cases h
theorem xoF : ∀caps:List C,(caps.map V.c).flatMap idsV=yF caps
 | []=>rfl
 | c::l=>by simp only[List.map_cons,List.flatMap_cons,xoF l,idsV,yF]
theorem xw0{tmps:Tm}{H H2:Heap}(hc : ∀t v,getT tmps t=some v ->∀b∈idsV v,b<H.length){op:Op}(hk:xn op=3){f:FuncId}{args:List V}(h:xf P op (xO tmps) H2=some (.call f args)) : ∀b∈args.flatMap idsV,b<H.length:=by
 cases op<;>simp[xn]at hk
 case call c=>
  obtain⟨callee,as,ats⟩:=c
  cases callee with
  | builtin b=>simp at hk;split at hk<;>simp at hk
  | invoke r n=>
   simp only[xf]at h
   (repeat' (split at h))<;>first
    | cases h
    | (rw[oM]at h;obtain⟨_,_,h2⟩:=h;cases h2)
  | value g=>
   simp only[xf]at h
   split at h
   ·rename_i vs hvs
    split at h
    ·rename_i f' caps hf
     cases h
     intro b hb
     rw[List.flatMap_append,List.mem_append,xoF]at hb
     rcases hb with hb|hb
     ·exact xco hc _ _ hvs b hb
     ·exact xii hc hf b (by simpa[idsV,idsC]using hb)
    ·rw[oM]at h;obtain⟨_,_,h2⟩:=h;cases h2
    ·cases h
   ·cases h
 case store t a x=>cases a<;>simp at hk
theorem behK{B:List Nat}(hk:xn o.op=3)(hcl:Closed tmps H)(kk:Blk):valO Γ I ops (.keep B) o tmps (newB H kk) s=(valO Γ I ops (.keep B) o tmps H s).map fun r=>(r.1,newB r.2.1 kk,r.2.2):=by
 rcases vf (Γ:=Γ) (I:=I) (ops:=ops) (.keep B) o tmps with hc|hc|hc
 ·rw[hc,hc]
  cases hq:xf P o.op (xO tmps) H with
  | none=>
   cases hq2:xf P o.op (xO tmps) (newB H kk) with
   | none=>rfl
   | some q=>have:=(qb hk hq2).2 H;rw[hq]at this;cases this
  | some q=>
   obtain⟨h1,h2⟩:=qb hk hq
   rw[h2]
   cases q with
   | val g u H0=>exact absurd rfl (h1 g u H0)
   | port p=>
    simp only[yK]
    cases I.step p s<;>rfl
   | call f args=>
    simp only[yK]
    rw[xu7 hcl.2 (xw0 hcl.1 hk hq)]
    cases vq Γ B f args H with
    | none=>rfl
    | some S=>
     simp only[Option.map_some]
     cases S.t.run I.step s with
     | none=>rfl
     | some r=>
      simp only
      cases S.f r.1<;>rfl
 ·rw[hc,hc];rfl
 ·rw[hc,hc];rfl
theorem KV{B:List Nat}(hk:xn o.op=3)(h:valO Γ I ops (.keep B) o tmps H s=some (v,H',s')):H'.length=H.length/\ ∀b∈B,blkAt H' b=blkAt H b:=by
 rcases vf (Γ:=Γ) (I:=I) (ops:=ops) (.keep B) o tmps with hc|hc|hc
 ·rw[hc]at h
  cases hq:xf P o.op (xO tmps) H with
  | none=>rw[hq]at h;cases h
  | some q=>
   obtain⟨h1,h2⟩:=qb hk hq
   rw[hq]at h
   cases q with
   | val g u H0=>exact absurd rfl (h1 g u H0)
   | port p=>
    simp only[yK]at h
    cases hs:I.step p s with
    | none=>rw[hs]at h;cases h
    | some vs=>rw[hs]at h;cases h;exact⟨rfl,fun _ _=>rfl⟩
   | call f args=>
    simp only[yK]at h
    cases ht:vq Γ B f args H with
    | none=>rw[ht]at h;cases h
    | some S=>
     rw[ht]at h
     simp only at h
     cases hr:S.t.run I.step s with
     | none=>rw[hr]at h;cases h
     | some r=>
      rw[hr]at h
      simp only at h
      cases hf:S.f r.1 with
      | none=>rw[hf]at h;cases h
      | some q=>
       rw[hf]at h
       cases h
       exact xu8 ht hf
 ·rw[hc]at h;cases h;exact⟨rfl,fun _ _=>rfl⟩
 ·rw[hc]at h;cases h
theorem beh5(hk:xn o.op=5)(h:valO Γ I ops pu o tmps H s=some (v,H',s')):s'=s/\((H'=H/\Idle Γ I ops pu o tmps v)\/ ∃b kn,(∃t,(∃ty x,o.op = .store ty (.tmp t) x)/\ptrB (getT tmps t)=some b)/\H'=setB H b (some kn)):=by
 have hst : ∃ty t x,o.op = .store ty (.tmp t) x:=by
  cases hop:o.op with
  | store ty a x=>cases a<;>first|exact⟨ty,_,x,rfl⟩|(simp[xn,hop]at hk)
  | call c=>obtain⟨callee,as,ats⟩:=c;cases callee<;>simp[xn,hop]at hk;try (split at hk<;>simp at hk)
  | _=>simp[xn,hop]at hk
 obtain⟨ty,t,x,hst⟩:=hst
 rcases vf (Γ:=Γ) (I:=I) (ops:=ops) pu o tmps with hc|hc|hc
 ·rw[hc]at h
  cases hq:xf P o.op (xO tmps) H with
  | none=>rw[hq]at h;cases h
  | some q=>
   rw[hq]at h
   rw[hst]at hq
   simp only[xf,xO]at hq
   split at hq
   ·rename_i b p u ha hx
    split at hq
    ·rename_i kb xs n hb hxs hn
     split at hq
     ·split at hq
      ·rename_i g kn hkn
       cases hq
       cases g<;>simp only[yK,Bool.false_eq_true,if_false,if_true,reduceCtorEq,oI,Prod.mk.injEq]at h
       obtain⟨rfl,rfl,rfl⟩:=h
       exact⟨rfl,.inr ⟨b,kn,⟨t,⟨ty,x,hst⟩,by rw[ha];rfl⟩,rfl⟩⟩
      ·cases hq
     ·cases hq
    ·cases hq
   ·rename_i b off i m f u ha hx
    split at hq
    ·rename_i kb xs n hb hxs hn
     split at hq
     ·split at hq
      ·rename_i g kn hkn
       cases hq
       cases g<;>simp only[yK,Bool.false_eq_true,if_false,if_true,reduceCtorEq,oI,Prod.mk.injEq]at h
       obtain⟨rfl,rfl,rfl⟩:=h
       exact⟨rfl,.inr ⟨b,kn,⟨t,⟨ty,x,hst⟩,by rw[ha];rfl⟩,rfl⟩⟩
      ·cases hq
     ·cases hq
    ·cases hq
   ·cases hq
 ·rw[hc]at h
  cases h
  exact⟨rfl,.inl ⟨rfl,hc⟩⟩
 ·rw[hc]at h;cases h
theorem behA{B:List Nat}(hk:xn o.op=3)(h:valO Γ I ops (.avoid B) o tmps H s=some (v,H',s')) : ∀b∈B,blkAt H' b=blkAt H b:=by
 intro b hb
 rcases vf (Γ:=Γ) (I:=I) (ops:=ops) (.avoid B) o tmps with hc|hc|hc
 ·rw[hc]at h
  cases hq:xf P o.op (xO tmps) H with
  | none=>rw[hq]at h;cases h
  | some q=>
   obtain⟨h1,h2⟩:=qb hk hq
   rw[hq]at h
   cases q with
   | val g u H0=>exact absurd rfl (h1 g u H0)
   | port p=>
    simp only[yK]at h
    cases hs:I.step p s with
    | none=>rw[hs]at h;cases h
    | some vs=>rw[hs]at h;cases h;rfl
   | call f args=>
    simp only[yK]at h
    split at h
    ·rename_i hav
     unfold xcN at hav
     split at hav
     ·rename_i l hl
      rw[List.all_eq_true]at hav
      have:=hav b hb
      simp only[Bool.and_eq_true,Bool.not_eq_true',decide_eq_true_eq]at this
      obtain⟨hnl,hlt⟩:=this
      have hnl':b∉l:=fun hm=>by rw[List.contains_iff_mem.2 hm]at hnl;cases hnl
      unfold xoD at h
      cases ht:kA Γ f args H with
      | none=>rw[ht]at h;cases h
      | some S=>
       rw[ht]at h
       simp only at h
       cases hr:S.t.run I.step s with
       | none=>rw[hr]at h;cases h
       | some r=>
        rw[hr]at h
        simp only at h
        cases hf:S.f r.1 with
        | none=>rw[hf]at h;cases h
        | some q=>
         rw[hf]at h
         cases h
         exact xlp ht hf hl hnl' hlt
     ·cases hav
    ·cases h
 ·rw[hc]at h;cases h;rfl
 ·rw[hc]at h;cases h
theorem xfO{H:Heap}{k:Blk}{b:Nat}(h:b<H.length):blkAt (newB H k) b=blkAt H b:=by
 rw[yI,if_neg (by omega)]
def xrU(tmps:Tm)(pu:PM)(x:Oper):Prop:=xn x.op=1/\ ∃B,(pu = .avoid B\/pu = .keep B)/\ ∀ty t b (p:Nat),x.op = .load ty (.tmp t)->ptrB (getT tmps t)=some b->b∈B
theorem xw1{x y:Oper}{px py:PM}{vx vy:V}{Hx Hy:Heap}{sx sy:σ}(hk:xaq (xn x.op) (xn y.op)=true)(hx:valO Γ I ops px x tmps H s=some (vx,Hx,sx))(hy:valO Γ I ops py y tmps Hx sx=some (vy,Hy,sy))
  (hpx:xn x.op=3->(xn y.op=1\/xn y.op=2)->px = .pure\/xrU tmps px y\/(xn y.op=2/\ ∃B,px = .keep B)) (hpy:xn y.op=3->(xn x.op=1\/xn x.op=2)->py = .pure\/xrU tmps py x\/(xn x.op=2/\ ∃B,py = .keep B)) (hs : ∀t b (p:Nat),ptrB (getT tmps t)=some b->b<H.length)
  (hcl:Closed tmps H) (hdf:xn x.op=1->xn y.op=5 ->∀tx t tz z q b (p:Nat) c,x.op = .load tx (.tmp t)->y.op = .store tz (.tmp z) q->ptrB (getT tmps t)=some b->ptrB (getT tmps z)=some c->b≠c) :
  ∃H1 s1,valO Γ I ops py y tmps H s=some (vy,H1,s1)/\valO Γ I ops px x tmps H1 s1=some (vx,Hy,sy):=by
 have idleX:Hx=H->sx=s->Idle Γ I ops px x tmps vx ->∃H1 s1,valO Γ I ops py y tmps H s=some (vy,H1,s1)/\valO Γ I ops px x tmps H1 s1=some (vx,Hy,sy):=by
  rintro rfl rfl hi
  exact⟨Hy,sy,hy,hi _ _⟩
 have idleY:Hy=Hx->sy=sx->Idle Γ I ops py y tmps vy ->∃H1 s1,valO Γ I ops py y tmps H s=some (vy,H1,s1)/\valO Γ I ops px x tmps H1 s1=some (vx,Hy,sy):=by
  rintro rfl rfl hi
  exact⟨H,s,hi _ _,hx⟩
 by_cases hx0:xn x.op=0
 ·obtain⟨h1,h2,h3⟩:=beh0 hx0 hx
  exact idleX h1 h2 h3
 by_cases hy0:xn y.op=0
 ·obtain⟨h1,h2,h3⟩:=beh0 hy0 hy
  exact idleY h1 h2 h3
 have hcases:(xn x.op=1/\xn y.op=1)\/(xn x.op=1/\xn y.op=2)\/(xn x.op=1/\xn y.op=3)\/(xn x.op=2/\xn y.op=1)\/(xn x.op=3/\xn y.op=1)\/(xn x.op=2/\xn y.op=3)\/(xn x.op=3/\xn y.op=2)\/(xn x.op=1/\xn y.op=5):=by
  simp only[xaq,Bool.or_eq_true,Bool.and_eq_true,beq_iff_eq,decide_eq_true_eq]at hk
  omega
 rcases hcases with⟨k1,k2⟩|⟨k1,k2⟩|⟨k1,k2⟩|⟨k1,k2⟩|⟨k1,k2⟩|⟨k1,k2⟩|⟨k1,k2⟩|⟨k1,k2⟩
 ·obtain⟨rfl,rfl,h3⟩:=beh1 k1 hx
  obtain⟨rfl,rfl,h6⟩:=beh1 k2 hy
  exact⟨_,_,hy,hx⟩
 ·obtain⟨rfl,rfl,h3⟩:=beh1 k1 hx
  obtain⟨rfl,h6⟩:=beh2 k2 hy
  rcases h3 with h3|⟨b,⟨t,p,_,hb⟩,h3⟩
  ·exact idleX rfl rfl h3
  ·rcases h6 with⟨rfl,h6⟩|⟨k,rfl,h6⟩
   ·exact idleY rfl rfl h6
   ·exact⟨_,_,hy,h3 _ _ (xfO (hs t b p hb))⟩
 ·obtain⟨rfl,rfl,h3⟩:=beh1 k1 hx
  rcases h3 with h3|⟨b,⟨t,p,⟨ty,hop⟩,hb⟩,h3⟩
  ·exact idleX rfl rfl h3
  ·rcases hpy k2 (.inl k1)with rfl|⟨_,B,rfl|rfl,hB⟩|⟨h0,_⟩
   ·obtain⟨rfl,h6⟩:=beh3 k2 hy
    exact⟨_,_,hy,h3 _ _ rfl⟩
   ·exact⟨_,_,hy,h3 _ _ (behA k2 hy b (hB ty t b p hop hb))⟩
   ·exact⟨_,_,hy,h3 _ _ ((KV k2 hy).2 b (hB ty t b p hop hb))⟩
   ·omega
 ·obtain⟨rfl,h3⟩:=beh2 k1 hx
  obtain⟨rfl,rfl,h6⟩:=beh1 k2 hy
  rcases h3 with⟨rfl,h3⟩|⟨k,rfl,h3⟩
  ·exact idleX rfl rfl h3
  ·rcases h6 with h6|⟨b,⟨t,p,_,hb⟩,h6⟩
   ·exact idleY rfl rfl h6
   ·exact⟨H,_,h6 _ _ (xfO (hs t b p hb)).symm,hx⟩
 ·obtain⟨rfl,rfl,h6⟩:=beh1 k2 hy
  rcases h6 with h6|⟨b,⟨t,p,⟨ty,hop⟩,hb⟩,h6⟩
  ·exact idleY rfl rfl h6
  ·rcases hpx k1 (.inl k2)with rfl|⟨_,B,rfl|rfl,hB⟩|⟨h0,_⟩
   ·obtain⟨rfl,h3⟩:=beh3 k1 hx
    exact⟨_,_,h6 _ _ rfl,hx⟩
   ·exact⟨_,_,h6 _ _ (behA k1 hx b (hB ty t b p hop hb)).symm,hx⟩
   ·exact⟨_,_,h6 _ _ ((KV k1 hx).2 b (hB ty t b p hop hb)).symm,hx⟩
   ·omega
 ·obtain⟨rfl,h3⟩:=beh2 k1 hx
  rcases hpy k2 (.inr k1)with rfl|h|⟨_,B,rfl⟩
  ·obtain⟨rfl,h6⟩:=beh3 k2 hy
   rcases h3 with⟨rfl,h3⟩|⟨k,rfl,h3⟩
   ·exact idleX rfl rfl h3
   ·exact⟨H,_,h6 H,h3 _ _ rfl⟩
  ·have:=h.1;omega
  ·rcases h3 with⟨rfl,h3⟩|⟨k,rfl,h3⟩
   ·exact idleX rfl rfl h3
   ·rw[behK k2 hcl,oM]at hy
    obtain⟨⟨v1,H1,s1⟩,h4,h5⟩:=hy
    cases h5
    exact⟨H1,s1,h4,h3 _ _ (KV k2 h4).1⟩
 ·rcases hpx k1 (.inr k2)with rfl|h|⟨_,B,rfl⟩
  ·obtain⟨rfl,h3⟩:=beh3 k1 hx
   obtain⟨rfl,h6⟩:=beh2 k2 hy
   rcases h6 with⟨rfl,h6⟩|⟨k,rfl,h6⟩
   ·exact idleY rfl rfl h6
   ·exact⟨_,_,h6 _ _ rfl,h3 _⟩
  ·have:=h.1;omega
  ·obtain⟨rfl,h6⟩:=beh2 k2 hy
   rcases h6 with⟨rfl,h6⟩|⟨k,rfl,h6⟩
   ·exact idleY rfl rfl h6
   ·exact⟨newB H k,s,h6 _ _ (KV k1 hx).1.symm,by rw[behK k1 hcl,hx];rfl⟩
 ·obtain⟨rfl,rfl,h3⟩:=beh1 k1 hx
  obtain⟨rfl,h6⟩:=beh5 k2 hy
  rcases h3 with h3|⟨b,⟨t,p,⟨ty,hop⟩,hb⟩,h3⟩
  ·exact idleX rfl rfl h3
  ·rcases h6 with⟨rfl,h6⟩|⟨c,kn,⟨z,⟨ty',q,hop'⟩,hc⟩,rfl⟩
   ·exact idleY rfl rfl h6
   ·have hne:=hdf k1 k2 ty t ty' z q b p c hop hop' hb hc
    exact⟨_,_,hy,h3 _ _ (by rw[yo,xH,xH,List.getElem?_set_ne (fun hh=>hne hh.symm)])⟩
theorem xu9(l:Tm){x y:Option Tmp}(v u:V)(h : ∀d,x=some d->y≠some d):putT (putT l x v) y u=putT (putT l y u) x v:=by
 cases x with
 | none=>cases y<;>rfl
 | some d=>
  cases y with
  | none=>rfl
  | some e=>
   have hne:d≠e:=fun he=>h d rfl (by rw[he])
   simp only[putT,setT]
   rw[blt_eq,blt_eq]
   by_cases h1:d<l.n<;>by_cases h2:e<l.n<;>simp only[h1,h2,decide_true,decide_false,cond_true,cond_false,blt_eq]
   rw[xas 9 _ _ _ _ _ hne]
end
end Lx
namespace Lx
open Go
/-! ### what lies ahead of what -/
def qS(acc:Array Nat)(o:Oper):Nat:=o.after.foldl (fun s e=>if Region.binds .any e then s ||| 2 ^ e.on ||| acc.getD e.on 0 else s) 0
theorem xoG(acc:Array Nat)(d:Nat) : ∀ (l:List Edge) (m:Nat),(l.foldl (fun s e=>if Region.binds .any e then s ||| 2 ^ e.on ||| acc.getD e.on 0 else s) m).testBit d=true->m.testBit d=true\/ ∃e∈l,Region.binds .any e=true/\(e.on=d\/(acc.getD e.on 0).testBit d=true)
 | [],m,h =>.inl h
 | e::l,m,h=>by
  rw[List.foldl_cons]at h
  rcases xoG acc d l _ h with h|⟨e',h1,h2⟩
  ·by_cases hb:Region.binds .any e=true
   ·rw[if_pos hb]at h
    simp only[Nat.testBit_or,Bool.or_eq_true,Nat.testBit_two_pow,decide_eq_true_eq]at h
    rcases h with(h|h)|h
    ·exact .inl h
    ·exact .inr ⟨e,by simp,hb,.inl h⟩
    ·exact .inr ⟨e,by simp,hb,.inr h⟩
   ·rw[if_neg hb]at h
    exact .inl h
  ·exact .inr ⟨e',by simp[h1],h2⟩
theorem xcp : ∀ (l p:List Oper) (acc:Array Nat),acc.size=p.length->(∀ (i:Nat) o d,p[i]? = some o->(acc.getD i 0).testBit d=true ->∃e∈o.after.toList,Region.binds .any e=true/\(e.on=d\/(acc.getD e.on 0).testBit d=true))->
  ∀ (i:Nat) o d,(p++l)[i]? = some o->((l.foldl (fun acc o=>acc.push (qS acc o)) acc).getD i 0).testBit d=true->
   ∃e∈o.after.toList,Region.binds .any e=true/\(e.on=d\/((l.foldl (fun acc o=>acc.push (qS acc o)) acc).getD e.on 0).testBit d=true)
 | [],p,acc,hs,h,i,o,d,hi,hb=>h i o d (by simpa using hi) hb
 | x::l,p,acc,hs,h,i,o,d,hi,hb=>by
  rw[List.foldl_cons]at hb |-
  refine xcp l (p ++ [x]) (acc.push (qS acc x)) (by simp[hs]) (fun i o d hi hb =>?_) i o d (by simpa using hi) hb
  have old : ∀j,j<acc.size->(acc.push (qS acc x)).getD j 0=acc.getD j 0:=by
   intro j hj
   simp only[Array.getD_eq_getD_getElem?,Array.getElem?_push,if_neg (Nat.ne_of_lt hj)]
  have keep : ∀j d,(acc.getD j 0).testBit d=true->((acc.push (qS acc x)).getD j 0).testBit d=true:=by
   intro j d hj
   by_cases hlt:j<acc.size
   ·rw[old j hlt];exact hj
   ·rw[Array.getD_eq_getD_getElem?,Array.getElem?_eq_none (by omega)]at hj
    simp at hj
  by_cases hlt:i<p.length
  ·rw[List.getElem?_append_left hlt]at hi
   rw[old i (by omega)]at hb
   obtain⟨e,h1,h2,h3⟩:=h i o d hi hb
   exact⟨e,h1,h2,h3.imp id (keep _ _)⟩
  ·have hi':i=p.length:=by
    have:=(List.getElem?_eq_some_iff.1 hi).1
    simp at this
    omega
   subst hi'
   simp at hi
   subst hi
   have e1:(acc.push (qS acc x)).getD p.length 0=qS acc x:=by
    rw[<- hs]
    simp[Array.getD_eq_getD_getElem?]
   rw[e1]at hb
   unfold qS at hb
   rw[<- Array.foldl_toList]at hb
   rcases xoG acc d _ _ hb with hb|⟨e,h1,h2,h3⟩
   ·simp at hb
   ·exact⟨e,h1,h2,h3.imp id (keep _ _)⟩
theorem Xc(ops:Array Oper)(i:Nat)(o:Oper)(d:Nat)(hi:ops[i]? = some o)(hb:((Region.before ops).getD i 0).testBit d=true) :
  ∃e∈o.after.toList,Region.binds .any e=true/\(e.on=d\/((Region.before ops).getD e.on 0).testBit d=true):=by
 have e1:Region.before ops=ops.toList.foldl (fun acc o=>acc.push (qS acc o)) #[]:=by
  unfold Region.before
  rw[<- Array.foldl_toList]
  rfl
 rw[e1]at hb |-
 exact xcp ops.toList [] #[] rfl (fun i o d h=>by simp at h) i o d (by simpa using hi) hb
theorem WZ{ops:Array Oper}{S:Nat->Prop}(hS : ∀ (j:Nat) o,S j->ops[j]? = some o ->∀e∈o.after.toList,Region.binds .any e=true->S e.on)
  (hdec : ∀ (j:Nat) o,ops[j]? = some o ->∀e∈o.after.toList,Region.binds .any e=true->e.on<j) : ∀ (n i:Nat) o,i<=n->ops[i]? = some o->(∀e∈o.after.toList,Region.binds .any e=true->S e.on) ->∀d,¬S d->((Region.before ops).getD i 0).testBit d=false
 | 0,i,o,hn,hi,hr,d,hd=>by
  obtain rfl:i=0:=by omega
  cases hb:((Region.before ops).getD 0 0).testBit d with
  | false=>rfl
  | true=>
   obtain⟨e,h1,h2,_⟩:=Xc ops 0 o d hi hb
   exact absurd (hdec 0 o hi e h1 h2) (by omega)
 | n+1,i,o,hn,hi,hr,d,hd=>by
  cases hb:((Region.before ops).getD i 0).testBit d with
  | false=>rfl
  | true=>
   obtain⟨e,h1,h2,h3⟩:=Xc ops i o d hi hb
   have hlt:=hdec i o hi e h1 h2
   have hSe:=hr e h1 h2
   rcases h3 with h3|h3
   ·exact absurd (h3▸hSe) hd
   ·have hlt':e.on<ops.size:=by have:=(Array.getElem?_eq_some_iff.1 hi).1;omega
    have hoe:=Array.getElem?_eq_getElem hlt'
    rw[WZ hS hdec n e.on _ (by omega) hoe (fun e' h4 h5=>hS e.on _ hSe hoe e' h4 h5) d hd]at h3
    cases h3
theorem xva{ops:Array Oper}(hdec : ∀ (j:Nat) o,ops[j]? = some o ->∀e∈o.after.toList,Region.binds .any e=true->e.on<j) : ∀ (n i d:Nat),i<=n->i<=d->i<ops.size->((Region.before ops).getD i 0).testBit d=false
 | n,i,d,hn,hd,hi=>WZ (S:=fun j=>j<i) (fun j o hj ho e h1 h2=>by have:=hdec j o ho e h1 h2;omega) hdec i i _ (Nat.le_refl _) (Array.getElem?_eq_getElem hi) (fun e h1 h2=>hdec i _ (Array.getElem?_eq_getElem hi) e h1 h2) d (by omega)
section
variable{P:Program}{σ:Type}{I:Port P σ}{Γ:xQ}{S0:Bool->Nat->Prop}{w0:World}{e0:Env}{ops:Array Oper}{β:Type}{k:St->T β}{b:Array Nat}{D:List Nat}
theorem kX{A:List (Nat×Nat)}{i:Nat}{o:Oper}{l:List Nat}{tmps:Tm}{H:Heap}{s:σ}(ho:ops[i]? = some o):(yG P Γ ops b D A (i::l) ⟨tmps,H⟩ k).run I.step s=match valO Γ I ops (Zs ops b D A i) o tmps H s with
  | some r=>(yG P Γ ops b D A l ⟨putT tmps o.dst r.1,r.2.1⟩ k).run I.step r.2.2
  | none=>none:=by
 simp only[yG,ho]
 rw[Xa,T.run_bind,WX]
 cases valO Γ I ops (Zs ops b D A i) o tmps H s<;>rfl
def Alive(I:Port P σ)(st:St)(s:σ):Prop :=∃S0 w0 e0 e F a w,Cfg I S0 w0 e0 e st s F a w
theorem xvb{o:Oper}{K:Act->World->Prop}{a:Act}{w:World}(h:jF P ops (fun _ _ _=>False) o K a w) : ∃a' w',K a' w':=by
  unfold jF at h
  split at h
  . unfold Oper.wp at h
    generalize(execOp a.eval o).run P w=r at h
    cases r with
    | ok n w'=>
      cases n<;>simp only[Oper.upon]at h<;>first
        | exact⟨_,_,h⟩
        | (obtain⟨en,w'',fr,hR,_⟩:=h []
           cases en<;>simp only at hR<;>first
            | exact⟨_,_,hR⟩
            | exact hR.elim
            | (obtain⟨_,_,h⟩:=hR;exact h.elim))
        | (obtain⟨v,w'',hR,_⟩:=h default [];exact⟨_,_,hR⟩)
        | exact h.elim
    | halt x w'=>cases x<;>simp only[Oper.upon]at h
  . exact⟨_,_,h⟩
theorem Alive.next(hΓ : ∀f m,Γ f=some m->SoundF I f m){pu:PM}{o:Oper}{tmps:Tm}{H:Heap}{s:σ}{r:V×Heap×σ}(h:Alive I ⟨tmps,H⟩ s)(hv:valO Γ I ops pu o tmps H s=some r):Alive I ⟨putT tmps o.dst r.1,r.2.1⟩ r.2.2:=by
 obtain⟨S0,w0,e0,e,F,a,w,C⟩:=h
 have hrun:(yO P Γ ops pu o ⟨tmps,H⟩ T.ret).run I.step s=some ((⟨putT tmps o.dst r.1,r.2.1⟩:St),r.2.2):=by rw[WX,hv];rfl
 obtain⟨st',s',h1,_,h3⟩:=KU hΓ C hrun
 simp only[T.run,oI,Prod.mk.injEq]at h1
 obtain⟨rfl,rfl⟩:=h1
 obtain⟨a',w',e',F',C'⟩:=xvb (h3 (fun a' w' =>∃e' F',Cfg I S0 w0 e0 e' ⟨putT tmps o.dst r.1,r.2.1⟩ r.2.2 F' a' w') _ fun e' F' a' w' C'=>⟨e',F',C'⟩)
 exact⟨S0,w0,e0,e',F',a',w',C'⟩
mutual
theorem KW{pv:Value}{e:Env} : ∀ (c:C) (v:Value),den pv e c=some v ->∀b∈idsC c,b<e.length
 | .bool _,v,h,b,hb | .int _ _,v,h,b,hb | .nilp,v,h,b,hb | .nils,v,h,b,hb | .nilf,v,h,b,hb | .nili,v,h,b,hb | .port,v,h,b,hb=>by simp[idsC]at hb
 | .ptr c o,v,h,b,hb=>by
  simp only[idsC,List.mem_singleton]at hb;subst hb
  simp only[den,oM]at h;obtain⟨r,h1,_⟩:=h
  exact(List.getElem?_eq_some_iff.1 h1).1
 | .sl c o n m,v,h,b,hb=>by
  simp only[idsC,List.mem_singleton]at hb;subst hb
  simp only[den,oM]at h;obtain⟨r,h1,_⟩:=h
  exact(List.getElem?_eq_some_iff.1 h1).1
 | .slg c o n,v,h,b,hb=>by
  simp only[idsC,List.mem_singleton]at hb;subst hb
  simp only[den,Option.bind_eq_some_iff]at h;obtain⟨r,h1,_⟩:=h
  exact(List.getElem?_eq_some_iff.1 h1).1
 | .pr c o i n f,v,h,b,hb=>by
  simp only[idsC,List.mem_singleton]at hb;subst hb
  simp only[den,oM]at h;obtain⟨r,h1,_⟩:=h
  exact(List.getElem?_eq_some_iff.1 h1).1
 | .slw c o z n m,v,h,b,hb=>by
  simp only[idsC,List.mem_singleton]at hb;subst hb
  simp only[den,oM]at h;obtain⟨r,h1,_⟩:=h
  exact(List.getElem?_eq_some_iff.1 h1).1
 | .slr c n,v,h,b,hb=>by
  simp only[idsC,List.mem_singleton]at hb;subst hb
  simp only[den,Option.bind_eq_some_iff]at h;obtain⟨r,h1,_⟩:=h
  exact(List.getElem?_eq_some_iff.1 h1).1
 | .mp c,v,h,b,hb=>by
  simp only[idsC,List.mem_singleton]at hb;subst hb
  simp only[den,oM]at h;obtain⟨r,h1,_⟩:=h
  exact(List.getElem?_eq_some_iff.1 h1).1
 | .fn f caps,v,h,b,hb=>by
  simp only[den,oM]at h;obtain⟨vs,h1,_⟩:=h
  exact Xd caps vs h1 b (by simpa[idsC]using hb)
 | .meth s c,v,h,b,hb=>by
  simp only[den,oM]at h;obtain⟨u,h1,_⟩:=h
  exact KW c u h1 b (by simpa[idsC]using hb)
 | .ifc t c,v,h,b,hb=>by
  simp only[den,oM]at h;obtain⟨u,h1,_⟩:=h
  exact KW c u h1 b (by simpa[idsC]using hb)
theorem Xd{pv:Value}{e:Env} : ∀ (l:List C) (vs:List Value),denL pv e l=some vs ->∀b∈yF l,b<e.length
 | [],vs,h,b,hb=>by simp[yF]at hb
 | c::l,vs,h,b,hb=>by
  simp only[denL]at h
  split at h
  ·rename_i v hv
   split at h
   ·rename_i us hu
    simp only[yF,List.mem_append]at hb
    rcases hb with hb|hb
    ·exact KW c v hv b hb
    ·exact Xd l us hu b hb
   ·cases h
  ·cases h
end
theorem xvc{pv:Value}{e:Env}(x:V1)(v:Value)(h:yD pv e x=some v) : ∀b∈xsS x,b<e.length:=by
 cases x with
 | c a=>exact KW a v h
 | agg l=>simp only[yD,oM]at h;obtain⟨vs,h1,_⟩:=h;exact Xd l vs h1
theorem xoH{pv:Value}{e:Env}(x:V)(v:Value)(h:denV pv e x=some v) : ∀b∈idsV x,b<e.length:=by
 cases x with
 | c a=>exact KW a v h
 | agg l=>simp only[denV,oM]at h;obtain⟨vs,h1,_⟩:=h;exact Xd l vs h1
 | tup l=>
  simp only[denV,oM]at h
  obtain⟨vs,h1,_⟩:=h
  intro b hb
  simp only[idsV,List.mem_flatMap]at hb
  obtain⟨y,hy,hb⟩:=hb
  obtain⟨i,hi⟩:=List.getElem?_of_mem hy
  obtain⟨z,h2,_⟩:=yu _ _ _ h1 i y hi
  exact xvc y z h2 b hb
theorem Alive.ptr{tmps:Tm}{H:Heap}{s:σ}(h:Alive I ⟨tmps,H⟩ s) : ∀t b (p:Nat),ptrB (getT tmps t)=some b->b<H.length:=by
 obtain⟨S0,w0,e0,e,F,a,w,C⟩:=h
 intro t b p hb
 have hl:=C.rel.emb.len
 simp only at hl
 have main : ∀v,getT tmps t=some v->b∈idsV v->b<H.length:=by
  intro v hv hm
  obtain⟨rv,_,h2⟩:=C.rel.tmps t v hv
  rw[hl];exact xoH v rv h2 b hm
 unfold ptrB at hb
 split at hb
 ·rename_i c o hv;cases hb;exact main _ hv (by simp[idsV,idsC])
 ·rename_i c o i n f hv;cases hb;exact main _ hv (by simp[idsV,idsC])
 ·cases hb
theorem Alive.closed{tmps:Tm}{H:Heap}{s:σ}(h:Alive I ⟨tmps,H⟩ s):Closed tmps H:=by
 obtain⟨S0,w0,e0,e,F,a,w,C⟩:=h
 have hl:=C.rel.emb.len
 simp only at hl
 refine⟨fun t v hv b hb =>?_,fun i k hk b hb =>?_⟩
 ·obtain⟨rv,_,h2⟩:=C.rel.tmps t v hv
  rw[hl];exact xoH v rv h2 b hb
 ·obtain⟨r,cs,_,hd,_⟩:=C.rel.emb.lies i k hk
  have hok:=C.rel.emb.ok i k hk
  cases ht:k.tab with
  | none=>
   rw[Blk.real_none ht]at hd
   rw[hl];exact Xd k.cells cs hd b hb
  | some t=>rw[hok t ht]at hb;simp[yF]at hb
def Off(ops:Array Oper)(A:List (Nat×Nat))(pu:PM)(y:Oper):Prop:=pu = .pure\/(∃q B,xn y.op=1/\xR ops y.op=some q/\(pu = .avoid B\/pu = .keep B)/\ ∀c,(q,c)∈A->c∈B)\/(xn y.op=2/\ ∃B,pu = .keep B)
def xtp(ops:Array Oper)(b:Array Nat)(D:List Nat)(A:List (Nat×Nat))(i j:Nat):Prop :=∃x y,ops[i]? = some x/\ops[j]? = some y/\Wf ops x y=true/\
 (xn x.op=3->(xn y.op=1\/xn y.op=2)->Off ops A (Zs ops b D A i) y)/\
 (xn y.op=3->(xn x.op=1\/xn x.op=2)->Off ops A (Zs ops b D A j) x)/\
 (xn x.op=1->xn y.op=5 ->∃q q',xR ops x.op=some q/\xR ops y.op=some q'/\ ∀c c',(q,c)∈A->(q',c')∈A->c≠c')
def HeldA(ops:Array Oper)(A:List (Nat×Nat))(tmps:Tm):Prop :=∀ (i:Nat) o q l c,ops[i]? = some o->xR ops o.op=some q->vI ops 6 q=some l->c∈l ->∀b,blkB (getT tmps c)=some b->(q,b)∈A
theorem blkB_of{v:Option V}{b:Nat}(h:ptrB v=some b):blkB v=some b:=by
 unfold ptrB at h
 split at h
 ·cases h;rfl
 ·cases h;rfl
 ·cases h
theorem xfP{ops:Array Oper} : ∀ (n q:Nat) (l:List Nat),vI ops n q=some l->q∈l
 | 0,q,l,h=>by cases h
 | n+1,q,l,h=>by
  unfold vI at h
  split at h
  ·cases h;simp
  ·split at h
   ·simp only[oM]at h;obtain⟨l',_,rfl⟩:=h;simp
   ·simp only[oM]at h;obtain⟨l',_,rfl⟩:=h;simp
   ·simp only[oM]at h;obtain⟨l',_,rfl⟩:=h;simp
   ·simp only[oM]at h;obtain⟨l',_,rfl⟩:=h;simp
   ·cases h
  ·cases h
def xfQ(o:Op)(x:Nat):Prop:=(∃t f,o = .fieldAddr t (.tmp x) f)\/(∃t ix,o = .indexAddr t (.tmp x) ix)\/o = .move (.tmp x)\/o = .nilCheck (.tmp x)
theorem xfR{ops:Array Oper}{j:Nat}{o:Oper}{c:Nat}(ho:ops[j]? = some o)(hd:o.dst=some c) : ∀ (n q:Nat) (l:List Nat),vI ops n q=some l->c∈l ->∃x∈l,xfQ o.op x
 | 0,q,l,h,hc=>by cases h
 | n+1,q,l,h,hc=>by
  have hmem:c=q->o∈ops.toList.filter fun o=>o.dst==some q:=by
   rintro rfl
   rw[List.mem_filter]
   exact⟨by rw[Array.mem_toList_iff];exact Array.mem_of_getElem? ho,by simp[hd]⟩
  unfold vI at h
  split at h
  ·rename_i hf
   cases h
   simp only[List.mem_singleton]at hc
   have:=hmem hc
   rw[hf]at this
   cases this
  ·rename_i o' hf
   have main : ∀x,(vI ops n x).map (fun l=>q::l)=some l->(o=o'->xfQ o.op x) ->∃x∈l,xfQ o.op x:=by
    intro x hm hop
    simp only[oM]at hm
    obtain⟨l',h1,rfl⟩:=hm
    rcases List.mem_cons.1 hc with hq|hc'
    ·have:=hmem hq
     rw[hf,List.mem_singleton]at this
     exact⟨x,List.mem_cons_of_mem _ (xfP n x l' h1),hop this⟩
    ·obtain⟨y,h2,h3⟩:=xfR ho hd n x l' h1 hc'
     exact⟨y,List.mem_cons_of_mem _ h2,h3⟩
   split at h
   ·rename_i t x f hop
    exact main x h fun he =>.inl ⟨t,f,by rw[he,hop]⟩
   ·rename_i t x ix hop
    exact main x h fun he =>.inr (.inl ⟨t,ix,by rw[he,hop]⟩)
   ·rename_i x hop
    exact main x h fun he =>.inr (.inr (.inl (by rw[he,hop])))
   ·rename_i x hop
    exact main x h fun he =>.inr (.inr (.inr (by rw[he,hop])))
   ·cases h
  ·cases h
theorem ev_root{P:Program}{o:Op}{x:Nat}{tmps:Tm}{H:Heap}{q:Stp}(ho:xfQ o x)(h:xf P o (xO tmps) H=some q) :
    ∃g v,q = .val g v H/\ ∀b,blkB (some v)=some b->blkB (getT tmps x)=some b:=by
  rcases ho with⟨t,f,rfl⟩|⟨t,ix,rfl⟩|rfl|rfl
  rotate_right 2
  . simp only[xf,oM]at h
    obtain⟨v,h1,rfl⟩:=h
    refine⟨_,_,rfl,fun b hb =>?_⟩
    have e1:xO tmps (.tmp x)=getT tmps x:=rfl
    rw[<- e1,h1];exact hb
  . have e1:xO tmps (.tmp x)=getT tmps x:=rfl
    simp only[xf,e1]at h
    split at h
    . cases h;exact⟨_,_,rfl,fun b hb=>by cases hb⟩
    . cases h;exact⟨_,_,rfl,fun b hb=>by cases hb⟩
    . cases h;exact⟨_,_,rfl,fun b hb=>by cases hb⟩
    . split at h
      . split at h
        . cases h;exact⟨_,_,rfl,fun b hb=>by cases hb⟩
        . cases h
      . cases h
    . rename_i v _ _ _ _ hx
      cases h
      exact⟨_,_,rfl,fun b hb=>by rw[hx];exact hb⟩
    . cases h
  . simp only[xf,xO]at h
    split at h
    . rename_i fs b o _ hx
      split at h
      . split at h
        . split at h
          . cases h
          . cases h
            refine⟨_,_,rfl,fun b' hb =>?_⟩
            rw[hx];exact hb
        . cases h
      . cases h
    . rename_i fs b off i m o _ hx
      split at h
      . split at h
        . split at h
          . cases h
          . cases h
            refine⟨_,_,rfl,fun b' hb =>?_⟩
            rw[hx];exact hb
        . cases h
      . cases h
    . cases h
  . simp only[xf]at h
    have e1:xO tmps (.tmp x)=getT tmps x:=rfl
    rw[e1]at h
    split at h
    all_goals first
      | cases h;done
      | (rename_i hx _
         simp only[oM]at h
         obtain⟨n,_,rfl⟩:=h
         refine⟨_,_,rfl,fun b' hb =>?_⟩
         rw[hx];exact hb)
      | (rename_i hx _
         split at h
         . cases h
           refine⟨_,_,rfl,fun b' hb =>?_⟩
           rw[hx];exact hb
         . cases h)
theorem xw2{pu:PM}{o:Oper}{x:Nat}{tmps:Tm}{H:Heap}{s:σ}{r:V×Heap×σ}(ho:xfQ o.op x)(h:valO Γ I ops pu o tmps H s=some r) :
  ∀b,blkB (some r.1)=some b->blkB (getT tmps x)=some b:=by
 have main:yK Γ I pu H s (xf P o.op (xO tmps) H)=some r ->∀b,blkB (some r.1)=some b->blkB (getT tmps x)=some b:=by
  intro h
  cases hq:xf P o.op (xO tmps) H with
  | none=>rw[hq]at h;cases h
  | some q=>
   obtain⟨g,v,rfl,hv⟩:=ev_root ho hq
   rw[hq]at h
   simp only[yK]at h
   split at h
   ·cases h;exact hv
   ·cases h
 unfold valO at h
 split at h
 ·exact main h
 ·split at h
  ·cases h
  ·split at h
   ·split at h
    ·exact main h
    ·cases h;intro b hb;cases hb
   ·cases h;intro b hb;cases hb
   ·cases h
theorem HeldA.ptr{A:List (Nat×Nat)}{tmps:Tm}(h:HeldA ops A tmps){i:Nat}{x:Oper}{q b:Nat}(hx:ops[i]? = some x)(hq:xR ops x.op=some q)(hb:ptrB (getT tmps q)=some b):(q,b)∈A:=by
 have hs:(vI ops 6 q).isSome=true:=by
  unfold xR at hq
  split at hq
  ·split at hq
   ·rename_i hh;cases hq;exact hh
   ·cases hq
  ·split at hq
   ·rename_i hh;cases hq;exact hh
   ·cases hq
  ·cases hq
 obtain⟨l,hl⟩:=Option.isSome_iff_exists.1 hs
 exact h i x q l q hx hq hl (xfP _ _ _ hl) b (blkB_of hb)
theorem Xe{o:Op}{q:Nat}(h:xR ops o=some q):(∃ty,o = .load ty (.tmp q))\/ ∃ty x,o = .store ty (.tmp q) x:=by
 unfold xR at h
 split at h
 ·rename_i ty q'
  split at h
  ·cases h
   exact .inl ⟨ty,rfl⟩
  ·cases h
 ·rename_i ty q' x
  split at h
  ·cases h
   exact .inr ⟨ty,x,rfl⟩
  ·cases h
 ·cases h
theorem HeldA.put{A:List (Nat×Nat)}{tmps:Tm}(h:HeldA ops A tmps){j:Nat}{o:Oper}{pu:PM}{H:Heap}{s:σ}{r:V×Heap×σ}(ho:ops[j]? = some o)(hv:valO Γ I ops pu o tmps H s=some r):HeldA ops A (putT tmps o.dst r.1):=by
 intro i x q l c hx hq hl hc b hb
 cases hd:o.dst with
 | none=>rw[hd]at hb;exact h i x q l c hx hq hl hc b hb
 | some d=>
  rw[hd]at hb
  simp only[putT]at hb
  by_cases hcd:c=d
  ·subst hcd
   obtain⟨y,hy,hop⟩:=xfR ho hd 6 q l hl hc
   cases hg:getT (setT tmps c r.1) c with
   | none=>rw[hg]at hb;cases hb
   | some u=>
    obtain⟨_,rfl⟩:=wO hg
    rw[hg]at hb
    exact h i x q l y hx hq hl hy b (xw2 hop hv b hb)
  ·rw[yt _ _ hcd]at hb
   exact h i x q l c hx hq hl hc b hb
theorem HeldA.avoids{A:List (Nat×Nat)}{tmps:Tm}(h:HeldA ops A tmps){i:Nat}{x:Oper}(hx:ops[i]? = some x){pu:PM}(hp:Off ops A pu x):pu = .pure\/xrU tmps pu x\/(xn x.op=2/\ ∃B,pu = .keep B):=by
 rcases hp with hp|⟨q,B,h1,h2,h3,h4⟩|hp
 ·exact .inl hp
 ·refine .inr (.inl ⟨h1,B,h3,fun ty t b p hop hg=>h4 b ?_⟩)
  obtain⟨ty',h5⟩|⟨ty',y',h5⟩:=Xe h2
  ·rw[h5]at hop
   cases hop
   exact h.ptr hx h2 hg
  ·rw[h5]at hop;cases hop
 ·exact .inr (.inr hp)
theorem HeldA.diff{A:List (Nat×Nat)}{tmps:Tm}(h:HeldA ops A tmps){i j:Nat}{x y:Oper}(hx:ops[i]? = some x)(hy:ops[j]? = some y)(hd:xn x.op=1->xn y.op=5 ->∃q q',xR ops x.op=some q/\xR ops y.op=some q'/\ ∀c c',(q,c)∈A->(q',c')∈A->c≠c') :
  xn x.op=1->xn y.op=5 ->∀tx t tz z q b (p:Nat) c,x.op = .load tx (.tmp t)->y.op = .store tz (.tmp z) q->ptrB (getT tmps t)=some b->ptrB (getT tmps z)=some c->b≠c:=by
 intro k1 k5 tx t tz z w b p c hox hoy hb hc
 obtain⟨q,q',h1,h2,h3⟩:=hd k1 k5
 obtain⟨ty,h5⟩|⟨ty,u,h5⟩:=Xe h1
 ·rw[h5]at hox;cases hox
  obtain⟨ty',h6⟩|⟨ty',u,h6⟩:=Xe h2
  ·rw[h6]at hoy;cases hoy
  ·rw[h6]at hoy;cases hoy
   exact h3 b c (h.ptr hx h1 hb) (h.ptr hy h2 hc)
 ·rw[h5]at hox;cases hox
theorem Va(hΓ : ∀f m,Γ f=some m->SoundF I f m){A:List (Nat×Nat)}{j:Nat}{r:β×σ}{l2:List Nat} : ∀ (l1:List Nat) (tmps:Tm) (H:Heap) (s:σ),(∀i∈l1,xtp ops b D A i j)->HeldA ops A tmps->Alive I ⟨tmps,H⟩ s->
  (yG P Γ ops b D A (l1++j::l2) ⟨tmps,H⟩ k).run I.step s=some r->(yG P Γ ops b D A (j::(l1++l2)) ⟨tmps,H⟩ k).run I.step s=some r
 | [],tmps,H,s,hs,hA,ha,h=>h
 | i::l1,tmps,H,s,hs,hA,ha,h=>by
  obtain⟨x,y,hx,hy,hok,hp1,hp2,hp3⟩:=hs i (by simp)
  rw[List.cons_append,kX hx]at h
  split at h
  ·rename_i rx hrx
   have ih:=Va hΓ l1 _ _ _ (fun i' hi'=>hs i' (by simp[hi'])) (hA.put hx hrx) (ha.next hΓ hrx) h
   rw[kX hy]at ih
   split at ih
   ·rename_i ry hry
    simp only[Wf,Bool.and_eq_true]at hok
    obtain⟨a1,a2,a3⟩:=Oper.apart_spec hok.2
    rw[xoE (fun d hd=>a1 d hd)]at hry
    obtain⟨H1,s1,g1,g2⟩:=xw1 (vx:=rx.1) (vy:=ry.1) (Hx:=rx.2.1) (Hy:=ry.2.1) (sx:=rx.2.2) (sy:=ry.2.2) hok.1 hrx hry (fun k3 k12=>hA.avoids hy (hp1 k3 k12)) (fun k3 k12=>hA.avoids hx (hp2 k3 k12)) ha.ptr ha.closed (hA.diff hx hy hp3)
    rw[kX hy,g1]
    simp only
    rw[List.cons_append,kX hx,xoE (fun d hd=>a3 d hd),g2]
    simp only
    rw[xu9 _ _ _ (fun d hd he=>a2 d he hd)]
    exact ih
   ·cases ih
  ·cases h
theorem jt{ops:Array Oper}{i:Nat}{o:Oper}(h:ops[i]? = some o):(o,i)∈ops.toList.zipIdx:=by
 rw[List.mem_zipIdx_iff_getElem?]
 simpa using h
theorem Vb{ops:Array Oper}(hok:vl ops b=true) : ∀ (j:Nat) o,ops[j]? = some o ->∀e∈o.after.toList,Region.binds .any e=true->e.on<j:=by
 intro j o ho e he hb
 unfold vl at hok
 simp only[Bool.and_eq_true,List.all_eq_true]at hok
 have h1:=hok.1 (o,j) (jt ho)
 simp only[Array.all_eq_true_iff_forall_mem]at h1
 have h2:=h1 e (by simpa using he)
 simp only[hb,Bool.not_true,Bool.false_or,decide_eq_true_eq]at h2
 exact h2
theorem xoI{ops:Array Oper}(hok:vl ops b=true){i j:Nat}{x y:Oper}(hx:ops[i]? = some x)(hy:ops[j]? = some y)(hij:i<j)(hb:(b.getD j 0).testBit i=false):Wf ops x y=true:=by
 unfold vl at hok
 simp only[Bool.and_eq_true,List.all_eq_true]at hok
 have h1:=hok.2 (y,j) (jt hy) (x,i) (jt hx)
 simp only[hij,decide_true,Bool.not_true,Bool.false_or,hb]at h1
 exact h1
theorem xtq{b:Array Nat}{D:List Nat}{A:List (Nat×Nat)}{i j:Nat}{x y:Oper}(hx:ops[i]? = some x)(hy:ops[j]? = some y)(k3:xn x.op=3)(k12:xn y.op=1\/xn y.op=2)(hne:j≠i)(ho:jf b j i=false)(hD:j∉D) :
  Off ops A (Zs ops b D A i) y:=by
 unfold Zs
 rw[hx]
 simp only[k3,beq_self_eq_true,if_true]
 split
 ·exact .inl rfl
 ·rename_i hany
  simp only[Bool.not_eq_true,List.any_eq_false]at hany
  have hy':=hany (y,j) (jt hy)
  have hji:(j != i)=true:=by simpa using hne
  simp only[ho,hji,Bool.not_false,Bool.true_and]at hy'
  have held:xn y.op=1 ->∃q,xR ops y.op=some q/\q∈besides ops b i:=by
   intro hk1
   cases hq:xR ops y.op with
   | none=>rw[hk1,hq]at hy';simp at hy'
   | some q=>
    refine⟨q,rfl,?_⟩
    unfold besides
    rw[List.mem_filterMap]
    refine⟨(y,j),jt hy,?_⟩
    simp[ho,hne,hk1,hq]
  split
  ·rcases k12 with hk1|hk2
   ·obtain⟨q,hq,hmem⟩:=held hk1
    refine .inr (.inl ⟨q,_,hk1,hq,.inr rfl,fun c hc =>?_⟩)
    rw[List.mem_map]
    refine⟨(q,c),?_,rfl⟩
    rw[List.mem_filter]
    refine⟨hc,?_⟩
    simpa using hmem
   ·exact .inr (.inr ⟨hk2,_,rfl⟩)
  ·rename_i hno
   simp only[Bool.not_eq_true,List.any_eq_false]at hno
   have hy2:=hno (y,j) (jt hy)
   simp only[ho,hji,Bool.not_false,Bool.true_and]at hy2
   have n2 : ¬xn y.op=2:=fun h2=>by rw[h2]at hy2;simp[hD]at hy2
   have hk1:xn y.op=1:=k12.resolve_right n2
   obtain⟨q,hq,hmem⟩:=held hk1
   split
   ·rename_i hb;rw[hb]at hmem;cases hmem
   ·rename_i q0 l hb
    refine .inr (.inl ⟨q,_,hk1,hq,.inl rfl,fun c hc =>?_⟩)
    rw[List.mem_map]
    refine⟨(q,c),?_,rfl⟩
    rw[List.mem_filter]
    refine⟨hc,?_⟩
    rw[<- hb]
    simpa using hmem
theorem diff_of{b:Array Nat}{A:List (Nat×Nat)}(hd:Zt ops b A=true){i j:Nat}{x y:Oper}(hx:ops[i]? = some x)(hy:ops[j]? = some y)(hij:i<j)(hb:(b.getD j 0).testBit i=false) :
  xn x.op=1->xn y.op=5 ->∃q q',xR ops x.op=some q/\xR ops y.op=some q'/\ ∀c c',(q,c)∈A->(q',c')∈A->c≠c':=by
 intro k1 k5
 unfold Zt at hd
 simp only[List.all_eq_true]at hd
 have h1:=hd (y,j) (jt hy)
 simp only[k5,beq_self_eq_true,Bool.not_true,Bool.false_or,List.all_eq_true]at h1
 have h2:=h1 (x,i) (jt hx)
 simp only[hij,decide_true,Bool.not_true,Bool.false_or,hb,k1,beq_self_eq_true]at h2
 split at h2
 ·rename_i q q' hq hq'
  refine⟨q,q',hq,hq',fun c c' hc hc' =>?_⟩
  simp only[List.all_eq_true]at h2
  have h3:=h2 (q,c) hc (q',c') hc'
  simpa using h3
 ·cases h2
theorem xcq(tmps:Tm):HeldA ops (jA ops tmps) tmps:=by
 intro i o q l c hx hq hl hc b hb
 unfold jA
 rw[List.mem_flatMap]
 refine⟨o,by rw[Array.mem_toList_iff];exact Array.mem_of_getElem? hx,?_⟩
 simp only[hq,hl,List.mem_filterMap]
 exact⟨c,hc,by rw[hb]⟩
/-! ### new blocks that are made behind calls: in the world they may stand ahead of them -/
theorem qT{o:Oper}(h:vJ P o=true) : ∃t d z cs,o.op = .alloc t/\o.guard=none/\o.dst=some d/\(∀e∈o.after.toList,Region.binds .any e=false)/\zeroT P t=some z/\z.cells=some cs:=by
 unfold vJ at h
 split at h
 ·rename_i t hop
  split at h
  ·rename_i d hg hd
   simp only[Bool.and_eq_true,Array.all_eq_true_iff_forall_mem]at h
   obtain⟨h1,h2⟩:=h
   split at h2
   ·rename_i z hz
    obtain⟨cs,hcs⟩:=Option.isSome_iff_exists.1 h2
    exact⟨t,d,z,cs,hop,hg,hd,fun e he=>by have:=h1 e (by simpa using he);simpa using this,hz,hcs⟩
   ·cases h2
  ·cases h
 ·cases h
theorem wv{ops:Array Oper}{d:Nat}{o:Oper}(ho:ops[d]? = some o)(h:vJ P o=true)(c:Nat):((Region.before ops).getD d 0).testBit c=false:=by
 obtain⟨_,_,_,_,_,_,_,h1,_⟩:=qT h
 cases hb:((Region.before ops).getD d 0).testBit c with
 | false=>rfl
 | true=>
  obtain⟨e,h2,h3,_⟩:=Xc ops d o c ho hb
  rw[h1 e h2]at h3;cases h3
def FitP(ops:Array Oper)(b:Array Nat)(D:List Nat)(A:List (Nat×Nat))(p q:Nat):Prop:=
 (b.getD p 0).testBit q=false/\((b.getD q 0).testBit p=true\/xtp ops b D A p q\/
 (q∈D/\(∃x y,ops[p]? = some x/\ops[q]? = some y/\x.apart ops y=true)/\ ∀i,i<ops.size->(b.getD i 0).testBit q=true->(b.getD i 0).testBit p=true))
theorem FitP.dst{A:List (Nat×Nat)}{p q:Nat}(h:FitP ops b D A p q)(hb:(b.getD q 0).testBit p=false){x y:Oper}(hx:ops[p]? = some x)(hy:ops[q]? = some y) : ∀d,x.dst=some d->y.dst≠some d:=by
 rcases h.2 with h1|⟨x',y',h1,h2,h3,_⟩|⟨_,⟨x',y',h1,h2,h3⟩,_⟩
 ·rw[hb]at h1;cases h1
 ·rw[hx]at h1;rw[hy]at h2;cases h1;cases h2
  simp only[Wf,Bool.and_eq_true]at h3
  exact(Oper.apart_spec h3.2).2.1
 ·rw[hx]at h1;rw[hy]at h2;cases h1;cases h2
  exact(Oper.apart_spec h3).2.1
theorem xw3{o:Oper}{t:TypeId}(h:o.op = .alloc t):xn o.op=2:=by rw[h];rfl
theorem Emb.found{pv:Value}{e:Env}{H:Heap}{w:World}(E:Emb pv e H w){cs:List C}{vs:List Value}{x:Nat}(t:TypeId)(hd:denL pv e cs=some vs)(cap:Nat)(hx:w.heap[x]? = some (.cells vs.toArray t (0,0)))(hn : ¬Own false e H x) :
  Emb pv (e ++ [(x,cap)]) (newB H ⟨cs,t,false,none⟩) w:=by
 have hxt:Ext e (e ++ [(x,cap)]):=⟨_,rfl⟩
 have hlen:=E.len
 have hsplit : ∀i k,blkAt (newB H ⟨cs,t,false,none⟩) i=some k->(i=H.length/\k=⟨cs,t,false,none⟩)\/(blkAt H i=some k/\i<H.length):=by
  intro i k h
  rw[yI]at h
  split at h
  ·cases h;exact .inl ⟨‹_›,rfl⟩
  ·refine .inr ⟨h,?_⟩
   rw[xH]at h
   by_cases hi:i<H.length
   ·exact hi
   ·rw[List.getElem?_eq_none (by omega)]at h;simp at h
 refine⟨by simp[newB,hlen],fun i k hk =>?_,fun i j k k' r r' hk hk' hr hr' he v1 v2 =>?_,fun i k hk =>?_⟩
 rotate_right
 ·rcases hsplit i k hk with⟨_,rfl⟩|⟨h,_⟩
  ·intro t ht;cases ht
  ·exact E.ok i k h
 ·rcases hsplit i k hk with⟨rfl,rfl⟩|⟨hk,hi⟩
  ·exact⟨(x,cap),vs,by simp[hlen],yH hxt _ _ hd,Lies.mk (tl :=[]) rfl (by simpa using hx) (fun _=>rfl) (fun h=>by cases h)⟩
  ·obtain⟨r,cs',hr,hd',hw⟩:=E.lies i k hk
   exact⟨r,cs',hxt.get hr,yH hxt _ _ hd',hw⟩
 ·have old : ∀i k r,blkAt H i=some k->k.virt=false->i<H.length->(e ++ [(x,cap)])[i]? = some r->e[i]? = some r/\r.1≠x:=by
   intro i k r hk hv hi hr
   rw[List.getElem?_append_left (by omega)]at hr
   exact⟨hr,fun hh=>hn (hh▸wQ hk hr hv)⟩
  have new : ∀r,(e ++ [(x,cap)])[H.length]? = some r->r.1=x:=by
   intro r hr
   rw[hlen,List.getElem?_append_right (by omega)]at hr
   simp at hr
   simp[<- hr]
  rcases hsplit i k hk with⟨rfl,rfl⟩|⟨hk,hi⟩<;>rcases hsplit j k' hk' with⟨rfl,rfl⟩|⟨hk',hj⟩
  ·exact .inl rfl
  ·exact absurd (he.symm.trans (new r hr)) (old j k' r' hk' v2 hj hr').2
  ·exact absurd (he.trans (new r' hr')) (old i k r hk v1 hi hr).2
  ·exact E.alone i j k k' r r' hk hk' (old i k r hk v1 hi hr).1 (old j k' r' hk' v2 hj hr').1 he v1 v2
theorem xbD{pv:Value}{e:Env}{H:Heap}{w:World}(E:Emb pv e H w){k:Blk}{cap x y:Nat}{q:Bool}(h:Own q (e ++ [(y,cap)]) (newB H k) x):Own q e H x\/x=y:=by
 obtain⟨i,k',r,h1,h2,h3,hv,h4⟩:=h
 rw[yI]at h1
 split at h1
 ·rename_i hi
  right
  rw[hi,E.len,List.getElem?_append_right (by omega)]at h2
  simp at h2
  rw[<- h3,<- h2]
 ·left
  have:i<H.length:=by
   rw[xH]at h1
   by_cases hi:i<H.length
   ·exact hi
   ·rw[List.getElem?_eq_none (by omega)]at h1;simp at h1
  rw[List.getElem?_append_left (by rw[<- E.len];exact this)]at h2
  exact⟨i,k',r,h1,h2,h3,hv,h4⟩
structure Waits(I:Port P σ)(ops:Array Oper)(w0:World)(e:Env)(st:St)(F:Nat->Prop)(a:Act)(w:World)(d x:Nat):Prop where
 at_ : ∃o t dd z cs vs,ops[d]? = some o/\o.op = .alloc t/\o.guard=none/\o.dst=some dd/\zeroT P t=some z/\z.cells=some cs/\denL I.pv [] cs=some vs/\
  (dd<a.tmps.size->a.tmps[dd]? = some (.pointer (some ⟨x,0,none⟩)))/\w.heap[x]? = some (.cells vs.toArray t (0,0))
 own : ¬Own false e st.heap x
 port : ¬F x
 new:w0.heap.size<=x
theorem xij{t:TypeId}{z:V}{cs:List C}(hz:zeroT P t=some z)(hc:z.cells=some cs)(hp:One I.pv) : ∃rv,(∀w,(zeroValue t).run P w = .ok rv w)/\ ∀e,denL I.pv e cs=some rv.cells.toList:=by
 obtain⟨v,h1,h2⟩:=wg hz I.pv []
 refine⟨v,h1,fun e =>?_⟩
 obtain⟨v',h3,h4⟩:=wg hz I.pv e
 have hw : ∃w:World,True:=⟨default,trivial⟩
 obtain⟨w,_⟩:=hw
 have:=(h1 w).symm.trans (h3 w)
 cases this
 exact yX hp h4 hc
structure LRow(I:Port P σ)(Γ:xQ)(ops:Array Oper)(D:List Nat)(A:List (Nat×Nat))(S0:Bool->Nat->Prop)(w0:World)(e0:Env)(U L:List Nat)(X:Nat->Nat)(e:Env)(st:St)(s:σ)(F:Nat->Prop)(a:Act)(w:World):Prop where
 cfg:Cfg I S0 w0 e0 e st s F a w
 lt : ∀i∈L,i<ops.size
 nd:L.Nodup
 fit:L.Pairwise (FitP ops (Region.before ops) D A)
 inn : ∀i∈U,i∈L
 waits : ∀i∈L,i∉U->i∈D/\Waits I ops w0 e st F a w i (X i)
 inj : ∀i∈L,∀j∈L,i∉U->j∉U->X i=X j->i=j
 free : ∀i∈L,i∈D ->∀o d,ops[i]? = some o->o.dst=some d->getT st.tmps d=none
 held:HeldA ops A st.tmps
theorem LRow.told(hD : ∀d∈D,∃o,ops[d]? = some o/\vJ P o=true){A:List (Nat×Nat)}{U l1 l2:List Nat}{X:Nat->Nat}{d:Nat}{e:Env}{st:St}{s:σ}{F:Nat->Prop}{a:Act}{w:World}{r:β×σ}
  (R:LRow I Γ ops D A S0 w0 e0 U (l1++d::l2) X e st s F a w) (hdU:d∉U) (h:(yG P Γ ops (Region.before ops) D A (d::(l1++l2)) st k).run I.step s=some r) :
  ∃e' st',LRow I Γ ops D A S0 w0 e0 U (l1++l2) X e' st' s F a w/\(yG P Γ ops (Region.before ops) D A (l1++l2) st' k).run I.step s=some r:=by
 have hdL:d∈l1++d::l2:=by simp
 obtain⟨hdD,W⟩:=R.waits d hdL hdU
 obtain⟨o,t,dd,z,cs,vs,ho,hop,hg,hdst,hz,hc,hden,htmp,hblk⟩:=W.at_
 obtain⟨tmps,H⟩:=st
 have hsub : ∀i∈l1++l2,i∈l1++d::l2:=by
  intro i hi
  rcases List.mem_append.1 hi with h|h<;>simp[h]
 have hnd:d∉l1++l2:=by
  have:=R.nd
  rw[List.nodup_append]at this
  obtain⟨_,h2,h3⟩:=this
  rw[List.nodup_cons]at h2
  intro hm
  rcases List.mem_append.1 hm with hm|hm
  ·exact h3 d hm d (by simp) rfl
  ·exact h2.1 hm
 rw[kX ho]at h
 have hval:valO Γ I ops (Zs ops (Region.before ops) D A d) o tmps H s=some (.c (.ptr H.length 0),newB H ⟨cs,t,false,none⟩,s):=by
  simp only[valO,hg,hop,xf,hz,hc,yK,if_true]
 have hheld:=HeldA.put (tmps:=tmps) R.held ho hval
 rw[hval]at h
 simp only at h
 have E:=R.cfg.rel.emb
 obtain⟨rv,_,hden'⟩:=xij (I:=I) hz hc I.one
 have hvs:vs=rv.cells.toList:=by have:=(hden' []).symm.trans hden;cases this;rfl
 have hE:denL I.pv e cs=some vs:=by rw[hvs];exact hden' e
 refine⟨e ++ [(X d,0)],⟨putT tmps o.dst (.c (.ptr H.length 0)),newB H ⟨cs,t,false,none⟩⟩,⟨⟨⟨E.found t hE 0 hblk W.own,?_,?_,R.cfg.rel.defers⟩,R.cfg.rep,?_,R.cfg.keeps,?_,R.cfg.ext.trans ⟨_,rfl⟩⟩,fun i hi=>R.lt i (hsub i hi),?_,?_,fun i hi =>?_,fun i hi hu =>?_,fun i hi j hj=>R.inj i (hsub i hi) j (hsub j hj),fun i hi hiD o' d' ho' hd' =>?_,hheld⟩,h⟩
 ·rw[xcl];exact R.cfg.rel.len
 ·intro t' v hv
  simp only[hdst,putT]at hv
  by_cases ht:t'=dd
  ·subst ht
   obtain⟨hlt,rfl⟩:=wO hv
   exact⟨_,htmp (Nat.lt_of_lt_of_le hlt R.cfg.rel.len),by simp only[denV];exact xi1 _ _ E⟩
  ·rw[yt _ _ ht]at hv
   obtain⟨rv',h1,h2⟩:=R.cfg.rel.tmps t' v hv
   exact⟨rv',h1,Vv ⟨_,rfl⟩ _ _ h2⟩
 ·intro b hb
  rcases xbD E hb with hb|rfl
  ·exact R.cfg.disj b hb
  ·exact W.port
 ·intro q b hb
  rcases hb with hb|hb
  ·rcases xbD E hb with hb|rfl
   ·exact R.cfg.mine _ b (.inl hb)
   ·exact .inr W.new
  ·exact R.cfg.mine _ b (.inr hb)
 ·have:=R.nd
  exact List.Nodup.sublist (List.Sublist.append_left (List.sublist_cons_self d l2) l1) this
 ·exact List.Pairwise.sublist (List.Sublist.append_left (List.sublist_cons_self d l2) l1) R.fit
 ·have:=R.inn i hi
  simp only[List.mem_append,List.mem_cons]at this |-
  rcases this with h|rfl|h
  ·exact .inl h
  ·exact absurd hi hdU
  ·exact .inr h
 ·obtain⟨h1,Wi⟩:=R.waits i (hsub i hi) hu
  refine⟨h1,Wi.at_,fun hown =>?_,Wi.port,Wi.new⟩
  rcases xbD E hown with hb|hb
  ·exact Wi.own hb
  ·have:=R.inj i (hsub i hi) d hdL hu hdU hb
   subst this
   exact hnd hi
 ·have h1:=R.free i (hsub i hi) hiD o' d' ho' hd'
  have hne:d'≠dd:=by
   rintro rfl
   obtain⟨oi,hoi,hbi⟩:=hD i hiD
   obtain⟨od,hod,hbd⟩:=hD d hdD
   rw[ho']at hoi;cases hoi
   rw[ho]at hod;cases hod
   rcases List.mem_append.1 hi with hm|hm
   ·exact((List.pairwise_append.1 R.fit).2.2 i hm d (by simp)).dst (wv ho hbd i) ho' ho d' hd' hdst
   ·exact((List.pairwise_cons.1 (List.pairwise_append.1 R.fit).2.1).1 i hm).dst (wv ho' hbi d) ho ho' d' hdst hd'
  simp only[hdst,putT,yt _ _ hne]
  exact h1
theorem LRow.settle(hΓ : ∀f m,Γ f=some m->SoundF I f m)(hD : ∀d∈D,∃o,ops[d]? = some o/\vJ P o=true){A:List (Nat×Nat)}{U:List Nat}{X:Nat->Nat}{i:Nat}{s:σ}{F:Nat->Prop}{a:Act}{w:World}{r:β×σ}
  (hiU:i∈U) (hiD:i∉D) (hready : ∀c∈U,((Region.before ops).getD i 0).testBit c=false) : ∀ (n:Nat) (L:List Nat) (e:Env) (st:St),L.length=n->LRow I Γ ops D A S0 w0 e0 U L X e st s F a w->(yG P Γ ops (Region.before ops) D A L st k).run I.step s=some r->
   ∃l1 l2 e' st',LRow I Γ ops D A S0 w0 e0 U (l1++i::l2) X e' st' s F a w/\(yG P Γ ops (Region.before ops) D A (l1++i::l2) st' k).run I.step s=some r/\ ∀c∈l1,((Region.before ops).getD i 0).testBit c=false
 | 0,L,e,st,hn,R,h=>by
  obtain rfl:=List.length_eq_zero_iff.1 hn
  have:=R.inn i hiU
  cases this
 | n+1,L,e,st,hn,R,h=>by
  obtain⟨l1,l2,rfl⟩:=List.append_of_mem (R.inn i hiU)
  by_cases hall : ∀c∈l1,((Region.before ops).getD i 0).testBit c=false
  ·exact⟨l1,l2,e,st,R,h,hall⟩
  ·obtain⟨m1,d,m2,rfl,hb,hm1⟩ : ∃m1 d m2,l1=m1++d::m2/\((Region.before ops).getD i 0).testBit d=true/\ ∀c∈m1,((Region.before ops).getD i 0).testBit c=false:=by
    clear h R hn
    induction l1 with
    | nil=>exact absurd (fun c hc=>by cases hc) hall
    | cons x l ih=>
     by_cases hx:((Region.before ops).getD i 0).testBit x=true
     ·exact⟨[],x,l,rfl,hx,fun c hc=>by cases hc⟩
     ·have hx:((Region.before ops).getD i 0).testBit x=false:=by simpa using hx
      obtain⟨m1,d,m2,h1,h2,h3⟩:=ih fun hh=>hall fun c hc=>by
       rcases List.mem_cons.1 hc with rfl|hc
       ·exact hx
       ·exact hh c hc
      refine⟨x::m1,d,m2,by rw[h1];rfl,h2,fun c hc =>?_⟩
      rcases List.mem_cons.1 hc with rfl|hc
      ·exact hx
      ·exact h3 c hc
   have hdU:d∉U:=fun hu=>by have:=hready d hu;rw[hb]at this;cases this
   have hdL:d∈(m1++d::m2)++i::l2:=by simp
   obtain⟨hdD,W⟩:=R.waits d hdL hdU
   obtain⟨od,hod,hbd⟩:=hD d hdD
   have e1:(m1++d::m2)++i::l2=m1++d::(m2++i::l2):=by simp
   rw[e1]at R h
   have hsw : ∀c∈m1,xtp ops (Region.before ops) D A c d:=by
    intro c hc
    have hf:=(List.pairwise_append.1 R.fit).2.2 c hc d (by simp)
    rcases hf.2 with h1|h1|⟨_,_,h1⟩
    ·rw[wv hod hbd c]at h1;cases h1
    ·exact h1
    ·have:=h1 i (R.lt i (R.inn i hiU)) hb
     rw[hm1 c hc]at this;cases this
   obtain⟨tmps,H⟩:=st
   have hfr:=Va hΓ m1 tmps H s hsw R.held ⟨S0,w0,e0,e,F,a,w,R.cfg⟩ h
   obtain⟨e',st',R',h'⟩:=R.told hD hdU hfr
   have hl:(m1++(m2++i::l2)).length=n:=by
    simp only[List.length_append,List.length_cons]at hn |-;omega
   exact LRow.settle hΓ hD hiU hiD hready n _ e' st' hl R' h'
theorem LRow.fin(hΓ : ∀f m,Γ f=some m->SoundF I f m)(hD : ∀d∈D,∃o,ops[d]? = some o/\vJ P o=true){A:List (Nat×Nat)}{X:Nat->Nat}{s:σ}{F:Nat->Prop}{a:Act}{w:World}{r:β×σ} : ∀ (L:List Nat) (e:Env) (st:St),LRow I Γ ops D A S0 w0 e0 [] L X e st s F a w->(yG P Γ ops (Region.before ops) D A L st k).run I.step s=some r->
   ∃e' st',Cfg I S0 w0 e0 e' st' s F a w/\(k st').run I.step s=some r
 | [],e,st,R,h=>⟨e,st,R.cfg,h⟩
 | d::L,e,st,R,h=>by
  obtain⟨e',st',R',h'⟩:=LRow.told (l1 :=[]) hD R (by simp) h
  exact LRow.fin hΓ hD L e' st' R' h'
theorem Cfg.rebase{e:Env}{st:St}{s:σ}{F:Nat->Prop}{a:Act}{w:World}(C:Cfg I S0 w0 e0 e st s F a w):Cfg I (fun q b=>Own q e st.heap b\/F b) w e e st s F a w:=
 ⟨C.rel,C.rep,C.disj,Keeps.refl _ w,fun q b hb =>.inl hb,Ext.refl e⟩
theorem Cfg.compose{e e':Env}{st st':St}{s s':σ}{F F':Nat->Prop}{a a':Act}{w w':World}(C:Cfg I S0 w0 e0 e st s F a w)(C':Cfg I (fun q b=>Own q e st.heap b\/F b) w e e' st' s' F' a' w'):Cfg I S0 w0 e0 e' st' s' F' a' w':=by
 refine⟨C'.rel,C'.rep,C'.disj,C.keeps.trans C'.keeps fun b hb=>C.mine _ b hb,fun q b hb =>?_,C.ext.trans C'.ext⟩
 rcases C'.mine _ b hb with h|h
 ·exact C.mine _ b h
 ·right
  have:=C.keeps.size
  omega
theorem least{p:Nat->Prop}{n:Nat}(h:p n) : ∃m,p m/\ ∀j,j<m ->¬p j:=by
 induction n using Nat.strongRecOn with
 | _ n ih=>
  by_cases hh : ∃m,m<n/\p m
  ·obtain⟨m,h1,h2⟩:=hh
   exact ih m h1 h2
  ·exact⟨n,h,fun j hj hp=>hh ⟨j,hj,hp⟩⟩
theorem YB(hΓ : ∀f m,Γ f=some m->SoundF I f m){A:List (Nat×Nat)}(hdec : ∀ (j:Nat) o,ops[j]? = some o ->∀e∈o.after.toList,Region.binds .any e=true->e.on<j)(hD : ∀d∈D,∃o,ops[d]? = some o/\vJ P o=true){r:β×σ}{Q:Exit->Act->World->Prop}(hQ : ∀e' st' s' F' a' w',(k st').run I.step s'=some r->Cfg I S0 w0 e0 e' st' s' F' a' w'->Q .normal a' w') :
  ∀ (n:Nat) (U L:List Nat) (X:Nat->Nat) (listed:Array Bool) (e:Env) (st:St) (s:σ) (F:Nat->Prop) (a:Act) (w:World),U.length=n->U.Nodup->listed.size=ops.size->(∀i,i<ops.size->(i∈U↔listed[i]? = some false))->
   (∀ (j:Nat) o,listed[j]? = some true->ops[j]? = some o ->∀e∈o.after.toList,Region.binds .any e=true->listed[e.on]? = some true)->
   LRow I Γ ops D A S0 w0 e0 U L X e st s F a w->(yG P Γ ops (Region.before ops) D A L st k).run I.step s=some r->wpAny P .any ops Q n listed a w
 | 0,U,L,X,listed,e,st,s,F,a,w,hn,hnd,hsz,hU,hcl,R,h=>by
  obtain rfl:=List.length_eq_zero_iff.1 hn
  obtain⟨e',st',C',h'⟩:=R.fin hΓ hD L e st h
  refine⟨?_,hQ e' st' s F a w h' C'⟩
  unfold Region.ready
  rw[List.filter_eq_nil_iff]
  intro i hi
  have hi':i<ops.size:=by simpa using hi
  have : ¬listed[i]? = some false:=fun h=>by have:=(hU i hi').2 h;cases this
  have hget:listed[i]? = some listed[i]:=Array.getElem?_eq_getElem (by omega)
  rw[hget]at this
  have ht:listed[i]=true:=by
   cases hh:listed[i] with
   | true=>rfl
   | false=>rw[hh]at this;exact absurd rfl this
  simp[Array.getD_eq_getD_getElem?,hget,ht]
 | n+1,U,L,X,listed,e,st,s,F,a,w,hn,hnd,hsz,hU,hcl,R,h=>by
  have hlt : ∀i∈U,i<ops.size:=fun i hi=>R.lt i (R.inn i hi)
  have isT : ∀i,i<ops.size->i∉U->listed[i]? = some true:=by
   intro i hi hni
   have h1 : ¬listed[i]? = some false:=fun h=>hni ((hU i hi).2 h)
   have hget:listed[i]? = some listed[i]:=Array.getElem?_eq_getElem (by omega)
   rw[hget]at h1 |-
   cases hh:listed[i] with
   | true=>rfl
   | false=>rw[hh]at h1;exact absurd rfl h1
  refine⟨fun hr =>?_,fun i hi =>?_⟩
  ·exfalso
   cases hU0:U with
   | nil=>rw[hU0]at hn;simp at hn
   | cons i1 U'=>
    obtain⟨i0,hi0,hmin⟩:=least (p:=fun i=>i∈U) (n:=i1) (by rw[hU0];simp)
    have h0:=hlt i0 hi0
    have hmem:i0∈Region.ready .any ops listed:=by
     unfold Region.ready
     rw[List.mem_filter]
     refine⟨by simpa using h0,?_⟩
     have hf:=(hU i0 h0).1 hi0
     have ho:=Array.getElem?_eq_getElem h0
     rw[ho]
     simp only[Array.getD_eq_getD_getElem?,hf,Option.getD_some,Bool.not_false,Bool.true_and,Option.map_some,Array.all_eq_true_iff_forall_mem]
     intro e he
     by_cases hb:Region.binds .any e=true
     ·have hlt':=hdec i0 _ ho e (by simpa using he) hb
      rw[isT e.on (by omega) (hmin e.on hlt')]
      simp
     ·simp[hb]
    rw[hr]at hmem
    cases hmem
  ·unfold Region.ready at hi
   rw[List.mem_filter]at hi
   obtain⟨hi1,hi2⟩:=hi
   have hi1:i<ops.size:=by simpa using hi1
   have ho:=Array.getElem?_eq_getElem hi1
   rw[ho]at hi2
   simp only[Bool.and_eq_true,Option.map_some,Option.getD_some,Array.all_eq_true_iff_forall_mem]at hi2
   have hget:listed[i]? = some listed[i]:=Array.getElem?_eq_getElem (by omega)
   have hfalse:listed[i]? = some false:=by
    have:=hi2.1
    rw[Array.getD_eq_getD_getElem?,hget]at this
    rw[hget]
    simpa using this
   have hiU:=(hU i hi1).2 hfalse
   have hdeps : ∀e∈(ops[i]).after.toList,Region.binds .any e=true->listed[e.on]? = some true:=by
    intro e he hb
    have:=hi2.2 e (by simpa using he)
    simp only[hb,Bool.not_true,Bool.false_or,Array.getD_eq_getD_getElem?]at this
    cases hh:listed[e.on]? with
    | none=>rw[hh]at this;simp at this
    | some t=>rw[hh]at this;simp at this;rw[this]
   have hset : ∀j,(listed.setIfInBounds i true)[j]? = if i=j then some true else listed[j]? :=by
    intro j
    rw[Array.getElem?_setIfInBounds]
    split
    ·rename_i hij;rw[if_pos (by omega)]
    ·rfl
   have hn':(U.erase i).length=n:=by rw[List.length_erase_of_mem hiU];omega
   have hnd':(U.erase i).Nodup:=hnd.erase i
   have hmemE : ∀j,j∈U.erase i↔j≠i/\j∈U:=fun j=>hnd.mem_erase_iff
   have hsz':(listed.setIfInBounds i true).size=ops.size:=by simp[hsz]
   have hU' : ∀j,j<ops.size->(j∈U.erase i↔(listed.setIfInBounds i true)[j]? = some false):=by
    intro j hj
    rw[hset,hmemE]
    by_cases hij:i=j
    ·subst hij;simp
    ·rw[if_neg hij,<- hU j hj]
     exact⟨fun h=>h.2,fun h=>⟨fun hh=>hij hh.symm,h⟩⟩
   have hcl' : ∀ (j:Nat) o,(listed.setIfInBounds i true)[j]? = some true->ops[j]? = some o ->∀e∈o.after.toList,Region.binds .any e=true->(listed.setIfInBounds i true)[e.on]? = some true:=by
    intro j o hj hoj e he hb
    rw[hset]at hj |-
    split
    ·rfl
    ·split at hj
     ·rename_i hij
      subst hij
      rw[ho]at hoj
      cases hoj
      exact hdeps e he hb
     ·exact hcl j o hj hoj e he hb
   by_cases hiD:i∈D
   ·-- a new block: it stands, and waits
    obtain⟨o,ho2,hbare⟩:=hD i hiD
    rw[ho]at ho2;cases ho2
    obtain⟨t,dd,z,cs,hop,hg,hdst,_,hz,hc⟩:=qT hbare
    obtain⟨rv,hrv,hden⟩:=xij (I:=I) hz hc I.one
    have E:=R.cfg.rel.emb
    have C:=R.cfg
    have hslot:getT st.tmps dd=none:=R.free i (R.inn i hiU) hiD _ _ ho hdst
    have hold : ∀b,b<w.heap.size->(w.alloc (.cells rv.cells.toList.toArray t)).heap[b]? = w.heap[b]? :=by
     intro b hb
     rw[heap_alloc,Array.getElem?_push,if_neg (by omega)]
    have R':LRow I Γ ops D A S0 w0 e0 (U.erase i) L (fun j=>if j=i then w.heap.size else X j) e st s F (a.put (some dd) (.pointer (some ⟨w.heap.size,0,none⟩))) (w.alloc (.cells rv.cells.toList.toArray t)):=by
     have hsz0:=C.keeps.size
     have hput : ∀t',t'≠dd->(a.put (some dd) (.pointer (some ⟨w.heap.size,0,none⟩))).tmps[t']? = a.tmps[t']? :=by
      intro t' ht'
      simp only[Act.put]
      rw[Array.getElem?_setIfInBounds_ne (fun hh=>ht' hh.symm)]
     have hXlt : ∀j∈L,j∉U->X j<w.heap.size:=by
      intro j hj hju
      obtain⟨_,W⟩:=R.waits j hj hju
      obtain⟨_,_,_,_,_,_,_,_,_,_,_,_,_,_,hb⟩:=W.at_
      exact(Array.getElem?_eq_some_iff.1 hb).1
     have hcase : ∀j,j∉U.erase i->j=i\/j∉U:=by
      intro j hj
      by_cases hji:j=i
      ·exact .inl hji
      ·exact .inr fun hu=>hj ((hmemE j).2 ⟨hji,hu⟩)
     refine⟨⟨⟨E.ofSame fun b hb=>hold b (E.own_lt hb),?_,fun t' v hv =>?_,C.rel.defers⟩,I.stable C.rep fun b hb=>hold b (I.lt C.rep b hb),C.disj,⟨C.keeps.os,C.keeps.tape,C.keeps.output,?_,fun b hb hn =>?_⟩,C.mine,C.ext⟩,R.lt,R.nd,R.fit,fun j hj=>R.inn j ((hmemE j).1 hj).2,fun j hj hju =>?_,fun j hj j' hj' hju hju' he =>?_,R.free,R.held⟩
     ·rw[ZX];exact C.rel.len
     ·have:t'≠dd:=fun hh=>by rw[hh,hslot]at hv;cases hv
      rw[hput t' this]
      exact C.rel.tmps t' v hv
     ·rw[heap_alloc,Array.size_push];omega
     ·rw[hold b (by omega)];exact C.keeps.block b hb hn
     ·rcases hcase j hju with rfl|hju
      ·refine⟨hiD,⟨_,t,dd,z,cs,rv.cells.toList,ho,hop,hg,hdst,hz,hc,hden [],?_,?_⟩,?_,?_,?_⟩
       ·intro hd2
        rw[ZX]at hd2
        simp only[Act.put,if_true]
        rw[Array.getElem?_setIfInBounds_self_of_lt hd2]
       ·rw[if_pos rfl,heap_alloc];simp
       ·rw[if_pos rfl];intro hb;have:=E.own_lt hb;omega
       ·rw[if_pos rfl];intro hb;have:=I.lt C.rep _ hb;omega
       ·rw[if_pos rfl];omega
      ·obtain⟨hjD,W⟩:=R.waits j hj hju
       have hji:j≠i:=fun hh=>hju (hh▸hiU)
       obtain⟨o,t',d',z',cs',vs',h1,h2,h3,h4,h5,h6,h7,h8,h9⟩:=W.at_
       rw[if_neg hji]
       have hdne:d'≠dd:=by
        rintro rfl
        obtain⟨oj,hoj,hbj⟩:=hD j hjD
        rw[h1]at hoj;cases hoj
        obtain⟨l1,l2,hL⟩:=List.append_of_mem hj
        have hiL:=R.inn i hiU
        have hfit:=R.fit
        rw[hL]at hfit hiL
        rcases List.mem_append.1 hiL with hm|hm
        ·exact((List.pairwise_append.1 hfit).2.2 i hm j (by simp)).dst (wv h1 hbj i) ho h1 d' hdst h4
        ·rcases List.mem_cons.1 hm with hm|hm
         ·exact hji hm.symm
         ·exact((List.pairwise_cons.1 (List.pairwise_append.1 hfit).2.1).1 i hm).dst (wv ho hbare j) h1 ho d' h4 hdst
       refine⟨hjD,⟨o,t',d',z',cs',vs',h1,h2,h3,h4,h5,h6,h7,(fun hh=>by rw[hput d' hdne];rw[ZX]at hh;exact h8 hh),?_⟩,W.own,W.port,W.new⟩
       rw[hold _ (hXlt j hj hju)];exact h9
     ·have lo : ∀q,q∉U->q≠i:=fun q hq hh=>hq (hh▸hiU)
      rcases hcase j hju with hj1|hj1<;>rcases hcase j' hju' with hj2|hj2
      ·rw[hj1,hj2]
      ·rw[if_pos hj1,if_neg (lo j' hj2)]at he
       have:=hXlt j' hj' hj2;omega
      ·rw[if_pos hj2,if_neg (lo j hj1)]at he
       have:=hXlt j hj hj1;omega
      ·rw[if_neg (lo j hj1),if_neg (lo j' hj2)]at he
       exact R.inj j hj j' hj' hj1 hj2 he
    have key:=YB hΓ hdec hD hQ n (U.erase i) L _ _ e st s F _ _ hn' hnd' hsz' hU' hcl' R' h
    unfold wpOp
    rw[ho]
    simp only
    rw[if_pos (by simp[Region.wanted,hg])]
    left
    unfold Oper.wp
    have hrun:(execOp a.eval (ops[i])).run P w = .ok (.value (.pointer (some ⟨w.heap.size,0,none⟩))) (w.alloc (.cells rv.cells.toList.toArray t)):=by
     simp[execOp,hop,Instr.alloc,hrv,newVar,newRow]
    rw[hrun]
    simp only[Oper.upon,hdst]
    exact key
   ·-- another one: those that it needs are told
    have hready : ∀c∈U,((Region.before ops).getD i 0).testBit c=false:=by
     intro c hc
     refine WZ (S:=fun j=>listed[j]? = some true) hcl hdec i i _ (Nat.le_refl _) ho hdeps c ?_
     have:=(hU c (hlt c hc)).1 hc
     rw[this];simp
    obtain⟨l1,l2,e1,st1,R1,h1,hl1⟩:=R.settle hΓ hD hiU hiD hready L.length L e st rfl h
    have hpw:=List.pairwise_append.1 R1.fit
    have hpc:=List.pairwise_cons.1 hpw.2.1
    have hswap : ∀c∈l1,xtp ops (Region.before ops) D A c i:=by
     intro c hc
     rcases(hpw.2.2 c hc i (by simp)).2 with g|g|⟨g,_⟩
     ·rw[hl1 c hc]at g;cases g
     ·exact g
     ·exact absurd g hiD
    obtain⟨tmps,H⟩:=st1
    have hfront:=Va hΓ l1 tmps H s hswap R1.held ⟨S0,w0,e0,e1,F,a,w,R1.cfg⟩ h1
    simp only[yG,ho]at hfront
    obtain⟨st',s',g1,g2,g3⟩:=Wa hΓ R1.cfg.rebase hfront
    obtain⟨pu',H',s1',rr,hrv,hst'⟩ : ∃pu H s,∃rr:V×Heap×σ,valO Γ I ops pu (ops[i]) tmps H s=some rr/\st'.tmps=putT tmps (ops[i]).dst rr.1:=by
     rw[WX]at g2
     rw[oM]at g2
     obtain⟨rr,hrr',hrr⟩:=g2
     cases hrr
     exact⟨_,_,_,_,hrr',rfl⟩
    have hniL:i∉l1++l2:=by
     have:=R1.nd
     rw[List.nodup_append]at this
     obtain⟨_,h2,h3⟩:=this
     rw[List.nodup_cons]at h2
     intro hm
     rcases List.mem_append.1 hm with hm|hm
     ·exact h3 i hm i (by simp) rfl
     ·exact h2.1 hm
    have hsub : ∀j∈l1++l2,j∈l1++i::l2:=by
     intro j hj
     rcases List.mem_append.1 hj with h|h<;>simp[h]
    have hdne : ∀j∈l1++l2,j∈D ->∀o d,ops[j]? = some o->o.dst=some d->(ops[i]).dst≠some d:=by
     intro j hj hjD o d hoj hd hdi
     obtain⟨oj,hoj',hbj⟩:=hD j hjD
     rw[hoj]at hoj';cases hoj'
     rcases List.mem_append.1 hj with hm|hm
     ·exact(hpw.2.2 j hm i (by simp)).dst (hl1 j hm) hoj ho d hd hdi
     ·exact(hpc.1 j hm).dst (wv hoj hbj i) ho hoj d hdi hd
    have key:=g3 (wpAny P .any ops Q n (listed.setIfInBounds i true)) Q fun e' F' a' w' ha' C'=>by
     obtain⟨rv,ha'⟩:=ha'
     have hnew : ∀j∈l1++l2,j∉U.erase i->j∉U:=by
      intro j hj hju hu
      exact hju ((hmemE j).2 ⟨fun hh=>hniL (hh▸hj),hu⟩)
     refine YB hΓ hdec hD hQ n (U.erase i) (l1++l2) X _ e' st' s' F' a' w' hn' hnd' hsz' hU' hcl' ⟨R1.cfg.compose C',fun j hj=>R1.lt j (hsub j hj),?_,?_,fun j hj =>?_,fun j hj hju =>?_,fun j hj j' hj' hju hju' he=>R1.inj j (hsub j hj) j' (hsub j' hj') (hnew j hj hju) (hnew j' hj' hju') he,fun j hj hjD o d hoj hd =>?_,?_⟩ g1
     ·exact List.Nodup.sublist (List.Sublist.append_left (List.sublist_cons_self i l2) l1) R1.nd
     ·exact List.Pairwise.sublist (List.Sublist.append_left (List.sublist_cons_self i l2) l1) R1.fit
     ·obtain⟨hji,hu⟩:=(hmemE j).1 hj
      have:=R1.inn j hu
      simp only[List.mem_append,List.mem_cons]at this |-
      rcases this with h|h|h
      ·exact .inl h
      ·exact absurd h hji
      ·exact .inr h
     ·obtain⟨hjD,W⟩:=R1.waits j (hsub j hj) (hnew j hj hju)
      obtain⟨o,t,d,z,cs,vs,q1,q2,q3,q4,q5,q6,q7,q8,q9⟩:=W.at_
      have hlt9:=(Array.getElem?_eq_some_iff.1 q9).1
      have hnS : ∀q,¬ (Own q e1 H (X j)\/F (X j)):=fun q hh=>hh.elim (fun h=>W.own h.weak) W.port
      refine⟨hjD,⟨o,t,d,z,cs,vs,q1,q2,q3,q4,q5,q6,q7,?_,by rw[C'.keeps.block _ hlt9 (hnS true)];exact q9⟩,fun hb =>?_,fun hb =>?_,W.new⟩
      ·have hne:=hdne j hj hjD o d q1 q4
       intro hh
       rw[ha']at hh |-
       rw[ZX]at hh
       cases hdi:(ops[i]).dst with
       | none=>exact q8 hh
       | some di=>
        rw[hdi]at hne
        simp only[Act.put]
        rw[Array.getElem?_setIfInBounds_ne (fun hh=>hne (by rw[hh]))]
        exact q8 hh
      ·rcases C'.mine _ _ (.inl hb)with h|h
       ·exact hnS _ h
       ·omega
      ·rcases C'.mine true _ (.inr hb)with h|h
       ·exact hnS _ h
       ·omega
     ·have q1:=R1.free j (hsub j hj) hjD o d hoj hd
      have hne:=hdne j hj hjD o d hoj hd
      rw[hst']
      cases hdi:(ops[i]).dst with
      | none=>exact q1
      | some di=>
       rw[hdi]at hne
       have:d≠di:=fun hh=>hne (by rw[hh])
       simp only[putT,yt _ _ this]
       exact q1
     ·rw[hst'];exact R1.held.put ho hrv
    unfold jF at key
    unfold wpOp
    rw[ho]
    simp only
    split
    ·rename_i hw;rw[if_pos hw]at key;exact .inl key
    ·rename_i hw;rw[if_neg hw]at key;exact key
theorem xik{A:List (Nat×Nat)}(hok:vl ops (Region.before ops)=true)(hdo:Zt ops (Region.before ops) A=true){p q:Nat}(hp:p<ops.size)(hq:q<ops.size)(hpq:p<q)(hpD:p∉D)(hqD:q∉D):FitP ops (Region.before ops) D A p q:=by
 have hdec:=Vb hok
 have hnb:=xva hdec p p q (Nat.le_refl _) (by omega) hp
 refine⟨hnb,?_⟩
 cases hb:((Region.before ops).getD q 0).testBit p with
 | true=>exact .inl rfl
 | false=>
  have hop:=Array.getElem?_eq_getElem hp
  have hoq:=Array.getElem?_eq_getElem hq
  refine .inr (.inl ⟨_,_,hop,hoq,xoI hok hop hoq hpq hb,fun k3 k12 =>?_,fun k3 k12 =>?_,diff_of hdo hop hoq hpq hb⟩)
  ·exact xtq hop hoq k3 k12 (by omega) (by simp only[jf,hnb,hb,Bool.or_self]) hqD
  ·exact xtq hoq hop k3 k12 (by omega) (by simp only[jf,hnb,hb,Bool.or_self]) hpD
theorem xlq(hΓ : ∀f m,Γ f=some m->SoundF I f m)(hm:P.follows .mixedOrders=true)(hok:vl ops (Region.before ops)=true){id:Nat}{st:St}(hdo:Zt ops (Region.before ops) (jA ops st.tmps)=true){r:β×σ}{Q:Exit->Act->World->Prop}(hQ : ∀e' st' s' F' a' w',(k st').run I.step s'=some r->Cfg I S0 w0 e0 e' st' s' F' a' w'->Q .normal a' w')
  {e:Env} {s:σ} {F:Nat->Prop} {a:Act} {w:World} (C:Cfg I S0 w0 e0 e st s F a {w with drawn:=w.drawn+1}) (h:(yG P Γ ops (Region.before ops) [] (jA ops st.tmps) (List.range ops.size) st k).run I.step s=some r):(Code.region id ops true).wp P Q a w:=by
 refine wp_region_any hm (YB (D :=[]) hΓ (Vb hok) (fun d hd=>by cases hd) hQ ops.size (List.range ops.size) (List.range ops.size) (fun _=>0) _ e st s F a _ (by simp) List.nodup_range (by simp) (fun i hi =>?_) (fun j o hj =>?_) ⟨C,fun i hi=>by simpa using hi,List.nodup_range,?_,fun i hi=>hi,fun i hi hn=>absurd hi hn,fun i hi j hj hn=>absurd hi hn,(fun i hi hd=>by cases hd),xcq _⟩ h)
 ·simp[hi]
 ·rw[Array.getElem?_replicate]at hj
  split at hj<;>simp at hj
 ·refine List.Pairwise.imp_of_mem (fun {p q} hp hq hpq =>?_) (List.pairwise_lt_range (n:=ops.size))
  exact xik hok hdo (by simpa using hp) (by simpa using hq) hpq (by simp) (by simp)
theorem xcr{f:Nat->Nat->Bool} : ∀ {l:List Nat},Vq f l=true->l.Pairwise (fun p q=>f p q=true)
 | [],_=>List.Pairwise.nil
 | x::l,h=>by
  simp only[Vq,Bool.and_eq_true,List.all_eq_true]at h
  exact List.Pairwise.cons h.1 (xcr h.2)
theorem kY(m:Nat) : ∀ (d i:Nat) (s:Sl) (t:Nat) (v:V),getS d (vV m d i s) t=some v->m.testBit (i+t)=true
 | 0,i,s,t,v,h=>by
  cases s with
  | leaf w=>
   simp only[vV]at h
   cases hb:m.testBit i with
   | true=>
    rw[hb]at h
    simp only[cond_true,getS]at h
    cases ht:Nat.beq t 0 with
    | true=>rw[Nat.eq_of_beq_eq_true ht];simpa using hb
    | false=>rw[ht]at h;cases h
   | false=>rw[hb]at h;simp[getS]at h
  | tip=>simp[vV,getS]at h
  | node l r=>simp[vV,getS]at h
 | d+1,i,s,t,v,h=>by
  cases s with
  | node l r=>
   simp only[vV]at h
   rw[xlW]at h
   simp only[getS]at h
   cases hb:Nat.blt t (2 ^ d) with
   | true=>rw[hb]at h;exact kY m d i l t v h
   | false=>
    rw[hb]at h
    have:=kY m d _ r _ v h
    rw[blt_eq,decide_eq_false_iff_not]at hb
    rw[show i+t=i+2 ^ d+(t-2 ^ d)by omega]
    exact this
  | tip=>simp[vV,getS]at h
  | leaf w=>simp[vV,getS]at h
theorem xil(ops:Array Oper)(t:Nat) : ∀ (D:List Nat) (m:Nat),(m.testBit t=true\/ ∃d∈D,(ops[d]?).bind (·.dst)=some t)->(D.foldl (fun m d=>match(ops[d]?).bind (·.dst) with|some t=>m ||| (1 <<< t)|none=>m) m).testBit t=true
 | [],m,h=>by
  rcases h with h|⟨d,hd,_⟩
  ·exact h
  ·cases hd
 | d::D,m,h=>by
  rw[List.foldl_cons]
  refine xil ops t D _ ?_
  rcases h with h|⟨d',hd,hh⟩
  ·left
   split
   ·rw[Nat.testBit_or,h];rfl
   ·exact h
  ·rcases List.mem_cons.1 hd with rfl|hd
   ·left
    rw[hh]
    simp only[Nat.testBit_or,Nat.one_shiftLeft,Nat.testBit_two_pow_self,Bool.or_true]
   ·exact .inr ⟨d',hd,hh⟩
theorem xcs{ops:Array Oper}{D:List Nat}{l:Tm}{t:Nat}{v:V}(h:getT (vK ops D l) t=some v):getT l t=some v/\ ∀d∈D,(ops[d]?).bind (·.dst)≠some t:=by
 obtain⟨h1,h2⟩:=we h
 simp only[vK]at h1 h2
 refine⟨?_,fun d hd hh =>?_⟩
 ·unfold getT
  rw[blt_eq]
  simp only[h1,decide_true,cond_true]
  exact qr _ _ _ _ _ _ h2
 ·have h3:=kY _ _ _ _ _ _ h2
  rw[Nat.zero_add]at h3
  simp only[xwb,Nat.testBit_xor,Nat.testBit_and]at h3
  generalize(1 <<< 512-1).testBit t=q at h3
  generalize hz:Nat.testBit (List.foldl _ 0 D) t=z at h3
  have hz1:z=true:=hz.symm.trans (xil ops t D 0 (.inr ⟨d,hd,hh⟩))
  subst hz1
  cases q<;>cases h3
theorem xw4{A:List (Nat×Nat)}(hok:vl ops (Region.before ops)=true)(hdo:Zt ops (Region.before ops) A=true)(hD : ∀d∈D,∃o,ops[d]? = some o/\vJ P o=true){p q:Nat}(hp:p<ops.size)(hq:q<ops.size)(h:fitB ops (Region.before ops) D p q=true):FitP ops (Region.before ops) D A p q:=by
 have hop:=Array.getElem?_eq_getElem hp
 have hoq:=Array.getElem?_eq_getElem hq
 unfold fitB at h
 simp only[Bool.and_eq_true,Bool.not_eq_true',Bool.or_eq_true,hop,hoq]at h
 refine⟨h.1.2,?_⟩
 rcases h.2 with h2|h2
 ·exact .inl h2
 ·have kindD : ∀d∈D,∀o,ops[d]? = some o->xn o.op=2:=by
   intro d hd o ho
   obtain⟨o',ho',hb⟩:=hD d hd
   rw[ho]at ho';cases ho'
   obtain⟨t,_,_,_,hop,_⟩:=qT hb
   exact xw3 hop
  split at h2
  ·rename_i hqD
   have hqD:q∈D:=by simpa using hqD
   split at h2
   ·rename_i hk
    simp only[Bool.and_eq_true,List.all_eq_true,Bool.or_eq_true,Bool.not_eq_true']at h2
    refine .inr (.inr ⟨hqD,⟨_,_,hop,hoq,h2.1⟩,fun i his hi =>?_⟩)
    rcases h2.2 i (by simpa using his)with h3|h3
    ·rw[hi]at h3;cases h3
    ·exact h3
   ·rename_i hk
    have hk:xn (ops[p]).op≠3:=by simpa using hk
    have h2q:=kindD q hqD _ hoq
    exact .inr (.inl ⟨_,_,hop,hoq,h2,fun k3=>absurd k3 hk,fun k3=>by omega,fun _ k5=>by omega⟩)
  ·split at h2
   ·rename_i hpD
    have hpD:p∈D:=by simpa using hpD
    simp only[Bool.and_eq_true,bne_iff_ne,ne_eq]at h2
    have h2p:=kindD p hpD _ hop
    exact .inr (.inl ⟨_,_,hop,hoq,h2.2,fun k3=>by omega,fun k3=>absurd k3 h2.1,fun k1=>by omega⟩)
   ·rename_i hqD hpD
    exact(xik hok hdo hp hq (by simpa using h2) (by simpa using hpD) (by simpa using hqD)).2
theorem xlr(hΓ : ∀f m,Γ f=some m->SoundF I f m)(hm:P.follows .mixedOrders=true)(hok:vl ops (Region.before ops)=true){id:Nat}{st:St}{L:List Nat}(hdo:Zt ops (Region.before ops) (jA ops (vK ops D st.tmps))=true)(hl:xpx P ops (Region.before ops) D L=true){r:β×σ}{Q:Exit->Act->World->Prop}(hQ : ∀e' st' s' F' a' w',(k st').run I.step s'=some r->Cfg I S0 w0 e0 e' st' s' F' a' w'->Q .normal a' w')
  {e:Env} {s:σ} {F:Nat->Prop} {a:Act} {w:World} (C:Cfg I S0 w0 e0 e st s F a {w with drawn:=w.drawn+1}) (h:(yG P Γ ops (Region.before ops) D (jA ops (vK ops D st.tmps)) L ⟨vK ops D st.tmps,st.heap⟩ k).run I.step s=some r):(Code.region id ops true).wp P Q a w:=by
 unfold xpx at hl
 simp only[Bool.and_eq_true,List.all_eq_true,beq_iff_eq]at hl
 obtain⟨⟨⟨hlen,hall⟩,hpw⟩,hbare⟩:=hl
 have hD : ∀d∈D,∃o,ops[d]? = some o/\vJ P o=true:=by
  intro d hd
  have:=hbare d hd
  split at this
  ·exact⟨_,‹_›,this⟩
  ·cases this
 have hmem : ∀i,i<ops.size->i∈L:=fun i hi=>by
  have:=hall i (by simpa using hi)
  simpa using this
 have hlt : ∀i∈L,i<ops.size:=fun i hi=>by simpa using hlen i hi
 have hpp:=xcr hpw
 have hnd:L.Nodup:=by
  refine List.Pairwise.imp (fun {p q} h =>?_) hpp
  unfold fitB at h
  simp only[Bool.and_eq_true,bne_iff_ne,ne_eq]at h
  exact h.1.1
 have C2:Cfg I S0 w0 e0 e ⟨vK ops D st.tmps,st.heap⟩ s F a {w with drawn:=w.drawn+1}:=
  ⟨⟨C.rel.emb,C.rel.len,fun t v hv=>C.rel.tmps t v (xcs hv).1,C.rel.defers⟩,C.rep,C.disj,C.keeps,C.mine,C.ext⟩
 refine wp_region_any hm (YB hΓ (Vb hok) hD hQ ops.size (List.range ops.size) L (fun _=>0) _ e ⟨vK ops D st.tmps,st.heap⟩ s F a _ (by simp) List.nodup_range (by simp) (fun i hi =>?_) (fun j o hj =>?_) ⟨C2,hlt,hnd,?_,fun i hi=>hmem i (by simpa using hi),fun i hi hn=>absurd (by simpa using hlt i hi) hn,fun i hi j hj hn=>absurd (by simpa using hlt i hi) hn,fun i hi hd o dd ho hdst =>?_,xcq _⟩ h)
 ·simp[hi]
 ·rw[Array.getElem?_replicate]at hj
  split at hj<;>simp at hj
 ·refine List.Pairwise.imp_of_mem (fun {p q} hp hq hpq =>?_) hpp
  exact xw4 hok hdo hD (hlt p hp) (hlt q hq) hpq
 ·cases hg:getT (vK ops D st.tmps) dd with
  | none=>rfl
  | some v=>
   have:=(xcs hg).2 i hd
   rw[ho]at this
   exact absurd hdst this
end
end Lx
namespace Lx
open Go
/-! ### states of which less is known -/
mutual
theorem Xf{pv:Value}{e:Env}{n:Nat} : ∀ (c:C),(∀b∈idsC c,b<n)->den pv (e.take n) c=den pv e c
 | .bool b,h=>rfl
 | .int k i,h=>rfl
 | .nilp,h=>rfl
 | .ptr b o,h=>by simp only[den,List.getElem?_take_of_lt (h b (by simp[idsC]))]
 | .nils,h=>rfl
 | .sl b o m c,h=>by simp only[den,List.getElem?_take_of_lt (h b (by simp[idsC]))]
 | .slg b o m,h=>by simp only[den,List.getElem?_take_of_lt (h b (by simp[idsC]))]
 | .pr b o i m f,h=>by simp only[den,List.getElem?_take_of_lt (h b (by simp[idsC]))]
 | .slw b o z m c,h=>by simp only[den,List.getElem?_take_of_lt (h b (by simp[idsC]))]
 | .slr b m,h=>by simp only[den,List.getElem?_take_of_lt (h b (by simp[idsC]))]
 | .fn f caps,h=>by simp only[den,qc caps (by simpa[idsC]using h)]
 | .meth s c,h=>by simp only[den,Xf c (by simpa[idsC]using h)]
 | .nilf,h=>rfl
 | .nili,h=>rfl
 | .port,h=>rfl
 | .mp b,h=>by simp only[den,List.getElem?_take_of_lt (h b (by simp[idsC]))]
 | .ifc t c,h=>by simp only[den,Xf c (by simpa[idsC]using h)]
theorem qc{pv:Value}{e:Env}{n:Nat} : ∀ (l:List C),(∀b∈yF l,b<n)->denL pv (e.take n) l=denL pv e l
 | [],h=>rfl
 | c::l,h=>by simp only[denL,Xf c (fun b hb=>h b (by simp[yF,hb])),qc l (fun b hb=>h b (by simp[yF,hb]))]
end
theorem xrV{pv:Value}{e:Env}{n:Nat}(x:V1)(h : ∀b∈xsS x,b<n):yD pv (e.take n) x=yD pv e x:=by
 cases x with
 | c a=>exact Xf a h
 | agg l=>simp only[yD,qc l h]
theorem xvd{pv:Value}{e:Env}{n:Nat}(x:V)(h : ∀b∈idsV x,b<n):denV pv (e.take n) x=denV pv e x:=by
 cases x with
 | c a=>exact Xf a h
 | agg l=>simp only[denV,qc l h]
 | tup l=>
  simp only[denV]
  rw[allSome_congr fun y hy=>xrV y fun b hb=>h b (by simp only[idsV,List.mem_flatMap];exact⟨y,hy,hb⟩)]
theorem qU(H:Heap) : ∀ (n:Nat) (todo acc l:List Nat),vB H n todo acc=some l->(∀b∈acc,∀k,blkAt H b=some k ->∀x∈yF k.cells,x∈acc\/x∈todo)->(∀b∈todo,b∈l)/\(∀b∈acc,b∈l)/\ ∀b∈l,∀k,blkAt H b=some k ->∀x∈yF k.cells,x∈l
 | n,[],acc,l,h,h1=>by
  have:acc=l:=by cases n<;>simpa[vB]using h
  subst this
  exact⟨by simp,fun _ h=>h,fun b hb k hk x hx=>(h1 b hb k hk x hx).resolve_right (by simp)⟩
 | 0,b::todo,acc,l,h,h1=>by simp[vB]at h
 | n+1,b::todo,acc,l,h,h1=>by
  simp only[vB]at h
  split at h
  ·rename_i hc
   have hb:b∈acc:=by simpa using hc
   obtain⟨g1,g2,g3⟩:=qU H n todo acc l h (fun c hc k hk x hx=>by
    rcases h1 c hc k hk x hx with h|h
    ·exact .inl h
    ·rcases List.mem_cons.1 h with h|h
     ·exact .inl (h▸hb)
     ·exact .inr h)
   refine⟨fun c hc =>?_,g2,g3⟩
   rcases List.mem_cons.1 hc with h|h
   ·exact g2 c (h▸hb)
   ·exact g1 c h
  ·split at h
   ·rename_i k hk
    obtain⟨g1,g2,g3⟩:=qU H n (yF k.cells++todo) (acc ++ [b]) l h (fun c hc k' hk' x hx=>by
     rcases List.mem_append.1 hc with hc|hc
     ·rcases h1 c hc k' hk' x hx with h|h
      ·exact .inl (by simp[h])
      ·rcases List.mem_cons.1 h with h|h
       ·exact .inl (by simp[h])
       ·exact .inr (by simp[h])
     ·simp only[List.mem_singleton]at hc
      subst hc
      rw[hk]at hk'
      cases hk'
      exact .inr (by simp[hx]))
    refine⟨fun c hc =>?_,fun c hc=>g2 c (by simp[hc]),g3⟩
    rcases List.mem_cons.1 hc with h|h
    ·exact g2 c (by simp[h])
    ·exact g1 c (by simp[h])
   ·cases h
theorem KX : ∀ (l:List Nat) (b:Nat),b∈l->b<kB l
 | [],b,h=>by simp at h
 | x::l,b,h=>by
  simp only[kB]
  rcases List.mem_cons.1 h with h|h
  ·omega
  ·have:=KX l b h;omega
theorem KY(l:List Nat) : ∀ (i:Nat) (H:Heap),(Zu l i H).length=H.length
 | i,[]=>rfl
 | i,x::H=>by simp only[Zu,List.length_cons,KY l (i+1) H]
theorem xim(l:List Nat) : ∀ (i:Nat) (H:Heap) (j:Nat),(Zu l i H)[j]? = (H[j]?).map fun x=>if l.contains (i+j)then x else none
 | i,[],j=>by simp[Zu]
 | i,x::H,0=>by simp[Zu]
 | i,x::H,j+1=>by
  simp only[Zu,List.getElem?_cons_succ,xim l (i+1) H j]
  rw[show i+1+j=i+(j+1)by omega]
theorem xve{m:Nat}{l:Tm}{t:Nat}{v:V}(h:getT (keepT m l) t=some v):getT l t=some v:=by
 obtain⟨h1,h2⟩:=we h
 unfold getT
 rw[blt_eq]
 simp only[show t<l.n from h1,decide_true,cond_true]
 exact qr m 9 0 l.s t v h2
section
variable{P:Program}{σ:Type}{I:Port P σ}{Γ:xQ}{S0:Bool->Nat->Prop}{w0:World}{e0:Env}
theorem Emb.keep{pv:Value}{e:Env}{H:Heap}{w:World}(E:Emb pv e H w){l:List Nat}(hcl : ∀b∈l,∀k,blkAt H b=some k ->∀x∈yF k.cells,x∈l) :
  Emb pv (e.take (kB l)) ((Zu l 0 H).take (kB l)) w/\ ∀q b,Own q (e.take (kB l)) ((Zu l 0 H).take (kB l)) b->Own q e H b:=by
 have orig : ∀i k,blkAt ((Zu l 0 H).take (kB l)) i=some k->i∈l/\i<kB l/\blkAt H i=some k:=by
  intro i k h
  rw[xT,List.getElem?_take]at h
  split at h
  ·rename_i hi
   rw[xim]at h
   cases hh:H[i]? with
   | none=>rw[hh]at h;simp at h
   | some x=>
    rw[hh]at h
    simp only[Option.map_some,oI,Nat.zero_add]at h
    split at h
    ·rename_i hc
     exact⟨by simpa using hc,hi,by rw[xT,hh,h]⟩
    ·cases h
  ·cases h
 have env : ∀i r,i<kB l->((e.take (kB l))[i]? = some r↔e[i]? = some r):=by
  intro i r hi
  rw[List.getElem?_take_of_lt hi]
 refine⟨⟨?_,fun i k hk =>?_,fun i j k k' r r' h1 h2 h3 h4 h5 v1 v2 =>?_,fun i k hk=>E.ok i k (orig i k hk).2.2⟩,fun q b hb =>?_⟩
 ·have:=E.len
  simp only[List.length_take,KY]
  omega
 ·obtain⟨h1,h2,h3⟩:=orig i k hk
  obtain⟨r,cs,g1,g2,g3⟩:=E.lies i k h3
  refine⟨r,cs,(env i r h2).2 g1,?_,g3⟩
  cases hk:k.tab with
  | none=>
   rw[Blk.real_none hk]at g2 |-
   rw[qc _ fun b hb=>KX l b (hcl i h1 k h3 b hb)]
   exact g2
  | some t=>
   rw[Blk.real_some hk]at g2 |-
   rw[jM (pv:=pv) (e:=e) (xdT t)]
   exact g2
 ·obtain⟨_,a2,a3⟩:=orig i k h1
  obtain⟨_,b2,b3⟩:=orig j k' h2
  exact E.alone i j k k' r r' a3 b3 ((env i r a2).1 h3) ((env j r' b2).1 h4) h5 v1 v2
 ·obtain⟨i,k,r,h1,h2,h3⟩:=hb
  obtain⟨_,a2,a3⟩:=orig i k h1
  exact⟨i,k,r,a3,(env i r a2).1 h2,h3⟩
theorem Cfg.norm{e:Env}{st st1:St}{s:σ}{F:Nat->Prop}{a:Act}{w:World}{m:Nat}(C:Cfg I S0 w0 e0 e st s F a w)(h:norm e0.length m st=some st1) : ∃e1,Cfg I S0 w0 e0 e1 st1 s F a w:=by
 unfold Lx.norm at h
 simp only at h
 split at h
 ·rename_i l hl
  cases h
  obtain⟨g1,_,g3⟩:=qU st.heap _ _ [] l hl (by simp)
  obtain⟨E1,ho⟩:=C.rel.emb.keep g3
  refine⟨e.take (kB l),⟨E1,C.rel.len,fun t v hv =>?_,C.rel.defers⟩,C.rep,fun b hb=>C.disj b (ho _ b hb),C.keeps,fun q b hb=>C.mine _ b (hb.imp (ho _ b) id),?_⟩
  rotate_left
  ·obtain⟨x,hx⟩:=C.ext
   have hle:e0.length<=kB l:=by
    rcases Nat.eq_zero_or_pos e0.length with h0|h0
    ·omega
    ·have:=KX l (e0.length-1) (g1 _ (by simp;omega))
     omega
   exact⟨x.take (kB l-e0.length),by rw[hx,List.take_append,List.take_of_length_le hle]⟩
  obtain⟨rv,h1,h2⟩:=C.rel.tmps t v (xve hv)
  refine⟨rv,h1,?_⟩
  rw[xvd v fun b hb=>KX l b (g1 b ?_)]
  ·exact h2
  ·refine List.mem_append.2 (.inr ?_)
   exact xdQ 9 _ t v (we hv).2 b hb
 ·cases h
theorem Cfg.conv1{e:Env}{st:St}{s:σ}{F:Nat->Prop}{a:Act}{w:World}(c:Cv)(C:Cfg I S0 w0 e0 e st s F a w) : ∃e1,Cfg I S0 w0 e0 e1 (Lx.conv1 c st) s F a w:=by
 unfold Lx.conv1
 split
 rotate_left
 ·exact⟨e,C⟩
 rename_i hg
 have E:=C.rel.emb
 have hlen:=E.len
 have hx:Ext e (e ++ [(0,0)]):=⟨_,rfl⟩
 obtain⟨tmps,H⟩:=st
 simp only at hg hlen E
 generalize hkn:(⟨[],c.el,true,some c.ek.tab⟩:Blk)=kn
 have hv:kn.virt=true:=by subst hkn;unfold Blk.virt;cases c.ek<;>rfl
 have hreal:kn.real = []:=by subst hkn;unfold Blk.real;cases c.ek<;>rfl
 have hsplit : ∀i k,blkAt (newB H kn) i=some k->(i=H.length/\k=kn)\/(blkAt H i=some k/\i<H.length):=by
  intro i k h
  rw[yI]at h
  split at h
  ·cases h;exact .inl ⟨‹_›,rfl⟩
  ·refine .inr ⟨h,?_⟩
   rw[xH]at h
   by_cases hi:i<H.length
   ·exact hi
   ·rw[List.getElem?_eq_none (by omega)]at h;simp at h
 have own : ∀q b,Own q (e ++ [(0,0)]) (newB H kn) b->Own q e H b:=by
  rintro q b ⟨i,k,r,h1,h2,h3,h4,h5⟩
  rcases hsplit i k h1 with⟨_,rfl⟩|⟨h6,h7⟩
  ·rw[hv]at h4;cases h4
  ·rw[List.getElem?_append_left (by omega)]at h2
   exact⟨i,k,r,h6,h2,h3,h4,h5⟩
 refine⟨e ++ [(0,0)],⟨⟨by simp[newB,hlen],fun i k hk =>?_,fun i j k k' r r' hk hk' hr hr' he v1 v2 =>?_,fun i k hk =>?_⟩,by rw[xpy];exact C.rel.len,fun t v hgv =>?_,C.rel.defers⟩,C.rep,fun b hb=>C.disj b (own _ b hb),C.keeps,fun q b hb=>C.mine _ b (hb.imp (own _ b) id),C.ext.trans hx⟩
 ·rcases hsplit i k hk with⟨rfl,rfl⟩|⟨hk,hi⟩
  ·exact⟨(0,0),[],by simp[hlen],by rw[hreal];rfl,.inl hv⟩
  ·obtain⟨r,cs',hr,hd',hw⟩:=E.lies i k hk
   exact⟨r,cs',hx.get hr,yH hx _ _ hd',hw⟩
 ·rcases hsplit i k hk with⟨_,rfl⟩|⟨hk,hi⟩
  ·rw[hv]at v1;cases v1
  ·rcases hsplit j k' hk' with⟨_,rfl⟩|⟨hk',hj⟩
   ·rw[hv]at v2;cases v2
   ·rw[List.getElem?_append_left (by omega)]at hr hr'
    exact E.alone i j k k' r r' hk hk' hr hr' he v1 v2
 ·rcases hsplit i k hk with⟨_,rfl⟩|⟨hk,hi⟩
  ·subst hkn;intro t _;rfl
  ·exact E.ok i k hk
 ·by_cases ht:t=c.slot
  ·subst ht
   obtain⟨_,rfl⟩:=wO hgv
   obtain⟨rv,h1,h2⟩:=C.rel.tmps _ _ hg
   refine⟨rv,h1,?_⟩
   simp only[denV,den]at h2 |-
   rw[hlen,List.getElem?_append_right (by omega),Nat.sub_self]
   simpa using h2
  ·rw[yt _ _ ht]at hgv
   obtain⟨rv,h1,h2⟩:=C.rel.tmps t v hgv
   exact⟨rv,h1,Vv hx _ _ h2⟩
theorem Cfg.convs{s:σ}{F:Nat->Prop}{a:Act}{w:World} : ∀ (l:List Cv) {e:Env} {st:St} (_:Cfg I S0 w0 e0 e st s F a w),∃e1,Cfg I S0 w0 e0 e1 (Lx.convs l st) s F a w
 | [],e,st,C=>⟨e,C⟩
 | c::l,e,st,C=>by
  obtain⟨e1,C1⟩:=Cfg.conv1 c C
  exact Cfg.convs l C1
theorem sub_ext{e0 e e1:Env}{l:List Nat}(hx:Ext e0 e)(htake:l.take e0.length=List.range e0.length)(hlen:e1.length=l.length)(hget : ∀ (i b:Nat),l[i]? = some b->e1[i]? = e[b]?):Ext e0 e1:=by
 obtain⟨x,rfl⟩:=hx
 have hle:e0.length<=l.length:=by
  have:=congrArg List.length htake
  simp at this
  omega
 refine⟨e1.drop e0.length,?_⟩
 rw[<- List.take_append_drop e0.length e1]
 congr 1
 ·apply List.ext_getElem?
  intro i
  rw[List.getElem?_take]
  split
  ·rename_i hi
   have hli:l[i]? = some i:=by
    have:=congrArg (·[i]?) htake
    simp only[List.getElem?_take_of_lt hi]at this
    rw[this,List.getElem?_range hi]
   rw[hget i i hli,List.getElem?_append_left hi]
  ·rename_i hi
   rw[List.getElem?_eq_none (by omega)]
 ·simp
theorem xfS{r:Nat->Option Nat} : ∀ (d:Nat) (s s':Sl) (t:Nat) (v:V),renS r s=some s'->getS d s' t=some v ->∃u,getS d s t=some u/\renV r u=some v
 | d,.tip,s',t,v,h,hv=>by
  simp only[renS,oI]at h;subst h
  rw[jK]at hv;cases hv
 | d,.leaf u,s',t,v,h,hv=>by
  simp only[renS]at h
  split at h
  ·rename_i u' hu
   cases h
   cases d with
   | zero=>
    simp only[getS]at hv |-
    cases hb:Nat.beq t 0 with
    | true=>rw[hb]at hv;cases hv;exact⟨u,rfl,hu⟩
    | false=>rw[hb]at hv;cases hv
   | succ d=>simp[getS]at hv
  ·cases h
 | d,.node a b,s',t,v,h,hv=>by
  simp only[renS]at h
  split at h
  ·rename_i x y hx hy
   cases h
   cases d with
   | zero=>simp[getS]at hv
   | succ d=>
    simp only[getS]at hv |-
    cases hb:Nat.blt t (2 ^ d) with
    | true=>rw[hb]at hv;exact xfS d a x t v hx hv
    | false=>rw[hb]at hv;exact xfS d b y _ v hy hv
  ·cases h
theorem Cfg.renum{e:Env}{st st1:St}{s:σ}{F:Nat->Prop}{a:Act}{w:World}(C:Cfg I S0 w0 e0 e st s F a w)(h:renum e0.length st=some st1) : ∃e1,Cfg I S0 w0 e0 e1 st1 s F a w:=by
 unfold Lx.renum at h
 split at h
 ·rename_i l hl
  obtain⟨hn,hk⟩:=xic hl
  split at h
  ·rename_i htake
   split at h
   ·rename_i s' H1 hs1 hH1
    cases h
    obtain⟨e1,hlen,hget,E1,hown⟩:=C.rel.emb.sub hn hk hH1
    have hr : ∀b b' x,idx l b=some b'->e[b]? = some x->e1[b']? = some x:=fun b b' x h1 h2=>(hget b' b (KT l b b' h1)).trans h2
    have own : ∀q b,Own q e1 H1 b->Own q e st.heap b:=fun q b hb=>by
     obtain⟨i,hi,k,r,h1,h2,h3,hv,h4⟩:=hown _ b hb
     exact⟨i,k,r,h1,h2,h3,hv,h4⟩
    refine⟨e1,⟨E1,C.rel.len,fun t v hv =>?_,C.rel.defers⟩,C.rep,fun b hb=>C.disj b (own _ b hb),C.keeps,fun q b hb=>C.mine _ b (hb.imp (own _ b) id),sub_ext C.ext (by simpa using htake) hlen hget⟩
    obtain⟨h5,h6⟩:=we hv
    obtain⟨u,h7,h8⟩:=xfS 9 _ _ t v hs1 h6
    have h9:getT st.tmps t=some u:=by
     unfold getT
     rw[blt_eq]
     simp only[show t<st.tmps.n from h5,decide_true,cond_true]
     exact h7
    obtain⟨rv,g1,g2⟩:=C.rel.tmps t u h9
    exact⟨rv,g1,KS hr u v rv h8 g2⟩
   ·cases h
  ·cases h
 ·cases h
theorem Cfg.normC{e:Env}{st st1:St}{s:σ}{F:Nat->Prop}{a:Act}{w:World}{m:Nat}{n:Fu}(C:Cfg I S0 w0 e0 e st s F a w)(h:normC n e0.length m st=some st1) : ∃e1,Cfg I S0 w0 e0 e1 st1 s F a w:=by
 unfold Lx.normC at h
 split at h
 ·rename_i st2 h2
  obtain⟨e2,C2⟩:=C.norm h2
  obtain⟨e3,C3⟩:=Cfg.convs n.cv C2
  split at h
  ·exact C3.renum h
  ·cases h;exact⟨e3,C3⟩
 ·cases h
theorem Cfg.drew{e:Env}{st:St}{s:σ}{F:Nat->Prop}{a:Act}{w:World}(C:Cfg I S0 w0 e0 e st s F a w):Cfg I S0 w0 e0 e st s F a {w with drawn:=w.drawn+1}:=
 ⟨⟨C.rel.emb.ofSame fun _ _=>rfl,C.rel.len,C.rel.tmps,C.rel.defers⟩,I.stable C.rep fun _ _=>rfl,C.disj,⟨C.keeps.os,C.keeps.tape,C.keeps.output,C.keeps.size,C.keeps.block⟩,C.mine,C.ext⟩
/-! ### code -/
def Ex.up:Ex->Exit
 | .normal =>.normal
 | .exit i =>.exit i
 | .ret =>.ret
theorem xct{tmps:Tm}{c:Operand}{t:Bool}(h:xO tmps c=some (.c (.bool t))):refine tmps c t=tmps:=by
 cases c with
 | tmp i=>exact xbC h
 | _=>rfl
theorem vQ(hΓ : ∀f m,Γ f=some m->SoundF I f m)(hm:P.follows .mixedOrders=true)(n:Fu){β:Type}{r:β×σ} : ∀ (c:Code) (lv:Nat) (K:Ex->St->T β) (Q:Exit->Act->World->Prop),
  (∀ex e st s F a w,(K ex st).run I.step s=some r->Cfg I S0 w0 e0 e st s F a w->Q ex.up a w)->
  ∀e st s F a w,Cfg I S0 w0 e0 e st s F a w->(ev P Γ n e0.length c lv st K).run I.step s=some r->c.wp P Q a w
 | .skip,lv,K,Q,hQ,e,st,s,F,a,w,C,h=>wp_skip (hQ .normal e st s F a w h C)
 | .label _,lv,K,Q,hQ,e,st,s,F,a,w,C,h=>wp_label (hQ .normal e st s F a w h C)
 | .exit i,lv,K,Q,hQ,e,st,s,F,a,w,C,h=>wp_exit (hQ (.exit i) e st s F a w h C)
 | .ret,lv,K,Q,hQ,e,st,s,F,a,w,C,h=>wp_ret (hQ .ret e st s F a w h C)
 | .seq x y,lv,K,Q,hQ,e,st,s,F,a,w,C,h=>by
  refine wp_seq (vQ hΓ hm n x _ _ _ (fun ex e' st' s' F' a' w' hk C' =>?_) e st s F a w C h)
  cases ex with
  | normal=>
   simp only at hk
   split at hk
   ·split at hk
    ·rename_i st2 hn
     obtain⟨e2,C2⟩:=C'.normC hn
     refine vQ hΓ hm n y lv (xdN n e0.length lv K) Q (fun ex e3 st3 s3 F3 a3 w3 hk3 C3 =>?_) e2 st2 s' F' a' w' C2 hk
     unfold xdN at hk3
     split at hk3
     ·rename_i st4 hn4
      obtain⟨e4,C4⟩:=C3.normC hn4
      exact hQ ex e4 st4 s3 F3 a3 w3 hk3 C4
     ·cases hk3
    ·cases hk
   ·exact vQ hΓ hm n y lv K Q hQ e' st' s' F' a' w' C' hk
  | exit i=>exact hQ (.exit i) e' st' s' F' a' w' hk C'
  | ret=>exact hQ .ret e' st' s' F' a' w' hk C'
 | .cond c x y,lv,K,Q,hQ,e,st,s,F,a,w,C,h=>by
  simp only[ev]at h
  split at h
  ·rename_i t hc
   have hv:=C.rel.says c _ hc
   simp only[denV,den,oI]at hv
   cases t
   ·rw[cond_false,xct hc]at h
    exact wp_cond_false hv.symm (vQ hΓ hm n y lv K Q hQ e st s F a w C h)
   ·rw[cond_true,xct hc]at h
    exact wp_cond_true hv.symm (vQ hΓ hm n x lv K Q hQ e st s F a w C h)
  ·cases h
 | .block id c,lv,K,Q,hQ,e,st,s,F,a,w,C,h=>by
  refine wp_block (vQ hΓ hm n c lv _ _ (fun ex e' st' s' F' a' w' hk C' =>?_) e st s F a w C h)
  cases ex with
  | normal=>exact hQ .normal e' st' s' F' a' w' hk C'
  | exit i=>
   simp only at hk
   simp only[Ex.up,Exit.inBlock]
   split
   ·rename_i hi;rw[if_pos hi]at hk;exact hQ .normal e' st' s' F' a' w' hk C'
   ·rename_i hi;rw[if_neg hi]at hk;exact hQ (.exit i) e' st' s' F' a' w' hk C'
  | ret=>exact hQ .ret e' st' s' F' a' w' hk C'
 | .scope c,lv,K,Q,hQ,e,st,s,F,a,w,C,h=>by
  refine wp_scope_straight (vQ hΓ hm n c lv K _ (fun ex e' st' s' F' a' w' hk C' =>?_) e st s F a w C h)
  have:=hQ ex e' st' s' F' a' w' hk C'
  cases ex<;>exact this
 | .region id ops draw,lv,K,Q,hQ,e,st,s,F,a,w,C,h=>by
  simp only[ev]at h
  cases draw
  ·exact wp_region_list (xcn hΓ (fun e' st' s' F' a' w' hk C'=>hQ .normal e' st' s' F' a' w' hk C') ops.toList C h)
  ·simp only at h
   split at h
   ·split at h
    ·rename_i hok
     exact xlq hΓ hm hok.1 hok.2 (fun e' st' s' F' a' w' hk C'=>hQ .normal e' st' s' F' a' w' hk C') C.drew h
    ·cases h
   ·split at h
    ·rename_i hok
     exact xlr hΓ hm hok.1.1 hok.1.2 hok.2 (fun e' st' s' F' a' w' hk C'=>hQ .normal e' st' s' F' a' w' hk C') C.drew h
    ·cases h
 | .loop c,lv,K,Q,hQ,e,st,s,F,a,w,C,h=>by
  simp only[ev]at h
  intro b k cs
  have key : ∀ (m:Nat) e st s F a w,Cfg I S0 w0 e0 e st s F a w->(xA m (fun st k=>ev P Γ n e0.length c (lv ||| (ue c).1) st fun e st'=>match e with
    | .normal=>match normC n e0.length (lv ||| (ue c).1) st' with
     | some st2=>k st2
     | none =>.fail
    | .exit i=>match normC n e0.length lv st' with
     | some st2=>K (.exit i) st2
     | none =>.fail
    | .ret=>match normC n e0.length lv st' with
     | some st2=>K .ret st2
     | none =>.fail) st).run I.step s=some r ->∃ex a' w',Q ex a' w'/\Arrives P (lone (b.at a (.code c :: .inLoop c::k)) cs w) b k cs ex a' w':=by
   intro m
   induction m with
   | zero=>intro e st s F a w C h;cases h
   | succ m ih=>
    intro e st s F a w C h
    simp only[xA]at h
    have hbody:c.wp P (Exit.then (fun a' w' =>∃ex a'' w'',Q ex a'' w''/\Arrives P (lone (b.at a' (.code c :: .inLoop c::k)) cs w') b k cs ex a'' w'') Q) a w:=by
     refine vQ hΓ hm n c _ _ _ (fun ex e' st' s' F' a' w' hk C' =>?_) e st s F a w C h
     cases ex with
     | normal=>
      simp only at hk
      split at hk
      ·rename_i st2 hn
       obtain⟨e2,C2⟩:=C'.normC hn
       exact ih e2 st2 s' F' a' w' C2 hk
      ·cases hk
     | exit i=>
      simp only at hk
      split at hk
      ·rename_i st2 hn
       obtain⟨e2,C2⟩:=C'.normC hn
       exact hQ (.exit i) e2 st2 s' F' a' w' hk C2
      ·cases hk
     | ret=>
      simp only at hk
      split at hk
      ·rename_i st2 hn
       obtain⟨e2,C2⟩:=C'.normC hn
       exact hQ .ret e2 st2 s' F' a' w' hk C2
      ·cases hk
    obtain⟨ex,a1,w1,hq,harr⟩:=hbody b (.inLoop c::k) cs
    cases ex with
    | normal=>
     obtain⟨ex2,a2,w2,hq2,harr2⟩:=hq
     exact⟨ex2,a2,w2,hq2,.of_steps (Steps.trans harr (.one step_inLoop)) harr2⟩
    | exit i=>exact⟨_,a1,w1,hq,.pass (x :=.inLoop c) rfl (fun _ _ =>.inl (by simp)) harr⟩
    | goto l=>exact⟨_,a1,w1,hq,.pass (x :=.inLoop c) rfl (fun _ _ =>.inl (by simp)) harr⟩
    | ret=>exact⟨_,a1,w1,hq,.pass (x :=.inLoop c) rfl (fun _ _ =>.inl (by simp)) harr⟩
    | panic ch=>exact⟨_,a1,w1,hq,.pass (x :=.inLoop c) rfl (fun _ _ =>.inl (by simp)) harr⟩
    | outgrown=>exact⟨_,a1,w1,hq,.pass (x :=.inLoop c) rfl (fun _ _ =>.inl (by simp)) harr⟩
  split at h
  ·rename_i st1 hn
   obtain⟨e1,C1⟩:=C.normC hn
   obtain⟨ex,a',w',hq,harr⟩:=key n.n e1 st1 s F a w C1 h
   exact⟨ex,a',w',hq,.of_steps (.one step_loop) harr⟩
  ·cases h
 | .goto _,lv,K,Q,hQ,e,st,s,F,a,w,C,h=>by simp[ev,T.run]at h
 | .rangeFunc ..,lv,K,Q,hQ,e,st,s,F,a,w,C,h=>by simp[ev,T.run]at h
 | .refuse _,lv,K,Q,hQ,e,st,s,F,a,w,C,h=>by simp[ev,T.run]at h
end
end Lx
namespace Lx
open Go
theorem xls{pv:Value}{e0 e:Env}{H H':Heap}{w:World}{v v':V}{rv:Value}(E:Emb pv e H w)(hv:denV pv e v=some rv)(hx:Ext e0 e)(h:finish e0.length v H=some (v',H')) :
  ∃e',Ext e0 e'/\denV pv e' v'=some rv/\Emb pv e' H' w/\ ∀q b,Own q e' H' b->Own q e H b:=by
 unfold finish at h
 split at h
 ·rename_i l hl
  obtain⟨hn,hk⟩:=xic hl
  split at h
  ·rename_i htake
   split at h
   ·rename_i v1 H1 hv1 hH1
    cases h
    obtain⟨e1,hlen,hget,E1,hown⟩:=E.sub hn hk hH1
    have hr : ∀b b' x,idx l b=some b'->e[b]? = some x->e1[b']? = some x:=fun b b' x h1 h2=>(hget b' b (KT l b b' h1)).trans h2
    refine⟨e1,?_,KS hr v v' rv hv1 hv,E1,fun q b hb =>?_⟩
    ·obtain⟨x,rfl⟩:=hx
     have ht:l.take e0.length=List.range e0.length:=by simpa using htake
     have hle:e0.length<=l.length:=by
      have:=congrArg List.length ht
      simp at this
      omega
     refine⟨e1.drop e0.length,?_⟩
     rw[<- List.take_append_drop e0.length e1]
     congr 1
     ·apply List.ext_getElem?
      intro i
      rw[List.getElem?_take]
      split
      ·rename_i hi
       have hli:l[i]? = some i:=by
        have:=congrArg (·[i]?) ht
        simp only[List.getElem?_take_of_lt hi]at this
        rw[this,List.getElem?_range hi]
       rw[hget i i hli,List.getElem?_append_left hi]
      ·rename_i hi
       rw[List.getElem?_eq_none (by omega)]
     ·simp
    ·obtain⟨i,hi,k,r,h1,h2,h3,hv,h4⟩:=hown _ b hb
     exact⟨i,k,r,h1,h2,h3,hv,h4⟩
   ·cases h
  ·cases h
 ·cases h
section
variable{P:Program}{σ:Type}{I:Port P σ}{Γ:xQ}
theorem res_run{pv:Value}{e:Env}{st:St}{a:Act}{w:World}(R:Rel pv e st a w){x:ResultVar}{v:V1}(h:xlT P st x=some v)(g:ResultVar->Sem Value)(g1 : ∀t,g (.tmp t)=pure (a.tmps.getD t undef))(g2 : ∀p t,g (.cell p t)=(do loadVar t (<- asAddr (a.tmps.getD p undef)))) :
  ∃rv,(g x).run P w = .ok rv w/\yD pv e v=some rv:=by
 cases x with
 | tmp t=>
  simp only[xlT]at h
  cases hg:getT st.tmps t with
  | none=>rw[hg]at h;simp at h
  | some u=>
   rw[hg]at h
   simp only[Option.bind_some]at h
   obtain⟨rv,h1,h2⟩:=R.tmps t u hg
   refine⟨rv,?_,by rw[xhq h];exact h2⟩
   rw[g1]
   simp[Array.getD_eq_getD_getElem?,h1]
 | cell p t=>
  simp only[xlT]at h
  split at h
  ·rename_i b q hg
   split at h
   ·rename_i k hk
    cases hp:yq P t k.cells q with
    | none=>rw[hp]at h;simp at h
    | some u=>
     rw[hp]at h
     simp only[Option.bind_some]at h
     obtain⟨r,cs,a1,a2,a3⟩:=R.emb.lies b k hk
     obtain⟨rp,h1,h2⟩:=R.tmps p _ hg
     simp only[denV,den,a1,Option.map_some,oI]at h2
     subst h2
     obtain⟨rv,h3,h4⟩ : ∃rv,(loadVar t ⟨r.1,q,none⟩).run P w = .ok rv w/\denV pv e u=some rv:=by
      cases ht:k.tab with
      | none=>
       obtain⟨tl,a4,_⟩:=a3.own (Blk.win_none ht) (Blk.virt_none ht) (Blk.mapped_none ht)
       exact xtV (P:=P) a2 a4 (xhu (R.emb.ok b k hk) hp)
      | some tb=>
       rw[R.emb.ok b k hk tb ht]at hp
       have:=qt (P:=P) (pv:=pv) (e:=e) (cells :=[]) (cs :=[]) (w:=w) (r:=r.1) (q:=0) rfl (fun j u hj=>by simp at hj) hp
       rwa [Nat.zero_add]at this
     refine⟨rv,?_,by rw[xhq h];exact h4⟩
     rw[g2]
     simp[Array.getD_eq_getD_getElem?,h1,asAddr,h3]
   ·cases h
  ·cases h
theorem xlt{pv:Value}{e:Env}{st:St}{a:Act}{w:World}(R:Rel pv e st a w)(g:ResultVar->Sem Value)(g1 : ∀t,g (.tmp t)=pure (a.tmps.getD t undef))(g2 : ∀p t,g (.cell p t)=(do loadVar t (<- asAddr (a.tmps.getD p undef)))) :
  ∀ (l:List ResultVar) (vs:List V1),allSome (xlT P st) l=some vs ->∃rs,(l.mapM g).run P w = .ok rs w/\allSome (yD pv e) vs=some rs
 | [],vs,h=>by simp only[allSome,oI]at h;subst h;exact⟨[],by simp,rfl⟩
 | x::l,vs,h=>by
  simp only[allSome]at h
  split at h
  ·rename_i y hy
   split at h
   ·rename_i ys hys
    cases h
    obtain⟨rv,h1,h2⟩:=res_run R hy g g1 g2
    obtain⟨rs,h3,h4⟩:=xlt R g g1 g2 l ys hys
    refine⟨rv::rs,?_,by simp only[allSome,h2,h4]⟩
    rw[List.mapM_cons]
    simp only[Sem.run_bind,h1,Result.andThen_ok,h3,Sem.run_pure]
   ·cases h
  ·cases h
theorem xrW(fn:Func)(tmps:Array Value) : ∃g:ResultVar->Sem Value,results fn tmps=(do let vs <- fn.results.mapM g;pure (if h:vs.size=1 then vs[0]else .tuple vs))/\(∀t,g (.tmp t)=pure (tmps.getD t undef))/\ ∀p t,g (.cell p t)=(do loadVar t (<- asAddr (tmps.getD p undef))):=by
 refine⟨_,rfl,?_,?_⟩
 ·intro t;rfl
 ·intro p t;rfl
theorem xoJ{pv:Value}{e:Env}{st:St}{a:Act}{w:World}{fn:Func}(R:Rel pv e st a w){v:V}(h:resV P fn st=some v) : ∃rv,(results fn a.tmps).run P w = .ok rv w/\denV pv e v=some rv:=by
 obtain⟨g,hg,g1,g2⟩:=xrW fn a.tmps
 unfold resV at h
 rw[hg]
 simp only[Array.mapM_eq_mapM_toList]
 split at h
 ·rename_i u hu
  cases h
  obtain⟨rs,h1,h2⟩:=xlt (P:=P) R g g1 g2 _ _ hu
  simp only[allSome]at h2
  split at h2
  ·rename_i rv hrv
   cases h2
   refine⟨rv,?_,by rw[xsU];exact hrv⟩
   simp only[Sem.run_bind,Sem.run_map,h1]
   rfl
  ·cases h2
 ·rename_i l hne hl
  cases h
  obtain⟨rs,h1,h2⟩:=xlt (P:=P) R g g1 g2 _ _ hl
  have hlen:=xS _ _ _ h2
  refine⟨.tuple rs.toArray,?_,by simp[denV,h2]⟩
  simp only[Sem.run_bind,Sem.run_map,h1]
  simp only[Result.andThen_ok,Sem.run_pure]
  rw[dif_neg]
  intro h3
  simp only[List.size_toArray]at h3
  rw[hlen]at h3
  obtain⟨x,hx⟩:=List.length_eq_one_iff.1 h3
  exact hne x hx
 ·cases h
theorem xbE (hΓ : ∀f m,Γ f=some m->SoundF I f m) (hm:P.follows .mixedOrders=true) {f:FuncId} {fn:Func} (hf:P.funcs[f]? = some fn) (hname:(fn.name == "runtime.NumGoroutine")=false) (hbody:fn.body.isSome=true) (n:Fu) :
  SoundF I f (fun args H=>some (mkS (V×Heap) (evF P Γ n fn args H) some)):=by
 obtain⟨c,hb⟩:=Option.isSome_iff_exists.1 hbody
 refine⟨⟨fn,c,hf,hname,hb⟩,?_⟩
 intro args H S ht e w s F vs E hv hR hF x v H' s' hrun hfx
 cases ht
 simp only[oI]at hfx
 subst hfx
 simp only[evF,hb,E.len]at hrun
 have hlen:=xS _ _ _ hv
 refine calls_of_wp hf hb (vQ (S0:=fun q b=>Own q e H b\/F b) (w0:=w) (e0:=e) hΓ hm n c _ _ _ (fun ex e' st' s1 F' a' w' hk C =>?_) e ⟨begun fn args,H⟩ s F _ w ?_ hrun)
 ·have hend : ∃u,resV P fn st'=some u/\ ∃r',finish e.length u st'.heap=some r'/\r'=(v,H')/\s1=s':=by
   cases ex with
   | exit i=>simp[endF,T.run]at hk
   | normal=>
    simp only[endF]at hk
    split at hk
    ·rename_i u hu
     split at hk
     ·rename_i r' hr'
      simp only[T.run,oI,Prod.mk.injEq]at hk
      exact⟨u,hu,r',hr',hk.1,hk.2⟩
     ·cases hk
    ·cases hk
   | ret=>
    simp only[endF]at hk
    split at hk
    ·rename_i u hu
     split at hk
     ·rename_i r' hr'
      simp only[T.run,oI,Prod.mk.injEq]at hk
      exact⟨u,hu,r',hr',hk.1,hk.2⟩
     ·cases hk
    ·cases hk
  obtain⟨u,hu,r',hr',rfl,rfl⟩:=hend
  obtain⟨rv,h1,h2⟩:=xoJ (P:=P) C.rel hu
  obtain⟨e2,h3,h4,h5,h6⟩:=xls C.rel.emb h2 C.ext hr'
  have hpost:a'.defers = []/\ ∃v',(results fn a'.tmps).run P w' = .ok v' w'/\ ∃e' F' rv,Ending.returned v' = .returned rv/\Ext e e'/\denV I.pv e' v=some rv/\Emb I.pv e' H' w'/\I.Rep s1 F' w'/\(∀b,Own false e' H' b ->¬F' b)/\
    Keeps (fun b=>Own true e H b\/F b) w w'/\ ∀q b,Own q e' H' b\/F' b->Own q e H b\/F b\/w.heap.size<=b:=by
   refine⟨C.rel.defers,rv,h1,e2,F',rv,rfl,h3,h4,h5,C.rep,fun b hb=>C.disj b (h6 _ b hb),C.keeps,fun q b hb =>?_⟩
   rcases C.mine _ b (hb.imp (h6 _ b) id)with(h|h)|h
   ·exact .inl h
   ·exact .inr (.inl h)
   ·exact .inr (.inr h)
  cases ex with
  | exit i=>simp[endF,T.run]at hk
  | normal=>exact hpost
  | ret=>exact hpost
 ·refine⟨⟨E,?_,fun t u hu =>?_,rfl⟩,hR,hF,Keeps.refl _ w,fun q b hb =>.inl hb,Ext.refl e⟩
  ·simp[begun,hlen];omega
  ·obtain⟨_,hu⟩:=we hu
   rcases xbY args 0 .tip t u hu with⟨_,h1⟩|h1
   ·rw[Nat.sub_zero]at h1
    have ht:=(List.getElem?_eq_some_iff.1 h1).1
    obtain⟨y,h2,h3⟩:=yu _ _ _ hv t _ h1
    refine⟨y,?_,h2⟩
    rw[Array.getElem?_append_left (by simpa[hlen]using ht)]
    simpa using h3
   ·rw[jK]at h1;cases h1
end
end Lx
namespace Lx
open Go
def xr{ι β:Type}:Nat->(ι->(ι->T β)->T β)->ι->T β
 | 0,_,_ =>.fail
 | n+1,B,i=>B i fun i'=>xr n B i'
theorem xu{ι β:Type}{F:St->(St->T β)->T β}{S:ι->St}{B:ι->(ι->T β)->T β}(h : ∀i k,F (S i) k=B i fun i'=>k (S i')) : ∀ (n:Nat) (i:ι),xA n F (S i)=xr n B i
 | 0,_=>rfl
 | n+1,i=>by
  rw[xA,xr,h]
  congr 1
  funext i'
  exact xu h n i'
theorem xj{ι β γ:Type}{B:ι->(ι->T β)->T β}{B':ι->(ι->T γ)->T γ}(κ:β->T γ)(h : ∀i k,(B i k).bind κ=B' i fun i'=>(k i').bind κ) : ∀ (n:Nat) (i:ι),(xr n B i).bind κ=xr n B' i
 | 0,_=>rfl
 | n+1,i=>by
  rw[xr,xr,h]
  congr 1
  funext i'
  exact xj κ h n i'
def xtr{β:Type}(P:Program)(Γ:xQ)(n:Fu)(m0:Nat)(c:Code)(lv:Nat)(K:Ex->St->T β)(st:St)(k:St->T β):T β:=
 ev P Γ n m0 c (lv ||| (ue c).1) st fun e st'=>match e with
  | .normal=>match normC n m0 (lv ||| (ue c).1) st' with
   | some st2=>k st2
   | none =>.fail
  | .exit i=>match normC n m0 lv st' with
   | some st2=>K (.exit i) st2
   | none =>.fail
  | .ret=>match normC n m0 lv st' with
   | some st2=>K .ret st2
   | none =>.fail
abbrev R:=V×Heap
inductive LS where
 | no
 | two (a b:LS)
 | loop (f:St->(Ex->St->T R)->Option (T R)) (a:LS)
 | peel (f:St->(Ex->St->T R)->Option (T R)) (a:LS)
 | cut (f:St->(Ex->St->T R)->Option (T R)) (a b:LS)
def ev2(P:Program)(Γ:xQ)(n:Fu)(m0:Nat):LS->Code->Nat->St->(Ex->St->T R)->T R
 | .two x y,.seq a b,lv,st,K=>ev2 P Γ n m0 x a (lv ||| (ue b).1) st fun e st'=>match e with
  | .normal=>match cutS n b with
   | true=>match normC n m0 (lv ||| (ue b).1) st' with
    | some st2=>ev2 P Γ n m0 y b lv st2 (xdN n m0 lv K)
    | none =>.fail
   | false=>ev2 P Γ n m0 y b lv st' K
  | .exit i=>K (.exit i) st'
  | .ret=>K .ret st'
 | .two x y,.cond c a b,lv,st,K=>match xO st.tmps c with
  | some (.c (.bool t))=>cond t (ev2 P Γ n m0 x a lv ⟨refine st.tmps c true,st.heap⟩ K) (ev2 P Γ n m0 y b lv ⟨refine st.tmps c false,st.heap⟩ K)
  | _ =>.fail
 | .two x _,.block id c,lv,st,K=>ev2 P Γ n m0 x c lv st fun e st'=>match e with
  | .normal=>K .normal st'
  | .exit i=>if i=id then K .normal st' else K (.exit i) st'
  | .ret=>K .ret st'
 | .two x _,.scope c,lv,st,K=>ev2 P Γ n m0 x c lv st K
 | .loop f x,.loop c,lv,st,K=>match normC n m0 (lv ||| (ue c).1) st with
  | some st1=>match f st1 K with
   | some t=>t
   | none=>xA n.n (fun st k=>ev2 P Γ n m0 x c (lv ||| (ue c).1) st fun e st'=>match e with
    | .normal=>match normC n m0 (lv ||| (ue c).1) st' with
     | some st2=>k st2
     | none =>.fail
    | .exit i=>match normC n m0 lv st' with
     | some st2=>K (.exit i) st2
     | none =>.fail
    | .ret=>match normC n m0 lv st' with
     | some st2=>K .ret st2
     | none =>.fail) st1
  | none =>.fail
 | .peel f x,.loop c,lv,st,K=>match normC n m0 (lv ||| (ue c).1) st with
  | some st1=>match n.n with
   | 0 =>.fail
   | m+1=>ev2 P Γ n m0 x c (lv ||| (ue c).1) st1 fun e st'=>match e with
    | .normal=>match normC n m0 (lv ||| (ue c).1) st' with
     | some st3=>match f st3 K with
      | some t=>t
      | none=>xA m (fun st k=>ev2 P Γ n m0 x c (lv ||| (ue c).1) st fun e st'=>match e with
       | .normal=>match normC n m0 (lv ||| (ue c).1) st' with
        | some st2=>k st2
        | none =>.fail
       | .exit i=>match normC n m0 lv st' with
        | some st2=>K (.exit i) st2
        | none =>.fail
       | .ret=>match normC n m0 lv st' with
        | some st2=>K .ret st2
        | none =>.fail) st3
     | none =>.fail
    | .exit i=>match normC n m0 lv st' with
     | some st2=>K (.exit i) st2
     | none =>.fail
    | .ret=>match normC n m0 lv st' with
     | some st2=>K .ret st2
     | none =>.fail
  | none =>.fail
 | .cut f x y,.seq a b,lv,st,K=>ev2 P Γ n m0 x a (lv ||| (ue b).1) st fun e st'=>match e with
  | .normal=>match cutS n b with
   | true=>match normC n m0 (lv ||| (ue b).1) st' with
    | some st2=>match f st2 K with
     | some t=>t
     | none=>ev2 P Γ n m0 y b lv st2 (xdN n m0 lv K)
    | none =>.fail
   | false=>ev2 P Γ n m0 y b lv st' K
  | .exit i=>K (.exit i) st'
  | .ret=>K .ret st'
 | _,c,lv,st,K=>ev P Γ n m0 c lv st K
def jG(P:Program)(Γ:xQ)(n:Fu)(m0:Nat)(x:LS)(c:Code)(lv:Nat)(K:Ex->St->T R)(st:St)(k:St->T R):T R:=
 ev2 P Γ n m0 x c (lv ||| (ue c).1) st fun e st'=>match e with
  | .normal=>match normC n m0 (lv ||| (ue c).1) st' with
   | some st2=>k st2
   | none =>.fail
  | .exit i=>match normC n m0 lv st' with
   | some st2=>K (.exit i) st2
   | none =>.fail
  | .ret=>match normC n m0 lv st' with
   | some st2=>K .ret st2
   | none =>.fail
def Good(P:Program)(Γ:xQ)(n:Fu)(m0:Nat):LS->Code->Nat->Prop
 | .two x y,.seq a b,lv=>Good P Γ n m0 x a (lv ||| (ue b).1)/\Good P Γ n m0 y b lv
 | .two x y,.cond _ a b,lv=>Good P Γ n m0 x a lv/\Good P Γ n m0 y b lv
 | .two x _,.block _ c,lv=>Good P Γ n m0 x c lv
 | .two x _,.scope c,lv=>Good P Γ n m0 x c lv
 | .loop f x,.loop c,lv=>Good P Γ n m0 x c (lv ||| (ue c).1)/\ ∀st K t,f st K=some t->xA n.n (jG P Γ n m0 x c lv K) st=t
 | .peel f x,.loop c,lv=>Good P Γ n m0 x c (lv ||| (ue c).1)/\ ∀st K t,f st K=some t->xA (n.n-1) (jG P Γ n m0 x c lv K) st=t
 | .cut f x y,.seq a b,lv=>Good P Γ n m0 x a (lv ||| (ue b).1)/\Good P Γ n m0 y b lv/\ ∀st K t,f st K=some t->ev2 P Γ n m0 y b lv st (xdN n m0 lv K)=t
 | _,_,_=>True
theorem xfT{P:Program}{Γ:xQ}{n:Fu}{m0:Nat} : ∀ (x:LS) (c:Code) (lv:Nat),Good P Γ n m0 x c lv ->∀ (st:St) (K:Ex->St->T R),ev2 P Γ n m0 x c lv st K=ev P Γ n m0 c lv st K:=by
 intro x
 induction x with
 | no=>intro c lv _ st K;simp only[ev2]
 | two x y hx hy=>
  intro c lv hg st K
  cases c with
  | seq a b=>
   simp only[Good]at hg
   simp only[ev2,ev]
   rw[hx a _ hg.1]
   congr 1
   funext e st'
   cases e with
   | normal=>
    simp only[hy b lv hg.2]
    cases cutS n b with
    | true=>cases normC n m0 (lv ||| (ue b).1) st'<;>rfl
    | false=>rfl
   | exit i=>rfl
   | ret=>rfl
  | cond c a b=>
   simp only[Good]at hg
   simp only[ev2,ev,hx a _ hg.1,hy b _ hg.2]
   rfl
  | block id c=>
   simp only[Good]at hg
   simp only[ev2,ev]
   rw[hx c _ hg]
   rfl
  | scope c=>
   simp only[Good]at hg
   simp only[ev2,ev]
   rw[hx c _ hg]
  | _=>simp only[ev2]
 | loop f x hx=>
  intro c lv hg st K
  cases c with
  | loop c=>
   simp only[Good]at hg
   simp only[ev2,ev]
   cases hn:normC n m0 (lv ||| (ue c).1) st with
   | none=>rfl
   | some st1=>
    simp only
    cases ht:f st1 K with
    | none=>
     simp only[hx c _ hg.1]
     rfl
    | some t=>
     simp only
     rw[<- hg.2 st1 K t ht]
     have:jG P Γ n m0 x c lv K=xtr P Γ n m0 c lv K:=by
      funext st k
      simp only[jG,xtr]
      rw[hx c _ hg.1]
     rw[this]
     rfl
  | _=>simp only[ev2]
 | peel f x hx=>
  intro c lv hg st K
  cases c with
  | loop c=>
   simp only[Good]at hg
   have hF:jG P Γ n m0 x c lv K=xtr P Γ n m0 c lv K:=by
    funext st k
    simp only[jG,xtr]
    rw[hx c _ hg.1]
   simp only[ev2,ev]
   cases hn:normC n m0 (lv ||| (ue c).1) st with
   | none=>rfl
   | some st1=>
    simp only
    have h2:=hg.2
    cases hm:n.n with
    | zero=>rfl
    | succ m=>
     rw[hm]at h2
     simp only[Nat.add_sub_cancel]at h2
     simp only[xA]
     rw[hx c _ hg.1]
     congr 1
     funext e st'
     cases e with
     | normal=>
      simp only
      cases normC n m0 (lv ||| (ue c).1) st' with
      | none=>rfl
      | some st3=>
       simp only
       cases ht:f st3 K with
       | none=>
        simp only[hx c _ hg.1]
        rfl
       | some t=>
        simp only
        rw[<- h2 st3 K t ht,hF]
        rfl
     | exit i=>rfl
     | ret=>rfl
  | _=>simp only[ev2]
 | cut f x y hx hy=>
  intro c lv hg st K
  cases c with
  | seq a b=>
   simp only[Good]at hg
   simp only[ev2,ev]
   rw[hx a _ hg.1]
   congr 1
   funext e st'
   cases e with
   | normal=>
    simp only
    cases cutS n b with
    | true=>
     simp only
     cases normC n m0 (lv ||| (ue b).1) st' with
     | none=>rfl
     | some st2=>
      simp only
      cases h:f st2 K with
      | none=>exact hy b lv hg.2.1 st2 _
      | some t=>exact(hg.2.2 st2 K t h).symm.trans (hy b lv hg.2.1 st2 _)
    | false=>exact hy b lv hg.2.1 st' K
   | exit i=>rfl
   | ret=>rfl
  | _=>simp only[ev2]
def evF2(P:Program)(Γ:xQ)(n:Fu)(x:LS)(fn:Func)(args:List V)(H:Heap):T (V×Heap):=
 match fn.body with
 | some c=>ev2 P Γ n H.length x c (xt fn.results.toList) ⟨begun fn args,H⟩ (endF P fn H.length)
 | none =>.fail
theorem xE{P:Program}{Γ:xQ}{n:Fu}{x:LS}{fn:Func}{args:List V}{H:Heap}{c:Code}(hc:fn.body=some c)(hg:Good P Γ n H.length x c (xt fn.results.toList)):evF2 P Γ n x fn args H=evF P Γ n fn args H:=by
 unfold evF2 evF
 rw[hc]
 exact xfT _ _ _ hg _ _
/-! ### where the loops of a function lie -/
def wa:List Nat->Code->Nat->Option (Code×Nat)
 | [],.loop c,lv=>some (c,lv)
 | 0::p,.seq a b,lv=>wa p a (lv ||| (ue b).1)
 | _::p,.seq _ b,lv=>wa p b lv
 | 0::p,.cond _ a _,lv=>wa p a lv
 | _::p,.cond _ _ b,lv=>wa p b lv
 | _::p,.block _ c,lv=>wa p c lv
 | _::p,.scope c,lv=>wa p c lv
 | _::p,.loop c,lv=>wa p c (lv ||| (ue c).1)
 | _,_,_=>none
def kZ(p:List Nat)(fn:Func):Code:=match fn.body with
 | some c=>match wa p c (xt fn.results.toList) with
  | some r=>r.1
  | none =>.skip
 | none =>.skip
def Zl(p:List Nat)(fn:Func):Nat:=match fn.body with
 | some c=>match wa p c (xt fn.results.toList) with
  | some r=>r.2
  | none=>0
 | none=>0
def lsAt(f:St->(Ex->St->T R)->Option (T R))(x:LS):List Nat->LS
 | [] =>.loop f x
 | 0::p =>.two (lsAt f x p) .no
 | _::p =>.two .no (lsAt f x p)
theorem xy{P:Program}{Γ:xQ}{n:Fu}{m0:Nat}{c:Code}{lv:Nat}:Good P Γ n m0 .no c lv:=by unfold Good;trivial
theorem xts{P:Program}{Γ:xQ}{n:Fu}{m0:Nat}{f:St->(Ex->St->T R)->Option (T R)}{x:LS} : ∀ (p:List Nat) (c:Code) (lv:Nat),
  (∀c' lv',wa p c lv=some (c',lv')->Good P Γ n m0 x c' (lv' ||| (ue c').1)/\ ∀st K t,f st K=some t->xA n.n (jG P Γ n m0 x c' lv' K) st=t)->Good P Γ n m0 (lsAt f x p) c lv:=by
 intro p
 induction p with
 | nil=>
  intro c lv h
  cases c with
  | loop c=>simp only[lsAt,Good];exact h c lv rfl
  | _=>simp only[lsAt,Good]
 | cons a p ih=>
  intro c lv h
  cases a with
  | zero=>
   cases c with
   | seq a b=>simp only[lsAt,Good];exact⟨ih a _ fun c' lv' hl=>h c' lv' hl,trivial⟩
   | cond c a b=>simp only[lsAt,Good];exact⟨ih a _ fun c' lv' hl=>h c' lv' hl,trivial⟩
   | block id c=>simp only[lsAt,Good];exact ih c _ fun c' lv' hl=>h c' lv' hl
   | scope c=>simp only[lsAt,Good];exact ih c _ fun c' lv' hl=>h c' lv' hl
   | _=>simp only[lsAt,Good]
  | succ a=>
   cases c with
   | seq a b=>simp only[lsAt,Good];exact⟨trivial,ih b _ fun c' lv' hl=>h c' lv' hl⟩
   | cond c a b=>simp only[lsAt,Good];exact⟨trivial,ih b _ fun c' lv' hl=>h c' lv' hl⟩
   | block id c=>simp only[lsAt,Good]
   | scope c=>simp only[lsAt,Good]
   | _=>simp only[lsAt,Good]
theorem xz{P:Program}{Γ:xQ}{n:Fu}{m0:Nat}{f:St->(Ex->St->T R)->Option (T R)}{x:LS}{p:List Nat}{fn:Func}{c:Code}(hc:fn.body=some c)(h:Good P Γ n m0 x (kZ p fn) (Zl p fn ||| (ue (kZ p fn)).1))
  (hl : ∀st K t,f st K=some t->xA n.n (jG P Γ n m0 x (kZ p fn) (Zl p fn) K) st=t):Good P Γ n m0 (lsAt f x p) c (xt fn.results.toList):=by
 refine xts p c _ fun c' lv' he =>?_
 have h1:kZ p fn=c':=by simp only[kZ,hc,he]
 have h2:Zl p fn=lv':=by simp only[Zl,hc,he]
 subst h1;subst h2
 exact⟨h,hl⟩
theorem xw5(q:List Nat) : ∀ (p:List Nat) (c:Code) (lv:Nat) (c':Code) (lv':Nat),wa p c lv=some (c',lv')->wa (p++0::q) c lv=wa q c' (lv' ||| (ue c').1):=by
 intro p
 induction p with
 | nil=>
  intro c lv c' lv' h
  cases c<;>simp only[wa]at h<;>(try cases h)
  rfl
 | cons a p ih=>
  intro c lv c' lv' h
  cases a with
  | zero=>cases c<;>simp only[wa]at h<;>(try cases h)<;>exact ih _ _ _ _ h
  | succ a=>cases c<;>simp only[wa]at h<;>(try cases h)<;>exact ih _ _ _ _ h
theorem qV{P:Program}{Γ:xQ}{n:Fu}{m0:Nat}{f:St->(Ex->St->T R)->Option (T R)}{x:LS}{p q:List Nat}{fn:Func}{c:Code}(hc:fn.body=some c)(h:Good P Γ n m0 x (kZ (p++0::q) fn) (Zl (p++0::q) fn ||| (ue (kZ (p++0::q) fn)).1))
  (hl : ∀st K t,f st K=some t->xA n.n (jG P Γ n m0 x (kZ (p++0::q) fn) (Zl (p++0::q) fn) K) st=t) (hp:(wa p c (xt fn.results.toList)).isSome=true):Good P Γ n m0 (lsAt f x q) (kZ p fn) (Zl p fn ||| (ue (kZ p fn)).1):=by
 refine xts q _ _ fun c' lv' he =>?_
 cases hq:wa p c (xt fn.results.toList) with
 | none=>rw[hq]at hp;cases hp
 | some r=>
  have h1:kZ p fn=r.1:=by simp only[kZ,hc,hq]
  have h2:Zl p fn=r.2:=by simp only[Zl,hc,hq]
  have h3:=xw5 q p c _ r.1 r.2 hq
  rw[h1,h2]at he
  have h4:kZ (p++0::q) fn=c':=by simp only[kZ,hc,h3,he]
  have h5:Zl (p++0::q) fn=lv':=by simp only[Zl,hc,h3,he]
  subst h4;subst h5
  exact⟨h,hl⟩
section
variable{P:Program}{Γ:xQ}{n:Fu}{m0:Nat}{f:St->(Ex->St->T R)->Option (T R)}{x:LS}{p q:List Nat}{fn:Func}{c:Code}
end
def xa:Nat:=4096
theorem xi{fn:Func}(h:fn.body.isSome=true):fn.body=some (fn.body.getD .skip):=by
 cases hb:fn.body with
 | none=>rw[hb]at h;cases h
 | some c=>rfl
end Lx
namespace Lx
open Go
section
variable{P:Program}{Γ:xQ}
theorem KZ{β γ:Type}{ops:Array Oper}(κ:β->T γ)(pu:PM)(o:Oper)(st:St)(k:St->T β):(yO P Γ ops pu o st k).bind κ=yO P Γ ops pu o st fun st'=>(k st').bind κ:=by
 rw[Xa,T.bind_assoc,<- Xa]
theorem xfU{β γ:Type}{ops:Array Oper}(κ:β->T γ) : ∀ (l:List Oper) (st:St) (k:St->T β),(xhl P Γ ops l st k).bind κ=xhl P Γ ops l st fun st'=>(k st').bind κ
 | [],st,k=>rfl
 | o::l,st,k=>by
  simp only[xhl]
  rw[KZ]
  congr 1
  funext st'
  exact xfU κ l st' k
theorem Xg{β γ:Type}{ops:Array Oper}{b:Array Nat}{D:List Nat}{A:List (Nat×Nat)}(κ:β->T γ) : ∀ (l:List Nat) (st:St) (k:St->T β),(yG P Γ ops b D A l st k).bind κ=yG P Γ ops b D A l st fun st'=>(k st').bind κ
 | [],st,k=>rfl
 | i::l,st,k=>by
  simp only[yG]
  split
  ·rw[KZ]
   congr 1
   funext st'
   exact Xg κ l st' k
  ·rfl
theorem xfV{β γ:Type}{F:St->(St->T β)->T β}{G:St->(St->T γ)->T γ}(κ:β->T γ)(h : ∀st k,(F st k).bind κ=G st fun st'=>(k st').bind κ) : ∀ (n:Nat) (st:St),(xA n F st).bind κ=xA n G st
 | 0,_=>rfl
 | n+1,st=>by
  simp only[xA]
  rw[h]
  congr 1
  funext st'
  exact xfV κ h n st'
theorem ev_bind{β γ:Type}(n:Fu)(m0:Nat)(κ:β->T γ) : ∀ (c:Code) (lv:Nat) (st:St) (K:Ex->St->T β),(ev P Γ n m0 c lv st K).bind κ=ev P Γ n m0 c lv st fun e st'=>(K e st').bind κ:=by
 intro c
 induction c with
 | skip=>intro lv st K;rfl
 | label=>intro lv st K;rfl
 | seq a b iha ihb=>
  intro lv st K
  simp only[ev]
  rw[iha]
  congr 1
  funext e st'
  cases e with
  | normal=>
   simp only
   cases cutS n b with
   | true=>
    simp only
    cases normC n m0 (lv ||| (ue b).1) st' with
    | none=>rfl
    | some st2=>
     simp only
     rw[ihb]
     congr 1
     funext e3 st3
     unfold xdN
     cases normC n m0 lv st3<;>rfl
   | false=>exact ihb _ _ _
  | exit i=>rfl
  | ret=>rfl
 | cond c a b iha ihb=>
  intro lv st K
  simp only[ev]
  split
  ·rename_i t _
   cases t
   ·exact ihb _ _ _
   ·exact iha _ _ _
  ·rfl
 | block id c ih=>
  intro lv st K
  simp only[ev]
  rw[ih]
  congr 1
  funext e st'
  cases e with
  | normal=>rfl
  | exit i=>simp only;split<;>rfl
  | ret=>rfl
 | scope c ih=>intro lv st K;exact ih _ _ _
 | exit id=>intro lv st K;rfl
 | ret=>intro lv st K;rfl
 | loop c ih=>
  intro lv st K
  simp only[ev]
  split
  ·refine xfV κ (fun st k =>?_) n.n _
   rw[ih]
   congr 1
   funext e st'
   cases e with
   | normal=>simp only;split<;>rfl
   | exit i=>simp only;split<;>rfl
   | ret=>simp only;split<;>rfl
  ·rfl
 | region p ops draw=>
  intro lv st K
  simp only[ev]
  split
  ·split
   ·split
    ·exact Xg κ _ _ _
    ·rfl
   ·split
    ·exact Xg κ _ _ _
    ·rfl
  ·exact xfU κ _ _ _
 | _=>intros;rfl
def evFK{β:Type}(P:Program)(Γ:xQ)(n:Fu)(fn:Func)(args:List V)(H:Heap)(k:V×Heap->T β):T β:=
 match fn.body with
 | some c=>ev P Γ n H.length c (xt fn.results.toList) ⟨begun fn args,H⟩ fun e st=>match e with
  | .exit _ =>.fail
  | .normal | .ret=>match resV P fn st with
   | some v=>match finish H.length v st.heap with
    | some r=>k r
    | none =>.fail
   | none =>.fail
 | none =>.fail
theorem xvf{β:Type}(n:Fu)(fn:Func)(args:List V)(H:Heap)(k:V×Heap->T β):evFK P Γ n fn args H k=(evF P Γ n fn args H).bind k:=by
 cases hb:fn.body with
 | none=>simp only[evFK,evF,hb];rfl
 | some c=>
  simp only[evFK,evF,hb]
  rw[ev_bind]
  congr 1
  funext e st
  cases e with
  | exit i=>rfl
  | normal=>
   simp only[endF]
   cases resV P fn st with
   | none=>rfl
   | some v=>simp only;cases finish (List.length H) v st.heap<;>rfl
  | ret=>
   simp only[endF]
   cases resV P fn st with
   | none=>rfl
   | some v=>simp only;cases finish (List.length H) v st.heap<;>rfl
def inl(P:Program)(Γ:xQ)(n:Fu)(fn:Func):List V->Heap->Option Sum:=fun args H=>
 some ⟨V×Heap,evF P Γ n fn args H,some,fun _ k=>evFK P Γ n fn args H k,fun _ k=>xvf n fn args H k⟩
theorem xbF {σ:Type} {I:Port P σ} (hΓ : ∀f m,Γ f=some m->SoundF I f m) (hm:P.follows .mixedOrders=true) {f:FuncId} {fn:Func} (hf:P.funcs[f]? = some fn) (hname:(fn.name == "runtime.NumGoroutine")=false) (hbody:fn.body.isSome=true) (n:Fu):SoundF I f (inl P Γ n fn):=by
 have h:=xbE (I:=I) hΓ hm hf hname hbody n
 refine⟨h.1,fun args H S hS =>?_⟩
 have:=h.2 args H _ rfl
 cases hS
 exact this
end
end Lx
end Go.Proofs.YtaegelbaghaooaaGreat
