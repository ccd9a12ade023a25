/- Part. -/
import Derived.Test.YtcicjcggclhbfaaGreatCsM5
set_option linter.all false
open Go.IntKind (i64 u64 u32 u8)
set_option maxRecDepth 1000000
namespace Go.Proofs.YtcicjcggclhbfaaGreat
section
open Go.RowKit Lx
def oT{α:Type}:Option α->T α
 | some x =>.ret x
 | none =>.fail
theorem xAm{σ α:Type}{step:PStep σ}{o:Option α}{s s':σ}{x:α}(h:(oT o).run step s=some (x,s')):o=some x/\s'=s:=by
 cases o with
 | none=>simp[oT,T.run]at h
 | some y=>
  simp only[oT,T.run,oI,dH]at h
  exact⟨by rw[h.1],h.2.symm⟩
def xwK(H:Heap):Option (DS×Bool×Bool):=match H with
 | some ⟨[.ptr 1 0,.int .i64 self,td],t0,false,none⟩::some ⟨[.ptr 2 0,.int .i64 n],t1,false,none⟩::some ⟨[.sl 3 0 a a',.sl 4 0 b b'],t2,false,none⟩::some ⟨[],t3,false,some (.col .u64 W)⟩::some ⟨[],t4,false,some (.col .u8 B)⟩::R=>
  if t0 = 90 /\ t1 = 87 /\ t2 = 232 /\ t3 = 42 /\ t4 = 5 then
   match td,R with
   | .nilp,[]=>some (⟨⟨W,B⟩,self,n,none⟩,decide (a'=a/\b'=b/\W.length=a/\B.length=b/\a<=1000000/\b<=1000000),false)
   | .ptr 5 0,[some ⟨l,t5,false,none⟩]=>if t5 = 47 /\ l.all yx=true then some (⟨⟨W,B⟩,self,n,some l⟩,decide (a'=a/\b'=b/\W.length=a/\B.length=b/\a<=1000000/\b<=1000000),true)else none
   | _,_=>none
  else none
 | _=>none
theorem xqz{H:Heap}{s:DS}{b:Bool}(h:xwK H=some (s,true,b)):Yl H=some s/\(b=false->H.length=5):=by
 unfold xwK at h
 split at h
 .rename_i self td t0 n t1 a a' b1 b' t2 t3 W t4 B R
  split at h
  .rename_i hc
   obtain⟨rfl,rfl,rfl,rfl,rfl⟩:=hc
   split at h
   .simp only[oI,dH,decide_eq_true_eq]at h
    obtain⟨rfl,⟨rfl,rfl,h1,h2,h3,h4⟩,rfl⟩:=h
    refine⟨?_,fun _=>rfl⟩
    simp only[Yl]
    rw[dB ⟨trivial,trivial,trivial,trivial,trivial,trivial,trivial⟩,dB ⟨h1,h2,h3,h4⟩]
   .rename_i l t5
    split at h
    .rename_i h5
     simp only[oI,dH,decide_eq_true_eq]at h
     obtain⟨rfl,⟨rfl,rfl,h1,h2,h3,h4⟩,rfl⟩:=h
     refine⟨?_,fun hh=>by cases hh⟩
     simp only[Yl]
     rw[dB ⟨trivial,trivial,trivial,trivial,trivial,trivial,trivial⟩,dB ⟨h1,h2,h3,h4⟩,dB h5]
    .cases h
   .cases h
  .cases h
 .cases h
def xwL{α:Type}(o:Option (α×DS)):Option (α×Res×DS):=o.bind fun p=>(p.2.told.bind Res.of).map fun r=>(p.1,r,p.2)
def xwM{α:Type}(o:Option (α×DS)):Option (α×DS):=o.bind fun p=>match p.2.told with
 | none=>some p
 | some _=>none
def viaH(n:Nat)(s:DS)(r:Res):Heap:=baseD s (.ptr n 0)++(List.replicate (n-5) none ++ [some ⟨r.cells, 47,false,none⟩])
def viaS(tells:Bool)(m:Sm):Sm:=fun args H=>match args with
 | .c (.ifc t (.ptr 0 0))::rest=>if t = 32 /\ rest.all flatV=true then
   match xwK H,m (.c .port::rest) [] with
   | some (s,g,b),some S=>match tells||b with
    | true=>some (mkS (S.α×Res×DS) ((yE g).bind fun _=>oT (xwL (S.t.run yn s))) fun r=>match S.f r.1 with
     | some (v,[])=>match flatV v with
      | true=>some (v,viaH H.length r.2.2 r.2.1)
      | false=>none
     | _=>none)
    | false=>some (mkS (S.α×DS) ((yE g).bind fun _=>oT (xwM (S.t.run yn s))) fun r=>match S.f r.1 with
     | some (v,[])=>match flatV v with
      | true=>some (v,baseD r.2 .nilp)
      | false=>none
     | _=>none)
   | _,_=>none
  else none
 | _=>none
theorem yB{f:FuncId}{m:Sm}{tells:Bool}(hs : ∀d wy mm wb bb,SoundF (Dir d wy mm wb bb) f m):SoundF NP f (viaS tells m):=by
 refine⟨(hs 0 0 0 0 0).1,?_⟩
 intro args H S hS e w s0 F vs E hv hR hF x v H' s' hrun cx
 unfold viaS at hS
 split at hS
 .rename_i t rest
  split at hS
  .rename_i hc
   obtain⟨rfl,la⟩:=hc
   split at hS
   .rename_i s g b S0 Jx hm
    have fin : ∀ (x0:S0.α) (s1:DS),g=true->S0.t.run yn s=some (x0,s1) ->∀v0,S0.f x0=some (v0,[])->flatV v0=true ->∀H1,(Yl H=some s->(b=false->H.length=5)->Xf H.length s1=some H1)->Calls Tryz.prog f vs.toArray w fun en w' =>∃e' F' rv,en = .returned rv/\Ext e e'/\denV NP.pv e' v0=some rv/\Emb NP.pv e' H1 w'/\NP.Rep () F' w'/\(∀b,Own false e' H1 b ->¬F' b)/\Keeps (fun b=>Own true e H b\/F b) w w'/\ ∀q b,Own q e' H1 b\/F' b->Own q e H b\/F b\/w.heap.size<=b:=by
     intro x0 s1 hg gk v0 Dt mw H1 Jc
     subst hg
     obtain⟨ol,af⟩:=xqz Jx
     have l9:=Jc ol af
     obtain⟨r0,r1,r2,r3,r4,td,e0,e1,e2,e3,e4,hD,ax⟩:=Ko E ol
     have ft:allSome (denV (pvD r0.1) []) (.c .port::rest)=some vs:=by
      simp only[allSome,denV,den,e0,dL,pvD]at hv |-
      rw[Kp (pv:=NP.pv) (e:=e) la]
      exact hv
     obtain⟨rv,fm⟩:=xia NP.pv e mw
     refine(xsb (hs r0.1 r1.1 r2.1 r3.1 r4.1) hm ft hD gk Dt (fun e'=>(je mw).trans fm)).mono ?_
     rintro en w' ⟨rfl,⟨zf,hD',mb⟩,hk⟩
     exact xoy E ol e0 e1 e2 e3 e4 ax hD' l9 mb hk (fun e'=>(je mw).trans fm)
    split at hS
    .cases hS
     obtain⟨_,s2,h1,h2⟩:=T.run_bind_some hrun
     obtain⟨hg,rfl⟩:=jT h1
     obtain⟨h3,rfl⟩:=xAm h2
     simp only[xwL,dQ,oM]at h3
     obtain⟨⟨x0,s1⟩,gk,r,⟨l,hl,hr⟩,rfl⟩:=h3
     simp only at cx hl
     split at cx
     .rename_i v0 Dt
      split at cx
      .rename_i mw
       cases cx
       refine fin x0 s1 hg gk v Dt mw _ fun ol af =>?_
       have h5:=xkI ol
       obtain rfl:=Res.of_eq hr
       simp only[Xf,hl]
       rw[dB ⟨h5,rfl⟩];rfl
      .cases cx
     .cases cx
    .rename_i Ad
     cases hS
     obtain⟨_,s2,h1,h2⟩:=T.run_bind_some hrun
     obtain⟨hg,rfl⟩:=jT h1
     obtain⟨h3,rfl⟩:=xAm h2
     simp only[xwM,dQ]at h3
     obtain⟨⟨x0,s1⟩,gk,h4⟩:=h3
     simp only at h4
     split at h4
     .rename_i hn
      cases h4
      simp only at cx
      split at cx
      .rename_i v0 Dt
       split at cx
       .rename_i mw
        cases cx
        refine fin x0 s1 hg gk v Dt mw _ fun ol af =>?_
        have hb:b=false:=by
         cases tells<;>cases b<;>simp_all
        simp only[Xf,hn]
        rw[dB (af hb)]
       .cases cx
      .cases cx
     .cases h4
   .cases hS
  .cases hS
 .cases hS
def vN{α:Type}(g:Bool)(q:T α)(s:DS):T (α×DS):=(yE g).bind fun _=>oT (xwM (q.run yn s))
def vR{α:Type}(g:Bool)(q:T α)(s:DS):T (α×Res×DS):=(yE g).bind fun _=>oT (xwL (q.run yn s))
def okS(a' a b' b:Nat)(W B:List Int):Bool:=decide (a'=a/\b'=b/\W.length=a/\B.length=b/\a<=1000000/\b<=1000000)
def okM(m:Mem):Bool:=okS m.words.length m.words.length m.bytes.length m.bytes.length m.words m.bytes
theorem okS_yes{W B:List Int}(h1:W.length<=1000000)(h2:B.length<=1000000):okS W.length W.length B.length B.length W B=true:=dD ⟨rfl,rfl,rfl,rfl,h1,h2⟩
theorem xug{α:Type}{g:Bool}{q:T α}{s s':DS}{x:α}(hg:g=true)(hr:q.run yn s=some (x,s'))(ht:s'.told=none):vN g q s = .ret (x,s'):=by
 subst hg
 simp only[vN,yE,cond_true,T.bind,hr,xwM,Option.bind_some,ht,oT]
theorem xAn{α:Type}{g:Bool}{q:T α}{s s':DS}{x:α}{r:Res}(hg:g=true)(hr:q.run yn s=some (x,s'))(ht:s'.told=some r.cells):vR g q s = .ret (x,r,s'):=by
 subst hg
 have e:Res.of r.cells=some r:=rfl
 simp only[vR,yE,cond_true,T.bind,hr,xwL,Option.bind_some,ht,e,dL,oT]
end
namespace Lx
open Go
def zI(n t:Int):Nat->Int
 | 0=>1|1=>1|2=>5|3=>9|4=>1|5=>4|6=>t|7=>n|8=>n|9=>n|10=>IntKind.wrap .i64 (n*8)|11=>IntKind.wrap .i64 (n*8)
 | 12=>IntKind.wrap .i64 (IntKind.wrap .i64 (t*4)*2)|13=>IntKind.wrap .i64 (t*4)|14=>IntKind.wrap .i64 (t*2)|15=>t
 | 16=>IntKind.wrap .i64 (t*qt (Geo.mk n t 0 0 0 0 0 0 0 0 0 0 0 0 0 0 0 0 0 0 0 0))|17=>Xc (Geo.mk n t 0 0 0 0 0 0 0 0 0 0 0 0 0 0 0 0 0 0 0 0)
 | _=>IntKind.wrap .i64 (Xc (Geo.mk n t 0 0 0 0 0 0 0 0 0 0 0 0 0 0 0 0 0 0 0 0)*8)
def bI(n t:Int):Nat->Int
 | 0=>0
 | k+1=>IntKind.wrap .i64 (bI n t k+zI n t k)
def geo0:Geo:=Geo.mk 0 0 0 0 0 0 0 0 0 0 0 0 0 0 0 0 0 0 0 0 0 0
def xqA{β:Type}(n t:Int)(κ:(Geo×Bool)->T β):T β:=
 bif decide (n<1)then(κ (geo0,false)) else
 bif decide (n>256)then(κ (geo0,false)) else
 bif decide (t<1)then(κ (geo0,false)) else
 bif decide (t>64)then(κ (geo0,false)) else
 κ (⟨n,t,bI n t 0,bI n t 1,bI n t 2,bI n t 3,bI n t 4,bI n t 5,bI n t 6,bI n t 7,bI n t 8,bI n t 9,bI n t 10,bI n t 11,bI n t 12,bI n t 13,bI n t 14,bI n t 15,bI n t 16,bI n t 17,bI n t 18,bI n t 19⟩,true)
def newT(n t:Int):T (Geo×Bool):=xqA n t .ret
theorem xye{β:Type}(n t)(κ:(Geo×Bool)->T β):(newT n t).bind κ=xqA n t κ:=by
 unfold newT xqA
 simp only[bz]
def xuh:Sm:=fun
 | [.c (.int .i64 n),.c (.int .i64 t)],[]=>some (mkS ((Geo×Bool)) (newT n t) fun r=>some (.tup [.agg r.1.cells,.c (.bool r.2)],[]))
 | _,_=>none
variable{σ:Type}{I:Port Tryz.prog σ}
theorem xAo(hl:SoundL I ka18):SoundF I 6 xuh:=by
 refine sq hl 30 Tryz.func6 fun _ _ t ht =>?_
 unfold xuh at ht
 split at ht
 .rename_i n t
  cases ht
  exact ey (xye n t _)
 .cases ht
end Lx
section
open Go.RowKit Lx
def mNewS:Sm:=fun
 | [.c (.int .i64 x),.c (.int .i64 y)],[]=>some (mkS Unit (yE (decide (0<=x/\x<=1000000/\0<=y/\y<=1000000))) fun _=>some (.tup [.c (.ptr 0 0),.c (.int .i64 0)],
    [some ⟨[.sl 1 0 x.toNat x.toNat,.sl 2 0 y.toNat y.toNat], 232,false,none⟩,some ⟨[], 42,false,some (.col .u64 (List.replicate x.toNat 0))⟩,some ⟨[], 5,false,some (.col .u8 (List.replicate y.toNat 0))⟩]))
 | _,_=>none
theorem xqB:SoundF NP 125 mNewS:=by
 refine⟨Kq.1,?_⟩
 intro args H S hS e w s0 F vs E hv hR hF x v H' s' hrun cx
 unfold mNewS at hS
 split at hS
 .rename_i a b
  cases hS
  obtain⟨hg,rfl⟩:=jT hrun
  rw[decide_eq_true_eq]at hg
  obtain⟨n,rfl⟩ : ∃n:Nat,a=(n:Int):=⟨a.toNat,by omega⟩
  obtain⟨k,rfl⟩ : ∃k:Nat,b=(k:Int):=⟨b.toNat,by omega⟩
  have hS':mNew [.c (.int .i64 (Int.ofNat n)),.c (.int .i64 (Int.ofNat k))] []=some (mkS Unit (.ret ()) fun _=>some (.tup [.c (.ptr 0 0),.c (.int .i64 0)],
    [some ⟨[.sl 1 0 n n,.sl 2 0 k k], 232,false,none⟩,some ⟨[], 42,false,some (.col .u64 (List.replicate n 0))⟩,some ⟨[], 5,false,some (.col .u8 (List.replicate k 0))⟩])):=by
   simp only[mNew]
   rw[dB (by omega)]
  exact Kq.2 _ _ _ hS' e w _ F vs E hv hR hF () v H' _ rfl cx
 .cases hS
def mTrue:Sm:=fun
 | [],[]=>some (mkS Unit (yE true) (fun _=>some (.c (.bool true),[])))
 | _,_=>none
noncomputable def kv0:List (Nat×Sm):=(59,viaS false xaA)::(37,viaS false xgn)::(76,viaS false xhm)::(38,viaS true Ke)::(14,viaS true xcP) ::
 (111,viaS true Ws)::(21,viaS true xhp)::(54,viaS false VY)::(119,viaS false xno)::(6,xuh)::(125,mNewS)::ka18
theorem s_kv0:SoundL NP kv0:=
 .cons (yB fun _ _ _ _ _=>xgO ku) <| .cons (yB fun _ _ _ _ _=>xgo wD) <| .cons (yB fun _ _ _ _ _=>xhn ZM) <| .cons (yB fun _ _ _ _ _=>xaX XS) <| .cons (yB fun _ _ _ _ _=>xdG xhs) <|
 .cons (yB fun _ _ _ _ _=>xdF XS) <| .cons (yB fun _ _ _ _ _=>xhq ZM) <| .cons (yB fun _ _ _ _ _=>xaM xhf) <| .cons (yB fun _ _ _ _ _=>xkd ZM) <| .cons (xAo xuY) <| .cons xqB xuY
noncomputable def kv1:List (Nat×Sm):=(8,inl Tryz.prog (xp kv0) 1 Tryz.f8)::kv0
theorem s_kv1:SoundL NP kv1 :=.cons (xI s_kv0 1 Tryz.func8 (by kernel_rfl) (by kernel_rfl)) s_kv0
noncomputable def kv2:List (Nat×Sm):=kv1
theorem s_kv2:SoundL NP kv2:=s_kv1
noncomputable def kv3:List (Nat×Sm):=kv2
theorem s_kv3:SoundL NP kv3:=s_kv2
noncomputable def kv4:List (Nat×Sm):=kv3
theorem s_kv4:SoundL NP kv4:=s_kv3
noncomputable def kv5:List (Nat×Sm):=kv4
theorem s_kv5:SoundL NP kv5:=s_kv4
end
section
open Go.RowKit Lx
end
namespace Lx
variable{β:Type}(g:Geo)
open Go
end Lx
section
structure Lx.Ser where
 n:Nat
 L:Lx.RowsL
 ok:Bool
 x:Nat
 x2:Nat
 y:Nat
 y2:Nat
 W:Lx.IntsL
 B:Lx.IntsL
open Go.RowKit Lx
theorem xi7:SoundF NP 26 mTrue:=by
 refine qu Tryz.func26 (by kernel_rfl) (by kernel_rfl) fun args H S hS =>?_
 unfold mTrue at hS
 split at hS
 .cases hS
  exact⟨rfl,true,_,rfl,[],.bool true,fun e=>rfl,fun e=>rfl,fun _ w=>awake19 w⟩
 .cases hS
noncomputable def kd0:List (Nat×Sm):=(61,viaS true m_doT)::(26,mTrue)::kv5
theorem s_kd0:SoundL NP kd0:=(.cons (yB fun _ _ _ _ _=>xwR xuX) (.cons xi7 s_kv5))
noncomputable def kd1:List (Nat×Sm):=(104,inl Tryz.prog (xp kd0) 1 Tryz.f104)::kd0
theorem s_kd1:SoundL NP kd1 :=.cons (xI s_kd0 1 Tryz.func104 (by kernel_rfl) (by kernel_rfl)) s_kd0
noncomputable def kd2:List (Nat×Sm):=(58,inl Tryz.prog (xp kd1) 1 Tryz.f58)::kd1
theorem s_kd2:SoundL NP kd2 :=.cons (xI s_kd1 1 Tryz.func58 (by kernel_rfl) (by kernel_rfl)) s_kd1
noncomputable def kd3:List (Nat×Sm):=(27,inl Tryz.prog (xp kd2) 1 Tryz.f27)::kd2
theorem s_kd3:SoundL NP kd3 :=.cons (xI s_kd2 1 Tryz.func27 (by kernel_rfl) (by kernel_rfl)) s_kd2
noncomputable def kd4:List (Nat×Sm):=(46,inl Tryz.prog (xp kd3) 1 Tryz.f46)::kd3
theorem s_kd4:SoundL NP kd4 :=.cons (xI s_kd3 1 Tryz.func46 (by kernel_rfl) (by kernel_rfl)) s_kd3
noncomputable def kd5:List (Nat×Sm):=(18,inl Tryz.prog (xp kd4) 1 Tryz.f18)::kd4
theorem s_kd5:SoundL NP kd5 :=.cons (xI s_kd4 1 Tryz.func18 (by kernel_rfl) (by kernel_rfl)) s_kd4
noncomputable def kd6:List (Nat×Sm):=(17,inl Tryz.prog (xp kd5) 1 Tryz.f17)::kd5
theorem s_kd6:SoundL NP kd6 :=.cons (xI s_kd5 1 Tryz.func17 (by kernel_rfl) (by kernel_rfl)) s_kd5
noncomputable def kd7:List (Nat×Sm):=(30,inl Tryz.prog (xp kd6) 1 Tryz.f30)::kd6
theorem s_kd7:SoundL NP kd7 :=.cons (xI s_kd6 1 Tryz.func30 (by kernel_rfl) (by kernel_rfl)) s_kd6
end
end Go.Proofs.YtcicjcggclhbfaaGreat
