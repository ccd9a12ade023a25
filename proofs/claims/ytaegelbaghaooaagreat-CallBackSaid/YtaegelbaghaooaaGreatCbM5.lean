/- Part. -/
import Derived.Test.YtaegelbaghaooaaGreatCbM4
import Derived.Test.YtaegelbaghaooaaGreatCbM19
set_option linter.all false
open Go.IntKind (i64 u64 u32 u8)
set_option maxRecDepth 1000000
namespace Go.Proofs.YtaegelbaghaooaaGreat
section
open Go.RowKit Lx
def orS(a b:Sm):Sm:=fun args H=>match a args H with
 | some S=>some S
 | none=>b args H
theorem xoX{σ:Type}{I:Port Tryz.prog σ}{f:FuncId}{a b:Sm}(ha:SoundF I f a)(hb:SoundF I f b):SoundF I f (orS a b):=by
 refine⟨ha.1,fun args H S hS =>?_⟩
 unfold orS at hS
 split at hS
 ·rename_i S' h
  cases hS
  exact ha.2 args H S h
 ·exact hb.2 args H S hS
def viaL(l:List (Nat×Sm)):List (Nat×Sm):=l.map fun p=>(p.1,orS p.2 (viaD p.2))
theorem xsf{l:List (Nat×Sm)}(h : ∀ {σ:Type} {I:Port Tryz.prog σ},SoundL I l):SoundL NP (viaL l):=by
 intro f m hm
 unfold viaL at hm
 rw[List.mem_map]at hm
 obtain⟨⟨f',m'⟩,h1,h2⟩:=hm
 cases h2
 exact xoX (h f' m' h1) (xvH fun d wy mm wb bb=>h f' m' h1)
def mNew:Sm:=fun
 | [.c (.int .i64 n),.c (.int .i64 k)],[]=>match n,k with
  | .ofNat n,.ofNat k=>if n<=1000000/\k<=1000000 then some (mkS Unit (.ret ()) fun _=>some (.tup [.c (.ptr 0 0),.c (.int .i64 0)],
    [some ⟨[.sl 1 0 n n,.sl 2 0 k k], 188,false,none⟩,some ⟨[], 34,false,some (.col .u64 (List.replicate n 0))⟩,some ⟨[], 5,false,some (.col .u8 (List.replicate k 0))⟩]))else none
  | _,_=>none
 | _,_=>none
theorem den_rep(pv:Value)(e:Env)(k:IntKind)(z:Int)(n:Nat):denL pv e (List.replicate n (.int k z))=some (List.replicate n (Value.int k z)):=by
 have:=vS pv e k (List.replicate n z)
 simpa using this
theorem Ve:SoundF NP 221 mNew:=by
 refine⟨⟨_,_,Tryz.func221,by kernel_rfl,rfl⟩,?_⟩
 intro args H S hS e w s0 F vs E hv hR hF x v H' s' hrun hfx
 unfold mNew at hS
 split at hS
 ·rename_i n k
  split at hS
  ·rename_i n k
   split at hS
   ·rename_i hc
    cases hS
    simp only[T.run,oI,Prod.mk.injEq]at hrun hfx
    obtain⟨rfl,rfl⟩:=hfx
    simp only[allSome,denV,den,oI]at hv
    subst hv
    refine(mem_new n k hc.1 hc.2 w).mono ?_
    rintro en w' ⟨mm,wb,bb,rfl,hM,hb,l1,l2,l3⟩
    have he:e = []:=List.length_eq_zero_iff.1 (by rw[<- E.len];rfl)
    subst he
    obtain⟨n1,n2,n3⟩:=hM.ne
    have hrow : ∀i b,blkAt [some ⟨[.sl 1 0 n n,.sl 2 0 k k], 188,false,none⟩,some ⟨[], 34,false,some (.col .u64 (List.replicate n 0))⟩,some ⟨[], 5,false,some (.col .u8 (List.replicate k 0))⟩] i=some b->(i=0/\b=⟨[.sl 1 0 n n,.sl 2 0 k k], 188,false,none⟩)\/(i=1/\b=⟨[], 34,false,some (.col .u64 (List.replicate n 0))⟩)\/(i=2/\b=⟨[], 5,false,some (.col .u8 (List.replicate k 0))⟩):=by
     intro i b h
     match i with
     | 0=>cases h;exact .inl ⟨rfl,rfl⟩
     | 1=>cases h;exact .inr (.inl ⟨rfl,rfl⟩)
     | 2=>cases h;exact .inr (.inr ⟨rfl,rfl⟩)
     | i+3=>simp[blkAt]at h
    have hi : ∀i r,i<3 ->[(mm,0),(wb,0),(bb,0)][i]? = some r->r.1=if i=0 then mm else if i=1 then wb else bb:=by
     intro i r hlt hr
     match i,hlt with
     | 0,_=>cases hr;rfl
     | 1,_=>cases hr;rfl
     | 2,_=>cases hr;rfl
    refine⟨[(mm,0),(wb,0),(bb,0)],fun _=>False,_,rfl,⟨_,rfl⟩,by rfl,⟨rfl,fun i b hb =>?_,fun i j b b' r r' h1 h2 h3 h4 h5 _ _ =>.inl ?_,fun i b hb=>by rcases hrow i b hb with⟨_,rfl⟩|⟨_,rfl⟩|⟨_,rfl⟩<;>exact fun t ht=>by first|rfl|cases ht⟩,fun b hb=>hb,fun b _ hb=>hb,Xj hb,?_⟩
    ·rcases hrow i b hb with⟨rfl,rfl⟩|⟨rfl,rfl⟩|⟨rfl,rfl⟩
     ·exact⟨(mm,0),_,rfl,rfl,Lies.mk (tl :=[]) rfl (by simpa using hM.mem) (fun _=>rfl) (fun h=>by cases h)⟩
     ·exact⟨(wb,0),_,rfl,vS _ _ _ _,Lies.mk (tl :=[]) rfl (by simpa using hM.words) (fun _=>rfl) (fun h=>by cases h)⟩
     ·exact⟨(bb,0),_,rfl,vS _ _ _ _,Lies.mk (tl :=[]) rfl (by simpa using hM.bytes) (fun _=>rfl) (fun h=>by cases h)⟩
    ·have a1:i<3:=by rcases hrow i b h1 with⟨h,_⟩|⟨h,_⟩|⟨h,_⟩<;>omega
     have a2:j<3:=by rcases hrow j b' h2 with⟨h,_⟩|⟨h,_⟩|⟨h,_⟩<;>omega
     rw[hi i r a1 h3,hi j r' a2 h4]at h5
     repeat' split at h5
     all_goals omega
    ·rintro q b (⟨i,k',r,h1,h2,rfl,_⟩|h)
     ·have a1:i<3:=by rcases hrow i k' h1 with⟨h,_⟩|⟨h,_⟩|⟨h,_⟩<;>omega
      rw[hi i r a1 h2]
      right;right
      repeat' split
      all_goals assumption
     ·exact h.elim
   ·cases hS
  ·cases hS
 ·cases hS
noncomputable def kMeth:List (Nat×Sm) :=[(306,viaM "Load"),(308,viaM "Store"),(304,viaM "CAS"),(303,viaM "Add"),(32,viaM "Get"),(31,viaM "Put"),(307,viaM "Self"),(43,viaM "Steps"),(221,mNew)]
theorem s_kMeth:SoundL NP kMeth:=
 .cons (yB ⟨_,_,Tryz.func306,by kernel_rfl,rfl⟩ xir) <|
 .cons (yB ⟨_,_,Tryz.func308,by kernel_rfl,rfl⟩ xfZ) <|
 .cons (yB ⟨_,_,Tryz.func304,by kernel_rfl,rfl⟩ xoP) <|
 .cons (yB ⟨_,_,Tryz.func303,by kernel_rfl,rfl⟩ xoQ) <|
 .cons (yB ⟨_,_,Tryz.func32,by kernel_rfl,rfl⟩ xf0) <|
 .cons (yB ⟨_,_,Tryz.func31,by kernel_rfl,rfl⟩ xf1) <|
 .cons (yB ⟨_,_,Tryz.func307,by kernel_rfl,rfl⟩ xis) <|
 .cons (yB ⟨_,_,Tryz.func43,by kernel_rfl,rfl⟩ xf2) <|
 .cons Ve .nil
theorem SoundL.append{σ:Type}{I:Port Tryz.prog σ}{a b:List (Nat×Sm)}(ha:SoundL I a)(hb:SoundL I b):SoundL I (a++b):=fun f m h=>by
 rcases List.mem_append.1 h with h|h
 ·exact ha f m h
 ·exact hb f m h
noncomputable def kn0:List (Nat×Sm):=kMeth++viaL ka18
theorem s_kn0:SoundL NP kn0:=SoundL.append s_kMeth (xsf xrN)
def orK(k:List (Nat×Sm))(f:Nat)(b:Sm):Sm:=fun args H=>match xo k f with
 | some a=>orS a b args H
 | none=>b args H
theorem yi{σ:Type}{I:Port Tryz.prog σ}{k:List (Nat×Sm)}{f:FuncId}{b:Sm}(hk:SoundL I k)(hb:SoundF I f b):SoundF I f (orK k f b):=by
 refine⟨hb.1,fun args H S hS =>?_⟩
 unfold orK at hS
 split at hS
 ·rename_i a ha
  exact(xoX (hk.known f a ha) hb).2 args H S hS
 ·exact hb.2 args H S hS
end
section
open Go.RowKit Lx
noncomputable def kl1:List (Nat×Sm):=(18,orK kn0 18 (inl Tryz.prog (xo kn0) 30 Tryz.f18))::kn0
theorem s_kl1:SoundL NP kl1 :=.cons (yi s_kn0 (xx s_kn0 30 Tryz.func18 (by kernel_rfl) (by kernel_rfl))) s_kn0
noncomputable def kl2:List (Nat×Sm):=(19,orK kl1 19 (inl Tryz.prog (xo kl1) 1 Tryz.f19))::kl1
theorem s_kl2:SoundL NP kl2 :=.cons (yi s_kl1 (xx s_kl1 1 Tryz.func19 (by kernel_rfl) (by kernel_rfl))) s_kl1
noncomputable def kl3:List (Nat×Sm):=kl2
theorem s_kl3:SoundL NP kl3:=s_kl2
noncomputable def kl4:List (Nat×Sm):=kl3
theorem s_kl4:SoundL NP kl4:=s_kl3
noncomputable def kl5:List (Nat×Sm):=kl4
theorem xiv:SoundL NP kl5:=s_kl4
noncomputable def kl6:List (Nat×Sm):=(42,orK kl5 42 (inl Tryz.prog (xo kl5) 1 Tryz.f42))::kl5
theorem s_kl6:SoundL NP kl6 :=.cons (yi xiv (xx xiv 1 Tryz.func42 (by kernel_rfl) (by kernel_rfl))) xiv
noncomputable def kl7:List (Nat×Sm):=(73,orK kl6 73 (inl Tryz.prog (xo kl6) 1 Tryz.f73))::kl6
theorem s_kl7:SoundL NP kl7 :=.cons (yi s_kl6 (xx s_kl6 1 Tryz.func73 (by kernel_rfl) (by kernel_rfl))) s_kl6
noncomputable def kl8:List (Nat×Sm):=(22,orK kl7 22 (inl Tryz.prog (xo kl7) 1 Tryz.f22))::kl7
theorem s_kl8:SoundL NP kl8 :=.cons (yi s_kl7 (xx s_kl7 1 Tryz.func22 (by kernel_rfl) (by kernel_rfl))) s_kl7
noncomputable def kl9:List (Nat×Sm):=(26,orK kl8 26 (inl Tryz.prog (xo kl8) 1 Tryz.f26))::kl8
theorem s_kl9:SoundL NP kl9 :=.cons (yi s_kl8 (xx s_kl8 1 Tryz.func26 (by kernel_rfl) (by kernel_rfl))) s_kl8
noncomputable def kl10:List (Nat×Sm):=(25,orK kl9 25 (inl Tryz.prog (xo kl9) 1 Tryz.f25))::kl9
theorem xsg:SoundL NP kl10 :=.cons (yi s_kl9 (xx s_kl9 1 Tryz.func25 (by kernel_rfl) (by kernel_rfl))) s_kl9
theorem run_ret{f:T (V×Heap)}{v:V}(h:f = .ret (v,[])):f.run NP.step ()=some ((v,[]),()):=by rw[h];rfl
theorem xsh {k:List (Nat×Sm)} (hk:SoundL NP k) {f:FuncId} {fn:Func} {n:Nat} (hf:(Tryz.prog).funcs[f]? = some fn) (hname:(fn.name == "runtime.NumGoroutine")=false) (hbody:fn.body.isSome=true) {b:Bool} (h:evF Tryz.prog (xo k) n fn [] [] = .ret (.c (.bool b),[])) (w:World) :
  Calls Tryz.prog f #[] w fun en w'=>en = .returned (.bool b)/\Below w.heap.size w w':=
 calls_flat (xx hk n hf hname hbody) rfl rfl (run_ret h) rfl (fun e=>rfl) w
end
section
open Go.RowKit Lx
noncomputable def kr1:List (Nat×Sm):=(44,orK kl10 44 (inl Tryz.prog (xo kl10) 1 Tryz.f44))::kl10
theorem s_kr1:SoundL NP kr1 :=.cons (yi xsg (xx xsg 1 Tryz.func44 (by kernel_rfl) (by kernel_rfl))) xsg
end
section
open Go.RowKit Lx
noncomputable def kc1:List (Nat×Sm):=(199,orK kl5 199 (inl Tryz.prog (xo kl5) 1 Tryz.f199))::kl5
theorem s_kc1:SoundL NP kc1 :=.cons (yi xiv (xx xiv 1 Tryz.func199 (by kernel_rfl) (by kernel_rfl))) xiv
noncomputable def kc2:List (Nat×Sm):=(125,orK kc1 125 (inl Tryz.prog (xo kc1) 1 Tryz.f125))::kc1
theorem s_kc2:SoundL NP kc2 :=.cons (yi s_kc1 (xx s_kc1 1 Tryz.func125 (by kernel_rfl) (by kernel_rfl))) s_kc1
noncomputable def kc3:List (Nat×Sm):=(56,orK kc2 56 (inl Tryz.prog (xo kc2) 1 Tryz.f56))::kc2
theorem s_kc3:SoundL NP kc3 :=.cons (yi s_kc2 (xx s_kc2 1 Tryz.func56 (by kernel_rfl) (by kernel_rfl))) s_kc2
noncomputable def kc4:List (Nat×Sm):=(57,orK kc3 57 (inl Tryz.prog (xo kc3) 1 Tryz.f57))::kc3
theorem s_kc4:SoundL NP kc4 :=.cons (yi s_kc3 (xx s_kc3 1 Tryz.func57 (by kernel_rfl) (by kernel_rfl))) s_kc3
noncomputable def kc5:List (Nat×Sm):=(58,orK kc4 58 (inl Tryz.prog (xo kc4) 1 Tryz.f58))::kc4
theorem s_kc5:SoundL NP kc5 :=.cons (yi s_kc4 (xx s_kc4 1 Tryz.func58 (by kernel_rfl) (by kernel_rfl))) s_kc4
noncomputable def kc6:List (Nat×Sm):=(59,orK kc5 59 (inl Tryz.prog (xo kc5) 1 Tryz.f59))::kc5
theorem s_kc6:SoundL NP kc6 :=.cons (yi s_kc5 (xx s_kc5 1 Tryz.func59 (by kernel_rfl) (by kernel_rfl))) s_kc5
theorem xoY:evF Tryz.prog (xo kc6) 1 Tryz.f60 [] [] = .ret (.c (.bool true),[]):=by kernel_rfl
theorem awake19(w:World):Calls Tryz.prog 60 #[] w fun e w'=>e = .returned (.bool true)/\Below w.heap.size w w':=
 xsh s_kc6 Tryz.func60 (by kernel_rfl) (by kernel_rfl) xoY w
end
end Go.Proofs.YtaegelbaghaooaaGreat
