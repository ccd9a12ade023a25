/- Part. -/
import Derived.Test.YtcicjcggclhbfaaGreatCsM4
import Derived.Test.YtcicjcggclhbfaaGreatCsM19
set_option linter.all false
open Go.IntKind (i64 u64 u32 u8)
set_option maxRecDepth 1000000
namespace Go.Proofs.YtcicjcggclhbfaaGreat
section
open Go.RowKit Lx
def orS(a b:Sm):Sm:=fun args H=>match a args H with
 | some S=>some S
 | none=>b args H
theorem xsf{σ:Type}{I:Port Tryz.prog σ}{f:FuncId}{a b:Sm}(ha:SoundF I f a)(hb:SoundF I f b):SoundF I f (orS a b):=by
 refine⟨ha.1,fun args H S hS =>?_⟩
 unfold orS at hS
 split at hS
 .rename_i S' h
  cases hS
  exact ha.2 args H S h
 .exact hb.2 args H S hS
def viaL(l:List (Nat×Sm)):List (Nat×Sm):=l.map fun p=>(p.1,orS p.2 (viaD p.2))
theorem xvR{l:List (Nat×Sm)}(h : ∀ {σ:Type} {I:Port Tryz.prog σ},SoundL I l):SoundL NP (viaL l):=by
 intro f m hm
 unfold viaL at hm
 rw[List.mem_map]at hm
 obtain⟨⟨f',m'⟩,h1,h2⟩:=hm
 cases h2
 exact xsf (h f' m' h1) (xzx fun d wy mm wb bb=>h f' m' h1)
def mNew:Sm:=fun
 | [.c (.int .i64 n),.c (.int .i64 k)],[]=>match n,k with
  | .ofNat n,.ofNat k=>if n<=1000000/\k<=1000000 then some (mkS Unit (.ret ()) fun _=>some (.tup [.c (.ptr 0 0),.c (.int .i64 0)],
    [some ⟨[.sl 1 0 n n,.sl 2 0 k k], 232,false,none⟩,some ⟨[], 42,false,some (.col .u64 (List.replicate n 0))⟩,some ⟨[], 5,false,some (.col .u8 (List.replicate k 0))⟩]))else none
  | _,_=>none
 | _,_=>none
theorem den_rep(pv:Value)(e:Env)(k:IntKind)(z:Int)(n:Nat):denL pv e (List.replicate n (.int k z))=some (List.replicate n (Value.int k z)):=by
 have:=wv pv e k (List.replicate n z)
 simpa using this
theorem Kq:SoundF NP 125 mNew:=by
 refine⟨⟨_,_,Tryz.func125,by kernel_rfl,rfl⟩,?_⟩
 intro args H S hS e w s0 F vs E hv hR hF x v H' s' hrun cx
 unfold mNew at hS
 split at hS
 .rename_i n k
  split at hS
  .rename_i n k
   split at hS
   .rename_i hc
    cases hS
    simp only[T.run,oI,dH]at hrun cx
    obtain⟨rfl,rfl⟩:=cx
    simp only[allSome,denV,den,oI]at hv
    subst hv
    refine(mem_new n k hc.1 hc.2 w).mono ?_
    rintro en w' ⟨mm,wb,bb,rfl,hM,hb,l1,l2,l3⟩
    have he:e = []:=List.length_eq_zero_iff.1 (by rw[<- E.len];rfl)
    subst he
    obtain⟨n1,n2,n3⟩:=hM.ne
    have ba : ∀i b,blkAt [some ⟨[.sl 1 0 n n,.sl 2 0 k k], 232,false,none⟩,some ⟨[], 42,false,some (.col .u64 (List.replicate n 0))⟩,some ⟨[], 5,false,some (.col .u8 (List.replicate k 0))⟩] i=some b->(i=0/\b=⟨[.sl 1 0 n n,.sl 2 0 k k], 232,false,none⟩)\/(i=1/\b=⟨[], 42,false,some (.col .u64 (List.replicate n 0))⟩)\/(i=2/\b=⟨[], 5,false,some (.col .u8 (List.replicate k 0))⟩):=by
     intro i b h
     match i with
     | 0=>cases h;exact .inl ⟨rfl,rfl⟩
     | 1=>cases h;exact .inr (.inl ⟨rfl,rfl⟩)
     | 2=>cases h;exact .inr (.inr ⟨rfl,rfl⟩)
     | i+3=>simp[blkAt]at h
    have hi : ∀i r,i<3 ->[(mm,0),(wb,0),(bb,0)][i]? = some r->r.1=if i=0 then mm else if i=1 then wb else bb:=by
     intro i r an hr
     match i,an with
     | 0,_=>cases hr;rfl
     | 1,_=>cases hr;rfl
     | 2,_=>cases hr;rfl
    refine⟨[(mm,0),(wb,0),(bb,0)],fun _=>False,_,rfl,⟨_,rfl⟩,by rfl,⟨rfl,fun i b hb =>?_,fun i j b b' r r' h1 h2 h3 h4 h5 _ _ =>.inl ?_,fun i b hb=>by rcases ba i b hb with⟨_,rfl⟩|⟨_,rfl⟩|⟨_,rfl⟩<;>exact fun t ht=>by first|rfl|cases ht⟩,fun b hb=>hb,fun b _ hb=>hb,Yj hb,?_⟩
    .rcases ba i b hb with⟨rfl,rfl⟩|⟨rfl,rfl⟩|⟨rfl,rfl⟩
     .exact⟨(mm,0),_,rfl,rfl,Lies.mk (tl :=[]) rfl (by simpa using hM.mem) (fun _=>rfl) (fun h=>by cases h)⟩
     .exact⟨(wb,0),_,rfl,wv _ _ _ _,Lies.mk (tl :=[]) rfl (by simpa using hM.words) (fun _=>rfl) (fun h=>by cases h)⟩
     .exact⟨(bb,0),_,rfl,wv _ _ _ _,Lies.mk (tl :=[]) rfl (by simpa using hM.bytes) (fun _=>rfl) (fun h=>by cases h)⟩
    .have a1:i<3:=by rcases ba i b h1 with⟨h,_⟩|⟨h,_⟩|⟨h,_⟩<;>omega
     have a2:j<3:=by rcases ba j b' h2 with⟨h,_⟩|⟨h,_⟩|⟨h,_⟩<;>omega
     rw[hi i r a1 h3,hi j r' a2 h4]at h5
     repeat' split at h5
     all_goals omega
    .rintro q b (⟨i,k',r,h1,h2,rfl,_⟩|h)
     .have a1:i<3:=by rcases ba i k' h1 with⟨h,_⟩|⟨h,_⟩|⟨h,_⟩<;>omega
      rw[hi i r a1 h2]
      right;right
      repeat' split
      all_goals assumption
     .exact h.elim
   .cases hS
  .cases hS
 .cases hS
noncomputable def kMeth:List (Nat×Sm) :=[(279,viaM "Load"),(281,viaM "Store"),(277,viaM "CAS"),(276,viaM "Add"),(33,viaM "Get"),(23,viaM "Put"),(280,viaM "Self"),(18,viaM "Steps"),(125,mNew)]
theorem s_kMeth:SoundL NP kMeth:=
 .cons (yQ ⟨_,_,Tryz.func279,by kernel_rfl,rfl⟩ xkF) <|
 .cons (yQ ⟨_,_,Tryz.func281,by kernel_rfl,rfl⟩ xh5) <|
 .cons (yQ ⟨_,_,Tryz.func277,by kernel_rfl,rfl⟩ xr7) <|
 .cons (yQ ⟨_,_,Tryz.func276,by kernel_rfl,rfl⟩ xr8) <|
 .cons (yQ ⟨_,_,Tryz.func33,by kernel_rfl,rfl⟩ xh6) <|
 .cons (yQ ⟨_,_,Tryz.func23,by kernel_rfl,rfl⟩ xh7) <|
 .cons (yQ ⟨_,_,Tryz.func280,by kernel_rfl,rfl⟩ xkG) <|
 .cons (yQ ⟨_,_,Tryz.func18,by kernel_rfl,rfl⟩ xh8) <|
 .cons Kq .nil
theorem SoundL.append{σ:Type}{I:Port Tryz.prog σ}{a b:List (Nat×Sm)}(ha:SoundL I a)(hb:SoundL I b):SoundL I (a++b):=fun f m h=>by
 rcases List.mem_append.1 h with h|h
 .exact ha f m h
 .exact hb f m h
noncomputable def kn0:List (Nat×Sm):=kMeth++viaL ka18
theorem s_kn0:SoundL NP kn0:=SoundL.append s_kMeth (xvR xuY)
def orK(k:List (Nat×Sm))(f:Nat)(b:Sm):Sm:=fun args H=>match xp k f with
 | some a=>orS a b args H
 | none=>b args H
theorem yw{σ:Type}{I:Port Tryz.prog σ}{k:List (Nat×Sm)}{f:FuncId}{b:Sm}(hk:SoundL I k)(hb:SoundF I f b):SoundF I f (orK k f b):=by
 refine⟨hb.1,fun args H S hS =>?_⟩
 unfold orK at hS
 split at hS
 .rename_i a ha
  exact(xsf (hk.known f a ha) hb).2 args H S hS
 .exact hb.2 args H S hS
end
section
open Go.RowKit Lx
noncomputable def kl1:List (Nat×Sm):=(6,orK kn0 6 (inl Tryz.prog (xp kn0) 30 Tryz.f6))::kn0
theorem s_kl1:SoundL NP kl1 :=.cons (yw s_kn0 (xI s_kn0 30 Tryz.func6 (by kernel_rfl) (by kernel_rfl))) s_kn0
noncomputable def kl2:List (Nat×Sm):=(8,orK kl1 8 (inl Tryz.prog (xp kl1) 1 Tryz.f8))::kl1
theorem s_kl2:SoundL NP kl2 :=.cons (yw s_kl1 (xI s_kl1 1 Tryz.func8 (by kernel_rfl) (by kernel_rfl))) s_kl1
noncomputable def kl3:List (Nat×Sm):=kl2
theorem s_kl3:SoundL NP kl3:=s_kl2
noncomputable def kl4:List (Nat×Sm):=kl3
theorem s_kl4:SoundL NP kl4:=s_kl3
noncomputable def kl5:List (Nat×Sm):=kl4
theorem xkJ:SoundL NP kl5:=s_kl4
noncomputable def kl6:List (Nat×Sm):=(17,orK kl5 17 (inl Tryz.prog (xp kl5) 1 Tryz.f17))::kl5
theorem s_kl6:SoundL NP kl6 :=.cons (yw xkJ (xI xkJ 1 Tryz.func17 (by kernel_rfl) (by kernel_rfl))) xkJ
noncomputable def kl7:List (Nat×Sm):=(51,orK kl6 51 (inl Tryz.prog (xp kl6) 1 Tryz.f51))::kl6
theorem s_kl7:SoundL NP kl7 :=.cons (yw s_kl6 (xI s_kl6 1 Tryz.func51 (by kernel_rfl) (by kernel_rfl))) s_kl6
noncomputable def kl8:List (Nat×Sm):=(38,orK kl7 38 (inl Tryz.prog (xp kl7) 1 Tryz.f38))::kl7
theorem s_kl8:SoundL NP kl8 :=.cons (yw s_kl7 (xI s_kl7 1 Tryz.func38 (by kernel_rfl) (by kernel_rfl))) s_kl7
noncomputable def kl9:List (Nat×Sm):=(14,orK kl8 14 (inl Tryz.prog (xp kl8) 1 Tryz.f14))::kl8
theorem s_kl9:SoundL NP kl9 :=.cons (yw s_kl8 (xI s_kl8 1 Tryz.func14 (by kernel_rfl) (by kernel_rfl))) s_kl8
noncomputable def kl10:List (Nat×Sm):=(21,orK kl9 21 (inl Tryz.prog (xp kl9) 1 Tryz.f21))::kl9
theorem xvS:SoundL NP kl10 :=.cons (yw s_kl9 (xI s_kl9 1 Tryz.func21 (by kernel_rfl) (by kernel_rfl))) s_kl9
theorem run_ret{f:T (V×Heap)}{v:V}(h:f = .ret (v,[])):f.run NP.step ()=some ((v,[]),()):=by rw[h];rfl
theorem xvT {k:List (Nat×Sm)} (hk:SoundL NP k) {f:FuncId} {fn:Func} {n:Nat} (hf:(Tryz.prog).funcs[f]? = some fn) (cu:(fn.name == "runtime.NumGoroutine")=false) (bh:fn.body.isSome=true) {b:Bool} (h:evF Tryz.prog (xp k) n fn [] [] = .ret (.c (.bool b),[])) (w:World) :
  Calls Tryz.prog f #[] w fun en w'=>en = .returned (.bool b)/\Below w.heap.size w w':=
 calls_flat (xI hk n hf cu bh) rfl rfl (run_ret h) rfl (fun e=>rfl) w
end
section
open Go.RowKit Lx
noncomputable def kr1:List (Nat×Sm):=(16,orK kl10 16 (inl Tryz.prog (xp kl10) 1 Tryz.f16))::kl10
theorem s_kr1:SoundL NP kr1 :=.cons (yw xvS (xI xvS 1 Tryz.func16 (by kernel_rfl) (by kernel_rfl))) xvS
end
section
open Go.RowKit Lx
noncomputable def kc1:List (Nat×Sm):=(104,orK kl5 104 (inl Tryz.prog (xp kl5) 1 Tryz.f104))::kl5
theorem s_kc1:SoundL NP kc1 :=.cons (yw xkJ (xI xkJ 1 Tryz.func104 (by kernel_rfl) (by kernel_rfl))) xkJ
noncomputable def kc2:List (Nat×Sm):=(58,orK kc1 58 (inl Tryz.prog (xp kc1) 1 Tryz.f58))::kc1
theorem s_kc2:SoundL NP kc2 :=.cons (yw s_kc1 (xI s_kc1 1 Tryz.func58 (by kernel_rfl) (by kernel_rfl))) s_kc1
noncomputable def kc3:List (Nat×Sm):=(27,orK kc2 27 (inl Tryz.prog (xp kc2) 1 Tryz.f27))::kc2
theorem s_kc3:SoundL NP kc3 :=.cons (yw s_kc2 (xI s_kc2 1 Tryz.func27 (by kernel_rfl) (by kernel_rfl))) s_kc2
noncomputable def kc4:List (Nat×Sm):=(61,orK kc3 61 (inl Tryz.prog (xp kc3) 1 Tryz.f61))::kc3
theorem s_kc4:SoundL NP kc4 :=.cons (yw s_kc3 (xI s_kc3 1 Tryz.func61 (by kernel_rfl) (by kernel_rfl))) s_kc3
noncomputable def kc5:List (Nat×Sm):=(57,orK kc4 57 (inl Tryz.prog (xp kc4) 1 Tryz.f57))::kc4
theorem s_kc5:SoundL NP kc5 :=.cons (yw s_kc4 (xI s_kc4 1 Tryz.func57 (by kernel_rfl) (by kernel_rfl))) s_kc4
noncomputable def kc6:List (Nat×Sm):=(30,orK kc5 30 (inl Tryz.prog (xp kc5) 1 Tryz.f30))::kc5
theorem s_kc6:SoundL NP kc6 :=.cons (yw s_kc5 (xI s_kc5 1 Tryz.func30 (by kernel_rfl) (by kernel_rfl))) s_kc5
theorem xsg:evF Tryz.prog (xp kc6) 1 Tryz.f26 [] [] = .ret (.c (.bool true),[]):=by kernel_rfl
theorem awake19(w:World):Calls Tryz.prog 26 #[] w fun e w'=>e = .returned (.bool true)/\Below w.heap.size w w':=
 xvT s_kc6 Tryz.func26 (by kernel_rfl) (by kernel_rfl) xsg w
end
end Go.Proofs.YtcicjcggclhbfaaGreat
