/- Part. -/
import Derived.Test.YtcicjcggclhbfaaGreatCsM13
import Derived.Lib.Walk
import Derived.Lib.SliceRun
import Derived.Test.YtcicjcggclhbfaaGreatCsM12
set_option linter.all false
open Go.IntKind (i64 u64 u32 u8)
set_option maxRecDepth 1000000
namespace Go.Proofs.YtcicjcggclhbfaaGreat
section
open Go.RowKit Lx
/-! ### a port's bytes -/
def xqE(p:POp)(s:DS):Option (Bool×V×DS):=match p with
 | .put a b=>some (decide (0<=b/\b<=255),.tup [],{s with m :={s.m with bytes:=putI s.m.bytes a b},steps:=i64.wrap (s.steps+1)})
 | .get a=>some (decide (0<=(atI s.m.bytes a).getD 0/\(atI s.m.bytes a).getD 0<=255),.c (.int .u8 ((atI s.m.bytes a).getD 0)),{s with steps:=i64.wrap (s.steps+1)})
 | _=>none
theorem xAA{p:POp}{s s':DS}{v:V}(h:xqE p s=some (true,v,s')) : ∃x,yn p s=some (x,s')/\ansV p x=v/\flatV v=true:=by
 cases p with
 | put a b=>
  simp only[xqE,oI,dH,dT]at h
  obtain⟨hb,rfl,rfl⟩:=h
  refine⟨(),?_,rfl,rfl⟩
  simp only[yn,dacc,acc,show ¬ (6:Int)=1 by decide,show ¬ (6:Int)=2 by decide,show ¬ (6:Int)=3 by decide,show ¬ (6:Int)=4 by decide,show ¬ (6:Int)=5 by decide,if_false,if_true,hb,and_self,dL]
 | get a=>
  simp only[xqE,oI,dH,dT]at h
  obtain⟨hb,rfl,rfl⟩:=h
  refine⟨(atI s.m.bytes a).getD 0,?_,rfl,rfl⟩
  simp only[yn,dacc,acc,show ¬ (5:Int)=1 by decide,show ¬ (5:Int)=2 by decide,show ¬ (5:Int)=3 by decide,show ¬ (5:Int)=4 by decide,if_false,if_true]
  cases hx:atI s.m.bytes a with
  | none=>rfl
  | some x=>rw[hx]at hb;simp only[Option.getD_some]at hb |-;rw[dB hb]
 | _=>simp[xqE]at h
def viaB(name:String):Sm:=fun args H=>match args with
 | .c (.ptr 0 0)::rest=>if rest.all flatV=true then
   match xwK H,popOf name rest with
   | some (s,ok,_),some p=>match xqE p s with
    | some (g,v,s')=>match Xf H.length s' with
     | some H1=>some (mkS Unit (yE (ok&&g)) fun _=>some (v,H1))
     | none=>none
    | none=>none
   | _,_=>none
  else none
 | _=>none
theorem xgQ{f:FuncId}{name:String}(hs:SoundF NP f (viaM name)):SoundF NP f (viaB name):=by
 refine⟨hs.1,?_⟩
 intro args H S hS e w s0 F vs E hv hR hF x v H' s' hrun cx
 unfold viaB at hS
 split at hS
 .rename_i rest
  split at hS
  .rename_i la
   split at hS
   .rename_i s ok td p ol hp
    split at hS
    .rename_i g v1 s1 ce
     split at hS
     .rename_i H1 l9
      cases hS
      obtain⟨He,rfl⟩:=jT hrun
      rw[dK]at He
      obtain⟨rfl,rfl⟩:=He
      simp only[oI,dH]at cx
      obtain⟨rfl,rfl⟩:=cx
      obtain⟨Jy,_⟩:=xqz ol
      obtain⟨y,h1,h2,h3⟩:=xAA ce
      have hS':viaM name (.c (.ptr 0 0)::rest) H=some (mkS Unit (.ret ()) fun _=>some (v1,H1)):=by
       unfold viaM
       simp only
       rw[dB la,Jy,hp]
       simp only
       rw[h1]
       simp only[h2,h3,l9]
      exact hs.2 _ _ _ hS' e w _ F vs E hv hR hF () v1 H1 _ rfl rfl
     .cases hS
    .cases hS
   .cases hS
  .cases hS
 .cases hS
theorem s_putS:SoundF NP 23 (viaB "Put"):=xgQ (yQ ⟨_,_,Tryz.func23,by kernel_rfl,rfl⟩ xh7)
theorem s_getS:SoundF NP 33 (viaB "Get"):=xgQ (yQ ⟨_,_,Tryz.func33,by kernel_rfl,rfl⟩ xh6)
end
section
open Go.Shelf Go.RowKit Go.Lib Lx
end
section
open Go.RowKit Lx
theorem xgR{σ:Type}{I:Port Tryz.prog σ}{l k:List (Nat×Sm)}(h:SoundL I l)(h':SoundL I k):SoundL I (l++k):=fun f m hm=>(List.mem_append.1 hm).elim (h f m) (h' f m)
noncomputable def kz0m:List (Nat×Sm):=(23,viaB "Put")::(33,viaB "Get")::(Lx.kr1++kv5)
theorem s_kz0m:SoundL NP kz0m:=(.cons s_putS (.cons s_getS (xgR Lx.s_kr1 s_kv5)))
end
namespace Lx
variable{β:Type}(g:Geo)
open Go
noncomputable def kh1:List (Nat×Sm):=kz0m
theorem s_kh1:SoundL NP kh1:=s_kz0m
end Lx
section
open Go.RowKit Lx
noncomputable def kc0:List (Nat×Sm):=(16,viaS true ZP)::kh1
theorem s_kc0:SoundL NP kc0:=(.cons (yB fun _ _ _ _ _=>xa0 xhs) s_kh1)
noncomputable def kc1m:List (Nat×Sm):=kc0
theorem s_kc1m:SoundL NP kc1m:=s_kc0
end
end Go.Proofs.YtcicjcggclhbfaaGreat
