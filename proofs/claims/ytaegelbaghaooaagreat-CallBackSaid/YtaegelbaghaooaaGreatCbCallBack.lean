/- The law CallBack: its statement 'CallBackSaid', out of its walk: for every input the call returns true, and each argument reads afterwards as it read before. -/
import Derived.Test.YtaegelbaghaooaaGreatRows
import Derived.Test.YtaegelbaghaooaaGreatCbPBack
import Derived.WalkKit
import Derived.ProofKit
import Derived.OpenShut
import Derived.ShutString
import Derived.ChangeOld
import Derived.Below
set_option linter.all false
open Go.IntKind (i64 u64 u32 u8)
namespace Go.Proofs.YtaegelbaghaooaaGreat.callBack
open Go.ChangeShapes Go.WideShapes Go.ChangeAt Go.RowKit
theorem own:ownKnob Tryz.prog.godebug=none:=by kernel_rfl
theorem laidOut:laidOutB Tryz.prog=true:=by kernel_rfl
set_option maxRecDepth 100000 in
theorem lifted(os:Os)(started:os.Started)(H:Type)(enc:TypeId×Value->H) :
    ReturnsInHanded {} Tryz.checked os 14 .any (Rows.callBackSpec.pre6 enc Tryz.prog Tryz.f14 Rows.callBackRow.domain false) (Rows.callBackSpec.post enc Tryz.prog Tryz.f14 false true false false):=by
  refine returnsInHanded_of_change (C:= Tryz.checked) own started (by kernel_rfl) Tryz.func14
    (ChangeSpec.witness6 (enc:=enc) (C:= Tryz.checked) false ⟨#[],#[.int .u8 0,.int .u8 0,.slice none 0 0],[]⟩ 8 (by kernel_rfl) (by kernel_rfl) (by kernel_rfl) (by kernel_rfl)) ?_
  intro W base args ds gs before hval0 hW hcnd _
  have hval : ∀ (j:Nat) t v,Tryz.f14.params[j]? = some t->args[j]? = some v->Value.okWide Tryz.prog W .any base t v:=hval0
  have hW':=hW
  obtain⟨p,q,hA0,hV,rfl,hfz,hnd⟩:=hW
  have hA:DataW.TrodAll enc Tryz.prog W 0 (fun _=>true) true Tryz.f14.params.toList args.toList ds p:=hA0
  rw[Tryz.params14]at hA hval
  obtain⟨v0,vs0,d0,ds0,p0,q0,hargs,rfl,rfl,h0,r0⟩:=trodAll_cons hA
  obtain⟨v1,vs1,d1,ds1,p1,q1,rfl,rfl,rfl,h1,r1⟩:=trodAll_cons r0
  obtain⟨v2,vs2,d2,ds2,p2,q2,rfl,rfl,rfl,h2,r2⟩:=trodAll_cons r1
  obtain⟨rfl,rfl,rfl⟩:=trodAll_nil r2
  obtain rfl:args = #[v0,v1,v2]:=by cases args;simp_all
  obtain⟨rfl,rfl⟩:=trodVars_none hV
  have k0:=h0
  have lt0 : ∀x∈p0,x.block<W.heap.size:=by obtain⟨m,hm⟩:=k0;exact DataW.trod_lt m _ _ _ hm
  obtain⟨a0,rfl,rfl,rfl,w0⟩:=open_int Tryz.underlying5 (hval 0 5 v0 rfl rfl) h0
  have k1:=h1
  have lt1 : ∀x∈p1,x.block<W.heap.size:=by obtain⟨m,hm⟩:=k1;exact DataW.trod_lt m _ _ _ hm
  obtain⟨a1,rfl,rfl,rfl,w1⟩:=open_int Tryz.underlying5 (hval 1 5 v1 rfl rfl) h1
  have k2:=h2
  have lt2 : ∀x∈p2,x.block<W.heap.size:=by obtain⟨m,hm⟩:=k2;exact DataW.trod_lt m _ _ _ hm
  obtain⟨a2,len2,cap2,hsl2⟩:=okWide_slice Tryz.underlying100 (hval 2 100 v2 rfl rfl)
  obtain⟨b2,off2,z2,n2,c2,L2,rfl,ln2,wf2,win2⟩:=(by obtain⟨fuel,hf⟩:=h2;rw[hsl2]at hf;rw[hsl2];exact xuM Tryz.underlying100 (by kernel_rfl) (by decide) (fun _ _ _ h=>xv3 h) (by simpa[Value.cells]using hf) : ∃ (b off:Nat) (z:Option Addr) (n c:Nat) (L:Lx.RowsL),v2=winV b off z n c/\L.length=n/\(∀r∈L,TurnOk r)/\WinAt W b ⟨[], 116,false,some (.wrows off shT L)⟩)
  clear hsl2
  clear hA0 hval0
  refine(xlG (bounds_u8 w0).1 (bounds_u8 w0).2 (bounds_u8 w1).1 (bounds_u8 w1).2 ln2 wf2 W win2).mono fun e W' ⟨he,bel⟩ =>?_
  subst he
  exact⟨_,rfl,_,_,_,[],_,[],hW',trodAll_mk1 (shut_bool Tryz.underlying4 _),(trodAll_cons_mk (Below.trod laidOut (by kernel_rfl) (of_decide_eq_true (by kernel_rfl)) k0 bel lt0) (trodAll_cons_mk (Below.trod laidOut (by kernel_rfl) (of_decide_eq_true (by kernel_rfl)) k1 bel lt1) (trodAll_cons_mk (Below.trod laidOut (by kernel_rfl) (of_decide_eq_true (by kernel_rfl)) k2 bel lt2) trodAll_mk0))),rfl,bel.frame _,fun h=>by cases h⟩
theorem j1 : Tryz.pinned.checked.prog.unfollowed 14 = Rows.callBackRow.unfollowed:=by kernel_rfl
theorem j2 : Tryz.pinned.checked.prog.recurses 14 = Rows.callBackRow.recurses:=by kernel_rfl
theorem j3 : Tryz.pinned.checked.prog.inPlace 14 = Rows.callBackRow.inPlace:=by kernel_rfl
theorem j4 : Tryz.pinned.checked.prog.varsNamed 14 = Rows.callBackRow.named:=by kernel_rfl
theorem j5:laidOutB Tryz.pinned.checked.prog=true:=by kernel_rfl
theorem j6:mapsRowed Tryz.pinned.checked.prog=true:=by kernel_rfl
theorem j7 : Tryz.pinned.checked.prog.plainKeys=Rows.callBackRow.plainKeys:=by kernel_rfl
theorem joined:joinedFacts Tryz.pinned.checked.prog 14 Tryz.f14 Rows.callBackSpec Rows.callBackRow=true:=by
  unfold joinedFacts
  rw[j1,j2,j3,j4,j5,j6,j7]
  kernel_rfl
theorem named : Tryz.pinned.checked.prog.funcNamed Rows.callBackRow.func=some 14 :=by kernel_rfl
theorem plainF : Tryz.f14.isInstance Tryz.pinned.checked.prog Rows.callBackRow.origin Rows.callBackRow.targs:=of_decide_eq_true (by kernel_rfl)
theorem bare : Tryz.f14.isWrapper Tryz.pinned.checked.prog Rows.callBackRow.wrapper Rows.callBackRow.mainSum:=by
  unfold Func.isWrapper
  first
    | (rw[if_pos (by decide +kernel)];kernel_rfl)
    | (rw[if_neg (by decide +kernel)];exact⟨rfl,rfl⟩)
theorem over:Rows.callBackRow.holds Tryz.pinned (OpenSpec.ofChange Rows.callBackSpec):=
  OpenClaim.holds_of_wide 14 Tryz.f14 rfl rfl rfl rfl rfl rfl rfl ⟨rfl,rfl,rfl,rfl,rfl⟩ rfl rfl rfl rfl rfl named Tryz.func14 joined plainF bare
    (fun os started H enc _=>lifted os started H enc)
/-- the statement. -/
theorem proved:Rows.CallBackSaid:=over
#print axioms proved
end Go.Proofs.YtaegelbaghaooaaGreat.callBack
