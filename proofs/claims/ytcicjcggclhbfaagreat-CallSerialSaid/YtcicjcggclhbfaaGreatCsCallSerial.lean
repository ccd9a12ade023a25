/- The law CallSerial: its statement 'CallSerialSaid', out of its walk: for every input the call returns true, and each argument reads afterwards as it read before. -/
import Derived.Test.YtcicjcggclhbfaaGreatRows
import Derived.Test.YtcicjcggclhbfaaGreatCsPSl
import Derived.WalkKit
import Derived.ProofKit
import Derived.OpenShut
import Derived.ShutString
import Derived.ChangeOld
import Derived.Below
set_option linter.all false
open Go.IntKind (i64 u64 u32 u8)
namespace Go.Proofs.YtcicjcggclhbfaaGreat.callSerial
open Go.ChangeShapes Go.WideShapes Go.ChangeAt Go.RowKit
theorem own:ownKnob Tryz.prog.godebug=none:=by kernel_rfl
theorem laidOut:laidOutB Tryz.prog=true:=by kernel_rfl
set_option maxRecDepth 100000 in
theorem lifted(os:Os)(started:os.Started)(H:Type)(enc:TypeId×Value->H) :
    ReturnsInHanded {} Tryz.checked os 4 .any (Rows.callSerialSpec.pre6 enc Tryz.prog Tryz.f4 Rows.callSerialRow.domain false) (Rows.callSerialSpec.post enc Tryz.prog Tryz.f4 false true false false):=by
  refine returnsInHanded_of_change (C:= Tryz.checked) own started (by kernel_rfl) Tryz.func4
    (ChangeSpec.witness6 (enc:=enc) (C:= Tryz.checked) false ⟨#[],#[.int .u8 0,.int .u8 0,.slice none 0 0],[]⟩ 8 (by kernel_rfl) (by kernel_rfl) (by kernel_rfl) (by kernel_rfl)) ?_
  intro W base args ds gs before pq hW Qo _
  have mn : ∀ (j:Nat) t v,Tryz.f4.params[j]? = some t->args[j]? = some v->Value.okWide Tryz.prog W .any base t v:=pq
  have hW':=hW
  obtain⟨p,q,hA0,hV,rfl,mu,cf⟩:=hW
  have hA:DataW.TrodAll enc Tryz.prog W 0 (fun _=>true) true Tryz.f4.params.toList args.toList ds p:=hA0
  rw[Tryz.params4]at hA mn
  obtain⟨v0,vs0,d0,ds0,p0,q0,bx,rfl,rfl,h0,r0⟩:=trodAll_cons hA
  obtain⟨v1,vs1,d1,ds1,p1,q1,rfl,rfl,rfl,h1,r1⟩:=trodAll_cons r0
  obtain⟨v2,vs2,d2,ds2,p2,q2,rfl,rfl,rfl,h2,r2⟩:=trodAll_cons r1
  obtain⟨rfl,rfl,rfl⟩:=trodAll_nil r2
  obtain rfl:args = #[v0,v1,v2]:=by cases args;simp_all
  obtain⟨rfl,rfl⟩:=trodVars_none hV
  have k0:=h0
  have Oj : ∀x∈p0,x.block<W.heap.size:=by obtain⟨m,hm⟩:=k0;exact DataW.trod_lt m _ _ _ hm
  obtain⟨a0,rfl,rfl,rfl,w0⟩:=open_int Tryz.underlying5 (mn 0 5 v0 rfl rfl) h0
  have k1:=h1
  have Oi : ∀x∈p1,x.block<W.heap.size:=by obtain⟨m,hm⟩:=k1;exact DataW.trod_lt m _ _ _ hm
  obtain⟨a1,rfl,rfl,rfl,w1⟩:=open_int Tryz.underlying5 (mn 1 5 v1 rfl rfl) h1
  have k2:=h2
  have Oh : ∀x∈p2,x.block<W.heap.size:=by obtain⟨m,hm⟩:=k2;exact DataW.trod_lt m _ _ _ hm
  obtain⟨a2,Ol,Rb,un⟩:=okWide_slice Tryz.underlying65 (mn 2 65 v2 rfl rfl)
  obtain⟨b2,Of,z2,n2,c2,L2,rfl,Ok,Ny,Ht⟩:=(by obtain⟨fuel,hf⟩:=h2;rw[un]at hf;rw[un];exact xyl Tryz.underlying65 (by kernel_rfl) (by decide) (fun _ _ _ h=>xze h) (by simpa[Value.cells]using hf) : ∃ (b off:Nat) (z:Option Addr) (n c:Nat) (L:Lx.RowsL),v2=winV b off z n c/\L.length=n/\(∀r∈L,TurnOk r)/\WinAt W b ⟨[], 120,false,some (.wrows off shT L)⟩)
  clear un
  clear hA0 pq
  refine(xix (bounds_u8 w0).1 (bounds_u8 w0).2 (bounds_u8 w1).1 (bounds_u8 w1).2 Ok Ny W Ht).mono fun e W' ⟨he,bel⟩ =>?_
  subst he
  exact⟨_,rfl,_,_,_,[],_,[],hW',trodAll_mk1 (shut_bool Tryz.underlying4 _),(trodAll_cons_mk (Below.trod laidOut (by kernel_rfl) (dE (by kernel_rfl)) k0 bel Oj) (trodAll_cons_mk (Below.trod laidOut (by kernel_rfl) (dE (by kernel_rfl)) k1 bel Oi) (trodAll_cons_mk (Below.trod laidOut (by kernel_rfl) (dE (by kernel_rfl)) k2 bel Oh) trodAll_mk0))),rfl,bel.frame _,fun h=>by cases h⟩
theorem j1 : Tryz.pinned.checked.prog.unfollowed 4 = Rows.callSerialRow.unfollowed:=by kernel_rfl
theorem j2 : Tryz.pinned.checked.prog.recurses 4 = Rows.callSerialRow.recurses:=by kernel_rfl
theorem j3 : Tryz.pinned.checked.prog.inPlace 4 = Rows.callSerialRow.inPlace:=by kernel_rfl
theorem j4 : Tryz.pinned.checked.prog.varsNamed 4 = Rows.callSerialRow.named:=by kernel_rfl
theorem j5:laidOutB Tryz.pinned.checked.prog=true:=by kernel_rfl
theorem j6:mapsRowed Tryz.pinned.checked.prog=true:=by kernel_rfl
theorem j7 : Tryz.pinned.checked.prog.plainKeys=Rows.callSerialRow.plainKeys:=by kernel_rfl
theorem joined:joinedFacts Tryz.pinned.checked.prog 4 Tryz.f4 Rows.callSerialSpec Rows.callSerialRow=true:=by
  unfold joinedFacts
  rw[j1,j2,j3,j4,j5,j6,j7]
  kernel_rfl
theorem named : Tryz.pinned.checked.prog.funcNamed Rows.callSerialRow.func=some 4 :=by kernel_rfl
theorem plainF : Tryz.f4.isInstance Tryz.pinned.checked.prog Rows.callSerialRow.origin Rows.callSerialRow.targs:=dE (by kernel_rfl)
theorem bare : Tryz.f4.isWrapper Tryz.pinned.checked.prog Rows.callSerialRow.wrapper Rows.callSerialRow.mainSum:=by
  unfold Func.isWrapper
  first
    | (rw[dB (by decide +kernel)];kernel_rfl)
    | (rw[dA (by decide +kernel)];exact⟨rfl,rfl⟩)
theorem over:Rows.callSerialRow.holds Tryz.pinned (OpenSpec.ofChange Rows.callSerialSpec):=
  OpenClaim.holds_of_wide 4 Tryz.f4 rfl rfl rfl rfl rfl rfl rfl ⟨rfl,rfl,rfl,rfl,rfl⟩ rfl rfl rfl rfl rfl named Tryz.func4 joined plainF bare
    (fun os started H enc _=>lifted os started H enc)
/-- the statement. -/
theorem proved:Rows.CallSerialSaid:=over
#print axioms proved
end Go.Proofs.YtcicjcggclhbfaaGreat.callSerial
