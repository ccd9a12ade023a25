/- The law MachineKnown: its statement 'MachineKnownSaid', out of its run: the call returns true. -/
import Derived.Test.YtcpekofcmogaeaaGreatRows
import Derived.Test.YtcpekofcmogaeaaGreatMkM30
import Derived.WalkKit
import Derived.ProofKit
import Derived.OpenShut
import Derived.ShutString
import Derived.ChangeOld
import Derived.Below
import Derived.Conc.LeavingOf
set_option linter.all false
namespace Go.Proofs.YtcpekofcmogaeaaGreat.machineKnown
open Go.ChangeShapes Go.WideShapes Go.ChangeAt Go.RowKit Go.Conc
theorem own:ownKnob Tryz.prog.godebug=none:=by kernel_rfl
theorem below_of{w w':World}(h:Lx.Keeps (fun _=>False) w w'):Below w.heap.size w w':=⟨h.os,h.tape,h.output,h.size,fun b hb=>h.block b hb (fun h=>h)⟩
set_option maxRecDepth 100000 in
theorem lifted(os:Os)(started:os.Started)(H:Type)(enc:TypeId×Value->H) :
    ReturnsInLeavingWide {} Tryz.checked os 4 .any (Rows.machineKnownSpec.pre6 enc Tryz.prog Tryz.f4 Rows.machineKnownRow.domain false) (Rows.machineKnownSpec.post enc Tryz.prog Tryz.f4 false true false false):=by
  refine returnsInLeavingWide_of_change_sized (C:= Tryz.checked) own started Tryz.func4
    (ChangeSpec.witness6 (enc:=enc) (C:= Tryz.checked) false ⟨#[],#[],[]⟩ 8 (by kernel_rfl) (by kernel_rfl) (by kernel_rfl) (by kernel_rfl)) ?_
  intro W base args ds gs before hval0 hW _ _ _
  have hval : ∀ (j:Nat) t v,Tryz.f4.params[j]? = some t->args[j]? = some v->Value.okWide Tryz.prog W .any base t v:=hval0
  have hW':=hW
  obtain⟨p,q,hA0,hV,rfl,hfz,hnd⟩:=hW
  have hA:DataW.TrodAll enc Tryz.prog W 0 (fun _=>true) true Tryz.f4.params.toList args.toList ds p:=hA0
  rw[Tryz.params4]at hA hval
  obtain⟨hargs,rfl,rfl⟩:=trodAll_nil hA
  obtain rfl:args = #[]:=by cases args;simp_all
  obtain⟨rfl,rfl⟩:=trodVars_none hV
  clear hA0 hval0
  obtain⟨M,last,o,w',t',r1,r2,r3,r4⟩:=Mx.machineKnown_run W
  refine⟨M,last,o,w',t',r1,r2,r3,r4.mono fun v hF =>?_⟩
  obtain⟨rfl,hk⟩:=hF
  exact⟨_,_,_,[],_,[],hW',trodAll_mk1 (shut_bool Tryz.underlying4 _),trodAll_mk0,rfl,(below_of hk).frame _,fun h=>by cases h⟩
theorem j1 : Tryz.pinned.checked.prog.unfollowed 4 = Rows.machineKnownRow.unfollowed:=by kernel_rfl
theorem j2 : Tryz.pinned.checked.prog.recurses 4 = Rows.machineKnownRow.recurses:=by kernel_rfl
theorem j3 : Tryz.pinned.checked.prog.inPlace 4 = Rows.machineKnownRow.inPlace:=by kernel_rfl
theorem j4 : Tryz.pinned.checked.prog.varsNamed 4 = Rows.machineKnownRow.named:=by kernel_rfl
theorem j5:laidOutB Tryz.pinned.checked.prog=true:=by kernel_rfl
theorem j6:mapsRowed Tryz.pinned.checked.prog=true:=by kernel_rfl
theorem j7 : Tryz.pinned.checked.prog.plainKeys=Rows.machineKnownRow.plainKeys:=by kernel_rfl
theorem joined:joinedFacts Tryz.pinned.checked.prog 4 Tryz.f4 Rows.machineKnownSpec Rows.machineKnownRow=true:=by
  unfold joinedFacts
  rw[j1,j2,j3,j4,j5,j6,j7]
  kernel_rfl
theorem named : Tryz.pinned.checked.prog.funcNamed Rows.machineKnownRow.func=some 4 :=by kernel_rfl
theorem plainF : Tryz.f4.isInstance Tryz.pinned.checked.prog Rows.machineKnownRow.origin Rows.machineKnownRow.targs:=of_decide_eq_true (by kernel_rfl)
theorem bare : Tryz.f4.isWrapper Tryz.pinned.checked.prog Rows.machineKnownRow.wrapper Rows.machineKnownRow.mainSum:=by
  unfold Func.isWrapper
  first
    | (rw[if_pos (by decide +kernel)];kernel_rfl)
    | (rw[if_neg (by decide +kernel)];exact⟨rfl,rfl⟩)
theorem over:Rows.machineKnownRow.holds Tryz.pinned (OpenSpec.ofChange Rows.machineKnownSpec):=
  OpenClaim.holds_of_wide_leaving 4 Tryz.f4 rfl rfl rfl rfl rfl rfl rfl ⟨rfl,rfl,rfl,rfl,rfl⟩ rfl rfl rfl rfl rfl named Tryz.func4 joined plainF bare
    (fun os started H enc _=>lifted os started H enc)
/-- the statement. -/
theorem proved:Rows.MachineKnownSaid:=over
#print axioms proved
end Go.Proofs.YtcpekofcmogaeaaGreat.machineKnown
