/- The law ScriptKnown: its statement 'ScriptKnownSaid', out of its run: the call returns true. -/
import Derived.Test.YtealkpadijffoaaGreatDoorRows
import Derived.Test.YtealkpadijffoaaGreatDoorCards
import Derived.Test.YtealkpadijffoaaGreatDoorTie
import Derived.Test.YtealkpadijffoaaGreatDoorSkM30
import Derived.WalkKit
import Derived.ProofKit
import Derived.OpenShut
import Derived.ShutString
import Derived.ChangeOld
import Derived.Below
import Derived.Conc.LeavingOf
import Derived.SevenTiedAt
set_option linter.all false
namespace Go.Proofs.YtealkpadijffoaaGreatDoor.scriptKnown
open Go.ChangeShapes Go.WideShapes Go.ChangeAt Go.RowKit Go.Conc
theorem own:ownKnob Tryz.prog.godebug=none:=by kernel_rfl
theorem below_of{w w':World}(h:Lx.Keeps (fun _=>False) w w'):Below w.heap.size w w':=⟨h.os,h.tape,h.output,h.size,fun b hb=>h.block b hb (fun h=>h)⟩
set_option maxRecDepth 100000 in
theorem lifted(os:Os)(started:os.Started)(H:Type)(enc:TypeId×Value->H) :
    ReturnsInLeavingWide {} Tryz.checked os 3 .any (fun w args=>(Rows.scriptKnownSpec.pre enc Tryz.prog Tryz.f3 Rows.scriptKnownRow.domain false w args/\laidMetH Tryz.prog Mx.laidL w)/\sizedMet enc Tryz.prog Tryz.f3 (OpenSpec.ofChange Rows.scriptKnownSpec) false w args) (Rows.scriptKnownSpec.post enc Tryz.prog Tryz.f3 false true false false):=by
  refine Mx.leaving_and (C:= Tryz.checked) (X:=fun w _=>laidMetH Tryz.prog Mx.laidL w) (fun _ _ _ hh h=>h.of_heap hh) own started Tryz.func3
    (ChangeSpec.witness_shaped (enc:=enc) (C:= Tryz.checked) (os:=os) (X:=fun w _=>laidMetH Tryz.prog Mx.laidL w) false (World.laidAll Tryz.prog os Mx.laidL) #[] 8 (World.laidAll_os _ _ _)
      (World.shaped_of_ZipB (by kernel_rfl) (by kernel_rfl)) (by kernel_rfl) (by kernel_rfl) (by kernel_rfl)
      (by rw[MakeChecks.laidMetH_plain _ _ _ (by kernel_rfl)];exact laidMet_laidAll _ (by kernel_rfl) (by kernel_rfl))) ?_
  intro W base args ds gs before hval0 hW _ hL
  have hval : ∀ (j:Nat) t v,Tryz.f3.params[j]? = some t->args[j]? = some v->Value.okWide Tryz.prog W .any base t v:=hval0
  have hW':=hW
  obtain⟨p,q,hA0,hV,rfl,hfz,hnd⟩:=hW
  have hA:DataW.TrodAll enc Tryz.prog W 0 (fun _=>true) true Tryz.f3.params.toList args.toList ds p:=hA0
  rw[Tryz.params3]at hA hval
  obtain⟨hargs,rfl,rfl⟩:=trodAll_nil hA
  obtain rfl:args = #[]:=by cases args;simp_all
  obtain⟨rfl,rfl⟩:=trodVars_none hV
  clear hA0 hval0
  obtain⟨M,last,o,w',t',r1,r2,r3,r4⟩:=Mx.scriptKnown_run W hL
  refine⟨M,last,o,w',t',r1,r2,r3,r4.mono fun v hF =>?_⟩
  obtain⟨rfl,hk⟩:=hF
  exact⟨_,_,_,[],_,[],hW',trodAll_mk1 (shut_bool Tryz.underlying4 _),trodAll_mk0,rfl,(below_of hk).frame _,fun h=>by cases h⟩
theorem j1 : Tryz.pinned.checked.prog.unfollowed 3 = Rows.scriptKnownRow.unfollowed:=by kernel_rfl
theorem j2 : Tryz.pinned.checked.prog.recurses 3 = Rows.scriptKnownRow.recurses:=by kernel_rfl
theorem j3 : Tryz.pinned.checked.prog.inPlace 3 = Rows.scriptKnownRow.inPlace:=by kernel_rfl
theorem j4 : Tryz.pinned.checked.prog.varsNamed 3 = Rows.scriptKnownRow.named:=by kernel_rfl
theorem j5:laidOutB Tryz.pinned.checked.prog=true:=by kernel_rfl
theorem j6:mapsRowed Tryz.pinned.checked.prog=true:=by kernel_rfl
theorem j7 : Tryz.pinned.checked.prog.plainKeys=Rows.scriptKnownRow.plainKeys:=by kernel_rfl
theorem joined:joinedFacts Tryz.pinned.checked.prog 3 Tryz.f3 Rows.scriptKnownSpec Rows.scriptKnownRow=true:=by
  unfold joinedFacts
  rw[j1,j2,j3,j4,j5,j6,j7]
  kernel_rfl
theorem named : Tryz.pinned.checked.prog.funcNamed Rows.scriptKnownRow.func=some 3 :=by kernel_rfl
theorem plainF : Tryz.f3.isInstance Tryz.pinned.checked.prog Rows.scriptKnownRow.origin Rows.scriptKnownRow.targs:=of_decide_eq_true (by kernel_rfl)
theorem bare : Tryz.f3.isWrapper Tryz.pinned.checked.prog Rows.scriptKnownRow.wrapper Rows.scriptKnownRow.mainSum:=by
  unfold Func.isWrapper
  first
    | (rw[if_pos (by decide +kernel)];kernel_rfl)
    | (rw[if_neg (by decide +kernel)];exact⟨rfl,rfl⟩)
theorem over:Rows.scriptKnownRow.holds Tryz.pinned (OpenSpec.ofChange Rows.scriptKnownSpec):=
  OpenClaim.holds_of_wide_leaving 3 Tryz.f3 rfl rfl rfl rfl rfl rfl rfl ⟨rfl,rfl,rfl,rfl,rfl⟩ rfl rfl rfl rfl rfl named Tryz.func3 joined plainF bare
    (fun os started H enc _=>lifted os started H enc)
/-- the row's tied card, which is the statement. -/
theorem proved:Rows.ScriptKnownCardSaid:=by
  have hl : ∀f fn,Tryz.pinned.checked.prog.funcNamed Rows.scriptKnownRow.func=some f-> Tryz.pinned.checked.prog.funcs[f]? = some fn->true = Tryz.pinned.checked.prog.looks []/\ ∀ (j:Nat) t,fn.params[j]? = some t-> Tryz.pinned.checked.prog.wantsStandIn t=false:=fun f fn hf hfn=>by
    obtain rfl:f = 3 :=Option.some.inj (named.symm.trans hf) |>.symm
    obtain rfl:fn = Tryz.f3 :=(Option.some.inj (Tryz.func3.symm.trans hfn)).symm
    refine⟨by kernel_rfl,fun j t ht =>?_⟩
    have hall:(Tryz.f3.params.all fun u=> !Tryz.prog.wantsStandIn u)=true:=by kernel_rfl
    have:=Array.all_eq_true'.1 hall t (Array.mem_of_getElem? ht)
    exact(show Tryz.prog.wantsStandIn t=false by simpa using this)
  refine⟨Claim7.tied_new_at .later [.data,.data] true (Claim7.new_of_sixth over Rows.scriptKnownCard.stood.harness true rfl ⟨rfl,rfl⟩ (by kernel_rfl) (by kernel_rfl) hl) (by kernel_rfl),fun D hD=>(by cases hD),scriptKnown_row_tie,fun h=>(by cases h),by kernel_rfl⟩
#print axioms proved
end Go.Proofs.YtealkpadijffoaaGreatDoor.scriptKnown
