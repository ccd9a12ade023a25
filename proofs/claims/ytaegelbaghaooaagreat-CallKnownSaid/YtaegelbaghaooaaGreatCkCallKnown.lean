/- The law CallKnown: its statement 'CallKnownSaid', out of its walk: for every input the call returns true, and each argument reads afterwards as it read before. -/
import Derived.Test.YtaegelbaghaooaaGreatRows
import Derived.Test.YtaegelbaghaooaaGreatCkQCallKnown
import Derived.WalkKit
import Derived.ProofKit
import Derived.OpenShut
import Derived.ShutString
import Derived.ChangeOld
import Derived.Below
namespace Go.Proofs.YtaegelbaghaooaaGreat.callKnown
open Go.ChangeShapes Go.WideShapes Go.ChangeAt Go.RowKit
set_option linter.unusedVariables false
theorem own : ownKnob Tryz.prog.godebug = none := by kernel_rfl
theorem laidOut : laidOutB Tryz.prog = true := by kernel_rfl
set_option maxRecDepth 100000 in
theorem lifted (os : Os) (started : os.Started) (H : Type) (enc : TypeId × Value → H) :
    ReturnsInHanded {} Tryz.checked os 12 .any (Rows.callKnownSpec.pre6 enc Tryz.prog Tryz.f12 Rows.callKnownRow.domain false) (Rows.callKnownSpec.post enc Tryz.prog Tryz.f12 false true false false) := by
  refine returnsInHanded_of_change (C := Tryz.checked) own started (by kernel_rfl) Tryz.func12
    (ChangeSpec.witness6 (enc := enc) (C := Tryz.checked) false ⟨#[], #[], []⟩ 8 (by kernel_rfl) (by kernel_rfl) (by kernel_rfl) (by kernel_rfl)) ?_
  intro W base args ds gs before hval0 hW hcnd _
  have hval : ∀ (j : Nat) t v, Tryz.f12.params[j]? = some t → args[j]? = some v → Value.okWide Tryz.prog W .any base t v := hval0
  have hW' := hW
  obtain ⟨p, q, hA0, hV, rfl, hfz, hnd⟩ := hW
  have hA : DataW.TrodAll enc Tryz.prog W 0 (fun _ => true) true Tryz.f12.params.toList args.toList ds p := hA0
  rw [Tryz.params12] at hA hval
  obtain ⟨hargs, rfl, rfl⟩ := trodAll_nil hA
  obtain rfl : args = #[] := by cases args; simp_all
  obtain ⟨rfl, rfl⟩ := trodVars_none hV
  clear hA0 hval0
  refine (callKnown_law W).mono fun e W' ⟨he, bel⟩ => ?_
  subst he
  exact ⟨_, rfl, _, _, _, [], _, [], hW', trodAll_mk1 (shut_bool Tryz.underlying4 _), trodAll_mk0, rfl, bel.frame _, fun h => by cases h⟩

theorem j1 : Tryz.pinned.checked.prog.unfollowed 12 = Rows.callKnownRow.unfollowed := by kernel_rfl
theorem j2 : Tryz.pinned.checked.prog.recurses 12 = Rows.callKnownRow.recurses := by kernel_rfl
theorem j3 : Tryz.pinned.checked.prog.inPlace 12 = Rows.callKnownRow.inPlace := by kernel_rfl
theorem j4 : Tryz.pinned.checked.prog.varsNamed 12 = Rows.callKnownRow.named := by kernel_rfl
theorem j5 : laidOutB Tryz.pinned.checked.prog = true := by kernel_rfl
theorem j6 : mapsRowed Tryz.pinned.checked.prog = true := by kernel_rfl
theorem j7 : Tryz.pinned.checked.prog.plainKeys = Rows.callKnownRow.plainKeys := by kernel_rfl
theorem joined : joinedFacts Tryz.pinned.checked.prog 12 Tryz.f12 Rows.callKnownSpec Rows.callKnownRow = true := by
  unfold joinedFacts
  rw [j1, j2, j3, j4, j5, j6, j7]
  kernel_rfl
theorem named : Tryz.pinned.checked.prog.funcNamed Rows.callKnownRow.func = some 12 := by kernel_rfl
theorem plainF : Tryz.f12.isInstance Tryz.pinned.checked.prog Rows.callKnownRow.origin Rows.callKnownRow.targs := of_decide_eq_true (by kernel_rfl)
theorem bare : Tryz.f12.isWrapper Tryz.pinned.checked.prog Rows.callKnownRow.wrapper Rows.callKnownRow.mainSum := by
  unfold Func.isWrapper
  first
    | (rw [if_pos (by decide +kernel)]; kernel_rfl)
    | (rw [if_neg (by decide +kernel)]; exact ⟨rfl, rfl⟩)
theorem over : Rows.callKnownRow.holds Tryz.pinned (OpenSpec.ofChange Rows.callKnownSpec) :=
  OpenClaim.holds_of_wide 12 Tryz.f12 rfl rfl rfl rfl rfl rfl rfl ⟨rfl, rfl, rfl, rfl, rfl⟩ rfl rfl rfl rfl rfl named Tryz.func12 joined plainF bare
    (fun os started H enc _ => lifted os started H enc)
/-- the statement. -/
theorem proved : Rows.CallKnownSaid := over
#print axioms proved
end Go.Proofs.YtaegelbaghaooaaGreat.callKnown
