/- The law RenewKnown: its statement 'RenewKnownSaid', out of its walk: for every input the call returns true, and each argument reads afterwards as it read before. -/
import Derived.Test.YtaegelbaghaooaaGreatRows
import Derived.Test.YtaegelbaghaooaaGreatRkQRenewKnown
import Derived.WalkKit
import Derived.ProofKit
import Derived.OpenShut
import Derived.ShutString
import Derived.ChangeOld
import Derived.Below
namespace Go.Proofs.YtaegelbaghaooaaGreat.renewKnown
open Go.ChangeShapes Go.WideShapes Go.ChangeAt Go.RowKit
set_option linter.unusedVariables false
theorem own : ownKnob Tryz.prog.godebug = none := by kernel_rfl
theorem laidOut : laidOutB Tryz.prog = true := by kernel_rfl
set_option maxRecDepth 100000 in
theorem lifted (os : Os) (started : os.Started) (H : Type) (enc : TypeId × Value → H) :
    ReturnsInHanded {} Tryz.checked os 8 .any (Rows.renewKnownSpec.pre6 enc Tryz.prog Tryz.f8 Rows.renewKnownRow.domain false) (Rows.renewKnownSpec.post enc Tryz.prog Tryz.f8 false true false false) := by
  refine returnsInHanded_of_change (C := Tryz.checked) own started (by kernel_rfl) Tryz.func8
    (ChangeSpec.witness6 (enc := enc) (C := Tryz.checked) false ⟨#[], #[], []⟩ 8 (by kernel_rfl) (by kernel_rfl) (by kernel_rfl) (by kernel_rfl)) ?_
  intro W base args ds gs before hval0 hW hcnd _
  have hval : ∀ (j : Nat) t v, Tryz.f8.params[j]? = some t → args[j]? = some v → Value.okWide Tryz.prog W .any base t v := hval0
  have hW' := hW
  obtain ⟨p, q, hA0, hV, rfl, hfz, hnd⟩ := hW
  have hA : DataW.TrodAll enc Tryz.prog W 0 (fun _ => true) true Tryz.f8.params.toList args.toList ds p := hA0
  rw [Tryz.params8] at hA hval
  obtain ⟨hargs, rfl, rfl⟩ := trodAll_nil hA
  obtain rfl : args = #[] := by cases args; simp_all
  obtain ⟨rfl, rfl⟩ := trodVars_none hV
  clear hA0 hval0
  refine (renewKnown_law W).mono fun e W' ⟨he, bel⟩ => ?_
  subst he
  exact ⟨_, rfl, _, _, _, [], _, [], hW', trodAll_mk1 (shut_bool Tryz.underlying4 _), trodAll_mk0, rfl, bel.frame _, fun h => by cases h⟩

theorem j1 : Tryz.pinned.checked.prog.unfollowed 8 = Rows.renewKnownRow.unfollowed := by kernel_rfl
theorem j2 : Tryz.pinned.checked.prog.recurses 8 = Rows.renewKnownRow.recurses := by kernel_rfl
theorem j3 : Tryz.pinned.checked.prog.inPlace 8 = Rows.renewKnownRow.inPlace := by kernel_rfl
theorem j4 : Tryz.pinned.checked.prog.varsNamed 8 = Rows.renewKnownRow.named := by kernel_rfl
theorem j5 : laidOutB Tryz.pinned.checked.prog = true := by kernel_rfl
theorem j6 : mapsRowed Tryz.pinned.checked.prog = true := by kernel_rfl
theorem j7 : Tryz.pinned.checked.prog.plainKeys = Rows.renewKnownRow.plainKeys := by kernel_rfl
theorem joined : joinedFacts Tryz.pinned.checked.prog 8 Tryz.f8 Rows.renewKnownSpec Rows.renewKnownRow = true := by
  unfold joinedFacts
  rw [j1, j2, j3, j4, j5, j6, j7]
  kernel_rfl
theorem named : Tryz.pinned.checked.prog.funcNamed Rows.renewKnownRow.func = some 8 := by kernel_rfl
theorem plainF : Tryz.f8.isInstance Tryz.pinned.checked.prog Rows.renewKnownRow.origin Rows.renewKnownRow.targs := of_decide_eq_true (by kernel_rfl)
theorem bare : Tryz.f8.isWrapper Tryz.pinned.checked.prog Rows.renewKnownRow.wrapper Rows.renewKnownRow.mainSum := by
  unfold Func.isWrapper
  first
    | (rw [if_pos (by decide +kernel)]; kernel_rfl)
    | (rw [if_neg (by decide +kernel)]; exact ⟨rfl, rfl⟩)
theorem over : Rows.renewKnownRow.holds Tryz.pinned (OpenSpec.ofChange Rows.renewKnownSpec) :=
  OpenClaim.holds_of_wide 8 Tryz.f8 rfl rfl rfl rfl rfl rfl rfl ⟨rfl, rfl, rfl, rfl, rfl⟩ rfl rfl rfl rfl rfl named Tryz.func8 joined plainF bare
    (fun os started H enc _ => lifted os started H enc)
/-- the statement. -/
theorem proved : Rows.RenewKnownSaid := over
#print axioms proved
end Go.Proofs.YtaegelbaghaooaaGreat.renewKnown
