/- The law HeapKnown: its statement 'HeapKnownSaid', out of its walk: for every input the call returns true, and each argument reads afterwards as it read before. -/
import Derived.Test.YtjcdojcbdfblbaaRows
import Derived.Test.YtjcdojcbdfblbaaHLaw22
import Derived.WalkKit
import Derived.ProofKit
import Derived.OpenShut
import Derived.ShutString
import Derived.ChangeOld
import Derived.Below
namespace Go.Proofs.Ytjcdojcbdfblbaa.heapKnown
open Go.ChangeShapes Go.WideShapes Go.ChangeAt Go.RowKit
set_option linter.unusedVariables false
theorem own : ownKnob Try.prog.godebug = none := by kernel_rfl
theorem laidOut : laidOutB Try.prog = true := by kernel_rfl
set_option maxRecDepth 100000 in
theorem lifted (os : Os) (started : os.Started) (H : Type) (enc : TypeId × Value → H) :
    ReturnsInHanded {} Try.checked os 3 .any (Rows.heapKnownSpec.pre6 enc Try.prog Try.f3 Rows.heapKnownRow.domain false) (Rows.heapKnownSpec.post enc Try.prog Try.f3 false true false false) := by
  refine returnsInHanded_of_change (C := Try.checked) own started (by kernel_rfl) Try.func3
    (ChangeSpec.witness6 (enc := enc) (C := Try.checked) false ⟨#[], #[], []⟩ 8 (by kernel_rfl) (by kernel_rfl) (by kernel_rfl) (by kernel_rfl)) ?_
  intro W base args ds gs before hval0 hW hcnd _
  have hval : ∀ (j : Nat) t v, Try.f3.params[j]? = some t → args[j]? = some v → Value.okWide Try.prog W .any base t v := hval0
  have hW' := hW
  obtain ⟨p, q, hA0, hV, rfl, hfz, hnd⟩ := hW
  have hA : DataW.TrodAll enc Try.prog W 0 (fun _ => true) true Try.f3.params.toList args.toList ds p := hA0
  rw [Try.params3] at hA hval
  obtain ⟨hargs, rfl, rfl⟩ := trodAll_nil hA
  obtain rfl : args = #[] := by cases args; simp_all
  obtain ⟨rfl, rfl⟩ := trodVars_none hV
  clear hA0 hval0
  refine (heapKnown_law W).mono fun e W' ⟨he, bel⟩ => ?_
  subst he
  exact ⟨_, rfl, _, _, _, [], _, [], hW', trodAll_mk1 (shut_bool Try.underlying4 _), trodAll_mk0, rfl, bel.frame _, fun h => by cases h⟩

theorem j1 : Try.pinned.checked.prog.unfollowed 3 = Rows.heapKnownRow.unfollowed := by kernel_rfl
theorem j2 : Try.pinned.checked.prog.recurses 3 = Rows.heapKnownRow.recurses := by kernel_rfl
theorem j3 : Try.pinned.checked.prog.inPlace 3 = Rows.heapKnownRow.inPlace := by kernel_rfl
theorem j4 : Try.pinned.checked.prog.varsNamed 3 = Rows.heapKnownRow.named := by kernel_rfl
theorem j5 : laidOutB Try.pinned.checked.prog = true := by kernel_rfl
theorem j6 : mapsRowed Try.pinned.checked.prog = true := by kernel_rfl
theorem j7 : Try.pinned.checked.prog.plainKeys = Rows.heapKnownRow.plainKeys := by kernel_rfl
theorem joined : joinedFacts Try.pinned.checked.prog 3 Try.f3 Rows.heapKnownSpec Rows.heapKnownRow = true := by
  unfold joinedFacts
  rw [j1, j2, j3, j4, j5, j6, j7]
  kernel_rfl
theorem named : Try.pinned.checked.prog.funcNamed Rows.heapKnownRow.func = some 3 := by kernel_rfl
theorem plainF : Try.f3.isInstance Try.pinned.checked.prog Rows.heapKnownRow.origin Rows.heapKnownRow.targs := of_decide_eq_true (by kernel_rfl)
theorem bare : Try.f3.isWrapper Try.pinned.checked.prog Rows.heapKnownRow.wrapper Rows.heapKnownRow.mainSum := by
  unfold Func.isWrapper
  first
    | (rw [if_pos (by decide +kernel)]; kernel_rfl)
    | (rw [if_neg (by decide +kernel)]; exact ⟨rfl, rfl⟩)
theorem over : Rows.heapKnownRow.holds Try.pinned (OpenSpec.ofChange Rows.heapKnownSpec) :=
  OpenClaim.holds_of_wide 3 Try.f3 rfl rfl rfl rfl rfl rfl rfl ⟨rfl, rfl, rfl, rfl, rfl⟩ rfl rfl rfl rfl rfl named Try.func3 joined plainF bare
    (fun os started H enc _ => lifted os started H enc)
/-- the statement. -/
theorem proved : Rows.HeapKnownSaid := over
#print axioms proved
end Go.Proofs.Ytjcdojcbdfblbaa.heapKnown
