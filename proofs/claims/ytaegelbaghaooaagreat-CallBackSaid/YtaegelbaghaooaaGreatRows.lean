/-
  No cell of these rows narrows 'for every input' (looked for: loops, veiled, ifaces, maps, wideKeys, modest, calm, conditions, laid).
  DERIVED. THE GIVEN ROWS OF THIS SEAT. 15 by the template 'for every input the law returns true; each argument reads behind the call as it read before'; 0 by the template 'total and deterministic' (their statements: YtaegelbaghaooaaGreatTotals.lean).
  GIVEN WITH THE SEED: the statements are not yours to turn. If you find one false, say at which input.
  Laid BY PROGRAM, IN A SANDBOX (cutbox-rows.mjs): the forced cells as the released guide's own fill.sh prints them over the translation 929727f5f5771ece… (all of the seat's roots in one cut). By AI agents, Wed Nov 11 2026. No macro, syntax, notation, axiom, sorry.
-/
import Derived.Test.YtaegelbaghaooaaGreatChecked
import GoSem.Claim
import GoSem.ClaimJoined
import GoSem.ClaimMapViews
import Derived.JoinedTies
import Derived.KernelRfl
namespace Go.Proofs.YtaegelbaghaooaaGreat
/- THE CELL 'sum', in the pinned program and in every row, IS THE sha256 OF THE DUMP (.gsa) THAT YtaegelbaghaooaaGreatProg.lean LOADS. Nothing in Lean hashes anything: it is a label: what it is worth is what the hold of that sum in a sandbox is worth. -/
noncomputable def Tryz.pinned : Pinned := { name := "ytaegelbaghaooaagreat", sum := "929727f5f5771ece467aabb29e23027fa73b32b1ed5147cf39fdb9ea840b8855", checked := Tryz.checked }
namespace Rows
def none {H : Type} : Left H := { results := [], args := [] }

/-- 'quilletlaw15.AllocPlace': WHATEVER THE INPUT: true; the input reads as it did. -/
def allocPlaceSpec : ChangeSpec := { name := "allocPlace", fn := fun _ => fun
  | [d1, d2, d3, d4, d5] => { results := [.lit (.bool true)], args := [d1, d2, d3, d4, d5] }
  | _ => none }
def allocPlaceRow : OpenClaim := { program := "ytaegelbaghaooaagreat", sum := "929727f5f5771ece467aabb29e23027fa73b32b1ed5147cf39fdb9ea840b8855", func := "quillet/quilletlaw15.AllocPlace", spec := "allocPlace", unfollowed := true, recurses := true, apart := false }
def AllocPlaceSaid : Prop := allocPlaceRow.holds Tryz.pinned (OpenSpec.ofChange allocPlaceSpec)

/-- ITS FALSE NEIGHBOUR: 'it returns false'. Refute it at one input. -/
def allocPlaceWrong : ChangeSpec := { name := "allocPlace", fn := fun _ => fun
  | [d1, d2, d3, d4, d5] => { results := [.lit (.bool false)], args := [d1, d2, d3, d4, d5] }
  | _ => none }
def AllocPlaceWrongFalsely : Prop := allocPlaceRow.holds Tryz.pinned (OpenSpec.ofChange allocPlaceWrong)

/-- 'quilletlaw15.AllocRound': WHATEVER THE INPUT: true; the input reads as it did. -/
def allocRoundSpec : ChangeSpec := { name := "allocRound", fn := fun _ => fun
  | [d1, d2, d3] => { results := [.lit (.bool true)], args := [d1, d2, d3] }
  | _ => none }
def allocRoundRow : OpenClaim := { program := "ytaegelbaghaooaagreat", sum := "929727f5f5771ece467aabb29e23027fa73b32b1ed5147cf39fdb9ea840b8855", func := "quillet/quilletlaw15.AllocRound", spec := "allocRound", unfollowed := true, recurses := true, apart := false }
def AllocRoundSaid : Prop := allocRoundRow.holds Tryz.pinned (OpenSpec.ofChange allocRoundSpec)

/-- ITS FALSE NEIGHBOUR: 'it returns false'. Refute it at one input. -/
def allocRoundWrong : ChangeSpec := { name := "allocRound", fn := fun _ => fun
  | [d1, d2, d3] => { results := [.lit (.bool false)], args := [d1, d2, d3] }
  | _ => none }
def AllocRoundWrongFalsely : Prop := allocRoundRow.holds Tryz.pinned (OpenSpec.ofChange allocRoundWrong)

/-- 'quilletlaw15.AllocKnown': WHATEVER THE INPUT: true; the input reads as it did. -/
def allocKnownSpec : ChangeSpec := { name := "allocKnown", fn := fun _ => fun
  | [] => { results := [.lit (.bool true)], args := [] }
  | _ => none }
def allocKnownRow : OpenClaim := { program := "ytaegelbaghaooaagreat", sum := "929727f5f5771ece467aabb29e23027fa73b32b1ed5147cf39fdb9ea840b8855", func := "quillet/quilletlaw15.AllocKnown", spec := "allocKnown", unfollowed := true, recurses := true, apart := false }
def AllocKnownSaid : Prop := allocKnownRow.holds Tryz.pinned (OpenSpec.ofChange allocKnownSpec)

/-- ITS FALSE NEIGHBOUR: 'it returns false'. Refute it at one input. -/
def allocKnownWrong : ChangeSpec := { name := "allocKnown", fn := fun _ => fun
  | [] => { results := [.lit (.bool false)], args := [] }
  | _ => none }
def AllocKnownWrongFalsely : Prop := allocKnownRow.holds Tryz.pinned (OpenSpec.ofChange allocKnownWrong)

/-- 'quilletlaw15.AllocZeros': WHATEVER THE INPUT: true; the input reads as it did. -/
def allocZerosSpec : ChangeSpec := { name := "allocZeros", fn := fun _ => fun
  | [d1, d2, d3] => { results := [.lit (.bool true)], args := [d1, d2, d3] }
  | _ => none }
def allocZerosRow : OpenClaim := { program := "ytaegelbaghaooaagreat", sum := "929727f5f5771ece467aabb29e23027fa73b32b1ed5147cf39fdb9ea840b8855", func := "quillet/quilletlaw15.AllocZeros", spec := "allocZeros", unfollowed := true, recurses := true, apart := false }
def AllocZerosSaid : Prop := allocZerosRow.holds Tryz.pinned (OpenSpec.ofChange allocZerosSpec)

/-- ITS FALSE NEIGHBOUR: 'it returns false'. Refute it at one input. -/
def allocZerosWrong : ChangeSpec := { name := "allocZeros", fn := fun _ => fun
  | [d1, d2, d3] => { results := [.lit (.bool false)], args := [d1, d2, d3] }
  | _ => none }
def AllocZerosWrongFalsely : Prop := allocZerosRow.holds Tryz.pinned (OpenSpec.ofChange allocZerosWrong)

/-- 'quilletlaw15.AllocPlay': WHATEVER THE INPUT: true; the input reads as it did. -/
def allocPlaySpec : ChangeSpec := { name := "allocPlay", fn := fun _ => fun
  | [d1, d2, d3] => { results := [.lit (.bool true)], args := [d1, d2, d3] }
  | _ => none }
def allocPlayRow : OpenClaim := { program := "ytaegelbaghaooaagreat", sum := "929727f5f5771ece467aabb29e23027fa73b32b1ed5147cf39fdb9ea840b8855", func := "quillet/quilletlaw15.AllocPlay", spec := "allocPlay", unfollowed := true, recurses := true, apart := false }
def AllocPlaySaid : Prop := allocPlayRow.holds Tryz.pinned (OpenSpec.ofChange allocPlaySpec)

/-- ITS FALSE NEIGHBOUR: 'it returns false'. Refute it at one input. -/
def allocPlayWrong : ChangeSpec := { name := "allocPlay", fn := fun _ => fun
  | [d1, d2, d3] => { results := [.lit (.bool false)], args := [d1, d2, d3] }
  | _ => none }
def AllocPlayWrongFalsely : Prop := allocPlayRow.holds Tryz.pinned (OpenSpec.ofChange allocPlayWrong)

/-- 'quilletlaw16.RenewKnown': WHATEVER THE INPUT: true; the input reads as it did. -/
def renewKnownSpec : ChangeSpec := { name := "renewKnown", fn := fun _ => fun
  | [] => { results := [.lit (.bool true)], args := [] }
  | _ => none }
def renewKnownRow : OpenClaim := { program := "ytaegelbaghaooaagreat", sum := "929727f5f5771ece467aabb29e23027fa73b32b1ed5147cf39fdb9ea840b8855", func := "quillet/quilletlaw16.RenewKnown", spec := "renewKnown", unfollowed := true, recurses := true, apart := false }
def RenewKnownSaid : Prop := renewKnownRow.holds Tryz.pinned (OpenSpec.ofChange renewKnownSpec)

/-- ITS FALSE NEIGHBOUR: 'it returns false'. Refute it at one input. -/
def renewKnownWrong : ChangeSpec := { name := "renewKnown", fn := fun _ => fun
  | [] => { results := [.lit (.bool false)], args := [] }
  | _ => none }
def RenewKnownWrongFalsely : Prop := renewKnownRow.holds Tryz.pinned (OpenSpec.ofChange renewKnownWrong)

/-- 'quilletlaw16.RenewKeeps': WHATEVER THE INPUT: true; the input reads as it did. -/
def renewKeepsSpec : ChangeSpec := { name := "renewKeeps", fn := fun _ => fun
  | [d1, d2, d3, d4] => { results := [.lit (.bool true)], args := [d1, d2, d3, d4] }
  | _ => none }
def renewKeepsRow : OpenClaim := { program := "ytaegelbaghaooaagreat", sum := "929727f5f5771ece467aabb29e23027fa73b32b1ed5147cf39fdb9ea840b8855", func := "quillet/quilletlaw16.RenewKeeps", spec := "renewKeeps", unfollowed := true, recurses := true, apart := false }
def RenewKeepsSaid : Prop := renewKeepsRow.holds Tryz.pinned (OpenSpec.ofChange renewKeepsSpec)

/-- ITS FALSE NEIGHBOUR: 'it returns false'. Refute it at one input. -/
def renewKeepsWrong : ChangeSpec := { name := "renewKeeps", fn := fun _ => fun
  | [d1, d2, d3, d4] => { results := [.lit (.bool false)], args := [d1, d2, d3, d4] }
  | _ => none }
def RenewKeepsWrongFalsely : Prop := renewKeepsRow.holds Tryz.pinned (OpenSpec.ofChange renewKeepsWrong)

/-- 'quilletlaw16.RenewPlay': WHATEVER THE INPUT: true; the input reads as it did. -/
def renewPlaySpec : ChangeSpec := { name := "renewPlay", fn := fun _ => fun
  | [d1, d2, d3] => { results := [.lit (.bool true)], args := [d1, d2, d3] }
  | _ => none }
def renewPlayRow : OpenClaim := { program := "ytaegelbaghaooaagreat", sum := "929727f5f5771ece467aabb29e23027fa73b32b1ed5147cf39fdb9ea840b8855", func := "quillet/quilletlaw16.RenewPlay", spec := "renewPlay", unfollowed := true, recurses := true, apart := false }
def RenewPlaySaid : Prop := renewPlayRow.holds Tryz.pinned (OpenSpec.ofChange renewPlaySpec)

/-- ITS FALSE NEIGHBOUR: 'it returns false'. Refute it at one input. -/
def renewPlayWrong : ChangeSpec := { name := "renewPlay", fn := fun _ => fun
  | [d1, d2, d3] => { results := [.lit (.bool false)], args := [d1, d2, d3] }
  | _ => none }
def RenewPlayWrongFalsely : Prop := renewPlayRow.holds Tryz.pinned (OpenSpec.ofChange renewPlayWrong)

/-- 'quilletlaw16.RenewError': WHATEVER THE INPUT: true; the input reads as it did. -/
def renewErrorSpec : ChangeSpec := { name := "renewError", fn := fun _ => fun
  | [d1, d2, d3] => { results := [.lit (.bool true)], args := [d1, d2, d3] }
  | _ => none }
def renewErrorRow : OpenClaim := { program := "ytaegelbaghaooaagreat", sum := "929727f5f5771ece467aabb29e23027fa73b32b1ed5147cf39fdb9ea840b8855", func := "quillet/quilletlaw16.RenewError", spec := "renewError", unfollowed := true, recurses := true, apart := false }
def RenewErrorSaid : Prop := renewErrorRow.holds Tryz.pinned (OpenSpec.ofChange renewErrorSpec)

/-- ITS FALSE NEIGHBOUR: 'it returns false'. Refute it at one input. -/
def renewErrorWrong : ChangeSpec := { name := "renewError", fn := fun _ => fun
  | [d1, d2, d3] => { results := [.lit (.bool false)], args := [d1, d2, d3] }
  | _ => none }
def RenewErrorWrongFalsely : Prop := renewErrorRow.holds Tryz.pinned (OpenSpec.ofChange renewErrorWrong)

/-- 'quilletlaw19.CallKnown': WHATEVER THE INPUT: true; the input reads as it did. -/
def callKnownSpec : ChangeSpec := { name := "callKnown", fn := fun _ => fun
  | [] => { results := [.lit (.bool true)], args := [] }
  | _ => none }
def callKnownRow : OpenClaim := { program := "ytaegelbaghaooaagreat", sum := "929727f5f5771ece467aabb29e23027fa73b32b1ed5147cf39fdb9ea840b8855", func := "quillet/quilletlaw19.CallKnown", spec := "callKnown", unfollowed := true, recurses := true, apart := false }
def CallKnownSaid : Prop := callKnownRow.holds Tryz.pinned (OpenSpec.ofChange callKnownSpec)

/-- ITS FALSE NEIGHBOUR: 'it returns false'. Refute it at one input. -/
def callKnownWrong : ChangeSpec := { name := "callKnown", fn := fun _ => fun
  | [] => { results := [.lit (.bool false)], args := [] }
  | _ => none }
def CallKnownWrongFalsely : Prop := callKnownRow.holds Tryz.pinned (OpenSpec.ofChange callKnownWrong)

/-- 'quilletlaw19.CallSerial': WHATEVER THE INPUT: true; the input reads as it did. -/
def callSerialSpec : ChangeSpec := { name := "callSerial", fn := fun _ => fun
  | [d1, d2, d3] => { results := [.lit (.bool true)], args := [d1, d2, d3] }
  | _ => none }
def callSerialRow : OpenClaim := { program := "ytaegelbaghaooaagreat", sum := "929727f5f5771ece467aabb29e23027fa73b32b1ed5147cf39fdb9ea840b8855", func := "quillet/quilletlaw19.CallSerial", spec := "callSerial", unfollowed := true, recurses := true, apart := false }
def CallSerialSaid : Prop := callSerialRow.holds Tryz.pinned (OpenSpec.ofChange callSerialSpec)

/-- ITS FALSE NEIGHBOUR: 'it returns false'. Refute it at one input. -/
def callSerialWrong : ChangeSpec := { name := "callSerial", fn := fun _ => fun
  | [d1, d2, d3] => { results := [.lit (.bool false)], args := [d1, d2, d3] }
  | _ => none }
def CallSerialWrongFalsely : Prop := callSerialRow.holds Tryz.pinned (OpenSpec.ofChange callSerialWrong)

/-- 'quilletlaw19.CallBack': WHATEVER THE INPUT: true; the input reads as it did. -/
def callBackSpec : ChangeSpec := { name := "callBack", fn := fun _ => fun
  | [d1, d2, d3] => { results := [.lit (.bool true)], args := [d1, d2, d3] }
  | _ => none }
def callBackRow : OpenClaim := { program := "ytaegelbaghaooaagreat", sum := "929727f5f5771ece467aabb29e23027fa73b32b1ed5147cf39fdb9ea840b8855", func := "quillet/quilletlaw19.CallBack", spec := "callBack", unfollowed := true, recurses := true, apart := false }
def CallBackSaid : Prop := callBackRow.holds Tryz.pinned (OpenSpec.ofChange callBackSpec)

/-- ITS FALSE NEIGHBOUR: 'it returns false'. Refute it at one input. -/
def callBackWrong : ChangeSpec := { name := "callBack", fn := fun _ => fun
  | [d1, d2, d3] => { results := [.lit (.bool false)], args := [d1, d2, d3] }
  | _ => none }
def CallBackWrongFalsely : Prop := callBackRow.holds Tryz.pinned (OpenSpec.ofChange callBackWrong)

/-- 'quilletlaw19.CallCounts': WHATEVER THE INPUT: true; the input reads as it did. -/
def callCountsSpec : ChangeSpec := { name := "callCounts", fn := fun _ => fun
  | [d1, d2] => { results := [.lit (.bool true)], args := [d1, d2] }
  | _ => none }
def callCountsRow : OpenClaim := { program := "ytaegelbaghaooaagreat", sum := "929727f5f5771ece467aabb29e23027fa73b32b1ed5147cf39fdb9ea840b8855", func := "quillet/quilletlaw19.CallCounts", spec := "callCounts", unfollowed := true, recurses := true, apart := false }
def CallCountsSaid : Prop := callCountsRow.holds Tryz.pinned (OpenSpec.ofChange callCountsSpec)

/-- ITS FALSE NEIGHBOUR: 'it returns false'. Refute it at one input. -/
def callCountsWrong : ChangeSpec := { name := "callCounts", fn := fun _ => fun
  | [d1, d2] => { results := [.lit (.bool false)], args := [d1, d2] }
  | _ => none }
def CallCountsWrongFalsely : Prop := callCountsRow.holds Tryz.pinned (OpenSpec.ofChange callCountsWrong)

/-- 'quilletlaw19.CallFolds': WHATEVER THE INPUT: true; the input reads as it did. -/
def callFoldsSpec : ChangeSpec := { name := "callFolds", fn := fun _ => fun
  | [d1, d2, d3] => { results := [.lit (.bool true)], args := [d1, d2, d3] }
  | _ => none }
def callFoldsRow : OpenClaim := { program := "ytaegelbaghaooaagreat", sum := "929727f5f5771ece467aabb29e23027fa73b32b1ed5147cf39fdb9ea840b8855", func := "quillet/quilletlaw19.CallFolds", spec := "callFolds", unfollowed := true, recurses := true, apart := false }
def CallFoldsSaid : Prop := callFoldsRow.holds Tryz.pinned (OpenSpec.ofChange callFoldsSpec)

/-- ITS FALSE NEIGHBOUR: 'it returns false'. Refute it at one input. -/
def callFoldsWrong : ChangeSpec := { name := "callFolds", fn := fun _ => fun
  | [d1, d2, d3] => { results := [.lit (.bool false)], args := [d1, d2, d3] }
  | _ => none }
def CallFoldsWrongFalsely : Prop := callFoldsRow.holds Tryz.pinned (OpenSpec.ofChange callFoldsWrong)

/-- 'quilletlaw19.CallRefused': WHATEVER THE INPUT: true; the input reads as it did. -/
def callRefusedSpec : ChangeSpec := { name := "callRefused", fn := fun _ => fun
  | [d1, d2, d3, d4, d5] => { results := [.lit (.bool true)], args := [d1, d2, d3, d4, d5] }
  | _ => none }
def callRefusedRow : OpenClaim := { program := "ytaegelbaghaooaagreat", sum := "929727f5f5771ece467aabb29e23027fa73b32b1ed5147cf39fdb9ea840b8855", func := "quillet/quilletlaw19.CallRefused", spec := "callRefused", unfollowed := true, recurses := true, apart := false }
def CallRefusedSaid : Prop := callRefusedRow.holds Tryz.pinned (OpenSpec.ofChange callRefusedSpec)

/-- ITS FALSE NEIGHBOUR: 'it returns false'. Refute it at one input. -/
def callRefusedWrong : ChangeSpec := { name := "callRefused", fn := fun _ => fun
  | [d1, d2, d3, d4, d5] => { results := [.lit (.bool false)], args := [d1, d2, d3, d4, d5] }
  | _ => none }
def CallRefusedWrongFalsely : Prop := callRefusedRow.holds Tryz.pinned (OpenSpec.ofChange callRefusedWrong)

/- THE SECOND FORM. 'bulk': how many values and letters a reading holds, each counted each time it is reached (what is shared counts as often as it is met; a slice's spare places count too). A statement '..UptoSaid' is the law's where the arguments, and the package variables that the reading takes, are together of bulk at most 1048576: NARROWER than '..Said'. Prove '..Said' where nothing that the law and all that it calls make is longer than what came in: it says more and counts as full. Else prove '..UptoSaid'. A law counts once. -/
mutual
def uptoBulk {H : Type} : DataW H → Nat
  | .lit (.string bytes) => bytes.length + 1
  | .lit _ => 1
  | .nil => 1
  | .ptr d => uptoBulk d + 1
  | .slice elems spare => uptoBulkAll elems + uptoBulkAll spare + 1
  | .agg parts => uptoBulkAll parts + 1
  | .iface _ d => uptoBulk d + 1
  | .map entries => uptoBulkEntries entries + 1
  | .held _ => 1
def uptoBulkAll {H : Type} : List (DataW H) → Nat
  | [] => 0
  | d :: r => uptoBulk d + uptoBulkAll r
def uptoBulkEntries {H : Type} : List (Lit × DataW H) → Nat
  | [] => 0
  | x :: r => uptoBulkEntry x + uptoBulkEntries r
def uptoBulkEntry {H : Type} : Lit × DataW H → Nat
  | (.string bytes, d) => bytes.length + uptoBulk d + 1
  | (_, d) => uptoBulk d + 1
 end
def uptoSmall : (H : Type) → List (DataW H) → Bool := fun _ ds => decide (uptoBulkAll ds ≤ 1048576)
def OpenSpec.upto (s : _root_.Go.ChangeSpec) : _root_.Go.OpenSpec := { _root_.Go.OpenSpec.ofChange s with cond := some uptoSmall }

/-- 'quilletlaw15.AllocPlace', WHERE WHAT IT READS IS OF BULK AT MOST 1048576: true; the input reads as it did. -/
def allocPlaceUptoRow : OpenClaim := { program := "ytaegelbaghaooaagreat", sum := "929727f5f5771ece467aabb29e23027fa73b32b1ed5147cf39fdb9ea840b8855", func := "quillet/quilletlaw15.AllocPlace", spec := "allocPlace", unfollowed := true, recurses := true, apart := false, narrowed := true }
def AllocPlaceUptoSaid : Prop := allocPlaceUptoRow.holds Tryz.pinned (OpenSpec.upto allocPlaceSpec)

/-- 'quilletlaw15.AllocRound', WHERE WHAT IT READS IS OF BULK AT MOST 1048576: true; the input reads as it did. -/
def allocRoundUptoRow : OpenClaim := { program := "ytaegelbaghaooaagreat", sum := "929727f5f5771ece467aabb29e23027fa73b32b1ed5147cf39fdb9ea840b8855", func := "quillet/quilletlaw15.AllocRound", spec := "allocRound", unfollowed := true, recurses := true, apart := false, narrowed := true }
def AllocRoundUptoSaid : Prop := allocRoundUptoRow.holds Tryz.pinned (OpenSpec.upto allocRoundSpec)

/-- 'quilletlaw15.AllocKnown', WHERE WHAT IT READS IS OF BULK AT MOST 1048576: true; the input reads as it did. -/
def allocKnownUptoRow : OpenClaim := { program := "ytaegelbaghaooaagreat", sum := "929727f5f5771ece467aabb29e23027fa73b32b1ed5147cf39fdb9ea840b8855", func := "quillet/quilletlaw15.AllocKnown", spec := "allocKnown", unfollowed := true, recurses := true, apart := false, narrowed := true }
def AllocKnownUptoSaid : Prop := allocKnownUptoRow.holds Tryz.pinned (OpenSpec.upto allocKnownSpec)

/-- 'quilletlaw15.AllocZeros', WHERE WHAT IT READS IS OF BULK AT MOST 1048576: true; the input reads as it did. -/
def allocZerosUptoRow : OpenClaim := { program := "ytaegelbaghaooaagreat", sum := "929727f5f5771ece467aabb29e23027fa73b32b1ed5147cf39fdb9ea840b8855", func := "quillet/quilletlaw15.AllocZeros", spec := "allocZeros", unfollowed := true, recurses := true, apart := false, narrowed := true }
def AllocZerosUptoSaid : Prop := allocZerosUptoRow.holds Tryz.pinned (OpenSpec.upto allocZerosSpec)

/-- 'quilletlaw15.AllocPlay', WHERE WHAT IT READS IS OF BULK AT MOST 1048576: true; the input reads as it did. -/
def allocPlayUptoRow : OpenClaim := { program := "ytaegelbaghaooaagreat", sum := "929727f5f5771ece467aabb29e23027fa73b32b1ed5147cf39fdb9ea840b8855", func := "quillet/quilletlaw15.AllocPlay", spec := "allocPlay", unfollowed := true, recurses := true, apart := false, narrowed := true }
def AllocPlayUptoSaid : Prop := allocPlayUptoRow.holds Tryz.pinned (OpenSpec.upto allocPlaySpec)

/-- 'quilletlaw16.RenewKnown', WHERE WHAT IT READS IS OF BULK AT MOST 1048576: true; the input reads as it did. -/
def renewKnownUptoRow : OpenClaim := { program := "ytaegelbaghaooaagreat", sum := "929727f5f5771ece467aabb29e23027fa73b32b1ed5147cf39fdb9ea840b8855", func := "quillet/quilletlaw16.RenewKnown", spec := "renewKnown", unfollowed := true, recurses := true, apart := false, narrowed := true }
def RenewKnownUptoSaid : Prop := renewKnownUptoRow.holds Tryz.pinned (OpenSpec.upto renewKnownSpec)

/-- 'quilletlaw16.RenewKeeps', WHERE WHAT IT READS IS OF BULK AT MOST 1048576: true; the input reads as it did. -/
def renewKeepsUptoRow : OpenClaim := { program := "ytaegelbaghaooaagreat", sum := "929727f5f5771ece467aabb29e23027fa73b32b1ed5147cf39fdb9ea840b8855", func := "quillet/quilletlaw16.RenewKeeps", spec := "renewKeeps", unfollowed := true, recurses := true, apart := false, narrowed := true }
def RenewKeepsUptoSaid : Prop := renewKeepsUptoRow.holds Tryz.pinned (OpenSpec.upto renewKeepsSpec)

/-- 'quilletlaw16.RenewPlay', WHERE WHAT IT READS IS OF BULK AT MOST 1048576: true; the input reads as it did. -/
def renewPlayUptoRow : OpenClaim := { program := "ytaegelbaghaooaagreat", sum := "929727f5f5771ece467aabb29e23027fa73b32b1ed5147cf39fdb9ea840b8855", func := "quillet/quilletlaw16.RenewPlay", spec := "renewPlay", unfollowed := true, recurses := true, apart := false, narrowed := true }
def RenewPlayUptoSaid : Prop := renewPlayUptoRow.holds Tryz.pinned (OpenSpec.upto renewPlaySpec)

/-- 'quilletlaw16.RenewError', WHERE WHAT IT READS IS OF BULK AT MOST 1048576: true; the input reads as it did. -/
def renewErrorUptoRow : OpenClaim := { program := "ytaegelbaghaooaagreat", sum := "929727f5f5771ece467aabb29e23027fa73b32b1ed5147cf39fdb9ea840b8855", func := "quillet/quilletlaw16.RenewError", spec := "renewError", unfollowed := true, recurses := true, apart := false, narrowed := true }
def RenewErrorUptoSaid : Prop := renewErrorUptoRow.holds Tryz.pinned (OpenSpec.upto renewErrorSpec)

/-- 'quilletlaw19.CallKnown', WHERE WHAT IT READS IS OF BULK AT MOST 1048576: true; the input reads as it did. -/
def callKnownUptoRow : OpenClaim := { program := "ytaegelbaghaooaagreat", sum := "929727f5f5771ece467aabb29e23027fa73b32b1ed5147cf39fdb9ea840b8855", func := "quillet/quilletlaw19.CallKnown", spec := "callKnown", unfollowed := true, recurses := true, apart := false, narrowed := true }
def CallKnownUptoSaid : Prop := callKnownUptoRow.holds Tryz.pinned (OpenSpec.upto callKnownSpec)

/-- 'quilletlaw19.CallSerial', WHERE WHAT IT READS IS OF BULK AT MOST 1048576: true; the input reads as it did. -/
def callSerialUptoRow : OpenClaim := { program := "ytaegelbaghaooaagreat", sum := "929727f5f5771ece467aabb29e23027fa73b32b1ed5147cf39fdb9ea840b8855", func := "quillet/quilletlaw19.CallSerial", spec := "callSerial", unfollowed := true, recurses := true, apart := false, narrowed := true }
def CallSerialUptoSaid : Prop := callSerialUptoRow.holds Tryz.pinned (OpenSpec.upto callSerialSpec)

/-- 'quilletlaw19.CallBack', WHERE WHAT IT READS IS OF BULK AT MOST 1048576: true; the input reads as it did. -/
def callBackUptoRow : OpenClaim := { program := "ytaegelbaghaooaagreat", sum := "929727f5f5771ece467aabb29e23027fa73b32b1ed5147cf39fdb9ea840b8855", func := "quillet/quilletlaw19.CallBack", spec := "callBack", unfollowed := true, recurses := true, apart := false, narrowed := true }
def CallBackUptoSaid : Prop := callBackUptoRow.holds Tryz.pinned (OpenSpec.upto callBackSpec)

/-- 'quilletlaw19.CallCounts', WHERE WHAT IT READS IS OF BULK AT MOST 1048576: true; the input reads as it did. -/
def callCountsUptoRow : OpenClaim := { program := "ytaegelbaghaooaagreat", sum := "929727f5f5771ece467aabb29e23027fa73b32b1ed5147cf39fdb9ea840b8855", func := "quillet/quilletlaw19.CallCounts", spec := "callCounts", unfollowed := true, recurses := true, apart := false, narrowed := true }
def CallCountsUptoSaid : Prop := callCountsUptoRow.holds Tryz.pinned (OpenSpec.upto callCountsSpec)

/-- 'quilletlaw19.CallFolds', WHERE WHAT IT READS IS OF BULK AT MOST 1048576: true; the input reads as it did. -/
def callFoldsUptoRow : OpenClaim := { program := "ytaegelbaghaooaagreat", sum := "929727f5f5771ece467aabb29e23027fa73b32b1ed5147cf39fdb9ea840b8855", func := "quillet/quilletlaw19.CallFolds", spec := "callFolds", unfollowed := true, recurses := true, apart := false, narrowed := true }
def CallFoldsUptoSaid : Prop := callFoldsUptoRow.holds Tryz.pinned (OpenSpec.upto callFoldsSpec)

/-- 'quilletlaw19.CallRefused', WHERE WHAT IT READS IS OF BULK AT MOST 1048576: true; the input reads as it did. -/
def callRefusedUptoRow : OpenClaim := { program := "ytaegelbaghaooaagreat", sum := "929727f5f5771ece467aabb29e23027fa73b32b1ed5147cf39fdb9ea840b8855", func := "quillet/quilletlaw19.CallRefused", spec := "callRefused", unfollowed := true, recurses := true, apart := false, narrowed := true }
def CallRefusedUptoSaid : Prop := callRefusedUptoRow.holds Tryz.pinned (OpenSpec.upto callRefusedSpec)

end Rows
end Go.Proofs.YtaegelbaghaooaaGreat
