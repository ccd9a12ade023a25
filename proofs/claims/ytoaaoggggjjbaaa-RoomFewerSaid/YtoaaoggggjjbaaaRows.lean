/-
  No cell of these rows narrows 'for every input' (looked for: loops, veiled, ifaces, maps, wideKeys, modest, calm, conditions, laid).
  DERIVED. THE GIVEN ROWS OF THIS SEAT. 6 by the template 'for every input the law returns true; each argument reads behind the call as it read before'; 0 by the template 'total and deterministic' (their statements: YtoaaoggggjjbaaaTotals.lean).
  GIVEN WITH THE SEED: the statements are not yours to turn. If you find one false, say at which input.
  Laid BY PROGRAM, IN A SANDBOX (cutbox-rows.mjs): the forced cells as the released guide's own fill.sh prints them over the translation f2ca63702f1010c7… (all of the seat's roots in one cut). By AI agents, Wed Nov 11 2026. No macro, syntax, notation, axiom, sorry.
-/
import Derived.Test.YtoaaoggggjjbaaaChecked
import GoSem.Claim
import GoSem.ClaimJoined
import GoSem.ClaimMapViews
import Derived.JoinedTies
import Derived.KernelRfl
namespace Go.Proofs.Ytoaaoggggjjbaaa
/- THE CELL 'sum', in the pinned program and in every row, IS THE sha256 OF THE DUMP (.gsa) THAT YtoaaoggggjjbaaaProg.lean LOADS. Nothing in Lean hashes anything: it is a label: what it is worth is what the hold of that sum in a sandbox is worth. -/
noncomputable def Try.pinned : Pinned := { name := "ytoaaoggggjjbaaa", sum := "f2ca63702f1010c7293666c8668b96ab8c21ee316de5486941559f394626ae30", checked := Try.checked }
namespace Rows
def none {H : Type} : Left H := { results := [], args := [] }

/-- 'quilletlaw23.RoomLess': WHATEVER THE INPUT: true; the input reads as it did. -/
def roomLessSpec : ChangeSpec := { name := "roomLess", fn := fun _ => fun
  | [d1, d2, d3, d4, d5] => { results := [.lit (.bool true)], args := [d1, d2, d3, d4, d5] }
  | _ => none }
def roomLessRow : OpenClaim := { program := "ytoaaoggggjjbaaa", sum := "f2ca63702f1010c7293666c8668b96ab8c21ee316de5486941559f394626ae30", func := "quillet/quilletlaw23.RoomLess", spec := "roomLess", unfollowed := true, recurses := true, apart := false }
def RoomLessSaid : Prop := roomLessRow.holds Try.pinned (OpenSpec.ofChange roomLessSpec)

/-- ITS FALSE NEIGHBOUR: 'it returns false'. Refute it at one input. -/
def roomLessWrong : ChangeSpec := { name := "roomLess", fn := fun _ => fun
  | [d1, d2, d3, d4, d5] => { results := [.lit (.bool false)], args := [d1, d2, d3, d4, d5] }
  | _ => none }
def RoomLessWrongFalsely : Prop := roomLessRow.holds Try.pinned (OpenSpec.ofChange roomLessWrong)

/-- 'quilletlaw23.RoomFewer': WHATEVER THE INPUT: true; the input reads as it did. -/
def roomFewerSpec : ChangeSpec := { name := "roomFewer", fn := fun _ => fun
  | [d1, d2, d3, d4, d5, d6, d7] => { results := [.lit (.bool true)], args := [d1, d2, d3, d4, d5, d6, d7] }
  | _ => none }
def roomFewerRow : OpenClaim := { program := "ytoaaoggggjjbaaa", sum := "f2ca63702f1010c7293666c8668b96ab8c21ee316de5486941559f394626ae30", func := "quillet/quilletlaw23.RoomFewer", spec := "roomFewer", unfollowed := true, recurses := true, apart := false }
def RoomFewerSaid : Prop := roomFewerRow.holds Try.pinned (OpenSpec.ofChange roomFewerSpec)

/-- ITS FALSE NEIGHBOUR: 'it returns false'. Refute it at one input. -/
def roomFewerWrong : ChangeSpec := { name := "roomFewer", fn := fun _ => fun
  | [d1, d2, d3, d4, d5, d6, d7] => { results := [.lit (.bool false)], args := [d1, d2, d3, d4, d5, d6, d7] }
  | _ => none }
def RoomFewerWrongFalsely : Prop := roomFewerRow.holds Try.pinned (OpenSpec.ofChange roomFewerWrong)

/-- 'quilletlaw23.RoomEmpty': WHATEVER THE INPUT: true; the input reads as it did. -/
def roomEmptySpec : ChangeSpec := { name := "roomEmpty", fn := fun _ => fun
  | [d1, d2, d3, d4] => { results := [.lit (.bool true)], args := [d1, d2, d3, d4] }
  | _ => none }
def roomEmptyRow : OpenClaim := { program := "ytoaaoggggjjbaaa", sum := "f2ca63702f1010c7293666c8668b96ab8c21ee316de5486941559f394626ae30", func := "quillet/quilletlaw23.RoomEmpty", spec := "roomEmpty", unfollowed := true, recurses := true, apart := false }
def RoomEmptySaid : Prop := roomEmptyRow.holds Try.pinned (OpenSpec.ofChange roomEmptySpec)

/-- ITS FALSE NEIGHBOUR: 'it returns false'. Refute it at one input. -/
def roomEmptyWrong : ChangeSpec := { name := "roomEmpty", fn := fun _ => fun
  | [d1, d2, d3, d4] => { results := [.lit (.bool false)], args := [d1, d2, d3, d4] }
  | _ => none }
def RoomEmptyWrongFalsely : Prop := roomEmptyRow.holds Try.pinned (OpenSpec.ofChange roomEmptyWrong)

/-- 'quilletlaw23.RoomSides': WHATEVER THE INPUT: true; the input reads as it did. -/
def roomSidesSpec : ChangeSpec := { name := "roomSides", fn := fun _ => fun
  | [d1, d2, d3, d4, d5, d6] => { results := [.lit (.bool true)], args := [d1, d2, d3, d4, d5, d6] }
  | _ => none }
def roomSidesRow : OpenClaim := { program := "ytoaaoggggjjbaaa", sum := "f2ca63702f1010c7293666c8668b96ab8c21ee316de5486941559f394626ae30", func := "quillet/quilletlaw23.RoomSides", spec := "roomSides", unfollowed := true, recurses := true, apart := false }
def RoomSidesSaid : Prop := roomSidesRow.holds Try.pinned (OpenSpec.ofChange roomSidesSpec)

/-- ITS FALSE NEIGHBOUR: 'it returns false'. Refute it at one input. -/
def roomSidesWrong : ChangeSpec := { name := "roomSides", fn := fun _ => fun
  | [d1, d2, d3, d4, d5, d6] => { results := [.lit (.bool false)], args := [d1, d2, d3, d4, d5, d6] }
  | _ => none }
def RoomSidesWrongFalsely : Prop := roomSidesRow.holds Try.pinned (OpenSpec.ofChange roomSidesWrong)

/-- 'quilletlaw22.HeapKnown': WHATEVER THE INPUT: true; the input reads as it did. -/
def heapKnownSpec : ChangeSpec := { name := "heapKnown", fn := fun _ => fun
  | [] => { results := [.lit (.bool true)], args := [] }
  | _ => none }
def heapKnownRow : OpenClaim := { program := "ytoaaoggggjjbaaa", sum := "f2ca63702f1010c7293666c8668b96ab8c21ee316de5486941559f394626ae30", func := "quillet/quilletlaw22.HeapKnown", spec := "heapKnown", unfollowed := true, recurses := true, apart := false }
def HeapKnownSaid : Prop := heapKnownRow.holds Try.pinned (OpenSpec.ofChange heapKnownSpec)

/-- ITS FALSE NEIGHBOUR: 'it returns false'. Refute it at one input. -/
def heapKnownWrong : ChangeSpec := { name := "heapKnown", fn := fun _ => fun
  | [] => { results := [.lit (.bool false)], args := [] }
  | _ => none }
def HeapKnownWrongFalsely : Prop := heapKnownRow.holds Try.pinned (OpenSpec.ofChange heapKnownWrong)

/-- 'quilletlaw22.HeapErrors': WHATEVER THE INPUT: true; the input reads as it did. -/
def heapErrorsSpec : ChangeSpec := { name := "heapErrors", fn := fun _ => fun
  | [d1, d2, d3, d4, d5] => { results := [.lit (.bool true)], args := [d1, d2, d3, d4, d5] }
  | _ => none }
def heapErrorsRow : OpenClaim := { program := "ytoaaoggggjjbaaa", sum := "f2ca63702f1010c7293666c8668b96ab8c21ee316de5486941559f394626ae30", func := "quillet/quilletlaw22.HeapErrors", spec := "heapErrors", unfollowed := true, recurses := true, apart := false }
def HeapErrorsSaid : Prop := heapErrorsRow.holds Try.pinned (OpenSpec.ofChange heapErrorsSpec)

/-- ITS FALSE NEIGHBOUR: 'it returns false'. Refute it at one input. -/
def heapErrorsWrong : ChangeSpec := { name := "heapErrors", fn := fun _ => fun
  | [d1, d2, d3, d4, d5] => { results := [.lit (.bool false)], args := [d1, d2, d3, d4, d5] }
  | _ => none }
def HeapErrorsWrongFalsely : Prop := heapErrorsRow.holds Try.pinned (OpenSpec.ofChange heapErrorsWrong)

/- THE SECOND FORM. 'bulk': how many values and letters a reading holds, each counted each time it is reached (what is shared counts as often as it is met; a slice's spare places count too). A statement '..UptoSaid' is the law's where the arguments, and the package variables that the reading takes, are together of bulk at most 1048576: NARROWER than '..Said'. Prove '..Said' where nothing that the law and all that it calls make is longer than what came in: it says more and counts as full. Else prove '..UptoSaid'. A law counts once. -/
mutual
def uptoBulk {H : Type} : DataW H → Nat
  | .lit (.string bytes) => bytes.length + 1
  | .lit _ => 1
  | .nil => 1
  | .ptr d => uptoBulk d + 1
  | .slice elems spare => uptoBulkAll elems + uptoBulkAll spare + 1
  | .agg parts => uptoBulkAll parts + 1
  | .iface _ d => uptoBulk d + 1
  | .map entries => uptoBulkEntries entries + 1
  | .held _ => 1
def uptoBulkAll {H : Type} : List (DataW H) → Nat
  | [] => 0
  | d :: r => uptoBulk d + uptoBulkAll r
def uptoBulkEntries {H : Type} : List (Lit × DataW H) → Nat
  | [] => 0
  | x :: r => uptoBulkEntry x + uptoBulkEntries r
def uptoBulkEntry {H : Type} : Lit × DataW H → Nat
  | (.string bytes, d) => bytes.length + uptoBulk d + 1
  | (_, d) => uptoBulk d + 1
 end
def uptoSmall : (H : Type) → List (DataW H) → Bool := fun _ ds => decide (uptoBulkAll ds ≤ 1048576)
def OpenSpec.upto (s : _root_.Go.ChangeSpec) : _root_.Go.OpenSpec := { _root_.Go.OpenSpec.ofChange s with cond := some uptoSmall }

/-- 'quilletlaw23.RoomLess', WHERE WHAT IT READS IS OF BULK AT MOST 1048576: true; the input reads as it did. -/
def roomLessUptoRow : OpenClaim := { program := "ytoaaoggggjjbaaa", sum := "f2ca63702f1010c7293666c8668b96ab8c21ee316de5486941559f394626ae30", func := "quillet/quilletlaw23.RoomLess", spec := "roomLess", unfollowed := true, recurses := true, apart := false, narrowed := true }
def RoomLessUptoSaid : Prop := roomLessUptoRow.holds Try.pinned (OpenSpec.upto roomLessSpec)

/-- 'quilletlaw23.RoomFewer', WHERE WHAT IT READS IS OF BULK AT MOST 1048576: true; the input reads as it did. -/
def roomFewerUptoRow : OpenClaim := { program := "ytoaaoggggjjbaaa", sum := "f2ca63702f1010c7293666c8668b96ab8c21ee316de5486941559f394626ae30", func := "quillet/quilletlaw23.RoomFewer", spec := "roomFewer", unfollowed := true, recurses := true, apart := false, narrowed := true }
def RoomFewerUptoSaid : Prop := roomFewerUptoRow.holds Try.pinned (OpenSpec.upto roomFewerSpec)

/-- 'quilletlaw23.RoomEmpty', WHERE WHAT IT READS IS OF BULK AT MOST 1048576: true; the input reads as it did. -/
def roomEmptyUptoRow : OpenClaim := { program := "ytoaaoggggjjbaaa", sum := "f2ca63702f1010c7293666c8668b96ab8c21ee316de5486941559f394626ae30", func := "quillet/quilletlaw23.RoomEmpty", spec := "roomEmpty", unfollowed := true, recurses := true, apart := false, narrowed := true }
def RoomEmptyUptoSaid : Prop := roomEmptyUptoRow.holds Try.pinned (OpenSpec.upto roomEmptySpec)

/-- 'quilletlaw23.RoomSides', WHERE WHAT IT READS IS OF BULK AT MOST 1048576: true; the input reads as it did. -/
def roomSidesUptoRow : OpenClaim := { program := "ytoaaoggggjjbaaa", sum := "f2ca63702f1010c7293666c8668b96ab8c21ee316de5486941559f394626ae30", func := "quillet/quilletlaw23.RoomSides", spec := "roomSides", unfollowed := true, recurses := true, apart := false, narrowed := true }
def RoomSidesUptoSaid : Prop := roomSidesUptoRow.holds Try.pinned (OpenSpec.upto roomSidesSpec)

/-- 'quilletlaw22.HeapKnown', WHERE WHAT IT READS IS OF BULK AT MOST 1048576: true; the input reads as it did. -/
def heapKnownUptoRow : OpenClaim := { program := "ytoaaoggggjjbaaa", sum := "f2ca63702f1010c7293666c8668b96ab8c21ee316de5486941559f394626ae30", func := "quillet/quilletlaw22.HeapKnown", spec := "heapKnown", unfollowed := true, recurses := true, apart := false, narrowed := true }
def HeapKnownUptoSaid : Prop := heapKnownUptoRow.holds Try.pinned (OpenSpec.upto heapKnownSpec)

/-- 'quilletlaw22.HeapErrors', WHERE WHAT IT READS IS OF BULK AT MOST 1048576: true; the input reads as it did. -/
def heapErrorsUptoRow : OpenClaim := { program := "ytoaaoggggjjbaaa", sum := "f2ca63702f1010c7293666c8668b96ab8c21ee316de5486941559f394626ae30", func := "quillet/quilletlaw22.HeapErrors", spec := "heapErrors", unfollowed := true, recurses := true, apart := false, narrowed := true }
def HeapErrorsUptoSaid : Prop := heapErrorsUptoRow.holds Try.pinned (OpenSpec.upto heapErrorsSpec)

end Rows
end Go.Proofs.Ytoaaoggggjjbaaa
