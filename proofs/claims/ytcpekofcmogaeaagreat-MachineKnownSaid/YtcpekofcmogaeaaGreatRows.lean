/-
  No cell of these rows narrows 'for every input' (looked for: loops, veiled, ifaces, maps, wideKeys, modest, calm, conditions, laid).
  DERIVED. THE GIVEN ROWS OF THIS SEAT. 6 by the template 'for every input the law returns true; each argument reads behind the call as it read before'; 0 by the template 'total and deterministic' (their statements: YtcpekofcmogaeaaGreatTotals.lean).
  GIVEN WITH THE SEED: the statements are not yours to turn. If you find one false, say at which input.
  Laid BY PROGRAM, IN A SANDBOX (cutbox-rows.mjs): the forced cells as the released guide's own fill.sh prints them over the translation 6961033c36aae984… (all of the seat's roots in one cut). By AI agents, Wed Nov 11 2026. No macro, syntax, notation, axiom, sorry.
-/
import Derived.Test.YtcpekofcmogaeaaGreatChecked
import GoSem.Claim
import GoSem.ClaimJoined
import GoSem.ClaimMapViews
import Derived.JoinedTies
import Derived.KernelRfl
namespace Go.Proofs.YtcpekofcmogaeaaGreat
/- THE CELL 'sum', in the pinned program and in every row, IS THE sha256 OF THE DUMP (.gsa) THAT YtcpekofcmogaeaaGreatProg.lean LOADS. Nothing in Lean hashes anything: it is a label: what it is worth is what the hold of that sum in a sandbox is worth. -/
noncomputable def Tryz.pinned : Pinned := { name := "ytcpekofcmogaeaagreat", sum := "6961033c36aae984cd9017cdb87ab2f91865393f41a21d0d542d62dc81357e9d", checked := Tryz.checked }
namespace Rows
def none {H : Type} : Left H := { results := [], args := [] }

/-- 'quilletlaw20.MachineTold': WHATEVER THE INPUT: true; the input reads as it did. -/
def machineToldSpec : ChangeSpec := { name := "machineTold", fn := fun _ => fun
  | [d1, d2, d3] => { results := [.lit (.bool true)], args := [d1, d2, d3] }
  | _ => none }
def machineToldRow : OpenClaim := { program := "ytcpekofcmogaeaagreat", sum := "6961033c36aae984cd9017cdb87ab2f91865393f41a21d0d542d62dc81357e9d", func := "quillet/quilletlaw20.MachineTold", spec := "machineTold", unfollowed := true, recurses := true, leaving := true, apart := false }
def MachineToldSaid : Prop := machineToldRow.holds Tryz.pinned (OpenSpec.ofChange machineToldSpec)

/-- ITS FALSE NEIGHBOUR: 'it returns false'. Refute it at one input. -/
def machineToldWrong : ChangeSpec := { name := "machineTold", fn := fun _ => fun
  | [d1, d2, d3] => { results := [.lit (.bool false)], args := [d1, d2, d3] }
  | _ => none }
def MachineToldWrongFalsely : Prop := machineToldRow.holds Tryz.pinned (OpenSpec.ofChange machineToldWrong)

/-- 'quilletlaw20.MachineKnown': WHATEVER THE INPUT: true; the input reads as it did. -/
def machineKnownSpec : ChangeSpec := { name := "machineKnown", fn := fun _ => fun
  | [] => { results := [.lit (.bool true)], args := [] }
  | _ => none }
def machineKnownRow : OpenClaim := { program := "ytcpekofcmogaeaagreat", sum := "6961033c36aae984cd9017cdb87ab2f91865393f41a21d0d542d62dc81357e9d", func := "quillet/quilletlaw20.MachineKnown", spec := "machineKnown", unfollowed := true, recurses := true, leaving := true, apart := false }
def MachineKnownSaid : Prop := machineKnownRow.holds Tryz.pinned (OpenSpec.ofChange machineKnownSpec)

/-- ITS FALSE NEIGHBOUR: 'it returns false'. Refute it at one input. -/
def machineKnownWrong : ChangeSpec := { name := "machineKnown", fn := fun _ => fun
  | [] => { results := [.lit (.bool false)], args := [] }
  | _ => none }
def MachineKnownWrongFalsely : Prop := machineKnownRow.holds Tryz.pinned (OpenSpec.ofChange machineKnownWrong)

/-- 'quilletlaw20.MachineWaits': WHATEVER THE INPUT: true; the input reads as it did. -/
def machineWaitsSpec : ChangeSpec := { name := "machineWaits", fn := fun _ => fun
  | [d1, d2, d3, d4] => { results := [.lit (.bool true)], args := [d1, d2, d3, d4] }
  | _ => none }
def machineWaitsRow : OpenClaim := { program := "ytcpekofcmogaeaagreat", sum := "6961033c36aae984cd9017cdb87ab2f91865393f41a21d0d542d62dc81357e9d", func := "quillet/quilletlaw20.MachineWaits", spec := "machineWaits", unfollowed := true, recurses := true, leaving := true, apart := false }
def MachineWaitsSaid : Prop := machineWaitsRow.holds Tryz.pinned (OpenSpec.ofChange machineWaitsSpec)

/-- ITS FALSE NEIGHBOUR: 'it returns false'. Refute it at one input. -/
def machineWaitsWrong : ChangeSpec := { name := "machineWaits", fn := fun _ => fun
  | [d1, d2, d3, d4] => { results := [.lit (.bool false)], args := [d1, d2, d3, d4] }
  | _ => none }
def MachineWaitsWrongFalsely : Prop := machineWaitsRow.holds Tryz.pinned (OpenSpec.ofChange machineWaitsWrong)

/-- 'quilletlaw20.MachineDirect': WHATEVER THE INPUT: true; the input reads as it did. -/
def machineDirectSpec : ChangeSpec := { name := "machineDirect", fn := fun _ => fun
  | [d1, d2, d3] => { results := [.lit (.bool true)], args := [d1, d2, d3] }
  | _ => none }
def machineDirectRow : OpenClaim := { program := "ytcpekofcmogaeaagreat", sum := "6961033c36aae984cd9017cdb87ab2f91865393f41a21d0d542d62dc81357e9d", func := "quillet/quilletlaw20.MachineDirect", spec := "machineDirect", unfollowed := true, recurses := true, leaving := true, apart := false }
def MachineDirectSaid : Prop := machineDirectRow.holds Tryz.pinned (OpenSpec.ofChange machineDirectSpec)

/-- ITS FALSE NEIGHBOUR: 'it returns false'. Refute it at one input. -/
def machineDirectWrong : ChangeSpec := { name := "machineDirect", fn := fun _ => fun
  | [d1, d2, d3] => { results := [.lit (.bool false)], args := [d1, d2, d3] }
  | _ => none }
def MachineDirectWrongFalsely : Prop := machineDirectRow.holds Tryz.pinned (OpenSpec.ofChange machineDirectWrong)

/-- 'quilletlaw20.MachineAgain': WHATEVER THE INPUT: true; the input reads as it did. -/
def machineAgainSpec : ChangeSpec := { name := "machineAgain", fn := fun _ => fun
  | [d1, d2, d3] => { results := [.lit (.bool true)], args := [d1, d2, d3] }
  | _ => none }
def machineAgainRow : OpenClaim := { program := "ytcpekofcmogaeaagreat", sum := "6961033c36aae984cd9017cdb87ab2f91865393f41a21d0d542d62dc81357e9d", func := "quillet/quilletlaw20.MachineAgain", spec := "machineAgain", unfollowed := true, recurses := true, leaving := true, apart := false }
def MachineAgainSaid : Prop := machineAgainRow.holds Tryz.pinned (OpenSpec.ofChange machineAgainSpec)

/-- ITS FALSE NEIGHBOUR: 'it returns false'. Refute it at one input. -/
def machineAgainWrong : ChangeSpec := { name := "machineAgain", fn := fun _ => fun
  | [d1, d2, d3] => { results := [.lit (.bool false)], args := [d1, d2, d3] }
  | _ => none }
def MachineAgainWrongFalsely : Prop := machineAgainRow.holds Tryz.pinned (OpenSpec.ofChange machineAgainWrong)

/-- 'quilletlaw20.MachineSplit': WHATEVER THE INPUT: true; the input reads as it did. -/
def machineSplitSpec : ChangeSpec := { name := "machineSplit", fn := fun _ => fun
  | [d1, d2, d3, d4, d5, d6] => { results := [.lit (.bool true)], args := [d1, d2, d3, d4, d5, d6] }
  | _ => none }
def machineSplitRow : OpenClaim := { program := "ytcpekofcmogaeaagreat", sum := "6961033c36aae984cd9017cdb87ab2f91865393f41a21d0d542d62dc81357e9d", func := "quillet/quilletlaw20.MachineSplit", spec := "machineSplit", unfollowed := true, recurses := true, leaving := true, apart := false }
def MachineSplitSaid : Prop := machineSplitRow.holds Tryz.pinned (OpenSpec.ofChange machineSplitSpec)

/-- ITS FALSE NEIGHBOUR: 'it returns false'. Refute it at one input. -/
def machineSplitWrong : ChangeSpec := { name := "machineSplit", fn := fun _ => fun
  | [d1, d2, d3, d4, d5, d6] => { results := [.lit (.bool false)], args := [d1, d2, d3, d4, d5, d6] }
  | _ => none }
def MachineSplitWrongFalsely : Prop := machineSplitRow.holds Tryz.pinned (OpenSpec.ofChange machineSplitWrong)

/- THE SECOND FORM. 'bulk': how many values and letters a reading holds, each counted each time it is reached (what is shared counts as often as it is met; a slice's spare places count too). A statement '..UptoSaid' is the law's where the arguments, and the package variables that the reading takes, are together of bulk at most 1048576: NARROWER than '..Said'. Prove '..Said' where nothing that the law and all that it calls make is longer than what came in: it says more and counts as full. Else prove '..UptoSaid'. A law counts once. -/
mutual
def uptoBulk {H : Type} : DataW H → Nat
  | .lit (.string bytes) => bytes.length + 1
  | .lit _ => 1
  | .nil => 1
  | .ptr d => uptoBulk d + 1
  | .slice elems spare => uptoBulkAll elems + uptoBulkAll spare + 1
  | .agg parts => uptoBulkAll parts + 1
  | .iface _ d => uptoBulk d + 1
  | .map entries => uptoBulkEntries entries + 1
  | .held _ => 1
def uptoBulkAll {H : Type} : List (DataW H) → Nat
  | [] => 0
  | d :: r => uptoBulk d + uptoBulkAll r
def uptoBulkEntries {H : Type} : List (Lit × DataW H) → Nat
  | [] => 0
  | x :: r => uptoBulkEntry x + uptoBulkEntries r
def uptoBulkEntry {H : Type} : Lit × DataW H → Nat
  | (.string bytes, d) => bytes.length + uptoBulk d + 1
  | (_, d) => uptoBulk d + 1
 end
def uptoSmall : (H : Type) → List (DataW H) → Bool := fun _ ds => decide (uptoBulkAll ds ≤ 1048576)
def OpenSpec.upto (s : _root_.Go.ChangeSpec) : _root_.Go.OpenSpec := { _root_.Go.OpenSpec.ofChange s with cond := some uptoSmall }

/-- 'quilletlaw20.MachineTold', WHERE WHAT IT READS IS OF BULK AT MOST 1048576: true; the input reads as it did. -/
def machineToldUptoRow : OpenClaim := { program := "ytcpekofcmogaeaagreat", sum := "6961033c36aae984cd9017cdb87ab2f91865393f41a21d0d542d62dc81357e9d", func := "quillet/quilletlaw20.MachineTold", spec := "machineTold", unfollowed := true, recurses := true, leaving := true, apart := false, narrowed := true }
def MachineToldUptoSaid : Prop := machineToldUptoRow.holds Tryz.pinned (OpenSpec.upto machineToldSpec)

/-- 'quilletlaw20.MachineKnown', WHERE WHAT IT READS IS OF BULK AT MOST 1048576: true; the input reads as it did. -/
def machineKnownUptoRow : OpenClaim := { program := "ytcpekofcmogaeaagreat", sum := "6961033c36aae984cd9017cdb87ab2f91865393f41a21d0d542d62dc81357e9d", func := "quillet/quilletlaw20.MachineKnown", spec := "machineKnown", unfollowed := true, recurses := true, leaving := true, apart := false, narrowed := true }
def MachineKnownUptoSaid : Prop := machineKnownUptoRow.holds Tryz.pinned (OpenSpec.upto machineKnownSpec)

/-- 'quilletlaw20.MachineWaits', WHERE WHAT IT READS IS OF BULK AT MOST 1048576: true; the input reads as it did. -/
def machineWaitsUptoRow : OpenClaim := { program := "ytcpekofcmogaeaagreat", sum := "6961033c36aae984cd9017cdb87ab2f91865393f41a21d0d542d62dc81357e9d", func := "quillet/quilletlaw20.MachineWaits", spec := "machineWaits", unfollowed := true, recurses := true, leaving := true, apart := false, narrowed := true }
def MachineWaitsUptoSaid : Prop := machineWaitsUptoRow.holds Tryz.pinned (OpenSpec.upto machineWaitsSpec)

/-- 'quilletlaw20.MachineDirect', WHERE WHAT IT READS IS OF BULK AT MOST 1048576: true; the input reads as it did. -/
def machineDirectUptoRow : OpenClaim := { program := "ytcpekofcmogaeaagreat", sum := "6961033c36aae984cd9017cdb87ab2f91865393f41a21d0d542d62dc81357e9d", func := "quillet/quilletlaw20.MachineDirect", spec := "machineDirect", unfollowed := true, recurses := true, leaving := true, apart := false, narrowed := true }
def MachineDirectUptoSaid : Prop := machineDirectUptoRow.holds Tryz.pinned (OpenSpec.upto machineDirectSpec)

/-- 'quilletlaw20.MachineAgain', WHERE WHAT IT READS IS OF BULK AT MOST 1048576: true; the input reads as it did. -/
def machineAgainUptoRow : OpenClaim := { program := "ytcpekofcmogaeaagreat", sum := "6961033c36aae984cd9017cdb87ab2f91865393f41a21d0d542d62dc81357e9d", func := "quillet/quilletlaw20.MachineAgain", spec := "machineAgain", unfollowed := true, recurses := true, leaving := true, apart := false, narrowed := true }
def MachineAgainUptoSaid : Prop := machineAgainUptoRow.holds Tryz.pinned (OpenSpec.upto machineAgainSpec)

/-- 'quilletlaw20.MachineSplit', WHERE WHAT IT READS IS OF BULK AT MOST 1048576: true; the input reads as it did. -/
def machineSplitUptoRow : OpenClaim := { program := "ytcpekofcmogaeaagreat", sum := "6961033c36aae984cd9017cdb87ab2f91865393f41a21d0d542d62dc81357e9d", func := "quillet/quilletlaw20.MachineSplit", spec := "machineSplit", unfollowed := true, recurses := true, leaving := true, apart := false, narrowed := true }
def MachineSplitUptoSaid : Prop := machineSplitUptoRow.holds Tryz.pinned (OpenSpec.upto machineSplitSpec)

end Rows
end Go.Proofs.YtcpekofcmogaeaaGreat
