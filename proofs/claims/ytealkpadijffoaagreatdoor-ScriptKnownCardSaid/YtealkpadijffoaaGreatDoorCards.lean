/-
  DERIVED. GIVEN WITH THE SEED: THE CARDS: each row of YtealkpadijffoaaGreatDoorRows.lean that lists a variable, with what it lists TIED to the program's text (the seventh form; the later family's looks); each row that meets fmt, with fmt's text TOLD by the authors' own Lean function (tested against real Go, not proved from fmt's source: count such statements apart). THE CARD IS WHAT COUNTS. Prove the row's statement (the work); the ties are given (YtealkpadijffoaaGreatDoorTie.lean); close each card by the builder's one call (the guide's Derived/Test/ToyasCard.lean, 'card_holds'). Laid BY PROGRAM, IN A SANDBOX (cutbox-door.mjs). By AI agents, Wed Nov 11 2026. No macro, syntax, notation, axiom, sorry.
-/
import Derived.Test.YtealkpadijffoaaGreatDoorRows
import GoSem.ClaimSeven
namespace Go.Proofs.YtealkpadijffoaaGreatDoor
namespace Rows

/-- THE TIED CARD OF 'quilletlaw21.ScriptKnown'. -/
def scriptKnownCard : Claim7 := { stood := { row := scriptKnownRow, standIns := [], harness := (true, "d841691c830aad9f49c4d775ab76b7ac5c15e871304b97b9d7ad6050bb870736"), looks := true }, kinds := [], alts := [], goes := true, laidByText := true, laidKinds := [.data, .data], laidTests := true, laidLooks := .later }
def ScriptKnownCardSaid : Prop := Claim7.holds Tryz.pinned (.plain (OpenSpec.ofChange scriptKnownSpec)) scriptKnownCard

/-- THE TIED CARD OF 'quilletlaw21.ScriptTells'. -/
def scriptTellsCard : Claim7 := { stood := { row := scriptTellsRow, standIns := [], harness := (true, "d841691c830aad9f49c4d775ab76b7ac5c15e871304b97b9d7ad6050bb870736"), looks := true }, kinds := [], alts := [], goes := true, laidByText := true, laidKinds := [.data, .data], laidTests := true, laidLooks := .later }
def ScriptTellsCardSaid : Prop := Claim7.holds Tryz.pinned (.plain (OpenSpec.ofChange scriptTellsSpec)) scriptTellsCard

/-- THE TIED CARD OF 'quilletlaw21.ScriptBack'. -/
def scriptBackCard : Claim7 := { stood := { row := scriptBackRow, standIns := [], harness := (true, "d841691c830aad9f49c4d775ab76b7ac5c15e871304b97b9d7ad6050bb870736"), looks := true }, kinds := [], alts := [], goes := true, laidByText := true, laidKinds := [.data, .data], laidTests := true, laidLooks := .later }
def ScriptBackCardSaid : Prop := Claim7.holds Tryz.pinned (.plain (OpenSpec.ofChange scriptBackSpec)) scriptBackCard

/-- THE SECOND FORM's CARD OF 'quilletlaw21.ScriptKnown'. -/
def scriptKnownUptoCard : Claim7 := { stood := { row := scriptKnownUptoRow, standIns := [], harness := (true, "d841691c830aad9f49c4d775ab76b7ac5c15e871304b97b9d7ad6050bb870736"), looks := true }, kinds := [], alts := [], goes := true, laidByText := true, laidKinds := [.data, .data], laidTests := true, laidLooks := .later }
def ScriptKnownUptoCardSaid : Prop := Claim7.holds Tryz.pinned (.plain (OpenSpec.upto scriptKnownSpec)) scriptKnownUptoCard

/-- THE SECOND FORM's CARD OF 'quilletlaw21.ScriptTells'. -/
def scriptTellsUptoCard : Claim7 := { stood := { row := scriptTellsUptoRow, standIns := [], harness := (true, "d841691c830aad9f49c4d775ab76b7ac5c15e871304b97b9d7ad6050bb870736"), looks := true }, kinds := [], alts := [], goes := true, laidByText := true, laidKinds := [.data, .data], laidTests := true, laidLooks := .later }
def ScriptTellsUptoCardSaid : Prop := Claim7.holds Tryz.pinned (.plain (OpenSpec.upto scriptTellsSpec)) scriptTellsUptoCard

/-- THE SECOND FORM's CARD OF 'quilletlaw21.ScriptBack'. -/
def scriptBackUptoCard : Claim7 := { stood := { row := scriptBackUptoRow, standIns := [], harness := (true, "d841691c830aad9f49c4d775ab76b7ac5c15e871304b97b9d7ad6050bb870736"), looks := true }, kinds := [], alts := [], goes := true, laidByText := true, laidKinds := [.data, .data], laidTests := true, laidLooks := .later }
def ScriptBackUptoCardSaid : Prop := Claim7.holds Tryz.pinned (.plain (OpenSpec.upto scriptBackSpec)) scriptBackUptoCard
end Rows
end Go.Proofs.YtealkpadijffoaaGreatDoor
