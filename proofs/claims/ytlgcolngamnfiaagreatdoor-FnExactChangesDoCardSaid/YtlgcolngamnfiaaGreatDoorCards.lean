/-
  DERIVED. GIVEN WITH THE SEED: THE CARDS: each row of YtlgcolngamnfiaaGreatDoorRows.lean that lists a variable, with what it lists TIED to the program's text (the seventh form; the later family's looks); each row that meets fmt, with fmt's text TOLD by the authors' own Lean function (tested against real Go, not proved from fmt's source: count such statements apart). THE CARD IS WHAT COUNTS. Prove the row's statement (the work); the ties are given (YtlgcolngamnfiaaGreatDoorTie.lean); close each card by the builder's one call (the guide's Derived/Test/ToyasCard.lean, 'card_holds'). Laid BY PROGRAM, IN A SANDBOX (cutbox-door.mjs). By AI agents, Wed Nov 11 2026. No macro, syntax, notation, axiom, sorry.
-/
import Derived.Test.YtlgcolngamnfiaaGreatDoorRows
import GoSem.ClaimSeven
namespace Go.Proofs.YtlgcolngamnfiaaGreatDoor
namespace Rows

/-- THE TIED CARD OF 'laws.FnExactCallPut'. -/
def fnExactCallPutCard : Claim7 := { stood := { row := fnExactCallPutRow, standIns := [], harness := (true, "b25fc27c3f1fa92e8b05dfd43fb8df8c3d3f4c8ed3bd1c4a0b486f55a35e43b9"), looks := false }, kinds := [], alts := [], laidByText := true, laidKinds := [.data, .pinned], laidTests := true, laidLooks := .later }
def FnExactCallPutCardSaid : Prop := Claim7.holds Tryz.pinned (.plain (OpenSpec.ofChange fnExactCallPutSpec)) fnExactCallPutCard

/-- THE TIED CARD OF 'laws.FnExactAnswerPut'. -/
def fnExactAnswerPutCard : Claim7 := { stood := { row := fnExactAnswerPutRow, standIns := [], harness := (true, "b25fc27c3f1fa92e8b05dfd43fb8df8c3d3f4c8ed3bd1c4a0b486f55a35e43b9"), looks := false }, kinds := [], alts := [], laidByText := true, laidKinds := [.data, .pinned], laidTests := true, laidLooks := .later }
def FnExactAnswerPutCardSaid : Prop := Claim7.holds Tryz.pinned (.plain (OpenSpec.ofChange fnExactAnswerPutSpec)) fnExactAnswerPutCard

/-- THE TIED CARD OF 'laws.FnExactChangesDo'. -/
def fnExactChangesDoCard : Claim7 := { stood := { row := fnExactChangesDoRow, standIns := [], harness := (true, "b25fc27c3f1fa92e8b05dfd43fb8df8c3d3f4c8ed3bd1c4a0b486f55a35e43b9"), looks := false }, kinds := [], alts := [], laidByText := true, laidKinds := [.data, .pinned], laidTests := true, laidLooks := .later }
def FnExactChangesDoCardSaid : Prop := Claim7.holds Tryz.pinned (.plain (OpenSpec.ofChange fnExactChangesDoSpec)) fnExactChangesDoCard

/-- THE TIED CARD OF 'laws.FnExactChangesBack'. -/
def fnExactChangesBackCard : Claim7 := { stood := { row := fnExactChangesBackRow, standIns := [], harness := (true, "b25fc27c3f1fa92e8b05dfd43fb8df8c3d3f4c8ed3bd1c4a0b486f55a35e43b9"), looks := false }, kinds := [], alts := [], laidByText := true, laidKinds := [.data, .pinned], laidTests := true, laidLooks := .later }
def FnExactChangesBackCardSaid : Prop := Claim7.holds Tryz.pinned (.plain (OpenSpec.ofChange fnExactChangesBackSpec)) fnExactChangesBackCard

/-- THE TIED CARD OF 'laws.FnExactKeyBack'. -/
def fnExactKeyBackCard : Claim7 := { stood := { row := fnExactKeyBackRow, standIns := [], harness := (true, "b25fc27c3f1fa92e8b05dfd43fb8df8c3d3f4c8ed3bd1c4a0b486f55a35e43b9"), looks := false }, kinds := [], alts := [], laidByText := true, laidKinds := [.data, .pinned], laidTests := true, laidLooks := .later }
def FnExactKeyBackCardSaid : Prop := Claim7.holds Tryz.pinned (.plain (OpenSpec.ofChange fnExactKeyBackSpec)) fnExactKeyBackCard

/-- THE SECOND FORM's CARD OF 'laws.FnExactCallPut'. -/
def fnExactCallPutUptoCard : Claim7 := { stood := { row := fnExactCallPutUptoRow, standIns := [], harness := (true, "b25fc27c3f1fa92e8b05dfd43fb8df8c3d3f4c8ed3bd1c4a0b486f55a35e43b9"), looks := false }, kinds := [], alts := [], laidByText := true, laidKinds := [.data, .pinned], laidTests := true, laidLooks := .later }
def FnExactCallPutUptoCardSaid : Prop := Claim7.holds Tryz.pinned (.plain (OpenSpec.upto fnExactCallPutSpec)) fnExactCallPutUptoCard

/-- THE SECOND FORM's CARD OF 'laws.FnExactAnswerPut'. -/
def fnExactAnswerPutUptoCard : Claim7 := { stood := { row := fnExactAnswerPutUptoRow, standIns := [], harness := (true, "b25fc27c3f1fa92e8b05dfd43fb8df8c3d3f4c8ed3bd1c4a0b486f55a35e43b9"), looks := false }, kinds := [], alts := [], laidByText := true, laidKinds := [.data, .pinned], laidTests := true, laidLooks := .later }
def FnExactAnswerPutUptoCardSaid : Prop := Claim7.holds Tryz.pinned (.plain (OpenSpec.upto fnExactAnswerPutSpec)) fnExactAnswerPutUptoCard

/-- THE SECOND FORM's CARD OF 'laws.FnExactChangesDo'. -/
def fnExactChangesDoUptoCard : Claim7 := { stood := { row := fnExactChangesDoUptoRow, standIns := [], harness := (true, "b25fc27c3f1fa92e8b05dfd43fb8df8c3d3f4c8ed3bd1c4a0b486f55a35e43b9"), looks := false }, kinds := [], alts := [], laidByText := true, laidKinds := [.data, .pinned], laidTests := true, laidLooks := .later }
def FnExactChangesDoUptoCardSaid : Prop := Claim7.holds Tryz.pinned (.plain (OpenSpec.upto fnExactChangesDoSpec)) fnExactChangesDoUptoCard

/-- THE SECOND FORM's CARD OF 'laws.FnExactChangesBack'. -/
def fnExactChangesBackUptoCard : Claim7 := { stood := { row := fnExactChangesBackUptoRow, standIns := [], harness := (true, "b25fc27c3f1fa92e8b05dfd43fb8df8c3d3f4c8ed3bd1c4a0b486f55a35e43b9"), looks := false }, kinds := [], alts := [], laidByText := true, laidKinds := [.data, .pinned], laidTests := true, laidLooks := .later }
def FnExactChangesBackUptoCardSaid : Prop := Claim7.holds Tryz.pinned (.plain (OpenSpec.upto fnExactChangesBackSpec)) fnExactChangesBackUptoCard

/-- THE SECOND FORM's CARD OF 'laws.FnExactKeyBack'. -/
def fnExactKeyBackUptoCard : Claim7 := { stood := { row := fnExactKeyBackUptoRow, standIns := [], harness := (true, "b25fc27c3f1fa92e8b05dfd43fb8df8c3d3f4c8ed3bd1c4a0b486f55a35e43b9"), looks := false }, kinds := [], alts := [], laidByText := true, laidKinds := [.data, .pinned], laidTests := true, laidLooks := .later }
def FnExactKeyBackUptoCardSaid : Prop := Claim7.holds Tryz.pinned (.plain (OpenSpec.upto fnExactKeyBackSpec)) fnExactKeyBackUptoCard
end Rows
end Go.Proofs.YtlgcolngamnfiaaGreatDoor
