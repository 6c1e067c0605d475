/-
  DERIVED. GIVEN WITH THE SEED: THE CARDS: each row of YtaafndolbdancaaGreatDoorRows.lean that lists a variable, with what it lists TIED to the program's text (the seventh form; the later family's looks); each row that meets fmt, with fmt's text TOLD by the authors' own Lean function (tested against real Go, not proved from fmt's source: count such statements apart). THE CARD IS WHAT COUNTS. Prove the row's statement (the work); the ties are given (YtaafndolbdancaaGreatDoorTie.lean); close each card by the builder's one call (the guide's Derived/Test/ToyasCard.lean, 'card_holds'). Laid BY PROGRAM, IN A SANDBOX (cutbox-door.mjs). By AI agents, Wed Nov 11 2026. No macro, syntax, notation, axiom, sorry.
-/
import Derived.Test.YtaafndolbdancaaGreatDoorRows
import GoSem.ClaimSeven
namespace Go.Proofs.YtaafndolbdancaaGreatDoor
namespace Rows

/-- THE TIED CARD OF 'laws.FnExactKeyBack'. -/
def fnExactKeyBackCard : Claim7 := { stood := { row := fnExactKeyBackRow, standIns := [], harness := (true, "5e99d077231720791d2c4ab0dc81693f4d09733b8ebc9abc5771988eecba7a23"), looks := false }, kinds := [], alts := [], laidByText := true, laidKinds := [.data, .pinned], laidTests := true, laidLooks := .later }
def FnExactKeyBackCardSaid : Prop := Claim7.holds Tryz.pinned (.plain (OpenSpec.ofChange fnExactKeyBackSpec)) fnExactKeyBackCard

/-- THE TIED CARD OF 'laws.FnKeyOf'. -/
def fnKeyOfCard : Claim7 := { stood := { row := fnKeyOfRow, standIns := [], harness := (true, "5e99d077231720791d2c4ab0dc81693f4d09733b8ebc9abc5771988eecba7a23"), looks := false }, kinds := [], alts := [], laidByText := true, laidKinds := [.data, .pinned], laidTests := true, laidLooks := .later }
def FnKeyOfCardSaid : Prop := Claim7.holds Tryz.pinned (.plain (OpenSpec.ofChange fnKeyOfSpec)) fnKeyOfCard

/-- THE TIED CARD OF 'laws.FnKeyBack'. -/
def fnKeyBackCard : Claim7 := { stood := { row := fnKeyBackRow, standIns := [], harness := (true, "5e99d077231720791d2c4ab0dc81693f4d09733b8ebc9abc5771988eecba7a23"), looks := false }, kinds := [], alts := [], laidByText := true, laidKinds := [.data, .pinned], laidTests := true, laidLooks := .later }
def FnKeyBackCardSaid : Prop := Claim7.holds Tryz.pinned (.plain (OpenSpec.ofChange fnKeyBackSpec)) fnKeyBackCard

/-- THE TIED CARD OF 'laws.FnPathGet'. -/
def fnPathGetCard : Claim7 := { stood := { row := fnPathGetRow, standIns := [], harness := (true, "5e99d077231720791d2c4ab0dc81693f4d09733b8ebc9abc5771988eecba7a23"), looks := false }, kinds := [], alts := [], laidByText := true, laidKinds := [.data, .pinned], laidTests := true, laidLooks := .later }
def FnPathGetCardSaid : Prop := Claim7.holds Tryz.pinned (.plain (OpenSpec.ofChange fnPathGetSpec)) fnPathGetCard

/-- THE TIED CARD OF 'laws.FnPathTwo'. -/
def fnPathTwoCard : Claim7 := { stood := { row := fnPathTwoRow, standIns := [], harness := (true, "5e99d077231720791d2c4ab0dc81693f4d09733b8ebc9abc5771988eecba7a23"), looks := false }, kinds := [], alts := [], laidByText := true, laidKinds := [.data, .pinned], laidTests := true, laidLooks := .later }
def FnPathTwoCardSaid : Prop := Claim7.holds Tryz.pinned (.plain (OpenSpec.ofChange fnPathTwoSpec)) fnPathTwoCard

/-- THE SECOND FORM's CARD OF 'laws.FnExactKeyBack'. -/
def fnExactKeyBackUptoCard : Claim7 := { stood := { row := fnExactKeyBackUptoRow, standIns := [], harness := (true, "5e99d077231720791d2c4ab0dc81693f4d09733b8ebc9abc5771988eecba7a23"), looks := false }, kinds := [], alts := [], laidByText := true, laidKinds := [.data, .pinned], laidTests := true, laidLooks := .later }
def FnExactKeyBackUptoCardSaid : Prop := Claim7.holds Tryz.pinned (.plain (OpenSpec.upto fnExactKeyBackSpec)) fnExactKeyBackUptoCard

/-- THE SECOND FORM's CARD OF 'laws.FnKeyOf'. -/
def fnKeyOfUptoCard : Claim7 := { stood := { row := fnKeyOfUptoRow, standIns := [], harness := (true, "5e99d077231720791d2c4ab0dc81693f4d09733b8ebc9abc5771988eecba7a23"), looks := false }, kinds := [], alts := [], laidByText := true, laidKinds := [.data, .pinned], laidTests := true, laidLooks := .later }
def FnKeyOfUptoCardSaid : Prop := Claim7.holds Tryz.pinned (.plain (OpenSpec.upto fnKeyOfSpec)) fnKeyOfUptoCard

/-- THE SECOND FORM's CARD OF 'laws.FnKeyBack'. -/
def fnKeyBackUptoCard : Claim7 := { stood := { row := fnKeyBackUptoRow, standIns := [], harness := (true, "5e99d077231720791d2c4ab0dc81693f4d09733b8ebc9abc5771988eecba7a23"), looks := false }, kinds := [], alts := [], laidByText := true, laidKinds := [.data, .pinned], laidTests := true, laidLooks := .later }
def FnKeyBackUptoCardSaid : Prop := Claim7.holds Tryz.pinned (.plain (OpenSpec.upto fnKeyBackSpec)) fnKeyBackUptoCard

/-- THE SECOND FORM's CARD OF 'laws.FnPathGet'. -/
def fnPathGetUptoCard : Claim7 := { stood := { row := fnPathGetUptoRow, standIns := [], harness := (true, "5e99d077231720791d2c4ab0dc81693f4d09733b8ebc9abc5771988eecba7a23"), looks := false }, kinds := [], alts := [], laidByText := true, laidKinds := [.data, .pinned], laidTests := true, laidLooks := .later }
def FnPathGetUptoCardSaid : Prop := Claim7.holds Tryz.pinned (.plain (OpenSpec.upto fnPathGetSpec)) fnPathGetUptoCard

/-- THE SECOND FORM's CARD OF 'laws.FnPathTwo'. -/
def fnPathTwoUptoCard : Claim7 := { stood := { row := fnPathTwoUptoRow, standIns := [], harness := (true, "5e99d077231720791d2c4ab0dc81693f4d09733b8ebc9abc5771988eecba7a23"), looks := false }, kinds := [], alts := [], laidByText := true, laidKinds := [.data, .pinned], laidTests := true, laidLooks := .later }
def FnPathTwoUptoCardSaid : Prop := Claim7.holds Tryz.pinned (.plain (OpenSpec.upto fnPathTwoSpec)) fnPathTwoUptoCard
end Rows
end Go.Proofs.YtaafndolbdancaaGreatDoor
