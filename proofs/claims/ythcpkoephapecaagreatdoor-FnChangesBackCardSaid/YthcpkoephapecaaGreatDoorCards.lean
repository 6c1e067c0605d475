/-
  DERIVED. GIVEN WITH THE SEED: THE CARDS: each row of YthcpkoephapecaaGreatDoorRows.lean that lists a variable, with what it lists TIED to the program's text (the seventh form; the later family's looks); each row that meets fmt, with fmt's text TOLD by the authors' own Lean function (tested against real Go, not proved from fmt's source: count such statements apart). THE CARD IS WHAT COUNTS. Prove the row's statement (the work); the ties are given (YthcpkoephapecaaGreatDoorTie.lean); close each card by the builder's one call (the guide's Derived/Test/ToyasCard.lean, 'card_holds'). Laid BY PROGRAM, IN A SANDBOX (cutbox-door.mjs). By AI agents, Wed Nov 11 2026. No macro, syntax, notation, axiom, sorry.
-/
import Derived.Test.YthcpkoephapecaaGreatDoorRows
import GoSem.ClaimSeven
namespace Go.Proofs.YthcpkoephapecaaGreatDoor
namespace Rows

/-- THE TIED CARD OF 'laws.FnExactChangesBack'. -/
def fnExactChangesBackCard : Claim7 := { stood := { row := fnExactChangesBackRow, standIns := [], harness := (true, "89b8229f2466e487127add6703f1343cdb1873f08decc141d5ddeb293b792672"), looks := false }, kinds := [], alts := [], laidByText := true, laidKinds := [.data, .pinned], laidTests := true, laidLooks := .later }
def FnExactChangesBackCardSaid : Prop := Claim7.holds Tryz.pinned (.plain (OpenSpec.ofChange fnExactChangesBackSpec)) fnExactChangesBackCard

/-- THE TIED CARD OF 'laws.FnExactChangesOf'. -/
def fnExactChangesOfCard : Claim7 := { stood := { row := fnExactChangesOfRow, standIns := [], harness := (true, "89b8229f2466e487127add6703f1343cdb1873f08decc141d5ddeb293b792672"), looks := false }, kinds := [], alts := [], laidByText := true, laidKinds := [.data, .pinned], laidTests := true, laidLooks := .later }
def FnExactChangesOfCardSaid : Prop := Claim7.holds Tryz.pinned (.plain (OpenSpec.ofChange fnExactChangesOfSpec)) fnExactChangesOfCard

/-- THE TIED CARD OF 'laws.FnChangesDo'. -/
def fnChangesDoCard : Claim7 := { stood := { row := fnChangesDoRow, standIns := [], harness := (true, "89b8229f2466e487127add6703f1343cdb1873f08decc141d5ddeb293b792672"), looks := false }, kinds := [], alts := [], laidByText := true, laidKinds := [.data, .pinned], laidTests := true, laidLooks := .later }
def FnChangesDoCardSaid : Prop := Claim7.holds Tryz.pinned (.plain (OpenSpec.ofChange fnChangesDoSpec)) fnChangesDoCard

/-- THE TIED CARD OF 'laws.FnChangesOf'. -/
def fnChangesOfCard : Claim7 := { stood := { row := fnChangesOfRow, standIns := [], harness := (true, "89b8229f2466e487127add6703f1343cdb1873f08decc141d5ddeb293b792672"), looks := false }, kinds := [], alts := [], laidByText := true, laidKinds := [.data, .pinned], laidTests := true, laidLooks := .later }
def FnChangesOfCardSaid : Prop := Claim7.holds Tryz.pinned (.plain (OpenSpec.ofChange fnChangesOfSpec)) fnChangesOfCard

/-- THE TIED CARD OF 'laws.FnChangesOrder'. -/
def fnChangesOrderCard : Claim7 := { stood := { row := fnChangesOrderRow, standIns := [], harness := (true, "89b8229f2466e487127add6703f1343cdb1873f08decc141d5ddeb293b792672"), looks := false }, kinds := [], alts := [], laidByText := true, laidKinds := [.data, .pinned], laidTests := true, laidLooks := .later }
def FnChangesOrderCardSaid : Prop := Claim7.holds Tryz.pinned (.plain (OpenSpec.ofChange fnChangesOrderSpec)) fnChangesOrderCard

/-- THE TIED CARD OF 'laws.FnChangesBack'. -/
def fnChangesBackCard : Claim7 := { stood := { row := fnChangesBackRow, standIns := [], harness := (true, "89b8229f2466e487127add6703f1343cdb1873f08decc141d5ddeb293b792672"), looks := false }, kinds := [], alts := [], laidByText := true, laidKinds := [.data, .pinned], laidTests := true, laidLooks := .later }
def FnChangesBackCardSaid : Prop := Claim7.holds Tryz.pinned (.plain (OpenSpec.ofChange fnChangesBackSpec)) fnChangesBackCard

/-- THE SECOND FORM's CARD OF 'laws.FnExactChangesBack'. -/
def fnExactChangesBackUptoCard : Claim7 := { stood := { row := fnExactChangesBackUptoRow, standIns := [], harness := (true, "89b8229f2466e487127add6703f1343cdb1873f08decc141d5ddeb293b792672"), looks := false }, kinds := [], alts := [], laidByText := true, laidKinds := [.data, .pinned], laidTests := true, laidLooks := .later }
def FnExactChangesBackUptoCardSaid : Prop := Claim7.holds Tryz.pinned (.plain (OpenSpec.upto fnExactChangesBackSpec)) fnExactChangesBackUptoCard

/-- THE SECOND FORM's CARD OF 'laws.FnExactChangesOf'. -/
def fnExactChangesOfUptoCard : Claim7 := { stood := { row := fnExactChangesOfUptoRow, standIns := [], harness := (true, "89b8229f2466e487127add6703f1343cdb1873f08decc141d5ddeb293b792672"), looks := false }, kinds := [], alts := [], laidByText := true, laidKinds := [.data, .pinned], laidTests := true, laidLooks := .later }
def FnExactChangesOfUptoCardSaid : Prop := Claim7.holds Tryz.pinned (.plain (OpenSpec.upto fnExactChangesOfSpec)) fnExactChangesOfUptoCard

/-- THE SECOND FORM's CARD OF 'laws.FnChangesDo'. -/
def fnChangesDoUptoCard : Claim7 := { stood := { row := fnChangesDoUptoRow, standIns := [], harness := (true, "89b8229f2466e487127add6703f1343cdb1873f08decc141d5ddeb293b792672"), looks := false }, kinds := [], alts := [], laidByText := true, laidKinds := [.data, .pinned], laidTests := true, laidLooks := .later }
def FnChangesDoUptoCardSaid : Prop := Claim7.holds Tryz.pinned (.plain (OpenSpec.upto fnChangesDoSpec)) fnChangesDoUptoCard

/-- THE SECOND FORM's CARD OF 'laws.FnChangesOf'. -/
def fnChangesOfUptoCard : Claim7 := { stood := { row := fnChangesOfUptoRow, standIns := [], harness := (true, "89b8229f2466e487127add6703f1343cdb1873f08decc141d5ddeb293b792672"), looks := false }, kinds := [], alts := [], laidByText := true, laidKinds := [.data, .pinned], laidTests := true, laidLooks := .later }
def FnChangesOfUptoCardSaid : Prop := Claim7.holds Tryz.pinned (.plain (OpenSpec.upto fnChangesOfSpec)) fnChangesOfUptoCard

/-- THE SECOND FORM's CARD OF 'laws.FnChangesOrder'. -/
def fnChangesOrderUptoCard : Claim7 := { stood := { row := fnChangesOrderUptoRow, standIns := [], harness := (true, "89b8229f2466e487127add6703f1343cdb1873f08decc141d5ddeb293b792672"), looks := false }, kinds := [], alts := [], laidByText := true, laidKinds := [.data, .pinned], laidTests := true, laidLooks := .later }
def FnChangesOrderUptoCardSaid : Prop := Claim7.holds Tryz.pinned (.plain (OpenSpec.upto fnChangesOrderSpec)) fnChangesOrderUptoCard

/-- THE SECOND FORM's CARD OF 'laws.FnChangesBack'. -/
def fnChangesBackUptoCard : Claim7 := { stood := { row := fnChangesBackUptoRow, standIns := [], harness := (true, "89b8229f2466e487127add6703f1343cdb1873f08decc141d5ddeb293b792672"), looks := false }, kinds := [], alts := [], laidByText := true, laidKinds := [.data, .pinned], laidTests := true, laidLooks := .later }
def FnChangesBackUptoCardSaid : Prop := Claim7.holds Tryz.pinned (.plain (OpenSpec.upto fnChangesBackSpec)) fnChangesBackUptoCard
end Rows
end Go.Proofs.YthcpkoephapecaaGreatDoor
