/-
  DERIVED. GIVEN WITH THE SEED: THE CARDS: each row of YtaafndolbdancabGreatDoorRows.lean that lists a variable, with what it lists TIED to the program's text (the seventh form; the later family's looks); each row that meets fmt, with fmt's text TOLD by the authors' own Lean function (tested against real Go, not proved from fmt's source: count such statements apart). THE CARD IS WHAT COUNTS. Prove the row's statement (the work); the ties are given (YtaafndolbdancabGreatDoorTie.lean); close each card by the builder's one call (the guide's Derived/Test/ToyasCard.lean, 'card_holds'). Laid BY PROGRAM, IN A SANDBOX (cutbox-door.mjs). By AI agents, Wed Nov 11 2026. No macro, syntax, notation, axiom, sorry.
-/
import Derived.Test.YtaafndolbdancabGreatDoorRows
import GoSem.ClaimSeven
namespace Go.Proofs.YtaafndolbdancabGreatDoor
namespace Rows

/-- THE TIED CARD OF 'laws.FnPathSet'. -/
def fnPathSetCard : Claim7 := { stood := { row := fnPathSetRow, standIns := [], harness := (true, "030d6750509bc4bcd162d462fd5fbeb5e1927182b8391d7fb1ad98d2924724ae"), looks := false }, kinds := [], alts := [], laidByText := true, laidKinds := [.data, .pinned], laidTests := true, laidLooks := .later }
def FnPathSetCardSaid : Prop := Claim7.holds Tryz.pinned (.plain (OpenSpec.ofChange fnPathSetSpec)) fnPathSetCard

/-- THE TIED CARD OF 'laws.FnValueSize'. -/
def fnValueSizeCard : Claim7 := { stood := { row := fnValueSizeRow, standIns := [], harness := (true, "030d6750509bc4bcd162d462fd5fbeb5e1927182b8391d7fb1ad98d2924724ae"), looks := false }, kinds := [], alts := [], laidByText := true, laidKinds := [.data, .pinned], laidTests := true, laidLooks := .later }
def FnValueSizeCardSaid : Prop := Claim7.holds Tryz.pinned (.plain (OpenSpec.ofChange fnValueSizeSpec)) fnValueSizeCard

/-- THE TIED CARD OF 'laws.FnPathLeaves'. -/
def fnPathLeavesCard : Claim7 := { stood := { row := fnPathLeavesRow, standIns := [], harness := (true, "030d6750509bc4bcd162d462fd5fbeb5e1927182b8391d7fb1ad98d2924724ae"), looks := false }, kinds := [], alts := [], laidByText := true, laidKinds := [.data, .pinned], laidTests := true, laidLooks := .later }
def FnPathLeavesCardSaid : Prop := Claim7.holds Tryz.pinned (.plain (OpenSpec.ofChange fnPathLeavesSpec)) fnPathLeavesCard

/-- THE TIED CARD OF 'laws.FnPathKeeps'. -/
def fnPathKeepsCard : Claim7 := { stood := { row := fnPathKeepsRow, standIns := [], harness := (true, "030d6750509bc4bcd162d462fd5fbeb5e1927182b8391d7fb1ad98d2924724ae"), looks := false }, kinds := [], alts := [], laidByText := true, laidKinds := [.data, .pinned], laidTests := true, laidLooks := .later }
def FnPathKeepsCardSaid : Prop := Claim7.holds Tryz.pinned (.plain (OpenSpec.ofChange fnPathKeepsSpec)) fnPathKeepsCard

/-- THE SECOND FORM's CARD OF 'laws.FnPathSet'. -/
def fnPathSetUptoCard : Claim7 := { stood := { row := fnPathSetUptoRow, standIns := [], harness := (true, "030d6750509bc4bcd162d462fd5fbeb5e1927182b8391d7fb1ad98d2924724ae"), looks := false }, kinds := [], alts := [], laidByText := true, laidKinds := [.data, .pinned], laidTests := true, laidLooks := .later }
def FnPathSetUptoCardSaid : Prop := Claim7.holds Tryz.pinned (.plain (OpenSpec.upto fnPathSetSpec)) fnPathSetUptoCard

/-- THE SECOND FORM's CARD OF 'laws.FnValueSize'. -/
def fnValueSizeUptoCard : Claim7 := { stood := { row := fnValueSizeUptoRow, standIns := [], harness := (true, "030d6750509bc4bcd162d462fd5fbeb5e1927182b8391d7fb1ad98d2924724ae"), looks := false }, kinds := [], alts := [], laidByText := true, laidKinds := [.data, .pinned], laidTests := true, laidLooks := .later }
def FnValueSizeUptoCardSaid : Prop := Claim7.holds Tryz.pinned (.plain (OpenSpec.upto fnValueSizeSpec)) fnValueSizeUptoCard

/-- THE SECOND FORM's CARD OF 'laws.FnPathLeaves'. -/
def fnPathLeavesUptoCard : Claim7 := { stood := { row := fnPathLeavesUptoRow, standIns := [], harness := (true, "030d6750509bc4bcd162d462fd5fbeb5e1927182b8391d7fb1ad98d2924724ae"), looks := false }, kinds := [], alts := [], laidByText := true, laidKinds := [.data, .pinned], laidTests := true, laidLooks := .later }
def FnPathLeavesUptoCardSaid : Prop := Claim7.holds Tryz.pinned (.plain (OpenSpec.upto fnPathLeavesSpec)) fnPathLeavesUptoCard

/-- THE SECOND FORM's CARD OF 'laws.FnPathKeeps'. -/
def fnPathKeepsUptoCard : Claim7 := { stood := { row := fnPathKeepsUptoRow, standIns := [], harness := (true, "030d6750509bc4bcd162d462fd5fbeb5e1927182b8391d7fb1ad98d2924724ae"), looks := false }, kinds := [], alts := [], laidByText := true, laidKinds := [.data, .pinned], laidTests := true, laidLooks := .later }
def FnPathKeepsUptoCardSaid : Prop := Claim7.holds Tryz.pinned (.plain (OpenSpec.upto fnPathKeepsSpec)) fnPathKeepsUptoCard
end Rows
end Go.Proofs.YtaafndolbdancabGreatDoor
