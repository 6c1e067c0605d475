/-
  DERIVED. GIVEN WITH THE SEED: THE CARDS: each row of YtglhncibfmhblaaGreatDoorRows.lean that lists a variable, with what it lists TIED to the program's text (the seventh form; the later family's looks); each row that meets fmt, with fmt's text TOLD by the authors' own Lean function (tested against real Go, not proved from fmt's source: count such statements apart). THE CARD IS WHAT COUNTS. Prove the row's statement (the work); the ties are given (YtglhncibfmhblaaGreatDoorTie.lean); close each card by the builder's one call (the guide's Derived/Test/ToyasCard.lean, 'card_holds'). Laid BY PROGRAM, IN A SANDBOX (cutbox-door.mjs). By AI agents, Wed Nov 11 2026. No macro, syntax, notation, axiom, sorry.
-/
import Derived.Test.YtglhncibfmhblaaGreatDoorRows
import GoSem.ClaimSeven
namespace Go.Proofs.YtglhncibfmhblaaGreatDoor
namespace Rows

/-- THE TIED CARD OF 'laws.FnExactChangesOf'. -/
def fnExactChangesOfCard : Claim7 := { stood := { row := fnExactChangesOfRow, standIns := [], harness := (true, "11af6f3dfd921c5f7f1cbd45097f84080d4b7f24813fefbbb9e33a6ca039ead8"), looks := false }, kinds := [], alts := [], laidByText := true, laidKinds := [.data, .pinned], laidTests := true, laidLooks := .later }
def FnExactChangesOfCardSaid : Prop := Claim7.holds Tryz.pinned (.plain (OpenSpec.ofChange fnExactChangesOfSpec)) fnExactChangesOfCard

/-- THE TIED CARD OF 'laws.FnChangesOf'. -/
def fnChangesOfCard : Claim7 := { stood := { row := fnChangesOfRow, standIns := [], harness := (true, "11af6f3dfd921c5f7f1cbd45097f84080d4b7f24813fefbbb9e33a6ca039ead8"), looks := false }, kinds := [], alts := [], laidByText := true, laidKinds := [.data, .pinned], laidTests := true, laidLooks := .later }
def FnChangesOfCardSaid : Prop := Claim7.holds Tryz.pinned (.plain (OpenSpec.ofChange fnChangesOfSpec)) fnChangesOfCard

/-- THE TIED CARD OF 'laws.FnChangesOrder'. -/
def fnChangesOrderCard : Claim7 := { stood := { row := fnChangesOrderRow, standIns := [], harness := (true, "11af6f3dfd921c5f7f1cbd45097f84080d4b7f24813fefbbb9e33a6ca039ead8"), looks := false }, kinds := [], alts := [], laidByText := true, laidKinds := [.data, .pinned], laidTests := true, laidLooks := .later }
def FnChangesOrderCardSaid : Prop := Claim7.holds Tryz.pinned (.plain (OpenSpec.ofChange fnChangesOrderSpec)) fnChangesOrderCard

/-- THE TIED CARD OF 'laws.FnServiceReads'. -/
def fnServiceReadsCard : Claim7 := { stood := { row := fnServiceReadsRow, standIns := [], harness := (true, "11af6f3dfd921c5f7f1cbd45097f84080d4b7f24813fefbbb9e33a6ca039ead8"), looks := false }, kinds := [], alts := [], laidByText := true, laidKinds := [.data, .pinned], laidTests := true, laidLooks := .later }
def FnServiceReadsCardSaid : Prop := Claim7.holds Tryz.pinned (.plain (OpenSpec.ofChange fnServiceReadsSpec)) fnServiceReadsCard

/-- THE SECOND FORM's CARD OF 'laws.FnExactChangesOf'. -/
def fnExactChangesOfUptoCard : Claim7 := { stood := { row := fnExactChangesOfUptoRow, standIns := [], harness := (true, "11af6f3dfd921c5f7f1cbd45097f84080d4b7f24813fefbbb9e33a6ca039ead8"), looks := false }, kinds := [], alts := [], laidByText := true, laidKinds := [.data, .pinned], laidTests := true, laidLooks := .later }
def FnExactChangesOfUptoCardSaid : Prop := Claim7.holds Tryz.pinned (.plain (OpenSpec.upto fnExactChangesOfSpec)) fnExactChangesOfUptoCard

/-- THE SECOND FORM's CARD OF 'laws.FnChangesOf'. -/
def fnChangesOfUptoCard : Claim7 := { stood := { row := fnChangesOfUptoRow, standIns := [], harness := (true, "11af6f3dfd921c5f7f1cbd45097f84080d4b7f24813fefbbb9e33a6ca039ead8"), looks := false }, kinds := [], alts := [], laidByText := true, laidKinds := [.data, .pinned], laidTests := true, laidLooks := .later }
def FnChangesOfUptoCardSaid : Prop := Claim7.holds Tryz.pinned (.plain (OpenSpec.upto fnChangesOfSpec)) fnChangesOfUptoCard

/-- THE SECOND FORM's CARD OF 'laws.FnChangesOrder'. -/
def fnChangesOrderUptoCard : Claim7 := { stood := { row := fnChangesOrderUptoRow, standIns := [], harness := (true, "11af6f3dfd921c5f7f1cbd45097f84080d4b7f24813fefbbb9e33a6ca039ead8"), looks := false }, kinds := [], alts := [], laidByText := true, laidKinds := [.data, .pinned], laidTests := true, laidLooks := .later }
def FnChangesOrderUptoCardSaid : Prop := Claim7.holds Tryz.pinned (.plain (OpenSpec.upto fnChangesOrderSpec)) fnChangesOrderUptoCard

/-- THE SECOND FORM's CARD OF 'laws.FnServiceReads'. -/
def fnServiceReadsUptoCard : Claim7 := { stood := { row := fnServiceReadsUptoRow, standIns := [], harness := (true, "11af6f3dfd921c5f7f1cbd45097f84080d4b7f24813fefbbb9e33a6ca039ead8"), looks := false }, kinds := [], alts := [], laidByText := true, laidKinds := [.data, .pinned], laidTests := true, laidLooks := .later }
def FnServiceReadsUptoCardSaid : Prop := Claim7.holds Tryz.pinned (.plain (OpenSpec.upto fnServiceReadsSpec)) fnServiceReadsUptoCard
end Rows
end Go.Proofs.YtglhncibfmhblaaGreatDoor
