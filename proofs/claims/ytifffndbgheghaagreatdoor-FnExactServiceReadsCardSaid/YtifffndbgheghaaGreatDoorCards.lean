/-
  DERIVED. GIVEN WITH THE SEED: THE CARDS: each row of YtifffndbgheghaaGreatDoorRows.lean that lists a variable, with what it lists TIED to the program's text (the seventh form; the later family's looks); each row that meets fmt, with fmt's text TOLD by the authors' own Lean function (tested against real Go, not proved from fmt's source: count such statements apart). THE CARD IS WHAT COUNTS. Prove the row's statement (the work); the ties are given (YtifffndbgheghaaGreatDoorTie.lean); close each card by the builder's one call (the guide's Derived/Test/ToyasCard.lean, 'card_holds'). Laid BY PROGRAM, IN A SANDBOX (cutbox-door.mjs). By AI agents, Wed Nov 11 2026. No macro, syntax, notation, axiom, sorry.
-/
import Derived.Test.YtifffndbgheghaaGreatDoorRows
import GoSem.ClaimSeven
namespace Go.Proofs.YtifffndbgheghaaGreatDoor
namespace Rows

/-- THE TIED CARD OF 'laws.FnExactServiceReads'. -/
def fnExactServiceReadsCard : Claim7 := { stood := { row := fnExactServiceReadsRow, standIns := [], harness := (true, "3e6ab076f4eb399363299dc7a5fc446b58ed347c2aeadb45e0ae16817b1d810f"), looks := false }, kinds := [], alts := [], laidByText := true, laidKinds := [.data, .pinned], laidTests := true, laidLooks := .later }
def FnExactServiceReadsCardSaid : Prop := Claim7.holds Tryz.pinned (.plain (OpenSpec.ofChange fnExactServiceReadsSpec)) fnExactServiceReadsCard

/-- THE SECOND FORM's CARD OF 'laws.FnExactServiceReads'. -/
def fnExactServiceReadsUptoCard : Claim7 := { stood := { row := fnExactServiceReadsUptoRow, standIns := [], harness := (true, "3e6ab076f4eb399363299dc7a5fc446b58ed347c2aeadb45e0ae16817b1d810f"), looks := false }, kinds := [], alts := [], laidByText := true, laidKinds := [.data, .pinned], laidTests := true, laidLooks := .later }
def FnExactServiceReadsUptoCardSaid : Prop := Claim7.holds Tryz.pinned (.plain (OpenSpec.upto fnExactServiceReadsSpec)) fnExactServiceReadsUptoCard
end Rows
end Go.Proofs.YtifffndbgheghaaGreatDoor
