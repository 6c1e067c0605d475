/-
  DERIVED. GIVEN WITH THE SEED: THE CARDS: each row of YtaafndolbdancabDoorRows.lean that lists a variable, with what it lists TIED to the program's text (the seventh form; the later family's looks); each row that meets fmt, with fmt's text TOLD by the authors' own Lean function (tested against real Go, not proved from fmt's source: count such statements apart). THE CARD IS WHAT COUNTS. Prove the row's statement (the work); the ties are given (YtaafndolbdancabDoorTie.lean); close each card by the builder's one call (the guide's Derived/Test/ToyasCard.lean, 'card_holds'). Laid BY PROGRAM, IN A SANDBOX (cutbox-door.mjs). By AI agents, Wed Nov 11 2026. No macro, syntax, notation, axiom, sorry.
-/
import Derived.Test.YtaafndolbdancabDoorRows
import GoSem.ClaimSeven
namespace Go.Proofs.YtaafndolbdancabDoor
namespace Rows

/-- THE TIED CARD OF 'laws.FnServiceOk'. -/
def fnServiceOkCard : Claim7 := { stood := { row := fnServiceOkRow, standIns := [], harness := (true, "add5cc3d42e9f621fbd217465c6762fbc03c740f67b87cbb8eea57ca2c0cd4a4"), looks := false }, kinds := [], alts := [], laidByText := true, laidKinds := [.data, .pinned], laidTests := true, laidLooks := .later }
def FnServiceOkCardSaid : Prop := Claim7.holds Tryd.pinned (.plain (OpenSpec.ofChange fnServiceOkSpec)) fnServiceOkCard

/-- THE SECOND FORM's CARD OF 'laws.FnServiceOk'. -/
def fnServiceOkUptoCard : Claim7 := { stood := { row := fnServiceOkUptoRow, standIns := [], harness := (true, "add5cc3d42e9f621fbd217465c6762fbc03c740f67b87cbb8eea57ca2c0cd4a4"), looks := false }, kinds := [], alts := [], laidByText := true, laidKinds := [.data, .pinned], laidTests := true, laidLooks := .later }
def FnServiceOkUptoCardSaid : Prop := Claim7.holds Tryd.pinned (.plain (OpenSpec.upto fnServiceOkSpec)) fnServiceOkUptoCard
end Rows
end Go.Proofs.YtaafndolbdancabDoor
