/-
  DERIVED. GIVEN WITH THE SEED: THE CARDS: each row of YtladnpnemcdngaaGreatDoorRows.lean that lists a variable, with what it lists TIED to the program's text (the seventh form; the later family's looks); each row that meets fmt, with fmt's text TOLD by the authors' own Lean function (tested against real Go, not proved from fmt's source: count such statements apart). THE CARD IS WHAT COUNTS. Prove the row's statement (the work); the ties are given (YtladnpnemcdngaaGreatDoorTie.lean); close each card by the builder's one call (the guide's Derived/Test/ToyasCard.lean, 'card_holds'). Laid BY PROGRAM, IN A SANDBOX (cutbox-door.mjs). By AI agents, Wed Nov 11 2026. No macro, syntax, notation, axiom, sorry.
-/
import Derived.Test.YtladnpnemcdngaaGreatDoorRows
import GoSem.ClaimSeven
namespace Go.Proofs.YtladnpnemcdngaaGreatDoor
namespace Rows

/-- THE TIED CARD OF 'laws.FnExactValueSize'. -/
def fnExactValueSizeCard : Claim7 := { stood := { row := fnExactValueSizeRow, standIns := [], harness := (true, "11132928418100aee4c7b45e0230eeb477e0b660e977cfe626c82baa4a5c9a0e"), looks := false }, kinds := [], alts := [], laidByText := true, laidKinds := [.data, .pinned], laidTests := true, laidLooks := .later }
def FnExactValueSizeCardSaid : Prop := Claim7.holds Tryz.pinned (.plain (OpenSpec.ofChange fnExactValueSizeSpec)) fnExactValueSizeCard

/-- THE SECOND FORM's CARD OF 'laws.FnExactValueSize'. -/
def fnExactValueSizeUptoCard : Claim7 := { stood := { row := fnExactValueSizeUptoRow, standIns := [], harness := (true, "11132928418100aee4c7b45e0230eeb477e0b660e977cfe626c82baa4a5c9a0e"), looks := false }, kinds := [], alts := [], laidByText := true, laidKinds := [.data, .pinned], laidTests := true, laidLooks := .later }
def FnExactValueSizeUptoCardSaid : Prop := Claim7.holds Tryz.pinned (.plain (OpenSpec.upto fnExactValueSizeSpec)) fnExactValueSizeUptoCard
end Rows
end Go.Proofs.YtladnpnemcdngaaGreatDoor
