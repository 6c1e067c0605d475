/-
  DERIVED. GIVEN WITH THE SEED: THE CARDS: each row of YtglhncibfmhblabGreatDoorRows.lean that lists a variable, with what it lists TIED to the program's text (the seventh form; the later family's looks); each row that meets fmt, with fmt's text TOLD by the authors' own Lean function (tested against real Go, not proved from fmt's source: count such statements apart). THE CARD IS WHAT COUNTS. Prove the row's statement (the work); the ties are given (YtglhncibfmhblabGreatDoorTie.lean); close each card by the builder's one call (the guide's Derived/Test/ToyasCard.lean, 'card_holds'). Laid BY PROGRAM, IN A SANDBOX (cutbox-door.mjs). By AI agents, Wed Nov 11 2026. No macro, syntax, notation, axiom, sorry.
-/
import Derived.Test.YtglhncibfmhblabGreatDoorRows
import GoSem.ClaimSeven
namespace Go.Proofs.YtglhncibfmhblabGreatDoor
namespace Rows

/-- THE TIED CARD OF 'laws.FnExactPathBytes'. -/
def fnExactPathBytesCard : Claim7 := { stood := { row := fnExactPathBytesRow, standIns := [], harness := (true, "b8c8434414495bbe44441ce6b5540114ed921d8259f591b83d6e4c063dcea19e"), looks := false }, kinds := [], alts := [], laidByText := true, laidKinds := [.data, .pinned], laidTests := true, laidLooks := .later }
def FnExactPathBytesCardSaid : Prop := Claim7.holds Tryz.pinned (.plain (OpenSpec.ofChange fnExactPathBytesSpec)) fnExactPathBytesCard

/-- THE TIED CARD OF 'laws.FnExactSealGet'. -/
def fnExactSealGetCard : Claim7 := { stood := { row := fnExactSealGetRow, standIns := [], harness := (true, "b8c8434414495bbe44441ce6b5540114ed921d8259f591b83d6e4c063dcea19e"), looks := false }, kinds := [], alts := [], laidByText := true, laidKinds := [.data, .pinned], laidTests := true, laidLooks := .later }
def FnExactSealGetCardSaid : Prop := Claim7.holds Tryz.pinned (.plain (OpenSpec.ofChange fnExactSealGetSpec)) fnExactSealGetCard

/-- THE TIED CARD OF 'laws.FnExactCallGet'. -/
def fnExactCallGetCard : Claim7 := { stood := { row := fnExactCallGetRow, standIns := [], harness := (true, "b8c8434414495bbe44441ce6b5540114ed921d8259f591b83d6e4c063dcea19e"), looks := false }, kinds := [], alts := [], laidByText := true, laidKinds := [.data, .pinned], laidTests := true, laidLooks := .later }
def FnExactCallGetCardSaid : Prop := Claim7.holds Tryz.pinned (.plain (OpenSpec.ofChange fnExactCallGetSpec)) fnExactCallGetCard

/-- THE TIED CARD OF 'laws.FnExactAnswerGet'. -/
def fnExactAnswerGetCard : Claim7 := { stood := { row := fnExactAnswerGetRow, standIns := [], harness := (true, "b8c8434414495bbe44441ce6b5540114ed921d8259f591b83d6e4c063dcea19e"), looks := false }, kinds := [], alts := [], laidByText := true, laidKinds := [.data, .pinned], laidTests := true, laidLooks := .later }
def FnExactAnswerGetCardSaid : Prop := Claim7.holds Tryz.pinned (.plain (OpenSpec.ofChange fnExactAnswerGetSpec)) fnExactAnswerGetCard

/-- THE SECOND FORM's CARD OF 'laws.FnExactPathBytes'. -/
def fnExactPathBytesUptoCard : Claim7 := { stood := { row := fnExactPathBytesUptoRow, standIns := [], harness := (true, "b8c8434414495bbe44441ce6b5540114ed921d8259f591b83d6e4c063dcea19e"), looks := false }, kinds := [], alts := [], laidByText := true, laidKinds := [.data, .pinned], laidTests := true, laidLooks := .later }
def FnExactPathBytesUptoCardSaid : Prop := Claim7.holds Tryz.pinned (.plain (OpenSpec.upto fnExactPathBytesSpec)) fnExactPathBytesUptoCard

/-- THE SECOND FORM's CARD OF 'laws.FnExactSealGet'. -/
def fnExactSealGetUptoCard : Claim7 := { stood := { row := fnExactSealGetUptoRow, standIns := [], harness := (true, "b8c8434414495bbe44441ce6b5540114ed921d8259f591b83d6e4c063dcea19e"), looks := false }, kinds := [], alts := [], laidByText := true, laidKinds := [.data, .pinned], laidTests := true, laidLooks := .later }
def FnExactSealGetUptoCardSaid : Prop := Claim7.holds Tryz.pinned (.plain (OpenSpec.upto fnExactSealGetSpec)) fnExactSealGetUptoCard

/-- THE SECOND FORM's CARD OF 'laws.FnExactCallGet'. -/
def fnExactCallGetUptoCard : Claim7 := { stood := { row := fnExactCallGetUptoRow, standIns := [], harness := (true, "b8c8434414495bbe44441ce6b5540114ed921d8259f591b83d6e4c063dcea19e"), looks := false }, kinds := [], alts := [], laidByText := true, laidKinds := [.data, .pinned], laidTests := true, laidLooks := .later }
def FnExactCallGetUptoCardSaid : Prop := Claim7.holds Tryz.pinned (.plain (OpenSpec.upto fnExactCallGetSpec)) fnExactCallGetUptoCard

/-- THE SECOND FORM's CARD OF 'laws.FnExactAnswerGet'. -/
def fnExactAnswerGetUptoCard : Claim7 := { stood := { row := fnExactAnswerGetUptoRow, standIns := [], harness := (true, "b8c8434414495bbe44441ce6b5540114ed921d8259f591b83d6e4c063dcea19e"), looks := false }, kinds := [], alts := [], laidByText := true, laidKinds := [.data, .pinned], laidTests := true, laidLooks := .later }
def FnExactAnswerGetUptoCardSaid : Prop := Claim7.holds Tryz.pinned (.plain (OpenSpec.upto fnExactAnswerGetSpec)) fnExactAnswerGetUptoCard
end Rows
end Go.Proofs.YtglhncibfmhblabGreatDoor
