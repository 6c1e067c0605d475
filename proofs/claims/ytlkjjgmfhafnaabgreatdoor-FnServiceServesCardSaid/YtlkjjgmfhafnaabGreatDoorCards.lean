/-
  DERIVED. GIVEN WITH THE SEED: THE CARDS: each row of YtlkjjgmfhafnaabGreatDoorRows.lean that lists a variable, with what it lists TIED to the program's text (the seventh form; the later family's looks); each row that meets fmt, with fmt's text TOLD by the authors' own Lean function (tested against real Go, not proved from fmt's source: count such statements apart). THE CARD IS WHAT COUNTS. Prove the row's statement (the work); the ties are given (YtlkjjgmfhafnaabGreatDoorTie.lean); close each card by the builder's one call (the guide's Derived/Test/ToyasCard.lean, 'card_holds'). Laid BY PROGRAM, IN A SANDBOX (cutbox-door.mjs). By AI agents, Wed Nov 11 2026. No macro, syntax, notation, axiom, sorry.
-/
import Derived.Test.YtlkjjgmfhafnaabGreatDoorRows
import GoSem.ClaimSeven
namespace Go.Proofs.YtlkjjgmfhafnaabGreatDoor
namespace Rows

/-- THE TIED CARD OF 'laws.FnCallPut'. -/
def fnCallPutCard : Claim7 := { stood := { row := fnCallPutRow, standIns := [], harness := (true, "ce1d553371a0f716ae4279082a1b0d39377b6a70c9c16b3d7dd387a4f0c04fa7"), looks := false }, kinds := [], alts := [], laidByText := true, laidKinds := [.data, .pinned], laidTests := true, laidLooks := .later }
def FnCallPutCardSaid : Prop := Claim7.holds Tryz.pinned (.plain (OpenSpec.ofChange fnCallPutSpec)) fnCallPutCard

/-- THE TIED CARD OF 'laws.FnAnswerGet'. -/
def fnAnswerGetCard : Claim7 := { stood := { row := fnAnswerGetRow, standIns := [], harness := (true, "ce1d553371a0f716ae4279082a1b0d39377b6a70c9c16b3d7dd387a4f0c04fa7"), looks := false }, kinds := [], alts := [], laidByText := true, laidKinds := [.data, .pinned], laidTests := true, laidLooks := .later }
def FnAnswerGetCardSaid : Prop := Claim7.holds Tryz.pinned (.plain (OpenSpec.ofChange fnAnswerGetSpec)) fnAnswerGetCard

/-- THE TIED CARD OF 'laws.FnAnswerPut'. -/
def fnAnswerPutCard : Claim7 := { stood := { row := fnAnswerPutRow, standIns := [], harness := (true, "ce1d553371a0f716ae4279082a1b0d39377b6a70c9c16b3d7dd387a4f0c04fa7"), looks := false }, kinds := [], alts := [], laidByText := true, laidKinds := [.data, .pinned], laidTests := true, laidLooks := .later }
def FnAnswerPutCardSaid : Prop := Claim7.holds Tryz.pinned (.plain (OpenSpec.ofChange fnAnswerPutSpec)) fnAnswerPutCard

/-- THE TIED CARD OF 'laws.FnServiceReads'. -/
def fnServiceReadsCard : Claim7 := { stood := { row := fnServiceReadsRow, standIns := [], harness := (true, "ce1d553371a0f716ae4279082a1b0d39377b6a70c9c16b3d7dd387a4f0c04fa7"), looks := false }, kinds := [], alts := [], laidByText := true, laidKinds := [.data, .pinned], laidTests := true, laidLooks := .later }
def FnServiceReadsCardSaid : Prop := Claim7.holds Tryz.pinned (.plain (OpenSpec.ofChange fnServiceReadsSpec)) fnServiceReadsCard

/-- THE TIED CARD OF 'laws.FnServiceServes'. -/
def fnServiceServesCard : Claim7 := { stood := { row := fnServiceServesRow, standIns := [], harness := (true, "ce1d553371a0f716ae4279082a1b0d39377b6a70c9c16b3d7dd387a4f0c04fa7"), looks := false }, kinds := [], alts := [], laidByText := true, laidKinds := [.data, .pinned], laidTests := true, laidLooks := .later }
def FnServiceServesCardSaid : Prop := Claim7.holds Tryz.pinned (.plain (OpenSpec.ofChange fnServiceServesSpec)) fnServiceServesCard

/-- THE SECOND FORM's CARD OF 'laws.FnCallPut'. -/
def fnCallPutUptoCard : Claim7 := { stood := { row := fnCallPutUptoRow, standIns := [], harness := (true, "ce1d553371a0f716ae4279082a1b0d39377b6a70c9c16b3d7dd387a4f0c04fa7"), looks := false }, kinds := [], alts := [], laidByText := true, laidKinds := [.data, .pinned], laidTests := true, laidLooks := .later }
def FnCallPutUptoCardSaid : Prop := Claim7.holds Tryz.pinned (.plain (OpenSpec.upto fnCallPutSpec)) fnCallPutUptoCard

/-- THE SECOND FORM's CARD OF 'laws.FnAnswerGet'. -/
def fnAnswerGetUptoCard : Claim7 := { stood := { row := fnAnswerGetUptoRow, standIns := [], harness := (true, "ce1d553371a0f716ae4279082a1b0d39377b6a70c9c16b3d7dd387a4f0c04fa7"), looks := false }, kinds := [], alts := [], laidByText := true, laidKinds := [.data, .pinned], laidTests := true, laidLooks := .later }
def FnAnswerGetUptoCardSaid : Prop := Claim7.holds Tryz.pinned (.plain (OpenSpec.upto fnAnswerGetSpec)) fnAnswerGetUptoCard

/-- THE SECOND FORM's CARD OF 'laws.FnAnswerPut'. -/
def fnAnswerPutUptoCard : Claim7 := { stood := { row := fnAnswerPutUptoRow, standIns := [], harness := (true, "ce1d553371a0f716ae4279082a1b0d39377b6a70c9c16b3d7dd387a4f0c04fa7"), looks := false }, kinds := [], alts := [], laidByText := true, laidKinds := [.data, .pinned], laidTests := true, laidLooks := .later }
def FnAnswerPutUptoCardSaid : Prop := Claim7.holds Tryz.pinned (.plain (OpenSpec.upto fnAnswerPutSpec)) fnAnswerPutUptoCard

/-- THE SECOND FORM's CARD OF 'laws.FnServiceReads'. -/
def fnServiceReadsUptoCard : Claim7 := { stood := { row := fnServiceReadsUptoRow, standIns := [], harness := (true, "ce1d553371a0f716ae4279082a1b0d39377b6a70c9c16b3d7dd387a4f0c04fa7"), looks := false }, kinds := [], alts := [], laidByText := true, laidKinds := [.data, .pinned], laidTests := true, laidLooks := .later }
def FnServiceReadsUptoCardSaid : Prop := Claim7.holds Tryz.pinned (.plain (OpenSpec.upto fnServiceReadsSpec)) fnServiceReadsUptoCard

/-- THE SECOND FORM's CARD OF 'laws.FnServiceServes'. -/
def fnServiceServesUptoCard : Claim7 := { stood := { row := fnServiceServesUptoRow, standIns := [], harness := (true, "ce1d553371a0f716ae4279082a1b0d39377b6a70c9c16b3d7dd387a4f0c04fa7"), looks := false }, kinds := [], alts := [], laidByText := true, laidKinds := [.data, .pinned], laidTests := true, laidLooks := .later }
def FnServiceServesUptoCardSaid : Prop := Claim7.holds Tryz.pinned (.plain (OpenSpec.upto fnServiceServesSpec)) fnServiceServesUptoCard
end Rows
end Go.Proofs.YtlkjjgmfhafnaabGreatDoor
