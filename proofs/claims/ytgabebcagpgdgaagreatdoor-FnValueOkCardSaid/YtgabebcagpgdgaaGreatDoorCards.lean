/-
  DERIVED. GIVEN WITH THE SEED: THE CARDS: each row of YtgabebcagpgdgaaGreatDoorRows.lean that lists a variable, with what it lists TIED to the program's text (the seventh form; the later family's looks); each row that meets fmt, with fmt's text TOLD by the authors' own Lean function (tested against real Go, not proved from fmt's source: count such statements apart). THE CARD IS WHAT COUNTS. Prove the row's statement (the work); the ties are given (YtgabebcagpgdgaaGreatDoorTie.lean); close each card by the builder's one call (the guide's Derived/Test/ToyasCard.lean, 'card_holds'). Laid BY PROGRAM, IN A SANDBOX (cutbox-door.mjs). By AI agents, Wed Nov 11 2026. No macro, syntax, notation, axiom, sorry.
-/
import Derived.Test.YtgabebcagpgdgaaGreatDoorRows
import GoSem.ClaimSeven
namespace Go.Proofs.YtgabebcagpgdgaaGreatDoor
namespace Rows

/-- THE TIED CARD OF 'laws.FnSchemaStands'. -/
def fnSchemaStandsCard : Claim7 := { stood := { row := fnSchemaStandsRow, standIns := [], harness := (true, "3f9d24cad0ad627a60786285e0b201457f9cb176179a18b22c379f928baae07f"), looks := false }, kinds := [], alts := [], laidByText := true, laidKinds := [.data, .pinned], laidTests := true, laidLooks := .later }
def FnSchemaStandsCardSaid : Prop := Claim7.holds Tryz.pinned (.plain (OpenSpec.ofChange fnSchemaStandsSpec)) fnSchemaStandsCard

/-- THE TIED CARD OF 'laws.FnExactPathGet'. -/
def fnExactPathGetCard : Claim7 := { stood := { row := fnExactPathGetRow, standIns := [], harness := (true, "3f9d24cad0ad627a60786285e0b201457f9cb176179a18b22c379f928baae07f"), looks := false }, kinds := [], alts := [], laidByText := true, laidKinds := [.data, .pinned], laidTests := true, laidLooks := .later }
def FnExactPathGetCardSaid : Prop := Claim7.holds Tryz.pinned (.plain (OpenSpec.ofChange fnExactPathGetSpec)) fnExactPathGetCard

/-- THE TIED CARD OF 'laws.FnValueOk'. -/
def fnValueOkCard : Claim7 := { stood := { row := fnValueOkRow, standIns := [], harness := (true, "3f9d24cad0ad627a60786285e0b201457f9cb176179a18b22c379f928baae07f"), looks := false }, kinds := [], alts := [], laidByText := true, laidKinds := [.data, .pinned], laidTests := true, laidLooks := .later }
def FnValueOkCardSaid : Prop := Claim7.holds Tryz.pinned (.plain (OpenSpec.ofChange fnValueOkSpec)) fnValueOkCard

/-- THE TIED CARD OF 'laws.FnExactPathSet'. -/
def fnExactPathSetCard : Claim7 := { stood := { row := fnExactPathSetRow, standIns := [], harness := (true, "3f9d24cad0ad627a60786285e0b201457f9cb176179a18b22c379f928baae07f"), looks := false }, kinds := [], alts := [], laidByText := true, laidKinds := [.data, .pinned], laidTests := true, laidLooks := .later }
def FnExactPathSetCardSaid : Prop := Claim7.holds Tryz.pinned (.plain (OpenSpec.ofChange fnExactPathSetSpec)) fnExactPathSetCard

/-- THE TIED CARD OF 'laws.FnValueLess'. -/
def fnValueLessCard : Claim7 := { stood := { row := fnValueLessRow, standIns := [], harness := (true, "3f9d24cad0ad627a60786285e0b201457f9cb176179a18b22c379f928baae07f"), looks := false }, kinds := [], alts := [], laidByText := true, laidKinds := [.data, .pinned], laidTests := true, laidLooks := .later }
def FnValueLessCardSaid : Prop := Claim7.holds Tryz.pinned (.plain (OpenSpec.ofChange fnValueLessSpec)) fnValueLessCard

/-- THE SECOND FORM's CARD OF 'laws.FnSchemaStands'. -/
def fnSchemaStandsUptoCard : Claim7 := { stood := { row := fnSchemaStandsUptoRow, standIns := [], harness := (true, "3f9d24cad0ad627a60786285e0b201457f9cb176179a18b22c379f928baae07f"), looks := false }, kinds := [], alts := [], laidByText := true, laidKinds := [.data, .pinned], laidTests := true, laidLooks := .later }
def FnSchemaStandsUptoCardSaid : Prop := Claim7.holds Tryz.pinned (.plain (OpenSpec.upto fnSchemaStandsSpec)) fnSchemaStandsUptoCard

/-- THE SECOND FORM's CARD OF 'laws.FnExactPathGet'. -/
def fnExactPathGetUptoCard : Claim7 := { stood := { row := fnExactPathGetUptoRow, standIns := [], harness := (true, "3f9d24cad0ad627a60786285e0b201457f9cb176179a18b22c379f928baae07f"), looks := false }, kinds := [], alts := [], laidByText := true, laidKinds := [.data, .pinned], laidTests := true, laidLooks := .later }
def FnExactPathGetUptoCardSaid : Prop := Claim7.holds Tryz.pinned (.plain (OpenSpec.upto fnExactPathGetSpec)) fnExactPathGetUptoCard

/-- THE SECOND FORM's CARD OF 'laws.FnValueOk'. -/
def fnValueOkUptoCard : Claim7 := { stood := { row := fnValueOkUptoRow, standIns := [], harness := (true, "3f9d24cad0ad627a60786285e0b201457f9cb176179a18b22c379f928baae07f"), looks := false }, kinds := [], alts := [], laidByText := true, laidKinds := [.data, .pinned], laidTests := true, laidLooks := .later }
def FnValueOkUptoCardSaid : Prop := Claim7.holds Tryz.pinned (.plain (OpenSpec.upto fnValueOkSpec)) fnValueOkUptoCard

/-- THE SECOND FORM's CARD OF 'laws.FnExactPathSet'. -/
def fnExactPathSetUptoCard : Claim7 := { stood := { row := fnExactPathSetUptoRow, standIns := [], harness := (true, "3f9d24cad0ad627a60786285e0b201457f9cb176179a18b22c379f928baae07f"), looks := false }, kinds := [], alts := [], laidByText := true, laidKinds := [.data, .pinned], laidTests := true, laidLooks := .later }
def FnExactPathSetUptoCardSaid : Prop := Claim7.holds Tryz.pinned (.plain (OpenSpec.upto fnExactPathSetSpec)) fnExactPathSetUptoCard

/-- THE SECOND FORM's CARD OF 'laws.FnValueLess'. -/
def fnValueLessUptoCard : Claim7 := { stood := { row := fnValueLessUptoRow, standIns := [], harness := (true, "3f9d24cad0ad627a60786285e0b201457f9cb176179a18b22c379f928baae07f"), looks := false }, kinds := [], alts := [], laidByText := true, laidKinds := [.data, .pinned], laidTests := true, laidLooks := .later }
def FnValueLessUptoCardSaid : Prop := Claim7.holds Tryz.pinned (.plain (OpenSpec.upto fnValueLessSpec)) fnValueLessUptoCard
end Rows
end Go.Proofs.YtgabebcagpgdgaaGreatDoor
