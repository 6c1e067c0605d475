/-
  DERIVED. GIVEN WITH THE SEED: THE CARDS: each row of YtcnhfhmaihameaaGreatDoorRows.lean that lists a variable, with what it lists TIED to the program's text (the seventh form; the later family's looks); each row that meets fmt, with fmt's text TOLD by the authors' own Lean function (tested against real Go, not proved from fmt's source: count such statements apart). THE CARD IS WHAT COUNTS. Prove the row's statement (the work); the ties are given (YtcnhfhmaihameaaGreatDoorTie.lean); close each card by the builder's one call (the guide's Derived/Test/ToyasCard.lean, 'card_holds'). Laid BY PROGRAM, IN A SANDBOX (cutbox-door.mjs). By AI agents, Wed Nov 11 2026. No macro, syntax, notation, axiom, sorry.
-/
import Derived.Test.YtcnhfhmaihameaaGreatDoorRows
import GoSem.ClaimSeven
namespace Go.Proofs.YtcnhfhmaihameaaGreatDoor
namespace Rows

/-- THE TIED CARD OF 'laws.FnExactKeyOf'. -/
def fnExactKeyOfCard : Claim7 := { stood := { row := fnExactKeyOfRow, standIns := [], harness := (true, "26583b0f1b693d1982b06197df1909831537ac1bdbbfb822c4960907eaae94ae"), looks := false }, kinds := [], alts := [], laidByText := true, laidKinds := [.data, .pinned], laidTests := true, laidLooks := .later }
def FnExactKeyOfCardSaid : Prop := Claim7.holds Tryz.pinned (.plain (OpenSpec.ofChange fnExactKeyOfSpec)) fnExactKeyOfCard

/-- THE TIED CARD OF 'laws.FnExactValueLess'. -/
def fnExactValueLessCard : Claim7 := { stood := { row := fnExactValueLessRow, standIns := [], harness := (true, "26583b0f1b693d1982b06197df1909831537ac1bdbbfb822c4960907eaae94ae"), looks := false }, kinds := [], alts := [], laidByText := true, laidKinds := [.data, .pinned], laidTests := true, laidLooks := .later }
def FnExactValueLessCardSaid : Prop := Claim7.holds Tryz.pinned (.plain (OpenSpec.ofChange fnExactValueLessSpec)) fnExactValueLessCard

/-- THE TIED CARD OF 'laws.FnExactSealSame'. -/
def fnExactSealSameCard : Claim7 := { stood := { row := fnExactSealSameRow, standIns := [], harness := (true, "26583b0f1b693d1982b06197df1909831537ac1bdbbfb822c4960907eaae94ae"), looks := false }, kinds := [], alts := [], laidByText := true, laidKinds := [.data, .pinned], laidTests := true, laidLooks := .later }
def FnExactSealSameCardSaid : Prop := Claim7.holds Tryz.pinned (.plain (OpenSpec.ofChange fnExactSealSameSpec)) fnExactSealSameCard

/-- THE TIED CARD OF 'laws.FnExactSealOf'. -/
def fnExactSealOfCard : Claim7 := { stood := { row := fnExactSealOfRow, standIns := [], harness := (true, "26583b0f1b693d1982b06197df1909831537ac1bdbbfb822c4960907eaae94ae"), looks := false }, kinds := [], alts := [], laidByText := true, laidKinds := [.data, .pinned], laidTests := true, laidLooks := .later }
def FnExactSealOfCardSaid : Prop := Claim7.holds Tryz.pinned (.plain (OpenSpec.ofChange fnExactSealOfSpec)) fnExactSealOfCard

/-- THE TIED CARD OF 'laws.FnExactSealPut'. -/
def fnExactSealPutCard : Claim7 := { stood := { row := fnExactSealPutRow, standIns := [], harness := (true, "26583b0f1b693d1982b06197df1909831537ac1bdbbfb822c4960907eaae94ae"), looks := false }, kinds := [], alts := [], laidByText := true, laidKinds := [.data, .pinned], laidTests := true, laidLooks := .later }
def FnExactSealPutCardSaid : Prop := Claim7.holds Tryz.pinned (.plain (OpenSpec.ofChange fnExactSealPutSpec)) fnExactSealPutCard

/-- THE SECOND FORM's CARD OF 'laws.FnExactKeyOf'. -/
def fnExactKeyOfUptoCard : Claim7 := { stood := { row := fnExactKeyOfUptoRow, standIns := [], harness := (true, "26583b0f1b693d1982b06197df1909831537ac1bdbbfb822c4960907eaae94ae"), looks := false }, kinds := [], alts := [], laidByText := true, laidKinds := [.data, .pinned], laidTests := true, laidLooks := .later }
def FnExactKeyOfUptoCardSaid : Prop := Claim7.holds Tryz.pinned (.plain (OpenSpec.upto fnExactKeyOfSpec)) fnExactKeyOfUptoCard

/-- THE SECOND FORM's CARD OF 'laws.FnExactValueLess'. -/
def fnExactValueLessUptoCard : Claim7 := { stood := { row := fnExactValueLessUptoRow, standIns := [], harness := (true, "26583b0f1b693d1982b06197df1909831537ac1bdbbfb822c4960907eaae94ae"), looks := false }, kinds := [], alts := [], laidByText := true, laidKinds := [.data, .pinned], laidTests := true, laidLooks := .later }
def FnExactValueLessUptoCardSaid : Prop := Claim7.holds Tryz.pinned (.plain (OpenSpec.upto fnExactValueLessSpec)) fnExactValueLessUptoCard

/-- THE SECOND FORM's CARD OF 'laws.FnExactSealSame'. -/
def fnExactSealSameUptoCard : Claim7 := { stood := { row := fnExactSealSameUptoRow, standIns := [], harness := (true, "26583b0f1b693d1982b06197df1909831537ac1bdbbfb822c4960907eaae94ae"), looks := false }, kinds := [], alts := [], laidByText := true, laidKinds := [.data, .pinned], laidTests := true, laidLooks := .later }
def FnExactSealSameUptoCardSaid : Prop := Claim7.holds Tryz.pinned (.plain (OpenSpec.upto fnExactSealSameSpec)) fnExactSealSameUptoCard

/-- THE SECOND FORM's CARD OF 'laws.FnExactSealOf'. -/
def fnExactSealOfUptoCard : Claim7 := { stood := { row := fnExactSealOfUptoRow, standIns := [], harness := (true, "26583b0f1b693d1982b06197df1909831537ac1bdbbfb822c4960907eaae94ae"), looks := false }, kinds := [], alts := [], laidByText := true, laidKinds := [.data, .pinned], laidTests := true, laidLooks := .later }
def FnExactSealOfUptoCardSaid : Prop := Claim7.holds Tryz.pinned (.plain (OpenSpec.upto fnExactSealOfSpec)) fnExactSealOfUptoCard

/-- THE SECOND FORM's CARD OF 'laws.FnExactSealPut'. -/
def fnExactSealPutUptoCard : Claim7 := { stood := { row := fnExactSealPutUptoRow, standIns := [], harness := (true, "26583b0f1b693d1982b06197df1909831537ac1bdbbfb822c4960907eaae94ae"), looks := false }, kinds := [], alts := [], laidByText := true, laidKinds := [.data, .pinned], laidTests := true, laidLooks := .later }
def FnExactSealPutUptoCardSaid : Prop := Claim7.holds Tryz.pinned (.plain (OpenSpec.upto fnExactSealPutSpec)) fnExactSealPutUptoCard
end Rows
end Go.Proofs.YtcnhfhmaihameaaGreatDoor
