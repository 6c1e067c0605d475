/-
  DERIVED. GIVEN WITH THE SEED: THE CARDS: each row of YtbcgjaeojhpmbaaGreatDoorRows.lean that lists a variable, with what it lists TIED to the program's text (the seventh form; the later family's looks); each row that meets fmt, with fmt's text TOLD by the authors' own Lean function (tested against real Go, not proved from fmt's source: count such statements apart). THE CARD IS WHAT COUNTS. Prove the row's statement (the work); the ties are given (YtbcgjaeojhpmbaaGreatDoorTie.lean); close each card by the builder's one call (the guide's Derived/Test/ToyasCard.lean, 'card_holds'). Laid BY PROGRAM, IN A SANDBOX (cutbox-door.mjs). By AI agents, Wed Nov 11 2026. No macro, syntax, notation, axiom, sorry.
-/
import Derived.Test.YtbcgjaeojhpmbaaGreatDoorRows
import GoSem.ClaimSeven
namespace Go.Proofs.YtbcgjaeojhpmbaaGreatDoor
namespace Rows

/-- THE TIED CARD OF 'laws.FnValueOk'. -/
def fnValueOkCard : Claim7 := { stood := { row := fnValueOkRow, standIns := [], harness := (true, "6f8716308f2ba7a496cb9740f21f684b0d52a376b6b9959784c28ad5b6e8b3cd"), looks := false }, kinds := [], alts := [], laidByText := true, laidKinds := [.data, .pinned], laidTests := true, laidLooks := .later }
def FnValueOkCardSaid : Prop := Claim7.holds Tryz.pinned (.plain (OpenSpec.ofChange fnValueOkSpec)) fnValueOkCard

/-- THE TIED CARD OF 'laws.FnValueLess'. -/
def fnValueLessCard : Claim7 := { stood := { row := fnValueLessRow, standIns := [], harness := (true, "6f8716308f2ba7a496cb9740f21f684b0d52a376b6b9959784c28ad5b6e8b3cd"), looks := false }, kinds := [], alts := [], laidByText := true, laidKinds := [.data, .pinned], laidTests := true, laidLooks := .later }
def FnValueLessCardSaid : Prop := Claim7.holds Tryz.pinned (.plain (OpenSpec.ofChange fnValueLessSpec)) fnValueLessCard

/-- THE TIED CARD OF 'laws.FnLessChain'. -/
def fnLessChainCard : Claim7 := { stood := { row := fnLessChainRow, standIns := [], harness := (true, "6f8716308f2ba7a496cb9740f21f684b0d52a376b6b9959784c28ad5b6e8b3cd"), looks := false }, kinds := [], alts := [], laidByText := true, laidKinds := [.data, .pinned], laidTests := true, laidLooks := .later }
def FnLessChainCardSaid : Prop := Claim7.holds Tryz.pinned (.plain (OpenSpec.ofChange fnLessChainSpec)) fnLessChainCard

/-- THE TIED CARD OF 'laws.FnKeyOrder'. -/
def fnKeyOrderCard : Claim7 := { stood := { row := fnKeyOrderRow, standIns := [], harness := (true, "6f8716308f2ba7a496cb9740f21f684b0d52a376b6b9959784c28ad5b6e8b3cd"), looks := false }, kinds := [], alts := [], laidByText := true, laidKinds := [.data, .pinned], laidTests := true, laidLooks := .later }
def FnKeyOrderCardSaid : Prop := Claim7.holds Tryz.pinned (.plain (OpenSpec.ofChange fnKeyOrderSpec)) fnKeyOrderCard

/-- THE TIED CARD OF 'laws.FnSealSame'. -/
def fnSealSameCard : Claim7 := { stood := { row := fnSealSameRow, standIns := [], harness := (true, "6f8716308f2ba7a496cb9740f21f684b0d52a376b6b9959784c28ad5b6e8b3cd"), looks := false }, kinds := [], alts := [], laidByText := true, laidKinds := [.data, .pinned], laidTests := true, laidLooks := .later }
def FnSealSameCardSaid : Prop := Claim7.holds Tryz.pinned (.plain (OpenSpec.ofChange fnSealSameSpec)) fnSealSameCard

/-- THE TIED CARD OF 'laws.FnSealOf'. -/
def fnSealOfCard : Claim7 := { stood := { row := fnSealOfRow, standIns := [], harness := (true, "6f8716308f2ba7a496cb9740f21f684b0d52a376b6b9959784c28ad5b6e8b3cd"), looks := false }, kinds := [], alts := [], laidByText := true, laidKinds := [.data, .pinned], laidTests := true, laidLooks := .later }
def FnSealOfCardSaid : Prop := Claim7.holds Tryz.pinned (.plain (OpenSpec.ofChange fnSealOfSpec)) fnSealOfCard

/-- THE TIED CARD OF 'laws.FnExactPathGet'. -/
def fnExactPathGetCard : Claim7 := { stood := { row := fnExactPathGetRow, standIns := [], harness := (true, "6f8716308f2ba7a496cb9740f21f684b0d52a376b6b9959784c28ad5b6e8b3cd"), looks := false }, kinds := [], alts := [], laidByText := true, laidKinds := [.data, .pinned], laidTests := true, laidLooks := .later }
def FnExactPathGetCardSaid : Prop := Claim7.holds Tryz.pinned (.plain (OpenSpec.ofChange fnExactPathGetSpec)) fnExactPathGetCard

/-- THE TIED CARD OF 'laws.FnExactPathSet'. -/
def fnExactPathSetCard : Claim7 := { stood := { row := fnExactPathSetRow, standIns := [], harness := (true, "6f8716308f2ba7a496cb9740f21f684b0d52a376b6b9959784c28ad5b6e8b3cd"), looks := false }, kinds := [], alts := [], laidByText := true, laidKinds := [.data, .pinned], laidTests := true, laidLooks := .later }
def FnExactPathSetCardSaid : Prop := Claim7.holds Tryz.pinned (.plain (OpenSpec.ofChange fnExactPathSetSpec)) fnExactPathSetCard

/-- THE SECOND FORM's CARD OF 'laws.FnValueOk'. -/
def fnValueOkUptoCard : Claim7 := { stood := { row := fnValueOkUptoRow, standIns := [], harness := (true, "6f8716308f2ba7a496cb9740f21f684b0d52a376b6b9959784c28ad5b6e8b3cd"), looks := false }, kinds := [], alts := [], laidByText := true, laidKinds := [.data, .pinned], laidTests := true, laidLooks := .later }
def FnValueOkUptoCardSaid : Prop := Claim7.holds Tryz.pinned (.plain (OpenSpec.upto fnValueOkSpec)) fnValueOkUptoCard

/-- THE SECOND FORM's CARD OF 'laws.FnValueLess'. -/
def fnValueLessUptoCard : Claim7 := { stood := { row := fnValueLessUptoRow, standIns := [], harness := (true, "6f8716308f2ba7a496cb9740f21f684b0d52a376b6b9959784c28ad5b6e8b3cd"), looks := false }, kinds := [], alts := [], laidByText := true, laidKinds := [.data, .pinned], laidTests := true, laidLooks := .later }
def FnValueLessUptoCardSaid : Prop := Claim7.holds Tryz.pinned (.plain (OpenSpec.upto fnValueLessSpec)) fnValueLessUptoCard

/-- THE SECOND FORM's CARD OF 'laws.FnLessChain'. -/
def fnLessChainUptoCard : Claim7 := { stood := { row := fnLessChainUptoRow, standIns := [], harness := (true, "6f8716308f2ba7a496cb9740f21f684b0d52a376b6b9959784c28ad5b6e8b3cd"), looks := false }, kinds := [], alts := [], laidByText := true, laidKinds := [.data, .pinned], laidTests := true, laidLooks := .later }
def FnLessChainUptoCardSaid : Prop := Claim7.holds Tryz.pinned (.plain (OpenSpec.upto fnLessChainSpec)) fnLessChainUptoCard

/-- THE SECOND FORM's CARD OF 'laws.FnKeyOrder'. -/
def fnKeyOrderUptoCard : Claim7 := { stood := { row := fnKeyOrderUptoRow, standIns := [], harness := (true, "6f8716308f2ba7a496cb9740f21f684b0d52a376b6b9959784c28ad5b6e8b3cd"), looks := false }, kinds := [], alts := [], laidByText := true, laidKinds := [.data, .pinned], laidTests := true, laidLooks := .later }
def FnKeyOrderUptoCardSaid : Prop := Claim7.holds Tryz.pinned (.plain (OpenSpec.upto fnKeyOrderSpec)) fnKeyOrderUptoCard

/-- THE SECOND FORM's CARD OF 'laws.FnSealSame'. -/
def fnSealSameUptoCard : Claim7 := { stood := { row := fnSealSameUptoRow, standIns := [], harness := (true, "6f8716308f2ba7a496cb9740f21f684b0d52a376b6b9959784c28ad5b6e8b3cd"), looks := false }, kinds := [], alts := [], laidByText := true, laidKinds := [.data, .pinned], laidTests := true, laidLooks := .later }
def FnSealSameUptoCardSaid : Prop := Claim7.holds Tryz.pinned (.plain (OpenSpec.upto fnSealSameSpec)) fnSealSameUptoCard

/-- THE SECOND FORM's CARD OF 'laws.FnSealOf'. -/
def fnSealOfUptoCard : Claim7 := { stood := { row := fnSealOfUptoRow, standIns := [], harness := (true, "6f8716308f2ba7a496cb9740f21f684b0d52a376b6b9959784c28ad5b6e8b3cd"), looks := false }, kinds := [], alts := [], laidByText := true, laidKinds := [.data, .pinned], laidTests := true, laidLooks := .later }
def FnSealOfUptoCardSaid : Prop := Claim7.holds Tryz.pinned (.plain (OpenSpec.upto fnSealOfSpec)) fnSealOfUptoCard

/-- THE SECOND FORM's CARD OF 'laws.FnExactPathGet'. -/
def fnExactPathGetUptoCard : Claim7 := { stood := { row := fnExactPathGetUptoRow, standIns := [], harness := (true, "6f8716308f2ba7a496cb9740f21f684b0d52a376b6b9959784c28ad5b6e8b3cd"), looks := false }, kinds := [], alts := [], laidByText := true, laidKinds := [.data, .pinned], laidTests := true, laidLooks := .later }
def FnExactPathGetUptoCardSaid : Prop := Claim7.holds Tryz.pinned (.plain (OpenSpec.upto fnExactPathGetSpec)) fnExactPathGetUptoCard

/-- THE SECOND FORM's CARD OF 'laws.FnExactPathSet'. -/
def fnExactPathSetUptoCard : Claim7 := { stood := { row := fnExactPathSetUptoRow, standIns := [], harness := (true, "6f8716308f2ba7a496cb9740f21f684b0d52a376b6b9959784c28ad5b6e8b3cd"), looks := false }, kinds := [], alts := [], laidByText := true, laidKinds := [.data, .pinned], laidTests := true, laidLooks := .later }
def FnExactPathSetUptoCardSaid : Prop := Claim7.holds Tryz.pinned (.plain (OpenSpec.upto fnExactPathSetSpec)) fnExactPathSetUptoCard
end Rows
end Go.Proofs.YtbcgjaeojhpmbaaGreatDoor
