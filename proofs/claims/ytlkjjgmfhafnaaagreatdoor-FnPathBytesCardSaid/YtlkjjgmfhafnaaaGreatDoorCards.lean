/-
  DERIVED. GIVEN WITH THE SEED: THE CARDS: each row of YtlkjjgmfhafnaaaGreatDoorRows.lean that lists a variable, with what it lists TIED to the program's text (the seventh form; the later family's looks); each row that meets fmt, with fmt's text TOLD by the authors' own Lean function (tested against real Go, not proved from fmt's source: count such statements apart). THE CARD IS WHAT COUNTS. Prove the row's statement (the work); the ties are given (YtlkjjgmfhafnaaaGreatDoorTie.lean); close each card by the builder's one call (the guide's Derived/Test/ToyasCard.lean, 'card_holds'). Laid BY PROGRAM, IN A SANDBOX (cutbox-door.mjs). By AI agents, Wed Nov 11 2026. No macro, syntax, notation, axiom, sorry.
-/
import Derived.Test.YtlkjjgmfhafnaaaGreatDoorRows
import GoSem.ClaimSeven
namespace Go.Proofs.YtlkjjgmfhafnaaaGreatDoor
namespace Rows

/-- THE TIED CARD OF 'laws.FnSealGet'. -/
def fnSealGetCard : Claim7 := { stood := { row := fnSealGetRow, standIns := [], harness := (true, "8925b03712fb0c167e5bb6541cb85e712fe72602a9be121ed6511009f14c6dde"), looks := false }, kinds := [], alts := [], laidByText := true, laidKinds := [.data, .pinned], laidTests := true, laidLooks := .later }
def FnSealGetCardSaid : Prop := Claim7.holds Tryz.pinned (.plain (OpenSpec.ofChange fnSealGetSpec)) fnSealGetCard

/-- THE TIED CARD OF 'laws.FnSealPut'. -/
def fnSealPutCard : Claim7 := { stood := { row := fnSealPutRow, standIns := [], harness := (true, "8925b03712fb0c167e5bb6541cb85e712fe72602a9be121ed6511009f14c6dde"), looks := false }, kinds := [], alts := [], laidByText := true, laidKinds := [.data, .pinned], laidTests := true, laidLooks := .later }
def FnSealPutCardSaid : Prop := Claim7.holds Tryz.pinned (.plain (OpenSpec.ofChange fnSealPutSpec)) fnSealPutCard

/-- THE TIED CARD OF 'laws.FnSealChanged'. -/
def fnSealChangedCard : Claim7 := { stood := { row := fnSealChangedRow, standIns := [], harness := (true, "8925b03712fb0c167e5bb6541cb85e712fe72602a9be121ed6511009f14c6dde"), looks := false }, kinds := [], alts := [], laidByText := true, laidKinds := [.data, .pinned], laidTests := true, laidLooks := .later }
def FnSealChangedCardSaid : Prop := Claim7.holds Tryz.pinned (.plain (OpenSpec.ofChange fnSealChangedSpec)) fnSealChangedCard

/-- THE TIED CARD OF 'laws.FnSealKey'. -/
def fnSealKeyCard : Claim7 := { stood := { row := fnSealKeyRow, standIns := [], harness := (true, "8925b03712fb0c167e5bb6541cb85e712fe72602a9be121ed6511009f14c6dde"), looks := false }, kinds := [], alts := [], laidByText := true, laidKinds := [.data, .pinned], laidTests := true, laidLooks := .later }
def FnSealKeyCardSaid : Prop := Claim7.holds Tryz.pinned (.plain (OpenSpec.ofChange fnSealKeySpec)) fnSealKeyCard

/-- THE TIED CARD OF 'laws.FnPathBytes'. -/
def fnPathBytesCard : Claim7 := { stood := { row := fnPathBytesRow, standIns := [], harness := (true, "8925b03712fb0c167e5bb6541cb85e712fe72602a9be121ed6511009f14c6dde"), looks := false }, kinds := [], alts := [], laidByText := true, laidKinds := [.data, .pinned], laidTests := true, laidLooks := .later }
def FnPathBytesCardSaid : Prop := Claim7.holds Tryz.pinned (.plain (OpenSpec.ofChange fnPathBytesSpec)) fnPathBytesCard

/-- THE TIED CARD OF 'laws.FnCallGet'. -/
def fnCallGetCard : Claim7 := { stood := { row := fnCallGetRow, standIns := [], harness := (true, "8925b03712fb0c167e5bb6541cb85e712fe72602a9be121ed6511009f14c6dde"), looks := false }, kinds := [], alts := [], laidByText := true, laidKinds := [.data, .pinned], laidTests := true, laidLooks := .later }
def FnCallGetCardSaid : Prop := Claim7.holds Tryz.pinned (.plain (OpenSpec.ofChange fnCallGetSpec)) fnCallGetCard

/-- THE SECOND FORM's CARD OF 'laws.FnSealGet'. -/
def fnSealGetUptoCard : Claim7 := { stood := { row := fnSealGetUptoRow, standIns := [], harness := (true, "8925b03712fb0c167e5bb6541cb85e712fe72602a9be121ed6511009f14c6dde"), looks := false }, kinds := [], alts := [], laidByText := true, laidKinds := [.data, .pinned], laidTests := true, laidLooks := .later }
def FnSealGetUptoCardSaid : Prop := Claim7.holds Tryz.pinned (.plain (OpenSpec.upto fnSealGetSpec)) fnSealGetUptoCard

/-- THE SECOND FORM's CARD OF 'laws.FnSealPut'. -/
def fnSealPutUptoCard : Claim7 := { stood := { row := fnSealPutUptoRow, standIns := [], harness := (true, "8925b03712fb0c167e5bb6541cb85e712fe72602a9be121ed6511009f14c6dde"), looks := false }, kinds := [], alts := [], laidByText := true, laidKinds := [.data, .pinned], laidTests := true, laidLooks := .later }
def FnSealPutUptoCardSaid : Prop := Claim7.holds Tryz.pinned (.plain (OpenSpec.upto fnSealPutSpec)) fnSealPutUptoCard

/-- THE SECOND FORM's CARD OF 'laws.FnSealChanged'. -/
def fnSealChangedUptoCard : Claim7 := { stood := { row := fnSealChangedUptoRow, standIns := [], harness := (true, "8925b03712fb0c167e5bb6541cb85e712fe72602a9be121ed6511009f14c6dde"), looks := false }, kinds := [], alts := [], laidByText := true, laidKinds := [.data, .pinned], laidTests := true, laidLooks := .later }
def FnSealChangedUptoCardSaid : Prop := Claim7.holds Tryz.pinned (.plain (OpenSpec.upto fnSealChangedSpec)) fnSealChangedUptoCard

/-- THE SECOND FORM's CARD OF 'laws.FnSealKey'. -/
def fnSealKeyUptoCard : Claim7 := { stood := { row := fnSealKeyUptoRow, standIns := [], harness := (true, "8925b03712fb0c167e5bb6541cb85e712fe72602a9be121ed6511009f14c6dde"), looks := false }, kinds := [], alts := [], laidByText := true, laidKinds := [.data, .pinned], laidTests := true, laidLooks := .later }
def FnSealKeyUptoCardSaid : Prop := Claim7.holds Tryz.pinned (.plain (OpenSpec.upto fnSealKeySpec)) fnSealKeyUptoCard

/-- THE SECOND FORM's CARD OF 'laws.FnPathBytes'. -/
def fnPathBytesUptoCard : Claim7 := { stood := { row := fnPathBytesUptoRow, standIns := [], harness := (true, "8925b03712fb0c167e5bb6541cb85e712fe72602a9be121ed6511009f14c6dde"), looks := false }, kinds := [], alts := [], laidByText := true, laidKinds := [.data, .pinned], laidTests := true, laidLooks := .later }
def FnPathBytesUptoCardSaid : Prop := Claim7.holds Tryz.pinned (.plain (OpenSpec.upto fnPathBytesSpec)) fnPathBytesUptoCard

/-- THE SECOND FORM's CARD OF 'laws.FnCallGet'. -/
def fnCallGetUptoCard : Claim7 := { stood := { row := fnCallGetUptoRow, standIns := [], harness := (true, "8925b03712fb0c167e5bb6541cb85e712fe72602a9be121ed6511009f14c6dde"), looks := false }, kinds := [], alts := [], laidByText := true, laidKinds := [.data, .pinned], laidTests := true, laidLooks := .later }
def FnCallGetUptoCardSaid : Prop := Claim7.holds Tryz.pinned (.plain (OpenSpec.upto fnCallGetSpec)) fnCallGetUptoCard
end Rows
end Go.Proofs.YtlkjjgmfhafnaaaGreatDoor
