/-
  DERIVED. GIVEN WITH THE SEED: THE CARDS: each row of YtifffndbgheghaaDoorRows.lean that lists a variable, with what it lists TIED to the program's text (the seventh form; the later family's looks); each row that meets fmt, with fmt's text TOLD by the authors' own Lean function (tested against real Go, not proved from fmt's source: count such statements apart). THE CARD IS WHAT COUNTS. Prove the row's statement (the work); the ties are given (YtifffndbgheghaaDoorTie.lean); close each card by the builder's one call (the guide's Derived/Test/ToyasCard.lean, 'card_holds'). Laid BY PROGRAM, IN A SANDBOX (cutbox-door.mjs). By AI agents, Wed Nov 11 2026. No macro, syntax, notation, axiom, sorry.
-/
import Derived.Test.YtifffndbgheghaaDoorRows
import GoSem.ClaimSeven
namespace Go.Proofs.YtifffndbgheghaaDoor
namespace Rows

/-- THE TIED CARD OF 'laws.FnExactServiceOk'. -/
def fnExactServiceOkCard : Claim7 := { stood := { row := fnExactServiceOkRow, standIns := [], harness := (true, "07e1a3275b4ba87ed22241d24d4f8f93c43213f6c28a41ec2993b238b4bf8050"), looks := false }, kinds := [], alts := [], laidByText := true, laidKinds := [.data, .pinned], laidTests := true, laidLooks := .later }
def FnExactServiceOkCardSaid : Prop := Claim7.holds Tryd.pinned (.plain (OpenSpec.ofChange fnExactServiceOkSpec)) fnExactServiceOkCard

/-- THE SECOND FORM's CARD OF 'laws.FnExactServiceOk'. -/
def fnExactServiceOkUptoCard : Claim7 := { stood := { row := fnExactServiceOkUptoRow, standIns := [], harness := (true, "07e1a3275b4ba87ed22241d24d4f8f93c43213f6c28a41ec2993b238b4bf8050"), looks := false }, kinds := [], alts := [], laidByText := true, laidKinds := [.data, .pinned], laidTests := true, laidLooks := .later }
def FnExactServiceOkUptoCardSaid : Prop := Claim7.holds Tryd.pinned (.plain (OpenSpec.upto fnExactServiceOkSpec)) fnExactServiceOkUptoCard
end Rows
end Go.Proofs.YtifffndbgheghaaDoor
