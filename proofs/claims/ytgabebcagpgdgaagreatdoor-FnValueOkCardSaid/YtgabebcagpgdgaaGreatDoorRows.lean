/-
  NARROWER THAN 'FOR EVERY INPUT', by the rows' own cells (each row's printed sentence says how): FnSchemaStands: laid · FnExactPathGet: laid · FnValueOk: laid · FnExactPathSet: laid · FnValueLess: laid.
  DERIVED. THE GIVEN ROWS OF THIS SEAT. 5 by the template 'for every input the law returns true; each argument reads behind the call as it read before'; 0 by the template 'total and deterministic' (their statements: YtgabebcagpgdgaaGreatDoorTotals.lean).
  GIVEN WITH THE SEED: the statements are not yours to turn. If you find one false, say at which input.
  Laid BY PROGRAM, IN A SANDBOX (cutbox-rows.mjs): the forced cells as the released guide's own fill.sh prints them over the translation 8557c5c4e766641c… (all of the seat's roots in one cut). By AI agents, Wed Nov 11 2026. No macro, syntax, notation, axiom, sorry.
-/
import Derived.Test.YtgabebcagpgdgaaGreatDoorChecked
import GoSem.PinnedTables
import GoSem.Claim
import GoSem.ClaimJoined
import GoSem.ClaimMapViews
import Derived.JoinedTies
import Derived.KernelRfl
namespace Go.Proofs.YtgabebcagpgdgaaGreatDoor
/- THE CELL 'sum', in the pinned program and in every row, IS THE sha256 OF THE DUMP (.gsa) THAT YtgabebcagpgdgaaGreatDoorProg.lean LOADS. Nothing in Lean hashes anything: it is a label: what it is worth is what the hold of that sum in a sandbox is worth. -/
noncomputable def Tryz.pinned : Pinned := { name := "ytgabebcagpgdgaagreatdoor", sum := "8557c5c4e766641c67c1412f79acfd93a410c572ea0680d9ab6d504f00211693", checked := Tryz.checked }
namespace Rows
def none {H : Type} : Left H := { results := [], args := [] }

/- WHAT THE LISTED PACKAGE-LEVEL VARIABLES READ AS WHEN THE CALL BEGINS. Each datum BY PROGRAM (the guide's laid-datum.mjs) off the statement by which the dump's own 'gosem.cut.vars' lays the variable. In a bare row this is a premise. The card (YtgabebcagpgdgaaGreatDoorCards.lean) ties it to the program's text. -/
def laid_unicode_utf8_acceptRanges {H : Type} : DataW H := .agg [.agg [.lit (.int .u8 128), .lit (.int .u8 191)], .agg [.lit (.int .u8 160), .lit (.int .u8 191)], .agg [.lit (.int .u8 128), .lit (.int .u8 159)], .agg [.lit (.int .u8 144), .lit (.int .u8 191)], .agg [.lit (.int .u8 128), .lit (.int .u8 143)], .agg [.lit (.int .u8 0), .lit (.int .u8 0)], .agg [.lit (.int .u8 0), .lit (.int .u8 0)], .agg [.lit (.int .u8 0), .lit (.int .u8 0)], .agg [.lit (.int .u8 0), .lit (.int .u8 0)], .agg [.lit (.int .u8 0), .lit (.int .u8 0)], .agg [.lit (.int .u8 0), .lit (.int .u8 0)], .agg [.lit (.int .u8 0), .lit (.int .u8 0)], .agg [.lit (.int .u8 0), .lit (.int .u8 0)], .agg [.lit (.int .u8 0), .lit (.int .u8 0)], .agg [.lit (.int .u8 0), .lit (.int .u8 0)], .agg [.lit (.int .u8 0), .lit (.int .u8 0)]]
/-- One of Go's own tables, pinned by name: the form's constant. -/
def laid_unicode_utf8_first : DataW Unit := Go.Pinned.utf8First

/-- 'laws.FnSchemaStands': WHATEVER THE INPUT: true; the input reads as it did. -/
def fnSchemaStandsSpec : ChangeSpec := { name := "fnSchemaStands", fn := fun _ => fun
  | [d] => { results := [.lit (.bool true)], args := [d] }
  | _ => none }
def fnSchemaStandsRow : OpenClaim := { program := "ytgabebcagpgdgaagreatdoor", sum := "8557c5c4e766641c67c1412f79acfd93a410c572ea0680d9ab6d504f00211693", func := "loop.example/wireforms/laws.FnSchemaStands", spec := "fnSchemaStands", inPlace := ["internal/bytealg.IndexByteString", "internal/bytealg.IndexString", "internal/bytealg.CountString", "internal/abi.NoEscape", "internal/bytealg.MakeNoZero"], recurses := true, named := ["internal/bytealg.MaxLen", "unicode/utf8.first", "unicode/utf8.acceptRanges"], apart := false, laid := [("unicode/utf8.acceptRanges", laid_unicode_utf8_acceptRanges), ("unicode/utf8.first", laid_unicode_utf8_first)] }
def FnSchemaStandsSaid : Prop := fnSchemaStandsRow.holds Tryz.pinned (OpenSpec.ofChange fnSchemaStandsSpec)

/-- ITS FALSE NEIGHBOUR: 'it returns false'. Refute it at one input. -/
def fnSchemaStandsWrong : ChangeSpec := { name := "fnSchemaStands", fn := fun _ => fun
  | [d] => { results := [.lit (.bool false)], args := [d] }
  | _ => none }
def FnSchemaStandsWrongFalsely : Prop := fnSchemaStandsRow.holds Tryz.pinned (OpenSpec.ofChange fnSchemaStandsWrong)

/-- 'laws.FnExactPathGet': WHATEVER THE INPUT: true; the input reads as it did. -/
def fnExactPathGetSpec : ChangeSpec := { name := "fnExactPathGet", fn := fun _ => fun
  | [d1, d2, d3, d4] => { results := [.lit (.bool true)], args := [d1, d2, d3, d4] }
  | _ => none }
def fnExactPathGetRow : OpenClaim := { program := "ytgabebcagpgdgaagreatdoor", sum := "8557c5c4e766641c67c1412f79acfd93a410c572ea0680d9ab6d504f00211693", func := "loop.example/wireforms/laws.FnExactPathGet", spec := "fnExactPathGet", inPlace := ["internal/bytealg.IndexByteString", "internal/bytealg.IndexString", "internal/bytealg.CountString", "internal/abi.NoEscape", "internal/bytealg.MakeNoZero"], recurses := true, named := ["internal/bytealg.MaxLen", "unicode/utf8.first", "unicode/utf8.acceptRanges"], apart := false, laid := [("unicode/utf8.acceptRanges", laid_unicode_utf8_acceptRanges), ("unicode/utf8.first", laid_unicode_utf8_first)] }
def FnExactPathGetSaid : Prop := fnExactPathGetRow.holds Tryz.pinned (OpenSpec.ofChange fnExactPathGetSpec)

/-- ITS FALSE NEIGHBOUR: 'it returns false'. Refute it at one input. -/
def fnExactPathGetWrong : ChangeSpec := { name := "fnExactPathGet", fn := fun _ => fun
  | [d1, d2, d3, d4] => { results := [.lit (.bool false)], args := [d1, d2, d3, d4] }
  | _ => none }
def FnExactPathGetWrongFalsely : Prop := fnExactPathGetRow.holds Tryz.pinned (OpenSpec.ofChange fnExactPathGetWrong)

/-- 'laws.FnValueOk': WHATEVER THE INPUT: true; the input reads as it did. -/
def fnValueOkSpec : ChangeSpec := { name := "fnValueOk", fn := fun _ => fun
  | [d] => { results := [.lit (.bool true)], args := [d] }
  | _ => none }
def fnValueOkRow : OpenClaim := { program := "ytgabebcagpgdgaagreatdoor", sum := "8557c5c4e766641c67c1412f79acfd93a410c572ea0680d9ab6d504f00211693", func := "loop.example/wireforms/laws.FnValueOk", spec := "fnValueOk", inPlace := ["internal/bytealg.IndexByteString", "internal/bytealg.IndexString", "internal/bytealg.CountString", "internal/abi.NoEscape", "internal/bytealg.MakeNoZero"], recurses := true, named := ["internal/bytealg.MaxLen", "unicode/utf8.first", "unicode/utf8.acceptRanges"], apart := false, laid := [("unicode/utf8.acceptRanges", laid_unicode_utf8_acceptRanges), ("unicode/utf8.first", laid_unicode_utf8_first)] }
def FnValueOkSaid : Prop := fnValueOkRow.holds Tryz.pinned (OpenSpec.ofChange fnValueOkSpec)

/-- ITS FALSE NEIGHBOUR: 'it returns false'. Refute it at one input. -/
def fnValueOkWrong : ChangeSpec := { name := "fnValueOk", fn := fun _ => fun
  | [d] => { results := [.lit (.bool false)], args := [d] }
  | _ => none }
def FnValueOkWrongFalsely : Prop := fnValueOkRow.holds Tryz.pinned (OpenSpec.ofChange fnValueOkWrong)

/-- 'laws.FnExactPathSet': WHATEVER THE INPUT: true; the input reads as it did. -/
def fnExactPathSetSpec : ChangeSpec := { name := "fnExactPathSet", fn := fun _ => fun
  | [d1, d2, d3, d4, d5] => { results := [.lit (.bool true)], args := [d1, d2, d3, d4, d5] }
  | _ => none }
def fnExactPathSetRow : OpenClaim := { program := "ytgabebcagpgdgaagreatdoor", sum := "8557c5c4e766641c67c1412f79acfd93a410c572ea0680d9ab6d504f00211693", func := "loop.example/wireforms/laws.FnExactPathSet", spec := "fnExactPathSet", inPlace := ["internal/bytealg.IndexByteString", "internal/bytealg.IndexString", "internal/bytealg.CountString", "internal/abi.NoEscape", "internal/bytealg.MakeNoZero"], unfollowed := true, recurses := true, named := ["internal/bytealg.MaxLen", "unicode/utf8.first", "unicode/utf8.acceptRanges"], apart := false, laid := [("unicode/utf8.acceptRanges", laid_unicode_utf8_acceptRanges), ("unicode/utf8.first", laid_unicode_utf8_first)] }
def FnExactPathSetSaid : Prop := fnExactPathSetRow.holds Tryz.pinned (OpenSpec.ofChange fnExactPathSetSpec)

/-- ITS FALSE NEIGHBOUR: 'it returns false'. Refute it at one input. -/
def fnExactPathSetWrong : ChangeSpec := { name := "fnExactPathSet", fn := fun _ => fun
  | [d1, d2, d3, d4, d5] => { results := [.lit (.bool false)], args := [d1, d2, d3, d4, d5] }
  | _ => none }
def FnExactPathSetWrongFalsely : Prop := fnExactPathSetRow.holds Tryz.pinned (OpenSpec.ofChange fnExactPathSetWrong)

/-- 'laws.FnValueLess': WHATEVER THE INPUT: true; the input reads as it did. -/
def fnValueLessSpec : ChangeSpec := { name := "fnValueLess", fn := fun _ => fun
  | [d] => { results := [.lit (.bool true)], args := [d] }
  | _ => none }
def fnValueLessRow : OpenClaim := { program := "ytgabebcagpgdgaagreatdoor", sum := "8557c5c4e766641c67c1412f79acfd93a410c572ea0680d9ab6d504f00211693", func := "loop.example/wireforms/laws.FnValueLess", spec := "fnValueLess", inPlace := ["internal/bytealg.IndexByteString", "internal/bytealg.IndexString", "internal/bytealg.CountString", "internal/abi.NoEscape", "internal/bytealg.MakeNoZero"], unfollowed := true, recurses := true, named := ["internal/bytealg.MaxLen", "unicode/utf8.first", "unicode/utf8.acceptRanges"], apart := false, laid := [("unicode/utf8.acceptRanges", laid_unicode_utf8_acceptRanges), ("unicode/utf8.first", laid_unicode_utf8_first)] }
def FnValueLessSaid : Prop := fnValueLessRow.holds Tryz.pinned (OpenSpec.ofChange fnValueLessSpec)

/-- ITS FALSE NEIGHBOUR: 'it returns false'. Refute it at one input. -/
def fnValueLessWrong : ChangeSpec := { name := "fnValueLess", fn := fun _ => fun
  | [d] => { results := [.lit (.bool false)], args := [d] }
  | _ => none }
def FnValueLessWrongFalsely : Prop := fnValueLessRow.holds Tryz.pinned (OpenSpec.ofChange fnValueLessWrong)

/- THE SECOND FORM. 'bulk': how many values and letters a reading holds, each counted each time it is reached (what is shared counts as often as it is met; a slice's spare places count too). A statement '..UptoSaid' is the law's where the arguments, and the package variables that the reading takes, are together of bulk at most 1048576: NARROWER than '..Said'. Prove '..Said' where nothing that the law and all that it calls make is longer than what came in: it says more and counts as full. Else prove '..UptoSaid'. A law counts once. -/
mutual
def uptoBulk {H : Type} : DataW H → Nat
  | .lit (.string bytes) => bytes.length + 1
  | .lit _ => 1
  | .nil => 1
  | .ptr d => uptoBulk d + 1
  | .slice elems spare => uptoBulkAll elems + uptoBulkAll spare + 1
  | .agg parts => uptoBulkAll parts + 1
  | .iface _ d => uptoBulk d + 1
  | .map entries => uptoBulkEntries entries + 1
  | .held _ => 1
def uptoBulkAll {H : Type} : List (DataW H) → Nat
  | [] => 0
  | d :: r => uptoBulk d + uptoBulkAll r
def uptoBulkEntries {H : Type} : List (Lit × DataW H) → Nat
  | [] => 0
  | x :: r => uptoBulkEntry x + uptoBulkEntries r
def uptoBulkEntry {H : Type} : Lit × DataW H → Nat
  | (.string bytes, d) => bytes.length + uptoBulk d + 1
  | (_, d) => uptoBulk d + 1
 end
def uptoSmall : (H : Type) → List (DataW H) → Bool := fun _ ds => decide (uptoBulkAll ds ≤ 1048576)
def OpenSpec.upto (s : _root_.Go.ChangeSpec) : _root_.Go.OpenSpec := { _root_.Go.OpenSpec.ofChange s with cond := some uptoSmall }

/-- 'laws.FnSchemaStands', WHERE WHAT IT READS IS OF BULK AT MOST 1048576: true; the input reads as it did. -/
def fnSchemaStandsUptoRow : OpenClaim := { program := "ytgabebcagpgdgaagreatdoor", sum := "8557c5c4e766641c67c1412f79acfd93a410c572ea0680d9ab6d504f00211693", func := "loop.example/wireforms/laws.FnSchemaStands", spec := "fnSchemaStands", inPlace := ["internal/bytealg.IndexByteString", "internal/bytealg.IndexString", "internal/bytealg.CountString", "internal/abi.NoEscape", "internal/bytealg.MakeNoZero"], recurses := true, named := ["internal/bytealg.MaxLen", "unicode/utf8.first", "unicode/utf8.acceptRanges"], apart := false, laid := [("unicode/utf8.acceptRanges", laid_unicode_utf8_acceptRanges), ("unicode/utf8.first", laid_unicode_utf8_first)], narrowed := true }
def FnSchemaStandsUptoSaid : Prop := fnSchemaStandsUptoRow.holds Tryz.pinned (OpenSpec.upto fnSchemaStandsSpec)

/-- 'laws.FnExactPathGet', WHERE WHAT IT READS IS OF BULK AT MOST 1048576: true; the input reads as it did. -/
def fnExactPathGetUptoRow : OpenClaim := { program := "ytgabebcagpgdgaagreatdoor", sum := "8557c5c4e766641c67c1412f79acfd93a410c572ea0680d9ab6d504f00211693", func := "loop.example/wireforms/laws.FnExactPathGet", spec := "fnExactPathGet", inPlace := ["internal/bytealg.IndexByteString", "internal/bytealg.IndexString", "internal/bytealg.CountString", "internal/abi.NoEscape", "internal/bytealg.MakeNoZero"], recurses := true, named := ["internal/bytealg.MaxLen", "unicode/utf8.first", "unicode/utf8.acceptRanges"], apart := false, laid := [("unicode/utf8.acceptRanges", laid_unicode_utf8_acceptRanges), ("unicode/utf8.first", laid_unicode_utf8_first)], narrowed := true }
def FnExactPathGetUptoSaid : Prop := fnExactPathGetUptoRow.holds Tryz.pinned (OpenSpec.upto fnExactPathGetSpec)

/-- 'laws.FnValueOk', WHERE WHAT IT READS IS OF BULK AT MOST 1048576: true; the input reads as it did. -/
def fnValueOkUptoRow : OpenClaim := { program := "ytgabebcagpgdgaagreatdoor", sum := "8557c5c4e766641c67c1412f79acfd93a410c572ea0680d9ab6d504f00211693", func := "loop.example/wireforms/laws.FnValueOk", spec := "fnValueOk", inPlace := ["internal/bytealg.IndexByteString", "internal/bytealg.IndexString", "internal/bytealg.CountString", "internal/abi.NoEscape", "internal/bytealg.MakeNoZero"], recurses := true, named := ["internal/bytealg.MaxLen", "unicode/utf8.first", "unicode/utf8.acceptRanges"], apart := false, laid := [("unicode/utf8.acceptRanges", laid_unicode_utf8_acceptRanges), ("unicode/utf8.first", laid_unicode_utf8_first)], narrowed := true }
def FnValueOkUptoSaid : Prop := fnValueOkUptoRow.holds Tryz.pinned (OpenSpec.upto fnValueOkSpec)

/-- 'laws.FnExactPathSet', WHERE WHAT IT READS IS OF BULK AT MOST 1048576: true; the input reads as it did. -/
def fnExactPathSetUptoRow : OpenClaim := { program := "ytgabebcagpgdgaagreatdoor", sum := "8557c5c4e766641c67c1412f79acfd93a410c572ea0680d9ab6d504f00211693", func := "loop.example/wireforms/laws.FnExactPathSet", spec := "fnExactPathSet", inPlace := ["internal/bytealg.IndexByteString", "internal/bytealg.IndexString", "internal/bytealg.CountString", "internal/abi.NoEscape", "internal/bytealg.MakeNoZero"], unfollowed := true, recurses := true, named := ["internal/bytealg.MaxLen", "unicode/utf8.first", "unicode/utf8.acceptRanges"], apart := false, laid := [("unicode/utf8.acceptRanges", laid_unicode_utf8_acceptRanges), ("unicode/utf8.first", laid_unicode_utf8_first)], narrowed := true }
def FnExactPathSetUptoSaid : Prop := fnExactPathSetUptoRow.holds Tryz.pinned (OpenSpec.upto fnExactPathSetSpec)

/-- 'laws.FnValueLess', WHERE WHAT IT READS IS OF BULK AT MOST 1048576: true; the input reads as it did. -/
def fnValueLessUptoRow : OpenClaim := { program := "ytgabebcagpgdgaagreatdoor", sum := "8557c5c4e766641c67c1412f79acfd93a410c572ea0680d9ab6d504f00211693", func := "loop.example/wireforms/laws.FnValueLess", spec := "fnValueLess", inPlace := ["internal/bytealg.IndexByteString", "internal/bytealg.IndexString", "internal/bytealg.CountString", "internal/abi.NoEscape", "internal/bytealg.MakeNoZero"], unfollowed := true, recurses := true, named := ["internal/bytealg.MaxLen", "unicode/utf8.first", "unicode/utf8.acceptRanges"], apart := false, laid := [("unicode/utf8.acceptRanges", laid_unicode_utf8_acceptRanges), ("unicode/utf8.first", laid_unicode_utf8_first)], narrowed := true }
def FnValueLessUptoSaid : Prop := fnValueLessUptoRow.holds Tryz.pinned (OpenSpec.upto fnValueLessSpec)

end Rows
end Go.Proofs.YtgabebcagpgdgaaGreatDoor
