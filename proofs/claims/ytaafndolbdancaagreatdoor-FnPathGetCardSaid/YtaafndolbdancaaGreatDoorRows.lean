/-
  NARROWER THAN 'FOR EVERY INPUT', by the rows' own cells (each row's printed sentence says how): FnExactKeyBack: laid · FnKeyOf: laid · FnKeyBack: laid · FnPathGet: laid · FnPathTwo: laid.
  DERIVED. THE GIVEN ROWS OF THIS SEAT. 5 by the template 'for every input the law returns true; each argument reads behind the call as it read before'; 0 by the template 'total and deterministic' (their statements: YtaafndolbdancaaGreatDoorTotals.lean).
  GIVEN WITH THE SEED: the statements are not yours to turn. If you find one false, say at which input.
  Laid BY PROGRAM, IN A SANDBOX (cutbox-rows.mjs): the forced cells as the released guide's own fill.sh prints them over the translation 71d1b283d49fc3a7… (all of the seat's roots in one cut). By AI agents, Wed Nov 11 2026. No macro, syntax, notation, axiom, sorry.
-/
import Derived.Test.YtaafndolbdancaaGreatDoorChecked
import GoSem.PinnedTables
import GoSem.Claim
import GoSem.ClaimJoined
import GoSem.ClaimMapViews
import Derived.JoinedTies
import Derived.KernelRfl
namespace Go.Proofs.YtaafndolbdancaaGreatDoor
/- THE CELL 'sum', in the pinned program and in every row, IS THE sha256 OF THE DUMP (.gsa) THAT YtaafndolbdancaaGreatDoorProg.lean LOADS. Nothing in Lean hashes anything: it is a label: what it is worth is what the hold of that sum in a sandbox is worth. -/
noncomputable def Tryz.pinned : Pinned := { name := "ytaafndolbdancaagreatdoor", sum := "71d1b283d49fc3a7262515af09019699de9304df41fbd3a2fa84feac310a1e95", checked := Tryz.checked }
namespace Rows
def none {H : Type} : Left H := { results := [], args := [] }

/- WHAT THE LISTED PACKAGE-LEVEL VARIABLES READ AS WHEN THE CALL BEGINS. Each datum BY PROGRAM (the guide's laid-datum.mjs) off the statement by which the dump's own 'gosem.cut.vars' lays the variable. In a bare row this is a premise. The card (YtaafndolbdancaaGreatDoorCards.lean) ties it to the program's text. -/
def laid_unicode_utf8_acceptRanges {H : Type} : DataW H := .agg [.agg [.lit (.int .u8 128), .lit (.int .u8 191)], .agg [.lit (.int .u8 160), .lit (.int .u8 191)], .agg [.lit (.int .u8 128), .lit (.int .u8 159)], .agg [.lit (.int .u8 144), .lit (.int .u8 191)], .agg [.lit (.int .u8 128), .lit (.int .u8 143)], .agg [.lit (.int .u8 0), .lit (.int .u8 0)], .agg [.lit (.int .u8 0), .lit (.int .u8 0)], .agg [.lit (.int .u8 0), .lit (.int .u8 0)], .agg [.lit (.int .u8 0), .lit (.int .u8 0)], .agg [.lit (.int .u8 0), .lit (.int .u8 0)], .agg [.lit (.int .u8 0), .lit (.int .u8 0)], .agg [.lit (.int .u8 0), .lit (.int .u8 0)], .agg [.lit (.int .u8 0), .lit (.int .u8 0)], .agg [.lit (.int .u8 0), .lit (.int .u8 0)], .agg [.lit (.int .u8 0), .lit (.int .u8 0)], .agg [.lit (.int .u8 0), .lit (.int .u8 0)]]
/-- One of Go's own tables, pinned by name: the form's constant. -/
def laid_unicode_utf8_first : DataW Unit := Go.Pinned.utf8First

/-- 'laws.FnExactKeyBack': WHATEVER THE INPUT: true; the input reads as it did. -/
def fnExactKeyBackSpec : ChangeSpec := { name := "fnExactKeyBack", fn := fun _ => fun
  | [d1, d2, d3] => { results := [.lit (.bool true)], args := [d1, d2, d3] }
  | _ => none }
def fnExactKeyBackRow : OpenClaim := { program := "ytaafndolbdancaagreatdoor", sum := "71d1b283d49fc3a7262515af09019699de9304df41fbd3a2fa84feac310a1e95", func := "loop.example/wireforms/laws.FnExactKeyBack", spec := "fnExactKeyBack", inPlace := ["internal/bytealg.IndexByteString", "internal/bytealg.IndexString", "internal/bytealg.CountString", "internal/abi.NoEscape", "internal/bytealg.MakeNoZero"], unfollowed := true, recurses := true, named := ["internal/bytealg.MaxLen", "unicode/utf8.first", "unicode/utf8.acceptRanges"], apart := false, laid := [("unicode/utf8.acceptRanges", laid_unicode_utf8_acceptRanges), ("unicode/utf8.first", laid_unicode_utf8_first)] }
def FnExactKeyBackSaid : Prop := fnExactKeyBackRow.holds Tryz.pinned (OpenSpec.ofChange fnExactKeyBackSpec)

/-- ITS FALSE NEIGHBOUR: 'it returns false'. Refute it at one input. -/
def fnExactKeyBackWrong : ChangeSpec := { name := "fnExactKeyBack", fn := fun _ => fun
  | [d1, d2, d3] => { results := [.lit (.bool false)], args := [d1, d2, d3] }
  | _ => none }
def FnExactKeyBackWrongFalsely : Prop := fnExactKeyBackRow.holds Tryz.pinned (OpenSpec.ofChange fnExactKeyBackWrong)

/-- 'laws.FnKeyOf': WHATEVER THE INPUT: true; the input reads as it did. -/
def fnKeyOfSpec : ChangeSpec := { name := "fnKeyOf", fn := fun _ => fun
  | [d] => { results := [.lit (.bool true)], args := [d] }
  | _ => none }
def fnKeyOfRow : OpenClaim := { program := "ytaafndolbdancaagreatdoor", sum := "71d1b283d49fc3a7262515af09019699de9304df41fbd3a2fa84feac310a1e95", func := "loop.example/wireforms/laws.FnKeyOf", spec := "fnKeyOf", inPlace := ["internal/bytealg.IndexByteString", "internal/bytealg.IndexString", "internal/bytealg.CountString", "internal/abi.NoEscape", "internal/bytealg.MakeNoZero"], unfollowed := true, recurses := true, named := ["internal/bytealg.MaxLen", "unicode/utf8.first", "unicode/utf8.acceptRanges"], apart := false, laid := [("unicode/utf8.acceptRanges", laid_unicode_utf8_acceptRanges), ("unicode/utf8.first", laid_unicode_utf8_first)] }
def FnKeyOfSaid : Prop := fnKeyOfRow.holds Tryz.pinned (OpenSpec.ofChange fnKeyOfSpec)

/-- ITS FALSE NEIGHBOUR: 'it returns false'. Refute it at one input. -/
def fnKeyOfWrong : ChangeSpec := { name := "fnKeyOf", fn := fun _ => fun
  | [d] => { results := [.lit (.bool false)], args := [d] }
  | _ => none }
def FnKeyOfWrongFalsely : Prop := fnKeyOfRow.holds Tryz.pinned (OpenSpec.ofChange fnKeyOfWrong)

/-- 'laws.FnKeyBack': WHATEVER THE INPUT: true; the input reads as it did. -/
def fnKeyBackSpec : ChangeSpec := { name := "fnKeyBack", fn := fun _ => fun
  | [d] => { results := [.lit (.bool true)], args := [d] }
  | _ => none }
def fnKeyBackRow : OpenClaim := { program := "ytaafndolbdancaagreatdoor", sum := "71d1b283d49fc3a7262515af09019699de9304df41fbd3a2fa84feac310a1e95", func := "loop.example/wireforms/laws.FnKeyBack", spec := "fnKeyBack", inPlace := ["internal/bytealg.IndexByteString", "internal/bytealg.IndexString", "internal/bytealg.CountString", "internal/abi.NoEscape", "internal/bytealg.MakeNoZero"], unfollowed := true, recurses := true, named := ["internal/bytealg.MaxLen", "unicode/utf8.first", "unicode/utf8.acceptRanges"], apart := false, laid := [("unicode/utf8.acceptRanges", laid_unicode_utf8_acceptRanges), ("unicode/utf8.first", laid_unicode_utf8_first)] }
def FnKeyBackSaid : Prop := fnKeyBackRow.holds Tryz.pinned (OpenSpec.ofChange fnKeyBackSpec)

/-- ITS FALSE NEIGHBOUR: 'it returns false'. Refute it at one input. -/
def fnKeyBackWrong : ChangeSpec := { name := "fnKeyBack", fn := fun _ => fun
  | [d] => { results := [.lit (.bool false)], args := [d] }
  | _ => none }
def FnKeyBackWrongFalsely : Prop := fnKeyBackRow.holds Tryz.pinned (OpenSpec.ofChange fnKeyBackWrong)

/-- 'laws.FnPathGet': WHATEVER THE INPUT: true; the input reads as it did. -/
def fnPathGetSpec : ChangeSpec := { name := "fnPathGet", fn := fun _ => fun
  | [d] => { results := [.lit (.bool true)], args := [d] }
  | _ => none }
def fnPathGetRow : OpenClaim := { program := "ytaafndolbdancaagreatdoor", sum := "71d1b283d49fc3a7262515af09019699de9304df41fbd3a2fa84feac310a1e95", func := "loop.example/wireforms/laws.FnPathGet", spec := "fnPathGet", inPlace := ["internal/bytealg.IndexByteString", "internal/bytealg.IndexString", "internal/bytealg.CountString", "internal/abi.NoEscape", "internal/bytealg.MakeNoZero"], unfollowed := true, recurses := true, named := ["internal/bytealg.MaxLen", "unicode/utf8.first", "unicode/utf8.acceptRanges"], apart := false, laid := [("unicode/utf8.acceptRanges", laid_unicode_utf8_acceptRanges), ("unicode/utf8.first", laid_unicode_utf8_first)] }
def FnPathGetSaid : Prop := fnPathGetRow.holds Tryz.pinned (OpenSpec.ofChange fnPathGetSpec)

/-- ITS FALSE NEIGHBOUR: 'it returns false'. Refute it at one input. -/
def fnPathGetWrong : ChangeSpec := { name := "fnPathGet", fn := fun _ => fun
  | [d] => { results := [.lit (.bool false)], args := [d] }
  | _ => none }
def FnPathGetWrongFalsely : Prop := fnPathGetRow.holds Tryz.pinned (OpenSpec.ofChange fnPathGetWrong)

/-- 'laws.FnPathTwo': WHATEVER THE INPUT: true; the input reads as it did. -/
def fnPathTwoSpec : ChangeSpec := { name := "fnPathTwo", fn := fun _ => fun
  | [d] => { results := [.lit (.bool true)], args := [d] }
  | _ => none }
def fnPathTwoRow : OpenClaim := { program := "ytaafndolbdancaagreatdoor", sum := "71d1b283d49fc3a7262515af09019699de9304df41fbd3a2fa84feac310a1e95", func := "loop.example/wireforms/laws.FnPathTwo", spec := "fnPathTwo", inPlace := ["internal/bytealg.IndexByteString", "internal/bytealg.IndexString", "internal/bytealg.CountString", "internal/abi.NoEscape", "internal/bytealg.MakeNoZero"], recurses := true, named := ["internal/bytealg.MaxLen", "unicode/utf8.first", "unicode/utf8.acceptRanges"], apart := false, laid := [("unicode/utf8.acceptRanges", laid_unicode_utf8_acceptRanges), ("unicode/utf8.first", laid_unicode_utf8_first)] }
def FnPathTwoSaid : Prop := fnPathTwoRow.holds Tryz.pinned (OpenSpec.ofChange fnPathTwoSpec)

/-- ITS FALSE NEIGHBOUR: 'it returns false'. Refute it at one input. -/
def fnPathTwoWrong : ChangeSpec := { name := "fnPathTwo", fn := fun _ => fun
  | [d] => { results := [.lit (.bool false)], args := [d] }
  | _ => none }
def FnPathTwoWrongFalsely : Prop := fnPathTwoRow.holds Tryz.pinned (OpenSpec.ofChange fnPathTwoWrong)

/- THE SECOND FORM. 'bulk': how many values and letters a reading holds, each counted each time it is reached (what is shared counts as often as it is met; a slice's spare places count too). A statement '..UptoSaid' is the law's where the arguments, and the package variables that the reading takes, are together of bulk at most 1048576: NARROWER than '..Said'. Prove '..Said' where nothing that the law and all that it calls make is longer than what came in: it says more and counts as full. Else prove '..UptoSaid'. A law counts once. -/
mutual
def uptoBulk {H : Type} : DataW H → Nat
  | .lit (.string bytes) => bytes.length + 1
  | .lit _ => 1
  | .nil => 1
  | .ptr d => uptoBulk d + 1
  | .slice elems spare => uptoBulkAll elems + uptoBulkAll spare + 1
  | .agg parts => uptoBulkAll parts + 1
  | .iface _ d => uptoBulk d + 1
  | .map entries => uptoBulkEntries entries + 1
  | .held _ => 1
def uptoBulkAll {H : Type} : List (DataW H) → Nat
  | [] => 0
  | d :: r => uptoBulk d + uptoBulkAll r
def uptoBulkEntries {H : Type} : List (Lit × DataW H) → Nat
  | [] => 0
  | x :: r => uptoBulkEntry x + uptoBulkEntries r
def uptoBulkEntry {H : Type} : Lit × DataW H → Nat
  | (.string bytes, d) => bytes.length + uptoBulk d + 1
  | (_, d) => uptoBulk d + 1
 end
def uptoSmall : (H : Type) → List (DataW H) → Bool := fun _ ds => decide (uptoBulkAll ds ≤ 1048576)
def OpenSpec.upto (s : _root_.Go.ChangeSpec) : _root_.Go.OpenSpec := { _root_.Go.OpenSpec.ofChange s with cond := some uptoSmall }

/-- 'laws.FnExactKeyBack', WHERE WHAT IT READS IS OF BULK AT MOST 1048576: true; the input reads as it did. -/
def fnExactKeyBackUptoRow : OpenClaim := { program := "ytaafndolbdancaagreatdoor", sum := "71d1b283d49fc3a7262515af09019699de9304df41fbd3a2fa84feac310a1e95", func := "loop.example/wireforms/laws.FnExactKeyBack", spec := "fnExactKeyBack", inPlace := ["internal/bytealg.IndexByteString", "internal/bytealg.IndexString", "internal/bytealg.CountString", "internal/abi.NoEscape", "internal/bytealg.MakeNoZero"], unfollowed := true, recurses := true, named := ["internal/bytealg.MaxLen", "unicode/utf8.first", "unicode/utf8.acceptRanges"], apart := false, laid := [("unicode/utf8.acceptRanges", laid_unicode_utf8_acceptRanges), ("unicode/utf8.first", laid_unicode_utf8_first)], narrowed := true }
def FnExactKeyBackUptoSaid : Prop := fnExactKeyBackUptoRow.holds Tryz.pinned (OpenSpec.upto fnExactKeyBackSpec)

/-- 'laws.FnKeyOf', WHERE WHAT IT READS IS OF BULK AT MOST 1048576: true; the input reads as it did. -/
def fnKeyOfUptoRow : OpenClaim := { program := "ytaafndolbdancaagreatdoor", sum := "71d1b283d49fc3a7262515af09019699de9304df41fbd3a2fa84feac310a1e95", func := "loop.example/wireforms/laws.FnKeyOf", spec := "fnKeyOf", inPlace := ["internal/bytealg.IndexByteString", "internal/bytealg.IndexString", "internal/bytealg.CountString", "internal/abi.NoEscape", "internal/bytealg.MakeNoZero"], unfollowed := true, recurses := true, named := ["internal/bytealg.MaxLen", "unicode/utf8.first", "unicode/utf8.acceptRanges"], apart := false, laid := [("unicode/utf8.acceptRanges", laid_unicode_utf8_acceptRanges), ("unicode/utf8.first", laid_unicode_utf8_first)], narrowed := true }
def FnKeyOfUptoSaid : Prop := fnKeyOfUptoRow.holds Tryz.pinned (OpenSpec.upto fnKeyOfSpec)

/-- 'laws.FnKeyBack', WHERE WHAT IT READS IS OF BULK AT MOST 1048576: true; the input reads as it did. -/
def fnKeyBackUptoRow : OpenClaim := { program := "ytaafndolbdancaagreatdoor", sum := "71d1b283d49fc3a7262515af09019699de9304df41fbd3a2fa84feac310a1e95", func := "loop.example/wireforms/laws.FnKeyBack", spec := "fnKeyBack", inPlace := ["internal/bytealg.IndexByteString", "internal/bytealg.IndexString", "internal/bytealg.CountString", "internal/abi.NoEscape", "internal/bytealg.MakeNoZero"], unfollowed := true, recurses := true, named := ["internal/bytealg.MaxLen", "unicode/utf8.first", "unicode/utf8.acceptRanges"], apart := false, laid := [("unicode/utf8.acceptRanges", laid_unicode_utf8_acceptRanges), ("unicode/utf8.first", laid_unicode_utf8_first)], narrowed := true }
def FnKeyBackUptoSaid : Prop := fnKeyBackUptoRow.holds Tryz.pinned (OpenSpec.upto fnKeyBackSpec)

/-- 'laws.FnPathGet', WHERE WHAT IT READS IS OF BULK AT MOST 1048576: true; the input reads as it did. -/
def fnPathGetUptoRow : OpenClaim := { program := "ytaafndolbdancaagreatdoor", sum := "71d1b283d49fc3a7262515af09019699de9304df41fbd3a2fa84feac310a1e95", func := "loop.example/wireforms/laws.FnPathGet", spec := "fnPathGet", inPlace := ["internal/bytealg.IndexByteString", "internal/bytealg.IndexString", "internal/bytealg.CountString", "internal/abi.NoEscape", "internal/bytealg.MakeNoZero"], unfollowed := true, recurses := true, named := ["internal/bytealg.MaxLen", "unicode/utf8.first", "unicode/utf8.acceptRanges"], apart := false, laid := [("unicode/utf8.acceptRanges", laid_unicode_utf8_acceptRanges), ("unicode/utf8.first", laid_unicode_utf8_first)], narrowed := true }
def FnPathGetUptoSaid : Prop := fnPathGetUptoRow.holds Tryz.pinned (OpenSpec.upto fnPathGetSpec)

/-- 'laws.FnPathTwo', WHERE WHAT IT READS IS OF BULK AT MOST 1048576: true; the input reads as it did. -/
def fnPathTwoUptoRow : OpenClaim := { program := "ytaafndolbdancaagreatdoor", sum := "71d1b283d49fc3a7262515af09019699de9304df41fbd3a2fa84feac310a1e95", func := "loop.example/wireforms/laws.FnPathTwo", spec := "fnPathTwo", inPlace := ["internal/bytealg.IndexByteString", "internal/bytealg.IndexString", "internal/bytealg.CountString", "internal/abi.NoEscape", "internal/bytealg.MakeNoZero"], recurses := true, named := ["internal/bytealg.MaxLen", "unicode/utf8.first", "unicode/utf8.acceptRanges"], apart := false, laid := [("unicode/utf8.acceptRanges", laid_unicode_utf8_acceptRanges), ("unicode/utf8.first", laid_unicode_utf8_first)], narrowed := true }
def FnPathTwoUptoSaid : Prop := fnPathTwoUptoRow.holds Tryz.pinned (OpenSpec.upto fnPathTwoSpec)

end Rows
end Go.Proofs.YtaafndolbdancaaGreatDoor
