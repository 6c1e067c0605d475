/-
  NARROWER THAN 'FOR EVERY INPUT', by the rows' own cells (each row's printed sentence says how): FnExactCallPut: laid · FnExactAnswerPut: laid · FnExactChangesDo: laid · FnExactChangesBack: laid · FnExactKeyBack: laid.
  DERIVED. THE GIVEN ROWS OF THIS SEAT. 5 by the template 'for every input the law returns true; each argument reads behind the call as it read before'; 0 by the template 'total and deterministic' (their statements: YtlgcolngamnfiaaGreatDoorTotals.lean).
  GIVEN WITH THE SEED: the statements are not yours to turn. If you find one false, say at which input.
  Laid BY PROGRAM, IN A SANDBOX (cutbox-rows.mjs): the forced cells as the released guide's own fill.sh prints them over the translation ae15f6e304624fe9… (all of the seat's roots in one cut). By AI agents, Wed Nov 11 2026. No macro, syntax, notation, axiom, sorry.
-/
import Derived.Test.YtlgcolngamnfiaaGreatDoorChecked
import GoSem.PinnedTables
import GoSem.Claim
import GoSem.ClaimJoined
import GoSem.ClaimMapViews
import Derived.JoinedTies
import Derived.KernelRfl
namespace Go.Proofs.YtlgcolngamnfiaaGreatDoor
/- THE CELL 'sum', in the pinned program and in every row, IS THE sha256 OF THE DUMP (.gsa) THAT YtlgcolngamnfiaaGreatDoorProg.lean LOADS. Nothing in Lean hashes anything: it is a label: what it is worth is what the hold of that sum in a sandbox is worth. -/
noncomputable def Tryz.pinned : Pinned := { name := "ytlgcolngamnfiaagreatdoor", sum := "ae15f6e304624fe95a0a09700414763bca4f17fddbc5800eaa86e0b941b6c75f", checked := Tryz.checked }
namespace Rows
def none {H : Type} : Left H := { results := [], args := [] }

/- WHAT THE LISTED PACKAGE-LEVEL VARIABLES READ AS WHEN THE CALL BEGINS. Each datum BY PROGRAM (the guide's laid-datum.mjs) off the statement by which the dump's own 'gosem.cut.vars' lays the variable. In a bare row this is a premise. The card (YtlgcolngamnfiaaGreatDoorCards.lean) ties it to the program's text. -/
def laid_unicode_utf8_acceptRanges {H : Type} : DataW H := .agg [.agg [.lit (.int .u8 128), .lit (.int .u8 191)], .agg [.lit (.int .u8 160), .lit (.int .u8 191)], .agg [.lit (.int .u8 128), .lit (.int .u8 159)], .agg [.lit (.int .u8 144), .lit (.int .u8 191)], .agg [.lit (.int .u8 128), .lit (.int .u8 143)], .agg [.lit (.int .u8 0), .lit (.int .u8 0)], .agg [.lit (.int .u8 0), .lit (.int .u8 0)], .agg [.lit (.int .u8 0), .lit (.int .u8 0)], .agg [.lit (.int .u8 0), .lit (.int .u8 0)], .agg [.lit (.int .u8 0), .lit (.int .u8 0)], .agg [.lit (.int .u8 0), .lit (.int .u8 0)], .agg [.lit (.int .u8 0), .lit (.int .u8 0)], .agg [.lit (.int .u8 0), .lit (.int .u8 0)], .agg [.lit (.int .u8 0), .lit (.int .u8 0)], .agg [.lit (.int .u8 0), .lit (.int .u8 0)], .agg [.lit (.int .u8 0), .lit (.int .u8 0)]]
/-- One of Go's own tables, pinned by name: the form's constant. -/
def laid_unicode_utf8_first : DataW Unit := Go.Pinned.utf8First

/-- 'laws.FnExactCallPut': WHATEVER THE INPUT: true; the input reads as it did. -/
def fnExactCallPutSpec : ChangeSpec := { name := "fnExactCallPut", fn := fun _ => fun
  | [d1, d2, d3, d4] => { results := [.lit (.bool true)], args := [d1, d2, d3, d4] }
  | _ => none }
def fnExactCallPutRow : OpenClaim := { program := "ytlgcolngamnfiaagreatdoor", sum := "ae15f6e304624fe95a0a09700414763bca4f17fddbc5800eaa86e0b941b6c75f", func := "loop.example/wireforms/laws.FnExactCallPut", spec := "fnExactCallPut", inPlace := ["internal/bytealg.IndexByteString", "internal/bytealg.IndexString", "internal/bytealg.CountString", "internal/abi.NoEscape", "internal/bytealg.MakeNoZero"], recurses := true, named := ["internal/bytealg.MaxLen", "unicode/utf8.first", "unicode/utf8.acceptRanges"], apart := false, laid := [("unicode/utf8.acceptRanges", laid_unicode_utf8_acceptRanges), ("unicode/utf8.first", laid_unicode_utf8_first)] }
def FnExactCallPutSaid : Prop := fnExactCallPutRow.holds Tryz.pinned (OpenSpec.ofChange fnExactCallPutSpec)

/-- ITS FALSE NEIGHBOUR: 'it returns false'. Refute it at one input. -/
def fnExactCallPutWrong : ChangeSpec := { name := "fnExactCallPut", fn := fun _ => fun
  | [d1, d2, d3, d4] => { results := [.lit (.bool false)], args := [d1, d2, d3, d4] }
  | _ => none }
def FnExactCallPutWrongFalsely : Prop := fnExactCallPutRow.holds Tryz.pinned (OpenSpec.ofChange fnExactCallPutWrong)

/-- 'laws.FnExactAnswerPut': WHATEVER THE INPUT: true; the input reads as it did. -/
def fnExactAnswerPutSpec : ChangeSpec := { name := "fnExactAnswerPut", fn := fun _ => fun
  | [d1, d2, d3, d4] => { results := [.lit (.bool true)], args := [d1, d2, d3, d4] }
  | _ => none }
def fnExactAnswerPutRow : OpenClaim := { program := "ytlgcolngamnfiaagreatdoor", sum := "ae15f6e304624fe95a0a09700414763bca4f17fddbc5800eaa86e0b941b6c75f", func := "loop.example/wireforms/laws.FnExactAnswerPut", spec := "fnExactAnswerPut", inPlace := ["internal/bytealg.IndexByteString", "internal/bytealg.IndexString", "internal/bytealg.CountString", "internal/abi.NoEscape", "internal/bytealg.MakeNoZero"], recurses := true, named := ["internal/bytealg.MaxLen", "unicode/utf8.first", "unicode/utf8.acceptRanges"], apart := false, laid := [("unicode/utf8.acceptRanges", laid_unicode_utf8_acceptRanges), ("unicode/utf8.first", laid_unicode_utf8_first)] }
def FnExactAnswerPutSaid : Prop := fnExactAnswerPutRow.holds Tryz.pinned (OpenSpec.ofChange fnExactAnswerPutSpec)

/-- ITS FALSE NEIGHBOUR: 'it returns false'. Refute it at one input. -/
def fnExactAnswerPutWrong : ChangeSpec := { name := "fnExactAnswerPut", fn := fun _ => fun
  | [d1, d2, d3, d4] => { results := [.lit (.bool false)], args := [d1, d2, d3, d4] }
  | _ => none }
def FnExactAnswerPutWrongFalsely : Prop := fnExactAnswerPutRow.holds Tryz.pinned (OpenSpec.ofChange fnExactAnswerPutWrong)

/-- 'laws.FnExactChangesDo': WHATEVER THE INPUT: true; the input reads as it did. -/
def fnExactChangesDoSpec : ChangeSpec := { name := "fnExactChangesDo", fn := fun _ => fun
  | [d1, d2, d3, d4] => { results := [.lit (.bool true)], args := [d1, d2, d3, d4] }
  | _ => none }
def fnExactChangesDoRow : OpenClaim := { program := "ytlgcolngamnfiaagreatdoor", sum := "ae15f6e304624fe95a0a09700414763bca4f17fddbc5800eaa86e0b941b6c75f", func := "loop.example/wireforms/laws.FnExactChangesDo", spec := "fnExactChangesDo", inPlace := ["internal/bytealg.IndexByteString", "internal/bytealg.IndexString", "internal/bytealg.CountString", "internal/abi.NoEscape", "internal/bytealg.MakeNoZero"], unfollowed := true, recurses := true, named := ["internal/bytealg.MaxLen", "unicode/utf8.first", "unicode/utf8.acceptRanges"], apart := false, laid := [("unicode/utf8.acceptRanges", laid_unicode_utf8_acceptRanges), ("unicode/utf8.first", laid_unicode_utf8_first)] }
def FnExactChangesDoSaid : Prop := fnExactChangesDoRow.holds Tryz.pinned (OpenSpec.ofChange fnExactChangesDoSpec)

/-- ITS FALSE NEIGHBOUR: 'it returns false'. Refute it at one input. -/
def fnExactChangesDoWrong : ChangeSpec := { name := "fnExactChangesDo", fn := fun _ => fun
  | [d1, d2, d3, d4] => { results := [.lit (.bool false)], args := [d1, d2, d3, d4] }
  | _ => none }
def FnExactChangesDoWrongFalsely : Prop := fnExactChangesDoRow.holds Tryz.pinned (OpenSpec.ofChange fnExactChangesDoWrong)

/-- 'laws.FnExactChangesBack': WHATEVER THE INPUT: true; the input reads as it did. -/
def fnExactChangesBackSpec : ChangeSpec := { name := "fnExactChangesBack", fn := fun _ => fun
  | [d1, d2, d3, d4] => { results := [.lit (.bool true)], args := [d1, d2, d3, d4] }
  | _ => none }
def fnExactChangesBackRow : OpenClaim := { program := "ytlgcolngamnfiaagreatdoor", sum := "ae15f6e304624fe95a0a09700414763bca4f17fddbc5800eaa86e0b941b6c75f", func := "loop.example/wireforms/laws.FnExactChangesBack", spec := "fnExactChangesBack", inPlace := ["internal/bytealg.IndexByteString", "internal/bytealg.IndexString", "internal/bytealg.CountString", "internal/abi.NoEscape", "internal/bytealg.MakeNoZero"], unfollowed := true, recurses := true, named := ["internal/bytealg.MaxLen", "unicode/utf8.first", "unicode/utf8.acceptRanges"], apart := false, laid := [("unicode/utf8.acceptRanges", laid_unicode_utf8_acceptRanges), ("unicode/utf8.first", laid_unicode_utf8_first)] }
def FnExactChangesBackSaid : Prop := fnExactChangesBackRow.holds Tryz.pinned (OpenSpec.ofChange fnExactChangesBackSpec)

/-- ITS FALSE NEIGHBOUR: 'it returns false'. Refute it at one input. -/
def fnExactChangesBackWrong : ChangeSpec := { name := "fnExactChangesBack", fn := fun _ => fun
  | [d1, d2, d3, d4] => { results := [.lit (.bool false)], args := [d1, d2, d3, d4] }
  | _ => none }
def FnExactChangesBackWrongFalsely : Prop := fnExactChangesBackRow.holds Tryz.pinned (OpenSpec.ofChange fnExactChangesBackWrong)

/-- 'laws.FnExactKeyBack': WHATEVER THE INPUT: true; the input reads as it did. -/
def fnExactKeyBackSpec : ChangeSpec := { name := "fnExactKeyBack", fn := fun _ => fun
  | [d1, d2, d3] => { results := [.lit (.bool true)], args := [d1, d2, d3] }
  | _ => none }
def fnExactKeyBackRow : OpenClaim := { program := "ytlgcolngamnfiaagreatdoor", sum := "ae15f6e304624fe95a0a09700414763bca4f17fddbc5800eaa86e0b941b6c75f", func := "loop.example/wireforms/laws.FnExactKeyBack", spec := "fnExactKeyBack", inPlace := ["internal/bytealg.IndexByteString", "internal/bytealg.IndexString", "internal/bytealg.CountString", "internal/abi.NoEscape", "internal/bytealg.MakeNoZero"], unfollowed := true, recurses := true, named := ["internal/bytealg.MaxLen", "unicode/utf8.first", "unicode/utf8.acceptRanges"], apart := false, laid := [("unicode/utf8.acceptRanges", laid_unicode_utf8_acceptRanges), ("unicode/utf8.first", laid_unicode_utf8_first)] }
def FnExactKeyBackSaid : Prop := fnExactKeyBackRow.holds Tryz.pinned (OpenSpec.ofChange fnExactKeyBackSpec)

/-- ITS FALSE NEIGHBOUR: 'it returns false'. Refute it at one input. -/
def fnExactKeyBackWrong : ChangeSpec := { name := "fnExactKeyBack", fn := fun _ => fun
  | [d1, d2, d3] => { results := [.lit (.bool false)], args := [d1, d2, d3] }
  | _ => none }
def FnExactKeyBackWrongFalsely : Prop := fnExactKeyBackRow.holds Tryz.pinned (OpenSpec.ofChange fnExactKeyBackWrong)

/- THE SECOND FORM. 'bulk': how many values and letters a reading holds, each counted each time it is reached (what is shared counts as often as it is met; a slice's spare places count too). A statement '..UptoSaid' is the law's where the arguments, and the package variables that the reading takes, are together of bulk at most 1048576: NARROWER than '..Said'. Prove '..Said' where nothing that the law and all that it calls make is longer than what came in: it says more and counts as full. Else prove '..UptoSaid'. A law counts once. -/
mutual
def uptoBulk {H : Type} : DataW H → Nat
  | .lit (.string bytes) => bytes.length + 1
  | .lit _ => 1
  | .nil => 1
  | .ptr d => uptoBulk d + 1
  | .slice elems spare => uptoBulkAll elems + uptoBulkAll spare + 1
  | .agg parts => uptoBulkAll parts + 1
  | .iface _ d => uptoBulk d + 1
  | .map entries => uptoBulkEntries entries + 1
  | .held _ => 1
def uptoBulkAll {H : Type} : List (DataW H) → Nat
  | [] => 0
  | d :: r => uptoBulk d + uptoBulkAll r
def uptoBulkEntries {H : Type} : List (Lit × DataW H) → Nat
  | [] => 0
  | x :: r => uptoBulkEntry x + uptoBulkEntries r
def uptoBulkEntry {H : Type} : Lit × DataW H → Nat
  | (.string bytes, d) => bytes.length + uptoBulk d + 1
  | (_, d) => uptoBulk d + 1
 end
def uptoSmall : (H : Type) → List (DataW H) → Bool := fun _ ds => decide (uptoBulkAll ds ≤ 1048576)
def OpenSpec.upto (s : _root_.Go.ChangeSpec) : _root_.Go.OpenSpec := { _root_.Go.OpenSpec.ofChange s with cond := some uptoSmall }

/-- 'laws.FnExactCallPut', WHERE WHAT IT READS IS OF BULK AT MOST 1048576: true; the input reads as it did. -/
def fnExactCallPutUptoRow : OpenClaim := { program := "ytlgcolngamnfiaagreatdoor", sum := "ae15f6e304624fe95a0a09700414763bca4f17fddbc5800eaa86e0b941b6c75f", func := "loop.example/wireforms/laws.FnExactCallPut", spec := "fnExactCallPut", inPlace := ["internal/bytealg.IndexByteString", "internal/bytealg.IndexString", "internal/bytealg.CountString", "internal/abi.NoEscape", "internal/bytealg.MakeNoZero"], recurses := true, named := ["internal/bytealg.MaxLen", "unicode/utf8.first", "unicode/utf8.acceptRanges"], apart := false, laid := [("unicode/utf8.acceptRanges", laid_unicode_utf8_acceptRanges), ("unicode/utf8.first", laid_unicode_utf8_first)], narrowed := true }
def FnExactCallPutUptoSaid : Prop := fnExactCallPutUptoRow.holds Tryz.pinned (OpenSpec.upto fnExactCallPutSpec)

/-- 'laws.FnExactAnswerPut', WHERE WHAT IT READS IS OF BULK AT MOST 1048576: true; the input reads as it did. -/
def fnExactAnswerPutUptoRow : OpenClaim := { program := "ytlgcolngamnfiaagreatdoor", sum := "ae15f6e304624fe95a0a09700414763bca4f17fddbc5800eaa86e0b941b6c75f", func := "loop.example/wireforms/laws.FnExactAnswerPut", spec := "fnExactAnswerPut", inPlace := ["internal/bytealg.IndexByteString", "internal/bytealg.IndexString", "internal/bytealg.CountString", "internal/abi.NoEscape", "internal/bytealg.MakeNoZero"], recurses := true, named := ["internal/bytealg.MaxLen", "unicode/utf8.first", "unicode/utf8.acceptRanges"], apart := false, laid := [("unicode/utf8.acceptRanges", laid_unicode_utf8_acceptRanges), ("unicode/utf8.first", laid_unicode_utf8_first)], narrowed := true }
def FnExactAnswerPutUptoSaid : Prop := fnExactAnswerPutUptoRow.holds Tryz.pinned (OpenSpec.upto fnExactAnswerPutSpec)

/-- 'laws.FnExactChangesDo', WHERE WHAT IT READS IS OF BULK AT MOST 1048576: true; the input reads as it did. -/
def fnExactChangesDoUptoRow : OpenClaim := { program := "ytlgcolngamnfiaagreatdoor", sum := "ae15f6e304624fe95a0a09700414763bca4f17fddbc5800eaa86e0b941b6c75f", func := "loop.example/wireforms/laws.FnExactChangesDo", spec := "fnExactChangesDo", inPlace := ["internal/bytealg.IndexByteString", "internal/bytealg.IndexString", "internal/bytealg.CountString", "internal/abi.NoEscape", "internal/bytealg.MakeNoZero"], unfollowed := true, recurses := true, named := ["internal/bytealg.MaxLen", "unicode/utf8.first", "unicode/utf8.acceptRanges"], apart := false, laid := [("unicode/utf8.acceptRanges", laid_unicode_utf8_acceptRanges), ("unicode/utf8.first", laid_unicode_utf8_first)], narrowed := true }
def FnExactChangesDoUptoSaid : Prop := fnExactChangesDoUptoRow.holds Tryz.pinned (OpenSpec.upto fnExactChangesDoSpec)

/-- 'laws.FnExactChangesBack', WHERE WHAT IT READS IS OF BULK AT MOST 1048576: true; the input reads as it did. -/
def fnExactChangesBackUptoRow : OpenClaim := { program := "ytlgcolngamnfiaagreatdoor", sum := "ae15f6e304624fe95a0a09700414763bca4f17fddbc5800eaa86e0b941b6c75f", func := "loop.example/wireforms/laws.FnExactChangesBack", spec := "fnExactChangesBack", inPlace := ["internal/bytealg.IndexByteString", "internal/bytealg.IndexString", "internal/bytealg.CountString", "internal/abi.NoEscape", "internal/bytealg.MakeNoZero"], unfollowed := true, recurses := true, named := ["internal/bytealg.MaxLen", "unicode/utf8.first", "unicode/utf8.acceptRanges"], apart := false, laid := [("unicode/utf8.acceptRanges", laid_unicode_utf8_acceptRanges), ("unicode/utf8.first", laid_unicode_utf8_first)], narrowed := true }
def FnExactChangesBackUptoSaid : Prop := fnExactChangesBackUptoRow.holds Tryz.pinned (OpenSpec.upto fnExactChangesBackSpec)

/-- 'laws.FnExactKeyBack', WHERE WHAT IT READS IS OF BULK AT MOST 1048576: true; the input reads as it did. -/
def fnExactKeyBackUptoRow : OpenClaim := { program := "ytlgcolngamnfiaagreatdoor", sum := "ae15f6e304624fe95a0a09700414763bca4f17fddbc5800eaa86e0b941b6c75f", func := "loop.example/wireforms/laws.FnExactKeyBack", spec := "fnExactKeyBack", inPlace := ["internal/bytealg.IndexByteString", "internal/bytealg.IndexString", "internal/bytealg.CountString", "internal/abi.NoEscape", "internal/bytealg.MakeNoZero"], unfollowed := true, recurses := true, named := ["internal/bytealg.MaxLen", "unicode/utf8.first", "unicode/utf8.acceptRanges"], apart := false, laid := [("unicode/utf8.acceptRanges", laid_unicode_utf8_acceptRanges), ("unicode/utf8.first", laid_unicode_utf8_first)], narrowed := true }
def FnExactKeyBackUptoSaid : Prop := fnExactKeyBackUptoRow.holds Tryz.pinned (OpenSpec.upto fnExactKeyBackSpec)

end Rows
end Go.Proofs.YtlgcolngamnfiaaGreatDoor
