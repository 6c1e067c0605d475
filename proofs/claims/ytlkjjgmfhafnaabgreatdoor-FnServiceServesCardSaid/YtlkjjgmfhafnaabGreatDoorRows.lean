/-
  NARROWER THAN 'FOR EVERY INPUT', by the rows' own cells (each row's printed sentence says how): FnCallPut: laid · FnAnswerGet: laid · FnAnswerPut: laid · FnServiceReads: laid · FnServiceServes: laid.
  DERIVED. THE GIVEN ROWS OF THIS SEAT. 5 by the template 'for every input the law returns true; each argument reads behind the call as it read before'; 0 by the template 'total and deterministic' (their statements: YtlkjjgmfhafnaabGreatDoorTotals.lean).
  GIVEN WITH THE SEED: the statements are not yours to turn. If you find one false, say at which input.
  Laid BY PROGRAM, IN A SANDBOX (cutbox-rows.mjs): the forced cells as the released guide's own fill.sh prints them over the translation 63875845164b0de7… (all of the seat's roots in one cut). By AI agents, Wed Nov 11 2026. No macro, syntax, notation, axiom, sorry.
-/
import Derived.Test.YtlkjjgmfhafnaabGreatDoorChecked
import GoSem.PinnedTables
import GoSem.Claim
import GoSem.ClaimJoined
import GoSem.ClaimMapViews
import Derived.JoinedTies
import Derived.KernelRfl
namespace Go.Proofs.YtlkjjgmfhafnaabGreatDoor
/- THE CELL 'sum', in the pinned program and in every row, IS THE sha256 OF THE DUMP (.gsa) THAT YtlkjjgmfhafnaabGreatDoorProg.lean LOADS. Nothing in Lean hashes anything: it is a label: what it is worth is what the hold of that sum in a sandbox is worth. -/
noncomputable def Tryz.pinned : Pinned := { name := "ytlkjjgmfhafnaabgreatdoor", sum := "63875845164b0de7ea38b2dc51aa110112f46c9b1049ac7eb820cbd39c09ccea", checked := Tryz.checked }
namespace Rows
def none {H : Type} : Left H := { results := [], args := [] }

/- WHAT THE LISTED PACKAGE-LEVEL VARIABLES READ AS WHEN THE CALL BEGINS. Each datum BY PROGRAM (the guide's laid-datum.mjs) off the statement by which the dump's own 'gosem.cut.vars' lays the variable. In a bare row this is a premise. The card (YtlkjjgmfhafnaabGreatDoorCards.lean) ties it to the program's text. -/
def laid_unicode_utf8_acceptRanges {H : Type} : DataW H := .agg [.agg [.lit (.int .u8 128), .lit (.int .u8 191)], .agg [.lit (.int .u8 160), .lit (.int .u8 191)], .agg [.lit (.int .u8 128), .lit (.int .u8 159)], .agg [.lit (.int .u8 144), .lit (.int .u8 191)], .agg [.lit (.int .u8 128), .lit (.int .u8 143)], .agg [.lit (.int .u8 0), .lit (.int .u8 0)], .agg [.lit (.int .u8 0), .lit (.int .u8 0)], .agg [.lit (.int .u8 0), .lit (.int .u8 0)], .agg [.lit (.int .u8 0), .lit (.int .u8 0)], .agg [.lit (.int .u8 0), .lit (.int .u8 0)], .agg [.lit (.int .u8 0), .lit (.int .u8 0)], .agg [.lit (.int .u8 0), .lit (.int .u8 0)], .agg [.lit (.int .u8 0), .lit (.int .u8 0)], .agg [.lit (.int .u8 0), .lit (.int .u8 0)], .agg [.lit (.int .u8 0), .lit (.int .u8 0)], .agg [.lit (.int .u8 0), .lit (.int .u8 0)]]
/-- One of Go's own tables, pinned by name: the form's constant. -/
def laid_unicode_utf8_first : DataW Unit := Go.Pinned.utf8First

/-- 'laws.FnCallPut': WHATEVER THE INPUT: true; the input reads as it did. -/
def fnCallPutSpec : ChangeSpec := { name := "fnCallPut", fn := fun _ => fun
  | [d] => { results := [.lit (.bool true)], args := [d] }
  | _ => none }
def fnCallPutRow : OpenClaim := { program := "ytlkjjgmfhafnaabgreatdoor", sum := "63875845164b0de7ea38b2dc51aa110112f46c9b1049ac7eb820cbd39c09ccea", func := "loop.example/wireforms/laws.FnCallPut", spec := "fnCallPut", inPlace := ["internal/bytealg.IndexByteString", "internal/bytealg.IndexString", "internal/bytealg.CountString", "internal/abi.NoEscape", "internal/bytealg.MakeNoZero"], unfollowed := true, recurses := true, named := ["internal/bytealg.MaxLen", "unicode/utf8.first", "unicode/utf8.acceptRanges"], plainKeys := false, apart := false, laid := [("unicode/utf8.acceptRanges", laid_unicode_utf8_acceptRanges), ("unicode/utf8.first", laid_unicode_utf8_first)] }
def FnCallPutSaid : Prop := fnCallPutRow.holds Tryz.pinned (OpenSpec.ofChange fnCallPutSpec)

/-- ITS FALSE NEIGHBOUR: 'it returns false'. Refute it at one input. -/
def fnCallPutWrong : ChangeSpec := { name := "fnCallPut", fn := fun _ => fun
  | [d] => { results := [.lit (.bool false)], args := [d] }
  | _ => none }
def FnCallPutWrongFalsely : Prop := fnCallPutRow.holds Tryz.pinned (OpenSpec.ofChange fnCallPutWrong)

/-- 'laws.FnAnswerGet': WHATEVER THE INPUT: true; the input reads as it did. -/
def fnAnswerGetSpec : ChangeSpec := { name := "fnAnswerGet", fn := fun _ => fun
  | [d] => { results := [.lit (.bool true)], args := [d] }
  | _ => none }
def fnAnswerGetRow : OpenClaim := { program := "ytlkjjgmfhafnaabgreatdoor", sum := "63875845164b0de7ea38b2dc51aa110112f46c9b1049ac7eb820cbd39c09ccea", func := "loop.example/wireforms/laws.FnAnswerGet", spec := "fnAnswerGet", inPlace := ["internal/bytealg.IndexByteString", "internal/bytealg.IndexString", "internal/bytealg.CountString", "internal/abi.NoEscape", "internal/bytealg.MakeNoZero"], unfollowed := true, recurses := true, named := ["internal/bytealg.MaxLen", "unicode/utf8.first", "unicode/utf8.acceptRanges"], plainKeys := false, apart := false, laid := [("unicode/utf8.acceptRanges", laid_unicode_utf8_acceptRanges), ("unicode/utf8.first", laid_unicode_utf8_first)] }
def FnAnswerGetSaid : Prop := fnAnswerGetRow.holds Tryz.pinned (OpenSpec.ofChange fnAnswerGetSpec)

/-- ITS FALSE NEIGHBOUR: 'it returns false'. Refute it at one input. -/
def fnAnswerGetWrong : ChangeSpec := { name := "fnAnswerGet", fn := fun _ => fun
  | [d] => { results := [.lit (.bool false)], args := [d] }
  | _ => none }
def FnAnswerGetWrongFalsely : Prop := fnAnswerGetRow.holds Tryz.pinned (OpenSpec.ofChange fnAnswerGetWrong)

/-- 'laws.FnAnswerPut': WHATEVER THE INPUT: true; the input reads as it did. -/
def fnAnswerPutSpec : ChangeSpec := { name := "fnAnswerPut", fn := fun _ => fun
  | [d] => { results := [.lit (.bool true)], args := [d] }
  | _ => none }
def fnAnswerPutRow : OpenClaim := { program := "ytlkjjgmfhafnaabgreatdoor", sum := "63875845164b0de7ea38b2dc51aa110112f46c9b1049ac7eb820cbd39c09ccea", func := "loop.example/wireforms/laws.FnAnswerPut", spec := "fnAnswerPut", inPlace := ["internal/bytealg.IndexByteString", "internal/bytealg.IndexString", "internal/bytealg.CountString", "internal/abi.NoEscape", "internal/bytealg.MakeNoZero"], unfollowed := true, recurses := true, named := ["internal/bytealg.MaxLen", "unicode/utf8.first", "unicode/utf8.acceptRanges"], plainKeys := false, apart := false, laid := [("unicode/utf8.acceptRanges", laid_unicode_utf8_acceptRanges), ("unicode/utf8.first", laid_unicode_utf8_first)] }
def FnAnswerPutSaid : Prop := fnAnswerPutRow.holds Tryz.pinned (OpenSpec.ofChange fnAnswerPutSpec)

/-- ITS FALSE NEIGHBOUR: 'it returns false'. Refute it at one input. -/
def fnAnswerPutWrong : ChangeSpec := { name := "fnAnswerPut", fn := fun _ => fun
  | [d] => { results := [.lit (.bool false)], args := [d] }
  | _ => none }
def FnAnswerPutWrongFalsely : Prop := fnAnswerPutRow.holds Tryz.pinned (OpenSpec.ofChange fnAnswerPutWrong)

/-- 'laws.FnServiceReads': WHATEVER THE INPUT: true; the input reads as it did. -/
def fnServiceReadsSpec : ChangeSpec := { name := "fnServiceReads", fn := fun _ => fun
  | [d] => { results := [.lit (.bool true)], args := [d] }
  | _ => none }
def fnServiceReadsRow : OpenClaim := { program := "ytlkjjgmfhafnaabgreatdoor", sum := "63875845164b0de7ea38b2dc51aa110112f46c9b1049ac7eb820cbd39c09ccea", func := "loop.example/wireforms/laws.FnServiceReads", spec := "fnServiceReads", inPlace := ["internal/bytealg.IndexByteString", "internal/bytealg.IndexString", "internal/bytealg.CountString", "internal/abi.NoEscape", "internal/bytealg.MakeNoZero"], unfollowed := true, recurses := true, named := ["internal/bytealg.MaxLen", "unicode/utf8.first", "unicode/utf8.acceptRanges"], plainKeys := false, apart := false, laid := [("unicode/utf8.acceptRanges", laid_unicode_utf8_acceptRanges), ("unicode/utf8.first", laid_unicode_utf8_first)] }
def FnServiceReadsSaid : Prop := fnServiceReadsRow.holds Tryz.pinned (OpenSpec.ofChange fnServiceReadsSpec)

/-- ITS FALSE NEIGHBOUR: 'it returns false'. Refute it at one input. -/
def fnServiceReadsWrong : ChangeSpec := { name := "fnServiceReads", fn := fun _ => fun
  | [d] => { results := [.lit (.bool false)], args := [d] }
  | _ => none }
def FnServiceReadsWrongFalsely : Prop := fnServiceReadsRow.holds Tryz.pinned (OpenSpec.ofChange fnServiceReadsWrong)

/-- 'laws.FnServiceServes': WHATEVER THE INPUT: true; the input reads as it did. -/
def fnServiceServesSpec : ChangeSpec := { name := "fnServiceServes", fn := fun _ => fun
  | [d] => { results := [.lit (.bool true)], args := [d] }
  | _ => none }
def fnServiceServesRow : OpenClaim := { program := "ytlkjjgmfhafnaabgreatdoor", sum := "63875845164b0de7ea38b2dc51aa110112f46c9b1049ac7eb820cbd39c09ccea", func := "loop.example/wireforms/laws.FnServiceServes", spec := "fnServiceServes", inPlace := ["internal/bytealg.IndexByteString", "internal/bytealg.IndexString", "internal/bytealg.CountString", "internal/abi.NoEscape", "internal/bytealg.MakeNoZero"], unfollowed := true, recurses := true, named := ["internal/bytealg.MaxLen", "unicode/utf8.first", "unicode/utf8.acceptRanges"], plainKeys := false, apart := false, laid := [("unicode/utf8.acceptRanges", laid_unicode_utf8_acceptRanges), ("unicode/utf8.first", laid_unicode_utf8_first)] }
def FnServiceServesSaid : Prop := fnServiceServesRow.holds Tryz.pinned (OpenSpec.ofChange fnServiceServesSpec)

/-- ITS FALSE NEIGHBOUR: 'it returns false'. Refute it at one input. -/
def fnServiceServesWrong : ChangeSpec := { name := "fnServiceServes", fn := fun _ => fun
  | [d] => { results := [.lit (.bool false)], args := [d] }
  | _ => none }
def FnServiceServesWrongFalsely : Prop := fnServiceServesRow.holds Tryz.pinned (OpenSpec.ofChange fnServiceServesWrong)

/- THE SECOND FORM. 'bulk': how many values and letters a reading holds, each counted each time it is reached (what is shared counts as often as it is met; a slice's spare places count too). A statement '..UptoSaid' is the law's where the arguments, and the package variables that the reading takes, are together of bulk at most 1048576: NARROWER than '..Said'. Prove '..Said' where nothing that the law and all that it calls make is longer than what came in: it says more and counts as full. Else prove '..UptoSaid'. A law counts once. -/
mutual
def uptoBulk {H : Type} : DataW H → Nat
  | .lit (.string bytes) => bytes.length + 1
  | .lit _ => 1
  | .nil => 1
  | .ptr d => uptoBulk d + 1
  | .slice elems spare => uptoBulkAll elems + uptoBulkAll spare + 1
  | .agg parts => uptoBulkAll parts + 1
  | .iface _ d => uptoBulk d + 1
  | .map entries => uptoBulkEntries entries + 1
  | .held _ => 1
def uptoBulkAll {H : Type} : List (DataW H) → Nat
  | [] => 0
  | d :: r => uptoBulk d + uptoBulkAll r
def uptoBulkEntries {H : Type} : List (Lit × DataW H) → Nat
  | [] => 0
  | x :: r => uptoBulkEntry x + uptoBulkEntries r
def uptoBulkEntry {H : Type} : Lit × DataW H → Nat
  | (.string bytes, d) => bytes.length + uptoBulk d + 1
  | (_, d) => uptoBulk d + 1
 end
def uptoSmall : (H : Type) → List (DataW H) → Bool := fun _ ds => decide (uptoBulkAll ds ≤ 1048576)
def OpenSpec.upto (s : _root_.Go.ChangeSpec) : _root_.Go.OpenSpec := { _root_.Go.OpenSpec.ofChange s with cond := some uptoSmall }

/-- 'laws.FnCallPut', WHERE WHAT IT READS IS OF BULK AT MOST 1048576: true; the input reads as it did. -/
def fnCallPutUptoRow : OpenClaim := { program := "ytlkjjgmfhafnaabgreatdoor", sum := "63875845164b0de7ea38b2dc51aa110112f46c9b1049ac7eb820cbd39c09ccea", func := "loop.example/wireforms/laws.FnCallPut", spec := "fnCallPut", inPlace := ["internal/bytealg.IndexByteString", "internal/bytealg.IndexString", "internal/bytealg.CountString", "internal/abi.NoEscape", "internal/bytealg.MakeNoZero"], unfollowed := true, recurses := true, named := ["internal/bytealg.MaxLen", "unicode/utf8.first", "unicode/utf8.acceptRanges"], plainKeys := false, apart := false, laid := [("unicode/utf8.acceptRanges", laid_unicode_utf8_acceptRanges), ("unicode/utf8.first", laid_unicode_utf8_first)], narrowed := true }
def FnCallPutUptoSaid : Prop := fnCallPutUptoRow.holds Tryz.pinned (OpenSpec.upto fnCallPutSpec)

/-- 'laws.FnAnswerGet', WHERE WHAT IT READS IS OF BULK AT MOST 1048576: true; the input reads as it did. -/
def fnAnswerGetUptoRow : OpenClaim := { program := "ytlkjjgmfhafnaabgreatdoor", sum := "63875845164b0de7ea38b2dc51aa110112f46c9b1049ac7eb820cbd39c09ccea", func := "loop.example/wireforms/laws.FnAnswerGet", spec := "fnAnswerGet", inPlace := ["internal/bytealg.IndexByteString", "internal/bytealg.IndexString", "internal/bytealg.CountString", "internal/abi.NoEscape", "internal/bytealg.MakeNoZero"], unfollowed := true, recurses := true, named := ["internal/bytealg.MaxLen", "unicode/utf8.first", "unicode/utf8.acceptRanges"], plainKeys := false, apart := false, laid := [("unicode/utf8.acceptRanges", laid_unicode_utf8_acceptRanges), ("unicode/utf8.first", laid_unicode_utf8_first)], narrowed := true }
def FnAnswerGetUptoSaid : Prop := fnAnswerGetUptoRow.holds Tryz.pinned (OpenSpec.upto fnAnswerGetSpec)

/-- 'laws.FnAnswerPut', WHERE WHAT IT READS IS OF BULK AT MOST 1048576: true; the input reads as it did. -/
def fnAnswerPutUptoRow : OpenClaim := { program := "ytlkjjgmfhafnaabgreatdoor", sum := "63875845164b0de7ea38b2dc51aa110112f46c9b1049ac7eb820cbd39c09ccea", func := "loop.example/wireforms/laws.FnAnswerPut", spec := "fnAnswerPut", inPlace := ["internal/bytealg.IndexByteString", "internal/bytealg.IndexString", "internal/bytealg.CountString", "internal/abi.NoEscape", "internal/bytealg.MakeNoZero"], unfollowed := true, recurses := true, named := ["internal/bytealg.MaxLen", "unicode/utf8.first", "unicode/utf8.acceptRanges"], plainKeys := false, apart := false, laid := [("unicode/utf8.acceptRanges", laid_unicode_utf8_acceptRanges), ("unicode/utf8.first", laid_unicode_utf8_first)], narrowed := true }
def FnAnswerPutUptoSaid : Prop := fnAnswerPutUptoRow.holds Tryz.pinned (OpenSpec.upto fnAnswerPutSpec)

/-- 'laws.FnServiceReads', WHERE WHAT IT READS IS OF BULK AT MOST 1048576: true; the input reads as it did. -/
def fnServiceReadsUptoRow : OpenClaim := { program := "ytlkjjgmfhafnaabgreatdoor", sum := "63875845164b0de7ea38b2dc51aa110112f46c9b1049ac7eb820cbd39c09ccea", func := "loop.example/wireforms/laws.FnServiceReads", spec := "fnServiceReads", inPlace := ["internal/bytealg.IndexByteString", "internal/bytealg.IndexString", "internal/bytealg.CountString", "internal/abi.NoEscape", "internal/bytealg.MakeNoZero"], unfollowed := true, recurses := true, named := ["internal/bytealg.MaxLen", "unicode/utf8.first", "unicode/utf8.acceptRanges"], plainKeys := false, apart := false, laid := [("unicode/utf8.acceptRanges", laid_unicode_utf8_acceptRanges), ("unicode/utf8.first", laid_unicode_utf8_first)], narrowed := true }
def FnServiceReadsUptoSaid : Prop := fnServiceReadsUptoRow.holds Tryz.pinned (OpenSpec.upto fnServiceReadsSpec)

/-- 'laws.FnServiceServes', WHERE WHAT IT READS IS OF BULK AT MOST 1048576: true; the input reads as it did. -/
def fnServiceServesUptoRow : OpenClaim := { program := "ytlkjjgmfhafnaabgreatdoor", sum := "63875845164b0de7ea38b2dc51aa110112f46c9b1049ac7eb820cbd39c09ccea", func := "loop.example/wireforms/laws.FnServiceServes", spec := "fnServiceServes", inPlace := ["internal/bytealg.IndexByteString", "internal/bytealg.IndexString", "internal/bytealg.CountString", "internal/abi.NoEscape", "internal/bytealg.MakeNoZero"], unfollowed := true, recurses := true, named := ["internal/bytealg.MaxLen", "unicode/utf8.first", "unicode/utf8.acceptRanges"], plainKeys := false, apart := false, laid := [("unicode/utf8.acceptRanges", laid_unicode_utf8_acceptRanges), ("unicode/utf8.first", laid_unicode_utf8_first)], narrowed := true }
def FnServiceServesUptoSaid : Prop := fnServiceServesUptoRow.holds Tryz.pinned (OpenSpec.upto fnServiceServesSpec)

end Rows
end Go.Proofs.YtlkjjgmfhafnaabGreatDoor
