/-
  NARROWER THAN 'FOR EVERY INPUT', by the rows' own cells (each row's printed sentence says how): FnExactPathBytes: laid · FnExactSealGet: laid · FnExactCallGet: laid · FnExactAnswerGet: laid.
  DERIVED. THE GIVEN ROWS OF THIS SEAT. 4 by the template 'for every input the law returns true; each argument reads behind the call as it read before'; 0 by the template 'total and deterministic' (their statements: YtglhncibfmhblabGreatDoorTotals.lean).
  GIVEN WITH THE SEED: the statements are not yours to turn. If you find one false, say at which input.
  Laid BY PROGRAM, IN A SANDBOX (cutbox-rows.mjs): the forced cells as the released guide's own fill.sh prints them over the translation 6d050847217d87ef… (all of the seat's roots in one cut). By AI agents, Wed Nov 11 2026. No macro, syntax, notation, axiom, sorry.
-/
import Derived.Test.YtglhncibfmhblabGreatDoorChecked
import GoSem.PinnedTables
import GoSem.Claim
import GoSem.ClaimJoined
import GoSem.ClaimMapViews
import Derived.JoinedTies
import Derived.KernelRfl
namespace Go.Proofs.YtglhncibfmhblabGreatDoor
/- THE CELL 'sum', in the pinned program and in every row, IS THE sha256 OF THE DUMP (.gsa) THAT YtglhncibfmhblabGreatDoorProg.lean LOADS. Nothing in Lean hashes anything: it is a label: what it is worth is what the hold of that sum in a sandbox is worth. -/
noncomputable def Tryz.pinned : Pinned := { name := "ytglhncibfmhblabgreatdoor", sum := "6d050847217d87ef21201fbf9170483e9608e373bab403a63e164925ee48a3c7", checked := Tryz.checked }
namespace Rows
def none {H : Type} : Left H := { results := [], args := [] }

/- WHAT THE LISTED PACKAGE-LEVEL VARIABLES READ AS WHEN THE CALL BEGINS. Each datum BY PROGRAM (the guide's laid-datum.mjs) off the statement by which the dump's own 'gosem.cut.vars' lays the variable. In a bare row this is a premise. The card (YtglhncibfmhblabGreatDoorCards.lean) ties it to the program's text. -/
def laid_unicode_utf8_acceptRanges {H : Type} : DataW H := .agg [.agg [.lit (.int .u8 128), .lit (.int .u8 191)], .agg [.lit (.int .u8 160), .lit (.int .u8 191)], .agg [.lit (.int .u8 128), .lit (.int .u8 159)], .agg [.lit (.int .u8 144), .lit (.int .u8 191)], .agg [.lit (.int .u8 128), .lit (.int .u8 143)], .agg [.lit (.int .u8 0), .lit (.int .u8 0)], .agg [.lit (.int .u8 0), .lit (.int .u8 0)], .agg [.lit (.int .u8 0), .lit (.int .u8 0)], .agg [.lit (.int .u8 0), .lit (.int .u8 0)], .agg [.lit (.int .u8 0), .lit (.int .u8 0)], .agg [.lit (.int .u8 0), .lit (.int .u8 0)], .agg [.lit (.int .u8 0), .lit (.int .u8 0)], .agg [.lit (.int .u8 0), .lit (.int .u8 0)], .agg [.lit (.int .u8 0), .lit (.int .u8 0)], .agg [.lit (.int .u8 0), .lit (.int .u8 0)], .agg [.lit (.int .u8 0), .lit (.int .u8 0)]]
/-- One of Go's own tables, pinned by name: the form's constant. -/
def laid_unicode_utf8_first : DataW Unit := Go.Pinned.utf8First

/-- 'laws.FnExactPathBytes': WHATEVER THE INPUT: true; the input reads as it did. -/
def fnExactPathBytesSpec : ChangeSpec := { name := "fnExactPathBytes", fn := fun _ => fun
  | [d1, d2, d3, d4] => { results := [.lit (.bool true)], args := [d1, d2, d3, d4] }
  | _ => none }
def fnExactPathBytesRow : OpenClaim := { program := "ytglhncibfmhblabgreatdoor", sum := "6d050847217d87ef21201fbf9170483e9608e373bab403a63e164925ee48a3c7", func := "loop.example/wireforms/laws.FnExactPathBytes", spec := "fnExactPathBytes", inPlace := ["internal/bytealg.IndexByteString", "internal/bytealg.IndexString", "internal/bytealg.CountString", "internal/abi.NoEscape", "internal/bytealg.MakeNoZero"], unfollowed := true, recurses := true, named := ["internal/bytealg.MaxLen", "unicode/utf8.first", "unicode/utf8.acceptRanges"], apart := false, laid := [("unicode/utf8.acceptRanges", laid_unicode_utf8_acceptRanges), ("unicode/utf8.first", laid_unicode_utf8_first)] }
def FnExactPathBytesSaid : Prop := fnExactPathBytesRow.holds Tryz.pinned (OpenSpec.ofChange fnExactPathBytesSpec)

/-- ITS FALSE NEIGHBOUR: 'it returns false'. Refute it at one input. -/
def fnExactPathBytesWrong : ChangeSpec := { name := "fnExactPathBytes", fn := fun _ => fun
  | [d1, d2, d3, d4] => { results := [.lit (.bool false)], args := [d1, d2, d3, d4] }
  | _ => none }
def FnExactPathBytesWrongFalsely : Prop := fnExactPathBytesRow.holds Tryz.pinned (OpenSpec.ofChange fnExactPathBytesWrong)

/-- 'laws.FnExactSealGet': WHATEVER THE INPUT: true; the input reads as it did. -/
def fnExactSealGetSpec : ChangeSpec := { name := "fnExactSealGet", fn := fun _ => fun
  | [d1, d2, d3, d4] => { results := [.lit (.bool true)], args := [d1, d2, d3, d4] }
  | _ => none }
def fnExactSealGetRow : OpenClaim := { program := "ytglhncibfmhblabgreatdoor", sum := "6d050847217d87ef21201fbf9170483e9608e373bab403a63e164925ee48a3c7", func := "loop.example/wireforms/laws.FnExactSealGet", spec := "fnExactSealGet", inPlace := ["internal/bytealg.IndexByteString", "internal/bytealg.IndexString", "internal/bytealg.CountString", "internal/abi.NoEscape", "internal/bytealg.MakeNoZero"], unfollowed := true, recurses := true, named := ["internal/bytealg.MaxLen", "unicode/utf8.first", "unicode/utf8.acceptRanges"], apart := false, laid := [("unicode/utf8.acceptRanges", laid_unicode_utf8_acceptRanges), ("unicode/utf8.first", laid_unicode_utf8_first)] }
def FnExactSealGetSaid : Prop := fnExactSealGetRow.holds Tryz.pinned (OpenSpec.ofChange fnExactSealGetSpec)

/-- ITS FALSE NEIGHBOUR: 'it returns false'. Refute it at one input. -/
def fnExactSealGetWrong : ChangeSpec := { name := "fnExactSealGet", fn := fun _ => fun
  | [d1, d2, d3, d4] => { results := [.lit (.bool false)], args := [d1, d2, d3, d4] }
  | _ => none }
def FnExactSealGetWrongFalsely : Prop := fnExactSealGetRow.holds Tryz.pinned (OpenSpec.ofChange fnExactSealGetWrong)

/-- 'laws.FnExactCallGet': WHATEVER THE INPUT: true; the input reads as it did. -/
def fnExactCallGetSpec : ChangeSpec := { name := "fnExactCallGet", fn := fun _ => fun
  | [d1, d2] => { results := [.lit (.bool true)], args := [d1, d2] }
  | _ => none }
def fnExactCallGetRow : OpenClaim := { program := "ytglhncibfmhblabgreatdoor", sum := "6d050847217d87ef21201fbf9170483e9608e373bab403a63e164925ee48a3c7", func := "loop.example/wireforms/laws.FnExactCallGet", spec := "fnExactCallGet", inPlace := ["internal/bytealg.IndexByteString", "internal/bytealg.IndexString", "internal/bytealg.CountString", "internal/abi.NoEscape", "internal/bytealg.MakeNoZero"], unfollowed := true, recurses := true, named := ["internal/bytealg.MaxLen", "unicode/utf8.first", "unicode/utf8.acceptRanges"], apart := false, laid := [("unicode/utf8.acceptRanges", laid_unicode_utf8_acceptRanges), ("unicode/utf8.first", laid_unicode_utf8_first)] }
def FnExactCallGetSaid : Prop := fnExactCallGetRow.holds Tryz.pinned (OpenSpec.ofChange fnExactCallGetSpec)

/-- ITS FALSE NEIGHBOUR: 'it returns false'. Refute it at one input. -/
def fnExactCallGetWrong : ChangeSpec := { name := "fnExactCallGet", fn := fun _ => fun
  | [d1, d2] => { results := [.lit (.bool false)], args := [d1, d2] }
  | _ => none }
def FnExactCallGetWrongFalsely : Prop := fnExactCallGetRow.holds Tryz.pinned (OpenSpec.ofChange fnExactCallGetWrong)

/-- 'laws.FnExactAnswerGet': WHATEVER THE INPUT: true; the input reads as it did. -/
def fnExactAnswerGetSpec : ChangeSpec := { name := "fnExactAnswerGet", fn := fun _ => fun
  | [d1, d2, d3] => { results := [.lit (.bool true)], args := [d1, d2, d3] }
  | _ => none }
def fnExactAnswerGetRow : OpenClaim := { program := "ytglhncibfmhblabgreatdoor", sum := "6d050847217d87ef21201fbf9170483e9608e373bab403a63e164925ee48a3c7", func := "loop.example/wireforms/laws.FnExactAnswerGet", spec := "fnExactAnswerGet", inPlace := ["internal/bytealg.IndexByteString", "internal/bytealg.IndexString", "internal/bytealg.CountString", "internal/abi.NoEscape", "internal/bytealg.MakeNoZero"], unfollowed := true, recurses := true, named := ["internal/bytealg.MaxLen", "unicode/utf8.first", "unicode/utf8.acceptRanges"], apart := false, laid := [("unicode/utf8.acceptRanges", laid_unicode_utf8_acceptRanges), ("unicode/utf8.first", laid_unicode_utf8_first)] }
def FnExactAnswerGetSaid : Prop := fnExactAnswerGetRow.holds Tryz.pinned (OpenSpec.ofChange fnExactAnswerGetSpec)

/-- ITS FALSE NEIGHBOUR: 'it returns false'. Refute it at one input. -/
def fnExactAnswerGetWrong : ChangeSpec := { name := "fnExactAnswerGet", fn := fun _ => fun
  | [d1, d2, d3] => { results := [.lit (.bool false)], args := [d1, d2, d3] }
  | _ => none }
def FnExactAnswerGetWrongFalsely : Prop := fnExactAnswerGetRow.holds Tryz.pinned (OpenSpec.ofChange fnExactAnswerGetWrong)

/- THE SECOND FORM. 'bulk': how many values and letters a reading holds, each counted each time it is reached (what is shared counts as often as it is met; a slice's spare places count too). A statement '..UptoSaid' is the law's where the arguments, and the package variables that the reading takes, are together of bulk at most 1048576: NARROWER than '..Said'. Prove '..Said' where nothing that the law and all that it calls make is longer than what came in: it says more and counts as full. Else prove '..UptoSaid'. A law counts once. -/
mutual
def uptoBulk {H : Type} : DataW H → Nat
  | .lit (.string bytes) => bytes.length + 1
  | .lit _ => 1
  | .nil => 1
  | .ptr d => uptoBulk d + 1
  | .slice elems spare => uptoBulkAll elems + uptoBulkAll spare + 1
  | .agg parts => uptoBulkAll parts + 1
  | .iface _ d => uptoBulk d + 1
  | .map entries => uptoBulkEntries entries + 1
  | .held _ => 1
def uptoBulkAll {H : Type} : List (DataW H) → Nat
  | [] => 0
  | d :: r => uptoBulk d + uptoBulkAll r
def uptoBulkEntries {H : Type} : List (Lit × DataW H) → Nat
  | [] => 0
  | x :: r => uptoBulkEntry x + uptoBulkEntries r
def uptoBulkEntry {H : Type} : Lit × DataW H → Nat
  | (.string bytes, d) => bytes.length + uptoBulk d + 1
  | (_, d) => uptoBulk d + 1
 end
def uptoSmall : (H : Type) → List (DataW H) → Bool := fun _ ds => decide (uptoBulkAll ds ≤ 1048576)
def OpenSpec.upto (s : _root_.Go.ChangeSpec) : _root_.Go.OpenSpec := { _root_.Go.OpenSpec.ofChange s with cond := some uptoSmall }

/-- 'laws.FnExactPathBytes', WHERE WHAT IT READS IS OF BULK AT MOST 1048576: true; the input reads as it did. -/
def fnExactPathBytesUptoRow : OpenClaim := { program := "ytglhncibfmhblabgreatdoor", sum := "6d050847217d87ef21201fbf9170483e9608e373bab403a63e164925ee48a3c7", func := "loop.example/wireforms/laws.FnExactPathBytes", spec := "fnExactPathBytes", inPlace := ["internal/bytealg.IndexByteString", "internal/bytealg.IndexString", "internal/bytealg.CountString", "internal/abi.NoEscape", "internal/bytealg.MakeNoZero"], unfollowed := true, recurses := true, named := ["internal/bytealg.MaxLen", "unicode/utf8.first", "unicode/utf8.acceptRanges"], apart := false, laid := [("unicode/utf8.acceptRanges", laid_unicode_utf8_acceptRanges), ("unicode/utf8.first", laid_unicode_utf8_first)], narrowed := true }
def FnExactPathBytesUptoSaid : Prop := fnExactPathBytesUptoRow.holds Tryz.pinned (OpenSpec.upto fnExactPathBytesSpec)

/-- 'laws.FnExactSealGet', WHERE WHAT IT READS IS OF BULK AT MOST 1048576: true; the input reads as it did. -/
def fnExactSealGetUptoRow : OpenClaim := { program := "ytglhncibfmhblabgreatdoor", sum := "6d050847217d87ef21201fbf9170483e9608e373bab403a63e164925ee48a3c7", func := "loop.example/wireforms/laws.FnExactSealGet", spec := "fnExactSealGet", inPlace := ["internal/bytealg.IndexByteString", "internal/bytealg.IndexString", "internal/bytealg.CountString", "internal/abi.NoEscape", "internal/bytealg.MakeNoZero"], unfollowed := true, recurses := true, named := ["internal/bytealg.MaxLen", "unicode/utf8.first", "unicode/utf8.acceptRanges"], apart := false, laid := [("unicode/utf8.acceptRanges", laid_unicode_utf8_acceptRanges), ("unicode/utf8.first", laid_unicode_utf8_first)], narrowed := true }
def FnExactSealGetUptoSaid : Prop := fnExactSealGetUptoRow.holds Tryz.pinned (OpenSpec.upto fnExactSealGetSpec)

/-- 'laws.FnExactCallGet', WHERE WHAT IT READS IS OF BULK AT MOST 1048576: true; the input reads as it did. -/
def fnExactCallGetUptoRow : OpenClaim := { program := "ytglhncibfmhblabgreatdoor", sum := "6d050847217d87ef21201fbf9170483e9608e373bab403a63e164925ee48a3c7", func := "loop.example/wireforms/laws.FnExactCallGet", spec := "fnExactCallGet", inPlace := ["internal/bytealg.IndexByteString", "internal/bytealg.IndexString", "internal/bytealg.CountString", "internal/abi.NoEscape", "internal/bytealg.MakeNoZero"], unfollowed := true, recurses := true, named := ["internal/bytealg.MaxLen", "unicode/utf8.first", "unicode/utf8.acceptRanges"], apart := false, laid := [("unicode/utf8.acceptRanges", laid_unicode_utf8_acceptRanges), ("unicode/utf8.first", laid_unicode_utf8_first)], narrowed := true }
def FnExactCallGetUptoSaid : Prop := fnExactCallGetUptoRow.holds Tryz.pinned (OpenSpec.upto fnExactCallGetSpec)

/-- 'laws.FnExactAnswerGet', WHERE WHAT IT READS IS OF BULK AT MOST 1048576: true; the input reads as it did. -/
def fnExactAnswerGetUptoRow : OpenClaim := { program := "ytglhncibfmhblabgreatdoor", sum := "6d050847217d87ef21201fbf9170483e9608e373bab403a63e164925ee48a3c7", func := "loop.example/wireforms/laws.FnExactAnswerGet", spec := "fnExactAnswerGet", inPlace := ["internal/bytealg.IndexByteString", "internal/bytealg.IndexString", "internal/bytealg.CountString", "internal/abi.NoEscape", "internal/bytealg.MakeNoZero"], unfollowed := true, recurses := true, named := ["internal/bytealg.MaxLen", "unicode/utf8.first", "unicode/utf8.acceptRanges"], apart := false, laid := [("unicode/utf8.acceptRanges", laid_unicode_utf8_acceptRanges), ("unicode/utf8.first", laid_unicode_utf8_first)], narrowed := true }
def FnExactAnswerGetUptoSaid : Prop := fnExactAnswerGetUptoRow.holds Tryz.pinned (OpenSpec.upto fnExactAnswerGetSpec)

end Rows
end Go.Proofs.YtglhncibfmhblabGreatDoor
