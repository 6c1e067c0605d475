/-
  NARROWER THAN 'FOR EVERY INPUT', by the rows' own cells (each row's printed sentence says how): FnSealGet: laid · FnSealPut: laid · FnSealChanged: laid · FnSealKey: laid · FnPathBytes: laid · FnCallGet: laid.
  DERIVED. THE GIVEN ROWS OF THIS SEAT. 6 by the template 'for every input the law returns true; each argument reads behind the call as it read before'; 0 by the template 'total and deterministic' (their statements: YtlkjjgmfhafnaaaGreatDoorTotals.lean).
  GIVEN WITH THE SEED: the statements are not yours to turn. If you find one false, say at which input.
  Laid BY PROGRAM, IN A SANDBOX (cutbox-rows.mjs): the forced cells as the released guide's own fill.sh prints them over the translation c87f73f72522f90a… (all of the seat's roots in one cut). By AI agents, Wed Nov 11 2026. No macro, syntax, notation, axiom, sorry.
-/
import Derived.Test.YtlkjjgmfhafnaaaGreatDoorChecked
import GoSem.PinnedTables
import GoSem.Claim
import GoSem.ClaimJoined
import GoSem.ClaimMapViews
import Derived.JoinedTies
import Derived.KernelRfl
namespace Go.Proofs.YtlkjjgmfhafnaaaGreatDoor
/- THE CELL 'sum', in the pinned program and in every row, IS THE sha256 OF THE DUMP (.gsa) THAT YtlkjjgmfhafnaaaGreatDoorProg.lean LOADS. Nothing in Lean hashes anything: it is a label: what it is worth is what the hold of that sum in a sandbox is worth. -/
noncomputable def Tryz.pinned : Pinned := { name := "ytlkjjgmfhafnaaagreatdoor", sum := "c87f73f72522f90ab2734d15b52d686b006352be5937c2914661d5745e99b6c7", checked := Tryz.checked }
namespace Rows
def none {H : Type} : Left H := { results := [], args := [] }

/- WHAT THE LISTED PACKAGE-LEVEL VARIABLES READ AS WHEN THE CALL BEGINS. Each datum BY PROGRAM (the guide's laid-datum.mjs) off the statement by which the dump's own 'gosem.cut.vars' lays the variable. In a bare row this is a premise. The card (YtlkjjgmfhafnaaaGreatDoorCards.lean) ties it to the program's text. -/
def laid_unicode_utf8_acceptRanges {H : Type} : DataW H := .agg [.agg [.lit (.int .u8 128), .lit (.int .u8 191)], .agg [.lit (.int .u8 160), .lit (.int .u8 191)], .agg [.lit (.int .u8 128), .lit (.int .u8 159)], .agg [.lit (.int .u8 144), .lit (.int .u8 191)], .agg [.lit (.int .u8 128), .lit (.int .u8 143)], .agg [.lit (.int .u8 0), .lit (.int .u8 0)], .agg [.lit (.int .u8 0), .lit (.int .u8 0)], .agg [.lit (.int .u8 0), .lit (.int .u8 0)], .agg [.lit (.int .u8 0), .lit (.int .u8 0)], .agg [.lit (.int .u8 0), .lit (.int .u8 0)], .agg [.lit (.int .u8 0), .lit (.int .u8 0)], .agg [.lit (.int .u8 0), .lit (.int .u8 0)], .agg [.lit (.int .u8 0), .lit (.int .u8 0)], .agg [.lit (.int .u8 0), .lit (.int .u8 0)], .agg [.lit (.int .u8 0), .lit (.int .u8 0)], .agg [.lit (.int .u8 0), .lit (.int .u8 0)]]
/-- One of Go's own tables, pinned by name: the form's constant. -/
def laid_unicode_utf8_first : DataW Unit := Go.Pinned.utf8First

/-- 'laws.FnSealGet': WHATEVER THE INPUT: true; the input reads as it did. -/
def fnSealGetSpec : ChangeSpec := { name := "fnSealGet", fn := fun _ => fun
  | [d] => { results := [.lit (.bool true)], args := [d] }
  | _ => none }
def fnSealGetRow : OpenClaim := { program := "ytlkjjgmfhafnaaagreatdoor", sum := "c87f73f72522f90ab2734d15b52d686b006352be5937c2914661d5745e99b6c7", func := "loop.example/wireforms/laws.FnSealGet", spec := "fnSealGet", inPlace := ["internal/bytealg.IndexByteString", "internal/bytealg.IndexString", "internal/bytealg.CountString", "internal/abi.NoEscape", "internal/bytealg.MakeNoZero"], unfollowed := true, recurses := true, named := ["internal/bytealg.MaxLen", "unicode/utf8.first", "unicode/utf8.acceptRanges"], apart := false, laid := [("unicode/utf8.acceptRanges", laid_unicode_utf8_acceptRanges), ("unicode/utf8.first", laid_unicode_utf8_first)] }
def FnSealGetSaid : Prop := fnSealGetRow.holds Tryz.pinned (OpenSpec.ofChange fnSealGetSpec)

/-- ITS FALSE NEIGHBOUR: 'it returns false'. Refute it at one input. -/
def fnSealGetWrong : ChangeSpec := { name := "fnSealGet", fn := fun _ => fun
  | [d] => { results := [.lit (.bool false)], args := [d] }
  | _ => none }
def FnSealGetWrongFalsely : Prop := fnSealGetRow.holds Tryz.pinned (OpenSpec.ofChange fnSealGetWrong)

/-- 'laws.FnSealPut': WHATEVER THE INPUT: true; the input reads as it did. -/
def fnSealPutSpec : ChangeSpec := { name := "fnSealPut", fn := fun _ => fun
  | [d] => { results := [.lit (.bool true)], args := [d] }
  | _ => none }
def fnSealPutRow : OpenClaim := { program := "ytlkjjgmfhafnaaagreatdoor", sum := "c87f73f72522f90ab2734d15b52d686b006352be5937c2914661d5745e99b6c7", func := "loop.example/wireforms/laws.FnSealPut", spec := "fnSealPut", inPlace := ["internal/bytealg.IndexByteString", "internal/bytealg.IndexString", "internal/bytealg.CountString", "internal/abi.NoEscape", "internal/bytealg.MakeNoZero"], unfollowed := true, recurses := true, named := ["internal/bytealg.MaxLen", "unicode/utf8.first", "unicode/utf8.acceptRanges"], apart := false, laid := [("unicode/utf8.acceptRanges", laid_unicode_utf8_acceptRanges), ("unicode/utf8.first", laid_unicode_utf8_first)] }
def FnSealPutSaid : Prop := fnSealPutRow.holds Tryz.pinned (OpenSpec.ofChange fnSealPutSpec)

/-- ITS FALSE NEIGHBOUR: 'it returns false'. Refute it at one input. -/
def fnSealPutWrong : ChangeSpec := { name := "fnSealPut", fn := fun _ => fun
  | [d] => { results := [.lit (.bool false)], args := [d] }
  | _ => none }
def FnSealPutWrongFalsely : Prop := fnSealPutRow.holds Tryz.pinned (OpenSpec.ofChange fnSealPutWrong)

/-- 'laws.FnSealChanged': WHATEVER THE INPUT: true; the input reads as it did. -/
def fnSealChangedSpec : ChangeSpec := { name := "fnSealChanged", fn := fun _ => fun
  | [d1, d2] => { results := [.lit (.bool true)], args := [d1, d2] }
  | _ => none }
def fnSealChangedRow : OpenClaim := { program := "ytlkjjgmfhafnaaagreatdoor", sum := "c87f73f72522f90ab2734d15b52d686b006352be5937c2914661d5745e99b6c7", func := "loop.example/wireforms/laws.FnSealChanged", spec := "fnSealChanged", inPlace := ["internal/bytealg.IndexByteString", "internal/bytealg.IndexString", "internal/bytealg.CountString", "internal/abi.NoEscape", "internal/bytealg.MakeNoZero"], unfollowed := true, recurses := true, named := ["internal/bytealg.MaxLen", "unicode/utf8.first", "unicode/utf8.acceptRanges"], apart := false, laid := [("unicode/utf8.acceptRanges", laid_unicode_utf8_acceptRanges), ("unicode/utf8.first", laid_unicode_utf8_first)] }
def FnSealChangedSaid : Prop := fnSealChangedRow.holds Tryz.pinned (OpenSpec.ofChange fnSealChangedSpec)

/-- ITS FALSE NEIGHBOUR: 'it returns false'. Refute it at one input. -/
def fnSealChangedWrong : ChangeSpec := { name := "fnSealChanged", fn := fun _ => fun
  | [d1, d2] => { results := [.lit (.bool false)], args := [d1, d2] }
  | _ => none }
def FnSealChangedWrongFalsely : Prop := fnSealChangedRow.holds Tryz.pinned (OpenSpec.ofChange fnSealChangedWrong)

/-- 'laws.FnSealKey': WHATEVER THE INPUT: true; the input reads as it did. -/
def fnSealKeySpec : ChangeSpec := { name := "fnSealKey", fn := fun _ => fun
  | [d1, d2] => { results := [.lit (.bool true)], args := [d1, d2] }
  | _ => none }
def fnSealKeyRow : OpenClaim := { program := "ytlkjjgmfhafnaaagreatdoor", sum := "c87f73f72522f90ab2734d15b52d686b006352be5937c2914661d5745e99b6c7", func := "loop.example/wireforms/laws.FnSealKey", spec := "fnSealKey", inPlace := ["internal/bytealg.IndexByteString", "internal/bytealg.IndexString", "internal/bytealg.CountString", "internal/abi.NoEscape", "internal/bytealg.MakeNoZero"], unfollowed := true, recurses := true, named := ["internal/bytealg.MaxLen", "unicode/utf8.first", "unicode/utf8.acceptRanges"], apart := false, laid := [("unicode/utf8.acceptRanges", laid_unicode_utf8_acceptRanges), ("unicode/utf8.first", laid_unicode_utf8_first)] }
def FnSealKeySaid : Prop := fnSealKeyRow.holds Tryz.pinned (OpenSpec.ofChange fnSealKeySpec)

/-- ITS FALSE NEIGHBOUR: 'it returns false'. Refute it at one input. -/
def fnSealKeyWrong : ChangeSpec := { name := "fnSealKey", fn := fun _ => fun
  | [d1, d2] => { results := [.lit (.bool false)], args := [d1, d2] }
  | _ => none }
def FnSealKeyWrongFalsely : Prop := fnSealKeyRow.holds Tryz.pinned (OpenSpec.ofChange fnSealKeyWrong)

/-- 'laws.FnPathBytes': WHATEVER THE INPUT: true; the input reads as it did. -/
def fnPathBytesSpec : ChangeSpec := { name := "fnPathBytes", fn := fun _ => fun
  | [d] => { results := [.lit (.bool true)], args := [d] }
  | _ => none }
def fnPathBytesRow : OpenClaim := { program := "ytlkjjgmfhafnaaagreatdoor", sum := "c87f73f72522f90ab2734d15b52d686b006352be5937c2914661d5745e99b6c7", func := "loop.example/wireforms/laws.FnPathBytes", spec := "fnPathBytes", inPlace := ["internal/bytealg.IndexByteString", "internal/bytealg.IndexString", "internal/bytealg.CountString", "internal/abi.NoEscape", "internal/bytealg.MakeNoZero"], unfollowed := true, recurses := true, named := ["internal/bytealg.MaxLen", "unicode/utf8.first", "unicode/utf8.acceptRanges"], apart := false, laid := [("unicode/utf8.acceptRanges", laid_unicode_utf8_acceptRanges), ("unicode/utf8.first", laid_unicode_utf8_first)] }
def FnPathBytesSaid : Prop := fnPathBytesRow.holds Tryz.pinned (OpenSpec.ofChange fnPathBytesSpec)

/-- ITS FALSE NEIGHBOUR: 'it returns false'. Refute it at one input. -/
def fnPathBytesWrong : ChangeSpec := { name := "fnPathBytes", fn := fun _ => fun
  | [d] => { results := [.lit (.bool false)], args := [d] }
  | _ => none }
def FnPathBytesWrongFalsely : Prop := fnPathBytesRow.holds Tryz.pinned (OpenSpec.ofChange fnPathBytesWrong)

/-- 'laws.FnCallGet': WHATEVER THE INPUT: true; the input reads as it did. -/
def fnCallGetSpec : ChangeSpec := { name := "fnCallGet", fn := fun _ => fun
  | [d] => { results := [.lit (.bool true)], args := [d] }
  | _ => none }
def fnCallGetRow : OpenClaim := { program := "ytlkjjgmfhafnaaagreatdoor", sum := "c87f73f72522f90ab2734d15b52d686b006352be5937c2914661d5745e99b6c7", func := "loop.example/wireforms/laws.FnCallGet", spec := "fnCallGet", inPlace := ["internal/bytealg.IndexByteString", "internal/bytealg.IndexString", "internal/bytealg.CountString", "internal/abi.NoEscape", "internal/bytealg.MakeNoZero"], unfollowed := true, recurses := true, named := ["internal/bytealg.MaxLen", "unicode/utf8.first", "unicode/utf8.acceptRanges"], apart := false, laid := [("unicode/utf8.acceptRanges", laid_unicode_utf8_acceptRanges), ("unicode/utf8.first", laid_unicode_utf8_first)] }
def FnCallGetSaid : Prop := fnCallGetRow.holds Tryz.pinned (OpenSpec.ofChange fnCallGetSpec)

/-- ITS FALSE NEIGHBOUR: 'it returns false'. Refute it at one input. -/
def fnCallGetWrong : ChangeSpec := { name := "fnCallGet", fn := fun _ => fun
  | [d] => { results := [.lit (.bool false)], args := [d] }
  | _ => none }
def FnCallGetWrongFalsely : Prop := fnCallGetRow.holds Tryz.pinned (OpenSpec.ofChange fnCallGetWrong)

/- THE SECOND FORM. 'bulk': how many values and letters a reading holds, each counted each time it is reached (what is shared counts as often as it is met; a slice's spare places count too). A statement '..UptoSaid' is the law's where the arguments, and the package variables that the reading takes, are together of bulk at most 1048576: NARROWER than '..Said'. Prove '..Said' where nothing that the law and all that it calls make is longer than what came in: it says more and counts as full. Else prove '..UptoSaid'. A law counts once. -/
mutual
def uptoBulk {H : Type} : DataW H → Nat
  | .lit (.string bytes) => bytes.length + 1
  | .lit _ => 1
  | .nil => 1
  | .ptr d => uptoBulk d + 1
  | .slice elems spare => uptoBulkAll elems + uptoBulkAll spare + 1
  | .agg parts => uptoBulkAll parts + 1
  | .iface _ d => uptoBulk d + 1
  | .map entries => uptoBulkEntries entries + 1
  | .held _ => 1
def uptoBulkAll {H : Type} : List (DataW H) → Nat
  | [] => 0
  | d :: r => uptoBulk d + uptoBulkAll r
def uptoBulkEntries {H : Type} : List (Lit × DataW H) → Nat
  | [] => 0
  | x :: r => uptoBulkEntry x + uptoBulkEntries r
def uptoBulkEntry {H : Type} : Lit × DataW H → Nat
  | (.string bytes, d) => bytes.length + uptoBulk d + 1
  | (_, d) => uptoBulk d + 1
 end
def uptoSmall : (H : Type) → List (DataW H) → Bool := fun _ ds => decide (uptoBulkAll ds ≤ 1048576)
def OpenSpec.upto (s : _root_.Go.ChangeSpec) : _root_.Go.OpenSpec := { _root_.Go.OpenSpec.ofChange s with cond := some uptoSmall }

/-- 'laws.FnSealGet', WHERE WHAT IT READS IS OF BULK AT MOST 1048576: true; the input reads as it did. -/
def fnSealGetUptoRow : OpenClaim := { program := "ytlkjjgmfhafnaaagreatdoor", sum := "c87f73f72522f90ab2734d15b52d686b006352be5937c2914661d5745e99b6c7", func := "loop.example/wireforms/laws.FnSealGet", spec := "fnSealGet", inPlace := ["internal/bytealg.IndexByteString", "internal/bytealg.IndexString", "internal/bytealg.CountString", "internal/abi.NoEscape", "internal/bytealg.MakeNoZero"], unfollowed := true, recurses := true, named := ["internal/bytealg.MaxLen", "unicode/utf8.first", "unicode/utf8.acceptRanges"], apart := false, laid := [("unicode/utf8.acceptRanges", laid_unicode_utf8_acceptRanges), ("unicode/utf8.first", laid_unicode_utf8_first)], narrowed := true }
def FnSealGetUptoSaid : Prop := fnSealGetUptoRow.holds Tryz.pinned (OpenSpec.upto fnSealGetSpec)

/-- 'laws.FnSealPut', WHERE WHAT IT READS IS OF BULK AT MOST 1048576: true; the input reads as it did. -/
def fnSealPutUptoRow : OpenClaim := { program := "ytlkjjgmfhafnaaagreatdoor", sum := "c87f73f72522f90ab2734d15b52d686b006352be5937c2914661d5745e99b6c7", func := "loop.example/wireforms/laws.FnSealPut", spec := "fnSealPut", inPlace := ["internal/bytealg.IndexByteString", "internal/bytealg.IndexString", "internal/bytealg.CountString", "internal/abi.NoEscape", "internal/bytealg.MakeNoZero"], unfollowed := true, recurses := true, named := ["internal/bytealg.MaxLen", "unicode/utf8.first", "unicode/utf8.acceptRanges"], apart := false, laid := [("unicode/utf8.acceptRanges", laid_unicode_utf8_acceptRanges), ("unicode/utf8.first", laid_unicode_utf8_first)], narrowed := true }
def FnSealPutUptoSaid : Prop := fnSealPutUptoRow.holds Tryz.pinned (OpenSpec.upto fnSealPutSpec)

/-- 'laws.FnSealChanged', WHERE WHAT IT READS IS OF BULK AT MOST 1048576: true; the input reads as it did. -/
def fnSealChangedUptoRow : OpenClaim := { program := "ytlkjjgmfhafnaaagreatdoor", sum := "c87f73f72522f90ab2734d15b52d686b006352be5937c2914661d5745e99b6c7", func := "loop.example/wireforms/laws.FnSealChanged", spec := "fnSealChanged", inPlace := ["internal/bytealg.IndexByteString", "internal/bytealg.IndexString", "internal/bytealg.CountString", "internal/abi.NoEscape", "internal/bytealg.MakeNoZero"], unfollowed := true, recurses := true, named := ["internal/bytealg.MaxLen", "unicode/utf8.first", "unicode/utf8.acceptRanges"], apart := false, laid := [("unicode/utf8.acceptRanges", laid_unicode_utf8_acceptRanges), ("unicode/utf8.first", laid_unicode_utf8_first)], narrowed := true }
def FnSealChangedUptoSaid : Prop := fnSealChangedUptoRow.holds Tryz.pinned (OpenSpec.upto fnSealChangedSpec)

/-- 'laws.FnSealKey', WHERE WHAT IT READS IS OF BULK AT MOST 1048576: true; the input reads as it did. -/
def fnSealKeyUptoRow : OpenClaim := { program := "ytlkjjgmfhafnaaagreatdoor", sum := "c87f73f72522f90ab2734d15b52d686b006352be5937c2914661d5745e99b6c7", func := "loop.example/wireforms/laws.FnSealKey", spec := "fnSealKey", inPlace := ["internal/bytealg.IndexByteString", "internal/bytealg.IndexString", "internal/bytealg.CountString", "internal/abi.NoEscape", "internal/bytealg.MakeNoZero"], unfollowed := true, recurses := true, named := ["internal/bytealg.MaxLen", "unicode/utf8.first", "unicode/utf8.acceptRanges"], apart := false, laid := [("unicode/utf8.acceptRanges", laid_unicode_utf8_acceptRanges), ("unicode/utf8.first", laid_unicode_utf8_first)], narrowed := true }
def FnSealKeyUptoSaid : Prop := fnSealKeyUptoRow.holds Tryz.pinned (OpenSpec.upto fnSealKeySpec)

/-- 'laws.FnPathBytes', WHERE WHAT IT READS IS OF BULK AT MOST 1048576: true; the input reads as it did. -/
def fnPathBytesUptoRow : OpenClaim := { program := "ytlkjjgmfhafnaaagreatdoor", sum := "c87f73f72522f90ab2734d15b52d686b006352be5937c2914661d5745e99b6c7", func := "loop.example/wireforms/laws.FnPathBytes", spec := "fnPathBytes", inPlace := ["internal/bytealg.IndexByteString", "internal/bytealg.IndexString", "internal/bytealg.CountString", "internal/abi.NoEscape", "internal/bytealg.MakeNoZero"], unfollowed := true, recurses := true, named := ["internal/bytealg.MaxLen", "unicode/utf8.first", "unicode/utf8.acceptRanges"], apart := false, laid := [("unicode/utf8.acceptRanges", laid_unicode_utf8_acceptRanges), ("unicode/utf8.first", laid_unicode_utf8_first)], narrowed := true }
def FnPathBytesUptoSaid : Prop := fnPathBytesUptoRow.holds Tryz.pinned (OpenSpec.upto fnPathBytesSpec)

/-- 'laws.FnCallGet', WHERE WHAT IT READS IS OF BULK AT MOST 1048576: true; the input reads as it did. -/
def fnCallGetUptoRow : OpenClaim := { program := "ytlkjjgmfhafnaaagreatdoor", sum := "c87f73f72522f90ab2734d15b52d686b006352be5937c2914661d5745e99b6c7", func := "loop.example/wireforms/laws.FnCallGet", spec := "fnCallGet", inPlace := ["internal/bytealg.IndexByteString", "internal/bytealg.IndexString", "internal/bytealg.CountString", "internal/abi.NoEscape", "internal/bytealg.MakeNoZero"], unfollowed := true, recurses := true, named := ["internal/bytealg.MaxLen", "unicode/utf8.first", "unicode/utf8.acceptRanges"], apart := false, laid := [("unicode/utf8.acceptRanges", laid_unicode_utf8_acceptRanges), ("unicode/utf8.first", laid_unicode_utf8_first)], narrowed := true }
def FnCallGetUptoSaid : Prop := fnCallGetUptoRow.holds Tryz.pinned (OpenSpec.upto fnCallGetSpec)

end Rows
end Go.Proofs.YtlkjjgmfhafnaaaGreatDoor
