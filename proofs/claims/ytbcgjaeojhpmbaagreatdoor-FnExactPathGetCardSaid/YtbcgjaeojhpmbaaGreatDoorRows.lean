/-
  NARROWER THAN 'FOR EVERY INPUT', by the rows' own cells (each row's printed sentence says how): FnValueOk: laid · FnValueLess: laid · FnLessChain: laid · FnKeyOrder: laid · FnSealSame: laid · FnSealOf: laid · FnExactPathGet: laid · FnExactPathSet: laid.
  DERIVED. THE GIVEN ROWS OF THIS SEAT. 8 by the template 'for every input the law returns true; each argument reads behind the call as it read before'; 0 by the template 'total and deterministic' (their statements: YtbcgjaeojhpmbaaGreatDoorTotals.lean).
  GIVEN WITH THE SEED: the statements are not yours to turn. If you find one false, say at which input.
  Laid BY PROGRAM, IN A SANDBOX (cutbox-rows.mjs): the forced cells as the released guide's own fill.sh prints them over the translation bc467fcd77e6136c… (all of the seat's roots in one cut). By AI agents, Wed Nov 11 2026. No macro, syntax, notation, axiom, sorry.
-/
import Derived.Test.YtbcgjaeojhpmbaaGreatDoorChecked
import GoSem.PinnedTables
import GoSem.Claim
import GoSem.ClaimJoined
import GoSem.ClaimMapViews
import Derived.JoinedTies
import Derived.KernelRfl
namespace Go.Proofs.YtbcgjaeojhpmbaaGreatDoor
/- THE CELL 'sum', in the pinned program and in every row, IS THE sha256 OF THE DUMP (.gsa) THAT YtbcgjaeojhpmbaaGreatDoorProg.lean LOADS. Nothing in Lean hashes anything: it is a label: what it is worth is what the hold of that sum in a sandbox is worth. -/
noncomputable def Tryz.pinned : Pinned := { name := "ytbcgjaeojhpmbaagreatdoor", sum := "bc467fcd77e6136c24c2c907c58ed71944e06bbe5ab742c5ec6e732223c5a89d", checked := Tryz.checked }
namespace Rows
def none {H : Type} : Left H := { results := [], args := [] }

/- WHAT THE LISTED PACKAGE-LEVEL VARIABLES READ AS WHEN THE CALL BEGINS. Each datum BY PROGRAM (the guide's laid-datum.mjs) off the statement by which the dump's own 'gosem.cut.vars' lays the variable. In a bare row this is a premise. The card (YtbcgjaeojhpmbaaGreatDoorCards.lean) ties it to the program's text. -/
def laid_unicode_utf8_acceptRanges {H : Type} : DataW H := .agg [.agg [.lit (.int .u8 128), .lit (.int .u8 191)], .agg [.lit (.int .u8 160), .lit (.int .u8 191)], .agg [.lit (.int .u8 128), .lit (.int .u8 159)], .agg [.lit (.int .u8 144), .lit (.int .u8 191)], .agg [.lit (.int .u8 128), .lit (.int .u8 143)], .agg [.lit (.int .u8 0), .lit (.int .u8 0)], .agg [.lit (.int .u8 0), .lit (.int .u8 0)], .agg [.lit (.int .u8 0), .lit (.int .u8 0)], .agg [.lit (.int .u8 0), .lit (.int .u8 0)], .agg [.lit (.int .u8 0), .lit (.int .u8 0)], .agg [.lit (.int .u8 0), .lit (.int .u8 0)], .agg [.lit (.int .u8 0), .lit (.int .u8 0)], .agg [.lit (.int .u8 0), .lit (.int .u8 0)], .agg [.lit (.int .u8 0), .lit (.int .u8 0)], .agg [.lit (.int .u8 0), .lit (.int .u8 0)], .agg [.lit (.int .u8 0), .lit (.int .u8 0)]]
/-- One of Go's own tables, pinned by name: the form's constant. -/
def laid_unicode_utf8_first : DataW Unit := Go.Pinned.utf8First

/-- 'laws.FnValueOk': WHATEVER THE INPUT: true; the input reads as it did. -/
def fnValueOkSpec : ChangeSpec := { name := "fnValueOk", fn := fun _ => fun
  | [d] => { results := [.lit (.bool true)], args := [d] }
  | _ => none }
def fnValueOkRow : OpenClaim := { program := "ytbcgjaeojhpmbaagreatdoor", sum := "bc467fcd77e6136c24c2c907c58ed71944e06bbe5ab742c5ec6e732223c5a89d", func := "loop.example/wireforms/laws.FnValueOk", spec := "fnValueOk", inPlace := ["internal/bytealg.IndexByteString", "internal/bytealg.IndexString", "internal/bytealg.CountString", "internal/abi.NoEscape", "internal/bytealg.MakeNoZero"], recurses := true, named := ["internal/bytealg.MaxLen", "unicode/utf8.first", "unicode/utf8.acceptRanges"], apart := false, laid := [("unicode/utf8.acceptRanges", laid_unicode_utf8_acceptRanges), ("unicode/utf8.first", laid_unicode_utf8_first)] }
def FnValueOkSaid : Prop := fnValueOkRow.holds Tryz.pinned (OpenSpec.ofChange fnValueOkSpec)

/-- ITS FALSE NEIGHBOUR: 'it returns false'. Refute it at one input. -/
def fnValueOkWrong : ChangeSpec := { name := "fnValueOk", fn := fun _ => fun
  | [d] => { results := [.lit (.bool false)], args := [d] }
  | _ => none }
def FnValueOkWrongFalsely : Prop := fnValueOkRow.holds Tryz.pinned (OpenSpec.ofChange fnValueOkWrong)

/-- 'laws.FnValueLess': WHATEVER THE INPUT: true; the input reads as it did. -/
def fnValueLessSpec : ChangeSpec := { name := "fnValueLess", fn := fun _ => fun
  | [d] => { results := [.lit (.bool true)], args := [d] }
  | _ => none }
def fnValueLessRow : OpenClaim := { program := "ytbcgjaeojhpmbaagreatdoor", sum := "bc467fcd77e6136c24c2c907c58ed71944e06bbe5ab742c5ec6e732223c5a89d", func := "loop.example/wireforms/laws.FnValueLess", spec := "fnValueLess", inPlace := ["internal/bytealg.IndexByteString", "internal/bytealg.IndexString", "internal/bytealg.CountString", "internal/abi.NoEscape", "internal/bytealg.MakeNoZero"], unfollowed := true, recurses := true, named := ["internal/bytealg.MaxLen", "unicode/utf8.first", "unicode/utf8.acceptRanges"], apart := false, laid := [("unicode/utf8.acceptRanges", laid_unicode_utf8_acceptRanges), ("unicode/utf8.first", laid_unicode_utf8_first)] }
def FnValueLessSaid : Prop := fnValueLessRow.holds Tryz.pinned (OpenSpec.ofChange fnValueLessSpec)

/-- ITS FALSE NEIGHBOUR: 'it returns false'. Refute it at one input. -/
def fnValueLessWrong : ChangeSpec := { name := "fnValueLess", fn := fun _ => fun
  | [d] => { results := [.lit (.bool false)], args := [d] }
  | _ => none }
def FnValueLessWrongFalsely : Prop := fnValueLessRow.holds Tryz.pinned (OpenSpec.ofChange fnValueLessWrong)

/-- 'laws.FnLessChain': WHATEVER THE INPUT: true; the input reads as it did. -/
def fnLessChainSpec : ChangeSpec := { name := "fnLessChain", fn := fun _ => fun
  | [d] => { results := [.lit (.bool true)], args := [d] }
  | _ => none }
def fnLessChainRow : OpenClaim := { program := "ytbcgjaeojhpmbaagreatdoor", sum := "bc467fcd77e6136c24c2c907c58ed71944e06bbe5ab742c5ec6e732223c5a89d", func := "loop.example/wireforms/laws.FnLessChain", spec := "fnLessChain", inPlace := ["internal/bytealg.IndexByteString", "internal/bytealg.IndexString", "internal/bytealg.CountString", "internal/abi.NoEscape", "internal/bytealg.MakeNoZero"], unfollowed := true, recurses := true, named := ["internal/bytealg.MaxLen", "unicode/utf8.first", "unicode/utf8.acceptRanges"], apart := false, laid := [("unicode/utf8.acceptRanges", laid_unicode_utf8_acceptRanges), ("unicode/utf8.first", laid_unicode_utf8_first)] }
def FnLessChainSaid : Prop := fnLessChainRow.holds Tryz.pinned (OpenSpec.ofChange fnLessChainSpec)

/-- ITS FALSE NEIGHBOUR: 'it returns false'. Refute it at one input. -/
def fnLessChainWrong : ChangeSpec := { name := "fnLessChain", fn := fun _ => fun
  | [d] => { results := [.lit (.bool false)], args := [d] }
  | _ => none }
def FnLessChainWrongFalsely : Prop := fnLessChainRow.holds Tryz.pinned (OpenSpec.ofChange fnLessChainWrong)

/-- 'laws.FnKeyOrder': WHATEVER THE INPUT: true; the input reads as it did. -/
def fnKeyOrderSpec : ChangeSpec := { name := "fnKeyOrder", fn := fun _ => fun
  | [d] => { results := [.lit (.bool true)], args := [d] }
  | _ => none }
def fnKeyOrderRow : OpenClaim := { program := "ytbcgjaeojhpmbaagreatdoor", sum := "bc467fcd77e6136c24c2c907c58ed71944e06bbe5ab742c5ec6e732223c5a89d", func := "loop.example/wireforms/laws.FnKeyOrder", spec := "fnKeyOrder", inPlace := ["internal/bytealg.IndexByteString", "internal/bytealg.IndexString", "internal/bytealg.CountString", "internal/abi.NoEscape", "internal/bytealg.MakeNoZero"], unfollowed := true, recurses := true, named := ["internal/bytealg.MaxLen", "unicode/utf8.first", "unicode/utf8.acceptRanges"], apart := false, laid := [("unicode/utf8.acceptRanges", laid_unicode_utf8_acceptRanges), ("unicode/utf8.first", laid_unicode_utf8_first)] }
def FnKeyOrderSaid : Prop := fnKeyOrderRow.holds Tryz.pinned (OpenSpec.ofChange fnKeyOrderSpec)

/-- ITS FALSE NEIGHBOUR: 'it returns false'. Refute it at one input. -/
def fnKeyOrderWrong : ChangeSpec := { name := "fnKeyOrder", fn := fun _ => fun
  | [d] => { results := [.lit (.bool false)], args := [d] }
  | _ => none }
def FnKeyOrderWrongFalsely : Prop := fnKeyOrderRow.holds Tryz.pinned (OpenSpec.ofChange fnKeyOrderWrong)

/-- 'laws.FnSealSame': WHATEVER THE INPUT: true; the input reads as it did. -/
def fnSealSameSpec : ChangeSpec := { name := "fnSealSame", fn := fun _ => fun
  | [d] => { results := [.lit (.bool true)], args := [d] }
  | _ => none }
def fnSealSameRow : OpenClaim := { program := "ytbcgjaeojhpmbaagreatdoor", sum := "bc467fcd77e6136c24c2c907c58ed71944e06bbe5ab742c5ec6e732223c5a89d", func := "loop.example/wireforms/laws.FnSealSame", spec := "fnSealSame", inPlace := ["internal/bytealg.IndexByteString", "internal/bytealg.IndexString", "internal/bytealg.CountString", "internal/abi.NoEscape", "internal/bytealg.MakeNoZero"], recurses := true, named := ["internal/bytealg.MaxLen", "unicode/utf8.first", "unicode/utf8.acceptRanges"], apart := false, laid := [("unicode/utf8.acceptRanges", laid_unicode_utf8_acceptRanges), ("unicode/utf8.first", laid_unicode_utf8_first)] }
def FnSealSameSaid : Prop := fnSealSameRow.holds Tryz.pinned (OpenSpec.ofChange fnSealSameSpec)

/-- ITS FALSE NEIGHBOUR: 'it returns false'. Refute it at one input. -/
def fnSealSameWrong : ChangeSpec := { name := "fnSealSame", fn := fun _ => fun
  | [d] => { results := [.lit (.bool false)], args := [d] }
  | _ => none }
def FnSealSameWrongFalsely : Prop := fnSealSameRow.holds Tryz.pinned (OpenSpec.ofChange fnSealSameWrong)

/-- 'laws.FnSealOf': WHATEVER THE INPUT: true; the input reads as it did. -/
def fnSealOfSpec : ChangeSpec := { name := "fnSealOf", fn := fun _ => fun
  | [d] => { results := [.lit (.bool true)], args := [d] }
  | _ => none }
def fnSealOfRow : OpenClaim := { program := "ytbcgjaeojhpmbaagreatdoor", sum := "bc467fcd77e6136c24c2c907c58ed71944e06bbe5ab742c5ec6e732223c5a89d", func := "loop.example/wireforms/laws.FnSealOf", spec := "fnSealOf", inPlace := ["internal/bytealg.IndexByteString", "internal/bytealg.IndexString", "internal/bytealg.CountString", "internal/abi.NoEscape", "internal/bytealg.MakeNoZero"], recurses := true, named := ["internal/bytealg.MaxLen", "unicode/utf8.first", "unicode/utf8.acceptRanges"], apart := false, laid := [("unicode/utf8.acceptRanges", laid_unicode_utf8_acceptRanges), ("unicode/utf8.first", laid_unicode_utf8_first)] }
def FnSealOfSaid : Prop := fnSealOfRow.holds Tryz.pinned (OpenSpec.ofChange fnSealOfSpec)

/-- ITS FALSE NEIGHBOUR: 'it returns false'. Refute it at one input. -/
def fnSealOfWrong : ChangeSpec := { name := "fnSealOf", fn := fun _ => fun
  | [d] => { results := [.lit (.bool false)], args := [d] }
  | _ => none }
def FnSealOfWrongFalsely : Prop := fnSealOfRow.holds Tryz.pinned (OpenSpec.ofChange fnSealOfWrong)

/-- 'laws.FnExactPathGet': WHATEVER THE INPUT: true; the input reads as it did. -/
def fnExactPathGetSpec : ChangeSpec := { name := "fnExactPathGet", fn := fun _ => fun
  | [d1, d2, d3, d4] => { results := [.lit (.bool true)], args := [d1, d2, d3, d4] }
  | _ => none }
def fnExactPathGetRow : OpenClaim := { program := "ytbcgjaeojhpmbaagreatdoor", sum := "bc467fcd77e6136c24c2c907c58ed71944e06bbe5ab742c5ec6e732223c5a89d", func := "loop.example/wireforms/laws.FnExactPathGet", spec := "fnExactPathGet", inPlace := ["internal/bytealg.IndexByteString", "internal/bytealg.IndexString", "internal/bytealg.CountString", "internal/abi.NoEscape", "internal/bytealg.MakeNoZero"], recurses := true, named := ["internal/bytealg.MaxLen", "unicode/utf8.first", "unicode/utf8.acceptRanges"], apart := false, laid := [("unicode/utf8.acceptRanges", laid_unicode_utf8_acceptRanges), ("unicode/utf8.first", laid_unicode_utf8_first)] }
def FnExactPathGetSaid : Prop := fnExactPathGetRow.holds Tryz.pinned (OpenSpec.ofChange fnExactPathGetSpec)

/-- ITS FALSE NEIGHBOUR: 'it returns false'. Refute it at one input. -/
def fnExactPathGetWrong : ChangeSpec := { name := "fnExactPathGet", fn := fun _ => fun
  | [d1, d2, d3, d4] => { results := [.lit (.bool false)], args := [d1, d2, d3, d4] }
  | _ => none }
def FnExactPathGetWrongFalsely : Prop := fnExactPathGetRow.holds Tryz.pinned (OpenSpec.ofChange fnExactPathGetWrong)

/-- 'laws.FnExactPathSet': WHATEVER THE INPUT: true; the input reads as it did. -/
def fnExactPathSetSpec : ChangeSpec := { name := "fnExactPathSet", fn := fun _ => fun
  | [d1, d2, d3, d4, d5] => { results := [.lit (.bool true)], args := [d1, d2, d3, d4, d5] }
  | _ => none }
def fnExactPathSetRow : OpenClaim := { program := "ytbcgjaeojhpmbaagreatdoor", sum := "bc467fcd77e6136c24c2c907c58ed71944e06bbe5ab742c5ec6e732223c5a89d", func := "loop.example/wireforms/laws.FnExactPathSet", spec := "fnExactPathSet", inPlace := ["internal/bytealg.IndexByteString", "internal/bytealg.IndexString", "internal/bytealg.CountString", "internal/abi.NoEscape", "internal/bytealg.MakeNoZero"], unfollowed := true, recurses := true, named := ["internal/bytealg.MaxLen", "unicode/utf8.first", "unicode/utf8.acceptRanges"], apart := false, laid := [("unicode/utf8.acceptRanges", laid_unicode_utf8_acceptRanges), ("unicode/utf8.first", laid_unicode_utf8_first)] }
def FnExactPathSetSaid : Prop := fnExactPathSetRow.holds Tryz.pinned (OpenSpec.ofChange fnExactPathSetSpec)

/-- ITS FALSE NEIGHBOUR: 'it returns false'. Refute it at one input. -/
def fnExactPathSetWrong : ChangeSpec := { name := "fnExactPathSet", fn := fun _ => fun
  | [d1, d2, d3, d4, d5] => { results := [.lit (.bool false)], args := [d1, d2, d3, d4, d5] }
  | _ => none }
def FnExactPathSetWrongFalsely : Prop := fnExactPathSetRow.holds Tryz.pinned (OpenSpec.ofChange fnExactPathSetWrong)

/- THE SECOND FORM. 'bulk': how many values and letters a reading holds, each counted each time it is reached (what is shared counts as often as it is met; a slice's spare places count too). A statement '..UptoSaid' is the law's where the arguments, and the package variables that the reading takes, are together of bulk at most 1048576: NARROWER than '..Said'. Prove '..Said' where nothing that the law and all that it calls make is longer than what came in: it says more and counts as full. Else prove '..UptoSaid'. A law counts once. -/
mutual
def uptoBulk {H : Type} : DataW H → Nat
  | .lit (.string bytes) => bytes.length + 1
  | .lit _ => 1
  | .nil => 1
  | .ptr d => uptoBulk d + 1
  | .slice elems spare => uptoBulkAll elems + uptoBulkAll spare + 1
  | .agg parts => uptoBulkAll parts + 1
  | .iface _ d => uptoBulk d + 1
  | .map entries => uptoBulkEntries entries + 1
  | .held _ => 1
def uptoBulkAll {H : Type} : List (DataW H) → Nat
  | [] => 0
  | d :: r => uptoBulk d + uptoBulkAll r
def uptoBulkEntries {H : Type} : List (Lit × DataW H) → Nat
  | [] => 0
  | x :: r => uptoBulkEntry x + uptoBulkEntries r
def uptoBulkEntry {H : Type} : Lit × DataW H → Nat
  | (.string bytes, d) => bytes.length + uptoBulk d + 1
  | (_, d) => uptoBulk d + 1
 end
def uptoSmall : (H : Type) → List (DataW H) → Bool := fun _ ds => decide (uptoBulkAll ds ≤ 1048576)
def OpenSpec.upto (s : _root_.Go.ChangeSpec) : _root_.Go.OpenSpec := { _root_.Go.OpenSpec.ofChange s with cond := some uptoSmall }

/-- 'laws.FnValueOk', WHERE WHAT IT READS IS OF BULK AT MOST 1048576: true; the input reads as it did. -/
def fnValueOkUptoRow : OpenClaim := { program := "ytbcgjaeojhpmbaagreatdoor", sum := "bc467fcd77e6136c24c2c907c58ed71944e06bbe5ab742c5ec6e732223c5a89d", func := "loop.example/wireforms/laws.FnValueOk", spec := "fnValueOk", inPlace := ["internal/bytealg.IndexByteString", "internal/bytealg.IndexString", "internal/bytealg.CountString", "internal/abi.NoEscape", "internal/bytealg.MakeNoZero"], recurses := true, named := ["internal/bytealg.MaxLen", "unicode/utf8.first", "unicode/utf8.acceptRanges"], apart := false, laid := [("unicode/utf8.acceptRanges", laid_unicode_utf8_acceptRanges), ("unicode/utf8.first", laid_unicode_utf8_first)], narrowed := true }
def FnValueOkUptoSaid : Prop := fnValueOkUptoRow.holds Tryz.pinned (OpenSpec.upto fnValueOkSpec)

/-- 'laws.FnValueLess', WHERE WHAT IT READS IS OF BULK AT MOST 1048576: true; the input reads as it did. -/
def fnValueLessUptoRow : OpenClaim := { program := "ytbcgjaeojhpmbaagreatdoor", sum := "bc467fcd77e6136c24c2c907c58ed71944e06bbe5ab742c5ec6e732223c5a89d", func := "loop.example/wireforms/laws.FnValueLess", spec := "fnValueLess", inPlace := ["internal/bytealg.IndexByteString", "internal/bytealg.IndexString", "internal/bytealg.CountString", "internal/abi.NoEscape", "internal/bytealg.MakeNoZero"], unfollowed := true, recurses := true, named := ["internal/bytealg.MaxLen", "unicode/utf8.first", "unicode/utf8.acceptRanges"], apart := false, laid := [("unicode/utf8.acceptRanges", laid_unicode_utf8_acceptRanges), ("unicode/utf8.first", laid_unicode_utf8_first)], narrowed := true }
def FnValueLessUptoSaid : Prop := fnValueLessUptoRow.holds Tryz.pinned (OpenSpec.upto fnValueLessSpec)

/-- 'laws.FnLessChain', WHERE WHAT IT READS IS OF BULK AT MOST 1048576: true; the input reads as it did. -/
def fnLessChainUptoRow : OpenClaim := { program := "ytbcgjaeojhpmbaagreatdoor", sum := "bc467fcd77e6136c24c2c907c58ed71944e06bbe5ab742c5ec6e732223c5a89d", func := "loop.example/wireforms/laws.FnLessChain", spec := "fnLessChain", inPlace := ["internal/bytealg.IndexByteString", "internal/bytealg.IndexString", "internal/bytealg.CountString", "internal/abi.NoEscape", "internal/bytealg.MakeNoZero"], unfollowed := true, recurses := true, named := ["internal/bytealg.MaxLen", "unicode/utf8.first", "unicode/utf8.acceptRanges"], apart := false, laid := [("unicode/utf8.acceptRanges", laid_unicode_utf8_acceptRanges), ("unicode/utf8.first", laid_unicode_utf8_first)], narrowed := true }
def FnLessChainUptoSaid : Prop := fnLessChainUptoRow.holds Tryz.pinned (OpenSpec.upto fnLessChainSpec)

/-- 'laws.FnKeyOrder', WHERE WHAT IT READS IS OF BULK AT MOST 1048576: true; the input reads as it did. -/
def fnKeyOrderUptoRow : OpenClaim := { program := "ytbcgjaeojhpmbaagreatdoor", sum := "bc467fcd77e6136c24c2c907c58ed71944e06bbe5ab742c5ec6e732223c5a89d", func := "loop.example/wireforms/laws.FnKeyOrder", spec := "fnKeyOrder", inPlace := ["internal/bytealg.IndexByteString", "internal/bytealg.IndexString", "internal/bytealg.CountString", "internal/abi.NoEscape", "internal/bytealg.MakeNoZero"], unfollowed := true, recurses := true, named := ["internal/bytealg.MaxLen", "unicode/utf8.first", "unicode/utf8.acceptRanges"], apart := false, laid := [("unicode/utf8.acceptRanges", laid_unicode_utf8_acceptRanges), ("unicode/utf8.first", laid_unicode_utf8_first)], narrowed := true }
def FnKeyOrderUptoSaid : Prop := fnKeyOrderUptoRow.holds Tryz.pinned (OpenSpec.upto fnKeyOrderSpec)

/-- 'laws.FnSealSame', WHERE WHAT IT READS IS OF BULK AT MOST 1048576: true; the input reads as it did. -/
def fnSealSameUptoRow : OpenClaim := { program := "ytbcgjaeojhpmbaagreatdoor", sum := "bc467fcd77e6136c24c2c907c58ed71944e06bbe5ab742c5ec6e732223c5a89d", func := "loop.example/wireforms/laws.FnSealSame", spec := "fnSealSame", inPlace := ["internal/bytealg.IndexByteString", "internal/bytealg.IndexString", "internal/bytealg.CountString", "internal/abi.NoEscape", "internal/bytealg.MakeNoZero"], recurses := true, named := ["internal/bytealg.MaxLen", "unicode/utf8.first", "unicode/utf8.acceptRanges"], apart := false, laid := [("unicode/utf8.acceptRanges", laid_unicode_utf8_acceptRanges), ("unicode/utf8.first", laid_unicode_utf8_first)], narrowed := true }
def FnSealSameUptoSaid : Prop := fnSealSameUptoRow.holds Tryz.pinned (OpenSpec.upto fnSealSameSpec)

/-- 'laws.FnSealOf', WHERE WHAT IT READS IS OF BULK AT MOST 1048576: true; the input reads as it did. -/
def fnSealOfUptoRow : OpenClaim := { program := "ytbcgjaeojhpmbaagreatdoor", sum := "bc467fcd77e6136c24c2c907c58ed71944e06bbe5ab742c5ec6e732223c5a89d", func := "loop.example/wireforms/laws.FnSealOf", spec := "fnSealOf", inPlace := ["internal/bytealg.IndexByteString", "internal/bytealg.IndexString", "internal/bytealg.CountString", "internal/abi.NoEscape", "internal/bytealg.MakeNoZero"], recurses := true, named := ["internal/bytealg.MaxLen", "unicode/utf8.first", "unicode/utf8.acceptRanges"], apart := false, laid := [("unicode/utf8.acceptRanges", laid_unicode_utf8_acceptRanges), ("unicode/utf8.first", laid_unicode_utf8_first)], narrowed := true }
def FnSealOfUptoSaid : Prop := fnSealOfUptoRow.holds Tryz.pinned (OpenSpec.upto fnSealOfSpec)

/-- 'laws.FnExactPathGet', WHERE WHAT IT READS IS OF BULK AT MOST 1048576: true; the input reads as it did. -/
def fnExactPathGetUptoRow : OpenClaim := { program := "ytbcgjaeojhpmbaagreatdoor", sum := "bc467fcd77e6136c24c2c907c58ed71944e06bbe5ab742c5ec6e732223c5a89d", func := "loop.example/wireforms/laws.FnExactPathGet", spec := "fnExactPathGet", inPlace := ["internal/bytealg.IndexByteString", "internal/bytealg.IndexString", "internal/bytealg.CountString", "internal/abi.NoEscape", "internal/bytealg.MakeNoZero"], recurses := true, named := ["internal/bytealg.MaxLen", "unicode/utf8.first", "unicode/utf8.acceptRanges"], apart := false, laid := [("unicode/utf8.acceptRanges", laid_unicode_utf8_acceptRanges), ("unicode/utf8.first", laid_unicode_utf8_first)], narrowed := true }
def FnExactPathGetUptoSaid : Prop := fnExactPathGetUptoRow.holds Tryz.pinned (OpenSpec.upto fnExactPathGetSpec)

/-- 'laws.FnExactPathSet', WHERE WHAT IT READS IS OF BULK AT MOST 1048576: true; the input reads as it did. -/
def fnExactPathSetUptoRow : OpenClaim := { program := "ytbcgjaeojhpmbaagreatdoor", sum := "bc467fcd77e6136c24c2c907c58ed71944e06bbe5ab742c5ec6e732223c5a89d", func := "loop.example/wireforms/laws.FnExactPathSet", spec := "fnExactPathSet", inPlace := ["internal/bytealg.IndexByteString", "internal/bytealg.IndexString", "internal/bytealg.CountString", "internal/abi.NoEscape", "internal/bytealg.MakeNoZero"], unfollowed := true, recurses := true, named := ["internal/bytealg.MaxLen", "unicode/utf8.first", "unicode/utf8.acceptRanges"], apart := false, laid := [("unicode/utf8.acceptRanges", laid_unicode_utf8_acceptRanges), ("unicode/utf8.first", laid_unicode_utf8_first)], narrowed := true }
def FnExactPathSetUptoSaid : Prop := fnExactPathSetUptoRow.holds Tryz.pinned (OpenSpec.upto fnExactPathSetSpec)

end Rows
end Go.Proofs.YtbcgjaeojhpmbaaGreatDoor
