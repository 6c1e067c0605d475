/-
  No cell of these rows narrows 'for every input' (looked for: loops, veiled, ifaces, maps, wideKeys, modest, calm, conditions, laid).
  DERIVED. THE GIVEN ROWS OF THIS SEAT. 4 by the template 'for every input the law returns true; each argument reads behind the call as it read before'; 0 by the template 'total and deterministic' (their statements: YtcnkkjdnnajkbaaTotals.lean).
  GIVEN WITH THE SEED: the statements are not yours to turn. If you find one false, say at which input.
  Laid BY PROGRAM, IN A SANDBOX (cutbox-rows.mjs): the forced cells as the released guide's own fill.sh prints them over the translation 5afcd471345ac72f… (all of the seat's roots in one cut). By AI agents, Wed Nov 11 2026. No macro, syntax, notation, axiom, sorry.
-/
import Derived.Test.YtcnkkjdnnajkbaaChecked
import GoSem.Claim
import GoSem.ClaimJoined
import GoSem.ClaimMapViews
import Derived.JoinedTies
import Derived.KernelRfl
namespace Go.Proofs.Ytcnkkjdnnajkbaa
/- THE CELL 'sum', in the pinned program and in every row, IS THE sha256 OF THE DUMP (.gsa) THAT YtcnkkjdnnajkbaaProg.lean LOADS. Nothing in Lean hashes anything: it is a label: what it is worth is what the hold of that sum in a sandbox is worth. -/
noncomputable def Try.pinned : Pinned := { name := "ytcnkkjdnnajkbaa", sum := "5afcd471345ac72fa5861d249779b353afb16b1956f110d7058e3db506a3494f", checked := Try.checked }
namespace Rows
def none {H : Type} : Left H := { results := [], args := [] }

/-- 'laws.FnExactAnswerNone': WHATEVER THE INPUT: true; the input reads as it did. -/
def fnExactAnswerNoneSpec : ChangeSpec := { name := "fnExactAnswerNone", fn := fun _ => fun
  | [d] => { results := [.lit (.bool true)], args := [d] }
  | _ => none }
def fnExactAnswerNoneRow : OpenClaim := { program := "ytcnkkjdnnajkbaa", sum := "5afcd471345ac72fa5861d249779b353afb16b1956f110d7058e3db506a3494f", func := "loop.example/wireforms/laws.FnExactAnswerNone", spec := "fnExactAnswerNone", recurses := true, apart := false }
def FnExactAnswerNoneSaid : Prop := fnExactAnswerNoneRow.holds Try.pinned (OpenSpec.ofChange fnExactAnswerNoneSpec)

/-- ITS FALSE NEIGHBOUR: 'it returns false'. Refute it at one input. -/
def fnExactAnswerNoneWrong : ChangeSpec := { name := "fnExactAnswerNone", fn := fun _ => fun
  | [d] => { results := [.lit (.bool false)], args := [d] }
  | _ => none }
def FnExactAnswerNoneWrongFalsely : Prop := fnExactAnswerNoneRow.holds Try.pinned (OpenSpec.ofChange fnExactAnswerNoneWrong)

/-- 'laws.FnExactChangesApart': WHATEVER THE INPUT: true; the input reads as it did. -/
def fnExactChangesApartSpec : ChangeSpec := { name := "fnExactChangesApart", fn := fun _ => fun
  | [d1, d2] => { results := [.lit (.bool true)], args := [d1, d2] }
  | _ => none }
def fnExactChangesApartRow : OpenClaim := { program := "ytcnkkjdnnajkbaa", sum := "5afcd471345ac72fa5861d249779b353afb16b1956f110d7058e3db506a3494f", func := "loop.example/wireforms/laws.FnExactChangesApart", spec := "fnExactChangesApart", apart := false }
def FnExactChangesApartSaid : Prop := fnExactChangesApartRow.holds Try.pinned (OpenSpec.ofChange fnExactChangesApartSpec)

/-- ITS FALSE NEIGHBOUR: 'it returns false'. Refute it at one input. -/
def fnExactChangesApartWrong : ChangeSpec := { name := "fnExactChangesApart", fn := fun _ => fun
  | [d1, d2] => { results := [.lit (.bool false)], args := [d1, d2] }
  | _ => none }
def FnExactChangesApartWrongFalsely : Prop := fnExactChangesApartRow.holds Try.pinned (OpenSpec.ofChange fnExactChangesApartWrong)

/-- 'laws.FnAnswerNone': WHATEVER THE INPUT: true; the input reads as it did. -/
def fnAnswerNoneSpec : ChangeSpec := { name := "fnAnswerNone", fn := fun _ => fun
  | [d] => { results := [.lit (.bool true)], args := [d] }
  | _ => none }
def fnAnswerNoneRow : OpenClaim := { program := "ytcnkkjdnnajkbaa", sum := "5afcd471345ac72fa5861d249779b353afb16b1956f110d7058e3db506a3494f", func := "loop.example/wireforms/laws.FnAnswerNone", spec := "fnAnswerNone", recurses := true, apart := false }
def FnAnswerNoneSaid : Prop := fnAnswerNoneRow.holds Try.pinned (OpenSpec.ofChange fnAnswerNoneSpec)

/-- ITS FALSE NEIGHBOUR: 'it returns false'. Refute it at one input. -/
def fnAnswerNoneWrong : ChangeSpec := { name := "fnAnswerNone", fn := fun _ => fun
  | [d] => { results := [.lit (.bool false)], args := [d] }
  | _ => none }
def FnAnswerNoneWrongFalsely : Prop := fnAnswerNoneRow.holds Try.pinned (OpenSpec.ofChange fnAnswerNoneWrong)

/-- 'laws.FnChangesApart': WHATEVER THE INPUT: true; the input reads as it did. -/
def fnChangesApartSpec : ChangeSpec := { name := "fnChangesApart", fn := fun _ => fun
  | [d] => { results := [.lit (.bool true)], args := [d] }
  | _ => none }
def fnChangesApartRow : OpenClaim := { program := "ytcnkkjdnnajkbaa", sum := "5afcd471345ac72fa5861d249779b353afb16b1956f110d7058e3db506a3494f", func := "loop.example/wireforms/laws.FnChangesApart", spec := "fnChangesApart", recurses := true, apart := false }
def FnChangesApartSaid : Prop := fnChangesApartRow.holds Try.pinned (OpenSpec.ofChange fnChangesApartSpec)

/-- ITS FALSE NEIGHBOUR: 'it returns false'. Refute it at one input. -/
def fnChangesApartWrong : ChangeSpec := { name := "fnChangesApart", fn := fun _ => fun
  | [d] => { results := [.lit (.bool false)], args := [d] }
  | _ => none }
def FnChangesApartWrongFalsely : Prop := fnChangesApartRow.holds Try.pinned (OpenSpec.ofChange fnChangesApartWrong)

/- THE SECOND FORM. 'bulk': how many values and letters a reading holds, each counted each time it is reached (what is shared counts as often as it is met; a slice's spare places count too). A statement '..UptoSaid' is the law's where the arguments, and the package variables that the reading takes, are together of bulk at most 1048576: NARROWER than '..Said'. Prove '..Said' where nothing that the law and all that it calls make is longer than what came in: it says more and counts as full. Else prove '..UptoSaid'. A law counts once. -/
mutual
def uptoBulk {H : Type} : DataW H → Nat
  | .lit (.string bytes) => bytes.length + 1
  | .lit _ => 1
  | .nil => 1
  | .ptr d => uptoBulk d + 1
  | .slice elems spare => uptoBulkAll elems + uptoBulkAll spare + 1
  | .agg parts => uptoBulkAll parts + 1
  | .iface _ d => uptoBulk d + 1
  | .map entries => uptoBulkEntries entries + 1
  | .held _ => 1
def uptoBulkAll {H : Type} : List (DataW H) → Nat
  | [] => 0
  | d :: r => uptoBulk d + uptoBulkAll r
def uptoBulkEntries {H : Type} : List (Lit × DataW H) → Nat
  | [] => 0
  | x :: r => uptoBulkEntry x + uptoBulkEntries r
def uptoBulkEntry {H : Type} : Lit × DataW H → Nat
  | (.string bytes, d) => bytes.length + uptoBulk d + 1
  | (_, d) => uptoBulk d + 1
 end
def uptoSmall : (H : Type) → List (DataW H) → Bool := fun _ ds => decide (uptoBulkAll ds ≤ 1048576)
def OpenSpec.upto (s : _root_.Go.ChangeSpec) : _root_.Go.OpenSpec := { _root_.Go.OpenSpec.ofChange s with cond := some uptoSmall }

/-- 'laws.FnExactAnswerNone', WHERE WHAT IT READS IS OF BULK AT MOST 1048576: true; the input reads as it did. -/
def fnExactAnswerNoneUptoRow : OpenClaim := { program := "ytcnkkjdnnajkbaa", sum := "5afcd471345ac72fa5861d249779b353afb16b1956f110d7058e3db506a3494f", func := "loop.example/wireforms/laws.FnExactAnswerNone", spec := "fnExactAnswerNone", recurses := true, apart := false, narrowed := true }
def FnExactAnswerNoneUptoSaid : Prop := fnExactAnswerNoneUptoRow.holds Try.pinned (OpenSpec.upto fnExactAnswerNoneSpec)

/-- 'laws.FnExactChangesApart', WHERE WHAT IT READS IS OF BULK AT MOST 1048576: true; the input reads as it did. -/
def fnExactChangesApartUptoRow : OpenClaim := { program := "ytcnkkjdnnajkbaa", sum := "5afcd471345ac72fa5861d249779b353afb16b1956f110d7058e3db506a3494f", func := "loop.example/wireforms/laws.FnExactChangesApart", spec := "fnExactChangesApart", apart := false, narrowed := true }
def FnExactChangesApartUptoSaid : Prop := fnExactChangesApartUptoRow.holds Try.pinned (OpenSpec.upto fnExactChangesApartSpec)

/-- 'laws.FnAnswerNone', WHERE WHAT IT READS IS OF BULK AT MOST 1048576: true; the input reads as it did. -/
def fnAnswerNoneUptoRow : OpenClaim := { program := "ytcnkkjdnnajkbaa", sum := "5afcd471345ac72fa5861d249779b353afb16b1956f110d7058e3db506a3494f", func := "loop.example/wireforms/laws.FnAnswerNone", spec := "fnAnswerNone", recurses := true, apart := false, narrowed := true }
def FnAnswerNoneUptoSaid : Prop := fnAnswerNoneUptoRow.holds Try.pinned (OpenSpec.upto fnAnswerNoneSpec)

/-- 'laws.FnChangesApart', WHERE WHAT IT READS IS OF BULK AT MOST 1048576: true; the input reads as it did. -/
def fnChangesApartUptoRow : OpenClaim := { program := "ytcnkkjdnnajkbaa", sum := "5afcd471345ac72fa5861d249779b353afb16b1956f110d7058e3db506a3494f", func := "loop.example/wireforms/laws.FnChangesApart", spec := "fnChangesApart", recurses := true, apart := false, narrowed := true }
def FnChangesApartUptoSaid : Prop := fnChangesApartUptoRow.holds Try.pinned (OpenSpec.upto fnChangesApartSpec)

end Rows
end Go.Proofs.Ytcnkkjdnnajkbaa
