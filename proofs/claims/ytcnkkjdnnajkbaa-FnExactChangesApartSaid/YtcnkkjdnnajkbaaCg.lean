/- Lists of changes that come in as arguments. Conditions: none. -/
import Derived.Test.YtcnkkjdnnajkbaaCf
import Derived.Test.YtcnkkjdnnajkbaaEngM
namespace Go.E
open Go.Proofs
set_option maxRecDepth 100000 in
theorem open_chs {H : Type} {enc : TypeId × Value → H} {w : World} {base base' : Nat} {spare : Nat → Bool} {held : Bool} {v : Value} {d : DataW H} {ps : List MemPlace}
    (hd : DataW.Trod enc Try.prog w base spare held 25 v d ps) (hok : Value.okWide Try.prog w .any base' 25 v) :
    ∃ cl : List Ch, SlV (GA w) v 2 cl.length (rows chF cl) ∧ (∀ c ∈ cl, c.1.length ≤ 9223372036854775807 ∧ c.2.length ≤ 9223372036854775807) ∧ cl.length ≤ 9223372036854775807 := by
  refine open_rows chF (by decide) (fun c => c.1.length ≤ 9223372036854775807 ∧ c.2.length ≤ 9223372036854775807) (T := 25) (e := 44) (by kernel_rfl) (by kernel_rfl) (fun n cs x hl h => ?_) hd hok
  obtain ⟨l0, h0, b0⟩ := dec_str (fs := flds Try.prog 44) (by kernel_rfl) h 0 9 0 (by kernel_rfl) (by kernel_rfl) (by kernel_rfl) (by omega)
  obtain ⟨l1, h1, b1⟩ := dec_str (fs := flds Try.prog 44) (by kernel_rfl) h 1 9 1 (by kernel_rfl) (by kernel_rfl) (by kernel_rfl) (by omega)
  refine ⟨(l0, l1), ?_, b0, b1⟩
  match cs, hl with
  | [a, b], _ => simp at h0 h1; simp [chF, h0, h1]
end Go.E
