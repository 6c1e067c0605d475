/- The given statement FnExactChangesApartSaid holds: the law answers true whatever the input, and its arguments read as they did. Conditions: none. -/
import Derived.Test.YtcnkkjdnnajkbaaRows
import Derived.Test.YtcnkkjdnnajkbaaLb
import Derived.Test.YtcnkkjdnnajkbaaCg
import Derived.Test.YtcnkkjdnnajkbaaEngJ
import Derived.WalkKit
import Derived.ProofKit
import Derived.OpenShut
import Derived.ShutString
import Derived.ChangeOld
import Derived.Below
namespace Go.Proofs.Ytcnkkjdnnajkbaa.fnExactChangesApart
open Go.ChangeShapes Go.WideShapes Go.ChangeAt Go.RowKit Go.E
open Go.ChangeMaps (open_string shut_string)
set_option linter.unusedVariables false
theorem own : ownKnob Try.prog.godebug = none := by kernel_rfl
theorem laidOut : laidOutB Try.prog = true := by kernel_rfl
theorem walk (a0 : Value) (l0 : List (Ch)) (a1 : Value) (l1 : List (Ch)) (w : World) (w0 : SlV (GA w) a0 2 l0.length (rows chF l0)) (q0 : ∀ c ∈ l0, c.1.length ≤ 9223372036854775807 ∧ c.2.length ≤ 9223372036854775807) (n0 : l0.length ≤ 9223372036854775807) (w1 : SlV (GA w) a1 2 l1.length (rows chF l1)) (q1 : ∀ c ∈ l1, c.1.length ≤ 9223372036854775807 ∧ c.2.length ≤ 9223372036854775807) (n1 : l1.length ≤ 9223372036854775807) :
    Calls Try.prog 4 #[a0, a1] w fun e w' => e = .returned (.bool true) ∧ Below w.heap.size w w' := by
  have h := @c_FnExactChangesApart (GA w) a0 a1 l0 l1 w0 w1 q0 q1 ⟨n0, n1⟩
  exact PuG.belowA h
set_option maxRecDepth 100000 in
theorem lifted (os : Os) (started : os.Started) (H : Type) (enc : TypeId × Value → H) :
    ReturnsInHanded {} Try.checked os 4 .any (Rows.fnExactChangesApartSpec.pre6 enc Try.prog Try.f4 Rows.fnExactChangesApartRow.domain false) (Rows.fnExactChangesApartSpec.post enc Try.prog Try.f4 false true false false) := by
  refine returnsInHanded_of_change (C := Try.checked) own started (by kernel_rfl) Try.func4
    (ChangeSpec.witness6 (enc := enc) (C := Try.checked) false ⟨#[], #[.slice none 0 0, .slice none 0 0], []⟩ 8 (by kernel_rfl) (by kernel_rfl) (by kernel_rfl) (by kernel_rfl)) ?_
  intro W base args ds gs before hval0 hW hcnd _
  have hval : ∀ (j : Nat) t v, Try.f4.params[j]? = some t → args[j]? = some v → Value.okWide Try.prog W .any base t v := hval0
  have hW' := hW
  obtain ⟨p, q, hA0, hV, rfl, hfz, hnd⟩ := hW
  have hA : DataW.TrodAll enc Try.prog W 0 (fun _ => true) true Try.f4.params.toList args.toList ds p := hA0
  rw [Try.params4] at hA hval
  obtain ⟨v0, vs0, d0, ds0, p0, q0, hargs, rfl, rfl, h0, r0⟩ := trodAll_cons hA
  obtain ⟨v1, vs1, d1, ds1, p1, q1, rfl, rfl, rfl, h1, r1⟩ := trodAll_cons r0
  obtain ⟨rfl, rfl, rfl⟩ := trodAll_nil r1
  obtain rfl : args = #[v0, v1] := by cases args; simp_all
  obtain ⟨rfl, rfl⟩ := trodVars_none hV
  have ok0 := (hval 0 25 v0 rfl rfl)
  have k0 := h0
  have lt0 : ∀ x ∈ p0, x.block < W.heap.size := by obtain ⟨m, hm⟩ := k0; exact DataW.trod_lt m _ _ _ hm
  obtain ⟨l0, w0, q0, n0⟩ := open_chs h0 ok0
  have ok1 := (hval 1 25 v1 rfl rfl)
  have k1 := h1
  have lt1 : ∀ x ∈ p1, x.block < W.heap.size := by obtain ⟨m, hm⟩ := k1; exact DataW.trod_lt m _ _ _ hm
  obtain ⟨l1, w1, q1, n1⟩ := open_chs h1 ok1
  clear hA0 hval0
  refine (walk v0 l0 v1 l1 W w0 q0 n0 w1 q1 n1).mono fun e W' ⟨he, bel⟩ => ?_
  subst he
  exact ⟨_, rfl, _, _, _, [], _, [], hW', trodAll_mk1 (shut_bool Try.underlying4 _), (trodAll_cons_mk (Below.trod laidOut (by kernel_rfl) (of_decide_eq_true (by kernel_rfl)) k0 bel lt0) (trodAll_cons_mk (Below.trod laidOut (by kernel_rfl) (of_decide_eq_true (by kernel_rfl)) k1 bel lt1) trodAll_mk0)), rfl, bel.frame _, fun h => by cases h⟩
theorem over : Rows.fnExactChangesApartRow.holds Try.pinned (OpenSpec.ofChange Rows.fnExactChangesApartSpec) :=
  OpenClaim.holds_of_wide 4 Try.f4 rfl rfl rfl rfl rfl rfl rfl ⟨rfl, rfl, rfl, rfl, rfl⟩ rfl rfl rfl rfl rfl (by kernel_rfl) Try.func4 (by kernel_rfl)
    (of_decide_eq_true (by kernel_rfl)) (by unfold Func.isWrapper; first | (rw [if_pos (by decide +kernel)]; kernel_rfl) | (rw [if_neg (by decide +kernel)]; exact ⟨rfl, rfl⟩))
    (fun os started H enc _ => lifted os started H enc)
theorem proved : Rows.FnExactChangesApartSaid := over
#print axioms proved
end Go.Proofs.Ytcnkkjdnnajkbaa.fnExactChangesApart
