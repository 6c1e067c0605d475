/- The given statement FnExactValueSizeCardSaid holds: the law answers true whatever the three texts, its arguments read as they did, and the listed variables are tied to the program's text. Conditions: none. -/
import Derived.Test.YtladnpnemcdngaaGreatDoorRows
import Derived.Test.YtladnpnemcdngaaGreatDoorCards
import Derived.Test.YtladnpnemcdngaaGreatDoorTie
import Derived.Test.YtladnpnemcdngaaGreatDoorZ8
import Derived.Test.YtladnpnemcdngaaGreatDoorZ2
import Derived.WalkKit
import Derived.ProofKit
import Derived.OpenShut
import Derived.ShutString
import Derived.ChangeOld
import Derived.ChangeMaps5
import Derived.Below
import Derived.LaidMore
import Derived.Lay
import Derived.LaidOnce
import Derived.Stop.Joined
import Derived.SevenTiedAt
set_option linter.unusedSimpArgs false
namespace Go.Proofs.YtladnpnemcdngaaGreatDoor.fnExactValueSize
open Go.ChangeShapes Go.WideShapes Go.ChangeAt Go.RowKit Go.E
open Go.ChangeMaps (open_string shut_string)
set_option linter.unusedVariables false
theorem own : ownKnob Tryz.prog.godebug = none := by kernel_rfl
theorem laidOut : laidOutB Tryz.prog = true := by kernel_rfl
abbrev tW : TypeId := 9
theorem bS (s : ByteArray) : Value.string s = S s.data.toList := by simp [S]
theorem walk (s k x : ByteArray) (w : World) (h1 : s.size ≤ maxLen) (h2 : k.size ≤ maxLen) (h3 : x.size ≤ maxLen) :
    Calls Tryz.prog 3 #[.string s, .string k, .string x] w fun e w' => e = .returned (.bool true) ∧ Below w.heap.size w w' := by
  have hm : ∀ b : ByteArray, b.size ≤ maxLen → b.data.toList.length ≤ 9223372036854775807 := fun b hb => by
    have e : b.data.toList.length = b.size := by rw [Array.length_toList]; rfl
    have hm2 : maxLen = 9223372036854775807 := rfl
    omega
  have h := @c_FnExactValueSize G0 s.data.toList k.data.toList x.data.toList ⟨hm s h1, hm k h2, hm x h3⟩
  rw [← bS, ← bS, ← bS] at h
  exact PuG.below h w
set_option maxRecDepth 100000 in
theorem lifted (os : Os) (started : os.Started) (H : Type) (enc : TypeId × Value → H) :
    ReturnsInHanded {} Tryz.checked os 3 .any (fun w args => (Rows.fnExactValueSizeSpec.pre enc Tryz.prog Tryz.f3 [] false w args ∧ laidMetH Tryz.prog Rows.fnExactValueSizeRow.laid w) ∧ sizedMet enc Tryz.prog Tryz.f3 (OpenSpec.ofChange Rows.fnExactValueSizeSpec) false w args)
      (Rows.fnExactValueSizeSpec.post enc Tryz.prog Tryz.f3 false true false false) := by
  refine returnsInHanded_of_change_and (C := Tryz.checked) (X := fun w _ => laidMetH Tryz.prog Rows.fnExactValueSizeRow.laid w) (fun _ _ _ hh h => h.of_heap hh) own started (by kernel_rfl) Tryz.func3
    (ChangeSpec.witness_shaped (enc := enc) (C := Tryz.checked) (os := os) (X := fun w _ => laidMetH Tryz.prog Rows.fnExactValueSizeRow.laid w) false (World.laidAll Tryz.prog os Rows.fnExactValueSizeRow.laid) #[.string ByteArray.empty, .string ByteArray.empty, .string ByteArray.empty] 8 (World.laidAll_os _ _ _)
      (World.shaped_of_ZipB (by kernel_rfl) (by kernel_rfl)) (by kernel_rfl) (by kernel_rfl) (by kernel_rfl)
      (by rw [MakeChecks.laidMetH_plain _ _ _ (by kernel_rfl)]; exact laidMet_laidAll _ (by kernel_rfl) (by kernel_rfl))) ?_
  intro W base args ds gs before hval0 hW _ _ hL _
  have hval : ∀ (j : Nat) t v, Tryz.f3.params[j]? = some t → args[j]? = some v → Value.okWide Tryz.prog W .any base t v := hval0
  have hW' := hW
  obtain ⟨p, q, hA0, hV, rfl, hfz, hnd⟩ := hW
  have hA : DataW.TrodAll enc Tryz.prog W 0 (fun _ => true) true Tryz.f3.params.toList args.toList ds p := hA0
  rw [Tryz.params3] at hA hval
  obtain ⟨v0, vs0, d0, ds0, p0, q0, hargs, rfl, rfl, h0, r0⟩ := trodAll_cons hA
  obtain ⟨v1, vs1, d1, ds1, p1, q1, rfl, rfl, rfl, h1, r1⟩ := trodAll_cons r0
  obtain ⟨v2, vs2, d2, ds2, p2, q2, rfl, rfl, rfl, h2, r2⟩ := trodAll_cons r1
  obtain ⟨rfl, rfl, rfl⟩ := trodAll_nil r2
  obtain rfl : args = #[v0, v1, v2] := by cases args; simp_all
  obtain ⟨rfl, rfl⟩ := trodVars_none hV
  have ok0 := (hval 0 tW v0 rfl rfl)
  have ok1 := (hval 1 tW v1 rfl rfl)
  have ok2 := (hval 2 tW v2 rfl rfl)
  obtain ⟨a0, rfl, rfl, rfl, w0⟩ := open_string (TI.und (P := Tryz.prog) (T := tW)) ok0 h0
  obtain ⟨a1, rfl, rfl, rfl, w1⟩ := open_string (TI.und (P := Tryz.prog) (T := tW)) ok1 h1
  obtain ⟨a2, rfl, rfl, rfl, w2⟩ := open_string (TI.und (P := Tryz.prog) (T := tW)) ok2 h2
  clear hA0 hval0
  refine (walk a0 a1 a2 W w0 w1 w2).mono fun e W' ⟨he, bel⟩ => ?_
  subst he
  exact ⟨_, rfl, _, _, _, [], _, [], hW', trodAll_mk1 (shut_bool Tryz.underlying4 _), (trodAll_cons_mk (shut_string (TI.und (P := Tryz.prog) (T := tW)) w0) (trodAll_cons_mk (shut_string (TI.und (P := Tryz.prog) (T := tW)) w1) (trodAll_cons_mk (shut_string (TI.und (P := Tryz.prog) (T := tW)) w2) trodAll_mk0))), rfl, bel.frame _, fun h => by cases h⟩
theorem over : Rows.fnExactValueSizeRow.holds Tryz.pinned (OpenSpec.ofChange Rows.fnExactValueSizeSpec) :=
  OpenClaim.holds_of_wide 3 Tryz.f3 rfl rfl rfl rfl rfl rfl rfl ⟨rfl, rfl, rfl, rfl, rfl⟩ rfl rfl rfl rfl rfl (by kernel_rfl) Tryz.func3 (by kernel_rfl)
    (of_decide_eq_true (by kernel_rfl)) (by unfold Func.isWrapper; (rw [if_neg (by decide +kernel)]; exact ⟨rfl, rfl⟩))
    (fun os started H enc _ => lifted os started H enc)
theorem proved : Rows.FnExactValueSizeCardSaid :=
  Claim7.holds_tied_plain_at .later [] [.data, .pinned] true Rows.fnExactValueSizeCard.stood.harness false over (fun _ h => by cases h) (by kernel_rfl) (fun _ h => by cases h) fnExactValueSize_row_tie rfl ⟨rfl, rfl⟩ (by kernel_rfl) rfl
    (fun f fn hf hfn => by
      obtain rfl : f = 3 := Option.some.inj ((show Tryz.prog.funcNamed "loop.example/wireforms/laws.FnExactValueSize" = some 3 by kernel_rfl).symm.trans hf) |>.symm
      obtain rfl : fn = Tryz.f3 := (Option.some.inj (Tryz.func3.symm.trans hfn)).symm
      exact ⟨by kernel_rfl, fun j t ht => by
        rw [Tryz.params3] at ht
        have hm : t ∈ [tW, tW, tW] := by simpa using Array.mem_of_getElem? ht
        have hall : ([tW, tW, tW].all fun u => !Tryz.prog.wantsStandIn u) = true := by kernel_rfl
        exact (show Tryz.prog.wantsStandIn t = false by simpa using List.all_eq_true.1 hall t hm)⟩)
    (by kernel_rfl)
#print axioms proved
end Go.Proofs.YtladnpnemcdngaaGreatDoor.fnExactValueSize
