/- The given statement FnExactCallGetCardSaid holds: the law answers true whatever the arguments, its arguments read as they did, and the listed variables are tied to the program's text. Conditions: none. -/
import Derived.Test.YtglhncibfmhblabGreatDoorRows
import Derived.Test.YtglhncibfmhblabGreatDoorCards
import Derived.Test.YtglhncibfmhblabGreatDoorTie
import Derived.Test.YtglhncibfmhblabGreatDoorZ7
import Derived.WalkKit
import Derived.ProofKit
import Derived.OpenShut
import Derived.ShutString
import Derived.ChangeOld
import Derived.ChangeMaps5
import Derived.Below
import Derived.LaidMore
import Derived.Lay
import Derived.LaidOnce
import Derived.Stop.Joined
import Derived.SevenTiedAt
namespace Go.Proofs.YtglhncibfmhblabGreatDoor.fnExactCallGet
open Go.ChangeShapes Go.WideShapes Go.ChangeAt Go.RowKit Go.E
open Go.ChangeMaps (open_string shut_string)
set_option linter.unusedVariables false
theorem own : ownKnob Tryz.prog.godebug = none := by kernel_rfl
theorem laidOut : laidOutB Tryz.prog = true := by kernel_rfl
abbrev tW : TypeId := 9
theorem bS (s : ByteArray) : Value.string s = S s.data.toList := by simp [S]
theorem walk (w : World) (s0 : List UInt8) (u0 : Value) (a0 : List Mt) (hu0 : bh (GA w) u0 3 a0.length (aA c9 a0)) (h0 : s0.length ≤ 9223372036854775807 ∧ a0.length ≤ 9223372036854775807) (q0 : ∀ x ∈ a0, mY x) (s1 : ByteArray) (h1 : s1.size ≤ maxLen) :
    Calls Tryz.prog 5 #[Ag [S s0, u0], .string s1] w fun e w' => e = .returned (.bool true) ∧ Below w.heap.size w w' := by
  have hm : ∀ b : ByteArray, b.size ≤ maxLen → b.data.toList.length ≤ 9223372036854775807 := fun b hb => by
    have e : b.data.toList.length = b.size := by rw [Array.length_toList]; rfl
    have hm2 : maxLen = 9223372036854775807 := rfl
    omega
  have h := @nE (GA w) s0 s1.data.toList u0 a0 hu0 h0 q0 (hm s1 h1)
  rw [← bS] at h
  exact am.belowA h
set_option maxRecDepth 100000 in
theorem lifted (os : Os) (started : os.Started) (H : Type) (enc : TypeId × Value → H) :
    ReturnsInHanded {} Tryz.checked os 5 .any (fun w args => (Rows.fnExactCallGetSpec.pre enc Tryz.prog Tryz.f5 [] false w args ∧ laidMetH Tryz.prog Rows.fnExactCallGetRow.laid w) ∧ sizedMet enc Tryz.prog Tryz.f5 (OpenSpec.ofChange Rows.fnExactCallGetSpec) false w args)
      (Rows.fnExactCallGetSpec.post enc Tryz.prog Tryz.f5 false true false false) := by
  refine returnsInHanded_of_change_and (C := Tryz.checked) (X := fun w _ => laidMetH Tryz.prog Rows.fnExactCallGetRow.laid w) (fun _ _ _ hh h => h.of_heap hh) own started (by kernel_rfl) Tryz.func5
    (ChangeSpec.witness_shaped (enc := enc) (C := Tryz.checked) (os := os) (X := fun w _ => laidMetH Tryz.prog Rows.fnExactCallGetRow.laid w) false (World.laidAll Tryz.prog os Rows.fnExactCallGetRow.laid) #[.agg #[.string ByteArray.empty, .slice none 0 0], .string ByteArray.empty] 8 (World.laidAll_os _ _ _)
      (World.shaped_of_ZipB (by kernel_rfl) (by kernel_rfl)) (by kernel_rfl) (by kernel_rfl) (by kernel_rfl)
      (by rw [MakeChecks.laidMetH_plain _ _ _ (by kernel_rfl)]; exact laidMet_laidAll _ (by kernel_rfl) (by kernel_rfl))) ?_
  intro W base args ds gs before hval0 hW _ _ hL _
  have hval : ∀ (j : Nat) t v, Tryz.f5.params[j]? = some t → args[j]? = some v → Value.okWide Tryz.prog W .any base t v := hval0
  have hW' := hW
  obtain ⟨p, q, hA0, hV, rfl, hfz, hnd⟩ := hW
  have hA : DataW.TrodAll enc Tryz.prog W 0 (fun _ => true) true Tryz.f5.params.toList args.toList ds p := hA0
  rw [Tryz.params5] at hA hval
  obtain ⟨v0, vs0, d0, ds0, p0, q0, hargs, rfl, rfl, h0, r0⟩ := trodAll_cons hA
  obtain ⟨v1, vs1, d1, ds1, p1, q1, rfl, rfl, rfl, h1, r1⟩ := trodAll_cons r0
  obtain ⟨rfl, rfl, rfl⟩ := trodAll_nil r1
  obtain rfl : args = #[v0, v1] := by cases args; simp_all
  obtain ⟨rfl, rfl⟩ := trodVars_none hV
  have ok0 := (hval 0 fJ v0 rfl rfl)
  have ok1 := (hval 1 tW v1 rfl rfl)
  have k0 := h0
  have lt0 : ∀ x ∈ p0, x.block < W.heap.size := by obtain ⟨m, hm⟩ := k0; exact DataW.trod_lt m _ _ _ hm
  obtain ⟨s0, u0, a0, rfl, w0, n0, g0⟩ := qC h0 ok0
  obtain ⟨a1, rfl, rfl, rfl, w1⟩ := open_string (TI.und (P := Tryz.prog) (T := tW)) ok1 h1
  clear hA0 hval0
  refine (walk W s0 u0 a0 w0 n0 g0 a1 w1).mono fun e W' ⟨he, bel⟩ => ?_
  subst he
  exact ⟨_, rfl, _, _, _, [], _, [], hW', trodAll_mk1 (shut_bool Tryz.underlying4 _), (trodAll_cons_mk (Below.trod laidOut (by kernel_rfl) (of_decide_eq_true (by kernel_rfl)) k0 bel lt0) (trodAll_cons_mk (shut_string (TI.und (P := Tryz.prog) (T := tW)) w1) trodAll_mk0)), rfl, bel.frame _, fun h => by cases h⟩
theorem over : Rows.fnExactCallGetRow.holds Tryz.pinned (OpenSpec.ofChange Rows.fnExactCallGetSpec) :=
  OpenClaim.holds_of_wide 5 Tryz.f5 rfl rfl rfl rfl rfl rfl rfl ⟨rfl, rfl, rfl, rfl, rfl⟩ rfl rfl rfl rfl rfl (by kernel_rfl) Tryz.func5 (by kernel_rfl)
    (of_decide_eq_true (by kernel_rfl)) (by unfold Func.isWrapper; (rw [if_neg (by decide +kernel)]; exact ⟨rfl, rfl⟩))
    (fun os started H enc _ => lifted os started H enc)
theorem proved : Rows.FnExactCallGetCardSaid :=
  Claim7.holds_tied_plain_at .later [] [.data, .pinned] true Rows.fnExactCallGetCard.stood.harness false over (fun _ h => by cases h) (by kernel_rfl) (fun _ h => by cases h) fnExactCallGet_row_tie rfl ⟨rfl, rfl⟩ (by kernel_rfl) rfl
    (fun f fn hf hfn => by
      obtain rfl : f = 5 := Option.some.inj ((show Tryz.prog.funcNamed "loop.example/wireforms/laws.FnExactCallGet" = some 5 by kernel_rfl).symm.trans hf) |>.symm
      obtain rfl : fn = Tryz.f5 := (Option.some.inj (Tryz.func5.symm.trans hfn)).symm
      exact ⟨by kernel_rfl, fun j t ht => by
        rw [Tryz.params5] at ht
        have hm : t ∈ [fJ, tW] := by simpa using Array.mem_of_getElem? ht
        have hall : ([fJ, tW].all fun u => !Tryz.prog.wantsStandIn u) = true := by kernel_rfl
        exact (show Tryz.prog.wantsStandIn t = false by simpa using List.all_eq_true.1 hall t hm)⟩)
    (by kernel_rfl)
#print axioms proved
end Go.Proofs.YtglhncibfmhblabGreatDoor.fnExactCallGet
