/- Contracts and plain laws that the statement rests on, part 4. Conditions: as each says. -/
import Derived.Test.YtladnpnemcdngaaGreatDoorZ3
import Derived.Test.YtladnpnemcdngaaGreatDoorZ2
set_option linter.unusedVariables false
set_option linter.unusedSimpArgs false
/-! Mf -/
namespace Go.E
set_option maxRecDepth 20000
set_option maxHeartbeats 2000000
open Go.Proofs
variable {G : Gh}
theorem trimL_nil {p : Nat → Bool} : ∀ {s : List UInt8}, trimL p s = [] ↔ ∀ c ∈ s, p c.toNat = true
  | [] => by simp [trimL]
  | c :: r => by
    unfold trimL
    by_cases h : p c.toNat = true
    · rw [if_pos h, trimL_nil]; simp [h]
    · rw [if_neg h]; simp [h]
theorem trimR_mem {p : Nat → Bool} {s : List UInt8} : (∀ c ∈ trimR p s, p c.toNat = true) ↔ ∀ c ∈ s, p c.toNat = true := by
  have key : ∀ l : List UInt8, (∀ c ∈ trimL p l, p c.toNat = true) ↔ ∀ c ∈ l, p c.toNat = true := by
    intro l
    induction l with
    | nil => simp [trimL]
    | cons c r ih =>
      unfold trimL
      by_cases h : p c.toNat = true
      · rw [if_pos h, ih]; simp [h]
      · rw [if_neg h]
  unfold trimR
  have := key s.reverse
  simpa using this
theorem trim_nil {p : Nat → Bool} {s : List UInt8} : trimL p (trimR p s) = [] ↔ ∀ c ∈ s, p c.toNat = true := by rw [trimL_nil, trimR_mem]
def azS : List UInt8 := [97, 98, 99, 100, 101, 102, 103, 104, 105, 106, 107, 108, 109, 110, 111, 112, 113, 114, 115, 116, 117, 118, 119, 120, 121, 122]
def txS : List UInt8 := azS ++ [48, 49, 50, 51, 52, 53, 54, 55, 56, 57, 32]
def dgS : List UInt8 := [48, 49, 50, 51, 52, 53, 54, 55, 56, 57]
theorem az_in (c : UInt8) : inS azS c.toNat = isLow c := by
  have : ∀ n : Nat, n < 256 → inS azS n = decide (97 ≤ n ∧ n ≤ 122) := by decide +kernel
  rw [this _ c.toNat_lt]; rfl
theorem tx_in (c : UInt8) : inS txS c.toNat = decide (txN c.toNat) := by
  have : ∀ n : Nat, n < 256 → inS txS n = decide (txN n) := by decide +kernel
  exact this _ c.toNat_lt
theorem dg_in (c : UInt8) : inS dgS c.toNat = decide (48 ≤ c.toNat ∧ c.toNat ≤ 57) := by
  have : ∀ n : Nat, n < 256 → inS dgS n = decide (48 ≤ n ∧ n ≤ 57) := by decide +kernel
  exact this _ c.toNat_lt
theorem az_trim (s : List UInt8) : trimL (inS azS) (trimR (inS azS) s) = [] ↔ s.all isLow = true := by
  rw [trim_nil, List.all_eq_true]
  exact forall_congr' fun c => forall_congr' fun _ => by rw [az_in]
theorem c_isName {s : List UInt8} (h : s.length ≤ 2000000) : PuG Tryz.prog 43 [S s] G (· = Bo (isNm s)) := by
  have cx_trim := c_Trim (G := G) (s := s) (cs := azS) rfl (by kernel_rfl) rfl h
  by_cases hl : 1 ≤ s.length ∧ s.length ≤ 3
  · refine p_enter [(0, _)] Tryz.func43 (by kernel_rfl) Tryz.ntmps43 rfl rfl (by repeat (first | exact trivial | refine ⟨rfl, ?_⟩)) fun B hB => ?_
    repeat' (first | (refine run (t := tb) 400 rfl ?_ ?_; (focus (repeat' ((exact trivial))))) | (refine k_op rfl ?_; first | (refine v_op (g_pickF rfl rfl ?_) rfl rfl ?_; (focus (((rfl)); done))) | (refine c_rt rfl rfl rfl cx_trim rfl ?_)) | (refine k_gf rfl rfl ?_ ?_; (focus (((refine decide_eq_false ?_; (omega))); done))) | (refine k_ff rfl ?_ ?_; (focus (((refine decide_eq_false ?_; (omega))); done))))
    all_goals refine k_rr (vs := [_]) rfl ⟨rfl, trivial⟩ rfl (List.nil_sublist _) ⟨rfl, rfl, ?_⟩
    have := az_trim s
    unfold isNm
    rw [decide_eq_true hl, Bool.and_true]
    refine congrArg Bo ?_
    rw [Bool.eq_iff_iff]
    simpa using this
  · have e : isNm s = false := by unfold isNm; rw [decide_eq_false hl, Bool.and_false]
    rw [e]
    refine p_enter [(0, _)] Tryz.func43 (by kernel_rfl) Tryz.ntmps43 rfl rfl (by repeat (first | exact trivial | refine ⟨rfl, ?_⟩)) fun B hB => ?_
    repeat' (first | (refine run (t := tb) 400 rfl ?_ ?_; (focus (repeat' ((exact trivial))))) | (refine k_op rfl ?_; first | (refine v_op (g_pickT rfl rfl ?_) rfl rfl ?_; (focus (((rfl)); done))) | (refine v_op (g_pickF rfl rfl ?_) rfl rfl ?_; (focus (((rfl)); done)))) | refine k_g rfl rfl (fun _ => ?_) (fun _ => ?_) | (refine k_tt rfl ?_ ?_; (focus ((first | rfl | (refine decide_eq_true ?_; (omega))); done))))
    all_goals refine k_rr (vs := [_]) rfl ⟨rfl, trivial⟩ rfl (List.nil_sublist _) ⟨rfl, rfl, ?_⟩
    all_goals rfl
theorem core_trimL (s : List UInt8) : core s = trimL (inS [91, 63]) s := by
  induction s with
  | nil => rfl
  | cons c r ih =>
    have e : inS [91, 63] c.toNat = decide (c.toNat = 91 ∨ c.toNat = 63) := by
      have : ∀ n : Nat, n < 256 → inS [91, 63] n = decide (n = 91 ∨ n = 63) := by decide +kernel
      exact this _ c.toNat_lt
    unfold core trimL
    rw [e]
    by_cases h : c.toNat = 91 ∨ c.toNat = 63
    · simp only [h, if_true, decide_true]; exact ih
    · simp [h]
theorem kOk_core : ∀ {s : List UInt8}, kOk (core s) = kOk s
  | [] => rfl
  | c :: r => by
    unfold core
    split
    · rename_i h; rw [kOk_core]; conv => { rhs; unfold kOk }; rw [if_pos h]
    · rfl
def kdF (s : List UInt8) : List Value := [S (sg s), S (bs s), S (nm s)]
def KdPost (s : List UInt8) (v : Value) : Prop := ∃ a b c, v = Tu [Ag [S a, S b, S c], Bo (kindOk s)] ∧ (kindOk s = true → a = sg s ∧ b = bs s ∧ c = nm s)
theorem c_HasSuffixL {s p : List UInt8} (hp : p.length ≤ 1000000000) (hs : s.length ≤ 1000000000) : PuG Tryz.prog 69 [S s, S p] G (· = Bo (decide (p.length ≤ s.length ∧ s.drop (s.length - p.length) = p))) := by
  by_cases h : p.length ≤ s.length
  · have e : (((s.length : Nat) : Int) - ((p.length : Nat) : Int)).toNat = s.length - p.length := by omega
    refine p_enter [(0, _), (1, _)] Tryz.func69 (by kernel_rfl) Tryz.ntmps69 rfl rfl (by repeat (first | exact trivial | refine ⟨rfl, ?_⟩)) fun B hB => ?_
    repeat' (first | (refine run (t := tb) 400 rfl ?_ ?_; (focus (repeat' (first | exact trivial | apply And.intro | omega)))) | (refine k_op rfl ?_; (refine v_op (g_pickT rfl rfl ?_) rfl rfl ?_; (focus (((rfl)); done)))) | (refine k_gt rfl rfl ?_ ?_; (focus (((refine decide_eq_true ?_; (omega))); done))))
    all_goals refine k_rr (vs := [_]) rfl ⟨rfl, trivial⟩ rfl (List.nil_sublist _) ⟨rfl, rfl, ?_⟩
    all_goals (rw [e]; simp [h]; try rfl)
  · refine p_enter [(0, _), (1, _)] Tryz.func69 (by kernel_rfl) Tryz.ntmps69 rfl rfl (by repeat (first | exact trivial | refine ⟨rfl, ?_⟩)) fun B hB => ?_
    repeat' (first | (refine run (t := tb) 400 rfl ?_ ?_; (focus (repeat' ((exact trivial))))) | (refine k_op rfl ?_; (refine v_op (g_pickF rfl rfl ?_) rfl rfl ?_; (focus (((rfl)); done)))) | (refine k_gf rfl rfl ?_ ?_; (focus (((refine decide_eq_false ?_; (omega))); done))))
    all_goals refine k_rr (vs := [_]) rfl ⟨rfl, trivial⟩ rfl (List.nil_sublist _) ⟨rfl, rfl, ?_⟩
    all_goals (simp [h]; try rfl)
theorem c_HasSuffix {s p : List UInt8} (hp : p.length ≤ 1000000000) (hs : s.length ≤ 1000000000) : PuG Tryz.prog 42 [S s, S p] G (· = Bo (decide (p.length ≤ s.length ∧ s.drop (s.length - p.length) = p))) := by
  refine p_enter [(0, _), (1, _)] Tryz.func42 (by kernel_rfl) Tryz.ntmps42 rfl rfl (by repeat (first | exact trivial | refine ⟨rfl, ?_⟩)) fun B hB => ?_
  repeat' (first | (refine run (t := tb) 400 rfl ?_ ?_; (focus (repeat' ((exact trivial))))) | (refine k_op rfl ?_; (refine c_rt rfl rfl rfl (c_HasSuffixL (by omega) (by omega)) rfl ?_)))
  all_goals refine k_rr (vs := [_]) rfl ⟨rfl, trivial⟩ rfl (List.nil_sublist _) ⟨rfl, rfl, ?_⟩
  all_goals rfl
theorem suf_bt {c : UInt8} {r : List UInt8} : (1 ≤ (c :: r).length ∧ (c :: r).drop ((c :: r).length - 1) = [59]) ↔ bt (c :: r) r.length = 59 := by
  have hl : (c :: r).length - 1 = r.length := by simp
  rw [hl]
  have hlt : r.length < (c :: r).length := by simp
  obtain ⟨d, h1, h2⟩ := drop_bt hlt
  rw [h1, h2]
  have h3 : (c :: r).drop (r.length + 1) = [] := by simp
  rw [h3]
  constructor
  · rintro ⟨_, h⟩; simp only [List.cons.injEq, and_true] at h; rw [h]; rfl
  · intro h; exact ⟨by simp, by rw [show d = 59 from UInt8.toNat_inj.1 h]⟩
theorem core_head : ∀ {s : List UInt8} {c : UInt8} {r : List UInt8}, core s = c :: r → ¬ (c.toNat = 91 ∨ c.toNat = 63)
  | [], c, r, h => by simp [core] at h
  | d :: s, c, r, h => by
    unfold core at h
    split at h
    · exact core_head h
    · rename_i hd
      simp only [List.cons.injEq] at h
      rw [← h.1]; exact hd
theorem c_readKindT {s t : List UInt8} (h : s.length ≤ 12) (ht : core s = t) : PuG Tryz.prog 23 [S s] G (KdPost s) := by
  have cx_triml : PuG Tryz.prog 40 [S s, S [91, 63]] G (· = S t) := by
    rw [← ht, core_trimL]
    exact c_TrimLeft rfl (by kernel_rfl) rfl
  have hcl := core_len s
  rw [ht] at hcl
  have ek : kindOk s = kOk t := by unfold kindOk; rw [decide_eq_true h, Bool.true_and, ← ht, kOk_core]
  have esg : s.take (((s.length : Nat) : Int) - ((t.length : Nat) : Int)).toNat = sg s := by
    unfold sg; rw [ht]; congr 1; omega
  have ebs : bs s = bsT t := by unfold bs; rw [ht]
  have enm : nm s = (refN t).getD [] := by unfold nm; rw [ht]
  have hns : ∀ c r, t = c :: r → ¬ (c.toNat = 91 ∨ c.toNat = 63) := fun c r e => core_head (ht.trans e)
  clear ht
  match t, hcl, ek, ebs, enm, cx_triml, esg, hns with
  | [], hcl, ek, ebs, enm, cx_triml, esg, hns =>
    have hno : kindOk s = false := by rw [ek]; rfl
    have cx_suf := c_HasSuffix (G := G) (s := []) (p := [59]) (by simp) (by simp)
    refine p_enter [(0, _)] Tryz.func23 (by kernel_rfl) Tryz.ntmps23 rfl rfl (by repeat (first | exact trivial | refine ⟨rfl, ?_⟩)) fun B hB => ?_
    repeat' (first | (refine run (t := tb) 400 rfl ?_ ?_; (focus (repeat' (first | exact trivial | apply And.intro | omega)))) | (refine k_op rfl ?_; first | refine c_al rfl rfl fun _ => ?_ | refine v_op (g_bld rfl rfl) rfl rfl ?_ | refine c_stA rfl rfl rfl rfl rfl rfl ?_ | (refine v_op (g_pickF rfl rfl ?_) rfl rfl ?_; (focus (((rfl)); done))) | (refine c_rt rfl rfl rfl cx_triml rfl ?_) | (refine c_rt rfl rfl rfl c_HasPrefix rfl ?_)) | (refine k_gf rfl rfl ?_ ?_; (focus (((rfl)); done))) | (refine k_ff rfl ?_ ?_; (focus ((first | rfl | (refine decide_eq_false ?_; (omega))); done))))
    all_goals refine k_rr (vs := [_, _]) rfl ⟨rc_A rfl rfl rfl rfl, rfl, trivial⟩ rfl (List.nil_sublist _) ⟨rfl, rfl, ?_⟩
    all_goals exact ⟨[], [], [], by rw [hno]; rfl, fun h => by rw [hno] at h; cases h⟩
  | c :: r, hcl, ek, ebs, enm, cx_triml, esg, hns =>
    by_cases hA : c :: r = [110] ∨ c :: r = [116] ∨ c :: r = [102]
    · rcases hA with hA | hA | hA
      all_goals (simp only [List.cons.injEq] at hA; obtain ⟨rfl, rfl⟩ := hA)
      all_goals have hyes : kindOk s = true := by rw [ek]; rfl
      all_goals refine p_enter [(0, _)] Tryz.func23 (by kernel_rfl) Tryz.ntmps23 rfl rfl (by repeat (first | exact trivial | refine ⟨rfl, ?_⟩)) fun B hB => ?_
      all_goals repeat' (first | (refine run (t := tb) 400 rfl ?_ ?_; (focus (repeat' (first | exact trivial | apply And.intro | omega)))) | (refine k_op rfl ?_; first | refine c_al rfl rfl fun _ => ?_ | refine v_op (g_bld rfl rfl) rfl rfl ?_ | refine c_st1 rfl rfl rfl rfl ?_ | refine c_stA rfl rfl rfl rfl rfl rfl ?_ | (refine v_op (g_pickT rfl rfl ?_) rfl rfl ?_; (focus (((rfl)); done))) | (refine v_op (g_pickF rfl rfl ?_) rfl rfl ?_; (focus (((rfl)); done))) | refine v_op (g_ldA rfl rfl rfl rfl) rfl rfl ?_ | (refine c_rt rfl rfl rfl cx_triml rfl ?_)) | (refine k_gt rfl rfl ?_ ?_; (focus (((rfl)); done))) | (refine k_gf rfl rfl ?_ ?_; (focus (((rfl)); done))) | (refine k_tt rfl ?_ ?_; (focus (((rfl)); done))) | (refine k_ff rfl ?_ ?_; (focus (((refine decide_eq_false ?_; (omega))); done))))
      all_goals refine k_rr (vs := [_, _]) rfl ⟨rc_A rfl rfl rfl rfl, rfl, trivial⟩ rfl (List.nil_sublist _) ⟨rfl, rfl, ?_⟩
      all_goals exact ⟨_, _, _, by rw [hyes]; rfl, fun _ => ⟨esg, by rw [ebs]; rfl, by rw [enm]; rfl⟩⟩
    simp only [not_or] at hA
    obtain ⟨hA1, hA2, hA3⟩ := hA
    by_cases hc : c = 64
    case neg =>
      have hc' : ¬ c.toNat = 64 := fun h => hc (UInt8.toNat_inj.1 h)
      have hno : kindOk s = false := by
        rw [ek, kOk, if_neg (hns c r rfl), if_neg hc']
        by_cases hr : r = []
        · subst hr
          have n1 : ¬ c.toNat = 110 := fun h => hA1 (by rw [show c = 110 from UInt8.toNat_inj.1 h])
          have n2 : ¬ c.toNat = 116 := fun h => hA2 (by rw [show c = 116 from UInt8.toNat_inj.1 h])
          have n3 : ¬ c.toNat = 102 := fun h => hA3 (by rw [show c = 102 from UInt8.toNat_inj.1 h])
          simp [n1, n2, n3]
        · simp [hr]
      have hp : ([64] : List UInt8).isPrefixOf (c :: r) = false := by simp [List.isPrefixOf]; exact fun h => hc h.symm
      refine p_enter [(0, _)] Tryz.func23 (by kernel_rfl) Tryz.ntmps23 rfl rfl (by repeat (first | exact trivial | refine ⟨rfl, ?_⟩)) fun B hB => ?_
      repeat' (first | (refine run (t := tb) 400 rfl ?_ ?_; (focus (repeat' (first | exact trivial | apply And.intro | omega)))) | (refine k_op rfl ?_; first | refine c_al rfl rfl fun _ => ?_ | refine v_op (g_bld rfl rfl) rfl rfl ?_ | refine c_stA rfl rfl rfl rfl rfl rfl ?_ | (refine v_op (g_pickF rfl rfl ?_) rfl rfl ?_; (focus (((rfl)); done))) | (refine c_rt rfl rfl rfl cx_triml rfl ?_) | (refine c_rt rfl rfl rfl c_HasPrefix rfl ?_)) | (refine k_gf rfl rfl ?_ ?_; (focus ((first | assumption | (refine decide_eq_false ?_; (assumption))); done))) | (refine k_ff rfl ?_ ?_; (focus ((first | rfl | (refine decide_eq_false ?_; first | assumption | omega)); done))))
      all_goals refine k_rr (vs := [_, _]) rfl ⟨rc_A rfl rfl rfl rfl, rfl, trivial⟩ rfl (List.nil_sublist _) ⟨rfl, rfl, ?_⟩
      all_goals exact ⟨[], [], [], by rw [hno]; rfl, fun h => by rw [hno] at h; cases h⟩
    subst hc
    have hp : ([64] : List UInt8).isPrefixOf (64 :: r) = true := by simp [List.isPrefixOf]
    have hsuf := c_HasSuffix (G := G) (s := 64 :: r) (p := [59]) (by simp) (by simp at hcl ⊢; omega)
    have ek2 : kindOk s = (decide (bt (64 :: r) r.length = 59) && isNm (r.take (r.length - 1))) := by
      rw [ek, kOk, if_neg (by decide), if_pos (by decide)]
      congr 1
      refine decide_eq_decide.2 ?_
      omega
    have hsb := suf_bt (c := 64) (r := r)
    by_cases hb : bt (64 :: r) r.length = 59
    case neg =>
      have cx_suf : PuG Tryz.prog 42 [S (64 :: r), S [59]] G (· = Bo false) := by
        have e : decide (([59] : List UInt8).length ≤ (64 :: r : List UInt8).length ∧ (64 :: r : List UInt8).drop ((64 :: r : List UInt8).length - ([59] : List UInt8).length) = [59]) = false := decide_eq_false fun h => hb (hsb.1 h)
        rwa [e] at hsuf
      have hno : kindOk s = false := by rw [ek2, decide_eq_false hb, Bool.false_and]
      refine p_enter [(0, _)] Tryz.func23 (by kernel_rfl) Tryz.ntmps23 rfl rfl (by repeat (first | exact trivial | refine ⟨rfl, ?_⟩)) fun B hB => ?_
      repeat' (first | (refine run (t := tb) 400 rfl ?_ ?_; (focus (repeat' (first | exact trivial | apply And.intro | omega)))) | (refine k_op rfl ?_; first | refine c_al rfl rfl fun _ => ?_ | refine v_op (g_bld rfl rfl) rfl rfl ?_ | refine c_stA rfl rfl rfl rfl rfl rfl ?_ | (refine v_op (g_pickT rfl rfl ?_) rfl rfl ?_; (focus (((rfl)); done))) | (refine v_op (g_pickF rfl rfl ?_) rfl rfl ?_; (focus (((rfl)); done))) | (refine c_rt rfl rfl rfl cx_triml rfl ?_) | (refine c_rt rfl rfl rfl c_HasPrefix rfl ?_) | (refine c_rt rfl rfl rfl cx_suf rfl ?_)) | (refine k_gt rfl rfl ?_ ?_; (focus (((rfl)); done))) | (refine k_gf rfl rfl ?_ ?_; (focus (((rfl)); done))) | (refine k_ff rfl ?_ ?_; (focus ((first | rfl | (refine decide_eq_false ?_; (omega))); done))))
      all_goals refine k_rr (vs := [_, _]) rfl ⟨rc_A rfl rfl rfl rfl, rfl, trivial⟩ rfl (List.nil_sublist _) ⟨rfl, rfl, ?_⟩
      all_goals exact ⟨[], [], [], by rw [hno]; rfl, fun h => by rw [hno] at h; cases h⟩
    have cx_suf : PuG Tryz.prog 42 [S (64 :: r), S [59]] G (· = Bo true) := by
      have e : decide (([59] : List UInt8).length ≤ (64 :: r : List UInt8).length ∧ (64 :: r : List UInt8).drop ((64 :: r : List UInt8).length - ([59] : List UInt8).length) = [59]) = true := decide_eq_true (hsb.2 hb)
      rwa [e] at hsuf
    have hr : 1 ≤ r.length := by
      cases r with
      | nil => exact absurd hb (by decide)
      | cons => simp
    have hl2 : (64 :: r : List UInt8).length = r.length + 1 := rfl
    have e1 : ((64 :: r : List UInt8).take ((((64 :: r : List UInt8).length : Nat) : Int) - 1).toNat).drop (Int.toNat 1) = r.take (r.length - 1) := by
      have e2 : ((((64 :: r : List UInt8).length : Nat) : Int) - 1).toNat = (r.length - 1) + 1 := by omega
      rw [e2, List.take_succ_cons]; rfl
    have hyes : kindOk s = isNm (r.take (r.length - 1)) := by rw [ek2, decide_eq_true hb, Bool.true_and]
    have cx_isnm : PuG Tryz.prog 43 [S (((64 :: r : List UInt8).take ((((64 :: r : List UInt8).length : Nat) : Int) - 1).toNat).drop (Int.toNat 1))] G (· = Bo (isNm (r.take (r.length - 1)))) := by
      rw [e1]; exact c_isName (by simp at hcl ⊢; omega)
    refine p_enter [(0, _)] Tryz.func23 (by kernel_rfl) Tryz.ntmps23 rfl rfl (by repeat (first | exact trivial | refine ⟨rfl, ?_⟩)) fun B hB => ?_
    repeat' (first | (refine run (t := tb) 400 rfl ?_ ?_; (focus (repeat' (first | exact trivial | apply And.intro | omega)))) | (refine k_op rfl ?_; first | refine c_al rfl rfl fun _ => ?_ | refine v_op (g_bld rfl rfl) rfl rfl ?_ | refine c_st1 rfl rfl rfl rfl ?_ | refine c_stA rfl rfl rfl rfl rfl rfl ?_ | (refine v_op (g_pickT rfl rfl ?_) rfl rfl ?_; (focus (((rfl)); done))) | (refine v_op (g_pickF rfl rfl ?_) rfl rfl ?_; (focus (((rfl)); done))) | (refine c_rt rfl rfl rfl cx_triml rfl ?_) | (refine c_rt rfl rfl rfl c_HasPrefix rfl ?_) | (refine c_rt rfl rfl rfl cx_suf rfl ?_)) | (refine k_gt rfl rfl ?_ ?_; (focus (((rfl)); done))) | (refine k_gf rfl rfl ?_ ?_; (focus (((rfl)); done))) | (refine k_tt rfl ?_ ?_; (focus (((rfl)); done))) | (refine k_ff rfl ?_ ?_; (focus ((first | rfl | (refine decide_eq_false ?_; (omega))); done))) | (refine k_any (s_anyD (id := 11) (tt := 2) rfl mixed ?_); refine x_tks (t := tb) (fuel := 5) [1] (bts 6 2) (by kernel_rfl) (by kernel_rfl) rfl rfl (Gh.le.refl _) (by repeat (first | exact List.nil_sublist _ | apply List.Sublist.cons_cons)) ?_ ?_; (focus (repeat' ((exact trivial)))); ((refine (x_tkg (bts 6 3) 0 rfl (by kernel_rfl) rfl (Gh.le.refl _) (by repeat (first | exact List.nil_sublist _ | apply List.Sublist.cons_cons))) (g_ldA rfl rfl rfl rfl) rfl rfl ?_)); ((refine (x_tkg (bts 6 7) 2 rfl (by kernel_rfl) rfl (Gh.le.refl _) (by repeat (first | exact List.nil_sublist _ | apply List.Sublist.cons_cons))) (g_ld rfl rfl rfl) rfl rfl ?_)); refine x_all [3] (by kernel_rfl) (by decide) ⟨?_, trivial⟩; refine x_opg rfl rfl ?_; ((refine c_rt rfl rfl rfl cx_isnm rfl ?_)); refine x_kk (by (exact Gh.le.refl _)) (by repeat (first | exact List.nil_sublist _ | apply List.Sublist.cons_cons)) (listed' := (bts 6 15)) (by kernel_rfl) ?_; refine x_all [4] (by kernel_rfl) (by decide) ⟨?_, trivial⟩; refine x_opg rfl rfl ?_; ((refine c_stA rfl rfl rfl rfl rfl rfl ?_)); refine x_kk (by (exact Gh.le.refl _)) (by repeat (first | exact List.nil_sublist _ | apply List.Sublist.cons_cons)) (listed' := (bts 6 31)) (by kernel_rfl) ?_; refine x_tks (t := tb) (fuel := 0) [5] (bts 6 63) (by kernel_rfl) (by kernel_rfl) rfl rfl (Gh.le.refl _) (by repeat (first | exact List.nil_sublist _ | apply List.Sublist.cons_cons)) ?_ ?_; (focus (repeat' ((exact trivial)))); refine x_done (by kernel_rfl) (k_bk ?_)))
    all_goals refine k_rr (vs := [_, _]) rfl ⟨rc_A rfl rfl rfl rfl, rfl, trivial⟩ rfl (List.nil_sublist _) ⟨rfl, rfl, ?_⟩
    all_goals exact ⟨_, _, _, by rw [hyes]; rfl, fun _ => ⟨esg, by rw [ebs]; rfl, by rw [enm, e1]; rfl⟩⟩
theorem c_readKind {s : List UInt8} (h : s.length ≤ 2000000) : PuG Tryz.prog 23 [S s] G (KdPost s) := by
  by_cases hl : s.length ≤ 12
  · exact c_readKindT hl rfl
  have e : kindOk s = false := by unfold kindOk; rw [decide_eq_false hl, Bool.false_and]
  refine p_enter [(0, _)] Tryz.func23 (by kernel_rfl) Tryz.ntmps23 rfl rfl (by repeat (first | exact trivial | refine ⟨rfl, ?_⟩)) fun B hB => ?_
  repeat' (first | (refine run (t := tb) 400 rfl ?_ ?_; (focus (repeat' ((exact trivial))))) | (refine k_op rfl ?_; first | refine c_al rfl rfl fun _ => ?_ | refine v_op (g_bld rfl rfl) rfl rfl ?_ | refine c_stA rfl rfl rfl rfl rfl rfl ?_) | (refine k_tt rfl ?_ ?_; (focus (((refine decide_eq_true ?_; (omega))); done))))
  all_goals refine k_rr (vs := [_, _]) rfl ⟨rc_A rfl rfl rfl rfl, rfl, trivial⟩ rfl (List.nil_sublist _) ⟨rfl, rfl, ?_⟩
  all_goals exact ⟨[], [], [], by rw [e]; rfl, fun h => by rw [e] at h; cases h⟩
end Go.E
/-! Mg -/
namespace Go.E
set_option maxRecDepth 20000
set_option maxHeartbeats 2000000
open Go.Proofs
variable {G : Gh}
theorem u8_dig {c : UInt8} (h : 48 ≤ c.toNat) : u8 (48 + ((c.toNat : Int) - 48)) = c := by
  apply UInt8.toNat_inj.1
  have h2 := c.toNat_lt
  have := u8_val (a := 48 + ((c.toNat : Int) - 48)) (by omega)
  omega
theorem digF_dec : ∀ {s : List UInt8} {n m : Int}, 1 ≤ n → digF n s = some m → decI m = decI n ++ s ∧ n ≤ m
  | [], n, m, h0, h => by simp only [digF, Option.some.injEq] at h; subst h; simp
  | c :: r, n, m, h0, h => by
    unfold digF at h
    split at h
    · rename_i hc
      have ih := digF_dec (s := r) (by omega) h
      refine ⟨?_, by omega⟩
      have e1 : (10 * n + ((c.toNat : Int) - 48)) / 10 = n := by omega
      have e2 : (10 * n + ((c.toNat : Int) - 48)) % 10 = (c.toNat : Int) - 48 := by omega
      rw [ih.1, decI_hi (n := 10 * n + ((c.toNat : Int) - 48)) (by omega), e1, e2, u8_dig hc.1]; simp
    · cases h
theorem decI_head : ∀ (k : Nat) {m : Int}, m.toNat ≤ k → 1 ≤ m → ∃ c r, decI m = c :: r ∧ c.toNat ≠ 48
  | 0, m, h, h1 => by omega
  | k + 1, m, h, h1 => by
    by_cases hm : m < 10
    · refine ⟨_, [], decI_lo hm (by omega), ?_⟩
      have := u8_val (a := 48 + m) (by omega)
      omega
    · obtain ⟨c, r, e, hc⟩ := decI_head k (m := m / 10) (by omega) (by omega)
      exact ⟨c, r ++ [u8 (48 + m % 10)], by rw [decI_hi hm, e]; rfl, hc⟩
theorem digF_nn : ∀ {s : List UInt8} {n m : Int}, 0 ≤ n → digF n s = some m → 0 ≤ m
  | [], n, m, h0, h => by simp only [digF, Option.some.injEq] at h; omega
  | c :: r, n, m, h0, h => by
    unfold digF at h
    split at h
    · exact digF_nn (s := r) (by omega) h
    · cases h
/-- Digits without needless zeros. -/
theorem dec_iff {c : UInt8} {r : List UInt8} {m : Int} (h : digF 0 (c :: r) = some m) : c :: r = decI m ↔ ¬ (c.toNat = 48 ∧ r ≠ []) := by
  have h' := h
  unfold digF at h
  split at h
  · rename_i hc
    by_cases h0 : c.toNat = 48
    · have e0 : (10 * 0 + ((c.toNat : Int) - 48)) = 0 := by omega
      rw [e0] at h
      constructor
      · rintro e ⟨_, hr⟩
        have hm := digF_nn (Int.le_refl 0) h
        rcases Int.lt_or_le m 1 with h1 | h1
        · have : m = 0 := by omega
          subst this
          rw [decI_lo (by omega) (by omega)] at e
          simp only [List.cons.injEq] at e
          exact hr e.2
        · obtain ⟨d, t, e2, hd⟩ := decI_head m.toNat (Nat.le_refl _) h1
          rw [e2] at e
          simp only [List.cons.injEq] at e
          exact hd (by rw [← e.1]; exact h0)
      · intro hn
        have hr : r = [] := by
          by_cases hr : r = []
          · exact hr
          · exact absurd ⟨h0, hr⟩ hn
        subst hr
        simp only [digF, Option.some.injEq] at h
        subst h
        rw [decI_lo (by omega) (by omega)]
        congr 1
        apply UInt8.toNat_inj.1
        have := u8_val (a := 48 + 0) (by omega)
        omega
    · have := digF_dec (by omega) h
      rw [this.1, decI_lo (by omega) (by omega)]
      have e : (10 * 0 + ((c.toNat : Int) - 48)) = (c.toNat : Int) - 48 := by omega
      rw [e, u8_dig hc.1]
      simp [h0]
  · cases h
theorem c_plainNumberB {s : List UInt8} {top : Int} (h : s.length ≤ 100000000) : PuG Tryz.prog 72 [S s, I top] G (fun v => ∃ n, v = Tu [I n, Bo (numOf s top).isSome] ∧ (∀ m, numOf s top = some m → n = m) ∧ 0 ≤ n ∧ n ≤ 999999) := by
  by_cases hl : 1 ≤ s.length ∧ s.length ≤ 6
  case neg =>
    have hno : numOf s top = none := by
      unfold numOf
      by_cases h6 : s.length ≤ 6
      · have : s = [] := List.length_eq_zero_iff.1 (by omega)
        subst this
        rw [if_pos (by simp)]
        simp [digF, decI_lo]
      · rw [if_neg h6]
    refine p_enter [(0, _), (1, _)] Tryz.func72 (by kernel_rfl) Tryz.ntmps72 rfl rfl (by repeat (first | exact trivial | refine ⟨rfl, ?_⟩)) fun B hB => ?_
    repeat' (first | (refine run (t := tb) 400 rfl ?_ ?_; (focus (repeat' ((exact trivial))))) | (refine k_op rfl ?_; first | (refine v_op (g_pickT rfl rfl ?_) rfl rfl ?_; (focus (((rfl)); done))) | (refine v_op (g_pickF rfl rfl ?_) rfl rfl ?_; (focus (((rfl)); done)))) | (refine k_gt rfl rfl ?_ ?_; (focus ((first | rfl | (refine decide_eq_true ?_; (omega))); done))) | refine k_g rfl rfl (fun _ => ?_) (fun _ => ?_) | (refine k_tt rfl ?_ ?_; (focus (((rfl)); done))))
    all_goals refine k_rr (vs := [_, _]) rfl ⟨rfl, rfl, trivial⟩ rfl (List.nil_sublist _) ⟨rfl, rfl, ?_⟩
    all_goals exact ⟨_, by rw [hno]; rfl, fun m hm => (by rw [hno] at hm; cases hm), by decide, by decide⟩
  by_cases hz : bt s 0 = 48 ∧ 1 < s.length
  · have hz0 : bt s (Int.toNat 0) = 48 := hz.1
    have hno : numOf s top = none := by
      match s, hz, hl with
      | c :: r, hz, hl =>
        unfold numOf
        rw [if_pos hl.2]
        split
        · rename_i n hn
          rw [if_neg]
          rintro ⟨e, _⟩
          rw [bt_zero] at hz
          exact (dec_iff hn).1 e ⟨hz.1, by rintro rfl; simp at hz⟩
        · rfl
    refine p_enter [(0, _), (1, _)] Tryz.func72 (by kernel_rfl) Tryz.ntmps72 rfl rfl (by repeat (first | exact trivial | refine ⟨rfl, ?_⟩)) fun B hB => ?_
    repeat' (first | (refine run (t := tb) 400 rfl ?_ ?_; (focus (repeat' (first | exact trivial | apply And.intro | omega)))) | (refine k_op rfl ?_; first | (refine v_op (g_pickT rfl rfl ?_) rfl rfl ?_; (focus (((rfl)); done))) | (refine v_op (g_pickF rfl rfl ?_) rfl rfl ?_; (focus (((rfl)); done)))) | (refine k_gt rfl rfl ?_ ?_; (focus (((refine decide_eq_true ?_; (omega))); done))) | (refine k_gf rfl rfl ?_ ?_; (focus (((refine decide_eq_false ?_; (omega))); done))) | (refine k_tt rfl ?_ ?_; (focus (((refine decide_eq_true ?_; (omega))); done))))
    all_goals refine k_rr (vs := [_, _]) rfl ⟨rfl, rfl, trivial⟩ rfl (List.nil_sublist _) ⟨rfl, rfl, ?_⟩
    all_goals exact ⟨_, by rw [hno]; rfl, fun m hm => (by rw [hno] at hm; cases hm), by decide, by decide⟩
  have hz0 : ¬ (bt s (Int.toNat 0) = 48 ∧ 1 < s.length) := hz
  have key : numOf s top = match digF 0 s with
      | some n => if n ≤ top then some n else none
      | none => none := by
    match s, hz, hl with
    | c :: r, hz, hl =>
      unfold numOf
      rw [if_pos hl.2]
      cases hd : digF 0 (c :: r) with
      | some n =>
        have hn := hd
        have : c :: r = decI n := (dec_iff hn).2 (by rw [bt_zero] at hz; rintro ⟨h1, h2⟩; exact hz ⟨h1, by have := List.length_pos_iff.2 h2; simp; omega⟩)
        dsimp only
        rw [← this]
        simp
      | none => rfl
  refine p_enter [(0, _), (1, _)] Tryz.func72 (by kernel_rfl) Tryz.ntmps72 rfl rfl (by repeat (first | exact trivial | refine ⟨rfl, ?_⟩)) fun B hB => ?_
  repeat' (first | (refine run (t := tb) 400 rfl ?_ ?_; (focus (repeat' (first | exact trivial | apply And.intro | omega)))) | (refine k_op rfl ?_; first | (refine v_op (g_pickT rfl rfl ?_) rfl rfl ?_; (focus (((rfl)); done))) | (refine v_op (g_pickF rfl rfl ?_) rfl rfl ?_; (focus (((rfl)); done)))) | (refine k_gf rfl rfl ?_ ?_; (focus (((refine decide_eq_false ?_; (omega))); done))) | refine k_g rfl rfl (fun _ => ?_) (fun _ => ?_) | (refine k_ff rfl ?_ ?_; (focus ((first | rfl | (refine decide_eq_false ?_; (omega))); done))))
  all_goals (refine k_loop (ι := Nat × Int) (fun i => (i.1 ≤ s.length ∧ i.1 ≤ 6) ∧ (0 ≤ i.2 ∧ i.2 + 1 ≤ 10 ^ i.1) ∧ digF i.2 (s.drop i.1) = digF 0 s) (fun i => [(0, S s), (1, I top), (6, I i.2), (27, I s.length), (28, I i.1)]) (fun _ => G) (fun i => []) (fun i => s.length - i.1) (0, 0) ?_ (by repeat (first | exact trivial | refine ⟨rfl, ?_⟩)) rfl (by repeat ((exact List.Sublist.refl _))) (fun i Hi => ?_))
  all_goals (first | exact ⟨⟨by dsimp only; omega, by dsimp only; omega⟩, ⟨by dsimp only; omega, by dsimp only; decide⟩, rfl⟩ | skip)
  all_goals obtain ⟨i, n⟩ := i
  all_goals dsimp only at Hi ⊢
  all_goals by_cases hi : i < s.length
  all_goals first
    | (obtain ⟨c, hc1, hc2⟩ := drop_bt hi
       have hc3 : bt s ((i : Int).toNat) = c.toNat := hc2
       have hd := Hi.2.2
       rw [hc1, digF] at hd
       have h5 : i ≤ 5 := by omega
       have hp := pow6 i h5
       by_cases hdig : 48 ≤ c.toNat ∧ c.toNat ≤ 57
       · rw [if_pos hdig] at hd
         repeat' (first | (refine run (t := tb) 400 rfl ?_ ?_; (focus (repeat' (first | exact trivial | apply And.intro | omega)))) | (refine k_op rfl ?_; (refine v_op (g_pickF rfl rfl ?_) rfl rfl ?_; (focus (((rfl)); done)))) | (refine k_gf rfl rfl ?_ ?_; (focus (((refine decide_eq_false ?_; (omega))); done))) | (refine k_tt rfl ?_ ?_; (focus (((refine decide_eq_true ?_; (omega))); done))) | (refine k_ff rfl ?_ ?_; (focus (((refine decide_eq_false ?_; (omega))); done))))
         refine k_rd (i + 1, 10 * n + ((c.toNat : Int) - 48)) ⟨⟨by dsimp only; omega, by dsimp only; omega⟩, ⟨by dsimp only; omega, by dsimp only; rw [hp.1]; omega⟩, hd⟩ (by dsimp only; omega) ?_ rfl (by repeat ((exact List.Sublist.refl _)))
         rw [← hc2]; repeat (first | exact trivial | refine ⟨rfl, ?_⟩)
       · rw [if_neg hdig] at hd
         have hno : numOf s top = none := by rw [key, ← hd]
         repeat' (first | (refine run (t := tb) 400 rfl ?_ ?_; (focus (repeat' (first | exact trivial | apply And.intro | omega)))) | (refine k_op rfl ?_; first | (refine v_op (g_pickT rfl rfl ?_) rfl rfl ?_; (focus (((rfl)); done))) | (refine v_op (g_pickF rfl rfl ?_) rfl rfl ?_; (focus (((rfl)); done)))) | refine k_g rfl rfl (fun _ => ?_) (fun _ => ?_) | (refine k_tt rfl ?_ ?_; (focus ((first | rfl | (refine decide_eq_true ?_; (omega))); done))))
         all_goals refine k_rr (vs := [_, _]) rfl ⟨rfl, rfl, trivial⟩ rfl (List.nil_sublist _) ⟨rfl, rfl, ?_⟩
         all_goals exact ⟨_, by rw [hno]; rfl, fun m hm => (by rw [hno] at hm; cases hm), by decide, by decide⟩)
    | (have ei : i = s.length := by omega
       have hd := Hi.2.2
       rw [ei, List.drop_length, digF] at hd
       have hno : numOf s top = if n ≤ top then some n else none := by rw [key, ← hd]
       repeat' (first | (refine run (t := tb) 400 rfl ?_ ?_; (focus (repeat' ((exact trivial))))) | (refine k_ff rfl ?_ ?_; (focus (((refine decide_eq_false ?_; (omega))); done))))
       refine k_rr (vs := [_, _]) rfl ⟨rfl, rfl, trivial⟩ rfl (List.nil_sublist _) ⟨rfl, rfl, ?_⟩
       have hp6 : ∀ i : Nat, i ≤ 6 → (10 : Int) ^ i ≤ 1000000 := by decide
       have hp7 := hp6 i (by omega)
       have hlo := Hi.2.1.1
       have hhi := Hi.2.1.2
       refine ⟨n, ?_, fun m hm => ?_, by omega, by omega⟩
       · rw [hno, oneOf_two]
         by_cases ht : n ≤ top
         · rw [if_pos ht, decide_eq_true ht]; rfl
         · rw [if_neg ht, decide_eq_false ht]; rfl
       · rw [hno] at hm
         split at hm
         · exact Option.some.inj hm
         · cases hm)
theorem c_plainNumber {s : List UInt8} {top : Int} (h : s.length ≤ 100000000) : PuG Tryz.prog 72 [S s, I top] G (fun v => ∃ n, v = Tu [I n, Bo (numOf s top).isSome] ∧ (∀ m, numOf s top = some m → n = m)) := by
  refine (c_plainNumberB (G := G) h).mono ?_
  rintro v G' L' ⟨h1, h2, n, h3, h4, _⟩
  exact ⟨h1, h2, n, h3, h4⟩
theorem c_decimal : ∀ (k : Nat) {n : Int}, n.toNat ≤ k → 0 ≤ n ∧ n ≤ 9223372036854775807 → PuG Tryz.prog 49 [I n] G (· = S (decI n)) := by
  intro k
  induction k with
  | zero =>
    intro n hk hn
    have h1 : n < 10 := by omega
    refine p_enter [(0, _)] Tryz.func49 (by kernel_rfl) Tryz.ntmps49 rfl rfl (by repeat (first | exact trivial | refine ⟨rfl, ?_⟩)) fun B hB => ?_
    repeat' (first | (refine run (t := tb) 400 rfl ?_ ?_; (focus (repeat' (first | exact trivial | apply And.intro | omega)))) | (refine k_op rfl ?_; first | refine c_bsl rfl rfl rfl rfl rfl rfl fun _ => ?_ | refine v_op (g_bsB rfl rfl (by (repeat (first | exact BL.nil | apply BL.cons)); done)) rfl rfl ?_) | (refine k_tt rfl ?_ ?_; (focus (((refine decide_eq_true ?_; (assumption))); done))))
    refine k_rr (vs := [_]) rfl ⟨rfl, trivial⟩ rfl (List.nil_sublist _) ⟨rfl, rfl, ?_⟩
    rw [oneOf_one, decI_lo h1 hn.1]
  | succ k ih =>
    intro n hk hn
    have hl := decI_len (n := n / 10) (by omega)
    have hl2 := decI_len (n := n % 10) (by omega)
    by_cases h1 : n < 10
    · refine p_enter [(0, _)] Tryz.func49 (by kernel_rfl) Tryz.ntmps49 rfl rfl (by repeat (first | exact trivial | refine ⟨rfl, ?_⟩)) fun B hB => ?_
      repeat' (first | (refine run (t := tb) 400 rfl ?_ ?_; (focus (repeat' (first | exact trivial | apply And.intro | omega)))) | (refine k_op rfl ?_; first | refine c_bsl rfl rfl rfl rfl rfl rfl fun _ => ?_ | refine v_op (g_bsB rfl rfl (by (repeat (first | exact BL.nil | apply BL.cons)); done)) rfl rfl ?_) | (refine k_tt rfl ?_ ?_; (focus (((refine decide_eq_true ?_; (assumption))); done))))
      refine k_rr (vs := [_]) rfl ⟨rfl, trivial⟩ rfl (List.nil_sublist _) ⟨rfl, rfl, ?_⟩
      rw [oneOf_one, decI_lo h1 hn.1]
    · refine p_enter [(0, _)] Tryz.func49 (by kernel_rfl) Tryz.ntmps49 rfl rfl (by repeat (first | exact trivial | refine ⟨rfl, ?_⟩)) fun B hB => ?_
      repeat' (first | (refine run (t := tb) 400 rfl ?_ ?_; (focus (repeat' (first | exact trivial | apply And.intro | omega)))) | (refine k_op rfl ?_; (refine c_rt rfl rfl rfl (ih ?_ ?_) rfl ?_; (focus (((omega)); done)); (focus (((omega)); done)))) | (refine k_ff rfl ?_ ?_; (focus (((refine decide_eq_false ?_; (assumption))); done))))
      all_goals refine k_rr (vs := [_]) rfl ⟨rfl, trivial⟩ rfl (List.nil_sublist _) ⟨rfl, rfl, ?_⟩
      all_goals rw [oneOf_one, decI_hi (n := n) h1, decI_lo (n := n % 10) (by omega) (by omega)]
theorem c_decimalN {n : Int} (hn : 0 ≤ n ∧ n ≤ 9223372036854775807) : PuG Tryz.prog 49 [I n] G (· = S (decI n)) := c_decimal n.toNat (Nat.le_refl _) hn
end Go.E
/-! Nc -/
namespace Go.E
set_option maxRecDepth 20000
set_option maxHeartbeats 2000000
open Go.Proofs
variable {G : Gh}
theorem cut_count1 (c : UInt8) : ∀ s acc : List UInt8, (cutA c.toNat acc s).length = s.count c + 1
  | [], acc => by simp [cutA]
  | d :: r, acc => by
    unfold cutA
    by_cases h : d = c
    · subst h
      rw [if_pos rfl, List.length_cons, cut_count1 d r []]; simp
    · have h2 : ¬ d.toNat = c.toNat := fun e => h (UInt8.toNat_inj.1 e)
      rw [if_neg h2, cut_count1 c r _, List.count_cons]; simp [h]
theorem c_Count {s : List UInt8} {c : UInt8} : PuG Tryz.prog 99 [S s, S [c]] G (· = I (((cut c.toNat s).length : Int) - 1)) := by
  have hx : ∀ w, (callFunc 110 [S s, U8 (bt [c] (Int.toNat 0))].toArray).run Tryz.prog w = .ok (.value (I (((cut c.toNat s).length : Int) - 1))) w := fun w => by
    rw [show bt [c] (Int.toNat 0) = c.toNat from bt_zero c []]
    rw [run_callFunc_extern Tryz.func110 (by kernel_rfl) (by kernel_rfl) (by kernel_rfl) (e := Extern.BytealgCount.count) (by kernel_rfl)]
    have := Lib.run_countString (P := Tryz.prog) ⟨s.toArray⟩ (c.toNat : Int) w
    rw [this]
    simp only [Result.andThen]
    have e : (cut c.toNat s).length = s.count c + 1 := cut_count1 c s []
    rw [e]
    simp [Lib.countByte]
  refine p_enter [(0, _), (1, _)] Tryz.func99 (by kernel_rfl) Tryz.ntmps99 rfl rfl (by repeat (first | exact trivial | refine ⟨rfl, ?_⟩)) fun B hB => ?_
  repeat' (first | (refine run (t := tb) 400 rfl ?_ ?_; (focus (repeat' (first | exact trivial | apply And.intro | omega | (simp only [List.length_append, List.length_cons, List.length_nil, Int.toNat_natCast]; omega))))) | (refine k_tt rfl ?_ ?_; (focus (((rfl)); done))) | (refine k_ff rfl ?_ ?_; (focus (((rfl)); done))))
  refine k_op rfl (v_op (g_extern rfl rfl rfl hx) rfl rfl ?_)
  repeat' ((refine run (t := tb) 400 rfl ?_ ?_; (focus (repeat' ((exact trivial))))))
  refine k_rr (vs := [_]) rfl ⟨rfl, trivial⟩ rfl (List.nil_sublist _) ⟨rfl, rfl, ?_⟩
  rfl
theorem c_genSplit {s : List UInt8} {c : UInt8} (hs : s.length ≤ 100000000) : FnS Tryz.prog 82 [S s, S [c], I 0, I (-1)] G (fun v G' => SlV G' v 1 (cut c.toNat s).length (rows strF (cut c.toNat s))) := by
  have hlen := cut_count (k := c.toNat) (s := s)
  have hpos := cut_pos (k := c.toNat) (s := s)
  have emin : min (((cut c.toNat s).length : Int) - 1 + 1) ((s.length : Int) + 1) = ((cut c.toNat s).length : Nat) := by omega
  refine b_enter [(0, _), (1, _), (2, _), (3, _)] Tryz.func82 (by kernel_rfl) Tryz.ntmps82 rfl rfl (by repeat (first | exact trivial | refine ⟨rfl, ?_⟩)) fun B hok hB hW => ?_
  repeat' (first | (refine run (t := tb) 400 rfl ?_ ?_; (focus (repeat' (first | exact trivial | apply And.intro | omega)))) | (refine k_op rfl ?_; first | refine v_op (g_min rfl rfl) rfl rfl ?_ | (refine c_rt rfl rfl rfl c_Count rfl ?_)) | (refine k_tt rfl ?_ ?_; (focus (((rfl)); done))) | (refine k_ff rfl ?_ ?_; (focus (((rfl)); done))))
  rw [emin]
  repeat' (first | (refine run (t := tb) 400 rfl ?_ ?_; (focus (repeat' (first | exact trivial | apply And.intro | omega)))) | (refine k_op rfl ?_; (refine c_mk rfl rfl rfl rfl ?_ (fun _ => ?_); (focus (((omega)); done)))))
  rename_i x
  refine k_loop (ι := List (List UInt8) × List UInt8) (fun i => i.1.length + i.2.length ≤ s.length ∧ i.1.length < (cut c.toNat s).length ∧ i.1 ++ cut c.toNat i.2 = cut c.toNat s) (fun i => [(0, S i.2), (1, S [c]), (2, I 0), (3, I (((cut c.toNat s).length : Int) - 1)), (9, .slice (some ⟨x, 0, none⟩) (cut c.toNat s).length (cut c.toNat s).length), (10, I (i.1.length : Nat))]) (fun _ => G) (fun i => [.blk x (.cells (rows strF i.1 ++ zerosL [S []] ((cut c.toNat s).length - i.1.length)).toArray tStr (0, 0))]) (fun i => (cut c.toNat s).length - i.1.length) ([], s) ?_ (by repeat (first | exact trivial | refine ⟨rfl, ?_⟩)) rfl (by repeat ((exact List.Sublist.refl _))) (fun i Hi => ?_)
  · exact ⟨by simp, hpos, rfl⟩
  obtain ⟨xs, t⟩ := i
  dsimp only at Hi ⊢
  obtain ⟨hl, hlt, he⟩ := Hi
  have hel := congrArg List.length he
  rw [List.length_append] at hel
  rcases idx1_cases c.toNat t with ⟨h1, h2⟩ | ⟨m, h1, h3, h2⟩
  · have hc1 : cut c.toNat t = [t] := by rw [cut_cut1, h2]; rfl
    rw [hc1] at he hel
    simp only [List.length_cons, List.length_nil] at hel
    have hm : (cut c.toNat s).length - xs.length = 1 := by omega
    rw [hm]
    repeat' (first | (refine run (t := tb) 400 rfl ?_ ?_; (focus (repeat' (first | exact trivial | apply And.intro | omega)))) | (refine k_op rfl ?_; first | (refine v_op (g_iaddrN rfl rfl ?_) rfl rfl ?_; (focus ((omega); done))) | (refine c_stRS rfl rfl rfl ?_ ?_ ?_; (focus (((omega)); done)); (focus (((omega)); done))) | (refine v_op (g_slTo rfl rfl ?_) rfl rfl ?_; (focus ((omega); done)))) | (refine k_ff rfl ?_ ?_; (focus (((refine decide_eq_false ?_; (omega))); done))))
    refine Nx.sealC (b := x) fun G' hle hseg => ?_
    refine k_rr (vs := [_]) rfl ⟨rfl, trivial⟩ rfl (List.nil_sublist _) ⟨hle, rfl, ?_⟩
    have e1 : (((xs.length : Nat) : Int) + 1).toNat = (cut c.toNat s).length := by omega
    have e2 : rows strF (xs ++ [t]) ++ zerosL [S []] (1 - 1) = rows strF (cut c.toNat s) := by rw [he]; simp [zerosL]
    rw [oneOf_one, e1]
    rw [e2] at hseg
    exact ⟨by rw [rows_len], .inr ⟨_, _, _, rfl, Nat.le_refl _, hseg⟩⟩
  · have hc1 : cut c.toNat t = t.take m :: cut c.toNat (t.drop (m + 1)) := by rw [cut_cut1, h2]; rfl
    rw [hc1] at he hel
    have hp2 := cut_pos (k := c.toNat) (s := t.drop (m + 1))
    simp only [List.length_cons] at hel
    have cx_ix : PuG Tryz.prog 81 [S t, S [c]] G (· = I (m : Int)) := by have := c_Index (G := G) (s := t) (c := c); rwa [h1] at this
    obtain ⟨k, hk⟩ : ∃ k, (cut c.toNat s).length - xs.length = k + 1 := ⟨(cut c.toNat s).length - xs.length - 1, by omega⟩
    have hk2 : (cut c.toNat s).length = xs.length + k + 1 := by omega
    rw [hk]
    generalize (cut c.toNat s).length = N at *
    repeat' (first | (refine run (t := tb) 400 rfl ?_ ?_; (focus (repeat' (first | exact trivial | apply And.intro | omega | (simp only [List.length_append, List.length_cons, List.length_nil, Int.toNat_natCast]; omega))))) | (refine k_op rfl ?_; first | (refine v_op (g_iaddrN rfl rfl ?_) rfl rfl ?_; (focus ((omega); done))) | (refine c_stRS rfl rfl rfl ?_ ?_ ?_; (focus (((omega)); done)); (focus (((omega)); done))) | (refine c_rt rfl rfl rfl cx_ix rfl ?_)) | (refine k_tt rfl ?_ ?_; (focus (((refine decide_eq_true ?_; (omega))); done))) | (refine k_ff rfl ?_ ?_; (focus (((rfl)); done))))
    have e1 : rows strF (xs ++ [t.take ((m : Int) + 0).toNat]) ++ zerosL [S []] (k + 1 - 1) = rows strF (xs ++ [t.take m]) ++ zerosL [S []] (N - (xs ++ [t.take m]).length) := by
      have e2 : N - (xs ++ [t.take m]).length = k + 1 - 1 := by simp; omega
      rw [e2]
      have e3 : ((m : Int) + 0).toNat = m := by omega
      rw [e3]
    have e4 : ((m : Int) + (([c] : List UInt8).length : Nat)).toNat = m + 1 := by simp only [List.length_cons, List.length_nil]; omega
    have e5 : ((xs.length : Nat) : Int) + 1 = ((xs ++ [t.take m]).length : Nat) := by simp
    rw [e1, e4, e5]
    refine k_rd (xs ++ [t.take m], t.drop (m + 1)) ⟨by simp; omega, by simp; omega, by simpa using he⟩ (by simp; omega) (by repeat (first | exact trivial | refine ⟨rfl, ?_⟩)) rfl (by repeat ((exact List.Sublist.refl _)))
theorem c_Split {s : List UInt8} {c : UInt8} (hs : s.length ≤ 100000000) : FnS Tryz.prog 62 [S s, S [c]] G (fun v G' => SlV G' v 1 (cut c.toNat s).length (rows strF (cut c.toNat s))) := by
  have cx_gs := c_genSplit (G := G) (c := c) hs
  refine b_enter [(0, _), (1, _)] Tryz.func62 (by kernel_rfl) Tryz.ntmps62 rfl rfl (by repeat (first | exact trivial | refine ⟨rfl, ?_⟩)) fun B hok hB hW => ?_
  repeat' (first | (refine run (t := tb) 400 rfl ?_ ?_; (focus (repeat' ((exact trivial))))) | (refine k_op rfl ?_; (refine c_fns rfl rfl rfl cx_gs rfl ?_; rintro _ G hle hspl; skip)))
  all_goals refine k_rr (vs := [_]) rfl ⟨rfl, trivial⟩ rfl (List.nil_sublist _) ⟨hle, rfl, ?_⟩
  all_goals exact hspl
end Go.E
/-! Mh -/
namespace Go.E
set_option maxRecDepth 20000
set_option maxHeartbeats 2000000
open Go.Proofs
variable {G : Gh}
def fiF (f : Fld) : List Value := [I f.tag, S f.name, S (sg f.kind), S (bs f.kind), S (nm f.kind), S f.stand]
instance : RowF fiF 6 := ⟨fun _ => rfl⟩
theorem tx_trim (s : List UInt8) : trimL (inS txS) (trimR (inS txS) s) = [] ↔ ∀ c ∈ s, txN c.toNat := by
  rw [trim_nil]
  exact forall_congr' fun c => forall_congr' fun _ => by rw [tx_in]; simp
/-- The inside of a text. -/
def isTI (s : List UInt8) : Bool := decide (s.length ≤ 12) && s.all fun c => decide (txN c.toNat)
theorem c_isText {s : List UInt8} (h : s.length ≤ 2000000) : PuG Tryz.prog 100 [S s] G (· = Bo (isTI s)) := by
  have cx_trim := c_Trim (G := G) (s := s) (cs := txS) rfl (by kernel_rfl) rfl h
  have key := tx_trim s
  have e : isTI s = (decide (s.length ≤ 12) && decide (trimL (inS txS) (trimR (inS txS) s) = [])) := by
    unfold isTI
    congr 1
    rw [Bool.eq_iff_iff, List.all_eq_true, decide_eq_true_eq, key]
    simp
  rw [e]
  by_cases hl : s.length ≤ 12
  · rw [decide_eq_true hl, Bool.true_and]
    refine p_enter [(0, _)] Tryz.func100 (by kernel_rfl) Tryz.ntmps100 rfl rfl (by repeat (first | exact trivial | refine ⟨rfl, ?_⟩)) fun B hB => ?_
    repeat' (first | (refine run (t := tb) 400 rfl ?_ ?_; (focus (repeat' ((exact trivial))))) | (refine k_op rfl ?_; first | (refine v_op (g_pickT rfl rfl ?_) rfl rfl ?_; (focus (((rfl)); done))) | (refine c_rt rfl rfl rfl cx_trim rfl ?_)) | (refine k_gt rfl rfl ?_ ?_; (focus (((refine decide_eq_true ?_; (omega))); done))))
    all_goals refine k_rr (vs := [_]) rfl ⟨rfl, trivial⟩ rfl (List.nil_sublist _) ⟨rfl, rfl, ?_⟩
    all_goals rfl
  · rw [decide_eq_false hl, Bool.false_and]
    refine p_enter [(0, _)] Tryz.func100 (by kernel_rfl) Tryz.ntmps100 rfl rfl (by repeat (first | exact trivial | refine ⟨rfl, ?_⟩)) fun B hB => ?_
    repeat' (first | (refine run (t := tb) 400 rfl ?_ ?_; (focus (repeat' ((exact trivial))))) | (refine k_op rfl ?_; (refine v_op (g_pickF rfl rfl ?_) rfl rfl ?_; (focus (((rfl)); done)))) | (refine k_gf rfl rfl ?_ ?_; (focus (((refine decide_eq_false ?_; (omega))); done))))
    all_goals refine k_rr (vs := [_]) rfl ⟨rfl, trivial⟩ rfl (List.nil_sublist _) ⟨rfl, rfl, ?_⟩
    all_goals rfl
theorem isTx_in {s : List UInt8} : (isTx s && decide (s ≠ [39, 39])) = (decide (2 < s.length) && (decide (bt s 0 = 39) && (decide (bt s (s.length - 1) = 39) && isTI ((s.take (s.length - 1)).drop 1)))) := by
  rw [Bool.eq_iff_iff]
  simp only [Bool.and_eq_true, decide_eq_true_eq, isTx, isTI, List.all_eq_true]
  constructor
  · rintro ⟨⟨h1, h2, h3, h4⟩, h5⟩
    have hl : 2 < s.length := by
      rcases Nat.lt_or_ge 2 s.length with h6 | h6
      · exact h6
      · exfalso
        match s, h1, h6, h2, h3 with
        | [a, b], _, _, h2, h3 =>
          rw [bt_zero] at h2
          simp only [List.length_cons, List.length_nil] at h3
          rw [show (0 + 1 + 1 - 1) = 0 + 1 from rfl, bt_succ, bt_zero] at h3
          have e1 : a = 39 := UInt8.toNat_inj.1 h2
          have e2 : b = 39 := UInt8.toNat_inj.1 h3
          subst e1; subst e2; exact h5 rfl
    refine ⟨hl, h2, h3, by simp; omega, fun c hc => ?_⟩
    obtain ⟨i, hi, rfl⟩ := List.mem_iff_getElem.1 hc
    simp only [List.length_drop, List.length_take] at hi
    have e : bt s (i + 1) = (((s.take (s.length - 1)).drop 1)[i]'(by simp; omega)).toNat := by
      simp [bt, List.getD, List.getElem?_eq_getElem (show i + 1 < s.length by omega)]
    rw [← e]
    rcases h4 (i + 1) (by omega) with h6 | h6
    · omega
    · exact h6
  · rintro ⟨hl, h2, h3, h4, h5⟩
    simp only [List.length_drop, List.length_take] at h4
    refine ⟨⟨by omega, h2, h3, fun i hi => ?_⟩, fun e => by subst e; simp at hl⟩
    rcases Nat.eq_zero_or_pos i with h6 | h6
    · exact .inl h6
    · refine .inr ?_
      have e : bt s i = (((s.take (s.length - 1)).drop 1)[i - 1]'(by simp; omega)).toNat := by
        have e1 : i - 1 + 1 = i := by omega
        simp [bt, List.getD, List.getElem?_eq_getElem (show i < s.length by omega), e1]
      rw [e]
      exact h5 _ (List.getElem_mem _)
theorem c_standing {b v : List UInt8} (h : v.length ≤ 2000000) : PuG Tryz.prog 83 [S b, S v] G (· = Bo (standOk b v)) := by
  by_cases h1 : b = [110]
  · have e : standOk b v = ((numOf v 999999).isSome && decide (v ≠ [48])) := by rw [standOk, if_pos h1]
    rw [e]
    rcases hn : numOf v 999999 with _ | m
    · refine p_enter [(0, _), (1, _)] Tryz.func83 (by kernel_rfl) Tryz.ntmps83 rfl rfl (by repeat (first | exact trivial | refine ⟨rfl, ?_⟩)) fun B hB => ?_
      repeat' (first | (refine run (t := tb) 400 rfl ?_ ?_; (focus (repeat' ((exact trivial))))) | (refine k_op rfl ?_; first | (refine v_op (g_pickF rfl rfl ?_) rfl rfl ?_; (focus (((rfl)); done))) | (refine c_pu rfl rfl rfl (c_plainNumber (by omega)) rfl ?_; rintro _ ⟨n, rfl, hnum⟩)) | (refine k_gf rfl rfl ?_ ?_; (focus (((simp [*]; done)); done))) | (refine k_tt rfl ?_ ?_; (focus (((refine decide_eq_true ?_; (assumption))); done))))
      all_goals refine k_rr (vs := [_]) rfl ⟨rfl, trivial⟩ rfl (List.nil_sublist _) ⟨rfl, rfl, ?_⟩
      all_goals (simp [*])
    · have hm := numOf_le hn
      have h0 : 0 ≤ m := by
        unfold numOf at hn
        split at hn
        · split at hn
          · rename_i hd
            split at hn
            · simp only [Option.some.injEq] at hn; subst hn; exact digF_nn (Int.le_refl 0) hd
            · cases hn
          · cases hn
        · cases hn
      have ev : decide (v ≠ [48]) = decide (0 < m) := by
        refine decide_eq_decide.2 ?_
        rw [hm.2.1]
        constructor
        · intro h2
          rcases Int.lt_or_le 0 m with h3 | h3
          · exact h3
          · have : m = 0 := by omega
            subst this
            exact absurd (by rw [decI_lo (by omega) (by omega)]; rfl) h2
        · intro h2 h3
          obtain ⟨c, r, e2, hc⟩ := decI_head m.toNat (Nat.le_refl _) (by omega)
          rw [e2] at h3
          simp only [List.cons.injEq] at h3
          exact hc (by rw [h3.1]; rfl)
      have cx_pnum : PuG Tryz.prog 72 [S v, I 999999] G (· = Tu [I m, Bo true]) := by
        refine (c_plainNumber (G := G) (top := 999999) (s := v) (by omega)).mono ?_
        rintro w G' L' ⟨h2, h3, n, rfl, h4⟩
        exact ⟨h2, h3, by rw [hn, h4 m hn]; rfl⟩
      rw [ev]
      refine p_enter [(0, _), (1, _)] Tryz.func83 (by kernel_rfl) Tryz.ntmps83 rfl rfl (by repeat (first | exact trivial | refine ⟨rfl, ?_⟩)) fun B hB => ?_
      repeat' (first | (refine run (t := tb) 400 rfl ?_ ?_; (focus (repeat' ((exact trivial))))) | (refine k_op rfl ?_; first | (refine v_op (g_pickT rfl rfl ?_) rfl rfl ?_; (focus (((rfl)); done))) | (refine c_rt rfl rfl rfl cx_pnum rfl ?_)) | (refine k_gt rfl rfl ?_ ?_; (focus (((rfl)); done))) | (refine k_tt rfl ?_ ?_; (focus (((refine decide_eq_true ?_; (assumption))); done))))
      all_goals refine k_rr (vs := [_]) rfl ⟨rfl, trivial⟩ rfl (List.nil_sublist _) ⟨rfl, rfl, ?_⟩
      all_goals (simp [*])
  by_cases h2 : b = [116]
  · have e : standOk b v = (isTx v && decide (v ≠ [39, 39])) := by rw [standOk, if_neg h1, if_pos h2]
    rw [e, isTx_in]
    have e4 : (((v.length : Nat) : Int) - 1).toNat = v.length - 1 := by omega
    by_cases hl : 2 < v.length
    case neg =>
      rw [decide_eq_false hl, Bool.false_and]
      refine p_enter [(0, _), (1, _)] Tryz.func83 (by kernel_rfl) Tryz.ntmps83 rfl rfl (by repeat (first | exact trivial | refine ⟨rfl, ?_⟩)) fun B hB => ?_
      repeat' (first | (refine run (t := tb) 400 rfl ?_ ?_; (focus (repeat' ((exact trivial))))) | (refine k_op rfl ?_; (refine v_op (g_pickF rfl rfl ?_) rfl rfl ?_; (focus (((rfl)); done)))) | (refine k_gf rfl rfl ?_ ?_; (focus ((first | rfl | (refine decide_eq_false ?_; (omega))); done))) | (refine k_tt rfl ?_ ?_; (focus (((refine decide_eq_true ?_; (assumption))); done))) | (refine k_ff rfl ?_ ?_; (focus (((refine decide_eq_false ?_; (assumption))); done))))
      all_goals refine k_rr (vs := [_]) rfl ⟨rfl, trivial⟩ rfl (List.nil_sublist _) ⟨rfl, rfl, ?_⟩
      all_goals rfl
    rw [decide_eq_true hl, Bool.true_and]
    by_cases hq : bt v 0 = 39
    case neg =>
      have hq2 : ¬ bt v (Int.toNat 0) = 39 := hq
      rw [decide_eq_false hq, Bool.false_and]
      refine p_enter [(0, _), (1, _)] Tryz.func83 (by kernel_rfl) Tryz.ntmps83 rfl rfl (by repeat (first | exact trivial | refine ⟨rfl, ?_⟩)) fun B hB => ?_
      repeat' (first | (refine run (t := tb) 400 rfl ?_ ?_; (focus (repeat' (first | exact trivial | apply And.intro | omega)))) | (refine k_op rfl ?_; first | (refine v_op (g_pickT rfl rfl ?_) rfl rfl ?_; (focus (((rfl)); done))) | (refine v_op (g_pickF rfl rfl ?_) rfl rfl ?_; (focus (((rfl)); done)))) | (refine k_gt rfl rfl ?_ ?_; (focus (((refine decide_eq_true ?_; (omega))); done))) | (refine k_gf rfl rfl ?_ ?_; (focus ((first | rfl | (refine decide_eq_false ?_; (omega))); done))) | (refine k_tt rfl ?_ ?_; (focus (((refine decide_eq_true ?_; (assumption))); done))) | (refine k_ff rfl ?_ ?_; (focus (((refine decide_eq_false ?_; (assumption))); done))))
      all_goals refine k_rr (vs := [_]) rfl ⟨rfl, trivial⟩ rfl (List.nil_sublist _) ⟨rfl, rfl, ?_⟩
      all_goals rfl
    have hq2 : bt v (Int.toNat 0) = 39 := hq
    rw [decide_eq_true hq, Bool.true_and]
    by_cases hr : bt v (v.length - 1) = 39
    case neg =>
      have hr2 : ¬ bt v (((v.length : Nat) : Int) - 1).toNat = 39 := by rw [e4]; exact hr
      rw [decide_eq_false hr, Bool.false_and]
      refine p_enter [(0, _), (1, _)] Tryz.func83 (by kernel_rfl) Tryz.ntmps83 rfl rfl (by repeat (first | exact trivial | refine ⟨rfl, ?_⟩)) fun B hB => ?_
      repeat' (first | (refine run (t := tb) 400 rfl ?_ ?_; (focus (repeat' (first | exact trivial | apply And.intro | omega)))) | (refine k_op rfl ?_; first | (refine v_op (g_pickT rfl rfl ?_) rfl rfl ?_; (focus (((rfl)); done))) | (refine v_op (g_pickF rfl rfl ?_) rfl rfl ?_; (focus (((rfl)); done)))) | (refine k_gt rfl rfl ?_ ?_; (focus (((refine decide_eq_true ?_; (omega))); done))) | (refine k_gf rfl rfl ?_ ?_; (focus (((refine decide_eq_false ?_; (omega))); done))) | (refine k_tt rfl ?_ ?_; (focus (((refine decide_eq_true ?_; (assumption))); done))) | (refine k_ff rfl ?_ ?_; (focus (((refine decide_eq_false ?_; (assumption))); done))))
      all_goals refine k_rr (vs := [_]) rfl ⟨rfl, trivial⟩ rfl (List.nil_sublist _) ⟨rfl, rfl, ?_⟩
      all_goals rfl
    have hr2 : bt v (((v.length : Nat) : Int) - 1).toNat = 39 := by rw [e4]; exact hr
    rw [decide_eq_true hr, Bool.true_and]
    refine p_enter [(0, _), (1, _)] Tryz.func83 (by kernel_rfl) Tryz.ntmps83 rfl rfl (by repeat (first | exact trivial | refine ⟨rfl, ?_⟩)) fun B hB => ?_
    repeat' (first | (refine run (t := tb) 400 rfl ?_ ?_; (focus (repeat' (first | exact trivial | apply And.intro | omega)))) | (refine k_op rfl ?_; first | (refine v_op (g_pickT rfl rfl ?_) rfl rfl ?_; (focus (((rfl)); done))) | (refine c_rt rfl rfl rfl (c_isText ?_) rfl ?_; (focus (((simp; omega)); done)))) | (refine k_gt rfl rfl ?_ ?_; (focus (((refine decide_eq_true ?_; (omega))); done))) | (refine k_tt rfl ?_ ?_; (focus (((refine decide_eq_true ?_; (assumption))); done))) | (refine k_ff rfl ?_ ?_; (focus (((refine decide_eq_false ?_; (assumption))); done))))
    all_goals refine k_rr (vs := [_]) rfl ⟨rfl, trivial⟩ rfl (List.nil_sublist _) ⟨rfl, rfl, ?_⟩
    all_goals rw [e4]; rfl
  · have e : standOk b v = (decide (b = [102]) && decide (v = [121, 101, 115])) := by
      rw [standOk, if_neg h1, if_neg h2]
      by_cases h3 : b = [102]
      · rw [if_pos h3, decide_eq_true h3, Bool.true_and]
      · rw [if_neg h3, decide_eq_false h3, Bool.false_and]
    rw [e]
    refine p_enter [(0, _), (1, _)] Tryz.func83 (by kernel_rfl) Tryz.ntmps83 rfl rfl (by repeat (first | exact trivial | refine ⟨rfl, ?_⟩)) fun B hB => ?_
    repeat' (first | (refine run (t := tb) 400 rfl ?_ ?_; (focus (repeat' ((exact trivial))))) | (refine k_op rfl ?_; first | (refine v_op (g_pickT rfl rfl ?_) rfl rfl ?_; (focus (((rfl)); done))) | (refine v_op (g_pickF rfl rfl ?_) rfl rfl ?_; (focus (((rfl)); done)))) | refine k_g rfl rfl (fun _ => ?_) (fun _ => ?_) | (refine k_ff rfl ?_ ?_; (focus (((refine decide_eq_false ?_; (assumption))); done))))
    all_goals refine k_rr (vs := [_]) rfl ⟨rfl, trivial⟩ rfl (List.nil_sublist _) ⟨rfl, rfl, ?_⟩
    all_goals (simp [*])
theorem stand_bs {c v : List UInt8} (h : kindOk c = true) : (decide (sg c = []) && standOk (bs c) v) = standOk c v := by
  match c, h with
  | x :: r, h =>
    by_cases h1 : x.toNat = 91 ∨ x.toNat = 63
    · have hs : sg (x :: r) ≠ [] := by
        unfold sg
        rw [core, if_pos h1]
        have := core_len r
        intro e
        have e2 := congrArg List.length e
        simp only [List.length_take, List.length_cons, List.length_nil] at e2
        omega
      rw [decide_eq_false hs, Bool.false_and]
      unfold standOk
      rw [if_neg, if_neg, if_neg]
      all_goals (intro e; simp only [List.cons.injEq] at e; have := congrArg UInt8.toNat e.1; revert this; rcases h1 with h1 | h1 <;> rw [h1] <;> decide)
    · have hc : core (x :: r) = x :: r := by rw [core, if_neg h1]
      have hs : sg (x :: r) = [] := by unfold sg; rw [hc]; simp
      rw [decide_eq_true hs, Bool.true_and]
      by_cases h2 : x.toNat = 64
      · have hb : bs (x :: r) = [64] := by unfold bs; rw [hc]; simp [bsT, h2]
        rw [hb]
        have e1 : standOk [64] v = false := by unfold standOk; simp
        rw [e1]
        unfold standOk
        rw [if_neg, if_neg, if_neg]
        all_goals (intro e; simp only [List.cons.injEq] at e; have := congrArg UInt8.toNat e.1; revert this; rw [h2]; decide)
      · have hb : bs (x :: r) = x :: r := by unfold bs; rw [hc]; simp [bsT, h2]
        rw [hb]
end Go.E
/-! Mi -/
namespace Go.E
set_option maxRecDepth 20000
set_option maxHeartbeats 2000000
open Go.Proofs
variable {G : Gh}
def FiPost (s : List UInt8) (k : Nat) (v : Value) (_ : Gh) : Prop := ∃ f ok, v = Tu [Ag (fiF f), Bo ok] ∧ fldOf s k = if ok = true then some f else none
theorem c_splitX {s : List UInt8} {xs : List (List UInt8)} {k : Nat} {c : UInt8} (n : Nat) (h : s.length ≤ 100000000) (hc : c.toNat = k) (e : cut k s = xs) (hn : xs.length = n) (h0 : 0 < n) :
    FnS Tryz.prog 62 [S s, S [c]] G (fun v G' => ∃ b o cap, v = .slice (some ⟨b, o, none⟩) n cap ∧ Seg G' b o (rows strF xs)) := by
  subst hn; subst e; subst hc
  refine (c_Split (G := G) (s := s) (c := c) h).mono ?_
  rintro v G' L' ⟨h1, h2, h3⟩
  obtain ⟨b, o, cap, rfl, hs⟩ := h3.expl h0
  exact ⟨h1, h2, b, o, cap, rfl, hs⟩
theorem c_kindX {s : List UInt8} (h : s.length ≤ 2000000) (e : kindOk s = true) : PuG Tryz.prog 23 [S s] G (· = Tu [Ag (kdF s), Bo true]) := by
  refine (c_readKind (G := G) h).mono ?_
  rintro v G' L' ⟨h1, h2, a, b, c, rfl, h3⟩
  obtain ⟨rfl, rfl, rfl⟩ := h3 e
  exact ⟨h1, h2, by rw [e]; rfl⟩
theorem c_pnumX {s : List UInt8} {top m : Int} (h : s.length ≤ 100000000) (e : numOf s top = some m) : PuG Tryz.prog 72 [S s, I top] G (· = Tu [I m, Bo true]) := by
  refine (c_plainNumber (G := G) (top := top) h).mono ?_
  rintro v G' L' ⟨h1, h2, n, rfl, h3⟩
  exact ⟨h1, h2, by rw [e, h3 m e]; rfl⟩
theorem c_pnumN {s : List UInt8} {top : Int} (h : s.length ≤ 100000000) (e : numOf s top = none) : PuG Tryz.prog 72 [S s, I top] G (fun v => ∃ n, v = Tu [I n, Bo false]) := by
  refine (c_plainNumber (G := G) (top := top) h).mono ?_
  rintro v G' L' ⟨h1, h2, n, rfl, h3⟩
  exact ⟨h1, h2, n, by rw [e]; rfl⟩
theorem c_readField0 {s : List UInt8} {k : Nat} (h : s.length ≤ 1000) (e : (cut 58 (cut1 61 s).1).length ≠ if k = 69 then 2 else 3) : FnS Tryz.prog 63 [S s, U8 k] G (FiPost s k) := by
  have hcl := cut1_len (k := 61) (s := s)
  have cx_cut : PuG Tryz.prog 37 [S s, S [61]] G (· = Tu [S (cut1 61 s).1, S (cut1 61 s).2.1, Bo (cut1 61 s).2.2]) := c_Cut (c := 61) (by omega)
  have cx_split := c_splitX (G := G) (c := 58) (k := 58) _ (s := (cut1 61 s).1) (by omega) rfl rfl rfl cut_pos
  have hno : fldOf s k = none := by
    rw [← fldI_eq]
    unfold fldI
    split
    · rename_i e2
      rw [e2] at e
      split
      · rename_i hk; simp [hk.1] at e
      · rfl
    · rename_i e2
      rw [e2] at e
      split
      · rfl
      · rename_i hk; simp [hk] at e
    · rfl
  have hpos := cut_pos (k := 58) (s := (cut1 61 s).1)
  generalize hn : (cut 58 (cut1 61 s).1).length = n at *
  by_cases hk : k = 69
  · rw [if_pos hk] at e
    refine b_enter [(0, _), (1, _)] Tryz.func63 (by kernel_rfl) Tryz.ntmps63 rfl rfl (by repeat (first | exact trivial | refine ⟨rfl, ?_⟩)) fun B hok hB hW => ?_
    repeat' (first | (refine run (t := tb) 400 rfl ?_ ?_; (focus (repeat' ((exact trivial))))) | (refine k_op rfl ?_; first | refine c_al rfl rfl fun _ => ?_ | refine v_op (g_lenL rfl) rfl rfl ?_ | refine v_op (g_bld rfl rfl) rfl rfl ?_ | refine c_stA rfl rfl rfl rfl rfl rfl ?_ | (refine c_rt rfl rfl rfl cx_cut rfl ?_) | (refine c_fns rfl rfl rfl cx_split rfl ?_; rintro _ G hle ⟨b1, o1, cap1, rfl, hseg⟩; skip)) | (refine k_tt rfl ?_ ?_; (focus (((refine decide_eq_true ?_; (omega))); done))))
    all_goals refine k_rr (vs := [_, _]) rfl ⟨rc_A rfl rfl rfl rfl, rfl, trivial⟩ rfl (List.nil_sublist _) ⟨hle, rfl, ?_⟩
    all_goals exact ⟨default, false, rfl, by rw [hno]; rfl⟩
  · rw [if_neg hk] at e
    refine b_enter [(0, _), (1, _)] Tryz.func63 (by kernel_rfl) Tryz.ntmps63 rfl rfl (by repeat (first | exact trivial | refine ⟨rfl, ?_⟩)) fun B hok hB hW => ?_
    repeat' (first | (refine run (t := tb) 400 rfl ?_ ?_; (focus (repeat' ((exact trivial))))) | (refine k_op rfl ?_; first | refine c_al rfl rfl fun _ => ?_ | refine v_op (g_lenL rfl) rfl rfl ?_ | refine v_op (g_bld rfl rfl) rfl rfl ?_ | refine c_stA rfl rfl rfl rfl rfl rfl ?_ | (refine c_rt rfl rfl rfl cx_cut rfl ?_) | (refine c_fns rfl rfl rfl cx_split rfl ?_; rintro _ G hle ⟨b1, o1, cap1, rfl, hseg⟩; skip)) | (refine k_tt rfl ?_ ?_; (focus (((refine decide_eq_true ?_; (omega))); done))) | (refine k_ff rfl ?_ ?_; (focus (((refine decide_eq_false ?_; (omega))); done))))
    all_goals refine k_rr (vs := [_, _]) rfl ⟨rc_A rfl rfl rfl rfl, rfl, trivial⟩ rfl (List.nil_sublist _) ⟨hle, rfl, ?_⟩
    all_goals exact ⟨default, false, rfl, by rw [hno]; rfl⟩
theorem c_readField2 {s a b : List UInt8} (h : s.length ≤ 1000) (e : cut 58 (cut1 61 s).1 = [a, b]) : FnS Tryz.prog 63 [S s, U8 (69 : Nat)] G (FiPost s 69) := by
  have hcl := cut1_len (k := 61) (s := s)
  have cx_cut : PuG Tryz.prog 37 [S s, S [61]] G (· = Tu [S (cut1 61 s).1, S (cut1 61 s).2.1, Bo (cut1 61 s).2.2]) := c_Cut (c := 61) (by omega)
  have cx_split := c_splitX (G := G) (c := 58) (k := 58) 2 (s := (cut1 61 s).1) (by omega) rfl e rfl (by omega)
  have ha : a.length ≤ 1000 := by have := cut_len (k := 58) (s := (cut1 61 s).1) (x := a) (by rw [e]; simp); omega
  have hb : b.length ≤ 1000 := by have := cut_len (k := 58) (s := (cut1 61 s).1) (x := b) (by rw [e]; simp); omega
  have hall : fldOf s 69 = if (cut1 61 s).2.2 = false then match numOf a 200 with
      | some n => if 1 ≤ n ∧ isNm b = true then some ⟨n, b, [], []⟩ else none
      | none => none else none := by
    rw [← fldI_eq]; unfold fldI; rw [e]; simp <;> rfl
  generalize hto : (cut1 61 s).2.2 = told at *
  generalize hva : (cut1 61 s).2.1 = val at *
  rcases hm : numOf a 200 with _ | m
  · have hno : fldOf s 69 = none := by rw [hall, hm]; simp
    have cx_pn : ∀ G, PuG Tryz.prog 72 [S a, I 200] G (fun v => ∃ n, v = Tu [I n, Bo false]) := fun G => c_pnumN (by omega) hm
    refine b_enter [(0, _), (1, _)] Tryz.func63 (by kernel_rfl) Tryz.ntmps63 rfl rfl (by repeat (first | exact trivial | refine ⟨rfl, ?_⟩)) fun B hok hB hW => ?_
    repeat' (first | (refine run (t := tb) 400 rfl ?_ ?_; (focus (repeat' ((exact trivial))))) | (refine k_op rfl ?_; first | refine c_al rfl rfl fun _ => ?_ | refine v_op (g_lenL rfl) rfl rfl ?_ | refine v_op (g_bld rfl rfl) rfl rfl ?_ | refine c_stA rfl rfl rfl rfl rfl rfl ?_ | (refine v_op (g_iaddr rfl rfl ?_) rfl rfl ?_; (focus ((omega); done))) | refine v_op (g_ldS rfl rfl (by assumption) rfl rfl) rfl rfl ?_ | (refine v_op (g_pickT rfl rfl ?_) rfl rfl ?_; (focus (((rfl)); done))) | (refine c_rt rfl rfl rfl cx_cut rfl ?_) | (refine c_fns rfl rfl rfl cx_split rfl ?_; rintro _ G hle ⟨b1, o1, cap1, rfl, hseg⟩; skip) | (refine c_pu rfl rfl rfl (cx_pn _) rfl ?_; rintro _ ⟨n, rfl⟩)) | (refine k_gt rfl rfl ?_ ?_; (focus (((rfl)); done))) | (refine k_tt rfl ?_ ?_; (focus (((rfl)); done))) | (refine k_ff rfl ?_ ?_; (focus (((rfl)); done))))
    all_goals refine k_rr (vs := [_, _]) rfl ⟨rc_A rfl rfl rfl rfl, rfl, trivial⟩ rfl (List.nil_sublist _) ⟨hle, rfl, ?_⟩
    all_goals exact ⟨default, false, rfl, by rw [hno]; rfl⟩
  have cx_pq : ∀ G, PuG Tryz.prog 72 [S a, I 200] G (· = Tu [I m, Bo true]) := fun G => c_pnumX (by omega) hm
  rw [hm] at hall
  dsimp only at hall
  by_cases hg : 1 ≤ m ∧ isNm b = true
  · rw [if_pos hg] at hall
    have hg1 := hg.1
    have hg2 : (!isNm b) = false := by rw [hg.2]; rfl
    cases told with
    | true =>
      refine b_enter [(0, _), (1, _)] Tryz.func63 (by kernel_rfl) Tryz.ntmps63 rfl rfl (by repeat (first | exact trivial | refine ⟨rfl, ?_⟩)) fun B hok hB hW => ?_
      repeat' (first | (refine run (t := tb) 400 rfl ?_ ?_; (focus (repeat' ((exact trivial))))) | (refine k_op rfl ?_; first | refine c_al rfl rfl fun _ => ?_ | refine v_op (g_lenL rfl) rfl rfl ?_ | refine v_op (g_bld rfl rfl) rfl rfl ?_ | refine c_stA rfl rfl rfl rfl rfl rfl ?_ | (refine v_op (g_iaddr rfl rfl ?_) rfl rfl ?_; (focus ((omega); done))) | refine v_op (g_ld rfl rfl rfl) rfl rfl ?_ | refine v_op (g_ldS rfl rfl (by assumption) rfl rfl) rfl rfl ?_ | (refine v_op (g_pickT rfl rfl ?_) rfl rfl ?_; (focus (((rfl)); done))) | (refine v_op (g_pickF rfl rfl ?_) rfl rfl ?_; (focus (((rfl)); done))) | (refine c_rt rfl rfl rfl cx_cut rfl ?_) | (refine c_fns rfl rfl rfl cx_split rfl ?_; rintro _ G hle ⟨b1, o1, cap1, rfl, hseg⟩; skip) | (refine c_rt rfl rfl rfl (cx_pq _) rfl ?_) | (refine c_rt rfl rfl rfl (c_isName ?_) rfl ?_; (focus (((omega)); done)))) | (refine k_gt rfl rfl ?_ ?_; (focus (((rfl)); done))) | (refine k_gf rfl rfl ?_ ?_; (focus ((first | rfl | (refine decide_eq_false ?_; (omega))); done))) | (refine k_tt rfl ?_ ?_; (focus (((rfl)); done))) | (refine k_ff rfl ?_ ?_; (focus ((first | rfl | assumption); done))))
      all_goals refine k_rr (vs := [_, _]) rfl ⟨rc_A rfl rfl rfl rfl, rfl, trivial⟩ rfl (List.nil_sublist _) ⟨hle, rfl, ?_⟩
      all_goals exact ⟨default, false, rfl, by rw [hall]; rfl⟩
    | false =>
      have hv : val = [] := by have := cut1_none hto; rw [this] at hva; exact hva.symm
      refine b_enter [(0, _), (1, _)] Tryz.func63 (by kernel_rfl) Tryz.ntmps63 rfl rfl (by repeat (first | exact trivial | refine ⟨rfl, ?_⟩)) fun B hok hB hW => ?_
      repeat' (first | (refine run (t := tb) 400 rfl ?_ ?_; (focus (repeat' ((exact trivial))))) | (refine k_op rfl ?_; first | refine c_al rfl rfl fun _ => ?_ | refine v_op (g_lenL rfl) rfl rfl ?_ | refine v_op (g_bld rfl rfl) rfl rfl ?_ | refine c_stA rfl rfl rfl rfl rfl rfl ?_ | (refine v_op (g_iaddr rfl rfl ?_) rfl rfl ?_; (focus ((omega); done))) | refine v_op (g_ld rfl rfl rfl) rfl rfl ?_ | refine v_op (g_ldA rfl rfl rfl rfl) rfl rfl ?_ | refine v_op (g_ldS rfl rfl (by assumption) rfl rfl) rfl rfl ?_ | (refine v_op (g_pickF rfl rfl ?_) rfl rfl ?_; (focus (((rfl)); done))) | (refine c_rt rfl rfl rfl cx_cut rfl ?_) | (refine c_fns rfl rfl rfl cx_split rfl ?_; rintro _ G hle ⟨b1, o1, cap1, rfl, hseg⟩; skip) | (refine c_rt rfl rfl rfl (cx_pq _) rfl ?_) | (refine c_rt rfl rfl rfl (c_isName ?_) rfl ?_; (focus (((omega)); done)))) | (refine k_gf rfl rfl ?_ ?_; (focus ((first | rfl | (refine decide_eq_false ?_; (omega))); done))) | (refine k_tt rfl ?_ ?_; (focus (((rfl)); done))) | (refine k_ff rfl ?_ ?_; (focus ((first | rfl | assumption); done))))
      all_goals refine k_rr (vs := [_, _]) rfl ⟨rc_A rfl rfl rfl rfl, rfl, trivial⟩ rfl (List.nil_sublist _) ⟨hle, rfl, ?_⟩
      all_goals exact ⟨⟨m, b, [], []⟩, true, by rw [hv]; rfl, by rw [hall]; rfl⟩
  · rw [if_neg hg] at hall
    have hno : fldOf s 69 = none := by rw [hall]; simp
    by_cases h1 : m < 1
    case' neg => have hg2 : (!isNm b) = true := by
                  cases hb2 : isNm b with
                  | false => rfl
                  | true => exact absurd ⟨by omega, hb2⟩ hg
    all_goals refine b_enter [(0, _), (1, _)] Tryz.func63 (by kernel_rfl) Tryz.ntmps63 rfl rfl (by repeat (first | exact trivial | refine ⟨rfl, ?_⟩)) fun B hok hB hW => ?_
    all_goals repeat' (first | (refine run (t := tb) 400 rfl ?_ ?_; (focus (repeat' ((exact trivial))))) | (refine k_op rfl ?_; first | refine c_al rfl rfl fun _ => ?_ | refine v_op (g_lenL rfl) rfl rfl ?_ | refine v_op (g_bld rfl rfl) rfl rfl ?_ | refine c_stA rfl rfl rfl rfl rfl rfl ?_ | (refine v_op (g_iaddr rfl rfl ?_) rfl rfl ?_; (focus ((omega); done))) | refine v_op (g_ld rfl rfl rfl) rfl rfl ?_ | refine v_op (g_ldS rfl rfl (by assumption) rfl rfl) rfl rfl ?_ | (refine v_op (g_pickT rfl rfl ?_) rfl rfl ?_; (focus (((rfl)); done))) | (refine v_op (g_pickF rfl rfl ?_) rfl rfl ?_; (focus (((rfl)); done))) | (refine c_rt rfl rfl rfl cx_cut rfl ?_) | (refine c_fns rfl rfl rfl cx_split rfl ?_; rintro _ G hle ⟨b1, o1, cap1, rfl, hseg⟩; skip) | (refine c_rt rfl rfl rfl (cx_pq _) rfl ?_) | (refine c_rt rfl rfl rfl (c_isName ?_) rfl ?_; (focus (((omega)); done)))) | (refine k_gt rfl rfl ?_ ?_; (focus (((refine decide_eq_true ?_; (assumption))); done))) | (refine k_gf rfl rfl ?_ ?_; (focus ((first | rfl | (refine decide_eq_false ?_; (assumption))); done))) | (refine k_tt rfl ?_ ?_; (focus ((first | rfl | assumption); done))) | (refine k_ff rfl ?_ ?_; (focus (((rfl)); done))))
    all_goals refine k_rr (vs := [_, _]) rfl ⟨rc_A rfl rfl rfl rfl, rfl, trivial⟩ rfl (List.nil_sublist _) ⟨hle, rfl, ?_⟩
    all_goals exact ⟨default, false, rfl, by rw [hno]; rfl⟩
theorem c_readField3 {s a b c : List UInt8} {k : Nat} (h : s.length ≤ 1000) (hk : ¬ k = 69) (e : cut 58 (cut1 61 s).1 = [a, b, c]) : FnS Tryz.prog 63 [S s, U8 k] G (FiPost s k) := by
  have hcl := cut1_len (k := 61) (s := s)
  have cx_cut : PuG Tryz.prog 37 [S s, S [61]] G (· = Tu [S (cut1 61 s).1, S (cut1 61 s).2.1, Bo (cut1 61 s).2.2]) := c_Cut (c := 61) (by omega)
  have cx_split := c_splitX (G := G) (c := 58) (k := 58) 3 (s := (cut1 61 s).1) (by omega) rfl e rfl (by omega)
  have ha : a.length ≤ 1000 := by have := cut_len (k := 58) (s := (cut1 61 s).1) (x := a) (by rw [e]; simp); omega
  have hb : b.length ≤ 1000 := by have := cut_len (k := 58) (s := (cut1 61 s).1) (x := b) (by rw [e]; simp); omega
  have hc : c.length ≤ 1000 := by have := cut_len (k := 58) (s := (cut1 61 s).1) (x := c) (by rw [e]; simp); omega
  have hall : fldOf s k = match numOf a 200 with
      | some n => if (1 ≤ n ∧ isNm b = true) ∧ kindOk c = true ∧ ((cut1 61 s).2.2 = true → k = 82 ∧ standOk c (cut1 61 s).2.1 = true) then some ⟨n, b, c, (cut1 61 s).2.1⟩ else none
      | none => none := by
    rw [← fldI_eq]; unfold fldI; rw [e]; simp [hk] <;> rfl
  generalize hto : (cut1 61 s).2.2 = told at *
  generalize hva : (cut1 61 s).2.1 = val at *
  rcases hm : numOf a 200 with _ | m
  · have hno : fldOf s k = none := by rw [hall, hm]
    have cx_pn : ∀ G, PuG Tryz.prog 72 [S a, I 200] G (fun v => ∃ n, v = Tu [I n, Bo false]) := fun G => c_pnumN (by omega) hm
    refine b_enter [(0, _), (1, _)] Tryz.func63 (by kernel_rfl) Tryz.ntmps63 rfl rfl (by repeat (first | exact trivial | refine ⟨rfl, ?_⟩)) fun B hok hB hW => ?_
    repeat' (first | (refine run (t := tb) 400 rfl ?_ ?_; (focus (repeat' ((exact trivial))))) | (refine k_op rfl ?_; first | refine c_al rfl rfl fun _ => ?_ | refine v_op (g_lenL rfl) rfl rfl ?_ | refine v_op (g_bld rfl rfl) rfl rfl ?_ | refine c_stA rfl rfl rfl rfl rfl rfl ?_ | (refine v_op (g_iaddr rfl rfl ?_) rfl rfl ?_; (focus ((omega); done))) | refine v_op (g_ldS rfl rfl (by assumption) rfl rfl) rfl rfl ?_ | (refine v_op (g_pickT rfl rfl ?_) rfl rfl ?_; (focus (((rfl)); done))) | (refine c_rt rfl rfl rfl cx_cut rfl ?_) | (refine c_fns rfl rfl rfl cx_split rfl ?_; rintro _ G hle ⟨b1, o1, cap1, rfl, hseg⟩; skip) | (refine c_pu rfl rfl rfl (cx_pn _) rfl ?_; rintro _ ⟨n, rfl⟩)) | (refine k_gt rfl rfl ?_ ?_; (focus (((rfl)); done))) | (refine k_tt rfl ?_ ?_; (focus (((rfl)); done))) | (refine k_ff rfl ?_ ?_; (focus ((first | rfl | (refine decide_eq_false ?_; (omega))); done))))
    all_goals refine k_rr (vs := [_, _]) rfl ⟨rc_A rfl rfl rfl rfl, rfl, trivial⟩ rfl (List.nil_sublist _) ⟨hle, rfl, ?_⟩
    all_goals exact ⟨default, false, rfl, by rw [hno]; rfl⟩
  have cx_pq : ∀ G, PuG Tryz.prog 72 [S a, I 200] G (· = Tu [I m, Bo true]) := fun G => c_pnumX (by omega) hm
  rw [hm] at hall
  dsimp only at hall
  by_cases hg : 1 ≤ m ∧ isNm b = true
  case neg =>
    have hno : fldOf s k = none := by rw [hall, if_neg fun h => hg h.1]
    by_cases h1 : m < 1
    case' neg => have hg2 : (!isNm b) = true := by
                  cases hb2 : isNm b with
                  | false => rfl
                  | true => exact absurd ⟨by omega, hb2⟩ hg
    all_goals refine b_enter [(0, _), (1, _)] Tryz.func63 (by kernel_rfl) Tryz.ntmps63 rfl rfl (by repeat (first | exact trivial | refine ⟨rfl, ?_⟩)) fun B hok hB hW => ?_
    all_goals repeat' (first | (refine run (t := tb) 400 rfl ?_ ?_; (focus (repeat' ((exact trivial))))) | (refine k_op rfl ?_; first | refine c_al rfl rfl fun _ => ?_ | refine v_op (g_lenL rfl) rfl rfl ?_ | refine v_op (g_bld rfl rfl) rfl rfl ?_ | refine c_stA rfl rfl rfl rfl rfl rfl ?_ | (refine v_op (g_iaddr rfl rfl ?_) rfl rfl ?_; (focus ((omega); done))) | refine v_op (g_ld rfl rfl rfl) rfl rfl ?_ | refine v_op (g_ldS rfl rfl (by assumption) rfl rfl) rfl rfl ?_ | (refine v_op (g_pickT rfl rfl ?_) rfl rfl ?_; (focus (((rfl)); done))) | (refine v_op (g_pickF rfl rfl ?_) rfl rfl ?_; (focus (((rfl)); done))) | (refine c_rt rfl rfl rfl cx_cut rfl ?_) | (refine c_fns rfl rfl rfl cx_split rfl ?_; rintro _ G hle ⟨b1, o1, cap1, rfl, hseg⟩; skip) | (refine c_rt rfl rfl rfl (cx_pq _) rfl ?_) | (refine c_rt rfl rfl rfl (c_isName ?_) rfl ?_; (focus (((omega)); done)))) | (refine k_gt rfl rfl ?_ ?_; (focus (((refine decide_eq_true ?_; (assumption))); done))) | (refine k_gf rfl rfl ?_ ?_; (focus ((first | rfl | (refine decide_eq_false ?_; (assumption))); done))) | (refine k_tt rfl ?_ ?_; (focus ((first | rfl | assumption); done))) | (refine k_ff rfl ?_ ?_; (focus ((first | rfl | (refine decide_eq_false ?_; (omega))); done))))
    all_goals refine k_rr (vs := [_, _]) rfl ⟨rc_A rfl rfl rfl rfl, rfl, trivial⟩ rfl (List.nil_sublist _) ⟨hle, rfl, ?_⟩
    all_goals exact ⟨default, false, rfl, by rw [hno]; rfl⟩
  have hg1 := hg.1
  have hg2 : (!isNm b) = false := by rw [hg.2]; rfl
  by_cases hkc : kindOk c = true
  case neg =>
    have hkc2 : kindOk c = false := by simpa using hkc
    have hno : fldOf s k = none := by rw [hall, if_neg fun h => hkc h.2.1]
    have cx_kn : ∀ G, PuG Tryz.prog 23 [S c] G (fun v => ∃ x y z, v = Tu [Ag [S x, S y, S z], Bo false]) := fun G => by
      refine (c_readKind (G := G) (s := c) (by omega)).mono ?_
      rintro v G' L' ⟨h1, h2, x, y, z, rfl, _⟩
      exact ⟨h1, h2, x, y, z, by rw [hkc2]⟩
    refine b_enter [(0, _), (1, _)] Tryz.func63 (by kernel_rfl) Tryz.ntmps63 rfl rfl (by repeat (first | exact trivial | refine ⟨rfl, ?_⟩)) fun B hok hB hW => ?_
    repeat' (first | (refine run (t := tb) 400 rfl ?_ ?_; (focus (repeat' ((exact trivial))))) | (refine k_op rfl ?_; first | refine c_al rfl rfl fun _ => ?_ | refine v_op (g_lenL rfl) rfl rfl ?_ | refine v_op (g_bld rfl rfl) rfl rfl ?_ | refine c_stA rfl rfl rfl rfl rfl rfl ?_ | (refine v_op (g_iaddr rfl rfl ?_) rfl rfl ?_; (focus ((omega); done))) | refine v_op (g_ld rfl rfl rfl) rfl rfl ?_ | refine v_op (g_ldS rfl rfl (by assumption) rfl rfl) rfl rfl ?_ | (refine v_op (g_pickF rfl rfl ?_) rfl rfl ?_; (focus (((rfl)); done))) | (refine c_rt rfl rfl rfl cx_cut rfl ?_) | (refine c_fns rfl rfl rfl cx_split rfl ?_; rintro _ G hle ⟨b1, o1, cap1, rfl, hseg⟩; skip) | (refine c_rt rfl rfl rfl (cx_pq _) rfl ?_) | (refine c_rt rfl rfl rfl (c_isName ?_) rfl ?_; (focus (((omega)); done))) | (refine c_pu rfl rfl rfl (cx_kn _) rfl ?_; rintro _ ⟨x, y, z, rfl⟩)) | (refine k_gf rfl rfl ?_ ?_; (focus ((first | rfl | (refine decide_eq_false ?_; (omega))); done))) | (refine k_tt rfl ?_ ?_; (focus ((first | rfl | (refine decide_eq_true ?_; (omega))); done))) | (refine k_ff rfl ?_ ?_; (focus ((first | rfl | assumption | (refine decide_eq_false ?_; (omega))); done))))
    all_goals refine k_rr (vs := [_, _]) rfl ⟨rc_A rfl rfl rfl rfl, rfl, trivial⟩ rfl (List.nil_sublist _) ⟨hle, rfl, ?_⟩
    all_goals exact ⟨default, false, rfl, by rw [hno]; rfl⟩
  have cx_kq : ∀ G, PuG Tryz.prog 23 [S c] G (· = Tu [Ag [S (sg c), S (bs c), S (nm c)], Bo true]) := fun G => c_kindX (by omega) hkc
  cases told with
  | false =>
    have hv : val = [] := by have := cut1_none hto; rw [this] at hva; exact hva.symm
    have hyes : fldOf s k = some ⟨m, b, c, val⟩ := by rw [hall, if_pos ⟨hg, hkc, fun h => by cases h⟩]
    refine b_enter [(0, _), (1, _)] Tryz.func63 (by kernel_rfl) Tryz.ntmps63 rfl rfl (by repeat (first | exact trivial | refine ⟨rfl, ?_⟩)) fun B hok hB hW => ?_
    repeat' (first | (refine run (t := tb) 400 rfl ?_ ?_; (focus (repeat' ((exact trivial))))) | (refine k_op rfl ?_; first | refine c_al rfl rfl fun _ => ?_ | refine v_op (g_lenL rfl) rfl rfl ?_ | refine v_op (g_bld rfl rfl) rfl rfl ?_ | refine c_stA rfl rfl rfl rfl rfl rfl ?_ | (refine v_op (g_iaddr rfl rfl ?_) rfl rfl ?_; (focus ((omega); done))) | refine v_op (g_ld rfl rfl rfl) rfl rfl ?_ | refine v_op (g_ldA rfl rfl rfl rfl) rfl rfl ?_ | refine v_op (g_ldS rfl rfl (by assumption) rfl rfl) rfl rfl ?_ | (refine v_op (g_pickF rfl rfl ?_) rfl rfl ?_; (focus (((rfl)); done))) | (refine c_rt rfl rfl rfl cx_cut rfl ?_) | (refine c_fns rfl rfl rfl cx_split rfl ?_; rintro _ G hle ⟨b1, o1, cap1, rfl, hseg⟩; skip) | (refine c_rt rfl rfl rfl (cx_pq _) rfl ?_) | (refine c_rt rfl rfl rfl (c_isName ?_) rfl ?_; (focus (((omega)); done))) | (refine c_rt rfl rfl rfl (cx_kq _) rfl ?_)) | (refine k_gf rfl rfl ?_ ?_; (focus ((first | rfl | (refine decide_eq_false ?_; (omega))); done))) | (refine k_tt rfl ?_ ?_; (focus (((refine decide_eq_true ?_; (omega))); done))) | (refine k_ff rfl ?_ ?_; (focus ((first | rfl | assumption | (refine decide_eq_false ?_; (omega))); done))))
    all_goals refine k_rr (vs := [_, _]) rfl ⟨rc_A rfl rfl rfl rfl, rfl, trivial⟩ rfl (List.nil_sublist _) ⟨hle, rfl, ?_⟩
    all_goals exact ⟨⟨m, b, c, val⟩, true, rfl, by rw [hyes]; rfl⟩
  | true =>
    have hst := stand_bs (v := val) hkc
    by_cases h82 : k = 82
    case neg =>
      have hno : fldOf s k = none := by rw [hall, if_neg fun h => h82 (h.2.2 rfl).1]
      have h83 : ¬ (k : Int) = 82 := by omega
      refine b_enter [(0, _), (1, _)] Tryz.func63 (by kernel_rfl) Tryz.ntmps63 rfl rfl (by repeat (first | exact trivial | refine ⟨rfl, ?_⟩)) fun B hok hB hW => ?_
      repeat' (first | (refine run (t := tb) 400 rfl ?_ ?_; (focus (repeat' ((exact trivial))))) | (refine k_op rfl ?_; first | refine c_al rfl rfl fun _ => ?_ | refine v_op (g_lenL rfl) rfl rfl ?_ | refine v_op (g_bld rfl rfl) rfl rfl ?_ | refine c_stA rfl rfl rfl rfl rfl rfl ?_ | (refine v_op (g_iaddr rfl rfl ?_) rfl rfl ?_; (focus ((omega); done))) | refine v_op (g_ld rfl rfl rfl) rfl rfl ?_ | refine v_op (g_ldS rfl rfl (by assumption) rfl rfl) rfl rfl ?_ | (refine v_op (g_pickT rfl rfl ?_) rfl rfl ?_; (focus (((rfl)); done))) | (refine v_op (g_pickF rfl rfl ?_) rfl rfl ?_; (focus (((rfl)); done))) | (refine c_rt rfl rfl rfl cx_cut rfl ?_) | (refine c_fns rfl rfl rfl cx_split rfl ?_; rintro _ G hle ⟨b1, o1, cap1, rfl, hseg⟩; skip) | (refine c_rt rfl rfl rfl (cx_pq _) rfl ?_) | (refine c_rt rfl rfl rfl (c_isName ?_) rfl ?_; (focus (((omega)); done))) | (refine c_rt rfl rfl rfl (cx_kq _) rfl ?_)) | (refine k_gt rfl rfl ?_ ?_; (focus ((first | rfl | (refine decide_eq_true ?_; (assumption))); done))) | (refine k_gf rfl rfl ?_ ?_; (focus ((first | rfl | (refine decide_eq_false ?_; (omega))); done))) | (refine k_tt rfl ?_ ?_; (focus ((first | rfl | (refine decide_eq_true ?_; (omega))); done))) | (refine k_ff rfl ?_ ?_; (focus ((first | rfl | assumption | (refine decide_eq_false ?_; (omega))); done))))
      all_goals refine k_rr (vs := [_, _]) rfl ⟨rc_A rfl rfl rfl rfl, rfl, trivial⟩ rfl (List.nil_sublist _) ⟨hle, rfl, ?_⟩
      all_goals exact ⟨default, false, rfl, by rw [hno]; rfl⟩
    subst h82
    by_cases hsg : sg c = []
    · rw [decide_eq_true hsg, Bool.true_and] at hst
      by_cases hso : standOk c val = true
      · have hyes : fldOf s 82 = some ⟨m, b, c, val⟩ := by rw [hall, if_pos ⟨hg, hkc, fun _ => ⟨rfl, hso⟩⟩]
        have hso2 : (!standOk (bs c) val) = false := by rw [hst, hso]; rfl
        refine b_enter [(0, _), (1, _)] Tryz.func63 (by kernel_rfl) Tryz.ntmps63 rfl rfl (by repeat (first | exact trivial | refine ⟨rfl, ?_⟩)) fun B hok hB hW => ?_
        repeat' (first | (refine run (t := tb) 400 rfl ?_ ?_; (focus (repeat' ((exact trivial))))) | (refine k_op rfl ?_; first | refine c_al rfl rfl fun _ => ?_ | refine v_op (g_lenL rfl) rfl rfl ?_ | refine v_op (g_bld rfl rfl) rfl rfl ?_ | refine c_stA rfl rfl rfl rfl rfl rfl ?_ | (refine v_op (g_iaddr rfl rfl ?_) rfl rfl ?_; (focus ((omega); done))) | refine v_op (g_ld rfl rfl rfl) rfl rfl ?_ | refine v_op (g_ldA rfl rfl rfl rfl) rfl rfl ?_ | refine v_op (g_ldS rfl rfl (by assumption) rfl rfl) rfl rfl ?_ | (refine v_op (g_pickT rfl rfl ?_) rfl rfl ?_; (focus (((rfl)); done))) | (refine v_op (g_pickF rfl rfl ?_) rfl rfl ?_; (focus (((rfl)); done))) | (refine c_rt rfl rfl rfl cx_cut rfl ?_) | (refine c_fns rfl rfl rfl cx_split rfl ?_; rintro _ G hle ⟨b1, o1, cap1, rfl, hseg⟩; skip) | (refine c_rt rfl rfl rfl (cx_pq _) rfl ?_) | (refine c_rt rfl rfl rfl (c_isName ?_) rfl ?_; (focus (((omega)); done))) | (refine c_rt rfl rfl rfl (cx_kq _) rfl ?_) | (refine c_rt rfl rfl rfl (c_standing (by omega)) rfl ?_)) | (refine k_gt rfl rfl ?_ ?_; (focus (((rfl)); done))) | (refine k_gf rfl rfl ?_ ?_; (focus ((first | rfl | (refine decide_eq_false ?_; (omega)) | (simp [*]; done)); done))) | (refine k_tt rfl ?_ ?_; (focus (((rfl)); done))) | (refine k_ff rfl ?_ ?_; (focus ((first | rfl | assumption); done))))
        all_goals refine k_rr (vs := [_, _]) rfl ⟨rc_A rfl rfl rfl rfl, rfl, trivial⟩ rfl (List.nil_sublist _) ⟨hle, rfl, ?_⟩
        all_goals exact ⟨⟨m, b, c, val⟩, true, rfl, by rw [hyes]; rfl⟩
      · have hno : fldOf s 82 = none := by rw [hall, if_neg fun h => hso (h.2.2 rfl).2]
        have hso2 : (!standOk (bs c) val) = true := by rw [hst]; simpa using hso
        refine b_enter [(0, _), (1, _)] Tryz.func63 (by kernel_rfl) Tryz.ntmps63 rfl rfl (by repeat (first | exact trivial | refine ⟨rfl, ?_⟩)) fun B hok hB hW => ?_
        repeat' (first | (refine run (t := tb) 400 rfl ?_ ?_; (focus (repeat' ((exact trivial))))) | (refine k_op rfl ?_; first | refine c_al rfl rfl fun _ => ?_ | refine v_op (g_lenL rfl) rfl rfl ?_ | refine v_op (g_bld rfl rfl) rfl rfl ?_ | refine c_stA rfl rfl rfl rfl rfl rfl ?_ | (refine v_op (g_iaddr rfl rfl ?_) rfl rfl ?_; (focus ((omega); done))) | refine v_op (g_ld rfl rfl rfl) rfl rfl ?_ | refine v_op (g_ldS rfl rfl (by assumption) rfl rfl) rfl rfl ?_ | (refine v_op (g_pickT rfl rfl ?_) rfl rfl ?_; (focus (((rfl)); done))) | (refine v_op (g_pickF rfl rfl ?_) rfl rfl ?_; (focus (((rfl)); done))) | (refine c_rt rfl rfl rfl cx_cut rfl ?_) | (refine c_fns rfl rfl rfl cx_split rfl ?_; rintro _ G hle ⟨b1, o1, cap1, rfl, hseg⟩; skip) | (refine c_rt rfl rfl rfl (cx_pq _) rfl ?_) | (refine c_rt rfl rfl rfl (c_isName ?_) rfl ?_; (focus (((omega)); done))) | (refine c_rt rfl rfl rfl (cx_kq _) rfl ?_) | (refine c_rt rfl rfl rfl (c_standing (by omega)) rfl ?_)) | (refine k_gt rfl rfl ?_ ?_; (focus (((rfl)); done))) | (refine k_gf rfl rfl ?_ ?_; (focus ((first | rfl | (refine decide_eq_false ?_; (omega)) | (simp [*]; done)); done))) | (refine k_tt rfl ?_ ?_; (focus ((first | rfl | assumption); done))) | (refine k_ff rfl ?_ ?_; (focus ((first | rfl | assumption); done))))
        all_goals refine k_rr (vs := [_, _]) rfl ⟨rc_A rfl rfl rfl rfl, rfl, trivial⟩ rfl (List.nil_sublist _) ⟨hle, rfl, ?_⟩
        all_goals exact ⟨default, false, rfl, by rw [hno]; rfl⟩
    · rw [decide_eq_false hsg, Bool.false_and] at hst
      have hno : fldOf s 82 = none := by rw [hall, if_neg fun h => by rw [(h.2.2 rfl).2] at hst; cases hst]
      refine b_enter [(0, _), (1, _)] Tryz.func63 (by kernel_rfl) Tryz.ntmps63 rfl rfl (by repeat (first | exact trivial | refine ⟨rfl, ?_⟩)) fun B hok hB hW => ?_
      repeat' (first | (refine run (t := tb) 400 rfl ?_ ?_; (focus (repeat' ((exact trivial))))) | (refine k_op rfl ?_; first | refine c_al rfl rfl fun _ => ?_ | refine v_op (g_lenL rfl) rfl rfl ?_ | refine v_op (g_bld rfl rfl) rfl rfl ?_ | refine c_stA rfl rfl rfl rfl rfl rfl ?_ | (refine v_op (g_iaddr rfl rfl ?_) rfl rfl ?_; (focus ((omega); done))) | refine v_op (g_ld rfl rfl rfl) rfl rfl ?_ | refine v_op (g_ldS rfl rfl (by assumption) rfl rfl) rfl rfl ?_ | (refine v_op (g_pickT rfl rfl ?_) rfl rfl ?_; (focus (((rfl)); done))) | (refine v_op (g_pickF rfl rfl ?_) rfl rfl ?_; (focus (((rfl)); done))) | (refine c_rt rfl rfl rfl cx_cut rfl ?_) | (refine c_fns rfl rfl rfl cx_split rfl ?_; rintro _ G hle ⟨b1, o1, cap1, rfl, hseg⟩; skip) | (refine c_rt rfl rfl rfl (cx_pq _) rfl ?_) | (refine c_rt rfl rfl rfl (c_isName ?_) rfl ?_; (focus (((omega)); done))) | (refine c_rt rfl rfl rfl (cx_kq _) rfl ?_)) | (refine k_gt rfl rfl ?_ ?_; (focus ((first | rfl | (refine decide_eq_true ?_; (assumption))); done))) | (refine k_gf rfl rfl ?_ ?_; (focus ((first | rfl | (refine decide_eq_false ?_; (omega))); done))) | (refine k_tt rfl ?_ ?_; (focus (((rfl)); done))) | (refine k_ff rfl ?_ ?_; (focus ((first | rfl | assumption); done))))
      all_goals refine k_rr (vs := [_, _]) rfl ⟨rc_A rfl rfl rfl rfl, rfl, trivial⟩ rfl (List.nil_sublist _) ⟨hle, rfl, ?_⟩
      all_goals exact ⟨default, false, rfl, by rw [hno]; rfl⟩
theorem c_readField {s : List UInt8} {k : Nat} (h : s.length ≤ 1000) : FnS Tryz.prog 63 [S s, U8 k] G (FiPost s k) := by
  by_cases hk : k = 69
  · subst hk
    by_cases h2 : (cut 58 (cut1 61 s).1).length = 2
    · match e : cut 58 (cut1 61 s).1, h2 with
      | [a, b], _ => exact c_readField2 h e
    · exact c_readField0 h (by simpa using h2)
  · by_cases h3 : (cut 58 (cut1 61 s).1).length = 3
    · match e : cut 58 (cut1 61 s).1, h3 with
      | [a, b, c], _ => exact c_readField3 h hk e
    · exact c_readField0 h (by simpa [hk] using h3)
end Go.E
/-! Kg -/
namespace Go.E
set_option maxRecDepth 20000
set_option maxHeartbeats 2000000
open Go.Proofs
variable {G : Gh}
theorem c_cutX {s : List UInt8} {xs : List (List UInt8)} {k : Nat} (n : Nat) (h : s.length ≤ 100000000) (e : cut k s = xs) (hn : xs.length = n) (h0 : 0 < n) :
    FnG Tryz.prog 27 [S s, U8 k] G [] (fun v L' => ∃ b cap, v = .slice (some ⟨b, 0, none⟩) n cap ∧ L' = [.acc (.slice (some ⟨b, 0, none⟩) n cap) tStr 1 n (strs xs)]) := by
  subst hn; subst e
  refine (c_l3Cut (G := G) (k := k) h).mono ?_
  rintro v G' L' ⟨h1, h2, h3⟩
  obtain ⟨b, cap, rfl⟩ := h3.pos (by omega)
  exact ⟨h1, b, cap, rfl, h2⟩
theorem c_numX {s : List UInt8} {top m : Int} (h : s.length ≤ 100000000) (e : numOf s top = some m) : PuG Tryz.prog 35 [S s, I top] G (· = Tu [I m, Bo true]) := by
  refine (c_l3Num (G := G) (top := top) h).mono ?_
  rintro v G' L' ⟨h1, h2, n, rfl, h3⟩
  exact ⟨h1, h2, by rw [e, h3 m e]; rfl⟩
abbrev FldPost (s : List UInt8) (k : Nat) (v : Value) : Prop := ∃ f ok, v = Tu [Ag (fldF f), Bo ok] ∧ fldOf s k = if ok then some f else none
theorem fldOf_no {s : List UInt8} {k : Nat} (h : (cut 58 s).length ≠ 2) (h' : (cut 58 s).length ≠ 3) : fldOf s k = none := by
  unfold fldOf
  split
  · rename_i e; rw [e] at h; simp at h
  · rename_i e; rw [e] at h'; simp at h'
  · rfl
theorem c_l3ReadField0 {s : List UInt8} {k : Nat} (h : s.length ≤ 1000) (e : (cut 58 s).length ≠ 2) (e' : (cut 58 s).length ≠ 3) : PuG Tryz.prog 53 [S s, U8 k] G (FldPost s k) := by
  have e0 : 0 < (cut 58 s).length := cut_pos
  generalize hn : (cut 58 s).length = n at *
  have cx_cut1 := c_cutX (G := G) (k := 58) n (by omega) rfl hn e0
  have hno : fldOf s k = none := fldOf_no (by omega) (by omega)
  refine p_enter [(0, _), (1, _)] Tryz.func53 (by kernel_rfl) Tryz.ntmps53 rfl rfl (by repeat (first | exact trivial | refine ⟨rfl, ?_⟩)) fun B hB => ?_
  repeat' (first | (refine run (t := tb) 400 rfl ?_ ?_; (focus (repeat' ((exact trivial))))) | (refine k_op rfl ?_; first | refine c_al rfl rfl fun _ => ?_ | refine v_op (g_lenL rfl) rfl rfl ?_ | (refine v_op (g_pickT rfl rfl ?_) rfl rfl ?_; (focus (((rfl)); done))) | (refine v_op (g_pickF rfl rfl ?_) rfl rfl ?_; (focus (((rfl)); done))) | refine v_op (g_bld rfl rfl) rfl rfl ?_ | refine c_stA rfl rfl rfl rfl rfl rfl ?_ | (refine c_fng rfl rfl rfl cx_cut1 rfl ?_; rintro _ _ ⟨b1, cap1, rfl, rfl⟩; dsimp only [List.cons_append, List.nil_append])) | (refine k_gt rfl rfl ?_ ?_; (focus (((refine decide_eq_true ?_; (omega))); done))) | refine k_g rfl rfl (fun _ => ?_) (fun _ => ?_) | (refine k_tt rfl ?_ ?_; (focus ((first | rfl | (refine decide_eq_true ?_; (omega))); done))))
  all_goals refine k_rr (vs := [_, _]) rfl ⟨rc_A rfl rfl rfl rfl, rfl, trivial⟩ rfl (List.nil_sublist _) ⟨rfl, rfl, ?_⟩
  all_goals exact ⟨default, false, rfl, by rw [hno]; rfl⟩
theorem c_l3ReadField2 {s a b : List UInt8} {k : Nat} (h : s.length ≤ 1000) (e : cut 58 s = [a, b]) : PuG Tryz.prog 53 [S s, U8 k] G (FldPost s k) := by
  have ha : a.length ≤ 1000 := Nat.le_trans (cut_len (k := 58) (s := s) (by rw [e]; simp)) h
  have hb : b.length ≤ 1000 := Nat.le_trans (cut_len (k := 58) (s := s) (by rw [e]; simp)) h
  have cx_cut1 := c_cutX (G := G) (k := 58) 2 (by omega) e rfl (by omega)
  by_cases hk : k = 69
  case neg =>
    have hno : fldOf s k = none := by unfold fldOf; rw [e]; simp [hk]
    refine p_enter [(0, _), (1, _)] Tryz.func53 (by kernel_rfl) Tryz.ntmps53 rfl rfl (by repeat (first | exact trivial | refine ⟨rfl, ?_⟩)) fun B hB => ?_
    repeat' (first | (refine run (t := tb) 400 rfl ?_ ?_; (focus (repeat' ((exact trivial))))) | (refine k_op rfl ?_; first | refine c_al rfl rfl fun _ => ?_ | refine v_op (g_lenL rfl) rfl rfl ?_ | (refine v_op (g_pickT rfl rfl ?_) rfl rfl ?_; (focus (((rfl)); done))) | refine v_op (g_bld rfl rfl) rfl rfl ?_ | refine c_stA rfl rfl rfl rfl rfl rfl ?_ | (refine c_fng rfl rfl rfl cx_cut1 rfl ?_; rintro _ _ ⟨b1, cap1, rfl, rfl⟩; dsimp only [List.cons_append, List.nil_append])) | (refine k_gt rfl rfl ?_ ?_; (focus ((first | rfl | (refine decide_eq_true ?_; (omega))); done))) | (refine k_tt rfl ?_ ?_; (focus (((rfl)); done))))
    all_goals refine k_rr (vs := [_, _]) rfl ⟨rc_A rfl rfl rfl rfl, rfl, trivial⟩ rfl (List.nil_sublist _) ⟨rfl, rfl, ?_⟩
    all_goals exact ⟨default, false, rfl, by rw [hno]; rfl⟩
  subst hk
  rcases hm : numOf a 200 with _ | m
  · have hno : fldOf s 69 = none := by unfold fldOf; rw [e]; simp [hm]
    refine p_enter [(0, _), (1, _)] Tryz.func53 (by kernel_rfl) Tryz.ntmps53 rfl rfl (by repeat (first | exact trivial | refine ⟨rfl, ?_⟩)) fun B hB => ?_
    repeat' (first | (refine run (t := tb) 400 rfl ?_ ?_; (focus (repeat' ((exact trivial))))) | (refine k_op rfl ?_; first | refine c_al rfl rfl fun _ => ?_ | refine v_op (g_lenL rfl) rfl rfl ?_ | (refine v_op (g_pickT rfl rfl ?_) rfl rfl ?_; (focus (((rfl)); done))) | (refine v_op (g_pickF rfl rfl ?_) rfl rfl ?_; (focus (((rfl)); done))) | refine v_op (g_bld rfl rfl) rfl rfl ?_ | refine c_stA rfl rfl rfl rfl rfl rfl ?_ | (refine v_op (g_iaddr rfl rfl ?_) rfl rfl ?_; (focus ((omega); done))) | refine v_op (g_ldB rfl rfl rfl) rfl rfl ?_ | refine v_op (g_ldA rfl rfl rfl rfl) rfl rfl ?_ | (refine c_fng rfl rfl rfl cx_cut1 rfl ?_; rintro _ _ ⟨b1, cap1, rfl, rfl⟩; dsimp only [List.cons_append, List.nil_append]) | (refine c_pu rfl rfl rfl (c_l3Num (by omega)) rfl ?_; rintro _ ⟨n, rfl, hnum⟩)) | (refine k_gt rfl rfl ?_ ?_; (focus ((first | rfl | (simp [*]; done)); done))) | (refine k_gf rfl rfl ?_ ?_; (focus (((rfl)); done))) | (refine k_tt rfl ?_ ?_; (focus (((rfl)); done))) | (refine k_ff rfl ?_ ?_; (focus (((rfl)); done))))
    all_goals refine k_rr (vs := [_, _]) rfl ⟨rc_A rfl rfl rfl rfl, rfl, trivial⟩ rfl (List.nil_sublist _) ⟨rfl, rfl, ?_⟩
    all_goals exact ⟨⟨_, _, _, _⟩, false, rfl, by rw [hno]; rfl⟩
  have cx_num := c_numX (G := G) (by omega) hm
  have hyes : fldOf s 69 = if 1 ≤ m ∧ isNm b = true then some ⟨m, b, [], []⟩ else none := by unfold fldOf; rw [e]; simp [hm]
  refine p_enter [(0, _), (1, _)] Tryz.func53 (by kernel_rfl) Tryz.ntmps53 rfl rfl (by repeat (first | exact trivial | refine ⟨rfl, ?_⟩)) fun B hB => ?_
  repeat' (first | (refine run (t := tb) 400 rfl ?_ ?_; (focus (repeat' ((exact trivial))))) | (refine k_op rfl ?_; first | refine c_al rfl rfl fun _ => ?_ | refine v_op (g_lenL rfl) rfl rfl ?_ | (refine v_op (g_pickT rfl rfl ?_) rfl rfl ?_; (focus (((rfl)); done))) | (refine v_op (g_pickF rfl rfl ?_) rfl rfl ?_; (focus (((rfl)); done))) | refine v_op (g_bld rfl rfl) rfl rfl ?_ | refine c_stA rfl rfl rfl rfl rfl rfl ?_ | (refine v_op (g_iaddr rfl rfl ?_) rfl rfl ?_; (focus ((omega); done))) | refine v_op (g_ld rfl rfl rfl) rfl rfl ?_ | refine v_op (g_ldB rfl rfl rfl) rfl rfl ?_ | refine v_op (g_ldA rfl rfl rfl rfl) rfl rfl ?_ | (refine c_fng rfl rfl rfl cx_cut1 rfl ?_; rintro _ _ ⟨b1, cap1, rfl, rfl⟩; dsimp only [List.cons_append, List.nil_append]) | (refine c_rt rfl rfl rfl cx_num rfl ?_) | (refine c_rt rfl rfl rfl (c_l2Name ?_) rfl ?_; (focus (((omega)); done)))) | (refine k_gt rfl rfl ?_ ?_; (focus (((rfl)); done))) | (refine k_gf rfl rfl ?_ ?_; (focus (((rfl)); done))) | refine k_g rfl rfl (fun _ => ?_) (fun _ => ?_) | (refine k_tt rfl ?_ ?_; (focus (((rfl)); done))) | (refine k_ff rfl ?_ ?_; (focus (((rfl)); done))) | refine k_cd rfl (fun _ => ?_) (fun _ => ?_))
  all_goals refine k_rr (vs := [_, _]) rfl ⟨rc_A rfl rfl rfl rfl, rfl, trivial⟩ rfl (List.nil_sublist _) ⟨rfl, rfl, ?_⟩
  all_goals first | exact ⟨⟨m, b, [], []⟩, true, rfl, by rw [hyes]; simp_all; try omega⟩ | exact ⟨⟨m, b, [], []⟩, false, rfl, by rw [hyes]; simp_all; try omega⟩
theorem c_l3ReadField3b {s a b c d f : List UInt8} {k : Nat} {m : Int} (h : s.length ≤ 1000) (e : cut 58 s = [a, b, c]) (hk : ¬ k = 69) (hm : numOf a 200 = some m) (hg1 : 1 ≤ m) (hg2 : isNm b = true) (e2 : cut 61 c = [d, f]) : PuG Tryz.prog 53 [S s, U8 k] G (FldPost s k) := by
  have ha : a.length ≤ 1000 := Nat.le_trans (cut_len (k := 58) (s := s) (by rw [e]; simp)) h
  have hb : b.length ≤ 1000 := Nat.le_trans (cut_len (k := 58) (s := s) (by rw [e]; simp)) h
  have hc : c.length ≤ 1000 := Nat.le_trans (cut_len (k := 58) (s := s) (by rw [e]; simp)) h
  have cx_cut1 := c_cutX (G := G) (k := 58) 3 (by omega) e rfl (by omega)
  have cx_num := c_numX (G := G) (by omega) hm
  have hyes : fldOf s k = if k = 82 ∧ standOk d f = true then some ⟨m, b, d, f⟩ else none := by
    unfold fldOf; rw [e]; simp [hm, hg1, hg2, hk, e2]
  have hd : d.length ≤ 1000 := Nat.le_trans (cut_len (k := 61) (s := c) (by rw [e2]; simp)) hc
  have hf : f.length ≤ 1000 := Nat.le_trans (cut_len (k := 61) (s := c) (by rw [e2]; simp)) hc
  have cx_cut2 := c_cutX (G := G) (k := 61) 2 (by omega) e2 rfl (by omega)
  by_cases h82 : k = 82
  · have h83 : (k : Int) = 82 := by omega
    refine p_enter [(0, _), (1, _)] Tryz.func53 (by kernel_rfl) Tryz.ntmps53 rfl rfl (by repeat (first | exact trivial | refine ⟨rfl, ?_⟩)) fun B hB => ?_
    repeat' (first | (refine run (t := tb) 400 rfl ?_ ?_; (focus (repeat' ((exact trivial))))) | (refine k_op rfl ?_; first | refine c_al rfl rfl fun _ => ?_ | refine v_op (g_lenL rfl) rfl rfl ?_ | (refine v_op (g_pickT rfl rfl ?_) rfl rfl ?_; (focus (((rfl)); done))) | (refine v_op (g_pickF rfl rfl ?_) rfl rfl ?_; (focus (((rfl)); done))) | refine v_op (g_bld rfl rfl) rfl rfl ?_ | refine c_st1 rfl rfl rfl rfl ?_ | refine c_stA rfl rfl rfl rfl rfl rfl ?_ | (refine v_op (g_iaddr rfl rfl ?_) rfl rfl ?_; (focus ((omega); done))) | refine v_op (g_ld rfl rfl rfl) rfl rfl ?_ | refine v_op (g_ldB rfl rfl rfl) rfl rfl ?_ | (refine c_fng rfl rfl rfl cx_cut1 rfl ?_; rintro _ _ ⟨b1, cap1, rfl, rfl⟩; dsimp only [List.cons_append, List.nil_append]) | (refine c_fng rfl rfl rfl cx_cut2 rfl ?_; rintro _ _ ⟨b2, cap2, rfl, rfl⟩; dsimp only [List.cons_append, List.nil_append]) | (refine c_rt rfl rfl rfl cx_num rfl ?_) | (refine c_rt rfl rfl rfl (c_l2Name ?_) rfl ?_; (focus (((omega)); done)))) | (refine k_gt rfl rfl ?_ ?_; (focus (((rfl)); done))) | (refine k_gf rfl rfl ?_ ?_; (focus ((first | rfl | (refine decide_eq_false ?_; (omega))); done))) | (refine k_tt rfl ?_ ?_; (focus (((rfl)); done))) | (refine k_ff rfl ?_ ?_; (focus ((first | (refine decide_eq_false ?_; (omega)) | (simp [*]; done)); done))) | (refine k_any (s_anyD (id := 14) (tt := 4) rfl mixed ?_); refine x_tks (t := tb) (fuel := 9) [1, 2, 3] (bts 12 14) (by kernel_rfl) (by kernel_rfl) rfl rfl (Gh.le.refl _) (by repeat (first | exact List.nil_sublist _ | apply List.Sublist.cons_cons)) ?_ ?_; (focus (repeat' ((exact trivial)))); (try ((refine Nx.re (d := 76) (v' := Bo true) rfl (congrArg Value.bool ?_) ?_; (focus (((refine decide_eq_true ?_; (assumption))); done))))); refine x_tks (t := tb) (fuel := 7) [4, 6] (bts 12 94) (by kernel_rfl) (by kernel_rfl) rfl rfl (Gh.le.refl _) (by repeat (first | exact List.nil_sublist _ | apply List.Sublist.cons_cons)) ?_ ?_; (focus (repeat' ((exact trivial)))); ((refine (x_tkg (bts 12 95) 0 rfl (by kernel_rfl) rfl (Gh.le.refl _) (by repeat (first | exact List.nil_sublist _ | apply List.Sublist.cons_cons))) (g_ldA rfl rfl rfl rfl) rfl rfl ?_)); ((refine (x_tkg (bts 12 127) 5 rfl (by kernel_rfl) rfl (Gh.le.refl _) (by repeat (first | exact List.nil_sublist _ | apply List.Sublist.cons_cons))) (g_ld rfl rfl rfl) rfl rfl ?_)); ((refine (x_tkg (bts 12 255) 7 rfl (by kernel_rfl) rfl (Gh.le.refl _) (by repeat (first | exact List.nil_sublist _ | apply List.Sublist.cons_cons))) (g_ld rfl rfl rfl) rfl rfl ?_)); ((refine x_all [8] (by kernel_rfl) (by decide) ⟨?_, trivial⟩; refine x_opg rfl rfl ?_; ((refine c_rt rfl rfl rfl (c_l3Stand ?_) rfl ?_; (focus (((omega)); done)))); refine x_kk (by (exact Gh.le.refl _)) (by repeat (first | exact List.nil_sublist _ | apply List.Sublist.cons_cons)) (listed' := (bts 12 511)) (by kernel_rfl) ?_)); ((refine (x_tkg (bts 12 1023) 9 rfl (by kernel_rfl) rfl (Gh.le.refl _) (by repeat (first | exact List.nil_sublist _ | apply List.Sublist.cons_cons))) (g_pickT rfl rfl ?_) rfl rfl ?_; (focus (((rfl)); done)))); refine x_all [10] (by kernel_rfl) (by decide) ⟨?_, trivial⟩; refine x_opg rfl rfl ?_; ((refine c_stA rfl rfl rfl rfl rfl rfl ?_)); refine x_kk (by (exact Gh.le.refl _)) (by repeat (first | exact List.nil_sublist _ | apply List.Sublist.cons_cons)) (listed' := (bts 12 2047)) (by kernel_rfl) ?_; refine x_tks (t := tb) (fuel := 0) [11] (bts 12 4095) (by kernel_rfl) (by kernel_rfl) rfl rfl (Gh.le.refl _) (by repeat (first | exact List.nil_sublist _ | apply List.Sublist.cons_cons)) ?_ ?_; (focus (repeat' ((exact trivial)))); refine x_done (by kernel_rfl) (k_bk ?_)))
    all_goals refine k_rr (vs := [_, _]) rfl ⟨rc_A rfl rfl rfl rfl, rfl, trivial⟩ rfl (List.nil_sublist _) ⟨rfl, rfl, ?_⟩
    all_goals exact ⟨⟨m, b, d, f⟩, standOk d f, rfl, by rw [hyes]; simp [h82]⟩
  · have h83 : ¬ (k : Int) = 82 := by omega
    refine p_enter [(0, _), (1, _)] Tryz.func53 (by kernel_rfl) Tryz.ntmps53 rfl rfl (by repeat (first | exact trivial | refine ⟨rfl, ?_⟩)) fun B hB => ?_
    repeat' (first | (refine run (t := tb) 400 rfl ?_ ?_; (focus (repeat' ((exact trivial))))) | (refine k_op rfl ?_; first | refine c_al rfl rfl fun _ => ?_ | refine v_op (g_lenL rfl) rfl rfl ?_ | (refine v_op (g_pickT rfl rfl ?_) rfl rfl ?_; (focus (((rfl)); done))) | (refine v_op (g_pickF rfl rfl ?_) rfl rfl ?_; (focus (((rfl)); done))) | refine v_op (g_bld rfl rfl) rfl rfl ?_ | refine c_st1 rfl rfl rfl rfl ?_ | refine c_stA rfl rfl rfl rfl rfl rfl ?_ | (refine v_op (g_iaddr rfl rfl ?_) rfl rfl ?_; (focus ((omega); done))) | refine v_op (g_ld rfl rfl rfl) rfl rfl ?_ | refine v_op (g_ldB rfl rfl rfl) rfl rfl ?_ | (refine c_fng rfl rfl rfl cx_cut1 rfl ?_; rintro _ _ ⟨b1, cap1, rfl, rfl⟩; dsimp only [List.cons_append, List.nil_append]) | (refine c_fng rfl rfl rfl cx_cut2 rfl ?_; rintro _ _ ⟨b2, cap2, rfl, rfl⟩; dsimp only [List.cons_append, List.nil_append]) | (refine c_rt rfl rfl rfl cx_num rfl ?_) | (refine c_rt rfl rfl rfl (c_l2Name ?_) rfl ?_; (focus (((omega)); done)))) | (refine k_gt rfl rfl ?_ ?_; (focus (((rfl)); done))) | (refine k_gf rfl rfl ?_ ?_; (focus ((first | rfl | (refine decide_eq_false ?_; (omega))); done))) | (refine k_tt rfl ?_ ?_; (focus (((rfl)); done))) | (refine k_ff rfl ?_ ?_; (focus ((first | (refine decide_eq_false ?_; (omega)) | (simp [*]; done)); done))) | (refine k_any (s_anyD (id := 14) (tt := 4) rfl mixed ?_); refine x_tks (t := tb) (fuel := 9) [1, 2, 3] (bts 12 14) (by kernel_rfl) (by kernel_rfl) rfl rfl (Gh.le.refl _) (by repeat (first | exact List.nil_sublist _ | apply List.Sublist.cons_cons)) ?_ ?_; (focus (repeat' ((exact trivial)))); (try ((refine Nx.re (d := 76) (v' := Bo false) rfl (congrArg Value.bool ?_) ?_; (focus (((refine decide_eq_false ?_; (assumption))); done))))); refine x_tks (t := tb) (fuel := 7) [4, 6] (bts 12 94) (by kernel_rfl) (by kernel_rfl) rfl rfl (Gh.le.refl _) (by repeat (first | exact List.nil_sublist _ | apply List.Sublist.cons_cons)) ?_ ?_; (focus (repeat' ((exact trivial)))); ((refine (x_tkg (bts 12 95) 0 rfl (by kernel_rfl) rfl (Gh.le.refl _) (by repeat (first | exact List.nil_sublist _ | apply List.Sublist.cons_cons))) (g_ldA rfl rfl rfl rfl) rfl rfl ?_)); ((refine x_tkn (bts 12 127) 5 rfl (by kernel_rfl) rfl (Gh.le.refl _) (by repeat (first | exact List.nil_sublist _ | apply List.Sublist.cons_cons)) rfl rfl ?_)); ((refine x_tkn (bts 12 255) 7 rfl (by kernel_rfl) rfl (Gh.le.refl _) (by repeat (first | exact List.nil_sublist _ | apply List.Sublist.cons_cons)) rfl rfl ?_)); ((refine x_tkn (bts 12 511) 8 rfl (by kernel_rfl) rfl (Gh.le.refl _) (by repeat (first | exact List.nil_sublist _ | apply List.Sublist.cons_cons)) rfl rfl ?_)); ((refine (x_tkg (bts 12 1023) 9 rfl (by kernel_rfl) rfl (Gh.le.refl _) (by repeat (first | exact List.nil_sublist _ | apply List.Sublist.cons_cons))) (g_pickF rfl rfl ?_) rfl rfl ?_; (focus (((rfl)); done)))); refine x_all [10] (by kernel_rfl) (by decide) ⟨?_, trivial⟩; refine x_opg rfl rfl ?_; ((refine c_stA rfl rfl rfl rfl rfl rfl ?_)); refine x_kk (by (exact Gh.le.refl _)) (by repeat (first | exact List.nil_sublist _ | apply List.Sublist.cons_cons)) (listed' := (bts 12 2047)) (by kernel_rfl) ?_; refine x_tks (t := tb) (fuel := 0) [11] (bts 12 4095) (by kernel_rfl) (by kernel_rfl) rfl rfl (Gh.le.refl _) (by repeat (first | exact List.nil_sublist _ | apply List.Sublist.cons_cons)) ?_ ?_; (focus (repeat' ((exact trivial)))); refine x_done (by kernel_rfl) (k_bk ?_)))
    all_goals refine k_rr (vs := [_, _]) rfl ⟨rc_A rfl rfl rfl rfl, rfl, trivial⟩ rfl (List.nil_sublist _) ⟨rfl, rfl, ?_⟩
    all_goals exact ⟨⟨m, b, d, f⟩, false, rfl, by rw [hyes]; simp [h82]⟩
theorem c_l3ReadField3 {s a b c : List UInt8} {k : Nat} (h : s.length ≤ 1000) (e : cut 58 s = [a, b, c]) : PuG Tryz.prog 53 [S s, U8 k] G (FldPost s k) := by
  have ha : a.length ≤ 1000 := Nat.le_trans (cut_len (k := 58) (s := s) (by rw [e]; simp)) h
  have hb : b.length ≤ 1000 := Nat.le_trans (cut_len (k := 58) (s := s) (by rw [e]; simp)) h
  have hc : c.length ≤ 1000 := Nat.le_trans (cut_len (k := 58) (s := s) (by rw [e]; simp)) h
  have cx_cut1 := c_cutX (G := G) (k := 58) 3 (by omega) e rfl (by omega)
  by_cases hk : k = 69
  case pos =>
    subst hk
    have hno : fldOf s 69 = none := by unfold fldOf; rw [e]; simp
    refine p_enter [(0, _), (1, _)] Tryz.func53 (by kernel_rfl) Tryz.ntmps53 rfl rfl (by repeat (first | exact trivial | refine ⟨rfl, ?_⟩)) fun B hB => ?_
    repeat' (first | (refine run (t := tb) 400 rfl ?_ ?_; (focus (repeat' ((exact trivial))))) | (refine k_op rfl ?_; first | refine c_al rfl rfl fun _ => ?_ | refine v_op (g_lenL rfl) rfl rfl ?_ | (refine v_op (g_pickT rfl rfl ?_) rfl rfl ?_; (focus (((rfl)); done))) | (refine v_op (g_pickF rfl rfl ?_) rfl rfl ?_; (focus (((rfl)); done))) | refine v_op (g_bld rfl rfl) rfl rfl ?_ | refine c_stA rfl rfl rfl rfl rfl rfl ?_ | (refine c_fng rfl rfl rfl cx_cut1 rfl ?_; rintro _ _ ⟨b1, cap1, rfl, rfl⟩; dsimp only [List.cons_append, List.nil_append])) | (refine k_gt rfl rfl ?_ ?_; (focus (((rfl)); done))) | (refine k_gf rfl rfl ?_ ?_; (focus (((rfl)); done))) | (refine k_tt rfl ?_ ?_; (focus (((rfl)); done))))
    all_goals refine k_rr (vs := [_, _]) rfl ⟨rc_A rfl rfl rfl rfl, rfl, trivial⟩ rfl (List.nil_sublist _) ⟨rfl, rfl, ?_⟩
    all_goals exact ⟨default, false, rfl, by rw [hno]; rfl⟩
  rcases hm : numOf a 200 with _ | m
  · have hno : fldOf s k = none := by unfold fldOf; rw [e]; simp [hm]
    refine p_enter [(0, _), (1, _)] Tryz.func53 (by kernel_rfl) Tryz.ntmps53 rfl rfl (by repeat (first | exact trivial | refine ⟨rfl, ?_⟩)) fun B hB => ?_
    repeat' (first | (refine run (t := tb) 400 rfl ?_ ?_; (focus (repeat' ((exact trivial))))) | (refine k_op rfl ?_; first | refine c_al rfl rfl fun _ => ?_ | refine v_op (g_lenL rfl) rfl rfl ?_ | (refine v_op (g_pickT rfl rfl ?_) rfl rfl ?_; (focus (((rfl)); done))) | (refine v_op (g_pickF rfl rfl ?_) rfl rfl ?_; (focus (((rfl)); done))) | refine v_op (g_bld rfl rfl) rfl rfl ?_ | refine c_stA rfl rfl rfl rfl rfl rfl ?_ | (refine v_op (g_iaddr rfl rfl ?_) rfl rfl ?_; (focus ((omega); done))) | refine v_op (g_ldB rfl rfl rfl) rfl rfl ?_ | refine v_op (g_ldA rfl rfl rfl rfl) rfl rfl ?_ | (refine c_fng rfl rfl rfl cx_cut1 rfl ?_; rintro _ _ ⟨b1, cap1, rfl, rfl⟩; dsimp only [List.cons_append, List.nil_append]) | (refine c_pu rfl rfl rfl (c_l3Num (by omega)) rfl ?_; rintro _ ⟨n, rfl, hnum⟩)) | (refine k_gt rfl rfl ?_ ?_; (focus ((first | rfl | (simp [*]; done)); done))) | (refine k_gf rfl rfl ?_ ?_; (focus (((rfl)); done))) | (refine k_tt rfl ?_ ?_; (focus (((rfl)); done))) | (refine k_ff rfl ?_ ?_; (focus (((refine decide_eq_false ?_; (omega))); done))))
    all_goals refine k_rr (vs := [_, _]) rfl ⟨rc_A rfl rfl rfl rfl, rfl, trivial⟩ rfl (List.nil_sublist _) ⟨rfl, rfl, ?_⟩
    all_goals exact ⟨⟨_, _, _, _⟩, false, rfl, by rw [hno]; rfl⟩
  have cx_num := c_numX (G := G) (by omega) hm
  by_cases hg : 1 ≤ m ∧ isNm b = true
  case neg =>
    have hno : fldOf s k = none := by unfold fldOf; rw [e]; simp [hm, hg]
    have hg' : m < 1 ∨ isNm b = false := by
      by_cases h1 : m < 1
      · exact .inl h1
      · cases hb2 : isNm b with
        | false => exact .inr rfl
        | true => exact absurd ⟨by omega, hb2⟩ hg
    rcases hg' with hg' | hg'
    all_goals refine p_enter [(0, _), (1, _)] Tryz.func53 (by kernel_rfl) Tryz.ntmps53 rfl rfl (by repeat (first | exact trivial | refine ⟨rfl, ?_⟩)) fun B hB => ?_
    all_goals repeat' (first | (refine run (t := tb) 400 rfl ?_ ?_; (focus (repeat' ((exact trivial))))) | (refine k_op rfl ?_; first | refine c_al rfl rfl fun _ => ?_ | refine v_op (g_lenL rfl) rfl rfl ?_ | (refine v_op (g_pickT rfl rfl ?_) rfl rfl ?_; (focus (((rfl)); done))) | (refine v_op (g_pickF rfl rfl ?_) rfl rfl ?_; (focus (((rfl)); done))) | refine v_op (g_bld rfl rfl) rfl rfl ?_ | refine c_stA rfl rfl rfl rfl rfl rfl ?_ | (refine v_op (g_iaddr rfl rfl ?_) rfl rfl ?_; (focus ((omega); done))) | refine v_op (g_ld rfl rfl rfl) rfl rfl ?_ | refine v_op (g_ldB rfl rfl rfl) rfl rfl ?_ | refine v_op (g_ldA rfl rfl rfl rfl) rfl rfl ?_ | (refine c_fng rfl rfl rfl cx_cut1 rfl ?_; rintro _ _ ⟨b1, cap1, rfl, rfl⟩; dsimp only [List.cons_append, List.nil_append]) | (refine c_rt rfl rfl rfl cx_num rfl ?_) | (refine c_rt rfl rfl rfl (c_l2Name ?_) rfl ?_; (focus (((omega)); done)))) | (refine k_gt rfl rfl ?_ ?_; (focus ((first | rfl | (refine decide_eq_true ?_; (assumption))); done))) | (refine k_gf rfl rfl ?_ ?_; (focus (((rfl)); done))) | refine k_g rfl rfl (fun _ => ?_) (fun _ => ?_) | (refine k_tt rfl ?_ ?_; (focus ((first | rfl | (simp [*]; done)); done))) | (refine k_ff rfl ?_ ?_; (focus (((refine decide_eq_false ?_; (omega))); done))))
    all_goals refine k_rr (vs := [_, _]) rfl ⟨rc_A rfl rfl rfl rfl, rfl, trivial⟩ rfl (List.nil_sublist _) ⟨rfl, rfl, ?_⟩
    all_goals exact ⟨⟨_, _, _, _⟩, false, rfl, by rw [hno]; rfl⟩
  obtain ⟨hg1, hg2⟩ := hg
  have hyes : fldOf s k = match cut 61 c with
    | [d] => if kindOk d = true then some ⟨m, b, d, []⟩ else none
    | [d, e] => if k = 82 ∧ standOk d e = true then some ⟨m, b, d, e⟩ else none
    | _ => none := by
    unfold fldOf; rw [e]; simp only [hm, hg1, hg2, hk, if_false, if_true, and_self]; rfl
  have hp : 0 < (cut 61 c).length := cut_pos
  match e2 : cut 61 c, hp with
  | [d], _ =>
    rw [e2] at hyes
    have cx_cut2 := c_cutX (G := G) (k := 61) 1 (by omega) e2 rfl (by omega)
    refine p_enter [(0, _), (1, _)] Tryz.func53 (by kernel_rfl) Tryz.ntmps53 rfl rfl (by repeat (first | exact trivial | refine ⟨rfl, ?_⟩)) fun B hB => ?_
    repeat' (first | (refine run (t := tb) 400 rfl ?_ ?_; (focus (repeat' ((exact trivial))))) | (refine k_op rfl ?_; first | refine c_al rfl rfl fun _ => ?_ | refine v_op (g_lenL rfl) rfl rfl ?_ | (refine v_op (g_pickT rfl rfl ?_) rfl rfl ?_; (focus (((rfl)); done))) | (refine v_op (g_pickF rfl rfl ?_) rfl rfl ?_; (focus (((rfl)); done))) | refine v_op (g_bld rfl rfl) rfl rfl ?_ | refine c_st1 rfl rfl rfl rfl ?_ | refine c_stA rfl rfl rfl rfl rfl rfl ?_ | (refine v_op (g_iaddrN rfl rfl ?_) rfl rfl ?_; (focus ((omega); done))) | (refine v_op (g_iaddr rfl rfl ?_) rfl rfl ?_; (focus ((omega); done))) | refine v_op (g_ld rfl rfl rfl) rfl rfl ?_ | refine v_op (g_ldB rfl rfl rfl) rfl rfl ?_ | (refine c_fng rfl rfl rfl cx_cut1 rfl ?_; rintro _ _ ⟨b1, cap1, rfl, rfl⟩; dsimp only [List.cons_append, List.nil_append]) | (refine c_fng rfl rfl rfl cx_cut2 rfl ?_; rintro _ _ ⟨b2, cap2, rfl, rfl⟩; dsimp only [List.cons_append, List.nil_append]) | (refine c_rt rfl rfl rfl cx_num rfl ?_) | (refine c_rt rfl rfl rfl (c_l2Name ?_) rfl ?_; (focus (((omega)); done)))) | (refine k_gt rfl rfl ?_ ?_; (focus (((rfl)); done))) | (refine k_gf rfl rfl ?_ ?_; (focus ((first | rfl | (refine decide_eq_false ?_; (omega))); done))) | (refine k_ff rfl ?_ ?_; (focus ((first | rfl | (refine decide_eq_false ?_; (omega)) | (simp [*]; done)); done))) | (refine k_any (s_anyD (id := 15) (tt := 4) rfl mixed ?_); refine x_tks (t := tb) (fuel := 10) [1] (bts 11 2) (by kernel_rfl) (by kernel_rfl) rfl rfl (Gh.le.refl _) (by repeat (first | exact List.nil_sublist _ | apply List.Sublist.cons_cons)) ?_ ?_; (focus (repeat' ((exact trivial)))); ((refine (x_tkg (bts 11 3) 0 rfl (by kernel_rfl) rfl (Gh.le.refl _) (by repeat (first | exact List.nil_sublist _ | apply List.Sublist.cons_cons))) (g_ldA rfl rfl rfl rfl) rfl rfl ?_)); ((refine (x_tkg (bts 11 7) 2 rfl (by kernel_rfl) rfl (Gh.le.refl _) (by repeat (first | exact List.nil_sublist _ | apply List.Sublist.cons_cons))) (g_lenL rfl) rfl rfl ?_)); refine x_tks (t := tb) (fuel := 6) [3, 4] (bts 11 31) (by kernel_rfl) (by kernel_rfl) rfl rfl (Gh.le.refl _) (by repeat (first | exact List.nil_sublist _ | apply List.Sublist.cons_cons)) ?_ ?_; (focus (repeat' ((exact trivial)))); (try ((refine Nx.re (d := 87) (v' := Bo true) rfl (congrArg Value.bool ?_) ?_; (focus (((rfl)); done))))); refine x_tks (t := tb) (fuel := 5) [5] (bts 11 63) (by kernel_rfl) (by kernel_rfl) rfl rfl (Gh.le.refl _) (by repeat (first | exact List.nil_sublist _ | apply List.Sublist.cons_cons)) ?_ ?_; (focus (repeat' ((exact trivial)))); ((refine (x_tkg (bts 11 127) 6 rfl (by kernel_rfl) rfl (Gh.le.refl _) (by repeat (first | exact List.nil_sublist _ | apply List.Sublist.cons_cons))) (g_ld rfl rfl rfl) rfl rfl ?_)); ((refine x_all [7] (by kernel_rfl) (by decide) ⟨?_, trivial⟩; refine x_opg rfl rfl ?_; ((refine c_rt rfl rfl rfl c_KindOkS rfl ?_)); refine x_kk (by (exact Gh.le.refl _)) (by repeat (first | exact List.nil_sublist _ | apply List.Sublist.cons_cons)) (listed' := (bts 11 255)) (by kernel_rfl) ?_)); ((refine (x_tkg (bts 11 511) 8 rfl (by kernel_rfl) rfl (Gh.le.refl _) (by repeat (first | exact List.nil_sublist _ | apply List.Sublist.cons_cons))) (g_pickT rfl rfl ?_) rfl rfl ?_; (focus (((rfl)); done)))); refine x_all [9] (by kernel_rfl) (by decide) ⟨?_, trivial⟩; refine x_opg rfl rfl ?_; ((refine c_stA rfl rfl rfl rfl rfl rfl ?_)); refine x_kk (by (exact Gh.le.refl _)) (by repeat (first | exact List.nil_sublist _ | apply List.Sublist.cons_cons)) (listed' := (bts 11 1023)) (by kernel_rfl) ?_; refine x_tks (t := tb) (fuel := 0) [10] (bts 11 2047) (by kernel_rfl) (by kernel_rfl) rfl rfl (Gh.le.refl _) (by repeat (first | exact List.nil_sublist _ | apply List.Sublist.cons_cons)) ?_ ?_; (focus (repeat' ((exact trivial)))); refine x_done (by kernel_rfl) (k_bk ?_)))
    all_goals refine k_rr (vs := [_, _]) rfl ⟨rc_A rfl rfl rfl rfl, rfl, trivial⟩ rfl (List.nil_sublist _) ⟨rfl, rfl, ?_⟩
    all_goals exact ⟨⟨m, b, d, []⟩, kindOk d, rfl, hyes⟩
  | [d, f], _ => exact c_l3ReadField3b h e hk hm hg1 hg2 e2
  | d :: f :: g :: r, _ =>
    rw [e2] at hyes
    have cx_cut2 := c_cutX (G := G) (k := 61) (r.length + 3) (by omega) e2 (by simp) (by omega)
    refine p_enter [(0, _), (1, _)] Tryz.func53 (by kernel_rfl) Tryz.ntmps53 rfl rfl (by repeat (first | exact trivial | refine ⟨rfl, ?_⟩)) fun B hB => ?_
    repeat' (first | (refine run (t := tb) 400 rfl ?_ ?_; (focus (repeat' ((exact trivial))))) | (refine k_op rfl ?_; first | refine c_al rfl rfl fun _ => ?_ | refine v_op (g_lenL rfl) rfl rfl ?_ | (refine v_op (g_pickT rfl rfl ?_) rfl rfl ?_; (focus (((rfl)); done))) | (refine v_op (g_pickF rfl rfl ?_) rfl rfl ?_; (focus (((rfl)); done))) | refine v_op (g_bld rfl rfl) rfl rfl ?_ | refine c_st1 rfl rfl rfl rfl ?_ | refine c_stA rfl rfl rfl rfl rfl rfl ?_ | (refine v_op (g_iaddrN rfl rfl ?_) rfl rfl ?_; (focus ((omega); done))) | (refine v_op (g_iaddr rfl rfl ?_) rfl rfl ?_; (focus ((omega); done))) | refine v_op (g_ld rfl rfl rfl) rfl rfl ?_ | refine v_op (g_ldB rfl rfl rfl) rfl rfl ?_ | (refine c_fng rfl rfl rfl cx_cut1 rfl ?_; rintro _ _ ⟨b1, cap1, rfl, rfl⟩; dsimp only [List.cons_append, List.nil_append]) | (refine c_fng rfl rfl rfl cx_cut2 rfl ?_; rintro _ _ ⟨b2, cap2, rfl, rfl⟩; dsimp only [List.cons_append, List.nil_append]) | (refine c_rt rfl rfl rfl cx_num rfl ?_) | (refine c_rt rfl rfl rfl (c_l2Name ?_) rfl ?_; (focus (((omega)); done)))) | (refine k_gt rfl rfl ?_ ?_; (focus (((rfl)); done))) | (refine k_gf rfl rfl ?_ ?_; (focus ((first | rfl | (refine decide_eq_false ?_; (omega))); done))) | (refine k_ff rfl ?_ ?_; (focus ((first | rfl | (refine decide_eq_false ?_; (omega)) | (simp [*]; done)); done))) | (refine k_any (s_anyD (id := 15) (tt := 4) rfl mixed ?_); refine x_tks (t := tb) (fuel := 10) [1] (bts 11 2) (by kernel_rfl) (by kernel_rfl) rfl rfl (Gh.le.refl _) (by repeat (first | exact List.nil_sublist _ | apply List.Sublist.cons_cons)) ?_ ?_; (focus (repeat' ((exact trivial)))); ((refine (x_tkg (bts 11 3) 0 rfl (by kernel_rfl) rfl (Gh.le.refl _) (by repeat (first | exact List.nil_sublist _ | apply List.Sublist.cons_cons))) (g_ldA rfl rfl rfl rfl) rfl rfl ?_)); ((refine (x_tkg (bts 11 7) 2 rfl (by kernel_rfl) rfl (Gh.le.refl _) (by repeat (first | exact List.nil_sublist _ | apply List.Sublist.cons_cons))) (g_lenL rfl) rfl rfl ?_)); refine x_tks (t := tb) (fuel := 6) [3, 4] (bts 11 31) (by kernel_rfl) (by kernel_rfl) rfl rfl (Gh.le.refl _) (by repeat (first | exact List.nil_sublist _ | apply List.Sublist.cons_cons)) ?_ ?_; (focus (repeat' ((exact trivial)))); (try ((refine Nx.re (d := 87) (v' := Bo false) rfl (congrArg Value.bool ?_) ?_; (focus (((rfl)); done))))); refine x_tks (t := tb) (fuel := 5) [5] (bts 11 63) (by kernel_rfl) (by kernel_rfl) rfl rfl (Gh.le.refl _) (by repeat (first | exact List.nil_sublist _ | apply List.Sublist.cons_cons)) ?_ ?_; (focus (repeat' ((exact trivial)))); ((refine x_tkn (bts 11 127) 6 rfl (by kernel_rfl) rfl (Gh.le.refl _) (by repeat (first | exact List.nil_sublist _ | apply List.Sublist.cons_cons)) rfl rfl ?_)); ((refine x_tkn (bts 11 255) 7 rfl (by kernel_rfl) rfl (Gh.le.refl _) (by repeat (first | exact List.nil_sublist _ | apply List.Sublist.cons_cons)) rfl rfl ?_)); ((refine (x_tkg (bts 11 511) 8 rfl (by kernel_rfl) rfl (Gh.le.refl _) (by repeat (first | exact List.nil_sublist _ | apply List.Sublist.cons_cons))) (g_pickF rfl rfl ?_) rfl rfl ?_; (focus (((rfl)); done)))); refine x_all [9] (by kernel_rfl) (by decide) ⟨?_, trivial⟩; refine x_opg rfl rfl ?_; ((refine c_stA rfl rfl rfl rfl rfl rfl ?_)); refine x_kk (by (exact Gh.le.refl _)) (by repeat (first | exact List.nil_sublist _ | apply List.Sublist.cons_cons)) (listed' := (bts 11 1023)) (by kernel_rfl) ?_; refine x_tks (t := tb) (fuel := 0) [10] (bts 11 2047) (by kernel_rfl) (by kernel_rfl) rfl rfl (Gh.le.refl _) (by repeat (first | exact List.nil_sublist _ | apply List.Sublist.cons_cons)) ?_ ?_; (focus (repeat' ((exact trivial)))); refine x_done (by kernel_rfl) (k_bk ?_)))
    all_goals refine k_rr (vs := [_, _]) rfl ⟨rc_A rfl rfl rfl rfl, rfl, trivial⟩ rfl (List.nil_sublist _) ⟨rfl, rfl, ?_⟩
    all_goals exact ⟨⟨m, b, d, []⟩, false, rfl, hyes⟩
theorem c_l3ReadField {s : List UInt8} {k : Nat} (h : s.length ≤ 1000) : PuG Tryz.prog 53 [S s, U8 k] G (FldPost s k) := by
  by_cases h2 : (cut 58 s).length = 2
  · match e : cut 58 s, h2 with
    | [a, b], _ => exact c_l3ReadField2 h e
  by_cases h3 : (cut 58 s).length = 3
  · match e : cut 58 s, h3 with
    | [a, b, c], _ => exact c_l3ReadField3 h e
  exact c_l3ReadField0 h h2 h3
end Go.E
/-! Mb -/
namespace Go.E
set_option maxRecDepth 20000
set_option maxHeartbeats 2000000
open Go.Proofs
variable {G : Gh}
theorem c_l3CutS {s : List UInt8} {k : Nat} (h : s.length ≤ 100000000) : FnS Tryz.prog 27 [S s, U8 k] G (fun v G' => SlV G' v 1 (cut k s).length (rows strF (cut k s))) := by
  refine FnG.shutP ((c_l3Cut (G := G) (k := k) h).mono ?_)
  rintro v G' L' ⟨h1, h2, _⟩
  exact ⟨h1, v, _, _, _, _, h2, fun G' _ h3 => by rw [← strs_rows]; exact h3⟩
abbrev tFld : TypeId := 77
abbrev tTy : TypeId := 59
def TyPost (s : List UInt8) (v : Value) (G : Gh) : Prop := ∃ fv t ok, v = Tu [Ag [U8 (t : Ty).sort, S t.name, fv], Bo ok] ∧ (tyOf s = if ok = true then some t else none) ∧ SlV G fv 4 t.fields.length (rows fldF t.fields)
theorem SlV.nil0 {G : Gh} {sz : Nat} : SlV G nilS sz 0 [] := ⟨by simp, .inl ⟨rfl, rfl⟩⟩
theorem drop_nth {α : Type} [Inhabited α] {xs : List α} {i : Nat} (h : i < xs.length) : xs.drop i = nth xs i :: xs.drop (i + 1) := by rw [nth_eq h]; exact (List.getElem_cons_drop (h := h)).symm
theorem Shp.sl {v : Value} {m : Nat} (h : Shp v m) : ∃ a cap, v = .slice a m cap := by
  rcases h with ⟨rfl, rfl⟩ | ⟨b, cap, rfl, _⟩
  · exact ⟨none, 0, rfl⟩
  · exact ⟨_, cap, rfl⟩
theorem tyOf_bad {c : UInt8} {r : List UInt8} (h : (cut1 61 r).2.2 = false) : tyOf (c :: r) = none := by
  unfold tyOf
  split
  · rfl
  · rename_i h1; cases h1
    split
    · rename_i h2; rw [h2] at h; cases h
    · rfl
theorem tyOf_at {c : UInt8} {r name rest : List UInt8} (h : cut1 61 r = (name, rest, true)) : tyOf (c :: r) = if isNm name = true ∧ sortOk c.toNat then
        if rest = [] then (if c.toNat = 82 then some ⟨82, name, []⟩ else none)
        else match fieldsOf c.toNat (cut 44 rest) [] with
          | some fs => if fs.length ≤ 8 then some ⟨c.toNat, name, fs⟩ else none
          | none => none
      else none := by
  unfold tyOf
  simp only [h]; rfl
theorem c_l3ReadType {s : List UInt8} (h : s.length ≤ 1000) : FnS Tryz.prog 28 [S s] G (TyPost s) := by
  refine b_enter [(0, _)] Tryz.func28 (by kernel_rfl) Tryz.ntmps28 rfl rfl (by repeat (first | exact trivial | refine ⟨rfl, ?_⟩)) fun B hok hB hW => ?_
  repeat' (first | (refine run (t := tb) 400 rfl ?_ ?_; (focus (repeat' ((exact trivial))))) | (refine k_op rfl ?_; (refine c_al rfl rfl fun _ => ?_)))
  rename_i x
  refine k_loop (ι := Nat) (fun i => i ≤ s.length ∧ ∀ k, k < i → bt s k ≠ 61) (fun i => [(0, S s), (2, Pt x 0), (4, I i)]) (fun _ => G) (fun i => [.blk x (.cells [U8 0, S [], nilS].toArray tTy (0, 0))]) (fun i => s.length - i) 0 ?_ (by repeat (first | exact trivial | refine ⟨rfl, ?_⟩)) rfl (by repeat ((exact List.Sublist.refl _))) (fun i Hi => ?_)
  · exact ⟨by omega, fun k hk => absurd hk (by omega)⟩
  by_cases hi : i < s.length ∧ bt s i ≠ 61
  · repeat' (first | (refine run (t := tb) 400 rfl ?_ ?_; (focus (repeat' (first | exact trivial | apply And.intro | omega)))) | (refine k_op rfl ?_; (refine v_op (g_pickT rfl rfl ?_) rfl rfl ?_; (focus (((rfl)); done)))) | (refine k_gt rfl rfl ?_ ?_; (focus (((refine decide_eq_true ?_; (omega))); done))) | (refine k_tt rfl ?_ ?_; (focus (((simp; omega)); done))))
    refine k_rd (i + 1) ⟨by omega, fun k hk => ?_⟩ (by omega) (by repeat (first | exact trivial | refine ⟨rfl, ?_⟩)) rfl (by repeat ((exact List.Sublist.refl _)))
    rcases Nat.lt_or_ge k i with h3 | h3
    · exact Hi.2 k h3
    · have : k = i := by omega
      subst this; exact hi.2
  rcases Nat.lt_or_ge i s.length with hlt | hge
  case inr =>
    have hno : tyOf s = none := by
      match s, Hi, hge with
      | [], _, _ => rfl
      | c :: r, Hi, hge =>
        refine tyOf_bad ?_
        rw [cut1_no fun j hj => by have := Hi.2 (j + 1) (by simp at hge; omega); rwa [bt_succ] at this]
    repeat' (first | (refine run (t := tb) 400 rfl ?_ ?_; (focus (repeat' ((exact trivial))))) | (refine k_op rfl ?_; first | (refine v_op (g_pickT rfl rfl ?_) rfl rfl ?_; (focus (((rfl)); done))) | (refine v_op (g_pickF rfl rfl ?_) rfl rfl ?_; (focus (((rfl)); done))) | refine v_op (g_bld rfl rfl) rfl rfl ?_ | refine c_stA rfl rfl rfl rfl rfl rfl ?_) | (refine k_gf rfl rfl ?_ ?_; (focus (((refine decide_eq_false ?_; (omega))); done))) | refine k_g rfl rfl (fun _ => ?_) (fun _ => ?_) | (refine k_tt rfl ?_ ?_; (focus ((first | rfl | (refine decide_eq_true ?_; (omega))); done))) | (refine k_ff rfl ?_ ?_; (focus (((rfl)); done))))
    all_goals refine k_rr (vs := [_, _]) rfl ⟨rc_A rfl rfl rfl rfl, rfl, trivial⟩ rfl (List.nil_sublist _) ⟨Gh.le.refl _, rfl, ?_⟩
    all_goals exact ⟨nilS, default, false, rfl, by rw [hno]; rfl, SlV.nil0⟩
  have h61 : bt s i = 61 := by
    rcases Nat.lt_or_ge (bt s i) 61 with h1 | h1
    · exact absurd ⟨hlt, by omega⟩ hi
    · rcases Nat.lt_or_ge 61 (bt s i) with h2 | h2
      · exact absurd ⟨hlt, by omega⟩ hi
      · omega
  match s, i, Hi, hlt, h61, h with
  | c :: r, 0, Hi, hlt, h61, h =>
    have hno : tyOf (c :: r) = none := by
      rw [bt_zero] at h61
      cases ht : (cut1 61 r).2.2 with
      | false => exact tyOf_bad ht
      | true =>
        rw [tyOf_at (c := c) (r := r) (name := (cut1 61 r).1) (rest := (cut1 61 r).2.1) (by rw [← ht])]
        rw [if_neg]
        rintro ⟨_, h2⟩
        unfold sortOk at h2; omega
    have h62 : bt (c :: r) ((0 : Nat) : Int).toNat = 61 := h61
    repeat' (first | (refine run (t := tb) 400 rfl ?_ ?_; (focus (repeat' (first | exact trivial | apply And.intro | omega)))) | (refine k_op rfl ?_; first | (refine v_op (g_pickT rfl rfl ?_) rfl rfl ?_; (focus (((rfl)); done))) | refine v_op (g_bld rfl rfl) rfl rfl ?_ | refine c_stA rfl rfl rfl rfl rfl rfl ?_) | (refine k_gt rfl rfl ?_ ?_; (focus ((first | rfl | (refine decide_eq_true ?_; (omega))); done))) | (refine k_tt rfl ?_ ?_; (focus (((rfl)); done))) | (refine k_ff rfl ?_ ?_; (focus (((refine decide_eq_false ?_; (omega))); done))))
    all_goals refine k_rr (vs := [_, _]) rfl ⟨rc_A rfl rfl rfl rfl, rfl, trivial⟩ rfl (List.nil_sublist _) ⟨Gh.le.refl _, rfl, ?_⟩
    all_goals exact ⟨nilS, default, false, rfl, by rw [hno]; rfl, SlV.nil0⟩
  | c :: r, j + 1, Hi, hlt, h61, h =>
    have hj : j < r.length := by simpa using hlt
    have hcut1 : cut1 61 r = (r.take j, r.drop (j + 1), true) := cut1_at hj (fun k hk => by have := Hi.2 (k + 1) (by omega); rwa [bt_succ] at this) (by rwa [bt_succ] at h61)
    have hty := tyOf_at (c := c) hcut1
    have h62 : bt (c :: r) ((j + 1 : Nat) : Int).toNat = 61 := h61
    have e0 : bt (c :: r) (Int.toNat 0) = c.toNat := bt_zero c r
    have hnl : (r.take j).length ≤ 1000 := by simp at h ⊢; omega
    have cx_nm := c_l2Name (G := G) (s := r.take j) (by omega)
    by_cases hg : isNm (r.take j) = true ∧ sortOk c.toNat
    case neg =>
      have hno : tyOf (c :: r) = none := by rw [hty, if_neg hg]
      by_cases hn : isNm (r.take j) = true
      · have hn2 : (!isNm (r.take j)) = false := by rw [hn]; rfl
        have hns : ¬ sortOk c.toNat := fun h => hg ⟨hn, h⟩
        unfold sortOk at hns
        repeat' (first | (refine run (t := tb) 400 rfl ?_ ?_; (focus (repeat' (first | exact trivial | apply And.intro | omega)))) | (refine k_op rfl ?_; first | (refine v_op (g_pickT rfl rfl ?_) rfl rfl ?_; (focus (((rfl)); done))) | (refine v_op (g_pickF rfl rfl ?_) rfl rfl ?_; (focus (((rfl)); done))) | refine c_stA rfl rfl rfl rfl rfl rfl ?_ | refine v_op (g_ld rfl rfl rfl) rfl rfl ?_ | refine v_op (g_ldA rfl rfl rfl rfl) rfl rfl ?_ | (refine c_rt rfl rfl rfl cx_nm rfl ?_)) | (refine k_gt rfl rfl ?_ ?_; (focus (((refine decide_eq_true ?_; (omega))); done))) | (refine k_gf rfl rfl ?_ ?_; (focus ((first | rfl | assumption); done))) | (refine k_tt rfl ?_ ?_; (focus (((refine decide_eq_true ?_; (omega))); done))) | (refine k_ff rfl ?_ ?_; (focus (((refine decide_eq_false ?_; (omega))); done))) | (refine k_any (s_any (id := 6) _ (fun _ h => h) mixed ?_); refine x_tks (t := tb) (fuel := 3) [0, 1, 2, 3, 4] (bts 8 31) (by kernel_rfl) (by kernel_rfl) rfl rfl (Gh.le.refl _) (by repeat ((exact List.Sublist.refl _))) ?_ ?_; (focus (repeat' (first | exact trivial | apply And.intro | omega))); ((refine (x_tkg (bts 8 63) 5 rfl (by kernel_rfl) rfl (Gh.le.refl _) (by repeat ((exact List.Sublist.refl _)))) (g_bld rfl rfl) rfl rfl ?_)); refine x_all [6] (by kernel_rfl) (by decide) ⟨?_, trivial⟩; refine x_opg rfl rfl ?_; ((refine c_al rfl rfl fun _ => ?_)); refine x_kk (by (exact Gh.le.refl _)) (by repeat (first | exact List.Sublist.refl _ | apply List.Sublist.cons)) (listed' := (bts 8 127)) (by kernel_rfl) ?_; refine x_all [7] (by kernel_rfl) (by decide) ⟨?_, trivial⟩; refine x_opg rfl rfl ?_; ((refine c_stA rfl rfl rfl rfl rfl rfl ?_)); refine x_kk (by (exact Gh.le.refl _)) (by repeat (first | exact List.Sublist.refl _ | apply List.Sublist.cons)) (listed' := (bts 8 255)) (by kernel_rfl) ?_; refine x_done (by kernel_rfl) (k_bk ?_)))
        all_goals refine k_rr (vs := [_, _]) rfl ⟨rc_A rfl rfl rfl rfl, rfl, trivial⟩ rfl (List.nil_sublist _) ⟨Gh.le.refl _, rfl, ?_⟩
        all_goals exact ⟨nilS, ⟨_, _, []⟩, false, rfl, by rw [hno]; rfl, SlV.nil0⟩
      · have hn2 : (!isNm (r.take j)) = true := by simpa using hn
        repeat' (first | (refine run (t := tb) 400 rfl ?_ ?_; (focus (repeat' (first | exact trivial | apply And.intro | omega)))) | (refine k_op rfl ?_; first | (refine v_op (g_pickT rfl rfl ?_) rfl rfl ?_; (focus (((rfl)); done))) | (refine v_op (g_pickF rfl rfl ?_) rfl rfl ?_; (focus (((rfl)); done))) | refine c_stA rfl rfl rfl rfl rfl rfl ?_ | refine v_op (g_ld rfl rfl rfl) rfl rfl ?_ | refine v_op (g_ldA rfl rfl rfl rfl) rfl rfl ?_ | (refine c_rt rfl rfl rfl cx_nm rfl ?_)) | (refine k_gt rfl rfl ?_ ?_; (focus ((first | assumption | (refine decide_eq_true ?_; (omega))); done))) | (refine k_gf rfl rfl ?_ ?_; (focus (((rfl)); done))) | (refine k_tt rfl ?_ ?_; (focus (((rfl)); done))) | (refine k_ff rfl ?_ ?_; (focus (((refine decide_eq_false ?_; (omega))); done))) | (refine k_any (s_any (id := 6) _ (fun _ h => h) mixed ?_); refine x_tks (t := tb) (fuel := 3) [0, 1, 2, 3, 4] (bts 8 31) (by kernel_rfl) (by kernel_rfl) rfl rfl (Gh.le.refl _) (by repeat ((exact List.Sublist.refl _))) ?_ ?_; (focus (repeat' (first | exact trivial | apply And.intro | omega))); ((refine (x_tkg (bts 8 63) 5 rfl (by kernel_rfl) rfl (Gh.le.refl _) (by repeat ((exact List.Sublist.refl _)))) (g_bld rfl rfl) rfl rfl ?_)); refine x_all [6] (by kernel_rfl) (by decide) ⟨?_, trivial⟩; refine x_opg rfl rfl ?_; ((refine c_al rfl rfl fun _ => ?_)); refine x_kk (by (exact Gh.le.refl _)) (by repeat (first | exact List.Sublist.refl _ | apply List.Sublist.cons)) (listed' := (bts 8 127)) (by kernel_rfl) ?_; refine x_all [7] (by kernel_rfl) (by decide) ⟨?_, trivial⟩; refine x_opg rfl rfl ?_; ((refine c_stA rfl rfl rfl rfl rfl rfl ?_)); refine x_kk (by (exact Gh.le.refl _)) (by repeat (first | exact List.Sublist.refl _ | apply List.Sublist.cons)) (listed' := (bts 8 255)) (by kernel_rfl) ?_; refine x_done (by kernel_rfl) (k_bk ?_)))
        all_goals refine k_rr (vs := [_, _]) rfl ⟨rc_A rfl rfl rfl rfl, rfl, trivial⟩ rfl (List.nil_sublist _) ⟨Gh.le.refl _, rfl, ?_⟩
        all_goals exact ⟨nilS, ⟨_, _, []⟩, false, rfl, by rw [hno]; rfl, SlV.nil0⟩
    have hn2 : (!isNm (r.take j)) = false := by rw [hg.1]; rfl
    have hs2 := hg.2
    unfold sortOk at hs2
    rw [if_pos hg] at hty
    by_cases hrest : r.drop (j + 1) = []
    · rw [if_pos hrest] at hty
      by_cases h82 : c.toNat = 82
      · rw [if_pos h82] at hty
        have e82 : bt (c :: r) (Int.toNat 0) = 82 := by omega
        repeat' (first | (refine run (t := tb) 400 rfl ?_ ?_; (focus (repeat' (first | exact trivial | apply And.intro | omega)))) | (refine k_op rfl ?_; first | (refine v_op (g_pickT rfl rfl ?_) rfl rfl ?_; (focus (((rfl)); done))) | (refine v_op (g_pickF rfl rfl ?_) rfl rfl ?_; (focus (((rfl)); done))) | refine v_op (g_ld rfl rfl rfl) rfl rfl ?_ | (refine c_rt rfl rfl rfl cx_nm rfl ?_)) | (refine k_gt rfl rfl ?_ ?_; (focus (((refine decide_eq_true ?_; (omega))); done))) | (refine k_gf rfl rfl ?_ ?_; (focus ((first | rfl | assumption | (refine decide_eq_false ?_; (omega))); done))) | (refine k_tt rfl ?_ ?_; (focus (((refine decide_eq_true ?_; (assumption))); done))) | (refine k_ff rfl ?_ ?_; (focus ((first | rfl | (refine decide_eq_false ?_; (omega))); done))) | (refine k_any (s_any (id := 6) _ (fun _ h => h) mixed ?_); refine x_tks (t := tb) (fuel := 3) [0, 1, 2, 3, 4] (bts 8 31) (by kernel_rfl) (by kernel_rfl) rfl rfl (Gh.le.refl _) (by repeat ((exact List.Sublist.refl _))) ?_ ?_; (focus (repeat' (first | exact trivial | apply And.intro | omega))); ((refine (x_tkg (bts 8 63) 5 rfl (by kernel_rfl) rfl (Gh.le.refl _) (by repeat ((exact List.Sublist.refl _)))) (g_bld rfl rfl) rfl rfl ?_)); refine x_all [6] (by kernel_rfl) (by decide) ⟨?_, trivial⟩; refine x_opg rfl rfl ?_; ((refine c_al rfl rfl fun _ => ?_)); refine x_kk (by (exact Gh.le.refl _)) (by repeat (first | exact List.Sublist.refl _ | apply List.Sublist.cons)) (listed' := (bts 8 127)) (by kernel_rfl) ?_; refine x_all [7] (by kernel_rfl) (by decide) ⟨?_, trivial⟩; refine x_opg rfl rfl ?_; ((refine c_stA rfl rfl rfl rfl rfl rfl ?_)); refine x_kk (by (exact Gh.le.refl _)) (by repeat (first | exact List.Sublist.refl _ | apply List.Sublist.cons)) (listed' := (bts 8 255)) (by kernel_rfl) ?_; refine x_done (by kernel_rfl) (k_bk ?_)) | (refine k_any (s_anyD (id := 10) (tt := 2) rfl mixed ?_); refine x_tks (t := tb) (fuel := 5) [1] (bts 6 2) (by kernel_rfl) (by kernel_rfl) rfl rfl (Gh.le.refl _) (by repeat (first | exact List.nil_sublist _ | apply List.Sublist.cons_cons)) ?_ ?_; (focus (repeat' ((exact trivial)))); ((refine (x_tkg (bts 6 3) 0 rfl (by kernel_rfl) rfl (Gh.le.refl _) (by repeat (first | exact List.nil_sublist _ | apply List.Sublist.cons_cons))) (g_ldA rfl rfl rfl rfl) rfl rfl ?_)); ((refine (x_tkg (bts 6 7) 2 rfl (by kernel_rfl) rfl (Gh.le.refl _) (by repeat (first | exact List.nil_sublist _ | apply List.Sublist.cons_cons))) (g_ld rfl rfl rfl) rfl rfl ?_)); refine x_tks (t := tb) (fuel := 2) [3] (bts 6 15) (by kernel_rfl) (by kernel_rfl) rfl rfl (Gh.le.refl _) (by repeat (first | exact List.nil_sublist _ | apply List.Sublist.cons_cons)) ?_ ?_; (focus (repeat' ((exact trivial)))); refine x_all [4] (by kernel_rfl) (by decide) ⟨?_, trivial⟩; refine x_opg rfl rfl ?_; ((refine c_stA rfl rfl rfl rfl rfl rfl ?_)); refine x_kk (by (exact Gh.le.refl _)) (by repeat (first | exact List.nil_sublist _ | apply List.Sublist.cons_cons)) (listed' := (bts 6 31)) (by kernel_rfl) ?_; refine x_tks (t := tb) (fuel := 0) [5] (bts 6 63) (by kernel_rfl) (by kernel_rfl) rfl rfl (Gh.le.refl _) (by repeat (first | exact List.nil_sublist _ | apply List.Sublist.cons_cons)) ?_ ?_; (focus (repeat' ((exact trivial)))); refine x_done (by kernel_rfl) (k_bk ?_)))
        all_goals refine k_rr (vs := [_, _]) rfl ⟨rc_A rfl rfl rfl rfl, rfl, trivial⟩ rfl (List.nil_sublist _) ⟨Gh.le.refl _, rfl, ?_⟩
        all_goals refine ⟨nilS, ⟨82, r.take j, []⟩, true, ?_, hty, SlV.nil0⟩
        all_goals show Tu [Ag [U8 (bt (c :: r) (Int.toNat 0) : Nat), S (r.take j), nilS], Bo (decide (((bt (c :: r) (Int.toNat 0) : Nat) : Int) = 82))] = _
        all_goals (rw [e82]; rfl)
      · rw [if_neg h82] at hty
        have e82 : ¬ bt (c :: r) (Int.toNat 0) = 82 := by omega
        have e83 : decide (((bt (c :: r) (Int.toNat 0) : Nat) : Int) = 82) = false := decide_eq_false (by omega)
        repeat' (first | (refine run (t := tb) 400 rfl ?_ ?_; (focus (repeat' (first | exact trivial | apply And.intro | omega)))) | (refine k_op rfl ?_; first | (refine v_op (g_pickT rfl rfl ?_) rfl rfl ?_; (focus (((rfl)); done))) | (refine v_op (g_pickF rfl rfl ?_) rfl rfl ?_; (focus (((rfl)); done))) | refine v_op (g_ld rfl rfl rfl) rfl rfl ?_ | (refine c_rt rfl rfl rfl cx_nm rfl ?_)) | (refine k_gt rfl rfl ?_ ?_; (focus (((refine decide_eq_true ?_; (omega))); done))) | (refine k_gf rfl rfl ?_ ?_; (focus ((first | rfl | assumption); done))) | refine k_g rfl rfl (fun _ => ?_) (fun _ => ?_) | (refine k_tt rfl ?_ ?_; (focus (((refine decide_eq_true ?_; (assumption))); done))) | (refine k_ff rfl ?_ ?_; (focus ((first | rfl | (refine decide_eq_false ?_; (omega))); done))) | (refine k_any (s_any (id := 6) _ (fun _ h => h) mixed ?_); refine x_tks (t := tb) (fuel := 3) [0, 1, 2, 3, 4] (bts 8 31) (by kernel_rfl) (by kernel_rfl) rfl rfl (Gh.le.refl _) (by repeat ((exact List.Sublist.refl _))) ?_ ?_; (focus (repeat' (first | exact trivial | apply And.intro | omega))); ((refine (x_tkg (bts 8 63) 5 rfl (by kernel_rfl) rfl (Gh.le.refl _) (by repeat ((exact List.Sublist.refl _)))) (g_bld rfl rfl) rfl rfl ?_)); refine x_all [6] (by kernel_rfl) (by decide) ⟨?_, trivial⟩; refine x_opg rfl rfl ?_; ((refine c_al rfl rfl fun _ => ?_)); refine x_kk (by (exact Gh.le.refl _)) (by repeat (first | exact List.Sublist.refl _ | apply List.Sublist.cons)) (listed' := (bts 8 127)) (by kernel_rfl) ?_; refine x_all [7] (by kernel_rfl) (by decide) ⟨?_, trivial⟩; refine x_opg rfl rfl ?_; ((refine c_stA rfl rfl rfl rfl rfl rfl ?_)); refine x_kk (by (exact Gh.le.refl _)) (by repeat (first | exact List.Sublist.refl _ | apply List.Sublist.cons)) (listed' := (bts 8 255)) (by kernel_rfl) ?_; refine x_done (by kernel_rfl) (k_bk ?_)) | (refine k_any (s_anyD (id := 10) (tt := 2) rfl mixed ?_); refine x_tks (t := tb) (fuel := 5) [1] (bts 6 2) (by kernel_rfl) (by kernel_rfl) rfl rfl (Gh.le.refl _) (by repeat (first | exact List.nil_sublist _ | apply List.Sublist.cons_cons)) ?_ ?_; (focus (repeat' ((exact trivial)))); ((refine (x_tkg (bts 6 3) 0 rfl (by kernel_rfl) rfl (Gh.le.refl _) (by repeat (first | exact List.nil_sublist _ | apply List.Sublist.cons_cons))) (g_ldA rfl rfl rfl rfl) rfl rfl ?_)); ((refine (x_tkg (bts 6 7) 2 rfl (by kernel_rfl) rfl (Gh.le.refl _) (by repeat (first | exact List.nil_sublist _ | apply List.Sublist.cons_cons))) (g_ld rfl rfl rfl) rfl rfl ?_)); refine x_tks (t := tb) (fuel := 2) [3] (bts 6 15) (by kernel_rfl) (by kernel_rfl) rfl rfl (Gh.le.refl _) (by repeat (first | exact List.nil_sublist _ | apply List.Sublist.cons_cons)) ?_ ?_; (focus (repeat' ((exact trivial)))); refine x_all [4] (by kernel_rfl) (by decide) ⟨?_, trivial⟩; refine x_opg rfl rfl ?_; ((refine c_stA rfl rfl rfl rfl rfl rfl ?_)); refine x_kk (by (exact Gh.le.refl _)) (by repeat (first | exact List.nil_sublist _ | apply List.Sublist.cons_cons)) (listed' := (bts 6 31)) (by kernel_rfl) ?_; refine x_tks (t := tb) (fuel := 0) [5] (bts 6 63) (by kernel_rfl) (by kernel_rfl) rfl rfl (Gh.le.refl _) (by repeat (first | exact List.nil_sublist _ | apply List.Sublist.cons_cons)) ?_ ?_; (focus (repeat' ((exact trivial)))); refine x_done (by kernel_rfl) (k_bk ?_)))
        all_goals refine k_rr (vs := [_, _]) rfl ⟨rc_A rfl rfl rfl rfl, rfl, trivial⟩ rfl (List.nil_sublist _) ⟨Gh.le.refl _, rfl, ?_⟩
        all_goals refine ⟨nilS, ⟨bt (c :: r) (Int.toNat 0), r.take j, []⟩, false, ?_, hty, SlV.nil0⟩
        all_goals show Tu [Ag [U8 (bt (c :: r) (Int.toNat 0) : Nat), S (r.take j), nilS], Bo (decide (((bt (c :: r) (Int.toNat 0) : Nat) : Int) = 82))] = _
        all_goals (rw [e83])
    rw [if_neg hrest] at hty
    have hrl : (r.drop (j + 1)).length ≤ 1000 := by simp at h ⊢; omega
    have hcl := cut_count (k := 44) (s := r.drop (j + 1))
    have cx_cutS := c_l3CutS (G := G) (s := r.drop (j + 1)) (k := 44) (by omega)
    have hall : ∀ y ∈ cut 44 (r.drop (j + 1)), y.length ≤ 1000 := fun y hy => Nat.le_trans (cut_len hy) hrl
    generalize hxs : cut 44 (r.drop (j + 1)) = xs at *
    rcases hs2 with h1 | h1 | h1
    all_goals repeat' (first | (refine run (t := tb) 400 rfl ?_ ?_; (focus (repeat' (first | exact trivial | apply And.intro | omega)))) | (refine k_op rfl ?_; first | (refine v_op (g_pickT rfl rfl ?_) rfl rfl ?_; (focus (((rfl)); done))) | (refine v_op (g_pickF rfl rfl ?_) rfl rfl ?_; (focus (((rfl)); done))) | refine v_op (g_ld rfl rfl rfl) rfl rfl ?_ | (refine c_rt rfl rfl rfl cx_nm rfl ?_) | (refine c_fns rfl rfl rfl cx_cutS rfl ?_; rintro _ G hle hcut; skip)) | (refine k_gt rfl rfl ?_ ?_; (focus (((refine decide_eq_true ?_; (omega))); done))) | (refine k_gf rfl rfl ?_ ?_; (focus ((first | rfl | assumption | (refine decide_eq_false ?_; (omega))); done))) | (refine k_ff rfl ?_ ?_; (focus ((first | rfl | (refine decide_eq_false ?_; first | assumption | omega)); done))) | (refine k_any (s_any (id := 6) _ (fun _ h => h) mixed ?_); refine x_tks (t := tb) (fuel := 3) [0, 1, 2, 3, 4] (bts 8 31) (by kernel_rfl) (by kernel_rfl) rfl rfl (Gh.le.refl _) (by repeat ((exact List.Sublist.refl _))) ?_ ?_; (focus (repeat' (first | exact trivial | apply And.intro | omega))); ((refine (x_tkg (bts 8 63) 5 rfl (by kernel_rfl) rfl (Gh.le.refl _) (by repeat ((exact List.Sublist.refl _)))) (g_bld rfl rfl) rfl rfl ?_)); refine x_all [6] (by kernel_rfl) (by decide) ⟨?_, trivial⟩; refine x_opg rfl rfl ?_; ((refine c_al rfl rfl fun _ => ?_)); refine x_kk (by (exact Gh.le.refl _)) (by repeat (first | exact List.Sublist.refl _ | apply List.Sublist.cons)) (listed' := (bts 8 127)) (by kernel_rfl) ?_; refine x_all [7] (by kernel_rfl) (by decide) ⟨?_, trivial⟩; refine x_opg rfl rfl ?_; ((refine c_stA rfl rfl rfl rfl rfl rfl ?_)); refine x_kk (by (exact Gh.le.refl _)) (by repeat (first | exact List.Sublist.refl _ | apply List.Sublist.cons)) (listed' := (bts 8 255)) (by kernel_rfl) ?_; refine x_done (by kernel_rfl) (k_bk ?_)))
    all_goals rename_i y v
    all_goals refine Nx.addNil tFld 4 ?_
    all_goals refine k_loop (ι := Value × List Fld × Nat) (fun i => i.2.2 ≤ xs.length ∧ i.2.1.length ≤ i.2.2 ∧ fieldsOf c.toNat (xs.drop i.2.2) i.2.1 = fieldsOf c.toNat xs []) (fun i => [(2, Pt x 0), (5, Pt y 0), (6, v), (7, I i.2.2)]) (fun _ => G) (fun i => [.acc i.1 tFld 4 i.2.1.length (rows fldF i.2.1), .blk y (.cells [U8 (bt (c :: r) (Int.toNat 0) : Nat), S (r.take j), i.1].toArray tTy (0, 0)), .blk x (.cells [U8 0, S [], nilS].toArray tTy (0, 0))]) (fun i => xs.length - i.2.2) (nilS, [], 0) ?_ (by repeat (first | exact trivial | refine ⟨rfl, ?_⟩)) rfl (by repeat ((exact List.Sublist.refl _))) (fun i Hi => ?_)
    all_goals (first | exact ⟨Nat.zero_le _, Nat.le_refl _, rfl⟩ | skip)
    all_goals obtain ⟨u, fs, i⟩ := i
    all_goals dsimp only at Hi ⊢
    all_goals obtain ⟨hi1, hi2, hi3⟩ := Hi
    all_goals refine Nx.shp (v := u) (.head _) fun hsh => ?_
    all_goals (have hsh2 := hsh; obtain ⟨au, cu, rfl⟩ := hsh.sl)
    all_goals by_cases hix : i < xs.length
    all_goals try (rw [drop_nth hix, fieldsOf] at hi3; obtain ⟨bv, ov, cv, rfl, hsv⟩ := hcut.expl (by omega); have hx := hall _ (nth_mem hix))
    all_goals repeat' (first | (refine run (t := tb) 400 rfl ?_ ?_; (focus (repeat' ((exact trivial))))) | (refine k_op rfl ?_; first | refine c_stA rfl rfl rfl rfl rfl rfl ?_ | refine v_op (g_ldA rfl rfl rfl rfl) rfl rfl ?_ | refine v_op (g_lenL rfl) rfl rfl ?_ | refine v_op (g_lenV rfl (by assumption)) rfl rfl ?_) | (refine k_tt rfl ?_ ?_; (focus (((refine decide_eq_true ?_; (omega))); done))) | (refine k_ff rfl ?_ ?_; (focus (((refine decide_eq_false ?_; (omega))); done))) | refine k_cd rfl (fun _ => ?_) (fun _ => ?_) | (refine k_any (s_any (id := 15) _ (fun _ h => h) mixed ?_); refine x_tks (t := tb) (fuel := 10) [0, 1, 4] (bts 13 19) (by kernel_rfl) (by kernel_rfl) rfl rfl (Gh.le.refl _) (by repeat ((exact List.Sublist.refl _))) ?_ ?_; (focus (repeat' ((exact trivial)))); ((refine (x_tkg (bts 13 23) 2 rfl (by kernel_rfl) rfl (Gh.le.refl _) (by repeat ((exact List.Sublist.refl _)))) (g_iaddrN rfl rfl ?_) rfl rfl ?_; (focus ((omega); done)))); ((refine (x_tkg (bts 13 31) 3 rfl (by kernel_rfl) rfl (Gh.le.refl _) (by repeat ((exact List.Sublist.refl _)))) (g_ldRS rfl rfl (by assumption) ?_) rfl rfl ?_; (focus (((omega)); done)))); ((refine (x_tkg (bts 13 63) 5 rfl (by kernel_rfl) rfl (Gh.le.refl _) (by repeat ((exact List.Sublist.refl _)))) (g_ld rfl rfl rfl) rfl rfl ?_)); refine x_all [6, 10] (by kernel_rfl) (by decide) ⟨?_, ?_, trivial⟩; (focus (refine x_opg rfl rfl ?_; ((refine c_pu rfl rfl rfl (c_l3ReadField (by omega)) rfl ?_; rintro _ ⟨f, ok, rfl, hfld⟩)); refine x_kk (by (exact Gh.le.refl _)) (by repeat ((exact List.Sublist.refl _))) (listed' := (bts 13 127)) (by kernel_rfl) ?_; refine x_tks (t := tb) (fuel := 3) [7, 8, 9] (bts 13 1023) (by kernel_rfl) (by kernel_rfl) rfl rfl (Gh.le.refl _) (by repeat ((exact List.Sublist.refl _))) ?_ ?_; (focus (repeat' ((exact trivial)))); refine x_all [10] (by kernel_rfl) (by decide) ⟨?_, trivial⟩; refine x_opg rfl rfl ?_; ((refine c_al rfl rfl fun _ => ?_)); refine x_kk (by (exact Gh.le.refl _)) (by repeat (first | exact List.Sublist.refl _ | apply List.Sublist.cons)) (listed' := (bts 13 2047)) (by kernel_rfl) ?_; refine x_all [11] (by kernel_rfl) (by decide) ⟨?_, trivial⟩; refine x_opg rfl rfl ?_; ((refine c_stA rfl rfl rfl rfl rfl rfl ?_)); refine x_kk (by (exact Gh.le.refl _)) (by repeat (first | exact List.Sublist.refl _ | apply List.Sublist.cons)) (listed' := (bts 13 4095)) (by kernel_rfl) ?_; refine x_tks (t := tb) (fuel := 0) [12] (bts 13 8191) (by kernel_rfl) (by kernel_rfl) rfl rfl (Gh.le.refl _) (by repeat (first | exact List.Sublist.refl _ | apply List.Sublist.cons)) ?_ ?_; (focus (repeat' ((exact trivial)))); refine x_done (by kernel_rfl) (k_bk ?_))); rotate_left 1; (focus (refine x_opg rfl rfl ?_; ((refine c_al rfl rfl fun _ => ?_)); refine x_kk (by (exact Gh.le.refl _)) (by repeat (first | exact List.Sublist.refl _ | apply List.Sublist.cons)) (listed' := (bts 13 1087)) (by kernel_rfl) ?_; refine x_all [6] (by kernel_rfl) (by decide) ⟨?_, trivial⟩; refine x_opg rfl rfl ?_; ((refine c_pu rfl rfl rfl (c_l3ReadField (by omega)) rfl ?_; rintro _ ⟨f, ok, rfl, hfld⟩)); refine x_kk (by (exact Gh.le.refl _)) (by repeat (first | exact List.Sublist.refl _ | apply List.Sublist.cons)) (listed' := (bts 13 1151)) (by kernel_rfl) ?_; refine x_tks (t := tb) (fuel := 2) [7, 8, 9] (bts 13 2047) (by kernel_rfl) (by kernel_rfl) rfl rfl (Gh.le.refl _) (by repeat (first | exact List.Sublist.refl _ | apply List.Sublist.cons)) ?_ ?_; (focus (repeat' ((exact trivial)))); refine x_all [11] (by kernel_rfl) (by decide) ⟨?_, trivial⟩; refine x_opg rfl rfl ?_; ((refine c_stA rfl rfl rfl rfl rfl rfl ?_)); refine x_kk (by (exact Gh.le.refl _)) (by repeat (first | exact List.Sublist.refl _ | apply List.Sublist.cons)) (listed' := (bts 13 4095)) (by kernel_rfl) ?_; refine x_tks (t := tb) (fuel := 0) [12] (bts 13 8191) (by kernel_rfl) (by kernel_rfl) rfl rfl (Gh.le.refl _) (by repeat (first | exact List.Sublist.refl _ | apply List.Sublist.cons)) ?_ ?_; (focus (repeat' ((exact trivial)))); refine x_done (by kernel_rfl) (k_bk ?_))); rotate_left 1) | (refine k_any (s_anyD (id := 24) (tt := 2) rfl mixed ?_); refine x_tks (t := tb) (fuel := 6) [1] (bts 7 2) (by kernel_rfl) (by kernel_rfl) rfl rfl (Gh.le.refl _) (by repeat (first | exact List.nil_sublist _ | apply List.Sublist.cons_cons)) ?_ ?_; (focus (repeat' ((exact trivial)))); ((refine (x_tkg (bts 7 3) 0 rfl (by kernel_rfl) rfl (Gh.le.refl _) (by repeat (first | exact List.nil_sublist _ | apply List.Sublist.cons_cons))) (g_ldA rfl rfl rfl rfl) rfl rfl ?_)); ((refine (x_tkg (bts 7 7) 2 rfl (by kernel_rfl) rfl (Gh.le.refl _) (by repeat (first | exact List.nil_sublist _ | apply List.Sublist.cons_cons))) (g_ld rfl rfl rfl) rfl rfl ?_)); ((refine (x_tkg (bts 7 15) 3 rfl (by kernel_rfl) rfl (Gh.le.refl _) (by repeat (first | exact List.nil_sublist _ | apply List.Sublist.cons_cons))) (g_lenL rfl) rfl rfl ?_)); refine x_tks (t := tb) (fuel := 2) [4] (bts 7 31) (by kernel_rfl) (by kernel_rfl) rfl rfl (Gh.le.refl _) (by repeat (first | exact List.nil_sublist _ | apply List.Sublist.cons_cons)) ?_ ?_; (focus (repeat' ((exact trivial)))); refine x_all [5] (by kernel_rfl) (by decide) ⟨?_, trivial⟩; refine x_opg rfl rfl ?_; ((refine c_stA rfl rfl rfl rfl rfl rfl ?_)); refine x_kk (by (exact Gh.le.refl _)) (by repeat (first | exact List.nil_sublist _ | apply List.Sublist.cons_cons)) (listed' := (bts 7 63)) (by kernel_rfl) ?_; refine x_tks (t := tb) (fuel := 0) [6] (bts 7 127) (by kernel_rfl) (by kernel_rfl) rfl rfl (Gh.le.refl _) (by repeat (first | exact List.nil_sublist _ | apply List.Sublist.cons_cons)) ?_ ?_; (focus (repeat' ((exact trivial)))); refine x_done (by kernel_rfl) (k_bk ?_)))
    all_goals first
      | (rename_i z hq
         have hq2 : ok = false := by simpa using hq
         subst hq2
         have hf0 : fldOf (nth xs i) c.toNat = none := hfld
         have hno : tyOf (c :: r) = none := by rw [hf0] at hi3; rw [hty, ← hi3]
         refine Nx.sealS (v := .slice au fs.length cu) fun G' hle2 hsl => ?_
         refine k_rr (vs := [_, _]) rfl ⟨rc_A rfl rfl rfl rfl, rfl, trivial⟩ rfl (List.nil_sublist _) ⟨hle.trans hle2, rfl, ?_⟩
         exact ⟨.slice au fs.length cu, ⟨bt (c :: r) (Int.toNat 0), r.take j, fs⟩, false, rfl, by rw [hno]; rfl, hsl⟩)
      | (have ei : i = xs.length := by omega
         have hyes : tyOf (c :: r) = if fs.length ≤ 8 then some ⟨c.toNat, r.take j, fs⟩ else none := by
           rw [ei, List.drop_length, fieldsOf] at hi3
           rw [hty, ← hi3]
         refine Nx.sealS (v := .slice au fs.length cu) fun G' hle2 hsl => ?_
         refine k_rr (vs := [_, _]) rfl ⟨rc_A rfl rfl rfl rfl, rfl, trivial⟩ rfl (List.nil_sublist _) ⟨hle.trans hle2, rfl, ?_⟩
         refine ⟨.slice au fs.length cu, ⟨c.toNat, r.take j, fs⟩, decide (fs.length ≤ 8), ?_, by rw [hyes]; simp, hsl⟩
         rw [oneOf_two, e0]
         refine congrArg (fun x => Tu [_, Bo x]) (decide_eq_decide.2 ?_)
         omega)
      | (rename_i z hq
         have hq2 : ok = true := by simpa using hq
         subst hq2
         have hf1 : fldOf (nth xs i) c.toNat = some f := hfld
         rw [hf1] at hi3
         dsimp only at hi3
         refine k_loop (ι := Nat) (fun k => k ≤ fs.length ∧ ∀ m, m < k → (nth fs m).tag < f.tag ∧ (nth fs m).name ≠ f.name) (fun k => [(2, Pt x 0), (5, Pt y 0), (6, .slice (some ⟨bv, ov, none⟩) xs.length cv), (7, I i), (8, Pt z 0), (10, I k)]) (fun _ => G) (fun k => [.blk z (.cells (fldF f).toArray tFld (0, 0)), .acc (.slice au fs.length cu) tFld 4 fs.length (rows fldF fs), .blk y (.cells [U8 (bt (c :: r) (Int.toNat 0) : Nat), S (r.take j), .slice au fs.length cu].toArray tTy (0, 0)), .blk x (.cells [U8 0, S [], nilS].toArray tTy (0, 0))]) (fun k => fs.length - k) 0 ?_ (by repeat (first | exact trivial | refine ⟨rfl, ?_⟩)) rfl (by repeat ((exact List.Sublist.refl _))) (fun k Hk => ?_)
         · exact ⟨Nat.zero_le _, fun m hm => absurd hm (by omega)⟩
         by_cases hk : k < fs.length
         · obtain ⟨bu, cu2, eu⟩ := hsh2.pos (by omega)
           simp only [Value.slice.injEq] at eu
           obtain ⟨rfl, -, rfl⟩ := eu
           by_cases hbad : (nth fs k).tag < f.tag ∧ (nth fs k).name ≠ f.name
           · obtain ⟨hb1, hb2⟩ := hbad
             repeat' (first | (refine run (t := tb) 400 rfl ?_ ?_; (focus (repeat' (first | exact trivial | apply And.intro | omega)))) | (refine k_op rfl ?_; first | refine v_op (g_ld rfl rfl rfl) rfl rfl ?_ | refine v_op (g_lenL rfl) rfl rfl ?_) | (refine k_tt rfl ?_ ?_; (focus (((refine decide_eq_true ?_; (omega))); done))) | (refine k_ff rfl ?_ ?_; (focus (((refine decide_eq_false ?_; (assumption))); done))) | (refine k_any (s_any (id := 21) _ (fun _ h => h) mixed ?_); refine x_tks (t := tb) (fuel := 17) [0, 2, 6] (bts 20 69) (by kernel_rfl) (by kernel_rfl) rfl rfl (Gh.le.refl _) (by repeat ((exact List.Sublist.refl _))) ?_ ?_; (focus (repeat' ((exact trivial)))); ((refine (x_tkg (bts 20 71) 1 rfl (by kernel_rfl) rfl (Gh.le.refl _) (by repeat ((exact List.Sublist.refl _)))) (g_ld rfl rfl rfl) rfl rfl ?_)); ((refine (x_tkg (bts 20 79) 3 rfl (by kernel_rfl) rfl (Gh.le.refl _) (by repeat ((exact List.Sublist.refl _)))) (g_iaddrN rfl rfl ?_) rfl rfl ?_; (focus ((omega); done)))); refine x_tks (t := tb) (fuel := 14) [4] (bts 20 95) (by kernel_rfl) (by kernel_rfl) rfl rfl (Gh.le.refl _) (by repeat ((exact List.Sublist.refl _))) ?_ ?_; (focus (repeat' ((exact trivial)))); ((refine (x_tkg (bts 20 127) 5 rfl (by kernel_rfl) rfl (Gh.le.refl _) (by repeat ((exact List.Sublist.refl _)))) (g_ldBRF rfl rfl rfl ?_ rfl rfl) rfl rfl ?_; (focus (((omega)); done)))); ((refine (x_tkg (bts 20 255) 7 rfl (by kernel_rfl) rfl (Gh.le.refl _) (by repeat ((exact List.Sublist.refl _)))) (g_ld rfl rfl rfl) rfl rfl ?_)); refine x_tks (t := tb) (fuel := 10) [8, 9] (bts 20 1023) (by kernel_rfl) (by kernel_rfl) rfl rfl (Gh.le.refl _) (by repeat ((exact List.Sublist.refl _))) ?_ ?_; (focus (repeat' ((exact trivial)))); (try ((refine Nx.re (d := 107) (v' := Bo false) rfl (congrArg Value.bool ?_) ?_; (focus (((refine decide_eq_false ?_; (omega))); done))))); refine x_tks (t := tb) (fuel := 7) [10, 12, 16] (bts 20 71679) (by kernel_rfl) (by kernel_rfl) rfl rfl (Gh.le.refl _) (by repeat ((exact List.Sublist.refl _))) ?_ ?_; (focus (repeat' ((exact trivial)))); ((refine (x_tkg (bts 20 73727) 11 rfl (by kernel_rfl) rfl (Gh.le.refl _) (by repeat ((exact List.Sublist.refl _)))) (g_ld rfl rfl rfl) rfl rfl ?_)); ((refine (x_tkg (bts 20 81919) 13 rfl (by kernel_rfl) rfl (Gh.le.refl _) (by repeat ((exact List.Sublist.refl _)))) (g_iaddrN rfl rfl ?_) rfl rfl ?_; (focus ((omega); done)))); refine x_tks (t := tb) (fuel := 4) [14] (bts 20 98303) (by kernel_rfl) (by kernel_rfl) rfl rfl (Gh.le.refl _) (by repeat ((exact List.Sublist.refl _))) ?_ ?_; (focus (repeat' ((exact trivial)))); ((refine (x_tkg (bts 20 131071) 15 rfl (by kernel_rfl) rfl (Gh.le.refl _) (by repeat ((exact List.Sublist.refl _)))) (g_ldBRF rfl rfl rfl ?_ rfl rfl) rfl rfl ?_; (focus (((omega)); done)))); ((refine (x_tkg (bts 20 262143) 17 rfl (by kernel_rfl) rfl (Gh.le.refl _) (by repeat ((exact List.Sublist.refl _)))) (g_ld rfl rfl rfl) rfl rfl ?_)); refine x_tks (t := tb) (fuel := 1) [18] (bts 20 524287) (by kernel_rfl) (by kernel_rfl) rfl rfl (Gh.le.refl _) (by repeat ((exact List.Sublist.refl _))) ?_ ?_; (focus (repeat' ((exact trivial)))); ((refine (x_tkg (bts 20 1048575) 19 rfl (by kernel_rfl) rfl (Gh.le.refl _) (by repeat ((exact List.Sublist.refl _)))) (g_pickF rfl rfl ?_) rfl rfl ?_; (focus (((rfl)); done)))); refine x_done (by kernel_rfl) (k_bk ?_)))
             refine k_rd (k + 1) ⟨by omega, fun m hm => ?_⟩ (by omega) (by repeat (first | exact trivial | refine ⟨rfl, ?_⟩)) rfl (by repeat ((exact List.Sublist.refl _)))
             rcases Nat.lt_or_ge m k with h3 | h3
             · exact Hk.2 m h3
             · have : m = k := by omega
               subst this; exact ⟨hb1, hb2⟩
           · have hfr : fresh f fs = false := by
               unfold fresh
               rw [List.all_eq_false]
               exact ⟨nth fs k, nth_mem hk, by simpa using hbad⟩
             have hno : tyOf (c :: r) = none := by
               rw [hfr, if_neg (by simp)] at hi3
               rw [hty, ← hi3]
             by_cases htag : f.tag ≤ (nth fs k).tag
             case' neg => have hnm : (nth fs k).name = f.name := by
                           by_cases h6 : (nth fs k).name = f.name
                           · exact h6
                           · exact absurd ⟨by omega, h6⟩ hbad
             all_goals repeat' (first | (refine run (t := tb) 400 rfl ?_ ?_; (focus (repeat' ((exact trivial))))) | (refine k_op rfl ?_; first | refine c_stA rfl rfl rfl rfl rfl rfl ?_ | refine v_op (g_ld rfl rfl rfl) rfl rfl ?_ | refine v_op (g_ldA rfl rfl rfl rfl) rfl rfl ?_ | refine v_op (g_lenL rfl) rfl rfl ?_) | (refine k_tt rfl ?_ ?_; (focus ((first | rfl | (refine decide_eq_true ?_; first | assumption | omega)); done))) | (refine k_any (s_any (id := 21) _ (fun _ h => h) mixed ?_); refine x_tks (t := tb) (fuel := 17) [0, 2, 6] (bts 20 69) (by kernel_rfl) (by kernel_rfl) rfl rfl (Gh.le.refl _) (by repeat ((exact List.Sublist.refl _))) ?_ ?_; (focus (repeat' ((exact trivial)))); ((refine (x_tkg (bts 20 71) 1 rfl (by kernel_rfl) rfl (Gh.le.refl _) (by repeat ((exact List.Sublist.refl _)))) (g_ld rfl rfl rfl) rfl rfl ?_)); ((refine (x_tkg (bts 20 79) 3 rfl (by kernel_rfl) rfl (Gh.le.refl _) (by repeat ((exact List.Sublist.refl _)))) (g_iaddrN rfl rfl ?_) rfl rfl ?_; (focus ((omega); done)))); refine x_tks (t := tb) (fuel := 14) [4] (bts 20 95) (by kernel_rfl) (by kernel_rfl) rfl rfl (Gh.le.refl _) (by repeat ((exact List.Sublist.refl _))) ?_ ?_; (focus (repeat' ((exact trivial)))); ((refine (x_tkg (bts 20 127) 5 rfl (by kernel_rfl) rfl (Gh.le.refl _) (by repeat ((exact List.Sublist.refl _)))) (g_ldBRF rfl rfl rfl ?_ rfl rfl) rfl rfl ?_; (focus (((omega)); done)))); ((refine (x_tkg (bts 20 255) 7 rfl (by kernel_rfl) rfl (Gh.le.refl _) (by repeat ((exact List.Sublist.refl _)))) (g_ld rfl rfl rfl) rfl rfl ?_)); refine x_tks (t := tb) (fuel := 10) [8, 9] (bts 20 1023) (by kernel_rfl) (by kernel_rfl) rfl rfl (Gh.le.refl _) (by repeat ((exact List.Sublist.refl _))) ?_ ?_; (focus (repeat' ((exact trivial)))); (try (first | (refine Nx.re (d := 107) (v' := Bo true) rfl (congrArg Value.bool ?_) ?_; (focus (((refine decide_eq_true ?_; (assumption))); done))) | (refine Nx.re (d := 107) (v' := Bo false) rfl (congrArg Value.bool ?_) ?_; (focus (((refine decide_eq_false ?_; (assumption))); done))))); refine x_tks (t := tb) (fuel := 7) [10, 12, 16] (bts 20 71679) (by kernel_rfl) (by kernel_rfl) rfl rfl (Gh.le.refl _) (by repeat ((exact List.Sublist.refl _))) ?_ ?_; (focus (repeat' ((exact trivial)))); (first | refine (x_tkg (bts 20 73727) 11 rfl (by kernel_rfl) rfl (Gh.le.refl _) (by repeat ((exact List.Sublist.refl _)))) (g_ld rfl rfl rfl) rfl rfl ?_ | refine x_tkn (bts 20 73727) 11 rfl (by kernel_rfl) rfl (Gh.le.refl _) (by repeat ((exact List.Sublist.refl _))) rfl rfl ?_); (first | (refine (x_tkg (bts 20 81919) 13 rfl (by kernel_rfl) rfl (Gh.le.refl _) (by repeat ((exact List.Sublist.refl _)))) (g_iaddrN rfl rfl ?_) rfl rfl ?_; (focus ((omega); done))) | refine x_tkn (bts 20 81919) 13 rfl (by kernel_rfl) rfl (Gh.le.refl _) (by repeat ((exact List.Sublist.refl _))) rfl rfl ?_); refine x_tks (t := tb) (fuel := 4) [14] (bts 20 98303) (by kernel_rfl) (by kernel_rfl) rfl rfl (Gh.le.refl _) (by repeat ((exact List.Sublist.refl _))) ?_ ?_; (focus (repeat' ((exact trivial)))); (first | (refine (x_tkg (bts 20 131071) 15 rfl (by kernel_rfl) rfl (Gh.le.refl _) (by repeat ((exact List.Sublist.refl _)))) (g_ldBRF rfl rfl rfl ?_ rfl rfl) rfl rfl ?_; (focus (((omega)); done))) | refine x_tkn (bts 20 131071) 15 rfl (by kernel_rfl) rfl (Gh.le.refl _) (by repeat ((exact List.Sublist.refl _))) rfl rfl ?_); (first | refine (x_tkg (bts 20 262143) 17 rfl (by kernel_rfl) rfl (Gh.le.refl _) (by repeat ((exact List.Sublist.refl _)))) (g_ld rfl rfl rfl) rfl rfl ?_ | refine x_tkn (bts 20 262143) 17 rfl (by kernel_rfl) rfl (Gh.le.refl _) (by repeat ((exact List.Sublist.refl _))) rfl rfl ?_); refine x_tks (t := tb) (fuel := 1) [18] (bts 20 524287) (by kernel_rfl) (by kernel_rfl) rfl rfl (Gh.le.refl _) (by repeat ((exact List.Sublist.refl _))) ?_ ?_; (focus (repeat' ((exact trivial)))); (first | (refine (x_tkg (bts 20 1048575) 19 rfl (by kernel_rfl) rfl (Gh.le.refl _) (by repeat ((exact List.Sublist.refl _)))) (g_pickT rfl rfl ?_) rfl rfl ?_; (focus (((rfl)); done))) | (refine (x_tkg (bts 20 1048575) 19 rfl (by kernel_rfl) rfl (Gh.le.refl _) (by repeat ((exact List.Sublist.refl _)))) (g_pickF rfl rfl ?_) rfl rfl ?_; (focus (((rfl)); done)))); refine x_done (by kernel_rfl) (k_bk ?_)))
             all_goals refine Nx.sealS (v := .slice (some ⟨bu, 0, none⟩) fs.length cu) fun G' hle2 hsl => ?_
             all_goals refine k_rr (vs := [_, _]) rfl ⟨rc_A rfl rfl rfl rfl, rfl, trivial⟩ rfl (List.nil_sublist _) ⟨hle.trans hle2, rfl, ?_⟩
             all_goals exact ⟨.slice (some ⟨bu, 0, none⟩) fs.length cu, ⟨bt (c :: r) (Int.toNat 0), r.take j, fs⟩, false, rfl, by rw [hno]; rfl, hsl⟩
         · have hfr : fresh f fs = true := by
             unfold fresh
             rw [List.all_eq_true]
             intro g hg
             obtain ⟨m, hm, rfl⟩ := mem_nth hg
             simpa using Hk.2 m (by omega)
           rw [hfr, if_pos rfl] at hi3
           have hxl : xs.length ≤ 1001 := by omega
           repeat' (first | (refine run (t := tb) 400 rfl ?_ ?_; (focus (repeat' ((exact trivial))))) | (refine k_op rfl ?_; first | refine v_op (g_ld rfl rfl rfl) rfl rfl ?_ | refine v_op (g_ldA rfl rfl rfl rfl) rfl rfl ?_ | refine v_op (g_lenL rfl) rfl rfl ?_ | refine c_bsl rfl rfl rfl rfl rfl rfl fun _ => ?_ | (refine c_apB rfl rfl rfl rfl rfl rfl rfl rfl ?_ fun _ => ?_; (focus ((omega); done)))) | (refine k_ff rfl ?_ ?_; (focus (((refine decide_eq_false ?_; (omega))); done))))
           rename_i u2
           refine Nx.shp (v := u2) (.head _) fun hs4 => ?_
           obtain ⟨a4, c4, rfl⟩ := hs4.sl
           repeat' (first | (refine run (t := tb) 400 rfl ?_ ?_; (focus (repeat' (first | exact trivial | apply And.intro | omega)))) | (refine k_op rfl ?_; (refine c_st1 rfl rfl rfl rfl ?_)))
           refine k_rd (.slice a4 (fs.length + 1) c4, fs ++ [f], i + 1) ⟨by dsimp only; omega, by simp; omega, hi3⟩ (by dsimp only; omega) (by repeat (first | exact trivial | refine ⟨rfl, ?_⟩)) rfl (by dsimp only; simp only [rows_snoc, List.length_append, List.length_cons, List.length_nil, Nat.zero_add]; repeat (first | exact List.Sublist.refl _ | apply List.Sublist.cons_cons | apply List.Sublist.cons)))
end Go.E
/-! Mj -/
namespace Go.E
set_option maxRecDepth 20000
set_option maxHeartbeats 2000000
open Go.Proofs
variable {G : Gh}
/-- The program's type, laid down. -/
def TyI (G : Gh) (b : Nat) (t : Ty) : Prop := ∃ fv ln, Seg G b 0 [U8 t.sort, S t.name, fv, S ln] ∧ SlV G fv 6 t.fields.length (rows fiF t.fields)
theorem TyI.mono {G G' : Gh} {b : Nat} {t : Ty} (h : TyI G b t) (hl : Gh.le G G') : TyI G' b t := by
  obtain ⟨fv, ln, h1, h2⟩ := h
  exact ⟨fv, ln, h1.mono hl, h2.mono hl⟩
def TiPost (s : List UInt8) (v : Value) (G : Gh) : Prop := (tyOf s = none ∧ ∃ p, v = Tu [p, Bo false]) ∨ ∃ b t, v = Tu [Pt b 0, Bo true] ∧ tyOf s = some t ∧ TyI G b t
abbrev tFi : TypeId := 96
abbrev tTi : TypeId := 94
theorem fieldsOf_len {k : Nat} : ∀ {xs : List (List UInt8)} {fs gs : List Fld}, fieldsOf k xs fs = some gs → gs.length = fs.length + xs.length
  | [], fs, gs, h => by simp only [fieldsOf, Option.some.injEq] at h; subst h; simp
  | x :: xs, fs, gs, h => by
    unfold fieldsOf at h
    split at h
    · cases h
    · split at h
      · have := fieldsOf_len h; simp at this ⊢; omega
      · cases h
theorem rue (c : UInt8) : decide (0 ≤ idx1 c.toNat [82, 85, 69]) = decide (sortOk c.toNat) := by
  have h : ∀ n : Nat, n < 256 → decide (0 ≤ idx1 n [82, 85, 69]) = decide (sortOk n) := by decide +kernel
  exact h _ c.toNat_lt
theorem c_readType {s : List UInt8} (h : s.length ≤ 1000) : FnS Tryz.prog 38 [S s] G (TiPost s) := by
  match s, h with
  | [], h =>
    refine b_enter [(0, _)] Tryz.func38 (by kernel_rfl) Tryz.ntmps38 rfl rfl (by repeat (first | exact trivial | refine ⟨rfl, ?_⟩)) fun B hok hB hW => ?_
    repeat' (first | (refine run (t := tb) 400 rfl ?_ ?_; (focus (repeat' ((exact trivial))))) | (refine k_op rfl ?_; (refine v_op (g_pickT rfl rfl ?_) rfl rfl ?_; (focus (((rfl)); done)))) | (refine k_gt rfl rfl ?_ ?_; (focus (((rfl)); done))) | (refine k_tt rfl ?_ ?_; (focus (((rfl)); done))))
    all_goals refine k_rr (vs := [_, _]) rfl ⟨rfl, rfl, trivial⟩ rfl (List.nil_sublist _) ⟨Gh.le.refl _, rfl, ?_⟩
    all_goals exact .inl ⟨rfl, _, rfl⟩
  | c :: r, h =>
    have cx_cont : PuG Tryz.prog 61 [S [82, 85, 69], S [c]] G (· = Bo (decide (sortOk c.toNat))) := by rw [← rue]; exact c_Contains
    by_cases hs : sortOk c.toNat
    case neg =>
      have hno : tyOf (c :: r) = none := by
        cases ht : (cut1 61 r).2.2 with
        | false => exact tyOf_bad ht
        | true => rw [tyOf_at (c := c) (r := r) (name := (cut1 61 r).1) (rest := (cut1 61 r).2.1) (by rw [← ht]), if_neg fun h => hs h.2]
      have hs2 : (!decide (sortOk c.toNat)) = true := by simpa using hs
      refine b_enter [(0, _)] Tryz.func38 (by kernel_rfl) Tryz.ntmps38 rfl rfl (by repeat (first | exact trivial | refine ⟨rfl, ?_⟩)) fun B hok hB hW => ?_
      repeat' (first | (refine run (t := tb) 400 rfl ?_ ?_; (focus (repeat' (first | exact trivial | apply And.intro | omega | (simp only [List.length_append, List.length_cons, List.length_nil, Int.toNat_natCast]; omega))))) | (refine k_op rfl ?_; first | (refine v_op (g_pickF rfl rfl ?_) rfl rfl ?_; (focus (((rfl)); done))) | (refine c_rt rfl rfl rfl cx_cont rfl ?_)) | (refine k_gf rfl rfl ?_ ?_; (focus (((rfl)); done))) | (refine k_tt rfl ?_ ?_; (focus (((assumption)); done))))
      all_goals refine k_rr (vs := [_, _]) rfl ⟨rfl, rfl, trivial⟩ rfl (List.nil_sublist _) ⟨Gh.le.refl _, rfl, ?_⟩
      all_goals exact .inl ⟨hno, _, rfl⟩
    have hs2 : (!decide (sortOk c.toNat)) = false := by simpa using hs
    have hcl := cut1_len (k := 61) (s := r)
    have hrl : r.length ≤ 1000 := by simp at h; omega
    have cx_cut : PuG Tryz.prog 37 [S r, S [61]] G (· = Tu [S (cut1 61 r).1, S (cut1 61 r).2.1, Bo (cut1 61 r).2.2]) := c_Cut (c := 61) (by omega)
    cases ht : (cut1 61 r).2.2 with
    | false =>
      rw [ht] at cx_cut
      refine b_enter [(0, _)] Tryz.func38 (by kernel_rfl) Tryz.ntmps38 rfl rfl (by repeat (first | exact trivial | refine ⟨rfl, ?_⟩)) fun B hok hB hW => ?_
      repeat' (first | (refine run (t := tb) 400 rfl ?_ ?_; (focus (repeat' (first | exact trivial | apply And.intro | omega | (simp only [List.length_append, List.length_cons, List.length_nil, Int.toNat_natCast]; omega))))) | (refine k_op rfl ?_; first | (refine v_op (g_pickT rfl rfl ?_) rfl rfl ?_; (focus (((rfl)); done))) | (refine v_op (g_pickF rfl rfl ?_) rfl rfl ?_; (focus (((rfl)); done))) | (refine c_rt rfl rfl rfl cx_cont rfl ?_) | (refine c_rt rfl rfl rfl cx_cut rfl ?_)) | (refine k_gt rfl rfl ?_ ?_; (focus (((rfl)); done))) | (refine k_gf rfl rfl ?_ ?_; (focus (((rfl)); done))) | (refine k_tt rfl ?_ ?_; (focus (((rfl)); done))) | (refine k_ff rfl ?_ ?_; (focus (((assumption)); done))))
      all_goals refine k_rr (vs := [_, _]) rfl ⟨rfl, rfl, trivial⟩ rfl (List.nil_sublist _) ⟨Gh.le.refl _, rfl, ?_⟩
      all_goals exact .inl ⟨tyOf_bad ht, _, rfl⟩
    | true =>
      have hty := tyOf_at (c := c) (r := r) (name := (cut1 61 r).1) (rest := (cut1 61 r).2.1) (by rw [← ht])
      rw [ht] at cx_cut
      generalize (cut1 61 r).1 = name at *
      generalize (cut1 61 r).2.1 = rest at *
      have e0 : bt (c :: r) (Int.toNat 0) = c.toNat := bt_zero c r
      by_cases hn : isNm name = true
      case neg =>
        have hn2 : (!isNm name) = true := by simpa using hn
        have hno : tyOf (c :: r) = none := by rw [hty, if_neg fun h => hn h.1]
        refine b_enter [(0, _)] Tryz.func38 (by kernel_rfl) Tryz.ntmps38 rfl rfl (by repeat (first | exact trivial | refine ⟨rfl, ?_⟩)) fun B hok hB hW => ?_
        repeat' (first | (refine run (t := tb) 400 rfl ?_ ?_; (focus (repeat' (first | exact trivial | apply And.intro | omega | (simp only [List.length_append, List.length_cons, List.length_nil, Int.toNat_natCast]; omega))))) | (refine k_op rfl ?_; first | (refine v_op (g_pickF rfl rfl ?_) rfl rfl ?_; (focus (((rfl)); done))) | (refine c_rt rfl rfl rfl cx_cont rfl ?_) | (refine c_rt rfl rfl rfl cx_cut rfl ?_) | (refine c_rt rfl rfl rfl (c_isName ?_) rfl ?_; (focus (((omega)); done)))) | (refine k_gf rfl rfl ?_ ?_; (focus (((rfl)); done))) | (refine k_tt rfl ?_ ?_; (focus (((assumption)); done))) | (refine k_ff rfl ?_ ?_; (focus (((assumption)); done))))
        all_goals refine k_rr (vs := [_, _]) rfl ⟨rfl, rfl, trivial⟩ rfl (List.nil_sublist _) ⟨Gh.le.refl _, rfl, ?_⟩
        all_goals exact .inl ⟨hno, _, rfl⟩
      have hn2 : (!isNm name) = false := by rw [hn]; rfl
      rw [if_pos ⟨hn, hs⟩] at hty
      by_cases hr : rest = []
      · rw [if_pos hr] at hty
        by_cases h82 : c.toNat = 82
        · rw [if_pos h82] at hty
          have e82 : bt (c :: r) (Int.toNat 0) = 82 := by omega
          refine b_enter [(0, _)] Tryz.func38 (by kernel_rfl) Tryz.ntmps38 rfl rfl (by repeat (first | exact trivial | refine ⟨rfl, ?_⟩)) fun B hok hB hW => ?_
          repeat' (first | (refine run (t := tb) 400 rfl ?_ ?_; (focus (repeat' (first | exact trivial | apply And.intro | omega | (simp only [List.length_append, List.length_cons, List.length_nil, Int.toNat_natCast]; omega))))) | (refine k_op rfl ?_; first | (refine v_op (g_pickF rfl rfl ?_) rfl rfl ?_; (focus (((rfl)); done))) | refine v_op (g_bld rfl rfl) rfl rfl ?_ | refine c_bx rfl rfl rfl fun _ => ?_ | (refine c_rt rfl rfl rfl cx_cont rfl ?_) | (refine c_rt rfl rfl rfl cx_cut rfl ?_) | (refine c_rt rfl rfl rfl (c_isName ?_) rfl ?_; (focus (((omega)); done)))) | (refine k_gf rfl rfl ?_ ?_; (focus (((rfl)); done))) | (refine k_tt rfl ?_ ?_; (focus (((refine decide_eq_true ?_; (assumption))); done))) | (refine k_ff rfl ?_ ?_; (focus (((assumption)); done))) | (refine k_any (s_any (id := 8) _ (fun _ h => h) mixed ?_); refine x_tks (t := tb) (fuel := 3) [0, 1, 2, 3, 6] (bts 8 79) (by kernel_rfl) (by kernel_rfl) rfl rfl (Gh.le.refl _) (by repeat ((exact List.Sublist.refl _))) ?_ ?_; (focus (repeat' ((exact trivial)))); ((refine (x_tkg (bts 8 95) 4 rfl (by kernel_rfl) rfl (Gh.le.refl _) (by repeat ((exact List.Sublist.refl _)))) (g_ld rfl rfl rfl) rfl rfl ?_)); refine x_tks (t := tb) (fuel := 0) [5, 7] (bts 8 255) (by kernel_rfl) (by kernel_rfl) rfl rfl (Gh.le.refl _) (by repeat ((exact List.Sublist.refl _))) ?_ ?_; (focus (repeat' ((exact trivial)))); refine x_done (by kernel_rfl) (k_bk ?_)))
          rename_i x
          refine Nx.sealC (b := x) fun G' hle hseg => ?_
          refine k_rr (vs := [_, _]) rfl ⟨rfl, rfl, trivial⟩ rfl (List.nil_sublist _) ⟨hle, rfl, ?_⟩
          rw [e82] at hseg
          refine .inr ⟨x, ⟨82, name, []⟩, ?_, hty, _, _, hseg, SlV.nil0⟩
          show Tu [Pt x 0, Bo (decide (((bt (c :: r) (Int.toNat 0) : Nat) : Int) = 82))] = _
          rw [e82]; rfl
        · rw [if_neg h82] at hty
          have e82 : ¬ bt (c :: r) (Int.toNat 0) = 82 := by omega
          refine b_enter [(0, _)] Tryz.func38 (by kernel_rfl) Tryz.ntmps38 rfl rfl (by repeat (first | exact trivial | refine ⟨rfl, ?_⟩)) fun B hok hB hW => ?_
          repeat' (first | (refine run (t := tb) 400 rfl ?_ ?_; (focus (repeat' (first | exact trivial | apply And.intro | omega | (simp only [List.length_append, List.length_cons, List.length_nil, Int.toNat_natCast]; omega))))) | (refine k_op rfl ?_; first | (refine v_op (g_pickF rfl rfl ?_) rfl rfl ?_; (focus (((rfl)); done))) | refine v_op (g_bld rfl rfl) rfl rfl ?_ | refine c_bx rfl rfl rfl fun _ => ?_ | (refine c_rt rfl rfl rfl cx_cont rfl ?_) | (refine c_rt rfl rfl rfl cx_cut rfl ?_) | (refine c_rt rfl rfl rfl (c_isName ?_) rfl ?_; (focus (((omega)); done)))) | (refine k_gf rfl rfl ?_ ?_; (focus (((rfl)); done))) | (refine k_tt rfl ?_ ?_; (focus (((refine decide_eq_true ?_; (assumption))); done))) | (refine k_ff rfl ?_ ?_; (focus (((assumption)); done))) | (refine k_any (s_any (id := 8) _ (fun _ h => h) mixed ?_); refine x_tks (t := tb) (fuel := 3) [0, 1, 2, 3, 6] (bts 8 79) (by kernel_rfl) (by kernel_rfl) rfl rfl (Gh.le.refl _) (by repeat ((exact List.Sublist.refl _))) ?_ ?_; (focus (repeat' ((exact trivial)))); ((refine (x_tkg (bts 8 95) 4 rfl (by kernel_rfl) rfl (Gh.le.refl _) (by repeat ((exact List.Sublist.refl _)))) (g_ld rfl rfl rfl) rfl rfl ?_)); refine x_tks (t := tb) (fuel := 0) [5, 7] (bts 8 255) (by kernel_rfl) (by kernel_rfl) rfl rfl (Gh.le.refl _) (by repeat ((exact List.Sublist.refl _))) ?_ ?_; (focus (repeat' ((exact trivial)))); refine x_done (by kernel_rfl) (k_bk ?_)))
          all_goals refine k_rr (vs := [_, _]) rfl ⟨rfl, rfl, trivial⟩ rfl (List.nil_sublist _) ⟨Gh.le.refl _, rfl, ?_⟩
          all_goals exact .inl ⟨hty, _, by rw [oneOf_two, decide_eq_false (show ¬ ((bt (c :: r) (Int.toNat 0) : Nat) : Int) = 82 by omega)]⟩
      · rw [if_neg hr] at hty
        have hall : ∀ y ∈ cut 44 rest, y.length ≤ 1000 := fun y hy => Nat.le_trans (cut_len hy) (by omega)
        have hcnt := cut_count (k := 44) (s := rest)
        have cx_split : FnS Tryz.prog 62 [S rest, S [44]] G (fun v G' => ∃ b o cap, v = .slice (some ⟨b, o, none⟩) (cut 44 rest).length cap ∧ Seg G' b o (rows strF (cut 44 rest))) := c_splitX (c := 44) _ (by omega) rfl rfl rfl cut_pos
        generalize cut 44 rest = xs at *
        refine b_enter [(0, _)] Tryz.func38 (by kernel_rfl) Tryz.ntmps38 rfl rfl (by repeat (first | exact trivial | refine ⟨rfl, ?_⟩)) fun B hok hB hW => ?_
        repeat' (first | (refine run (t := tb) 400 rfl ?_ ?_; (focus (repeat' (first | exact trivial | apply And.intro | omega | (simp only [List.length_append, List.length_cons, List.length_nil, Int.toNat_natCast]; omega))))) | (refine k_op rfl ?_; first | (refine v_op (g_pickF rfl rfl ?_) rfl rfl ?_; (focus (((rfl)); done))) | refine v_op (g_bld rfl rfl) rfl rfl ?_ | refine c_bx rfl rfl rfl fun _ => ?_ | refine v_op (g_lenL rfl) rfl rfl ?_ | (refine c_rt rfl rfl rfl cx_cont rfl ?_) | (refine c_rt rfl rfl rfl cx_cut rfl ?_) | (refine c_rt rfl rfl rfl (c_isName ?_) rfl ?_; (focus (((omega)); done))) | (refine c_fns rfl rfl rfl cx_split rfl ?_; rintro _ G hle ⟨b1, o1, cap1, rfl, hseg⟩; skip)) | (refine k_gf rfl rfl ?_ ?_; (focus (((rfl)); done))) | (refine k_ff rfl ?_ ?_; (focus ((first | assumption | (refine decide_eq_false ?_; (assumption))); done))))
        rename_i x
        have hle0 := hle
        refine Nx.addNil tFi 6 ?_
        refine k_loop (ι := Value × List Fld × Nat × Gh) (fun i => ((i.2.2.1 ≤ xs.length ∧ i.2.1.length ≤ i.2.2.1) ∧ i.2.1.length ≤ 8) ∧ fieldsOf c.toNat (xs.drop i.2.2.1) i.2.1 = fieldsOf c.toNat xs [] ∧ Gh.le G i.2.2.2) (fun i => [(7, Pt x 0), (51, .slice (some ⟨b1, o1, none⟩) xs.length cap1), (52, I xs.length), (53, I i.2.2.1)]) (fun i => i.2.2.2) (fun i => [.acc i.1 tFi 6 i.2.1.length (rows fiF i.2.1), .blk x (.cells [U8 (bt (c :: r) (Int.toNat 0) : Nat), S name, i.1, S (c :: r)].toArray tTi (0, 0))]) (fun i => xs.length - i.2.2.1) (nilS, [], 0, G) ?_ (by repeat (first | exact trivial | refine ⟨rfl, ?_⟩)) rfl (by repeat ((exact List.Sublist.refl _))) (fun i Hi => ?_)
        · exact ⟨⟨⟨Nat.zero_le _, Nat.le_refl _⟩, by simp⟩, rfl, Gh.le.refl _⟩
        obtain ⟨u, fs, i, Gk⟩ := i
        dsimp only at Hi ⊢
        obtain ⟨⟨⟨hi1, hi2⟩, hi8⟩, hi3, hgk⟩ := Hi
        have hsk := hseg.mono hgk
        refine Nx.shp (v := u) (.head _) fun hsh => ?_
        have hsh2 := hsh
        obtain ⟨au, cu, rfl⟩ := hsh.sl
        by_cases hix : i < xs.length
        case neg =>
          have ei : i = xs.length := by omega
          rw [ei, List.drop_length, fieldsOf] at hi3
          have hyes : tyOf (c :: r) = some ⟨c.toNat, name, fs⟩ := by rw [hty, ← hi3]; exact if_pos hi8
          repeat' (first | (refine run (t := tb) 400 rfl ?_ ?_; (focus (repeat' ((exact trivial))))) | (refine k_ff rfl ?_ ?_; (focus (((refine decide_eq_false ?_; (omega))); done))))
          refine Nx.sealS (v := .slice au fs.length cu) fun G1 hle1 hsl => ?_
          refine Nx.sealC (b := x) fun G2 hle2 hsg2 => ?_
          refine k_rr (vs := [_, _]) rfl ⟨rfl, rfl, trivial⟩ rfl (List.nil_sublist _) ⟨((hle.trans hgk).trans hle1).trans hle2, rfl, ?_⟩
          exact .inr ⟨x, ⟨c.toNat, name, fs⟩, rfl, hyes, _, _, hsg2, hsl.mono hle2⟩
        rw [drop_nth hix, fieldsOf] at hi3
        have hx := hall _ (nth_mem hix)
        repeat' (first | (refine run (t := tb) 400 rfl ?_ ?_; (focus (repeat' ((exact trivial))))) | (refine k_op rfl ?_; first | (refine v_op (g_pickT rfl rfl ?_) rfl rfl ?_; (focus (((rfl)); done))) | (refine v_op (g_pickF rfl rfl ?_) rfl rfl ?_; (focus (((rfl)); done))) | refine v_op (g_ld rfl rfl rfl) rfl rfl ?_ | (refine v_op (g_ldRS rfl rfl (by assumption) ?_) rfl rfl ?_; (focus (((omega)); done))) | refine v_op (g_lenL rfl) rfl rfl ?_ | (refine v_op (g_iaddrN rfl rfl ?_) rfl rfl ?_; (focus ((omega); done))) | refine c_al rfl rfl fun _ => ?_ | refine c_stA rfl rfl rfl rfl rfl rfl ?_ | (refine c_fns rfl rfl rfl (c_readField (by omega)) rfl ?_; rintro _ G hle ⟨f, ok, rfl, hfld⟩; skip)) | refine k_gb rfl rfl (fun _ => ?_) (fun _ => ?_) | (refine k_tt rfl ?_ ?_; (focus ((first | rfl | (refine decide_eq_true ?_; (omega))); done))) | refine k_if rfl (fun _ => ?_) (fun _ => ?_))
        all_goals first
          | (rename_i z hq h8
             have hq2 : ok = true := by simpa using hq
             subst hq2
             have hf1 : fldOf (nth xs i) c.toNat = some f := hfld
             rw [hf1] at hi3
             dsimp only at hi3
             have h9 : fs.length = 8 := by omega
             have hno : tyOf (c :: r) = none := by
               rw [hty]
               cases hgs : fieldsOf c.toNat xs [] with
               | none => rfl
               | some gs =>
                 rw [hgs] at hi3
                 split at hi3
                 · have := fieldsOf_len hi3
                   simp at this
                   exact if_neg (by omega)
                 · cases hi3
             refine k_rr (vs := [_, _]) rfl ⟨rfl, rfl, trivial⟩ rfl (List.nil_sublist _) ⟨(hle0.trans hgk).trans hle, rfl, ?_⟩
             exact .inl ⟨hno, _, rfl⟩)
          | (rename_i z hq
             have hq2 : ok = false := by simpa using hq
             subst hq2
             have hf0 : fldOf (nth xs i) c.toNat = none := hfld
             have hno : tyOf (c :: r) = none := by rw [hf0] at hi3; rw [hty, ← hi3]
             refine k_rr (vs := [_, _]) rfl ⟨rfl, rfl, trivial⟩ rfl (List.nil_sublist _) ⟨(hle0.trans hgk).trans hle, rfl, ?_⟩
             exact .inl ⟨hno, _, rfl⟩)
          | (rename_i z hq h8
             have hq2 : ok = true := by simpa using hq
             subst hq2
             have hf1 : fldOf (nth xs i) c.toNat = some f := hfld
             rw [hf1] at hi3
             dsimp only at hi3
             have h9 : fs.length ≠ 8 := by omega
             refine k_loop (ι := Nat) (fun k => k ≤ fs.length ∧ ∀ m, m < k → (nth fs m).tag < f.tag ∧ (nth fs m).name ≠ f.name) (fun k => [(7, Pt x 0), (10, Pt z 0), (51, .slice (some ⟨b1, o1, none⟩) xs.length cap1), (52, I xs.length), (53, I i), (79, .slice au fs.length cu), (80, I fs.length), (81, I k)]) (fun _ => G) (fun k => [.blk z (.cells (fiF f).toArray tFi (0, 0)), .acc (.slice au fs.length cu) tFi 6 fs.length (rows fiF fs), .blk x (.cells [U8 (bt (c :: r) (Int.toNat 0) : Nat), S name, .slice au fs.length cu, S (c :: r)].toArray tTi (0, 0))]) (fun k => fs.length - k) 0 ?_ (by repeat (first | exact trivial | refine ⟨rfl, ?_⟩)) rfl (by repeat ((exact List.Sublist.refl _))) (fun k Hk => ?_)
             · exact ⟨Nat.zero_le _, fun m hm => absurd hm (by omega)⟩
             by_cases hk : k < fs.length
             · obtain ⟨bu, cu2, eu⟩ := hsh2.pos (by omega)
               simp only [Value.slice.injEq] at eu
               obtain ⟨rfl, -, rfl⟩ := eu
               by_cases hbad : (nth fs k).tag < f.tag ∧ (nth fs k).name ≠ f.name
               · obtain ⟨hb1, hb2⟩ := hbad
                 repeat' (first | (refine run (t := tb) 400 rfl ?_ ?_; (focus (repeat' (first | exact trivial | apply And.intro | omega)))) | (refine k_op rfl ?_; first | (refine v_op (g_pickF rfl rfl ?_) rfl rfl ?_; (focus (((rfl)); done))) | refine v_op (g_ld rfl rfl rfl) rfl rfl ?_ | (refine v_op (g_ldBR rfl rfl rfl ?_) rfl rfl ?_; (focus (((omega)); done))) | (refine v_op (g_iaddrN rfl rfl ?_) rfl rfl ?_; (focus ((omega); done))) | refine c_al rfl rfl fun _ => ?_ | refine c_stA rfl rfl rfl rfl rfl rfl ?_) | (refine k_gf rfl rfl ?_ ?_; (focus (((refine decide_eq_false ?_; (assumption))); done))) | (refine k_tt rfl ?_ ?_; (focus (((refine decide_eq_true ?_; (omega))); done))) | (refine k_ff rfl ?_ ?_; (focus (((refine decide_eq_false ?_; (omega))); done))))
                 refine k_rd (k + 1) ⟨by omega, fun m hm => ?_⟩ (by omega) (by repeat (first | exact trivial | refine ⟨rfl, ?_⟩)) rfl (by repeat (first | exact List.Sublist.refl _ | apply List.Sublist.cons))
                 rcases Nat.lt_or_ge m k with h3 | h3
                 · exact Hk.2 m h3
                 · have : m = k := by omega
                   subst this; exact ⟨hb1, hb2⟩
               · have hfr : fresh f fs = false := by
                   unfold fresh
                   rw [List.all_eq_false]
                   exact ⟨nth fs k, nth_mem hk, by simpa using hbad⟩
                 have hno : tyOf (c :: r) = none := by
                   rw [hfr, if_neg (by simp)] at hi3
                   rw [hty, ← hi3]
                 by_cases hnm : (nth fs k).name = f.name
                 case' neg => have htag : f.tag ≤ (nth fs k).tag := by
                               rcases Int.lt_or_le (nth fs k).tag f.tag with h6 | h6
                               · exact absurd ⟨h6, hnm⟩ hbad
                               · exact h6
                 all_goals repeat' (first | (refine run (t := tb) 400 rfl ?_ ?_; (focus (repeat' ((exact trivial))))) | (refine k_op rfl ?_; first | (refine v_op (g_pickT rfl rfl ?_) rfl rfl ?_; (focus (((rfl)); done))) | (refine v_op (g_pickF rfl rfl ?_) rfl rfl ?_; (focus (((rfl)); done))) | refine v_op (g_ld rfl rfl rfl) rfl rfl ?_ | (refine v_op (g_ldBR rfl rfl rfl ?_) rfl rfl ?_; (focus (((omega)); done))) | (refine v_op (g_iaddrN rfl rfl ?_) rfl rfl ?_; (focus ((omega); done))) | refine c_al rfl rfl fun _ => ?_ | refine c_stA rfl rfl rfl rfl rfl rfl ?_) | (refine k_gt rfl rfl ?_ ?_; (focus (((refine decide_eq_true ?_; (assumption))); done))) | (refine k_gf rfl rfl ?_ ?_; (focus (((refine decide_eq_false ?_; (assumption))); done))) | (refine k_tt rfl ?_ ?_; (focus ((first | rfl | (refine decide_eq_true ?_; first | assumption | omega)); done))))
                 all_goals refine k_rr (vs := [_, _]) rfl ⟨rfl, rfl, trivial⟩ rfl (List.nil_sublist _) ⟨(hle0.trans hgk).trans hle, rfl, ?_⟩
                 all_goals exact .inl ⟨hno, _, rfl⟩
             · have hfr : fresh f fs = true := by
                 unfold fresh
                 rw [List.all_eq_true]
                 intro g hg
                 obtain ⟨m, hm, rfl⟩ := mem_nth hg
                 simpa using Hk.2 m (by omega)
               rw [hfr, if_pos rfl] at hi3
               have hxl : xs.length ≤ 1001 := by omega
               
               repeat' (first | (refine run (t := tb) 400 rfl ?_ ?_; (focus (repeat' ((exact trivial))))) | (refine k_ff rfl ?_ ?_; (focus (((refine decide_eq_false ?_; (omega))); done))))
               (refine k_any (s_any (id := 21) [.blk z (.cells (fiF f).toArray tFi (0, 0))] (by intro y hy; simp only [List.mem_cons, List.not_mem_nil, or_false] at hy ⊢; simp [hy]) mixed ?_); refine x_tks (t := tb) (fuel := 7) [0, 1, 2, 3] (bts 11 15) (by kernel_rfl) (by kernel_rfl) rfl rfl (Gh.le.refl _) (by repeat (first | exact List.nil_sublist _ | apply List.Sublist.cons_cons)) ?_ ?_; (focus (repeat' ((exact trivial)))); ((refine (x_tkg (bts 11 47) 5 rfl (by kernel_rfl) rfl (Gh.le.refl _) (by repeat (first | exact List.nil_sublist _ | apply List.Sublist.cons_cons))) (g_ldA rfl rfl rfl rfl) rfl rfl ?_)); refine x_all [4, 6] (by kernel_rfl) (by decide) ⟨?_, ?_, trivial⟩; (focus (refine x_opg rfl rfl ?_; ((refine v_op (g_ld rfl rfl rfl) rfl rfl ?_)); refine x_kk (by (exact Gh.le.refl _)) (by repeat (first | exact List.nil_sublist _ | apply List.Sublist.cons_cons)) (listed' := (bts 11 63)) (by kernel_rfl) ?_; refine x_all [6] (by kernel_rfl) (by decide) ⟨?_, trivial⟩; refine x_opg rfl rfl ?_; ((refine c_bsl rfl rfl rfl rfl rfl rfl fun _ => ?_)); refine x_kk (by (exact Gh.le.refl _)) (by repeat (first | exact List.nil_sublist _ | apply List.Sublist.cons_cons | apply List.Sublist.cons)) (listed' := (bts 11 127)) (by kernel_rfl) ?_; refine x_all [7] (by kernel_rfl) (by decide) ⟨?_, trivial⟩; refine x_opg rfl rfl ?_; ((refine c_apX rfl rfl rfl rfl rfl rfl rfl rfl rfl ?_ fun _ _ => ?_; (focus ((omega); done)))); refine x_kk (by (exact Gh.le.refl _)) (by repeat (first | exact List.nil_sublist _ | apply List.Sublist.cons_cons | apply List.Sublist.cons)) (listed' := (bts 11 255)) (by kernel_rfl) ?_; refine x_tks (t := tb) (fuel := 1) [8, 9] (bts 11 1023) (by kernel_rfl) (by kernel_rfl) rfl rfl (Gh.le.refl _) (by repeat (first | exact List.nil_sublist _ | apply List.Sublist.cons_cons | apply List.Sublist.cons)) ?_ ?_; (focus (repeat' ((exact trivial)))); refine x_all [10] (by kernel_rfl) (by decide) ⟨?_, trivial⟩; refine x_opg rfl rfl ?_; ((refine c_st1 rfl rfl rfl rfl ?_)); refine x_kk (by (exact Gh.le.refl _)) (by repeat (first | exact List.nil_sublist _ | apply List.Sublist.cons_cons | apply List.Sublist.cons)) (listed' := (bts 11 2047)) (by kernel_rfl) ?_; refine x_done (by kernel_rfl) (k_bk ?_))); rotate_left 1; (focus (refine x_opg rfl rfl ?_; ((refine c_bsl rfl rfl rfl rfl rfl rfl fun _ => ?_)); refine x_kk (by (exact Gh.le.refl _)) (by repeat (first | exact List.nil_sublist _ | apply List.Sublist.cons_cons | apply List.Sublist.cons)) (listed' := (bts 11 111)) (by kernel_rfl) ?_; refine x_all [4] (by kernel_rfl) (by decide) ⟨?_, trivial⟩; refine x_opg rfl rfl ?_; ((refine v_op (g_ld rfl rfl rfl) rfl rfl ?_)); refine x_kk (by (exact Gh.le.refl _)) (by repeat (first | exact List.nil_sublist _ | apply List.Sublist.cons_cons | apply List.Sublist.cons)) (listed' := (bts 11 127)) (by kernel_rfl) ?_; refine x_all [7] (by kernel_rfl) (by decide) ⟨?_, trivial⟩; refine x_opg rfl rfl ?_; ((refine c_apX rfl rfl rfl rfl rfl rfl rfl rfl rfl ?_ fun _ _ => ?_; (focus ((omega); done)))); refine x_kk (by (exact Gh.le.refl _)) (by repeat (first | exact List.nil_sublist _ | apply List.Sublist.cons_cons | apply List.Sublist.cons)) (listed' := (bts 11 255)) (by kernel_rfl) ?_; refine x_tks (t := tb) (fuel := 1) [8, 9] (bts 11 1023) (by kernel_rfl) (by kernel_rfl) rfl rfl (Gh.le.refl _) (by repeat (first | exact List.nil_sublist _ | apply List.Sublist.cons_cons | apply List.Sublist.cons)) ?_ ?_; (focus (repeat' ((exact trivial)))); refine x_all [10] (by kernel_rfl) (by decide) ⟨?_, trivial⟩; refine x_opg rfl rfl ?_; ((refine c_st1 rfl rfl rfl rfl ?_)); refine x_kk (by (exact Gh.le.refl _)) (by repeat (first | exact List.nil_sublist _ | apply List.Sublist.cons_cons | apply List.Sublist.cons)) (listed' := (bts 11 2047)) (by kernel_rfl) ?_; refine x_done (by kernel_rfl) (k_bk ?_))); rotate_left 1)
               
               all_goals rename_i w b2 c2
               all_goals repeat' ((refine run (t := tb) 400 rfl ?_ ?_; (focus (repeat' (first | exact trivial | apply And.intro | omega)))))
               all_goals refine k_rd (.slice (some ⟨b2, 0, none⟩) (fs.length + 1) c2, fs ++ [f], i + 1, G) ⟨⟨⟨by dsimp only; omega, by simp; omega⟩, by simp; omega⟩, hi3, hgk.trans hle⟩ (by dsimp only; omega) (by repeat (first | exact trivial | refine ⟨rfl, ?_⟩)) rfl (by dsimp only; simp only [rows_snoc, List.length_append, List.length_cons, List.length_nil, Nat.zero_add]; repeat (first | exact List.Sublist.refl _ | apply List.Sublist.cons_cons | apply List.Sublist.cons)))
end Go.E
/-! Mc -/
namespace Go.E
set_option maxRecDepth 20000
set_option maxHeartbeats 2000000
open Go.Proofs
variable {G : Gh}
/-- A type with where its fields lie. -/
abbrev TyX := (Option Addr × Nat) × Ty
def slX (x : TyX) : Value := .slice x.1.1 x.2.fields.length x.1.2
def tyF (x : TyX) : List Value := [U8 x.2.sort, S x.2.name, slX x]
instance : RowF tyF 3 := ⟨fun _ => rfl⟩
def zT : TyX := ((none, 0), ⟨0, [], []⟩)
theorem SlV.sl {G : Gh} {v : Value} {sz m : Nat} {xs : List Value} (h : SlV G v sz m xs) : ∃ a cap, v = .slice a m cap := by
  obtain ⟨_, ⟨rfl, rfl⟩ | ⟨b, o, cap, rfl, _⟩⟩ := h
  · exact ⟨none, 0, rfl⟩
  · exact ⟨_, cap, rfl⟩
/-- The reference's schema, laid down. -/
structure SchR (G : Gh) (u : Value) (vs : List TyX) : Prop where
  sl : SlV G u 3 vs.length (rows tyF vs)
  fl : ∀ x ∈ vs, SlV G (slX x) 4 x.2.fields.length (rows fldF x.2.fields)
theorem SchR.mono {G G' : Gh} {u : Value} {vs : List TyX} (h : SchR G u vs) (hl : Gh.le G G') : SchR G' u vs := ⟨h.sl.mono hl, fun x hx => (h.fl x hx).mono hl⟩
def tys (vs : List TyX) : List Ty := vs.map (·.2)
def findV (vs : List TyX) (n : List UInt8) : Option TyX := vs.find? fun x => decide (x.2.name = n)
def refV (vs : List TyX) (k : List UInt8) : Option TyX := (refN k).bind (findV vs)
theorem findV_ty (vs : List TyX) (n : List UInt8) : (findV vs n).map (·.2) = findT (tys vs) n := by
  unfold findV findT tys
  induction vs with
  | nil => rfl
  | cons x vs ih =>
    simp only [List.map_cons, List.find?_cons]
    split <;> simp_all
theorem findV_mem {vs : List TyX} {n : List UInt8} {x : TyX} (h : findV vs n = some x) : x ∈ vs ∧ x.2.name = n := by
  unfold findV at h
  exact ⟨List.mem_of_find?_eq_some h, by simpa using List.find?_some h⟩
theorem findV_at {vs : List TyX} {n : List UInt8} {i : Nat} (hi : i < vs.length) (h : ∀ k, k < i → (nth vs k).2.name ≠ n) (h2 : (nth vs i).2.name = n) : findV vs n = some (nth vs i) := by
  unfold findV
  rw [List.find?_eq_some_iff_getElem]
  rw [nth_eq hi] at h2 ⊢
  refine ⟨by simpa using h2, i, hi, rfl, fun j hj => ?_⟩
  have := h j hj
  rw [nth_eq (by omega)] at this
  simpa using this
theorem findV_none {vs : List TyX} {n : List UInt8} (h : ∀ k, k < vs.length → (nth vs k).2.name ≠ n) : findV vs n = none := by
  unfold findV
  rw [List.find?_eq_none]
  intro x hx
  obtain ⟨i, hi, rfl⟩ := List.mem_iff_getElem.1 hx
  have := h i hi
  rw [nth_eq hi] at this
  simpa using this
theorem c_find {u : Value} {vs : List TyX} {n : List UInt8} (h : SchR G u vs) (hn : vs.length ≤ 1000000) : PuG Tryz.prog 18 [u, S n] G (· = Tu [Ag (tyF ((findV vs n).getD zT)), Bo (findV vs n).isSome]) := by
  have hsl := h.sl
  refine p_enter [(0, _), (1, _)] Tryz.func18 (by kernel_rfl) Tryz.ntmps18 rfl rfl (by repeat (first | exact trivial | refine ⟨rfl, ?_⟩)) fun B hB => ?_
  repeat' (first | (refine run (t := tb) 400 rfl ?_ ?_; (focus (repeat' ((exact trivial))))) | (refine k_op rfl ?_; (refine c_al rfl rfl fun _ => ?_)))
  rename_i x
  refine k_loop (ι := Nat) (fun i => i ≤ vs.length ∧ ∀ k, k < i → (nth vs k).2.name ≠ n) (fun i => [(0, u), (1, S n), (4, Pt x 0), (6, I i)]) (fun _ => G) (fun i => [.blk x (.cells [U8 0, S [], nilS].toArray tTy (0, 0))]) (fun i => vs.length - i) 0 ?_ (by repeat (first | exact trivial | refine ⟨rfl, ?_⟩)) rfl (by repeat ((exact List.Sublist.refl _))) (fun i Hi => ?_)
  · exact ⟨by omega, fun k hk => absurd hk (by omega)⟩
  by_cases hi : i < vs.length
  · obtain ⟨b, o, cap, rfl, hs⟩ := hsl.expl (by omega)
    repeat' (first | (refine run (t := tb) 400 rfl ?_ ?_; (focus (repeat' (first | exact trivial | apply And.intro | omega)))) | (refine k_op rfl ?_; first | refine v_op (g_lenL rfl) rfl rfl ?_ | (refine v_op (g_iaddrN rfl rfl ?_) rfl rfl ?_; (focus ((omega); done))) | (refine v_op (g_ldR rfl rfl (by assumption) ?_) rfl rfl ?_; (focus (((omega)); done))) | (refine v_op (g_ldRF rfl rfl (by assumption) ?_ rfl rfl) rfl rfl ?_; (focus (((omega)); done))) | refine c_stA rfl rfl rfl rfl rfl rfl ?_) | (refine k_tt rfl ?_ ?_; (focus (((refine decide_eq_true ?_; (omega))); done))) | refine k_if rfl (fun _ => ?_) (fun _ => ?_))
    · rename_i he
      refine k_rr (vs := [_, _]) rfl ⟨rc_A rfl rfl rfl rfl, rfl, trivial⟩ rfl (List.nil_sublist _) ⟨rfl, rfl, ?_⟩
      rw [findV_at hi Hi.2 he]; rfl
    · rename_i he
      refine k_rd (i + 1) ⟨by omega, fun k hk => ?_⟩ (by omega) (by repeat (first | exact trivial | refine ⟨rfl, ?_⟩)) rfl (by repeat ((exact List.Sublist.refl _)))
      rcases Nat.lt_or_ge k i with h3 | h3
      · exact Hi.2 k h3
      · have : k = i := by omega
        subst this; exact he
  · repeat' (first | (refine run (t := tb) 400 rfl ?_ ?_; (focus (repeat' ((exact trivial))))) | (refine k_op rfl ?_; first | refine v_op (g_lenV rfl (by assumption)) rfl rfl ?_ | refine c_stA rfl rfl rfl rfl rfl rfl ?_ | refine v_op (g_bld rfl rfl) rfl rfl ?_) | (refine k_ff rfl ?_ ?_; (focus (((refine decide_eq_false ?_; (omega))); done))))
    refine k_rr (vs := [_, _]) rfl ⟨rc_A rfl rfl rfl rfl, rfl, trivial⟩ rfl (List.nil_sublist _) ⟨rfl, rfl, ?_⟩
    rw [findV_none fun k hk => Hi.2 k (by omega)]; rfl
theorem c_l2RefK {s : List UInt8} (h : kOk s = true) (hl : s.length ≤ 1000000) : PuG Tryz.prog 16 [S s] G (· = Tu [S ((refN s).getD []), Bo (refN s).isSome]) := by
  match s, h with
  | c :: r, h =>
    by_cases hr : r = []
    · have hc : ¬ c.toNat = 64 := by
        intro hc
        subst hr
        rw [kOk, if_neg (by omega), if_pos hc] at h
        simp [bt_zero, hc] at h
      have e0 := bt_c0 c r
      have hq : refN (c :: r) = none := by simp [refN, hc]
      rw [hq]
      refine p_enter [(0, _)] Tryz.func16 (by kernel_rfl) Tryz.ntmps16 rfl rfl (by repeat (first | exact trivial | refine ⟨rfl, ?_⟩)) fun B hB => ?_
      repeat' (first | (refine run (t := tb) 400 rfl ?_ ?_; (focus (repeat' (first | exact trivial | apply And.intro | omega | (simp only [List.length_append, List.length_cons, List.length_nil, Int.toNat_natCast]; omega))))) | (refine k_tt rfl ?_ ?_; (focus (((simp; omega)); done))))
      all_goals refine k_rr (vs := [_, _]) rfl ⟨rfl, rfl, trivial⟩ rfl (List.nil_sublist _) ⟨rfl, rfl, ?_⟩
      all_goals rfl
    · have := c_l2Ref (G := G) (c := c) hr (by simp at hl; omega)
      refine this.mono ?_
      rintro v G' L' ⟨h1, h2, h3⟩
      refine ⟨h1, h2, h3.trans ?_⟩
      by_cases hc : c.toNat = 64 <;> simp [refN, hc]
theorem c_ref {u : Value} {vs : List TyX} {k : List UInt8} (h : SchR G u vs) (hn : vs.length ≤ 1000000) (hk : kOk k = true) (hl : k.length ≤ 1000000) : PuG Tryz.prog 31 [u, S k] G (· = Tu [Ag (tyF ((refV vs k).getD zT)), Bo (refV vs k).isSome]) := by
  rcases hr : refN k with _ | n
  · have e : refV vs k = none := by simp [refV, hr]
    rw [e]
    have cx_ref : PuG Tryz.prog 16 [S k] G (· = Tu [S [], Bo false]) := by have := c_l2RefK (G := G) hk hl; rwa [hr] at this
    refine p_enter [(0, _), (1, _)] Tryz.func31 (by kernel_rfl) Tryz.ntmps31 rfl rfl (by repeat (first | exact trivial | refine ⟨rfl, ?_⟩)) fun B hB => ?_
    repeat' (first | (refine run (t := tb) 400 rfl ?_ ?_; (focus (repeat' ((exact trivial))))) | (refine k_op rfl ?_; first | refine c_al rfl rfl fun _ => ?_ | refine v_op (g_bld rfl rfl) rfl rfl ?_ | refine c_stA rfl rfl rfl rfl rfl rfl ?_ | (refine c_rt rfl rfl rfl cx_ref rfl ?_)) | (refine k_tt rfl ?_ ?_; (focus (((rfl)); done))))
    all_goals refine k_rr (vs := [_, _]) rfl ⟨rc_A rfl rfl rfl rfl, rfl, trivial⟩ rfl (List.nil_sublist _) ⟨rfl, rfl, ?_⟩
    all_goals rfl
  · have e : refV vs k = findV vs n := by simp [refV, hr]
    rw [e]
    have cx_ref : PuG Tryz.prog 16 [S k] G (· = Tu [S n, Bo true]) := by have := c_l2RefK (G := G) hk hl; rwa [hr] at this
    refine p_enter [(0, _), (1, _)] Tryz.func31 (by kernel_rfl) Tryz.ntmps31 rfl rfl (by repeat (first | exact trivial | refine ⟨rfl, ?_⟩)) fun B hB => ?_
    repeat' (first | (refine run (t := tb) 400 rfl ?_ ?_; (focus (repeat' ((exact trivial))))) | (refine k_op rfl ?_; first | refine c_al rfl rfl fun _ => ?_ | refine c_stA rfl rfl rfl rfl rfl rfl ?_ | (refine c_rt rfl rfl rfl cx_ref rfl ?_) | (refine c_rt rfl rfl rfl (c_find (by (repeat ((assumption))); done) (by omega)) rfl ?_)) | (refine k_ff rfl ?_ ?_; (focus (((rfl)); done))))
    all_goals refine k_rr (vs := [_, _]) rfl ⟨rc_A rfl rfl rfl rfl, rfl, trivial⟩ rfl (List.nil_sublist _) ⟨rfl, rfl, ?_⟩
    all_goals rfl
end Go.E
