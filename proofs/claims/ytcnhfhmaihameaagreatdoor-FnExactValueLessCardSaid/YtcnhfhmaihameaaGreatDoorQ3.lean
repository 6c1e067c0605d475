/- Contracts and plain laws that the statement rests on, part 3. Conditions: as each says. -/
import Derived.Test.YtcnhfhmaihameaaGreatDoorQ2
set_option linter.unusedVariables false
set_option linter.unusedSimpArgs false
namespace Go.E
set_option maxRecDepth 20000
set_option maxHeartbeats 2000000
open Go.Proofs
variable {G : Gh}
theorem trimL_nil {p : Nat → Bool} : ∀ {s : List UInt8}, trimL p s = [] ↔ ∀ c ∈ s, p c.toNat = true
  | [] => by simp [trimL]
  | c :: r => by
    unfold trimL
    by_cases h : p c.toNat = true
    · rw [if_pos h, trimL_nil]; simp [h]
    · rw [if_neg h]; simp [h]
theorem trimR_mem {p : Nat → Bool} {s : List UInt8} : (∀ c ∈ trimR p s, p c.toNat = true) ↔ ∀ c ∈ s, p c.toNat = true := by
  have key : ∀ l : List UInt8, (∀ c ∈ trimL p l, p c.toNat = true) ↔ ∀ c ∈ l, p c.toNat = true := by
    intro l
    induction l with
    | nil => simp [trimL]
    | cons c r ih =>
      unfold trimL
      by_cases h : p c.toNat = true
      · rw [if_pos h, ih]; simp [h]
      · rw [if_neg h]
  unfold trimR
  have := key s.reverse
  simpa using this
theorem trim_nil {p : Nat → Bool} {s : List UInt8} : trimL p (trimR p s) = [] ↔ ∀ c ∈ s, p c.toNat = true := by rw [trimL_nil, trimR_mem]
def azS : List UInt8 := [97, 98, 99, 100, 101, 102, 103, 104, 105, 106, 107, 108, 109, 110, 111, 112, 113, 114, 115, 116, 117, 118, 119, 120, 121, 122]
def txS : List UInt8 := azS ++ [48, 49, 50, 51, 52, 53, 54, 55, 56, 57, 32]
theorem az_in (c : UInt8) : inS azS c.toNat = isLow c := by
  have : ∀ n : Nat, n < 256 → inS azS n = decide (97 ≤ n ∧ n ≤ 122) := by decide +kernel
  rw [this _ c.toNat_lt]; rfl
theorem tx_in (c : UInt8) : inS txS c.toNat = decide (txN c.toNat) := by
  have : ∀ n : Nat, n < 256 → inS txS n = decide (txN n) := by decide +kernel
  exact this _ c.toNat_lt
theorem az_trim (s : List UInt8) : trimL (inS azS) (trimR (inS azS) s) = [] ↔ s.all isLow = true := by
  rw [trim_nil, List.all_eq_true]
  exact forall_congr' fun c => forall_congr' fun _ => by rw [az_in]
theorem c_isName {s : List UInt8} (h : s.length ≤ 2000000) : PuG Tryz.prog 89 [S s] G (· = Bo (isNm s)) := by
  have cx_trim := c_Trim (G := G) (s := s) (cs := azS) rfl (by kernel_rfl) rfl h
  by_cases hl : 1 ≤ s.length ∧ s.length ≤ 3
  · refine p_enter [(0, _)] Tryz.func89 (by kernel_rfl) Tryz.ntmps89 rfl rfl (by repeat' constructor) fun B hB => ?_
    repeat' (first | (refine run (t := tb) 400 rfl trivial ?_) | (refine k_op rfl ?_; first | (refine v_op (g_pickF rfl rfl rfl) rfl rfl ?_) | (refine c_rt rfl rfl rfl cx_trim rfl ?_)) | (refine k_gf rfl rfl (dFf (by omega)) ?_) | (refine k_ff rfl (dFf (by omega)) ?_))
    all_goals refine k_rr (vs := [_]) rfl ⟨rfl, trivial⟩ rfl (List.nil_sublist _) ⟨rfl, rfl, ?_⟩
    have := az_trim s
    unfold isNm
    rw [decide_eq_true hl, Bool.and_true]
    refine congrArg Bo ?_
    rw [Bool.eq_iff_iff]
    simpa using this
  · have e : isNm s = false := by unfold isNm; rw [decide_eq_false hl, Bool.and_false]
    rw [e]
    refine p_enter [(0, _)] Tryz.func89 (by kernel_rfl) Tryz.ntmps89 rfl rfl (by repeat' constructor) fun B hB => ?_
    repeat' (first | (refine run (t := tb) 400 rfl trivial ?_) | (refine k_op rfl ?_; first | (refine v_op (g_pickT rfl rfl rfl) rfl rfl ?_) | (refine v_op (g_pickF rfl rfl rfl) rfl rfl ?_)) | refine k_g rfl rfl (fun _ => ?_) (fun _ => ?_) | (refine k_tt rfl (by first | rfl | (refine decide_eq_true ?_; (omega))) ?_))
    all_goals refine k_rr (vs := [_]) rfl ⟨rfl, trivial⟩ rfl (List.nil_sublist _) ⟨rfl, rfl, ?_⟩
    all_goals rfl
theorem core_trimL (s : List UInt8) : core s = trimL (inS [91, 63]) s := by
  induction s with
  | nil => rfl
  | cons c r ih =>
    have e : inS [91, 63] c.toNat = decide (c.toNat = 91 ∨ c.toNat = 63) := by
      have : ∀ n : Nat, n < 256 → inS [91, 63] n = decide (n = 91 ∨ n = 63) := by decide +kernel
      exact this _ c.toNat_lt
    unfold core trimL
    rw [e]
    by_cases h : c.toNat = 91 ∨ c.toNat = 63
    · simp only [h, if_true, decide_true]; exact ih
    · simp [h]
theorem kOk_core : ∀ {s : List UInt8}, kOk (core s) = kOk s
  | [] => rfl
  | c :: r => by
    unfold core
    split
    · rename_i h; rw [kOk_core]; conv => { rhs; unfold kOk }; rw [if_pos h]
    · rfl
def kdF (s : List UInt8) : List Value := [S (sg s), S (bs s), S (nm s)]
def KdPost (s : List UInt8) (v : Value) : Prop := ∃ a b c, v = Tu [Ag [S a, S b, S c], Bo (kindOk s)] ∧ (kindOk s = true → a = sg s ∧ b = bs s ∧ c = nm s)
theorem c_HasSuffixL {s p : List UInt8} (hp : p.length ≤ 1000000000) (hs : s.length ≤ 1000000000) : PuG Tryz.prog 114 [S s, S p] G (· = Bo (decide (p.length ≤ s.length ∧ s.drop (s.length - p.length) = p))) := by
  by_cases h : p.length ≤ s.length
  · have e : (((s.length : Nat) : Int) - ((p.length : Nat) : Int)).toNat = s.length - p.length := by omega
    refine p_enter [(0, _), (1, _)] Tryz.func114 (by kernel_rfl) Tryz.ntmps114 rfl rfl (by repeat' constructor) fun B hB => ?_
    repeat' (first | (refine run (t := tb) 400 rfl ?_ ?_; (focus (repeat' (first | exact trivial | apply And.intro | omega)))) | (refine k_op rfl ?_; (refine v_op (g_pickT rfl rfl rfl) rfl rfl ?_)) | (refine k_gt rfl rfl (dTt (by omega)) ?_))
    all_goals refine k_rr (vs := [_]) rfl ⟨rfl, trivial⟩ rfl (List.nil_sublist _) ⟨rfl, rfl, ?_⟩
    all_goals (rw [e]; simp [h]; try rfl)
  · refine p_enter [(0, _), (1, _)] Tryz.func114 (by kernel_rfl) Tryz.ntmps114 rfl rfl (by repeat' constructor) fun B hB => ?_
    repeat' (first | (refine run (t := tb) 400 rfl trivial ?_) | (refine k_op rfl ?_; (refine v_op (g_pickF rfl rfl rfl) rfl rfl ?_)) | (refine k_gf rfl rfl (dFf (by omega)) ?_))
    all_goals refine k_rr (vs := [_]) rfl ⟨rfl, trivial⟩ rfl (List.nil_sublist _) ⟨rfl, rfl, ?_⟩
    all_goals (simp [h]; try rfl)
theorem c_HasSuffix {s p : List UInt8} (hp : p.length ≤ 1000000000) (hs : s.length ≤ 1000000000) : PuG Tryz.prog 88 [S s, S p] G (· = Bo (decide (p.length ≤ s.length ∧ s.drop (s.length - p.length) = p))) := by
  refine p_enter [(0, _), (1, _)] Tryz.func88 (by kernel_rfl) Tryz.ntmps88 rfl rfl (by repeat' constructor) fun B hB => ?_
  repeat' (first | (refine run (t := tb) 400 rfl trivial ?_) | (refine k_op rfl ?_; (refine c_rt rfl rfl rfl (c_HasSuffixL (by omega) (by omega)) rfl ?_)))
  all_goals refine k_rr (vs := [_]) rfl ⟨rfl, trivial⟩ rfl (List.nil_sublist _) ⟨rfl, rfl, ?_⟩
  all_goals rfl
theorem suf_bt {c : UInt8} {r : List UInt8} : (1 ≤ (c :: r).length ∧ (c :: r).drop ((c :: r).length - 1) = [59]) ↔ bt (c :: r) r.length = 59 := by
  have hl : (c :: r).length - 1 = r.length := by simp
  rw [hl]
  have hlt : r.length < (c :: r).length := by simp
  obtain ⟨d, h1, h2⟩ := drop_bt hlt
  rw [h1, h2]
  have h3 : (c :: r).drop (r.length + 1) = [] := by simp
  rw [h3]
  constructor
  · rintro ⟨_, h⟩; simp only [List.cons.injEq, and_true] at h; rw [h]; rfl
  · intro h; exact ⟨by simp, by rw [show d = 59 from UInt8.toNat_inj.1 h]⟩
theorem core_head : ∀ {s : List UInt8} {c : UInt8} {r : List UInt8}, core s = c :: r → ¬ (c.toNat = 91 ∨ c.toNat = 63)
  | [], c, r, h => by simp [core] at h
  | d :: s, c, r, h => by
    unfold core at h
    split at h
    · exact core_head h
    · rename_i hd
      simp only [List.cons.injEq] at h
      rw [← h.1]; exact hd
theorem c_readKindT {s t : List UInt8} (h : s.length ≤ 12) (ht : core s = t) : PuG Tryz.prog 65 [S s] G (KdPost s) := by
  have cx_triml : PuG Tryz.prog 86 [S s, S [91, 63]] G (· = S t) := by
    rw [← ht, core_trimL]
    exact c_TrimLeft rfl (by kernel_rfl) rfl
  have hcl := core_len s
  rw [ht] at hcl
  have ek : kindOk s = kOk t := by unfold kindOk; rw [decide_eq_true h, Bool.true_and, ← ht, kOk_core]
  have esg : s.take (((s.length : Nat) : Int) - ((t.length : Nat) : Int)).toNat = sg s := by
    unfold sg; rw [ht]; congr 1; omega
  have ebs : bs s = bsT t := by unfold bs; rw [ht]
  have enm : nm s = (refN t).getD [] := by unfold nm; rw [ht]
  have hns : ∀ c r, t = c :: r → ¬ (c.toNat = 91 ∨ c.toNat = 63) := fun c r e => core_head (ht.trans e)
  clear ht
  match t, hcl, ek, ebs, enm, cx_triml, esg, hns with
  | [], hcl, ek, ebs, enm, cx_triml, esg, hns =>
    have hno : kindOk s = false := by rw [ek]; rfl
    have cx_suf := c_HasSuffix (G := G) (s := []) (p := [59]) (by simp) (by simp)
    refine p_enter [(0, _)] Tryz.func65 (by kernel_rfl) Tryz.ntmps65 rfl rfl (by repeat' constructor) fun B hB => ?_
    repeat' (first | (refine run (t := tb) 400 rfl ?_ ?_; (focus (repeat' (first | exact trivial | apply And.intro | omega)))) | (refine k_op rfl ?_; first | refine c_al rfl rfl fun _ => ?_ | refine v_op (g_bld rfl rfl) rfl rfl ?_ | refine c_stA rfl rfl rfl rfl rfl rfl ?_ | (refine v_op (g_pickF rfl rfl rfl) rfl rfl ?_) | (refine c_rt rfl rfl rfl cx_triml rfl ?_) | (refine c_rt rfl rfl rfl c_HasPrefix rfl ?_)) | (refine k_gf rfl rfl rfl ?_) | (refine k_ff rfl (by first | rfl | (refine decide_eq_false ?_; (omega))) ?_))
    all_goals refine k_rr (vs := [_, _]) rfl ⟨rc_A rfl rfl rfl rfl, rfl, trivial⟩ rfl (List.nil_sublist _) ⟨rfl, rfl, ?_⟩
    all_goals exact ⟨[], [], [], by rw [hno]; rfl, fun h => by rw [hno] at h; cases h⟩
  | c :: r, hcl, ek, ebs, enm, cx_triml, esg, hns =>
    by_cases hA : c :: r = [110] ∨ c :: r = [116] ∨ c :: r = [102]
    · rcases hA with hA | hA | hA
      all_goals (simp only [List.cons.injEq] at hA; obtain ⟨rfl, rfl⟩ := hA)
      all_goals have hyes : kindOk s = true := by rw [ek]; rfl
      all_goals refine p_enter [(0, _)] Tryz.func65 (by kernel_rfl) Tryz.ntmps65 rfl rfl (by repeat' constructor) fun B hB => ?_
      all_goals repeat' (first | (refine run (t := tb) 400 rfl ?_ ?_; (focus (repeat' (first | exact trivial | apply And.intro | omega)))) | (refine k_op rfl ?_; first | refine c_al rfl rfl fun _ => ?_ | refine v_op (g_bld rfl rfl) rfl rfl ?_ | refine c_st1 rfl rfl rfl rfl ?_ | refine c_stA rfl rfl rfl rfl rfl rfl ?_ | (refine v_op (g_pickT rfl rfl rfl) rfl rfl ?_) | (refine v_op (g_pickF rfl rfl rfl) rfl rfl ?_) | refine v_op (g_ldA rfl rfl rfl rfl) rfl rfl ?_ | (refine c_rt rfl rfl rfl cx_triml rfl ?_)) | (refine k_gt rfl rfl rfl ?_) | (refine k_gf rfl rfl rfl ?_) | (refine k_tt rfl rfl ?_) | (refine k_ff rfl (dFf (by omega)) ?_))
      all_goals refine k_rr (vs := [_, _]) rfl ⟨rc_A rfl rfl rfl rfl, rfl, trivial⟩ rfl (List.nil_sublist _) ⟨rfl, rfl, ?_⟩
      all_goals exact ⟨_, _, _, by rw [hyes]; rfl, fun _ => ⟨esg, by rw [ebs]; rfl, by rw [enm]; rfl⟩⟩
    simp only [not_or] at hA
    obtain ⟨hA1, hA2, hA3⟩ := hA
    by_cases hc : c = 64
    case neg =>
      have hc' : ¬ c.toNat = 64 := fun h => hc (UInt8.toNat_inj.1 h)
      have hno : kindOk s = false := by
        rw [ek, kOk, if_neg (hns c r rfl), if_neg hc']
        by_cases hr : r = []
        · subst hr
          have n1 : ¬ c.toNat = 110 := fun h => hA1 (by rw [show c = 110 from UInt8.toNat_inj.1 h])
          have n2 : ¬ c.toNat = 116 := fun h => hA2 (by rw [show c = 116 from UInt8.toNat_inj.1 h])
          have n3 : ¬ c.toNat = 102 := fun h => hA3 (by rw [show c = 102 from UInt8.toNat_inj.1 h])
          simp [n1, n2, n3]
        · simp [hr]
      have hp : ([64] : List UInt8).isPrefixOf (c :: r) = false := by simp [List.isPrefixOf]; exact fun h => hc h.symm
      refine p_enter [(0, _)] Tryz.func65 (by kernel_rfl) Tryz.ntmps65 rfl rfl (by repeat' constructor) fun B hB => ?_
      repeat' (first | (refine run (t := tb) 400 rfl ?_ ?_; (focus (repeat' (first | exact trivial | apply And.intro | omega)))) | (refine k_op rfl ?_; first | refine c_al rfl rfl fun _ => ?_ | refine v_op (g_bld rfl rfl) rfl rfl ?_ | refine c_stA rfl rfl rfl rfl rfl rfl ?_ | (refine v_op (g_pickF rfl rfl rfl) rfl rfl ?_) | (refine c_rt rfl rfl rfl cx_triml rfl ?_) | (refine c_rt rfl rfl rfl c_HasPrefix rfl ?_)) | (refine k_gf rfl rfl (by first | assumption | (refine decide_eq_false ?_; (assumption))) ?_) | (refine k_ff rfl (by first | rfl | (refine decide_eq_false ?_; first | assumption | omega)) ?_))
      all_goals refine k_rr (vs := [_, _]) rfl ⟨rc_A rfl rfl rfl rfl, rfl, trivial⟩ rfl (List.nil_sublist _) ⟨rfl, rfl, ?_⟩
      all_goals exact ⟨[], [], [], by rw [hno]; rfl, fun h => by rw [hno] at h; cases h⟩
    subst hc
    have hp : ([64] : List UInt8).isPrefixOf (64 :: r) = true := by simp [List.isPrefixOf]
    have hsuf := c_HasSuffix (G := G) (s := 64 :: r) (p := [59]) (by simp) (by simp at hcl ⊢; omega)
    have ek2 : kindOk s = (decide (bt (64 :: r) r.length = 59) && isNm (r.take (r.length - 1))) := by
      rw [ek, kOk, if_neg (by decide), if_pos (by decide)]
      congr 1
      refine decide_eq_decide.2 ?_
      omega
    have hsb := suf_bt (c := 64) (r := r)
    by_cases hb : bt (64 :: r) r.length = 59
    case neg =>
      have cx_suf : PuG Tryz.prog 88 [S (64 :: r), S [59]] G (· = Bo false) := by
        have e : decide (([59] : List UInt8).length ≤ (64 :: r : List UInt8).length ∧ (64 :: r : List UInt8).drop ((64 :: r : List UInt8).length - ([59] : List UInt8).length) = [59]) = false := decide_eq_false fun h => hb (hsb.1 h)
        rwa [e] at hsuf
      have hno : kindOk s = false := by rw [ek2, decide_eq_false hb, Bool.false_and]
      refine p_enter [(0, _)] Tryz.func65 (by kernel_rfl) Tryz.ntmps65 rfl rfl (by repeat' constructor) fun B hB => ?_
      repeat' (first | (refine run (t := tb) 400 rfl ?_ ?_; (focus (repeat' (first | exact trivial | apply And.intro | omega)))) | (refine k_op rfl ?_; first | refine c_al rfl rfl fun _ => ?_ | refine v_op (g_bld rfl rfl) rfl rfl ?_ | refine c_stA rfl rfl rfl rfl rfl rfl ?_ | (refine v_op (g_pickT rfl rfl rfl) rfl rfl ?_) | (refine v_op (g_pickF rfl rfl rfl) rfl rfl ?_) | (refine c_rt rfl rfl rfl cx_triml rfl ?_) | (refine c_rt rfl rfl rfl c_HasPrefix rfl ?_) | (refine c_rt rfl rfl rfl cx_suf rfl ?_)) | (refine k_gt rfl rfl rfl ?_) | (refine k_gf rfl rfl rfl ?_) | (refine k_ff rfl (by first | rfl | (refine decide_eq_false ?_; (omega))) ?_))
      all_goals refine k_rr (vs := [_, _]) rfl ⟨rc_A rfl rfl rfl rfl, rfl, trivial⟩ rfl (List.nil_sublist _) ⟨rfl, rfl, ?_⟩
      all_goals exact ⟨[], [], [], by rw [hno]; rfl, fun h => by rw [hno] at h; cases h⟩
    have cx_suf : PuG Tryz.prog 88 [S (64 :: r), S [59]] G (· = Bo true) := by
      have e : decide (([59] : List UInt8).length ≤ (64 :: r : List UInt8).length ∧ (64 :: r : List UInt8).drop ((64 :: r : List UInt8).length - ([59] : List UInt8).length) = [59]) = true := decide_eq_true (hsb.2 hb)
      rwa [e] at hsuf
    have hr : 1 ≤ r.length := by
      cases r with
      | nil => exact absurd hb (by decide)
      | cons => simp
    have hl2 : (64 :: r : List UInt8).length = r.length + 1 := rfl
    have e1 : ((64 :: r : List UInt8).take ((((64 :: r : List UInt8).length : Nat) : Int) - 1).toNat).drop (Int.toNat 1) = r.take (r.length - 1) := by
      have e2 : ((((64 :: r : List UInt8).length : Nat) : Int) - 1).toNat = (r.length - 1) + 1 := by omega
      rw [e2, List.take_succ_cons]; rfl
    have hyes : kindOk s = isNm (r.take (r.length - 1)) := by rw [ek2, decide_eq_true hb, Bool.true_and]
    have cx_isnm : PuG Tryz.prog 89 [S (((64 :: r : List UInt8).take ((((64 :: r : List UInt8).length : Nat) : Int) - 1).toNat).drop (Int.toNat 1))] G (· = Bo (isNm (r.take (r.length - 1)))) := by
      rw [e1]; exact c_isName (by simp at hcl ⊢; omega)
    refine p_enter [(0, _)] Tryz.func65 (by kernel_rfl) Tryz.ntmps65 rfl rfl (by repeat' constructor) fun B hB => ?_
    repeat' (first | (refine run (t := tb) 400 rfl ?_ ?_; (focus (repeat' (first | exact trivial | apply And.intro | omega)))) | (refine k_op rfl ?_; first | refine c_al rfl rfl fun _ => ?_ | refine v_op (g_bld rfl rfl) rfl rfl ?_ | refine c_st1 rfl rfl rfl rfl ?_ | refine c_stA rfl rfl rfl rfl rfl rfl ?_ | (refine v_op (g_pickT rfl rfl rfl) rfl rfl ?_) | (refine v_op (g_pickF rfl rfl rfl) rfl rfl ?_) | (refine c_rt rfl rfl rfl cx_triml rfl ?_) | (refine c_rt rfl rfl rfl c_HasPrefix rfl ?_) | (refine c_rt rfl rfl rfl cx_suf rfl ?_)) | (refine k_gt rfl rfl rfl ?_) | (refine k_gf rfl rfl rfl ?_) | (refine k_tt rfl rfl ?_) | (refine k_ff rfl (by first | rfl | (refine decide_eq_false ?_; (omega))) ?_) | (refine k_any (s_anyD (id := 11) (tt := 2) rfl mixed ?_); refine x_tks (t := tb) (fuel := 5) [1] (bts 6 2) (by kernel_rfl) (by kernel_rfl) rfl rfl (Gh.le.refl _) (by repeat (first | exact List.nil_sublist _ | apply List.Sublist.cons_cons)) ?_ ?_; (focus (repeat' (exact trivial))); ((refine (x_tkg (bts 6 3) 0 rfl (by kernel_rfl) rfl (Gh.le.refl _) (by repeat (first | exact List.nil_sublist _ | apply List.Sublist.cons_cons))) (g_ldA rfl rfl rfl rfl) rfl rfl ?_)); ((refine (x_tkg (bts 6 7) 2 rfl (by kernel_rfl) rfl (Gh.le.refl _) (by repeat (first | exact List.nil_sublist _ | apply List.Sublist.cons_cons))) (g_ld rfl rfl rfl) rfl rfl ?_)); refine x_all [3] (by kernel_rfl) (by decide) ⟨?_, trivial⟩; refine x_opg rfl rfl ?_; (refine c_rt rfl rfl rfl cx_isnm rfl ?_); refine x_kk gRr (by repeat (first | exact List.nil_sublist _ | apply List.Sublist.cons_cons)) (listed' := (bts 6 15)) (by kernel_rfl) ?_; refine x_all [4] (by kernel_rfl) (by decide) ⟨?_, trivial⟩; refine x_opg rfl rfl ?_; (refine c_stA rfl rfl rfl rfl rfl rfl ?_); refine x_kk gRr (by repeat (first | exact List.nil_sublist _ | apply List.Sublist.cons_cons)) (listed' := (bts 6 31)) (by kernel_rfl) ?_; refine x_tks (t := tb) (fuel := 0) [5] (bts 6 63) (by kernel_rfl) (by kernel_rfl) rfl rfl (Gh.le.refl _) (by repeat (first | exact List.nil_sublist _ | apply List.Sublist.cons_cons)) ?_ ?_; (focus (repeat' (exact trivial))); refine x_done (by kernel_rfl) (k_bk ?_)))
    all_goals refine k_rr (vs := [_, _]) rfl ⟨rc_A rfl rfl rfl rfl, rfl, trivial⟩ rfl (List.nil_sublist _) ⟨rfl, rfl, ?_⟩
    all_goals exact ⟨_, _, _, by rw [hyes]; rfl, fun _ => ⟨esg, by rw [ebs]; rfl, by rw [enm, e1]; rfl⟩⟩
theorem c_readKind {s : List UInt8} (h : s.length ≤ 2000000) : PuG Tryz.prog 65 [S s] G (KdPost s) := by
  by_cases hl : s.length ≤ 12
  · exact c_readKindT hl rfl
  have e : kindOk s = false := by unfold kindOk; rw [decide_eq_false hl, Bool.false_and]
  refine p_enter [(0, _)] Tryz.func65 (by kernel_rfl) Tryz.ntmps65 rfl rfl (by repeat' constructor) fun B hB => ?_
  repeat' (first | (refine run (t := tb) 400 rfl trivial ?_) | (refine k_op rfl ?_; first | refine c_al rfl rfl fun _ => ?_ | refine v_op (g_bld rfl rfl) rfl rfl ?_ | refine c_stA rfl rfl rfl rfl rfl rfl ?_) | (refine k_tt rfl (dTt (by omega)) ?_))
  all_goals refine k_rr (vs := [_, _]) rfl ⟨rc_A rfl rfl rfl rfl, rfl, trivial⟩ rfl (List.nil_sublist _) ⟨rfl, rfl, ?_⟩
  all_goals exact ⟨[], [], [], by rw [e]; rfl, fun h => by rw [e] at h; cases h⟩
end Go.E
namespace Go.E
set_option maxRecDepth 20000
set_option maxHeartbeats 2000000
open Go.Proofs
variable {G : Gh}
theorem u8_dig {c : UInt8} (h : 48 ≤ c.toNat) : u8 (48 + ((c.toNat : Int) - 48)) = c := by
  apply UInt8.toNat_inj.1
  have h2 := c.toNat_lt
  have := u8_val (a := 48 + ((c.toNat : Int) - 48)) (by omega)
  omega
theorem digF_dec : ∀ {s : List UInt8} {n m : Int}, 1 ≤ n → digF n s = some m → decI m = decI n ++ s ∧ n ≤ m
  | [], n, m, h0, h => by simp only [digF, Option.some.injEq] at h; subst h; simp
  | c :: r, n, m, h0, h => by
    unfold digF at h
    split at h
    · rename_i hc
      have ih := digF_dec (s := r) (by omega) h
      refine ⟨?_, by omega⟩
      have e1 : (10 * n + ((c.toNat : Int) - 48)) / 10 = n := by omega
      have e2 : (10 * n + ((c.toNat : Int) - 48)) % 10 = (c.toNat : Int) - 48 := by omega
      rw [ih.1, decI_hi (n := 10 * n + ((c.toNat : Int) - 48)) (by omega), e1, e2, u8_dig hc.1]; simp
    · cases h
theorem decI_head : ∀ (k : Nat) {m : Int}, m.toNat ≤ k → 1 ≤ m → ∃ c r, decI m = c :: r ∧ c.toNat ≠ 48
  | 0, m, h, h1 => by omega
  | k + 1, m, h, h1 => by
    by_cases hm : m < 10
    · refine ⟨_, [], decI_lo hm (by omega), ?_⟩
      have := u8_val (a := 48 + m) (by omega)
      omega
    · obtain ⟨c, r, e, hc⟩ := decI_head k (m := m / 10) (by omega) (by omega)
      exact ⟨c, r ++ [u8 (48 + m % 10)], by rw [decI_hi hm, e]; rfl, hc⟩
theorem digF_nn : ∀ {s : List UInt8} {n m : Int}, 0 ≤ n → digF n s = some m → 0 ≤ m
  | [], n, m, h0, h => by simp only [digF, Option.some.injEq] at h; omega
  | c :: r, n, m, h0, h => by
    unfold digF at h
    split at h
    · exact digF_nn (s := r) (by omega) h
    · cases h
theorem dec_iff {c : UInt8} {r : List UInt8} {m : Int} (h : digF 0 (c :: r) = some m) : c :: r = decI m ↔ ¬ (c.toNat = 48 ∧ r ≠ []) := by
  have h' := h
  unfold digF at h
  split at h
  · rename_i hc
    by_cases h0 : c.toNat = 48
    · have e0 : (10 * 0 + ((c.toNat : Int) - 48)) = 0 := by omega
      rw [e0] at h
      constructor
      · rintro e ⟨_, hr⟩
        have hm := digF_nn (Int.le_refl 0) h
        rcases Int.lt_or_le m 1 with h1 | h1
        · have : m = 0 := by omega
          subst this
          rw [decI_lo (by omega) (by omega)] at e
          simp only [List.cons.injEq] at e
          exact hr e.2
        · obtain ⟨d, t, e2, hd⟩ := decI_head m.toNat (Nat.le_refl _) h1
          rw [e2] at e
          simp only [List.cons.injEq] at e
          exact hd (by rw [← e.1]; exact h0)
      · intro hn
        have hr : r = [] := by
          by_cases hr : r = []
          · exact hr
          · exact absurd ⟨h0, hr⟩ hn
        subst hr
        simp only [digF, Option.some.injEq] at h
        subst h
        rw [decI_lo (by omega) (by omega)]
        congr 1
        apply UInt8.toNat_inj.1
        have := u8_val (a := 48 + 0) (by omega)
        omega
    · have := digF_dec (by omega) h
      rw [this.1, decI_lo (by omega) (by omega)]
      have e : (10 * 0 + ((c.toNat : Int) - 48)) = (c.toNat : Int) - 48 := by omega
      rw [e, u8_dig hc.1]
      simp [h0]
  · cases h
theorem c_plainNumberB {s : List UInt8} {top : Int} (h : s.length ≤ 100000000) : PuG Tryz.prog 41 [S s, I top] G (fun v => ∃ n, v = Tu [I n, Bo (numOf s top).isSome] ∧ (∀ m, numOf s top = some m → n = m) ∧ 0 ≤ n ∧ n ≤ 999999) := by
  by_cases hl : 1 ≤ s.length ∧ s.length ≤ 6
  case neg =>
    have hno : numOf s top = none := by
      unfold numOf
      by_cases h6 : s.length ≤ 6
      · have : s = [] := List.length_eq_zero_iff.1 (by omega)
        subst this
        rw [if_pos (by simp)]
        simp [digF, decI_lo]
      · rw [if_neg h6]
    refine p_enter [(0, _), (1, _)] Tryz.func41 (by kernel_rfl) Tryz.ntmps41 rfl rfl (by repeat' constructor) fun B hB => ?_
    repeat' (first | (refine run (t := tb) 400 rfl trivial ?_) | (refine k_op rfl ?_; first | (refine v_op (g_pickT rfl rfl rfl) rfl rfl ?_) | (refine v_op (g_pickF rfl rfl rfl) rfl rfl ?_)) | (refine k_gt rfl rfl (by first | rfl | (refine decide_eq_true ?_; (omega))) ?_) | refine k_g rfl rfl (fun _ => ?_) (fun _ => ?_) | (refine k_tt rfl rfl ?_))
    all_goals refine k_rr (vs := [_, _]) rfl ⟨rfl, rfl, trivial⟩ rfl (List.nil_sublist _) ⟨rfl, rfl, ?_⟩
    all_goals exact ⟨_, by rw [hno]; rfl, fun m hm => (by rw [hno] at hm; cases hm), by decide, by decide⟩
  by_cases hz : bt s 0 = 48 ∧ 1 < s.length
  · have hz0 : bt s (Int.toNat 0) = 48 := hz.1
    have hno : numOf s top = none := by
      match s, hz, hl with
      | c :: r, hz, hl =>
        unfold numOf
        rw [if_pos hl.2]
        split
        · rename_i n hn
          rw [if_neg]
          rintro ⟨e, _⟩
          rw [bt_zero] at hz
          exact (dec_iff hn).1 e ⟨hz.1, by rintro rfl; simp at hz⟩
        · rfl
    refine p_enter [(0, _), (1, _)] Tryz.func41 (by kernel_rfl) Tryz.ntmps41 rfl rfl (by repeat' constructor) fun B hB => ?_
    repeat' (first | (refine run (t := tb) 400 rfl ?_ ?_; (focus (repeat' (first | exact trivial | apply And.intro | omega)))) | (refine k_op rfl ?_; first | (refine v_op (g_pickT rfl rfl rfl) rfl rfl ?_) | (refine v_op (g_pickF rfl rfl rfl) rfl rfl ?_)) | (refine k_gt rfl rfl (dTt (by omega)) ?_) | (refine k_gf rfl rfl (dFf (by omega)) ?_) | (refine k_tt rfl (dTt (by omega)) ?_))
    all_goals refine k_rr (vs := [_, _]) rfl ⟨rfl, rfl, trivial⟩ rfl (List.nil_sublist _) ⟨rfl, rfl, ?_⟩
    all_goals exact ⟨_, by rw [hno]; rfl, fun m hm => (by rw [hno] at hm; cases hm), by decide, by decide⟩
  have hz0 : ¬ (bt s (Int.toNat 0) = 48 ∧ 1 < s.length) := hz
  have key : numOf s top = match digF 0 s with
      | some n => if n ≤ top then some n else none
      | none => none := by
    match s, hz, hl with
    | c :: r, hz, hl =>
      unfold numOf
      rw [if_pos hl.2]
      cases hd : digF 0 (c :: r) with
      | some n =>
        have hn := hd
        have : c :: r = decI n := (dec_iff hn).2 (by rw [bt_zero] at hz; rintro ⟨h1, h2⟩; exact hz ⟨h1, by have := List.length_pos_iff.2 h2; simp; omega⟩)
        dsimp only
        rw [← this]
        simp
      | none => rfl
  refine p_enter [(0, _), (1, _)] Tryz.func41 (by kernel_rfl) Tryz.ntmps41 rfl rfl (by repeat' constructor) fun B hB => ?_
  repeat' (first | (refine run (t := tb) 400 rfl ?_ ?_; (focus (repeat' (first | exact trivial | apply And.intro | omega)))) | (refine k_op rfl ?_; first | (refine v_op (g_pickT rfl rfl rfl) rfl rfl ?_) | (refine v_op (g_pickF rfl rfl rfl) rfl rfl ?_)) | (refine k_gf rfl rfl (dFf (by omega)) ?_) | refine k_g rfl rfl (fun _ => ?_) (fun _ => ?_) | (refine k_ff rfl (by first | rfl | (refine decide_eq_false ?_; (omega))) ?_))
  all_goals (refine k_loop (ι := Nat × Int) (fun i => (i.1 ≤ s.length ∧ i.1 ≤ 6) ∧ (0 ≤ i.2 ∧ i.2 + 1 ≤ 10 ^ i.1) ∧ digF i.2 (s.drop i.1) = digF 0 s) (fun i => [(0, S s), (1, I top), (6, I i.2), (27, I s.length), (28, I i.1)]) (fun _ => G) (fun i => []) (fun i => s.length - i.1) (0, 0) ?_ (by repeat' constructor) rfl sRr (fun i Hi => ?_))
  all_goals (first | exact ⟨⟨by dsimp only; omega, by dsimp only; omega⟩, ⟨by dsimp only; omega, by dsimp only; decide⟩, rfl⟩ | skip)
  all_goals obtain ⟨i, n⟩ := i
  all_goals dsimp only at Hi ⊢
  all_goals by_cases hi : i < s.length
  all_goals first
    | (obtain ⟨c, hc1, hc2⟩ := drop_bt hi
       have hc3 : bt s ((i : Int).toNat) = c.toNat := hc2
       have hd := Hi.2.2
       rw [hc1, digF] at hd
       have h5 : i ≤ 5 := by omega
       have hp := pow6 i h5
       by_cases hdig : 48 ≤ c.toNat ∧ c.toNat ≤ 57
       · rw [if_pos hdig] at hd
         repeat' (first | (refine run (t := tb) 400 rfl ?_ ?_; (focus (repeat' (first | exact trivial | apply And.intro | omega)))) | (refine k_op rfl ?_; (refine v_op (g_pickF rfl rfl rfl) rfl rfl ?_)) | (refine k_gf rfl rfl (dFf (by omega)) ?_) | (refine k_tt rfl (dTt (by omega)) ?_) | (refine k_ff rfl (dFf (by omega)) ?_))
         refine k_rd (i + 1, 10 * n + ((c.toNat : Int) - 48)) ⟨⟨by dsimp only; omega, by dsimp only; omega⟩, ⟨by dsimp only; omega, by dsimp only; rw [hp.1]; omega⟩, hd⟩ (by dsimp only; omega) ?_ rfl sRr
         rw [← hc2]; repeat (first | exact trivial | refine ⟨rfl, ?_⟩)
       · rw [if_neg hdig] at hd
         have hno : numOf s top = none := by rw [key, ← hd]
         repeat' (first | (refine run (t := tb) 400 rfl ?_ ?_; (focus (repeat' (first | exact trivial | apply And.intro | omega)))) | (refine k_op rfl ?_; first | (refine v_op (g_pickT rfl rfl rfl) rfl rfl ?_) | (refine v_op (g_pickF rfl rfl rfl) rfl rfl ?_)) | refine k_g rfl rfl (fun _ => ?_) (fun _ => ?_) | (refine k_tt rfl (by first | rfl | (refine decide_eq_true ?_; (omega))) ?_))
         all_goals refine k_rr (vs := [_, _]) rfl ⟨rfl, rfl, trivial⟩ rfl (List.nil_sublist _) ⟨rfl, rfl, ?_⟩
         all_goals exact ⟨_, by rw [hno]; rfl, fun m hm => (by rw [hno] at hm; cases hm), by decide, by decide⟩)
    | (have ei : i = s.length := by omega
       have hd := Hi.2.2
       rw [ei, List.drop_length, digF] at hd
       have hno : numOf s top = if n ≤ top then some n else none := by rw [key, ← hd]
       repeat' (first | (refine run (t := tb) 400 rfl trivial ?_) | (refine k_ff rfl (dFf (by omega)) ?_))
       refine k_rr (vs := [_, _]) rfl ⟨rfl, rfl, trivial⟩ rfl (List.nil_sublist _) ⟨rfl, rfl, ?_⟩
       have hp6 : ∀ i : Nat, i ≤ 6 → (10 : Int) ^ i ≤ 1000000 := by decide
       have hp7 := hp6 i (by omega)
       have hlo := Hi.2.1.1
       have hhi := Hi.2.1.2
       refine ⟨n, ?_, fun m hm => ?_, by omega, by omega⟩
       · rw [hno, oneOf_two]
         by_cases ht : n ≤ top
         · rw [if_pos ht, decide_eq_true ht]; rfl
         · rw [if_neg ht, decide_eq_false ht]; rfl
       · rw [hno] at hm
         split at hm
         · exact Option.some.inj hm
         · cases hm)
theorem c_plainNumber {s : List UInt8} {top : Int} (h : s.length ≤ 100000000) : PuG Tryz.prog 41 [S s, I top] G (fun v => ∃ n, v = Tu [I n, Bo (numOf s top).isSome] ∧ (∀ m, numOf s top = some m → n = m)) := by
  refine (c_plainNumberB (G := G) h).mono ?_
  rintro v G' L' ⟨h1, h2, n, h3, h4, _⟩
  exact ⟨h1, h2, n, h3, h4⟩
theorem c_decimal : ∀ (k : Nat) {n : Int}, n.toNat ≤ k → 0 ≤ n ∧ n ≤ 9223372036854775807 → PuG Tryz.prog 95 [I n] G (· = S (decI n)) := by
  intro k
  induction k with
  | zero =>
    intro n hk hn
    have h1 : n < 10 := by omega
    refine p_enter [(0, _)] Tryz.func95 (by kernel_rfl) Tryz.ntmps95 rfl rfl (by repeat' constructor) fun B hB => ?_
    repeat' (first | (refine run (t := tb) 400 rfl ?_ ?_; (focus (repeat' (first | exact trivial | apply And.intro | omega)))) | (refine k_op rfl ?_; first | refine c_bsl rfl rfl rfl rfl rfl rfl fun _ => ?_ | refine v_op (g_bsB rfl rfl (by (repeat (first | exact BL.nil | apply BL.cons)); done)) rfl rfl ?_) | (refine k_tt rfl (dTt ‹_›) ?_))
    refine k_rr (vs := [_]) rfl ⟨rfl, trivial⟩ rfl (List.nil_sublist _) ⟨rfl, rfl, ?_⟩
    rw [oneOf_one, decI_lo h1 hn.1]
  | succ k ih =>
    intro n hk hn
    have hl := decI_len (n := n / 10) (by omega)
    have hl2 := decI_len (n := n % 10) (by omega)
    by_cases h1 : n < 10
    · refine p_enter [(0, _)] Tryz.func95 (by kernel_rfl) Tryz.ntmps95 rfl rfl (by repeat' constructor) fun B hB => ?_
      repeat' (first | (refine run (t := tb) 400 rfl ?_ ?_; (focus (repeat' (first | exact trivial | apply And.intro | omega)))) | (refine k_op rfl ?_; first | refine c_bsl rfl rfl rfl rfl rfl rfl fun _ => ?_ | refine v_op (g_bsB rfl rfl (by (repeat (first | exact BL.nil | apply BL.cons)); done)) rfl rfl ?_) | (refine k_tt rfl (dTt ‹_›) ?_))
      refine k_rr (vs := [_]) rfl ⟨rfl, trivial⟩ rfl (List.nil_sublist _) ⟨rfl, rfl, ?_⟩
      rw [oneOf_one, decI_lo h1 hn.1]
    · refine p_enter [(0, _)] Tryz.func95 (by kernel_rfl) Tryz.ntmps95 rfl rfl (by repeat' constructor) fun B hB => ?_
      repeat' (first | (refine run (t := tb) 400 rfl ?_ ?_; (focus (repeat' (first | exact trivial | apply And.intro | omega)))) | (refine k_op rfl ?_; (refine c_rt rfl rfl rfl (ih (by omega) ?_) rfl ?_; (focus ((omega); done)))) | (refine k_ff rfl (dFf ‹_›) ?_))
      all_goals refine k_rr (vs := [_]) rfl ⟨rfl, trivial⟩ rfl (List.nil_sublist _) ⟨rfl, rfl, ?_⟩
      all_goals rw [oneOf_one, decI_hi (n := n) h1, decI_lo (n := n % 10) (by omega) (by omega)]
theorem c_decimalN {n : Int} (hn : 0 ≤ n ∧ n ≤ 9223372036854775807) : PuG Tryz.prog 95 [I n] G (· = S (decI n)) := c_decimal n.toNat (Nat.le_refl _) hn
end Go.E
namespace Go.E
set_option maxRecDepth 20000
set_option maxHeartbeats 2000000
open Go.Proofs
variable {G : Gh}
theorem cut_count1 (c : UInt8) : ∀ s acc : List UInt8, (cutA c.toNat acc s).length = s.count c + 1
  | [], acc => by simp [cutA]
  | d :: r, acc => by
    unfold cutA
    by_cases h : d = c
    · subst h
      rw [if_pos rfl, List.length_cons, cut_count1 d r []]; simp
    · have h2 : ¬ d.toNat = c.toNat := fun e => h (UInt8.toNat_inj.1 e)
      rw [if_neg h2, cut_count1 c r _, List.count_cons]; simp [h]
theorem c_Count {s : List UInt8} {c : UInt8} : PuG Tryz.prog 143 [S s, S [c]] G (· = I (((cut c.toNat s).length : Int) - 1)) := by
  have hx : ∀ w, (callFunc 152 [S s, U8 (bt [c] (Int.toNat 0))].toArray).run Tryz.prog w = .ok (.value (I (((cut c.toNat s).length : Int) - 1))) w := fun w => by
    rw [show bt [c] (Int.toNat 0) = c.toNat from bt_zero c []]
    rw [run_callFunc_extern Tryz.func152 (by kernel_rfl) (by kernel_rfl) (by kernel_rfl) (e := Extern.BytealgCount.count) (by kernel_rfl)]
    have := Lib.run_countString (P := Tryz.prog) ⟨s.toArray⟩ (c.toNat : Int) w
    rw [this]
    simp only [Result.andThen]
    have e : (cut c.toNat s).length = s.count c + 1 := cut_count1 c s []
    rw [e]
    simp [Lib.countByte]
  refine p_enter [(0, _), (1, _)] Tryz.func143 (by kernel_rfl) Tryz.ntmps143 rfl rfl (by repeat' constructor) fun B hB => ?_
  repeat' (first | (refine run (t := tb) 400 rfl ?_ ?_; (focus (repeat' (first | exact trivial | apply And.intro | omega | (simp only [List.length_append, List.length_cons, List.length_nil, Int.toNat_natCast]; omega))))) | (refine k_tt rfl rfl ?_) | (refine k_ff rfl rfl ?_))
  refine k_op rfl (v_op (g_extern rfl rfl rfl hx) rfl rfl ?_)
  repeat' (refine run (t := tb) 400 rfl trivial ?_)
  refine k_rr (vs := [_]) rfl ⟨rfl, trivial⟩ rfl (List.nil_sublist _) ⟨rfl, rfl, ?_⟩
  rfl
theorem c_genSplit {s : List UInt8} {c : UInt8} (hs : s.length ≤ 100000000) : FnS Tryz.prog 126 [S s, S [c], I 0, I (-1)] G (fun v G' => SlV G' v 1 (cut c.toNat s).length (rows strF (cut c.toNat s))) := by
  have hlen := cut_count (k := c.toNat) (s := s)
  have hpos := cut_pos (k := c.toNat) (s := s)
  have emin : min (((cut c.toNat s).length : Int) - 1 + 1) ((s.length : Int) + 1) = ((cut c.toNat s).length : Nat) := by omega
  refine b_enter [(0, _), (1, _), (2, _), (3, _)] Tryz.func126 (by kernel_rfl) Tryz.ntmps126 rfl rfl (by repeat' constructor) fun B hok hB hW => ?_
  repeat' (first | (refine run (t := tb) 400 rfl ?_ ?_; (focus (repeat' (first | exact trivial | apply And.intro | omega)))) | (refine k_op rfl ?_; first | refine v_op (g_min rfl rfl) rfl rfl ?_ | (refine c_rt rfl rfl rfl c_Count rfl ?_)) | (refine k_tt rfl rfl ?_) | (refine k_ff rfl rfl ?_))
  rw [emin]
  repeat' (first | (refine run (t := tb) 400 rfl ?_ ?_; (focus (repeat' (first | exact trivial | apply And.intro | omega)))) | (refine k_op rfl ?_; (refine c_mk rfl rfl rfl rfl (by omega) (fun _ => ?_))))
  rename_i x
  refine k_loop (ι := List (List UInt8) × List UInt8) (fun i => i.1.length + i.2.length ≤ s.length ∧ i.1.length < (cut c.toNat s).length ∧ i.1 ++ cut c.toNat i.2 = cut c.toNat s) (fun i => [(0, S i.2), (1, S [c]), (2, I 0), (3, I (((cut c.toNat s).length : Int) - 1)), (9, .slice (some ⟨x, 0, none⟩) (cut c.toNat s).length (cut c.toNat s).length), (10, I (i.1.length : Nat))]) (fun _ => G) (fun i => [.blk x (.cells (rows strF i.1 ++ zerosL [S []] ((cut c.toNat s).length - i.1.length)).toArray tStr (0, 0))]) (fun i => (cut c.toNat s).length - i.1.length) ([], s) ?_ (by repeat' constructor) rfl sRr (fun i Hi => ?_)
  · exact ⟨by simp, hpos, rfl⟩
  obtain ⟨xs, t⟩ := i
  dsimp only at Hi ⊢
  obtain ⟨hl, hlt, he⟩ := Hi
  have hel := congrArg List.length he
  rw [List.length_append] at hel
  rcases idx1_cases c.toNat t with ⟨h1, h2⟩ | ⟨m, h1, h3, h2⟩
  · have hc1 : cut c.toNat t = [t] := by rw [cut_cut1, h2]; rfl
    rw [hc1] at he hel
    simp only [List.length_cons, List.length_nil] at hel
    have hm : (cut c.toNat s).length - xs.length = 1 := by omega
    rw [hm]
    repeat' (first | (refine run (t := tb) 400 rfl ?_ ?_; (focus (repeat' (first | exact trivial | apply And.intro | omega)))) | (refine k_op rfl ?_; first | (refine v_op (g_iaddrN rfl rfl (by omega)) rfl rfl ?_) | (refine c_stRS rfl rfl rfl (by omega) ?_ ?_; (focus ((omega); done))) | (refine v_op (g_slTo rfl rfl (by omega)) rfl rfl ?_)) | (refine k_ff rfl (dFf (by omega)) ?_))
    refine Nx.sealC (b := x) fun G' hle hseg => ?_
    refine k_rr (vs := [_]) rfl ⟨rfl, trivial⟩ rfl (List.nil_sublist _) ⟨hle, rfl, ?_⟩
    have e1 : (((xs.length : Nat) : Int) + 1).toNat = (cut c.toNat s).length := by omega
    have e2 : rows strF (xs ++ [t]) ++ zerosL [S []] (1 - 1) = rows strF (cut c.toNat s) := by rw [he]; simp [zerosL]
    rw [oneOf_one, e1]
    rw [e2] at hseg
    exact ⟨by rw [rows_len], .inr ⟨_, _, _, rfl, Nat.le_refl _, hseg⟩⟩
  · have hc1 : cut c.toNat t = t.take m :: cut c.toNat (t.drop (m + 1)) := by rw [cut_cut1, h2]; rfl
    rw [hc1] at he hel
    have hp2 := cut_pos (k := c.toNat) (s := t.drop (m + 1))
    simp only [List.length_cons] at hel
    have cx_ix : PuG Tryz.prog 125 [S t, S [c]] G (· = I (m : Int)) := by have := c_Index (G := G) (s := t) (c := c); rwa [h1] at this
    obtain ⟨k, hk⟩ : ∃ k, (cut c.toNat s).length - xs.length = k + 1 := ⟨(cut c.toNat s).length - xs.length - 1, by omega⟩
    have hk2 : (cut c.toNat s).length = xs.length + k + 1 := by omega
    rw [hk]
    generalize (cut c.toNat s).length = N at *
    repeat' (first | (refine run (t := tb) 400 rfl ?_ ?_; (focus (repeat' (first | exact trivial | apply And.intro | omega | (simp only [List.length_append, List.length_cons, List.length_nil, Int.toNat_natCast]; omega))))) | (refine k_op rfl ?_; first | (refine v_op (g_iaddrN rfl rfl (by omega)) rfl rfl ?_) | (refine c_stRS rfl rfl rfl (by omega) ?_ ?_; (focus ((omega); done))) | (refine c_rt rfl rfl rfl cx_ix rfl ?_)) | (refine k_tt rfl (dTt (by omega)) ?_) | (refine k_ff rfl rfl ?_))
    have e1 : rows strF (xs ++ [t.take ((m : Int) + 0).toNat]) ++ zerosL [S []] (k + 1 - 1) = rows strF (xs ++ [t.take m]) ++ zerosL [S []] (N - (xs ++ [t.take m]).length) := by
      have e2 : N - (xs ++ [t.take m]).length = k + 1 - 1 := by simp; omega
      rw [e2]
      have e3 : ((m : Int) + 0).toNat = m := by omega
      rw [e3]
    have e4 : ((m : Int) + (([c] : List UInt8).length : Nat)).toNat = m + 1 := by simp only [List.length_cons, List.length_nil]; omega
    have e5 : ((xs.length : Nat) : Int) + 1 = ((xs ++ [t.take m]).length : Nat) := by simp
    rw [e1, e4, e5]
    refine k_rd (xs ++ [t.take m], t.drop (m + 1)) ⟨by simp; omega, by simp; omega, by simpa using he⟩ (by simp; omega) (by repeat' constructor) rfl sRr
theorem c_Split {s : List UInt8} {c : UInt8} (hs : s.length ≤ 100000000) : FnS Tryz.prog 107 [S s, S [c]] G (fun v G' => SlV G' v 1 (cut c.toNat s).length (rows strF (cut c.toNat s))) := by
  have cx_gs := c_genSplit (G := G) (c := c) hs
  refine b_enter [(0, _), (1, _)] Tryz.func107 (by kernel_rfl) Tryz.ntmps107 rfl rfl (by repeat' constructor) fun B hok hB hW => ?_
  repeat' (first | (refine run (t := tb) 400 rfl trivial ?_) | (refine k_op rfl ?_; (refine c_fns rfl rfl rfl cx_gs rfl ?_; rintro _ G hle hspl; skip)))
  all_goals refine k_rr (vs := [_]) rfl ⟨rfl, trivial⟩ rfl (List.nil_sublist _) ⟨hle, rfl, ?_⟩
  all_goals exact hspl
end Go.E
namespace Go.E
set_option maxRecDepth 20000
set_option maxHeartbeats 2000000
open Go.Proofs
variable {G : Gh}
def fiF (f : Fld) : List Value := [I f.tag, S f.name, S (sg f.kind), S (bs f.kind), S (nm f.kind), S f.stand]
instance : RowF fiF 6 := ⟨fun _ => rfl⟩
theorem tx_trim (s : List UInt8) : trimL (inS txS) (trimR (inS txS) s) = [] ↔ ∀ c ∈ s, txN c.toNat := by
  rw [trim_nil]
  exact forall_congr' fun c => forall_congr' fun _ => by rw [tx_in]; simp
def isTI (s : List UInt8) : Bool := decide (s.length ≤ 12) && s.all fun c => decide (txN c.toNat)
theorem c_isText {s : List UInt8} (h : s.length ≤ 2000000) : PuG Tryz.prog 144 [S s] G (· = Bo (isTI s)) := by
  have cx_trim := c_Trim (G := G) (s := s) (cs := txS) rfl (by kernel_rfl) rfl h
  have key := tx_trim s
  have e : isTI s = (decide (s.length ≤ 12) && decide (trimL (inS txS) (trimR (inS txS) s) = [])) := by
    unfold isTI
    congr 1
    rw [Bool.eq_iff_iff, List.all_eq_true, decide_eq_true_eq, key]
    simp
  rw [e]
  by_cases hl : s.length ≤ 12
  · rw [decide_eq_true hl, Bool.true_and]
    refine p_enter [(0, _)] Tryz.func144 (by kernel_rfl) Tryz.ntmps144 rfl rfl (by repeat' constructor) fun B hB => ?_
    repeat' (first | (refine run (t := tb) 400 rfl trivial ?_) | (refine k_op rfl ?_; first | (refine v_op (g_pickT rfl rfl rfl) rfl rfl ?_) | (refine c_rt rfl rfl rfl cx_trim rfl ?_)) | (refine k_gt rfl rfl (dTt (by omega)) ?_))
    all_goals refine k_rr (vs := [_]) rfl ⟨rfl, trivial⟩ rfl (List.nil_sublist _) ⟨rfl, rfl, ?_⟩
    all_goals rfl
  · rw [decide_eq_false hl, Bool.false_and]
    refine p_enter [(0, _)] Tryz.func144 (by kernel_rfl) Tryz.ntmps144 rfl rfl (by repeat' constructor) fun B hB => ?_
    repeat' (first | (refine run (t := tb) 400 rfl trivial ?_) | (refine k_op rfl ?_; (refine v_op (g_pickF rfl rfl rfl) rfl rfl ?_)) | (refine k_gf rfl rfl (dFf (by omega)) ?_))
    all_goals refine k_rr (vs := [_]) rfl ⟨rfl, trivial⟩ rfl (List.nil_sublist _) ⟨rfl, rfl, ?_⟩
    all_goals rfl
theorem isTx_in {s : List UInt8} : (isTx s && decide (s ≠ [39, 39])) = (decide (2 < s.length) && (decide (bt s 0 = 39) && (decide (bt s (s.length - 1) = 39) && isTI ((s.take (s.length - 1)).drop 1)))) := by
  rw [Bool.eq_iff_iff]
  simp only [Bool.and_eq_true, decide_eq_true_eq, isTx, isTI, List.all_eq_true]
  constructor
  · rintro ⟨⟨h1, h2, h3, h4⟩, h5⟩
    have hl : 2 < s.length := by
      rcases Nat.lt_or_ge 2 s.length with h6 | h6
      · exact h6
      · exfalso
        match s, h1, h6, h2, h3 with
        | [a, b], _, _, h2, h3 =>
          rw [bt_zero] at h2
          simp only [List.length_cons, List.length_nil] at h3
          rw [show (0 + 1 + 1 - 1) = 0 + 1 from rfl, bt_succ, bt_zero] at h3
          have e1 : a = 39 := UInt8.toNat_inj.1 h2
          have e2 : b = 39 := UInt8.toNat_inj.1 h3
          subst e1; subst e2; exact h5 rfl
    refine ⟨hl, h2, h3, by simp; omega, fun c hc => ?_⟩
    obtain ⟨i, hi, rfl⟩ := List.mem_iff_getElem.1 hc
    simp only [List.length_drop, List.length_take] at hi
    have e : bt s (i + 1) = (((s.take (s.length - 1)).drop 1)[i]'(by simp; omega)).toNat := by
      simp [bt, List.getD, List.getElem?_eq_getElem (show i + 1 < s.length by omega)]
    rw [← e]
    rcases h4 (i + 1) (by omega) with h6 | h6
    · omega
    · exact h6
  · rintro ⟨hl, h2, h3, h4, h5⟩
    simp only [List.length_drop, List.length_take] at h4
    refine ⟨⟨by omega, h2, h3, fun i hi => ?_⟩, fun e => by subst e; simp at hl⟩
    rcases Nat.eq_zero_or_pos i with h6 | h6
    · exact .inl h6
    · refine .inr ?_
      have e : bt s i = (((s.take (s.length - 1)).drop 1)[i - 1]'(by simp; omega)).toNat := by
        have e1 : i - 1 + 1 = i := by omega
        simp [bt, List.getD, List.getElem?_eq_getElem (show i < s.length by omega), e1]
      rw [e]
      exact h5 _ (List.getElem_mem _)
theorem c_standing {b v : List UInt8} (h : v.length ≤ 2000000) : PuG Tryz.prog 127 [S b, S v] G (· = Bo (standOk b v)) := by
  by_cases h1 : b = [110]
  · have e : standOk b v = ((numOf v 999999).isSome && decide (v ≠ [48])) := by rw [standOk, if_pos h1]
    rw [e]
    rcases hn : numOf v 999999 with _ | m
    · refine p_enter [(0, _), (1, _)] Tryz.func127 (by kernel_rfl) Tryz.ntmps127 rfl rfl (by repeat' constructor) fun B hB => ?_
      repeat' (first | (refine run (t := tb) 400 rfl trivial ?_) | (refine k_op rfl ?_; first | (refine v_op (g_pickF rfl rfl rfl) rfl rfl ?_) | (refine c_pu rfl rfl rfl (c_plainNumber (by omega)) rfl ?_; rintro _ ⟨n, rfl, hnum⟩)) | (refine k_gf rfl rfl ?_ ?_; (focus ((simp [*]; done); done))) | (refine k_tt rfl (dTt ‹_›) ?_))
      all_goals refine k_rr (vs := [_]) rfl ⟨rfl, trivial⟩ rfl (List.nil_sublist _) ⟨rfl, rfl, ?_⟩
      all_goals (simp [*])
    · have hm := numOf_le hn
      have h0 : 0 ≤ m := by
        unfold numOf at hn
        split at hn
        · split at hn
          · rename_i hd
            split at hn
            · simp only [Option.some.injEq] at hn; subst hn; exact digF_nn (Int.le_refl 0) hd
            · cases hn
          · cases hn
        · cases hn
      have ev : decide (v ≠ [48]) = decide (0 < m) := by
        refine decide_eq_decide.2 ?_
        rw [hm.2.1]
        constructor
        · intro h2
          rcases Int.lt_or_le 0 m with h3 | h3
          · exact h3
          · have : m = 0 := by omega
            subst this
            exact absurd (by rw [decI_lo (by omega) (by omega)]; rfl) h2
        · intro h2 h3
          obtain ⟨c, r, e2, hc⟩ := decI_head m.toNat (Nat.le_refl _) (by omega)
          rw [e2] at h3
          simp only [List.cons.injEq] at h3
          exact hc (by rw [h3.1]; rfl)
      have cx_pnum : PuG Tryz.prog 41 [S v, I 999999] G (· = Tu [I m, Bo true]) := by
        refine (c_plainNumber (G := G) (top := 999999) (s := v) (by omega)).mono ?_
        rintro w G' L' ⟨h2, h3, n, rfl, h4⟩
        exact ⟨h2, h3, by rw [hn, h4 m hn]; rfl⟩
      rw [ev]
      refine p_enter [(0, _), (1, _)] Tryz.func127 (by kernel_rfl) Tryz.ntmps127 rfl rfl (by repeat' constructor) fun B hB => ?_
      repeat' (first | (refine run (t := tb) 400 rfl trivial ?_) | (refine k_op rfl ?_; first | (refine v_op (g_pickT rfl rfl rfl) rfl rfl ?_) | (refine c_rt rfl rfl rfl cx_pnum rfl ?_)) | (refine k_gt rfl rfl rfl ?_) | (refine k_tt rfl (dTt ‹_›) ?_))
      all_goals refine k_rr (vs := [_]) rfl ⟨rfl, trivial⟩ rfl (List.nil_sublist _) ⟨rfl, rfl, ?_⟩
      all_goals (simp [*])
  by_cases h2 : b = [116]
  · have e : standOk b v = (isTx v && decide (v ≠ [39, 39])) := by rw [standOk, if_neg h1, if_pos h2]
    rw [e, isTx_in]
    have e4 : (((v.length : Nat) : Int) - 1).toNat = v.length - 1 := by omega
    by_cases hl : 2 < v.length
    case neg =>
      rw [decide_eq_false hl, Bool.false_and]
      refine p_enter [(0, _), (1, _)] Tryz.func127 (by kernel_rfl) Tryz.ntmps127 rfl rfl (by repeat' constructor) fun B hB => ?_
      repeat' (first | (refine run (t := tb) 400 rfl trivial ?_) | (refine k_op rfl ?_; (refine v_op (g_pickF rfl rfl rfl) rfl rfl ?_)) | (refine k_gf rfl rfl (by first | rfl | (refine decide_eq_false ?_; (omega))) ?_) | (refine k_tt rfl (dTt ‹_›) ?_) | (refine k_ff rfl (dFf ‹_›) ?_))
      all_goals refine k_rr (vs := [_]) rfl ⟨rfl, trivial⟩ rfl (List.nil_sublist _) ⟨rfl, rfl, ?_⟩
      all_goals rfl
    rw [decide_eq_true hl, Bool.true_and]
    by_cases hq : bt v 0 = 39
    case neg =>
      have hq2 : ¬ bt v (Int.toNat 0) = 39 := hq
      rw [decide_eq_false hq, Bool.false_and]
      refine p_enter [(0, _), (1, _)] Tryz.func127 (by kernel_rfl) Tryz.ntmps127 rfl rfl (by repeat' constructor) fun B hB => ?_
      repeat' (first | (refine run (t := tb) 400 rfl ?_ ?_; (focus (repeat' (first | exact trivial | apply And.intro | omega)))) | (refine k_op rfl ?_; first | (refine v_op (g_pickT rfl rfl rfl) rfl rfl ?_) | (refine v_op (g_pickF rfl rfl rfl) rfl rfl ?_)) | (refine k_gt rfl rfl (dTt (by omega)) ?_) | (refine k_gf rfl rfl (by first | rfl | (refine decide_eq_false ?_; (omega))) ?_) | (refine k_tt rfl (dTt ‹_›) ?_) | (refine k_ff rfl (dFf ‹_›) ?_))
      all_goals refine k_rr (vs := [_]) rfl ⟨rfl, trivial⟩ rfl (List.nil_sublist _) ⟨rfl, rfl, ?_⟩
      all_goals rfl
    have hq2 : bt v (Int.toNat 0) = 39 := hq
    rw [decide_eq_true hq, Bool.true_and]
    by_cases hr : bt v (v.length - 1) = 39
    case neg =>
      have hr2 : ¬ bt v (((v.length : Nat) : Int) - 1).toNat = 39 := by rw [e4]; exact hr
      rw [decide_eq_false hr, Bool.false_and]
      refine p_enter [(0, _), (1, _)] Tryz.func127 (by kernel_rfl) Tryz.ntmps127 rfl rfl (by repeat' constructor) fun B hB => ?_
      repeat' (first | (refine run (t := tb) 400 rfl ?_ ?_; (focus (repeat' (first | exact trivial | apply And.intro | omega)))) | (refine k_op rfl ?_; first | (refine v_op (g_pickT rfl rfl rfl) rfl rfl ?_) | (refine v_op (g_pickF rfl rfl rfl) rfl rfl ?_)) | (refine k_gt rfl rfl (dTt (by omega)) ?_) | (refine k_gf rfl rfl (dFf (by omega)) ?_) | (refine k_tt rfl (dTt ‹_›) ?_) | (refine k_ff rfl (dFf ‹_›) ?_))
      all_goals refine k_rr (vs := [_]) rfl ⟨rfl, trivial⟩ rfl (List.nil_sublist _) ⟨rfl, rfl, ?_⟩
      all_goals rfl
    have hr2 : bt v (((v.length : Nat) : Int) - 1).toNat = 39 := by rw [e4]; exact hr
    rw [decide_eq_true hr, Bool.true_and]
    refine p_enter [(0, _), (1, _)] Tryz.func127 (by kernel_rfl) Tryz.ntmps127 rfl rfl (by repeat' constructor) fun B hB => ?_
    repeat' (first | (refine run (t := tb) 400 rfl ?_ ?_; (focus (repeat' (first | exact trivial | apply And.intro | omega)))) | (refine k_op rfl ?_; first | (refine v_op (g_pickT rfl rfl rfl) rfl rfl ?_) | (refine c_rt rfl rfl rfl (c_isText ?_) rfl ?_; (focus ((simp; omega); done)))) | (refine k_gt rfl rfl (dTt (by omega)) ?_) | (refine k_tt rfl (dTt ‹_›) ?_) | (refine k_ff rfl (dFf ‹_›) ?_))
    all_goals refine k_rr (vs := [_]) rfl ⟨rfl, trivial⟩ rfl (List.nil_sublist _) ⟨rfl, rfl, ?_⟩
    all_goals rw [e4]; rfl
  · have e : standOk b v = (decide (b = [102]) && decide (v = [121, 101, 115])) := by
      rw [standOk, if_neg h1, if_neg h2]
      by_cases h3 : b = [102]
      · rw [if_pos h3, decide_eq_true h3, Bool.true_and]
      · rw [if_neg h3, decide_eq_false h3, Bool.false_and]
    rw [e]
    refine p_enter [(0, _), (1, _)] Tryz.func127 (by kernel_rfl) Tryz.ntmps127 rfl rfl (by repeat' constructor) fun B hB => ?_
    repeat' (first | (refine run (t := tb) 400 rfl trivial ?_) | (refine k_op rfl ?_; first | (refine v_op (g_pickT rfl rfl rfl) rfl rfl ?_) | (refine v_op (g_pickF rfl rfl rfl) rfl rfl ?_)) | refine k_g rfl rfl (fun _ => ?_) (fun _ => ?_) | (refine k_ff rfl (dFf ‹_›) ?_))
    all_goals refine k_rr (vs := [_]) rfl ⟨rfl, trivial⟩ rfl (List.nil_sublist _) ⟨rfl, rfl, ?_⟩
    all_goals (simp [*])
theorem stand_bs {c v : List UInt8} (h : kindOk c = true) : (decide (sg c = []) && standOk (bs c) v) = standOk c v := by
  match c, h with
  | x :: r, h =>
    by_cases h1 : x.toNat = 91 ∨ x.toNat = 63
    · have hs : sg (x :: r) ≠ [] := by
        unfold sg
        rw [core, if_pos h1]
        have := core_len r
        intro e
        have e2 := congrArg List.length e
        simp only [List.length_take, List.length_cons, List.length_nil] at e2
        omega
      rw [decide_eq_false hs, Bool.false_and]
      unfold standOk
      rw [if_neg, if_neg, if_neg]
      all_goals (intro e; simp only [List.cons.injEq] at e; have := congrArg UInt8.toNat e.1; revert this; rcases h1 with h1 | h1 <;> rw [h1] <;> decide)
    · have hc : core (x :: r) = x :: r := by rw [core, if_neg h1]
      have hs : sg (x :: r) = [] := by unfold sg; rw [hc]; simp
      rw [decide_eq_true hs, Bool.true_and]
      by_cases h2 : x.toNat = 64
      · have hb : bs (x :: r) = [64] := by unfold bs; rw [hc]; simp [bsT, h2]
        rw [hb]
        have e1 : standOk [64] v = false := by unfold standOk; simp
        rw [e1]
        unfold standOk
        rw [if_neg, if_neg, if_neg]
        all_goals (intro e; simp only [List.cons.injEq] at e; have := congrArg UInt8.toNat e.1; revert this; rw [h2]; decide)
      · have hb : bs (x :: r) = x :: r := by unfold bs; rw [hc]; simp [bsT, h2]
        rw [hb]
end Go.E
namespace Go.E
set_option maxRecDepth 20000
set_option maxHeartbeats 2000000
open Go.Proofs
variable {G : Gh}
def FiPost (s : List UInt8) (k : Nat) (v : Value) (_ : Gh) : Prop := ∃ f ok, v = Tu [Ag (fiF f), Bo ok] ∧ fldOf s k = if ok = true then some f else none
theorem c_splitX {s : List UInt8} {xs : List (List UInt8)} {k : Nat} {c : UInt8} (n : Nat) (h : s.length ≤ 100000000) (hc : c.toNat = k) (e : cut k s = xs) (hn : xs.length = n) (h0 : 0 < n) :
    FnS Tryz.prog 107 [S s, S [c]] G (fun v G' => ∃ b o cap, v = .slice (some ⟨b, o, none⟩) n cap ∧ Seg G' b o (rows strF xs)) := by
  subst hn; subst e; subst hc
  refine (c_Split (G := G) (s := s) (c := c) h).mono ?_
  rintro v G' L' ⟨h1, h2, h3⟩
  obtain ⟨b, o, cap, rfl, hs⟩ := h3.expl h0
  exact ⟨h1, h2, b, o, cap, rfl, hs⟩
theorem c_kindX {s : List UInt8} (h : s.length ≤ 2000000) (e : kindOk s = true) : PuG Tryz.prog 65 [S s] G (· = Tu [Ag (kdF s), Bo true]) := by
  refine (c_readKind (G := G) h).mono ?_
  rintro v G' L' ⟨h1, h2, a, b, c, rfl, h3⟩
  obtain ⟨rfl, rfl, rfl⟩ := h3 e
  exact ⟨h1, h2, by rw [e]; rfl⟩
theorem c_pnumX {s : List UInt8} {top m : Int} (h : s.length ≤ 100000000) (e : numOf s top = some m) : PuG Tryz.prog 41 [S s, I top] G (· = Tu [I m, Bo true]) := by
  refine (c_plainNumber (G := G) (top := top) h).mono ?_
  rintro v G' L' ⟨h1, h2, n, rfl, h3⟩
  exact ⟨h1, h2, by rw [e, h3 m e]; rfl⟩
theorem c_pnumN {s : List UInt8} {top : Int} (h : s.length ≤ 100000000) (e : numOf s top = none) : PuG Tryz.prog 41 [S s, I top] G (fun v => ∃ n, v = Tu [I n, Bo false]) := by
  refine (c_plainNumber (G := G) (top := top) h).mono ?_
  rintro v G' L' ⟨h1, h2, n, rfl, h3⟩
  exact ⟨h1, h2, n, by rw [e]; rfl⟩
theorem c_readField0 {s : List UInt8} {k : Nat} (h : s.length ≤ 1000) (e : (cut 58 (cut1 61 s).1).length ≠ if k = 69 then 2 else 3) : FnS Tryz.prog 108 [S s, U8 k] G (FiPost s k) := by
  have hcl := cut1_len (k := 61) (s := s)
  have cx_cut : PuG Tryz.prog 83 [S s, S [61]] G (· = Tu [S (cut1 61 s).1, S (cut1 61 s).2.1, Bo (cut1 61 s).2.2]) := c_Cut (c := 61) (by omega)
  have cx_split := c_splitX (G := G) (c := 58) (k := 58) _ (s := (cut1 61 s).1) (by omega) rfl rfl rfl cut_pos
  have hno : fldOf s k = none := by
    rw [← fldI_eq]
    unfold fldI
    split
    · rename_i e2
      rw [e2] at e
      split
      · rename_i hk; simp [hk.1] at e
      · rfl
    · rename_i e2
      rw [e2] at e
      split
      · rfl
      · rename_i hk; simp [hk] at e
    · rfl
  have hpos := cut_pos (k := 58) (s := (cut1 61 s).1)
  generalize hn : (cut 58 (cut1 61 s).1).length = n at *
  by_cases hk : k = 69
  · rw [if_pos hk] at e
    refine b_enter [(0, _), (1, _)] Tryz.func108 (by kernel_rfl) Tryz.ntmps108 rfl rfl (by repeat' constructor) fun B hok hB hW => ?_
    repeat' (first | (refine run (t := tb) 400 rfl trivial ?_) | (refine k_op rfl ?_; first | refine c_al rfl rfl fun _ => ?_ | refine v_op (g_lenL rfl) rfl rfl ?_ | refine v_op (g_bld rfl rfl) rfl rfl ?_ | refine c_stA rfl rfl rfl rfl rfl rfl ?_ | (refine c_rt rfl rfl rfl cx_cut rfl ?_) | (refine c_fns rfl rfl rfl cx_split rfl ?_; rintro _ G hle ⟨b1, o1, cap1, rfl, hseg⟩; skip)) | (refine k_tt rfl (dTt (by omega)) ?_))
    all_goals refine k_rr (vs := [_, _]) rfl ⟨rc_A rfl rfl rfl rfl, rfl, trivial⟩ rfl (List.nil_sublist _) ⟨hle, rfl, ?_⟩
    all_goals exact ⟨default, false, rfl, by rw [hno]; rfl⟩
  · rw [if_neg hk] at e
    refine b_enter [(0, _), (1, _)] Tryz.func108 (by kernel_rfl) Tryz.ntmps108 rfl rfl (by repeat' constructor) fun B hok hB hW => ?_
    repeat' (first | (refine run (t := tb) 400 rfl trivial ?_) | (refine k_op rfl ?_; first | refine c_al rfl rfl fun _ => ?_ | refine v_op (g_lenL rfl) rfl rfl ?_ | refine v_op (g_bld rfl rfl) rfl rfl ?_ | refine c_stA rfl rfl rfl rfl rfl rfl ?_ | (refine c_rt rfl rfl rfl cx_cut rfl ?_) | (refine c_fns rfl rfl rfl cx_split rfl ?_; rintro _ G hle ⟨b1, o1, cap1, rfl, hseg⟩; skip)) | (refine k_tt rfl (dTt (by omega)) ?_) | (refine k_ff rfl (dFf (by omega)) ?_))
    all_goals refine k_rr (vs := [_, _]) rfl ⟨rc_A rfl rfl rfl rfl, rfl, trivial⟩ rfl (List.nil_sublist _) ⟨hle, rfl, ?_⟩
    all_goals exact ⟨default, false, rfl, by rw [hno]; rfl⟩
theorem c_readField2 {s a b : List UInt8} (h : s.length ≤ 1000) (e : cut 58 (cut1 61 s).1 = [a, b]) : FnS Tryz.prog 108 [S s, U8 (69 : Nat)] G (FiPost s 69) := by
  have hcl := cut1_len (k := 61) (s := s)
  have cx_cut : PuG Tryz.prog 83 [S s, S [61]] G (· = Tu [S (cut1 61 s).1, S (cut1 61 s).2.1, Bo (cut1 61 s).2.2]) := c_Cut (c := 61) (by omega)
  have cx_split := c_splitX (G := G) (c := 58) (k := 58) 2 (s := (cut1 61 s).1) (by omega) rfl e rfl (by omega)
  have ha : a.length ≤ 1000 := by have := cut_len (k := 58) (s := (cut1 61 s).1) (x := a) (by rw [e]; simp); omega
  have hb : b.length ≤ 1000 := by have := cut_len (k := 58) (s := (cut1 61 s).1) (x := b) (by rw [e]; simp); omega
  have hall : fldOf s 69 = if (cut1 61 s).2.2 = false then match numOf a 200 with
      | some n => if 1 ≤ n ∧ isNm b = true then some ⟨n, b, [], []⟩ else none
      | none => none else none := by
    rw [← fldI_eq]; unfold fldI; rw [e]; simp <;> rfl
  generalize hto : (cut1 61 s).2.2 = told at *
  generalize hva : (cut1 61 s).2.1 = val at *
  rcases hm : numOf a 200 with _ | m
  · have hno : fldOf s 69 = none := by rw [hall, hm]; simp
    have cx_pn : ∀ G, PuG Tryz.prog 41 [S a, I 200] G (fun v => ∃ n, v = Tu [I n, Bo false]) := fun G => c_pnumN (by omega) hm
    refine b_enter [(0, _), (1, _)] Tryz.func108 (by kernel_rfl) Tryz.ntmps108 rfl rfl (by repeat' constructor) fun B hok hB hW => ?_
    repeat' (first | (refine run (t := tb) 400 rfl trivial ?_) | (refine k_op rfl ?_; first | refine c_al rfl rfl fun _ => ?_ | refine v_op (g_lenL rfl) rfl rfl ?_ | refine v_op (g_bld rfl rfl) rfl rfl ?_ | refine c_stA rfl rfl rfl rfl rfl rfl ?_ | (refine v_op (g_iaddr rfl rfl (by omega)) rfl rfl ?_) | refine v_op (g_ldS rfl rfl (by assumption) rfl rfl) rfl rfl ?_ | (refine v_op (g_pickT rfl rfl rfl) rfl rfl ?_) | (refine c_rt rfl rfl rfl cx_cut rfl ?_) | (refine c_fns rfl rfl rfl cx_split rfl ?_; rintro _ G hle ⟨b1, o1, cap1, rfl, hseg⟩; skip) | (refine c_pu rfl rfl rfl (cx_pn _) rfl ?_; rintro _ ⟨n, rfl⟩)) | (refine k_gt rfl rfl rfl ?_) | (refine k_tt rfl rfl ?_) | (refine k_ff rfl rfl ?_))
    all_goals refine k_rr (vs := [_, _]) rfl ⟨rc_A rfl rfl rfl rfl, rfl, trivial⟩ rfl (List.nil_sublist _) ⟨hle, rfl, ?_⟩
    all_goals exact ⟨default, false, rfl, by rw [hno]; rfl⟩
  have cx_pq : ∀ G, PuG Tryz.prog 41 [S a, I 200] G (· = Tu [I m, Bo true]) := fun G => c_pnumX (by omega) hm
  rw [hm] at hall
  dsimp only at hall
  by_cases hg : 1 ≤ m ∧ isNm b = true
  · rw [if_pos hg] at hall
    have hg1 := hg.1
    have hg2 : (!isNm b) = false := by rw [hg.2]; rfl
    cases told with
    | true =>
      refine b_enter [(0, _), (1, _)] Tryz.func108 (by kernel_rfl) Tryz.ntmps108 rfl rfl (by repeat' constructor) fun B hok hB hW => ?_
      repeat' (first | (refine run (t := tb) 400 rfl trivial ?_) | (refine k_op rfl ?_; first | refine c_al rfl rfl fun _ => ?_ | refine v_op (g_lenL rfl) rfl rfl ?_ | refine v_op (g_bld rfl rfl) rfl rfl ?_ | refine c_stA rfl rfl rfl rfl rfl rfl ?_ | (refine v_op (g_iaddr rfl rfl (by omega)) rfl rfl ?_) | refine v_op (g_ld rfl rfl rfl) rfl rfl ?_ | refine v_op (g_ldS rfl rfl (by assumption) rfl rfl) rfl rfl ?_ | (refine v_op (g_pickT rfl rfl rfl) rfl rfl ?_) | (refine v_op (g_pickF rfl rfl rfl) rfl rfl ?_) | (refine c_rt rfl rfl rfl cx_cut rfl ?_) | (refine c_fns rfl rfl rfl cx_split rfl ?_; rintro _ G hle ⟨b1, o1, cap1, rfl, hseg⟩; skip) | (refine c_rt rfl rfl rfl (cx_pq _) rfl ?_) | (refine c_rt rfl rfl rfl (c_isName (by omega)) rfl ?_)) | (refine k_gt rfl rfl rfl ?_) | (refine k_gf rfl rfl (by first | rfl | (refine decide_eq_false ?_; (omega))) ?_) | (refine k_tt rfl rfl ?_) | (refine k_ff rfl (by first | rfl | assumption) ?_))
      all_goals refine k_rr (vs := [_, _]) rfl ⟨rc_A rfl rfl rfl rfl, rfl, trivial⟩ rfl (List.nil_sublist _) ⟨hle, rfl, ?_⟩
      all_goals exact ⟨default, false, rfl, by rw [hall]; rfl⟩
    | false =>
      have hv : val = [] := by have := cut1_none hto; rw [this] at hva; exact hva.symm
      refine b_enter [(0, _), (1, _)] Tryz.func108 (by kernel_rfl) Tryz.ntmps108 rfl rfl (by repeat' constructor) fun B hok hB hW => ?_
      repeat' (first | (refine run (t := tb) 400 rfl trivial ?_) | (refine k_op rfl ?_; first | refine c_al rfl rfl fun _ => ?_ | refine v_op (g_lenL rfl) rfl rfl ?_ | refine v_op (g_bld rfl rfl) rfl rfl ?_ | refine c_stA rfl rfl rfl rfl rfl rfl ?_ | (refine v_op (g_iaddr rfl rfl (by omega)) rfl rfl ?_) | refine v_op (g_ld rfl rfl rfl) rfl rfl ?_ | refine v_op (g_ldA rfl rfl rfl rfl) rfl rfl ?_ | refine v_op (g_ldS rfl rfl (by assumption) rfl rfl) rfl rfl ?_ | (refine v_op (g_pickF rfl rfl rfl) rfl rfl ?_) | (refine c_rt rfl rfl rfl cx_cut rfl ?_) | (refine c_fns rfl rfl rfl cx_split rfl ?_; rintro _ G hle ⟨b1, o1, cap1, rfl, hseg⟩; skip) | (refine c_rt rfl rfl rfl (cx_pq _) rfl ?_) | (refine c_rt rfl rfl rfl (c_isName (by omega)) rfl ?_)) | (refine k_gf rfl rfl (by first | rfl | (refine decide_eq_false ?_; (omega))) ?_) | (refine k_tt rfl rfl ?_) | (refine k_ff rfl (by first | rfl | assumption) ?_))
      all_goals refine k_rr (vs := [_, _]) rfl ⟨rc_A rfl rfl rfl rfl, rfl, trivial⟩ rfl (List.nil_sublist _) ⟨hle, rfl, ?_⟩
      all_goals exact ⟨⟨m, b, [], []⟩, true, by rw [hv]; rfl, by rw [hall]; rfl⟩
  · rw [if_neg hg] at hall
    have hno : fldOf s 69 = none := by rw [hall]; simp
    by_cases h1 : m < 1
    case' neg => have hg2 : (!isNm b) = true := by
                  cases hb2 : isNm b with
                  | false => rfl
                  | true => exact absurd ⟨by omega, hb2⟩ hg
    all_goals refine b_enter [(0, _), (1, _)] Tryz.func108 (by kernel_rfl) Tryz.ntmps108 rfl rfl (by repeat' constructor) fun B hok hB hW => ?_
    all_goals repeat' (first | (refine run (t := tb) 400 rfl trivial ?_) | (refine k_op rfl ?_; first | refine c_al rfl rfl fun _ => ?_ | refine v_op (g_lenL rfl) rfl rfl ?_ | refine v_op (g_bld rfl rfl) rfl rfl ?_ | refine c_stA rfl rfl rfl rfl rfl rfl ?_ | (refine v_op (g_iaddr rfl rfl (by omega)) rfl rfl ?_) | refine v_op (g_ld rfl rfl rfl) rfl rfl ?_ | refine v_op (g_ldS rfl rfl (by assumption) rfl rfl) rfl rfl ?_ | (refine v_op (g_pickT rfl rfl rfl) rfl rfl ?_) | (refine v_op (g_pickF rfl rfl rfl) rfl rfl ?_) | (refine c_rt rfl rfl rfl cx_cut rfl ?_) | (refine c_fns rfl rfl rfl cx_split rfl ?_; rintro _ G hle ⟨b1, o1, cap1, rfl, hseg⟩; skip) | (refine c_rt rfl rfl rfl (cx_pq _) rfl ?_) | (refine c_rt rfl rfl rfl (c_isName (by omega)) rfl ?_)) | (refine k_gt rfl rfl (dTt ‹_›) ?_) | (refine k_gf rfl rfl (by first | rfl | (refine decide_eq_false ?_; (assumption))) ?_) | (refine k_tt rfl (by first | rfl | assumption) ?_) | (refine k_ff rfl rfl ?_))
    all_goals refine k_rr (vs := [_, _]) rfl ⟨rc_A rfl rfl rfl rfl, rfl, trivial⟩ rfl (List.nil_sublist _) ⟨hle, rfl, ?_⟩
    all_goals exact ⟨default, false, rfl, by rw [hno]; rfl⟩
theorem c_readField3 {s a b c : List UInt8} {k : Nat} (h : s.length ≤ 1000) (hk : ¬ k = 69) (e : cut 58 (cut1 61 s).1 = [a, b, c]) : FnS Tryz.prog 108 [S s, U8 k] G (FiPost s k) := by
  have hcl := cut1_len (k := 61) (s := s)
  have cx_cut : PuG Tryz.prog 83 [S s, S [61]] G (· = Tu [S (cut1 61 s).1, S (cut1 61 s).2.1, Bo (cut1 61 s).2.2]) := c_Cut (c := 61) (by omega)
  have cx_split := c_splitX (G := G) (c := 58) (k := 58) 3 (s := (cut1 61 s).1) (by omega) rfl e rfl (by omega)
  have ha : a.length ≤ 1000 := by have := cut_len (k := 58) (s := (cut1 61 s).1) (x := a) (by rw [e]; simp); omega
  have hb : b.length ≤ 1000 := by have := cut_len (k := 58) (s := (cut1 61 s).1) (x := b) (by rw [e]; simp); omega
  have hc : c.length ≤ 1000 := by have := cut_len (k := 58) (s := (cut1 61 s).1) (x := c) (by rw [e]; simp); omega
  have hall : fldOf s k = match numOf a 200 with
      | some n => if (1 ≤ n ∧ isNm b = true) ∧ kindOk c = true ∧ ((cut1 61 s).2.2 = true → k = 82 ∧ standOk c (cut1 61 s).2.1 = true) then some ⟨n, b, c, (cut1 61 s).2.1⟩ else none
      | none => none := by
    rw [← fldI_eq]; unfold fldI; rw [e]; simp [hk] <;> rfl
  generalize hto : (cut1 61 s).2.2 = told at *
  generalize hva : (cut1 61 s).2.1 = val at *
  rcases hm : numOf a 200 with _ | m
  · have hno : fldOf s k = none := by rw [hall, hm]
    have cx_pn : ∀ G, PuG Tryz.prog 41 [S a, I 200] G (fun v => ∃ n, v = Tu [I n, Bo false]) := fun G => c_pnumN (by omega) hm
    refine b_enter [(0, _), (1, _)] Tryz.func108 (by kernel_rfl) Tryz.ntmps108 rfl rfl (by repeat' constructor) fun B hok hB hW => ?_
    repeat' (first | (refine run (t := tb) 400 rfl trivial ?_) | (refine k_op rfl ?_; first | refine c_al rfl rfl fun _ => ?_ | refine v_op (g_lenL rfl) rfl rfl ?_ | refine v_op (g_bld rfl rfl) rfl rfl ?_ | refine c_stA rfl rfl rfl rfl rfl rfl ?_ | (refine v_op (g_iaddr rfl rfl (by omega)) rfl rfl ?_) | refine v_op (g_ldS rfl rfl (by assumption) rfl rfl) rfl rfl ?_ | (refine v_op (g_pickT rfl rfl rfl) rfl rfl ?_) | (refine c_rt rfl rfl rfl cx_cut rfl ?_) | (refine c_fns rfl rfl rfl cx_split rfl ?_; rintro _ G hle ⟨b1, o1, cap1, rfl, hseg⟩; skip) | (refine c_pu rfl rfl rfl (cx_pn _) rfl ?_; rintro _ ⟨n, rfl⟩)) | (refine k_gt rfl rfl rfl ?_) | (refine k_tt rfl rfl ?_) | (refine k_ff rfl (by first | rfl | (refine decide_eq_false ?_; (omega))) ?_))
    all_goals refine k_rr (vs := [_, _]) rfl ⟨rc_A rfl rfl rfl rfl, rfl, trivial⟩ rfl (List.nil_sublist _) ⟨hle, rfl, ?_⟩
    all_goals exact ⟨default, false, rfl, by rw [hno]; rfl⟩
  have cx_pq : ∀ G, PuG Tryz.prog 41 [S a, I 200] G (· = Tu [I m, Bo true]) := fun G => c_pnumX (by omega) hm
  rw [hm] at hall
  dsimp only at hall
  by_cases hg : 1 ≤ m ∧ isNm b = true
  case neg =>
    have hno : fldOf s k = none := by rw [hall, if_neg fun h => hg h.1]
    by_cases h1 : m < 1
    case' neg => have hg2 : (!isNm b) = true := by
                  cases hb2 : isNm b with
                  | false => rfl
                  | true => exact absurd ⟨by omega, hb2⟩ hg
    all_goals refine b_enter [(0, _), (1, _)] Tryz.func108 (by kernel_rfl) Tryz.ntmps108 rfl rfl (by repeat' constructor) fun B hok hB hW => ?_
    all_goals repeat' (first | (refine run (t := tb) 400 rfl trivial ?_) | (refine k_op rfl ?_; first | refine c_al rfl rfl fun _ => ?_ | refine v_op (g_lenL rfl) rfl rfl ?_ | refine v_op (g_bld rfl rfl) rfl rfl ?_ | refine c_stA rfl rfl rfl rfl rfl rfl ?_ | (refine v_op (g_iaddr rfl rfl (by omega)) rfl rfl ?_) | refine v_op (g_ld rfl rfl rfl) rfl rfl ?_ | refine v_op (g_ldS rfl rfl (by assumption) rfl rfl) rfl rfl ?_ | (refine v_op (g_pickT rfl rfl rfl) rfl rfl ?_) | (refine v_op (g_pickF rfl rfl rfl) rfl rfl ?_) | (refine c_rt rfl rfl rfl cx_cut rfl ?_) | (refine c_fns rfl rfl rfl cx_split rfl ?_; rintro _ G hle ⟨b1, o1, cap1, rfl, hseg⟩; skip) | (refine c_rt rfl rfl rfl (cx_pq _) rfl ?_) | (refine c_rt rfl rfl rfl (c_isName (by omega)) rfl ?_)) | (refine k_gt rfl rfl (dTt ‹_›) ?_) | (refine k_gf rfl rfl (by first | rfl | (refine decide_eq_false ?_; (assumption))) ?_) | (refine k_tt rfl (by first | rfl | assumption) ?_) | (refine k_ff rfl (by first | rfl | (refine decide_eq_false ?_; (omega))) ?_))
    all_goals refine k_rr (vs := [_, _]) rfl ⟨rc_A rfl rfl rfl rfl, rfl, trivial⟩ rfl (List.nil_sublist _) ⟨hle, rfl, ?_⟩
    all_goals exact ⟨default, false, rfl, by rw [hno]; rfl⟩
  have hg1 := hg.1
  have hg2 : (!isNm b) = false := by rw [hg.2]; rfl
  by_cases hkc : kindOk c = true
  case neg =>
    have hkc2 : kindOk c = false := by simpa using hkc
    have hno : fldOf s k = none := by rw [hall, if_neg fun h => hkc h.2.1]
    have cx_kn : ∀ G, PuG Tryz.prog 65 [S c] G (fun v => ∃ x y z, v = Tu [Ag [S x, S y, S z], Bo false]) := fun G => by
      refine (c_readKind (G := G) (s := c) (by omega)).mono ?_
      rintro v G' L' ⟨h1, h2, x, y, z, rfl, _⟩
      exact ⟨h1, h2, x, y, z, by rw [hkc2]⟩
    refine b_enter [(0, _), (1, _)] Tryz.func108 (by kernel_rfl) Tryz.ntmps108 rfl rfl (by repeat' constructor) fun B hok hB hW => ?_
    repeat' (first | (refine run (t := tb) 400 rfl trivial ?_) | (refine k_op rfl ?_; first | refine c_al rfl rfl fun _ => ?_ | refine v_op (g_lenL rfl) rfl rfl ?_ | refine v_op (g_bld rfl rfl) rfl rfl ?_ | refine c_stA rfl rfl rfl rfl rfl rfl ?_ | (refine v_op (g_iaddr rfl rfl (by omega)) rfl rfl ?_) | refine v_op (g_ld rfl rfl rfl) rfl rfl ?_ | refine v_op (g_ldS rfl rfl (by assumption) rfl rfl) rfl rfl ?_ | (refine v_op (g_pickF rfl rfl rfl) rfl rfl ?_) | (refine c_rt rfl rfl rfl cx_cut rfl ?_) | (refine c_fns rfl rfl rfl cx_split rfl ?_; rintro _ G hle ⟨b1, o1, cap1, rfl, hseg⟩; skip) | (refine c_rt rfl rfl rfl (cx_pq _) rfl ?_) | (refine c_rt rfl rfl rfl (c_isName (by omega)) rfl ?_) | (refine c_pu rfl rfl rfl (cx_kn _) rfl ?_; rintro _ ⟨x, y, z, rfl⟩)) | (refine k_gf rfl rfl (by first | rfl | (refine decide_eq_false ?_; (omega))) ?_) | (refine k_tt rfl (by first | rfl | (refine decide_eq_true ?_; (omega))) ?_) | (refine k_ff rfl (by first | rfl | assumption | (refine decide_eq_false ?_; (omega))) ?_))
    all_goals refine k_rr (vs := [_, _]) rfl ⟨rc_A rfl rfl rfl rfl, rfl, trivial⟩ rfl (List.nil_sublist _) ⟨hle, rfl, ?_⟩
    all_goals exact ⟨default, false, rfl, by rw [hno]; rfl⟩
  have cx_kq : ∀ G, PuG Tryz.prog 65 [S c] G (· = Tu [Ag [S (sg c), S (bs c), S (nm c)], Bo true]) := fun G => c_kindX (by omega) hkc
  cases told with
  | false =>
    have hv : val = [] := by have := cut1_none hto; rw [this] at hva; exact hva.symm
    have hyes : fldOf s k = some ⟨m, b, c, val⟩ := by rw [hall, if_pos ⟨hg, hkc, fun h => by cases h⟩]
    refine b_enter [(0, _), (1, _)] Tryz.func108 (by kernel_rfl) Tryz.ntmps108 rfl rfl (by repeat' constructor) fun B hok hB hW => ?_
    repeat' (first | (refine run (t := tb) 400 rfl trivial ?_) | (refine k_op rfl ?_; first | refine c_al rfl rfl fun _ => ?_ | refine v_op (g_lenL rfl) rfl rfl ?_ | refine v_op (g_bld rfl rfl) rfl rfl ?_ | refine c_stA rfl rfl rfl rfl rfl rfl ?_ | (refine v_op (g_iaddr rfl rfl (by omega)) rfl rfl ?_) | refine v_op (g_ld rfl rfl rfl) rfl rfl ?_ | refine v_op (g_ldA rfl rfl rfl rfl) rfl rfl ?_ | refine v_op (g_ldS rfl rfl (by assumption) rfl rfl) rfl rfl ?_ | (refine v_op (g_pickF rfl rfl rfl) rfl rfl ?_) | (refine c_rt rfl rfl rfl cx_cut rfl ?_) | (refine c_fns rfl rfl rfl cx_split rfl ?_; rintro _ G hle ⟨b1, o1, cap1, rfl, hseg⟩; skip) | (refine c_rt rfl rfl rfl (cx_pq _) rfl ?_) | (refine c_rt rfl rfl rfl (c_isName (by omega)) rfl ?_) | (refine c_rt rfl rfl rfl (cx_kq _) rfl ?_)) | (refine k_gf rfl rfl (by first | rfl | (refine decide_eq_false ?_; (omega))) ?_) | (refine k_tt rfl (dTt (by omega)) ?_) | (refine k_ff rfl (by first | rfl | assumption | (refine decide_eq_false ?_; (omega))) ?_))
    all_goals refine k_rr (vs := [_, _]) rfl ⟨rc_A rfl rfl rfl rfl, rfl, trivial⟩ rfl (List.nil_sublist _) ⟨hle, rfl, ?_⟩
    all_goals exact ⟨⟨m, b, c, val⟩, true, rfl, by rw [hyes]; rfl⟩
  | true =>
    have hst := stand_bs (v := val) hkc
    by_cases h82 : k = 82
    case neg =>
      have hno : fldOf s k = none := by rw [hall, if_neg fun h => h82 (h.2.2 rfl).1]
      have h83 : ¬ (k : Int) = 82 := by omega
      refine b_enter [(0, _), (1, _)] Tryz.func108 (by kernel_rfl) Tryz.ntmps108 rfl rfl (by repeat' constructor) fun B hok hB hW => ?_
      repeat' (first | (refine run (t := tb) 400 rfl trivial ?_) | (refine k_op rfl ?_; first | refine c_al rfl rfl fun _ => ?_ | refine v_op (g_lenL rfl) rfl rfl ?_ | refine v_op (g_bld rfl rfl) rfl rfl ?_ | refine c_stA rfl rfl rfl rfl rfl rfl ?_ | (refine v_op (g_iaddr rfl rfl (by omega)) rfl rfl ?_) | refine v_op (g_ld rfl rfl rfl) rfl rfl ?_ | refine v_op (g_ldS rfl rfl (by assumption) rfl rfl) rfl rfl ?_ | (refine v_op (g_pickT rfl rfl rfl) rfl rfl ?_) | (refine v_op (g_pickF rfl rfl rfl) rfl rfl ?_) | (refine c_rt rfl rfl rfl cx_cut rfl ?_) | (refine c_fns rfl rfl rfl cx_split rfl ?_; rintro _ G hle ⟨b1, o1, cap1, rfl, hseg⟩; skip) | (refine c_rt rfl rfl rfl (cx_pq _) rfl ?_) | (refine c_rt rfl rfl rfl (c_isName (by omega)) rfl ?_) | (refine c_rt rfl rfl rfl (cx_kq _) rfl ?_)) | (refine k_gt rfl rfl (by first | rfl | (refine decide_eq_true ?_; (assumption))) ?_) | (refine k_gf rfl rfl (by first | rfl | (refine decide_eq_false ?_; (omega))) ?_) | (refine k_tt rfl (by first | rfl | (refine decide_eq_true ?_; (omega))) ?_) | (refine k_ff rfl (by first | rfl | assumption | (refine decide_eq_false ?_; (omega))) ?_))
      all_goals refine k_rr (vs := [_, _]) rfl ⟨rc_A rfl rfl rfl rfl, rfl, trivial⟩ rfl (List.nil_sublist _) ⟨hle, rfl, ?_⟩
      all_goals exact ⟨default, false, rfl, by rw [hno]; rfl⟩
    subst h82
    by_cases hsg : sg c = []
    · rw [decide_eq_true hsg, Bool.true_and] at hst
      by_cases hso : standOk c val = true
      · have hyes : fldOf s 82 = some ⟨m, b, c, val⟩ := by rw [hall, if_pos ⟨hg, hkc, fun _ => ⟨rfl, hso⟩⟩]
        have hso2 : (!standOk (bs c) val) = false := by rw [hst, hso]; rfl
        refine b_enter [(0, _), (1, _)] Tryz.func108 (by kernel_rfl) Tryz.ntmps108 rfl rfl (by repeat' constructor) fun B hok hB hW => ?_
        repeat' (first | (refine run (t := tb) 400 rfl trivial ?_) | (refine k_op rfl ?_; first | refine c_al rfl rfl fun _ => ?_ | refine v_op (g_lenL rfl) rfl rfl ?_ | refine v_op (g_bld rfl rfl) rfl rfl ?_ | refine c_stA rfl rfl rfl rfl rfl rfl ?_ | (refine v_op (g_iaddr rfl rfl (by omega)) rfl rfl ?_) | refine v_op (g_ld rfl rfl rfl) rfl rfl ?_ | refine v_op (g_ldA rfl rfl rfl rfl) rfl rfl ?_ | refine v_op (g_ldS rfl rfl (by assumption) rfl rfl) rfl rfl ?_ | (refine v_op (g_pickT rfl rfl rfl) rfl rfl ?_) | (refine v_op (g_pickF rfl rfl rfl) rfl rfl ?_) | (refine c_rt rfl rfl rfl cx_cut rfl ?_) | (refine c_fns rfl rfl rfl cx_split rfl ?_; rintro _ G hle ⟨b1, o1, cap1, rfl, hseg⟩; skip) | (refine c_rt rfl rfl rfl (cx_pq _) rfl ?_) | (refine c_rt rfl rfl rfl (c_isName (by omega)) rfl ?_) | (refine c_rt rfl rfl rfl (cx_kq _) rfl ?_) | (refine c_rt rfl rfl rfl (c_standing (by omega)) rfl ?_)) | (refine k_gt rfl rfl rfl ?_) | (refine k_gf rfl rfl ?_ ?_; (focus ((first | rfl | (refine decide_eq_false ?_; (omega)) | (simp [*]; done)); done))) | (refine k_tt rfl rfl ?_) | (refine k_ff rfl (by first | rfl | assumption) ?_))
        all_goals refine k_rr (vs := [_, _]) rfl ⟨rc_A rfl rfl rfl rfl, rfl, trivial⟩ rfl (List.nil_sublist _) ⟨hle, rfl, ?_⟩
        all_goals exact ⟨⟨m, b, c, val⟩, true, rfl, by rw [hyes]; rfl⟩
      · have hno : fldOf s 82 = none := by rw [hall, if_neg fun h => hso (h.2.2 rfl).2]
        have hso2 : (!standOk (bs c) val) = true := by rw [hst]; simpa using hso
        refine b_enter [(0, _), (1, _)] Tryz.func108 (by kernel_rfl) Tryz.ntmps108 rfl rfl (by repeat' constructor) fun B hok hB hW => ?_
        repeat' (first | (refine run (t := tb) 400 rfl trivial ?_) | (refine k_op rfl ?_; first | refine c_al rfl rfl fun _ => ?_ | refine v_op (g_lenL rfl) rfl rfl ?_ | refine v_op (g_bld rfl rfl) rfl rfl ?_ | refine c_stA rfl rfl rfl rfl rfl rfl ?_ | (refine v_op (g_iaddr rfl rfl (by omega)) rfl rfl ?_) | refine v_op (g_ld rfl rfl rfl) rfl rfl ?_ | refine v_op (g_ldS rfl rfl (by assumption) rfl rfl) rfl rfl ?_ | (refine v_op (g_pickT rfl rfl rfl) rfl rfl ?_) | (refine v_op (g_pickF rfl rfl rfl) rfl rfl ?_) | (refine c_rt rfl rfl rfl cx_cut rfl ?_) | (refine c_fns rfl rfl rfl cx_split rfl ?_; rintro _ G hle ⟨b1, o1, cap1, rfl, hseg⟩; skip) | (refine c_rt rfl rfl rfl (cx_pq _) rfl ?_) | (refine c_rt rfl rfl rfl (c_isName (by omega)) rfl ?_) | (refine c_rt rfl rfl rfl (cx_kq _) rfl ?_) | (refine c_rt rfl rfl rfl (c_standing (by omega)) rfl ?_)) | (refine k_gt rfl rfl rfl ?_) | (refine k_gf rfl rfl ?_ ?_; (focus ((first | rfl | (refine decide_eq_false ?_; (omega)) | (simp [*]; done)); done))) | (refine k_tt rfl (by first | rfl | assumption) ?_) | (refine k_ff rfl (by first | rfl | assumption) ?_))
        all_goals refine k_rr (vs := [_, _]) rfl ⟨rc_A rfl rfl rfl rfl, rfl, trivial⟩ rfl (List.nil_sublist _) ⟨hle, rfl, ?_⟩
        all_goals exact ⟨default, false, rfl, by rw [hno]; rfl⟩
    · rw [decide_eq_false hsg, Bool.false_and] at hst
      have hno : fldOf s 82 = none := by rw [hall, if_neg fun h => by rw [(h.2.2 rfl).2] at hst; cases hst]
      refine b_enter [(0, _), (1, _)] Tryz.func108 (by kernel_rfl) Tryz.ntmps108 rfl rfl (by repeat' constructor) fun B hok hB hW => ?_
      repeat' (first | (refine run (t := tb) 400 rfl trivial ?_) | (refine k_op rfl ?_; first | refine c_al rfl rfl fun _ => ?_ | refine v_op (g_lenL rfl) rfl rfl ?_ | refine v_op (g_bld rfl rfl) rfl rfl ?_ | refine c_stA rfl rfl rfl rfl rfl rfl ?_ | (refine v_op (g_iaddr rfl rfl (by omega)) rfl rfl ?_) | refine v_op (g_ld rfl rfl rfl) rfl rfl ?_ | refine v_op (g_ldS rfl rfl (by assumption) rfl rfl) rfl rfl ?_ | (refine v_op (g_pickT rfl rfl rfl) rfl rfl ?_) | (refine v_op (g_pickF rfl rfl rfl) rfl rfl ?_) | (refine c_rt rfl rfl rfl cx_cut rfl ?_) | (refine c_fns rfl rfl rfl cx_split rfl ?_; rintro _ G hle ⟨b1, o1, cap1, rfl, hseg⟩; skip) | (refine c_rt rfl rfl rfl (cx_pq _) rfl ?_) | (refine c_rt rfl rfl rfl (c_isName (by omega)) rfl ?_) | (refine c_rt rfl rfl rfl (cx_kq _) rfl ?_)) | (refine k_gt rfl rfl (by first | rfl | (refine decide_eq_true ?_; (assumption))) ?_) | (refine k_gf rfl rfl (by first | rfl | (refine decide_eq_false ?_; (omega))) ?_) | (refine k_tt rfl rfl ?_) | (refine k_ff rfl (by first | rfl | assumption) ?_))
      all_goals refine k_rr (vs := [_, _]) rfl ⟨rc_A rfl rfl rfl rfl, rfl, trivial⟩ rfl (List.nil_sublist _) ⟨hle, rfl, ?_⟩
      all_goals exact ⟨default, false, rfl, by rw [hno]; rfl⟩
theorem c_readField {s : List UInt8} {k : Nat} (h : s.length ≤ 1000) : FnS Tryz.prog 108 [S s, U8 k] G (FiPost s k) := by
  by_cases hk : k = 69
  · subst hk
    by_cases h2 : (cut 58 (cut1 61 s).1).length = 2
    · match e : cut 58 (cut1 61 s).1, h2 with
      | [a, b], _ => exact c_readField2 h e
    · exact c_readField0 h (by simpa using h2)
  · by_cases h3 : (cut 58 (cut1 61 s).1).length = 3
    · match e : cut 58 (cut1 61 s).1, h3 with
      | [a, b, c], _ => exact c_readField3 h hk e
    · exact c_readField0 h (by simpa [hk] using h3)
end Go.E
namespace Go.E
set_option maxRecDepth 20000
set_option maxHeartbeats 2000000
open Go.Proofs
variable {G : Gh}
theorem c_cutX {s : List UInt8} {xs : List (List UInt8)} {k : Nat} (n : Nat) (h : s.length ≤ 100000000) (e : cut k s = xs) (hn : xs.length = n) (h0 : 0 < n) :
    FnG Tryz.prog 74 [S s, U8 k] G [] (fun v L' => ∃ b cap, v = .slice (some ⟨b, 0, none⟩) n cap ∧ L' = [.acc (.slice (some ⟨b, 0, none⟩) n cap) tStr 1 n (strs xs)]) := by
  subst hn; subst e
  refine (c_l3Cut (G := G) (k := k) h).mono ?_
  rintro v G' L' ⟨h1, h2, h3⟩
  obtain ⟨b, cap, rfl⟩ := h3.pos (by omega)
  exact ⟨h1, b, cap, rfl, h2⟩
theorem c_numX {s : List UInt8} {top m : Int} (h : s.length ≤ 100000000) (e : numOf s top = some m) : PuG Tryz.prog 36 [S s, I top] G (· = Tu [I m, Bo true]) := by
  refine (c_l3Num (G := G) (top := top) h).mono ?_
  rintro v G' L' ⟨h1, h2, n, rfl, h3⟩
  exact ⟨h1, h2, by rw [e, h3 m e]; rfl⟩
abbrev FldPost (s : List UInt8) (k : Nat) (v : Value) : Prop := ∃ f ok, v = Tu [Ag (fldF f), Bo ok] ∧ fldOf s k = if ok then some f else none
theorem fldOf_no {s : List UInt8} {k : Nat} (h : (cut 58 s).length ≠ 2) (h' : (cut 58 s).length ≠ 3) : fldOf s k = none := by
  unfold fldOf
  split
  · rename_i e; rw [e] at h; simp at h
  · rename_i e; rw [e] at h'; simp at h'
  · rfl
theorem c_l3ReadField0 {s : List UInt8} {k : Nat} (h : s.length ≤ 1000) (e : (cut 58 s).length ≠ 2) (e' : (cut 58 s).length ≠ 3) : PuG Tryz.prog 100 [S s, U8 k] G (FldPost s k) := by
  have e0 : 0 < (cut 58 s).length := cut_pos
  generalize hn : (cut 58 s).length = n at *
  have cx_cut1 := c_cutX (G := G) (k := 58) n (by omega) rfl hn e0
  have hno : fldOf s k = none := fldOf_no (by omega) (by omega)
  refine p_enter [(0, _), (1, _)] Tryz.func100 (by kernel_rfl) Tryz.ntmps100 rfl rfl (by repeat' constructor) fun B hB => ?_
  repeat' (first | (refine run (t := tb) 400 rfl trivial ?_) | (refine k_op rfl ?_; first | refine c_al rfl rfl fun _ => ?_ | refine v_op (g_lenL rfl) rfl rfl ?_ | (refine v_op (g_pickT rfl rfl rfl) rfl rfl ?_) | (refine v_op (g_pickF rfl rfl rfl) rfl rfl ?_) | refine v_op (g_bld rfl rfl) rfl rfl ?_ | refine c_stA rfl rfl rfl rfl rfl rfl ?_ | (refine c_fng rfl rfl rfl cx_cut1 rfl ?_; rintro _ _ ⟨b1, cap1, rfl, rfl⟩; dsimp only [List.cons_append, List.nil_append])) | (refine k_gt rfl rfl (dTt (by omega)) ?_) | refine k_g rfl rfl (fun _ => ?_) (fun _ => ?_) | (refine k_tt rfl (by first | rfl | (refine decide_eq_true ?_; (omega))) ?_))
  all_goals refine k_rr (vs := [_, _]) rfl ⟨rc_A rfl rfl rfl rfl, rfl, trivial⟩ rfl (List.nil_sublist _) ⟨rfl, rfl, ?_⟩
  all_goals exact ⟨default, false, rfl, by rw [hno]; rfl⟩
theorem c_l3ReadField2 {s a b : List UInt8} {k : Nat} (h : s.length ≤ 1000) (e : cut 58 s = [a, b]) : PuG Tryz.prog 100 [S s, U8 k] G (FldPost s k) := by
  have ha : a.length ≤ 1000 := Nat.le_trans (cut_len (k := 58) (s := s) (by rw [e]; simp)) h
  have hb : b.length ≤ 1000 := Nat.le_trans (cut_len (k := 58) (s := s) (by rw [e]; simp)) h
  have cx_cut1 := c_cutX (G := G) (k := 58) 2 (by omega) e rfl (by omega)
  by_cases hk : k = 69
  case neg =>
    have hno : fldOf s k = none := by unfold fldOf; rw [e]; simp [hk]
    refine p_enter [(0, _), (1, _)] Tryz.func100 (by kernel_rfl) Tryz.ntmps100 rfl rfl (by repeat' constructor) fun B hB => ?_
    repeat' (first | (refine run (t := tb) 400 rfl trivial ?_) | (refine k_op rfl ?_; first | refine c_al rfl rfl fun _ => ?_ | refine v_op (g_lenL rfl) rfl rfl ?_ | (refine v_op (g_pickT rfl rfl rfl) rfl rfl ?_) | refine v_op (g_bld rfl rfl) rfl rfl ?_ | refine c_stA rfl rfl rfl rfl rfl rfl ?_ | (refine c_fng rfl rfl rfl cx_cut1 rfl ?_; rintro _ _ ⟨b1, cap1, rfl, rfl⟩; dsimp only [List.cons_append, List.nil_append])) | (refine k_gt rfl rfl (by first | rfl | (refine decide_eq_true ?_; (omega))) ?_) | (refine k_tt rfl rfl ?_))
    all_goals refine k_rr (vs := [_, _]) rfl ⟨rc_A rfl rfl rfl rfl, rfl, trivial⟩ rfl (List.nil_sublist _) ⟨rfl, rfl, ?_⟩
    all_goals exact ⟨default, false, rfl, by rw [hno]; rfl⟩
  subst hk
  rcases hm : numOf a 200 with _ | m
  · have hno : fldOf s 69 = none := by unfold fldOf; rw [e]; simp [hm]
    refine p_enter [(0, _), (1, _)] Tryz.func100 (by kernel_rfl) Tryz.ntmps100 rfl rfl (by repeat' constructor) fun B hB => ?_
    repeat' (first | (refine run (t := tb) 400 rfl trivial ?_) | (refine k_op rfl ?_; first | refine c_al rfl rfl fun _ => ?_ | refine v_op (g_lenL rfl) rfl rfl ?_ | (refine v_op (g_pickT rfl rfl rfl) rfl rfl ?_) | (refine v_op (g_pickF rfl rfl rfl) rfl rfl ?_) | refine v_op (g_bld rfl rfl) rfl rfl ?_ | refine c_stA rfl rfl rfl rfl rfl rfl ?_ | (refine v_op (g_iaddr rfl rfl (by omega)) rfl rfl ?_) | refine v_op (g_ldB rfl rfl rfl) rfl rfl ?_ | refine v_op (g_ldA rfl rfl rfl rfl) rfl rfl ?_ | (refine c_fng rfl rfl rfl cx_cut1 rfl ?_; rintro _ _ ⟨b1, cap1, rfl, rfl⟩; dsimp only [List.cons_append, List.nil_append]) | (refine c_pu rfl rfl rfl (c_l3Num (by omega)) rfl ?_; rintro _ ⟨n, rfl, hnum⟩)) | (refine k_gt rfl rfl ?_ ?_; (focus ((first | rfl | (simp [*]; done)); done))) | (refine k_gf rfl rfl rfl ?_) | (refine k_tt rfl rfl ?_) | (refine k_ff rfl rfl ?_))
    all_goals refine k_rr (vs := [_, _]) rfl ⟨rc_A rfl rfl rfl rfl, rfl, trivial⟩ rfl (List.nil_sublist _) ⟨rfl, rfl, ?_⟩
    all_goals exact ⟨⟨_, _, _, _⟩, false, rfl, by rw [hno]; rfl⟩
  have cx_num := c_numX (G := G) (by omega) hm
  have hyes : fldOf s 69 = if 1 ≤ m ∧ isNm b = true then some ⟨m, b, [], []⟩ else none := by unfold fldOf; rw [e]; simp [hm]
  refine p_enter [(0, _), (1, _)] Tryz.func100 (by kernel_rfl) Tryz.ntmps100 rfl rfl (by repeat' constructor) fun B hB => ?_
  repeat' (first | (refine run (t := tb) 400 rfl trivial ?_) | (refine k_op rfl ?_; first | refine c_al rfl rfl fun _ => ?_ | refine v_op (g_lenL rfl) rfl rfl ?_ | (refine v_op (g_pickT rfl rfl rfl) rfl rfl ?_) | (refine v_op (g_pickF rfl rfl rfl) rfl rfl ?_) | refine v_op (g_bld rfl rfl) rfl rfl ?_ | refine c_stA rfl rfl rfl rfl rfl rfl ?_ | (refine v_op (g_iaddr rfl rfl (by omega)) rfl rfl ?_) | refine v_op (g_ld rfl rfl rfl) rfl rfl ?_ | refine v_op (g_ldB rfl rfl rfl) rfl rfl ?_ | refine v_op (g_ldA rfl rfl rfl rfl) rfl rfl ?_ | (refine c_fng rfl rfl rfl cx_cut1 rfl ?_; rintro _ _ ⟨b1, cap1, rfl, rfl⟩; dsimp only [List.cons_append, List.nil_append]) | (refine c_rt rfl rfl rfl cx_num rfl ?_) | (refine c_rt rfl rfl rfl (c_l2Name (by omega)) rfl ?_)) | (refine k_gt rfl rfl rfl ?_) | (refine k_gf rfl rfl rfl ?_) | refine k_g rfl rfl (fun _ => ?_) (fun _ => ?_) | (refine k_tt rfl rfl ?_) | (refine k_ff rfl rfl ?_) | refine k_cd rfl (fun _ => ?_) (fun _ => ?_))
  all_goals refine k_rr (vs := [_, _]) rfl ⟨rc_A rfl rfl rfl rfl, rfl, trivial⟩ rfl (List.nil_sublist _) ⟨rfl, rfl, ?_⟩
  all_goals first | exact ⟨⟨m, b, [], []⟩, true, rfl, by rw [hyes]; simp_all; try omega⟩ | exact ⟨⟨m, b, [], []⟩, false, rfl, by rw [hyes]; simp_all; try omega⟩
theorem c_l3ReadField3b {s a b c d f : List UInt8} {k : Nat} {m : Int} (h : s.length ≤ 1000) (e : cut 58 s = [a, b, c]) (hk : ¬ k = 69) (hm : numOf a 200 = some m) (hg1 : 1 ≤ m) (hg2 : isNm b = true) (e2 : cut 61 c = [d, f]) : PuG Tryz.prog 100 [S s, U8 k] G (FldPost s k) := by
  have ha : a.length ≤ 1000 := Nat.le_trans (cut_len (k := 58) (s := s) (by rw [e]; simp)) h
  have hb : b.length ≤ 1000 := Nat.le_trans (cut_len (k := 58) (s := s) (by rw [e]; simp)) h
  have hc : c.length ≤ 1000 := Nat.le_trans (cut_len (k := 58) (s := s) (by rw [e]; simp)) h
  have cx_cut1 := c_cutX (G := G) (k := 58) 3 (by omega) e rfl (by omega)
  have cx_num := c_numX (G := G) (by omega) hm
  have hyes : fldOf s k = if k = 82 ∧ standOk d f = true then some ⟨m, b, d, f⟩ else none := by
    unfold fldOf; rw [e]; simp [hm, hg1, hg2, hk, e2]
  have hd : d.length ≤ 1000 := Nat.le_trans (cut_len (k := 61) (s := c) (by rw [e2]; simp)) hc
  have hf : f.length ≤ 1000 := Nat.le_trans (cut_len (k := 61) (s := c) (by rw [e2]; simp)) hc
  have cx_cut2 := c_cutX (G := G) (k := 61) 2 (by omega) e2 rfl (by omega)
  by_cases h82 : k = 82
  · have h83 : (k : Int) = 82 := by omega
    refine p_enter [(0, _), (1, _)] Tryz.func100 (by kernel_rfl) Tryz.ntmps100 rfl rfl (by repeat' constructor) fun B hB => ?_
    repeat' (first | (refine run (t := tb) 400 rfl trivial ?_) | (refine k_op rfl ?_; first | refine c_al rfl rfl fun _ => ?_ | refine v_op (g_lenL rfl) rfl rfl ?_ | (refine v_op (g_pickT rfl rfl rfl) rfl rfl ?_) | (refine v_op (g_pickF rfl rfl rfl) rfl rfl ?_) | refine v_op (g_bld rfl rfl) rfl rfl ?_ | refine c_st1 rfl rfl rfl rfl ?_ | refine c_stA rfl rfl rfl rfl rfl rfl ?_ | (refine v_op (g_iaddr rfl rfl (by omega)) rfl rfl ?_) | refine v_op (g_ld rfl rfl rfl) rfl rfl ?_ | refine v_op (g_ldB rfl rfl rfl) rfl rfl ?_ | (refine c_fng rfl rfl rfl cx_cut1 rfl ?_; rintro _ _ ⟨b1, cap1, rfl, rfl⟩; dsimp only [List.cons_append, List.nil_append]) | (refine c_fng rfl rfl rfl cx_cut2 rfl ?_; rintro _ _ ⟨b2, cap2, rfl, rfl⟩; dsimp only [List.cons_append, List.nil_append]) | (refine c_rt rfl rfl rfl cx_num rfl ?_) | (refine c_rt rfl rfl rfl (c_l2Name (by omega)) rfl ?_)) | (refine k_gt rfl rfl rfl ?_) | (refine k_gf rfl rfl (by first | rfl | (refine decide_eq_false ?_; (omega))) ?_) | (refine k_tt rfl rfl ?_) | (refine k_ff rfl ?_ ?_; (focus ((first | (refine decide_eq_false ?_; (omega)) | (simp [*]; done)); done))) | (refine k_any (s_anyD (id := 14) (tt := 4) rfl mixed ?_); refine x_tks (t := tb) (fuel := 9) [1, 2, 3] (bts 12 14) (by kernel_rfl) (by kernel_rfl) rfl rfl (Gh.le.refl _) (by repeat (first | exact List.nil_sublist _ | apply List.Sublist.cons_cons)) ?_ ?_; (focus (repeat' (exact trivial))); (try ((refine Nx.re (d := 76) (v' := Bo true) rfl (congrArg Value.bool (dTt ‹_›)) ?_))); refine x_tks (t := tb) (fuel := 7) [4, 6] (bts 12 94) (by kernel_rfl) (by kernel_rfl) rfl rfl (Gh.le.refl _) (by repeat (first | exact List.nil_sublist _ | apply List.Sublist.cons_cons)) ?_ ?_; (focus (repeat' (exact trivial))); ((refine (x_tkg (bts 12 95) 0 rfl (by kernel_rfl) rfl (Gh.le.refl _) (by repeat (first | exact List.nil_sublist _ | apply List.Sublist.cons_cons))) (g_ldA rfl rfl rfl rfl) rfl rfl ?_)); ((refine (x_tkg (bts 12 127) 5 rfl (by kernel_rfl) rfl (Gh.le.refl _) (by repeat (first | exact List.nil_sublist _ | apply List.Sublist.cons_cons))) (g_ld rfl rfl rfl) rfl rfl ?_)); ((refine (x_tkg (bts 12 255) 7 rfl (by kernel_rfl) rfl (Gh.le.refl _) (by repeat (first | exact List.nil_sublist _ | apply List.Sublist.cons_cons))) (g_ld rfl rfl rfl) rfl rfl ?_)); ((refine x_all [8] (by kernel_rfl) (by decide) ⟨?_, trivial⟩; refine x_opg rfl rfl ?_; ((refine c_rt rfl rfl rfl (c_l3Stand (by omega)) rfl ?_)); refine x_kk gRr (by repeat (first | exact List.nil_sublist _ | apply List.Sublist.cons_cons)) (listed' := (bts 12 511)) (by kernel_rfl) ?_)); ((refine (x_tkg (bts 12 1023) 9 rfl (by kernel_rfl) rfl (Gh.le.refl _) (by repeat (first | exact List.nil_sublist _ | apply List.Sublist.cons_cons))) (g_pickT rfl rfl ?_) rfl rfl ?_; (focus ((rfl); done)))); refine x_all [10] (by kernel_rfl) (by decide) ⟨?_, trivial⟩; refine x_opg rfl rfl ?_; (refine c_stA rfl rfl rfl rfl rfl rfl ?_); refine x_kk gRr (by repeat (first | exact List.nil_sublist _ | apply List.Sublist.cons_cons)) (listed' := (bts 12 2047)) (by kernel_rfl) ?_; refine x_tks (t := tb) (fuel := 0) [11] (bts 12 4095) (by kernel_rfl) (by kernel_rfl) rfl rfl (Gh.le.refl _) (by repeat (first | exact List.nil_sublist _ | apply List.Sublist.cons_cons)) ?_ ?_; (focus (repeat' (exact trivial))); refine x_done (by kernel_rfl) (k_bk ?_)))
    all_goals refine k_rr (vs := [_, _]) rfl ⟨rc_A rfl rfl rfl rfl, rfl, trivial⟩ rfl (List.nil_sublist _) ⟨rfl, rfl, ?_⟩
    all_goals exact ⟨⟨m, b, d, f⟩, standOk d f, rfl, by rw [hyes]; simp [h82]⟩
  · have h83 : ¬ (k : Int) = 82 := by omega
    refine p_enter [(0, _), (1, _)] Tryz.func100 (by kernel_rfl) Tryz.ntmps100 rfl rfl (by repeat' constructor) fun B hB => ?_
    repeat' (first | (refine run (t := tb) 400 rfl trivial ?_) | (refine k_op rfl ?_; first | refine c_al rfl rfl fun _ => ?_ | refine v_op (g_lenL rfl) rfl rfl ?_ | (refine v_op (g_pickT rfl rfl rfl) rfl rfl ?_) | (refine v_op (g_pickF rfl rfl rfl) rfl rfl ?_) | refine v_op (g_bld rfl rfl) rfl rfl ?_ | refine c_st1 rfl rfl rfl rfl ?_ | refine c_stA rfl rfl rfl rfl rfl rfl ?_ | (refine v_op (g_iaddr rfl rfl (by omega)) rfl rfl ?_) | refine v_op (g_ld rfl rfl rfl) rfl rfl ?_ | refine v_op (g_ldB rfl rfl rfl) rfl rfl ?_ | (refine c_fng rfl rfl rfl cx_cut1 rfl ?_; rintro _ _ ⟨b1, cap1, rfl, rfl⟩; dsimp only [List.cons_append, List.nil_append]) | (refine c_fng rfl rfl rfl cx_cut2 rfl ?_; rintro _ _ ⟨b2, cap2, rfl, rfl⟩; dsimp only [List.cons_append, List.nil_append]) | (refine c_rt rfl rfl rfl cx_num rfl ?_) | (refine c_rt rfl rfl rfl (c_l2Name (by omega)) rfl ?_)) | (refine k_gt rfl rfl rfl ?_) | (refine k_gf rfl rfl (by first | rfl | (refine decide_eq_false ?_; (omega))) ?_) | (refine k_tt rfl rfl ?_) | (refine k_ff rfl ?_ ?_; (focus ((first | (refine decide_eq_false ?_; (omega)) | (simp [*]; done)); done))) | (refine k_any (s_anyD (id := 14) (tt := 4) rfl mixed ?_); refine x_tks (t := tb) (fuel := 9) [1, 2, 3] (bts 12 14) (by kernel_rfl) (by kernel_rfl) rfl rfl (Gh.le.refl _) (by repeat (first | exact List.nil_sublist _ | apply List.Sublist.cons_cons)) ?_ ?_; (focus (repeat' (exact trivial))); (try ((refine Nx.re (d := 76) (v' := Bo false) rfl (congrArg Value.bool (dFf ‹_›)) ?_))); refine x_tks (t := tb) (fuel := 7) [4, 6] (bts 12 94) (by kernel_rfl) (by kernel_rfl) rfl rfl (Gh.le.refl _) (by repeat (first | exact List.nil_sublist _ | apply List.Sublist.cons_cons)) ?_ ?_; (focus (repeat' (exact trivial))); ((refine (x_tkg (bts 12 95) 0 rfl (by kernel_rfl) rfl (Gh.le.refl _) (by repeat (first | exact List.nil_sublist _ | apply List.Sublist.cons_cons))) (g_ldA rfl rfl rfl rfl) rfl rfl ?_)); ((refine x_tkn (bts 12 127) 5 rfl (by kernel_rfl) rfl (Gh.le.refl _) (by repeat (first | exact List.nil_sublist _ | apply List.Sublist.cons_cons)) rfl rfl ?_)); ((refine x_tkn (bts 12 255) 7 rfl (by kernel_rfl) rfl (Gh.le.refl _) (by repeat (first | exact List.nil_sublist _ | apply List.Sublist.cons_cons)) rfl rfl ?_)); ((refine x_tkn (bts 12 511) 8 rfl (by kernel_rfl) rfl (Gh.le.refl _) (by repeat (first | exact List.nil_sublist _ | apply List.Sublist.cons_cons)) rfl rfl ?_)); ((refine (x_tkg (bts 12 1023) 9 rfl (by kernel_rfl) rfl (Gh.le.refl _) (by repeat (first | exact List.nil_sublist _ | apply List.Sublist.cons_cons))) (g_pickF rfl rfl ?_) rfl rfl ?_; (focus ((rfl); done)))); refine x_all [10] (by kernel_rfl) (by decide) ⟨?_, trivial⟩; refine x_opg rfl rfl ?_; (refine c_stA rfl rfl rfl rfl rfl rfl ?_); refine x_kk gRr (by repeat (first | exact List.nil_sublist _ | apply List.Sublist.cons_cons)) (listed' := (bts 12 2047)) (by kernel_rfl) ?_; refine x_tks (t := tb) (fuel := 0) [11] (bts 12 4095) (by kernel_rfl) (by kernel_rfl) rfl rfl (Gh.le.refl _) (by repeat (first | exact List.nil_sublist _ | apply List.Sublist.cons_cons)) ?_ ?_; (focus (repeat' (exact trivial))); refine x_done (by kernel_rfl) (k_bk ?_)))
    all_goals refine k_rr (vs := [_, _]) rfl ⟨rc_A rfl rfl rfl rfl, rfl, trivial⟩ rfl (List.nil_sublist _) ⟨rfl, rfl, ?_⟩
    all_goals exact ⟨⟨m, b, d, f⟩, false, rfl, by rw [hyes]; simp [h82]⟩
theorem c_l3ReadField3 {s a b c : List UInt8} {k : Nat} (h : s.length ≤ 1000) (e : cut 58 s = [a, b, c]) : PuG Tryz.prog 100 [S s, U8 k] G (FldPost s k) := by
  have ha : a.length ≤ 1000 := Nat.le_trans (cut_len (k := 58) (s := s) (by rw [e]; simp)) h
  have hb : b.length ≤ 1000 := Nat.le_trans (cut_len (k := 58) (s := s) (by rw [e]; simp)) h
  have hc : c.length ≤ 1000 := Nat.le_trans (cut_len (k := 58) (s := s) (by rw [e]; simp)) h
  have cx_cut1 := c_cutX (G := G) (k := 58) 3 (by omega) e rfl (by omega)
  by_cases hk : k = 69
  case pos =>
    subst hk
    have hno : fldOf s 69 = none := by unfold fldOf; rw [e]; simp
    refine p_enter [(0, _), (1, _)] Tryz.func100 (by kernel_rfl) Tryz.ntmps100 rfl rfl (by repeat' constructor) fun B hB => ?_
    repeat' (first | (refine run (t := tb) 400 rfl trivial ?_) | (refine k_op rfl ?_; first | refine c_al rfl rfl fun _ => ?_ | refine v_op (g_lenL rfl) rfl rfl ?_ | (refine v_op (g_pickT rfl rfl rfl) rfl rfl ?_) | (refine v_op (g_pickF rfl rfl rfl) rfl rfl ?_) | refine v_op (g_bld rfl rfl) rfl rfl ?_ | refine c_stA rfl rfl rfl rfl rfl rfl ?_ | (refine c_fng rfl rfl rfl cx_cut1 rfl ?_; rintro _ _ ⟨b1, cap1, rfl, rfl⟩; dsimp only [List.cons_append, List.nil_append])) | (refine k_gt rfl rfl rfl ?_) | (refine k_gf rfl rfl rfl ?_) | (refine k_tt rfl rfl ?_))
    all_goals refine k_rr (vs := [_, _]) rfl ⟨rc_A rfl rfl rfl rfl, rfl, trivial⟩ rfl (List.nil_sublist _) ⟨rfl, rfl, ?_⟩
    all_goals exact ⟨default, false, rfl, by rw [hno]; rfl⟩
  rcases hm : numOf a 200 with _ | m
  · have hno : fldOf s k = none := by unfold fldOf; rw [e]; simp [hm]
    refine p_enter [(0, _), (1, _)] Tryz.func100 (by kernel_rfl) Tryz.ntmps100 rfl rfl (by repeat' constructor) fun B hB => ?_
    repeat' (first | (refine run (t := tb) 400 rfl trivial ?_) | (refine k_op rfl ?_; first | refine c_al rfl rfl fun _ => ?_ | refine v_op (g_lenL rfl) rfl rfl ?_ | (refine v_op (g_pickT rfl rfl rfl) rfl rfl ?_) | (refine v_op (g_pickF rfl rfl rfl) rfl rfl ?_) | refine v_op (g_bld rfl rfl) rfl rfl ?_ | refine c_stA rfl rfl rfl rfl rfl rfl ?_ | (refine v_op (g_iaddr rfl rfl (by omega)) rfl rfl ?_) | refine v_op (g_ldB rfl rfl rfl) rfl rfl ?_ | refine v_op (g_ldA rfl rfl rfl rfl) rfl rfl ?_ | (refine c_fng rfl rfl rfl cx_cut1 rfl ?_; rintro _ _ ⟨b1, cap1, rfl, rfl⟩; dsimp only [List.cons_append, List.nil_append]) | (refine c_pu rfl rfl rfl (c_l3Num (by omega)) rfl ?_; rintro _ ⟨n, rfl, hnum⟩)) | (refine k_gt rfl rfl ?_ ?_; (focus ((first | rfl | (simp [*]; done)); done))) | (refine k_gf rfl rfl rfl ?_) | (refine k_tt rfl rfl ?_) | (refine k_ff rfl (dFf (by omega)) ?_))
    all_goals refine k_rr (vs := [_, _]) rfl ⟨rc_A rfl rfl rfl rfl, rfl, trivial⟩ rfl (List.nil_sublist _) ⟨rfl, rfl, ?_⟩
    all_goals exact ⟨⟨_, _, _, _⟩, false, rfl, by rw [hno]; rfl⟩
  have cx_num := c_numX (G := G) (by omega) hm
  by_cases hg : 1 ≤ m ∧ isNm b = true
  case neg =>
    have hno : fldOf s k = none := by unfold fldOf; rw [e]; simp [hm, hg]
    have hg' : m < 1 ∨ isNm b = false := by
      by_cases h1 : m < 1
      · exact .inl h1
      · cases hb2 : isNm b with
        | false => exact .inr rfl
        | true => exact absurd ⟨by omega, hb2⟩ hg
    rcases hg' with hg' | hg'
    all_goals refine p_enter [(0, _), (1, _)] Tryz.func100 (by kernel_rfl) Tryz.ntmps100 rfl rfl (by repeat' constructor) fun B hB => ?_
    all_goals repeat' (first | (refine run (t := tb) 400 rfl trivial ?_) | (refine k_op rfl ?_; first | refine c_al rfl rfl fun _ => ?_ | refine v_op (g_lenL rfl) rfl rfl ?_ | (refine v_op (g_pickT rfl rfl rfl) rfl rfl ?_) | (refine v_op (g_pickF rfl rfl rfl) rfl rfl ?_) | refine v_op (g_bld rfl rfl) rfl rfl ?_ | refine c_stA rfl rfl rfl rfl rfl rfl ?_ | (refine v_op (g_iaddr rfl rfl (by omega)) rfl rfl ?_) | refine v_op (g_ld rfl rfl rfl) rfl rfl ?_ | refine v_op (g_ldB rfl rfl rfl) rfl rfl ?_ | refine v_op (g_ldA rfl rfl rfl rfl) rfl rfl ?_ | (refine c_fng rfl rfl rfl cx_cut1 rfl ?_; rintro _ _ ⟨b1, cap1, rfl, rfl⟩; dsimp only [List.cons_append, List.nil_append]) | (refine c_rt rfl rfl rfl cx_num rfl ?_) | (refine c_rt rfl rfl rfl (c_l2Name (by omega)) rfl ?_)) | (refine k_gt rfl rfl (by first | rfl | (refine decide_eq_true ?_; (assumption))) ?_) | (refine k_gf rfl rfl rfl ?_) | refine k_g rfl rfl (fun _ => ?_) (fun _ => ?_) | (refine k_tt rfl ?_ ?_; (focus ((first | rfl | (simp [*]; done)); done))) | (refine k_ff rfl (dFf (by omega)) ?_))
    all_goals refine k_rr (vs := [_, _]) rfl ⟨rc_A rfl rfl rfl rfl, rfl, trivial⟩ rfl (List.nil_sublist _) ⟨rfl, rfl, ?_⟩
    all_goals exact ⟨⟨_, _, _, _⟩, false, rfl, by rw [hno]; rfl⟩
  obtain ⟨hg1, hg2⟩ := hg
  have hyes : fldOf s k = match cut 61 c with
    | [d] => if kindOk d = true then some ⟨m, b, d, []⟩ else none
    | [d, e] => if k = 82 ∧ standOk d e = true then some ⟨m, b, d, e⟩ else none
    | _ => none := by
    unfold fldOf; rw [e]; simp only [hm, hg1, hg2, hk, if_false, if_true, and_self]; rfl
  have hp : 0 < (cut 61 c).length := cut_pos
  match e2 : cut 61 c, hp with
  | [d], _ =>
    rw [e2] at hyes
    have cx_cut2 := c_cutX (G := G) (k := 61) 1 (by omega) e2 rfl (by omega)
    refine p_enter [(0, _), (1, _)] Tryz.func100 (by kernel_rfl) Tryz.ntmps100 rfl rfl (by repeat' constructor) fun B hB => ?_
    repeat' (first | (refine run (t := tb) 400 rfl trivial ?_) | (refine k_op rfl ?_; first | refine c_al rfl rfl fun _ => ?_ | refine v_op (g_lenL rfl) rfl rfl ?_ | (refine v_op (g_pickT rfl rfl rfl) rfl rfl ?_) | (refine v_op (g_pickF rfl rfl rfl) rfl rfl ?_) | refine v_op (g_bld rfl rfl) rfl rfl ?_ | refine c_st1 rfl rfl rfl rfl ?_ | refine c_stA rfl rfl rfl rfl rfl rfl ?_ | (refine v_op (g_iaddrN rfl rfl (by omega)) rfl rfl ?_) | (refine v_op (g_iaddr rfl rfl (by omega)) rfl rfl ?_) | refine v_op (g_ld rfl rfl rfl) rfl rfl ?_ | refine v_op (g_ldB rfl rfl rfl) rfl rfl ?_ | (refine c_fng rfl rfl rfl cx_cut1 rfl ?_; rintro _ _ ⟨b1, cap1, rfl, rfl⟩; dsimp only [List.cons_append, List.nil_append]) | (refine c_fng rfl rfl rfl cx_cut2 rfl ?_; rintro _ _ ⟨b2, cap2, rfl, rfl⟩; dsimp only [List.cons_append, List.nil_append]) | (refine c_rt rfl rfl rfl cx_num rfl ?_) | (refine c_rt rfl rfl rfl (c_l2Name (by omega)) rfl ?_)) | (refine k_gt rfl rfl rfl ?_) | (refine k_gf rfl rfl (by first | rfl | (refine decide_eq_false ?_; (omega))) ?_) | (refine k_ff rfl ?_ ?_; (focus ((first | rfl | (refine decide_eq_false ?_; (omega)) | (simp [*]; done)); done))) | (refine k_any (s_anyD (id := 15) (tt := 4) rfl mixed ?_); refine x_tks (t := tb) (fuel := 10) [1] (bts 11 2) (by kernel_rfl) (by kernel_rfl) rfl rfl (Gh.le.refl _) (by repeat (first | exact List.nil_sublist _ | apply List.Sublist.cons_cons)) ?_ ?_; (focus (repeat' (exact trivial))); ((refine (x_tkg (bts 11 3) 0 rfl (by kernel_rfl) rfl (Gh.le.refl _) (by repeat (first | exact List.nil_sublist _ | apply List.Sublist.cons_cons))) (g_ldA rfl rfl rfl rfl) rfl rfl ?_)); ((refine (x_tkg (bts 11 7) 2 rfl (by kernel_rfl) rfl (Gh.le.refl _) (by repeat (first | exact List.nil_sublist _ | apply List.Sublist.cons_cons))) (g_lenL rfl) rfl rfl ?_)); refine x_tks (t := tb) (fuel := 6) [3, 4] (bts 11 31) (by kernel_rfl) (by kernel_rfl) rfl rfl (Gh.le.refl _) (by repeat (first | exact List.nil_sublist _ | apply List.Sublist.cons_cons)) ?_ ?_; (focus (repeat' (exact trivial))); (try (refine Nx.re (d := 87) (v' := Bo true) rfl (congrArg Value.bool rfl) ?_)); refine x_tks (t := tb) (fuel := 5) [5] (bts 11 63) (by kernel_rfl) (by kernel_rfl) rfl rfl (Gh.le.refl _) (by repeat (first | exact List.nil_sublist _ | apply List.Sublist.cons_cons)) ?_ ?_; (focus (repeat' (exact trivial))); ((refine (x_tkg (bts 11 127) 6 rfl (by kernel_rfl) rfl (Gh.le.refl _) (by repeat (first | exact List.nil_sublist _ | apply List.Sublist.cons_cons))) (g_ld rfl rfl rfl) rfl rfl ?_)); ((refine x_all [7] (by kernel_rfl) (by decide) ⟨?_, trivial⟩; refine x_opg rfl rfl ?_; (refine c_rt rfl rfl rfl c_KindOkS rfl ?_); refine x_kk gRr (by repeat (first | exact List.nil_sublist _ | apply List.Sublist.cons_cons)) (listed' := (bts 11 255)) (by kernel_rfl) ?_)); ((refine (x_tkg (bts 11 511) 8 rfl (by kernel_rfl) rfl (Gh.le.refl _) (by repeat (first | exact List.nil_sublist _ | apply List.Sublist.cons_cons))) (g_pickT rfl rfl ?_) rfl rfl ?_; (focus ((rfl); done)))); refine x_all [9] (by kernel_rfl) (by decide) ⟨?_, trivial⟩; refine x_opg rfl rfl ?_; (refine c_stA rfl rfl rfl rfl rfl rfl ?_); refine x_kk gRr (by repeat (first | exact List.nil_sublist _ | apply List.Sublist.cons_cons)) (listed' := (bts 11 1023)) (by kernel_rfl) ?_; refine x_tks (t := tb) (fuel := 0) [10] (bts 11 2047) (by kernel_rfl) (by kernel_rfl) rfl rfl (Gh.le.refl _) (by repeat (first | exact List.nil_sublist _ | apply List.Sublist.cons_cons)) ?_ ?_; (focus (repeat' (exact trivial))); refine x_done (by kernel_rfl) (k_bk ?_)))
    all_goals refine k_rr (vs := [_, _]) rfl ⟨rc_A rfl rfl rfl rfl, rfl, trivial⟩ rfl (List.nil_sublist _) ⟨rfl, rfl, ?_⟩
    all_goals exact ⟨⟨m, b, d, []⟩, kindOk d, rfl, hyes⟩
  | [d, f], _ => exact c_l3ReadField3b h e hk hm hg1 hg2 e2
  | d :: f :: g :: r, _ =>
    rw [e2] at hyes
    have cx_cut2 := c_cutX (G := G) (k := 61) (r.length + 3) (by omega) e2 (by simp) (by omega)
    refine p_enter [(0, _), (1, _)] Tryz.func100 (by kernel_rfl) Tryz.ntmps100 rfl rfl (by repeat' constructor) fun B hB => ?_
    repeat' (first | (refine run (t := tb) 400 rfl trivial ?_) | (refine k_op rfl ?_; first | refine c_al rfl rfl fun _ => ?_ | refine v_op (g_lenL rfl) rfl rfl ?_ | (refine v_op (g_pickT rfl rfl rfl) rfl rfl ?_) | (refine v_op (g_pickF rfl rfl rfl) rfl rfl ?_) | refine v_op (g_bld rfl rfl) rfl rfl ?_ | refine c_st1 rfl rfl rfl rfl ?_ | refine c_stA rfl rfl rfl rfl rfl rfl ?_ | (refine v_op (g_iaddrN rfl rfl (by omega)) rfl rfl ?_) | (refine v_op (g_iaddr rfl rfl (by omega)) rfl rfl ?_) | refine v_op (g_ld rfl rfl rfl) rfl rfl ?_ | refine v_op (g_ldB rfl rfl rfl) rfl rfl ?_ | (refine c_fng rfl rfl rfl cx_cut1 rfl ?_; rintro _ _ ⟨b1, cap1, rfl, rfl⟩; dsimp only [List.cons_append, List.nil_append]) | (refine c_fng rfl rfl rfl cx_cut2 rfl ?_; rintro _ _ ⟨b2, cap2, rfl, rfl⟩; dsimp only [List.cons_append, List.nil_append]) | (refine c_rt rfl rfl rfl cx_num rfl ?_) | (refine c_rt rfl rfl rfl (c_l2Name (by omega)) rfl ?_)) | (refine k_gt rfl rfl rfl ?_) | (refine k_gf rfl rfl (by first | rfl | (refine decide_eq_false ?_; (omega))) ?_) | (refine k_ff rfl ?_ ?_; (focus ((first | rfl | (refine decide_eq_false ?_; (omega)) | (simp [*]; done)); done))) | (refine k_any (s_anyD (id := 15) (tt := 4) rfl mixed ?_); refine x_tks (t := tb) (fuel := 10) [1] (bts 11 2) (by kernel_rfl) (by kernel_rfl) rfl rfl (Gh.le.refl _) (by repeat (first | exact List.nil_sublist _ | apply List.Sublist.cons_cons)) ?_ ?_; (focus (repeat' (exact trivial))); ((refine (x_tkg (bts 11 3) 0 rfl (by kernel_rfl) rfl (Gh.le.refl _) (by repeat (first | exact List.nil_sublist _ | apply List.Sublist.cons_cons))) (g_ldA rfl rfl rfl rfl) rfl rfl ?_)); ((refine (x_tkg (bts 11 7) 2 rfl (by kernel_rfl) rfl (Gh.le.refl _) (by repeat (first | exact List.nil_sublist _ | apply List.Sublist.cons_cons))) (g_lenL rfl) rfl rfl ?_)); refine x_tks (t := tb) (fuel := 6) [3, 4] (bts 11 31) (by kernel_rfl) (by kernel_rfl) rfl rfl (Gh.le.refl _) (by repeat (first | exact List.nil_sublist _ | apply List.Sublist.cons_cons)) ?_ ?_; (focus (repeat' (exact trivial))); (try (refine Nx.re (d := 87) (v' := Bo false) rfl (congrArg Value.bool rfl) ?_)); refine x_tks (t := tb) (fuel := 5) [5] (bts 11 63) (by kernel_rfl) (by kernel_rfl) rfl rfl (Gh.le.refl _) (by repeat (first | exact List.nil_sublist _ | apply List.Sublist.cons_cons)) ?_ ?_; (focus (repeat' (exact trivial))); ((refine x_tkn (bts 11 127) 6 rfl (by kernel_rfl) rfl (Gh.le.refl _) (by repeat (first | exact List.nil_sublist _ | apply List.Sublist.cons_cons)) rfl rfl ?_)); ((refine x_tkn (bts 11 255) 7 rfl (by kernel_rfl) rfl (Gh.le.refl _) (by repeat (first | exact List.nil_sublist _ | apply List.Sublist.cons_cons)) rfl rfl ?_)); ((refine (x_tkg (bts 11 511) 8 rfl (by kernel_rfl) rfl (Gh.le.refl _) (by repeat (first | exact List.nil_sublist _ | apply List.Sublist.cons_cons))) (g_pickF rfl rfl ?_) rfl rfl ?_; (focus ((rfl); done)))); refine x_all [9] (by kernel_rfl) (by decide) ⟨?_, trivial⟩; refine x_opg rfl rfl ?_; (refine c_stA rfl rfl rfl rfl rfl rfl ?_); refine x_kk gRr (by repeat (first | exact List.nil_sublist _ | apply List.Sublist.cons_cons)) (listed' := (bts 11 1023)) (by kernel_rfl) ?_; refine x_tks (t := tb) (fuel := 0) [10] (bts 11 2047) (by kernel_rfl) (by kernel_rfl) rfl rfl (Gh.le.refl _) (by repeat (first | exact List.nil_sublist _ | apply List.Sublist.cons_cons)) ?_ ?_; (focus (repeat' (exact trivial))); refine x_done (by kernel_rfl) (k_bk ?_)))
    all_goals refine k_rr (vs := [_, _]) rfl ⟨rc_A rfl rfl rfl rfl, rfl, trivial⟩ rfl (List.nil_sublist _) ⟨rfl, rfl, ?_⟩
    all_goals exact ⟨⟨m, b, d, []⟩, false, rfl, hyes⟩
theorem c_l3ReadField {s : List UInt8} {k : Nat} (h : s.length ≤ 1000) : PuG Tryz.prog 100 [S s, U8 k] G (FldPost s k) := by
  by_cases h2 : (cut 58 s).length = 2
  · match e : cut 58 s, h2 with
    | [a, b], _ => exact c_l3ReadField2 h e
  by_cases h3 : (cut 58 s).length = 3
  · match e : cut 58 s, h3 with
    | [a, b, c], _ => exact c_l3ReadField3 h e
  exact c_l3ReadField0 h h2 h3
end Go.E
namespace Go.E
set_option maxRecDepth 20000
set_option maxHeartbeats 2000000
open Go.Proofs
variable {G : Gh}
theorem c_l3CutS {s : List UInt8} {k : Nat} (h : s.length ≤ 100000000) : FnS Tryz.prog 74 [S s, U8 k] G (fun v G' => SlV G' v 1 (cut k s).length (rows strF (cut k s))) := by
  refine FnG.shutP ((c_l3Cut (G := G) (k := k) h).mono ?_)
  rintro v G' L' ⟨h1, h2, _⟩
  exact ⟨h1, v, _, _, _, _, h2, fun G' _ h3 => by rw [← strs_rows]; exact h3⟩
abbrev tFld : TypeId := 107
abbrev tTy : TypeId := 86
def TyPost (s : List UInt8) (v : Value) (G : Gh) : Prop := ∃ fv t ok, v = Tu [Ag [U8 (t : Ty).sort, S t.name, fv], Bo ok] ∧ (tyOf s = if ok = true then some t else none) ∧ SlV G fv 4 t.fields.length (rows fldF t.fields)
theorem SlV.nil0 {G : Gh} {sz : Nat} : SlV G nilS sz 0 [] := ⟨by simp, .inl ⟨rfl, rfl⟩⟩
theorem drop_nth {α : Type} [Inhabited α] {xs : List α} {i : Nat} (h : i < xs.length) : xs.drop i = nth xs i :: xs.drop (i + 1) := by rw [nth_eq h]; exact (List.getElem_cons_drop (h := h)).symm
theorem Shp.sl {v : Value} {m : Nat} (h : Shp v m) : ∃ a cap, v = .slice a m cap := by
  rcases h with ⟨rfl, rfl⟩ | ⟨b, cap, rfl, _⟩
  · exact ⟨none, 0, rfl⟩
  · exact ⟨_, cap, rfl⟩
theorem tyOf_bad {c : UInt8} {r : List UInt8} (h : (cut1 61 r).2.2 = false) : tyOf (c :: r) = none := by
  unfold tyOf
  split
  · rfl
  · rename_i h1; cases h1
    split
    · rename_i h2; rw [h2] at h; cases h
    · rfl
theorem tyOf_at {c : UInt8} {r name rest : List UInt8} (h : cut1 61 r = (name, rest, true)) : tyOf (c :: r) = if isNm name = true ∧ sortOk c.toNat then
        if rest = [] then (if c.toNat = 82 then some ⟨82, name, []⟩ else none)
        else match fieldsOf c.toNat (cut 44 rest) [] with
          | some fs => if fs.length ≤ 8 then some ⟨c.toNat, name, fs⟩ else none
          | none => none
      else none := by
  unfold tyOf
  simp only [h]; rfl
theorem c_l3ReadType {s : List UInt8} (h : s.length ≤ 1000) : FnS Tryz.prog 75 [S s] G (TyPost s) := by
  refine b_enter [(0, _)] Tryz.func75 (by kernel_rfl) Tryz.ntmps75 rfl rfl (by repeat' constructor) fun B hok hB hW => ?_
  repeat' (first | (refine run (t := tb) 400 rfl trivial ?_) | (refine k_op rfl ?_; (refine c_al rfl rfl fun _ => ?_)))
  rename_i x
  refine k_loop (ι := Nat) (fun i => i ≤ s.length ∧ ∀ k, k < i → bt s k ≠ 61) (fun i => [(0, S s), (2, Pt x 0), (4, I i)]) (fun _ => G) (fun i => [.blk x (.cells [U8 0, S [], nilS].toArray tTy (0, 0))]) (fun i => s.length - i) 0 ?_ (by repeat' constructor) rfl sRr (fun i Hi => ?_)
  · exact ⟨by omega, fun k hk => absurd hk (by omega)⟩
  by_cases hi : i < s.length ∧ bt s i ≠ 61
  · repeat' (first | (refine run (t := tb) 400 rfl ?_ ?_; (focus (repeat' (first | exact trivial | apply And.intro | omega)))) | (refine k_op rfl ?_; (refine v_op (g_pickT rfl rfl rfl) rfl rfl ?_)) | (refine k_gt rfl rfl (dTt (by omega)) ?_) | (refine k_tt rfl ?_ ?_; (focus ((simp; omega); done))))
    refine k_rd (i + 1) ⟨by omega, fun k hk => ?_⟩ (by omega) (by repeat' constructor) rfl sRr
    rcases Nat.lt_or_ge k i with h3 | h3
    · exact Hi.2 k h3
    · have : k = i := by omega
      subst this; exact hi.2
  rcases Nat.lt_or_ge i s.length with hlt | hge
  case inr =>
    have hno : tyOf s = none := by
      match s, Hi, hge with
      | [], _, _ => rfl
      | c :: r, Hi, hge =>
        refine tyOf_bad ?_
        rw [cut1_no fun j hj => by have := Hi.2 (j + 1) (by simp at hge; omega); rwa [bt_succ] at this]
    repeat' (first | (refine run (t := tb) 400 rfl trivial ?_) | (refine k_op rfl ?_; first | (refine v_op (g_pickT rfl rfl rfl) rfl rfl ?_) | (refine v_op (g_pickF rfl rfl rfl) rfl rfl ?_) | refine v_op (g_bld rfl rfl) rfl rfl ?_ | refine c_stA rfl rfl rfl rfl rfl rfl ?_) | (refine k_gf rfl rfl (dFf (by omega)) ?_) | refine k_g rfl rfl (fun _ => ?_) (fun _ => ?_) | (refine k_tt rfl (by first | rfl | (refine decide_eq_true ?_; (omega))) ?_) | (refine k_ff rfl rfl ?_))
    all_goals refine k_rr (vs := [_, _]) rfl ⟨rc_A rfl rfl rfl rfl, rfl, trivial⟩ rfl (List.nil_sublist _) ⟨Gh.le.refl _, rfl, ?_⟩
    all_goals exact ⟨nilS, default, false, rfl, by rw [hno]; rfl, SlV.nil0⟩
  have h61 : bt s i = 61 := by
    rcases Nat.lt_or_ge (bt s i) 61 with h1 | h1
    · exact absurd ⟨hlt, by omega⟩ hi
    · rcases Nat.lt_or_ge 61 (bt s i) with h2 | h2
      · exact absurd ⟨hlt, by omega⟩ hi
      · omega
  match s, i, Hi, hlt, h61, h with
  | c :: r, 0, Hi, hlt, h61, h =>
    have hno : tyOf (c :: r) = none := by
      rw [bt_zero] at h61
      cases ht : (cut1 61 r).2.2 with
      | false => exact tyOf_bad ht
      | true =>
        rw [tyOf_at (c := c) (r := r) (name := (cut1 61 r).1) (rest := (cut1 61 r).2.1) (by rw [← ht])]
        rw [if_neg]
        rintro ⟨_, h2⟩
        unfold sortOk at h2; omega
    have h62 : bt (c :: r) ((0 : Nat) : Int).toNat = 61 := h61
    repeat' (first | (refine run (t := tb) 400 rfl ?_ ?_; (focus (repeat' (first | exact trivial | apply And.intro | omega)))) | (refine k_op rfl ?_; first | (refine v_op (g_pickT rfl rfl rfl) rfl rfl ?_) | refine v_op (g_bld rfl rfl) rfl rfl ?_ | refine c_stA rfl rfl rfl rfl rfl rfl ?_) | (refine k_gt rfl rfl (by first | rfl | (refine decide_eq_true ?_; (omega))) ?_) | (refine k_tt rfl rfl ?_) | (refine k_ff rfl (dFf (by omega)) ?_))
    all_goals refine k_rr (vs := [_, _]) rfl ⟨rc_A rfl rfl rfl rfl, rfl, trivial⟩ rfl (List.nil_sublist _) ⟨Gh.le.refl _, rfl, ?_⟩
    all_goals exact ⟨nilS, default, false, rfl, by rw [hno]; rfl, SlV.nil0⟩
  | c :: r, j + 1, Hi, hlt, h61, h =>
    have hj : j < r.length := by simpa using hlt
    have hcut1 : cut1 61 r = (r.take j, r.drop (j + 1), true) := cut1_at hj (fun k hk => by have := Hi.2 (k + 1) (by omega); rwa [bt_succ] at this) (by rwa [bt_succ] at h61)
    have hty := tyOf_at (c := c) hcut1
    have h62 : bt (c :: r) ((j + 1 : Nat) : Int).toNat = 61 := h61
    have e0 : bt (c :: r) (Int.toNat 0) = c.toNat := bt_zero c r
    have hnl : (r.take j).length ≤ 1000 := by simp at h ⊢; omega
    have cx_nm := c_l2Name (G := G) (s := r.take j) (by omega)
    by_cases hg : isNm (r.take j) = true ∧ sortOk c.toNat
    case neg =>
      have hno : tyOf (c :: r) = none := by rw [hty, if_neg hg]
      by_cases hn : isNm (r.take j) = true
      · have hn2 : (!isNm (r.take j)) = false := by rw [hn]; rfl
        have hns : ¬ sortOk c.toNat := fun h => hg ⟨hn, h⟩
        unfold sortOk at hns
        repeat' (first | (refine run (t := tb) 400 rfl ?_ ?_; (focus (repeat' (first | exact trivial | apply And.intro | omega)))) | (refine k_op rfl ?_; first | (refine v_op (g_pickT rfl rfl rfl) rfl rfl ?_) | (refine v_op (g_pickF rfl rfl rfl) rfl rfl ?_) | refine c_stA rfl rfl rfl rfl rfl rfl ?_ | refine v_op (g_ld rfl rfl rfl) rfl rfl ?_ | refine v_op (g_ldA rfl rfl rfl rfl) rfl rfl ?_ | (refine c_rt rfl rfl rfl cx_nm rfl ?_)) | (refine k_gt rfl rfl (dTt (by omega)) ?_) | (refine k_gf rfl rfl (by first | rfl | assumption) ?_) | (refine k_tt rfl (dTt (by omega)) ?_) | (refine k_ff rfl (dFf (by omega)) ?_) | (refine k_any (s_any (id := 6) _ (fun _ h => h) mixed ?_); refine x_tks (t := tb) (fuel := 3) [0, 1, 2, 3, 4] (bts 8 31) (by kernel_rfl) (by kernel_rfl) rfl rfl (Gh.le.refl _) sRr ?_ ?_; (focus (repeat' (first | exact trivial | apply And.intro | omega))); ((refine (x_tkg (bts 8 63) 5 rfl (by kernel_rfl) rfl (Gh.le.refl _) sRr) (g_bld rfl rfl) rfl rfl ?_)); refine x_all [6] (by kernel_rfl) (by decide) ⟨?_, trivial⟩; refine x_opg rfl rfl ?_; (refine c_al rfl rfl fun _ => ?_); refine x_kk gRr (by repeat (first | exact List.Sublist.refl _ | apply List.Sublist.cons)) (listed' := (bts 8 127)) (by kernel_rfl) ?_; refine x_all [7] (by kernel_rfl) (by decide) ⟨?_, trivial⟩; refine x_opg rfl rfl ?_; (refine c_stA rfl rfl rfl rfl rfl rfl ?_); refine x_kk gRr (by repeat (first | exact List.Sublist.refl _ | apply List.Sublist.cons)) (listed' := (bts 8 255)) (by kernel_rfl) ?_; refine x_done (by kernel_rfl) (k_bk ?_)))
        all_goals refine k_rr (vs := [_, _]) rfl ⟨rc_A rfl rfl rfl rfl, rfl, trivial⟩ rfl (List.nil_sublist _) ⟨Gh.le.refl _, rfl, ?_⟩
        all_goals exact ⟨nilS, ⟨_, _, []⟩, false, rfl, by rw [hno]; rfl, SlV.nil0⟩
      · have hn2 : (!isNm (r.take j)) = true := by simpa using hn
        repeat' (first | (refine run (t := tb) 400 rfl ?_ ?_; (focus (repeat' (first | exact trivial | apply And.intro | omega)))) | (refine k_op rfl ?_; first | (refine v_op (g_pickT rfl rfl rfl) rfl rfl ?_) | (refine v_op (g_pickF rfl rfl rfl) rfl rfl ?_) | refine c_stA rfl rfl rfl rfl rfl rfl ?_ | refine v_op (g_ld rfl rfl rfl) rfl rfl ?_ | refine v_op (g_ldA rfl rfl rfl rfl) rfl rfl ?_ | (refine c_rt rfl rfl rfl cx_nm rfl ?_)) | (refine k_gt rfl rfl (by first | assumption | (refine decide_eq_true ?_; (omega))) ?_) | (refine k_gf rfl rfl rfl ?_) | (refine k_tt rfl rfl ?_) | (refine k_ff rfl (dFf (by omega)) ?_) | (refine k_any (s_any (id := 6) _ (fun _ h => h) mixed ?_); refine x_tks (t := tb) (fuel := 3) [0, 1, 2, 3, 4] (bts 8 31) (by kernel_rfl) (by kernel_rfl) rfl rfl (Gh.le.refl _) sRr ?_ ?_; (focus (repeat' (first | exact trivial | apply And.intro | omega))); ((refine (x_tkg (bts 8 63) 5 rfl (by kernel_rfl) rfl (Gh.le.refl _) sRr) (g_bld rfl rfl) rfl rfl ?_)); refine x_all [6] (by kernel_rfl) (by decide) ⟨?_, trivial⟩; refine x_opg rfl rfl ?_; (refine c_al rfl rfl fun _ => ?_); refine x_kk gRr (by repeat (first | exact List.Sublist.refl _ | apply List.Sublist.cons)) (listed' := (bts 8 127)) (by kernel_rfl) ?_; refine x_all [7] (by kernel_rfl) (by decide) ⟨?_, trivial⟩; refine x_opg rfl rfl ?_; (refine c_stA rfl rfl rfl rfl rfl rfl ?_); refine x_kk gRr (by repeat (first | exact List.Sublist.refl _ | apply List.Sublist.cons)) (listed' := (bts 8 255)) (by kernel_rfl) ?_; refine x_done (by kernel_rfl) (k_bk ?_)))
        all_goals refine k_rr (vs := [_, _]) rfl ⟨rc_A rfl rfl rfl rfl, rfl, trivial⟩ rfl (List.nil_sublist _) ⟨Gh.le.refl _, rfl, ?_⟩
        all_goals exact ⟨nilS, ⟨_, _, []⟩, false, rfl, by rw [hno]; rfl, SlV.nil0⟩
    have hn2 : (!isNm (r.take j)) = false := by rw [hg.1]; rfl
    have hs2 := hg.2
    unfold sortOk at hs2
    rw [if_pos hg] at hty
    by_cases hrest : r.drop (j + 1) = []
    · rw [if_pos hrest] at hty
      by_cases h82 : c.toNat = 82
      · rw [if_pos h82] at hty
        have e82 : bt (c :: r) (Int.toNat 0) = 82 := by omega
        repeat' (first | (refine run (t := tb) 400 rfl ?_ ?_; (focus (repeat' (first | exact trivial | apply And.intro | omega)))) | (refine k_op rfl ?_; first | (refine v_op (g_pickT rfl rfl rfl) rfl rfl ?_) | (refine v_op (g_pickF rfl rfl rfl) rfl rfl ?_) | refine v_op (g_ld rfl rfl rfl) rfl rfl ?_ | (refine c_rt rfl rfl rfl cx_nm rfl ?_)) | (refine k_gt rfl rfl (dTt (by omega)) ?_) | (refine k_gf rfl rfl (by first | rfl | assumption | (refine decide_eq_false ?_; (omega))) ?_) | (refine k_tt rfl (dTt ‹_›) ?_) | (refine k_ff rfl (by first | rfl | (refine decide_eq_false ?_; (omega))) ?_) | (refine k_any (s_any (id := 6) _ (fun _ h => h) mixed ?_); refine x_tks (t := tb) (fuel := 3) [0, 1, 2, 3, 4] (bts 8 31) (by kernel_rfl) (by kernel_rfl) rfl rfl (Gh.le.refl _) sRr ?_ ?_; (focus (repeat' (first | exact trivial | apply And.intro | omega))); ((refine (x_tkg (bts 8 63) 5 rfl (by kernel_rfl) rfl (Gh.le.refl _) sRr) (g_bld rfl rfl) rfl rfl ?_)); refine x_all [6] (by kernel_rfl) (by decide) ⟨?_, trivial⟩; refine x_opg rfl rfl ?_; (refine c_al rfl rfl fun _ => ?_); refine x_kk gRr (by repeat (first | exact List.Sublist.refl _ | apply List.Sublist.cons)) (listed' := (bts 8 127)) (by kernel_rfl) ?_; refine x_all [7] (by kernel_rfl) (by decide) ⟨?_, trivial⟩; refine x_opg rfl rfl ?_; (refine c_stA rfl rfl rfl rfl rfl rfl ?_); refine x_kk gRr (by repeat (first | exact List.Sublist.refl _ | apply List.Sublist.cons)) (listed' := (bts 8 255)) (by kernel_rfl) ?_; refine x_done (by kernel_rfl) (k_bk ?_)) | (refine k_any (s_anyD (id := 10) (tt := 2) rfl mixed ?_); refine x_tks (t := tb) (fuel := 5) [1] (bts 6 2) (by kernel_rfl) (by kernel_rfl) rfl rfl (Gh.le.refl _) (by repeat (first | exact List.nil_sublist _ | apply List.Sublist.cons_cons)) ?_ ?_; (focus (repeat' (exact trivial))); ((refine (x_tkg (bts 6 3) 0 rfl (by kernel_rfl) rfl (Gh.le.refl _) (by repeat (first | exact List.nil_sublist _ | apply List.Sublist.cons_cons))) (g_ldA rfl rfl rfl rfl) rfl rfl ?_)); ((refine (x_tkg (bts 6 7) 2 rfl (by kernel_rfl) rfl (Gh.le.refl _) (by repeat (first | exact List.nil_sublist _ | apply List.Sublist.cons_cons))) (g_ld rfl rfl rfl) rfl rfl ?_)); refine x_tks (t := tb) (fuel := 2) [3] (bts 6 15) (by kernel_rfl) (by kernel_rfl) rfl rfl (Gh.le.refl _) (by repeat (first | exact List.nil_sublist _ | apply List.Sublist.cons_cons)) ?_ ?_; (focus (repeat' (exact trivial))); refine x_all [4] (by kernel_rfl) (by decide) ⟨?_, trivial⟩; refine x_opg rfl rfl ?_; (refine c_stA rfl rfl rfl rfl rfl rfl ?_); refine x_kk gRr (by repeat (first | exact List.nil_sublist _ | apply List.Sublist.cons_cons)) (listed' := (bts 6 31)) (by kernel_rfl) ?_; refine x_tks (t := tb) (fuel := 0) [5] (bts 6 63) (by kernel_rfl) (by kernel_rfl) rfl rfl (Gh.le.refl _) (by repeat (first | exact List.nil_sublist _ | apply List.Sublist.cons_cons)) ?_ ?_; (focus (repeat' (exact trivial))); refine x_done (by kernel_rfl) (k_bk ?_)))
        all_goals refine k_rr (vs := [_, _]) rfl ⟨rc_A rfl rfl rfl rfl, rfl, trivial⟩ rfl (List.nil_sublist _) ⟨Gh.le.refl _, rfl, ?_⟩
        all_goals refine ⟨nilS, ⟨82, r.take j, []⟩, true, ?_, hty, SlV.nil0⟩
        all_goals show Tu [Ag [U8 (bt (c :: r) (Int.toNat 0) : Nat), S (r.take j), nilS], Bo (decide (((bt (c :: r) (Int.toNat 0) : Nat) : Int) = 82))] = _
        all_goals (rw [e82]; rfl)
      · rw [if_neg h82] at hty
        have e82 : ¬ bt (c :: r) (Int.toNat 0) = 82 := by omega
        have e83 : decide (((bt (c :: r) (Int.toNat 0) : Nat) : Int) = 82) = false := decide_eq_false (by omega)
        repeat' (first | (refine run (t := tb) 400 rfl ?_ ?_; (focus (repeat' (first | exact trivial | apply And.intro | omega)))) | (refine k_op rfl ?_; first | (refine v_op (g_pickT rfl rfl rfl) rfl rfl ?_) | (refine v_op (g_pickF rfl rfl rfl) rfl rfl ?_) | refine v_op (g_ld rfl rfl rfl) rfl rfl ?_ | (refine c_rt rfl rfl rfl cx_nm rfl ?_)) | (refine k_gt rfl rfl (dTt (by omega)) ?_) | (refine k_gf rfl rfl (by first | rfl | assumption) ?_) | refine k_g rfl rfl (fun _ => ?_) (fun _ => ?_) | (refine k_tt rfl (dTt ‹_›) ?_) | (refine k_ff rfl (by first | rfl | (refine decide_eq_false ?_; (omega))) ?_) | (refine k_any (s_any (id := 6) _ (fun _ h => h) mixed ?_); refine x_tks (t := tb) (fuel := 3) [0, 1, 2, 3, 4] (bts 8 31) (by kernel_rfl) (by kernel_rfl) rfl rfl (Gh.le.refl _) sRr ?_ ?_; (focus (repeat' (first | exact trivial | apply And.intro | omega))); ((refine (x_tkg (bts 8 63) 5 rfl (by kernel_rfl) rfl (Gh.le.refl _) sRr) (g_bld rfl rfl) rfl rfl ?_)); refine x_all [6] (by kernel_rfl) (by decide) ⟨?_, trivial⟩; refine x_opg rfl rfl ?_; (refine c_al rfl rfl fun _ => ?_); refine x_kk gRr (by repeat (first | exact List.Sublist.refl _ | apply List.Sublist.cons)) (listed' := (bts 8 127)) (by kernel_rfl) ?_; refine x_all [7] (by kernel_rfl) (by decide) ⟨?_, trivial⟩; refine x_opg rfl rfl ?_; (refine c_stA rfl rfl rfl rfl rfl rfl ?_); refine x_kk gRr (by repeat (first | exact List.Sublist.refl _ | apply List.Sublist.cons)) (listed' := (bts 8 255)) (by kernel_rfl) ?_; refine x_done (by kernel_rfl) (k_bk ?_)) | (refine k_any (s_anyD (id := 10) (tt := 2) rfl mixed ?_); refine x_tks (t := tb) (fuel := 5) [1] (bts 6 2) (by kernel_rfl) (by kernel_rfl) rfl rfl (Gh.le.refl _) (by repeat (first | exact List.nil_sublist _ | apply List.Sublist.cons_cons)) ?_ ?_; (focus (repeat' (exact trivial))); ((refine (x_tkg (bts 6 3) 0 rfl (by kernel_rfl) rfl (Gh.le.refl _) (by repeat (first | exact List.nil_sublist _ | apply List.Sublist.cons_cons))) (g_ldA rfl rfl rfl rfl) rfl rfl ?_)); ((refine (x_tkg (bts 6 7) 2 rfl (by kernel_rfl) rfl (Gh.le.refl _) (by repeat (first | exact List.nil_sublist _ | apply List.Sublist.cons_cons))) (g_ld rfl rfl rfl) rfl rfl ?_)); refine x_tks (t := tb) (fuel := 2) [3] (bts 6 15) (by kernel_rfl) (by kernel_rfl) rfl rfl (Gh.le.refl _) (by repeat (first | exact List.nil_sublist _ | apply List.Sublist.cons_cons)) ?_ ?_; (focus (repeat' (exact trivial))); refine x_all [4] (by kernel_rfl) (by decide) ⟨?_, trivial⟩; refine x_opg rfl rfl ?_; (refine c_stA rfl rfl rfl rfl rfl rfl ?_); refine x_kk gRr (by repeat (first | exact List.nil_sublist _ | apply List.Sublist.cons_cons)) (listed' := (bts 6 31)) (by kernel_rfl) ?_; refine x_tks (t := tb) (fuel := 0) [5] (bts 6 63) (by kernel_rfl) (by kernel_rfl) rfl rfl (Gh.le.refl _) (by repeat (first | exact List.nil_sublist _ | apply List.Sublist.cons_cons)) ?_ ?_; (focus (repeat' (exact trivial))); refine x_done (by kernel_rfl) (k_bk ?_)))
        all_goals refine k_rr (vs := [_, _]) rfl ⟨rc_A rfl rfl rfl rfl, rfl, trivial⟩ rfl (List.nil_sublist _) ⟨Gh.le.refl _, rfl, ?_⟩
        all_goals refine ⟨nilS, ⟨bt (c :: r) (Int.toNat 0), r.take j, []⟩, false, ?_, hty, SlV.nil0⟩
        all_goals show Tu [Ag [U8 (bt (c :: r) (Int.toNat 0) : Nat), S (r.take j), nilS], Bo (decide (((bt (c :: r) (Int.toNat 0) : Nat) : Int) = 82))] = _
        all_goals (rw [e83])
    rw [if_neg hrest] at hty
    have hrl : (r.drop (j + 1)).length ≤ 1000 := by simp at h ⊢; omega
    have hcl := cut_count (k := 44) (s := r.drop (j + 1))
    have cx_cutS := c_l3CutS (G := G) (s := r.drop (j + 1)) (k := 44) (by omega)
    have hall : ∀ y ∈ cut 44 (r.drop (j + 1)), y.length ≤ 1000 := fun y hy => Nat.le_trans (cut_len hy) hrl
    generalize hxs : cut 44 (r.drop (j + 1)) = xs at *
    rcases hs2 with h1 | h1 | h1
    all_goals repeat' (first | (refine run (t := tb) 400 rfl ?_ ?_; (focus (repeat' (first | exact trivial | apply And.intro | omega)))) | (refine k_op rfl ?_; first | (refine v_op (g_pickT rfl rfl rfl) rfl rfl ?_) | (refine v_op (g_pickF rfl rfl rfl) rfl rfl ?_) | refine v_op (g_ld rfl rfl rfl) rfl rfl ?_ | (refine c_rt rfl rfl rfl cx_nm rfl ?_) | (refine c_fns rfl rfl rfl cx_cutS rfl ?_; rintro _ G hle hcut; skip)) | (refine k_gt rfl rfl (dTt (by omega)) ?_) | (refine k_gf rfl rfl (by first | rfl | assumption | (refine decide_eq_false ?_; (omega))) ?_) | (refine k_ff rfl (by first | rfl | (refine decide_eq_false ?_; first | assumption | omega)) ?_) | (refine k_any (s_any (id := 6) _ (fun _ h => h) mixed ?_); refine x_tks (t := tb) (fuel := 3) [0, 1, 2, 3, 4] (bts 8 31) (by kernel_rfl) (by kernel_rfl) rfl rfl (Gh.le.refl _) sRr ?_ ?_; (focus (repeat' (first | exact trivial | apply And.intro | omega))); ((refine (x_tkg (bts 8 63) 5 rfl (by kernel_rfl) rfl (Gh.le.refl _) sRr) (g_bld rfl rfl) rfl rfl ?_)); refine x_all [6] (by kernel_rfl) (by decide) ⟨?_, trivial⟩; refine x_opg rfl rfl ?_; (refine c_al rfl rfl fun _ => ?_); refine x_kk gRr (by repeat (first | exact List.Sublist.refl _ | apply List.Sublist.cons)) (listed' := (bts 8 127)) (by kernel_rfl) ?_; refine x_all [7] (by kernel_rfl) (by decide) ⟨?_, trivial⟩; refine x_opg rfl rfl ?_; (refine c_stA rfl rfl rfl rfl rfl rfl ?_); refine x_kk gRr (by repeat (first | exact List.Sublist.refl _ | apply List.Sublist.cons)) (listed' := (bts 8 255)) (by kernel_rfl) ?_; refine x_done (by kernel_rfl) (k_bk ?_)))
    all_goals rename_i y v
    all_goals refine Nx.addNil tFld 4 ?_
    all_goals refine k_loop (ι := Value × List Fld × Nat) (fun i => i.2.2 ≤ xs.length ∧ i.2.1.length ≤ i.2.2 ∧ fieldsOf c.toNat (xs.drop i.2.2) i.2.1 = fieldsOf c.toNat xs []) (fun i => [(2, Pt x 0), (5, Pt y 0), (6, v), (7, I i.2.2)]) (fun _ => G) (fun i => [.acc i.1 tFld 4 i.2.1.length (rows fldF i.2.1), .blk y (.cells [U8 (bt (c :: r) (Int.toNat 0) : Nat), S (r.take j), i.1].toArray tTy (0, 0)), .blk x (.cells [U8 0, S [], nilS].toArray tTy (0, 0))]) (fun i => xs.length - i.2.2) (nilS, [], 0) ?_ (by repeat' constructor) rfl sRr (fun i Hi => ?_)
    all_goals (first | exact ⟨Nat.zero_le _, Nat.le_refl _, rfl⟩ | skip)
    all_goals obtain ⟨u, fs, i⟩ := i
    all_goals dsimp only at Hi ⊢
    all_goals obtain ⟨hi1, hi2, hi3⟩ := Hi
    all_goals refine Nx.shp (v := u) (.head _) fun hsh => ?_
    all_goals (have hsh2 := hsh; obtain ⟨au, cu, rfl⟩ := hsh.sl)
    all_goals by_cases hix : i < xs.length
    all_goals try (rw [drop_nth hix, fieldsOf] at hi3; obtain ⟨bv, ov, cv, rfl, hsv⟩ := hcut.expl (by omega); have hx := hall _ (nth_mem hix))
    all_goals repeat' (first | (refine run (t := tb) 400 rfl trivial ?_) | (refine k_op rfl ?_; first | refine c_stA rfl rfl rfl rfl rfl rfl ?_ | refine v_op (g_ldA rfl rfl rfl rfl) rfl rfl ?_ | refine v_op (g_lenL rfl) rfl rfl ?_ | refine v_op (g_lenV rfl (by assumption)) rfl rfl ?_) | (refine k_tt rfl (dTt (by omega)) ?_) | (refine k_ff rfl (dFf (by omega)) ?_) | refine k_cd rfl (fun _ => ?_) (fun _ => ?_) | (refine k_any (s_any (id := 15) _ (fun _ h => h) mixed ?_); refine x_tks (t := tb) (fuel := 10) [0, 1, 4] (bts 13 19) (by kernel_rfl) (by kernel_rfl) rfl rfl (Gh.le.refl _) sRr trivial ?_; ((refine (x_tkg (bts 13 23) 2 rfl (by kernel_rfl) rfl (Gh.le.refl _) sRr) (g_iaddrN rfl rfl (by omega)) rfl rfl ?_)); ((refine (x_tkg (bts 13 31) 3 rfl (by kernel_rfl) rfl (Gh.le.refl _) sRr) (g_ldRS rfl rfl (by assumption) ?_) rfl rfl ?_; (focus ((omega); done)))); ((refine (x_tkg (bts 13 63) 5 rfl (by kernel_rfl) rfl (Gh.le.refl _) sRr) (g_ld rfl rfl rfl) rfl rfl ?_)); refine x_all [6, 10] (by kernel_rfl) (by decide) ⟨?_, ?_, trivial⟩; (focus (refine x_opg rfl rfl ?_; ((refine c_pu rfl rfl rfl (c_l3ReadField (by omega)) rfl ?_; rintro _ ⟨f, ok, rfl, hfld⟩)); refine x_kk gRr sRr (listed' := (bts 13 127)) (by kernel_rfl) ?_; refine x_tks (t := tb) (fuel := 3) [7, 8, 9] (bts 13 1023) (by kernel_rfl) (by kernel_rfl) rfl rfl (Gh.le.refl _) sRr ?_ ?_; (focus (repeat' (exact trivial))); refine x_all [10] (by kernel_rfl) (by decide) ⟨?_, trivial⟩; refine x_opg rfl rfl ?_; (refine c_al rfl rfl fun _ => ?_); refine x_kk gRr (by repeat (first | exact List.Sublist.refl _ | apply List.Sublist.cons)) (listed' := (bts 13 2047)) (by kernel_rfl) ?_; refine x_all [11] (by kernel_rfl) (by decide) ⟨?_, trivial⟩; refine x_opg rfl rfl ?_; (refine c_stA rfl rfl rfl rfl rfl rfl ?_); refine x_kk gRr (by repeat (first | exact List.Sublist.refl _ | apply List.Sublist.cons)) (listed' := (bts 13 4095)) (by kernel_rfl) ?_; refine x_tks (t := tb) (fuel := 0) [12] (bts 13 8191) (by kernel_rfl) (by kernel_rfl) rfl rfl (Gh.le.refl _) (by repeat (first | exact List.Sublist.refl _ | apply List.Sublist.cons)) ?_ ?_; (focus (repeat' (exact trivial))); refine x_done (by kernel_rfl) (k_bk ?_))); rotate_left 1; (focus (refine x_opg rfl rfl ?_; (refine c_al rfl rfl fun _ => ?_); refine x_kk gRr (by repeat (first | exact List.Sublist.refl _ | apply List.Sublist.cons)) (listed' := (bts 13 1087)) (by kernel_rfl) ?_; refine x_all [6] (by kernel_rfl) (by decide) ⟨?_, trivial⟩; refine x_opg rfl rfl ?_; ((refine c_pu rfl rfl rfl (c_l3ReadField (by omega)) rfl ?_; rintro _ ⟨f, ok, rfl, hfld⟩)); refine x_kk gRr (by repeat (first | exact List.Sublist.refl _ | apply List.Sublist.cons)) (listed' := (bts 13 1151)) (by kernel_rfl) ?_; refine x_tks (t := tb) (fuel := 2) [7, 8, 9] (bts 13 2047) (by kernel_rfl) (by kernel_rfl) rfl rfl (Gh.le.refl _) (by repeat (first | exact List.Sublist.refl _ | apply List.Sublist.cons)) ?_ ?_; (focus (repeat' (exact trivial))); refine x_all [11] (by kernel_rfl) (by decide) ⟨?_, trivial⟩; refine x_opg rfl rfl ?_; (refine c_stA rfl rfl rfl rfl rfl rfl ?_); refine x_kk gRr (by repeat (first | exact List.Sublist.refl _ | apply List.Sublist.cons)) (listed' := (bts 13 4095)) (by kernel_rfl) ?_; refine x_tks (t := tb) (fuel := 0) [12] (bts 13 8191) (by kernel_rfl) (by kernel_rfl) rfl rfl (Gh.le.refl _) (by repeat (first | exact List.Sublist.refl _ | apply List.Sublist.cons)) ?_ ?_; (focus (repeat' (exact trivial))); refine x_done (by kernel_rfl) (k_bk ?_))); rotate_left 1) | (refine k_any (s_anyD (id := 24) (tt := 2) rfl mixed ?_); refine x_tks (t := tb) (fuel := 6) [1] (bts 7 2) (by kernel_rfl) (by kernel_rfl) rfl rfl (Gh.le.refl _) (by repeat (first | exact List.nil_sublist _ | apply List.Sublist.cons_cons)) ?_ ?_; (focus (repeat' (exact trivial))); ((refine (x_tkg (bts 7 3) 0 rfl (by kernel_rfl) rfl (Gh.le.refl _) (by repeat (first | exact List.nil_sublist _ | apply List.Sublist.cons_cons))) (g_ldA rfl rfl rfl rfl) rfl rfl ?_)); ((refine (x_tkg (bts 7 7) 2 rfl (by kernel_rfl) rfl (Gh.le.refl _) (by repeat (first | exact List.nil_sublist _ | apply List.Sublist.cons_cons))) (g_ld rfl rfl rfl) rfl rfl ?_)); ((refine (x_tkg (bts 7 15) 3 rfl (by kernel_rfl) rfl (Gh.le.refl _) (by repeat (first | exact List.nil_sublist _ | apply List.Sublist.cons_cons))) (g_lenL rfl) rfl rfl ?_)); refine x_tks (t := tb) (fuel := 2) [4] (bts 7 31) (by kernel_rfl) (by kernel_rfl) rfl rfl (Gh.le.refl _) (by repeat (first | exact List.nil_sublist _ | apply List.Sublist.cons_cons)) ?_ ?_; (focus (repeat' (exact trivial))); refine x_all [5] (by kernel_rfl) (by decide) ⟨?_, trivial⟩; refine x_opg rfl rfl ?_; (refine c_stA rfl rfl rfl rfl rfl rfl ?_); refine x_kk gRr (by repeat (first | exact List.nil_sublist _ | apply List.Sublist.cons_cons)) (listed' := (bts 7 63)) (by kernel_rfl) ?_; refine x_tks (t := tb) (fuel := 0) [6] (bts 7 127) (by kernel_rfl) (by kernel_rfl) rfl rfl (Gh.le.refl _) (by repeat (first | exact List.nil_sublist _ | apply List.Sublist.cons_cons)) ?_ ?_; (focus (repeat' (exact trivial))); refine x_done (by kernel_rfl) (k_bk ?_)))
    all_goals first
      | (rename_i z hq
         have hq2 : ok = false := by simpa using hq
         subst hq2
         have hf0 : fldOf (nth xs i) c.toNat = none := hfld
         have hno : tyOf (c :: r) = none := by rw [hf0] at hi3; rw [hty, ← hi3]
         refine Nx.sealS (v := .slice au fs.length cu) fun G' hle2 hsl => ?_
         refine k_rr (vs := [_, _]) rfl ⟨rc_A rfl rfl rfl rfl, rfl, trivial⟩ rfl (List.nil_sublist _) ⟨hle.trans hle2, rfl, ?_⟩
         exact ⟨.slice au fs.length cu, ⟨bt (c :: r) (Int.toNat 0), r.take j, fs⟩, false, rfl, by rw [hno]; rfl, hsl⟩)
      | (have ei : i = xs.length := by omega
         have hyes : tyOf (c :: r) = if fs.length ≤ 8 then some ⟨c.toNat, r.take j, fs⟩ else none := by
           rw [ei, List.drop_length, fieldsOf] at hi3
           rw [hty, ← hi3]
         refine Nx.sealS (v := .slice au fs.length cu) fun G' hle2 hsl => ?_
         refine k_rr (vs := [_, _]) rfl ⟨rc_A rfl rfl rfl rfl, rfl, trivial⟩ rfl (List.nil_sublist _) ⟨hle.trans hle2, rfl, ?_⟩
         refine ⟨.slice au fs.length cu, ⟨c.toNat, r.take j, fs⟩, decide (fs.length ≤ 8), ?_, by rw [hyes]; simp, hsl⟩
         rw [oneOf_two, e0]
         refine congrArg (fun x => Tu [_, Bo x]) (decide_eq_decide.2 ?_)
         omega)
      | (rename_i z hq
         have hq2 : ok = true := by simpa using hq
         subst hq2
         have hf1 : fldOf (nth xs i) c.toNat = some f := hfld
         rw [hf1] at hi3
         dsimp only at hi3
         refine k_loop (ι := Nat) (fun k => k ≤ fs.length ∧ ∀ m, m < k → (nth fs m).tag < f.tag ∧ (nth fs m).name ≠ f.name) (fun k => [(2, Pt x 0), (5, Pt y 0), (6, .slice (some ⟨bv, ov, none⟩) xs.length cv), (7, I i), (8, Pt z 0), (10, I k)]) (fun _ => G) (fun k => [.blk z (.cells (fldF f).toArray tFld (0, 0)), .acc (.slice au fs.length cu) tFld 4 fs.length (rows fldF fs), .blk y (.cells [U8 (bt (c :: r) (Int.toNat 0) : Nat), S (r.take j), .slice au fs.length cu].toArray tTy (0, 0)), .blk x (.cells [U8 0, S [], nilS].toArray tTy (0, 0))]) (fun k => fs.length - k) 0 ?_ (by repeat' constructor) rfl sRr (fun k Hk => ?_)
         · exact ⟨Nat.zero_le _, fun m hm => absurd hm (by omega)⟩
         by_cases hk : k < fs.length
         · obtain ⟨bu, cu2, eu⟩ := hsh2.pos (by omega)
           simp only [Value.slice.injEq] at eu
           obtain ⟨rfl, -, rfl⟩ := eu
           by_cases hbad : (nth fs k).tag < f.tag ∧ (nth fs k).name ≠ f.name
           · obtain ⟨hb1, hb2⟩ := hbad
             repeat' (first | (refine run (t := tb) 400 rfl ?_ ?_; (focus (repeat' (first | exact trivial | apply And.intro | omega)))) | (refine k_op rfl ?_; first | refine v_op (g_ld rfl rfl rfl) rfl rfl ?_ | refine v_op (g_lenL rfl) rfl rfl ?_) | (refine k_tt rfl (dTt (by omega)) ?_) | (refine k_ff rfl (dFf ‹_›) ?_) | (refine k_any (s_any (id := 21) _ (fun _ h => h) mixed ?_); refine x_tks (t := tb) (fuel := 17) [0, 2, 6] (bts 20 69) (by kernel_rfl) (by kernel_rfl) rfl rfl (Gh.le.refl _) sRr trivial ?_; ((refine (x_tkg (bts 20 71) 1 rfl (by kernel_rfl) rfl (Gh.le.refl _) sRr) (g_ld rfl rfl rfl) rfl rfl ?_)); ((refine (x_tkg (bts 20 79) 3 rfl (by kernel_rfl) rfl (Gh.le.refl _) sRr) (g_iaddrN rfl rfl (by omega)) rfl rfl ?_)); refine x_tks (t := tb) (fuel := 14) [4] (bts 20 95) (by kernel_rfl) (by kernel_rfl) rfl rfl (Gh.le.refl _) sRr trivial ?_; ((refine (x_tkg (bts 20 127) 5 rfl (by kernel_rfl) rfl (Gh.le.refl _) sRr) (g_ldBRF rfl rfl rfl (by omega) rfl rfl) rfl rfl ?_)); ((refine (x_tkg (bts 20 255) 7 rfl (by kernel_rfl) rfl (Gh.le.refl _) sRr) (g_ld rfl rfl rfl) rfl rfl ?_)); refine x_tks (t := tb) (fuel := 10) [8, 9] (bts 20 1023) (by kernel_rfl) (by kernel_rfl) rfl rfl (Gh.le.refl _) sRr trivial ?_; (try ((refine Nx.re (d := 107) (v' := Bo false) rfl (congrArg Value.bool (dFf (by omega))) ?_))); refine x_tks (t := tb) (fuel := 7) [10, 12, 16] (bts 20 71679) (by kernel_rfl) (by kernel_rfl) rfl rfl (Gh.le.refl _) sRr trivial ?_; ((refine (x_tkg (bts 20 73727) 11 rfl (by kernel_rfl) rfl (Gh.le.refl _) sRr) (g_ld rfl rfl rfl) rfl rfl ?_)); ((refine (x_tkg (bts 20 81919) 13 rfl (by kernel_rfl) rfl (Gh.le.refl _) sRr) (g_iaddrN rfl rfl (by omega)) rfl rfl ?_)); refine x_tks (t := tb) (fuel := 4) [14] (bts 20 98303) (by kernel_rfl) (by kernel_rfl) rfl rfl (Gh.le.refl _) sRr trivial ?_; ((refine (x_tkg (bts 20 131071) 15 rfl (by kernel_rfl) rfl (Gh.le.refl _) sRr) (g_ldBRF rfl rfl rfl (by omega) rfl rfl) rfl rfl ?_)); ((refine (x_tkg (bts 20 262143) 17 rfl (by kernel_rfl) rfl (Gh.le.refl _) sRr) (g_ld rfl rfl rfl) rfl rfl ?_)); refine x_tks (t := tb) (fuel := 1) [18] (bts 20 524287) (by kernel_rfl) (by kernel_rfl) rfl rfl (Gh.le.refl _) sRr trivial ?_; ((refine (x_tkg (bts 20 1048575) 19 rfl (by kernel_rfl) rfl (Gh.le.refl _) sRr) (g_pickF rfl rfl rfl) rfl rfl ?_)); refine x_done (by kernel_rfl) (k_bk ?_)))
             refine k_rd (k + 1) ⟨by omega, fun m hm => ?_⟩ (by omega) (by repeat' constructor) rfl sRr
             rcases Nat.lt_or_ge m k with h3 | h3
             · exact Hk.2 m h3
             · have : m = k := by omega
               subst this; exact ⟨hb1, hb2⟩
           · have hfr : fresh f fs = false := by
               unfold fresh
               rw [List.all_eq_false]
               exact ⟨nth fs k, nth_mem hk, by simpa using hbad⟩
             have hno : tyOf (c :: r) = none := by
               rw [hfr, if_neg (by simp)] at hi3
               rw [hty, ← hi3]
             by_cases htag : f.tag ≤ (nth fs k).tag
             case' neg => have hnm : (nth fs k).name = f.name := by
                           by_cases h6 : (nth fs k).name = f.name
                           · exact h6
                           · exact absurd ⟨by omega, h6⟩ hbad
             all_goals repeat' (first | (refine run (t := tb) 400 rfl trivial ?_) | (refine k_op rfl ?_; first | refine c_stA rfl rfl rfl rfl rfl rfl ?_ | refine v_op (g_ld rfl rfl rfl) rfl rfl ?_ | refine v_op (g_ldA rfl rfl rfl rfl) rfl rfl ?_ | refine v_op (g_lenL rfl) rfl rfl ?_) | (refine k_tt rfl (by first | rfl | (refine decide_eq_true ?_; first | assumption | omega)) ?_) | (refine k_any (s_any (id := 21) _ (fun _ h => h) mixed ?_); refine x_tks (t := tb) (fuel := 17) [0, 2, 6] (bts 20 69) (by kernel_rfl) (by kernel_rfl) rfl rfl (Gh.le.refl _) sRr trivial ?_; ((refine (x_tkg (bts 20 71) 1 rfl (by kernel_rfl) rfl (Gh.le.refl _) sRr) (g_ld rfl rfl rfl) rfl rfl ?_)); ((refine (x_tkg (bts 20 79) 3 rfl (by kernel_rfl) rfl (Gh.le.refl _) sRr) (g_iaddrN rfl rfl (by omega)) rfl rfl ?_)); refine x_tks (t := tb) (fuel := 14) [4] (bts 20 95) (by kernel_rfl) (by kernel_rfl) rfl rfl (Gh.le.refl _) sRr trivial ?_; ((refine (x_tkg (bts 20 127) 5 rfl (by kernel_rfl) rfl (Gh.le.refl _) sRr) (g_ldBRF rfl rfl rfl (by omega) rfl rfl) rfl rfl ?_)); ((refine (x_tkg (bts 20 255) 7 rfl (by kernel_rfl) rfl (Gh.le.refl _) sRr) (g_ld rfl rfl rfl) rfl rfl ?_)); refine x_tks (t := tb) (fuel := 10) [8, 9] (bts 20 1023) (by kernel_rfl) (by kernel_rfl) rfl rfl (Gh.le.refl _) sRr trivial ?_; (try (first | (refine Nx.re (d := 107) (v' := Bo true) rfl (congrArg Value.bool (dTt ‹_›)) ?_) | (refine Nx.re (d := 107) (v' := Bo false) rfl (congrArg Value.bool (dFf ‹_›)) ?_))); refine x_tks (t := tb) (fuel := 7) [10, 12, 16] (bts 20 71679) (by kernel_rfl) (by kernel_rfl) rfl rfl (Gh.le.refl _) sRr trivial ?_; (first | refine (x_tkg (bts 20 73727) 11 rfl (by kernel_rfl) rfl (Gh.le.refl _) sRr) (g_ld rfl rfl rfl) rfl rfl ?_ | refine x_tkn (bts 20 73727) 11 rfl (by kernel_rfl) rfl (Gh.le.refl _) sRr rfl rfl ?_); (first | (refine (x_tkg (bts 20 81919) 13 rfl (by kernel_rfl) rfl (Gh.le.refl _) sRr) (g_iaddrN rfl rfl (by omega)) rfl rfl ?_) | refine x_tkn (bts 20 81919) 13 rfl (by kernel_rfl) rfl (Gh.le.refl _) sRr rfl rfl ?_); refine x_tks (t := tb) (fuel := 4) [14] (bts 20 98303) (by kernel_rfl) (by kernel_rfl) rfl rfl (Gh.le.refl _) sRr trivial ?_; (first | (refine (x_tkg (bts 20 131071) 15 rfl (by kernel_rfl) rfl (Gh.le.refl _) sRr) (g_ldBRF rfl rfl rfl (by omega) rfl rfl) rfl rfl ?_) | refine x_tkn (bts 20 131071) 15 rfl (by kernel_rfl) rfl (Gh.le.refl _) sRr rfl rfl ?_); (first | refine (x_tkg (bts 20 262143) 17 rfl (by kernel_rfl) rfl (Gh.le.refl _) sRr) (g_ld rfl rfl rfl) rfl rfl ?_ | refine x_tkn (bts 20 262143) 17 rfl (by kernel_rfl) rfl (Gh.le.refl _) sRr rfl rfl ?_); refine x_tks (t := tb) (fuel := 1) [18] (bts 20 524287) (by kernel_rfl) (by kernel_rfl) rfl rfl (Gh.le.refl _) sRr trivial ?_; (first | (refine (x_tkg (bts 20 1048575) 19 rfl (by kernel_rfl) rfl (Gh.le.refl _) sRr) (g_pickT rfl rfl rfl) rfl rfl ?_) | (refine (x_tkg (bts 20 1048575) 19 rfl (by kernel_rfl) rfl (Gh.le.refl _) sRr) (g_pickF rfl rfl rfl) rfl rfl ?_)); refine x_done (by kernel_rfl) (k_bk ?_)))
             all_goals refine Nx.sealS (v := .slice (some ⟨bu, 0, none⟩) fs.length cu) fun G' hle2 hsl => ?_
             all_goals refine k_rr (vs := [_, _]) rfl ⟨rc_A rfl rfl rfl rfl, rfl, trivial⟩ rfl (List.nil_sublist _) ⟨hle.trans hle2, rfl, ?_⟩
             all_goals exact ⟨.slice (some ⟨bu, 0, none⟩) fs.length cu, ⟨bt (c :: r) (Int.toNat 0), r.take j, fs⟩, false, rfl, by rw [hno]; rfl, hsl⟩
         · have hfr : fresh f fs = true := by
             unfold fresh
             rw [List.all_eq_true]
             intro g hg
             obtain ⟨m, hm, rfl⟩ := mem_nth hg
             simpa using Hk.2 m (by omega)
           rw [hfr, if_pos rfl] at hi3
           have hxl : xs.length ≤ 1001 := by omega
           repeat' (first | (refine run (t := tb) 400 rfl trivial ?_) | (refine k_op rfl ?_; first | refine v_op (g_ld rfl rfl rfl) rfl rfl ?_ | refine v_op (g_ldA rfl rfl rfl rfl) rfl rfl ?_ | refine v_op (g_lenL rfl) rfl rfl ?_ | refine c_bsl rfl rfl rfl rfl rfl rfl fun _ => ?_ | (refine c_apB rfl rfl rfl rfl rfl rfl rfl rfl (by omega) fun _ => ?_)) | (refine k_ff rfl (dFf (by omega)) ?_))
           rename_i u2
           refine Nx.shp (v := u2) (.head _) fun hs4 => ?_
           obtain ⟨a4, c4, rfl⟩ := hs4.sl
           repeat' (first | (refine run (t := tb) 400 rfl ?_ ?_; (focus (repeat' (first | exact trivial | apply And.intro | omega)))) | (refine k_op rfl ?_; (refine c_st1 rfl rfl rfl rfl ?_)))
           refine k_rd (.slice a4 (fs.length + 1) c4, fs ++ [f], i + 1) ⟨by dsimp only; omega, by simp; omega, hi3⟩ (by dsimp only; omega) (by repeat' constructor) rfl (by dsimp only; simp only [rows_snoc, List.length_append, List.length_cons, List.length_nil, Nat.zero_add]; repeat (first | exact List.Sublist.refl _ | apply List.Sublist.cons_cons | apply List.Sublist.cons)))
end Go.E
namespace Go.E
set_option maxRecDepth 20000
set_option maxHeartbeats 2000000
open Go.Proofs
variable {G : Gh}
def TyI (G : Gh) (b : Nat) (t : Ty) : Prop := ∃ fv ln, Seg G b 0 [U8 t.sort, S t.name, fv, S ln] ∧ SlV G fv 6 t.fields.length (rows fiF t.fields)
theorem TyI.mono {G G' : Gh} {b : Nat} {t : Ty} (h : TyI G b t) (hl : Gh.le G G') : TyI G' b t := by
  obtain ⟨fv, ln, h1, h2⟩ := h
  exact ⟨fv, ln, h1.mono hl, h2.mono hl⟩
def TiPost (s : List UInt8) (v : Value) (G : Gh) : Prop := (tyOf s = none ∧ ∃ p, v = Tu [p, Bo false]) ∨ ∃ b t, v = Tu [Pt b 0, Bo true] ∧ tyOf s = some t ∧ TyI G b t
abbrev tFi : TypeId := 123
abbrev tTi : TypeId := 121
theorem fieldsOf_len {k : Nat} : ∀ {xs : List (List UInt8)} {fs gs : List Fld}, fieldsOf k xs fs = some gs → gs.length = fs.length + xs.length
  | [], fs, gs, h => by simp only [fieldsOf, Option.some.injEq] at h; subst h; simp
  | x :: xs, fs, gs, h => by
    unfold fieldsOf at h
    split at h
    · cases h
    · split at h
      · have := fieldsOf_len h; simp at this ⊢; omega
      · cases h
theorem rue (c : UInt8) : decide (0 ≤ idx1 c.toNat [82, 85, 69]) = decide (sortOk c.toNat) := by
  have h : ∀ n : Nat, n < 256 → decide (0 ≤ idx1 n [82, 85, 69]) = decide (sortOk n) := by decide +kernel
  exact h _ c.toNat_lt
theorem c_readType {s : List UInt8} (h : s.length ≤ 1000) : FnS Tryz.prog 84 [S s] G (TiPost s) := by
  match s, h with
  | [], h =>
    refine b_enter [(0, _)] Tryz.func84 (by kernel_rfl) Tryz.ntmps84 rfl rfl (by repeat' constructor) fun B hok hB hW => ?_
    repeat' (first | (refine run (t := tb) 400 rfl trivial ?_) | (refine k_op rfl ?_; (refine v_op (g_pickT rfl rfl rfl) rfl rfl ?_)) | (refine k_gt rfl rfl rfl ?_) | (refine k_tt rfl rfl ?_))
    all_goals refine k_rr (vs := [_, _]) rfl ⟨rfl, rfl, trivial⟩ rfl (List.nil_sublist _) ⟨Gh.le.refl _, rfl, ?_⟩
    all_goals exact .inl ⟨rfl, _, rfl⟩
  | c :: r, h =>
    have cx_cont : PuG Tryz.prog 106 [S [82, 85, 69], S [c]] G (· = Bo (decide (sortOk c.toNat))) := by rw [← rue]; exact c_Contains
    by_cases hs : sortOk c.toNat
    case neg =>
      have hno : tyOf (c :: r) = none := by
        cases ht : (cut1 61 r).2.2 with
        | false => exact tyOf_bad ht
        | true => rw [tyOf_at (c := c) (r := r) (name := (cut1 61 r).1) (rest := (cut1 61 r).2.1) (by rw [← ht]), if_neg fun h => hs h.2]
      have hs2 : (!decide (sortOk c.toNat)) = true := by simpa using hs
      refine b_enter [(0, _)] Tryz.func84 (by kernel_rfl) Tryz.ntmps84 rfl rfl (by repeat' constructor) fun B hok hB hW => ?_
      repeat' (first | (refine run (t := tb) 400 rfl ?_ ?_; (focus (repeat' (first | exact trivial | apply And.intro | omega | (simp only [List.length_append, List.length_cons, List.length_nil, Int.toNat_natCast]; omega))))) | (refine k_op rfl ?_; first | (refine v_op (g_pickF rfl rfl rfl) rfl rfl ?_) | (refine c_rt rfl rfl rfl cx_cont rfl ?_)) | (refine k_gf rfl rfl rfl ?_) | (refine k_tt rfl ‹_› ?_))
      all_goals refine k_rr (vs := [_, _]) rfl ⟨rfl, rfl, trivial⟩ rfl (List.nil_sublist _) ⟨Gh.le.refl _, rfl, ?_⟩
      all_goals exact .inl ⟨hno, _, rfl⟩
    have hs2 : (!decide (sortOk c.toNat)) = false := by simpa using hs
    have hcl := cut1_len (k := 61) (s := r)
    have hrl : r.length ≤ 1000 := by simp at h; omega
    have cx_cut : PuG Tryz.prog 83 [S r, S [61]] G (· = Tu [S (cut1 61 r).1, S (cut1 61 r).2.1, Bo (cut1 61 r).2.2]) := c_Cut (c := 61) (by omega)
    cases ht : (cut1 61 r).2.2 with
    | false =>
      rw [ht] at cx_cut
      refine b_enter [(0, _)] Tryz.func84 (by kernel_rfl) Tryz.ntmps84 rfl rfl (by repeat' constructor) fun B hok hB hW => ?_
      repeat' (first | (refine run (t := tb) 400 rfl ?_ ?_; (focus (repeat' (first | exact trivial | apply And.intro | omega | (simp only [List.length_append, List.length_cons, List.length_nil, Int.toNat_natCast]; omega))))) | (refine k_op rfl ?_; first | (refine v_op (g_pickT rfl rfl rfl) rfl rfl ?_) | (refine v_op (g_pickF rfl rfl rfl) rfl rfl ?_) | (refine c_rt rfl rfl rfl cx_cont rfl ?_) | (refine c_rt rfl rfl rfl cx_cut rfl ?_)) | (refine k_gt rfl rfl rfl ?_) | (refine k_gf rfl rfl rfl ?_) | (refine k_tt rfl rfl ?_) | (refine k_ff rfl ‹_› ?_))
      all_goals refine k_rr (vs := [_, _]) rfl ⟨rfl, rfl, trivial⟩ rfl (List.nil_sublist _) ⟨Gh.le.refl _, rfl, ?_⟩
      all_goals exact .inl ⟨tyOf_bad ht, _, rfl⟩
    | true =>
      have hty := tyOf_at (c := c) (r := r) (name := (cut1 61 r).1) (rest := (cut1 61 r).2.1) (by rw [← ht])
      rw [ht] at cx_cut
      generalize (cut1 61 r).1 = name at *
      generalize (cut1 61 r).2.1 = rest at *
      have e0 : bt (c :: r) (Int.toNat 0) = c.toNat := bt_zero c r
      by_cases hn : isNm name = true
      case neg =>
        have hn2 : (!isNm name) = true := by simpa using hn
        have hno : tyOf (c :: r) = none := by rw [hty, if_neg fun h => hn h.1]
        refine b_enter [(0, _)] Tryz.func84 (by kernel_rfl) Tryz.ntmps84 rfl rfl (by repeat' constructor) fun B hok hB hW => ?_
        repeat' (first | (refine run (t := tb) 400 rfl ?_ ?_; (focus (repeat' (first | exact trivial | apply And.intro | omega | (simp only [List.length_append, List.length_cons, List.length_nil, Int.toNat_natCast]; omega))))) | (refine k_op rfl ?_; first | (refine v_op (g_pickF rfl rfl rfl) rfl rfl ?_) | (refine c_rt rfl rfl rfl cx_cont rfl ?_) | (refine c_rt rfl rfl rfl cx_cut rfl ?_) | (refine c_rt rfl rfl rfl (c_isName (by omega)) rfl ?_)) | (refine k_gf rfl rfl rfl ?_) | (refine k_tt rfl ‹_› ?_) | (refine k_ff rfl ‹_› ?_))
        all_goals refine k_rr (vs := [_, _]) rfl ⟨rfl, rfl, trivial⟩ rfl (List.nil_sublist _) ⟨Gh.le.refl _, rfl, ?_⟩
        all_goals exact .inl ⟨hno, _, rfl⟩
      have hn2 : (!isNm name) = false := by rw [hn]; rfl
      rw [if_pos ⟨hn, hs⟩] at hty
      by_cases hr : rest = []
      · rw [if_pos hr] at hty
        by_cases h82 : c.toNat = 82
        · rw [if_pos h82] at hty
          have e82 : bt (c :: r) (Int.toNat 0) = 82 := by omega
          refine b_enter [(0, _)] Tryz.func84 (by kernel_rfl) Tryz.ntmps84 rfl rfl (by repeat' constructor) fun B hok hB hW => ?_
          repeat' (first | (refine run (t := tb) 400 rfl ?_ ?_; (focus (repeat' (first | exact trivial | apply And.intro | omega | (simp only [List.length_append, List.length_cons, List.length_nil, Int.toNat_natCast]; omega))))) | (refine k_op rfl ?_; first | (refine v_op (g_pickF rfl rfl rfl) rfl rfl ?_) | refine v_op (g_bld rfl rfl) rfl rfl ?_ | refine c_bx rfl rfl rfl fun _ => ?_ | (refine c_rt rfl rfl rfl cx_cont rfl ?_) | (refine c_rt rfl rfl rfl cx_cut rfl ?_) | (refine c_rt rfl rfl rfl (c_isName (by omega)) rfl ?_)) | (refine k_gf rfl rfl rfl ?_) | (refine k_tt rfl (dTt ‹_›) ?_) | (refine k_ff rfl ‹_› ?_) | (refine k_any (s_any (id := 8) _ (fun _ h => h) mixed ?_); refine x_tks (t := tb) (fuel := 3) [0, 1, 2, 3, 6] (bts 8 79) (by kernel_rfl) (by kernel_rfl) rfl rfl (Gh.le.refl _) sRr trivial ?_; ((refine (x_tkg (bts 8 95) 4 rfl (by kernel_rfl) rfl (Gh.le.refl _) sRr) (g_ld rfl rfl rfl) rfl rfl ?_)); refine x_tks (t := tb) (fuel := 0) [5, 7] (bts 8 255) (by kernel_rfl) (by kernel_rfl) rfl rfl (Gh.le.refl _) sRr trivial ?_; refine x_done (by kernel_rfl) (k_bk ?_)))
          rename_i x
          refine Nx.sealC (b := x) fun G' hle hseg => ?_
          refine k_rr (vs := [_, _]) rfl ⟨rfl, rfl, trivial⟩ rfl (List.nil_sublist _) ⟨hle, rfl, ?_⟩
          rw [e82] at hseg
          refine .inr ⟨x, ⟨82, name, []⟩, ?_, hty, _, _, hseg, SlV.nil0⟩
          show Tu [Pt x 0, Bo (decide (((bt (c :: r) (Int.toNat 0) : Nat) : Int) = 82))] = _
          rw [e82]; rfl
        · rw [if_neg h82] at hty
          have e82 : ¬ bt (c :: r) (Int.toNat 0) = 82 := by omega
          refine b_enter [(0, _)] Tryz.func84 (by kernel_rfl) Tryz.ntmps84 rfl rfl (by repeat' constructor) fun B hok hB hW => ?_
          repeat' (first | (refine run (t := tb) 400 rfl ?_ ?_; (focus (repeat' (first | exact trivial | apply And.intro | omega | (simp only [List.length_append, List.length_cons, List.length_nil, Int.toNat_natCast]; omega))))) | (refine k_op rfl ?_; first | (refine v_op (g_pickF rfl rfl rfl) rfl rfl ?_) | refine v_op (g_bld rfl rfl) rfl rfl ?_ | refine c_bx rfl rfl rfl fun _ => ?_ | (refine c_rt rfl rfl rfl cx_cont rfl ?_) | (refine c_rt rfl rfl rfl cx_cut rfl ?_) | (refine c_rt rfl rfl rfl (c_isName (by omega)) rfl ?_)) | (refine k_gf rfl rfl rfl ?_) | (refine k_tt rfl (dTt ‹_›) ?_) | (refine k_ff rfl ‹_› ?_) | (refine k_any (s_any (id := 8) _ (fun _ h => h) mixed ?_); refine x_tks (t := tb) (fuel := 3) [0, 1, 2, 3, 6] (bts 8 79) (by kernel_rfl) (by kernel_rfl) rfl rfl (Gh.le.refl _) sRr trivial ?_; ((refine (x_tkg (bts 8 95) 4 rfl (by kernel_rfl) rfl (Gh.le.refl _) sRr) (g_ld rfl rfl rfl) rfl rfl ?_)); refine x_tks (t := tb) (fuel := 0) [5, 7] (bts 8 255) (by kernel_rfl) (by kernel_rfl) rfl rfl (Gh.le.refl _) sRr trivial ?_; refine x_done (by kernel_rfl) (k_bk ?_)))
          all_goals refine k_rr (vs := [_, _]) rfl ⟨rfl, rfl, trivial⟩ rfl (List.nil_sublist _) ⟨Gh.le.refl _, rfl, ?_⟩
          all_goals exact .inl ⟨hty, _, by rw [oneOf_two, decide_eq_false (show ¬ ((bt (c :: r) (Int.toNat 0) : Nat) : Int) = 82 by omega)]⟩
      · rw [if_neg hr] at hty
        have hall : ∀ y ∈ cut 44 rest, y.length ≤ 1000 := fun y hy => Nat.le_trans (cut_len hy) (by omega)
        have hcnt := cut_count (k := 44) (s := rest)
        have cx_split : FnS Tryz.prog 107 [S rest, S [44]] G (fun v G' => ∃ b o cap, v = .slice (some ⟨b, o, none⟩) (cut 44 rest).length cap ∧ Seg G' b o (rows strF (cut 44 rest))) := c_splitX (c := 44) _ (by omega) rfl rfl rfl cut_pos
        generalize cut 44 rest = xs at *
        refine b_enter [(0, _)] Tryz.func84 (by kernel_rfl) Tryz.ntmps84 rfl rfl (by repeat' constructor) fun B hok hB hW => ?_
        repeat' (first | (refine run (t := tb) 400 rfl ?_ ?_; (focus (repeat' (first | exact trivial | apply And.intro | omega | (simp only [List.length_append, List.length_cons, List.length_nil, Int.toNat_natCast]; omega))))) | (refine k_op rfl ?_; first | (refine v_op (g_pickF rfl rfl rfl) rfl rfl ?_) | refine v_op (g_bld rfl rfl) rfl rfl ?_ | refine c_bx rfl rfl rfl fun _ => ?_ | refine v_op (g_lenL rfl) rfl rfl ?_ | (refine c_rt rfl rfl rfl cx_cont rfl ?_) | (refine c_rt rfl rfl rfl cx_cut rfl ?_) | (refine c_rt rfl rfl rfl (c_isName (by omega)) rfl ?_) | (refine c_fns rfl rfl rfl cx_split rfl ?_; rintro _ G hle ⟨b1, o1, cap1, rfl, hseg⟩; skip)) | (refine k_gf rfl rfl rfl ?_) | (refine k_ff rfl (by first | assumption | (refine decide_eq_false ?_; (assumption))) ?_))
        rename_i x
        have hle0 := hle
        refine Nx.addNil tFi 6 ?_
        refine k_loop (ι := Value × List Fld × Nat × Gh) (fun i => ((i.2.2.1 ≤ xs.length ∧ i.2.1.length ≤ i.2.2.1) ∧ i.2.1.length ≤ 8) ∧ fieldsOf c.toNat (xs.drop i.2.2.1) i.2.1 = fieldsOf c.toNat xs [] ∧ Gh.le G i.2.2.2) (fun i => [(7, Pt x 0), (51, .slice (some ⟨b1, o1, none⟩) xs.length cap1), (52, I xs.length), (53, I i.2.2.1)]) (fun i => i.2.2.2) (fun i => [.acc i.1 tFi 6 i.2.1.length (rows fiF i.2.1), .blk x (.cells [U8 (bt (c :: r) (Int.toNat 0) : Nat), S name, i.1, S (c :: r)].toArray tTi (0, 0))]) (fun i => xs.length - i.2.2.1) (nilS, [], 0, G) ?_ (by repeat' constructor) rfl sRr (fun i Hi => ?_)
        · exact ⟨⟨⟨Nat.zero_le _, Nat.le_refl _⟩, by simp⟩, rfl, Gh.le.refl _⟩
        obtain ⟨u, fs, i, Gk⟩ := i
        dsimp only at Hi ⊢
        obtain ⟨⟨⟨hi1, hi2⟩, hi8⟩, hi3, hgk⟩ := Hi
        have hsk := hseg.mono hgk
        refine Nx.shp (v := u) (.head _) fun hsh => ?_
        have hsh2 := hsh
        obtain ⟨au, cu, rfl⟩ := hsh.sl
        by_cases hix : i < xs.length
        case neg =>
          have ei : i = xs.length := by omega
          rw [ei, List.drop_length, fieldsOf] at hi3
          have hyes : tyOf (c :: r) = some ⟨c.toNat, name, fs⟩ := by rw [hty, ← hi3]; exact if_pos hi8
          repeat' (first | (refine run (t := tb) 400 rfl trivial ?_) | (refine k_ff rfl (dFf (by omega)) ?_))
          refine Nx.sealS (v := .slice au fs.length cu) fun G1 hle1 hsl => ?_
          refine Nx.sealC (b := x) fun G2 hle2 hsg2 => ?_
          refine k_rr (vs := [_, _]) rfl ⟨rfl, rfl, trivial⟩ rfl (List.nil_sublist _) ⟨((hle.trans hgk).trans hle1).trans hle2, rfl, ?_⟩
          exact .inr ⟨x, ⟨c.toNat, name, fs⟩, rfl, hyes, _, _, hsg2, hsl.mono hle2⟩
        rw [drop_nth hix, fieldsOf] at hi3
        have hx := hall _ (nth_mem hix)
        repeat' (first | (refine run (t := tb) 400 rfl trivial ?_) | (refine k_op rfl ?_; first | (refine v_op (g_pickT rfl rfl rfl) rfl rfl ?_) | (refine v_op (g_pickF rfl rfl rfl) rfl rfl ?_) | refine v_op (g_ld rfl rfl rfl) rfl rfl ?_ | (refine v_op (g_ldRS rfl rfl (by assumption) ?_) rfl rfl ?_; (focus ((omega); done))) | refine v_op (g_lenL rfl) rfl rfl ?_ | (refine v_op (g_iaddrN rfl rfl (by omega)) rfl rfl ?_) | refine c_al rfl rfl fun _ => ?_ | refine c_stA rfl rfl rfl rfl rfl rfl ?_ | (refine c_fns rfl rfl rfl (c_readField (by omega)) rfl ?_; rintro _ G hle ⟨f, ok, rfl, hfld⟩; skip)) | refine k_gb rfl rfl (fun _ => ?_) (fun _ => ?_) | (refine k_tt rfl (by first | rfl | (refine decide_eq_true ?_; (omega))) ?_) | refine k_if rfl (fun _ => ?_) (fun _ => ?_))
        all_goals first
          | (rename_i z hq h8
             have hq2 : ok = true := by simpa using hq
             subst hq2
             have hf1 : fldOf (nth xs i) c.toNat = some f := hfld
             rw [hf1] at hi3
             dsimp only at hi3
             have h9 : fs.length = 8 := by omega
             have hno : tyOf (c :: r) = none := by
               rw [hty]
               cases hgs : fieldsOf c.toNat xs [] with
               | none => rfl
               | some gs =>
                 rw [hgs] at hi3
                 split at hi3
                 · have := fieldsOf_len hi3
                   simp at this
                   exact if_neg (by omega)
                 · cases hi3
             refine k_rr (vs := [_, _]) rfl ⟨rfl, rfl, trivial⟩ rfl (List.nil_sublist _) ⟨(hle0.trans hgk).trans hle, rfl, ?_⟩
             exact .inl ⟨hno, _, rfl⟩)
          | (rename_i z hq
             have hq2 : ok = false := by simpa using hq
             subst hq2
             have hf0 : fldOf (nth xs i) c.toNat = none := hfld
             have hno : tyOf (c :: r) = none := by rw [hf0] at hi3; rw [hty, ← hi3]
             refine k_rr (vs := [_, _]) rfl ⟨rfl, rfl, trivial⟩ rfl (List.nil_sublist _) ⟨(hle0.trans hgk).trans hle, rfl, ?_⟩
             exact .inl ⟨hno, _, rfl⟩)
          | (rename_i z hq h8
             have hq2 : ok = true := by simpa using hq
             subst hq2
             have hf1 : fldOf (nth xs i) c.toNat = some f := hfld
             rw [hf1] at hi3
             dsimp only at hi3
             have h9 : fs.length ≠ 8 := by omega
             refine k_loop (ι := Nat) (fun k => k ≤ fs.length ∧ ∀ m, m < k → (nth fs m).tag < f.tag ∧ (nth fs m).name ≠ f.name) (fun k => [(7, Pt x 0), (10, Pt z 0), (51, .slice (some ⟨b1, o1, none⟩) xs.length cap1), (52, I xs.length), (53, I i), (79, .slice au fs.length cu), (80, I fs.length), (81, I k)]) (fun _ => G) (fun k => [.blk z (.cells (fiF f).toArray tFi (0, 0)), .acc (.slice au fs.length cu) tFi 6 fs.length (rows fiF fs), .blk x (.cells [U8 (bt (c :: r) (Int.toNat 0) : Nat), S name, .slice au fs.length cu, S (c :: r)].toArray tTi (0, 0))]) (fun k => fs.length - k) 0 ?_ (by repeat' constructor) rfl sRr (fun k Hk => ?_)
             · exact ⟨Nat.zero_le _, fun m hm => absurd hm (by omega)⟩
             by_cases hk : k < fs.length
             · obtain ⟨bu, cu2, eu⟩ := hsh2.pos (by omega)
               simp only [Value.slice.injEq] at eu
               obtain ⟨rfl, -, rfl⟩ := eu
               by_cases hbad : (nth fs k).tag < f.tag ∧ (nth fs k).name ≠ f.name
               · obtain ⟨hb1, hb2⟩ := hbad
                 repeat' (first | (refine run (t := tb) 400 rfl ?_ ?_; (focus (repeat' (first | exact trivial | apply And.intro | omega)))) | (refine k_op rfl ?_; first | (refine v_op (g_pickF rfl rfl rfl) rfl rfl ?_) | refine v_op (g_ld rfl rfl rfl) rfl rfl ?_ | (refine v_op (g_ldBR rfl rfl rfl (by omega)) rfl rfl ?_) | (refine v_op (g_iaddrN rfl rfl (by omega)) rfl rfl ?_) | refine c_al rfl rfl fun _ => ?_ | refine c_stA rfl rfl rfl rfl rfl rfl ?_) | (refine k_gf rfl rfl (dFf ‹_›) ?_) | (refine k_tt rfl (dTt (by omega)) ?_) | (refine k_ff rfl (dFf (by omega)) ?_))
                 refine k_rd (k + 1) ⟨by omega, fun m hm => ?_⟩ (by omega) (by repeat' constructor) rfl (by repeat (first | exact List.Sublist.refl _ | apply List.Sublist.cons))
                 rcases Nat.lt_or_ge m k with h3 | h3
                 · exact Hk.2 m h3
                 · have : m = k := by omega
                   subst this; exact ⟨hb1, hb2⟩
               · have hfr : fresh f fs = false := by
                   unfold fresh
                   rw [List.all_eq_false]
                   exact ⟨nth fs k, nth_mem hk, by simpa using hbad⟩
                 have hno : tyOf (c :: r) = none := by
                   rw [hfr, if_neg (by simp)] at hi3
                   rw [hty, ← hi3]
                 by_cases hnm : (nth fs k).name = f.name
                 case' neg => have htag : f.tag ≤ (nth fs k).tag := by
                               rcases Int.lt_or_le (nth fs k).tag f.tag with h6 | h6
                               · exact absurd ⟨h6, hnm⟩ hbad
                               · exact h6
                 all_goals repeat' (first | (refine run (t := tb) 400 rfl trivial ?_) | (refine k_op rfl ?_; first | (refine v_op (g_pickT rfl rfl rfl) rfl rfl ?_) | (refine v_op (g_pickF rfl rfl rfl) rfl rfl ?_) | refine v_op (g_ld rfl rfl rfl) rfl rfl ?_ | (refine v_op (g_ldBR rfl rfl rfl (by omega)) rfl rfl ?_) | (refine v_op (g_iaddrN rfl rfl (by omega)) rfl rfl ?_) | refine c_al rfl rfl fun _ => ?_ | refine c_stA rfl rfl rfl rfl rfl rfl ?_) | (refine k_gt rfl rfl (dTt ‹_›) ?_) | (refine k_gf rfl rfl (dFf ‹_›) ?_) | (refine k_tt rfl (by first | rfl | (refine decide_eq_true ?_; first | assumption | omega)) ?_))
                 all_goals refine k_rr (vs := [_, _]) rfl ⟨rfl, rfl, trivial⟩ rfl (List.nil_sublist _) ⟨(hle0.trans hgk).trans hle, rfl, ?_⟩
                 all_goals exact .inl ⟨hno, _, rfl⟩
             · have hfr : fresh f fs = true := by
                 unfold fresh
                 rw [List.all_eq_true]
                 intro g hg
                 obtain ⟨m, hm, rfl⟩ := mem_nth hg
                 simpa using Hk.2 m (by omega)
               rw [hfr, if_pos rfl] at hi3
               have hxl : xs.length ≤ 1001 := by omega
               repeat' (first | (refine run (t := tb) 400 rfl trivial ?_) | (refine k_ff rfl (dFf (by omega)) ?_))
               (refine k_any (s_any (id := 21) [.blk z (.cells (fiF f).toArray tFi (0, 0))] (by intro y hy; simp only [List.mem_cons, List.not_mem_nil, or_false] at hy ⊢; simp [hy]) mixed ?_); refine x_tks (t := tb) (fuel := 7) [0, 1, 2, 3] (bts 11 15) (by kernel_rfl) (by kernel_rfl) rfl rfl (Gh.le.refl _) (by repeat (first | exact List.nil_sublist _ | apply List.Sublist.cons_cons)) ?_ ?_; (focus (repeat' (exact trivial))); ((refine (x_tkg (bts 11 47) 5 rfl (by kernel_rfl) rfl (Gh.le.refl _) (by repeat (first | exact List.nil_sublist _ | apply List.Sublist.cons_cons))) (g_ldA rfl rfl rfl rfl) rfl rfl ?_)); refine x_all [4, 6] (by kernel_rfl) (by decide) ⟨?_, ?_, trivial⟩; (focus (refine x_opg rfl rfl ?_; (refine v_op (g_ld rfl rfl rfl) rfl rfl ?_); refine x_kk gRr (by repeat (first | exact List.nil_sublist _ | apply List.Sublist.cons_cons)) (listed' := (bts 11 63)) (by kernel_rfl) ?_; refine x_all [6] (by kernel_rfl) (by decide) ⟨?_, trivial⟩; refine x_opg rfl rfl ?_; (refine c_bsl rfl rfl rfl rfl rfl rfl fun _ => ?_); refine x_kk gRr (by repeat (first | exact List.nil_sublist _ | apply List.Sublist.cons_cons | apply List.Sublist.cons)) (listed' := (bts 11 127)) (by kernel_rfl) ?_; refine x_all [7] (by kernel_rfl) (by decide) ⟨?_, trivial⟩; refine x_opg rfl rfl ?_; ((refine c_apX rfl rfl rfl rfl rfl rfl rfl rfl rfl ?_ fun _ _ => ?_; (focus ((omega); done)))); refine x_kk gRr (by repeat (first | exact List.nil_sublist _ | apply List.Sublist.cons_cons | apply List.Sublist.cons)) (listed' := (bts 11 255)) (by kernel_rfl) ?_; refine x_tks (t := tb) (fuel := 1) [8, 9] (bts 11 1023) (by kernel_rfl) (by kernel_rfl) rfl rfl (Gh.le.refl _) (by repeat (first | exact List.nil_sublist _ | apply List.Sublist.cons_cons | apply List.Sublist.cons)) ?_ ?_; (focus (repeat' (exact trivial))); refine x_all [10] (by kernel_rfl) (by decide) ⟨?_, trivial⟩; refine x_opg rfl rfl ?_; (refine c_st1 rfl rfl rfl rfl ?_); refine x_kk gRr (by repeat (first | exact List.nil_sublist _ | apply List.Sublist.cons_cons | apply List.Sublist.cons)) (listed' := (bts 11 2047)) (by kernel_rfl) ?_; refine x_done (by kernel_rfl) (k_bk ?_))); rotate_left 1; (focus (refine x_opg rfl rfl ?_; (refine c_bsl rfl rfl rfl rfl rfl rfl fun _ => ?_); refine x_kk gRr (by repeat (first | exact List.nil_sublist _ | apply List.Sublist.cons_cons | apply List.Sublist.cons)) (listed' := (bts 11 111)) (by kernel_rfl) ?_; refine x_all [4] (by kernel_rfl) (by decide) ⟨?_, trivial⟩; refine x_opg rfl rfl ?_; (refine v_op (g_ld rfl rfl rfl) rfl rfl ?_); refine x_kk gRr (by repeat (first | exact List.nil_sublist _ | apply List.Sublist.cons_cons | apply List.Sublist.cons)) (listed' := (bts 11 127)) (by kernel_rfl) ?_; refine x_all [7] (by kernel_rfl) (by decide) ⟨?_, trivial⟩; refine x_opg rfl rfl ?_; ((refine c_apX rfl rfl rfl rfl rfl rfl rfl rfl rfl ?_ fun _ _ => ?_; (focus ((omega); done)))); refine x_kk gRr (by repeat (first | exact List.nil_sublist _ | apply List.Sublist.cons_cons | apply List.Sublist.cons)) (listed' := (bts 11 255)) (by kernel_rfl) ?_; refine x_tks (t := tb) (fuel := 1) [8, 9] (bts 11 1023) (by kernel_rfl) (by kernel_rfl) rfl rfl (Gh.le.refl _) (by repeat (first | exact List.nil_sublist _ | apply List.Sublist.cons_cons | apply List.Sublist.cons)) ?_ ?_; (focus (repeat' (exact trivial))); refine x_all [10] (by kernel_rfl) (by decide) ⟨?_, trivial⟩; refine x_opg rfl rfl ?_; (refine c_st1 rfl rfl rfl rfl ?_); refine x_kk gRr (by repeat (first | exact List.nil_sublist _ | apply List.Sublist.cons_cons | apply List.Sublist.cons)) (listed' := (bts 11 2047)) (by kernel_rfl) ?_; refine x_done (by kernel_rfl) (k_bk ?_))); rotate_left 1)
               all_goals rename_i w b2 c2
               all_goals repeat' ((refine run (t := tb) 400 rfl ?_ ?_; (focus (repeat' (first | exact trivial | apply And.intro | omega)))))
               all_goals refine k_rd (.slice (some ⟨b2, 0, none⟩) (fs.length + 1) c2, fs ++ [f], i + 1, G) ⟨⟨⟨by dsimp only; omega, by simp; omega⟩, by simp; omega⟩, hi3, hgk.trans hle⟩ (by dsimp only; omega) (by repeat' constructor) rfl (by dsimp only; simp only [rows_snoc, List.length_append, List.length_cons, List.length_nil, Nat.zero_add]; repeat (first | exact List.Sublist.refl _ | apply List.Sublist.cons_cons | apply List.Sublist.cons)))
end Go.E
namespace Go.E
set_option maxRecDepth 20000
set_option maxHeartbeats 2000000
open Go.Proofs
variable {G : Gh}
abbrev TyX := (Option Addr × Nat) × Ty
def slX (x : TyX) : Value := .slice x.1.1 x.2.fields.length x.1.2
def tyF (x : TyX) : List Value := [U8 x.2.sort, S x.2.name, slX x]
instance : RowF tyF 3 := ⟨fun _ => rfl⟩
def zT : TyX := ((none, 0), ⟨0, [], []⟩)
theorem SlV.sl {G : Gh} {v : Value} {sz m : Nat} {xs : List Value} (h : SlV G v sz m xs) : ∃ a cap, v = .slice a m cap := by
  obtain ⟨_, ⟨rfl, rfl⟩ | ⟨b, o, cap, rfl, _⟩⟩ := h
  · exact ⟨none, 0, rfl⟩
  · exact ⟨_, cap, rfl⟩
structure SchR (G : Gh) (u : Value) (vs : List TyX) : Prop where
  sl : SlV G u 3 vs.length (rows tyF vs)
  fl : ∀ x ∈ vs, SlV G (slX x) 4 x.2.fields.length (rows fldF x.2.fields)
theorem SchR.mono {G G' : Gh} {u : Value} {vs : List TyX} (h : SchR G u vs) (hl : Gh.le G G') : SchR G' u vs := ⟨h.sl.mono hl, fun x hx => (h.fl x hx).mono hl⟩
def tys (vs : List TyX) : List Ty := vs.map (·.2)
def findV (vs : List TyX) (n : List UInt8) : Option TyX := vs.find? fun x => decide (x.2.name = n)
def refV (vs : List TyX) (k : List UInt8) : Option TyX := (refN k).bind (findV vs)
theorem findV_ty (vs : List TyX) (n : List UInt8) : (findV vs n).map (·.2) = findT (tys vs) n := by
  unfold findV findT tys
  induction vs with
  | nil => rfl
  | cons x vs ih =>
    simp only [List.map_cons, List.find?_cons]
    split <;> simp_all
theorem findV_mem {vs : List TyX} {n : List UInt8} {x : TyX} (h : findV vs n = some x) : x ∈ vs ∧ x.2.name = n := by
  unfold findV at h
  exact ⟨List.mem_of_find?_eq_some h, by simpa using List.find?_some h⟩
theorem findV_at {vs : List TyX} {n : List UInt8} {i : Nat} (hi : i < vs.length) (h : ∀ k, k < i → (nth vs k).2.name ≠ n) (h2 : (nth vs i).2.name = n) : findV vs n = some (nth vs i) := by
  unfold findV
  rw [List.find?_eq_some_iff_getElem]
  rw [nth_eq hi] at h2 ⊢
  refine ⟨by simpa using h2, i, hi, rfl, fun j hj => ?_⟩
  have := h j hj
  rw [nth_eq (by omega)] at this
  simpa using this
theorem findV_none {vs : List TyX} {n : List UInt8} (h : ∀ k, k < vs.length → (nth vs k).2.name ≠ n) : findV vs n = none := by
  unfold findV
  rw [List.find?_eq_none]
  intro x hx
  obtain ⟨i, hi, rfl⟩ := List.mem_iff_getElem.1 hx
  have := h i hi
  rw [nth_eq hi] at this
  simpa using this
theorem c_find {u : Value} {vs : List TyX} {n : List UInt8} (h : SchR G u vs) (hn : vs.length ≤ 1000000) : PuG Tryz.prog 59 [u, S n] G (· = Tu [Ag (tyF ((findV vs n).getD zT)), Bo (findV vs n).isSome]) := by
  have hsl := h.sl
  refine p_enter [(0, _), (1, _)] Tryz.func59 (by kernel_rfl) Tryz.ntmps59 rfl rfl (by repeat' constructor) fun B hB => ?_
  repeat' (first | (refine run (t := tb) 400 rfl trivial ?_) | (refine k_op rfl ?_; (refine c_al rfl rfl fun _ => ?_)))
  rename_i x
  refine k_loop (ι := Nat) (fun i => i ≤ vs.length ∧ ∀ k, k < i → (nth vs k).2.name ≠ n) (fun i => [(0, u), (1, S n), (4, Pt x 0), (6, I i)]) (fun _ => G) (fun i => [.blk x (.cells [U8 0, S [], nilS].toArray tTy (0, 0))]) (fun i => vs.length - i) 0 ?_ (by repeat' constructor) rfl sRr (fun i Hi => ?_)
  · exact ⟨by omega, fun k hk => absurd hk (by omega)⟩
  by_cases hi : i < vs.length
  · obtain ⟨b, o, cap, rfl, hs⟩ := hsl.expl (by omega)
    repeat' (first | (refine run (t := tb) 400 rfl ?_ ?_; (focus (repeat' (first | exact trivial | apply And.intro | omega)))) | (refine k_op rfl ?_; first | refine v_op (g_lenL rfl) rfl rfl ?_ | (refine v_op (g_iaddrN rfl rfl (by omega)) rfl rfl ?_) | (refine v_op (g_ldR rfl rfl (by assumption) ?_) rfl rfl ?_; (focus ((omega); done))) | (refine v_op (g_ldRF rfl rfl (by assumption) ?_ rfl rfl) rfl rfl ?_; (focus ((omega); done))) | refine c_stA rfl rfl rfl rfl rfl rfl ?_) | (refine k_tt rfl (dTt (by omega)) ?_) | refine k_if rfl (fun _ => ?_) (fun _ => ?_))
    · rename_i he
      refine k_rr (vs := [_, _]) rfl ⟨rc_A rfl rfl rfl rfl, rfl, trivial⟩ rfl (List.nil_sublist _) ⟨rfl, rfl, ?_⟩
      rw [findV_at hi Hi.2 he]; rfl
    · rename_i he
      refine k_rd (i + 1) ⟨by omega, fun k hk => ?_⟩ (by omega) (by repeat' constructor) rfl sRr
      rcases Nat.lt_or_ge k i with h3 | h3
      · exact Hi.2 k h3
      · have : k = i := by omega
        subst this; exact he
  · repeat' (first | (refine run (t := tb) 400 rfl trivial ?_) | (refine k_op rfl ?_; first | refine v_op (g_lenV rfl (by assumption)) rfl rfl ?_ | refine c_stA rfl rfl rfl rfl rfl rfl ?_ | refine v_op (g_bld rfl rfl) rfl rfl ?_) | (refine k_ff rfl (dFf (by omega)) ?_))
    refine k_rr (vs := [_, _]) rfl ⟨rc_A rfl rfl rfl rfl, rfl, trivial⟩ rfl (List.nil_sublist _) ⟨rfl, rfl, ?_⟩
    rw [findV_none fun k hk => Hi.2 k (by omega)]; rfl
theorem c_l2RefK {s : List UInt8} (h : kOk s = true) (hl : s.length ≤ 1000000) : PuG Tryz.prog 57 [S s] G (· = Tu [S ((refN s).getD []), Bo (refN s).isSome]) := by
  match s, h with
  | c :: r, h =>
    by_cases hr : r = []
    · have hc : ¬ c.toNat = 64 := by
        intro hc
        subst hr
        rw [kOk, if_neg (by omega), if_pos hc] at h
        simp [bt_zero, hc] at h
      have e0 := bt_c0 c r
      have hq : refN (c :: r) = none := by simp [refN, hc]
      rw [hq]
      refine p_enter [(0, _)] Tryz.func57 (by kernel_rfl) Tryz.ntmps57 rfl rfl (by repeat' constructor) fun B hB => ?_
      repeat' (first | (refine run (t := tb) 400 rfl ?_ ?_; (focus (repeat' (first | exact trivial | apply And.intro | omega | (simp only [List.length_append, List.length_cons, List.length_nil, Int.toNat_natCast]; omega))))) | (refine k_tt rfl ?_ ?_; (focus ((simp; omega); done))))
      all_goals refine k_rr (vs := [_, _]) rfl ⟨rfl, rfl, trivial⟩ rfl (List.nil_sublist _) ⟨rfl, rfl, ?_⟩
      all_goals rfl
    · have := c_l2Ref (G := G) (c := c) hr (by simp at hl; omega)
      refine this.mono ?_
      rintro v G' L' ⟨h1, h2, h3⟩
      refine ⟨h1, h2, h3.trans ?_⟩
      by_cases hc : c.toNat = 64 <;> simp [refN, hc]
theorem c_ref {u : Value} {vs : List TyX} {k : List UInt8} (h : SchR G u vs) (hn : vs.length ≤ 1000000) (hk : kOk k = true) (hl : k.length ≤ 1000000) : PuG Tryz.prog 78 [u, S k] G (· = Tu [Ag (tyF ((refV vs k).getD zT)), Bo (refV vs k).isSome]) := by
  rcases hr : refN k with _ | n
  · have e : refV vs k = none := by simp [refV, hr]
    rw [e]
    have cx_ref : PuG Tryz.prog 57 [S k] G (· = Tu [S [], Bo false]) := by have := c_l2RefK (G := G) hk hl; rwa [hr] at this
    refine p_enter [(0, _), (1, _)] Tryz.func78 (by kernel_rfl) Tryz.ntmps78 rfl rfl (by repeat' constructor) fun B hB => ?_
    repeat' (first | (refine run (t := tb) 400 rfl trivial ?_) | (refine k_op rfl ?_; first | refine c_al rfl rfl fun _ => ?_ | refine v_op (g_bld rfl rfl) rfl rfl ?_ | refine c_stA rfl rfl rfl rfl rfl rfl ?_ | (refine c_rt rfl rfl rfl cx_ref rfl ?_)) | (refine k_tt rfl rfl ?_))
    all_goals refine k_rr (vs := [_, _]) rfl ⟨rc_A rfl rfl rfl rfl, rfl, trivial⟩ rfl (List.nil_sublist _) ⟨rfl, rfl, ?_⟩
    all_goals rfl
  · have e : refV vs k = findV vs n := by simp [refV, hr]
    rw [e]
    have cx_ref : PuG Tryz.prog 57 [S k] G (· = Tu [S n, Bo true]) := by have := c_l2RefK (G := G) hk hl; rwa [hr] at this
    refine p_enter [(0, _), (1, _)] Tryz.func78 (by kernel_rfl) Tryz.ntmps78 rfl rfl (by repeat' constructor) fun B hB => ?_
    repeat' (first | (refine run (t := tb) 400 rfl trivial ?_) | (refine k_op rfl ?_; first | refine c_al rfl rfl fun _ => ?_ | refine c_stA rfl rfl rfl rfl rfl rfl ?_ | (refine c_rt rfl rfl rfl cx_ref rfl ?_) | (refine c_rt rfl rfl rfl (c_find (by (repeat (assumption)); done) (by omega)) rfl ?_)) | (refine k_ff rfl rfl ?_))
    all_goals refine k_rr (vs := [_, _]) rfl ⟨rc_A rfl rfl rfl rfl, rfl, trivial⟩ rfl (List.nil_sublist _) ⟨rfl, rfl, ?_⟩
    all_goals rfl
end Go.E
namespace Go.E
set_option maxRecDepth 20000
set_option maxHeartbeats 2000000
open Go.Proofs
variable {G : Gh}
theorem refV_ty (vs : List TyX) (k : List UInt8) : (refV vs k).map (·.2) = refT (tys vs) k := by
  unfold refV refT
  cases refN k with
  | none => rfl
  | some n => simp only [Option.bind_some]; exact findV_ty vs n
theorem refV_mem {vs : List TyX} {k : List UInt8} {x : TyX} (h : refV vs k = some x) : x ∈ vs := by
  unfold refV at h
  cases hr : refN k with
  | none => rw [hr] at h; cases h
  | some n => rw [hr] at h; exact (findV_mem h).1
theorem kindOk_kOk {s : List UInt8} (h : kindOk s = true) : kOk s = true ∧ s.length ≤ 12 := by
  unfold kindOk at h; simp only [Bool.and_eq_true, decide_eq_true_eq] at h; exact ⟨h.2, h.1⟩
theorem c_ends {u : Value} {vs : List TyX} {x0 : TyX} (h : SchR G u vs) (hn : vs.length ≤ 1000) (hw : ∀ x ∈ vs, TyW x.2) (hx : x0 ∈ vs) :
    PuG Tryz.prog 101 [u, Ag (tyF x0)] G (· = Bo (endsN (tys vs) (vs.length + 1) x0.2)) := by
  have hsl := h.sl
  refine p_enter [(0, _), (1, _)] Tryz.func101 (by kernel_rfl) Tryz.ntmps101 rfl rfl (by repeat' constructor) fun B hB => ?_
  repeat' (first | (refine run (t := tb) 400 rfl trivial ?_) | (refine k_op rfl ?_; (refine c_bx rfl rfl rfl fun _ => ?_)))
  rename_i b0
  refine k_loop (ι := TyX × Nat) (fun i => i.1 ∈ vs ∧ i.2 ≤ vs.length + 1 ∧ endsN (tys vs) (vs.length + 1 - i.2) i.1.2 = endsN (tys vs) (vs.length + 1) x0.2) (fun i => [(0, u), (3, Pt b0 0), (5, I i.2)]) (fun _ => G) (fun i => [.blk b0 (.cells (tyF i.1).toArray tTy (0, 0))]) (fun i => vs.length + 1 - i.2) (x0, 0) ?_ (by repeat' constructor) rfl sRr (fun i Hi => ?_)
  · exact ⟨hx, Nat.zero_le _, rfl⟩
  obtain ⟨⟨⟨a, ca⟩, t⟩, n⟩ := i
  dsimp only at Hi ⊢
  obtain ⟨hxm, hnl, he⟩ := Hi
  have hW := hw _ hxm
  dsimp only at hW
  by_cases hlt : n ≤ vs.length
  case neg =>
    have e0 : vs.length + 1 - n = 0 := by omega
    rw [e0] at he
    repeat' (first | (refine run (t := tb) 400 rfl trivial ?_) | (refine k_op rfl ?_; (refine v_op (g_lenV rfl (by assumption)) rfl rfl ?_)) | (refine k_ff rfl (dFf (by omega)) ?_))
    refine k_rr (vs := [_]) rfl ⟨rfl, trivial⟩ rfl (List.nil_sublist _) ⟨rfl, rfl, ?_⟩
    rw [← he]; rfl
  obtain ⟨m, hm⟩ : ∃ m, vs.length + 1 - n = m + 1 := ⟨vs.length - n, by omega⟩
  rw [hm, endsN] at he
  by_cases hU : t.sort = 85
  case neg =>
    rw [if_pos hU] at he
    repeat' (first | (refine run (t := tb) 400 rfl trivial ?_) | (refine k_op rfl ?_; first | refine v_op (g_lenV rfl (by assumption)) rfl rfl ?_ | refine v_op (g_ld rfl rfl rfl) rfl rfl ?_) | (refine k_tt rfl ?_ ?_; (focus ((first | (refine decide_eq_true ?_; (omega)) | (simp; omega)); done))))
    refine k_rr (vs := [_]) rfl ⟨rfl, trivial⟩ rfl (List.nil_sublist _) ⟨rfl, rfl, ?_⟩
    rw [← he]; rfl
  rw [if_neg (by simp [hU])] at he
  have hne := hW.ne (by omega)
  have h0 : 0 < t.fields.length := List.length_pos_iff.2 hne
  obtain ⟨bf, of, cf, ef, hsf⟩ := (h.fl _ hxm).expl h0
  simp only [slX, Value.slice.injEq] at ef
  obtain ⟨rfl, -, rfl⟩ := ef
  dsimp only at hsf
  have hk0 : kind0 t = (nth t.fields 0).kind := by
    unfold kind0 nth
    cases t.fields with
    | nil => rfl
    | cons f r => rfl
  have hkk := kindOk_kOk ((hW.fld _ (nth_mem h0)).kind (by omega))
  rw [hk0] at he
  have href := refV_ty vs (nth t.fields 0).kind
  have cx_rf := c_ref (k := (nth t.fields 0).kind) h (by omega) hkk.1 (by omega)
  rcases hr : refV vs (nth t.fields 0).kind with _ | ⟨⟨a2, c2⟩, t2⟩
  · rw [hr] at href cx_rf
    rw [← href] at he
    repeat' (first | (refine run (t := tb) 400 rfl trivial ?_) | (refine k_op rfl ?_; first | refine v_op (g_lenV rfl (by assumption)) rfl rfl ?_ | refine v_op (g_ld rfl rfl rfl) rfl rfl ?_ | (refine v_op (g_ldRF rfl rfl (by assumption) ?_ rfl rfl) rfl rfl ?_; (focus ((omega); done))) | (refine v_op (g_iaddrN rfl rfl (by omega)) rfl rfl ?_) | refine c_al rfl rfl fun _ => ?_ | refine c_stA rfl rfl rfl rfl rfl rfl ?_ | (refine c_rt rfl rfl rfl cx_rf rfl ?_)) | (refine k_tt rfl (by first | rfl | (refine decide_eq_true ?_; (omega))) ?_) | (refine k_ff rfl ?_ ?_; (focus ((simp [*]; done); done))))
    all_goals refine k_rr (vs := [_]) rfl ⟨rfl, trivial⟩ rfl (List.nil_sublist _) ⟨rfl, rfl, ?_⟩
    all_goals (rw [← he]; rfl)
  · rw [hr] at href cx_rf
    rw [← href] at he
    repeat' (first | (refine run (t := tb) 400 rfl ?_ ?_; (focus (repeat' (first | exact trivial | apply And.intro | omega)))) | (refine k_op rfl ?_; first | refine v_op (g_lenV rfl (by assumption)) rfl rfl ?_ | refine v_op (g_ld rfl rfl rfl) rfl rfl ?_ | (refine v_op (g_ldRF rfl rfl (by assumption) ?_ rfl rfl) rfl rfl ?_; (focus ((omega); done))) | refine v_op (g_ldA rfl rfl rfl rfl) rfl rfl ?_ | (refine v_op (g_iaddrN rfl rfl (by omega)) rfl rfl ?_) | refine c_al rfl rfl fun _ => ?_ | refine c_stA rfl rfl rfl rfl rfl rfl ?_ | (refine c_rt rfl rfl rfl cx_rf rfl ?_)) | (refine k_tt rfl (dTt (by omega)) ?_) | (refine k_ff rfl ?_ ?_; (focus ((first | rfl | (simp [*]; done)); done))))
    refine k_rd (((a2, c2), t2), n + 1) ⟨refV_mem hr, by dsimp only; omega, ?_⟩ (by dsimp only; omega) (by repeat' constructor) rfl (by repeat (first | exact List.Sublist.refl _ | apply List.Sublist.cons))
    dsimp only
    rw [show vs.length + 1 - (n + 1) = m by omega]
    exact he
theorem tys_len (vs : List TyX) : (tys vs).length = vs.length := by simp [tys]
theorem nth_tys {vs : List TyX} {i : Nat} (h : i < vs.length) : nth (tys vs) i = (nth vs i).2 := by
  rw [nth_eq h, nth_eq (by rw [tys_len]; exact h)]; simp [tys]
theorem hasK_find {vs : List TyX} {k : List UInt8} : hasK (tys vs) k = (!(refN (core k)).isSome || (findV vs ((refN (core k)).getD [])).isSome) := by
  unfold hasK
  cases refN (core k) with
  | none => rfl
  | some n =>
    show (findT (tys vs) n).isSome = _
    rw [← findV_ty]; simp
theorem core_kOk {k : List UInt8} (h : kOk k = true) : kOk (core k) = true := by
  induction k with
  | nil => cases h
  | cons c r ih =>
    unfold core
    split
    · rename_i hc; rw [kOk, if_pos hc] at h; exact ih h
    · exact h
theorem core_len' : ∀ s : List UInt8, (core s).length ≤ s.length
  | [] => Nat.le_refl _
  | c :: r => by
    unfold core
    split
    · have := core_len' r; simp; omega
    · exact Nat.le_refl _
theorem c_valid {u : Value} {vs : List TyX} (h : SchR G u vs) (hn : vs.length ≤ 1000) (hw : ∀ x ∈ vs, TyW x.2) :
    PuG Tryz.prog 76 [u] G (· = Bo (decide (ValidT (tys vs)))) := by
  have hsl := h.sl
  have hlen := tys_len vs
  refine p_enter [(0, _)] Tryz.func76 (by kernel_rfl) Tryz.ntmps76 rfl rfl (by repeat' constructor) fun B hB => ?_
  repeat' (refine run (t := tb) 400 rfl trivial ?_)
  refine k_loop (ι := Nat) (fun i => i ≤ vs.length ∧ ∀ j, j < i → NamesAt (tys vs) j ∧ KindsOk (tys vs) (nth (tys vs) j)) (fun i => [(0, u), (3, I i)]) (fun _ => G) (fun i => []) (fun i => vs.length - i) 0 ?_ (by repeat' constructor) rfl sRr (fun i Hi => ?_)
  · exact ⟨Nat.zero_le _, fun j hj => absurd hj (by omega)⟩
  by_cases hi : i < vs.length
  case neg =>
    have ei : i = vs.length := by omega
    subst ei
    have Hall := Hi.2
    repeat' (first | (refine run (t := tb) 400 rfl trivial ?_) | (refine k_op rfl ?_; (refine v_op (g_lenV rfl (by assumption)) rfl rfl ?_)) | (refine k_ff rfl (dFf (by omega)) ?_))
    refine k_loop (ι := Nat) (fun i => i ≤ vs.length ∧ ∀ j, j < i → endsN (tys vs) ((tys vs).length + 1) (nth (tys vs) j) = true) (fun i => [(0, u), (10, I i)]) (fun _ => G) (fun i => []) (fun i => vs.length - i) 0 ?_ (by repeat' constructor) rfl sRr (fun i Hi => ?_)
    · exact ⟨Nat.zero_le _, fun j hj => absurd hj (by omega)⟩
    by_cases hi : i < vs.length
    · obtain ⟨b, o, cap, rfl, hs⟩ := hsl.expl (by omega)
      have hm := nth_mem hi
      have cx_en := c_ends h hn hw hm
      by_cases he : endsN (tys vs) (vs.length + 1) (nth vs i).2 = true
      · have he2 : (!endsN (tys vs) (vs.length + 1) (nth vs i).2) = false := by rw [he]; rfl
        repeat' (first | (refine run (t := tb) 400 rfl ?_ ?_; (focus (repeat' (first | exact trivial | apply And.intro | omega)))) | (refine k_op rfl ?_; first | refine v_op (g_lenL rfl) rfl rfl ?_ | (refine v_op (g_iaddrN rfl rfl (by omega)) rfl rfl ?_) | (refine v_op (g_ldR rfl rfl (by assumption) ?_) rfl rfl ?_; (focus ((omega); done))) | (refine c_rt rfl rfl rfl cx_en rfl ?_)) | (refine k_tt rfl (dTt (by omega)) ?_) | (refine k_ff rfl ‹_› ?_))
        refine k_rd (i + 1) ⟨by omega, fun j hj => ?_⟩ (by omega) (by repeat' constructor) rfl sRr
        rcases Nat.lt_or_ge j i with h3 | h3
        · exact Hi.2 j h3
        · have : j = i := by omega
          subst this; rw [hlen, nth_tys hi]; exact he
      · have he2 : (!endsN (tys vs) (vs.length + 1) (nth vs i).2) = true := by simpa using he
        repeat' (first | (refine run (t := tb) 400 rfl trivial ?_) | (refine k_op rfl ?_; first | refine v_op (g_lenL rfl) rfl rfl ?_ | (refine v_op (g_iaddrN rfl rfl (by omega)) rfl rfl ?_) | (refine v_op (g_ldR rfl rfl (by assumption) ?_) rfl rfl ?_; (focus ((omega); done))) | (refine c_rt rfl rfl rfl cx_en rfl ?_)) | (refine k_tt rfl (by first | assumption | (refine decide_eq_true ?_; (omega))) ?_))
        refine k_rr (vs := [_]) rfl ⟨rfl, trivial⟩ rfl (List.nil_sublist _) ⟨rfl, rfl, ?_⟩
        refine congrArg Bo (decide_eq_false fun hv => he ?_).symm
        have := hv.2 i (by omega)
        rwa [hlen, nth_tys hi] at this
    · repeat' (first | (refine run (t := tb) 400 rfl trivial ?_) | (refine k_op rfl ?_; (refine v_op (g_lenV rfl (by assumption)) rfl rfl ?_)) | (refine k_ff rfl (dFf (by omega)) ?_))
      refine k_rr (vs := [_]) rfl ⟨rfl, trivial⟩ rfl (List.nil_sublist _) ⟨rfl, rfl, ?_⟩
      exact congrArg Bo (decide_eq_true ⟨fun j hj => Hall j (by omega), fun j hj => Hi.2 j (by omega)⟩).symm
  obtain ⟨b, o, cap, rfl, hs⟩ := hsl.expl (by omega)
  rcases hxi : nth vs i with ⟨⟨a, ca⟩, t⟩
  have hm : ((a, ca), t) ∈ vs := by rw [← hxi]; exact nth_mem hi
  have hW := hw _ hm
  dsimp only at hW
  have hti : nth (tys vs) i = t := by rw [nth_tys hi, hxi]
  have hE1 : (((a, ca), t) : TyX).2.sort = t.sort := rfl
  have hE2 : (((a, ca), t) : TyX).2.fields.length = t.fields.length := rfl
  have h8 := hW.len
  have hfl := h.fl _ hm
  repeat' (first | (refine run (t := tb) 400 rfl trivial ?_) | (refine k_op rfl ?_; (refine v_op (g_lenL rfl) rfl rfl ?_)) | (refine k_tt rfl (dTt (by omega)) ?_))
  refine k_loop (ι := Nat) (fun k => k ≤ i ∧ ∀ j, j < k → (nth (tys vs) j).name ≠ (nth (tys vs) i).name) (fun k => [(0, .slice (some ⟨b, o, none⟩) vs.length cap), (3, I i), (4, I k)]) (fun _ => G) (fun k => []) (fun k => i - k) 0 ?_ (by repeat' constructor) rfl sRr (fun k Hk => ?_)
  · exact ⟨Nat.zero_le _, fun j hj => absurd hj (by omega)⟩
  by_cases hk : k < i
  · have hkv : k < vs.length := by omega
    by_cases hnm : (nth vs k).2.name = t.name
    · repeat' (first | (refine run (t := tb) 400 rfl trivial ?_) | (refine k_tt rfl (by refine decide_eq_true ?_; first | assumption | omega) ?_) | (refine k_any (s_any (id := 7) _ (fun _ h => h) mixed ?_); refine x_tks (t := tb) (fuel := 7) [0, 1, 5, 6] (bts 11 99) (by kernel_rfl) (by kernel_rfl) rfl rfl (Gh.le.refl _) sRr trivial ?_; ((refine (x_tkg (bts 11 103) 2 rfl (by kernel_rfl) rfl (Gh.le.refl _) sRr) (g_iaddrN rfl rfl (by omega)) rfl rfl ?_)); refine x_tks (t := tb) (fuel := 5) [3] (bts 11 111) (by kernel_rfl) (by kernel_rfl) rfl rfl (Gh.le.refl _) sRr trivial ?_; ((refine (x_tkg (bts 11 127) 4 rfl (by kernel_rfl) rfl (Gh.le.refl _) sRr) (g_ldRF rfl rfl (by assumption) ?_ rfl rfl) rfl rfl ?_; (focus ((omega); done)))); ((refine (x_tkg (bts 11 255) 7 rfl (by kernel_rfl) rfl (Gh.le.refl _) sRr) (g_iaddrN rfl rfl (by omega)) rfl rfl ?_)); refine x_tks (t := tb) (fuel := 2) [8] (bts 11 511) (by kernel_rfl) (by kernel_rfl) rfl rfl (Gh.le.refl _) sRr trivial ?_; ((refine (x_tkg (bts 11 1023) 9 rfl (by kernel_rfl) rfl (Gh.le.refl _) sRr) (g_ldRFx rfl rfl (by assumption) ?_ (by assumption) rfl rfl) rfl rfl ?_; (focus ((omega); done)))); refine x_tks (t := tb) (fuel := 0) [10] (bts 11 2047) (by kernel_rfl) (by kernel_rfl) rfl rfl (Gh.le.refl _) sRr trivial ?_; refine x_done (by kernel_rfl) (k_bk ?_)))
      refine k_rr (vs := [_]) rfl ⟨rfl, trivial⟩ rfl (List.nil_sublist _) ⟨rfl, rfl, ?_⟩
      refine congrArg Bo (decide_eq_false fun hv => ?_).symm
      have := (hv.1 i (by omega)).1 k hk
      rw [nth_tys hkv, hti] at this
      exact this hnm
    · repeat' (first | (refine run (t := tb) 400 rfl ?_ ?_; (focus (repeat' (first | exact trivial | apply And.intro | omega)))) | (refine k_tt rfl (dTt (by omega)) ?_) | (refine k_ff rfl (dFf ‹_›) ?_) | (refine k_any (s_any (id := 7) _ (fun _ h => h) mixed ?_); refine x_tks (t := tb) (fuel := 7) [0, 1, 5, 6] (bts 11 99) (by kernel_rfl) (by kernel_rfl) rfl rfl (Gh.le.refl _) sRr trivial ?_; ((refine (x_tkg (bts 11 103) 2 rfl (by kernel_rfl) rfl (Gh.le.refl _) sRr) (g_iaddrN rfl rfl (by omega)) rfl rfl ?_)); refine x_tks (t := tb) (fuel := 5) [3] (bts 11 111) (by kernel_rfl) (by kernel_rfl) rfl rfl (Gh.le.refl _) sRr trivial ?_; ((refine (x_tkg (bts 11 127) 4 rfl (by kernel_rfl) rfl (Gh.le.refl _) sRr) (g_ldRF rfl rfl (by assumption) ?_ rfl rfl) rfl rfl ?_; (focus ((omega); done)))); ((refine (x_tkg (bts 11 255) 7 rfl (by kernel_rfl) rfl (Gh.le.refl _) sRr) (g_iaddrN rfl rfl (by omega)) rfl rfl ?_)); refine x_tks (t := tb) (fuel := 2) [8] (bts 11 511) (by kernel_rfl) (by kernel_rfl) rfl rfl (Gh.le.refl _) sRr trivial ?_; ((refine (x_tkg (bts 11 1023) 9 rfl (by kernel_rfl) rfl (Gh.le.refl _) sRr) (g_ldRFx rfl rfl (by assumption) ?_ (by assumption) rfl rfl) rfl rfl ?_; (focus ((omega); done)))); refine x_tks (t := tb) (fuel := 0) [10] (bts 11 2047) (by kernel_rfl) (by kernel_rfl) rfl rfl (Gh.le.refl _) sRr trivial ?_; refine x_done (by kernel_rfl) (k_bk ?_)))
      refine k_rd (k + 1) ⟨by omega, fun j hj => ?_⟩ (by omega) (by repeat' constructor) rfl sRr
      rcases Nat.lt_or_ge j k with h3 | h3
      · exact Hk.2 j h3
      · have : j = k := by omega
        subst this; rw [nth_tys hkv, hti]; exact hnm
  have hna : NamesAt (tys vs) i := fun j hj => Hk.2 j (by omega)
  repeat' (first | (refine run (t := tb) 400 rfl trivial ?_) | (refine k_ff rfl (dFf (by omega)) ?_))
  refine k_loop (ι := Nat) (fun k => (t.sort = 69 ∨ ∀ j, j < k → hasK (tys vs) (nth t.fields j).kind = true) ∧ k ≤ t.fields.length) (fun k => [(0, .slice (some ⟨b, o, none⟩) vs.length cap), (3, I i), (5, I k)]) (fun _ => G) (fun k => []) (fun k => t.fields.length - k) 0 ?_ (by repeat' constructor) rfl sRr (fun k Hk => ?_)
  · exact ⟨.inr fun j hj => absurd hj (by omega), Nat.zero_le _⟩
  by_cases hk : k < t.fields.length ∧ t.sort ≠ 69
  case neg =>
    have hko : KindsOk (tys vs) (nth (tys vs) i) := by
      rw [hti]
      by_cases h69 : t.sort = 69
      · exact .inl h69
      · refine .inr fun j hj => ?_
        rcases Hk.1 with h3 | h3
        · exact absurd h3 h69
        · exact h3 j (by omega)
    repeat' (first | (refine run (t := tb) 400 rfl ?_ ?_; (focus (repeat' (first | exact trivial | apply And.intro | omega)))) | (refine k_op rfl ?_; first | refine v_op (g_lenL rfl) rfl rfl ?_ | (refine v_op (g_iaddrN rfl rfl (by omega)) rfl rfl ?_) | (refine v_op (g_ldRFx rfl rfl (by assumption) ?_ (by assumption) rfl rfl) rfl rfl ?_; (focus ((omega); done))) | (refine v_op (g_pickT rfl rfl rfl) rfl rfl ?_) | (refine v_op (g_pickF rfl rfl rfl) rfl rfl ?_)) | refine k_g rfl rfl (fun _ => ?_) (fun _ => ?_) | (refine k_ff rfl (by first | rfl | (refine decide_eq_false ?_; (omega))) ?_))
    all_goals refine k_rd (i + 1) ⟨by omega, fun j hj => ?_⟩ (by omega) (by repeat' constructor) rfl sRr
    all_goals (rcases Nat.lt_or_ge j i with h3 | h3; · exact Hi.2 j h3)
    all_goals (have : j = i := by omega)
    all_goals (subst this; exact ⟨hna, hko⟩)
  obtain ⟨hk1, hk2⟩ := hk
  obtain ⟨bf, of, cf, ef, hsf⟩ := hfl.expl (by dsimp only; omega)
  simp only [slX, Value.slice.injEq] at ef
  obtain ⟨rfl, -, rfl⟩ := ef
  dsimp only at hsf
  have hE1 : (((some ⟨bf, of, none⟩, ca), t) : TyX).2.sort = t.sort := rfl
  have hE2 : (((some ⟨bf, of, none⟩, ca), t) : TyX).2.fields.length = t.fields.length := rfl
  have hkk := kindOk_kOk ((hW.fld _ (nth_mem hk1)).kind hk2)
  have hkk1 := hkk.1
  have hcl := core_len' (nth t.fields k).kind
  have cx_ref : PuG Tryz.prog 57 [S (core (nth t.fields k).kind)] G (· = Tu [S ((refN (core (nth t.fields k).kind)).getD []), Bo (refN (core (nth t.fields k).kind)).isSome]) := c_l2RefK (core_kOk hkk1) (by omega)
  have hhas := hasK_find (vs := vs) (k := (nth t.fields k).kind)
  repeat' (first | (refine run (t := tb) 400 rfl ?_ ?_; (focus (repeat' (first | exact trivial | apply And.intro | omega)))) | (refine k_op rfl ?_; first | refine v_op (g_lenL rfl) rfl rfl ?_ | (refine v_op (g_iaddrN rfl rfl (by omega)) rfl rfl ?_) | (refine v_op (g_ldRFx rfl rfl (by assumption) ?_ (by assumption) rfl rfl) rfl rfl ?_; (focus ((omega); done))) | (refine v_op (g_ldRF rfl rfl (by assumption) ?_ rfl rfl) rfl rfl ?_; (focus ((omega); done))) | (refine v_op (g_pickT rfl rfl rfl) rfl rfl ?_) | (refine v_op (g_pickF rfl rfl rfl) rfl rfl ?_) | refine c_al rfl rfl fun _ => ?_ | refine c_stA rfl rfl rfl rfl rfl rfl ?_ | (refine c_rt rfl rfl rfl (c_l2Core (by (repeat (assumption)); done)) rfl ?_) | (refine c_rt rfl rfl rfl cx_ref rfl ?_) | (refine c_rt rfl rfl rfl (c_find (by (repeat (assumption)); done) (by omega)) rfl ?_)) | (refine k_gt rfl rfl (dTt (by omega)) ?_) | refine k_gb rfl rfl (fun _ => ?_) (fun _ => ?_) | (refine k_tt rfl (dTt (by omega)) ?_) | (refine k_ff rfl rfl ?_) | refine k_cd rfl (fun _ => ?_) (fun _ => ?_))
  all_goals first
    | (rename_i h1 h2
       have hK : hasK (tys vs) (nth t.fields k).kind = false := by rw [hhas, h1]; simpa using h2
       refine k_rr (vs := [_]) rfl ⟨rfl, trivial⟩ rfl (List.nil_sublist _) ⟨rfl, rfl, ?_⟩
       refine congrArg Bo (decide_eq_false fun hv => ?_).symm
       have h5 := (hv.1 i (by omega)).2
       rw [hti] at h5
       rcases h5 with h3 | h3
       · exact hk2 h3
       · have h6 := h3 k hk1
         rw [hK] at h6; cases h6)
    | (have hK : hasK (tys vs) (nth t.fields k).kind = true := by rw [hhas]; simp_all
       refine k_rd (k + 1) ⟨.inr fun j hj => ?_, by omega⟩ (by omega) (by repeat' constructor) rfl (by repeat (exact List.nil_sublist _))
       rcases Nat.lt_or_ge j k with h3 | h3
       · rcases Hk.1 with h4 | h4
         · exact absurd h4 hk2
         · exact h4 j h3
       · have : j = k := by omega
         subst this; exact hK)
theorem typesOf_snoc : ∀ {xs : List (List UInt8)} {ts : List Ty} {x : List UInt8}, typesOf xs = some ts → typesOf (xs ++ [x]) = (tyOf x).map (fun t => ts ++ [t])
  | [], ts, x, h => by
    simp only [typesOf, Option.some.injEq] at h; subst h
    simp only [List.nil_append, typesOf]
    cases tyOf x <;> rfl
  | y :: xs, ts, x, h => by
    unfold typesOf at h
    rw [List.cons_append, typesOf]
    cases hy : tyOf y with
    | none => rw [hy] at h; cases h
    | some t =>
      rw [hy] at h
      dsimp only at h ⊢
      cases hr : typesOf xs with
      | none => rw [hr] at h; cases h
      | some us =>
        rw [hr] at h
        simp only [Option.map_some, Option.some.injEq] at h; subst h
        rw [typesOf_snoc hr]
        cases tyOf x <;> rfl
theorem typesOf_app_none : ∀ {xs ys : List (List UInt8)}, typesOf xs = none → typesOf (xs ++ ys) = none
  | [], ys, h => by cases h
  | y :: xs, ys, h => by
    unfold typesOf at h
    rw [List.cons_append, typesOf]
    cases hy : tyOf y with
    | none => rfl
    | some t =>
      rw [hy] at h
      dsimp only at h ⊢
      cases hr : typesOf xs with
      | none => rw [typesOf_app_none hr]; rfl
      | some us => rw [hr] at h; cases h
end Go.E
namespace Go.E
set_option maxRecDepth 20000
set_option maxHeartbeats 2000000
open Go.Proofs
variable {G : Gh}
def OfPost (s : List UInt8) (v : Value) (G : Gh) : Prop := ∃ u vs, v = Tu [u, Bo (schemaOf s).isSome] ∧ SchR G u vs ∧ vs.length ≤ 8 ∧ ∀ ts, schemaOf s = some ts → tys vs = ts
theorem SchR.nil : SchR G nilS [] := ⟨SlV.nil0, by simp⟩
theorem c_cutE {s : List UInt8} {k : Nat} (h : s.length ≤ 100000000) : FnS Tryz.prog 74 [S s, U8 k] G (fun v G' => ∃ b o cap, v = .slice (some ⟨b, o, none⟩) (cut k s).length cap ∧ Seg G' b o (rows strF (cut k s))) := by
  refine (c_l3CutS (G := G) (k := k) h).mono ?_
  rintro v G' L' ⟨h1, h2, h3⟩
  obtain ⟨b, o, cap, rfl, hs⟩ := h3.expl cut_pos
  exact ⟨h1, h2, b, o, cap, rfl, hs⟩
theorem c_l3ReadTypeX {s : List UInt8} (h : s.length ≤ 1000) : FnS Tryz.prog 75 [S s] G (fun v G' => ∃ (x : TyX) (ok : Bool), v = Tu [Ag [U8 x.2.sort, S x.2.name, .slice x.1.1 x.2.fields.length x.1.2], Bo ok] ∧ (tyOf s = if ok = true then some x.2 else none) ∧ SlV G' (slX x) 4 x.2.fields.length (rows fldF x.2.fields)) := by
  refine (c_l3ReadType (G := G) h).mono ?_
  rintro v G' L' ⟨h1, h2, fv, t, ok, rfl, h3, h4⟩
  obtain ⟨a, cap, rfl⟩ := h4.sl
  exact ⟨h1, h2, ((a, cap), t), ok, rfl, h3, h4⟩
theorem c_l3Of0 {s : List UInt8} (h : s.length ≤ 10000000) (hb : ¬ (s.length ≤ 400 ∧ (cut 10 s).length ≤ 9 ∧ nth (cut 10 s) ((cut 10 s).length - 1) = [])) (hno : schemaOf s = none) : FnS Tryz.prog 55 [S s] G (OfPost s) := by
  have hpos := cut_pos (k := 10) (s := s)
  have hcnt := cut_count (k := 10) (s := s)
  have cx_cutE := c_cutE (G := G) (s := s) (k := 10) (by omega)
  generalize cut 10 s = xs at *
  have e1 : (((xs.length : Nat) : Int) - 1).toNat = xs.length - 1 := by omega
  refine b_enter [(0, _)] Tryz.func55 (by kernel_rfl) Tryz.ntmps55 rfl rfl (by repeat' constructor) fun B hok hB hW => ?_
  by_cases h1 : s.length ≤ 400
  case neg =>
    repeat' (first | (refine run (t := tb) 400 rfl trivial ?_) | (refine k_op rfl ?_; first | (refine v_op (g_pickT rfl rfl rfl) rfl rfl ?_) | (refine c_fns rfl rfl rfl cx_cutE rfl ?_; rintro _ G hle ⟨b1, o1, cap1, rfl, hseg⟩; skip)) | (refine k_gt rfl rfl (by first | rfl | (refine decide_eq_true ?_; (omega))) ?_) | (refine k_tt rfl rfl ?_))
    all_goals refine k_rr (vs := [_, _]) rfl ⟨rfl, rfl, trivial⟩ rfl (List.nil_sublist _) ⟨hle, rfl, ?_⟩
    all_goals exact ⟨nilS, [], by rw [hno]; rfl, SchR.nil, by simp, fun ts h => by rw [hno] at h; cases h⟩
  by_cases h2 : xs.length ≤ 9
  case neg =>
    repeat' (first | (refine run (t := tb) 400 rfl trivial ?_) | (refine k_op rfl ?_; first | refine v_op (g_lenL rfl) rfl rfl ?_ | (refine v_op (g_pickT rfl rfl rfl) rfl rfl ?_) | (refine v_op (g_pickF rfl rfl rfl) rfl rfl ?_) | (refine c_fns rfl rfl rfl cx_cutE rfl ?_; rintro _ G hle ⟨b1, o1, cap1, rfl, hseg⟩; skip)) | (refine k_gt rfl rfl (dTt (by omega)) ?_) | (refine k_gf rfl rfl (dFf (by omega)) ?_) | (refine k_tt rfl rfl ?_))
    all_goals refine k_rr (vs := [_, _]) rfl ⟨rfl, rfl, trivial⟩ rfl (List.nil_sublist _) ⟨hle, rfl, ?_⟩
    all_goals exact ⟨nilS, [], by rw [hno]; rfl, SchR.nil, by simp, fun ts h => by rw [hno] at h; cases h⟩
  have h3 : ¬ nth xs (((xs.length : Nat) : Int) - 1).toNat = [] := by rw [e1]; exact fun h => hb ⟨h1, h2, h⟩
  clear hb
  repeat' (first | (refine run (t := tb) 400 rfl ?_ ?_; (focus (repeat' (first | exact trivial | apply And.intro | omega)))) | (refine k_op rfl ?_; first | refine v_op (g_lenL rfl) rfl rfl ?_ | (refine v_op (g_pickF rfl rfl rfl) rfl rfl ?_) | (refine v_op (g_iaddr rfl rfl (by omega)) rfl rfl ?_) | (refine v_op (g_ldRS rfl rfl (by assumption) ?_) rfl rfl ?_; (focus ((omega); done))) | (refine c_fns rfl rfl rfl cx_cutE rfl ?_; rintro _ G hle ⟨b1, o1, cap1, rfl, hseg⟩; skip)) | (refine k_gf rfl rfl (dFf (by omega)) ?_) | (refine k_tt rfl (dTt ‹_›) ?_))
  all_goals refine k_rr (vs := [_, _]) rfl ⟨rfl, rfl, trivial⟩ rfl (List.nil_sublist _) ⟨hle, rfl, ?_⟩
  all_goals exact ⟨nilS, [], by rw [hno]; rfl, SchR.nil, by simp, fun ts h => by rw [hno] at h; cases h⟩
theorem c_l3Of1 {s : List UInt8} (h : s.length ≤ 400) (h2 : (cut 10 s).length ≤ 9) (h3 : nth (cut 10 s) ((cut 10 s).length - 1) = []) (hsc : schemaOf s = match typesOf ((cut 10 s).take ((cut 10 s).length - 1)) with
    | some ts => if ValidT ts then some ts else none
    | none => none) : FnS Tryz.prog 55 [S s] G (OfPost s) := by
  have hpos := cut_pos (k := 10) (s := s)
  have hall : ∀ y ∈ cut 10 s, y.length ≤ s.length := fun y hy => cut_len hy
  have cx_cutE := c_cutE (G := G) (s := s) (k := 10) (by omega)
  generalize cut 10 s = xs at *
  have e1 : (((xs.length : Nat) : Int) - 1).toNat = xs.length - 1 := by omega
  have h4 : nth xs (((xs.length : Nat) : Int) - 1).toNat = [] := by rw [e1]; exact h3
  have h5 : ¬ nth xs (((xs.length : Nat) : Int) - 1).toNat ≠ [] := fun h => h h4
  clear e1 h3 h4
  refine b_enter [(0, _)] Tryz.func55 (by kernel_rfl) Tryz.ntmps55 rfl rfl (by repeat' constructor) fun B hok hB hW => ?_
  repeat' (first | (refine run (t := tb) 400 rfl ?_ ?_; (focus (repeat' (first | exact trivial | apply And.intro | omega)))) | (refine k_op rfl ?_; first | refine v_op (g_lenL rfl) rfl rfl ?_ | (refine v_op (g_pickF rfl rfl rfl) rfl rfl ?_) | (refine v_op (g_iaddr rfl rfl (by omega)) rfl rfl ?_) | (refine v_op (g_ldRS rfl rfl (by assumption) ?_) rfl rfl ?_; (focus ((omega); done))) | refine c_bsl rfl rfl rfl rfl rfl rfl fun _ => ?_ | (refine c_fns rfl rfl rfl cx_cutE rfl ?_; rintro _ G hle ⟨b1, o1, cap1, rfl, hseg⟩; skip)) | (refine k_gf rfl rfl (dFf (by omega)) ?_) | (refine k_ff rfl (dFf ‹_›) ?_))
  rename_i x0
  refine Nx.blkAcc (m := 0) (sz := 3) .here rfl ?_
  refine k_loop (ι := Value × List TyX × Nat × Gh) (fun i => ((i.2.2.1 + 1 ≤ xs.length ∧ i.2.1.length = i.2.2.1) ∧ typesOf (xs.take i.2.2.1) = some (tys i.2.1)) ∧ (∀ y ∈ i.2.1, SlV i.2.2.2 (slX y) 4 y.2.fields.length (rows fldF y.2.fields)) ∧ Gh.le G i.2.2.2) (fun i => [(4, .slice (some ⟨b1, o1, none⟩) xs.length cap1), (5, i.1), (6, I i.2.2.1)]) (fun i => i.2.2.2) (fun i => [.acc i.1 tTy 3 i.2.1.length (rows tyF i.2.1)]) (fun i => xs.length - i.2.2.1) (.slice (some ⟨x0, 0, none⟩) 0 0, [], 0, G) ?_ (by repeat' constructor) rfl sRr (fun i Hi => ?_)
  · exact ⟨⟨⟨by dsimp only; omega, rfl⟩, rfl⟩, by simp, Gh.le.refl _⟩
  obtain ⟨u, vs, i, Gk⟩ := i
  dsimp only at Hi ⊢
  obtain ⟨⟨⟨hi1, hi2⟩, hty⟩, hfs, hgk⟩ := Hi
  have hsk := hseg.mono hgk
  have hle0 := hle
  by_cases hix : i + 1 < xs.length
  case neg =>
    have ei : i = xs.length - 1 := by omega
    rw [← ei, hty] at hsc
    dsimp only at hsc
    refine Nx.sealS (v := u) fun G1 hle1 hsl => ?_
    have hS : SchR G1 u vs := ⟨hsl, fun x hx => (hfs x hx).mono hle1⟩
    have hw : ∀ x ∈ vs, TyW x.2 := fun x hx => (typesOf_w hty).1 x.2 (show x.2 ∈ vs.map (fun y => y.2) from List.mem_map_of_mem hx)
    have cx_val := c_valid hS (by omega) hw
    repeat' (first | (refine run (t := tb) 400 rfl ?_ ?_; (focus (repeat' (first | exact trivial | apply And.intro | omega)))) | (refine k_op rfl ?_; first | refine v_op (g_lenL rfl) rfl rfl ?_ | (refine c_rt rfl rfl rfl cx_val rfl ?_)) | (refine k_ff rfl (dFf (by omega)) ?_))
    all_goals refine k_rr (vs := [_, _]) rfl ⟨rfl, rfl, trivial⟩ rfl (List.nil_sublist _) ⟨(hle0.trans hgk).trans hle1, rfl, ?_⟩
    all_goals refine ⟨u, vs, ?_, hS, by omega, fun ts h => ?_⟩
    · rw [hsc, oneOf_two]
      by_cases hv : ValidT (tys vs)
      · rw [if_pos hv, decide_eq_true hv]; rfl
      · rw [if_neg hv, decide_eq_false hv]; rfl
    · rw [hsc] at h
      split at h
      · exact Option.some.inj h
      · cases h
  have hx2 : (nth xs i).length ≤ 1000 := by have := hall _ (nth_mem (show i < xs.length by omega)); omega
  have hsn := typesOf_snoc (x := nth xs i) hty
  rw [← take_nth (by omega)] at hsn
  repeat' (first | (refine run (t := tb) 400 rfl ?_ ?_; (focus (repeat' (first | exact trivial | apply And.intro | omega)))) | (refine k_op rfl ?_; first | refine v_op (g_lenL rfl) rfl rfl ?_ | (refine v_op (g_iaddrN rfl rfl (by omega)) rfl rfl ?_) | refine v_op (g_ldA rfl rfl rfl rfl) rfl rfl ?_ | (refine v_op (g_ldRS rfl rfl (by assumption) ?_) rfl rfl ?_; (focus ((omega); done))) | refine c_bsl rfl rfl rfl rfl rfl rfl fun _ => ?_ | refine c_al rfl rfl fun _ => ?_ | refine c_stA rfl rfl rfl rfl rfl rfl ?_ | (refine c_apX rfl rfl rfl rfl rfl rfl rfl rfl rfl (by omega) fun _ _ => ?_) | (refine c_fns rfl rfl rfl (c_l3ReadTypeX (by omega)) rfl ?_; rintro _ G hle ⟨x, ok, rfl, htyp, hfl⟩; skip)) | (refine k_tt rfl (dTt (by omega)) ?_) | refine k_cd rfl (fun _ => ?_) (fun _ => ?_))
  all_goals first
    | (rename_i hq
       have hq2 : ok = false := by simpa using hq
       subst hq2
       have hf0 : tyOf (nth xs i) = none := htyp
       have hno : schemaOf s = none := by
         rw [hf0] at hsn
         have e2 : xs.take (xs.length - 1) = xs.take (i + 1) ++ (xs.take (xs.length - 1)).drop (i + 1) := by
           have := List.take_append_drop (i + 1) (xs.take (xs.length - 1))
           rw [List.take_take, Nat.min_eq_left (by omega)] at this
           exact this.symm
         rw [hsc, e2, typesOf_app_none hsn]
       refine k_rr (vs := [_, _]) rfl ⟨rfl, rfl, trivial⟩ rfl (List.nil_sublist _) ⟨(hle0.trans hgk).trans hle, rfl, ?_⟩
       exact ⟨nilS, [], by rw [hno]; rfl, SchR.nil, by simp, fun ts h => by rw [hno] at h; cases h⟩)
    | (rename_i z hq w b2 c2
       have hq2 : ok = true := by simpa using hq
       subst hq2
       have hf1 : tyOf (nth xs i) = some x.2 := htyp
       rw [hf1] at hsn
       have e3 : rows tyF vs ++ [U8 x.2.sort, S x.2.name, .slice x.1.1 x.2.fields.length x.1.2] = rows tyF (vs ++ [x]) := (rows_snoc tyF vs x).symm
       refine k_rd (.slice (some ⟨b2, 0, none⟩) (vs.length + 1) c2, vs ++ [x], i + 1, G) ⟨⟨⟨by dsimp only; omega, by simp; omega⟩, ?_⟩, ?_, hgk.trans hle⟩ (by dsimp only; omega) (by repeat' constructor) rfl (by dsimp only; rw [e3]; simp only [List.length_append, List.length_cons, List.length_nil, Nat.zero_add]; repeat (first | exact List.nil_sublist _ | apply List.Sublist.cons_cons))
       · dsimp only; rw [hsn]; simp [tys]
       · intro y hy
         rcases List.mem_append.1 hy with hy | hy
         · exact (hfs y hy).mono hle
         · simp only [List.mem_singleton] at hy; subst hy; exact hfl)
theorem c_l3Of {s : List UInt8} (h : s.length ≤ 10000000) : FnS Tryz.prog 55 [S s] G (OfPost s) := by
  have hpos := cut_pos (k := 10) (s := s)
  have hlast : (cut 10 s).getLastD [] = nth (cut 10 s) ((cut 10 s).length - 1) := by
    rw [nth_eq (by omega), List.getLastD_eq_getLast?, List.getLast?_eq_getElem?]
    rw [List.getElem?_eq_getElem (by omega)]; rfl
  by_cases hc : s.length ≤ 400 ∧ (cut 10 s).length ≤ 9 ∧ nth (cut 10 s) ((cut 10 s).length - 1) = []
  · refine c_l3Of1 hc.1 hc.2.1 hc.2.2 ?_
    unfold schemaOf
    rw [hlast, if_pos hc, List.dropLast_eq_take]
    (rfl)
  · refine c_l3Of0 h hc ?_
    unfold schemaOf
    rw [hlast, if_neg hc]
def kindS (s k : List UInt8) : Bool := match schemaOf s with
  | some ts => kindIn ts k
  | none => false
def KindPost (s k : List UInt8) (v : Value) (G : Gh) : Prop := ∃ u vs, v = Tu [u, Bo (kindS s k)] ∧ SchR G u vs ∧ vs.length ≤ 8 ∧ ∀ ts, schemaOf s = some ts → kindIn ts k = true → tys vs = ts
theorem c_l3Kind {s k : List UInt8} (h : s.length ≤ 10000000) (hk : k.length ≤ 10000000) : FnS Tryz.prog 34 [S s, S k] G (KindPost s k) := by
  cases hs : schemaOf s with
  | none =>
    have hno : kindS s k = false := by unfold kindS; rw [hs]
    have e1 : (!(schemaOf s).isSome) = true := by rw [hs]; rfl
    refine b_enter [(0, _), (1, _)] Tryz.func34 (by kernel_rfl) Tryz.ntmps34 rfl rfl (by repeat' constructor) fun B hok hB hW => ?_
    repeat' (first | (refine run (t := tb) 400 rfl trivial ?_) | (refine k_op rfl ?_; first | (refine v_op (g_pickT rfl rfl rfl) rfl rfl ?_) | (refine c_fns rfl rfl rfl (c_l3Of (by omega)) rfl ?_; rintro _ G hle ⟨u, vs, rfl, hsch, hvl, hvs⟩; skip)) | (refine k_gt rfl rfl ‹_› ?_) | (refine k_tt rfl rfl ?_))
    all_goals refine k_rr (vs := [_, _]) rfl ⟨rfl, rfl, trivial⟩ rfl (List.nil_sublist _) ⟨hle, rfl, ?_⟩
    all_goals exact ⟨nilS, [], by rw [hno]; rfl, SchR.nil, by simp, fun ts h => by rw [hs] at h; cases h⟩
  | some ts =>
    have e1 : (!(schemaOf s).isSome) = false := by rw [hs]; rfl
    by_cases hko : kindOk k = true
    case neg =>
      have hno : kindS s k = false := by unfold kindS kindIn; rw [hs]; simp [hko]
      have e2 : (!kindOk k) = true := by simpa using hko
      refine b_enter [(0, _), (1, _)] Tryz.func34 (by kernel_rfl) Tryz.ntmps34 rfl rfl (by repeat' constructor) fun B hok hB hW => ?_
      repeat' (first | (refine run (t := tb) 400 rfl trivial ?_) | (refine k_op rfl ?_; first | (refine v_op (g_pickF rfl rfl rfl) rfl rfl ?_) | (refine c_fns rfl rfl rfl (c_l3Of (by omega)) rfl ?_; rintro _ G hle ⟨u, vs, rfl, hsch, hvl, hvs⟩; skip) | (refine c_rt rfl rfl rfl c_KindOkS rfl ?_)) | (refine k_gf rfl rfl ‹_› ?_) | (refine k_tt rfl ‹_› ?_))
      all_goals refine k_rr (vs := [_, _]) rfl ⟨rfl, rfl, trivial⟩ rfl (List.nil_sublist _) ⟨hle, rfl, ?_⟩
      all_goals exact ⟨nilS, [], by rw [hno]; rfl, SchR.nil, by simp, fun ts h1 h2 => by unfold kindIn at h2; simp [hko] at h2⟩
    have e2 : (!kindOk k) = false := by rw [hko]; rfl
    have hkk := kindOk_kOk hko
    have hkk1 := hkk.1
    have hcl := core_len' k
    have cx_rf2 : ∀ G, PuG Tryz.prog 57 [S (core k)] G (· = Tu [S ((refN (core k)).getD []), Bo (refN (core k)).isSome]) := fun G => c_l2RefK (core_kOk hkk1) (by omega)
    refine b_enter [(0, _), (1, _)] Tryz.func34 (by kernel_rfl) Tryz.ntmps34 rfl rfl (by repeat' constructor) fun B hok hB hW => ?_
    repeat' (first | (refine run (t := tb) 400 rfl trivial ?_) | (refine k_op rfl ?_; first | (refine v_op (g_pickT rfl rfl rfl) rfl rfl ?_) | (refine v_op (g_pickF rfl rfl rfl) rfl rfl ?_) | refine c_al rfl rfl fun _ => ?_ | refine c_stA rfl rfl rfl rfl rfl rfl ?_ | (refine c_fns rfl rfl rfl (c_l3Of (by omega)) rfl ?_; rintro _ G hle ⟨u, vs, rfl, hsch, hvl, hvs⟩; skip) | (refine c_rt rfl rfl rfl c_KindOkS rfl ?_) | (refine c_rt rfl rfl rfl (c_l2Core (by (repeat (assumption)); done)) rfl ?_) | (refine c_rt rfl rfl rfl (cx_rf2 _) rfl ?_) | (refine c_rt rfl rfl rfl (c_find (by (repeat (assumption)); done) (by omega)) rfl ?_)) | (refine k_gf rfl rfl ‹_› ?_) | refine k_gb rfl rfl (fun _ => ?_) (fun _ => ?_) | (refine k_ff rfl ‹_› ?_))
    all_goals rename_i hq
    all_goals refine k_rr (vs := [_, _]) rfl ⟨rfl, rfl, trivial⟩ rfl (List.nil_sublist _) ⟨hle, rfl, ?_⟩
    all_goals have hks : kindS s k = (!(refN (core k)).isSome || (findV vs ((refN (core k)).getD [])).isSome) := by
                unfold kindS kindIn
                rw [hs]
                dsimp only
                rw [hko, Bool.true_and, ← hvs ts hs, hasK_find]
    all_goals exact ⟨u, vs, by rw [hks, hq]; rfl, hsch, hvl, fun ts' h1 _ => hvs ts' h1⟩
end Go.E
namespace Go.E
set_option maxRecDepth 20000
set_option maxHeartbeats 2000000
open Go.Proofs
variable {G : Gh}
abbrev TyP := Nat × Ty
def ptF (q : TyP) : List Value := [Pt q.1 0]
instance : RowF ptF 1 := ⟨fun _ => rfl⟩
def kvsOf (qs : List TyP) : List (List UInt8 × Value) := qs.map fun q => (q.2.name, Pt q.1 0)
def tyq (qs : List TyP) : List Ty := qs.map (·.2)
def findQ (qs : List TyP) (n : List UInt8) : Option TyP := qs.find? fun q => decide (n = q.2.name)
theorem kvF_find (qs : List TyP) (n : List UInt8) : kvF (kvsOf qs) n = (findQ qs n).map fun q => Pt q.1 0 := by
  unfold kvF kvsOf findQ
  induction qs with
  | nil => rfl
  | cons q qs ih =>
    simp only [List.map_cons, List.find?_cons]
    by_cases h : n = q.2.name
    · simp [h]
    · simp only [h, decide_false]; exact ih
theorem findQ_ty (qs : List TyP) (n : List UInt8) : (findQ qs n).map (·.2) = findT (tyq qs) n := by
  unfold findQ findT tyq
  induction qs with
  | nil => rfl
  | cons q qs ih =>
    simp only [List.map_cons, List.find?_cons]
    by_cases h : n = q.2.name
    · simp [h]
    · have h2 : ¬ q.2.name = n := fun e => h e.symm
      simp only [h, h2, decide_false]; exact ih
theorem findQ_mem {qs : List TyP} {n : List UInt8} {q : TyP} (h : findQ qs n = some q) : q ∈ qs := List.mem_of_find?_eq_some h
structure ScI (G : Gh) (b : Nat) (qs : List TyP) : Prop where
  at' : ∃ u m, Seg G b 0 [u, .map (some m)] ∧ SlV G u 1 qs.length (rows ptF qs) ∧ G m = some (.ex (mapO (kvsOf qs)))
  ty : ∀ q ∈ qs, TyI G q.1 q.2
theorem ScI.mono {G G' : Gh} {b : Nat} {qs : List TyP} (h : ScI G b qs) (hl : Gh.le G G') : ScI G' b qs := by
  obtain ⟨u, m, h1, h2, h3⟩ := h.at'
  exact ⟨⟨u, m, h1.mono hl, h2.mono hl, hl _ _ h3⟩, fun q hq => (h.ty q hq).mono hl⟩
theorem bs_at {k : List UInt8} (h : kindOk k = true) : bs k = [64] ↔ (refN (core k)).isSome = true := by
  have hk := core_kOk (kindOk_kOk h).1
  unfold bs
  cases hc : core k with
  | nil => rw [hc] at hk; cases hk
  | cons c r =>
    unfold bsT refN
    by_cases h64 : c.toNat = 64
    · simp [h64]
    · simp only [h64, if_false]
      constructor
      · intro e; simp only [List.cons.injEq] at e; exact absurd (by rw [e.1]; rfl) h64
      · intro e; cases e
theorem c_has {b : Nat} {qs : List TyP} {k : List UInt8} (h : ScI G b qs) (hk : kindOk k = true) : PuG Tryz.prog 66 [Pt b 0, Ag [S (sg k), S (bs k), S (nm k)]] G (· = Bo (hasK (tyq qs) k)) := by
  obtain ⟨u, m, h1, h2, h3⟩ := h.at'
  have hat := bs_at hk
  rcases hr : refN (core k) with _ | n
  · have hb : ¬ bs k = [64] := by rw [hat, hr]; simp
    have e : hasK (tyq qs) k = true := by unfold hasK; rw [hr]
    clear hat hr
    rw [e]
    refine p_enter [(0, _), (1, _)] Tryz.func66 (by kernel_rfl) Tryz.ntmps66 rfl rfl (by repeat' constructor) fun B hB => ?_
    repeat' (first | (refine run (t := tb) 400 rfl trivial ?_) | (refine k_op rfl ?_; (refine c_bx rfl rfl rfl fun _ => ?_)) | (refine k_any (s_any (id := 1) _ (fun _ h => h) mixed ?_); refine x_tks (t := tb) (fuel := 13) [0] (bts 14 1) (by kernel_rfl) (by kernel_rfl) rfl rfl (Gh.le.refl _) sRr trivial ?_; ((refine (x_tkg (bts 14 3) 1 rfl (by kernel_rfl) rfl (Gh.le.refl _) sRr) (g_ld rfl rfl rfl) rfl rfl ?_)); refine x_tks (t := tb) (fuel := 10) [2, 3] (bts 14 15) (by kernel_rfl) (by kernel_rfl) rfl rfl (Gh.le.refl _) sRr trivial ?_; (try ((refine Nx.re (d := 8) (v' := Bo true) rfl (congrArg Value.bool (dTt ‹_›)) ?_))); refine x_tks (t := tb) (fuel := 6) [4, 5, 6, 8] (bts 14 383) (by kernel_rfl) (by kernel_rfl) rfl rfl (Gh.le.refl _) sRr trivial ?_; (refine x_tkn (bts 14 511) 7 rfl (by kernel_rfl) rfl (Gh.le.refl _) sRr rfl rfl ?_); (refine x_tkn (bts 14 1023) 9 rfl (by kernel_rfl) rfl (Gh.le.refl _) sRr rfl rfl ?_); (refine x_tkn (bts 14 2047) 10 rfl (by kernel_rfl) rfl (Gh.le.refl _) sRr rfl rfl ?_); (refine x_tkn (bts 14 4095) 11 rfl (by kernel_rfl) rfl (Gh.le.refl _) sRr rfl rfl ?_); ((refine (x_tkg (bts 14 8191) 12 rfl (by kernel_rfl) rfl (Gh.le.refl _) sRr) (g_pickT rfl rfl rfl) rfl rfl ?_)); refine x_tks (t := tb) (fuel := 0) [13] (bts 14 16383) (by kernel_rfl) (by kernel_rfl) rfl rfl (Gh.le.refl _) sRr trivial ?_; refine x_done (by kernel_rfl) (k_bk ?_)))
    all_goals refine k_rr (vs := [_]) rfl ⟨rfl, trivial⟩ rfl (List.nil_sublist _) ⟨rfl, rfl, ?_⟩
    all_goals rfl
  · have hb : ¬ (bs k ≠ [64]) := fun h => h (by rw [hat, hr]; rfl)
    have hn : nm k = n := by unfold nm; rw [hr]; rfl
    have e : hasK (tyq qs) k = (findQ qs (nm k)).isSome := by unfold hasK; rw [hr, hn]; dsimp only; rw [← findQ_ty]; simp
    rw [e]
    clear hat hr hn e
    have hkv := kvF_find qs (nm k)
    cases hf : findQ qs (nm k) with
    | none =>
      rw [hf] at hkv
      dsimp only [Option.map_none] at hkv
      refine p_enter [(0, _), (1, _)] Tryz.func66 (by kernel_rfl) Tryz.ntmps66 rfl rfl (by repeat' constructor) fun B hB => ?_
      repeat' (first | (refine run (t := tb) 400 rfl trivial ?_) | (refine k_op rfl ?_; (refine c_bx rfl rfl rfl fun _ => ?_)) | (refine k_any (s_any (id := 1) _ (fun _ h => h) mixed ?_); refine x_tks (t := tb) (fuel := 13) [0] (bts 14 1) (by kernel_rfl) (by kernel_rfl) rfl rfl (Gh.le.refl _) sRr trivial ?_; ((refine (x_tkg (bts 14 3) 1 rfl (by kernel_rfl) rfl (Gh.le.refl _) sRr) (g_ld rfl rfl rfl) rfl rfl ?_)); refine x_tks (t := tb) (fuel := 10) [2, 3] (bts 14 15) (by kernel_rfl) (by kernel_rfl) rfl rfl (Gh.le.refl _) sRr trivial ?_; (try ((refine Nx.re (d := 8) (v' := Bo false) rfl (congrArg Value.bool (dFf ‹_›)) ?_))); refine x_tks (t := tb) (fuel := 6) [4, 5, 6, 8] (bts 14 383) (by kernel_rfl) (by kernel_rfl) rfl rfl (Gh.le.refl _) sRr trivial ?_; ((refine (x_tkg (bts 14 511) 7 rfl (by kernel_rfl) rfl (Gh.le.refl _) sRr) (g_ldS rfl rfl (by assumption) rfl rfl) rfl rfl ?_)); ((refine (x_tkg (bts 14 1023) 9 rfl (by kernel_rfl) rfl (Gh.le.refl _) sRr) (g_ld rfl rfl rfl) rfl rfl ?_)); ((refine (x_tkg (bts 14 2047) 10 rfl (by kernel_rfl) rfl (Gh.le.refl _) sRr) (g_lookupX rfl rfl (map_G (by assumption)) (by assumption) rfl) rfl rfl ?_)); ((refine (x_tkg (bts 14 4095) 11 rfl (by kernel_rfl) rfl (Gh.le.refl _) sRr) (g_pne0 rfl rfl) rfl rfl ?_)); ((refine (x_tkg (bts 14 8191) 12 rfl (by kernel_rfl) rfl (Gh.le.refl _) sRr) (g_pickF rfl rfl rfl) rfl rfl ?_)); refine x_tks (t := tb) (fuel := 0) [13] (bts 14 16383) (by kernel_rfl) (by kernel_rfl) rfl rfl (Gh.le.refl _) sRr trivial ?_; refine x_done (by kernel_rfl) (k_bk ?_)))
      all_goals refine k_rr (vs := [_]) rfl ⟨rfl, trivial⟩ rfl (List.nil_sublist _) ⟨rfl, rfl, ?_⟩
      all_goals rfl
    | some q =>
      rw [hf] at hkv
      dsimp only [Option.map_some] at hkv
      refine p_enter [(0, _), (1, _)] Tryz.func66 (by kernel_rfl) Tryz.ntmps66 rfl rfl (by repeat' constructor) fun B hB => ?_
      repeat' (first | (refine run (t := tb) 400 rfl trivial ?_) | (refine k_op rfl ?_; (refine c_bx rfl rfl rfl fun _ => ?_)) | (refine k_any (s_any (id := 1) _ (fun _ h => h) mixed ?_); refine x_tks (t := tb) (fuel := 13) [0] (bts 14 1) (by kernel_rfl) (by kernel_rfl) rfl rfl (Gh.le.refl _) sRr trivial ?_; ((refine (x_tkg (bts 14 3) 1 rfl (by kernel_rfl) rfl (Gh.le.refl _) sRr) (g_ld rfl rfl rfl) rfl rfl ?_)); refine x_tks (t := tb) (fuel := 10) [2, 3] (bts 14 15) (by kernel_rfl) (by kernel_rfl) rfl rfl (Gh.le.refl _) sRr trivial ?_; (try ((refine Nx.re (d := 8) (v' := Bo false) rfl (congrArg Value.bool (dFf ‹_›)) ?_))); refine x_tks (t := tb) (fuel := 6) [4, 5, 6, 8] (bts 14 383) (by kernel_rfl) (by kernel_rfl) rfl rfl (Gh.le.refl _) sRr trivial ?_; ((refine (x_tkg (bts 14 511) 7 rfl (by kernel_rfl) rfl (Gh.le.refl _) sRr) (g_ldS rfl rfl (by assumption) rfl rfl) rfl rfl ?_)); ((refine (x_tkg (bts 14 1023) 9 rfl (by kernel_rfl) rfl (Gh.le.refl _) sRr) (g_ld rfl rfl rfl) rfl rfl ?_)); ((refine (x_tkg (bts 14 2047) 10 rfl (by kernel_rfl) rfl (Gh.le.refl _) sRr) (g_lookupX rfl rfl (map_G (by assumption)) (by assumption) rfl) rfl rfl ?_)); ((refine (x_tkg (bts 14 4095) 11 rfl (by kernel_rfl) rfl (Gh.le.refl _) sRr) (g_pne0 rfl rfl) rfl rfl ?_)); ((refine (x_tkg (bts 14 8191) 12 rfl (by kernel_rfl) rfl (Gh.le.refl _) sRr) (g_pickF rfl rfl rfl) rfl rfl ?_)); refine x_tks (t := tb) (fuel := 0) [13] (bts 14 16383) (by kernel_rfl) (by kernel_rfl) rfl rfl (Gh.le.refl _) sRr trivial ?_; refine x_done (by kernel_rfl) (k_bk ?_)))
      all_goals refine k_rr (vs := [_]) rfl ⟨rfl, trivial⟩ rfl (List.nil_sublist _) ⟨rfl, rfl, ?_⟩
      all_goals rfl
end Go.E
namespace Go.E
set_option maxRecDepth 20000
set_option maxHeartbeats 2000000
open Go.Proofs
variable {G : Gh}
theorem refN_sg {k : List UInt8} (h : kindOk k = true) : refN k = if sg k = [] ∧ bs k = [64] then some (nm k) else none := by
  have hat := bs_at h
  match k, h with
  | c :: r, h =>
    by_cases h1 : c.toNat = 91 ∨ c.toNat = 63
    · have hs : ¬ (sg (c :: r) = [] ∧ bs (c :: r) = [64]) := by
        rintro ⟨e, _⟩
        unfold sg at e
        rw [core, if_pos h1] at e
        have := core_len r
        have e2 := congrArg List.length e
        simp only [List.length_take, List.length_cons, List.length_nil] at e2
        omega
      rw [if_neg hs]
      simp only [refN]
      rw [if_neg (by omega)]
    · have hc : core (c :: r) = c :: r := by rw [core, if_neg h1]
      have hs : sg (c :: r) = [] := by unfold sg; rw [hc]; simp
      have hn : nm (c :: r) = (refN (c :: r)).getD [] := by unfold nm; rw [hc]
      rw [hc] at hat
      rw [hn, hs]
      cases hr : refN (c :: r) with
      | none => rw [hr] at hat; rw [if_neg]; rintro ⟨_, e⟩; have := hat.1 e; cases this
      | some n => rw [hr] at hat; rw [if_pos ⟨rfl, hat.2 rfl⟩]; rfl
theorem c_endsI {b : Nat} {qs : List TyP} {q0 : TyP} (h : ScI G b qs) (hw : ∀ q ∈ qs, TyW q.2) (hk : ∀ q ∈ qs, KindsOk (tyq qs) q.2) (hq : q0 ∈ qs) :
    PuG Tryz.prog 85 [Pt b 0, Pt q0.1 0] G (· = Bo (endsN (tyq qs) 9 q0.2)) := by
  obtain ⟨u, m, h1, h2, h3⟩ := h.at'
  refine p_enter [(0, _), (1, _)] Tryz.func85 (by kernel_rfl) Tryz.ntmps85 rfl rfl (by repeat' constructor) fun B hB => ?_
  repeat' (refine run (t := tb) 400 rfl trivial ?_)
  refine k_loop (ι := TyP × Nat) (fun i => i.1 ∈ qs ∧ i.2 ≤ 9 ∧ endsN (tyq qs) (9 - i.2) i.1.2 = endsN (tyq qs) 9 q0.2) (fun i => [(0, Pt b 0), (1, Pt i.1.1 0), (6, I i.2)]) (fun _ => G) (fun i => []) (fun i => 9 - i.2) (q0, 0) ?_ (by repeat' constructor) rfl sRr (fun i Hi => ?_)
  · exact ⟨hq, Nat.zero_le _, rfl⟩
  obtain ⟨⟨p, t⟩, i⟩ := i
  dsimp only at Hi ⊢
  obtain ⟨hqm, hi9, he⟩ := Hi
  have hW := hw _ hqm
  obtain ⟨fv, ln, hsg, hfv⟩ := h.ty _ hqm
  dsimp only at hW hsg hfv
  by_cases hlt : i < 9
  case neg =>
    have e0 : 9 - i = 0 := by omega
    rw [e0] at he
    repeat' (first | (refine run (t := tb) 400 rfl trivial ?_) | (refine k_ff rfl (dFf (by omega)) ?_))
    refine k_rr (vs := [_]) rfl ⟨rfl, trivial⟩ rfl (List.nil_sublist _) ⟨rfl, rfl, ?_⟩
    rw [← he]; rfl
  obtain ⟨j, hj⟩ : ∃ j, 9 - i = j + 1 := ⟨8 - i, by omega⟩
  rw [hj, endsN] at he
  by_cases hU : t.sort = 85
  case neg =>
    rw [if_pos hU] at he
    repeat' (first | (refine run (t := tb) 400 rfl trivial ?_) | (refine k_op rfl ?_; (refine v_op (g_ldS rfl rfl (by assumption) rfl rfl) rfl rfl ?_)) | (refine k_tt rfl (dTt (by omega)) ?_))
    refine k_rr (vs := [_]) rfl ⟨rfl, trivial⟩ rfl (List.nil_sublist _) ⟨rfl, rfl, ?_⟩
    rw [← he]; rfl
  rw [if_neg (by simp [hU])] at he
  have hne := hW.ne (by omega)
  have h0 : 0 < t.fields.length := List.length_pos_iff.2 hne
  obtain ⟨bf, of, cf, rfl, hsf⟩ := hfv.expl h0
  have hk0 : kind0 t = (nth t.fields 0).kind := by
    unfold kind0 nth
    cases t.fields with
    | nil => rfl
    | cons f r => rfl
  have hko := (hW.fld _ (nth_mem h0)).kind (by omega)
  have hrs := refN_sg hko
  have hhas : hasK (tyq qs) (nth t.fields 0).kind = true := by
    rcases hk _ hqm with h5 | h5
    · dsimp only at h5; omega
    · exact h5 0 h0
  rw [hk0] at he
  by_cases hs1 : sg (nth t.fields 0).kind = []
  case neg =>
    rw [if_neg fun h => hs1 h.1] at hrs
    unfold refT at he
    rw [hrs] at he
    repeat' (first | (refine run (t := tb) 400 rfl trivial ?_) | (refine k_op rfl ?_; first | refine v_op (g_ld rfl rfl rfl) rfl rfl ?_ | refine v_op (g_ldS rfl rfl (by assumption) rfl rfl) rfl rfl ?_ | (refine v_op (g_ldRA rfl rfl (by assumption) ?_ rfl rfl) rfl rfl ?_; (focus ((omega); done))) | (refine v_op (g_iaddrN rfl rfl (by omega)) rfl rfl ?_) | refine c_al rfl rfl fun _ => ?_ | refine c_stA rfl rfl rfl rfl rfl rfl ?_ | (refine v_op (g_pickT rfl rfl rfl) rfl rfl ?_)) | (refine k_gt rfl rfl (dTt ‹_›) ?_) | (refine k_tt rfl (by first | rfl | (refine decide_eq_true ?_; (omega))) ?_) | (refine k_ff rfl (dFf (by omega)) ?_))
    all_goals refine k_rr (vs := [_]) rfl ⟨rfl, trivial⟩ rfl (List.nil_sublist _) ⟨rfl, rfl, ?_⟩
    all_goals (rw [← he]; rfl)
  by_cases hs2 : bs (nth t.fields 0).kind = [64]
  case neg =>
    rw [if_neg fun h => hs2 h.2] at hrs
    unfold refT at he
    rw [hrs] at he
    repeat' (first | (refine run (t := tb) 400 rfl trivial ?_) | (refine k_op rfl ?_; first | refine v_op (g_ld rfl rfl rfl) rfl rfl ?_ | refine v_op (g_ldS rfl rfl (by assumption) rfl rfl) rfl rfl ?_ | (refine v_op (g_ldRA rfl rfl (by assumption) ?_ rfl rfl) rfl rfl ?_; (focus ((omega); done))) | (refine v_op (g_iaddrN rfl rfl (by omega)) rfl rfl ?_) | refine c_al rfl rfl fun _ => ?_ | refine c_stA rfl rfl rfl rfl rfl rfl ?_ | (refine v_op (g_pickF rfl rfl rfl) rfl rfl ?_)) | (refine k_gf rfl rfl ?_ ?_; (focus ((simp [*]; done); done))) | (refine k_tt rfl (by refine decide_eq_true ?_; first | assumption | omega) ?_) | (refine k_ff rfl (dFf (by omega)) ?_))
    all_goals refine k_rr (vs := [_]) rfl ⟨rfl, trivial⟩ rfl (List.nil_sublist _) ⟨rfl, rfl, ?_⟩
    all_goals (rw [← he]; rfl)
  rw [if_pos ⟨hs1, hs2⟩] at hrs
  unfold refT at he
  rw [hrs, Option.bind_some, ← findQ_ty] at he
  have hkv := kvF_find qs (nm (nth t.fields 0).kind)
  have hr2 : refN (core (nth t.fields 0).kind) = some (nm (nth t.fields 0).kind) := by
    have := (bs_at hko).1 hs2
    unfold nm
    cases hx : refN (core (nth t.fields 0).kind) with
    | none => rw [hx] at this; cases this
    | some n => rfl
  unfold hasK at hhas
  rw [hr2] at hhas
  dsimp only at hhas
  rw [← findQ_ty] at hhas
  cases hf : findQ qs (nm (nth t.fields 0).kind) with
  | none => rw [hf] at hhas; cases hhas
  | some q =>
    rw [hf] at hkv he
    dsimp only [Option.map_some] at hkv he
    have hb1 : ¬ sg (nth t.fields 0).kind ≠ [] := fun h => h hs1
    have hb2 : ¬ bs (nth t.fields 0).kind ≠ [64] := fun h => h hs2
    clear hs1 hs2 hrs hr2
    repeat' (first | (refine run (t := tb) 400 rfl ?_ ?_; (focus (repeat' (first | exact trivial | apply And.intro | omega)))) | (refine k_op rfl ?_; first | refine v_op (g_ld rfl rfl rfl) rfl rfl ?_ | refine v_op (g_ldS rfl rfl (by assumption) rfl rfl) rfl rfl ?_ | (refine v_op (g_ldRA rfl rfl (by assumption) ?_ rfl rfl) rfl rfl ?_; (focus ((omega); done))) | (refine v_op (g_iaddrN rfl rfl (by omega)) rfl rfl ?_) | refine c_al rfl rfl fun _ => ?_ | refine c_stA rfl rfl rfl rfl rfl rfl ?_ | (refine v_op (g_pickF rfl rfl rfl) rfl rfl ?_)) | (refine k_gf rfl rfl (dFf ‹_›) ?_) | (refine k_tt rfl (dTt (by omega)) ?_) | (refine k_ff rfl (by refine decide_eq_false ?_; first | assumption | omega) ?_) | (refine k_any (s_any (id := 8) _ (fun _ h => h) mixed ?_); refine x_tks (t := tb) (fuel := 4) [0, 1, 2, 4] (bts 8 23) (by kernel_rfl) (by kernel_rfl) rfl rfl (Gh.le.refl _) sRr trivial ?_; ((refine (x_tkg (bts 8 31) 3 rfl (by kernel_rfl) rfl (Gh.le.refl _) sRr) (g_ldS rfl rfl (by assumption) rfl rfl) rfl rfl ?_)); ((refine (x_tkg (bts 8 63) 5 rfl (by kernel_rfl) rfl (Gh.le.refl _) sRr) (g_ld rfl rfl rfl) rfl rfl ?_)); ((refine (x_tkg (bts 8 127) 6 rfl (by kernel_rfl) rfl (Gh.le.refl _) sRr) (g_lookupX rfl rfl (map_G (by assumption)) (by assumption) rfl) rfl rfl ?_)); refine x_tks (t := tb) (fuel := 0) [7] (bts 8 255) (by kernel_rfl) (by kernel_rfl) rfl rfl (Gh.le.refl _) sRr trivial ?_; refine x_done (by kernel_rfl) (k_bk ?_)))
    refine k_rd (q, i + 1) ⟨findQ_mem hf, by dsimp only; omega, ?_⟩ (by dsimp only; omega) (by repeat' constructor) rfl (by repeat (exact List.nil_sublist _))
    dsimp only
    rw [show 9 - (i + 1) = j by omega]
    exact he
end Go.E
namespace Go.E
set_option maxRecDepth 20000
set_option maxHeartbeats 2000000
structure Rdg (s : List UInt8) (ls : List (List UInt8)) (ts : List Ty) (t : List UInt8) : Prop where
  cutE : cut 10 s = ls ++ cut 10 t
  tyE : typesOf ls = some ts
theorem Rdg.start (s : List UInt8) : Rdg s [] [] s := ⟨rfl, rfl⟩
theorem Rdg.len {s : List UInt8} {ls : List (List UInt8)} {ts : List Ty} {t : List UInt8} (h : Rdg s ls ts t) : ts.length = ls.length := (typesOf_w h.tyE).2
theorem cut_line {t line rest : List UInt8} (h : cut1 10 t = (line, rest, true)) : cut 10 t = line :: cut 10 rest := by rw [cut_cut1, h]; rfl
theorem Rdg.step {s : List UInt8} {ls : List (List UInt8)} {ts : List Ty} {t line rest : List UInt8} {x : Ty} (h : Rdg s ls ts t) (hc : cut1 10 t = (line, rest, true)) (hx : tyOf line = some x) : Rdg s (ls ++ [line]) (ts ++ [x]) rest :=
  ⟨by rw [h.cutE, cut_line hc]; simp, by rw [typesOf_snoc h.tyE, hx]; rfl⟩
theorem Rdg.fin {s : List UInt8} {ls : List (List UInt8)} {ts : List Ty} (h : Rdg s ls ts []) (hl : s.length ≤ 400) (h8 : ts.length ≤ 8) : schemaOf s = if ValidT ts then some ts else none := by
  have hlen := h.len
  have e : cut 10 s = ls ++ [[]] := h.cutE
  unfold schemaOf
  rw [e, if_pos ⟨hl, by simp; omega, by simp⟩, List.dropLast_concat, h.tyE]
theorem schema_len {s : List UInt8} (h : ¬ s.length ≤ 400) : schemaOf s = none := by
  unfold schemaOf
  exact if_neg fun h2 => h h2.1
theorem Rdg.noend {s : List UInt8} {ls : List (List UInt8)} {ts : List Ty} {t : List UInt8} (h : Rdg s ls ts t) (ht : t ≠ []) (hc : (cut1 10 t).2.2 = false) : schemaOf s = none := by
  have e : cut 10 s = ls ++ [t] := by rw [h.cutE, cut_cut1, hc]; rfl
  unfold schemaOf
  rw [e, if_neg]
  rintro ⟨_, _, h3⟩
  simp at h3
  exact ht h3
theorem Rdg.many {s : List UInt8} {ls : List (List UInt8)} {ts : List Ty} {t line rest : List UInt8} (h : Rdg s ls ts t) (hc : cut1 10 t = (line, rest, true)) (h8 : ts.length = 8) : schemaOf s = none := by
  have hlen := h.len
  have hp := cut_pos (k := 10) (s := rest)
  unfold schemaOf
  rw [h.cutE, cut_line hc, if_neg]
  rintro ⟨_, h3, _⟩
  simp at h3
  omega
theorem drop_last {ls : List (List UInt8)} {line rest : List UInt8} : (ls ++ line :: cut 10 rest).dropLast = (ls ++ [line]) ++ (cut 10 rest).dropLast := by
  have hp := cut_pos (k := 10) (s := rest)
  have hne : cut 10 rest ≠ [] := fun e => by rw [e] at hp; simp at hp
  rw [List.dropLast_append_of_ne_nil (by simp), List.dropLast_cons_of_ne_nil hne]; simp
theorem Rdg.bad {s : List UInt8} {ls : List (List UInt8)} {ts : List Ty} {t line rest : List UInt8} (h : Rdg s ls ts t) (hc : cut1 10 t = (line, rest, true)) (hx : tyOf line = none) : schemaOf s = none := by
  have hn : typesOf (ls ++ [line]) = none := by rw [typesOf_snoc h.tyE, hx]; rfl
  unfold schemaOf
  split
  · rw [h.cutE, cut_line hc, drop_last, typesOf_app_none hn]
  · rfl
theorem typesOf_pre : ∀ {xs ys : List (List UInt8)} {ts us : List Ty}, typesOf xs = some ts → typesOf (xs ++ ys) = some us → ∃ vs, us = ts ++ vs
  | [], ys, ts, us, h, h2 => by simp only [typesOf, Option.some.injEq] at h; subst h; exact ⟨us, rfl⟩
  | x :: xs, ys, ts, us, h, h2 => by
    unfold typesOf at h
    rw [List.cons_append, typesOf] at h2
    cases hx : tyOf x with
    | none => rw [hx] at h; cases h
    | some t =>
      rw [hx] at h h2
      dsimp only at h h2
      cases hr : typesOf xs with
      | none => rw [hr] at h; cases h
      | some ws =>
        rw [hr] at h
        simp only [Option.map_some, Option.some.injEq] at h; subst h
        cases hq : typesOf (xs ++ ys) with
        | none => rw [hq] at h2; cases h2
        | some zs =>
          rw [hq] at h2
          simp only [Option.map_some, Option.some.injEq] at h2; subst h2
          obtain ⟨vs, rfl⟩ := typesOf_pre hr hq
          exact ⟨vs, rfl⟩
theorem nth_app {α : Type} [Inhabited α] {xs ys : List α} {i : Nat} (h : i < xs.length) : nth (xs ++ ys) i = nth xs i := by
  rw [nth_eq h, nth_eq (by simp; omega), List.getElem_append_left h]
theorem Rdg.dup {s : List UInt8} {ls : List (List UInt8)} {ts : List Ty} {t line rest : List UInt8} {x : Ty} (h : Rdg s ls ts t) (hc : cut1 10 t = (line, rest, true)) (hx : tyOf line = some x) (i : Nat) (hi : i < ts.length) (hd : (nth ts i).name = x.name) : schemaOf s = none := by
  have h2 := h.step hc hx
  unfold schemaOf
  split
  · rw [h.cutE, cut_line hc, drop_last]
    cases hr : typesOf (ls ++ [line] ++ (cut 10 rest).dropLast) with
    | none => rfl
    | some us =>
      obtain ⟨vs, rfl⟩ := typesOf_pre h2.tyE hr
      dsimp only
      rw [if_neg]
      intro hv
      have h3 := (hv.1 ts.length (by simp)).1 i hi
      have e1 : nth (ts ++ [x] ++ vs) i = nth ts i := by rw [nth_app (by simp; omega), nth_app hi]
      have e2 : nth (ts ++ [x] ++ vs) ts.length = x := by rw [nth_app (by simp), nth_eq (by simp)]; simp
      rw [e1, e2] at h3
      exact h3 hd
  · rfl
end Go.E
