/- Contracts and plain laws that the statement rests on, part 6. Conditions: as each says. -/
import Derived.Test.YtcnhfhmaihameaaGreatDoorQ5
set_option linter.unusedVariables false
set_option linter.unusedSimpArgs false
namespace Go.E
set_option maxRecDepth 20000
set_option maxHeartbeats 2000000
open Go.Proofs
variable {G : Gh}
theorem c_nanI {n : Int} : PuG Tryz.prog 70 [I n] G (· = Bo false) := by
  refine p_enter [(0, _)] Tryz.func70 (by kernel_rfl) Tryz.ntmps70 rfl rfl (by repeat' constructor) fun B hB => ?_
  repeat' (refine run (t := tb) 400 rfl trivial ?_)
  refine k_rr (vs := [_]) rfl ⟨rfl, trivial⟩ rfl (List.nil_sublist _) ⟨rfl, rfl, ?_⟩
  rw [oneOf_one]; simp
theorem c_nanS {s : List UInt8} : PuG Tryz.prog 71 [S s] G (· = Bo false) := by
  refine p_enter [(0, _)] Tryz.func71 (by kernel_rfl) Tryz.ntmps71 rfl rfl (by repeat' constructor) fun B hB => ?_
  repeat' (refine run (t := tb) 400 rfl trivial ?_)
  refine k_rr (vs := [_]) rfl ⟨rfl, trivial⟩ rfl (List.nil_sublist _) ⟨rfl, rfl, ?_⟩
  rw [oneOf_one]; simp
theorem c_cmpI {n m : Int} : PuG Tryz.prog 46 [I n, I m] G (· = I (sgn n m)) := by
  unfold sgn
  rcases Int.lt_trichotomy n m with h | h | h
  · rw [if_pos h]
    refine p_enter [(0, _), (1, _)] Tryz.func46 (by kernel_rfl) Tryz.ntmps46 rfl rfl (by repeat' constructor) fun B hB => ?_
    repeat' (first | (refine run (t := tb) 400 rfl trivial ?_) | (refine k_op rfl ?_; (refine c_rt rfl rfl rfl c_nanI rfl ?_)) | (refine k_tt rfl (dTt ‹_›) ?_) | (refine k_ff rfl rfl ?_))
    refine k_rr (vs := [_]) rfl ⟨rfl, trivial⟩ rfl (List.nil_sublist _) ⟨rfl, rfl, ?_⟩
    rfl
  · rw [if_neg (by omega), if_neg (by omega)]
    refine p_enter [(0, _), (1, _)] Tryz.func46 (by kernel_rfl) Tryz.ntmps46 rfl rfl (by repeat' constructor) fun B hB => ?_
    repeat' (first | (refine run (t := tb) 400 rfl trivial ?_) | (refine k_op rfl ?_; (refine c_rt rfl rfl rfl c_nanI rfl ?_)) | (refine k_ff rfl (by first | rfl | (refine decide_eq_false ?_; (omega))) ?_))
    refine k_rr (vs := [_]) rfl ⟨rfl, trivial⟩ rfl (List.nil_sublist _) ⟨rfl, rfl, ?_⟩
    rfl
  · rw [if_neg (by omega), if_pos h]
    refine p_enter [(0, _), (1, _)] Tryz.func46 (by kernel_rfl) Tryz.ntmps46 rfl rfl (by repeat' constructor) fun B hB => ?_
    repeat' (first | (refine run (t := tb) 400 rfl trivial ?_) | (refine k_op rfl ?_; (refine c_rt rfl rfl rfl c_nanI rfl ?_)) | (refine k_tt rfl (dTt ‹_›) ?_) | (refine k_ff rfl (by first | rfl | (refine decide_eq_false ?_; (omega))) ?_))
    refine k_rr (vs := [_]) rfl ⟨rfl, trivial⟩ rfl (List.nil_sublist _) ⟨rfl, rfl, ?_⟩
    rfl
theorem bl_tot : ∀ {x y : List UInt8}, Op.bytesLess x y = false → Op.bytesLess y x = false → x = y
  | [], [], _, _ => rfl
  | [], _ :: _, h, _ => by cases h
  | _ :: _, [], _, h => by cases h
  | a :: x, b :: y, h, h' => by
    unfold Op.bytesLess at h h'
    simp only [Bool.or_eq_false_iff, decide_eq_false_iff_not, Bool.and_eq_false_iff, beq_eq_false_iff_ne, ne_eq] at h h'
    have hab : a = b := by
      refine UInt8.toNat_inj.1 ?_
      have h1 := h.1
      have h2 := h'.1
      rw [UInt8.lt_iff_toNat_lt] at h1 h2
      omega
    subst hab
    have h1 : Op.bytesLess x y = false := h.2.resolve_left (by simp)
    have h2 : Op.bytesLess y x = false := h'.2.resolve_left (by simp)
    rw [bl_tot h1 h2]
theorem c_cmpS {s t : List UInt8} : PuG Tryz.prog 47 [S s, S t] G (· = I (cmpB s t)) := by
  unfold cmpB
  cases h1 : Op.bytesLess s t
  · cases h2 : Op.bytesLess t s
    · obtain rfl := bl_tot h1 h2
      have h3 : (!(Op.bytesLess s s || decide (s = s))) = false := by simp
      refine p_enter [(0, _), (1, _)] Tryz.func47 (by kernel_rfl) Tryz.ntmps47 rfl rfl (by repeat' constructor) fun B hB => ?_
      repeat' (first | (refine run (t := tb) 400 rfl trivial ?_) | (refine k_op rfl ?_; (refine c_rt rfl rfl rfl c_nanS rfl ?_)) | (refine k_ff rfl (by first | rfl | assumption) ?_))
      all_goals refine k_rr (vs := [_]) rfl ⟨rfl, trivial⟩ rfl (List.nil_sublist _) ⟨rfl, rfl, ?_⟩
      all_goals rfl
    · have h3 : (!(Op.bytesLess s t || decide (s = t))) = true := by
        have : ¬ s = t := by rintro rfl; rw [h1] at h2; cases h2
        simp [h1, this]
      refine p_enter [(0, _), (1, _)] Tryz.func47 (by kernel_rfl) Tryz.ntmps47 rfl rfl (by repeat' constructor) fun B hB => ?_
      repeat' (first | (refine run (t := tb) 400 rfl trivial ?_) | (refine k_op rfl ?_; (refine c_rt rfl rfl rfl c_nanS rfl ?_)) | (refine k_tt rfl ‹_› ?_) | (refine k_ff rfl (by first | rfl | assumption) ?_))
      all_goals refine k_rr (vs := [_]) rfl ⟨rfl, trivial⟩ rfl (List.nil_sublist _) ⟨rfl, rfl, ?_⟩
      all_goals rfl
  · refine p_enter [(0, _), (1, _)] Tryz.func47 (by kernel_rfl) Tryz.ntmps47 rfl rfl (by repeat' constructor) fun B hB => ?_
    repeat' (first | (refine run (t := tb) 400 rfl trivial ?_) | (refine k_op rfl ?_; (refine c_rt rfl rfl rfl c_nanS rfl ?_)) | (refine k_tt rfl ‹_› ?_) | (refine k_ff rfl rfl ?_))
    all_goals refine k_rr (vs := [_]) rfl ⟨rfl, trivial⟩ rfl (List.nil_sublist _) ⟨rfl, rfl, ?_⟩
    all_goals rfl
theorem cmps_step {ks us : List V} {i : Nat} (h1 : i < ks.length) (h2 : i < us.length) : V.cmps (ks.drop i) (us.drop i) = if V.cmp (nth ks i) (nth us i) ≠ 0 then V.cmp (nth ks i) (nth us i) else V.cmps (ks.drop (i + 1)) (us.drop (i + 1)) := by
  rw [List.drop_eq_getElem_cons h1, List.drop_eq_getElem_cons h2, V.cmps, nth_eq h1, nth_eq h2]
theorem cmps_end {ks us : List V} {i : Nat} (h1 : i < ks.length) (h2 : ¬ i < us.length) : V.cmps (ks.drop i) (us.drop i) = 1 := by
  rw [List.drop_eq_getElem_cons h1, (show us.drop i = [] from List.drop_eq_nil_of_le (by omega)), V.cmps]
theorem cmps_nil {ks us : List V} {i : Nat} (h1 : i = ks.length) : V.cmps (ks.drop i) (us.drop i) = if i < us.length then -1 else 0 := by
  rw [(show ks.drop i = [] from List.drop_eq_nil_of_le (by omega)), V.cmps.eq_1]
  by_cases h : i < us.length
  · rw [if_neg (by rw [List.drop_eq_nil_iff]; omega), if_pos h]
  · rw [if_pos (by rw [List.drop_eq_nil_iff]; omega), if_neg h]
abbrev fCF : FuncId := 48
theorem c_cmpF {ks us : List V} {cs ds : List VC} {a b : Option Addr} {k l : Nat} (hk : ks.length ≤ 100000) (hu : us.length ≤ 100000) (hcl : cs.length = ks.length) (hdl : ds.length = us.length)
    (hs1 : SlV G (.slice a ks.length k) 4 cs.length (rows vcF cs)) (hs2 : SlV G (.slice b us.length l) 4 ds.length (rows vcF ds))
    (ih : ∀ i, i < ks.length → i < us.length → PuG Tryz.prog 23 [Ag (vcF (nth cs i)), Ag (vcF (nth ds i))] G (· = I (V.cmp (nth ks i) (nth us i)))) :
    PuG Tryz.prog fCF [.slice a ks.length k, .slice b us.length l, .func (.func 23) #[] #[]] G (· = I (V.cmps ks us)) := by
  refine p_enter [(0, _), (1, _), (2, _)] Tryz.func48 (by kernel_rfl) Tryz.ntmps48 rfl rfl (by repeat' constructor) fun B hB => ?_
  repeat' (first | (refine run (t := tb) 400 rfl trivial ?_) | (refine k_op rfl ?_; (refine v_op (g_lenL rfl) rfl rfl ?_)))
  refine k_loop (ι := Nat) (fun i => i ≤ ks.length ∧ V.cmps ks us = V.cmps (ks.drop i) (us.drop i)) (fun i => [(0, .slice a ks.length k), (1, .slice b us.length l), (2, .func (.func 23) #[] #[]), (11, .slice a ks.length k), (12, I ks.length), (13, I i)]) (fun _ => G) (fun i => []) (fun i => ks.length - i) 0 ?_ (by repeat' constructor) rfl sRr (fun i Hi => ?_)
  · exact ⟨Nat.zero_le _, rfl⟩
  obtain ⟨hi0, he⟩ := Hi
  by_cases hi : i < ks.length
  · obtain ⟨b1, o1, c1, e, hg1⟩ := hs1.expl (by omega)
    simp only [Value.slice.injEq] at e
    obtain ⟨rfl, -, rfl⟩ := e
    by_cases hj : i < us.length
    · have cx_cmp := ih i hi hj
      have hst := cmps_step hi hj
      obtain ⟨b2, o2, c2, e, hg2⟩ := hs2.expl (by omega)
      simp only [Value.slice.injEq] at e
      obtain ⟨rfl, -, rfl⟩ := e
      by_cases h0 : V.cmp (nth ks i) (nth us i) = 0
      · rw [if_neg (by simpa using h0)] at hst
        repeat' (first | (refine run (t := tb) 400 rfl trivial ?_) | (refine k_op rfl ?_; first | refine v_op (g_lenL rfl) rfl rfl ?_ | (refine v_op (g_iaddrN rfl rfl (by omega)) rfl rfl ?_) | (refine v_op (g_ldR rfl rfl (by assumption) ?_) rfl rfl ?_; (focus ((omega); done))) | refine v_op (g_ldA rfl rfl rfl rfl) rfl rfl ?_ | refine c_al rfl rfl fun _ => ?_ | refine c_stA rfl rfl rfl rfl rfl rfl ?_) | (refine k_tt rfl (dTt (by omega)) ?_) | (refine k_ff rfl (dFf (by omega)) ?_))
        refine k_op rfl ?_
        refine c_rt rfl rfl rfl cx_cmp rfl ?_
        repeat' (first | (refine run (t := tb) 400 rfl ?_ ?_; (focus (repeat' (first | exact trivial | apply And.intro | omega)))) | (refine k_ff rfl (dFf (by omega)) ?_))
        exact k_rd (i + 1) ⟨by omega, he.trans hst⟩ (by omega) (by repeat' constructor) rfl (by repeat (exact List.nil_sublist _))
      · rw [if_pos h0] at hst
        repeat' (first | (refine run (t := tb) 400 rfl trivial ?_) | (refine k_op rfl ?_; first | refine v_op (g_lenL rfl) rfl rfl ?_ | (refine v_op (g_iaddrN rfl rfl (by omega)) rfl rfl ?_) | (refine v_op (g_ldR rfl rfl (by assumption) ?_) rfl rfl ?_; (focus ((omega); done))) | refine v_op (g_ldA rfl rfl rfl rfl) rfl rfl ?_ | refine c_al rfl rfl fun _ => ?_ | refine c_stA rfl rfl rfl rfl rfl rfl ?_) | (refine k_tt rfl (dTt (by omega)) ?_) | (refine k_ff rfl (dFf (by omega)) ?_))
        refine k_op rfl ?_
        refine c_rt rfl rfl rfl cx_cmp rfl ?_
        repeat' (first | (refine run (t := tb) 400 rfl trivial ?_) | (refine k_tt rfl (dTt ‹_›) ?_))
        refine k_rr (vs := [_]) rfl ⟨rfl, trivial⟩ rfl (List.nil_sublist _) ⟨rfl, rfl, ?_⟩
        rw [oneOf_one, he, hst]
    · have hst := cmps_end hi hj
      repeat' (first | (refine run (t := tb) 400 rfl trivial ?_) | (refine k_op rfl ?_; first | refine v_op (g_lenL rfl) rfl rfl ?_ | (refine v_op (g_iaddrN rfl rfl (by omega)) rfl rfl ?_) | (refine v_op (g_ldR rfl rfl (by assumption) ?_) rfl rfl ?_; (focus ((omega); done))) | refine c_al rfl rfl fun _ => ?_ | refine c_stA rfl rfl rfl rfl rfl rfl ?_) | (refine k_tt rfl (dTt (by omega)) ?_))
      refine k_rr (vs := [_]) rfl ⟨rfl, trivial⟩ rfl (List.nil_sublist _) ⟨rfl, rfl, ?_⟩
      rw [oneOf_one, he, hst]
  · have hin : i = ks.length := by omega
    have hst := cmps_nil (us := us) hin
    by_cases hj : i < us.length
    · rw [if_pos hj] at hst
      repeat' (first | (refine run (t := tb) 400 rfl trivial ?_) | (refine k_op rfl ?_; (refine v_op (g_lenL rfl) rfl rfl ?_)) | (refine k_tt rfl (dTt (by omega)) ?_) | (refine k_ff rfl (dFf (by omega)) ?_))
      refine k_rr (vs := [_]) rfl ⟨rfl, trivial⟩ rfl (List.nil_sublist _) ⟨rfl, rfl, ?_⟩
      rw [oneOf_one, he, hst]
    · rw [if_neg hj] at hst
      repeat' (first | (refine run (t := tb) 400 rfl trivial ?_) | (refine k_op rfl ?_; (refine v_op (g_lenL rfl) rfl rfl ?_)) | (refine k_ff rfl (dFf (by omega)) ?_))
      refine k_rr (vs := [_]) rfl ⟨rfl, trivial⟩ rfl (List.nil_sublist _) ⟨rfl, rfl, ?_⟩
      rw [oneOf_one, he, hst]
theorem ck_inv {w : Nat} {x : List UInt8} {t : Int} {ks : List V} {u : V} (h : V.ck (.nd w x t ks) u) : w = u.what ∧ ((w = 85 ∨ w = 61) ∧ t ≠ u.tag ∨ V.cks ks u.kids) := by rw [V.ck] at h; exact h
theorem c_cmp_num {x y : List UInt8} {t t' p q : Int} {a b : Option Addr} {n m k l : Nat} (hx : x.length ≤ 100000 ∧ y.length ≤ 100000) (h1 : numOf x 999999 = some p) (h2 : numOf y 999999 = some q) : PuG Tryz.prog 23 [Ag [U8 (110 : Nat), S x, I t, .slice a n k], Ag [U8 (110 : Nat), S y, I t', .slice b m l]] G (· = I (sgn p q)) := by
  have hp : ∀ {x : List UInt8} {p : Int}, x.length ≤ 100000 → numOf x 999999 = some p → PuG Tryz.prog 41 [S x, I 999999] G (· = Tu [I p, Bo true]) := fun hl h => by
    refine (c_plainNumberB (G := G) (by omega)).mono ?_
    rintro v G' L' ⟨g1, g2, n, rfl, h4, _⟩
    exact ⟨g1, g2, by rw [h4 _ h, h]; rfl⟩
  have cx_pnum := hp hx.1 h1
  clear hp
  refine p_enter [(0, _), (1, _)] Tryz.func23 (by kernel_rfl) Tryz.ntmps23 rfl rfl (by repeat' constructor) fun B hB => ?_
  repeat' (first | (refine run (t := tb) 400 rfl trivial ?_) | (refine k_op rfl ?_; first | refine c_bx rfl rfl rfl fun _ => ?_ | refine v_op (g_ld rfl rfl rfl) rfl rfl ?_ | (refine c_rt rfl rfl rfl cx_pnum rfl ?_) | (refine c_pu rfl rfl rfl (c_plainNumber (by omega)) rfl ?_; rintro _ ⟨n, rfl, hnum⟩) | (refine c_rt rfl rfl rfl c_cmpI rfl ?_)) | (refine k_tt rfl rfl ?_))
  refine k_rr (vs := [_]) rfl ⟨rfl, trivial⟩ rfl (List.nil_sublist _) ⟨rfl, rfl, ?_⟩
  obtain rfl := hnum _ h2
  rfl
theorem c_cmp_txt {w : Nat} {x y : List UInt8} {t t' : Int} {a b : Option Addr} {n m k l : Nat} (h : w = 116 ∨ w = 102) : PuG Tryz.prog 23 [Ag [U8 (w : Nat), S x, I t, .slice a n k], Ag [U8 (w : Nat), S y, I t', .slice b m l]] G (· = I (cmpB x y)) := by
  rcases h with rfl | rfl
  all_goals
    refine p_enter [(0, _), (1, _)] Tryz.func23 (by kernel_rfl) Tryz.ntmps23 rfl rfl (by repeat' constructor) fun B hB => ?_
    repeat' (first | (refine run (t := tb) 400 rfl trivial ?_) | (refine k_op rfl ?_; first | refine c_bx rfl rfl rfl fun _ => ?_ | refine v_op (g_ld rfl rfl rfl) rfl rfl ?_ | (refine c_rt rfl rfl rfl c_cmpS rfl ?_)) | (refine k_tt rfl rfl ?_) | (refine k_ff rfl rfl ?_))
    refine k_rr (vs := [_]) rfl ⟨rfl, trivial⟩ rfl (List.nil_sublist _) ⟨rfl, rfl, ?_⟩
    rfl
theorem c_cmp_tag {w : Nat} {x y : List UInt8} {t t' : Int} {a b : Option Addr} {n m k l : Nat} (h : w = 69 ∨ (w = 85 ∨ w = 61) ∧ t ≠ t') : PuG Tryz.prog 23 [Ag [U8 (w : Nat), S x, I t, .slice a n k], Ag [U8 (w : Nat), S y, I t', .slice b m l]] G (· = I (sgn t t')) := by
  rcases h with rfl | ⟨rfl | rfl, h⟩
  all_goals
    refine p_enter [(0, _), (1, _)] Tryz.func23 (by kernel_rfl) Tryz.ntmps23 rfl rfl (by repeat' constructor) fun B hB => ?_
    repeat' (first | (refine run (t := tb) 400 rfl trivial ?_) | (refine k_op rfl ?_; first | refine c_bx rfl rfl rfl fun _ => ?_ | refine v_op (g_ld rfl rfl rfl) rfl rfl ?_ | (refine c_rt rfl rfl rfl c_cmpI rfl ?_)) | (refine k_tt rfl (by first | rfl | (refine decide_eq_true ?_; (assumption))) ?_) | (refine k_ff rfl rfl ?_))
    refine k_rr (vs := [_]) rfl ⟨rfl, trivial⟩ rfl (List.nil_sublist _) ⟨rfl, rfl, ?_⟩
    rfl
theorem c_cmp_kid {w : Nat} {x y : List UInt8} {t t' z : Int} {a b : Option Addr} {n m k l : Nat} (h : (w = 91 ∨ w = 63 ∨ w = 82) ∨ (w = 85 ∨ w = 61) ∧ t = t') (cx_cf : PuG Tryz.prog fCF [.slice a n k, .slice b m l, .func (.func 23) #[] #[]] G (· = I z)) :
    PuG Tryz.prog 23 [Ag [U8 (w : Nat), S x, I t, .slice a n k], Ag [U8 (w : Nat), S y, I t', .slice b m l]] G (· = I z) := by
  rcases h with (rfl | rfl | rfl) | ⟨rfl | rfl, rfl⟩
  all_goals
    refine p_enter [(0, _), (1, _)] Tryz.func23 (by kernel_rfl) Tryz.ntmps23 rfl rfl (by repeat' constructor) fun B hB => ?_
    repeat' (first | (refine run (t := tb) 400 rfl trivial ?_) | (refine k_op rfl ?_; first | refine c_bx rfl rfl rfl fun _ => ?_ | refine v_op (g_ld rfl rfl rfl) rfl rfl ?_ | (refine c_rt rfl rfl rfl cx_cf rfl ?_)) | (refine k_tt rfl rfl ?_) | (refine k_ff rfl (by first | rfl | (refine decide_eq_false ?_; (omega))) ?_))
    refine k_rr (vs := [_]) rfl ⟨rfl, trivial⟩ rfl (List.nil_sublist _) ⟨rfl, rfl, ?_⟩
    rfl
theorem num_wf {x : List UInt8} {t : Int} {ks : List V} (h : V.wf (.nd 110 x t ks)) : ∃ m : Int, numOf x 999999 = some m := by
  rw [V.wf] at h
  have h1 := h.1
  unfold wfW at h1
  simp only [Nat.reduceEqDiff, false_and, or_false, true_and] at h1
  obtain ⟨_, _, m, h2, h3, _, h4⟩ := h1
  exact ⟨m, h4⟩
theorem c_cmp : ∀ (n : Nat) {v u : V} {c d : VC}, v.tot ≤ n → v.tot ≤ 100000 → u.tot ≤ 100000 → v.wf → u.wf → V.ck v u → V.rep G v c → V.rep G u d → PuG Tryz.prog 23 [Ag (vcF c), Ag (vcF d)] G (· = I (v.cmp u)) := by
  intro n
  induction n with
  | zero => intro v u c d h1; have := tot_pos v; omega
  | succ n ih =>
    intro v u c d h1 h2 h3 hv hu hck hr hs
    obtain ⟨w, x, t, ks⟩ := v
    obtain ⟨w', y, t', us⟩ := u
    obtain ⟨hw, hck⟩ := ck_inv hck
    simp only [V.what] at hw
    subst hw
    simp only [V.tag, V.kids] at hck
    rw [nd_tot] at h1 h2 h3
    obtain ⟨a, k, cs, rfl, _, _, _, hcl, hsl, hks⟩ := rep_inv hr
    obtain ⟨b, l, ds, rfl, _, _, _, hdl, hsm, hus⟩ := rep_inv hs
    have hkl := tots_len ks
    have hul := tots_len us
    simp only [vcF, VC.sl]
    have hvv := hv
    have huu := hu
    rw [V.wf] at hv hu
    have hW := hv.1
    by_cases h110 : w = 110
    · subst h110
      obtain ⟨p, hp⟩ := num_wf hvv
      obtain ⟨q, hq⟩ := num_wf huu
      have e : V.cmp (.nd 110 x t ks) (.nd 110 y t' us) = sgn p q := by rw [V.cmp, if_pos rfl, hp, V.text, hq]; rfl
      rw [e]
      exact c_cmp_num (by omega) hp hq
    by_cases htx : w = 116 ∨ w = 102
    · have e : V.cmp (.nd w x t ks) (.nd w y t' us) = cmpB x y := by rw [V.cmp, if_neg h110, if_pos htx]; rfl
      rw [e]; exact c_cmp_txt htx
    by_cases h69 : w = 69
    · have e : V.cmp (.nd w x t ks) (.nd w y t' us) = sgn t t' := by rw [V.cmp, if_neg h110, if_neg htx, if_pos h69]; rfl
      rw [e]; exact c_cmp_tag (.inl h69)
    by_cases htg : (w = 85 ∨ w = 61) ∧ t ≠ t'
    · have e : V.cmp (.nd w x t ks) (.nd w y t' us) = sgn t t' := by rw [V.cmp, if_neg h110, if_neg htx, if_neg h69]; exact if_pos htg
      rw [e]; exact c_cmp_tag (.inr htg)
    have e : V.cmp (.nd w x t ks) (.nd w y t' us) = V.cmps ks us := by rw [V.cmp, if_neg h110, if_neg htx, if_neg h69]; exact if_neg htg
    rw [e]
    have hcks := hck.resolve_left htg
    refine c_cmp_kid ?_ (c_cmpF (by omega) (by omega) hcl hdl hsl hsm fun i hi hj => ?_)
    · unfold wfW at hW
      by_cases h5 : w = 85 ∨ w = 61
      · exact .inr ⟨h5, by by_cases e : t = t'; exact e; exact absurd ⟨h5, e⟩ htg⟩
      · exact .inl (by omega)
    · have h4 := tot_nth hi
      have h5 := tot_nth hj
      exact ih (by omega) (by omega) (by omega) (wf_nth hv.2 hi) (wf_nth hu.2 hj) (cks_nth hcks i hi hj) (reps_nth hks i hi) (reps_nth hus i hj)
end Go.E
namespace Go.E
set_option maxRecDepth 20000
set_option maxHeartbeats 2000000
open Go.Proofs
variable {G : Gh}
theorem wf_kids {w : Nat} {x : List UInt8} {t : Int} {ks : List V} (h : V.wf (.nd w x t ks)) : V.wfs ks := by rw [V.wf] at h; exact h.2
theorem slv_one {b : Nat} {v : Value} (h : Seg G b 0 [v]) : SlV G (.slice (some ⟨b, 0, none⟩) 1 1) 1 1 [v] := ⟨rfl, .inr ⟨b, 0, 1, rfl, Nat.le_refl _, h⟩⟩
end Go.E
namespace Go.E
set_option maxRecDepth 20000
set_option maxHeartbeats 2000000
open Go.Proofs
variable {G : Gh}
theorem c_l13Sign {n m : Int} : PuG Tryz.prog 44 [I n, I m] G (· = I (sgn n m)) := by
  unfold sgn
  rcases Int.lt_trichotomy n m with h | h | h
  · rw [if_pos h]
    refine p_enter [(0, _), (1, _)] Tryz.func44 (by kernel_rfl) Tryz.ntmps44 rfl rfl (by repeat' constructor) fun B hB => ?_
    repeat' (first | (refine run (t := tb) 400 rfl trivial ?_) | (refine k_tt rfl (dTt ‹_›) ?_))
    refine k_rr (vs := [_]) rfl ⟨rfl, trivial⟩ rfl (List.nil_sublist _) ⟨rfl, rfl, ?_⟩
    rfl
  · rw [if_neg (by omega), if_neg (by omega)]
    refine p_enter [(0, _), (1, _)] Tryz.func44 (by kernel_rfl) Tryz.ntmps44 rfl rfl (by repeat' constructor) fun B hB => ?_
    repeat' (first | (refine run (t := tb) 400 rfl trivial ?_) | (refine k_ff rfl (dFf (by omega)) ?_))
    refine k_rr (vs := [_]) rfl ⟨rfl, trivial⟩ rfl (List.nil_sublist _) ⟨rfl, rfl, ?_⟩
    rfl
  · rw [if_neg (by omega), if_pos h]
    refine p_enter [(0, _), (1, _)] Tryz.func44 (by kernel_rfl) Tryz.ntmps44 rfl rfl (by repeat' constructor) fun B hB => ?_
    repeat' (first | (refine run (t := tb) 400 rfl trivial ?_) | (refine k_tt rfl (dTt ‹_›) ?_) | (refine k_ff rfl (dFf (by omega)) ?_))
    refine k_rr (vs := [_]) rfl ⟨rfl, trivial⟩ rfl (List.nil_sublist _) ⟨rfl, rfl, ?_⟩
    rfl
theorem c_l13T {s t x y : List UInt8} (hs : (∃ c r, s = c :: r ∧ c.toNat ≠ 39 ∧ s = x ∧ t = y) ∨ (s = 39 :: (x ++ [39]) ∧ t = 39 :: (y ++ [39]))) (hx : x.length ≤ 100000 ∧ y.length ≤ 100000) : PuG Tryz.prog 45 [S s, S t] G (· = I (cmpB x y)) := by
  unfold cmpB
  have h3 : Op.bytesLess x y = false → (!(Op.bytesLess x y || decide (x = y))) = Op.bytesLess y x := fun h1 => by
    cases h2 : Op.bytesLess y x
    · obtain rfl := bl_tot h1 h2; simp
    · have : ¬ x = y := by rintro rfl; rw [h1] at h2; cases h2
      simp [h1, this]
  rcases hs with ⟨c, r, rfl, hc, rfl, rfl⟩ | ⟨rfl, rfl⟩
  · have hb : bt (c :: r) (Int.toNat 0) ≠ 39 := by rw [show Int.toNat 0 = 0 from rfl, bt_zero]; exact hc
    have hl : (c :: r).length = r.length + 1 := rfl
    cases h1 : Op.bytesLess (c :: r) t
    · have h4 := h3 h1
      cases h2 : Op.bytesLess t (c :: r)
      all_goals
        rw [h2] at h4
        clear h3
        refine p_enter [(0, _), (1, _)] Tryz.func45 (by kernel_rfl) Tryz.ntmps45 rfl rfl (by repeat' constructor) fun B hB => ?_
        repeat' (first | (refine run (t := tb) 400 rfl ?_ ?_; (focus (repeat' (first | exact trivial | apply And.intro | omega)))) | (refine k_op rfl ?_; (refine v_op (g_pickT rfl rfl rfl) rfl rfl ?_)) | (refine k_gt rfl rfl (dTt (by omega)) ?_) | (refine k_tt rfl ‹_› ?_) | (refine k_ff rfl (by first | assumption | (refine decide_eq_false ?_; (omega))) ?_))
        all_goals refine k_rr (vs := [_]) rfl ⟨rfl, trivial⟩ rfl (List.nil_sublist _) ⟨rfl, rfl, ?_⟩
        all_goals rfl
    · clear h3
      refine p_enter [(0, _), (1, _)] Tryz.func45 (by kernel_rfl) Tryz.ntmps45 rfl rfl (by repeat' constructor) fun B hB => ?_
      repeat' (first | (refine run (t := tb) 400 rfl ?_ ?_; (focus (repeat' (first | exact trivial | apply And.intro | omega)))) | (refine k_op rfl ?_; (refine v_op (g_pickT rfl rfl rfl) rfl rfl ?_)) | (refine k_gt rfl rfl (dTt (by omega)) ?_) | (refine k_tt rfl ‹_› ?_) | (refine k_ff rfl (dFf (by omega)) ?_))
      all_goals refine k_rr (vs := [_]) rfl ⟨rfl, trivial⟩ rfl (List.nil_sublist _) ⟨rfl, rfl, ?_⟩
      all_goals rfl
  · have hb : bt (39 :: (x ++ [39])) (Int.toNat 0) = 39 := bt_zero _ _
    have hlx : (39 :: (x ++ [39])).length = x.length + 2 := by simp
    have hly : (39 :: (y ++ [39])).length = y.length + 2 := by simp
    have hdt : ∀ z : List UInt8, ((39 :: (z ++ [39])).take ((((39 :: (z ++ [39])).length : Nat) : Int) - 1).toNat).drop (Int.toNat 1) = z := fun z => by
      rw [show ((((39 :: (z ++ [39])).length : Nat) : Int) - 1).toNat = z.length + 1 by (simp; done), List.take_succ_cons]
      show List.drop 1 _ = z
      rw [List.drop_succ_cons, List.drop_zero, List.take_left]
    have hdx := hdt x
    have hdy := hdt y
    clear hdt
    generalize 39 :: (x ++ [39]) = s at *
    generalize 39 :: (y ++ [39]) = t at *
    refine p_enter [(0, _), (1, _)] Tryz.func45 (by kernel_rfl) Tryz.ntmps45 rfl rfl (by repeat' constructor) fun B hB => ?_
    repeat' (first | (refine run (t := tb) 400 rfl ?_ ?_; (focus (repeat' (first | exact trivial | apply And.intro | omega)))) | (refine k_op rfl ?_; (refine v_op (g_pickT rfl rfl rfl) rfl rfl ?_)) | (refine k_gt rfl rfl (dTt (by omega)) ?_) | (refine k_tt rfl (dTt (by omega)) ?_) | refine k_cd rfl (fun _ => ?_) (fun _ => ?_))
    all_goals refine k_rr (vs := [_]) rfl ⟨rfl, trivial⟩ rfl (List.nil_sublist _) ⟨rfl, rfl, ?_⟩
    all_goals (rw [hdx, hdy] at *; rw [oneOf_one]; congr 1; simp_all)
theorem c_lessL {c0 : UInt8} {r kb txb : List UInt8} {a b n m : Nat} {KS US : List V} {bs cs : List Nat} {ak bk : Option Addr} {ck dk : Nat} (hc : c0.toNat = 91 ∨ c0.toNat = 63) (hn : n = KS.length) (hm : m = US.length) (hn9 : n ≤ 100000 ∧ m ≤ 100000)
    (ha : Seg G a 0 [S (c0 :: r), S [], nilS, .slice ak n ck]) (hb : Seg G b 0 [S kb, S txb, nilS, .slice bk m dk]) (h1 : SlV G (.slice ak n ck) 1 n (rows ptR bs)) (h2 : SlV G (.slice bk m dk) 1 m (rows ptR cs)) (hbl : bs.length = n) (hcl : cs.length = m)
    (ih : ∀ i, i < n → i < m → PuG Tryz.prog 22 [Pt (nth bs i) 0, Pt (nth cs i) 0] G (· = I (V.cmp (nth KS i) (nth US i)))) :
    PuG Tryz.prog 22 [Pt a 0, Pt b 0] G (· = I (V.cmps KS US)) := by
  have hk0 : bt (c0 :: r) (Int.toNat 0) = 91 ∨ bt (c0 :: r) (Int.toNat 0) = 63 := hc
  have hlx : (c0 :: r).length = r.length + 1 := rfl
  generalize c0 :: r = kk at *
  refine p_enter [(0, _), (1, _)] Tryz.func22 (by kernel_rfl) Tryz.ntmps22 rfl rfl (by repeat' constructor) fun B hB => ?_
  repeat' (first | (refine run (t := tb) 400 rfl ?_ ?_; (focus (repeat' (first | exact trivial | apply And.intro | omega)))) | (refine k_op rfl ?_; (refine v_op (g_ldS rfl rfl (by assumption) rfl rfl) rfl rfl ?_)) | (refine k_ff rfl (dFf (by omega)) ?_))
  refine k_loop (ι := Nat) (fun i => i ≤ n ∧ i ≤ m ∧ V.cmps KS US = V.cmps (KS.drop i) (US.drop i)) (fun i => [(0, Pt a 0), (1, Pt b 0), (9, I i)]) (fun _ => G) (fun i => []) (fun i => n - i) 0 ?_ (by repeat' constructor) rfl sRr (fun i Hi => ?_)
  · exact ⟨Nat.zero_le _, Nat.zero_le _, rfl⟩
  obtain ⟨hi0, hj0, he⟩ := Hi
  by_cases hi : i < n
  · by_cases hj : i < m
    · have cx_less := ih i hi hj
      have hst := cmps_step (ks := KS) (us := US) (i := i) (by omega) (by omega)
      have hx1 : nth bs i = nth bs i := rfl
      have hx2 : nth cs i = nth cs i := rfl
      obtain ⟨b1, o1, c1, e, hs1⟩ := h1.expl (by omega)
      simp only [Value.slice.injEq] at e
      obtain ⟨rfl, -, rfl⟩ := e
      obtain ⟨b2, o2, c2, e, hs2⟩ := h2.expl (by omega)
      simp only [Value.slice.injEq] at e
      obtain ⟨rfl, -, rfl⟩ := e
      by_cases h0 : V.cmp (nth KS i) (nth US i) = 0
      · rw [if_neg (by simpa using h0)] at hst
        repeat' (first | (refine run (t := tb) 400 rfl ?_ ?_; (focus (repeat' (first | exact trivial | apply And.intro | omega)))) | (refine k_op rfl ?_; first | refine v_op (g_ldS rfl rfl (by assumption) rfl rfl) rfl rfl ?_ | refine v_op (g_lenL rfl) rfl rfl ?_ | (refine v_op (g_pickT rfl rfl rfl) rfl rfl ?_) | (refine v_op (g_pickF rfl rfl rfl) rfl rfl ?_)) | (refine k_gt rfl rfl rfl ?_) | (refine k_gf rfl rfl rfl ?_) | (refine k_tt rfl (dTt (by omega)) ?_) | (refine k_ff rfl (by first | rfl | (refine decide_eq_false ?_; (omega))) ?_) | (refine k_any (s_any (id := 19) _ (fun _ h => h) mixed ?_); refine x_tks (t := tb) (fuel := 8) [0, 1, 2, 4, 7, 8, 9, 11] (bts 16 2967) (by kernel_rfl) (by kernel_rfl) rfl rfl (Gh.le.refl _) sRr trivial ?_; ((refine (x_tkg (bts 16 2975) 3 rfl (by kernel_rfl) rfl (Gh.le.refl _) sRr) (g_ldS rfl rfl (by assumption) rfl rfl) rfl rfl ?_)); ((refine (x_tkg (bts 16 3007) 5 rfl (by kernel_rfl) rfl (Gh.le.refl _) sRr) (g_iaddrN rfl rfl (by omega)) rfl rfl ?_)); ((refine (x_tkg (bts 16 3071) 6 rfl (by kernel_rfl) rfl (Gh.le.refl _) sRr) (g_ldR1x rfl rfl (by assumption) ?_ (by assumption) rfl) rfl rfl ?_; (focus ((omega); done)))); ((refine (x_tkg (bts 16 4095) 10 rfl (by kernel_rfl) rfl (Gh.le.refl _) sRr) (g_ldS rfl rfl (by assumption) rfl rfl) rfl rfl ?_)); ((refine (x_tkg (bts 16 8191) 12 rfl (by kernel_rfl) rfl (Gh.le.refl _) sRr) (g_iaddrN rfl rfl (by omega)) rfl rfl ?_)); ((refine (x_tkg (bts 16 16383) 13 rfl (by kernel_rfl) rfl (Gh.le.refl _) sRr) (g_ldR1x rfl rfl (by assumption) ?_ (by assumption) rfl) rfl rfl ?_; (focus ((omega); done)))); refine x_all [14] (by kernel_rfl) (by decide) ⟨?_, trivial⟩; refine x_opg rfl rfl ?_; (refine c_rt rfl rfl rfl cx_less rfl ?_); refine x_ks gRr sRr (listed' := (bts 16 32767)) (by kernel_rfl) ?_; refine x_tks (t := tb) (fuel := 0) [15] (bts 16 65535) (by kernel_rfl) (by kernel_rfl) rfl rfl (Gh.le.refl _) sRr trivial ?_; refine x_done (by kernel_rfl) (k_bk ?_)))
        exact k_rd (i + 1) ⟨by omega, by omega, he.trans hst⟩ (by omega) (by repeat' constructor) rfl sRr
      · rw [if_pos h0] at hst
        repeat' (first | (refine run (t := tb) 400 rfl trivial ?_) | (refine k_op rfl ?_; first | refine v_op (g_ldS rfl rfl (by assumption) rfl rfl) rfl rfl ?_ | refine v_op (g_lenL rfl) rfl rfl ?_ | (refine v_op (g_pickT rfl rfl rfl) rfl rfl ?_) | (refine v_op (g_pickF rfl rfl rfl) rfl rfl ?_)) | (refine k_gt rfl rfl rfl ?_) | (refine k_gf rfl rfl rfl ?_) | (refine k_tt rfl (by refine decide_eq_true ?_; first | assumption | omega) ?_) | (refine k_ff rfl (by first | rfl | (refine decide_eq_false ?_; (omega))) ?_) | (refine k_any (s_any (id := 19) _ (fun _ h => h) mixed ?_); refine x_tks (t := tb) (fuel := 8) [0, 1, 2, 4, 7, 8, 9, 11] (bts 16 2967) (by kernel_rfl) (by kernel_rfl) rfl rfl (Gh.le.refl _) sRr trivial ?_; ((refine (x_tkg (bts 16 2975) 3 rfl (by kernel_rfl) rfl (Gh.le.refl _) sRr) (g_ldS rfl rfl (by assumption) rfl rfl) rfl rfl ?_)); ((refine (x_tkg (bts 16 3007) 5 rfl (by kernel_rfl) rfl (Gh.le.refl _) sRr) (g_iaddrN rfl rfl (by omega)) rfl rfl ?_)); ((refine (x_tkg (bts 16 3071) 6 rfl (by kernel_rfl) rfl (Gh.le.refl _) sRr) (g_ldR1x rfl rfl (by assumption) ?_ (by assumption) rfl) rfl rfl ?_; (focus ((omega); done)))); ((refine (x_tkg (bts 16 4095) 10 rfl (by kernel_rfl) rfl (Gh.le.refl _) sRr) (g_ldS rfl rfl (by assumption) rfl rfl) rfl rfl ?_)); ((refine (x_tkg (bts 16 8191) 12 rfl (by kernel_rfl) rfl (Gh.le.refl _) sRr) (g_iaddrN rfl rfl (by omega)) rfl rfl ?_)); ((refine (x_tkg (bts 16 16383) 13 rfl (by kernel_rfl) rfl (Gh.le.refl _) sRr) (g_ldR1x rfl rfl (by assumption) ?_ (by assumption) rfl) rfl rfl ?_; (focus ((omega); done)))); refine x_all [14] (by kernel_rfl) (by decide) ⟨?_, trivial⟩; refine x_opg rfl rfl ?_; (refine c_rt rfl rfl rfl cx_less rfl ?_); refine x_ks gRr sRr (listed' := (bts 16 32767)) (by kernel_rfl) ?_; refine x_tks (t := tb) (fuel := 0) [15] (bts 16 65535) (by kernel_rfl) (by kernel_rfl) rfl rfl (Gh.le.refl _) sRr trivial ?_; refine x_done (by kernel_rfl) (k_bk ?_)))
        refine k_rr (vs := [_]) rfl ⟨rfl, trivial⟩ rfl (List.nil_sublist _) ⟨rfl, rfl, ?_⟩
        rw [oneOf_one, he, hst]
    · have hst := cmps_end (ks := KS) (us := US) (i := i) (by omega) (by omega)
      repeat' (first | (refine run (t := tb) 400 rfl trivial ?_) | (refine k_op rfl ?_; first | refine v_op (g_ldS rfl rfl (by assumption) rfl rfl) rfl rfl ?_ | refine v_op (g_lenL rfl) rfl rfl ?_ | (refine v_op (g_pickT rfl rfl rfl) rfl rfl ?_) | (refine v_op (g_pickF rfl rfl rfl) rfl rfl ?_)) | (refine k_gt rfl rfl rfl ?_) | (refine k_gf rfl rfl rfl ?_) | (refine k_tt rfl (dTt (by omega)) ?_))
      refine k_rr (vs := [_]) rfl ⟨rfl, trivial⟩ rfl (List.nil_sublist _) ⟨rfl, rfl, ?_⟩
      rw [oneOf_one, he, hst]
  · have hin : i = n := by omega
    have hst := cmps_nil (ks := KS) (us := US) (i := i) (by omega)
    repeat' (first | (refine run (t := tb) 400 rfl trivial ?_) | (refine k_op rfl ?_; first | refine v_op (g_ldS rfl rfl (by assumption) rfl rfl) rfl rfl ?_ | refine v_op (g_lenL rfl) rfl rfl ?_ | (refine v_op (g_pickF rfl rfl rfl) rfl rfl ?_)) | (refine k_gf rfl rfl rfl ?_) | (refine k_ff rfl (dFf (by omega)) ?_) | (refine k_any (s_any (id := 22) _ (fun _ h => h) mixed ?_); refine x_tks (t := tb) (fuel := 12) [0, 1, 2, 5, 6, 7, 11, 12, 13, 16, 17, 18] (bts 24 473319) (by kernel_rfl) (by kernel_rfl) rfl rfl (Gh.le.refl _) sRr trivial ?_; ((refine (x_tkg (bts 24 473327) 3 rfl (by kernel_rfl) rfl (Gh.le.refl _) sRr) (g_ldS rfl rfl (by assumption) rfl rfl) rfl rfl ?_)); ((refine (x_tkg (bts 24 473343) 4 rfl (by kernel_rfl) rfl (Gh.le.refl _) sRr) (g_lenL rfl) rfl rfl ?_)); ((refine (x_tkg (bts 24 473599) 8 rfl (by kernel_rfl) rfl (Gh.le.refl _) sRr) (g_ldS rfl rfl (by assumption) rfl rfl) rfl rfl ?_)); ((refine (x_tkg (bts 24 474111) 9 rfl (by kernel_rfl) rfl (Gh.le.refl _) sRr) (g_lenL rfl) rfl rfl ?_)); ((refine (x_tkg (bts 24 475135) 10 rfl (by kernel_rfl) rfl (Gh.le.refl _) sRr) (g_max rfl rfl) rfl rfl ?_)); ((refine (x_tkg (bts 24 491519) 14 rfl (by kernel_rfl) rfl (Gh.le.refl _) sRr) (g_ldS rfl rfl (by assumption) rfl rfl) rfl rfl ?_)); ((refine (x_tkg (bts 24 524287) 15 rfl (by kernel_rfl) rfl (Gh.le.refl _) sRr) (g_lenL rfl) rfl rfl ?_)); ((refine (x_tkg (bts 24 1048575) 19 rfl (by kernel_rfl) rfl (Gh.le.refl _) sRr) (g_ldS rfl rfl (by assumption) rfl rfl) rfl rfl ?_)); ((refine (x_tkg (bts 24 2097151) 20 rfl (by kernel_rfl) rfl (Gh.le.refl _) sRr) (g_lenL rfl) rfl rfl ?_)); ((refine (x_tkg (bts 24 4194303) 21 rfl (by kernel_rfl) rfl (Gh.le.refl _) sRr) (g_max rfl rfl) rfl rfl ?_)); refine x_all [22] (by kernel_rfl) (by decide) ⟨?_, trivial⟩; refine x_opg rfl rfl ?_; (refine c_rt rfl rfl rfl c_l13Sign rfl ?_); refine x_ks gRr sRr (listed' := (bts 24 8388607)) (by kernel_rfl) ?_; refine x_tks (t := tb) (fuel := 0) [23] (bts 24 16777215) (by kernel_rfl) (by kernel_rfl) rfl rfl (Gh.le.refl _) sRr trivial ?_; refine x_done (by kernel_rfl) (k_bk ?_)))
    refine k_rr (vs := [_]) rfl ⟨rfl, trivial⟩ rfl (List.nil_sublist _) ⟨rfl, rfl, ?_⟩
    rw [oneOf_one, he, hst]
    refine congrArg (Value.int .i64) ?_
    unfold sgn
    split <;> (first | (rw [if_pos (by omega)]; done) | (rw [if_neg (by omega), if_neg (by omega)]; done))
theorem sgn_self (n : Int) : sgn n n = 0 := by unfold sgn; rw [if_neg (by omega), if_neg (by omega)]
theorem sgn_ne {n m : Int} (h : n ≠ m) : sgn n m ≠ 0 := by
  unfold sgn
  split
  · decide
  · rw [if_pos (by omega)]; decide
theorem c_lessT {r kb txa txb : List UInt8} {a b n m : Nat} {KS US : List V} {bs cs : List Nat} {tg sg : List Int} {ak bk a2 b2 : Option Addr} {ck dk c2 d2 : Nat} (hn : n = KS.length) (hm : m = US.length) (hn9 : n ≤ 100000 ∧ m ≤ 100000)
    (ha : Seg G a 0 [S (64 :: r), S txa, .slice a2 n c2, .slice ak n ck]) (hb : Seg G b 0 [S kb, S txb, .slice b2 m d2, .slice bk m dk]) (h1 : SlV G (.slice ak n ck) 1 n (rows ptR bs)) (h2 : SlV G (.slice bk m dk) 1 m (rows ptR cs)) (hbl : bs.length = n) (hcl : cs.length = m)
    (h3 : SlV G (.slice a2 n c2) 1 n (rows inR tg)) (h4 : SlV G (.slice b2 m d2) 1 m (rows inR sg)) (htl : tg.length = n) (hsl : sg.length = m)
    (ih : ∀ i, i < n → i < m → (nth tg i ≠ nth sg i ∧ V.cmp (nth KS i) (nth US i) = sgn (nth tg i) (nth sg i)) ∨ (nth tg i = nth sg i ∧ PuG Tryz.prog 22 [Pt (nth bs i) 0, Pt (nth cs i) 0] G (· = I (V.cmp (nth KS i) (nth US i))))) :
    PuG Tryz.prog 22 [Pt a 0, Pt b 0] G (· = I (V.cmps KS US)) := by
  have hk0 : bt (64 :: r) (Int.toNat 0) = 64 := bt_zero 64 r
  have hlx : (64 :: r).length = r.length + 1 := rfl
  generalize 64 :: r = kk at *
  refine p_enter [(0, _), (1, _)] Tryz.func22 (by kernel_rfl) Tryz.ntmps22 rfl rfl (by repeat' constructor) fun B hB => ?_
  repeat' (first | (refine run (t := tb) 400 rfl ?_ ?_; (focus (repeat' (first | exact trivial | apply And.intro | omega)))) | (refine k_op rfl ?_; (refine v_op (g_ldS rfl rfl (by assumption) rfl rfl) rfl rfl ?_)) | (refine k_ff rfl (dFf (by omega)) ?_))
  refine k_loop (ι := Nat) (fun i => i ≤ n ∧ i ≤ m ∧ V.cmps KS US = V.cmps (KS.drop i) (US.drop i)) (fun i => [(0, Pt a 0), (1, Pt b 0), (9, I i)]) (fun _ => G) (fun i => []) (fun i => n - i) 0 ?_ (by repeat' constructor) rfl sRr (fun i Hi => ?_)
  · exact ⟨Nat.zero_le _, Nat.zero_le _, rfl⟩
  obtain ⟨hi0, hj0, he⟩ := Hi
  by_cases hi : i < n
  · by_cases hj : i < m
    · have hst := cmps_step (ks := KS) (us := US) (i := i) (by omega) (by omega)
      have hx1 : nth bs i = nth bs i := rfl
      have hx2 : nth cs i = nth cs i := rfl
      have hx3 : nth tg i = nth tg i := rfl
      have hx4 : nth sg i = nth sg i := rfl
      obtain ⟨b1, o1, c1, e, hs1⟩ := h1.expl (by omega)
      simp only [Value.slice.injEq] at e
      obtain ⟨rfl, -, rfl⟩ := e
      obtain ⟨b4, o2, c2, e, hs2⟩ := h2.expl (by omega)
      simp only [Value.slice.injEq] at e
      obtain ⟨rfl, -, rfl⟩ := e
      obtain ⟨b5, o3, c3, e, hs3⟩ := h3.expl (by omega)
      simp only [Value.slice.injEq] at e
      obtain ⟨rfl, -, rfl⟩ := e
      obtain ⟨b6, o4, c4, e, hs4⟩ := h4.expl (by omega)
      simp only [Value.slice.injEq] at e
      obtain ⟨rfl, -, rfl⟩ := e
      rcases ih i hi hj with ⟨g1, g2⟩ | ⟨g1, cx_less⟩
      · have g3 := sgn_ne g1
        rw [if_pos (by rw [g2]; exact g3), g2] at hst
        clear g1 g2
        repeat' (first | (refine run (t := tb) 400 rfl trivial ?_) | (refine k_op rfl ?_; first | refine v_op (g_ldS rfl rfl (by assumption) rfl rfl) rfl rfl ?_ | refine v_op (g_lenL rfl) rfl rfl ?_ | (refine v_op (g_pickT rfl rfl rfl) rfl rfl ?_) | (refine v_op (g_pickF rfl rfl rfl) rfl rfl ?_)) | (refine k_gt rfl rfl (dTt (by omega)) ?_) | (refine k_gf rfl rfl (dFf (by omega)) ?_) | (refine k_tt rfl (by first | rfl | (refine decide_eq_true ?_; first | assumption | omega)) ?_) | (refine k_ff rfl rfl ?_) | (refine k_any (s_any (id := 15) _ (fun _ h => h) mixed ?_); refine x_tks (t := tb) (fuel := 8) [0, 1, 2, 4, 7, 8, 9, 11] (bts 16 2967) (by kernel_rfl) (by kernel_rfl) rfl rfl (Gh.le.refl _) sRr trivial ?_; ((refine (x_tkg (bts 16 2975) 3 rfl (by kernel_rfl) rfl (Gh.le.refl _) sRr) (g_ldS rfl rfl (by assumption) rfl rfl) rfl rfl ?_)); ((refine (x_tkg (bts 16 3007) 5 rfl (by kernel_rfl) rfl (Gh.le.refl _) sRr) (g_iaddrN rfl rfl (by omega)) rfl rfl ?_)); ((refine (x_tkg (bts 16 3071) 6 rfl (by kernel_rfl) rfl (Gh.le.refl _) sRr) (g_ldR1x rfl rfl (by assumption) ?_ (by assumption) rfl) rfl rfl ?_; (focus ((omega); done)))); ((refine (x_tkg (bts 16 4095) 10 rfl (by kernel_rfl) rfl (Gh.le.refl _) sRr) (g_ldS rfl rfl (by assumption) rfl rfl) rfl rfl ?_)); ((refine (x_tkg (bts 16 8191) 12 rfl (by kernel_rfl) rfl (Gh.le.refl _) sRr) (g_iaddrN rfl rfl (by omega)) rfl rfl ?_)); ((refine (x_tkg (bts 16 16383) 13 rfl (by kernel_rfl) rfl (Gh.le.refl _) sRr) (g_ldR1x rfl rfl (by assumption) ?_ (by assumption) rfl) rfl rfl ?_; (focus ((omega); done)))); refine x_all [14] (by kernel_rfl) (by decide) ⟨?_, trivial⟩; refine x_opg rfl rfl ?_; (refine c_rt rfl rfl rfl c_l13Sign rfl ?_); refine x_ks gRr sRr (listed' := (bts 16 32767)) (by kernel_rfl) ?_; refine x_tks (t := tb) (fuel := 0) [15] (bts 16 65535) (by kernel_rfl) (by kernel_rfl) rfl rfl (Gh.le.refl _) sRr trivial ?_; refine x_done (by kernel_rfl) (k_bk ?_)))
        refine k_rr (vs := [_]) rfl ⟨rfl, trivial⟩ rfl (List.nil_sublist _) ⟨rfl, rfl, ?_⟩
        rw [oneOf_one, he, hst]
      · have g3 : sgn (nth tg i) (nth sg i) = 0 := by rw [g1]; exact sgn_self _
        clear g1
        by_cases h0 : V.cmp (nth KS i) (nth US i) = 0
        · rw [if_neg (by simpa using h0)] at hst
          repeat' (first | (refine run (t := tb) 400 rfl ?_ ?_; (focus (repeat' (first | exact trivial | apply And.intro | omega)))) | (refine k_op rfl ?_; first | refine v_op (g_ldS rfl rfl (by assumption) rfl rfl) rfl rfl ?_ | refine v_op (g_lenL rfl) rfl rfl ?_ | (refine v_op (g_pickT rfl rfl rfl) rfl rfl ?_) | (refine v_op (g_pickF rfl rfl rfl) rfl rfl ?_)) | (refine k_gt rfl rfl (dTt (by omega)) ?_) | (refine k_gf rfl rfl (dFf (by omega)) ?_) | (refine k_tt rfl (by first | rfl | (refine decide_eq_true ?_; (omega))) ?_) | (refine k_ff rfl (by first | rfl | (refine decide_eq_false ?_; (omega))) ?_) | (refine k_any (s_any (id := 15) _ (fun _ h => h) mixed ?_); refine x_tks (t := tb) (fuel := 8) [0, 1, 2, 4, 7, 8, 9, 11] (bts 16 2967) (by kernel_rfl) (by kernel_rfl) rfl rfl (Gh.le.refl _) sRr trivial ?_; ((refine (x_tkg (bts 16 2975) 3 rfl (by kernel_rfl) rfl (Gh.le.refl _) sRr) (g_ldS rfl rfl (by assumption) rfl rfl) rfl rfl ?_)); ((refine (x_tkg (bts 16 3007) 5 rfl (by kernel_rfl) rfl (Gh.le.refl _) sRr) (g_iaddrN rfl rfl (by omega)) rfl rfl ?_)); ((refine (x_tkg (bts 16 3071) 6 rfl (by kernel_rfl) rfl (Gh.le.refl _) sRr) (g_ldR1x rfl rfl (by assumption) ?_ (by assumption) rfl) rfl rfl ?_; (focus ((omega); done)))); ((refine (x_tkg (bts 16 4095) 10 rfl (by kernel_rfl) rfl (Gh.le.refl _) sRr) (g_ldS rfl rfl (by assumption) rfl rfl) rfl rfl ?_)); ((refine (x_tkg (bts 16 8191) 12 rfl (by kernel_rfl) rfl (Gh.le.refl _) sRr) (g_iaddrN rfl rfl (by omega)) rfl rfl ?_)); ((refine (x_tkg (bts 16 16383) 13 rfl (by kernel_rfl) rfl (Gh.le.refl _) sRr) (g_ldR1x rfl rfl (by assumption) ?_ (by assumption) rfl) rfl rfl ?_; (focus ((omega); done)))); refine x_all [14] (by kernel_rfl) (by decide) ⟨?_, trivial⟩; refine x_opg rfl rfl ?_; (refine c_rt rfl rfl rfl c_l13Sign rfl ?_); refine x_ks gRr sRr (listed' := (bts 16 32767)) (by kernel_rfl) ?_; refine x_tks (t := tb) (fuel := 0) [15] (bts 16 65535) (by kernel_rfl) (by kernel_rfl) rfl rfl (Gh.le.refl _) sRr trivial ?_; refine x_done (by kernel_rfl) (k_bk ?_)) | (refine k_any (s_any (id := 19) _ (fun _ h => h) mixed ?_); refine x_tks (t := tb) (fuel := 8) [0, 1, 2, 4, 7, 8, 9, 11] (bts 16 2967) (by kernel_rfl) (by kernel_rfl) rfl rfl (Gh.le.refl _) sRr trivial ?_; ((refine (x_tkg (bts 16 2975) 3 rfl (by kernel_rfl) rfl (Gh.le.refl _) sRr) (g_ldS rfl rfl (by assumption) rfl rfl) rfl rfl ?_)); ((refine (x_tkg (bts 16 3007) 5 rfl (by kernel_rfl) rfl (Gh.le.refl _) sRr) (g_iaddrN rfl rfl (by omega)) rfl rfl ?_)); ((refine (x_tkg (bts 16 3071) 6 rfl (by kernel_rfl) rfl (Gh.le.refl _) sRr) (g_ldR1x rfl rfl (by assumption) ?_ (by assumption) rfl) rfl rfl ?_; (focus ((omega); done)))); ((refine (x_tkg (bts 16 4095) 10 rfl (by kernel_rfl) rfl (Gh.le.refl _) sRr) (g_ldS rfl rfl (by assumption) rfl rfl) rfl rfl ?_)); ((refine (x_tkg (bts 16 8191) 12 rfl (by kernel_rfl) rfl (Gh.le.refl _) sRr) (g_iaddrN rfl rfl (by omega)) rfl rfl ?_)); ((refine (x_tkg (bts 16 16383) 13 rfl (by kernel_rfl) rfl (Gh.le.refl _) sRr) (g_ldR1x rfl rfl (by assumption) ?_ (by assumption) rfl) rfl rfl ?_; (focus ((omega); done)))); refine x_all [14] (by kernel_rfl) (by decide) ⟨?_, trivial⟩; refine x_opg rfl rfl ?_; (refine c_rt rfl rfl rfl cx_less rfl ?_); refine x_ks gRr sRr (listed' := (bts 16 32767)) (by kernel_rfl) ?_; refine x_tks (t := tb) (fuel := 0) [15] (bts 16 65535) (by kernel_rfl) (by kernel_rfl) rfl rfl (Gh.le.refl _) sRr trivial ?_; refine x_done (by kernel_rfl) (k_bk ?_)))
          exact k_rd (i + 1) ⟨by omega, by omega, he.trans hst⟩ (by omega) (by repeat' constructor) rfl sRr
        · rw [if_pos h0] at hst
          repeat' (first | (refine run (t := tb) 400 rfl trivial ?_) | (refine k_op rfl ?_; first | refine v_op (g_ldS rfl rfl (by assumption) rfl rfl) rfl rfl ?_ | refine v_op (g_lenL rfl) rfl rfl ?_ | (refine v_op (g_pickT rfl rfl rfl) rfl rfl ?_) | (refine v_op (g_pickF rfl rfl rfl) rfl rfl ?_)) | (refine k_gt rfl rfl (dTt (by omega)) ?_) | (refine k_gf rfl rfl (dFf (by omega)) ?_) | (refine k_tt rfl (by first | rfl | (refine decide_eq_true ?_; first | assumption | omega)) ?_) | (refine k_ff rfl (by first | rfl | (refine decide_eq_false ?_; (omega))) ?_) | (refine k_any (s_any (id := 15) _ (fun _ h => h) mixed ?_); refine x_tks (t := tb) (fuel := 8) [0, 1, 2, 4, 7, 8, 9, 11] (bts 16 2967) (by kernel_rfl) (by kernel_rfl) rfl rfl (Gh.le.refl _) sRr trivial ?_; ((refine (x_tkg (bts 16 2975) 3 rfl (by kernel_rfl) rfl (Gh.le.refl _) sRr) (g_ldS rfl rfl (by assumption) rfl rfl) rfl rfl ?_)); ((refine (x_tkg (bts 16 3007) 5 rfl (by kernel_rfl) rfl (Gh.le.refl _) sRr) (g_iaddrN rfl rfl (by omega)) rfl rfl ?_)); ((refine (x_tkg (bts 16 3071) 6 rfl (by kernel_rfl) rfl (Gh.le.refl _) sRr) (g_ldR1x rfl rfl (by assumption) ?_ (by assumption) rfl) rfl rfl ?_; (focus ((omega); done)))); ((refine (x_tkg (bts 16 4095) 10 rfl (by kernel_rfl) rfl (Gh.le.refl _) sRr) (g_ldS rfl rfl (by assumption) rfl rfl) rfl rfl ?_)); ((refine (x_tkg (bts 16 8191) 12 rfl (by kernel_rfl) rfl (Gh.le.refl _) sRr) (g_iaddrN rfl rfl (by omega)) rfl rfl ?_)); ((refine (x_tkg (bts 16 16383) 13 rfl (by kernel_rfl) rfl (Gh.le.refl _) sRr) (g_ldR1x rfl rfl (by assumption) ?_ (by assumption) rfl) rfl rfl ?_; (focus ((omega); done)))); refine x_all [14] (by kernel_rfl) (by decide) ⟨?_, trivial⟩; refine x_opg rfl rfl ?_; (refine c_rt rfl rfl rfl c_l13Sign rfl ?_); refine x_ks gRr sRr (listed' := (bts 16 32767)) (by kernel_rfl) ?_; refine x_tks (t := tb) (fuel := 0) [15] (bts 16 65535) (by kernel_rfl) (by kernel_rfl) rfl rfl (Gh.le.refl _) sRr trivial ?_; refine x_done (by kernel_rfl) (k_bk ?_)) | (refine k_any (s_any (id := 19) _ (fun _ h => h) mixed ?_); refine x_tks (t := tb) (fuel := 8) [0, 1, 2, 4, 7, 8, 9, 11] (bts 16 2967) (by kernel_rfl) (by kernel_rfl) rfl rfl (Gh.le.refl _) sRr trivial ?_; ((refine (x_tkg (bts 16 2975) 3 rfl (by kernel_rfl) rfl (Gh.le.refl _) sRr) (g_ldS rfl rfl (by assumption) rfl rfl) rfl rfl ?_)); ((refine (x_tkg (bts 16 3007) 5 rfl (by kernel_rfl) rfl (Gh.le.refl _) sRr) (g_iaddrN rfl rfl (by omega)) rfl rfl ?_)); ((refine (x_tkg (bts 16 3071) 6 rfl (by kernel_rfl) rfl (Gh.le.refl _) sRr) (g_ldR1x rfl rfl (by assumption) ?_ (by assumption) rfl) rfl rfl ?_; (focus ((omega); done)))); ((refine (x_tkg (bts 16 4095) 10 rfl (by kernel_rfl) rfl (Gh.le.refl _) sRr) (g_ldS rfl rfl (by assumption) rfl rfl) rfl rfl ?_)); ((refine (x_tkg (bts 16 8191) 12 rfl (by kernel_rfl) rfl (Gh.le.refl _) sRr) (g_iaddrN rfl rfl (by omega)) rfl rfl ?_)); ((refine (x_tkg (bts 16 16383) 13 rfl (by kernel_rfl) rfl (Gh.le.refl _) sRr) (g_ldR1x rfl rfl (by assumption) ?_ (by assumption) rfl) rfl rfl ?_; (focus ((omega); done)))); refine x_all [14] (by kernel_rfl) (by decide) ⟨?_, trivial⟩; refine x_opg rfl rfl ?_; (refine c_rt rfl rfl rfl cx_less rfl ?_); refine x_ks gRr sRr (listed' := (bts 16 32767)) (by kernel_rfl) ?_; refine x_tks (t := tb) (fuel := 0) [15] (bts 16 65535) (by kernel_rfl) (by kernel_rfl) rfl rfl (Gh.le.refl _) sRr trivial ?_; refine x_done (by kernel_rfl) (k_bk ?_)))
          refine k_rr (vs := [_]) rfl ⟨rfl, trivial⟩ rfl (List.nil_sublist _) ⟨rfl, rfl, ?_⟩
          rw [oneOf_one, he, hst]
    · have hst := cmps_end (ks := KS) (us := US) (i := i) (by omega) (by omega)
      repeat' (first | (refine run (t := tb) 400 rfl trivial ?_) | (refine k_op rfl ?_; first | refine v_op (g_ldS rfl rfl (by assumption) rfl rfl) rfl rfl ?_ | refine v_op (g_lenL rfl) rfl rfl ?_ | (refine v_op (g_pickT rfl rfl rfl) rfl rfl ?_)) | (refine k_gt rfl rfl (dTt (by omega)) ?_) | (refine k_tt rfl (by first | rfl | (refine decide_eq_true ?_; (omega))) ?_))
      refine k_rr (vs := [_]) rfl ⟨rfl, trivial⟩ rfl (List.nil_sublist _) ⟨rfl, rfl, ?_⟩
      rw [oneOf_one, he, hst]
  · have hin : i = n := by omega
    have hst := cmps_nil (ks := KS) (us := US) (i := i) (by omega)
    repeat' (first | (refine run (t := tb) 400 rfl trivial ?_) | (refine k_op rfl ?_; first | refine v_op (g_ldS rfl rfl (by assumption) rfl rfl) rfl rfl ?_ | refine v_op (g_lenL rfl) rfl rfl ?_ | (refine v_op (g_pickF rfl rfl rfl) rfl rfl ?_)) | (refine k_gf rfl rfl (dFf (by omega)) ?_) | (refine k_ff rfl (dFf (by omega)) ?_) | (refine k_any (s_any (id := 22) _ (fun _ h => h) mixed ?_); refine x_tks (t := tb) (fuel := 12) [0, 1, 2, 5, 6, 7, 11, 12, 13, 16, 17, 18] (bts 24 473319) (by kernel_rfl) (by kernel_rfl) rfl rfl (Gh.le.refl _) sRr trivial ?_; ((refine (x_tkg (bts 24 473327) 3 rfl (by kernel_rfl) rfl (Gh.le.refl _) sRr) (g_ldS rfl rfl (by assumption) rfl rfl) rfl rfl ?_)); ((refine (x_tkg (bts 24 473343) 4 rfl (by kernel_rfl) rfl (Gh.le.refl _) sRr) (g_lenL rfl) rfl rfl ?_)); ((refine (x_tkg (bts 24 473599) 8 rfl (by kernel_rfl) rfl (Gh.le.refl _) sRr) (g_ldS rfl rfl (by assumption) rfl rfl) rfl rfl ?_)); ((refine (x_tkg (bts 24 474111) 9 rfl (by kernel_rfl) rfl (Gh.le.refl _) sRr) (g_lenL rfl) rfl rfl ?_)); ((refine (x_tkg (bts 24 475135) 10 rfl (by kernel_rfl) rfl (Gh.le.refl _) sRr) (g_max rfl rfl) rfl rfl ?_)); ((refine (x_tkg (bts 24 491519) 14 rfl (by kernel_rfl) rfl (Gh.le.refl _) sRr) (g_ldS rfl rfl (by assumption) rfl rfl) rfl rfl ?_)); ((refine (x_tkg (bts 24 524287) 15 rfl (by kernel_rfl) rfl (Gh.le.refl _) sRr) (g_lenL rfl) rfl rfl ?_)); ((refine (x_tkg (bts 24 1048575) 19 rfl (by kernel_rfl) rfl (Gh.le.refl _) sRr) (g_ldS rfl rfl (by assumption) rfl rfl) rfl rfl ?_)); ((refine (x_tkg (bts 24 2097151) 20 rfl (by kernel_rfl) rfl (Gh.le.refl _) sRr) (g_lenL rfl) rfl rfl ?_)); ((refine (x_tkg (bts 24 4194303) 21 rfl (by kernel_rfl) rfl (Gh.le.refl _) sRr) (g_max rfl rfl) rfl rfl ?_)); refine x_all [22] (by kernel_rfl) (by decide) ⟨?_, trivial⟩; refine x_opg rfl rfl ?_; (refine c_rt rfl rfl rfl c_l13Sign rfl ?_); refine x_ks gRr sRr (listed' := (bts 24 8388607)) (by kernel_rfl) ?_; refine x_tks (t := tb) (fuel := 0) [23] (bts 24 16777215) (by kernel_rfl) (by kernel_rfl) rfl rfl (Gh.le.refl _) sRr trivial ?_; refine x_done (by kernel_rfl) (k_bk ?_)))
    refine k_rr (vs := [_]) rfl ⟨rfl, trivial⟩ rfl (List.nil_sublist _) ⟨rfl, rfl, ?_⟩
    rw [oneOf_one, he, hst]
    refine congrArg (Value.int .i64) ?_
    unfold sgn
    split <;> (first | (rw [if_pos (by omega)]; done) | (rw [if_neg (by omega), if_neg (by omega)]; done))
theorem c_lessE {r kb txa txb : List UInt8} {a b pa pb : Nat} {t t' : Int} (ha : Seg G a 0 [S (64 :: r), S txa, .slice (some ⟨pa, 0, none⟩) 1 1, nilS]) (hb : Seg G b 0 [S kb, S txb, .slice (some ⟨pb, 0, none⟩) 1 1, nilS]) (h1 : Seg G pa 0 [I t]) (h2 : Seg G pb 0 [I t']) :
    PuG Tryz.prog 22 [Pt a 0, Pt b 0] G (· = I (sgn t t')) := by
  have hk0 : bt (64 :: r) (Int.toNat 0) = 64 := bt_zero 64 r
  have hlx : (64 :: r).length = r.length + 1 := rfl
  generalize 64 :: r = kk at *
  refine p_enter [(0, _), (1, _)] Tryz.func22 (by kernel_rfl) Tryz.ntmps22 rfl rfl (by repeat' constructor) fun B hB => ?_
  repeat' (first | (refine run (t := tb) 400 rfl ?_ ?_; (focus (repeat' (first | exact trivial | apply And.intro | omega)))) | (refine k_op rfl ?_; (refine v_op (g_ldS rfl rfl (by assumption) rfl rfl) rfl rfl ?_)) | (refine k_ff rfl (dFf (by omega)) ?_))
  refine k_loop (ι := Nat) (fun i => i = 0 ∨ i = 1 ∧ t = t') (fun i => [(0, Pt a 0), (1, Pt b 0), (9, I i)]) (fun _ => G) (fun i => []) (fun i => 1 - i) 0 ?_ (by repeat' constructor) rfl sRr (fun i Hi => ?_)
  · exact .inl rfl
  rcases Hi with rfl | ⟨rfl, rfl⟩
  · by_cases ht : t = t'
    · subst ht
      have g3 := sgn_self t
      repeat' (first | (refine run (t := tb) 400 rfl ?_ ?_; (focus (repeat' (first | exact trivial | apply And.intro | omega)))) | (refine k_op rfl ?_; first | refine v_op (g_ldS rfl rfl (by assumption) rfl rfl) rfl rfl ?_ | refine v_op (g_lenL rfl) rfl rfl ?_ | (refine v_op (g_pickT rfl rfl rfl) rfl rfl ?_) | (refine v_op (g_pickF rfl rfl rfl) rfl rfl ?_)) | (refine k_gt rfl rfl rfl ?_) | (refine k_gf rfl rfl rfl ?_) | (refine k_tt rfl rfl ?_) | (refine k_ff rfl (by first | rfl | (refine decide_eq_false ?_; (omega))) ?_) | (refine k_any (s_any (id := 15) _ (fun _ h => h) mixed ?_); refine x_tks (t := tb) (fuel := 8) [0, 1, 2, 4, 7, 8, 9, 11] (bts 16 2967) (by kernel_rfl) (by kernel_rfl) rfl rfl (Gh.le.refl _) sRr trivial ?_; ((refine (x_tkg (bts 16 2975) 3 rfl (by kernel_rfl) rfl (Gh.le.refl _) sRr) (g_ldS rfl rfl (by assumption) rfl rfl) rfl rfl ?_)); ((refine (x_tkg (bts 16 3007) 5 rfl (by kernel_rfl) rfl (Gh.le.refl _) sRr) (g_iaddrN rfl rfl (by omega)) rfl rfl ?_)); ((refine (x_tkg (bts 16 3071) 6 rfl (by kernel_rfl) rfl (Gh.le.refl _) sRr) (g_ldS rfl rfl (by assumption) rfl rfl) rfl rfl ?_)); ((refine (x_tkg (bts 16 4095) 10 rfl (by kernel_rfl) rfl (Gh.le.refl _) sRr) (g_ldS rfl rfl (by assumption) rfl rfl) rfl rfl ?_)); ((refine (x_tkg (bts 16 8191) 12 rfl (by kernel_rfl) rfl (Gh.le.refl _) sRr) (g_iaddrN rfl rfl (by omega)) rfl rfl ?_)); ((refine (x_tkg (bts 16 16383) 13 rfl (by kernel_rfl) rfl (Gh.le.refl _) sRr) (g_ldS rfl rfl (by assumption) rfl rfl) rfl rfl ?_)); refine x_all [14] (by kernel_rfl) (by decide) ⟨?_, trivial⟩; refine x_opg rfl rfl ?_; (refine c_rt rfl rfl rfl c_l13Sign rfl ?_); refine x_ks gRr sRr (listed' := (bts 16 32767)) (by kernel_rfl) ?_; refine x_tks (t := tb) (fuel := 0) [15] (bts 16 65535) (by kernel_rfl) (by kernel_rfl) rfl rfl (Gh.le.refl _) sRr trivial ?_; refine x_done (by kernel_rfl) (k_bk ?_)))
      exact k_rd 1 (.inr ⟨rfl, rfl⟩) (by omega) (by repeat' constructor) rfl sRr
    · have g3 := sgn_ne ht
      repeat' (first | (refine run (t := tb) 400 rfl trivial ?_) | (refine k_op rfl ?_; first | refine v_op (g_ldS rfl rfl (by assumption) rfl rfl) rfl rfl ?_ | refine v_op (g_lenL rfl) rfl rfl ?_ | (refine v_op (g_pickT rfl rfl rfl) rfl rfl ?_) | (refine v_op (g_pickF rfl rfl rfl) rfl rfl ?_)) | (refine k_gt rfl rfl rfl ?_) | (refine k_gf rfl rfl rfl ?_) | (refine k_tt rfl (by first | rfl | (refine decide_eq_true ?_; (assumption))) ?_) | (refine k_ff rfl rfl ?_) | (refine k_any (s_any (id := 15) _ (fun _ h => h) mixed ?_); refine x_tks (t := tb) (fuel := 8) [0, 1, 2, 4, 7, 8, 9, 11] (bts 16 2967) (by kernel_rfl) (by kernel_rfl) rfl rfl (Gh.le.refl _) sRr trivial ?_; ((refine (x_tkg (bts 16 2975) 3 rfl (by kernel_rfl) rfl (Gh.le.refl _) sRr) (g_ldS rfl rfl (by assumption) rfl rfl) rfl rfl ?_)); ((refine (x_tkg (bts 16 3007) 5 rfl (by kernel_rfl) rfl (Gh.le.refl _) sRr) (g_iaddrN rfl rfl (by omega)) rfl rfl ?_)); ((refine (x_tkg (bts 16 3071) 6 rfl (by kernel_rfl) rfl (Gh.le.refl _) sRr) (g_ldS rfl rfl (by assumption) rfl rfl) rfl rfl ?_)); ((refine (x_tkg (bts 16 4095) 10 rfl (by kernel_rfl) rfl (Gh.le.refl _) sRr) (g_ldS rfl rfl (by assumption) rfl rfl) rfl rfl ?_)); ((refine (x_tkg (bts 16 8191) 12 rfl (by kernel_rfl) rfl (Gh.le.refl _) sRr) (g_iaddrN rfl rfl (by omega)) rfl rfl ?_)); ((refine (x_tkg (bts 16 16383) 13 rfl (by kernel_rfl) rfl (Gh.le.refl _) sRr) (g_ldS rfl rfl (by assumption) rfl rfl) rfl rfl ?_)); refine x_all [14] (by kernel_rfl) (by decide) ⟨?_, trivial⟩; refine x_opg rfl rfl ?_; (refine c_rt rfl rfl rfl c_l13Sign rfl ?_); refine x_ks gRr sRr (listed' := (bts 16 32767)) (by kernel_rfl) ?_; refine x_tks (t := tb) (fuel := 0) [15] (bts 16 65535) (by kernel_rfl) (by kernel_rfl) rfl rfl (Gh.le.refl _) sRr trivial ?_; refine x_done (by kernel_rfl) (k_bk ?_)))
      refine k_rr (vs := [_]) rfl ⟨rfl, trivial⟩ rfl (List.nil_sublist _) ⟨rfl, rfl, ?_⟩
      rw [oneOf_one]
  · repeat' (first | (refine run (t := tb) 400 rfl trivial ?_) | (refine k_op rfl ?_; first | refine v_op (g_ldS rfl rfl (by assumption) rfl rfl) rfl rfl ?_ | refine v_op (g_lenL rfl) rfl rfl ?_ | (refine v_op (g_pickF rfl rfl rfl) rfl rfl ?_)) | (refine k_gf rfl rfl rfl ?_) | (refine k_ff rfl rfl ?_) | (refine k_any (s_any (id := 22) _ (fun _ h => h) mixed ?_); refine x_tks (t := tb) (fuel := 12) [0, 1, 2, 5, 6, 7, 11, 12, 13, 16, 17, 18] (bts 24 473319) (by kernel_rfl) (by kernel_rfl) rfl rfl (Gh.le.refl _) sRr trivial ?_; ((refine (x_tkg (bts 24 473327) 3 rfl (by kernel_rfl) rfl (Gh.le.refl _) sRr) (g_ldS rfl rfl (by assumption) rfl rfl) rfl rfl ?_)); ((refine (x_tkg (bts 24 473343) 4 rfl (by kernel_rfl) rfl (Gh.le.refl _) sRr) (g_lenL rfl) rfl rfl ?_)); ((refine (x_tkg (bts 24 473599) 8 rfl (by kernel_rfl) rfl (Gh.le.refl _) sRr) (g_ldS rfl rfl (by assumption) rfl rfl) rfl rfl ?_)); ((refine (x_tkg (bts 24 474111) 9 rfl (by kernel_rfl) rfl (Gh.le.refl _) sRr) (g_lenL rfl) rfl rfl ?_)); ((refine (x_tkg (bts 24 475135) 10 rfl (by kernel_rfl) rfl (Gh.le.refl _) sRr) (g_max rfl rfl) rfl rfl ?_)); ((refine (x_tkg (bts 24 491519) 14 rfl (by kernel_rfl) rfl (Gh.le.refl _) sRr) (g_ldS rfl rfl (by assumption) rfl rfl) rfl rfl ?_)); ((refine (x_tkg (bts 24 524287) 15 rfl (by kernel_rfl) rfl (Gh.le.refl _) sRr) (g_lenL rfl) rfl rfl ?_)); ((refine (x_tkg (bts 24 1048575) 19 rfl (by kernel_rfl) rfl (Gh.le.refl _) sRr) (g_ldS rfl rfl (by assumption) rfl rfl) rfl rfl ?_)); ((refine (x_tkg (bts 24 2097151) 20 rfl (by kernel_rfl) rfl (Gh.le.refl _) sRr) (g_lenL rfl) rfl rfl ?_)); ((refine (x_tkg (bts 24 4194303) 21 rfl (by kernel_rfl) rfl (Gh.le.refl _) sRr) (g_max rfl rfl) rfl rfl ?_)); refine x_all [22] (by kernel_rfl) (by decide) ⟨?_, trivial⟩; refine x_opg rfl rfl ?_; (refine c_rt rfl rfl rfl c_l13Sign rfl ?_); refine x_ks gRr sRr (listed' := (bts 24 8388607)) (by kernel_rfl) ?_; refine x_tks (t := tb) (fuel := 0) [23] (bts 24 16777215) (by kernel_rfl) (by kernel_rfl) rfl rfl (Gh.le.refl _) sRr trivial ?_; refine x_done (by kernel_rfl) (k_bk ?_)))
    refine k_rr (vs := [_]) rfl ⟨rfl, trivial⟩ rfl (List.nil_sublist _) ⟨rfl, rfl, ?_⟩
    rw [oneOf_one, sgn_self, sgn_self]
theorem c_lessF {a b : Nat} {x y ka kb tx ty : List UInt8} (h : (ka = [110] ∧ kb = [110] ∧ False) ∨ (ka = [116] ∧ kb = [116] ∧ tx = 39 :: (x ++ [39]) ∧ ty = 39 :: (y ++ [39])) ∨ (ka = [102] ∧ kb = [102] ∧ tx = x ∧ ty = y ∧ (x = [121, 101, 115] ∨ x = [110, 111]))) (hl : x.length ≤ 100000 ∧ y.length ≤ 100000)
    (ha : Seg G a 0 [S ka, S tx, nilS, nilS]) (hb : Seg G b 0 [S kb, S ty, nilS, nilS]) : PuG Tryz.prog 22 [Pt a 0, Pt b 0] G (· = I (cmpB x y)) := by
  rcases h with ⟨_, _, h⟩ | ⟨rfl, rfl, h3, h4⟩ | ⟨rfl, rfl, rfl, rfl, h5⟩
  · exact h.elim
  · have cx_l13t := c_l13T (G := G) (s := tx) (t := ty) (x := x) (y := y) (.inr ⟨h3, h4⟩) hl
    clear h3 h4
    refine p_enter [(0, _), (1, _)] Tryz.func22 (by kernel_rfl) Tryz.ntmps22 rfl rfl (by repeat' constructor) fun B hB => ?_
    repeat' (first | (refine run (t := tb) 400 rfl ?_ ?_; (focus (repeat' (first | exact trivial | apply And.intro | omega | (simp only [List.length_append, List.length_cons, List.length_nil, Int.toNat_natCast]; omega))))) | (refine k_op rfl ?_; (refine v_op (g_ldS rfl rfl (by assumption) rfl rfl) rfl rfl ?_)) | (refine k_tt rfl rfl ?_) | (refine k_ff rfl rfl ?_) | (refine k_any (s_any (id := 8) _ (fun _ h => h) mixed ?_); refine x_tks (t := tb) (fuel := 4) [0, 1, 2, 4, 5, 6] (bts 10 119) (by kernel_rfl) (by kernel_rfl) rfl rfl (Gh.le.refl _) sRr trivial ?_; ((refine (x_tkg (bts 10 127) 3 rfl (by kernel_rfl) rfl (Gh.le.refl _) sRr) (g_ldS rfl rfl (by assumption) rfl rfl) rfl rfl ?_)); ((refine (x_tkg (bts 10 255) 7 rfl (by kernel_rfl) rfl (Gh.le.refl _) sRr) (g_ldS rfl rfl (by assumption) rfl rfl) rfl rfl ?_)); refine x_all [8] (by kernel_rfl) (by decide) ⟨?_, trivial⟩; refine x_opg rfl rfl ?_; (refine c_rt rfl rfl rfl cx_l13t rfl ?_); refine x_ks gRr sRr (listed' := (bts 10 511)) (by kernel_rfl) ?_; refine x_tks (t := tb) (fuel := 0) [9] (bts 10 1023) (by kernel_rfl) (by kernel_rfl) rfl rfl (Gh.le.refl _) sRr trivial ?_; refine x_done (by kernel_rfl) (k_bk ?_)))
    refine k_rr (vs := [_]) rfl ⟨rfl, trivial⟩ rfl (List.nil_sublist _) ⟨rfl, rfl, ?_⟩
    rfl
  · have cx_l13t := c_l13T (G := G) (s := tx) (t := ty) (x := tx) (y := ty) (.inl (by rcases h5 with rfl | rfl; exact ⟨121, _, rfl, by decide, rfl, rfl⟩; exact ⟨110, _, rfl, by decide, rfl, rfl⟩)) hl
    clear h5
    refine p_enter [(0, _), (1, _)] Tryz.func22 (by kernel_rfl) Tryz.ntmps22 rfl rfl (by repeat' constructor) fun B hB => ?_
    repeat' (first | (refine run (t := tb) 400 rfl ?_ ?_; (focus (repeat' (first | exact trivial | apply And.intro | omega | (simp only [List.length_append, List.length_cons, List.length_nil, Int.toNat_natCast]; omega))))) | (refine k_op rfl ?_; (refine v_op (g_ldS rfl rfl (by assumption) rfl rfl) rfl rfl ?_)) | (refine k_tt rfl rfl ?_) | (refine k_ff rfl rfl ?_) | (refine k_any (s_any (id := 8) _ (fun _ h => h) mixed ?_); refine x_tks (t := tb) (fuel := 4) [0, 1, 2, 4, 5, 6] (bts 10 119) (by kernel_rfl) (by kernel_rfl) rfl rfl (Gh.le.refl _) sRr trivial ?_; ((refine (x_tkg (bts 10 127) 3 rfl (by kernel_rfl) rfl (Gh.le.refl _) sRr) (g_ldS rfl rfl (by assumption) rfl rfl) rfl rfl ?_)); ((refine (x_tkg (bts 10 255) 7 rfl (by kernel_rfl) rfl (Gh.le.refl _) sRr) (g_ldS rfl rfl (by assumption) rfl rfl) rfl rfl ?_)); refine x_all [8] (by kernel_rfl) (by decide) ⟨?_, trivial⟩; refine x_opg rfl rfl ?_; (refine c_rt rfl rfl rfl cx_l13t rfl ?_); refine x_ks gRr sRr (listed' := (bts 10 511)) (by kernel_rfl) ?_; refine x_tks (t := tb) (fuel := 0) [9] (bts 10 1023) (by kernel_rfl) (by kernel_rfl) rfl rfl (Gh.le.refl _) sRr trivial ?_; refine x_done (by kernel_rfl) (k_bk ?_)))
    refine k_rr (vs := [_]) rfl ⟨rfl, trivial⟩ rfl (List.nil_sublist _) ⟨rfl, rfl, ?_⟩
    rfl
theorem c_lessN {a b : Nat} {x y : List UInt8} {p q : Int} (hl : x.length ≤ 100000 ∧ y.length ≤ 100000) (h1 : numOf x 999999 = some p) (h2 : numOf y 999999 = some q)
    (ha : Seg G a 0 [S [110], S x, nilS, nilS]) (hb : Seg G b 0 [S [110], S y, nilS, nilS]) : PuG Tryz.prog 22 [Pt a 0, Pt b 0] G (· = I (sgn p q)) := by
  have hp : ∀ {x : List UInt8} {p : Int}, x.length ≤ 100000 → numOf x 999999 = some p → PuG Tryz.prog 36 [S x, I 999999] G (· = Tu [I p, Bo true]) := fun hl h => by
    refine (c_l3Num (G := G) (by omega)).mono ?_
    rintro v G' L' ⟨g1, g2, n, rfl, h4⟩
    exact ⟨g1, g2, by rw [h4 _ h, h]; rfl⟩
  have cx_num := hp hl.1 h1
  clear hp
  refine p_enter [(0, _), (1, _)] Tryz.func22 (by kernel_rfl) Tryz.ntmps22 rfl rfl (by repeat' constructor) fun B hB => ?_
  repeat' (first | (refine run (t := tb) 400 rfl ?_ ?_; (focus (repeat' (first | exact trivial | apply And.intro | omega | (simp only [List.length_append, List.length_cons, List.length_nil, Int.toNat_natCast]; omega))))) | (refine k_op rfl ?_; first | refine v_op (g_ldS rfl rfl (by assumption) rfl rfl) rfl rfl ?_ | (refine c_rt rfl rfl rfl cx_num rfl ?_) | (refine c_pu rfl rfl rfl (c_l3Num (by omega)) rfl ?_; rintro _ ⟨n, rfl, hnum⟩) | (refine c_rt rfl rfl rfl c_l13Sign rfl ?_)) | (refine k_tt rfl rfl ?_))
  obtain rfl := hnum _ h2
  repeat' (fail)
  refine k_rr (vs := [_]) rfl ⟨rfl, trivial⟩ rfl (List.nil_sublist _) ⟨rfl, rfl, ?_⟩
  rfl
end Go.E
namespace Go.E
set_option maxRecDepth 20000
set_option maxHeartbeats 2000000
open Go.Proofs
variable {G : Gh}
theorem repR_fld {ts : List Ty} (hw : SchW ts) {t : Ty} {k : List UInt8} (h0 : refT ts k = some t) {fs fs' : List (Fld × V)} {i : Nat} (h1 : (nth fs i).1 ∈ t.fields) (h2 : (nth fs' i).1 ∈ t.fields) (he : (nth fs i).1.tag = (nth fs' i).1.tag) : (nth fs i).1 = (nth fs' i).1 := fld_tag (hw.ty t (refT_mem h0)) h1 h2 he
theorem cmp_fld {t t' : Int} {v u : V} (h : t ≠ t') : V.cmp (.nd 61 [] t [v]) (.nd 61 [] t' [u]) = sgn t t' := by rw [V.cmp, if_neg (by decide), if_neg (by decide), if_neg (by decide)]; exact if_pos ⟨.inr rfl, h⟩
theorem cmp_fld2 {t : Int} {v u : V} : V.cmp (.nd 61 [] t [v]) (.nd 61 [] t [u]) = V.cmp v u := by
  rw [V.cmp, if_neg (by decide), if_neg (by decide), if_neg (by decide), V.tag, if_neg (fun h => h.2 rfl), V.kids, V.cmps]
  split
  · rfl
  · rename_i h; rw [V.cmps]; simp only [ne_eq, Decidable.not_not] at h; rw [h]; rfl
theorem cmps_one {v u : V} : V.cmps [v] [u] = V.cmp v u := by
  rw [V.cmps]
  split
  · rfl
  · rename_i h; rw [V.cmps]; simp only [ne_eq, Decidable.not_not] at h; rw [h]; rfl
theorem cmp_uni {t t' : Int} {v u : V} : V.cmp (.nd 85 [] t [v]) (.nd 85 [] t' [u]) = V.cmp (.nd 61 [] t [v]) (.nd 61 [] t' [u]) := by
  rw [V.cmp, if_neg (by decide), if_neg (by decide), if_neg (by decide)]
  by_cases h : t = t'
  · subst h
    rw [V.tag, if_neg (fun h => h.2 rfl), V.kids, cmps_one, cmp_fld2]
  · rw [cmp_fld h]; exact if_pos ⟨.inl rfl, h⟩
theorem cmp_lst {w : Nat} {ks us : List V} (h : w = 91 ∨ w = 63 ∨ w = 82) : V.cmp (.nd w [] 0 ks) (.nd w [] 0 us) = V.cmps ks us := by
  rw [V.cmp, if_neg (by omega), if_neg (by omega), if_neg (by omega)]
  exact if_neg (fun h => h.2 rfl)
theorem repR_k {ts : List Ty} {v : V} {k : List UInt8} {b : Nat} (h : RepR G ts v k b) {t : Ty} (hr : refT ts k = some t) :
    (t.sort = 82 ∧ ∃ (fs : List (Fld × V)) (bs : List Nat) (a a2 : Option Addr) (c c2 : Nat), v = .nd 82 [] 0 (fs.map fldV) ∧ Seg G b 0 [S k, S [82], .slice a fs.length c, .slice a2 fs.length c2] ∧ SlV G (.slice a fs.length c) 1 fs.length (rows inR (fs.map fun p => p.1.tag)) ∧ SlV G (.slice a2 fs.length c2) 1 fs.length (rows ptR bs) ∧ bs.length = fs.length ∧ (∀ i, i < fs.length → (nth fs i).1 ∈ t.fields) ∧ (∀ i, i < fs.length → RepR G ts (nth fs i).2 (nth fs i).1.kind (nth bs i)))
    ∨ (t.sort = 69 ∧ ∃ p d, v = .nd 69 [] d.tag [] ∧ d ∈ t.fields ∧ Seg G b 0 [S k, S [69], .slice (some ⟨p, 0, none⟩) 1 1, nilS] ∧ Seg G p 0 [I d.tag])
    ∨ (t.sort = 85 ∧ ∃ p q b' d u, v = .nd 85 [] d.tag [u] ∧ d ∈ t.fields ∧ Seg G b 0 [S k, S [85], .slice (some ⟨p, 0, none⟩) 1 1, .slice (some ⟨q, 0, none⟩) 1 1] ∧ Seg G p 0 [I d.tag] ∧ Seg G q 0 [Pt b' 0] ∧ RepR G ts u d.kind b') := by
  cases h with
  | leaf w x _ tx _ h1 h2 =>
    rcases h2 with ⟨_, rfl, _⟩ | ⟨_, rfl, _⟩ | ⟨_, rfl, _⟩
    all_goals exact (refT_no hr rfl (by decide)).elim
  | lst => exact (refT_no hr rfl (by decide)).elim
  | non => exact (refT_no hr rfl (by decide)).elim
  | opt => exact (refT_no hr rfl (by decide)).elim
  | recd _ _ t' fs bs a a2 c c2 h0 h1 h2 h3 h4 h5 hk => rw [hr] at h0; obtain ⟨h0, h9⟩ := h0; obtain rfl := Option.some.inj h0; exact .inl ⟨h9, fs, bs, a, a2, c, c2, rfl, h1, h2, h3, h4, h5, hk⟩
  | enm _ _ p t' d h0 h1 h2 h3 => rw [hr] at h0; obtain ⟨h0, h9⟩ := h0; obtain rfl := Option.some.inj h0; exact .inr (.inl ⟨h9, p, d, rfl, h1, h2, h3⟩)
  | uni _ _ p q b' t' d u h0 h1 h2 h3 h4 hk => rw [hr] at h0; obtain ⟨h0, h9⟩ := h0; obtain rfl := Option.some.inj h0; exact .inr (.inr ⟨h9, p, q, b', d, u, rfl, h1, h2, h3, h4, hk⟩)
theorem repR_c {ts : List Ty} {v : V} {c : UInt8} {k : List UInt8} {b : Nat} (h : RepR G ts v (c :: k) b) (hc : c.toNat ≠ 64) :
    (c.toNat = 110 ∧ k = [] ∧ ∃ x, v = .nd 110 x 0 [] ∧ Seg G b 0 [S [110], S x, nilS, nilS]) ∨ (c.toNat = 116 ∧ ∃ x, v = .nd 116 x 0 [] ∧ Seg G b 0 [S [116], S (39 :: (x ++ [39])), nilS, nilS]) ∨ (c.toNat = 102 ∧ ∃ x, v = .nd 102 x 0 [] ∧ (x = [121, 101, 115] ∨ x = [110, 111]) ∧ Seg G b 0 [S [102], S x, nilS, nilS])
    ∨ (c.toNat = 91 ∧ ∃ ks bs a cc, v = .nd 91 [] 0 ks ∧ Seg G b 0 [S (c :: k), S [], nilS, .slice a ks.length cc] ∧ SlV G (.slice a ks.length cc) 1 ks.length (rows ptR bs) ∧ bs.length = ks.length ∧ (∀ i, i < ks.length → RepR G ts (nth ks i) k (nth bs i)))
    ∨ (c.toNat = 63 ∧ ((v = .nd 63 [] 0 [] ∧ Seg G b 0 [S (c :: k), S [], nilS, nilS]) ∨ ∃ q b' u, v = .nd 63 [] 0 [u] ∧ Seg G b 0 [S (c :: k), S [], nilS, .slice (some ⟨q, 0, none⟩) 1 1] ∧ Seg G q 0 [Pt b' 0] ∧ RepR G ts u k b')) := by
  generalize hk : c :: k = k' at h
  cases h with
  | leaf w x _ tx _ h1 h2 =>
    rcases h2 with ⟨rfl, rfl, rfl, _⟩ | ⟨rfl, rfl, rfl⟩ | ⟨rfl, rfl, rfl, h3⟩
    · injection hk with e1 e2; subst e1; subst e2; exact .inl ⟨rfl, rfl, tx, rfl, h1⟩
    · injection hk with e1 e2; subst e1; exact .inr (.inl ⟨rfl, x, rfl, h1⟩)
    · injection hk with e1 e2; subst e1; exact .inr (.inr (.inl ⟨rfl, tx, rfl, h3, h1⟩))
  | lst k b ks bs a cc h1 h2 h3 h4 => injection hk with e1 e2; subst e1; subst e2; exact .inr (.inr (.inr (.inl ⟨rfl, ks, bs, a, cc, rfl, h1, h2, h3, h4⟩)))
  | non k b h1 => injection hk with e1 e2; subst e1; subst e2; exact .inr (.inr (.inr (.inr ⟨rfl, .inl ⟨rfl, h1⟩⟩)))
  | opt k b q b' u h1 h2 h3 => injection hk with e1 e2; subst e1; subst e2; exact .inr (.inr (.inr (.inr ⟨rfl, .inr ⟨q, b', u, rfl, h1, h2, h3⟩⟩)))
  | recd _ _ t' fs bs a a2 c c2 h0 => exact (refT_no h0.1 hk.symm hc).elim
  | enm _ _ p t' d h0 => exact (refT_no h0.1 hk.symm hc).elim
  | uni _ _ p q b' t' d u h0 => exact (refT_no h0.1 hk.symm hc).elim
theorem slv_nil0 {xs : List Nat} (h : xs = []) : SlV G (.slice none 0 0) 1 0 (rows ptR xs) := by subst h; exact ⟨rfl, .inl ⟨rfl, rfl⟩⟩
theorem c_less {ts : List Ty} (hw : SchW ts) {v : V} {k : List UInt8} {b : Nat} (h : RepR G ts v k b) : ∀ {u : V} {b' : Nat}, v.wf → u.wf → v.tot ≤ 100000 → u.tot ≤ 100000 → RepR G ts u k b' → PuG Tryz.prog 22 [Pt b 0, Pt b' 0] G (· = I (v.cmp u)) := by
  induction h with
  | leaf w x k tx b h1 h2 =>
    intro u b' hv hu htv htu hr
    rw [nd_tot] at htv
    rcases h2 with ⟨rfl, rfl, rfl, _⟩ | ⟨rfl, rfl, rfl⟩ | ⟨rfl, rfl, rfl, h3⟩
    · rcases repR_c hr (by decide) with ⟨_, _, y, rfl, h4⟩ | ⟨h, _⟩ | ⟨h, _⟩ | ⟨h, _⟩ | ⟨h, _⟩
      · rw [nd_tot] at htu
        obtain ⟨p, hp⟩ := num_wf hv
        obtain ⟨q, hq⟩ := num_wf hu
        have e : V.cmp (.nd 110 tx 0 []) (.nd 110 y 0 []) = sgn p q := by rw [V.cmp, if_pos rfl, hp, V.text, hq]; rfl
        rw [e]
        exact c_lessN (by omega) hp hq h1 h4
      all_goals cases h
    · rcases repR_c hr (by decide) with ⟨h, _⟩ | ⟨_, y, rfl, h4⟩ | ⟨h, _⟩ | ⟨h, _⟩ | ⟨h, _⟩
      · cases h
      · rw [nd_tot] at htu
        have e : V.cmp (.nd 116 x 0 []) (.nd 116 y 0 []) = cmpB x y := by rw [V.cmp, if_neg (by decide), if_pos (.inl rfl)]; rfl
        rw [e]
        exact c_lessF (.inr (.inl ⟨rfl, rfl, rfl, rfl⟩)) (by omega) h1 h4
      all_goals cases h
    · rcases repR_c hr (by decide) with ⟨h, _⟩ | ⟨h, _⟩ | ⟨_, y, rfl, _, h4⟩ | ⟨h, _⟩ | ⟨h, _⟩
      · cases h
      · cases h
      · rw [nd_tot] at htu
        have e : V.cmp (.nd 102 tx 0 []) (.nd 102 y 0 []) = cmpB tx y := by rw [V.cmp, if_neg (by decide), if_pos (.inr rfl)]; rfl
        rw [e]
        exact c_lessF (.inr (.inr ⟨rfl, rfl, rfl, rfl, h3⟩)) (by omega) h1 h4
      all_goals cases h
  | lst k b ks bs a c h1 h2 h3 hk ih =>
    intro u b' hv hu htv htu hr
    rcases repR_c hr (by decide) with ⟨h, _⟩ | ⟨h, _⟩ | ⟨h, _⟩ | ⟨_, us, cs, a', c', rfl, g1, g2, g3, g4⟩ | ⟨h, _⟩
    · cases h
    · cases h
    · cases h
    · rw [nd_tot] at htv htu
      have hkl := tots_len ks
      have hul := tots_len us
      rw [cmp_lst (.inl rfl)]
      refine c_lessL (.inl rfl) rfl rfl (by omega) h1 g1 h2 g2 h3 g3 fun i hi hj => ?_
      have h4 := tot_nth hi
      have h5 := tot_nth hj
      exact ih i hi (wf_nth (wf_kids hv) hi) (wf_nth (wf_kids hu) hj) (by omega) (by omega) (g4 i hj)
    · cases h
  | non k b h1 =>
    intro u b' hv hu htv htu hr
    rcases repR_c hr (by decide) with ⟨h, _⟩ | ⟨h, _⟩ | ⟨h, _⟩ | ⟨h, _⟩ | ⟨_, ⟨rfl, g1⟩ | ⟨q, b2, u, rfl, g1, g2, g3⟩⟩
    · cases h
    · cases h
    · cases h
    · cases h
    · rw [cmp_lst (.inr (.inl rfl))]
      exact c_lessL (bs := []) (cs := []) (.inr rfl) rfl rfl (by simp) h1 g1 (slv_nil0 rfl) (slv_nil0 rfl) rfl rfl fun i hi => absurd hi (by simp)
    · rw [cmp_lst (.inr (.inl rfl))]
      exact c_lessL (bs := []) (cs := [b2]) (.inr rfl) rfl rfl (by simp) h1 g1 (slv_nil0 rfl) (slv_one g2) rfl rfl fun i hi => absurd hi (by simp)
  | opt k b kb b1 v h1 h2 h3 ih =>
    intro u b' hv hu htv htu hr
    rcases repR_c hr (by decide) with ⟨h, _⟩ | ⟨h, _⟩ | ⟨h, _⟩ | ⟨h, _⟩ | ⟨_, ⟨rfl, g1⟩ | ⟨q, b2, u, rfl, g1, g2, g3⟩⟩
    · cases h
    · cases h
    · cases h
    · cases h
    · rw [cmp_lst (.inr (.inl rfl))]
      exact c_lessL (bs := [b1]) (cs := []) (.inr rfl) rfl rfl (by simp) h1 g1 (slv_one h2) (slv_nil0 rfl) rfl rfl fun i _ hi => absurd hi (by simp)
    · rw [cmp_lst (.inr (.inl rfl))]
      simp only [nd_tot, V.tots] at htv htu
      refine c_lessL (bs := [b1]) (cs := [b2]) (.inr rfl) rfl rfl (by simp) h1 g1 (slv_one h2) (slv_one g2) rfl rfl fun i hi _ => ?_
      have h0 : i = 0 := by simpa using hi
      subst h0
      show PuG _ _ [Pt b1 0, Pt b2 0] G (· = I (V.cmp v u))
      exact ih (wf_kids hv).1 (wf_kids hu).1 (by omega) (by omega) g3
  | recd k b t fs bs a a2 c c2 h0 h1 h2 h3 h4 h5 hk ih =>
    intro u b' hv hu htv htu hr
    obtain ⟨r, rfl⟩ := refT_64 h0.1
    rcases repR_k hr h0.1 with ⟨_, fs', cs, p, p2, q, q2, rfl, g1, g2, g3, g4, g5, g6⟩ | ⟨h, _⟩ | ⟨h, _⟩
    · have hnt : ∀ (fs : List (Fld × V)) i, i < fs.length → nth (fs.map fldV) i = fldV (nth fs i) := fun fs i hi => by rw [nth_eq (by simpa using hi), nth_eq hi]; simp
      have htn : ∀ (fs : List (Fld × V)) i, i < fs.length → nth (fs.map fun p : Fld × V => p.1.tag) i = (nth fs i).1.tag := fun fs i hi => by rw [nth_eq (by simpa using hi), nth_eq hi]; simp
      rw [nd_tot] at htv htu
      have e0 : (fs.map fun p : Fld × V => V.nd 61 [] p.1.tag [p.2]) = fs.map fldV := rfl
      rw [e0] at hv htv ⊢
      have hkl := tots_len (fs.map fldV)
      have hul := tots_len (fs'.map fldV)
      have e1 : (fs.map fldV).length = fs.length := by simp
      have e2 : (fs'.map fldV).length = fs'.length := by simp
      rw [cmp_lst (.inr (.inr rfl))]
      refine c_lessT (KS := fs.map fldV) (US := fs'.map fldV) e1.symm e2.symm (by omega) h1 g1 h3 g3 h4 g4 h2 g2 (by simp) (by simp) fun i hi hj => ?_
      rw [htn fs i hi, htn fs' i hj, hnt fs i hi, hnt fs' i hj]
      by_cases ht : (nth fs i).1.tag = (nth fs' i).1.tag
      · have hd := repR_fld hw h0.1 (h5 i hi) (g5 i hj) ht
        have h7 := tot_nth (ks := fs.map fldV) (i := i) (by omega)
        have h8 := tot_nth (ks := fs'.map fldV) (i := i) (by omega)
        have w7 := wf_nth (wf_kids hv) (i := i) (by omega)
        have w8 := wf_nth (wf_kids hu) (i := i) (by omega)
        rw [hnt fs i hi] at h7 w7
        rw [hnt fs' i hj] at h8 w8
        simp only [nd_tot, V.tots] at h7 h8
        refine .inr ⟨ht, ?_⟩
        rw [show fldV (nth fs i) = .nd 61 [] (nth fs' i).1.tag [(nth fs i).2] by rw [← ht], cmp_fld2]
        exact ih i hi (wf_kids w7).1 (wf_kids w8).1 (by omega) (by omega) (by rw [hd]; exact g6 i hj)
      · exact .inl ⟨ht, cmp_fld ht⟩
    · omega
    · omega
  | enm k b tgb t d h0 h1 h2 h3 =>
    intro u b' hv hu htv htu hr
    obtain ⟨r, rfl⟩ := refT_64 h0.1
    rcases repR_k hr h0.1 with ⟨h, _⟩ | ⟨_, p, d', rfl, _, g2, g3⟩ | ⟨h, _⟩
    · omega
    · have e : V.cmp (.nd 69 [] d.tag []) (.nd 69 [] d'.tag []) = sgn d.tag d'.tag := by rw [V.cmp, if_neg (by decide), if_neg (by decide), if_pos rfl]; rfl
      rw [e]
      exact c_lessE h2 g2 h3 g3
    · omega
  | uni k b tgb kb b1 t d v h0 h1 h2 h3 h4 hk ih =>
    intro u b' hv hu htv htu hr
    obtain ⟨r, rfl⟩ := refT_64 h0.1
    rcases repR_k hr h0.1 with ⟨h, _⟩ | ⟨h, _⟩ | ⟨_, p, q, b2, d', u, rfl, g1, g2, g3, g4, g5⟩
    · omega
    · omega
    · simp only [nd_tot, V.tots] at htv htu
      rw [cmp_uni, ← cmps_one]
      refine c_lessT (KS := [fldV (d, v)]) (US := [fldV (d', u)]) (tg := [d.tag]) (sg := [d'.tag]) (bs := [b1]) (cs := [b2]) rfl rfl (by simp) h2 g2 (slv_one h4) (slv_one g4) rfl rfl (slv_one h3) (slv_one g3) rfl rfl fun i hi _ => ?_
      have h9 : i = 0 := by have h8 : i < 1 := hi; omega
      subst h9
      by_cases ht : d.tag = d'.tag
      · have hd := fld_tag (hw.ty t (refT_mem h0.1)) h1 g1 ht
        refine .inr ⟨ht, ?_⟩
        show PuG _ _ _ _ (· = I (V.cmp (fldV (d, v)) (fldV (d', u))))
        rw [show fldV (d, v) = .nd 61 [] d'.tag [v] by rw [← ht], cmp_fld2]
        show PuG _ _ [Pt b1 0, Pt b2 0] G (· = I (V.cmp v u))
        exact ih (wf_kids hv).1 (wf_kids hu).1 (by omega) (by omega) (by rw [hd]; exact g5)
      · exact .inl ⟨ht, cmp_fld ht⟩
end Go.E
namespace Go.E
set_option maxRecDepth 20000
set_option maxHeartbeats 2000000
open Go.Proofs
variable {G : Gh}
theorem given_some {s k w : List UInt8} {u : V} (hg : givenV s k w = some u) : ∃ ts, schemaOf s = some ts ∧ kindIn ts k = true ∧ valOf ts k w = some u ∧ u.tot ≤ 40000 ∧ u.wf := by
  obtain ⟨ts, hs, hki, hvo⟩ : ∃ ts, schemaOf s = some ts ∧ kindIn ts k = true ∧ valOf ts k w = some u := by
    unfold givenV at hg
    cases hs : schemaOf s with
    | none => rw [hs] at hg; cases hg
    | some ts =>
      rw [hs] at hg
      dsimp only at hg
      by_cases hk : kindIn ts k = true
      · rw [if_pos hk] at hg; exact ⟨ts, rfl, hk, hg⟩
      · rw [if_neg hk] at hg; cases hg
  refine ⟨ts, hs, hki, hvo, ?_, (valOf_wf hvo).1⟩
  unfold valOf at hvo
  split at hvo
  · split at hvo
    · rename_i v hv
      obtain rfl := Option.some.inj hvo
      have := rd_tot _ _ _ _ hv
      dsimp only at this; omega
    · cases hvo
  · cases hvo
end Go.E
namespace Go.E
set_option maxRecDepth 20000
set_option maxHeartbeats 2000000
open Go.Proofs
variable {G : Gh}
def lessV (s k w t : List UInt8) : Bool := match givenV s k w, givenV s k t with
  | some u, some v => decide (V.cmp u v < 0)
  | _, _ => false
theorem c_ValueLessI {s k w t : List UInt8} (h1 : s.length ≤ 1048576 ∧ k.length ≤ 1048576 ∧ w.length ≤ 1048576 ∧ t.length ≤ 1048576) : PuG Tryz.prog 11 [S s, S k, S w, S t] G (· = Bo (lessV s k w t)) := by
  unfold lessV
  cases hg : givenV s k w with
  | none =>
    have cx_ga0 := fun G => c_given0 (G := G) (s := s) (k := k) (w := w) (by omega) hg
    cases hg2 : givenV s k t with
    | none =>
      have cx_gb0 := fun G => c_given0 (G := G) (s := s) (k := k) (w := t) (by omega) hg2
      refine b_enter (Post := fun v G' L' => G' = G ∧ L' = [] ∧ _) [(0, _), (1, _), (2, _), (3, _)] Tryz.func11 (by kernel_rfl) Tryz.ntmps11 rfl rfl (by repeat' constructor) fun B hok hB hW => ?_
      repeat' (first | (refine run (t := tb) 400 rfl trivial ?_) | (refine k_op rfl ?_; first | refine c_al rfl rfl fun _ => ?_ | refine c_stA rfl rfl rfl rfl rfl rfl ?_ | (refine v_op (g_pickF rfl rfl rfl) rfl rfl ?_) | (refine c_fns rfl rfl rfl (cx_ga0 _) rfl ?_; rintro _ G hle ⟨p1, a1, b1, c1, rfl⟩; skip) | (refine c_fns rfl rfl rfl (cx_gb0 _) rfl ?_; rintro _ G hle ⟨p2, a2, b2, c2, rfl⟩; skip)) | (refine k_gf rfl rfl rfl ?_))
      all_goals refine Nx.base hok hB ?_
      all_goals refine k_rr (vs := [_]) rfl ⟨rfl, trivial⟩ rfl (List.nil_sublist _) ⟨rfl, rfl, ?_⟩
      all_goals rfl
    | some v =>
      obtain ⟨ts, hs, hki, hvo, hto, hwf⟩ := given_some hg2
      have cx_gb1 := fun G => c_given1 (G := G) (s := s) (k := k) (w := t) (by omega) hs hki hvo
      refine b_enter (Post := fun v G' L' => G' = G ∧ L' = [] ∧ _) [(0, _), (1, _), (2, _), (3, _)] Tryz.func11 (by kernel_rfl) Tryz.ntmps11 rfl rfl (by repeat' constructor) fun B hok hB hW => ?_
      repeat' (first | (refine run (t := tb) 400 rfl trivial ?_) | (refine k_op rfl ?_; first | refine c_al rfl rfl fun _ => ?_ | refine c_stA rfl rfl rfl rfl rfl rfl ?_ | (refine v_op (g_pickF rfl rfl rfl) rfl rfl ?_) | (refine c_fns rfl rfl rfl (cx_ga0 _) rfl ?_; rintro _ G hle ⟨p1, a1, b1, c1, rfl⟩; skip) | (refine c_fns rfl rfl rfl (cx_gb1 _) rfl ?_; rintro _ G hle ⟨bh, qh, cw, rfl, hTh, hRh, hrw⟩; skip)) | (refine k_gf rfl rfl rfl ?_))
      all_goals refine Nx.base hok hB ?_
      all_goals refine k_rr (vs := [_]) rfl ⟨rfl, trivial⟩ rfl (List.nil_sublist _) ⟨rfl, rfl, ?_⟩
      all_goals rfl
  | some u =>
    obtain ⟨ts, hs, hki, hvo, hto, hwf⟩ := given_some hg
    have cx_ga1 := fun G => c_given1 (G := G) (s := s) (k := k) (w := w) (by omega) hs hki hvo
    cases hg2 : givenV s k t with
    | none =>
      have cx_gb0 := fun G => c_given0 (G := G) (s := s) (k := k) (w := t) (by omega) hg2
      refine b_enter (Post := fun v G' L' => G' = G ∧ L' = [] ∧ _) [(0, _), (1, _), (2, _), (3, _)] Tryz.func11 (by kernel_rfl) Tryz.ntmps11 rfl rfl (by repeat' constructor) fun B hok hB hW => ?_
      repeat' (first | (refine run (t := tb) 400 rfl trivial ?_) | (refine k_op rfl ?_; first | refine c_al rfl rfl fun _ => ?_ | refine c_stA rfl rfl rfl rfl rfl rfl ?_ | (refine v_op (g_pickT rfl rfl rfl) rfl rfl ?_) | (refine v_op (g_pickF rfl rfl rfl) rfl rfl ?_) | (refine c_fns rfl rfl rfl (cx_ga1 _) rfl ?_; rintro _ G hle ⟨bg, qg, cv, rfl, hTg, hRg, hrv⟩; skip) | (refine c_fns rfl rfl rfl (cx_gb0 _) rfl ?_; rintro _ G hle ⟨p2, a2, b2, c2, rfl⟩; skip)) | (refine k_gt rfl rfl rfl ?_) | (refine k_gf rfl rfl rfl ?_))
      all_goals refine Nx.base hok hB ?_
      all_goals refine k_rr (vs := [_]) rfl ⟨rfl, trivial⟩ rfl (List.nil_sublist _) ⟨rfl, rfl, ?_⟩
      all_goals rfl
    | some v =>
      obtain ⟨ts2, hs2, _, hvo2, hto2, hwf2⟩ := given_some hg2
      obtain rfl : ts = ts2 := Option.some.inj (hs.symm.trans hs2)
      have cx_gb1 := fun G => c_given1 (G := G) (s := s) (k := k) (w := t) (by omega) hs hki hvo2
      have cx_cpr : ∀ {G : Gh} {c d : VC}, V.rep G u c → V.rep G v d → PuG Tryz.prog 23 [Ag (vcF c), Ag (vcF d)] G (· = I (V.cmp u v)) := fun h3 h4 => c_cmp u.tot (Nat.le_refl _) (by omega) (by omega) hwf hwf2 (ofK_ck (schemaOf_w hs) (valOf_of_k hvo) (valOf_of_k hvo2)) h3 h4
      dsimp only
      generalize V.cmp u v = z at *
      refine b_enter (Post := fun v G' L' => G' = G ∧ L' = [] ∧ _) [(0, _), (1, _), (2, _), (3, _)] Tryz.func11 (by kernel_rfl) Tryz.ntmps11 rfl rfl (by repeat' constructor) fun B hok hB hW => ?_
      repeat' (first | (refine run (t := tb) 400 rfl trivial ?_) | (refine k_op rfl ?_; first | refine c_al rfl rfl fun _ => ?_ | refine c_stA rfl rfl rfl rfl rfl rfl ?_ | (refine v_op (g_pickT rfl rfl rfl) rfl rfl ?_) | refine v_op (g_ldA rfl rfl rfl rfl) rfl rfl ?_ | (refine c_fns rfl rfl rfl (cx_ga1 _) rfl ?_; rintro _ G hle ⟨bg, qg, cv, rfl, hTg, hRg, hrv⟩; (try have hrv := rep_mono hle hrv)) | (refine c_fns rfl rfl rfl (cx_gb1 _) rfl ?_; rintro _ G hle ⟨bh, qh, cw, rfl, hTh, hRh, hrw⟩; (try have hrv := rep_mono hle hrv)) | (refine c_rt rfl rfl rfl (cx_cpr (by (repeat (assumption)); done) (by (repeat (assumption)); done)) rfl ?_)) | (refine k_gt rfl rfl rfl ?_))
      all_goals refine Nx.base hok hB ?_
      all_goals refine k_rr (vs := [_]) rfl ⟨rfl, trivial⟩ rfl (List.nil_sublist _) ⟨rfl, rfl, ?_⟩
      all_goals rfl
theorem c_ValueLessS {s k w t : List UInt8} (h1 : s.length ≤ 1048576 ∧ k.length ≤ 1048576 ∧ w.length ≤ 1048576 ∧ t.length ≤ 1048576) : PuG Tryz.prog 10 [S s, S k, S w, S t] G (· = Bo (lessV s k w t)) := by
  unfold lessV
  cases hg : givenV s k w with
  | none =>
    have cx_la0 := fun G => c_l4Of0 (G := G) (s := s) (k := k) (w := w) (by omega) hg
    cases hg2 : givenV s k t with
    | none =>
      have cx_lb0 := fun G => c_l4Of0 (G := G) (s := s) (k := k) (w := t) (by omega) hg2
      refine b_enter (Post := fun v G' L' => G' = G ∧ L' = [] ∧ _) [(0, _), (1, _), (2, _), (3, _)] Tryz.func10 (by kernel_rfl) Tryz.ntmps10 rfl rfl (by repeat' constructor) fun B hok hB hW => ?_
      repeat' (first | (refine run (t := tb) 400 rfl trivial ?_) | (refine k_op rfl ?_; first | (refine v_op (g_pickF rfl rfl rfl) rfl rfl ?_) | (refine c_fns rfl rfl rfl (cx_la0 _) rfl ?_; rintro _ G hle ⟨ua, qa, rfl⟩; skip) | (refine c_fns rfl rfl rfl (cx_lb0 _) rfl ?_; rintro _ G hle ⟨ub, qb, rfl⟩; skip)) | (refine k_gf rfl rfl rfl ?_))
      all_goals refine Nx.base hok hB ?_
      all_goals refine k_rr (vs := [_]) rfl ⟨rfl, trivial⟩ rfl (List.nil_sublist _) ⟨rfl, rfl, ?_⟩
      all_goals rfl
    | some v =>
      obtain ⟨ts, hs, hki, hvo, hto, hwf⟩ := given_some hg2
      have cx_lb1 := fun G => c_l4Of1 (G := G) (s := s) (k := k) (w := t) (by omega) hs hki hvo
      refine b_enter (Post := fun v G' L' => G' = G ∧ L' = [] ∧ _) [(0, _), (1, _), (2, _), (3, _)] Tryz.func10 (by kernel_rfl) Tryz.ntmps10 rfl rfl (by repeat' constructor) fun B hok hB hW => ?_
      repeat' (first | (refine run (t := tb) 400 rfl trivial ?_) | (refine k_op rfl ?_; first | (refine v_op (g_pickF rfl rfl rfl) rfl rfl ?_) | (refine c_fns rfl rfl rfl (cx_la0 _) rfl ?_; rintro _ G hle ⟨ua, qa, rfl⟩; skip) | (refine c_fns rfl rfl rfl (cx_lb1 _) rfl ?_; rintro _ G hle ⟨ub, qb, rfl, hyb⟩; skip)) | (refine k_gf rfl rfl rfl ?_))
      all_goals refine Nx.base hok hB ?_
      all_goals refine k_rr (vs := [_]) rfl ⟨rfl, trivial⟩ rfl (List.nil_sublist _) ⟨rfl, rfl, ?_⟩
      all_goals rfl
  | some u =>
    obtain ⟨ts, hs, hki, hvo, hto, hwf⟩ := given_some hg
    have cx_la1 := fun G => c_l4Of1 (G := G) (s := s) (k := k) (w := w) (by omega) hs hki hvo
    cases hg2 : givenV s k t with
    | none =>
      have cx_lb0 := fun G => c_l4Of0 (G := G) (s := s) (k := k) (w := t) (by omega) hg2
      refine b_enter (Post := fun v G' L' => G' = G ∧ L' = [] ∧ _) [(0, _), (1, _), (2, _), (3, _)] Tryz.func10 (by kernel_rfl) Tryz.ntmps10 rfl rfl (by repeat' constructor) fun B hok hB hW => ?_
      repeat' (first | (refine run (t := tb) 400 rfl trivial ?_) | (refine k_op rfl ?_; first | (refine v_op (g_pickT rfl rfl rfl) rfl rfl ?_) | (refine v_op (g_pickF rfl rfl rfl) rfl rfl ?_) | (refine c_fns rfl rfl rfl (cx_la1 _) rfl ?_; rintro _ G hle ⟨ua, qa, rfl, hya⟩; skip) | (refine c_fns rfl rfl rfl (cx_lb0 _) rfl ?_; rintro _ G hle ⟨ub, qb, rfl⟩; skip)) | (refine k_gt rfl rfl rfl ?_) | (refine k_gf rfl rfl rfl ?_))
      all_goals refine Nx.base hok hB ?_
      all_goals refine k_rr (vs := [_]) rfl ⟨rfl, trivial⟩ rfl (List.nil_sublist _) ⟨rfl, rfl, ?_⟩
      all_goals rfl
    | some v =>
      obtain ⟨ts2, hs2, _, hvo2, hto2, hwf2⟩ := given_some hg2
      obtain rfl : ts = ts2 := Option.some.inj (hs.symm.trans hs2)
      have cx_lb1 := fun G => c_l4Of1 (G := G) (s := s) (k := k) (w := t) (by omega) hs hki hvo2
      have cx_lsr : ∀ {G : Gh} {c d : Nat}, RepR G ts u k c → RepR G ts v k d → PuG Tryz.prog 22 [Pt c 0, Pt d 0] G (· = I (V.cmp u v)) := fun h3 h4 => c_less (schemaOf_w hs) h3 hwf hwf2 (by omega) (by omega) h4
      dsimp only
      generalize V.cmp u v = z at *
      refine b_enter (Post := fun v G' L' => G' = G ∧ L' = [] ∧ _) [(0, _), (1, _), (2, _), (3, _)] Tryz.func10 (by kernel_rfl) Tryz.ntmps10 rfl rfl (by repeat' constructor) fun B hok hB hW => ?_
      repeat' (first | (refine run (t := tb) 400 rfl trivial ?_) | (refine k_op rfl ?_; first | (refine v_op (g_pickT rfl rfl rfl) rfl rfl ?_) | (refine c_fns rfl rfl rfl (cx_la1 _) rfl ?_; rintro _ G hle ⟨ua, qa, rfl, hya⟩; (try have hya := RepR.mono hle hya)) | (refine c_fns rfl rfl rfl (cx_lb1 _) rfl ?_; rintro _ G hle ⟨ub, qb, rfl, hyb⟩; (try have hya := RepR.mono hle hya)) | (refine c_rt rfl rfl rfl (cx_lsr (by (repeat (assumption)); done) (by (repeat (assumption)); done)) rfl ?_)) | (refine k_gt rfl rfl rfl ?_))
      all_goals refine Nx.base hok hB ?_
      all_goals refine k_rr (vs := [_]) rfl ⟨rfl, trivial⟩ rfl (List.nil_sublist _) ⟨rfl, rfl, ?_⟩
      all_goals rfl
theorem c_FnExactValueLess {s k w x : List UInt8} (h : s.length ≤ 9223372036854775807 ∧ k.length ≤ 9223372036854775807 ∧ w.length ≤ 9223372036854775807 ∧ x.length ≤ 9223372036854775807) : PuG Tryz.prog 4 [S s, S k, S w, S x] G (· = Bo true) := by
  by_cases h1 : s.length ≤ 1048576 ∧ k.length ≤ 1048576 ∧ w.length ≤ 1048576 ∧ x.length ≤ 1048576
  · have cx_ss1 := c_ValueLessI (G := G) h1
    have cx_ss2 := c_ValueLessS (G := G) h1
    refine p_enter [(0, _), (1, _), (2, _), (3, _)] Tryz.func4 (by kernel_rfl) Tryz.ntmps4 rfl rfl (by repeat' constructor) fun B hB => ?_
    repeat' (first | (refine run (t := tb) 400 rfl trivial ?_) | (refine k_op rfl ?_; first | (refine c_rt rfl rfl rfl cx_ss2 rfl ?_) | (refine c_rt rfl rfl rfl cx_ss1 rfl ?_)) | (refine k_ff rfl ?_ ?_; (focus ((first | (refine decide_eq_false ?_; (omega)) | (simp [*]; done)); done))))
    all_goals refine k_rr (vs := [_]) rfl ⟨rfl, trivial⟩ rfl (List.nil_sublist _) ⟨rfl, rfl, ?_⟩
    all_goals rfl
  · by_cases ha : s.length ≤ 1048576
    case neg =>
      refine p_enter [(0, _), (1, _), (2, _), (3, _)] Tryz.func4 (by kernel_rfl) Tryz.ntmps4 rfl rfl (by repeat' constructor) fun B hB => ?_
      repeat' (first | (refine run (t := tb) 400 rfl trivial ?_) | (refine k_tt rfl (dTt (by omega)) ?_))
      refine k_rr (vs := [_]) rfl ⟨rfl, trivial⟩ rfl (List.nil_sublist _) ⟨rfl, rfl, ?_⟩
      rfl
    by_cases hb : k.length ≤ 1048576
    case neg =>
      refine p_enter [(0, _), (1, _), (2, _), (3, _)] Tryz.func4 (by kernel_rfl) Tryz.ntmps4 rfl rfl (by repeat' constructor) fun B hB => ?_
      repeat' (first | (refine run (t := tb) 400 rfl trivial ?_) | (refine k_tt rfl (dTt (by omega)) ?_) | (refine k_ff rfl (dFf (by omega)) ?_))
      refine k_rr (vs := [_]) rfl ⟨rfl, trivial⟩ rfl (List.nil_sublist _) ⟨rfl, rfl, ?_⟩
      rfl
    by_cases hc : w.length ≤ 1048576
    case neg =>
      refine p_enter [(0, _), (1, _), (2, _), (3, _)] Tryz.func4 (by kernel_rfl) Tryz.ntmps4 rfl rfl (by repeat' constructor) fun B hB => ?_
      repeat' (first | (refine run (t := tb) 400 rfl trivial ?_) | (refine k_tt rfl (dTt (by omega)) ?_) | (refine k_ff rfl (dFf (by omega)) ?_))
      refine k_rr (vs := [_]) rfl ⟨rfl, trivial⟩ rfl (List.nil_sublist _) ⟨rfl, rfl, ?_⟩
      rfl
    have hd : ¬ x.length ≤ 1048576 := fun hd => h1 ⟨ha, hb, hc, hd⟩
    refine p_enter [(0, _), (1, _), (2, _), (3, _)] Tryz.func4 (by kernel_rfl) Tryz.ntmps4 rfl rfl (by repeat' constructor) fun B hB => ?_
    repeat' (first | (refine run (t := tb) 400 rfl trivial ?_) | (refine k_tt rfl (dTt (by omega)) ?_) | (refine k_ff rfl (dFf (by omega)) ?_))
    refine k_rr (vs := [_]) rfl ⟨rfl, trivial⟩ rfl (List.nil_sublist _) ⟨rfl, rfl, ?_⟩
    rfl
end Go.E
