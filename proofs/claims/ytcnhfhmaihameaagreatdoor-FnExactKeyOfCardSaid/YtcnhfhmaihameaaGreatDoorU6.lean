/- Contracts and plain laws that the statement rests on, part 6. Conditions: as each says. -/
import Derived.Test.YtcnhfhmaihameaaGreatDoorU5
set_option linter.unusedVariables false
set_option linter.unusedSimpArgs false
namespace Go.E
set_option maxRecDepth 20000
set_option maxHeartbeats 2000000
open Go.Proofs
variable {G : Gh}
theorem c_key_leaf {w : Nat} {x : List UInt8} {t : Int} {a : Option Addr} {k : Nat} (hw : wfW w x t []) (h : w = 110 ∨ w = 116 ∨ w = 102 ∨ w = 69) (hx : x.length ≤ 100000) : PuG Tryz.prog 21 [Ag [U8 (w : Nat), S x, I t, .slice a ([] : List V).length k]] G (· = S (V.nd w x t []).key) := by
  have hty := wfW_tag hw
  unfold wfW at hw
  rcases h with rfl | rfl | rfl | rfl
  · simp only [Nat.reduceEqDiff, false_and, or_false, true_and] at hw
    obtain ⟨rfl, m, hm0, hm1, hx1, hnum0⟩ := hw
    have cx_pnB := c_plainNumberB (G := G) (s := x) (top := 999999) (by omega)
    refine p_enter [(0, _)] Tryz.func21 (by kernel_rfl) Tryz.ntmps21 rfl rfl (by repeat' constructor) fun B hB => ?_
    repeat' (first | (refine run (t := tb) 400 rfl trivial ?_) | (refine k_op rfl ?_; first | refine c_bx rfl rfl rfl fun _ => ?_ | refine c_al rfl rfl fun _ => ?_ | refine v_op (g_mkf rfl rfl) rfl rfl ?_ | refine v_op (g_ld rfl rfl rfl) rfl rfl ?_ | (refine v_op (g_shr rfl rfl (by omega)) rfl rfl ?_) | refine c_bsl rfl rfl rfl rfl rfl rfl fun _ => ?_ | refine v_op (g_bsB rfl rfl (by (repeat (first | exact BL.nil | apply BL.cons)); done)) rfl rfl ?_ | (refine c_pu rfl rfl rfl (c_plainNumber (by omega)) rfl ?_; rintro _ ⟨n, rfl, hnum⟩)) | (refine k_tt rfl rfl ?_))
    obtain rfl := hnum _ hnum0
    repeat' (fail)
    refine k_rr (vs := [_]) rfl ⟨rfl, trivial⟩ rfl (List.nil_sublist _) ⟨rfl, rfl, ?_⟩
    have e1 : n.fdiv (2 ^ min (Int.toNat 16) IntKind.i64.bits) = n / 65536 := by rw [show (2 ^ min (Int.toNat 16) IntKind.i64.bits : Int) = 65536 from rfl, Int.fdiv_eq_ediv_of_nonneg _ (by decide)]
    have e2 : n.fdiv (2 ^ min (Int.toNat 8) IntKind.i64.bits) = n / 256 := by rw [show (2 ^ min (Int.toNat 8) IntKind.i64.bits : Int) = 256 from rfl, Int.fdiv_eq_ediv_of_nonneg _ (by decide)]
    rw [oneOf_one, e1, e2, V.key]; simp [keyW, hnum0]
  · refine p_enter [(0, _)] Tryz.func21 (by kernel_rfl) Tryz.ntmps21 rfl rfl (by repeat' constructor) fun B hB => ?_
    repeat' (first | (refine run (t := tb) 400 rfl ?_ ?_; (focus (repeat' (first | exact trivial | apply And.intro | (simp only [List.length_append, List.length_cons, List.length_nil, Int.toNat_natCast]; omega))))) | (refine k_op rfl ?_; first | refine c_bx rfl rfl rfl fun _ => ?_ | refine c_al rfl rfl fun _ => ?_ | refine v_op (g_mkf rfl rfl) rfl rfl ?_ | refine v_op (g_ld rfl rfl rfl) rfl rfl ?_) | (refine k_tt rfl rfl ?_) | (refine k_ff rfl rfl ?_))
    refine k_rr (vs := [_]) rfl ⟨rfl, trivial⟩ rfl (List.nil_sublist _) ⟨rfl, rfl, ?_⟩
    rw [oneOf_one, V.key]; rfl
  · simp only [Nat.reduceEqDiff, false_and, or_false, true_and, false_or] at hw
    obtain ⟨rfl, rfl | rfl⟩ := hw
    all_goals
      refine p_enter [(0, _)] Tryz.func21 (by kernel_rfl) Tryz.ntmps21 rfl rfl (by repeat' constructor) fun B hB => ?_
      repeat' (first | (refine run (t := tb) 400 rfl trivial ?_) | (refine k_op rfl ?_; first | refine c_bx rfl rfl rfl fun _ => ?_ | refine c_al rfl rfl fun _ => ?_ | refine v_op (g_mkf rfl rfl) rfl rfl ?_ | refine v_op (g_ld rfl rfl rfl) rfl rfl ?_) | (refine k_tt rfl rfl ?_) | (refine k_ff rfl rfl ?_))
      refine k_rr (vs := [_]) rfl ⟨rfl, trivial⟩ rfl (List.nil_sublist _) ⟨rfl, rfl, ?_⟩
      rw [oneOf_one, V.key]; rfl
  · refine p_enter [(0, _)] Tryz.func21 (by kernel_rfl) Tryz.ntmps21 rfl rfl (by repeat' constructor) fun B hB => ?_
    repeat' (first | (refine run (t := tb) 400 rfl trivial ?_) | (refine k_op rfl ?_; first | refine c_bx rfl rfl rfl fun _ => ?_ | refine c_al rfl rfl fun _ => ?_ | refine v_op (g_mkf rfl rfl) rfl rfl ?_ | refine v_op (g_ld rfl rfl rfl) rfl rfl ?_ | refine c_bsl rfl rfl rfl rfl rfl rfl fun _ => ?_ | refine v_op (g_bsB rfl rfl (by (repeat (first | exact BL.nil | apply BL.cons)); done)) rfl rfl ?_) | (refine k_tt rfl rfl ?_) | (refine k_ff rfl rfl ?_))
    refine k_rr (vs := [_]) rfl ⟨rfl, trivial⟩ rfl (List.nil_sublist _) ⟨rfl, rfl, ?_⟩
    rw [oneOf_one, V.key]; rfl
theorem c_key_opt0 {a : Option Addr} {k : Nat} : PuG Tryz.prog 21 [Ag [U8 (63 : Nat), S [], I 0, .slice a ([] : List V).length k]] G (· = S (V.nd 63 [] 0 []).key) := by
  refine p_enter [(0, _)] Tryz.func21 (by kernel_rfl) Tryz.ntmps21 rfl rfl (by repeat' constructor) fun B hB => ?_
  repeat' (first | (refine run (t := tb) 400 rfl trivial ?_) | (refine k_op rfl ?_; first | refine c_bx rfl rfl rfl fun _ => ?_ | refine c_al rfl rfl fun _ => ?_ | refine v_op (g_mkf rfl rfl) rfl rfl ?_ | refine v_op (g_ld rfl rfl rfl) rfl rfl ?_ | refine v_op (g_lenL rfl) rfl rfl ?_) | (refine k_tt rfl rfl ?_) | (refine k_ff rfl rfl ?_))
  refine k_rr (vs := [_]) rfl ⟨rfl, trivial⟩ rfl (List.nil_sublist _) ⟨rfl, rfl, ?_⟩
  rw [oneOf_one, V.key]; rfl
section
variable {ks : List V} {cs : List VC} {a : Option Addr} {k : Nat}
theorem c_key_opt (h0 : 0 < ks.length) (hk : ks.length ≤ 100000) (hcl : cs.length = ks.length) (hsl : SlV G (.slice a ks.length k) 4 cs.length (rows vcF cs)) (hfl : (mrk [1] (V.keys ks)).length ≤ 100000)
    (ih : ∀ i, i < ks.length → PuG Tryz.prog 21 [Ag (vcF (nth cs i))] G (· = S (nth ks i).key) ∧ (nth ks i).key.length ≤ 100000) :
    PuG Tryz.prog 21 [Ag [U8 (63 : Nat), S [], I 0, .slice a ks.length k]] G (· = S (V.nd 63 [] 0 ks).key) := by
  refine p_enter [(0, _)] Tryz.func21 (by kernel_rfl) Tryz.ntmps21 rfl rfl (by repeat' constructor) fun B hB => ?_
  repeat' (first | (refine run (t := tb) 400 rfl trivial ?_) | (refine k_op rfl ?_; first | refine c_bx rfl rfl rfl fun _ => ?_ | refine c_al rfl rfl fun _ => ?_ | refine v_op (g_mkf rfl rfl) rfl rfl ?_ | refine v_op (g_ld rfl rfl rfl) rfl rfl ?_ | refine v_op (g_lenL rfl) rfl rfl ?_) | (refine k_tt rfl rfl ?_) | (refine k_ff rfl (by first | rfl | (refine decide_eq_false ?_; (omega))) ?_))
  rename_i bv bb
  refine k_op rfl ?_
  refine c_call (vs := [S [1], Pt bv 0, Pt bb 0]) (Lp := bldO bb none [] ++ ([.blk bv (.cells (List.toArray [U8 (63 : Nat), S [], I 0, .slice a ks.length k]) tVal (0, 0))] : List Own)) (R := []) rfl rfl rfl (c_mark (bv := bv) (bb := bb) (q := none) (l := []) (ah := [1]) (fun h => (by (rfl))) (by simp) (by simp) hk hcl hsl hfl ih) (List.Perm.refl _) rfl ?_
  rintro r _ _ ⟨rfl, q, hq, rfl⟩
  have hml := mrk_le (a := [1]) (by simp) (V.keys ks)
  have e2 : (V.nd 63 [] 0 ks).key = mrk [1] (V.keys ks) := by
    rw [V.key]
    unfold keyW
    have : V.keys ks ≠ [] := fun h => by have := keys_len ks; rw [h] at this; simp at this; omega
    rw [if_neg (by decide), if_neg (by decide), if_neg (by decide), if_neg (by decide), if_neg (fun h => this h.2), if_neg (by decide), if_pos rfl, mrk_one]
  rw [e2]
  cases q with
  | none =>
    have h9 := hq rfl
    simp only [List.nil_append] at h9
    simp only [bldO, List.cons_append, List.nil_append]
    repeat' (first | (refine run (t := tb) 400 rfl trivial ?_) | (refine k_op rfl ?_; (refine c_m1g rfl rfl rfl c_bstr0 rfl ?_; rintro _ _ ⟨rfl, rfl⟩; dsimp only [List.cons_append, List.nil_append])))
    refine k_rr (vs := [_]) rfl ⟨rfl, trivial⟩ rfl (List.nil_sublist _) ⟨rfl, rfl, ?_⟩
    rw [oneOf_one, h9]
  | some q =>
    obtain ⟨b2, c2⟩ := q
    simp only [bldO, List.cons_append, List.nil_append]
    repeat' (first | (refine run (t := tb) 400 rfl trivial ?_) | (refine k_op rfl ?_; (refine c_m2g rfl rfl rfl (c_bstr (by omega)) rfl ?_; rintro _ _ ⟨rfl, rfl⟩; dsimp only [List.cons_append, List.nil_append])))
    refine k_rr (vs := [_]) rfl ⟨rfl, trivial⟩ rfl (List.nil_sublist _) ⟨rfl, rfl, ?_⟩
    rw [oneOf_one]
theorem c_key_lst {w : Nat} (hw : w = 91 ∨ w = 82) (hk : ks.length ≤ 100000) (hcl : cs.length = ks.length) (hsl : SlV G (.slice a ks.length k) 4 cs.length (rows vcF cs)) (hfl : (mrk [1] (V.keys ks)).length ≤ 100000)
    (ih : ∀ i, i < ks.length → PuG Tryz.prog 21 [Ag (vcF (nth cs i))] G (· = S (nth ks i).key) ∧ (nth ks i).key.length ≤ 100000) :
    PuG Tryz.prog 21 [Ag [U8 (w : Nat), S [], I 0, .slice a ks.length k]] G (· = S (V.nd w [] 0 ks).key) := by
  have e2 : (V.nd w [] 0 ks).key = mrk [1] (V.keys ks) ++ [0] := by
    rw [V.key]
    unfold keyW
    rw [if_neg (by omega), if_neg (by omega), if_neg (by omega), if_neg (by omega), if_neg (by omega), if_neg (by omega), if_neg (by omega), mrk_one]
  rw [e2]
  have hwz : ∀ {l : List UInt8}, u8s l ++ u8s [0] = u8s (l ++ [0]) := fun {l} => by simp [u8s]
  rcases hw with rfl | rfl
  all_goals
    refine p_enter [(0, _)] Tryz.func21 (by kernel_rfl) Tryz.ntmps21 rfl rfl (by repeat' constructor) fun B hB => ?_
    repeat' (first | (refine run (t := tb) 400 rfl trivial ?_) | (refine k_op rfl ?_; first | refine c_bx rfl rfl rfl fun _ => ?_ | refine c_al rfl rfl fun _ => ?_ | refine v_op (g_mkf rfl rfl) rfl rfl ?_ | refine v_op (g_ld rfl rfl rfl) rfl rfl ?_) | (refine k_tt rfl rfl ?_) | (refine k_ff rfl rfl ?_))
    rename_i bv bb
    refine k_op rfl ?_
    refine c_call (vs := [S [1], Pt bv 0, Pt bb 0]) (Lp := bldO bb none [] ++ ([.blk bv (.cells (List.toArray [U8 (_ : Nat), S [], I 0, .slice a ks.length k]) tVal (0, 0))] : List Own)) (R := []) rfl rfl rfl (c_mark (bv := bv) (bb := bb) (q := none) (l := []) (ah := [1]) (fun h => (by (rfl))) (by simp) (by simp) hk hcl hsl hfl ih) (List.Perm.refl _) rfl ?_
    rintro r _ _ ⟨rfl, q, hq, rfl⟩
    generalize mrk [1] (V.keys ks) = m at *
    cases q with
    | none =>
      have h9 := hq rfl
      simp only [List.nil_append] at h9
      simp only [bldO, List.cons_append, List.nil_append]
      repeat' (first | (refine run (t := tb) 400 rfl trivial ?_) | (refine k_op rfl ?_; first | (refine c_m1g rfl rfl rfl c_wbz0 rfl ?_; rintro _ _ ⟨b3, c3, rfl, rfl⟩; dsimp only [List.cons_append, List.nil_append]) | (refine c_m2g rfl rfl rfl (c_bstr (by omega)) rfl ?_; rintro _ _ ⟨rfl, rfl⟩; dsimp only [List.cons_append, List.nil_append])))
      refine k_rr (vs := [_]) rfl ⟨rfl, trivial⟩ rfl (List.nil_sublist _) ⟨rfl, rfl, ?_⟩
      rw [oneOf_one, h9]; rfl
    | some q =>
      obtain ⟨b2, c2⟩ := q
      simp only [bldO, List.cons_append, List.nil_append]
      have hm9 : m.length ≤ 1000000000 := by omega
      repeat' (first | (refine run (t := tb) 400 rfl trivial ?_) | (refine k_op rfl ?_; (refine c_m2g rfl rfl rfl (c_wbz (by (repeat (assumption)); done)) rfl ?_; rintro _ _ ⟨b3, c3, rfl, rfl⟩; dsimp only [List.cons_append, List.nil_append])))
      rw [hwz]
      have hlz : (m ++ [0]).length = m.length + 1 := by simp
      repeat' (first | (refine run (t := tb) 400 rfl trivial ?_) | (refine k_op rfl ?_; (refine c_m2g rfl rfl rfl (c_bstr (by omega)) rfl ?_; rintro _ _ ⟨rfl, rfl⟩; dsimp only [List.cons_append, List.nil_append])))
      refine k_rr (vs := [_]) rfl ⟨rfl, trivial⟩ rfl (List.nil_sublist _) ⟨rfl, rfl, ?_⟩
      rw [oneOf_one]
theorem c_key_tag {w : Nat} {t : Int} (hw : w = 85 ∨ w = 61) (ht : 0 ≤ t ∧ t ≤ 200) (hk : ks.length ≤ 100000) (hcl : cs.length = ks.length) (hsl : SlV G (.slice a ks.length k) 4 cs.length (rows vcF cs)) (hfl : (mrk [1] (V.keys ks)).length ≤ 100000)
    (ih : ∀ i, i < ks.length → PuG Tryz.prog 21 [Ag (vcF (nth cs i))] G (· = S (nth ks i).key) ∧ (nth ks i).key.length ≤ 100000) :
    PuG Tryz.prog 21 [Ag [U8 (w : Nat), S [], I t, .slice a ks.length k]] G (· = S (V.nd w [] t ks).key) := by
  have e2 : (V.nd w [] t ks).key = [u8 t] ++ mrk [] (V.keys ks) := by
    rw [V.key]
    unfold keyW
    rw [if_neg (by omega), if_neg (by omega), if_neg (by omega), if_neg (by omega), if_neg (by omega), if_pos hw, mrk_nil]; rfl
  rw [e2]
  have hml := mrk_le (a := []) (by simp) (V.keys ks)
  rcases hw with rfl | rfl
  all_goals
    refine p_enter [(0, _)] Tryz.func21 (by kernel_rfl) Tryz.ntmps21 rfl rfl (by repeat' constructor) fun B hB => ?_
    repeat' (first | (refine run (t := tb) 400 rfl trivial ?_) | (refine k_op rfl ?_; first | refine c_bx rfl rfl rfl fun _ => ?_ | refine c_al rfl rfl fun _ => ?_ | refine v_op (g_mkf rfl rfl) rfl rfl ?_ | refine v_op (g_ld rfl rfl rfl) rfl rfl ?_ | (refine c_m1g rfl rfl rfl c_wby0 rfl ?_; rintro _ _ ⟨b3, c3, rfl, rfl⟩; dsimp only [List.cons_append, List.nil_append])) | (refine k_tt rfl rfl ?_) | (refine k_ff rfl rfl ?_))
    rename_i bv bb
    refine k_op rfl ?_
    refine c_call (vs := [S [], Pt bv 0, Pt bb 0]) (Lp := bldO bb (some (b3, c3)) [u8 t] ++ ([.blk bv (.cells (List.toArray [U8 (_ : Nat), S [], I t, .slice a ks.length k]) tVal (0, 0))] : List Own)) (R := []) rfl rfl rfl (c_mark (bv := bv) (bb := bb) (q := some (b3, c3)) (l := [u8 t]) (ah := []) (fun h => (by (cases h))) (by simp) (by simp) hk hcl hsl hfl ih) (List.Perm.refl _) rfl ?_
    rintro r _ _ ⟨rfl, q, hq, rfl⟩
    generalize mrk [] (V.keys ks) = m at *
    cases q with
    | none =>
      have h9 := hq rfl
      cases h9
    | some q =>
      obtain ⟨b2, c2⟩ := q
      simp only [bldO, List.cons_append, List.nil_append]
      have hlz : (u8 t :: m).length = m.length + 1 := by simp
      repeat' (first | (refine run (t := tb) 400 rfl trivial ?_) | (refine k_op rfl ?_; (refine c_m2g rfl rfl rfl (c_bstr (by omega)) rfl ?_; rintro _ _ ⟨rfl, rfl⟩; dsimp only [List.cons_append, List.nil_append])))
      refine k_rr (vs := [_]) rfl ⟨rfl, trivial⟩ rfl (List.nil_sublist _) ⟨rfl, rfl, ?_⟩
      rw [oneOf_one]
theorem c_key : ∀ (n : Nat) {v : V} {c : VC}, v.tot ≤ n → v.tot ≤ 100000 → v.wf → V.rep G v c → PuG Tryz.prog 21 [Ag (vcF c)] G (· = S v.key) := by
  intro n
  induction n with
  | zero => intro v c h1 _ _ _; have := tot_pos v; omega
  | succ n ih =>
    intro v c h1 h2 hwf h
    obtain ⟨w, x, t, ks⟩ := v
    rw [V.wf] at hwf
    obtain ⟨hwf, hwk⟩ := hwf
    have hty := wfW_tag hwf
    rw [nd_tot] at h1 h2
    obtain ⟨a, k, cs, rfl, hw, ht, h61, hcl, hsl, hks⟩ := rep_inv h
    have hkl := tots_len ks
    have hfl := mrk_len ks
    have hK : ∀ i, i < ks.length → PuG Tryz.prog 21 [Ag (vcF (nth cs i))] G (· = S (nth ks i).key) ∧ (nth ks i).key.length ≤ 100000 := fun i hi => by
      have hti := tot_nth hi
      have hwi := wf_nth hwk hi
      have hbl := key_len (nth ks i)
      exact ⟨ih (by omega) (by omega) hwi (reps_nth hks i hi), by omega⟩
    rcases hwf with h7 | h7 | h7 | ⟨rfl, rfl, rfl, hk20, hk61⟩ | ⟨rfl, rfl, rfl, hk1, hk61⟩ | h7 | ⟨rfl, rfl, _, _, hk1, _⟩ | ⟨rfl, rfl, _, _, hk1, _⟩ | ⟨rfl, rfl, rfl, hpw, hka⟩
    · obtain ⟨rfl, rfl, h8⟩ := h7
      exact c_key_leaf (.inl ⟨rfl, rfl, h8⟩) (.inl rfl) (by dsimp only; omega)
    · obtain ⟨rfl, rfl, h8⟩ := h7
      exact c_key_leaf (.inr (.inl ⟨rfl, rfl, h8⟩)) (.inr (.inl rfl)) (by dsimp only; omega)
    · obtain ⟨rfl, rfl, h8⟩ := h7
      exact c_key_leaf (.inr (.inr (.inl ⟨rfl, rfl, h8⟩))) (.inr (.inr (.inl rfl))) (by dsimp only; omega)
    · exact c_key_lst (.inl rfl) (by omega) hcl hsl (by omega) hK
    · by_cases hk0 : ks.length = 0
      · obtain rfl := List.eq_nil_of_length_eq_zero hk0
        exact c_key_opt0
      · exact c_key_opt (by omega) (by omega) hcl hsl (by omega) hK
    · obtain ⟨rfl, rfl, h8, h9, rfl⟩ := h7
      exact c_key_leaf (.inr (.inr (.inr (.inr (.inr (.inl ⟨rfl, rfl, h8, h9, rfl⟩)))))) (.inr (.inr (.inr rfl))) (by simp)
    · exact c_key_tag (.inl rfl) hty (by omega) hcl hsl (by omega) hK
    · exact c_key_tag (.inr rfl) hty (by omega) hcl hsl (by omega) hK
    · exact c_key_lst (.inr rfl) (by omega) hcl hsl (by omega) hK
end
end Go.E
namespace Go.E
set_option maxRecDepth 20000
set_option maxHeartbeats 2000000
open Go.Proofs
variable {G : Gh}
theorem c_keyT {r tx : List UInt8} {b : Nat} {tg : List Int} {bs : List Nat} {KS : List V} {a a2 : Option Addr} {c c2 m : Nat} (hm : m = KS.length) (hm9 : m ≤ 100000) (htx : tx = [82] ∨ tx = [85]) (h2 : Seg G b 0 [S (64 :: r), S tx, .slice a m c, .slice a2 m c2])
    (h3 : SlV G (.slice a m c) 1 m (rows inR tg)) (h4 : SlV G (.slice a2 m c2) 1 m (rows ptR bs)) (htl : tg.length = m) (hbl : bs.length = m) (hfl : (mrk [1] (V.keys KS)).length ≤ 100000)
    (hk : ∀ i, i < m → ∃ u, nth KS i = V.nd 61 [] (nth tg i) [u] ∧ PuG Tryz.prog 19 [Pt (nth bs i) 0] G (· = S u.key) ∧ u.key.length ≤ 100000) :
    PuG Tryz.prog 19 [Pt b 0] G (· = S (if tx = [82] then mrk [1] (V.keys KS) ++ [0] else mrk [] (V.keys KS))) := by
  have hml := mrk_le (a := []) (by simp) (V.keys KS)
  rcases htx with rfl | rfl
  · have hj0 : ∀ i, (mrk [1] ((V.keys KS).take i)).length ≤ 100000 := fun i => by have := mrk_take [1] (V.keys KS) i; omega
    refine p_enter [(0, _)] Tryz.func19 (by kernel_rfl) Tryz.ntmps19 rfl rfl (by repeat' constructor) fun B hB => ?_
    repeat' (first | (refine run (t := tb) 400 rfl ?_ ?_; (focus (repeat' (first | exact trivial | apply And.intro | omega | (simp only [List.length_append, List.length_cons, List.length_nil, Int.toNat_natCast]; omega))))) | (refine k_op rfl ?_; first | refine v_op (g_ldS rfl rfl (by assumption) rfl rfl) rfl rfl ?_ | refine c_bsl rfl rfl rfl rfl rfl rfl fun _ => ?_ | refine v_op (g_bsB rfl rfl (by (repeat (first | exact BL.nil | apply BL.lit rfl)); done)) rfl rfl ?_) | (refine k_ff rfl rfl ?_))
    refine k_loop (ι := Nat) (fun i => i ≤ m) (fun i => [(0, Pt b 0), (5, S [1]), (6, S (mrk [1] ((V.keys KS).take i))), (7, I i)]) (fun _ => G) (fun i => []) (fun i => m - i) 0 ?_ (by repeat' constructor) rfl (by repeat (exact List.nil_sublist _)) (fun i Hi => ?_)
    · exact Nat.zero_le _
    have hj1 := hj0 i
    by_cases hi : i < m
    · obtain ⟨u, hu1, cx_key, hu2⟩ := hk i hi
      have hfn := mrk_snoc (a := [1]) (ks := KS) (i := i) (by omega)
      have hub : (V.nd 61 [] (nth tg i) [u]).key = u8 (nth tg i) :: u.key := by rw [V.key]; simp [V.keys, keyW]
      rw [hu1, hub] at hfn
      have hxt : nth tg i = nth tg i := rfl
      have hxi : nth bs i = nth bs i := rfl
      obtain ⟨tgb, to, tc, e, hs1⟩ := h3.expl (by omega)
      simp only [Value.slice.injEq] at e
      obtain ⟨rfl, -, rfl⟩ := e
      obtain ⟨kb, ko, kc, e, hs2⟩ := h4.expl (by omega)
      simp only [Value.slice.injEq] at e
      obtain ⟨rfl, -, rfl⟩ := e
      repeat' (first | (refine run (t := tb) 400 rfl ?_ ?_; (focus (repeat' (first | exact trivial | apply And.intro | omega | (simp only [List.length_append, List.length_cons, List.length_nil, Int.toNat_natCast]; omega))))) | (refine k_op rfl ?_; first | refine v_op (g_ldS rfl rfl (by assumption) rfl rfl) rfl rfl ?_ | (refine v_op (g_ldR1x rfl rfl (by assumption) ?_ (by assumption) rfl) rfl rfl ?_; (focus ((omega); done))) | refine c_bsl rfl rfl rfl rfl rfl rfl fun _ => ?_ | refine v_op (g_bsB rfl rfl (by (repeat (first | exact BL.nil | apply BL.cons)); done)) rfl rfl ?_ | refine v_op (g_lenL rfl) rfl rfl ?_ | (refine v_op (g_iaddrN rfl rfl (by omega)) rfl rfl ?_) | (refine v_op (g_pickT rfl rfl rfl) rfl rfl ?_) | (refine v_op (g_pickF rfl rfl rfl) rfl rfl ?_) | (refine c_rt rfl rfl rfl cx_key rfl ?_)) | (refine k_gt rfl rfl (dTt (by omega)) ?_) | (refine k_gf rfl rfl rfl ?_) | (refine k_tt rfl (by first | rfl | (refine decide_eq_true ?_; (omega))) ?_))
      refine Nx.re (d := 6) (v' := S (mrk [1] ((V.keys KS).take (i + 1)))) rfl (congrArg (fun l => S l) ?_) ?_
      · rw [hfn]; simp
      exact k_rd (i + 1) (by omega) (by omega) (by repeat' constructor) rfl (by repeat (exact List.nil_sublist _))
    · have hin : i = KS.length := by omega
      subst hin
      have hfe : (V.keys KS).take KS.length = V.keys KS := by rw [← keys_len, List.take_length]
      rw [hfe]
      repeat' (first | (refine run (t := tb) 400 rfl ?_ ?_; (focus (repeat' (first | exact trivial | apply And.intro | omega | (simp only [List.length_append, List.length_cons, List.length_nil, Int.toNat_natCast]; omega))))) | (refine k_op rfl ?_; first | refine v_op (g_ldS rfl rfl (by assumption) rfl rfl) rfl rfl ?_ | refine c_bsl rfl rfl rfl rfl rfl rfl fun _ => ?_ | refine v_op (g_bsB rfl rfl (by (repeat (first | exact BL.nil | apply BL.lit rfl)); done)) rfl rfl ?_ | refine v_op (g_lenL rfl) rfl rfl ?_ | (refine v_op (g_pickF rfl rfl rfl) rfl rfl ?_)) | (refine k_gf rfl rfl (by first | rfl | (refine decide_eq_false ?_; (omega))) ?_) | (refine k_tt rfl rfl ?_) | (refine k_ff rfl (dFf (by omega)) ?_))
      refine k_rr (vs := [_]) rfl ⟨rfl, trivial⟩ rfl (List.nil_sublist _) ⟨rfl, rfl, ?_⟩
      rw [oneOf_one]; (rfl)
  · have hj0 : ∀ i, (mrk [] ((V.keys KS).take i)).length ≤ 100000 := fun i => by have := mrk_take [] (V.keys KS) i; omega
    refine p_enter [(0, _)] Tryz.func19 (by kernel_rfl) Tryz.ntmps19 rfl rfl (by repeat' constructor) fun B hB => ?_
    repeat' (first | (refine run (t := tb) 400 rfl ?_ ?_; (focus (repeat' (first | exact trivial | apply And.intro | omega | (simp only [List.length_append, List.length_cons, List.length_nil, Int.toNat_natCast]; omega))))) | (refine k_op rfl ?_; first | refine v_op (g_ldS rfl rfl (by assumption) rfl rfl) rfl rfl ?_ | refine c_bsl rfl rfl rfl rfl rfl rfl fun _ => ?_ | refine v_op (g_bsB rfl rfl (by (repeat (first | exact BL.nil | apply BL.lit rfl)); done)) rfl rfl ?_) | (refine k_ff rfl rfl ?_))
    refine k_loop (ι := Nat) (fun i => i ≤ m) (fun i => [(0, Pt b 0), (5, S [1]), (6, S (mrk [] ((V.keys KS).take i))), (7, I i)]) (fun _ => G) (fun i => []) (fun i => m - i) 0 ?_ (by repeat' constructor) rfl (by repeat (exact List.nil_sublist _)) (fun i Hi => ?_)
    · exact Nat.zero_le _
    have hj1 := hj0 i
    by_cases hi : i < m
    · obtain ⟨u, hu1, cx_key, hu2⟩ := hk i hi
      have hfn := mrk_snoc (a := []) (ks := KS) (i := i) (by omega)
      have hub : (V.nd 61 [] (nth tg i) [u]).key = u8 (nth tg i) :: u.key := by rw [V.key]; simp [V.keys, keyW]
      rw [hu1, hub] at hfn
      have hxt : nth tg i = nth tg i := rfl
      have hxi : nth bs i = nth bs i := rfl
      obtain ⟨tgb, to, tc, e, hs1⟩ := h3.expl (by omega)
      simp only [Value.slice.injEq] at e
      obtain ⟨rfl, -, rfl⟩ := e
      obtain ⟨kb, ko, kc, e, hs2⟩ := h4.expl (by omega)
      simp only [Value.slice.injEq] at e
      obtain ⟨rfl, -, rfl⟩ := e
      repeat' (first | (refine run (t := tb) 400 rfl ?_ ?_; (focus (repeat' (first | exact trivial | apply And.intro | omega | (simp only [List.length_append, List.length_cons, List.length_nil, Int.toNat_natCast]; omega))))) | (refine k_op rfl ?_; first | refine v_op (g_ldS rfl rfl (by assumption) rfl rfl) rfl rfl ?_ | (refine v_op (g_ldR1x rfl rfl (by assumption) ?_ (by assumption) rfl) rfl rfl ?_; (focus ((omega); done))) | refine c_bsl rfl rfl rfl rfl rfl rfl fun _ => ?_ | refine v_op (g_bsB rfl rfl (by (repeat (first | exact BL.nil | apply BL.cons)); done)) rfl rfl ?_ | refine v_op (g_lenL rfl) rfl rfl ?_ | (refine v_op (g_iaddrN rfl rfl (by omega)) rfl rfl ?_) | (refine v_op (g_pickT rfl rfl rfl) rfl rfl ?_) | (refine v_op (g_pickF rfl rfl rfl) rfl rfl ?_) | (refine c_rt rfl rfl rfl cx_key rfl ?_)) | (refine k_gt rfl rfl (dTt (by omega)) ?_) | (refine k_gf rfl rfl rfl ?_) | (refine k_tt rfl (by first | rfl | (refine decide_eq_true ?_; (omega))) ?_) | (refine k_ff rfl rfl ?_))
      refine Nx.re (d := 6) (v' := S (mrk [] ((V.keys KS).take (i + 1)))) rfl (congrArg (fun l => S l) ?_) ?_
      · rw [hfn]; simp
      exact k_rd (i + 1) (by omega) (by omega) (by repeat' constructor) rfl (by repeat (exact List.nil_sublist _))
    · have hin : i = KS.length := by omega
      subst hin
      have hfe : (V.keys KS).take KS.length = V.keys KS := by rw [← keys_len, List.take_length]
      rw [hfe]
      repeat' (first | (refine run (t := tb) 400 rfl ?_ ?_; (focus (repeat' (first | exact trivial | apply And.intro | omega | (simp only [List.length_append, List.length_cons, List.length_nil, Int.toNat_natCast]; omega))))) | (refine k_op rfl ?_; first | refine v_op (g_ldS rfl rfl (by assumption) rfl rfl) rfl rfl ?_ | refine v_op (g_lenL rfl) rfl rfl ?_ | (refine v_op (g_pickF rfl rfl rfl) rfl rfl ?_)) | (refine k_gf rfl rfl (by first | rfl | (refine decide_eq_false ?_; (omega))) ?_) | (refine k_ff rfl (by first | rfl | (refine decide_eq_false ?_; (omega))) ?_))
      refine k_rr (vs := [_]) rfl ⟨rfl, trivial⟩ rfl (List.nil_sublist _) ⟨rfl, rfl, ?_⟩
      rw [oneOf_one]; (rfl)
theorem c_keyL {r : List UInt8} {b : Nat} {bs : List Nat} {KS : List V} {a : Option Addr} {c m : Nat} (hm : m = KS.length) (hm9 : m ≤ 100000) (h2 : Seg G b 0 [S (91 :: r), S [], nilS, .slice a m c])
    (h4 : SlV G (.slice a m c) 1 m (rows ptR bs)) (hbl : bs.length = m) (hfl : (mrk [1] (V.keys KS)).length ≤ 100000)
    (hk : ∀ i, i < m → PuG Tryz.prog 19 [Pt (nth bs i) 0] G (· = S (nth KS i).key) ∧ (nth KS i).key.length ≤ 100000) :
    PuG Tryz.prog 19 [Pt b 0] G (· = S (mrk [1] (V.keys KS) ++ [0])) := by
  have hj0 : ∀ i, (mrk [1] ((V.keys KS).take i)).length ≤ 100000 := fun i => by have := mrk_take [1] (V.keys KS) i; omega
  refine p_enter [(0, _)] Tryz.func19 (by kernel_rfl) Tryz.ntmps19 rfl rfl (by repeat' constructor) fun B hB => ?_
  repeat' (first | (refine run (t := tb) 400 rfl ?_ ?_; (focus (repeat' (first | exact trivial | apply And.intro | omega | (simp only [List.length_append, List.length_cons, List.length_nil, Int.toNat_natCast]; omega))))) | (refine k_op rfl ?_; first | refine v_op (g_ldS rfl rfl (by assumption) rfl rfl) rfl rfl ?_ | refine c_bsl rfl rfl rfl rfl rfl rfl fun _ => ?_ | refine v_op (g_bsB rfl rfl (by (repeat (first | exact BL.nil | apply BL.lit rfl)); done)) rfl rfl ?_) | (refine k_ff rfl rfl ?_))
  refine k_loop (ι := Nat) (fun i => i ≤ m) (fun i => [(0, Pt b 0), (5, S [1]), (6, S (mrk [1] ((V.keys KS).take i))), (7, I i)]) (fun _ => G) (fun i => []) (fun i => m - i) 0 ?_ (by repeat' constructor) rfl (by repeat (exact List.nil_sublist _)) (fun i Hi => ?_)
  · exact Nat.zero_le _
  have hj1 := hj0 i
  by_cases hi : i < m
  · obtain ⟨cx_key, hu2⟩ := hk i hi
    have hfn := mrk_snoc (a := [1]) (ks := KS) (i := i) (by omega)
    have hxi : nth bs i = nth bs i := rfl
    obtain ⟨kb, ko, kc, e, hs2⟩ := h4.expl (by omega)
    simp only [Value.slice.injEq] at e
    obtain ⟨rfl, -, rfl⟩ := e
    repeat' (first | (refine run (t := tb) 400 rfl ?_ ?_; (focus (repeat' (first | exact trivial | apply And.intro | omega | (simp only [List.length_append, List.length_cons, List.length_nil, Int.toNat_natCast]; omega))))) | (refine k_op rfl ?_; first | refine v_op (g_ldS rfl rfl (by assumption) rfl rfl) rfl rfl ?_ | (refine v_op (g_ldR1x rfl rfl (by assumption) ?_ (by assumption) rfl) rfl rfl ?_; (focus ((omega); done))) | refine v_op (g_lenL rfl) rfl rfl ?_ | (refine v_op (g_iaddrN rfl rfl (by omega)) rfl rfl ?_) | (refine v_op (g_pickT rfl rfl rfl) rfl rfl ?_) | (refine v_op (g_pickF rfl rfl rfl) rfl rfl ?_) | (refine c_rt rfl rfl rfl cx_key rfl ?_)) | (refine k_gt rfl rfl rfl ?_) | (refine k_gf rfl rfl rfl ?_) | (refine k_tt rfl (by first | rfl | (refine decide_eq_true ?_; (omega))) ?_) | (refine k_ff rfl rfl ?_))
    refine Nx.re (d := 6) (v' := S (mrk [1] ((V.keys KS).take (i + 1)))) rfl (congrArg (fun l => S l) ?_) ?_
    · rw [hfn]; simp
    exact k_rd (i + 1) (by omega) (by omega) (by repeat' constructor) rfl sRr
  · have hin : i = KS.length := by omega
    subst hin
    have hfe : (V.keys KS).take KS.length = V.keys KS := by rw [← keys_len, List.take_length]
    rw [hfe]
    repeat' (first | (refine run (t := tb) 400 rfl ?_ ?_; (focus (repeat' (first | exact trivial | apply And.intro | omega | (simp only [List.length_append, List.length_cons, List.length_nil, Int.toNat_natCast]; omega))))) | (refine k_op rfl ?_; first | refine v_op (g_ldS rfl rfl (by assumption) rfl rfl) rfl rfl ?_ | refine c_bsl rfl rfl rfl rfl rfl rfl fun _ => ?_ | refine v_op (g_bsB rfl rfl (by (repeat (first | exact BL.nil | apply BL.lit rfl)); done)) rfl rfl ?_ | refine v_op (g_lenL rfl) rfl rfl ?_ | (refine v_op (g_pickT rfl rfl rfl) rfl rfl ?_) | (refine v_op (g_pickF rfl rfl rfl) rfl rfl ?_)) | (refine k_gt rfl rfl rfl ?_) | (refine k_gf rfl rfl rfl ?_) | (refine k_tt rfl rfl ?_) | (refine k_ff rfl (dFf (by omega)) ?_))
    refine k_rr (vs := [_]) rfl ⟨rfl, trivial⟩ rfl (List.nil_sublist _) ⟨rfl, rfl, ?_⟩
    rw [oneOf_one]; (rfl)
theorem c_keyS {ts : List Ty} (hw : SchW ts) {v : V} {k : List UInt8} {b : Nat} (h : RepR G ts v k b) : v.wf → v.tot ≤ 100000 → PuG Tryz.prog 19 [Pt b 0] G (· = S v.key) := by
  induction h with
  | leaf w x k tx b h1 h2 =>
    intro hwf ht
    rw [nd_tot] at ht
    rcases h2 with ⟨rfl, rfl, rfl, _⟩ | ⟨rfl, rfl, rfl⟩ | ⟨rfl, rfl, rfl, rfl | rfl⟩
    · obtain ⟨m, hm0, hm1, hnum0⟩ := wf_num hwf
      have cx_num : PuG Tryz.prog 36 [S tx, I 999999] G (· = Tu [I m, Bo true]) := by
        refine (c_l3Num (G := G) (by omega)).mono ?_
        rintro v G' L' ⟨g1, g2, n, rfl, h4⟩
        exact ⟨g1, g2, by rw [h4 _ hnum0, hnum0]; rfl⟩
      refine p_enter [(0, _)] Tryz.func19 (by kernel_rfl) Tryz.ntmps19 rfl rfl (by repeat' constructor) fun B hB => ?_
      repeat' (first | (refine run (t := tb) 400 rfl ?_ ?_; (focus (repeat' (first | exact trivial | apply And.intro | omega | (simp only [List.length_append, List.length_cons, List.length_nil, Int.toNat_natCast]; omega))))) | (refine k_op rfl ?_; first | refine v_op (g_ldS rfl rfl (by assumption) rfl rfl) rfl rfl ?_ | refine c_bsl rfl rfl rfl rfl rfl rfl fun _ => ?_ | refine v_op (g_bsB rfl rfl (by (repeat (first | exact BL.nil | apply BL.cons)); done)) rfl rfl ?_ | (refine c_rt rfl rfl rfl cx_num rfl ?_)) | (refine k_tt rfl rfl ?_))
      refine k_rr (vs := [_]) rfl ⟨rfl, trivial⟩ rfl (List.nil_sublist _) ⟨rfl, rfl, ?_⟩
      have e1 : u8 ((m / 256) % 256) = u8 (m / 256) := by unfold u8; rw [Int.emod_emod_of_dvd _ (by decide)]
      have e2 : u8 (m % 256) = u8 m := by unfold u8; rw [Int.emod_emod_of_dvd _ (by decide)]
      rw [oneOf_one, V.key]
      simp [keyW, hnum0, e1, e2]
    · have htl : (39 :: (x ++ [39])).length = x.length + 2 := by simp
      have hdt : ∀ n : Nat, n = x.length → ((39 :: (x ++ [39])).take (1 + n)).drop 1 = x := fun n hn => by rw [hn, Nat.add_comm, List.take_succ_cons, List.drop_succ_cons, List.drop_zero, List.take_left]
      generalize 39 :: (x ++ [39]) = tx at *
      have e3 : (tx.take (((tx.length : Nat) : Int) - 1).toNat).drop (Int.toNat 1) = x := by
        rw [show (((tx.length : Nat) : Int) - 1).toNat = 1 + x.length by omega]; exact hdt _ rfl
      have hcd : ((tx.take (((tx.length : Nat) : Int) - 1).toNat).drop (Int.toNat 1)).length + [u8 0].length ≤ 9223372036854775807 := by
        rw [e3]; simp only [List.length_cons, List.length_nil]; omega
      refine p_enter [(0, _)] Tryz.func19 (by kernel_rfl) Tryz.ntmps19 rfl rfl (by repeat' constructor) fun B hB => ?_
      repeat' (first | (refine run (t := tb) 400 rfl ?_ ?_; (focus (repeat' (first | exact trivial | apply And.intro | omega | (simp only [List.length_append, List.length_cons, List.length_nil, Int.toNat_natCast]; omega))))) | (refine k_op rfl ?_; (refine v_op (g_ldS rfl rfl (by assumption) rfl rfl) rfl rfl ?_)) | (refine k_tt rfl rfl ?_) | (refine k_ff rfl rfl ?_) | (refine k_any (s_any (id := 6) _ (fun _ h => h) mixed ?_); refine x_tks (t := tb) (fuel := 9) [0, 1, 2, 4, 5, 6] (bts 15 119) (by kernel_rfl) (by kernel_rfl) rfl rfl (Gh.le.refl _) sRr trivial ?_; ((refine (x_tkg (bts 15 127) 3 rfl (by kernel_rfl) rfl (Gh.le.refl _) sRr) (g_ldS rfl rfl (by assumption) rfl rfl) rfl rfl ?_)); ((refine (x_tkg (bts 15 255) 7 rfl (by kernel_rfl) rfl (Gh.le.refl _) sRr) (g_ldS rfl rfl (by assumption) rfl rfl) rfl rfl ?_)); refine x_tks (t := tb) (fuel := 4) [8, 9, 10] (bts 15 2047) (by kernel_rfl) (by kernel_rfl) rfl rfl (Gh.le.refl _) sRr ?_ ?_; (focus (repeat' (first | exact trivial | apply And.intro | omega))); refine x_all [11] (by kernel_rfl) (by decide) ⟨?_, trivial⟩; refine x_opg rfl rfl ?_; (refine c_bsl rfl rfl rfl rfl rfl rfl fun _ => ?_); refine x_ks gRr (by repeat (exact List.nil_sublist _)) (listed' := (bts 15 4095)) (by kernel_rfl) ?_; ((refine (x_tkg (bts 15 8191) 12 rfl (by kernel_rfl) rfl (Gh.le.refl _) sRr) (g_bsB rfl rfl (by (repeat (first | exact BL.nil | apply BL.lit rfl)); done)) rfl rfl ?_)); refine x_tks (t := tb) (fuel := 0) [13, 14] (bts 15 32767) (by kernel_rfl) (by kernel_rfl) rfl rfl (Gh.le.refl _) sRr ?_ ?_; (focus (repeat' (first | exact trivial | apply And.intro | omega))); refine x_done (by kernel_rfl) (k_bk ?_)))
      refine k_rr (vs := [_]) rfl ⟨rfl, trivial⟩ rfl (List.nil_sublist _) ⟨rfl, rfl, ?_⟩
      rw [oneOf_one, e3, V.key]; rfl
    · refine p_enter [(0, _)] Tryz.func19 (by kernel_rfl) Tryz.ntmps19 rfl rfl (by repeat' constructor) fun B hB => ?_
      repeat' (first | (refine run (t := tb) 400 rfl ?_ ?_; (focus (repeat' (first | exact trivial | apply And.intro | omega | (simp only [List.length_append, List.length_cons, List.length_nil, Int.toNat_natCast]; omega))))) | (refine k_op rfl ?_; first | refine v_op (g_ldS rfl rfl (by assumption) rfl rfl) rfl rfl ?_ | refine c_bsl rfl rfl rfl rfl rfl rfl fun _ => ?_ | refine v_op (g_bsB rfl rfl (by (repeat (first | exact BL.nil | apply BL.cons)); done)) rfl rfl ?_) | (refine k_tt rfl rfl ?_) | (refine k_ff rfl rfl ?_))
      refine k_rr (vs := [_]) rfl ⟨rfl, trivial⟩ rfl (List.nil_sublist _) ⟨rfl, rfl, ?_⟩
      rw [oneOf_one, V.key]; rfl
    · refine p_enter [(0, _)] Tryz.func19 (by kernel_rfl) Tryz.ntmps19 rfl rfl (by repeat' constructor) fun B hB => ?_
      repeat' (first | (refine run (t := tb) 400 rfl ?_ ?_; (focus (repeat' (first | exact trivial | apply And.intro | omega | (simp only [List.length_append, List.length_cons, List.length_nil, Int.toNat_natCast]; omega))))) | (refine k_op rfl ?_; first | refine v_op (g_ldS rfl rfl (by assumption) rfl rfl) rfl rfl ?_ | refine c_bsl rfl rfl rfl rfl rfl rfl fun _ => ?_ | refine v_op (g_bsB rfl rfl (by (repeat (first | exact BL.nil | apply BL.cons)); done)) rfl rfl ?_) | (refine k_tt rfl rfl ?_) | (refine k_ff rfl rfl ?_))
      refine k_rr (vs := [_]) rfl ⟨rfl, trivial⟩ rfl (List.nil_sublist _) ⟨rfl, rfl, ?_⟩
      rw [oneOf_one, V.key]; rfl
  | lst k b ks bs a c h1 h2 h3 hk ih =>
    intro hwf ht
    rw [nd_tot] at ht
    have hwk := wf_kids hwf
    have hkl := tots_len ks
    have hfl := mrk_len ks
    refine (c_keyL (KS := ks) rfl (by omega) h1 h2 h3 (by omega) fun i hi => ?_).mono fun v _ _ hv => ?_
    · have hti := tot_nth hi
      have hbl := key_len (nth ks i)
      exact ⟨ih i hi (wf_nth hwk hi) (by omega), by omega⟩
    · obtain ⟨g1, g2, hv⟩ := hv; exact ⟨g1, g2, by rw [hv, V.key]; simp [keyW, mrk_one]⟩
  | non k b h1 =>
    intro _ _
    refine p_enter [(0, _)] Tryz.func19 (by kernel_rfl) Tryz.ntmps19 rfl rfl (by repeat' constructor) fun B hB => ?_
    repeat' (first | (refine run (t := tb) 400 rfl ?_ ?_; (focus (repeat' (first | exact trivial | apply And.intro | omega | (simp only [List.length_append, List.length_cons, List.length_nil, Int.toNat_natCast]; omega))))) | (refine k_op rfl ?_; first | refine v_op (g_ldS rfl rfl (by assumption) rfl rfl) rfl rfl ?_ | refine c_bsl rfl rfl rfl rfl rfl rfl fun _ => ?_ | refine v_op (g_bsB rfl rfl (by (repeat (first | exact BL.nil | apply BL.lit rfl)); done)) rfl rfl ?_ | refine v_op (g_lenL rfl) rfl rfl ?_) | (refine k_tt rfl rfl ?_) | (refine k_ff rfl rfl ?_))
    refine k_rr (vs := [_]) rfl ⟨rfl, trivial⟩ rfl (List.nil_sublist _) ⟨rfl, rfl, ?_⟩
    rfl
  | opt k b kb b' v h1 h2 h3 ih =>
    intro hwf ht
    simp only [nd_tot, V.tots] at ht
    have hwv := (wf_kids hwf).1
    have cx_key := ih hwv (by omega)
    have hbl := key_len v
    refine p_enter [(0, _)] Tryz.func19 (by kernel_rfl) Tryz.ntmps19 rfl rfl (by repeat' constructor) fun B hB => ?_
    repeat' (first | (refine run (t := tb) 400 rfl ?_ ?_; (focus (repeat' (first | exact trivial | apply And.intro | omega | (simp only [List.length_append, List.length_cons, List.length_nil, Int.toNat_natCast]; omega))))) | (refine k_op rfl ?_; first | refine v_op (g_ldS rfl rfl (by assumption) rfl rfl) rfl rfl ?_ | refine v_op (g_lenL rfl) rfl rfl ?_) | (refine k_tt rfl rfl ?_) | (refine k_ff rfl rfl ?_) | (refine k_any (s_any (id := 12) _ (fun _ h => h) mixed ?_); refine x_tks (t := tb) (fuel := 8) [2, 3, 4] (bts 11 28) (by kernel_rfl) (by kernel_rfl) rfl rfl (Gh.le.refl _) sRr trivial ?_; ((refine (x_tkg (bts 11 60) 5 rfl (by kernel_rfl) rfl (Gh.le.refl _) sRr) (g_ldS rfl rfl (by assumption) rfl rfl) rfl rfl ?_)); ((refine (x_tkg (bts 11 124) 6 rfl (by kernel_rfl) rfl (Gh.le.refl _) sRr) (g_iaddr rfl rfl (by omega)) rfl rfl ?_)); ((refine (x_tkg (bts 11 252) 7 rfl (by kernel_rfl) rfl (Gh.le.refl _) sRr) (g_ldS rfl rfl (by assumption) rfl rfl) rfl rfl ?_)); refine x_all [0, 8] (by kernel_rfl) (by decide) ⟨?_, ?_, trivial⟩; (focus (refine x_opg rfl rfl ?_; (refine c_bsl rfl rfl rfl rfl rfl rfl fun _ => ?_); refine x_ks gRr (by repeat (exact List.nil_sublist _)) (listed' := (bts 11 253)) (by kernel_rfl) ?_; ((refine (x_tkg (bts 11 255) 1 rfl (by kernel_rfl) rfl (Gh.le.refl _) sRr) (g_bsB rfl rfl (by (repeat (first | exact BL.nil | apply BL.lit rfl)); done)) rfl rfl ?_)); refine x_all [8] (by kernel_rfl) (by decide) ⟨?_, trivial⟩; refine x_opg rfl rfl ?_; (refine c_rt rfl rfl rfl cx_key rfl ?_); refine x_ks gRr sRr (listed' := (bts 11 511)) (by kernel_rfl) ?_; refine x_tks (t := tb) (fuel := 0) [9, 10] (bts 11 2047) (by kernel_rfl) (by kernel_rfl) rfl rfl (Gh.le.refl _) sRr ?_ ?_; (focus (repeat' (first | exact trivial | apply And.intro | (simp only [List.length_append, List.length_cons, List.length_nil, Int.toNat_natCast]; omega)))); refine x_done (by kernel_rfl) (k_bk ?_))); rotate_left 1; (focus (refine x_opg rfl rfl ?_; (refine c_rt rfl rfl rfl cx_key rfl ?_); refine x_ks gRr sRr (listed' := (bts 11 508)) (by kernel_rfl) ?_; refine x_all [0] (by kernel_rfl) (by decide) ⟨?_, trivial⟩; refine x_opg rfl rfl ?_; (refine c_bsl rfl rfl rfl rfl rfl rfl fun _ => ?_); refine x_ks gRr (by repeat (exact List.nil_sublist _)) (listed' := (bts 11 509)) (by kernel_rfl) ?_; ((refine (x_tkg (bts 11 511) 1 rfl (by kernel_rfl) rfl (Gh.le.refl _) sRr) (g_bsB rfl rfl (by (repeat (first | exact BL.nil | apply BL.lit rfl)); done)) rfl rfl ?_)); refine x_tks (t := tb) (fuel := 0) [9, 10] (bts 11 2047) (by kernel_rfl) (by kernel_rfl) rfl rfl (Gh.le.refl _) sRr ?_ ?_; (focus (repeat' (first | exact trivial | apply And.intro | (simp only [List.length_append, List.length_cons, List.length_nil, Int.toNat_natCast]; omega)))); refine x_done (by kernel_rfl) (k_bk ?_))); rotate_left 1))
    all_goals refine k_rr (vs := [_]) rfl ⟨rfl, trivial⟩ rfl (List.nil_sublist _) ⟨rfl, rfl, ?_⟩
    all_goals (rw [oneOf_one, V.key]; simp [keyW, V.keys]; rfl)
  | recd k b t fs bs a a2 c c2 h0 h1 h2 h3 h4 h5 hk ih =>
    intro hwf ht
    obtain ⟨r, rfl⟩ := refT_64 h0.1
    rw [nd_tot] at ht
    have hwk := wf_kids hwf
    have hml : (fs.map (fun p : Fld × V => V.nd 61 [] p.1.tag [p.2])).length = fs.length := by simp
    have hnt : ∀ i, i < fs.length → nth (fs.map (fun p : Fld × V => V.nd 61 [] p.1.tag [p.2])) i = V.nd 61 [] (nth fs i).1.tag [(nth fs i).2] := fun i hi => by rw [nth_eq (by simpa using hi), nth_eq hi]; simp
    generalize hKS : fs.map (fun p : Fld × V => V.nd 61 [] p.1.tag [p.2]) = KS at *
    have hfl := mrk_len KS
    refine (c_keyT (tx := [82]) (KS := KS) hml.symm (by have := tots_len KS; omega) (.inl rfl) h1 h2 h3 (by simp) h4 (by omega) fun i hi => ?_).mono fun v _ _ hv => ?_
    · have hti := tot_nth (ks := KS) (i := i) (by omega)
      have hwi := wf_nth hwk (i := i) (by omega)
      rw [hnt i hi] at hti hwi
      simp only [nd_tot, V.tots] at hti
      have hwv := (wf_kids hwi).1
      have hbl := key_len (nth fs i).2
      have htn : nth (fs.map fun p : Fld × V => p.1.tag) i = (nth fs i).1.tag := by rw [nth_eq (by simpa using hi), nth_eq hi]; simp
      exact ⟨(nth fs i).2, by rw [hnt i hi, htn], ih i hi hwv (by omega), by omega⟩
    · obtain ⟨g1, g2, hv⟩ := hv; exact ⟨g1, g2, by rw [hv, V.key]; simp [keyW, mrk_one]⟩
  | enm k b tgb t d h0 h1 h2 h3 =>
    intro _ _
    obtain ⟨r, rfl⟩ := refT_64 h0.1
    refine p_enter [(0, _)] Tryz.func19 (by kernel_rfl) Tryz.ntmps19 rfl rfl (by repeat' constructor) fun B hB => ?_
    repeat' (first | (refine run (t := tb) 400 rfl ?_ ?_; (focus (repeat' (first | exact trivial | apply And.intro | omega | (simp only [List.length_append, List.length_cons, List.length_nil, Int.toNat_natCast]; omega))))) | (refine k_op rfl ?_; first | refine v_op (g_ldS rfl rfl (by assumption) rfl rfl) rfl rfl ?_ | refine c_bsl rfl rfl rfl rfl rfl rfl fun _ => ?_ | refine v_op (g_bsB rfl rfl (by (repeat (first | exact BL.nil | apply BL.lit rfl)); done)) rfl rfl ?_) | (refine k_ff rfl rfl ?_))
    refine Nx.re (d := 6) (v' := S (([u8 d.tag]).take 0)) rfl rfl ?_
    refine k_loop (ι := Nat) (fun i => i ≤ 1) (fun i => [(0, Pt b 0), (5, S [1]), (6, S (([u8 d.tag]).take i)), (7, I i)]) (fun _ => G) (fun i => []) (fun i => 1 - i) 0 ?_ (by repeat' constructor) rfl (by repeat (exact List.nil_sublist _)) (fun i Hi => ?_)
    · exact Nat.zero_le _
    have hi2 : i = 0 ∨ i = 1 := by omega
    rcases hi2 with rfl | rfl
    · rw [List.take_zero]
      repeat' (first | (refine run (t := tb) 400 rfl ?_ ?_; (focus (repeat' (first | exact trivial | apply And.intro | omega | (simp only [List.length_append, List.length_cons, List.length_nil, Int.toNat_natCast]; omega))))) | (refine k_op rfl ?_; first | refine v_op (g_ldS rfl rfl (by assumption) rfl rfl) rfl rfl ?_ | refine c_bsl rfl rfl rfl rfl rfl rfl fun _ => ?_ | refine v_op (g_bsB rfl rfl (by (repeat (first | exact BL.nil | apply BL.cons)); done)) rfl rfl ?_ | refine v_op (g_lenL rfl) rfl rfl ?_ | (refine v_op (g_iaddrN rfl rfl (by omega)) rfl rfl ?_) | (refine v_op (g_pickT rfl rfl rfl) rfl rfl ?_) | (refine v_op (g_pickF rfl rfl rfl) rfl rfl ?_)) | (refine k_gt rfl rfl rfl ?_) | (refine k_gf rfl rfl rfl ?_) | (refine k_tt rfl rfl ?_) | (refine k_ff rfl rfl ?_))
      refine Nx.re (d := 6) (v' := S (([u8 d.tag]).take 1)) rfl rfl ?_
      exact k_rd 1 (by omega) (by omega) (by repeat' constructor) rfl (by repeat (exact List.nil_sublist _))
    · repeat' (first | (refine run (t := tb) 400 rfl ?_ ?_; (focus (repeat' (first | exact trivial | apply And.intro | omega | (simp only [List.length_append, List.length_cons, List.length_nil, Int.toNat_natCast]; omega))))) | (refine k_op rfl ?_; first | refine v_op (g_ldS rfl rfl (by assumption) rfl rfl) rfl rfl ?_ | refine v_op (g_lenL rfl) rfl rfl ?_ | (refine v_op (g_pickF rfl rfl rfl) rfl rfl ?_)) | (refine k_gf rfl rfl rfl ?_) | (refine k_ff rfl rfl ?_))
      refine k_rr (vs := [_]) rfl ⟨rfl, trivial⟩ rfl (List.nil_sublist _) ⟨rfl, rfl, ?_⟩
      rw [oneOf_one, V.key]; rfl
  | uni k b tgb kb b' t d v h0 h1 h2 h3 h4 hk ih =>
    intro hwf ht
    obtain ⟨r, rfl⟩ := refT_64 h0.1
    simp only [nd_tot, V.tots] at ht
    have hwv := (wf_kids hwf).1
    have hbl := key_len v
    have hub : (V.nd 61 [] d.tag [v]).key = u8 d.tag :: v.key := by rw [V.key]; simp [V.keys, keyW]
    refine (c_keyT (tx := [85]) (KS := [V.nd 61 [] d.tag [v]]) (tg := [d.tag]) (bs := [b']) rfl (by simp) (.inr rfl) h2 (slv_one h3) (slv_one h4) rfl rfl ?_ fun i hi => ?_).mono fun u _ _ hu => ?_
    · simp only [V.keys, mrk, List.map_cons, List.map_nil, List.flatten_cons, List.flatten_nil, List.append_nil, hub, List.length_append, List.length_cons, List.length_nil]; omega
    · have : i = 0 := by have h9 : i < 1 := hi; omega
      subst this
      exact ⟨v, rfl, ih hwv (by omega), by omega⟩
    · obtain ⟨g1, g2, hu⟩ := hu; exact ⟨g1, g2, by rw [hu, V.key]; simp [V.keys, keyW, hub, mrk]⟩
def keyOf (s k w : List UInt8) : Option (List UInt8) := match givenV s k w with
  | some u => if u.key.length ≤ 900 then some u.key else none
  | none => none
theorem c_KeyOfI1 {s k w ub : List UInt8} {u : V} (cx_gi1 : FnS Tryz.prog 20 [S s, S k, S w] G (fun v G' => ∃ b qs cv, v = Tu [Pt b 0, Ag [S (sg k), S (bs k), S (nm k)], Ag (vcF cv), Bo true] ∧ tyq qs = tyq qs ∧ ScI G' b qs ∧ PuG Tryz.prog 21 [Ag (vcF cv)] G' (· = S ub))) : PuG Tryz.prog 9 [S s, S k, S w] G (· = Tu [S (if ub.length ≤ 900 then ub else []), Bo (decide (ub.length ≤ 900))]) := by
  by_cases h6 : ub.length ≤ 900
  · rw [if_pos h6, decide_eq_true h6]
    refine b_enter (Post := fun v G' L' => G' = G ∧ L' = [] ∧ _) [(0, _), (1, _), (2, _)] Tryz.func9 (by kernel_rfl) Tryz.ntmps9 rfl rfl (by repeat' constructor) fun B hok hB hW => ?_
    repeat' (first | (refine run (t := tb) 400 rfl trivial ?_) | (refine k_op rfl ?_; first | refine c_al rfl rfl fun _ => ?_ | refine c_stA rfl rfl rfl rfl rfl rfl ?_ | refine v_op (g_ldA rfl rfl rfl rfl) rfl rfl ?_ | (refine c_fns rfl rfl rfl cx_gi1 rfl ?_; rintro _ G hle ⟨bg, qg, cv, rfl, hTg, hRg, hrv⟩; skip) | (refine c_rt rfl rfl rfl hrv rfl ?_)) | (refine k_ff rfl (by first | rfl | (refine decide_eq_false ?_; (omega))) ?_))
    all_goals refine Nx.base hok hB ?_
    all_goals refine k_rr (vs := [_, _]) rfl ⟨rfl, rfl, trivial⟩ rfl (List.nil_sublist _) ⟨rfl, rfl, ?_⟩
    all_goals rfl
  · rw [if_neg h6, decide_eq_false h6]
    refine b_enter (Post := fun v G' L' => G' = G ∧ L' = [] ∧ _) [(0, _), (1, _), (2, _)] Tryz.func9 (by kernel_rfl) Tryz.ntmps9 rfl rfl (by repeat' constructor) fun B hok hB hW => ?_
    repeat' (first | (refine run (t := tb) 400 rfl trivial ?_) | (refine k_op rfl ?_; first | refine c_al rfl rfl fun _ => ?_ | refine c_stA rfl rfl rfl rfl rfl rfl ?_ | refine v_op (g_ldA rfl rfl rfl rfl) rfl rfl ?_ | (refine c_fns rfl rfl rfl cx_gi1 rfl ?_; rintro _ G hle ⟨bg, qg, cv, rfl, hTg, hRg, hrv⟩; skip) | (refine c_rt rfl rfl rfl hrv rfl ?_)) | (refine k_tt rfl (dTt (by omega)) ?_) | (refine k_ff rfl rfl ?_))
    all_goals refine Nx.base hok hB ?_
    all_goals refine k_rr (vs := [_, _]) rfl ⟨rfl, rfl, trivial⟩ rfl (List.nil_sublist _) ⟨rfl, rfl, ?_⟩
    all_goals rfl
theorem c_KeyOfI0 {s k w : List UInt8} (h : s.length ≤ 1048576 ∧ k.length ≤ 1048576 ∧ w.length ≤ 1048576) (hg : givenV s k w = none) : PuG Tryz.prog 9 [S s, S k, S w] G (· = Tu [S [], Bo false]) := by
  have cx_gi0 := c_given0 (G := G) h hg
  refine b_enter (Post := fun v G' L' => G' = G ∧ L' = [] ∧ _) [(0, _), (1, _), (2, _)] Tryz.func9 (by kernel_rfl) Tryz.ntmps9 rfl rfl (by repeat' constructor) fun B hok hB hW => ?_
  repeat' (first | (refine run (t := tb) 400 rfl trivial ?_) | (refine k_op rfl ?_; first | refine c_al rfl rfl fun _ => ?_ | refine c_stA rfl rfl rfl rfl rfl rfl ?_ | (refine c_fns rfl rfl rfl cx_gi0 rfl ?_; rintro _ G hle ⟨p1, a1, b1, c1, rfl⟩; skip)) | (refine k_tt rfl rfl ?_))
  all_goals refine Nx.base hok hB ?_
  all_goals refine k_rr (vs := [_, _]) rfl ⟨rfl, rfl, trivial⟩ rfl (List.nil_sublist _) ⟨rfl, rfl, ?_⟩
  all_goals rfl
theorem c_KeyOfI {s k w : List UInt8} (h : s.length ≤ 1048576 ∧ k.length ≤ 1048576 ∧ w.length ≤ 1048576) : PuG Tryz.prog 9 [S s, S k, S w] G (· = Tu [S ((keyOf s k w).getD []), Bo (keyOf s k w).isSome]) := by
  unfold keyOf
  cases hg : givenV s k w with
  | none => exact c_KeyOfI0 h hg
  | some u =>
    obtain ⟨ts, hs, hki, hvo, hto, hwf⟩ := given_some hg
    have h1 := c_KeyOfI1 (ub := u.key) (u := u) ((c_given1 (G := G) h hs hki hvo).mono (by
      rintro r G' L' ⟨g1, g2, b, qs, cv, g3, _, g5, g6⟩
      exact ⟨g1, g2, b, qs, cv, g3, rfl, g5, c_key u.tot (Nat.le_refl _) (by omega) hwf g6⟩))
    dsimp only
    split
    · rename_i h6; rw [if_pos h6, decide_eq_true h6] at h1; exact h1
    · rename_i h6; rw [if_neg h6, decide_eq_false h6] at h1; exact h1
theorem c_KeyOfS0 {s k w : List UInt8} (h : s.length ≤ 1048576 ∧ k.length ≤ 1048576 ∧ w.length ≤ 1048576) (hg : givenV s k w = none) : PuG Tryz.prog 8 [S s, S k, S w] G (· = Tu [S [], Bo false]) := by
  have cx_l40 := c_l4Of0 (G := G) h hg
  refine b_enter (Post := fun v G' L' => G' = G ∧ L' = [] ∧ _) [(0, _), (1, _), (2, _)] Tryz.func8 (by kernel_rfl) Tryz.ntmps8 rfl rfl (by repeat' constructor) fun B hok hB hW => ?_
  repeat' (first | (refine run (t := tb) 400 rfl trivial ?_) | (refine k_op rfl ?_; first | (refine v_op (g_pickT rfl rfl rfl) rfl rfl ?_) | (refine c_fns rfl rfl rfl cx_l40 rfl ?_; rintro _ G hle ⟨uu, q1, rfl⟩; skip)) | (refine k_gt rfl rfl rfl ?_) | (refine k_tt rfl rfl ?_))
  all_goals refine Nx.base hok hB ?_
  all_goals refine k_rr (vs := [_, _]) rfl ⟨rfl, rfl, trivial⟩ rfl (List.nil_sublist _) ⟨rfl, rfl, ?_⟩
  all_goals rfl
theorem c_KeyOfS1 {s k w ub : List UInt8} (cx_l4 : FnS Tryz.prog 18 [S s, S k, S w] G (fun r G' => ∃ u b, r = Tu [u, Pt b 0, Bo true] ∧ PuG Tryz.prog 19 [Pt b 0] G' (· = S ub))) : PuG Tryz.prog 8 [S s, S k, S w] G (· = Tu [S (if ub.length ≤ 900 then ub else []), Bo (decide (ub.length ≤ 900))]) := by
  by_cases h6 : ub.length ≤ 900
  · rw [if_pos h6, decide_eq_true h6]
    refine b_enter (Post := fun v G' L' => G' = G ∧ L' = [] ∧ _) [(0, _), (1, _), (2, _)] Tryz.func8 (by kernel_rfl) Tryz.ntmps8 rfl rfl (by repeat' constructor) fun B hok hB hW => ?_
    repeat' (first | (refine run (t := tb) 400 rfl trivial ?_) | (refine k_op rfl ?_; first | (refine v_op (g_pickF rfl rfl rfl) rfl rfl ?_) | (refine c_fns rfl rfl rfl cx_l4 rfl ?_; rintro _ G hle ⟨uu, q1, rfl, hyes⟩; skip) | (refine c_rt rfl rfl rfl hyes rfl ?_)) | (refine k_gf rfl rfl rfl ?_) | (refine k_ff rfl (dFf (by omega)) ?_))
    all_goals refine Nx.base hok hB ?_
    all_goals refine k_rr (vs := [_, _]) rfl ⟨rfl, rfl, trivial⟩ rfl (List.nil_sublist _) ⟨rfl, rfl, ?_⟩
    all_goals rfl
  · rw [if_neg h6, decide_eq_false h6]
    refine b_enter (Post := fun v G' L' => G' = G ∧ L' = [] ∧ _) [(0, _), (1, _), (2, _)] Tryz.func8 (by kernel_rfl) Tryz.ntmps8 rfl rfl (by repeat' constructor) fun B hok hB hW => ?_
    repeat' (first | (refine run (t := tb) 400 rfl trivial ?_) | (refine k_op rfl ?_; first | (refine v_op (g_pickF rfl rfl rfl) rfl rfl ?_) | (refine c_fns rfl rfl rfl cx_l4 rfl ?_; rintro _ G hle ⟨uu, q1, rfl, hyes⟩; skip) | (refine c_rt rfl rfl rfl hyes rfl ?_)) | (refine k_gf rfl rfl rfl ?_) | (refine k_tt rfl (dTt (by omega)) ?_))
    all_goals refine Nx.base hok hB ?_
    all_goals refine k_rr (vs := [_, _]) rfl ⟨rfl, rfl, trivial⟩ rfl (List.nil_sublist _) ⟨rfl, rfl, ?_⟩
    all_goals rfl
theorem c_KeyOfS {s k w : List UInt8} (h : s.length ≤ 1048576 ∧ k.length ≤ 1048576 ∧ w.length ≤ 1048576) : PuG Tryz.prog 8 [S s, S k, S w] G (· = Tu [S ((keyOf s k w).getD []), Bo (keyOf s k w).isSome]) := by
  unfold keyOf
  cases hg : givenV s k w with
  | none => exact c_KeyOfS0 h hg
  | some u =>
    obtain ⟨ts, hs, hki, hvo, hto, hwf⟩ := given_some hg
    have h1 := c_KeyOfS1 (ub := u.key) ((c_l4Of1 (G := G) h hs hki hvo).mono (by
      rintro r G' L' ⟨g1, g2, v, b, g3, g4⟩
      exact ⟨g1, g2, v, b, g3, c_keyS (schemaOf_w hs) g4 hwf (by omega)⟩))
    dsimp only
    split
    · rename_i h6; rw [if_pos h6, decide_eq_true h6] at h1; exact h1
    · rename_i h6; rw [if_neg h6, decide_eq_false h6] at h1; exact h1
theorem c_FnExactKeyOf {s k w : List UInt8} (h : s.length ≤ 9223372036854775807 ∧ k.length ≤ 9223372036854775807 ∧ w.length ≤ 9223372036854775807) : PuG Tryz.prog 3 [S s, S k, S w] G (· = Bo true) := by
  by_cases h1 : s.length ≤ 1048576 ∧ k.length ≤ 1048576 ∧ w.length ≤ 1048576
  · have cx_ss1 := c_KeyOfI (G := G) h1
    have cx_ss2 := c_KeyOfS (G := G) h1
    refine p_enter [(0, _), (1, _), (2, _)] Tryz.func3 (by kernel_rfl) Tryz.ntmps3 rfl rfl (by repeat' constructor) fun B hB => ?_
    repeat' (first | (refine run (t := tb) 400 rfl trivial ?_) | (refine k_op rfl ?_; first | (refine v_op (g_pickF rfl rfl rfl) rfl rfl ?_) | (refine c_rt rfl rfl rfl cx_ss2 rfl ?_) | (refine c_rt rfl rfl rfl cx_ss1 rfl ?_)) | (refine k_gf rfl rfl ?_ ?_; (focus ((simp [*]; done); done))) | (refine k_ff rfl ?_ ?_; (focus ((first | (refine decide_eq_false ?_; (omega)) | (simp [*]; done)); done))))
    all_goals refine k_rr (vs := [_]) rfl ⟨rfl, trivial⟩ rfl (List.nil_sublist _) ⟨rfl, rfl, ?_⟩
    all_goals rfl
  · by_cases ha : s.length ≤ 1048576
    case neg =>
      refine p_enter [(0, _), (1, _), (2, _)] Tryz.func3 (by kernel_rfl) Tryz.ntmps3 rfl rfl (by repeat' constructor) fun B hB => ?_
      repeat' (first | (refine run (t := tb) 400 rfl trivial ?_) | (refine k_tt rfl (dTt (by omega)) ?_))
      refine k_rr (vs := [_]) rfl ⟨rfl, trivial⟩ rfl (List.nil_sublist _) ⟨rfl, rfl, ?_⟩
      rfl
    by_cases hb : k.length ≤ 1048576
    case neg =>
      refine p_enter [(0, _), (1, _), (2, _)] Tryz.func3 (by kernel_rfl) Tryz.ntmps3 rfl rfl (by repeat' constructor) fun B hB => ?_
      repeat' (first | (refine run (t := tb) 400 rfl trivial ?_) | (refine k_tt rfl (dTt (by omega)) ?_) | (refine k_ff rfl (dFf (by omega)) ?_))
      refine k_rr (vs := [_]) rfl ⟨rfl, trivial⟩ rfl (List.nil_sublist _) ⟨rfl, rfl, ?_⟩
      rfl
    have hc : ¬ w.length ≤ 1048576 := fun hc => h1 ⟨ha, hb, hc⟩
    refine p_enter [(0, _), (1, _), (2, _)] Tryz.func3 (by kernel_rfl) Tryz.ntmps3 rfl rfl (by repeat' constructor) fun B hB => ?_
    repeat' (first | (refine run (t := tb) 400 rfl trivial ?_) | (refine k_tt rfl (dTt (by omega)) ?_) | (refine k_ff rfl (dFf (by omega)) ?_))
    refine k_rr (vs := [_]) rfl ⟨rfl, trivial⟩ rfl (List.nil_sublist _) ⟨rfl, rfl, ?_⟩
    rfl
end Go.E
