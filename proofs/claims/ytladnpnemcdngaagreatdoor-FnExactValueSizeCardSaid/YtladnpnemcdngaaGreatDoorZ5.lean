/- Contracts and plain laws that the statement rests on, part 5. Conditions: as each says. -/
import Derived.Test.YtladnpnemcdngaaGreatDoorZ4
import Derived.Test.YtladnpnemcdngaaGreatDoorZ3
set_option linter.unusedVariables false
set_option linter.unusedSimpArgs false
/-! Md -/
namespace Go.E
set_option maxRecDepth 20000
set_option maxHeartbeats 2000000
open Go.Proofs
variable {G : Gh}
theorem refV_ty (vs : List TyX) (k : List UInt8) : (refV vs k).map (·.2) = refT (tys vs) k := by
  unfold refV refT
  cases refN k with
  | none => rfl
  | some n => simp only [Option.bind_some]; exact findV_ty vs n
theorem refV_mem {vs : List TyX} {k : List UInt8} {x : TyX} (h : refV vs k = some x) : x ∈ vs := by
  unfold refV at h
  cases hr : refN k with
  | none => rw [hr] at h; cases h
  | some n => rw [hr] at h; exact (findV_mem h).1
theorem kindOk_kOk {s : List UInt8} (h : kindOk s = true) : kOk s = true ∧ s.length ≤ 12 := by
  unfold kindOk at h; simp only [Bool.and_eq_true, decide_eq_true_eq] at h; exact ⟨h.2, h.1⟩
theorem c_ends {u : Value} {vs : List TyX} {x0 : TyX} (h : SchR G u vs) (hn : vs.length ≤ 1000) (hw : ∀ x ∈ vs, TyW x.2) (hx : x0 ∈ vs) :
    PuG Tryz.prog 54 [u, Ag (tyF x0)] G (· = Bo (endsN (tys vs) (vs.length + 1) x0.2)) := by
  have hsl := h.sl
  refine p_enter [(0, _), (1, _)] Tryz.func54 (by kernel_rfl) Tryz.ntmps54 rfl rfl (by repeat (first | exact trivial | refine ⟨rfl, ?_⟩)) fun B hB => ?_
  repeat' (first | (refine run (t := tb) 400 rfl ?_ ?_; (focus (repeat' ((exact trivial))))) | (refine k_op rfl ?_; (refine c_bx rfl rfl rfl fun _ => ?_)))
  rename_i b0
  refine k_loop (ι := TyX × Nat) (fun i => i.1 ∈ vs ∧ i.2 ≤ vs.length + 1 ∧ endsN (tys vs) (vs.length + 1 - i.2) i.1.2 = endsN (tys vs) (vs.length + 1) x0.2) (fun i => [(0, u), (3, Pt b0 0), (5, I i.2)]) (fun _ => G) (fun i => [.blk b0 (.cells (tyF i.1).toArray tTy (0, 0))]) (fun i => vs.length + 1 - i.2) (x0, 0) ?_ (by repeat (first | exact trivial | refine ⟨rfl, ?_⟩)) rfl (by repeat ((exact List.Sublist.refl _))) (fun i Hi => ?_)
  · exact ⟨hx, Nat.zero_le _, rfl⟩
  obtain ⟨⟨⟨a, ca⟩, t⟩, n⟩ := i
  dsimp only at Hi ⊢
  obtain ⟨hxm, hnl, he⟩ := Hi
  have hW := hw _ hxm
  dsimp only at hW
  by_cases hlt : n ≤ vs.length
  case neg =>
    have e0 : vs.length + 1 - n = 0 := by omega
    rw [e0] at he
    repeat' (first | (refine run (t := tb) 400 rfl ?_ ?_; (focus (repeat' ((exact trivial))))) | (refine k_op rfl ?_; (refine v_op (g_lenV rfl (by assumption)) rfl rfl ?_)) | (refine k_ff rfl ?_ ?_; (focus (((refine decide_eq_false ?_; (omega))); done))))
    refine k_rr (vs := [_]) rfl ⟨rfl, trivial⟩ rfl (List.nil_sublist _) ⟨rfl, rfl, ?_⟩
    rw [← he]; rfl
  obtain ⟨m, hm⟩ : ∃ m, vs.length + 1 - n = m + 1 := ⟨vs.length - n, by omega⟩
  rw [hm, endsN] at he
  by_cases hU : t.sort = 85
  case neg =>
    rw [if_pos hU] at he
    repeat' (first | (refine run (t := tb) 400 rfl ?_ ?_; (focus (repeat' ((exact trivial))))) | (refine k_op rfl ?_; first | refine v_op (g_lenV rfl (by assumption)) rfl rfl ?_ | refine v_op (g_ld rfl rfl rfl) rfl rfl ?_) | (refine k_tt rfl ?_ ?_; (focus ((first | (refine decide_eq_true ?_; (omega)) | (simp; omega)); done))))
    refine k_rr (vs := [_]) rfl ⟨rfl, trivial⟩ rfl (List.nil_sublist _) ⟨rfl, rfl, ?_⟩
    rw [← he]; rfl
  rw [if_neg (by simp [hU])] at he
  have hne := hW.ne (by omega)
  have h0 : 0 < t.fields.length := List.length_pos_iff.2 hne
  obtain ⟨bf, of, cf, ef, hsf⟩ := (h.fl _ hxm).expl h0
  simp only [slX, Value.slice.injEq] at ef
  obtain ⟨rfl, -, rfl⟩ := ef
  dsimp only at hsf
  have hk0 : kind0 t = (nth t.fields 0).kind := by
    unfold kind0 nth
    cases t.fields with
    | nil => rfl
    | cons f r => rfl
  have hkk := kindOk_kOk ((hW.fld _ (nth_mem h0)).kind (by omega))
  rw [hk0] at he
  have href := refV_ty vs (nth t.fields 0).kind
  have cx_rf := c_ref (k := (nth t.fields 0).kind) h (by omega) hkk.1 (by omega)
  rcases hr : refV vs (nth t.fields 0).kind with _ | ⟨⟨a2, c2⟩, t2⟩
  · rw [hr] at href cx_rf
    rw [← href] at he
    repeat' (first | (refine run (t := tb) 400 rfl ?_ ?_; (focus (repeat' ((exact trivial))))) | (refine k_op rfl ?_; first | refine v_op (g_lenV rfl (by assumption)) rfl rfl ?_ | refine v_op (g_ld rfl rfl rfl) rfl rfl ?_ | (refine v_op (g_ldRF rfl rfl (by assumption) ?_ rfl rfl) rfl rfl ?_; (focus (((omega)); done))) | (refine v_op (g_iaddrN rfl rfl ?_) rfl rfl ?_; (focus ((omega); done))) | refine c_al rfl rfl fun _ => ?_ | refine c_stA rfl rfl rfl rfl rfl rfl ?_ | (refine c_rt rfl rfl rfl cx_rf rfl ?_)) | (refine k_tt rfl ?_ ?_; (focus ((first | rfl | (refine decide_eq_true ?_; (omega))); done))) | (refine k_ff rfl ?_ ?_; (focus (((simp [*]; done)); done))))
    all_goals refine k_rr (vs := [_]) rfl ⟨rfl, trivial⟩ rfl (List.nil_sublist _) ⟨rfl, rfl, ?_⟩
    all_goals (rw [← he]; rfl)
  · rw [hr] at href cx_rf
    rw [← href] at he
    repeat' (first | (refine run (t := tb) 400 rfl ?_ ?_; (focus (repeat' (first | exact trivial | apply And.intro | omega)))) | (refine k_op rfl ?_; first | refine v_op (g_lenV rfl (by assumption)) rfl rfl ?_ | refine v_op (g_ld rfl rfl rfl) rfl rfl ?_ | (refine v_op (g_ldRF rfl rfl (by assumption) ?_ rfl rfl) rfl rfl ?_; (focus (((omega)); done))) | refine v_op (g_ldA rfl rfl rfl rfl) rfl rfl ?_ | (refine v_op (g_iaddrN rfl rfl ?_) rfl rfl ?_; (focus ((omega); done))) | refine c_al rfl rfl fun _ => ?_ | refine c_stA rfl rfl rfl rfl rfl rfl ?_ | (refine c_rt rfl rfl rfl cx_rf rfl ?_)) | (refine k_tt rfl ?_ ?_; (focus (((refine decide_eq_true ?_; (omega))); done))) | (refine k_ff rfl ?_ ?_; (focus ((first | rfl | (simp [*]; done)); done))))
    refine k_rd (((a2, c2), t2), n + 1) ⟨refV_mem hr, by dsimp only; omega, ?_⟩ (by dsimp only; omega) (by repeat (first | exact trivial | refine ⟨rfl, ?_⟩)) rfl (by repeat (first | exact List.Sublist.refl _ | apply List.Sublist.cons))
    dsimp only
    rw [show vs.length + 1 - (n + 1) = m by omega]
    exact he
theorem tys_len (vs : List TyX) : (tys vs).length = vs.length := by simp [tys]
theorem nth_tys {vs : List TyX} {i : Nat} (h : i < vs.length) : nth (tys vs) i = (nth vs i).2 := by
  rw [nth_eq h, nth_eq (by rw [tys_len]; exact h)]; simp [tys]
theorem hasK_find {vs : List TyX} {k : List UInt8} : hasK (tys vs) k = (!(refN (core k)).isSome || (findV vs ((refN (core k)).getD [])).isSome) := by
  unfold hasK
  cases refN (core k) with
  | none => rfl
  | some n =>
    show (findT (tys vs) n).isSome = _
    rw [← findV_ty]; simp
theorem core_kOk {k : List UInt8} (h : kOk k = true) : kOk (core k) = true := by
  induction k with
  | nil => cases h
  | cons c r ih =>
    unfold core
    split
    · rename_i hc; rw [kOk, if_pos hc] at h; exact ih h
    · exact h
theorem core_len' : ∀ s : List UInt8, (core s).length ≤ s.length
  | [] => Nat.le_refl _
  | c :: r => by
    unfold core
    split
    · have := core_len' r; simp; omega
    · exact Nat.le_refl _
theorem c_valid {u : Value} {vs : List TyX} (h : SchR G u vs) (hn : vs.length ≤ 1000) (hw : ∀ x ∈ vs, TyW x.2) :
    PuG Tryz.prog 29 [u] G (· = Bo (decide (ValidT (tys vs)))) := by
  have hsl := h.sl
  have hlen := tys_len vs
  refine p_enter [(0, _)] Tryz.func29 (by kernel_rfl) Tryz.ntmps29 rfl rfl (by repeat (first | exact trivial | refine ⟨rfl, ?_⟩)) fun B hB => ?_
  repeat' ((refine run (t := tb) 400 rfl ?_ ?_; (focus (repeat' ((exact trivial))))))
  refine k_loop (ι := Nat) (fun i => i ≤ vs.length ∧ ∀ j, j < i → NamesAt (tys vs) j ∧ KindsOk (tys vs) (nth (tys vs) j)) (fun i => [(0, u), (3, I i)]) (fun _ => G) (fun i => []) (fun i => vs.length - i) 0 ?_ (by repeat (first | exact trivial | refine ⟨rfl, ?_⟩)) rfl (by repeat ((exact List.Sublist.refl _))) (fun i Hi => ?_)
  · exact ⟨Nat.zero_le _, fun j hj => absurd hj (by omega)⟩
  by_cases hi : i < vs.length
  case neg =>
    have ei : i = vs.length := by omega
    subst ei
    have Hall := Hi.2
    repeat' (first | (refine run (t := tb) 400 rfl ?_ ?_; (focus (repeat' ((exact trivial))))) | (refine k_op rfl ?_; (refine v_op (g_lenV rfl (by assumption)) rfl rfl ?_)) | (refine k_ff rfl ?_ ?_; (focus (((refine decide_eq_false ?_; (omega))); done))))
    refine k_loop (ι := Nat) (fun i => i ≤ vs.length ∧ ∀ j, j < i → endsN (tys vs) ((tys vs).length + 1) (nth (tys vs) j) = true) (fun i => [(0, u), (10, I i)]) (fun _ => G) (fun i => []) (fun i => vs.length - i) 0 ?_ (by repeat (first | exact trivial | refine ⟨rfl, ?_⟩)) rfl (by repeat ((exact List.Sublist.refl _))) (fun i Hi => ?_)
    · exact ⟨Nat.zero_le _, fun j hj => absurd hj (by omega)⟩
    by_cases hi : i < vs.length
    · obtain ⟨b, o, cap, rfl, hs⟩ := hsl.expl (by omega)
      have hm := nth_mem hi
      have cx_en := c_ends h hn hw hm
      by_cases he : endsN (tys vs) (vs.length + 1) (nth vs i).2 = true
      · have he2 : (!endsN (tys vs) (vs.length + 1) (nth vs i).2) = false := by rw [he]; rfl
        repeat' (first | (refine run (t := tb) 400 rfl ?_ ?_; (focus (repeat' (first | exact trivial | apply And.intro | omega)))) | (refine k_op rfl ?_; first | refine v_op (g_lenL rfl) rfl rfl ?_ | (refine v_op (g_iaddrN rfl rfl ?_) rfl rfl ?_; (focus ((omega); done))) | (refine v_op (g_ldR rfl rfl (by assumption) ?_) rfl rfl ?_; (focus (((omega)); done))) | (refine c_rt rfl rfl rfl cx_en rfl ?_)) | (refine k_tt rfl ?_ ?_; (focus (((refine decide_eq_true ?_; (omega))); done))) | (refine k_ff rfl ?_ ?_; (focus (((assumption)); done))))
        refine k_rd (i + 1) ⟨by omega, fun j hj => ?_⟩ (by omega) (by repeat (first | exact trivial | refine ⟨rfl, ?_⟩)) rfl (by repeat ((exact List.Sublist.refl _)))
        rcases Nat.lt_or_ge j i with h3 | h3
        · exact Hi.2 j h3
        · have : j = i := by omega
          subst this; rw [hlen, nth_tys hi]; exact he
      · have he2 : (!endsN (tys vs) (vs.length + 1) (nth vs i).2) = true := by simpa using he
        repeat' (first | (refine run (t := tb) 400 rfl ?_ ?_; (focus (repeat' ((exact trivial))))) | (refine k_op rfl ?_; first | refine v_op (g_lenL rfl) rfl rfl ?_ | (refine v_op (g_iaddrN rfl rfl ?_) rfl rfl ?_; (focus ((omega); done))) | (refine v_op (g_ldR rfl rfl (by assumption) ?_) rfl rfl ?_; (focus (((omega)); done))) | (refine c_rt rfl rfl rfl cx_en rfl ?_)) | (refine k_tt rfl ?_ ?_; (focus ((first | assumption | (refine decide_eq_true ?_; (omega))); done))))
        refine k_rr (vs := [_]) rfl ⟨rfl, trivial⟩ rfl (List.nil_sublist _) ⟨rfl, rfl, ?_⟩
        refine congrArg Bo (decide_eq_false fun hv => he ?_).symm
        have := hv.2 i (by omega)
        rwa [hlen, nth_tys hi] at this
    · repeat' (first | (refine run (t := tb) 400 rfl ?_ ?_; (focus (repeat' ((exact trivial))))) | (refine k_op rfl ?_; (refine v_op (g_lenV rfl (by assumption)) rfl rfl ?_)) | (refine k_ff rfl ?_ ?_; (focus (((refine decide_eq_false ?_; (omega))); done))))
      refine k_rr (vs := [_]) rfl ⟨rfl, trivial⟩ rfl (List.nil_sublist _) ⟨rfl, rfl, ?_⟩
      exact congrArg Bo (decide_eq_true ⟨fun j hj => Hall j (by omega), fun j hj => Hi.2 j (by omega)⟩).symm
  obtain ⟨b, o, cap, rfl, hs⟩ := hsl.expl (by omega)
  rcases hxi : nth vs i with ⟨⟨a, ca⟩, t⟩
  have hm : ((a, ca), t) ∈ vs := by rw [← hxi]; exact nth_mem hi
  have hW := hw _ hm
  dsimp only at hW
  have hti : nth (tys vs) i = t := by rw [nth_tys hi, hxi]
  have hE1 : (((a, ca), t) : TyX).2.sort = t.sort := rfl
  have hE2 : (((a, ca), t) : TyX).2.fields.length = t.fields.length := rfl
  have h8 := hW.len
  have hfl := h.fl _ hm
  repeat' (first | (refine run (t := tb) 400 rfl ?_ ?_; (focus (repeat' ((exact trivial))))) | (refine k_op rfl ?_; (refine v_op (g_lenL rfl) rfl rfl ?_)) | (refine k_tt rfl ?_ ?_; (focus (((refine decide_eq_true ?_; (omega))); done))))
  refine k_loop (ι := Nat) (fun k => k ≤ i ∧ ∀ j, j < k → (nth (tys vs) j).name ≠ (nth (tys vs) i).name) (fun k => [(0, .slice (some ⟨b, o, none⟩) vs.length cap), (3, I i), (4, I k)]) (fun _ => G) (fun k => []) (fun k => i - k) 0 ?_ (by repeat (first | exact trivial | refine ⟨rfl, ?_⟩)) rfl (by repeat ((exact List.Sublist.refl _))) (fun k Hk => ?_)
  · exact ⟨Nat.zero_le _, fun j hj => absurd hj (by omega)⟩
  by_cases hk : k < i
  · have hkv : k < vs.length := by omega
    by_cases hnm : (nth vs k).2.name = t.name
    · repeat' (first | (refine run (t := tb) 400 rfl ?_ ?_; (focus (repeat' ((exact trivial))))) | (refine k_tt rfl ?_ ?_; (focus (((refine decide_eq_true ?_; first | assumption | omega)); done))) | (refine k_any (s_any (id := 7) _ (fun _ h => h) mixed ?_); refine x_tks (t := tb) (fuel := 7) [0, 1, 5, 6] (bts 11 99) (by kernel_rfl) (by kernel_rfl) rfl rfl (Gh.le.refl _) (by repeat ((exact List.Sublist.refl _))) ?_ ?_; (focus (repeat' ((exact trivial)))); ((refine (x_tkg (bts 11 103) 2 rfl (by kernel_rfl) rfl (Gh.le.refl _) (by repeat ((exact List.Sublist.refl _)))) (g_iaddrN rfl rfl ?_) rfl rfl ?_; (focus ((omega); done)))); refine x_tks (t := tb) (fuel := 5) [3] (bts 11 111) (by kernel_rfl) (by kernel_rfl) rfl rfl (Gh.le.refl _) (by repeat ((exact List.Sublist.refl _))) ?_ ?_; (focus (repeat' ((exact trivial)))); ((refine (x_tkg (bts 11 127) 4 rfl (by kernel_rfl) rfl (Gh.le.refl _) (by repeat ((exact List.Sublist.refl _)))) (g_ldRF rfl rfl (by assumption) ?_ rfl rfl) rfl rfl ?_; (focus (((omega)); done)))); ((refine (x_tkg (bts 11 255) 7 rfl (by kernel_rfl) rfl (Gh.le.refl _) (by repeat ((exact List.Sublist.refl _)))) (g_iaddrN rfl rfl ?_) rfl rfl ?_; (focus ((omega); done)))); refine x_tks (t := tb) (fuel := 2) [8] (bts 11 511) (by kernel_rfl) (by kernel_rfl) rfl rfl (Gh.le.refl _) (by repeat ((exact List.Sublist.refl _))) ?_ ?_; (focus (repeat' ((exact trivial)))); ((refine (x_tkg (bts 11 1023) 9 rfl (by kernel_rfl) rfl (Gh.le.refl _) (by repeat ((exact List.Sublist.refl _)))) (g_ldRFx rfl rfl (by assumption) ?_ (by assumption) rfl rfl) rfl rfl ?_; (focus (((omega)); done)))); refine x_tks (t := tb) (fuel := 0) [10] (bts 11 2047) (by kernel_rfl) (by kernel_rfl) rfl rfl (Gh.le.refl _) (by repeat ((exact List.Sublist.refl _))) ?_ ?_; (focus (repeat' ((exact trivial)))); refine x_done (by kernel_rfl) (k_bk ?_)))
      refine k_rr (vs := [_]) rfl ⟨rfl, trivial⟩ rfl (List.nil_sublist _) ⟨rfl, rfl, ?_⟩
      refine congrArg Bo (decide_eq_false fun hv => ?_).symm
      have := (hv.1 i (by omega)).1 k hk
      rw [nth_tys hkv, hti] at this
      exact this hnm
    · repeat' (first | (refine run (t := tb) 400 rfl ?_ ?_; (focus (repeat' (first | exact trivial | apply And.intro | omega)))) | (refine k_tt rfl ?_ ?_; (focus (((refine decide_eq_true ?_; (omega))); done))) | (refine k_ff rfl ?_ ?_; (focus (((refine decide_eq_false ?_; (assumption))); done))) | (refine k_any (s_any (id := 7) _ (fun _ h => h) mixed ?_); refine x_tks (t := tb) (fuel := 7) [0, 1, 5, 6] (bts 11 99) (by kernel_rfl) (by kernel_rfl) rfl rfl (Gh.le.refl _) (by repeat ((exact List.Sublist.refl _))) ?_ ?_; (focus (repeat' ((exact trivial)))); ((refine (x_tkg (bts 11 103) 2 rfl (by kernel_rfl) rfl (Gh.le.refl _) (by repeat ((exact List.Sublist.refl _)))) (g_iaddrN rfl rfl ?_) rfl rfl ?_; (focus ((omega); done)))); refine x_tks (t := tb) (fuel := 5) [3] (bts 11 111) (by kernel_rfl) (by kernel_rfl) rfl rfl (Gh.le.refl _) (by repeat ((exact List.Sublist.refl _))) ?_ ?_; (focus (repeat' ((exact trivial)))); ((refine (x_tkg (bts 11 127) 4 rfl (by kernel_rfl) rfl (Gh.le.refl _) (by repeat ((exact List.Sublist.refl _)))) (g_ldRF rfl rfl (by assumption) ?_ rfl rfl) rfl rfl ?_; (focus (((omega)); done)))); ((refine (x_tkg (bts 11 255) 7 rfl (by kernel_rfl) rfl (Gh.le.refl _) (by repeat ((exact List.Sublist.refl _)))) (g_iaddrN rfl rfl ?_) rfl rfl ?_; (focus ((omega); done)))); refine x_tks (t := tb) (fuel := 2) [8] (bts 11 511) (by kernel_rfl) (by kernel_rfl) rfl rfl (Gh.le.refl _) (by repeat ((exact List.Sublist.refl _))) ?_ ?_; (focus (repeat' ((exact trivial)))); ((refine (x_tkg (bts 11 1023) 9 rfl (by kernel_rfl) rfl (Gh.le.refl _) (by repeat ((exact List.Sublist.refl _)))) (g_ldRFx rfl rfl (by assumption) ?_ (by assumption) rfl rfl) rfl rfl ?_; (focus (((omega)); done)))); refine x_tks (t := tb) (fuel := 0) [10] (bts 11 2047) (by kernel_rfl) (by kernel_rfl) rfl rfl (Gh.le.refl _) (by repeat ((exact List.Sublist.refl _))) ?_ ?_; (focus (repeat' ((exact trivial)))); refine x_done (by kernel_rfl) (k_bk ?_)))
      refine k_rd (k + 1) ⟨by omega, fun j hj => ?_⟩ (by omega) (by repeat (first | exact trivial | refine ⟨rfl, ?_⟩)) rfl (by repeat ((exact List.Sublist.refl _)))
      rcases Nat.lt_or_ge j k with h3 | h3
      · exact Hk.2 j h3
      · have : j = k := by omega
        subst this; rw [nth_tys hkv, hti]; exact hnm
  have hna : NamesAt (tys vs) i := fun j hj => Hk.2 j (by omega)
  repeat' (first | (refine run (t := tb) 400 rfl ?_ ?_; (focus (repeat' ((exact trivial))))) | (refine k_ff rfl ?_ ?_; (focus (((refine decide_eq_false ?_; (omega))); done))))
  refine k_loop (ι := Nat) (fun k => (t.sort = 69 ∨ ∀ j, j < k → hasK (tys vs) (nth t.fields j).kind = true) ∧ k ≤ t.fields.length) (fun k => [(0, .slice (some ⟨b, o, none⟩) vs.length cap), (3, I i), (5, I k)]) (fun _ => G) (fun k => []) (fun k => t.fields.length - k) 0 ?_ (by repeat (first | exact trivial | refine ⟨rfl, ?_⟩)) rfl (by repeat ((exact List.Sublist.refl _))) (fun k Hk => ?_)
  · exact ⟨.inr fun j hj => absurd hj (by omega), Nat.zero_le _⟩
  by_cases hk : k < t.fields.length ∧ t.sort ≠ 69
  case neg =>
    have hko : KindsOk (tys vs) (nth (tys vs) i) := by
      rw [hti]
      by_cases h69 : t.sort = 69
      · exact .inl h69
      · refine .inr fun j hj => ?_
        rcases Hk.1 with h3 | h3
        · exact absurd h3 h69
        · exact h3 j (by omega)
    repeat' (first | (refine run (t := tb) 400 rfl ?_ ?_; (focus (repeat' (first | exact trivial | apply And.intro | omega)))) | (refine k_op rfl ?_; first | refine v_op (g_lenL rfl) rfl rfl ?_ | (refine v_op (g_iaddrN rfl rfl ?_) rfl rfl ?_; (focus ((omega); done))) | (refine v_op (g_ldRFx rfl rfl (by assumption) ?_ (by assumption) rfl rfl) rfl rfl ?_; (focus (((omega)); done))) | (refine v_op (g_pickT rfl rfl ?_) rfl rfl ?_; (focus (((rfl)); done))) | (refine v_op (g_pickF rfl rfl ?_) rfl rfl ?_; (focus (((rfl)); done)))) | refine k_g rfl rfl (fun _ => ?_) (fun _ => ?_) | (refine k_ff rfl ?_ ?_; (focus ((first | rfl | (refine decide_eq_false ?_; (omega))); done))))
    all_goals refine k_rd (i + 1) ⟨by omega, fun j hj => ?_⟩ (by omega) (by repeat (first | exact trivial | refine ⟨rfl, ?_⟩)) rfl (by repeat ((exact List.Sublist.refl _)))
    all_goals (rcases Nat.lt_or_ge j i with h3 | h3; · exact Hi.2 j h3)
    all_goals (have : j = i := by omega)
    all_goals (subst this; exact ⟨hna, hko⟩)
  obtain ⟨hk1, hk2⟩ := hk
  obtain ⟨bf, of, cf, ef, hsf⟩ := hfl.expl (by dsimp only; omega)
  simp only [slX, Value.slice.injEq] at ef
  obtain ⟨rfl, -, rfl⟩ := ef
  dsimp only at hsf
  have hE1 : (((some ⟨bf, of, none⟩, ca), t) : TyX).2.sort = t.sort := rfl
  have hE2 : (((some ⟨bf, of, none⟩, ca), t) : TyX).2.fields.length = t.fields.length := rfl
  have hkk := kindOk_kOk ((hW.fld _ (nth_mem hk1)).kind hk2)
  have hkk1 := hkk.1
  have hcl := core_len' (nth t.fields k).kind
  have cx_ref : PuG Tryz.prog 16 [S (core (nth t.fields k).kind)] G (· = Tu [S ((refN (core (nth t.fields k).kind)).getD []), Bo (refN (core (nth t.fields k).kind)).isSome]) := c_l2RefK (core_kOk hkk1) (by omega)
  have hhas := hasK_find (vs := vs) (k := (nth t.fields k).kind)
  repeat' (first | (refine run (t := tb) 400 rfl ?_ ?_; (focus (repeat' (first | exact trivial | apply And.intro | omega)))) | (refine k_op rfl ?_; first | refine v_op (g_lenL rfl) rfl rfl ?_ | (refine v_op (g_iaddrN rfl rfl ?_) rfl rfl ?_; (focus ((omega); done))) | (refine v_op (g_ldRFx rfl rfl (by assumption) ?_ (by assumption) rfl rfl) rfl rfl ?_; (focus (((omega)); done))) | (refine v_op (g_ldRF rfl rfl (by assumption) ?_ rfl rfl) rfl rfl ?_; (focus (((omega)); done))) | (refine v_op (g_pickT rfl rfl ?_) rfl rfl ?_; (focus (((rfl)); done))) | (refine v_op (g_pickF rfl rfl ?_) rfl rfl ?_; (focus (((rfl)); done))) | refine c_al rfl rfl fun _ => ?_ | refine c_stA rfl rfl rfl rfl rfl rfl ?_ | (refine c_rt rfl rfl rfl (c_l2Core (by (repeat ((assumption))); done)) rfl ?_) | (refine c_rt rfl rfl rfl cx_ref rfl ?_) | (refine c_rt rfl rfl rfl (c_find (by (repeat ((assumption))); done) (by omega)) rfl ?_)) | (refine k_gt rfl rfl ?_ ?_; (focus (((refine decide_eq_true ?_; (omega))); done))) | refine k_gb rfl rfl (fun _ => ?_) (fun _ => ?_) | (refine k_tt rfl ?_ ?_; (focus (((refine decide_eq_true ?_; (omega))); done))) | (refine k_ff rfl ?_ ?_; (focus (((rfl)); done))) | refine k_cd rfl (fun _ => ?_) (fun _ => ?_))
  all_goals first
    | (rename_i h1 h2
       have hK : hasK (tys vs) (nth t.fields k).kind = false := by rw [hhas, h1]; simpa using h2
       refine k_rr (vs := [_]) rfl ⟨rfl, trivial⟩ rfl (List.nil_sublist _) ⟨rfl, rfl, ?_⟩
       refine congrArg Bo (decide_eq_false fun hv => ?_).symm
       have h5 := (hv.1 i (by omega)).2
       rw [hti] at h5
       rcases h5 with h3 | h3
       · exact hk2 h3
       · have h6 := h3 k hk1
         rw [hK] at h6; cases h6)
    | (have hK : hasK (tys vs) (nth t.fields k).kind = true := by rw [hhas]; simp_all
       refine k_rd (k + 1) ⟨.inr fun j hj => ?_, by omega⟩ (by omega) (by repeat (first | exact trivial | refine ⟨rfl, ?_⟩)) rfl (by repeat ((exact List.nil_sublist _)))
       rcases Nat.lt_or_ge j k with h3 | h3
       · rcases Hk.1 with h4 | h4
         · exact absurd h4 hk2
         · exact h4 j h3
       · have : j = k := by omega
         subst this; exact hK)
theorem typesOf_snoc : ∀ {xs : List (List UInt8)} {ts : List Ty} {x : List UInt8}, typesOf xs = some ts → typesOf (xs ++ [x]) = (tyOf x).map (fun t => ts ++ [t])
  | [], ts, x, h => by
    simp only [typesOf, Option.some.injEq] at h; subst h
    simp only [List.nil_append, typesOf]
    cases tyOf x <;> rfl
  | y :: xs, ts, x, h => by
    unfold typesOf at h
    rw [List.cons_append, typesOf]
    cases hy : tyOf y with
    | none => rw [hy] at h; cases h
    | some t =>
      rw [hy] at h
      dsimp only at h ⊢
      cases hr : typesOf xs with
      | none => rw [hr] at h; cases h
      | some us =>
        rw [hr] at h
        simp only [Option.map_some, Option.some.injEq] at h; subst h
        rw [typesOf_snoc hr]
        cases tyOf x <;> rfl
theorem typesOf_app_none : ∀ {xs ys : List (List UInt8)}, typesOf xs = none → typesOf (xs ++ ys) = none
  | [], ys, h => by cases h
  | y :: xs, ys, h => by
    unfold typesOf at h
    rw [List.cons_append, typesOf]
    cases hy : tyOf y with
    | none => rfl
    | some t =>
      rw [hy] at h
      dsimp only at h ⊢
      cases hr : typesOf xs with
      | none => rw [typesOf_app_none hr]; rfl
      | some us => rw [hr] at h; cases h
end Go.E
/-! Mk -/
namespace Go.E
set_option maxRecDepth 20000
set_option maxHeartbeats 2000000
open Go.Proofs
variable {G : Gh}
def OfPost (s : List UInt8) (v : Value) (G : Gh) : Prop := ∃ u vs, v = Tu [u, Bo (schemaOf s).isSome] ∧ SchR G u vs ∧ vs.length ≤ 8 ∧ ∀ ts, schemaOf s = some ts → tys vs = ts
theorem SchR.nil : SchR G nilS [] := ⟨SlV.nil0, by simp⟩
theorem c_cutE {s : List UInt8} {k : Nat} (h : s.length ≤ 100000000) : FnS Tryz.prog 27 [S s, U8 k] G (fun v G' => ∃ b o cap, v = .slice (some ⟨b, o, none⟩) (cut k s).length cap ∧ Seg G' b o (rows strF (cut k s))) := by
  refine (c_l3CutS (G := G) (k := k) h).mono ?_
  rintro v G' L' ⟨h1, h2, h3⟩
  obtain ⟨b, o, cap, rfl, hs⟩ := h3.expl cut_pos
  exact ⟨h1, h2, b, o, cap, rfl, hs⟩
theorem c_l3ReadTypeX {s : List UInt8} (h : s.length ≤ 1000) : FnS Tryz.prog 28 [S s] G (fun v G' => ∃ (x : TyX) (ok : Bool), v = Tu [Ag [U8 x.2.sort, S x.2.name, .slice x.1.1 x.2.fields.length x.1.2], Bo ok] ∧ (tyOf s = if ok = true then some x.2 else none) ∧ SlV G' (slX x) 4 x.2.fields.length (rows fldF x.2.fields)) := by
  refine (c_l3ReadType (G := G) h).mono ?_
  rintro v G' L' ⟨h1, h2, fv, t, ok, rfl, h3, h4⟩
  obtain ⟨a, cap, rfl⟩ := h4.sl
  exact ⟨h1, h2, ((a, cap), t), ok, rfl, h3, h4⟩
theorem c_l3Of0 {s : List UInt8} (h : s.length ≤ 10000000) (hb : ¬ (s.length ≤ 400 ∧ (cut 10 s).length ≤ 9 ∧ nth (cut 10 s) ((cut 10 s).length - 1) = [])) (hno : schemaOf s = none) : FnS Tryz.prog 14 [S s] G (OfPost s) := by
  have hpos := cut_pos (k := 10) (s := s)
  have hcnt := cut_count (k := 10) (s := s)
  have cx_cutE := c_cutE (G := G) (s := s) (k := 10) (by omega)
  generalize cut 10 s = xs at *
  have e1 : (((xs.length : Nat) : Int) - 1).toNat = xs.length - 1 := by omega
  refine b_enter [(0, _)] Tryz.func14 (by kernel_rfl) Tryz.ntmps14 rfl rfl (by repeat (first | exact trivial | refine ⟨rfl, ?_⟩)) fun B hok hB hW => ?_
  by_cases h1 : s.length ≤ 400
  case neg =>
    repeat' (first | (refine run (t := tb) 400 rfl ?_ ?_; (focus (repeat' ((exact trivial))))) | (refine k_op rfl ?_; first | (refine v_op (g_pickT rfl rfl ?_) rfl rfl ?_; (focus (((rfl)); done))) | (refine c_fns rfl rfl rfl cx_cutE rfl ?_; rintro _ G hle ⟨b1, o1, cap1, rfl, hseg⟩; skip)) | (refine k_gt rfl rfl ?_ ?_; (focus ((first | rfl | (refine decide_eq_true ?_; (omega))); done))) | (refine k_tt rfl ?_ ?_; (focus (((rfl)); done))))
    all_goals refine k_rr (vs := [_, _]) rfl ⟨rfl, rfl, trivial⟩ rfl (List.nil_sublist _) ⟨hle, rfl, ?_⟩
    all_goals exact ⟨nilS, [], by rw [hno]; rfl, SchR.nil, by simp, fun ts h => by rw [hno] at h; cases h⟩
  by_cases h2 : xs.length ≤ 9
  case neg =>
    repeat' (first | (refine run (t := tb) 400 rfl ?_ ?_; (focus (repeat' ((exact trivial))))) | (refine k_op rfl ?_; first | refine v_op (g_lenL rfl) rfl rfl ?_ | (refine v_op (g_pickT rfl rfl ?_) rfl rfl ?_; (focus (((rfl)); done))) | (refine v_op (g_pickF rfl rfl ?_) rfl rfl ?_; (focus (((rfl)); done))) | (refine c_fns rfl rfl rfl cx_cutE rfl ?_; rintro _ G hle ⟨b1, o1, cap1, rfl, hseg⟩; skip)) | (refine k_gt rfl rfl ?_ ?_; (focus (((refine decide_eq_true ?_; (omega))); done))) | (refine k_gf rfl rfl ?_ ?_; (focus (((refine decide_eq_false ?_; (omega))); done))) | (refine k_tt rfl ?_ ?_; (focus (((rfl)); done))))
    all_goals refine k_rr (vs := [_, _]) rfl ⟨rfl, rfl, trivial⟩ rfl (List.nil_sublist _) ⟨hle, rfl, ?_⟩
    all_goals exact ⟨nilS, [], by rw [hno]; rfl, SchR.nil, by simp, fun ts h => by rw [hno] at h; cases h⟩
  have h3 : ¬ nth xs (((xs.length : Nat) : Int) - 1).toNat = [] := by rw [e1]; exact fun h => hb ⟨h1, h2, h⟩
  clear hb
  repeat' (first | (refine run (t := tb) 400 rfl ?_ ?_; (focus (repeat' (first | exact trivial | apply And.intro | omega)))) | (refine k_op rfl ?_; first | refine v_op (g_lenL rfl) rfl rfl ?_ | (refine v_op (g_pickF rfl rfl ?_) rfl rfl ?_; (focus (((rfl)); done))) | (refine v_op (g_iaddr rfl rfl ?_) rfl rfl ?_; (focus ((omega); done))) | (refine v_op (g_ldRS rfl rfl (by assumption) ?_) rfl rfl ?_; (focus (((omega)); done))) | (refine c_fns rfl rfl rfl cx_cutE rfl ?_; rintro _ G hle ⟨b1, o1, cap1, rfl, hseg⟩; skip)) | (refine k_gf rfl rfl ?_ ?_; (focus (((refine decide_eq_false ?_; (omega))); done))) | (refine k_tt rfl ?_ ?_; (focus (((refine decide_eq_true ?_; (assumption))); done))))
  all_goals refine k_rr (vs := [_, _]) rfl ⟨rfl, rfl, trivial⟩ rfl (List.nil_sublist _) ⟨hle, rfl, ?_⟩
  all_goals exact ⟨nilS, [], by rw [hno]; rfl, SchR.nil, by simp, fun ts h => by rw [hno] at h; cases h⟩
theorem c_l3Of1 {s : List UInt8} (h : s.length ≤ 400) (h2 : (cut 10 s).length ≤ 9) (h3 : nth (cut 10 s) ((cut 10 s).length - 1) = []) (hsc : schemaOf s = match typesOf ((cut 10 s).take ((cut 10 s).length - 1)) with
    | some ts => if ValidT ts then some ts else none
    | none => none) : FnS Tryz.prog 14 [S s] G (OfPost s) := by
  have hpos := cut_pos (k := 10) (s := s)
  have hall : ∀ y ∈ cut 10 s, y.length ≤ s.length := fun y hy => cut_len hy
  have cx_cutE := c_cutE (G := G) (s := s) (k := 10) (by omega)
  generalize cut 10 s = xs at *
  have e1 : (((xs.length : Nat) : Int) - 1).toNat = xs.length - 1 := by omega
  have h4 : nth xs (((xs.length : Nat) : Int) - 1).toNat = [] := by rw [e1]; exact h3
  have h5 : ¬ nth xs (((xs.length : Nat) : Int) - 1).toNat ≠ [] := fun h => h h4
  clear e1 h3 h4
  refine b_enter [(0, _)] Tryz.func14 (by kernel_rfl) Tryz.ntmps14 rfl rfl (by repeat (first | exact trivial | refine ⟨rfl, ?_⟩)) fun B hok hB hW => ?_
  repeat' (first | (refine run (t := tb) 400 rfl ?_ ?_; (focus (repeat' (first | exact trivial | apply And.intro | omega)))) | (refine k_op rfl ?_; first | refine v_op (g_lenL rfl) rfl rfl ?_ | (refine v_op (g_pickF rfl rfl ?_) rfl rfl ?_; (focus (((rfl)); done))) | (refine v_op (g_iaddr rfl rfl ?_) rfl rfl ?_; (focus ((omega); done))) | (refine v_op (g_ldRS rfl rfl (by assumption) ?_) rfl rfl ?_; (focus (((omega)); done))) | refine c_bsl rfl rfl rfl rfl rfl rfl fun _ => ?_ | (refine c_fns rfl rfl rfl cx_cutE rfl ?_; rintro _ G hle ⟨b1, o1, cap1, rfl, hseg⟩; skip)) | (refine k_gf rfl rfl ?_ ?_; (focus (((refine decide_eq_false ?_; (omega))); done))) | (refine k_ff rfl ?_ ?_; (focus (((refine decide_eq_false ?_; (assumption))); done))))
  rename_i x0
  refine Nx.blkAcc (m := 0) (sz := 3) .here rfl ?_
  refine k_loop (ι := Value × List TyX × Nat × Gh) (fun i => ((i.2.2.1 + 1 ≤ xs.length ∧ i.2.1.length = i.2.2.1) ∧ typesOf (xs.take i.2.2.1) = some (tys i.2.1)) ∧ (∀ y ∈ i.2.1, SlV i.2.2.2 (slX y) 4 y.2.fields.length (rows fldF y.2.fields)) ∧ Gh.le G i.2.2.2) (fun i => [(4, .slice (some ⟨b1, o1, none⟩) xs.length cap1), (5, i.1), (6, I i.2.2.1)]) (fun i => i.2.2.2) (fun i => [.acc i.1 tTy 3 i.2.1.length (rows tyF i.2.1)]) (fun i => xs.length - i.2.2.1) (.slice (some ⟨x0, 0, none⟩) 0 0, [], 0, G) ?_ (by repeat (first | exact trivial | refine ⟨rfl, ?_⟩)) rfl (by repeat ((exact List.Sublist.refl _))) (fun i Hi => ?_)
  · exact ⟨⟨⟨by dsimp only; omega, rfl⟩, rfl⟩, by simp, Gh.le.refl _⟩
  obtain ⟨u, vs, i, Gk⟩ := i
  dsimp only at Hi ⊢
  obtain ⟨⟨⟨hi1, hi2⟩, hty⟩, hfs, hgk⟩ := Hi
  have hsk := hseg.mono hgk
  have hle0 := hle
  by_cases hix : i + 1 < xs.length
  case neg =>
    have ei : i = xs.length - 1 := by omega
    rw [← ei, hty] at hsc
    dsimp only at hsc
    refine Nx.sealS (v := u) fun G1 hle1 hsl => ?_
    have hS : SchR G1 u vs := ⟨hsl, fun x hx => (hfs x hx).mono hle1⟩
    have hw : ∀ x ∈ vs, TyW x.2 := fun x hx => (typesOf_w hty).1 x.2 (show x.2 ∈ vs.map (fun y => y.2) from List.mem_map_of_mem hx)
    have cx_val := c_valid hS (by omega) hw
    repeat' (first | (refine run (t := tb) 400 rfl ?_ ?_; (focus (repeat' (first | exact trivial | apply And.intro | omega)))) | (refine k_op rfl ?_; first | refine v_op (g_lenL rfl) rfl rfl ?_ | (refine c_rt rfl rfl rfl cx_val rfl ?_)) | (refine k_ff rfl ?_ ?_; (focus (((refine decide_eq_false ?_; (omega))); done))))
    all_goals refine k_rr (vs := [_, _]) rfl ⟨rfl, rfl, trivial⟩ rfl (List.nil_sublist _) ⟨(hle0.trans hgk).trans hle1, rfl, ?_⟩
    all_goals refine ⟨u, vs, ?_, hS, by omega, fun ts h => ?_⟩
    · rw [hsc, oneOf_two]
      by_cases hv : ValidT (tys vs)
      · rw [if_pos hv, decide_eq_true hv]; rfl
      · rw [if_neg hv, decide_eq_false hv]; rfl
    · rw [hsc] at h
      split at h
      · exact Option.some.inj h
      · cases h
  have hx2 : (nth xs i).length ≤ 1000 := by have := hall _ (nth_mem (show i < xs.length by omega)); omega
  have hsn := typesOf_snoc (x := nth xs i) hty
  rw [← take_nth (by omega)] at hsn
  repeat' (first | (refine run (t := tb) 400 rfl ?_ ?_; (focus (repeat' (first | exact trivial | apply And.intro | omega)))) | (refine k_op rfl ?_; first | refine v_op (g_lenL rfl) rfl rfl ?_ | (refine v_op (g_iaddrN rfl rfl ?_) rfl rfl ?_; (focus ((omega); done))) | refine v_op (g_ldA rfl rfl rfl rfl) rfl rfl ?_ | (refine v_op (g_ldRS rfl rfl (by assumption) ?_) rfl rfl ?_; (focus (((omega)); done))) | refine c_bsl rfl rfl rfl rfl rfl rfl fun _ => ?_ | refine c_al rfl rfl fun _ => ?_ | refine c_stA rfl rfl rfl rfl rfl rfl ?_ | (refine c_apX rfl rfl rfl rfl rfl rfl rfl rfl rfl ?_ fun _ _ => ?_; (focus ((omega); done))) | (refine c_fns rfl rfl rfl (c_l3ReadTypeX (by omega)) rfl ?_; rintro _ G hle ⟨x, ok, rfl, htyp, hfl⟩; skip)) | (refine k_tt rfl ?_ ?_; (focus (((refine decide_eq_true ?_; (omega))); done))) | refine k_cd rfl (fun _ => ?_) (fun _ => ?_))
  all_goals first
    | (rename_i hq
       have hq2 : ok = false := by simpa using hq
       subst hq2
       have hf0 : tyOf (nth xs i) = none := htyp
       have hno : schemaOf s = none := by
         rw [hf0] at hsn
         have e2 : xs.take (xs.length - 1) = xs.take (i + 1) ++ (xs.take (xs.length - 1)).drop (i + 1) := by
           have := List.take_append_drop (i + 1) (xs.take (xs.length - 1))
           rw [List.take_take, Nat.min_eq_left (by omega)] at this
           exact this.symm
         rw [hsc, e2, typesOf_app_none hsn]
       refine k_rr (vs := [_, _]) rfl ⟨rfl, rfl, trivial⟩ rfl (List.nil_sublist _) ⟨(hle0.trans hgk).trans hle, rfl, ?_⟩
       exact ⟨nilS, [], by rw [hno]; rfl, SchR.nil, by simp, fun ts h => by rw [hno] at h; cases h⟩)
    | (rename_i z hq w b2 c2
       have hq2 : ok = true := by simpa using hq
       subst hq2
       have hf1 : tyOf (nth xs i) = some x.2 := htyp
       rw [hf1] at hsn
       have e3 : rows tyF vs ++ [U8 x.2.sort, S x.2.name, .slice x.1.1 x.2.fields.length x.1.2] = rows tyF (vs ++ [x]) := (rows_snoc tyF vs x).symm
       refine k_rd (.slice (some ⟨b2, 0, none⟩) (vs.length + 1) c2, vs ++ [x], i + 1, G) ⟨⟨⟨by dsimp only; omega, by simp; omega⟩, ?_⟩, ?_, hgk.trans hle⟩ (by dsimp only; omega) (by repeat (first | exact trivial | refine ⟨rfl, ?_⟩)) rfl (by dsimp only; rw [e3]; simp only [List.length_append, List.length_cons, List.length_nil, Nat.zero_add]; repeat (first | exact List.nil_sublist _ | apply List.Sublist.cons_cons))
       · dsimp only; rw [hsn]; simp [tys]
       · intro y hy
         rcases List.mem_append.1 hy with hy | hy
         · exact (hfs y hy).mono hle
         · simp only [List.mem_singleton] at hy; subst hy; exact hfl)
theorem c_l3Of {s : List UInt8} (h : s.length ≤ 10000000) : FnS Tryz.prog 14 [S s] G (OfPost s) := by
  have hpos := cut_pos (k := 10) (s := s)
  have hlast : (cut 10 s).getLastD [] = nth (cut 10 s) ((cut 10 s).length - 1) := by
    rw [nth_eq (by omega), List.getLastD_eq_getLast?, List.getLast?_eq_getElem?]
    rw [List.getElem?_eq_getElem (by omega)]; rfl
  by_cases hc : s.length ≤ 400 ∧ (cut 10 s).length ≤ 9 ∧ nth (cut 10 s) ((cut 10 s).length - 1) = []
  · refine c_l3Of1 hc.1 hc.2.1 hc.2.2 ?_
    unfold schemaOf
    rw [hlast, if_pos hc, List.dropLast_eq_take]
    (rfl)
  · refine c_l3Of0 h hc ?_
    unfold schemaOf
    rw [hlast, if_neg hc]
def kindS (s k : List UInt8) : Bool := match schemaOf s with
  | some ts => kindIn ts k
  | none => false
def KindPost (s k : List UInt8) (v : Value) (G : Gh) : Prop := ∃ u vs, v = Tu [u, Bo (kindS s k)] ∧ SchR G u vs ∧ vs.length ≤ 8 ∧ ∀ ts, schemaOf s = some ts → kindIn ts k = true → tys vs = ts
theorem c_l3Kind {s k : List UInt8} (h : s.length ≤ 10000000) (hk : k.length ≤ 10000000) : FnS Tryz.prog 10 [S s, S k] G (KindPost s k) := by
  cases hs : schemaOf s with
  | none =>
    have hno : kindS s k = false := by unfold kindS; rw [hs]
    have e1 : (!(schemaOf s).isSome) = true := by rw [hs]; rfl
    refine b_enter [(0, _), (1, _)] Tryz.func10 (by kernel_rfl) Tryz.ntmps10 rfl rfl (by repeat (first | exact trivial | refine ⟨rfl, ?_⟩)) fun B hok hB hW => ?_
    repeat' (first | (refine run (t := tb) 400 rfl ?_ ?_; (focus (repeat' ((exact trivial))))) | (refine k_op rfl ?_; first | (refine v_op (g_pickT rfl rfl ?_) rfl rfl ?_; (focus (((rfl)); done))) | (refine c_fns rfl rfl rfl (c_l3Of (by omega)) rfl ?_; rintro _ G hle ⟨u, vs, rfl, hsch, hvl, hvs⟩; skip)) | (refine k_gt rfl rfl ?_ ?_; (focus (((assumption)); done))) | (refine k_tt rfl ?_ ?_; (focus (((rfl)); done))))
    all_goals refine k_rr (vs := [_, _]) rfl ⟨rfl, rfl, trivial⟩ rfl (List.nil_sublist _) ⟨hle, rfl, ?_⟩
    all_goals exact ⟨nilS, [], by rw [hno]; rfl, SchR.nil, by simp, fun ts h => by rw [hs] at h; cases h⟩
  | some ts =>
    have e1 : (!(schemaOf s).isSome) = false := by rw [hs]; rfl
    by_cases hko : kindOk k = true
    case neg =>
      have hno : kindS s k = false := by unfold kindS kindIn; rw [hs]; simp [hko]
      have e2 : (!kindOk k) = true := by simpa using hko
      refine b_enter [(0, _), (1, _)] Tryz.func10 (by kernel_rfl) Tryz.ntmps10 rfl rfl (by repeat (first | exact trivial | refine ⟨rfl, ?_⟩)) fun B hok hB hW => ?_
      repeat' (first | (refine run (t := tb) 400 rfl ?_ ?_; (focus (repeat' ((exact trivial))))) | (refine k_op rfl ?_; first | (refine v_op (g_pickF rfl rfl ?_) rfl rfl ?_; (focus (((rfl)); done))) | (refine c_fns rfl rfl rfl (c_l3Of (by omega)) rfl ?_; rintro _ G hle ⟨u, vs, rfl, hsch, hvl, hvs⟩; skip) | (refine c_rt rfl rfl rfl c_KindOkS rfl ?_)) | (refine k_gf rfl rfl ?_ ?_; (focus (((assumption)); done))) | (refine k_tt rfl ?_ ?_; (focus (((assumption)); done))))
      all_goals refine k_rr (vs := [_, _]) rfl ⟨rfl, rfl, trivial⟩ rfl (List.nil_sublist _) ⟨hle, rfl, ?_⟩
      all_goals exact ⟨nilS, [], by rw [hno]; rfl, SchR.nil, by simp, fun ts h1 h2 => by unfold kindIn at h2; simp [hko] at h2⟩
    have e2 : (!kindOk k) = false := by rw [hko]; rfl
    have hkk := kindOk_kOk hko
    have hkk1 := hkk.1
    have hcl := core_len' k
    have cx_rf2 : ∀ G, PuG Tryz.prog 16 [S (core k)] G (· = Tu [S ((refN (core k)).getD []), Bo (refN (core k)).isSome]) := fun G => c_l2RefK (core_kOk hkk1) (by omega)
    refine b_enter [(0, _), (1, _)] Tryz.func10 (by kernel_rfl) Tryz.ntmps10 rfl rfl (by repeat (first | exact trivial | refine ⟨rfl, ?_⟩)) fun B hok hB hW => ?_
    repeat' (first | (refine run (t := tb) 400 rfl ?_ ?_; (focus (repeat' ((exact trivial))))) | (refine k_op rfl ?_; first | (refine v_op (g_pickT rfl rfl ?_) rfl rfl ?_; (focus (((rfl)); done))) | (refine v_op (g_pickF rfl rfl ?_) rfl rfl ?_; (focus (((rfl)); done))) | refine c_al rfl rfl fun _ => ?_ | refine c_stA rfl rfl rfl rfl rfl rfl ?_ | (refine c_fns rfl rfl rfl (c_l3Of (by omega)) rfl ?_; rintro _ G hle ⟨u, vs, rfl, hsch, hvl, hvs⟩; skip) | (refine c_rt rfl rfl rfl c_KindOkS rfl ?_) | (refine c_rt rfl rfl rfl (c_l2Core (by (repeat ((assumption))); done)) rfl ?_) | (refine c_rt rfl rfl rfl (cx_rf2 _) rfl ?_) | (refine c_rt rfl rfl rfl (c_find (by (repeat ((assumption))); done) (by omega)) rfl ?_)) | (refine k_gf rfl rfl ?_ ?_; (focus (((assumption)); done))) | refine k_gb rfl rfl (fun _ => ?_) (fun _ => ?_) | (refine k_ff rfl ?_ ?_; (focus (((assumption)); done))))
    all_goals rename_i hq
    all_goals refine k_rr (vs := [_, _]) rfl ⟨rfl, rfl, trivial⟩ rfl (List.nil_sublist _) ⟨hle, rfl, ?_⟩
    all_goals have hks : kindS s k = (!(refN (core k)).isSome || (findV vs ((refN (core k)).getD [])).isSome) := by
                unfold kindS kindIn
                rw [hs]
                dsimp only
                rw [hko, Bool.true_and, ← hvs ts hs, hasK_find]
    all_goals exact ⟨u, vs, by rw [hks, hq]; rfl, hsch, hvl, fun ts' h1 _ => hvs ts' h1⟩
end Go.E
/-! Ml -/
namespace Go.E
set_option maxRecDepth 20000
set_option maxHeartbeats 2000000
open Go.Proofs
variable {G : Gh}
/-- A type with where it lies. -/
abbrev TyP := Nat × Ty
def ptF (q : TyP) : List Value := [Pt q.1 0]
instance : RowF ptF 1 := ⟨fun _ => rfl⟩
def kvsOf (qs : List TyP) : List (List UInt8 × Value) := qs.map fun q => (q.2.name, Pt q.1 0)
def tyq (qs : List TyP) : List Ty := qs.map (·.2)
def findQ (qs : List TyP) (n : List UInt8) : Option TyP := qs.find? fun q => decide (n = q.2.name)
theorem kvF_find (qs : List TyP) (n : List UInt8) : kvF (kvsOf qs) n = (findQ qs n).map fun q => Pt q.1 0 := by
  unfold kvF kvsOf findQ
  induction qs with
  | nil => rfl
  | cons q qs ih =>
    simp only [List.map_cons, List.find?_cons]
    by_cases h : n = q.2.name
    · simp [h]
    · simp only [h, decide_false]; exact ih
theorem findQ_ty (qs : List TyP) (n : List UInt8) : (findQ qs n).map (·.2) = findT (tyq qs) n := by
  unfold findQ findT tyq
  induction qs with
  | nil => rfl
  | cons q qs ih =>
    simp only [List.map_cons, List.find?_cons]
    by_cases h : n = q.2.name
    · simp [h]
    · have h2 : ¬ q.2.name = n := fun e => h e.symm
      simp only [h, h2, decide_false]; exact ih
theorem findQ_mem {qs : List TyP} {n : List UInt8} {q : TyP} (h : findQ qs n = some q) : q ∈ qs := List.mem_of_find?_eq_some h
/-- The program's schema, laid down. -/
structure ScI (G : Gh) (b : Nat) (qs : List TyP) : Prop where
  at' : ∃ u m, Seg G b 0 [u, .map (some m)] ∧ SlV G u 1 qs.length (rows ptF qs) ∧ G m = some (.ex (mapO (kvsOf qs)))
  ty : ∀ q ∈ qs, TyI G q.1 q.2
theorem ScI.mono {G G' : Gh} {b : Nat} {qs : List TyP} (h : ScI G b qs) (hl : Gh.le G G') : ScI G' b qs := by
  obtain ⟨u, m, h1, h2, h3⟩ := h.at'
  exact ⟨⟨u, m, h1.mono hl, h2.mono hl, hl _ _ h3⟩, fun q hq => (h.ty q hq).mono hl⟩
theorem bs_at {k : List UInt8} (h : kindOk k = true) : bs k = [64] ↔ (refN (core k)).isSome = true := by
  have hk := core_kOk (kindOk_kOk h).1
  unfold bs
  cases hc : core k with
  | nil => rw [hc] at hk; cases hk
  | cons c r =>
    unfold bsT refN
    by_cases h64 : c.toNat = 64
    · simp [h64]
    · simp only [h64, if_false]
      constructor
      · intro e; simp only [List.cons.injEq] at e; exact absurd (by rw [e.1]; rfl) h64
      · intro e; cases e
theorem c_has {b : Nat} {qs : List TyP} {k : List UInt8} (h : ScI G b qs) (hk : kindOk k = true) : PuG Tryz.prog 24 [Pt b 0, Ag [S (sg k), S (bs k), S (nm k)]] G (· = Bo (hasK (tyq qs) k)) := by
  obtain ⟨u, m, h1, h2, h3⟩ := h.at'
  have hat := bs_at hk
  rcases hr : refN (core k) with _ | n
  · have hb : ¬ bs k = [64] := by rw [hat, hr]; simp
    have e : hasK (tyq qs) k = true := by unfold hasK; rw [hr]
    clear hat hr
    rw [e]
    refine p_enter [(0, _), (1, _)] Tryz.func24 (by kernel_rfl) Tryz.ntmps24 rfl rfl (by repeat (first | exact trivial | refine ⟨rfl, ?_⟩)) fun B hB => ?_
    repeat' (first | (refine run (t := tb) 400 rfl ?_ ?_; (focus (repeat' ((exact trivial))))) | (refine k_op rfl ?_; (refine c_bx rfl rfl rfl fun _ => ?_)) | (refine k_any (s_any (id := 1) _ (fun _ h => h) mixed ?_); refine x_tks (t := tb) (fuel := 13) [0] (bts 14 1) (by kernel_rfl) (by kernel_rfl) rfl rfl (Gh.le.refl _) (by repeat ((exact List.Sublist.refl _))) ?_ ?_; (focus (repeat' ((exact trivial)))); ((refine (x_tkg (bts 14 3) 1 rfl (by kernel_rfl) rfl (Gh.le.refl _) (by repeat ((exact List.Sublist.refl _)))) (g_ld rfl rfl rfl) rfl rfl ?_)); refine x_tks (t := tb) (fuel := 10) [2, 3] (bts 14 15) (by kernel_rfl) (by kernel_rfl) rfl rfl (Gh.le.refl _) (by repeat ((exact List.Sublist.refl _))) ?_ ?_; (focus (repeat' ((exact trivial)))); (try ((refine Nx.re (d := 8) (v' := Bo true) rfl (congrArg Value.bool ?_) ?_; (focus (((refine decide_eq_true ?_; (assumption))); done))))); refine x_tks (t := tb) (fuel := 6) [4, 5, 6, 8] (bts 14 383) (by kernel_rfl) (by kernel_rfl) rfl rfl (Gh.le.refl _) (by repeat ((exact List.Sublist.refl _))) ?_ ?_; (focus (repeat' ((exact trivial)))); ((refine x_tkn (bts 14 511) 7 rfl (by kernel_rfl) rfl (Gh.le.refl _) (by repeat ((exact List.Sublist.refl _))) rfl rfl ?_)); ((refine x_tkn (bts 14 1023) 9 rfl (by kernel_rfl) rfl (Gh.le.refl _) (by repeat ((exact List.Sublist.refl _))) rfl rfl ?_)); ((refine x_tkn (bts 14 2047) 10 rfl (by kernel_rfl) rfl (Gh.le.refl _) (by repeat ((exact List.Sublist.refl _))) rfl rfl ?_)); ((refine x_tkn (bts 14 4095) 11 rfl (by kernel_rfl) rfl (Gh.le.refl _) (by repeat ((exact List.Sublist.refl _))) rfl rfl ?_)); ((refine (x_tkg (bts 14 8191) 12 rfl (by kernel_rfl) rfl (Gh.le.refl _) (by repeat ((exact List.Sublist.refl _)))) (g_pickT rfl rfl ?_) rfl rfl ?_; (focus (((rfl)); done)))); refine x_tks (t := tb) (fuel := 0) [13] (bts 14 16383) (by kernel_rfl) (by kernel_rfl) rfl rfl (Gh.le.refl _) (by repeat ((exact List.Sublist.refl _))) ?_ ?_; (focus (repeat' ((exact trivial)))); refine x_done (by kernel_rfl) (k_bk ?_)))
    all_goals refine k_rr (vs := [_]) rfl ⟨rfl, trivial⟩ rfl (List.nil_sublist _) ⟨rfl, rfl, ?_⟩
    all_goals rfl
  · have hb : ¬ (bs k ≠ [64]) := fun h => h (by rw [hat, hr]; rfl)
    have hn : nm k = n := by unfold nm; rw [hr]; rfl
    have e : hasK (tyq qs) k = (findQ qs (nm k)).isSome := by unfold hasK; rw [hr, hn]; dsimp only; rw [← findQ_ty]; simp
    rw [e]
    clear hat hr hn e
    have hkv := kvF_find qs (nm k)
    cases hf : findQ qs (nm k) with
    | none =>
      rw [hf] at hkv
      dsimp only [Option.map_none] at hkv
      refine p_enter [(0, _), (1, _)] Tryz.func24 (by kernel_rfl) Tryz.ntmps24 rfl rfl (by repeat (first | exact trivial | refine ⟨rfl, ?_⟩)) fun B hB => ?_
      repeat' (first | (refine run (t := tb) 400 rfl ?_ ?_; (focus (repeat' ((exact trivial))))) | (refine k_op rfl ?_; (refine c_bx rfl rfl rfl fun _ => ?_)) | (refine k_any (s_any (id := 1) _ (fun _ h => h) mixed ?_); refine x_tks (t := tb) (fuel := 13) [0] (bts 14 1) (by kernel_rfl) (by kernel_rfl) rfl rfl (Gh.le.refl _) (by repeat ((exact List.Sublist.refl _))) ?_ ?_; (focus (repeat' ((exact trivial)))); ((refine (x_tkg (bts 14 3) 1 rfl (by kernel_rfl) rfl (Gh.le.refl _) (by repeat ((exact List.Sublist.refl _)))) (g_ld rfl rfl rfl) rfl rfl ?_)); refine x_tks (t := tb) (fuel := 10) [2, 3] (bts 14 15) (by kernel_rfl) (by kernel_rfl) rfl rfl (Gh.le.refl _) (by repeat ((exact List.Sublist.refl _))) ?_ ?_; (focus (repeat' ((exact trivial)))); (try ((refine Nx.re (d := 8) (v' := Bo false) rfl (congrArg Value.bool ?_) ?_; (focus (((refine decide_eq_false ?_; (assumption))); done))))); refine x_tks (t := tb) (fuel := 6) [4, 5, 6, 8] (bts 14 383) (by kernel_rfl) (by kernel_rfl) rfl rfl (Gh.le.refl _) (by repeat ((exact List.Sublist.refl _))) ?_ ?_; (focus (repeat' ((exact trivial)))); ((refine (x_tkg (bts 14 511) 7 rfl (by kernel_rfl) rfl (Gh.le.refl _) (by repeat ((exact List.Sublist.refl _)))) (g_ldS rfl rfl (by assumption) rfl rfl) rfl rfl ?_)); ((refine (x_tkg (bts 14 1023) 9 rfl (by kernel_rfl) rfl (Gh.le.refl _) (by repeat ((exact List.Sublist.refl _)))) (g_ld rfl rfl rfl) rfl rfl ?_)); ((refine (x_tkg (bts 14 2047) 10 rfl (by kernel_rfl) rfl (Gh.le.refl _) (by repeat ((exact List.Sublist.refl _)))) (g_lookupX rfl rfl (map_G (by assumption)) (by assumption) rfl) rfl rfl ?_)); ((refine (x_tkg (bts 14 4095) 11 rfl (by kernel_rfl) rfl (Gh.le.refl _) (by repeat ((exact List.Sublist.refl _)))) (g_pne0 rfl rfl) rfl rfl ?_)); ((refine (x_tkg (bts 14 8191) 12 rfl (by kernel_rfl) rfl (Gh.le.refl _) (by repeat ((exact List.Sublist.refl _)))) (g_pickF rfl rfl ?_) rfl rfl ?_; (focus (((rfl)); done)))); refine x_tks (t := tb) (fuel := 0) [13] (bts 14 16383) (by kernel_rfl) (by kernel_rfl) rfl rfl (Gh.le.refl _) (by repeat ((exact List.Sublist.refl _))) ?_ ?_; (focus (repeat' ((exact trivial)))); refine x_done (by kernel_rfl) (k_bk ?_)))
      all_goals refine k_rr (vs := [_]) rfl ⟨rfl, trivial⟩ rfl (List.nil_sublist _) ⟨rfl, rfl, ?_⟩
      all_goals rfl
    | some q =>
      rw [hf] at hkv
      dsimp only [Option.map_some] at hkv
      refine p_enter [(0, _), (1, _)] Tryz.func24 (by kernel_rfl) Tryz.ntmps24 rfl rfl (by repeat (first | exact trivial | refine ⟨rfl, ?_⟩)) fun B hB => ?_
      repeat' (first | (refine run (t := tb) 400 rfl ?_ ?_; (focus (repeat' ((exact trivial))))) | (refine k_op rfl ?_; (refine c_bx rfl rfl rfl fun _ => ?_)) | (refine k_any (s_any (id := 1) _ (fun _ h => h) mixed ?_); refine x_tks (t := tb) (fuel := 13) [0] (bts 14 1) (by kernel_rfl) (by kernel_rfl) rfl rfl (Gh.le.refl _) (by repeat ((exact List.Sublist.refl _))) ?_ ?_; (focus (repeat' ((exact trivial)))); ((refine (x_tkg (bts 14 3) 1 rfl (by kernel_rfl) rfl (Gh.le.refl _) (by repeat ((exact List.Sublist.refl _)))) (g_ld rfl rfl rfl) rfl rfl ?_)); refine x_tks (t := tb) (fuel := 10) [2, 3] (bts 14 15) (by kernel_rfl) (by kernel_rfl) rfl rfl (Gh.le.refl _) (by repeat ((exact List.Sublist.refl _))) ?_ ?_; (focus (repeat' ((exact trivial)))); (try ((refine Nx.re (d := 8) (v' := Bo false) rfl (congrArg Value.bool ?_) ?_; (focus (((refine decide_eq_false ?_; (assumption))); done))))); refine x_tks (t := tb) (fuel := 6) [4, 5, 6, 8] (bts 14 383) (by kernel_rfl) (by kernel_rfl) rfl rfl (Gh.le.refl _) (by repeat ((exact List.Sublist.refl _))) ?_ ?_; (focus (repeat' ((exact trivial)))); ((refine (x_tkg (bts 14 511) 7 rfl (by kernel_rfl) rfl (Gh.le.refl _) (by repeat ((exact List.Sublist.refl _)))) (g_ldS rfl rfl (by assumption) rfl rfl) rfl rfl ?_)); ((refine (x_tkg (bts 14 1023) 9 rfl (by kernel_rfl) rfl (Gh.le.refl _) (by repeat ((exact List.Sublist.refl _)))) (g_ld rfl rfl rfl) rfl rfl ?_)); ((refine (x_tkg (bts 14 2047) 10 rfl (by kernel_rfl) rfl (Gh.le.refl _) (by repeat ((exact List.Sublist.refl _)))) (g_lookupX rfl rfl (map_G (by assumption)) (by assumption) rfl) rfl rfl ?_)); ((refine (x_tkg (bts 14 4095) 11 rfl (by kernel_rfl) rfl (Gh.le.refl _) (by repeat ((exact List.Sublist.refl _)))) (g_pne0 rfl rfl) rfl rfl ?_)); ((refine (x_tkg (bts 14 8191) 12 rfl (by kernel_rfl) rfl (Gh.le.refl _) (by repeat ((exact List.Sublist.refl _)))) (g_pickF rfl rfl ?_) rfl rfl ?_; (focus (((rfl)); done)))); refine x_tks (t := tb) (fuel := 0) [13] (bts 14 16383) (by kernel_rfl) (by kernel_rfl) rfl rfl (Gh.le.refl _) (by repeat ((exact List.Sublist.refl _))) ?_ ?_; (focus (repeat' ((exact trivial)))); refine x_done (by kernel_rfl) (k_bk ?_)))
      all_goals refine k_rr (vs := [_]) rfl ⟨rfl, trivial⟩ rfl (List.nil_sublist _) ⟨rfl, rfl, ?_⟩
      all_goals rfl
end Go.E
/-! Mm -/
namespace Go.E
set_option maxRecDepth 20000
set_option maxHeartbeats 2000000
open Go.Proofs
variable {G : Gh}
theorem refN_sg {k : List UInt8} (h : kindOk k = true) : refN k = if sg k = [] ∧ bs k = [64] then some (nm k) else none := by
  have hat := bs_at h
  match k, h with
  | c :: r, h =>
    by_cases h1 : c.toNat = 91 ∨ c.toNat = 63
    · have hs : ¬ (sg (c :: r) = [] ∧ bs (c :: r) = [64]) := by
        rintro ⟨e, _⟩
        unfold sg at e
        rw [core, if_pos h1] at e
        have := core_len r
        have e2 := congrArg List.length e
        simp only [List.length_take, List.length_cons, List.length_nil] at e2
        omega
      rw [if_neg hs]
      simp only [refN]
      rw [if_neg (by omega)]
    · have hc : core (c :: r) = c :: r := by rw [core, if_neg h1]
      have hs : sg (c :: r) = [] := by unfold sg; rw [hc]; simp
      have hn : nm (c :: r) = (refN (c :: r)).getD [] := by unfold nm; rw [hc]
      rw [hc] at hat
      rw [hn, hs]
      cases hr : refN (c :: r) with
      | none => rw [hr] at hat; rw [if_neg]; rintro ⟨_, e⟩; have := hat.1 e; cases this
      | some n => rw [hr] at hat; rw [if_pos ⟨rfl, hat.2 rfl⟩]; rfl
theorem c_endsI {b : Nat} {qs : List TyP} {q0 : TyP} (h : ScI G b qs) (hw : ∀ q ∈ qs, TyW q.2) (hk : ∀ q ∈ qs, KindsOk (tyq qs) q.2) (hq : q0 ∈ qs) :
    PuG Tryz.prog 39 [Pt b 0, Pt q0.1 0] G (· = Bo (endsN (tyq qs) 9 q0.2)) := by
  obtain ⟨u, m, h1, h2, h3⟩ := h.at'
  refine p_enter [(0, _), (1, _)] Tryz.func39 (by kernel_rfl) Tryz.ntmps39 rfl rfl (by repeat (first | exact trivial | refine ⟨rfl, ?_⟩)) fun B hB => ?_
  repeat' ((refine run (t := tb) 400 rfl ?_ ?_; (focus (repeat' ((exact trivial))))))
  refine k_loop (ι := TyP × Nat) (fun i => i.1 ∈ qs ∧ i.2 ≤ 9 ∧ endsN (tyq qs) (9 - i.2) i.1.2 = endsN (tyq qs) 9 q0.2) (fun i => [(0, Pt b 0), (1, Pt i.1.1 0), (6, I i.2)]) (fun _ => G) (fun i => []) (fun i => 9 - i.2) (q0, 0) ?_ (by repeat (first | exact trivial | refine ⟨rfl, ?_⟩)) rfl (by repeat ((exact List.Sublist.refl _))) (fun i Hi => ?_)
  · exact ⟨hq, Nat.zero_le _, rfl⟩
  obtain ⟨⟨p, t⟩, i⟩ := i
  dsimp only at Hi ⊢
  obtain ⟨hqm, hi9, he⟩ := Hi
  have hW := hw _ hqm
  obtain ⟨fv, ln, hsg, hfv⟩ := h.ty _ hqm
  dsimp only at hW hsg hfv
  by_cases hlt : i < 9
  case neg =>
    have e0 : 9 - i = 0 := by omega
    rw [e0] at he
    repeat' (first | (refine run (t := tb) 400 rfl ?_ ?_; (focus (repeat' ((exact trivial))))) | (refine k_ff rfl ?_ ?_; (focus (((refine decide_eq_false ?_; (omega))); done))))
    refine k_rr (vs := [_]) rfl ⟨rfl, trivial⟩ rfl (List.nil_sublist _) ⟨rfl, rfl, ?_⟩
    rw [← he]; rfl
  obtain ⟨j, hj⟩ : ∃ j, 9 - i = j + 1 := ⟨8 - i, by omega⟩
  rw [hj, endsN] at he
  by_cases hU : t.sort = 85
  case neg =>
    rw [if_pos hU] at he
    repeat' (first | (refine run (t := tb) 400 rfl ?_ ?_; (focus (repeat' ((exact trivial))))) | (refine k_op rfl ?_; (refine v_op (g_ldS rfl rfl (by assumption) rfl rfl) rfl rfl ?_)) | (refine k_tt rfl ?_ ?_; (focus (((refine decide_eq_true ?_; (omega))); done))))
    refine k_rr (vs := [_]) rfl ⟨rfl, trivial⟩ rfl (List.nil_sublist _) ⟨rfl, rfl, ?_⟩
    rw [← he]; rfl
  rw [if_neg (by simp [hU])] at he
  have hne := hW.ne (by omega)
  have h0 : 0 < t.fields.length := List.length_pos_iff.2 hne
  obtain ⟨bf, of, cf, rfl, hsf⟩ := hfv.expl h0
  have hk0 : kind0 t = (nth t.fields 0).kind := by
    unfold kind0 nth
    cases t.fields with
    | nil => rfl
    | cons f r => rfl
  have hko := (hW.fld _ (nth_mem h0)).kind (by omega)
  have hrs := refN_sg hko
  have hhas : hasK (tyq qs) (nth t.fields 0).kind = true := by
    rcases hk _ hqm with h5 | h5
    · dsimp only at h5; omega
    · exact h5 0 h0
  rw [hk0] at he
  by_cases hs1 : sg (nth t.fields 0).kind = []
  case neg =>
    rw [if_neg fun h => hs1 h.1] at hrs
    unfold refT at he
    rw [hrs] at he
    repeat' (first | (refine run (t := tb) 400 rfl ?_ ?_; (focus (repeat' ((exact trivial))))) | (refine k_op rfl ?_; first | refine v_op (g_ld rfl rfl rfl) rfl rfl ?_ | refine v_op (g_ldS rfl rfl (by assumption) rfl rfl) rfl rfl ?_ | (refine v_op (g_ldRA rfl rfl (by assumption) ?_ rfl rfl) rfl rfl ?_; (focus (((omega)); done))) | (refine v_op (g_iaddrN rfl rfl ?_) rfl rfl ?_; (focus ((omega); done))) | refine c_al rfl rfl fun _ => ?_ | refine c_stA rfl rfl rfl rfl rfl rfl ?_ | (refine v_op (g_pickT rfl rfl ?_) rfl rfl ?_; (focus (((rfl)); done)))) | (refine k_gt rfl rfl ?_ ?_; (focus (((refine decide_eq_true ?_; (assumption))); done))) | (refine k_tt rfl ?_ ?_; (focus ((first | rfl | (refine decide_eq_true ?_; (omega))); done))) | (refine k_ff rfl ?_ ?_; (focus (((refine decide_eq_false ?_; (omega))); done))))
    all_goals refine k_rr (vs := [_]) rfl ⟨rfl, trivial⟩ rfl (List.nil_sublist _) ⟨rfl, rfl, ?_⟩
    all_goals (rw [← he]; rfl)
  by_cases hs2 : bs (nth t.fields 0).kind = [64]
  case neg =>
    rw [if_neg fun h => hs2 h.2] at hrs
    unfold refT at he
    rw [hrs] at he
    repeat' (first | (refine run (t := tb) 400 rfl ?_ ?_; (focus (repeat' ((exact trivial))))) | (refine k_op rfl ?_; first | refine v_op (g_ld rfl rfl rfl) rfl rfl ?_ | refine v_op (g_ldS rfl rfl (by assumption) rfl rfl) rfl rfl ?_ | (refine v_op (g_ldRA rfl rfl (by assumption) ?_ rfl rfl) rfl rfl ?_; (focus (((omega)); done))) | (refine v_op (g_iaddrN rfl rfl ?_) rfl rfl ?_; (focus ((omega); done))) | refine c_al rfl rfl fun _ => ?_ | refine c_stA rfl rfl rfl rfl rfl rfl ?_ | (refine v_op (g_pickF rfl rfl ?_) rfl rfl ?_; (focus (((rfl)); done)))) | (refine k_gf rfl rfl ?_ ?_; (focus (((simp [*]; done)); done))) | (refine k_tt rfl ?_ ?_; (focus (((refine decide_eq_true ?_; first | assumption | omega)); done))) | (refine k_ff rfl ?_ ?_; (focus (((refine decide_eq_false ?_; (omega))); done))))
    all_goals refine k_rr (vs := [_]) rfl ⟨rfl, trivial⟩ rfl (List.nil_sublist _) ⟨rfl, rfl, ?_⟩
    all_goals (rw [← he]; rfl)
  rw [if_pos ⟨hs1, hs2⟩] at hrs
  unfold refT at he
  rw [hrs, Option.bind_some, ← findQ_ty] at he
  have hkv := kvF_find qs (nm (nth t.fields 0).kind)
  have hr2 : refN (core (nth t.fields 0).kind) = some (nm (nth t.fields 0).kind) := by
    have := (bs_at hko).1 hs2
    unfold nm
    cases hx : refN (core (nth t.fields 0).kind) with
    | none => rw [hx] at this; cases this
    | some n => rfl
  unfold hasK at hhas
  rw [hr2] at hhas
  dsimp only at hhas
  rw [← findQ_ty] at hhas
  cases hf : findQ qs (nm (nth t.fields 0).kind) with
  | none => rw [hf] at hhas; cases hhas
  | some q =>
    rw [hf] at hkv he
    dsimp only [Option.map_some] at hkv he
    have hb1 : ¬ sg (nth t.fields 0).kind ≠ [] := fun h => h hs1
    have hb2 : ¬ bs (nth t.fields 0).kind ≠ [64] := fun h => h hs2
    clear hs1 hs2 hrs hr2
    repeat' (first | (refine run (t := tb) 400 rfl ?_ ?_; (focus (repeat' (first | exact trivial | apply And.intro | omega)))) | (refine k_op rfl ?_; first | refine v_op (g_ld rfl rfl rfl) rfl rfl ?_ | refine v_op (g_ldS rfl rfl (by assumption) rfl rfl) rfl rfl ?_ | (refine v_op (g_ldRA rfl rfl (by assumption) ?_ rfl rfl) rfl rfl ?_; (focus (((omega)); done))) | (refine v_op (g_iaddrN rfl rfl ?_) rfl rfl ?_; (focus ((omega); done))) | refine c_al rfl rfl fun _ => ?_ | refine c_stA rfl rfl rfl rfl rfl rfl ?_ | (refine v_op (g_pickF rfl rfl ?_) rfl rfl ?_; (focus (((rfl)); done)))) | (refine k_gf rfl rfl ?_ ?_; (focus (((refine decide_eq_false ?_; (assumption))); done))) | (refine k_tt rfl ?_ ?_; (focus (((refine decide_eq_true ?_; (omega))); done))) | (refine k_ff rfl ?_ ?_; (focus (((refine decide_eq_false ?_; first | assumption | omega)); done))) | (refine k_any (s_any (id := 8) _ (fun _ h => h) mixed ?_); refine x_tks (t := tb) (fuel := 4) [0, 1, 2, 4] (bts 8 23) (by kernel_rfl) (by kernel_rfl) rfl rfl (Gh.le.refl _) (by repeat ((exact List.Sublist.refl _))) ?_ ?_; (focus (repeat' ((exact trivial)))); ((refine (x_tkg (bts 8 31) 3 rfl (by kernel_rfl) rfl (Gh.le.refl _) (by repeat ((exact List.Sublist.refl _)))) (g_ldS rfl rfl (by assumption) rfl rfl) rfl rfl ?_)); ((refine (x_tkg (bts 8 63) 5 rfl (by kernel_rfl) rfl (Gh.le.refl _) (by repeat ((exact List.Sublist.refl _)))) (g_ld rfl rfl rfl) rfl rfl ?_)); ((refine (x_tkg (bts 8 127) 6 rfl (by kernel_rfl) rfl (Gh.le.refl _) (by repeat ((exact List.Sublist.refl _)))) (g_lookupX rfl rfl (map_G (by assumption)) (by assumption) rfl) rfl rfl ?_)); refine x_tks (t := tb) (fuel := 0) [7] (bts 8 255) (by kernel_rfl) (by kernel_rfl) rfl rfl (Gh.le.refl _) (by repeat ((exact List.Sublist.refl _))) ?_ ?_; (focus (repeat' ((exact trivial)))); refine x_done (by kernel_rfl) (k_bk ?_)))
    refine k_rd (q, i + 1) ⟨findQ_mem hf, by dsimp only; omega, ?_⟩ (by dsimp only; omega) (by repeat (first | exact trivial | refine ⟨rfl, ?_⟩)) rfl (by repeat ((exact List.nil_sublist _)))
    dsimp only
    rw [show 9 - (i + 1) = j by omega]
    exact he
end Go.E
/-! Mo -/
namespace Go.E
set_option maxRecDepth 20000
set_option maxHeartbeats 2000000
/-- What has been read, and what is left. -/
structure Rdg (s : List UInt8) (ls : List (List UInt8)) (ts : List Ty) (t : List UInt8) : Prop where
  cutE : cut 10 s = ls ++ cut 10 t
  tyE : typesOf ls = some ts
theorem Rdg.start (s : List UInt8) : Rdg s [] [] s := ⟨rfl, rfl⟩
theorem Rdg.len {s : List UInt8} {ls : List (List UInt8)} {ts : List Ty} {t : List UInt8} (h : Rdg s ls ts t) : ts.length = ls.length := (typesOf_w h.tyE).2
theorem cut_line {t line rest : List UInt8} (h : cut1 10 t = (line, rest, true)) : cut 10 t = line :: cut 10 rest := by rw [cut_cut1, h]; rfl
theorem Rdg.step {s : List UInt8} {ls : List (List UInt8)} {ts : List Ty} {t line rest : List UInt8} {x : Ty} (h : Rdg s ls ts t) (hc : cut1 10 t = (line, rest, true)) (hx : tyOf line = some x) : Rdg s (ls ++ [line]) (ts ++ [x]) rest :=
  ⟨by rw [h.cutE, cut_line hc]; simp, by rw [typesOf_snoc h.tyE, hx]; rfl⟩
theorem Rdg.fin {s : List UInt8} {ls : List (List UInt8)} {ts : List Ty} (h : Rdg s ls ts []) (hl : s.length ≤ 400) (h8 : ts.length ≤ 8) : schemaOf s = if ValidT ts then some ts else none := by
  have hlen := h.len
  have e : cut 10 s = ls ++ [[]] := h.cutE
  unfold schemaOf
  rw [e, if_pos ⟨hl, by simp; omega, by simp⟩, List.dropLast_concat, h.tyE]
theorem schema_len {s : List UInt8} (h : ¬ s.length ≤ 400) : schemaOf s = none := by
  unfold schemaOf
  exact if_neg fun h2 => h h2.1
theorem Rdg.noend {s : List UInt8} {ls : List (List UInt8)} {ts : List Ty} {t : List UInt8} (h : Rdg s ls ts t) (ht : t ≠ []) (hc : (cut1 10 t).2.2 = false) : schemaOf s = none := by
  have e : cut 10 s = ls ++ [t] := by rw [h.cutE, cut_cut1, hc]; rfl
  unfold schemaOf
  rw [e, if_neg]
  rintro ⟨_, _, h3⟩
  simp at h3
  exact ht h3
theorem Rdg.many {s : List UInt8} {ls : List (List UInt8)} {ts : List Ty} {t line rest : List UInt8} (h : Rdg s ls ts t) (hc : cut1 10 t = (line, rest, true)) (h8 : ts.length = 8) : schemaOf s = none := by
  have hlen := h.len
  have hp := cut_pos (k := 10) (s := rest)
  unfold schemaOf
  rw [h.cutE, cut_line hc, if_neg]
  rintro ⟨_, h3, _⟩
  simp at h3
  omega
theorem drop_last {ls : List (List UInt8)} {line rest : List UInt8} : (ls ++ line :: cut 10 rest).dropLast = (ls ++ [line]) ++ (cut 10 rest).dropLast := by
  have hp := cut_pos (k := 10) (s := rest)
  have hne : cut 10 rest ≠ [] := fun e => by rw [e] at hp; simp at hp
  rw [List.dropLast_append_of_ne_nil (by simp), List.dropLast_cons_of_ne_nil hne]; simp
theorem Rdg.bad {s : List UInt8} {ls : List (List UInt8)} {ts : List Ty} {t line rest : List UInt8} (h : Rdg s ls ts t) (hc : cut1 10 t = (line, rest, true)) (hx : tyOf line = none) : schemaOf s = none := by
  have hn : typesOf (ls ++ [line]) = none := by rw [typesOf_snoc h.tyE, hx]; rfl
  unfold schemaOf
  split
  · rw [h.cutE, cut_line hc, drop_last, typesOf_app_none hn]
  · rfl
theorem typesOf_pre : ∀ {xs ys : List (List UInt8)} {ts us : List Ty}, typesOf xs = some ts → typesOf (xs ++ ys) = some us → ∃ vs, us = ts ++ vs
  | [], ys, ts, us, h, h2 => by simp only [typesOf, Option.some.injEq] at h; subst h; exact ⟨us, rfl⟩
  | x :: xs, ys, ts, us, h, h2 => by
    unfold typesOf at h
    rw [List.cons_append, typesOf] at h2
    cases hx : tyOf x with
    | none => rw [hx] at h; cases h
    | some t =>
      rw [hx] at h h2
      dsimp only at h h2
      cases hr : typesOf xs with
      | none => rw [hr] at h; cases h
      | some ws =>
        rw [hr] at h
        simp only [Option.map_some, Option.some.injEq] at h; subst h
        cases hq : typesOf (xs ++ ys) with
        | none => rw [hq] at h2; cases h2
        | some zs =>
          rw [hq] at h2
          simp only [Option.map_some, Option.some.injEq] at h2; subst h2
          obtain ⟨vs, rfl⟩ := typesOf_pre hr hq
          exact ⟨vs, rfl⟩
theorem nth_app {α : Type} [Inhabited α] {xs ys : List α} {i : Nat} (h : i < xs.length) : nth (xs ++ ys) i = nth xs i := by
  rw [nth_eq h, nth_eq (by simp; omega), List.getElem_append_left h]
theorem Rdg.dup {s : List UInt8} {ls : List (List UInt8)} {ts : List Ty} {t line rest : List UInt8} {x : Ty} (h : Rdg s ls ts t) (hc : cut1 10 t = (line, rest, true)) (hx : tyOf line = some x) (i : Nat) (hi : i < ts.length) (hd : (nth ts i).name = x.name) : schemaOf s = none := by
  have h2 := h.step hc hx
  unfold schemaOf
  split
  · rw [h.cutE, cut_line hc, drop_last]
    cases hr : typesOf (ls ++ [line] ++ (cut 10 rest).dropLast) with
    | none => rfl
    | some us =>
      obtain ⟨vs, rfl⟩ := typesOf_pre h2.tyE hr
      dsimp only
      rw [if_neg]
      intro hv
      have h3 := (hv.1 ts.length (by simp)).1 i hi
      have e1 : nth (ts ++ [x] ++ vs) i = nth ts i := by rw [nth_app (by simp; omega), nth_app hi]
      have e2 : nth (ts ++ [x] ++ vs) ts.length = x := by rw [nth_app (by simp), nth_eq (by simp)]; simp
      rw [e1, e2] at h3
      exact h3 hd
  · rfl
end Go.E
/-! Mp -/
namespace Go.E
set_option maxRecDepth 20000
set_option maxHeartbeats 2000000
open Go.Proofs
variable {G : Gh}
abbrev tPT : TypeId := 89
abbrev tSc : TypeId := 86
def RsPost (s : List UInt8) (v : Value) (G : Gh) : Prop := (schemaOf s = none ∧ ∃ p, v = Tu [p, Bo false]) ∨ ∃ b qs, v = Tu [Pt b 0, Bo true] ∧ schemaOf s = some (tyq qs) ∧ ScI G b qs
theorem tyq_len (qs : List TyP) : (tyq qs).length = qs.length := by simp [tyq]
theorem nth_tyq {qs : List TyP} {i : Nat} (h : i < qs.length) : nth (tyq qs) i = (nth qs i).2 := by
  rw [nth_eq h, nth_eq (by rw [tyq_len]; exact h)]; simp [tyq]
theorem findQ_some {qs : List TyP} {n : List UInt8} {q : TyP} (h : findQ qs n = some q) : ∃ i, i < (tyq qs).length ∧ (nth (tyq qs) i).name = n := by
  have h1 := findQ_mem h
  have h2 : n = q.2.name := by unfold findQ at h; simpa using List.find?_some h
  obtain ⟨i, hi, rfl⟩ := mem_nth h1
  exact ⟨i, by rw [tyq_len]; exact hi, by rw [nth_tyq hi, h2]⟩
theorem findQ_none {qs : List TyP} {n : List UInt8} (h : findQ qs n = none) : ∀ i, i < qs.length → (nth (tyq qs) i).name ≠ n := by
  intro i hi e
  unfold findQ at h
  rw [List.find?_eq_none] at h
  have := h _ (nth_mem hi)
  rw [nth_tyq hi] at e
  simp [e] at this
theorem c_readSchema {s : List UInt8} (h : s.length ≤ 10000000) : FnS Tryz.prog 22 [S s] G (RsPost s) := by
  by_cases hl : s.length ≤ 400
  case neg =>
    have hno := schema_len hl
    refine b_enter [(0, _)] Tryz.func22 (by kernel_rfl) Tryz.ntmps22 rfl rfl (by repeat (first | exact trivial | refine ⟨rfl, ?_⟩)) fun B hok hB hW => ?_
    repeat' (first | (refine run (t := tb) 400 rfl ?_ ?_; (focus (repeat' ((exact trivial))))) | (refine k_tt rfl ?_ ?_; (focus (((refine decide_eq_true ?_; (omega))); done))))
    all_goals refine k_rr (vs := [_, _]) rfl ⟨rfl, rfl, trivial⟩ rfl (List.nil_sublist _) ⟨Gh.le.refl _, rfl, ?_⟩
    all_goals exact .inl ⟨hno, _, rfl⟩
  refine b_enter [(0, _)] Tryz.func22 (by kernel_rfl) Tryz.ntmps22 rfl rfl (by repeat (first | exact trivial | refine ⟨rfl, ?_⟩)) fun B hok hB hW => ?_
  repeat' (first | (refine run (t := tb) 400 rfl ?_ ?_; (focus (repeat' ((exact trivial))))) | (refine k_op rfl ?_; first | refine c_mkm rfl fun _ => ?_ | refine v_op (g_bld rfl rfl) rfl rfl ?_ | refine c_bx rfl rfl rfl fun _ => ?_) | (refine k_ff rfl ?_ ?_; (focus (((refine decide_eq_false ?_; (omega))); done))))
  rename_i m x
  refine Nx.addNil tPT 1 ?_
  refine k_loop (ι := Value × List TyP × List (List UInt8) × List UInt8 × Gh) (fun i => Rdg s i.2.2.1 (tyq i.2.1) i.2.2.2.1 ∧ (i.2.1.length ≤ 8 ∧ i.2.2.2.1.length ≤ s.length) ∧ (∀ a, a < i.2.1.length → NamesAt (tyq i.2.1) a) ∧ (∀ q ∈ i.2.1, TyI i.2.2.2.2 q.1 q.2) ∧ Gh.le G i.2.2.2.2) (fun i => [(0, S i.2.2.2.1), (4, Pt x 0)]) (fun i => i.2.2.2.2) (fun i => [.acc i.1 tPT 1 i.2.1.length (rows ptF i.2.1), .blk x (.cells [i.1, .map (some m)].toArray tSc (0, 0)), .blk m (mapO (kvsOf i.2.1))]) (fun i => i.2.2.2.1.length) (nilS, [], [], s, G) ?_ (by repeat (first | exact trivial | refine ⟨rfl, ?_⟩)) rfl (by repeat ((exact List.Sublist.refl _))) (fun i Hi => ?_)
  · exact ⟨Rdg.start s, ⟨by simp, Nat.le_refl _⟩, fun a ha => absurd ha (by simp), by simp, Gh.le.refl _⟩
  obtain ⟨u, qs, ls, t, Gk⟩ := i
  dsimp only at Hi ⊢
  obtain ⟨hR, ⟨h8, htl⟩, hna, hti, hgk⟩ := Hi
  refine Nx.shp (v := u) (.head _) fun hsh => ?_
  have hsh2 := hsh
  obtain ⟨au, cu, rfl⟩ := hsh.sl
  by_cases ht : t = []
  case neg =>
    have cx_cut : ∀ G, PuG Tryz.prog 37 [S t, S [10]] G (· = Tu [S (cut1 10 t).1, S (cut1 10 t).2.1, Bo (cut1 10 t).2.2]) := fun G => c_Cut (c := 10) (by omega)
    have hcl := cut1_len (k := 10) (s := t)
    cases hc : (cut1 10 t).2.2 with
    | false =>
      have hno := hR.noend ht hc
      have hc2 : (!(cut1 10 t).2.2) = true := by rw [hc]; rfl
      repeat' (first | (refine run (t := tb) 400 rfl ?_ ?_; (focus (repeat' ((exact trivial))))) | (refine k_op rfl ?_; first | (refine v_op (g_pickT rfl rfl ?_) rfl rfl ?_; (focus (((rfl)); done))) | (refine c_rt rfl rfl rfl (cx_cut _) rfl ?_)) | (refine k_gt rfl rfl ?_ ?_; (focus (((assumption)); done))) | (refine k_tt rfl ?_ ?_; (focus ((first | rfl | (refine decide_eq_true ?_; (assumption))); done))))
      all_goals refine k_rr (vs := [_, _]) rfl ⟨rfl, rfl, trivial⟩ rfl (List.nil_sublist _) ⟨hgk, rfl, ?_⟩
      all_goals exact .inl ⟨hno, _, rfl⟩
    | true =>
      have hce : cut1 10 t = ((cut1 10 t).1, (cut1 10 t).2.1, true) := by rw [← hc]
      have hlt : (cut1 10 t).2.1.length < t.length := by
        obtain ⟨d, _, e⟩ := cut1_some hce
        have := congrArg List.length e
        simp at this; omega
      rw [hc] at cx_cut
      generalize (cut1 10 t).1 = line at *
      generalize (cut1 10 t).2.1 = rest at *
      clear hc
      by_cases h9 : qs.length = 8
      · have hno := hR.many hce (by rw [tyq_len]; exact h9)
        repeat' (first | (refine run (t := tb) 400 rfl ?_ ?_; (focus (repeat' ((exact trivial))))) | (refine k_op rfl ?_; first | refine v_op (g_ld rfl rfl rfl) rfl rfl ?_ | refine v_op (g_lenL rfl) rfl rfl ?_ | (refine v_op (g_pickF rfl rfl ?_) rfl rfl ?_; (focus (((rfl)); done))) | (refine c_rt rfl rfl rfl (cx_cut _) rfl ?_)) | (refine k_gf rfl rfl ?_ ?_; (focus (((rfl)); done))) | (refine k_tt rfl ?_ ?_; (focus (((refine decide_eq_true ?_; first | assumption | omega)); done))))
        all_goals refine k_rr (vs := [_, _]) rfl ⟨rfl, rfl, trivial⟩ rfl (List.nil_sublist _) ⟨hgk, rfl, ?_⟩
        all_goals exact .inl ⟨hno, _, rfl⟩
      have hle1 : line.length ≤ 1000 := by omega
      cases hty : tyOf line with
      | none =>
        have hno := hR.bad hce hty
        have cx_rt0 : ∀ G, FnS Tryz.prog 38 [S line] G (fun v _ => ∃ p, v = Tu [p, Bo false]) := fun G => by
          refine (c_readType (G := G) hle1).mono ?_
          rintro v G' L' ⟨h1, h2, ⟨_, p, rfl⟩ | ⟨_, _, _, h4, _⟩⟩
          · exact ⟨h1, h2, p, rfl⟩
          · rw [hty] at h4; cases h4
        repeat' (first | (refine run (t := tb) 400 rfl ?_ ?_; (focus (repeat' ((exact trivial))))) | (refine k_op rfl ?_; first | refine v_op (g_ld rfl rfl rfl) rfl rfl ?_ | refine v_op (g_lenL rfl) rfl rfl ?_ | (refine v_op (g_pickF rfl rfl ?_) rfl rfl ?_; (focus (((rfl)); done))) | (refine c_rt rfl rfl rfl (cx_cut _) rfl ?_) | (refine c_fns rfl rfl rfl (cx_rt0 _) rfl ?_; rintro _ G hle ⟨p, rfl⟩; skip)) | (refine k_gf rfl rfl ?_ ?_; (focus (((rfl)); done))) | (refine k_tt rfl ?_ ?_; (focus ((first | rfl | (refine decide_eq_true ?_; (assumption))); done))) | (refine k_ff rfl ?_ ?_; (focus (((refine decide_eq_false ?_; (omega))); done))) | (refine k_any (s_any (id := 9) _ (fun _ h => h) mixed ?_); refine x_tks (t := tb) (fuel := 11) [0, 1, 2] (bts 14 7) (by kernel_rfl) (by kernel_rfl) rfl rfl (Gh.le.refl _) (by repeat ((exact List.Sublist.refl _))) ?_ ?_; (focus (repeat' ((exact trivial)))); (try ((refine Nx.re (d := 47) (v' := Bo true) rfl (congrArg Value.bool ?_) ?_; (focus (((rfl)); done))))); refine x_tks (t := tb) (fuel := 5) [3, 4, 5, 7, 8, 9] (bts 14 959) (by kernel_rfl) (by kernel_rfl) rfl rfl (Gh.le.refl _) (by repeat ((exact List.Sublist.refl _))) ?_ ?_; (focus (repeat' ((exact trivial)))); ((refine x_tkn (bts 14 1023) 6 rfl (by kernel_rfl) rfl (Gh.le.refl _) (by repeat ((exact List.Sublist.refl _))) rfl rfl ?_)); ((refine x_tkn (bts 14 2047) 10 rfl (by kernel_rfl) rfl (Gh.le.refl _) (by repeat ((exact List.Sublist.refl _))) rfl rfl ?_)); ((refine x_tkn (bts 14 4095) 11 rfl (by kernel_rfl) rfl (Gh.le.refl _) (by repeat ((exact List.Sublist.refl _))) rfl rfl ?_)); ((refine x_tkn (bts 14 8191) 12 rfl (by kernel_rfl) rfl (Gh.le.refl _) (by repeat ((exact List.Sublist.refl _))) rfl rfl ?_)); ((refine (x_tkg (bts 14 16383) 13 rfl (by kernel_rfl) rfl (Gh.le.refl _) (by repeat ((exact List.Sublist.refl _)))) (g_pickT rfl rfl ?_) rfl rfl ?_; (focus (((rfl)); done)))); refine x_done (by kernel_rfl) (k_bk ?_)))
        all_goals refine k_rr (vs := [_, _]) rfl ⟨rfl, rfl, trivial⟩ rfl (List.nil_sublist _) ⟨hgk.trans hle, rfl, ?_⟩
        all_goals exact .inl ⟨hno, _, rfl⟩
      | some ty =>
      have cx_rt1 : ∀ G, FnS Tryz.prog 38 [S line] G (fun v G' => ∃ b fv ln, v = Tu [Pt b 0, Bo true] ∧ Seg G' b 0 [U8 ty.sort, S ty.name, fv, S ln] ∧ SlV G' fv 6 ty.fields.length (rows fiF ty.fields)) := fun G => by
        refine (c_readType (G := G) hle1).mono ?_
        rintro v G' L' ⟨h1, h2, ⟨h4, _⟩ | ⟨b, t2, rfl, h4, fv, ln, h5, h6⟩⟩
        · rw [hty] at h4; cases h4
        · rw [hty] at h4; simp only [Option.some.injEq] at h4; subst h4
          exact ⟨h1, h2, b, fv, ln, rfl, h5, h6⟩
      have hkv := kvF_find qs ty.name
      cases hf : findQ qs ty.name with
      | some q =>
        rw [hf] at hkv
        dsimp only [Option.map_some] at hkv
        obtain ⟨i, hi, hn⟩ := findQ_some hf
        have hno := hR.dup hce hty i hi hn
        repeat' (first | (refine run (t := tb) 400 rfl ?_ ?_; (focus (repeat' ((exact trivial))))) | (refine k_op rfl ?_; first | refine v_op (g_ld rfl rfl rfl) rfl rfl ?_ | refine v_op (g_lenL rfl) rfl rfl ?_ | (refine v_op (g_pickF rfl rfl ?_) rfl rfl ?_; (focus (((rfl)); done))) | (refine c_rt rfl rfl rfl (cx_cut _) rfl ?_) | (refine c_fns rfl rfl rfl (cx_rt1 _) rfl ?_; rintro _ G hle ⟨b, fv, ln, rfl, hsg, hfv⟩; skip)) | (refine k_gf rfl rfl ?_ ?_; (focus (((rfl)); done))) | (refine k_tt rfl ?_ ?_; (focus ((first | rfl | (refine decide_eq_true ?_; (assumption))); done))) | (refine k_ff rfl ?_ ?_; (focus (((refine decide_eq_false ?_; (omega))); done))) | (refine k_any (s_any (id := 9) _ (fun _ h => h) mixed ?_); refine x_tks (t := tb) (fuel := 11) [0, 1, 2] (bts 14 7) (by kernel_rfl) (by kernel_rfl) rfl rfl (Gh.le.refl _) (by repeat ((exact List.Sublist.refl _))) ?_ ?_; (focus (repeat' ((exact trivial)))); (try ((refine Nx.re (d := 47) (v' := Bo false) rfl (congrArg Value.bool ?_) ?_; (focus (((rfl)); done))))); refine x_tks (t := tb) (fuel := 5) [3, 4, 5, 7, 8, 9] (bts 14 959) (by kernel_rfl) (by kernel_rfl) rfl rfl (Gh.le.refl _) (by repeat ((exact List.Sublist.refl _))) ?_ ?_; (focus (repeat' ((exact trivial)))); ((refine (x_tkg (bts 14 1023) 6 rfl (by kernel_rfl) rfl (Gh.le.refl _) (by repeat ((exact List.Sublist.refl _)))) (g_ld rfl rfl rfl) rfl rfl ?_)); ((refine (x_tkg (bts 14 2047) 10 rfl (by kernel_rfl) rfl (Gh.le.refl _) (by repeat ((exact List.Sublist.refl _)))) (g_ldS rfl rfl (by assumption) rfl rfl) rfl rfl ?_)); ((refine (x_tkg (bts 14 4095) 11 rfl (by kernel_rfl) rfl (Gh.le.refl _) (by repeat ((exact List.Sublist.refl _)))) (g_lookupX rfl rfl (map_own MapI.mem) (by assumption) rfl) rfl rfl ?_)); ((refine (x_tkg (bts 14 8191) 12 rfl (by kernel_rfl) rfl (Gh.le.refl _) (by repeat ((exact List.Sublist.refl _)))) (g_pne0 rfl rfl) rfl rfl ?_)); ((refine (x_tkg (bts 14 16383) 13 rfl (by kernel_rfl) rfl (Gh.le.refl _) (by repeat ((exact List.Sublist.refl _)))) (g_pickF rfl rfl ?_) rfl rfl ?_; (focus (((rfl)); done)))); refine x_done (by kernel_rfl) (k_bk ?_)))
        all_goals refine k_rr (vs := [_, _]) rfl ⟨rfl, rfl, trivial⟩ rfl (List.nil_sublist _) ⟨hgk.trans hle, rfl, ?_⟩
        all_goals exact .inl ⟨hno, _, rfl⟩
      | none =>
        rw [hf] at hkv
        dsimp only [Option.map_none] at hkv
        
        repeat' (first | (refine run (t := tb) 400 rfl ?_ ?_; (focus (repeat' ((exact trivial))))) | (refine k_op rfl ?_; first | refine v_op (g_ld rfl rfl rfl) rfl rfl ?_ | refine v_op (g_lenL rfl) rfl rfl ?_ | (refine v_op (g_pickF rfl rfl ?_) rfl rfl ?_; (focus (((rfl)); done))) | (refine c_rt rfl rfl rfl (cx_cut _) rfl ?_) | (refine c_fns rfl rfl rfl (cx_rt1 _) rfl ?_; rintro _ G hle ⟨b, fv, ln, rfl, hsg, hfv⟩; skip)) | (refine k_gf rfl rfl ?_ ?_; (focus (((rfl)); done))) | (refine k_tt rfl ?_ ?_; (focus (((refine decide_eq_true ?_; (assumption))); done))) | (refine k_ff rfl ?_ ?_; (focus (((refine decide_eq_false ?_; (omega))); done))))
        (refine k_any (s_any (id := 9) _ (fun _ h => h) mixed ?_); refine x_tks (t := tb) (fuel := 11) [0, 1, 2] (bts 14 7) (by kernel_rfl) (by kernel_rfl) rfl rfl (Gh.le.refl _) (by repeat ((exact List.Sublist.refl _))) ?_ ?_; (focus (repeat' ((exact trivial)))); (try ((refine Nx.re (d := 47) (v' := Bo false) rfl (congrArg Value.bool ?_) ?_; (focus (((rfl)); done))))); refine x_tks (t := tb) (fuel := 5) [3, 4, 5, 7, 8, 9] (bts 14 959) (by kernel_rfl) (by kernel_rfl) rfl rfl (Gh.le.refl _) (by repeat ((exact List.Sublist.refl _))) ?_ ?_; (focus (repeat' ((exact trivial)))); ((refine (x_tkg (bts 14 1023) 6 rfl (by kernel_rfl) rfl (Gh.le.refl _) (by repeat ((exact List.Sublist.refl _)))) (g_ld rfl rfl rfl) rfl rfl ?_)); ((refine (x_tkg (bts 14 2047) 10 rfl (by kernel_rfl) rfl (Gh.le.refl _) (by repeat ((exact List.Sublist.refl _)))) (g_ldS rfl rfl (by assumption) rfl rfl) rfl rfl ?_)); ((refine (x_tkg (bts 14 4095) 11 rfl (by kernel_rfl) rfl (Gh.le.refl _) (by repeat ((exact List.Sublist.refl _)))) (g_lookupX rfl rfl (map_own MapI.mem) (by assumption) rfl) rfl rfl ?_)); ((refine (x_tkg (bts 14 8191) 12 rfl (by kernel_rfl) rfl (Gh.le.refl _) (by repeat ((exact List.Sublist.refl _)))) (g_pne0 rfl rfl) rfl rfl ?_)); ((refine (x_tkg (bts 14 16383) 13 rfl (by kernel_rfl) rfl (Gh.le.refl _) (by repeat ((exact List.Sublist.refl _)))) (g_pickF rfl rfl ?_) rfl rfl ?_; (focus (((rfl)); done)))); refine x_done (by kernel_rfl) (k_bk ?_))
        repeat' (first | (refine run (t := tb) 400 rfl ?_ ?_; (focus (repeat' ((exact trivial))))) | (refine k_op rfl ?_; first | refine v_op (g_ld rfl rfl rfl) rfl rfl ?_ | refine c_bsl rfl rfl rfl rfl rfl rfl fun _ => ?_ | (refine c_apX rfl rfl rfl rfl rfl rfl rfl rfl rfl ?_ fun _ _ => ?_; (focus ((omega); done))) | refine c_st1 rfl rfl rfl rfl ?_) | (refine k_ff rfl ?_ ?_; (focus (((rfl)); done))))
        rename_i w b2 c2
        (refine k_any (s_any (id := 12) [.blk x (.cells [.slice (some ⟨b2, 0, none⟩) (qs.length + 1) c2, .map (some m)].toArray tSc (0, 0))] (by intro y hy; simp only [List.mem_cons, List.not_mem_nil, or_false] at hy ⊢; simp [hy]) mixed ?_); refine x_tks (t := tb) (fuel := 3) [0, 1, 2, 4, 5, 6, 8] (bts 10 375) (by kernel_rfl) (by kernel_rfl) rfl rfl (Gh.le.refl _) (by repeat (first | exact List.nil_sublist _ | apply List.Sublist.cons_cons | apply List.Sublist.cons)) ?_ ?_; (focus (repeat' ((exact trivial)))); ((refine (x_tkg (bts 10 383) 3 rfl (by kernel_rfl) rfl (Gh.le.refl _) (by repeat (first | exact List.nil_sublist _ | apply List.Sublist.cons_cons | apply List.Sublist.cons))) (g_ld rfl rfl rfl) rfl rfl ?_)); ((refine (x_tkg (bts 10 511) 7 rfl (by kernel_rfl) rfl (Gh.le.refl _) (by repeat (first | exact List.nil_sublist _ | apply List.Sublist.cons_cons | apply List.Sublist.cons))) (g_ldS rfl rfl (by assumption) rfl rfl) rfl rfl ?_)); refine x_all [9] (by kernel_rfl) (by decide) ⟨?_, trivial⟩; refine x_opg rfl rfl ?_; ((refine c_mup rfl rfl rfl rfl ?_ ?_; (focus (((assumption)); done)))); refine x_ks (by (exact Gh.le.refl _)) (by repeat (first | exact List.nil_sublist _ | apply List.Sublist.cons_cons | apply List.Sublist.cons)) (listed' := (bts 10 1023)) (by kernel_rfl) ?_; refine x_done (by kernel_rfl) (k_bk ?_))
        repeat' ((refine run (t := tb) 400 rfl ?_ ?_; (focus (repeat' ((exact trivial))))))
        
        have e1 : kvsOf qs ++ [(ty.name, Pt b 0)] = kvsOf (qs ++ [(b, ty)]) := by simp [kvsOf]
        have e2 : rows ptF qs ++ [Pt b 0] = rows ptF (qs ++ [(b, ty)]) := (rows_snoc ptF qs (b, ty)).symm
        have e3 : tyq (qs ++ [(b, ty)]) = tyq qs ++ [ty] := by simp [tyq]
        rw [e1, e2]
        refine k_rd (.slice (some ⟨b2, 0, none⟩) (qs.length + 1) c2, qs ++ [(b, ty)], ls ++ [line], rest, G) ⟨?_, ⟨by simp; omega, by dsimp only; omega⟩, ?_, ?_, hgk.trans hle⟩ (by dsimp only; omega) (by repeat (first | exact trivial | refine ⟨rfl, ?_⟩)) rfl (by dsimp only; simp only [List.length_append, List.length_cons, List.length_nil, Nat.zero_add]; repeat (first | exact List.Sublist.refl _ | apply List.Sublist.cons_cons | apply List.Sublist.cons))
        · dsimp only; rw [e3]; exact hR.step hce hty
        · intro a ha k hk
          dsimp only at ha ⊢
          rw [e3]
          have hlen := tyq_len qs
          have hal : a < qs.length + 1 := by simpa using ha
          rcases Nat.lt_or_ge a qs.length with h3 | h3
          · rw [nth_app (by omega), nth_app (by omega)]; exact hna a h3 k hk
          · have ea : a = qs.length := by omega
            have e4 : nth (tyq qs ++ [ty]) a = ty := by rw [nth_eq (by simp; omega), List.getElem_append_right (by omega)]; simp
            rw [nth_app (by omega), e4]
            exact findQ_none hf k (by omega)
        · intro q hq
          dsimp only at hq ⊢
          rcases List.mem_append.1 hq with hq | hq
          · exact (hti q hq).mono hle
          · simp only [List.mem_singleton] at hq; subst hq; exact ⟨fv, ln, hsg, hfv⟩
  · subst ht
    have hfin := hR.fin hl (by rw [tyq_len]; exact h8)
    have hw : ∀ q ∈ qs, TyW q.2 := fun q hq => (typesOf_w hR.tyE).1 q.2 (show q.2 ∈ qs.map (fun y => y.2) from List.mem_map_of_mem hq)
    refine Nx.sealS (v := .slice au qs.length cu) fun G1 hl1 hsl => ?_
    refine Nx.sealC (b := x) fun G2 hl2 hsx => ?_
    refine Nx.sealM (b := m) fun G3 hl3 hmm => ?_
    have hS : ScI G3 x qs := ⟨⟨_, m, hsx.mono hl3, hsl.mono (hl2.trans hl3), hmm⟩, fun q hq => (hti q hq).mono ((hl1.trans hl2).trans hl3)⟩
    have hgl : Gh.le G G3 := ((hgk.trans hl1).trans hl2).trans hl3
    have hsx3 := hsx.mono hl3
    have hsl3 := hsl.mono (hl2.trans hl3)
    repeat' (first | (refine run (t := tb) 400 rfl ?_ ?_; (focus (repeat' ((exact trivial))))) | (refine k_op rfl ?_; first | refine v_op (g_ldS rfl rfl (by assumption) rfl rfl) rfl rfl ?_ | refine v_op (g_lenL rfl) rfl rfl ?_) | (refine k_ff rfl ?_ ?_; (focus (((rfl)); done))))
    refine k_loop (ι := Nat) (fun k => k ≤ qs.length ∧ ∀ j, j < k → KindsOk (tyq qs) (nth qs j).2) (fun k => [(4, Pt x 0), (82, .slice au qs.length cu), (83, I qs.length), (84, I k)]) (fun k => G3) (fun k => []) (fun k => qs.length - k) 0 ?_ (by repeat (first | exact trivial | refine ⟨rfl, ?_⟩)) rfl (by repeat ((exact List.Sublist.refl _))) (fun k Hk => ?_)
    · exact ⟨Nat.zero_le _, fun j hj => absurd hj (by omega)⟩
    by_cases hk : k < qs.length
    case neg =>
      have hko : ∀ q ∈ qs, KindsOk (tyq qs) q.2 := fun q hq => by
        obtain ⟨j, hj, rfl⟩ := mem_nth hq
        exact Hk.2 j (by omega)
      repeat' (first | (refine run (t := tb) 400 rfl ?_ ?_; (focus (repeat' ((exact trivial))))) | (refine k_op rfl ?_; first | refine v_op (g_ldS rfl rfl (by assumption) rfl rfl) rfl rfl ?_ | refine v_op (g_lenL rfl) rfl rfl ?_) | (refine k_ff rfl ?_ ?_; (focus (((refine decide_eq_false ?_; (omega))); done))))
      refine k_loop (ι := Nat) (fun k => k ≤ qs.length ∧ ∀ j, j < k → endsN (tyq qs) 9 (nth qs j).2 = true) (fun k => [(4, Pt x 0), (114, .slice au qs.length cu), (115, I qs.length), (116, I k)]) (fun k => G3) (fun k => []) (fun k => qs.length - k) 0 ?_ (by repeat (first | exact trivial | refine ⟨rfl, ?_⟩)) rfl (by repeat ((exact List.Sublist.refl _))) (fun k Hk => ?_)
      · exact ⟨Nat.zero_le _, fun j hj => absurd hj (by omega)⟩
      have hends : ∀ j, j < qs.length → endsN (tyq qs) 9 (nth qs j).2 = endsN (tyq qs) ((tyq qs).length + 1) (nth (tyq qs) j) := fun j hj => by
        rw [nth_tyq hj]
        exact ends_eq (by rw [tyq_len]; exact h8) (show (nth qs j).2 ∈ qs.map (fun y => y.2) from List.mem_map_of_mem (nth_mem hj))
      by_cases hk2 : k < qs.length
      case neg =>
        have hv : ValidT (tyq qs) := by
          refine ⟨fun j hj => ?_, fun j hj => ?_⟩
          · rw [tyq_len] at hj
            exact ⟨hna j hj, by rw [nth_tyq hj]; exact hko _ (nth_mem hj)⟩
          · rw [tyq_len] at hj
            rw [← hends j hj]; exact Hk.2 j (by omega)
        repeat' (first | (refine run (t := tb) 400 rfl ?_ ?_; (focus (repeat' ((exact trivial))))) | (refine k_ff rfl ?_ ?_; (focus (((refine decide_eq_false ?_; (omega))); done))))
        all_goals refine k_rr (vs := [_, _]) rfl ⟨rfl, rfl, trivial⟩ rfl (List.nil_sublist _) ⟨hgl, rfl, ?_⟩
        all_goals exact .inr ⟨x, qs, rfl, by rw [hfin, if_pos hv], hS⟩
      obtain ⟨ba, oa, ca, ea, hsa⟩ := hsl3.expl (by omega)
      simp only [Value.slice.injEq] at ea
      obtain ⟨rfl, -, rfl⟩ := ea
      rcases hq : nth qs k with ⟨p, ty⟩
      have hqm : (p, ty) ∈ qs := by rw [← hq]; exact nth_mem hk2
      have cx_en2 := c_endsI hS hw hko hqm
      have hek := hends k hk2
      rw [hq] at hek
      dsimp only at hek
      by_cases he : endsN (tyq qs) 9 ty = true
      · have he2 : (!endsN (tyq qs) 9 ty) = false := by rw [he]; rfl
        repeat' (first | (refine run (t := tb) 400 rfl ?_ ?_; (focus (repeat' (first | exact trivial | apply And.intro | omega)))) | (refine k_op rfl ?_; first | (refine v_op (g_ldR1x rfl rfl (by assumption) ?_ (by assumption) rfl) rfl rfl ?_; (focus (((omega)); done))) | (refine v_op (g_iaddrN rfl rfl ?_) rfl rfl ?_; (focus ((omega); done))) | (refine c_rt rfl rfl rfl cx_en2 rfl ?_)) | (refine k_tt rfl ?_ ?_; (focus (((refine decide_eq_true ?_; (omega))); done))) | (refine k_ff rfl ?_ ?_; (focus (((assumption)); done))))
        refine k_rd (k + 1) ⟨by omega, fun j hj => ?_⟩ (by omega) (by repeat (first | exact trivial | refine ⟨rfl, ?_⟩)) rfl (by repeat ((exact List.Sublist.refl _)))
        rcases Nat.lt_or_ge j k with h3 | h3
        · exact Hk.2 j h3
        · have : j = k := by omega
          subst this; rw [hq]; exact he
      · have he2 : (!endsN (tyq qs) 9 ty) = true := by simpa using he
        have hno : schemaOf s = none := by
          rw [hfin, if_neg]
          intro hv
          have := hv.2 k (by rw [tyq_len]; exact hk2)
          rw [← hek] at this
          exact he this
        repeat' (first | (refine run (t := tb) 400 rfl ?_ ?_; (focus (repeat' ((exact trivial))))) | (refine k_op rfl ?_; first | (refine v_op (g_ldR1x rfl rfl (by assumption) ?_ (by assumption) rfl) rfl rfl ?_; (focus (((omega)); done))) | (refine v_op (g_iaddrN rfl rfl ?_) rfl rfl ?_; (focus ((omega); done))) | (refine c_rt rfl rfl rfl cx_en2 rfl ?_)) | (refine k_tt rfl ?_ ?_; (focus ((first | assumption | (refine decide_eq_true ?_; (omega))); done))))
        all_goals refine k_rr (vs := [_, _]) rfl ⟨rfl, rfl, trivial⟩ rfl (List.nil_sublist _) ⟨hgl, rfl, ?_⟩
        all_goals exact .inl ⟨hno, _, rfl⟩
    obtain ⟨ba, oa, ca, ea, hsa⟩ := hsl3.expl (by omega)
    simp only [Value.slice.injEq] at ea
    obtain ⟨rfl, -, rfl⟩ := ea
    rcases hq : nth qs k with ⟨p, ty⟩
    have hqm : (p, ty) ∈ qs := by rw [← hq]; exact nth_mem hk
    obtain ⟨fv, ln, hsg, hfv⟩ := hS.ty _ hqm
    dsimp only at hsg hfv
    have hW := hw _ hqm
    dsimp only at hW
    have h88 := hW.len
    repeat' (first | (refine run (t := tb) 400 rfl ?_ ?_; (focus (repeat' ((exact trivial))))) | (refine k_op rfl ?_; first | refine v_op (g_ldS rfl rfl (by assumption) rfl rfl) rfl rfl ?_ | (refine v_op (g_ldR1x rfl rfl (by assumption) ?_ (by assumption) rfl) rfl rfl ?_; (focus (((omega)); done))) | refine v_op (g_lenV rfl (by assumption)) rfl rfl ?_ | (refine v_op (g_iaddrN rfl rfl ?_) rfl rfl ?_; (focus ((omega); done)))) | (refine k_tt rfl ?_ ?_; (focus (((refine decide_eq_true ?_; (omega))); done))))
    refine k_loop (ι := Nat) (fun l => l ≤ ty.fields.length ∧ (ty.sort = 69 ∨ ∀ j, j < l → hasK (tyq qs) (nth ty.fields j).kind = true)) (fun l => [(4, Pt x 0), (11, Pt p 0), (82, .slice (some ⟨ba, oa, none⟩) qs.length cu), (83, I qs.length), (84, I k), (91, fv), (92, I ty.fields.length), (93, I l)]) (fun l => G3) (fun l => []) (fun l => ty.fields.length - l) 0 ?_ (by repeat (first | exact trivial | refine ⟨rfl, ?_⟩)) rfl (by repeat ((exact List.Sublist.refl _))) (fun l Hl => ?_)
    · exact ⟨Nat.zero_le _, .inr fun j hj => absurd hj (by omega)⟩
    by_cases hl2 : l < ty.fields.length
    case neg =>
      repeat' (first | (refine run (t := tb) 400 rfl ?_ ?_; (focus (repeat' (first | exact trivial | apply And.intro | omega)))) | (refine k_ff rfl ?_ ?_; (focus (((refine decide_eq_false ?_; (omega))); done))))
      refine k_rd (k + 1) ⟨by omega, fun j hj => ?_⟩ (by omega) (by repeat (first | exact trivial | refine ⟨rfl, ?_⟩)) rfl (by repeat ((exact List.Sublist.refl _)))
      rcases Nat.lt_or_ge j k with h3 | h3
      · exact Hk.2 j h3
      · have : j = k := by omega
        subst this
        rw [hq]
        rcases Hl.2 with h5 | h5
        · exact .inl h5
        · exact .inr fun j2 hj2 => h5 j2 (by dsimp only at hj2; omega)
    obtain ⟨bf, of, cf, rfl, hsf⟩ := hfv.expl (by omega)
    by_cases h69 : ty.sort = 69
    · repeat' (first | (refine run (t := tb) 400 rfl ?_ ?_; (focus (repeat' (first | exact trivial | apply And.intro | omega)))) | (refine k_op rfl ?_; first | (refine v_op (g_ldR rfl rfl (by assumption) ?_) rfl rfl ?_; (focus (((omega)); done))) | refine v_op (g_ldS rfl rfl (by assumption) rfl rfl) rfl rfl ?_ | (refine v_op (g_pickF rfl rfl ?_) rfl rfl ?_; (focus (((rfl)); done))) | refine c_stA rfl rfl rfl rfl rfl rfl ?_ | (refine v_op (g_iaddrN rfl rfl ?_) rfl rfl ?_; (focus ((omega); done))) | refine c_al rfl rfl fun _ => ?_) | (refine k_gf rfl rfl ?_ ?_; (focus (((refine decide_eq_false ?_; (omega))); done))) | (refine k_tt rfl ?_ ?_; (focus (((refine decide_eq_true ?_; (omega))); done))) | (refine k_ff rfl ?_ ?_; (focus (((rfl)); done))))
      refine k_rd (l + 1) ⟨by omega, .inl h69⟩ (by omega) (by repeat (first | exact trivial | refine ⟨rfl, ?_⟩)) rfl (by repeat ((exact List.nil_sublist _)))
    have hko1 := (hW.fld _ (nth_mem hl2)).kind h69
    have cx_has := c_has hS hko1
    by_cases hh : hasK (tyq qs) (nth ty.fields l).kind = true
    · have hh2 : (!hasK (tyq qs) (nth ty.fields l).kind) = false := by rw [hh]; rfl
      repeat' (first | (refine run (t := tb) 400 rfl ?_ ?_; (focus (repeat' (first | exact trivial | apply And.intro | omega)))) | (refine k_op rfl ?_; first | (refine v_op (g_ldR rfl rfl (by assumption) ?_) rfl rfl ?_; (focus (((omega)); done))) | refine v_op (g_ldA rfl rfl rfl rfl) rfl rfl ?_ | refine v_op (g_ldS rfl rfl (by assumption) rfl rfl) rfl rfl ?_ | (refine v_op (g_pickT rfl rfl ?_) rfl rfl ?_; (focus (((rfl)); done))) | refine c_stA rfl rfl rfl rfl rfl rfl ?_ | (refine v_op (g_iaddrN rfl rfl ?_) rfl rfl ?_; (focus ((omega); done))) | refine c_al rfl rfl fun _ => ?_ | (refine c_rt rfl rfl rfl cx_has rfl ?_)) | (refine k_gt rfl rfl ?_ ?_; (focus (((refine decide_eq_true ?_; (omega))); done))) | (refine k_tt rfl ?_ ?_; (focus (((refine decide_eq_true ?_; (omega))); done))) | (refine k_ff rfl ?_ ?_; (focus (((assumption)); done))))
      refine k_rd (l + 1) ⟨by omega, .inr fun j hj => ?_⟩ (by omega) (by repeat (first | exact trivial | refine ⟨rfl, ?_⟩)) rfl (by repeat ((exact List.nil_sublist _)))
      rcases Nat.lt_or_ge j l with h3 | h3
      · rcases Hl.2 with h5 | h5
        · exact absurd h5 h69
        · exact h5 j h3
      · have : j = l := by omega
        subst this; exact hh
    · have hh2 : (!hasK (tyq qs) (nth ty.fields l).kind) = true := by simpa using hh
      have hno : schemaOf s = none := by
        rw [hfin, if_neg]
        intro hv
        have h5 := (hv.1 k (by rw [tyq_len]; exact hk)).2
        rw [nth_tyq hk, hq] at h5
        rcases h5 with h6 | h6
        · exact h69 h6
        · exact hh (h6 l hl2)
      repeat' (first | (refine run (t := tb) 400 rfl ?_ ?_; (focus (repeat' ((exact trivial))))) | (refine k_op rfl ?_; first | (refine v_op (g_ldR rfl rfl (by assumption) ?_) rfl rfl ?_; (focus (((omega)); done))) | refine v_op (g_ldA rfl rfl rfl rfl) rfl rfl ?_ | refine v_op (g_ldS rfl rfl (by assumption) rfl rfl) rfl rfl ?_ | (refine v_op (g_pickT rfl rfl ?_) rfl rfl ?_; (focus (((rfl)); done))) | refine c_stA rfl rfl rfl rfl rfl rfl ?_ | (refine v_op (g_iaddrN rfl rfl ?_) rfl rfl ?_; (focus ((omega); done))) | refine c_al rfl rfl fun _ => ?_ | (refine c_rt rfl rfl rfl cx_has rfl ?_)) | (refine k_gt rfl rfl ?_ ?_; (focus (((refine decide_eq_true ?_; (omega))); done))) | (refine k_tt rfl ?_ ?_; (focus ((first | assumption | (refine decide_eq_true ?_; (omega))); done))))
      all_goals refine k_rr (vs := [_, _]) rfl ⟨rfl, rfl, trivial⟩ rfl (List.nil_sublist _) ⟨hgl, rfl, ?_⟩
      all_goals exact .inl ⟨hno, _, rfl⟩
end Go.E
/-! Mq -/
namespace Go.E
set_option maxRecDepth 20000
set_option maxHeartbeats 2000000
open Go.Proofs
variable {G : Gh}
def BothPost (s k : List UInt8) (v : Value) (G : Gh) : Prop := (kindS s k = false ∧ ∃ p a b c, v = Tu [p, Ag [S a, S b, S c], Bo false]) ∨ ∃ b qs, v = Tu [Pt b 0, Ag (kdF k), Bo true] ∧ schemaOf s = some (tyq qs) ∧ kindIn (tyq qs) k = true ∧ ScI G b qs
theorem c_both {s k : List UInt8} (h : s.length ≤ 10000000) (hk : k.length ≤ 2000000) : FnS Tryz.prog 12 [S s, S k] G (BothPost s k) := by
  cases hs : schemaOf s with
  | none =>
    have hno : kindS s k = false := by unfold kindS; rw [hs]
    have cx_rs0 : ∀ G, FnS Tryz.prog 22 [S s] G (fun v _ => ∃ p, v = Tu [p, Bo false]) := fun G => by
      refine (c_readSchema (G := G) h).mono ?_
      rintro v G' L' ⟨h1, h2, ⟨_, p, rfl⟩ | ⟨_, _, _, h4, _⟩⟩
      · exact ⟨h1, h2, p, rfl⟩
      · rw [hs] at h4; cases h4
    refine b_enter [(0, _), (1, _)] Tryz.func12 (by kernel_rfl) Tryz.ntmps12 rfl rfl (by repeat (first | exact trivial | refine ⟨rfl, ?_⟩)) fun B hok hB hW => ?_
    repeat' (first | (refine run (t := tb) 400 rfl ?_ ?_; (focus (repeat' ((exact trivial))))) | (refine k_op rfl ?_; first | refine c_al rfl rfl fun _ => ?_ | refine v_op (g_bld rfl rfl) rfl rfl ?_ | refine c_stA rfl rfl rfl rfl rfl rfl ?_ | (refine c_fns rfl rfl rfl (cx_rs0 _) rfl ?_; rintro _ G hle ⟨p, rfl⟩; skip)) | (refine k_tt rfl ?_ ?_; (focus (((rfl)); done))))
    all_goals refine k_rr (vs := [_, _, _]) rfl ⟨rfl, rc_A rfl rfl rfl rfl, rfl, trivial⟩ rfl (List.nil_sublist _) ⟨hle, rfl, ?_⟩
    all_goals exact .inl ⟨hno, _, [], [], [], rfl⟩
  | some ts =>
    have cx_rs1 : ∀ G, FnS Tryz.prog 22 [S s] G (fun v G' => ∃ b qs, v = Tu [Pt b 0, Bo true] ∧ tyq qs = ts ∧ ScI G' b qs) := fun G => by
      refine (c_readSchema (G := G) h).mono ?_
      rintro v G' L' ⟨h1, h2, ⟨h4, _⟩ | ⟨b, qs, rfl, h4, h5⟩⟩
      · rw [hs] at h4; cases h4
      · rw [hs] at h4; simp only [Option.some.injEq] at h4; exact ⟨h1, h2, b, qs, rfl, h4.symm, h5⟩
    by_cases hko : kindOk k = true
    case neg =>
      have hkc2 : kindOk k = false := by simpa using hko
      have hno : kindS s k = false := by unfold kindS kindIn; rw [hs]; simp [hkc2]
      have cx_kn : ∀ G, PuG Tryz.prog 23 [S k] G (fun v => ∃ x y z, v = Tu [Ag [S x, S y, S z], Bo false]) := fun G => by
        refine (c_readKind (G := G) (s := k) (by omega)).mono ?_
        rintro v G' L' ⟨h1, h2, x, y, z, rfl, _⟩
        exact ⟨h1, h2, x, y, z, by rw [hkc2]⟩
      refine b_enter [(0, _), (1, _)] Tryz.func12 (by kernel_rfl) Tryz.ntmps12 rfl rfl (by repeat (first | exact trivial | refine ⟨rfl, ?_⟩)) fun B hok hB hW => ?_
      repeat' (first | (refine run (t := tb) 400 rfl ?_ ?_; (focus (repeat' ((exact trivial))))) | (refine k_op rfl ?_; first | refine c_al rfl rfl fun _ => ?_ | refine c_stA rfl rfl rfl rfl rfl rfl ?_ | (refine c_fns rfl rfl rfl (cx_rs1 _) rfl ?_; rintro _ G hle ⟨b, qs, rfl, hqs, hS⟩; skip) | (refine c_pu rfl rfl rfl (cx_kn _) rfl ?_; rintro _ ⟨x, y, z, rfl⟩)) | (refine k_ff rfl ?_ ?_; (focus (((rfl)); done))) | (refine k_any (s_anyD (id := 5) (tt := 5) rfl mixed ?_); refine x_tks (t := tb) (fuel := 8) [0, 2, 3] (bts 11 13) (by kernel_rfl) (by kernel_rfl) rfl rfl (Gh.le.refl _) (by repeat (first | exact List.nil_sublist _ | apply List.Sublist.cons_cons)) ?_ ?_; (focus (repeat' ((exact trivial)))); (try ((refine Nx.re (d := 26) (v' := Bo false) rfl (congrArg Value.bool ?_) ?_; (focus (((rfl)); done))))); refine x_tks (t := tb) (fuel := 7) [4] (bts 11 29) (by kernel_rfl) (by kernel_rfl) rfl rfl (Gh.le.refl _) (by repeat (first | exact List.nil_sublist _ | apply List.Sublist.cons_cons)) ?_ ?_; (focus (repeat' ((exact trivial)))); ((refine (x_tkg (bts 11 31) 1 rfl (by kernel_rfl) rfl (Gh.le.refl _) (by repeat (first | exact List.nil_sublist _ | apply List.Sublist.cons_cons))) (g_ldA rfl rfl rfl rfl) rfl rfl ?_)); ((refine x_tkn (bts 11 63) 5 rfl (by kernel_rfl) rfl (Gh.le.refl _) (by repeat (first | exact List.nil_sublist _ | apply List.Sublist.cons_cons)) rfl rfl ?_)); ((refine x_tkn (bts 11 127) 6 rfl (by kernel_rfl) rfl (Gh.le.refl _) (by repeat (first | exact List.nil_sublist _ | apply List.Sublist.cons_cons)) rfl rfl ?_)); refine x_tks (t := tb) (fuel := 3) [8] (bts 11 383) (by kernel_rfl) (by kernel_rfl) rfl rfl (Gh.le.refl _) (by repeat (first | exact List.nil_sublist _ | apply List.Sublist.cons_cons)) ?_ ?_; (focus (repeat' ((exact trivial)))); ((refine (x_tkg (bts 11 511) 7 rfl (by kernel_rfl) rfl (Gh.le.refl _) (by repeat (first | exact List.nil_sublist _ | apply List.Sublist.cons_cons))) (g_pickF rfl rfl ?_) rfl rfl ?_; (focus (((rfl)); done)))); refine x_all [9] (by kernel_rfl) (by decide) ⟨?_, trivial⟩; refine x_opg rfl rfl ?_; ((refine c_stA rfl rfl rfl rfl rfl rfl ?_)); refine x_kk (by (exact Gh.le.refl _)) (by repeat (first | exact List.nil_sublist _ | apply List.Sublist.cons_cons)) (listed' := (bts 11 1023)) (by kernel_rfl) ?_; refine x_tks (t := tb) (fuel := 0) [10] (bts 11 2047) (by kernel_rfl) (by kernel_rfl) rfl rfl (Gh.le.refl _) (by repeat (first | exact List.nil_sublist _ | apply List.Sublist.cons_cons)) ?_ ?_; (focus (repeat' ((exact trivial)))); refine x_done (by kernel_rfl) (k_bk ?_)))
      all_goals refine k_rr (vs := [_, _, _]) rfl ⟨rfl, rc_A rfl rfl rfl rfl, rfl, trivial⟩ rfl (List.nil_sublist _) ⟨hle, rfl, ?_⟩
      all_goals exact .inl ⟨hno, _, _, _, _, rfl⟩
    have cx_kq : ∀ G, PuG Tryz.prog 23 [S k] G (· = Tu [Ag [S (sg k), S (bs k), S (nm k)], Bo true]) := fun G => c_kindX (by omega) hko
    have hkk : kdF k = [S (sg k), S (bs k), S (nm k)] := rfl
    by_cases hH : hasK ts k = true
    case pos =>
      have cx_hy : ∀ G b qs, tyq qs = ts → ScI G b qs → PuG Tryz.prog 24 [Pt b 0, Ag [S (sg k), S (bs k), S (nm k)]] G (· = Bo true) := by
        intro G b qs hq hS
        refine (c_has hS hko).mono ?_
        rintro v G' L' ⟨h1, h2, rfl⟩
        exact ⟨h1, h2, by rw [hq, hH]⟩
      refine b_enter [(0, _), (1, _)] Tryz.func12 (by kernel_rfl) Tryz.ntmps12 rfl rfl (by repeat (first | exact trivial | refine ⟨rfl, ?_⟩)) fun B hok hB hW => ?_
      repeat' (first | (refine run (t := tb) 400 rfl ?_ ?_; (focus (repeat' ((exact trivial))))) | (refine k_op rfl ?_; first | refine c_al rfl rfl fun _ => ?_ | refine c_stA rfl rfl rfl rfl rfl rfl ?_ | (refine c_fns rfl rfl rfl (cx_rs1 _) rfl ?_; rintro _ G hle ⟨b, qs, rfl, hqs, hS⟩; skip) | (refine c_rt rfl rfl rfl (cx_kq _) rfl ?_)) | (refine k_ff rfl ?_ ?_; (focus (((rfl)); done))) | (refine k_any (s_anyD (id := 5) (tt := 5) rfl mixed ?_); refine x_tks (t := tb) (fuel := 8) [0, 2, 3] (bts 11 13) (by kernel_rfl) (by kernel_rfl) rfl rfl (Gh.le.refl _) (by repeat (first | exact List.nil_sublist _ | apply List.Sublist.cons_cons)) ?_ ?_; (focus (repeat' ((exact trivial)))); (try ((refine Nx.re (d := 26) (v' := Bo true) rfl (congrArg Value.bool ?_) ?_; (focus (((rfl)); done))))); refine x_tks (t := tb) (fuel := 7) [4] (bts 11 29) (by kernel_rfl) (by kernel_rfl) rfl rfl (Gh.le.refl _) (by repeat (first | exact List.nil_sublist _ | apply List.Sublist.cons_cons)) ?_ ?_; (focus (repeat' ((exact trivial)))); ((refine (x_tkg (bts 11 31) 1 rfl (by kernel_rfl) rfl (Gh.le.refl _) (by repeat (first | exact List.nil_sublist _ | apply List.Sublist.cons_cons))) (g_ldA rfl rfl rfl rfl) rfl rfl ?_)); ((refine (x_tkg (bts 11 63) 5 rfl (by kernel_rfl) rfl (Gh.le.refl _) (by repeat (first | exact List.nil_sublist _ | apply List.Sublist.cons_cons))) (g_ldA rfl rfl rfl rfl) rfl rfl ?_)); ((refine x_all [6] (by kernel_rfl) (by decide) ⟨?_, trivial⟩; refine x_opg rfl rfl ?_; ((refine c_rt rfl rfl rfl ((cx_hy _ _ _) (by (repeat ((assumption))); done) (by (repeat ((assumption))); done)) rfl ?_)); refine x_kk (by (exact Gh.le.refl _)) (by repeat (first | exact List.nil_sublist _ | apply List.Sublist.cons_cons)) (listed' := (bts 11 127)) (by kernel_rfl) ?_)); refine x_tks (t := tb) (fuel := 3) [8] (bts 11 383) (by kernel_rfl) (by kernel_rfl) rfl rfl (Gh.le.refl _) (by repeat (first | exact List.nil_sublist _ | apply List.Sublist.cons_cons)) ?_ ?_; (focus (repeat' ((exact trivial)))); ((refine (x_tkg (bts 11 511) 7 rfl (by kernel_rfl) rfl (Gh.le.refl _) (by repeat (first | exact List.nil_sublist _ | apply List.Sublist.cons_cons))) (g_pickT rfl rfl ?_) rfl rfl ?_; (focus (((rfl)); done)))); refine x_all [9] (by kernel_rfl) (by decide) ⟨?_, trivial⟩; refine x_opg rfl rfl ?_; ((refine c_stA rfl rfl rfl rfl rfl rfl ?_)); refine x_kk (by (exact Gh.le.refl _)) (by repeat (first | exact List.nil_sublist _ | apply List.Sublist.cons_cons)) (listed' := (bts 11 1023)) (by kernel_rfl) ?_; refine x_tks (t := tb) (fuel := 0) [10] (bts 11 2047) (by kernel_rfl) (by kernel_rfl) rfl rfl (Gh.le.refl _) (by repeat (first | exact List.nil_sublist _ | apply List.Sublist.cons_cons)) ?_ ?_; (focus (repeat' ((exact trivial)))); refine x_done (by kernel_rfl) (k_bk ?_)))
      all_goals refine k_rr (vs := [_, _, _]) rfl ⟨rfl, rc_A rfl rfl rfl rfl, rfl, trivial⟩ rfl (List.nil_sublist _) ⟨hle, rfl, ?_⟩
      all_goals exact .inr ⟨b, qs, rfl, by rw [hs, hqs], by simp [kindIn, hqs, hko, hH], hS⟩
    case neg =>
      have hH2 : hasK ts k = false := by simpa using hH
      have hno : kindS s k = false := by unfold kindS kindIn; rw [hs]; simp [hH2]
      have cx_hn : ∀ G b qs, tyq qs = ts → ScI G b qs → PuG Tryz.prog 24 [Pt b 0, Ag [S (sg k), S (bs k), S (nm k)]] G (· = Bo false) := by
        intro G b qs hq hS
        refine (c_has hS hko).mono ?_
        rintro v G' L' ⟨h1, h2, rfl⟩
        exact ⟨h1, h2, by rw [hq, hH2]⟩
      refine b_enter [(0, _), (1, _)] Tryz.func12 (by kernel_rfl) Tryz.ntmps12 rfl rfl (by repeat (first | exact trivial | refine ⟨rfl, ?_⟩)) fun B hok hB hW => ?_
      repeat' (first | (refine run (t := tb) 400 rfl ?_ ?_; (focus (repeat' ((exact trivial))))) | (refine k_op rfl ?_; first | refine c_al rfl rfl fun _ => ?_ | refine c_stA rfl rfl rfl rfl rfl rfl ?_ | (refine c_fns rfl rfl rfl (cx_rs1 _) rfl ?_; rintro _ G hle ⟨b, qs, rfl, hqs, hS⟩; skip) | (refine c_rt rfl rfl rfl (cx_kq _) rfl ?_)) | (refine k_ff rfl ?_ ?_; (focus (((rfl)); done))) | (refine k_any (s_anyD (id := 5) (tt := 5) rfl mixed ?_); refine x_tks (t := tb) (fuel := 8) [0, 2, 3] (bts 11 13) (by kernel_rfl) (by kernel_rfl) rfl rfl (Gh.le.refl _) (by repeat (first | exact List.nil_sublist _ | apply List.Sublist.cons_cons)) ?_ ?_; (focus (repeat' ((exact trivial)))); (try ((refine Nx.re (d := 26) (v' := Bo true) rfl (congrArg Value.bool ?_) ?_; (focus (((rfl)); done))))); refine x_tks (t := tb) (fuel := 7) [4] (bts 11 29) (by kernel_rfl) (by kernel_rfl) rfl rfl (Gh.le.refl _) (by repeat (first | exact List.nil_sublist _ | apply List.Sublist.cons_cons)) ?_ ?_; (focus (repeat' ((exact trivial)))); ((refine (x_tkg (bts 11 31) 1 rfl (by kernel_rfl) rfl (Gh.le.refl _) (by repeat (first | exact List.nil_sublist _ | apply List.Sublist.cons_cons))) (g_ldA rfl rfl rfl rfl) rfl rfl ?_)); ((refine (x_tkg (bts 11 63) 5 rfl (by kernel_rfl) rfl (Gh.le.refl _) (by repeat (first | exact List.nil_sublist _ | apply List.Sublist.cons_cons))) (g_ldA rfl rfl rfl rfl) rfl rfl ?_)); ((refine x_all [6] (by kernel_rfl) (by decide) ⟨?_, trivial⟩; refine x_opg rfl rfl ?_; ((refine c_rt rfl rfl rfl ((cx_hn _ _ _) (by (repeat ((assumption))); done) (by (repeat ((assumption))); done)) rfl ?_)); refine x_kk (by (exact Gh.le.refl _)) (by repeat (first | exact List.nil_sublist _ | apply List.Sublist.cons_cons)) (listed' := (bts 11 127)) (by kernel_rfl) ?_)); refine x_tks (t := tb) (fuel := 3) [8] (bts 11 383) (by kernel_rfl) (by kernel_rfl) rfl rfl (Gh.le.refl _) (by repeat (first | exact List.nil_sublist _ | apply List.Sublist.cons_cons)) ?_ ?_; (focus (repeat' ((exact trivial)))); ((refine (x_tkg (bts 11 511) 7 rfl (by kernel_rfl) rfl (Gh.le.refl _) (by repeat (first | exact List.nil_sublist _ | apply List.Sublist.cons_cons))) (g_pickT rfl rfl ?_) rfl rfl ?_; (focus (((rfl)); done)))); refine x_all [9] (by kernel_rfl) (by decide) ⟨?_, trivial⟩; refine x_opg rfl rfl ?_; ((refine c_stA rfl rfl rfl rfl rfl rfl ?_)); refine x_kk (by (exact Gh.le.refl _)) (by repeat (first | exact List.nil_sublist _ | apply List.Sublist.cons_cons)) (listed' := (bts 11 1023)) (by kernel_rfl) ?_; refine x_tks (t := tb) (fuel := 0) [10] (bts 11 2047) (by kernel_rfl) (by kernel_rfl) rfl rfl (Gh.le.refl _) (by repeat (first | exact List.nil_sublist _ | apply List.Sublist.cons_cons)) ?_ ?_; (focus (repeat' ((exact trivial)))); refine x_done (by kernel_rfl) (k_bk ?_)))
      all_goals refine k_rr (vs := [_, _, _]) rfl ⟨rfl, rc_A rfl rfl rfl rfl, rfl, trivial⟩ rfl (List.nil_sublist _) ⟨hle, rfl, ?_⟩
      all_goals exact .inl ⟨hno, _, _, _, _, rfl⟩
end Go.E
/-! Ob -/
namespace Go.E
set_option maxRecDepth 20000
set_option maxHeartbeats 2000000
open Go.Proofs
variable {G : Gh}
theorem kind0_nth {t : Ty} : kind0 t = (nth t.fields 0).kind := by
  unfold kind0 nth
  cases t.fields with
  | nil => rfl
  | cons f r => rfl
theorem tag0_nth {t : Ty} : tag0 t = (nth t.fields 0).tag := by
  unfold tag0 nth
  cases t.fields with
  | nil => rfl
  | cons f r => rfl
theorem decI_len6 {n : Int} (h : 0 ≤ n ∧ n ≤ 9223372036854775807) : (decI n).length ≤ 19 := decI_len h.2
theorem plainOf_len (k : List UInt8) : (plainOf k).length ≤ 2 := by
  unfold plainOf
  split
  · simp
  · split
    · simp
    · split <;> simp
theorem SchW.tag0 {ts : List Ty} (h : SchW ts) {t : Ty} (ht : t ∈ ts) : 0 ≤ Go.E.tag0 t ∧ Go.E.tag0 t ≤ 200 := by
  rw [tag0_nth]
  by_cases h0 : 0 < t.fields.length
  · have := ((h.ty t ht).fld _ (nth_mem h0)).tag; omega
  · have : t.fields = [] := List.eq_nil_of_length_eq_zero (by omega)
    rw [this]; exact ⟨Int.le_refl _, by decide⟩
theorem standN_len {ts : List Ty} (h : SchW ts) : ∀ (n : Nat) (k : List UInt8), (standN ts n k).length ≤ 30 * n
  | 0, k => by simp [standN]
  | n + 1, [] => by simp [standN]
  | n + 1, c :: r => by
    unfold standN
    split
    · simp; omega
    · split
      · simp; omega
      · split
        · have := plainOf_len (c :: r); omega
        · rename_i t ht
          have h1 := h.tag0 (refT_mem ht)
          have h2 := decI_len6 (n := tag0 t) (by omega)
          have h3 := standN_len h n (kind0 t)
          split
          · simp; omega
          · split
            · simp; omega
            · simp; omega
theorem kind_in {ts : List Ty} (h : SchW ts) {t : Ty} (ht : t ∈ ts) (hs : t.sort ≠ 69) {f : Fld} (hf : f ∈ t.fields) : kindIn ts f.kind = true := by
  unfold kindIn
  rw [((h.ty t ht).fld f hf).kind hs, Bool.true_and]
  obtain ⟨i, hi, rfl⟩ := List.mem_iff_getElem.1 ht
  obtain ⟨j, hj, rfl⟩ := List.mem_iff_getElem.1 hf
  have h1 := (h.valid.1 i hi).2
  rw [nth_eq hi] at h1
  rcases h1 with h1 | h1
  · exact absurd h1 hs
  · have := h1 j hj
    rwa [nth_eq hj] at this
theorem kindIn_ok {ts : List Ty} {k : List UInt8} (h : kindIn ts k = true) : kindOk k = true := by
  unfold kindIn at h; simp only [Bool.and_eq_true] at h; exact h.1
theorem core_self {c : UInt8} {r : List UInt8} (h : ¬ (c.toNat = 91 ∨ c.toNat = 63)) : core (c :: r) = c :: r := by rw [core, if_neg h]
theorem ends_of {ts : List Ty} (h : SchW ts) {k : List UInt8} (t : Ty) (ht : refT ts k = some t) : endsN ts (ts.length + 1) t = true := by
  obtain ⟨i, hi, rfl⟩ := List.mem_iff_getElem.1 (refT_mem ht)
  have := h.valid.2 i hi
  rwa [nth_eq hi] at this
theorem c_standsS {u : Value} {vs : List TyX} (h : SchR G u vs) (hw : SchW (tys vs)) : ∀ (n : Nat) {k : List UInt8}, n ≤ 1000 → kindIn (tys vs) k = true → (∀ t, refT (tys vs) k = some t → endsN (tys vs) n t = true) →
    PuG Tryz.prog 79 [u, S k] G (· = S (standN (tys vs) (n + 1) k)) := by
  have hvl : vs.length ≤ 1000000 := by have := hw.len; rw [tys_len] at this; omega
  intro n
  induction n with
  | zero =>
    intro k hn hk he
    have hko := kindIn_ok hk
    have hkk := kindOk_kOk hko
    match k, hkk with
    | c :: r, hkk =>
      have e0 := bt_c0 c r
      by_cases h1 : c.toNat = 91
      · refine p_enter [(0, _), (1, _)] Tryz.func79 (by kernel_rfl) Tryz.ntmps79 rfl rfl (by repeat (first | exact trivial | refine ⟨rfl, ?_⟩)) fun B hB => ?_
        repeat' (first | (refine run (t := tb) 400 rfl ?_ ?_; (focus (repeat' (first | exact trivial | apply And.intro | omega | (simp only [List.length_append, List.length_cons, List.length_nil, Int.toNat_natCast]; omega))))) | (refine k_tt rfl ?_ ?_; (focus (((simp [*]; done)); done))))
        all_goals refine k_rr (vs := [_]) rfl ⟨rfl, trivial⟩ rfl (List.nil_sublist _) ⟨rfl, rfl, ?_⟩
        all_goals (rw [oneOf_one]; unfold standN; rw [if_pos h1])
      by_cases h2 : c.toNat = 63
      · refine p_enter [(0, _), (1, _)] Tryz.func79 (by kernel_rfl) Tryz.ntmps79 rfl rfl (by repeat (first | exact trivial | refine ⟨rfl, ?_⟩)) fun B hB => ?_
        repeat' (first | (refine run (t := tb) 400 rfl ?_ ?_; (focus (repeat' (first | exact trivial | apply And.intro | omega | (simp only [List.length_append, List.length_cons, List.length_nil, Int.toNat_natCast]; omega))))) | (refine k_tt rfl ?_ ?_; (focus (((simp [*]; done)); done))) | (refine k_ff rfl ?_ ?_; (focus (((simp [*]; done)); done))))
        all_goals refine k_rr (vs := [_]) rfl ⟨rfl, trivial⟩ rfl (List.nil_sublist _) ⟨rfl, rfl, ?_⟩
        all_goals (rw [oneOf_one]; unfold standN; rw [if_neg h1, if_pos h2])
      have href := refV_ty vs (c :: r)
      have cx_rf := c_ref (k := c :: r) h hvl hkk.1 (by omega)
      cases hr : refV vs (c :: r) with
      | some x => rw [hr] at href; have := he _ href.symm; cases this
      | none =>
        rw [hr] at href cx_rf
        refine p_enter [(0, _), (1, _)] Tryz.func79 (by kernel_rfl) Tryz.ntmps79 rfl rfl (by repeat (first | exact trivial | refine ⟨rfl, ?_⟩)) fun B hB => ?_
        repeat' (first | (refine run (t := tb) 400 rfl ?_ ?_; (focus (repeat' (first | exact trivial | apply And.intro | omega | (simp only [List.length_append, List.length_cons, List.length_nil, Int.toNat_natCast]; omega))))) | (refine k_op rfl ?_; first | refine c_al rfl rfl fun _ => ?_ | refine c_stA rfl rfl rfl rfl rfl rfl ?_ | (refine c_rt rfl rfl rfl cx_rf rfl ?_) | (refine c_rt rfl rfl rfl c_l3Plain rfl ?_)) | (refine k_tt rfl ?_ ?_; (focus (((rfl)); done))) | (refine k_ff rfl ?_ ?_; (focus (((simp; omega)); done))))
        all_goals refine k_rr (vs := [_]) rfl ⟨rfl, trivial⟩ rfl (List.nil_sublist _) ⟨rfl, rfl, ?_⟩
        all_goals (rw [oneOf_one]; unfold standN; rw [if_neg h1, if_neg h2, ← href]; rfl)
  | succ n ih =>
    intro k hn hk he
    have hko := kindIn_ok hk
    have hkk := kindOk_kOk hko
    match k, hkk with
    | c :: r, hkk =>
      have e0 := bt_c0 c r
      by_cases h1 : c.toNat = 91
      · refine p_enter [(0, _), (1, _)] Tryz.func79 (by kernel_rfl) Tryz.ntmps79 rfl rfl (by repeat (first | exact trivial | refine ⟨rfl, ?_⟩)) fun B hB => ?_
        repeat' (first | (refine run (t := tb) 400 rfl ?_ ?_; (focus (repeat' (first | exact trivial | apply And.intro | omega | (simp only [List.length_append, List.length_cons, List.length_nil, Int.toNat_natCast]; omega))))) | (refine k_tt rfl ?_ ?_; (focus (((simp [*]; done)); done))))
        all_goals refine k_rr (vs := [_]) rfl ⟨rfl, trivial⟩ rfl (List.nil_sublist _) ⟨rfl, rfl, ?_⟩
        all_goals (rw [oneOf_one]; unfold standN; rw [if_pos h1])
      by_cases h2 : c.toNat = 63
      · refine p_enter [(0, _), (1, _)] Tryz.func79 (by kernel_rfl) Tryz.ntmps79 rfl rfl (by repeat (first | exact trivial | refine ⟨rfl, ?_⟩)) fun B hB => ?_
        repeat' (first | (refine run (t := tb) 400 rfl ?_ ?_; (focus (repeat' (first | exact trivial | apply And.intro | omega | (simp only [List.length_append, List.length_cons, List.length_nil, Int.toNat_natCast]; omega))))) | (refine k_tt rfl ?_ ?_; (focus (((simp [*]; done)); done))) | (refine k_ff rfl ?_ ?_; (focus (((simp [*]; done)); done))))
        all_goals refine k_rr (vs := [_]) rfl ⟨rfl, trivial⟩ rfl (List.nil_sublist _) ⟨rfl, rfl, ?_⟩
        all_goals (rw [oneOf_one]; unfold standN; rw [if_neg h1, if_pos h2])
      have href := refV_ty vs (c :: r)
      have cx_rf := c_ref (k := c :: r) h hvl hkk.1 (by omega)
      rcases hr : refV vs (c :: r) with _ | ⟨⟨a, ca⟩, t⟩
      · rw [hr] at href cx_rf
        refine p_enter [(0, _), (1, _)] Tryz.func79 (by kernel_rfl) Tryz.ntmps79 rfl rfl (by repeat (first | exact trivial | refine ⟨rfl, ?_⟩)) fun B hB => ?_
        repeat' (first | (refine run (t := tb) 400 rfl ?_ ?_; (focus (repeat' (first | exact trivial | apply And.intro | omega | (simp only [List.length_append, List.length_cons, List.length_nil, Int.toNat_natCast]; omega))))) | (refine k_op rfl ?_; first | refine c_al rfl rfl fun _ => ?_ | refine c_stA rfl rfl rfl rfl rfl rfl ?_ | (refine c_rt rfl rfl rfl cx_rf rfl ?_) | (refine c_rt rfl rfl rfl c_l3Plain rfl ?_)) | (refine k_tt rfl ?_ ?_; (focus (((rfl)); done))) | (refine k_ff rfl ?_ ?_; (focus (((simp; omega)); done))))
        all_goals refine k_rr (vs := [_]) rfl ⟨rfl, trivial⟩ rfl (List.nil_sublist _) ⟨rfl, rfl, ?_⟩
        all_goals (rw [oneOf_one]; unfold standN; rw [if_neg h1, if_neg h2, ← href]; rfl)
      rw [hr] at href cx_rf
      have hrf : refT (tys vs) (c :: r) = some t := href.symm
      have htm := refT_mem hrf
      have hW := hw.ty t htm
      have htg := hw.tag0 htm
      rw [tag0_nth] at htg
      have e3 : standN (tys vs) (n + 1 + 1) (c :: r) = if t.sort = 82 then [123, 125] else if t.sort = 69 then 35 :: decI (tag0 t) else 60 :: (decI (tag0 t) ++ 61 :: (standN (tys vs) (n + 1) (kind0 t) ++ [62])) := by
        rw [standN, if_neg h1, if_neg h2, hrf]
      rw [e3, tag0_nth, kind0_nth]
      clear e3
      by_cases s1 : t.sort = 82
      · rw [if_pos s1]
        refine p_enter [(0, _), (1, _)] Tryz.func79 (by kernel_rfl) Tryz.ntmps79 rfl rfl (by repeat (first | exact trivial | refine ⟨rfl, ?_⟩)) fun B hB => ?_
        repeat' (first | (refine run (t := tb) 400 rfl ?_ ?_; (focus (repeat' (first | exact trivial | apply And.intro | omega | (simp only [List.length_append, List.length_cons, List.length_nil, Int.toNat_natCast]; omega))))) | (refine k_op rfl ?_; first | refine c_al rfl rfl fun _ => ?_ | refine c_stA rfl rfl rfl rfl rfl rfl ?_ | refine v_op (g_ld rfl rfl rfl) rfl rfl ?_ | (refine c_rt rfl rfl rfl cx_rf rfl ?_)) | (refine k_tt rfl ?_ ?_; (focus (((simp [*]; done)); done))) | (refine k_ff rfl ?_ ?_; (focus ((first | rfl | (simp; omega)); done))))
        all_goals refine k_rr (vs := [_]) rfl ⟨rfl, trivial⟩ rfl (List.nil_sublist _) ⟨rfl, rfl, ?_⟩
        all_goals rfl
      have h0 : 0 < t.fields.length := List.length_pos_iff.2 (hW.ne s1)
      obtain ⟨bf, of, cf, ef, hsf⟩ := (h.fl _ (refV_mem hr)).expl h0
      simp only [slX, Value.slice.injEq] at ef
      obtain ⟨rfl, -, rfl⟩ := ef
      dsimp only at hsf
      have cx_rf : PuG Tryz.prog 31 [u, S (c :: r)] G (· = Tu [Ag [U8 t.sort, S t.name, .slice (some ⟨bf, of, none⟩) t.fields.length ca], Bo true]) := cx_rf
      have hdl := decI_len6 (n := (nth t.fields 0).tag) (by omega)
      rw [if_neg s1]
      by_cases s2 : t.sort = 69
      · rw [if_pos s2]
        refine p_enter [(0, _), (1, _)] Tryz.func79 (by kernel_rfl) Tryz.ntmps79 rfl rfl (by repeat (first | exact trivial | refine ⟨rfl, ?_⟩)) fun B hB => ?_
        repeat' (first | (refine run (t := tb) 400 rfl ?_ ?_; (focus (repeat' (first | exact trivial | apply And.intro | omega | (simp only [List.length_append, List.length_cons, List.length_nil, Int.toNat_natCast]; omega))))) | (refine k_op rfl ?_; first | refine c_al rfl rfl fun _ => ?_ | refine c_stA rfl rfl rfl rfl rfl rfl ?_ | refine v_op (g_ld rfl rfl rfl) rfl rfl ?_ | (refine v_op (g_ldRF rfl rfl (by assumption) ?_ rfl rfl) rfl rfl ?_; (focus (((omega)); done))) | (refine v_op (g_iaddrN rfl rfl ?_) rfl rfl ?_; (focus ((omega); done))) | (refine c_rt rfl rfl rfl cx_rf rfl ?_) | (refine c_rt rfl rfl rfl (c_l6Dec ?_) rfl ?_; (focus (((simp; omega)); done)))) | (refine k_tt rfl ?_ ?_; (focus (((refine decide_eq_true ?_; (omega))); done))) | (refine k_ff rfl ?_ ?_; (focus ((first | rfl | (refine decide_eq_false ?_; (omega)) | (simp; omega)); done))))
        all_goals refine k_rr (vs := [_]) rfl ⟨rfl, trivial⟩ rfl (List.nil_sublist _) ⟨rfl, rfl, ?_⟩
        all_goals rfl
      have hin := kind_in hw htm s2 (nth_mem h0)
      have hen : ∀ t', refT (tys vs) (nth t.fields 0).kind = some t' → endsN (tys vs) n t' = true := by
        intro t' ht'
        have := he t hrf
        have s3 : t.sort = 85 := by rcases hW.sort with h | h | h <;> omega
        rw [endsN, if_neg (by simp [s3]), kind0_nth, ht'] at this
        exact this
      have cx_std := ih (k := (nth t.fields 0).kind) (by omega) hin hen
      have hsl := standN_len hw (n + 1) (nth t.fields 0).kind
      rw [if_neg s2]
      refine p_enter [(0, _), (1, _)] Tryz.func79 (by kernel_rfl) Tryz.ntmps79 rfl rfl (by repeat (first | exact trivial | refine ⟨rfl, ?_⟩)) fun B hB => ?_
      repeat' (first | (refine run (t := tb) 400 rfl ?_ ?_; (focus (repeat' (first | exact trivial | apply And.intro | omega | (simp only [List.length_append, List.length_cons, List.length_nil, Int.toNat_natCast]; omega))))) | (refine k_op rfl ?_; first | refine c_al rfl rfl fun _ => ?_ | refine c_stA rfl rfl rfl rfl rfl rfl ?_ | refine v_op (g_ld rfl rfl rfl) rfl rfl ?_ | (refine c_rt rfl rfl rfl cx_rf rfl ?_)) | (refine k_ff rfl ?_ ?_; (focus ((first | rfl | (refine decide_eq_false ?_; (omega)) | (simp; omega)); done))) | (refine k_any (s_any (id := 13) _ (fun _ h => h) mixed ?_); refine x_tks (t := tb) (fuel := 15) [0, 8, 9] (bts 18 769) (by kernel_rfl) (by kernel_rfl) rfl rfl (Gh.le.refl _) (by repeat ((exact List.Sublist.refl _))) ?_ ?_; (focus (repeat' ((exact trivial)))); ((refine (x_tkg (bts 18 771) 1 rfl (by kernel_rfl) rfl (Gh.le.refl _) (by repeat ((exact List.Sublist.refl _)))) (g_ld rfl rfl rfl) rfl rfl ?_)); ((refine (x_tkg (bts 18 775) 2 rfl (by kernel_rfl) rfl (Gh.le.refl _) (by repeat ((exact List.Sublist.refl _)))) (g_iaddrN rfl rfl ?_) rfl rfl ?_; (focus ((omega); done)))); refine x_tks (t := tb) (fuel := 12) [3] (bts 18 783) (by kernel_rfl) (by kernel_rfl) rfl rfl (Gh.le.refl _) (by repeat ((exact List.Sublist.refl _))) ?_ ?_; (focus (repeat' ((exact trivial)))); ((refine (x_tkg (bts 18 799) 4 rfl (by kernel_rfl) rfl (Gh.le.refl _) (by repeat ((exact List.Sublist.refl _)))) (g_ldRF rfl rfl (by assumption) ?_ rfl rfl) rfl rfl ?_; (focus (((omega)); done)))); ((refine (x_tkg (bts 18 1823) 10 rfl (by kernel_rfl) rfl (Gh.le.refl _) (by repeat ((exact List.Sublist.refl _)))) (g_ld rfl rfl rfl) rfl rfl ?_)); ((refine (x_tkg (bts 18 3871) 11 rfl (by kernel_rfl) rfl (Gh.le.refl _) (by repeat ((exact List.Sublist.refl _)))) (g_iaddrN rfl rfl ?_) rfl rfl ?_; (focus ((omega); done)))); refine x_tks (t := tb) (fuel := 8) [12] (bts 18 7967) (by kernel_rfl) (by kernel_rfl) rfl rfl (Gh.le.refl _) (by repeat ((exact List.Sublist.refl _))) ?_ ?_; (focus (repeat' ((exact trivial)))); ((refine (x_tkg (bts 18 16159) 13 rfl (by kernel_rfl) rfl (Gh.le.refl _) (by repeat ((exact List.Sublist.refl _)))) (g_ldRF rfl rfl (by assumption) ?_ rfl rfl) rfl rfl ?_; (focus (((omega)); done)))); refine x_all [5] (by kernel_rfl) (by decide) ⟨?_, trivial⟩; refine x_opg rfl rfl ?_; ((refine c_rt rfl rfl rfl (c_l6Dec ?_) rfl ?_; (focus (((simp; omega)); done)))); refine x_ks (by (exact Gh.le.refl _)) (by repeat ((exact List.Sublist.refl _))) (listed' := (bts 18 16191)) (by kernel_rfl) ?_; refine x_tks (t := tb) (fuel := 4) [6, 7] (bts 18 16383) (by kernel_rfl) (by kernel_rfl) rfl rfl (Gh.le.refl _) (by repeat ((exact List.Sublist.refl _))) ?_ ?_; (focus (repeat' (first | exact trivial | apply And.intro | (simp only [List.length_append, List.length_cons, List.length_nil, Int.toNat_natCast]; omega)))); refine x_all [14] (by kernel_rfl) (by decide) ⟨?_, trivial⟩; refine x_opg rfl rfl ?_; ((refine c_rt rfl rfl rfl cx_std rfl ?_)); refine x_ks (by (exact Gh.le.refl _)) (by repeat ((exact List.Sublist.refl _))) (listed' := (bts 18 32767)) (by kernel_rfl) ?_; refine x_tks (t := tb) (fuel := 0) [15, 16, 17] (bts 18 262143) (by kernel_rfl) (by kernel_rfl) rfl rfl (Gh.le.refl _) (by repeat ((exact List.Sublist.refl _))) ?_ ?_; (focus (repeat' (first | exact trivial | apply And.intro | (simp only [List.length_append, List.length_cons, List.length_nil, Int.toNat_natCast]; omega)))); refine x_done (by kernel_rfl) (k_bk ?_)))
      all_goals refine k_rr (vs := [_]) rfl ⟨rfl, trivial⟩ rfl (List.nil_sublist _) ⟨rfl, rfl, ?_⟩
      all_goals (rw [oneOf_one]; simp)
theorem c_standKS {u : Value} {vs : List TyX} (h : SchR G u vs) (hw : SchW (tys vs)) {k : List UInt8} (hk : kindIn (tys vs) k = true) : PuG Tryz.prog 79 [u, S k] G (· = S (standK (tys vs) k)) :=
  c_standsS h hw ((tys vs).length + 1) (by have := hw.len; omega) hk (fun t ht => ends_of hw t ht)
end Go.E
/-! Oc -/
namespace Go.E
set_option maxRecDepth 20000
set_option maxHeartbeats 2000000
open Go.Proofs
variable {G : Gh}
theorem sg_cons {c : UInt8} {r : List UInt8} (h : c.toNat = 91 ∨ c.toNat = 63) : sg (c :: r) = c :: sg r := by
  unfold sg
  rw [core, if_pos h]
  have := core_len' r
  rw [List.length_cons, show r.length + 1 - (core r).length = (r.length - (core r).length) + 1 by omega]
  rfl
theorem sg_none {c : UInt8} {r : List UInt8} (h : ¬ (c.toNat = 91 ∨ c.toNat = 63)) : sg (c :: r) = [] := by
  unfold sg; rw [core_self h]; simp
theorem c_sign0 {b c : List UInt8} : PuG Tryz.prog 44 [Ag [S [], S b, S c]] G (· = U8 (0 : Nat)) := by
  refine p_enter [(0, _)] Tryz.func44 (by kernel_rfl) Tryz.ntmps44 rfl rfl (by repeat (first | exact trivial | refine ⟨rfl, ?_⟩)) fun B hB => ?_
  repeat' (first | (refine run (t := tb) 400 rfl ?_ ?_; (focus (repeat' ((exact trivial))))) | (refine k_op rfl ?_; first | refine c_bx rfl rfl rfl fun _ => ?_ | refine v_op (g_ld rfl rfl rfl) rfl rfl ?_) | (refine k_tt rfl ?_ ?_; (focus (((rfl)); done))))
  all_goals refine k_rr (vs := [_]) rfl ⟨rfl, trivial⟩ rfl (List.nil_sublist _) ⟨rfl, rfl, ?_⟩
  all_goals rfl
theorem c_sign1 {x : UInt8} {a b c : List UInt8} : PuG Tryz.prog 44 [Ag [S (x :: a), S b, S c]] G (· = U8 (x.toNat : Nat)) := by
  have e0 := bt_c0 x a
  refine p_enter [(0, _)] Tryz.func44 (by kernel_rfl) Tryz.ntmps44 rfl rfl (by repeat (first | exact trivial | refine ⟨rfl, ?_⟩)) fun B hB => ?_
  repeat' (first | (refine run (t := tb) 400 rfl ?_ ?_; (focus (repeat' (first | exact trivial | apply And.intro | omega | (simp only [List.length_append, List.length_cons, List.length_nil, Int.toNat_natCast]; omega))))) | (refine k_op rfl ?_; first | refine c_bx rfl rfl rfl fun _ => ?_ | refine v_op (g_ld rfl rfl rfl) rfl rfl ?_) | (refine k_ff rfl ?_ ?_; (focus (((rfl)); done))))
  all_goals refine k_rr (vs := [_]) rfl ⟨rfl, trivial⟩ rfl (List.nil_sublist _) ⟨rfl, rfl, ?_⟩
  all_goals (rw [oneOf_one]; (rfl))
/-- What a kind without signs is. -/
theorem bs_plain {k : List UInt8} (hk : kindOk k = true) (hr : refN (core k) = none) : bs k = [110] ∨ bs k = [116] ∨ bs k = [102] := by
  have h := core_kOk (kindOk_kOk hk).1
  unfold bs
  cases hc : core k with
  | nil => rw [hc] at h; cases h
  | cons c r =>
    rw [hc] at h hr
    have h64 : ¬ c.toNat = 64 := by
      intro h64
      simp [refN, h64] at hr
    have h91 : ¬ (c.toNat = 91 ∨ c.toNat = 63) := core_head hc
    have e : bsT (c :: r) = c :: r := by simp [bsT, h64]
    rw [e]
    rw [kOk, if_neg h91, if_neg h64] at h
    simp only [Bool.and_eq_true, Bool.or_eq_true, decide_eq_true_eq] at h
    obtain ⟨rfl, h⟩ := h
    have hu : ∀ n : Nat, c.toNat = n → n < 256 → c = UInt8.ofNat n := fun n h1 h2 => by
      apply UInt8.toNat_inj.1; rw [h1, UInt8.toNat_ofNat']; omega
    rcases h with (h | h) | h
    · exact .inl (by rw [hu _ h (by decide)]; rfl)
    · exact .inr (.inl (by rw [hu _ h (by decide)]; rfl))
    · exact .inr (.inr (by rw [hu _ h (by decide)]; rfl))
theorem ScI.W {b : Nat} {qs : List TyP} (_ : ScI G b qs) (hw : SchW (tyq qs)) {q : TyP} (hq : q ∈ qs) : q.2 ∈ tyq qs ∧ TyW q.2 := by
  have h1 : q.2 ∈ tyq qs := List.mem_map_of_mem hq
  exact ⟨h1, hw.ty _ h1⟩
theorem plain_bs {k : List UInt8} (hs : sg k = []) (hk : kindOk k = true) (hr : refN (core k) = none) : plainOf k = plainOf (bs k) := by
  match k, hk with
  | c :: r, hk =>
    have h91 : ¬ (c.toNat = 91 ∨ c.toNat = 63) := fun h => by rw [sg_cons h] at hs; cases hs
    have hc := core_self (r := r) h91
    have h64 : ¬ c.toNat = 64 := fun h64 => by rw [hc] at hr; simp [refN, h64] at hr
    unfold bs; rw [hc]; simp [bsT, h64]
theorem c_standsI {b : Nat} {qs : List TyP} (h : ScI G b qs) (hw : SchW (tyq qs)) : ∀ (n : Nat) {k : List UInt8}, n ≤ 1000 → kindIn (tyq qs) k = true → (∀ t, refT (tyq qs) k = some t → endsN (tyq qs) n t = true) →
    PuG Tryz.prog 92 [Pt b 0, Ag [S (sg k), S (bs k), S (nm k)]] G (· = S (standN (tyq qs) (n + 1) k)) := by
  obtain ⟨u, m, g1, g2, g3⟩ := h.at'
  intro n
  induction n with
  | zero =>
    intro k hn hk he
    have hko := kindIn_ok hk
    match k, hko with
    | c :: r, hko =>
      by_cases h91 : c.toNat = 91 ∨ c.toNat = 63
      · have cx_sign := @c_sign1 G c (sg r) (bs (c :: r)) (nm (c :: r))
        rw [sg_cons h91]
        by_cases h1 : c.toNat = 91
        · refine p_enter [(0, _), (1, _)] Tryz.func92 (by kernel_rfl) Tryz.ntmps92 rfl rfl (by repeat (first | exact trivial | refine ⟨rfl, ?_⟩)) fun B hB => ?_
          repeat' (first | (refine run (t := tb) 400 rfl ?_ ?_; (focus (repeat' ((exact trivial))))) | (refine k_op rfl ?_; first | refine c_bx rfl rfl rfl fun _ => ?_ | refine v_op (g_ldA rfl rfl rfl rfl) rfl rfl ?_ | (refine c_rt rfl rfl rfl cx_sign rfl ?_)) | (refine k_tt rfl ?_ ?_; (focus (((refine decide_eq_true ?_; (omega))); done))))
          all_goals refine k_rr (vs := [_]) rfl ⟨rfl, trivial⟩ rfl (List.nil_sublist _) ⟨rfl, rfl, ?_⟩
          all_goals (rw [oneOf_one]; unfold standN; rw [if_pos h1])
        have h2 : c.toNat = 63 := by omega
        refine p_enter [(0, _), (1, _)] Tryz.func92 (by kernel_rfl) Tryz.ntmps92 rfl rfl (by repeat (first | exact trivial | refine ⟨rfl, ?_⟩)) fun B hB => ?_
        repeat' (first | (refine run (t := tb) 400 rfl ?_ ?_; (focus (repeat' ((exact trivial))))) | (refine k_op rfl ?_; first | refine c_bx rfl rfl rfl fun _ => ?_ | refine v_op (g_ldA rfl rfl rfl rfl) rfl rfl ?_ | (refine c_rt rfl rfl rfl cx_sign rfl ?_)) | (refine k_tt rfl ?_ ?_; (focus (((refine decide_eq_true ?_; (omega))); done))) | (refine k_ff rfl ?_ ?_; (focus (((refine decide_eq_false ?_; (omega))); done))))
        all_goals refine k_rr (vs := [_]) rfl ⟨rfl, trivial⟩ rfl (List.nil_sublist _) ⟨rfl, rfl, ?_⟩
        all_goals (rw [oneOf_one]; unfold standN; rw [if_neg h1, if_pos h2])
      have hsg := sg_none (r := r) h91
      have hcs := core_self (r := r) h91
      rw [hsg]
      cases hrf : refT (tyq qs) (c :: r) with
      | some t => have := he t hrf; cases this
      | none =>
        have hrn : refN (core (c :: r)) = none := by
          cases hx : refN (core (c :: r)) with
          | none => rfl
          | some x =>
            obtain ⟨t, ht⟩ := kind_refT hk (by rw [hx]; rfl)
            rw [hcs, hrf] at ht; cases ht
        have hpl := plain_bs hsg hko hrn
        have e3 : standN (tyq qs) (0 + 1) (c :: r) = plainOf (bs (c :: r)) := by
          rw [standN, if_neg (by omega), if_neg (by omega), hrf]; exact hpl
        rw [e3]
        rcases bs_plain hko hrn with e | e | e
        all_goals
          rw [e]
          refine p_enter [(0, _), (1, _)] Tryz.func92 (by kernel_rfl) Tryz.ntmps92 rfl rfl (by repeat (first | exact trivial | refine ⟨rfl, ?_⟩)) fun B hB => ?_
          repeat' (first | (refine run (t := tb) 400 rfl ?_ ?_; (focus (repeat' ((exact trivial))))) | (refine k_op rfl ?_; first | refine c_bx rfl rfl rfl fun _ => ?_ | refine v_op (g_ld rfl rfl rfl) rfl rfl ?_ | refine v_op (g_ldA rfl rfl rfl rfl) rfl rfl ?_ | (refine c_rt rfl rfl rfl c_sign0 rfl ?_)) | (refine k_tt rfl ?_ ?_; (focus (((rfl)); done))) | (refine k_ff rfl ?_ ?_; (focus (((rfl)); done))))
          all_goals refine k_rr (vs := [_]) rfl ⟨rfl, trivial⟩ rfl (List.nil_sublist _) ⟨rfl, rfl, ?_⟩
          all_goals rfl
  | succ n ih =>
    intro k hn hk he
    have hko := kindIn_ok hk
    match k, hko with
    | c :: r, hko =>
      by_cases h91 : c.toNat = 91 ∨ c.toNat = 63
      · have cx_sign := @c_sign1 G c (sg r) (bs (c :: r)) (nm (c :: r))
        rw [sg_cons h91]
        by_cases h1 : c.toNat = 91
        · refine p_enter [(0, _), (1, _)] Tryz.func92 (by kernel_rfl) Tryz.ntmps92 rfl rfl (by repeat (first | exact trivial | refine ⟨rfl, ?_⟩)) fun B hB => ?_
          repeat' (first | (refine run (t := tb) 400 rfl ?_ ?_; (focus (repeat' ((exact trivial))))) | (refine k_op rfl ?_; first | refine c_bx rfl rfl rfl fun _ => ?_ | refine v_op (g_ldA rfl rfl rfl rfl) rfl rfl ?_ | (refine c_rt rfl rfl rfl cx_sign rfl ?_)) | (refine k_tt rfl ?_ ?_; (focus (((refine decide_eq_true ?_; (omega))); done))))
          all_goals refine k_rr (vs := [_]) rfl ⟨rfl, trivial⟩ rfl (List.nil_sublist _) ⟨rfl, rfl, ?_⟩
          all_goals (rw [oneOf_one]; unfold standN; rw [if_pos h1])
        have h2 : c.toNat = 63 := by omega
        refine p_enter [(0, _), (1, _)] Tryz.func92 (by kernel_rfl) Tryz.ntmps92 rfl rfl (by repeat (first | exact trivial | refine ⟨rfl, ?_⟩)) fun B hB => ?_
        repeat' (first | (refine run (t := tb) 400 rfl ?_ ?_; (focus (repeat' ((exact trivial))))) | (refine k_op rfl ?_; first | refine c_bx rfl rfl rfl fun _ => ?_ | refine v_op (g_ldA rfl rfl rfl rfl) rfl rfl ?_ | (refine c_rt rfl rfl rfl cx_sign rfl ?_)) | (refine k_tt rfl ?_ ?_; (focus (((refine decide_eq_true ?_; (omega))); done))) | (refine k_ff rfl ?_ ?_; (focus (((refine decide_eq_false ?_; (omega))); done))))
        all_goals refine k_rr (vs := [_]) rfl ⟨rfl, trivial⟩ rfl (List.nil_sublist _) ⟨rfl, rfl, ?_⟩
        all_goals (rw [oneOf_one]; unfold standN; rw [if_neg h1, if_pos h2])
      have hsg := sg_none (r := r) h91
      have hcs := core_self (r := r) h91
      rw [hsg]
      cases hrf : refT (tyq qs) (c :: r) with
      | none =>
        have hrn : refN (core (c :: r)) = none := by
          cases hx : refN (core (c :: r)) with
          | none => rfl
          | some x =>
            obtain ⟨t, ht⟩ := kind_refT hk (by rw [hx]; rfl)
            rw [hcs, hrf] at ht; cases ht
        have hpl := plain_bs hsg hko hrn
        have e3 : standN (tyq qs) (n + 1 + 1) (c :: r) = plainOf (bs (c :: r)) := by
          rw [standN, if_neg (by omega), if_neg (by omega), hrf]; exact hpl
        rw [e3]
        rcases bs_plain hko hrn with e | e | e
        all_goals
          rw [e]
          refine p_enter [(0, _), (1, _)] Tryz.func92 (by kernel_rfl) Tryz.ntmps92 rfl rfl (by repeat (first | exact trivial | refine ⟨rfl, ?_⟩)) fun B hB => ?_
          repeat' (first | (refine run (t := tb) 400 rfl ?_ ?_; (focus (repeat' ((exact trivial))))) | (refine k_op rfl ?_; first | refine c_bx rfl rfl rfl fun _ => ?_ | refine v_op (g_ld rfl rfl rfl) rfl rfl ?_ | refine v_op (g_ldA rfl rfl rfl rfl) rfl rfl ?_ | (refine c_rt rfl rfl rfl c_sign0 rfl ?_)) | (refine k_tt rfl ?_ ?_; (focus (((rfl)); done))) | (refine k_ff rfl ?_ ?_; (focus (((rfl)); done))))
          all_goals refine k_rr (vs := [_]) rfl ⟨rfl, trivial⟩ rfl (List.nil_sublist _) ⟨rfl, rfl, ?_⟩
          all_goals rfl
      | some t =>
        have hrn : (refN (core (c :: r))).isSome = true := by
          rw [hcs]; unfold refT at hrf
          cases hx : refN (c :: r) with
          | none => rw [hx] at hrf; cases hrf
          | some x => rfl
        have hbs : bs (c :: r) = [64] := (bs_at hko).2 hrn
        have hnm : refN (c :: r) = some (nm (c :: r)) := by
          unfold nm; rw [hcs] at hrn ⊢
          cases hx : refN (c :: r) with
          | none => rw [hx] at hrn; cases hrn
          | some x => rfl
        have hft : findT (tyq qs) (nm (c :: r)) = some t := by unfold refT at hrf; rw [hnm] at hrf; exact hrf
        have hkv := kvF_find qs (nm (c :: r))
        rw [← findQ_ty] at hft
        rcases hfq : findQ qs (nm (c :: r)) with _ | ⟨p, t'⟩
        · rw [hfq] at hft; cases hft
        rw [hfq] at hft hkv
        dsimp only [Option.map_some] at hft hkv
        have htt : t' = t := Option.some.inj hft
        subst htt
        have hqm := findQ_mem hfq
        have htm := refT_mem hrf
        have hW := hw.ty t' htm
        have htg := hw.tag0 htm
        rw [tag0_nth] at htg
        obtain ⟨fv, ln, hsg2, hfv⟩ := h.ty _ hqm
        dsimp only at hsg2 hfv
        have e3 : standN (tyq qs) (n + 1 + 1) (c :: r) = if t'.sort = 82 then [123, 125] else if t'.sort = 69 then 35 :: decI (tag0 t') else 60 :: (decI (tag0 t') ++ 61 :: (standN (tyq qs) (n + 1) (kind0 t') ++ [62])) := by
          rw [standN, if_neg (by omega), if_neg (by omega), hrf]
        rw [e3, tag0_nth, kind0_nth, hbs]
        clear e3 hcs hsg hrn hnm hbs
        by_cases s1 : t'.sort = 82
        · rw [if_pos s1]
          refine p_enter [(0, _), (1, _)] Tryz.func92 (by kernel_rfl) Tryz.ntmps92 rfl rfl (by repeat (first | exact trivial | refine ⟨rfl, ?_⟩)) fun B hB => ?_
          repeat' (first | (refine run (t := tb) 400 rfl ?_ ?_; (focus (repeat' ((exact trivial))))) | (refine k_op rfl ?_; first | refine c_bx rfl rfl rfl fun _ => ?_ | refine v_op (g_ld rfl rfl rfl) rfl rfl ?_ | refine v_op (g_ldA rfl rfl rfl rfl) rfl rfl ?_ | refine v_op (g_ldS rfl rfl (by assumption) rfl rfl) rfl rfl ?_ | (refine c_rt rfl rfl rfl c_sign0 rfl ?_)) | (refine k_tt rfl ?_ ?_; (focus (((refine decide_eq_true ?_; (omega))); done))) | (refine k_ff rfl ?_ ?_; (focus (((rfl)); done))) | (refine k_any (s_any (id := 13) _ (fun _ h => h) mixed ?_); refine x_tks (t := tb) (fuel := 4) [0, 1, 2, 4] (bts 8 23) (by kernel_rfl) (by kernel_rfl) rfl rfl (Gh.le.refl _) (by repeat ((exact List.Sublist.refl _))) ?_ ?_; (focus (repeat' ((exact trivial)))); ((refine (x_tkg (bts 8 31) 3 rfl (by kernel_rfl) rfl (Gh.le.refl _) (by repeat ((exact List.Sublist.refl _)))) (g_ldS rfl rfl (by assumption) rfl rfl) rfl rfl ?_)); ((refine (x_tkg (bts 8 63) 5 rfl (by kernel_rfl) rfl (Gh.le.refl _) (by repeat ((exact List.Sublist.refl _)))) (g_ld rfl rfl rfl) rfl rfl ?_)); ((refine (x_tkg (bts 8 127) 6 rfl (by kernel_rfl) rfl (Gh.le.refl _) (by repeat ((exact List.Sublist.refl _)))) (g_lookupX rfl rfl (map_G (by assumption)) (by assumption) rfl) rfl rfl ?_)); refine x_tks (t := tb) (fuel := 0) [7] (bts 8 255) (by kernel_rfl) (by kernel_rfl) rfl rfl (Gh.le.refl _) (by repeat ((exact List.Sublist.refl _))) ?_ ?_; (focus (repeat' ((exact trivial)))); refine x_done (by kernel_rfl) (k_bk ?_)))
          all_goals refine k_rr (vs := [_]) rfl ⟨rfl, trivial⟩ rfl (List.nil_sublist _) ⟨rfl, rfl, ?_⟩
          all_goals rfl
        have h0 : 0 < t'.fields.length := List.length_pos_iff.2 (hW.ne s1)
        obtain ⟨bf, of, cf, rfl, hsf⟩ := hfv.expl h0
        have hdl := decI_len6 (n := (nth t'.fields 0).tag) (by omega)
        rw [if_neg s1]
        by_cases s2 : t'.sort = 69
        · rw [if_pos s2]
          refine p_enter [(0, _), (1, _)] Tryz.func92 (by kernel_rfl) Tryz.ntmps92 rfl rfl (by repeat (first | exact trivial | refine ⟨rfl, ?_⟩)) fun B hB => ?_
          repeat' (first | (refine run (t := tb) 400 rfl ?_ ?_; (focus (repeat' (first | exact trivial | apply And.intro | (simp only [List.length_append, List.length_cons, List.length_nil, Int.toNat_natCast]; omega))))) | (refine k_op rfl ?_; first | refine c_bx rfl rfl rfl fun _ => ?_ | refine v_op (g_ld rfl rfl rfl) rfl rfl ?_ | (refine v_op (g_ldRF rfl rfl (by assumption) ?_ rfl rfl) rfl rfl ?_; (focus (((omega)); done))) | refine v_op (g_ldA rfl rfl rfl rfl) rfl rfl ?_ | refine v_op (g_ldS rfl rfl (by assumption) rfl rfl) rfl rfl ?_ | (refine v_op (g_iaddrN rfl rfl ?_) rfl rfl ?_; (focus ((omega); done))) | (refine c_rt rfl rfl rfl c_sign0 rfl ?_) | (refine c_rt rfl rfl rfl (c_decimalN ?_) rfl ?_; (focus (((simp; omega)); done)))) | (refine k_tt rfl ?_ ?_; (focus (((refine decide_eq_true ?_; (omega))); done))) | (refine k_ff rfl ?_ ?_; (focus ((first | rfl | (refine decide_eq_false ?_; (omega))); done))) | (refine k_any (s_any (id := 13) _ (fun _ h => h) mixed ?_); refine x_tks (t := tb) (fuel := 4) [0, 1, 2, 4] (bts 8 23) (by kernel_rfl) (by kernel_rfl) rfl rfl (Gh.le.refl _) (by repeat ((exact List.Sublist.refl _))) ?_ ?_; (focus (repeat' ((exact trivial)))); ((refine (x_tkg (bts 8 31) 3 rfl (by kernel_rfl) rfl (Gh.le.refl _) (by repeat ((exact List.Sublist.refl _)))) (g_ldS rfl rfl (by assumption) rfl rfl) rfl rfl ?_)); ((refine (x_tkg (bts 8 63) 5 rfl (by kernel_rfl) rfl (Gh.le.refl _) (by repeat ((exact List.Sublist.refl _)))) (g_ld rfl rfl rfl) rfl rfl ?_)); ((refine (x_tkg (bts 8 127) 6 rfl (by kernel_rfl) rfl (Gh.le.refl _) (by repeat ((exact List.Sublist.refl _)))) (g_lookupX rfl rfl (map_G (by assumption)) (by assumption) rfl) rfl rfl ?_)); refine x_tks (t := tb) (fuel := 0) [7] (bts 8 255) (by kernel_rfl) (by kernel_rfl) rfl rfl (Gh.le.refl _) (by repeat ((exact List.Sublist.refl _))) ?_ ?_; (focus (repeat' ((exact trivial)))); refine x_done (by kernel_rfl) (k_bk ?_)))
          all_goals refine k_rr (vs := [_]) rfl ⟨rfl, trivial⟩ rfl (List.nil_sublist _) ⟨rfl, rfl, ?_⟩
          all_goals rfl
        have hin := kind_in hw htm s2 (nth_mem h0)
        have hen : ∀ t2, refT (tyq qs) (nth t'.fields 0).kind = some t2 → endsN (tyq qs) n t2 = true := by
          intro t2 ht2
          have := he t' hrf
          have s3 : t'.sort = 85 := by rcases hW.sort with h | h | h <;> omega
          rw [endsN, if_neg (by simp [s3]), kind0_nth, ht2] at this
          exact this
        have cx_std := ih (k := (nth t'.fields 0).kind) (by omega) hin hen
        have hsl := standN_len hw (n + 1) (nth t'.fields 0).kind
        rw [if_neg s2]
        refine p_enter [(0, _), (1, _)] Tryz.func92 (by kernel_rfl) Tryz.ntmps92 rfl rfl (by repeat (first | exact trivial | refine ⟨rfl, ?_⟩)) fun B hB => ?_
        repeat' (first | (refine run (t := tb) 400 rfl ?_ ?_; (focus (repeat' ((exact trivial))))) | (refine k_op rfl ?_; first | refine c_bx rfl rfl rfl fun _ => ?_ | refine v_op (g_ld rfl rfl rfl) rfl rfl ?_ | refine v_op (g_ldA rfl rfl rfl rfl) rfl rfl ?_ | refine v_op (g_ldS rfl rfl (by assumption) rfl rfl) rfl rfl ?_ | (refine c_rt rfl rfl rfl c_sign0 rfl ?_)) | (refine k_ff rfl ?_ ?_; (focus ((first | rfl | (refine decide_eq_false ?_; (omega))); done))) | (refine k_any (s_any (id := 13) _ (fun _ h => h) mixed ?_); refine x_tks (t := tb) (fuel := 4) [0, 1, 2, 4] (bts 8 23) (by kernel_rfl) (by kernel_rfl) rfl rfl (Gh.le.refl _) (by repeat ((exact List.Sublist.refl _))) ?_ ?_; (focus (repeat' ((exact trivial)))); ((refine (x_tkg (bts 8 31) 3 rfl (by kernel_rfl) rfl (Gh.le.refl _) (by repeat ((exact List.Sublist.refl _)))) (g_ldS rfl rfl (by assumption) rfl rfl) rfl rfl ?_)); ((refine (x_tkg (bts 8 63) 5 rfl (by kernel_rfl) rfl (Gh.le.refl _) (by repeat ((exact List.Sublist.refl _)))) (g_ld rfl rfl rfl) rfl rfl ?_)); ((refine (x_tkg (bts 8 127) 6 rfl (by kernel_rfl) rfl (Gh.le.refl _) (by repeat ((exact List.Sublist.refl _)))) (g_lookupX rfl rfl (map_G (by assumption)) (by assumption) rfl) rfl rfl ?_)); refine x_tks (t := tb) (fuel := 0) [7] (bts 8 255) (by kernel_rfl) (by kernel_rfl) rfl rfl (Gh.le.refl _) (by repeat ((exact List.Sublist.refl _))) ?_ ?_; (focus (repeat' ((exact trivial)))); refine x_done (by kernel_rfl) (k_bk ?_)) | (refine k_any (s_any (id := 19) _ (fun _ h => h) mixed ?_); refine x_tks (t := tb) (fuel := 15) [0, 1, 2, 10, 11, 12, 13] (bts 22 15367) (by kernel_rfl) (by kernel_rfl) rfl rfl (Gh.le.refl _) (by repeat ((exact List.Sublist.refl _))) ?_ ?_; (focus (repeat' ((exact trivial)))); ((refine (x_tkg (bts 22 15375) 3 rfl (by kernel_rfl) rfl (Gh.le.refl _) (by repeat ((exact List.Sublist.refl _)))) (g_ldS rfl rfl (by assumption) rfl rfl) rfl rfl ?_)); ((refine (x_tkg (bts 22 15391) 4 rfl (by kernel_rfl) rfl (Gh.le.refl _) (by repeat ((exact List.Sublist.refl _)))) (g_iaddrN rfl rfl ?_) rfl rfl ?_; (focus ((omega); done)))); refine x_tks (t := tb) (fuel := 12) [5] (bts 22 15423) (by kernel_rfl) (by kernel_rfl) rfl rfl (Gh.le.refl _) (by repeat ((exact List.Sublist.refl _))) ?_ ?_; (focus (repeat' ((exact trivial)))); ((refine (x_tkg (bts 22 15487) 6 rfl (by kernel_rfl) rfl (Gh.le.refl _) (by repeat ((exact List.Sublist.refl _)))) (g_ldRF rfl rfl (by assumption) ?_ rfl rfl) rfl rfl ?_; (focus (((omega)); done)))); ((refine (x_tkg (bts 22 31871) 14 rfl (by kernel_rfl) rfl (Gh.le.refl _) (by repeat ((exact List.Sublist.refl _)))) (g_ldS rfl rfl (by assumption) rfl rfl) rfl rfl ?_)); ((refine (x_tkg (bts 22 64639) 15 rfl (by kernel_rfl) rfl (Gh.le.refl _) (by repeat ((exact List.Sublist.refl _)))) (g_iaddrN rfl rfl ?_) rfl rfl ?_; (focus ((omega); done)))); refine x_tks (t := tb) (fuel := 8) [16] (bts 22 130175) (by kernel_rfl) (by kernel_rfl) rfl rfl (Gh.le.refl _) (by repeat ((exact List.Sublist.refl _))) ?_ ?_; (focus (repeat' ((exact trivial)))); ((refine (x_tkg (bts 22 261247) 17 rfl (by kernel_rfl) rfl (Gh.le.refl _) (by repeat ((exact List.Sublist.refl _)))) (g_ldRA rfl rfl (by assumption) ?_ rfl rfl) rfl rfl ?_; (focus (((omega)); done)))); refine x_all [7] (by kernel_rfl) (by decide) ⟨?_, trivial⟩; refine x_opg rfl rfl ?_; ((refine c_rt rfl rfl rfl (c_decimalN ?_) rfl ?_; (focus (((simp; omega)); done)))); refine x_ks (by (exact Gh.le.refl _)) (by repeat ((exact List.Sublist.refl _))) (listed' := (bts 22 261375)) (by kernel_rfl) ?_; refine x_tks (t := tb) (fuel := 4) [8, 9] (bts 22 262143) (by kernel_rfl) (by kernel_rfl) rfl rfl (Gh.le.refl _) (by repeat ((exact List.Sublist.refl _))) ?_ ?_; (focus (repeat' (first | exact trivial | apply And.intro | (simp only [List.length_append, List.length_cons, List.length_nil, Int.toNat_natCast]; omega)))); refine x_all [18] (by kernel_rfl) (by decide) ⟨?_, trivial⟩; refine x_opg rfl rfl ?_; ((refine c_rt rfl rfl rfl cx_std rfl ?_)); refine x_ks (by (exact Gh.le.refl _)) (by repeat ((exact List.Sublist.refl _))) (listed' := (bts 22 524287)) (by kernel_rfl) ?_; refine x_tks (t := tb) (fuel := 0) [19, 20, 21] (bts 22 4194303) (by kernel_rfl) (by kernel_rfl) rfl rfl (Gh.le.refl _) (by repeat ((exact List.Sublist.refl _))) ?_ ?_; (focus (repeat' (first | exact trivial | apply And.intro | (simp only [List.length_append, List.length_cons, List.length_nil, Int.toNat_natCast]; omega)))); refine x_done (by kernel_rfl) (k_bk ?_)))
        all_goals refine k_rr (vs := [_]) rfl ⟨rfl, trivial⟩ rfl (List.nil_sublist _) ⟨rfl, rfl, ?_⟩
        all_goals (rw [oneOf_one]; simp)
theorem c_standKI {b : Nat} {qs : List TyP} (h : ScI G b qs) (hw : SchW (tyq qs)) {k : List UInt8} (hk : kindIn (tyq qs) k = true) : PuG Tryz.prog 92 [Pt b 0, Ag [S (sg k), S (bs k), S (nm k)]] G (· = S (standK (tyq qs) k)) :=
  c_standsI h hw ((tyq qs).length + 1) (by have := hw.len; omega) hk (fun t ht => ends_of hw t ht)
end Go.E
/-! Od -/
namespace Go.E
set_option maxRecDepth 20000
set_option maxHeartbeats 2000000
open Go.Proofs
variable {G : Gh}
theorem find_at {α : Type} [Inhabited α] {p : α → Bool} : ∀ {l : List α} {i : Nat}, i < l.length → (∀ k, k < i → p (nth l k) = false) → p (nth l i) = true → l.find? p = some (nth l i)
  | [], i, hi, _, _ => by simp at hi
  | a :: l, 0, _, _, h => by
    have h : p a = true := h
    rw [List.find?_cons, h]; rfl
  | a :: l, i + 1, hi, hno, h => by
    have h0 : p a = false := hno 0 (by omega)
    rw [List.find?_cons, h0]
    exact find_at (l := l) (i := i) (by simpa using hi) (fun k hk => hno (k + 1) (by omega)) h
theorem find_no {α : Type} [Inhabited α] {p : α → Bool} {l : List α} (hno : ∀ k, k < l.length → p (nth l k) = false) : l.find? p = none := by
  rw [List.find?_eq_none]
  intro x hx
  obtain ⟨i, hi, rfl⟩ := List.mem_iff_getElem.1 hx
  have := hno i hi
  rw [nth_eq hi] at this
  simp [this]
theorem fldT_at {fs : List Fld} {tag : Int} {i : Nat} (hi : i < fs.length) (hno : ∀ k, k < i → (nth fs k).tag ≠ tag) (h : (nth fs i).tag = tag) : fldT fs tag = some (nth fs i) :=
  find_at hi (fun k hk => by simpa using hno k hk) (by simpa using h)
theorem fldT_no {fs : List Fld} {tag : Int} (hno : ∀ k, k < fs.length → (nth fs k).tag ≠ tag) : fldT fs tag = none := find_no fun k hk => by simpa using hno k hk
theorem fldT_some {fs : List Fld} {tag : Int} {f : Fld} (h : fldT fs tag = some f) : ∃ i, i < fs.length ∧ (∀ k, k < i → (nth fs k).tag ≠ tag) ∧ (nth fs i).tag = tag ∧ nth fs i = f := by
  have hex : ∃ i, i < fs.length ∧ (nth fs i).tag = tag := by
    have hm := List.mem_of_find?_eq_some h
    have ht := List.find?_some h
    obtain ⟨i, hi, rfl⟩ := List.mem_iff_getElem.1 hm
    exact ⟨i, hi, by rw [nth_eq hi]; simpa using ht⟩
  obtain ⟨i, hi, ht⟩ := hex
  induction i using Nat.strongRecOn with
  | _ i ih =>
    by_cases hc : ∃ k, k < i ∧ (nth fs k).tag = tag
    · obtain ⟨k, hk, hkt⟩ := hc
      exact ih k hk (by omega) hkt
    · have hno : ∀ k, k < i → (nth fs k).tag ≠ tag := fun k hk e => hc ⟨k, hk, e⟩
      refine ⟨i, hi, hno, ht, ?_⟩
      rw [fldT_at hi hno ht] at h
      exact Option.some.inj h
abbrev zF : Fld := ⟨0, [], [], []⟩
abbrev tFldS : TypeId := 77
abbrev tTyS : TypeId := 59
theorem c_fieldS {x : TyX} {tag : Int} (hf : SlV G (slX x) 4 x.2.fields.length (rows fldF x.2.fields)) (hl : x.2.fields.length ≤ 1000) :
    PuG Tryz.prog 58 [Ag [U8 x.2.sort, S x.2.name, slX x], I tag] G (· = Tu [Ag (fldF ((fldT x.2.fields tag).getD zF)), Bo (fldT x.2.fields tag).isSome]) := by
  obtain ⟨⟨a, ca⟩, t⟩ := x
  simp only [slX] at hf ⊢
  dsimp only at hl
  refine p_enter [(0, _), (1, _)] Tryz.func58 (by kernel_rfl) Tryz.ntmps58 rfl rfl (by repeat (first | exact trivial | refine ⟨rfl, ?_⟩)) fun B hB => ?_
  repeat' (first | (refine run (t := tb) 400 rfl ?_ ?_; (focus (repeat' ((exact trivial))))) | (refine k_op rfl ?_; first | refine c_bx rfl rfl rfl fun _ => ?_ | refine c_al rfl rfl fun _ => ?_))
  rename_i y z
  refine k_loop (ι := Nat) (fun i => i ≤ t.fields.length ∧ ∀ k, k < i → (nth t.fields k).tag ≠ tag) (fun i => [(1, I tag), (2, Pt y 0), (4, Pt z 0), (6, I i)]) (fun _ => G) (fun i => [.blk z (.cells [I 0, S [], S [], S []].toArray tFldS (0, 0)), .blk y (.cells [U8 t.sort, S t.name, .slice a t.fields.length ca].toArray tTyS (0, 0))]) (fun i => t.fields.length - i) 0 ?_ (by repeat (first | exact trivial | refine ⟨rfl, ?_⟩)) rfl (by repeat ((exact List.Sublist.refl _))) (fun i Hi => ?_)
  · exact ⟨Nat.zero_le _, fun k hk => absurd hk (by omega)⟩
  by_cases hi : i < t.fields.length
  · obtain ⟨bf, of, cf, e, hs⟩ := hf.expl (by omega)
    simp only [Value.slice.injEq] at e
    obtain ⟨rfl, -, rfl⟩ := e
    repeat' (first | (refine run (t := tb) 400 rfl ?_ ?_; (focus (repeat' (first | exact trivial | apply And.intro | omega)))) | (refine k_op rfl ?_; first | refine v_op (g_ld rfl rfl rfl) rfl rfl ?_ | (refine v_op (g_ldR rfl rfl (by assumption) ?_) rfl rfl ?_; (focus (((omega)); done))) | (refine v_op (g_ldRF rfl rfl (by assumption) ?_ rfl rfl) rfl rfl ?_; (focus (((omega)); done))) | refine v_op (g_lenL rfl) rfl rfl ?_ | (refine v_op (g_iaddrN rfl rfl ?_) rfl rfl ?_; (focus ((omega); done))) | refine c_stA rfl rfl rfl rfl rfl rfl ?_) | (refine k_tt rfl ?_ ?_; (focus (((refine decide_eq_true ?_; (omega))); done))) | refine k_if rfl (fun _ => ?_) (fun _ => ?_))
    · rename_i he
      refine k_rr (vs := [_, _]) rfl ⟨rc_A rfl rfl rfl rfl, rfl, trivial⟩ rfl (List.nil_sublist _) ⟨rfl, rfl, ?_⟩
      rw [fldT_at hi Hi.2 he]; rfl
    · rename_i he
      refine k_rd (i + 1) ⟨by omega, fun k hk => ?_⟩ (by omega) (by repeat (first | exact trivial | refine ⟨rfl, ?_⟩)) rfl (by repeat ((exact List.Sublist.refl _)))
      rcases Nat.lt_or_ge k i with h3 | h3
      · exact Hi.2 k h3
      · have : k = i := by omega
        subst this; exact he
  · repeat' (first | (refine run (t := tb) 400 rfl ?_ ?_; (focus (repeat' ((exact trivial))))) | (refine k_op rfl ?_; first | refine v_op (g_ld rfl rfl rfl) rfl rfl ?_ | refine v_op (g_lenL rfl) rfl rfl ?_ | refine c_stA rfl rfl rfl rfl rfl rfl ?_ | refine v_op (g_bld rfl rfl) rfl rfl ?_) | (refine k_ff rfl ?_ ?_; (focus (((refine decide_eq_false ?_; (omega))); done))))
    refine k_rr (vs := [_, _]) rfl ⟨rc_A rfl rfl rfl rfl, rfl, trivial⟩ rfl (List.nil_sublist _) ⟨rfl, rfl, ?_⟩
    rw [fldT_no fun k hk => Hi.2 k (by omega)]; rfl
theorem c_fieldI0 {b : Nat} {t : Ty} {fv : Value} {ln : List UInt8} {tag : Int} (hs : Seg G b 0 [U8 t.sort, S t.name, fv, S ln]) (hf : SlV G fv 6 t.fields.length (rows fiF t.fields)) (hl : t.fields.length ≤ 1000) (h : fldT t.fields tag = none) :
    PuG Tryz.prog 73 [Pt b 0, I tag] G (· = .pointer none) := by
  have hno : ∀ k, k < t.fields.length → (nth t.fields k).tag ≠ tag := fun k hk e => by
    have h1 := List.find?_eq_none.1 h (nth t.fields k) (nth_mem hk)
    exact h1 (by simpa using e)
  refine p_enter [(0, _), (1, _)] Tryz.func73 (by kernel_rfl) Tryz.ntmps73 rfl rfl (by repeat (first | exact trivial | refine ⟨rfl, ?_⟩)) fun B hB => ?_
  repeat' (first | (refine run (t := tb) 400 rfl ?_ ?_; (focus (repeat' ((exact trivial))))) | (refine k_op rfl ?_; first | refine v_op (g_ldS rfl rfl (by assumption) rfl rfl) rfl rfl ?_ | refine v_op (g_lenV rfl (by assumption)) rfl rfl ?_))
  refine k_loop (ι := Nat) (fun i => i ≤ t.fields.length) (fun i => [(0, Pt b 0), (1, I tag), (10, I t.fields.length), (11, I i)]) (fun _ => G) (fun i => []) (fun i => t.fields.length - i) 0 ?_ (by repeat (first | exact trivial | refine ⟨rfl, ?_⟩)) rfl (by repeat ((exact List.Sublist.refl _))) (fun i Hi => ?_)
  · exact Nat.zero_le _
  by_cases hi : i < t.fields.length
  · obtain ⟨bf, of, cf, rfl, hsf⟩ := hf.expl (by omega)
    have h2 := hno i hi
    repeat' (first | (refine run (t := tb) 400 rfl ?_ ?_; (focus (repeat' (first | exact trivial | apply And.intro | omega)))) | (refine k_op rfl ?_; first | (refine v_op (g_ldRF rfl rfl (by assumption) ?_ rfl rfl) rfl rfl ?_; (focus (((omega)); done))) | refine v_op (g_ldS rfl rfl (by assumption) rfl rfl) rfl rfl ?_ | (refine v_op (g_iaddrN rfl rfl ?_) rfl rfl ?_; (focus ((omega); done)))) | (refine k_tt rfl ?_ ?_; (focus (((refine decide_eq_true ?_; (omega))); done))) | (refine k_ff rfl ?_ ?_; (focus (((refine decide_eq_false ?_; (assumption))); done))))
    exact k_rd (i + 1) (by omega) (by omega) (by repeat (first | exact trivial | refine ⟨rfl, ?_⟩)) rfl (by repeat ((exact List.Sublist.refl _)))
  · repeat' (first | (refine run (t := tb) 400 rfl ?_ ?_; (focus (repeat' ((exact trivial))))) | (refine k_ff rfl ?_ ?_; (focus (((refine decide_eq_false ?_; (omega))); done))))
    refine k_rr (vs := [_]) rfl ⟨rfl, trivial⟩ rfl (List.nil_sublist _) ⟨rfl, rfl, ?_⟩
    rfl
theorem c_fieldI1 {b bf of cf j : Nat} {t : Ty} {ln : List UInt8} {tag : Int} (hs : Seg G b 0 [U8 t.sort, S t.name, .slice (some ⟨bf, of, none⟩) t.fields.length cf, S ln]) (hsf : Seg G bf of (rows fiF t.fields)) (hl : t.fields.length ≤ 1000) (hj : j < t.fields.length) (hno : ∀ k, k < j → (nth t.fields k).tag ≠ tag) (hat : (nth t.fields j).tag = tag) :
    PuG Tryz.prog 73 [Pt b 0, I tag] G (· = Pt bf (of + j * 6)) := by
  refine p_enter [(0, _), (1, _)] Tryz.func73 (by kernel_rfl) Tryz.ntmps73 rfl rfl (by repeat (first | exact trivial | refine ⟨rfl, ?_⟩)) fun B hB => ?_
  repeat' (first | (refine run (t := tb) 400 rfl ?_ ?_; (focus (repeat' ((exact trivial))))) | (refine k_op rfl ?_; first | refine v_op (g_ldS rfl rfl (by assumption) rfl rfl) rfl rfl ?_ | refine v_op (g_lenL rfl) rfl rfl ?_))
  refine k_loop (ι := Nat) (fun i => i ≤ j) (fun i => [(0, Pt b 0), (1, I tag), (10, I t.fields.length), (11, I i)]) (fun _ => G) (fun i => []) (fun i => t.fields.length - i) 0 ?_ (by repeat (first | exact trivial | refine ⟨rfl, ?_⟩)) rfl (by repeat ((exact List.Sublist.refl _))) (fun i Hi => ?_)
  · exact Nat.zero_le _
  by_cases hij : i = j
  · subst hij
    repeat' (first | (refine run (t := tb) 400 rfl ?_ ?_; (focus (repeat' ((exact trivial))))) | (refine k_op rfl ?_; first | (refine v_op (g_ldRF rfl rfl (by assumption) ?_ rfl rfl) rfl rfl ?_; (focus (((omega)); done))) | refine v_op (g_ldS rfl rfl (by assumption) rfl rfl) rfl rfl ?_ | (refine v_op (g_iaddrN rfl rfl ?_) rfl rfl ?_; (focus ((omega); done)))) | (refine k_tt rfl ?_ ?_; (focus (((refine decide_eq_true ?_; first | assumption | omega)); done))))
    all_goals refine k_rr (vs := [_]) rfl ⟨rfl, trivial⟩ rfl (List.nil_sublist _) ⟨rfl, rfl, ?_⟩
    all_goals rfl
  · have h2 := hno i (by omega)
    repeat' (first | (refine run (t := tb) 400 rfl ?_ ?_; (focus (repeat' (first | exact trivial | apply And.intro | omega)))) | (refine k_op rfl ?_; first | (refine v_op (g_ldRF rfl rfl (by assumption) ?_ rfl rfl) rfl rfl ?_; (focus (((omega)); done))) | refine v_op (g_ldS rfl rfl (by assumption) rfl rfl) rfl rfl ?_ | (refine v_op (g_iaddrN rfl rfl ?_) rfl rfl ?_; (focus ((omega); done)))) | (refine k_tt rfl ?_ ?_; (focus (((refine decide_eq_true ?_; (omega))); done))) | (refine k_ff rfl ?_ ?_; (focus (((refine decide_eq_false ?_; (assumption))); done))))
    exact k_rd (i + 1) (by omega) (by omega) (by repeat (first | exact trivial | refine ⟨rfl, ?_⟩)) rfl (by repeat ((exact List.Sublist.refl _)))
theorem c_standS {u : Value} {vs : List TyX} {f : Fld} (h : SchR G u vs) (hw : SchW (tys vs)) (hk : kindIn (tys vs) f.kind = true) :
    PuG Tryz.prog 57 [u, Ag [I f.tag, S f.name, S f.kind, S f.stand]] G (· = S (standF (tys vs) f)) := by
  have cx_std := c_standKS h hw hk
  unfold standF
  by_cases hs : f.stand = []
  · rw [if_pos hs, hs]
    refine p_enter [(0, _), (1, _)] Tryz.func57 (by kernel_rfl) Tryz.ntmps57 rfl rfl (by repeat (first | exact trivial | refine ⟨rfl, ?_⟩)) fun B hB => ?_
    repeat' (first | (refine run (t := tb) 400 rfl ?_ ?_; (focus (repeat' ((exact trivial))))) | (refine k_op rfl ?_; first | refine c_bx rfl rfl rfl fun _ => ?_ | refine v_op (g_ld rfl rfl rfl) rfl rfl ?_ | (refine c_rt rfl rfl rfl cx_std rfl ?_)) | (refine k_ff rfl ?_ ?_; (focus (((rfl)); done))))
    all_goals refine k_rr (vs := [_]) rfl ⟨rfl, trivial⟩ rfl (List.nil_sublist _) ⟨rfl, rfl, ?_⟩
    all_goals rfl
  · rw [if_neg hs]
    refine p_enter [(0, _), (1, _)] Tryz.func57 (by kernel_rfl) Tryz.ntmps57 rfl rfl (by repeat (first | exact trivial | refine ⟨rfl, ?_⟩)) fun B hB => ?_
    repeat' (first | (refine run (t := tb) 400 rfl ?_ ?_; (focus (repeat' ((exact trivial))))) | (refine k_op rfl ?_; first | refine c_bx rfl rfl rfl fun _ => ?_ | refine v_op (g_ld rfl rfl rfl) rfl rfl ?_) | (refine k_tt rfl ?_ ?_; (focus (((refine decide_eq_true ?_; (assumption))); done))))
    all_goals refine k_rr (vs := [_]) rfl ⟨rfl, trivial⟩ rfl (List.nil_sublist _) ⟨rfl, rfl, ?_⟩
    all_goals rfl
theorem c_ofI {b bf of j : Nat} {qs : List TyP} {fs : List Fld} (h : ScI G b qs) (hw : SchW (tyq qs)) (hsf : Seg G bf of (rows fiF fs)) (hj : j < fs.length) (hk : kindIn (tyq qs) (nth fs j).kind = true) :
    PuG Tryz.prog 76 [Pt b 0, Pt bf (of + j * 6)] G (· = S (standF (tyq qs) (nth fs j))) := by
  have cx_std := c_standKI h hw hk
  unfold standF
  by_cases hs : (nth fs j).stand = []
  · rw [if_pos hs]
    have hs2 : ¬ (nth fs j).stand ≠ [] := fun h => h hs
    refine p_enter [(0, _), (1, _)] Tryz.func76 (by kernel_rfl) Tryz.ntmps76 rfl rfl (by repeat (first | exact trivial | refine ⟨rfl, ?_⟩)) fun B hB => ?_
    repeat' (first | (refine run (t := tb) 400 rfl ?_ ?_; (focus (repeat' ((exact trivial))))) | (refine k_op rfl ?_; first | (refine v_op (g_ldRF rfl rfl (by assumption) ?_ rfl rfl) rfl rfl ?_; (focus (((omega)); done))) | (refine v_op (g_ldRA rfl rfl (by assumption) ?_ rfl rfl) rfl rfl ?_; (focus (((omega)); done))) | (refine c_rt rfl rfl rfl cx_std rfl ?_)) | (refine k_ff rfl ?_ ?_; (focus (((refine decide_eq_false ?_; (assumption))); done))))
    all_goals refine k_rr (vs := [_]) rfl ⟨rfl, trivial⟩ rfl (List.nil_sublist _) ⟨rfl, rfl, ?_⟩
    all_goals rfl
  · rw [if_neg hs]
    refine p_enter [(0, _), (1, _)] Tryz.func76 (by kernel_rfl) Tryz.ntmps76 rfl rfl (by repeat (first | exact trivial | refine ⟨rfl, ?_⟩)) fun B hB => ?_
    repeat' (first | (refine run (t := tb) 400 rfl ?_ ?_; (focus (repeat' ((exact trivial))))) | (refine k_op rfl ?_; (refine v_op (g_ldRF rfl rfl (by assumption) ?_ rfl rfl) rfl rfl ?_; (focus (((omega)); done)))) | (refine k_tt rfl ?_ ?_; (focus (((refine decide_eq_true ?_; (assumption))); done))))
    all_goals refine k_rr (vs := [_]) rfl ⟨rfl, trivial⟩ rfl (List.nil_sublist _) ⟨rfl, rfl, ?_⟩
    all_goals rfl
end Go.E
/-! Wc -/
namespace Go.E
set_option maxRecDepth 20000
set_option maxHeartbeats 2000000
open Go.Proofs
variable {G : Gh}
abbrev tVal : TypeId := 35
abbrev tStP : TypeId := 9
theorem nd_tot {w : Nat} {x : List UInt8} {t : Int} {ks : List V} : V.tot (.nd w x t ks) = 20 + x.length + V.tots ks := by rw [V.tot]
theorem c_print : ∀ (n : Nat) {v : V} {c : VC}, v.tot ≤ n → v.tot ≤ 1000000 → V.rep G v c → PuG Tryz.prog 75 [Ag (vcF c)] G (· = S v.out) := by
  intro n
  induction n with
  | zero => intro v c h1 _ _; have := tot_pos v; omega
  | succ n ih =>
    intro v c h1 h2 h
    obtain ⟨w, x, t, ks⟩ := v
    rw [nd_tot] at h1 h2
    obtain ⟨a, k, cs, rfl, hw, ht, h61, hcl, hsl, hks⟩ := rep_inv h
    have hkl := tots_len ks
    have hol := outs_len ks
    have hjl := outs_tot hks
    have hj2 := joinB_len 44 (V.outs ks)
    rw [hol] at hj2
    simp only [vcF, VC.sl]
    refine b_enter (Post := fun v G' L' => G' = G ∧ L' = [] ∧ _) [(0, _)] Tryz.func75 (by kernel_rfl) Tryz.ntmps75 rfl rfl (by repeat (first | exact trivial | refine ⟨rfl, ?_⟩)) fun B hok hB hW => ?_
    repeat' (first | (refine run (t := tb) 400 rfl ?_ ?_; (focus (repeat' ((exact trivial))))) | (refine k_op rfl ?_; first | refine c_bx rfl rfl rfl fun _ => ?_ | refine v_op (g_ld rfl rfl rfl) rfl rfl ?_ | refine v_op (g_lenL rfl) rfl rfl ?_))
    rename_i bv
    refine Nx.addNil tStP 1 ?_
    refine k_loop (ι := Nat × Value) (fun q => q.1 ≤ ks.length) (fun q => [(1, Pt bv 0), (2, S []), (3, q.2), (8, .slice a ks.length k), (9, I ks.length), (10, I q.1)]) (fun _ => G) (fun q => [.acc q.2 tStP 1 q.1 (rows strF ((V.outs ks).take q.1)), .blk bv (.cells (List.toArray [U8 w, S x, I t, .slice a ks.length k]) tVal (0, 0))]) (fun q => ks.length - q.1) (0, nilS) ?_ (by repeat (first | exact trivial | refine ⟨rfl, ?_⟩)) rfl (by repeat ((exact List.Sublist.refl _))) (fun q Hq => ?_)
    · exact Nat.zero_le _
    obtain ⟨i, pv⟩ := q
    dsimp only at Hq ⊢
    by_cases hi : i < ks.length
    · have hti := tot_nth hi
      have cx_pr := ih (by omega) (by omega) (reps_nth hks i hi)
      obtain ⟨bf, of, cf, e, hs⟩ := hsl.expl (by omega)
      simp only [Value.slice.injEq] at e
      obtain ⟨rfl, -, rfl⟩ := e
      repeat' (first | (refine run (t := tb) 400 rfl ?_ ?_; (focus (repeat' (first | exact trivial | apply And.intro | omega)))) | (refine k_op rfl ?_; first | (refine v_op (g_ldR rfl rfl (by assumption) ?_) rfl rfl ?_; (focus (((omega)); done))) | refine v_op (g_ldA rfl rfl rfl rfl) rfl rfl ?_ | (refine v_op (g_iaddrN rfl rfl ?_) rfl rfl ?_; (focus ((omega); done))) | refine c_al rfl rfl fun _ => ?_ | refine c_stA rfl rfl rfl rfl rfl rfl ?_ | refine c_bsl rfl rfl rfl rfl rfl rfl fun _ => ?_ | (refine c_apX rfl rfl rfl rfl rfl rfl rfl rfl rfl ?_ fun _ _ => ?_; (focus ((omega); done))) | (refine c_rt rfl rfl rfl cx_pr rfl ?_)) | (refine k_tt rfl ?_ ?_; (focus (((refine decide_eq_true ?_; (omega))); done))))
      have e2 : rows strF ((V.outs ks).take i) ++ [S (nth ks i).out] = rows strF ((V.outs ks).take (i + 1)) := by rw [take_nth (by omega), rows_snoc, outs_get hi]; rfl
      rw [e2]
      exact k_rd (i + 1, _) (by dsimp only; omega) (by dsimp only; omega) (by repeat (first | exact trivial | refine ⟨rfl, ?_⟩)) rfl (by repeat (first | exact List.Sublist.refl _ | apply List.Sublist.cons_cons | apply List.Sublist.cons))
    · have hin : i = ks.length := by omega
      subst hin
      refine Nx.sealA .here fun G1 hG1 hsP => ?_
      rw [← hol, List.take_length] at hsP
      have cx_join := c_Join (c := 44) hsP (by omega)
      have hd := decI_len6' ht.2
      have hE : ks.isEmpty = decide (ks.length = 0) := by cases ks <;> simp
      repeat' (first | (refine run (t := tb) 400 rfl ?_ ?_; (focus (repeat' (first | exact trivial | apply And.intro | (simp only [List.length_append, List.length_cons, List.length_nil, Int.toNat_natCast]; omega))))) | (refine k_op rfl ?_; first | refine v_op (g_ld rfl rfl rfl) rfl rfl ?_ | refine v_op (g_lenL rfl) rfl rfl ?_ | (refine c_rt rfl rfl rfl cx_join rfl ?_) | (refine c_rt rfl rfl rfl (c_decimalN ?_) rfl ?_; (focus (((omega)); done)))) | (refine k_ff rfl ?_ ?_; (focus (((refine decide_eq_false ?_; (omega))); done))) | refine k_if rfl (fun _ => ?_) (fun _ => ?_))
      all_goals refine Nx.base hok hB ?_
      all_goals refine k_rr (vs := [_]) rfl ⟨rfl, trivial⟩ rfl (List.nil_sublist _) ⟨rfl, rfl, ?_⟩
      all_goals (rw [oneOf_one, V.out, hE]; unfold outW; simp only [decide_eq_true_eq]; repeat (first | rw [if_pos (by omega)] | rw [if_neg (by omega)]))
      all_goals (first | rfl | (simp; done))
theorem deep_fld1 {x : List UInt8} {t : Int} {u : V} : V.deep (.nd 61 x t [u]) = u.deep := by rw [V.deep, if_pos rfl, V.deeps, V.deeps, Nat.max_zero]
theorem deeps_snoc (v : V) : ∀ (ks : List V), V.deeps (ks ++ [v]) = max (V.deeps ks) v.deep
  | [] => by simp [V.deeps]
  | u :: r => by simp only [List.cons_append, V.deeps, deeps_snoc v r]; omega
mutual
theorem deep_tot : ∀ v : V, v.deep ≤ v.tot
  | .nd w x t ks => by
    have := deeps_tot ks
    rw [V.deep, V.tot]; split <;> omega
theorem deeps_tot : ∀ ks : List V, V.deeps ks ≤ V.tots ks
  | [] => by simp [V.deeps]
  | v :: r => by
    have := deep_tot v
    have := deeps_tot r
    rw [V.deeps, V.tots]; omega
end
theorem c_deep : ∀ (n : Nat) {v : V} {c : VC}, v.tot ≤ n → v.tot ≤ 1000000 → V.rep G v c → PuG Tryz.prog 26 [Ag (vcF c)] G (· = I (v.deep : Nat)) := by
  intro n
  induction n with
  | zero => intro v c h1 _ _; have := tot_pos v; omega
  | succ n ih =>
    intro v c h1 h2 h
    obtain ⟨w, x, t, ks⟩ := v
    rw [nd_tot] at h1 h2
    obtain ⟨a, k, cs, rfl, hw, ht, h61, hcl, hsl, hks⟩ := rep_inv h
    have hkl := tots_len ks
    simp only [vcF, VC.sl]
    by_cases hq : w = 61
    · have hk1 := h61 hq
      have hti := tot_nth (ks := ks) (i := 0) (by omega)
      have cx_dp := ih (by omega) (by omega) (reps_nth hks 0 (by omega))
      obtain ⟨bf, of, cf, e, hs⟩ := hsl.expl (by omega)
      simp only [Value.slice.injEq] at e
      obtain ⟨rfl, -, rfl⟩ := e
      refine p_enter [(0, _)] Tryz.func26 (by kernel_rfl) Tryz.ntmps26 rfl rfl (by repeat (first | exact trivial | refine ⟨rfl, ?_⟩)) fun B hB => ?_
      repeat' (first | (refine run (t := tb) 400 rfl ?_ ?_; (focus (repeat' ((exact trivial))))) | (refine k_op rfl ?_; first | refine c_bx rfl rfl rfl fun _ => ?_ | refine v_op (g_ld rfl rfl rfl) rfl rfl ?_ | (refine v_op (g_ldR rfl rfl (by assumption) ?_) rfl rfl ?_; (focus (((omega)); done))) | (refine v_op (g_iaddr rfl rfl ?_) rfl rfl ?_; (focus ((omega); done))) | (refine c_rt rfl rfl rfl cx_dp rfl ?_)) | (refine k_tt rfl ?_ ?_; (focus (((refine decide_eq_true ?_; (omega))); done))))
      refine k_rr (vs := [_]) rfl ⟨rfl, trivial⟩ rfl (List.nil_sublist _) ⟨rfl, rfl, ?_⟩
      rw [oneOf_one]
      obtain ⟨u, rfl⟩ := List.length_eq_one_iff.1 hk1
      subst hq
      rw [deep_fld1]; rfl
    · rw [deep_nd hq]
      refine p_enter [(0, _)] Tryz.func26 (by kernel_rfl) Tryz.ntmps26 rfl rfl (by repeat (first | exact trivial | refine ⟨rfl, ?_⟩)) fun B hB => ?_
      repeat' (first | (refine run (t := tb) 400 rfl ?_ ?_; (focus (repeat' ((exact trivial))))) | (refine k_op rfl ?_; first | refine c_bx rfl rfl rfl fun _ => ?_ | refine v_op (g_ld rfl rfl rfl) rfl rfl ?_ | refine v_op (g_lenL rfl) rfl rfl ?_) | (refine k_ff rfl ?_ ?_; (focus (((refine decide_eq_false ?_; (omega))); done))))
      rename_i bv
      refine Nx.re (d := 3) (v' := I (V.deeps (ks.take 0) : Nat)) rfl rfl ?_
      refine k_loop (ι := Nat) (fun i => i ≤ ks.length) (fun i => [(3, I (V.deeps (ks.take i) : Nat)), (15, .slice a ks.length k), (16, I ks.length), (17, I i)]) (fun _ => G) (fun i => []) (fun i => ks.length - i) 0 ?_ (by repeat (first | exact trivial | refine ⟨rfl, ?_⟩)) rfl (by repeat ((exact List.nil_sublist _))) (fun i Hi => ?_)
      · exact Nat.zero_le _
      by_cases hi : i < ks.length
      · have hti := tot_nth hi
        have cx_dp := ih (by omega) (by omega) (reps_nth hks i hi)
        obtain ⟨bf, of, cf, e, hs⟩ := hsl.expl (by omega)
        simp only [Value.slice.injEq] at e
        obtain ⟨rfl, -, rfl⟩ := e
        repeat' (first | (refine run (t := tb) 400 rfl ?_ ?_; (focus (repeat' (first | exact trivial | apply And.intro | omega)))) | (refine k_op rfl ?_; first | (refine v_op (g_ldR rfl rfl (by assumption) ?_) rfl rfl ?_; (focus (((omega)); done))) | refine v_op (g_ldA rfl rfl rfl rfl) rfl rfl ?_ | (refine v_op (g_iaddrN rfl rfl ?_) rfl rfl ?_; (focus ((omega); done))) | refine c_al rfl rfl fun _ => ?_ | refine c_stA rfl rfl rfl rfl rfl rfl ?_ | refine v_op (g_max rfl rfl) rfl rfl ?_ | (refine c_rt rfl rfl rfl cx_dp rfl ?_)) | (refine k_tt rfl ?_ ?_; (focus (((refine decide_eq_true ?_; (omega))); done))))
        refine Nx.re (d := 3) (v' := I (V.deeps (ks.take (i + 1)) : Nat)) rfl (congrArg (Value.int .i64) (by rw [take_nth hi, deeps_snoc]; omega)) ?_
        exact k_rd (i + 1) (by omega) (by omega) (by repeat (first | exact trivial | refine ⟨rfl, ?_⟩)) rfl (by repeat ((exact List.nil_sublist _)))
      · have hin : i = ks.length := by omega
        subst hin
        rw [List.take_length]
        have hdt := deeps_tot ks
        repeat' (first | (refine run (t := tb) 400 rfl ?_ ?_; (focus (repeat' (first | exact trivial | apply And.intro | omega)))) | (refine k_ff rfl ?_ ?_; (focus (((refine decide_eq_false ?_; (omega))); done))))
        refine k_rr (vs := [_]) rfl ⟨rfl, trivial⟩ rfl (List.nil_sublist _) ⟨rfl, rfl, ?_⟩
        rw [oneOf_one]; congr 1
theorem tots_take : ∀ (ks : List V) (i : Nat), V.tots (ks.take i) ≤ V.tots ks
  | [], i => by simp
  | u :: r, 0 => by simp [V.tots]
  | u :: r, i + 1 => by have := tots_take r i; simp only [List.take_succ_cons, V.tots]; omega
theorem sizes_snoc (v : V) : ∀ (ks : List V), V.sizes (ks ++ [v]) = V.sizes ks + v.size
  | [] => by simp [V.sizes]
  | u :: r => by simp only [List.cons_append, V.sizes, sizes_snoc v r]; omega
mutual
theorem size_tot : ∀ v : V, v.size ≤ v.tot
  | .nd w x t ks => by
    have := sizes_tot ks
    rw [V.size, V.tot]; split <;> omega
theorem sizes_tot : ∀ ks : List V, V.sizes ks ≤ V.tots ks
  | [] => by simp [V.sizes]
  | v :: r => by
    have := size_tot v
    have := sizes_tot r
    rw [V.sizes, V.tots]; omega
end
theorem c_size : ∀ (n : Nat) {v : V} {c : VC}, v.tot ≤ n → v.tot ≤ 1000000 → V.rep G v c → PuG Tryz.prog 9 [Ag (vcF c)] G (· = I (v.size : Nat)) := by
  intro n
  induction n with
  | zero => intro v c h1 _ _; have := tot_pos v; omega
  | succ n ih =>
    intro v c h1 h2 h
    obtain ⟨w, x, t, ks⟩ := v
    rw [nd_tot] at h1 h2
    obtain ⟨a, k, cs, rfl, hw, ht, h61, hcl, hsl, hks⟩ := rep_inv h
    have hkl := tots_len ks
    simp only [vcF, VC.sl]
    have hE : ks.isEmpty = decide (ks.length = 0) := by cases ks <;> simp
    by_cases hlf : (w = 110 ∨ w = 116) ∨ (w = 102 ∨ w = 69) ∨ (w = 63 ∧ ks.length = 0)
    · have hL : V.size (.nd w x t ks) = 1 := by
        rw [V.size, if_pos]
        unfold leafW
        rw [hE]
        rcases hlf with (rfl | rfl) | (rfl | rfl) | ⟨rfl, h0⟩ <;> simp [*]
      rw [hL]
      rcases hlf with (rfl | rfl) | (rfl | rfl) | ⟨rfl, h0⟩
      all_goals
        refine p_enter [(0, _)] Tryz.func9 (by kernel_rfl) Tryz.ntmps9 rfl rfl (by repeat (first | exact trivial | refine ⟨rfl, ?_⟩)) fun B hB => ?_
        repeat' (first | (refine run (t := tb) 400 rfl ?_ ?_; (focus (repeat' ((exact trivial))))) | (refine k_op rfl ?_; first | refine c_bx rfl rfl rfl fun _ => ?_ | refine v_op (g_ld rfl rfl rfl) rfl rfl ?_ | (refine v_op (g_pickT rfl rfl ?_) rfl rfl ?_; (focus (((rfl)); done))) | (refine v_op (g_pickF rfl rfl ?_) rfl rfl ?_; (focus (((rfl)); done))) | refine v_op (g_lenL rfl) rfl rfl ?_) | (refine k_gt rfl rfl ?_ ?_; (focus (((rfl)); done))) | (refine k_gf rfl rfl ?_ ?_; (focus (((rfl)); done))) | (refine k_tt rfl ?_ ?_; (focus ((first | rfl | (refine decide_eq_true ?_; (omega))); done))) | (refine k_ff rfl ?_ ?_; (focus (((rfl)); done))))
        refine k_rr (vs := [_]) rfl ⟨rfl, trivial⟩ rfl (List.nil_sublist _) ⟨rfl, rfl, ?_⟩
        rfl
    · have hL : V.size (.nd w x t ks) = V.sizes ks := by
        rw [V.size, if_neg]
        unfold leafW
        rw [hE]
        simp only [Bool.or_eq_true, Bool.and_eq_true, decide_eq_true_eq]
        omega
      rw [hL]
      have h63 : w = 63 ∧ ks.length ≠ 0 ∨ w ≠ 63 := by omega
      clear h61 hE hL
      rcases h63 with ⟨h63, h0⟩ | h63
      all_goals
        have hn1 : ¬ (w : Int) = 110 ∧ ¬ (w : Int) = 116 ∧ ¬ (w : Int) = 102 ∧ ¬ (w : Int) = 69 := by omega
        refine p_enter [(0, _)] Tryz.func9 (by kernel_rfl) Tryz.ntmps9 rfl rfl (by repeat (first | exact trivial | refine ⟨rfl, ?_⟩)) fun B hB => ?_
        repeat' (first | (refine run (t := tb) 400 rfl ?_ ?_; (focus (repeat' ((exact trivial))))) | (refine k_op rfl ?_; first | refine c_bx rfl rfl rfl fun _ => ?_ | refine v_op (g_ld rfl rfl rfl) rfl rfl ?_ | (refine v_op (g_pickT rfl rfl ?_) rfl rfl ?_; (focus (((rfl)); done))) | (refine v_op (g_pickF rfl rfl ?_) rfl rfl ?_; (focus (((rfl)); done))) | refine v_op (g_lenL rfl) rfl rfl ?_) | (refine k_gt rfl rfl ?_ ?_; (focus (((refine decide_eq_true ?_; (omega))); done))) | (refine k_gf rfl rfl ?_ ?_; (focus (((refine decide_eq_false ?_; (omega))); done))) | (refine k_ff rfl ?_ ?_; (focus ((first | rfl | (refine decide_eq_false ?_; (omega))); done))))
        refine Nx.re (d := 3) (v' := I (V.sizes (ks.take 0) : Nat)) rfl rfl ?_
        refine k_loop (ι := Nat) (fun i => i ≤ ks.length) (fun i => [(3, I (V.sizes (ks.take i) : Nat)), (35, .slice a ks.length k), (36, I ks.length), (37, I i)]) (fun _ => G) (fun i => []) (fun i => ks.length - i) 0 ?_ (by repeat (first | exact trivial | refine ⟨rfl, ?_⟩)) rfl (by repeat ((exact List.nil_sublist _))) (fun i Hi => ?_)
        · exact Nat.zero_le _
        by_cases hi : i < ks.length
        · have hti := tot_nth hi
          have hsi := size_tot (nth ks i)
          have hst := sizes_tot (ks.take i)
          have hsn : V.sizes (ks.take (i + 1)) = V.sizes (ks.take i) + (nth ks i).size := by rw [take_nth hi, sizes_snoc]
          have htk := tots_take ks i
          have cx_sz := ih (by omega) (by omega) (reps_nth hks i hi)
          obtain ⟨bf, of, cf, e, hs⟩ := hsl.expl (by omega)
          simp only [Value.slice.injEq] at e
          obtain ⟨rfl, -, rfl⟩ := e
          repeat' (first | (refine run (t := tb) 400 rfl ?_ ?_; (focus (repeat' (first | exact trivial | apply And.intro | omega)))) | (refine k_op rfl ?_; first | (refine v_op (g_ldR rfl rfl (by assumption) ?_) rfl rfl ?_; (focus (((omega)); done))) | refine v_op (g_ldA rfl rfl rfl rfl) rfl rfl ?_ | (refine v_op (g_iaddrN rfl rfl ?_) rfl rfl ?_; (focus ((omega); done))) | refine c_al rfl rfl fun _ => ?_ | refine c_stA rfl rfl rfl rfl rfl rfl ?_ | (refine c_rt rfl rfl rfl cx_sz rfl ?_)) | (refine k_tt rfl ?_ ?_; (focus (((refine decide_eq_true ?_; (omega))); done))))
          refine Nx.re (d := 3) (v' := I (V.sizes (ks.take (i + 1)) : Nat)) rfl (congrArg (Value.int .i64) (by omega)) ?_
          exact k_rd (i + 1) (by omega) (by omega) (by repeat (first | exact trivial | refine ⟨rfl, ?_⟩)) rfl (by repeat ((exact List.nil_sublist _)))
        · have hin : i = ks.length := by omega
          subst hin
          rw [List.take_length]
          repeat' (first | (refine run (t := tb) 400 rfl ?_ ?_; (focus (repeat' ((exact trivial))))) | (refine k_ff rfl ?_ ?_; (focus (((refine decide_eq_false ?_; (omega))); done))))
          refine k_rr (vs := [_]) rfl ⟨rfl, trivial⟩ rfl (List.nil_sublist _) ⟨rfl, rfl, ?_⟩
          rw [oneOf_one]
end Go.E
/-! Wd -/
namespace Go.E
set_option maxRecDepth 20000
set_option maxHeartbeats 2000000
open Go.Proofs
variable {G : Gh}
abbrev tScn : TypeId := 70
theorem c_CutPrefixL {s p : List UInt8} (hs : s.length ≤ 1000000 ∧ p.length ≤ 1000000) : PuG Tryz.prog 90 [S s, S p] G (· = Tu [S (if p.isPrefixOf s = true then s.drop p.length else s), Bo (p.isPrefixOf s)]) := by
  have cx_hp : PuG Tryz.prog 68 [S s, S p] G (· = Bo (p.isPrefixOf s)) := c_HasPrefix0
  cases hp : p.isPrefixOf s with
  | false =>
    rw [hp] at cx_hp
    refine p_enter [(0, _), (1, _)] Tryz.func90 (by kernel_rfl) Tryz.ntmps90 rfl rfl (by repeat (first | exact trivial | refine ⟨rfl, ?_⟩)) fun B hB => ?_
    repeat' (first | (refine run (t := tb) 400 rfl ?_ ?_; (focus (repeat' ((exact trivial))))) | (refine k_op rfl ?_; (refine c_rt rfl rfl rfl c_HasPrefix0 rfl ?_)) | (refine k_tt rfl ?_ ?_; (focus (((simp [*]; done)); done))))
    refine k_rr (vs := [_, _]) rfl ⟨rfl, rfl, trivial⟩ rfl (List.nil_sublist _) ⟨rfl, rfl, ?_⟩
    rfl
  | true =>
    rw [hp] at cx_hp
    have hl : p.length ≤ s.length := by
      have := List.isPrefixOf_iff_prefix.1 hp
      exact this.length_le
    refine p_enter [(0, _), (1, _)] Tryz.func90 (by kernel_rfl) Tryz.ntmps90 rfl rfl (by repeat (first | exact trivial | refine ⟨rfl, ?_⟩)) fun B hB => ?_
    repeat' (first | (refine run (t := tb) 400 rfl ?_ ?_; (focus (repeat' (first | exact trivial | apply And.intro | omega)))) | (refine k_op rfl ?_; (refine c_rt rfl rfl rfl c_HasPrefix0 rfl ?_)) | (refine k_ff rfl ?_ ?_; (focus (((simp [*]; done)); done))))
    refine k_rr (vs := [_, _]) rfl ⟨rfl, rfl, trivial⟩ rfl (List.nil_sublist _) ⟨rfl, rfl, ?_⟩
    rfl
theorem c_CutPrefix {s p : List UInt8} (hs : s.length ≤ 1000000 ∧ p.length ≤ 1000000) : PuG Tryz.prog 71 [S s, S p] G (· = Tu [S (if p.isPrefixOf s = true then s.drop p.length else s), Bo (p.isPrefixOf s)]) := by
  have cx_cp := c_CutPrefixL (G := G) hs
  refine p_enter [(0, _), (1, _)] Tryz.func71 (by kernel_rfl) Tryz.ntmps71 rfl rfl (by repeat (first | exact trivial | refine ⟨rfl, ?_⟩)) fun B hB => ?_
  repeat' (first | (refine run (t := tb) 400 rfl ?_ ?_; (focus (repeat' ((exact trivial))))) | (refine k_op rfl ?_; (refine c_rt rfl rfl rfl cx_cp rfl ?_)))
  refine k_rr (vs := [_, _]) rfl ⟨rfl, rfl, trivial⟩ rfl (List.nil_sublist _) ⟨rfl, rfl, ?_⟩
  rfl
/-- A sign is taken: whether it was there. -/
def tkR (l s : List UInt8) (b : Bool) : Bool := !b && l.isPrefixOf s
def tkS (l s : List UInt8) (b : Bool) : List UInt8 := if tkR l s b = true then s.drop l.length else s
abbrev scO (r sc : Nat) (s : List UInt8) (b : Bool) : Own := .blk r (.cells (List.toArray [Pt sc 0, S s, Bo b]) tScn (0, 0))
theorem c_take {r sc : Nat} {s l : List UInt8} {b : Bool} (hs : s.length ≤ 1000000 ∧ l.length ≤ 1000000) : FnG Tryz.prog 47 [Pt r 0, S l] G [scO r sc s b] (fun v L' => v = Bo (tkR l s b) ∧ L' = [scO r sc (tkS l s b) b]) := by
  have cx_cp := c_CutPrefix (G := G) hs
  unfold tkS tkR
  cases hp : l.isPrefixOf s with
  | false =>
    rw [hp] at cx_cp
    refine g_enter [(0, _), (1, _)] Tryz.func47 (by kernel_rfl) Tryz.ntmps47 rfl rfl (by repeat (first | exact trivial | refine ⟨rfl, ?_⟩)) fun B hB hW => ?_
    repeat' (first | (refine run (t := tb) 400 rfl ?_ ?_; (focus (repeat' ((exact trivial))))) | (refine k_op rfl ?_; first | refine v_op (g_ld rfl rfl rfl) rfl rfl ?_ | (refine v_op (g_pickF rfl rfl ?_) rfl rfl ?_; (focus (((rfl)); done))) | (refine c_rt rfl rfl rfl cx_cp rfl ?_)) | (refine k_gf rfl rfl ?_ ?_; (focus (((rfl)); done))) | (refine k_ff rfl ?_ ?_; (focus (((rfl)); done))))
    exact k_rr (vs := [_]) rfl ⟨rfl, trivial⟩ rfl (List.Sublist.refl _) ⟨rfl, by cases b <;> rfl, by cases b <;> rfl⟩
  | true =>
    rw [hp] at cx_cp
    cases b with
    | true =>
      refine g_enter [(0, _), (1, _)] Tryz.func47 (by kernel_rfl) Tryz.ntmps47 rfl rfl (by repeat (first | exact trivial | refine ⟨rfl, ?_⟩)) fun B hB hW => ?_
      repeat' (first | (refine run (t := tb) 400 rfl ?_ ?_; (focus (repeat' ((exact trivial))))) | (refine k_op rfl ?_; first | refine v_op (g_ld rfl rfl rfl) rfl rfl ?_ | (refine v_op (g_pickT rfl rfl ?_) rfl rfl ?_; (focus (((rfl)); done))) | (refine c_rt rfl rfl rfl cx_cp rfl ?_)) | (refine k_gt rfl rfl ?_ ?_; (focus (((rfl)); done))) | (refine k_ff rfl ?_ ?_; (focus (((rfl)); done))))
      exact k_rr (vs := [_]) rfl ⟨rfl, trivial⟩ rfl (List.Sublist.refl _) ⟨rfl, rfl, rfl⟩
    | false =>
      refine g_enter [(0, _), (1, _)] Tryz.func47 (by kernel_rfl) Tryz.ntmps47 rfl rfl (by repeat (first | exact trivial | refine ⟨rfl, ?_⟩)) fun B hB hW => ?_
      repeat' (first | (refine run (t := tb) 400 rfl ?_ ?_; (focus (repeat' ((exact trivial))))) | (refine k_op rfl ?_; first | refine v_op (g_ld rfl rfl rfl) rfl rfl ?_ | (refine v_op (g_pickT rfl rfl ?_) rfl rfl ?_; (focus (((rfl)); done))) | refine c_st1 rfl rfl rfl rfl ?_ | (refine c_rt rfl rfl rfl cx_cp rfl ?_)) | (refine k_gt rfl rfl ?_ ?_; (focus (((rfl)); done))) | (refine k_tt rfl ?_ ?_; (focus (((rfl)); done))))
      exact k_rr (vs := [_]) rfl ⟨rfl, trivial⟩ rfl (List.Sublist.refl _) ⟨rfl, rfl, rfl⟩
theorem c_want {r sc : Nat} {s l : List UInt8} {b : Bool} (hs : s.length ≤ 1000000 ∧ l.length ≤ 1000000) : FnG Tryz.prog 48 [Pt r 0, S l] G [scO r sc s b] (fun v L' => L' = [scO r sc (tkS l s b) (!tkR l s b)]) := by
  have cx_tk := c_take (G := G) (r := r) (sc := sc) (b := b) hs
  cases ht : tkR l s b with
  | false =>
    rw [ht] at cx_tk
    refine g_enter [(0, _), (1, _)] Tryz.func48 (by kernel_rfl) Tryz.ntmps48 rfl rfl (by repeat (first | exact trivial | refine ⟨rfl, ?_⟩)) fun B hB hW => ?_
    repeat' (first | (refine run (t := tb) 400 rfl ?_ ?_; (focus (repeat' ((exact trivial))))) | (refine k_op rfl ?_; first | refine c_st1 rfl rfl rfl rfl ?_ | (refine c_m1g rfl rfl rfl cx_tk rfl ?_; rintro _ _ ⟨rfl, rfl⟩; dsimp only [List.cons_append, List.nil_append])) | (refine k_tt rfl ?_ ?_; (focus (((rfl)); done))))
    exact k_re (vs := []) rfl trivial rfl (List.Sublist.refl _) ⟨rfl, rfl⟩
  | true =>
    have hb : b = false := by unfold tkR at ht; cases b <;> simp_all
    subst hb
    rw [ht] at cx_tk
    refine g_enter [(0, _), (1, _)] Tryz.func48 (by kernel_rfl) Tryz.ntmps48 rfl rfl (by repeat (first | exact trivial | refine ⟨rfl, ?_⟩)) fun B hB hW => ?_
    repeat' (first | (refine run (t := tb) 400 rfl ?_ ?_; (focus (repeat' ((exact trivial))))) | (refine k_op rfl ?_; (refine c_m1g rfl rfl rfl cx_tk rfl ?_; rintro _ _ ⟨rfl, rfl⟩; dsimp only [List.cons_append, List.nil_append])) | (refine k_ff rfl ?_ ?_; (focus (((rfl)); done))))
    exact k_re (vs := []) rfl trivial rfl (List.Sublist.refl _) ⟨rfl, rfl⟩
end Go.E
/-! We -/
namespace Go.E
set_option maxRecDepth 20000
set_option maxHeartbeats 2000000
theorem trimL_drop {p : Nat → Bool} {q : UInt8 → Bool} (h : ∀ c : UInt8, p c.toNat = q c) : ∀ s : List UInt8, trimL p s = s.dropWhile q
  | [] => rfl
  | c :: r => by
    rw [trimL, h c, List.dropWhile_cons]
    cases q c with
    | true => simp only [if_true]; exact trimL_drop h r
    | false => simp
theorem dgb_in : ∀ c : UInt8, inS [48, 49, 50, 51, 52, 53, 54, 55, 56, 57] c.toNat = isDg c := by
  intro c
  have : ∀ n : Nat, n < 256 → inS [48, 49, 50, 51, 52, 53, 54, 55, 56, 57] n = decide (48 ≤ n ∧ n ≤ 57) := by decide +kernel
  exact this _ c.toNat_lt
def txB : List UInt8 := [97, 98, 99, 100, 101, 102, 103, 104, 105, 106, 107, 108, 109, 110, 111, 112, 113, 114, 115, 116, 117, 118, 119, 120, 121, 122, 48, 49, 50, 51, 52, 53, 54, 55, 56, 57, 32]
def isTb (c : UInt8) : Bool := decide (txN c.toNat)
theorem txb_in : ∀ c : UInt8, inS txB c.toNat = isTb c := by
  intro c
  have : ∀ n : Nat, n < 256 → inS txB n = decide (txN n) := by decide +kernel
  exact this _ c.toNat_lt
theorem take_drop_while (q : UInt8 → Bool) (s : List UInt8) : s.take (s.length - (s.dropWhile q).length) = s.takeWhile q := by
  have h := List.takeWhile_append_dropWhile (p := q) (l := s)
  have hl : (s.takeWhile q).length + (s.dropWhile q).length = s.length := by
    have := congrArg List.length h
    rwa [List.length_append] at this
  have e : s.length - (s.dropWhile q).length = (s.takeWhile q).length := by omega
  rw [e]
  have h2 : (s.takeWhile q ++ s.dropWhile q).take (s.takeWhile q).length = s.takeWhile q := List.take_left
  rwa [h] at h2
theorem while_len (q : UInt8 → Bool) (s : List UInt8) : (s.takeWhile q).length + (s.dropWhile q).length = s.length := by
  have h := List.takeWhile_append_dropWhile (p := q) (l := s)
  have := congrArg List.length h
  rwa [List.length_append] at this
theorem txP_iff (x : List UInt8) : isTx (39 :: (x ++ [39])) = true ↔ x.length ≤ 12 ∧ ∀ c ∈ x, isTb c = true := by
  unfold isTx
  rw [decide_eq_true_eq]
  unfold TxP
  have e0 : bt (39 :: (x ++ [39])) 0 = 39 := bt_zero _ _
  have e1 : (39 :: (x ++ [39]) : List UInt8).length = x.length + 2 := by simp
  have e2 : bt (39 :: (x ++ [39])) (x.length + 1) = 39 := by
    rw [bt_succ]; simp [bt]
  have e3 : ∀ i, i < x.length → bt (39 :: (x ++ [39])) (i + 1) = bt x i := fun i hi => by
    rw [bt_succ]; simp [bt, List.getD, List.getElem?_append_left hi]
  rw [e1, show x.length + 2 - 1 = x.length + 1 by omega]
  constructor
  · rintro ⟨⟨_, h1⟩, _, _, h2⟩
    refine ⟨by omega, fun c hc => ?_⟩
    obtain ⟨i, hi, rfl⟩ := List.mem_iff_getElem.1 hc
    have := h2 (i + 1) (by omega)
    rw [e3 i hi] at this
    have h3 : bt x i = (x[i]).toNat := by simp [bt, List.getD, List.getElem?_eq_getElem hi]
    rw [h3] at this
    unfold isTb
    rw [decide_eq_true_eq]
    rcases this with h | h
    · omega
    · exact h
  · rintro ⟨h1, h2⟩
    refine ⟨⟨by omega, by omega⟩, e0, e2, fun i hi => ?_⟩
    cases i with
    | zero => exact .inl rfl
    | succ i =>
      have hi' : i < x.length := by omega
      rw [e3 i hi']
      have h3 : bt x i = (x[i]).toNat := by simp [bt, List.getD, List.getElem?_eq_getElem hi']
      rw [h3]
      have := h2 _ (List.getElem_mem hi')
      unfold isTb at this
      rw [decide_eq_true_eq] at this
      exact .inr this
theorem isTb39 {c : UInt8} (h : c.toNat = 39) : isTb c = false := by
  have : c = 39 := UInt8.toNat_inj.1 h
  subst this; decide
/-- A text is read in the one way or in the other. -/
theorem quote_law (s : List UInt8) : rdQuote s = match s with
    | [] => none
    | c :: r => if c.toNat = 39 then (match r.dropWhile isTb with
      | [] => none
      | d :: t => if d.toNat = 39 ∧ (r.takeWhile isTb).length ≤ 12 then some (.nd 116 (r.takeWhile isTb) 0 [], t) else none) else none := by
  cases s with
  | nil => rfl
  | cons c r =>
    unfold rdQuote
    dsimp only
    by_cases hc : c.toNat = 39
    · rw [if_pos hc, if_pos hc]
      have hcut : ∀ r : List UInt8, cut1 39 r = match r.dropWhile isTb with
        | [] => (r, [], false)
        | d :: t => if d.toNat = 39 then (r.takeWhile isTb, t, true) else (r.takeWhile isTb ++ (cut1 39 (d :: t)).1, (cut1 39 (d :: t)).2) := by
        intro r
        induction r with
        | nil => rfl
        | cons x r ih =>
          rw [List.dropWhile_cons, List.takeWhile_cons]
          by_cases hx : isTb x = true
          · rw [if_pos hx, if_pos hx]
            have h39 : ¬ x.toNat = 39 := fun h => by rw [isTb39 h] at hx; cases hx
            rw [cut1, if_neg h39, ih]
            cases hd : r.dropWhile isTb with
            | nil => rfl
            | cons d t =>
              dsimp only
              split
              · rfl
              · rfl
          · rw [if_neg hx, if_neg hx]
            dsimp only
            split
            · rename_i h39; rw [cut1, if_pos h39]
            · simp
      rw [hcut]
      cases hd : r.dropWhile isTb with
      | nil => rfl
      | cons d t =>
        dsimp only
        by_cases h39 : d.toNat = 39
        · rw [if_pos h39]
          dsimp only
          by_cases h12 : (r.takeWhile isTb).length ≤ 12
          · rw [if_pos ((txP_iff _).2 ⟨h12, fun c hc => List.all_eq_true.1 (List.all_takeWhile (l := r) (p := isTb)) c hc⟩), if_pos ⟨h39, h12⟩]
          · rw [if_neg (fun h => h12 ((txP_iff _).1 h).1), if_neg (fun h => h12 h.2)]
        · rw [if_neg h39, if_neg (fun h => h39 h.1)]
          cases hcc : cut1 39 (d :: t) with
          | mk a b =>
            obtain ⟨b, f⟩ := b
            cases f with
            | false => rfl
            | true =>
              dsimp only
              rw [if_neg]
              intro h
              have hall := ((txP_iff _).1 h).2
              have hdx : isTb d = false := by
                have := List.head_dropWhile_not (p := isTb) (l := r) (by rw [hd]; simp)
                simpa [hd] using this
              have ha : d ∈ a := by
                rw [cut1, if_neg h39] at hcc
                simp only [Prod.mk.injEq] at hcc
                rw [← hcc.1]; simp
              have := hall d (List.mem_append_right _ ha)
              rw [hdx] at this; cases this
    · rw [if_neg hc, if_neg hc]
end Go.E
