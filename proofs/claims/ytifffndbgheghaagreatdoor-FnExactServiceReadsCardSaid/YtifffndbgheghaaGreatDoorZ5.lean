/- Contracts and plain laws that the statement rests on, part 5. Conditions: as each says. -/
import Derived.Test.YtifffndbgheghaaGreatDoorZ4
import Derived.Test.YtifffndbgheghaaGreatDoorZ3
set_option linter.unusedVariables false
set_option linter.unusedSimpArgs false
/-! Mp -/
namespace Go.E
set_option maxRecDepth 20000
set_option maxHeartbeats 2000000
open Go.Proofs
variable {G : Gh}
abbrev tPT : TypeId := 98
abbrev tSc : TypeId := 95
def RsPost (s : List UInt8) (v : Value) (G : Gh) : Prop := (schemaOf s = none ∧ ∃ p, v = Tu [p, Bo false]) ∨ ∃ b qs, v = Tu [Pt b 0, Bo true] ∧ schemaOf s = some (tyq qs) ∧ ScI G b qs
theorem tyq_len (qs : List TyP) : (tyq qs).length = qs.length := by simp [tyq]
theorem nth_tyq {qs : List TyP} {i : Nat} (h : i < qs.length) : nth (tyq qs) i = (nth qs i).2 := by
  rw [nth_eq h, nth_eq (by rw [tyq_len]; exact h)]; simp [tyq]
theorem findQ_some {qs : List TyP} {n : List UInt8} {q : TyP} (h : findQ qs n = some q) : ∃ i, i < (tyq qs).length ∧ (nth (tyq qs) i).name = n := by
  have h1 := findQ_mem h
  have h2 : n = q.2.name := by unfold findQ at h; simpa using List.find?_some h
  obtain ⟨i, hi, rfl⟩ := mem_nth h1
  exact ⟨i, by rw [tyq_len]; exact hi, by rw [nth_tyq hi, h2]⟩
theorem findQ_none {qs : List TyP} {n : List UInt8} (h : findQ qs n = none) : ∀ i, i < qs.length → (nth (tyq qs) i).name ≠ n := by
  intro i hi e
  unfold findQ at h
  rw [List.find?_eq_none] at h
  have := h _ (nth_mem hi)
  rw [nth_tyq hi] at e
  simp [e] at this
theorem c_readSchema {s : List UInt8} (h : s.length ≤ 10000000) : FnS Tryz.prog 36 [S s] G (RsPost s) := by
  by_cases hl : s.length ≤ 400
  case neg =>
    have hno := schema_len hl
    refine b_enter [(0, _)] Tryz.func36 (by kernel_rfl) Tryz.ntmps36 rfl rfl (by repeat (first | exact trivial | refine ⟨rfl, ?_⟩)) fun B hok hB hW => ?_
    repeat' (first | (refine run (t := tb) 400 rfl ?_ ?_; (focus (repeat' ((exact trivial))))) | (refine k_tt rfl ?_ ?_; (focus (((refine decide_eq_true ?_; (omega))); done))))
    all_goals refine k_rr (vs := [_, _]) rfl ⟨rfl, rfl, trivial⟩ rfl (List.nil_sublist _) ⟨Gh.le.refl _, rfl, ?_⟩
    all_goals exact .inl ⟨hno, _, rfl⟩
  refine b_enter [(0, _)] Tryz.func36 (by kernel_rfl) Tryz.ntmps36 rfl rfl (by repeat (first | exact trivial | refine ⟨rfl, ?_⟩)) fun B hok hB hW => ?_
  repeat' (first | (refine run (t := tb) 400 rfl ?_ ?_; (focus (repeat' ((exact trivial))))) | (refine k_op rfl ?_; first | refine c_mkm rfl fun _ => ?_ | refine v_op (g_bld rfl rfl) rfl rfl ?_ | refine c_bx rfl rfl rfl fun _ => ?_) | (refine k_ff rfl ?_ ?_; (focus (((refine decide_eq_false ?_; (omega))); done))))
  rename_i m x
  refine Nx.addNil tPT 1 ?_
  refine k_loop (ι := Value × List TyP × List (List UInt8) × List UInt8 × Gh) (fun i => Rdg s i.2.2.1 (tyq i.2.1) i.2.2.2.1 ∧ (i.2.1.length ≤ 8 ∧ i.2.2.2.1.length ≤ s.length) ∧ (∀ a, a < i.2.1.length → NamesAt (tyq i.2.1) a) ∧ (∀ q ∈ i.2.1, TyI i.2.2.2.2 q.1 q.2) ∧ Gh.le G i.2.2.2.2) (fun i => [(0, S i.2.2.2.1), (4, Pt x 0)]) (fun i => i.2.2.2.2) (fun i => [.acc i.1 tPT 1 i.2.1.length (rows ptF i.2.1), .blk x (.cells [i.1, .map (some m)].toArray tSc (0, 0)), .blk m (mapO (kvsOf i.2.1))]) (fun i => i.2.2.2.1.length) (nilS, [], [], s, G) ?_ (by repeat (first | exact trivial | refine ⟨rfl, ?_⟩)) rfl (by repeat ((exact List.Sublist.refl _))) (fun i Hi => ?_)
  · exact ⟨Rdg.start s, ⟨by simp, Nat.le_refl _⟩, fun a ha => absurd ha (by simp), by simp, Gh.le.refl _⟩
  obtain ⟨u, qs, ls, t, Gk⟩ := i
  dsimp only at Hi ⊢
  obtain ⟨hR, ⟨h8, htl⟩, hna, hti, hgk⟩ := Hi
  refine Nx.shp (v := u) (.head _) fun hsh => ?_
  have hsh2 := hsh
  obtain ⟨au, cu, rfl⟩ := hsh.sl
  by_cases ht : t = []
  case neg =>
    have cx_cut : ∀ G, PuG Tryz.prog 46 [S t, S [10]] G (· = Tu [S (cut1 10 t).1, S (cut1 10 t).2.1, Bo (cut1 10 t).2.2]) := fun G => c_Cut (c := 10) (by omega)
    have hcl := cut1_len (k := 10) (s := t)
    cases hc : (cut1 10 t).2.2 with
    | false =>
      have hno := hR.noend ht hc
      have hc2 : (!(cut1 10 t).2.2) = true := by rw [hc]; rfl
      repeat' (first | (refine run (t := tb) 400 rfl ?_ ?_; (focus (repeat' ((exact trivial))))) | (refine k_op rfl ?_; first | (refine v_op (g_pickT rfl rfl ?_) rfl rfl ?_; (focus (((rfl)); done))) | (refine c_rt rfl rfl rfl (cx_cut _) rfl ?_)) | (refine k_gt rfl rfl ?_ ?_; (focus (((assumption)); done))) | (refine k_tt rfl ?_ ?_; (focus ((first | rfl | (refine decide_eq_true ?_; (assumption))); done))))
      all_goals refine k_rr (vs := [_, _]) rfl ⟨rfl, rfl, trivial⟩ rfl (List.nil_sublist _) ⟨hgk, rfl, ?_⟩
      all_goals exact .inl ⟨hno, _, rfl⟩
    | true =>
      have hce : cut1 10 t = ((cut1 10 t).1, (cut1 10 t).2.1, true) := by rw [← hc]
      have hlt : (cut1 10 t).2.1.length < t.length := by
        obtain ⟨d, _, e⟩ := cut1_some hce
        have := congrArg List.length e
        simp at this; omega
      rw [hc] at cx_cut
      generalize (cut1 10 t).1 = line at *
      generalize (cut1 10 t).2.1 = rest at *
      clear hc
      by_cases h9 : qs.length = 8
      · have hno := hR.many hce (by rw [tyq_len]; exact h9)
        repeat' (first | (refine run (t := tb) 400 rfl ?_ ?_; (focus (repeat' ((exact trivial))))) | (refine k_op rfl ?_; first | refine v_op (g_ld rfl rfl rfl) rfl rfl ?_ | refine v_op (g_lenL rfl) rfl rfl ?_ | (refine v_op (g_pickF rfl rfl ?_) rfl rfl ?_; (focus (((rfl)); done))) | (refine c_rt rfl rfl rfl (cx_cut _) rfl ?_)) | (refine k_gf rfl rfl ?_ ?_; (focus (((rfl)); done))) | (refine k_tt rfl ?_ ?_; (focus (((refine decide_eq_true ?_; first | assumption | omega)); done))))
        all_goals refine k_rr (vs := [_, _]) rfl ⟨rfl, rfl, trivial⟩ rfl (List.nil_sublist _) ⟨hgk, rfl, ?_⟩
        all_goals exact .inl ⟨hno, _, rfl⟩
      have hle1 : line.length ≤ 1000 := by omega
      cases hty : tyOf line with
      | none =>
        have hno := hR.bad hce hty
        have cx_rt0 : ∀ G, FnS Tryz.prog 47 [S line] G (fun v _ => ∃ p, v = Tu [p, Bo false]) := fun G => by
          refine (c_readType (G := G) hle1).mono ?_
          rintro v G' L' ⟨h1, h2, ⟨_, p, rfl⟩ | ⟨_, _, _, h4, _⟩⟩
          · exact ⟨h1, h2, p, rfl⟩
          · rw [hty] at h4; cases h4
        repeat' (first | (refine run (t := tb) 400 rfl ?_ ?_; (focus (repeat' ((exact trivial))))) | (refine k_op rfl ?_; first | refine v_op (g_ld rfl rfl rfl) rfl rfl ?_ | refine v_op (g_lenL rfl) rfl rfl ?_ | (refine v_op (g_pickF rfl rfl ?_) rfl rfl ?_; (focus (((rfl)); done))) | (refine c_rt rfl rfl rfl (cx_cut _) rfl ?_) | (refine c_fns rfl rfl rfl (cx_rt0 _) rfl ?_; rintro _ G hle ⟨p, rfl⟩; skip)) | (refine k_gf rfl rfl ?_ ?_; (focus (((rfl)); done))) | (refine k_tt rfl ?_ ?_; (focus ((first | rfl | (refine decide_eq_true ?_; (assumption))); done))) | (refine k_ff rfl ?_ ?_; (focus (((refine decide_eq_false ?_; (omega))); done))) | (refine k_any (s_any (id := 9) _ (fun _ h => h) mixed ?_); refine x_tks (t := tb) (fuel := 11) [0, 1, 2] (bts 14 7) (by kernel_rfl) (by kernel_rfl) rfl rfl (Gh.le.refl _) (by repeat ((exact List.Sublist.refl _))) ?_ ?_; (focus (repeat' ((exact trivial)))); (try ((refine Nx.re (d := 47) (v' := Bo true) rfl (congrArg Value.bool ?_) ?_; (focus (((rfl)); done))))); refine x_tks (t := tb) (fuel := 5) [3, 4, 5, 7, 8, 9] (bts 14 959) (by kernel_rfl) (by kernel_rfl) rfl rfl (Gh.le.refl _) (by repeat ((exact List.Sublist.refl _))) ?_ ?_; (focus (repeat' ((exact trivial)))); ((refine x_tkn (bts 14 1023) 6 rfl (by kernel_rfl) rfl (Gh.le.refl _) (by repeat ((exact List.Sublist.refl _))) rfl rfl ?_)); ((refine x_tkn (bts 14 2047) 10 rfl (by kernel_rfl) rfl (Gh.le.refl _) (by repeat ((exact List.Sublist.refl _))) rfl rfl ?_)); ((refine x_tkn (bts 14 4095) 11 rfl (by kernel_rfl) rfl (Gh.le.refl _) (by repeat ((exact List.Sublist.refl _))) rfl rfl ?_)); ((refine x_tkn (bts 14 8191) 12 rfl (by kernel_rfl) rfl (Gh.le.refl _) (by repeat ((exact List.Sublist.refl _))) rfl rfl ?_)); ((refine (x_tkg (bts 14 16383) 13 rfl (by kernel_rfl) rfl (Gh.le.refl _) (by repeat ((exact List.Sublist.refl _)))) (g_pickT rfl rfl ?_) rfl rfl ?_; (focus (((rfl)); done)))); refine x_done (by kernel_rfl) (k_bk ?_)))
        all_goals refine k_rr (vs := [_, _]) rfl ⟨rfl, rfl, trivial⟩ rfl (List.nil_sublist _) ⟨hgk.trans hle, rfl, ?_⟩
        all_goals exact .inl ⟨hno, _, rfl⟩
      | some ty =>
      have cx_rt1 : ∀ G, FnS Tryz.prog 47 [S line] G (fun v G' => ∃ b fv ln, v = Tu [Pt b 0, Bo true] ∧ Seg G' b 0 [U8 ty.sort, S ty.name, fv, S ln] ∧ SlV G' fv 6 ty.fields.length (rows fiF ty.fields)) := fun G => by
        refine (c_readType (G := G) hle1).mono ?_
        rintro v G' L' ⟨h1, h2, ⟨h4, _⟩ | ⟨b, t2, rfl, h4, fv, ln, h5, h6⟩⟩
        · rw [hty] at h4; cases h4
        · rw [hty] at h4; simp only [Option.some.injEq] at h4; subst h4
          exact ⟨h1, h2, b, fv, ln, rfl, h5, h6⟩
      have hkv := kvF_find qs ty.name
      cases hf : findQ qs ty.name with
      | some q =>
        rw [hf] at hkv
        dsimp only [Option.map_some] at hkv
        obtain ⟨i, hi, hn⟩ := findQ_some hf
        have hno := hR.dup hce hty i hi hn
        repeat' (first | (refine run (t := tb) 400 rfl ?_ ?_; (focus (repeat' ((exact trivial))))) | (refine k_op rfl ?_; first | refine v_op (g_ld rfl rfl rfl) rfl rfl ?_ | refine v_op (g_lenL rfl) rfl rfl ?_ | (refine v_op (g_pickF rfl rfl ?_) rfl rfl ?_; (focus (((rfl)); done))) | (refine c_rt rfl rfl rfl (cx_cut _) rfl ?_) | (refine c_fns rfl rfl rfl (cx_rt1 _) rfl ?_; rintro _ G hle ⟨b, fv, ln, rfl, hsg, hfv⟩; skip)) | (refine k_gf rfl rfl ?_ ?_; (focus (((rfl)); done))) | (refine k_tt rfl ?_ ?_; (focus ((first | rfl | (refine decide_eq_true ?_; (assumption))); done))) | (refine k_ff rfl ?_ ?_; (focus (((refine decide_eq_false ?_; (omega))); done))) | (refine k_any (s_any (id := 9) _ (fun _ h => h) mixed ?_); refine x_tks (t := tb) (fuel := 11) [0, 1, 2] (bts 14 7) (by kernel_rfl) (by kernel_rfl) rfl rfl (Gh.le.refl _) (by repeat ((exact List.Sublist.refl _))) ?_ ?_; (focus (repeat' ((exact trivial)))); (try ((refine Nx.re (d := 47) (v' := Bo false) rfl (congrArg Value.bool ?_) ?_; (focus (((rfl)); done))))); refine x_tks (t := tb) (fuel := 5) [3, 4, 5, 7, 8, 9] (bts 14 959) (by kernel_rfl) (by kernel_rfl) rfl rfl (Gh.le.refl _) (by repeat ((exact List.Sublist.refl _))) ?_ ?_; (focus (repeat' ((exact trivial)))); ((refine (x_tkg (bts 14 1023) 6 rfl (by kernel_rfl) rfl (Gh.le.refl _) (by repeat ((exact List.Sublist.refl _)))) (g_ld rfl rfl rfl) rfl rfl ?_)); ((refine (x_tkg (bts 14 2047) 10 rfl (by kernel_rfl) rfl (Gh.le.refl _) (by repeat ((exact List.Sublist.refl _)))) (g_ldS rfl rfl (by assumption) rfl rfl) rfl rfl ?_)); ((refine (x_tkg (bts 14 4095) 11 rfl (by kernel_rfl) rfl (Gh.le.refl _) (by repeat ((exact List.Sublist.refl _)))) (g_lookupX rfl rfl (map_own MapI.mem) (by assumption) rfl) rfl rfl ?_)); ((refine (x_tkg (bts 14 8191) 12 rfl (by kernel_rfl) rfl (Gh.le.refl _) (by repeat ((exact List.Sublist.refl _)))) (g_pne0 rfl rfl) rfl rfl ?_)); ((refine (x_tkg (bts 14 16383) 13 rfl (by kernel_rfl) rfl (Gh.le.refl _) (by repeat ((exact List.Sublist.refl _)))) (g_pickF rfl rfl ?_) rfl rfl ?_; (focus (((rfl)); done)))); refine x_done (by kernel_rfl) (k_bk ?_)))
        all_goals refine k_rr (vs := [_, _]) rfl ⟨rfl, rfl, trivial⟩ rfl (List.nil_sublist _) ⟨hgk.trans hle, rfl, ?_⟩
        all_goals exact .inl ⟨hno, _, rfl⟩
      | none =>
        rw [hf] at hkv
        dsimp only [Option.map_none] at hkv
        
        repeat' (first | (refine run (t := tb) 400 rfl ?_ ?_; (focus (repeat' ((exact trivial))))) | (refine k_op rfl ?_; first | refine v_op (g_ld rfl rfl rfl) rfl rfl ?_ | refine v_op (g_lenL rfl) rfl rfl ?_ | (refine v_op (g_pickF rfl rfl ?_) rfl rfl ?_; (focus (((rfl)); done))) | (refine c_rt rfl rfl rfl (cx_cut _) rfl ?_) | (refine c_fns rfl rfl rfl (cx_rt1 _) rfl ?_; rintro _ G hle ⟨b, fv, ln, rfl, hsg, hfv⟩; skip)) | (refine k_gf rfl rfl ?_ ?_; (focus (((rfl)); done))) | (refine k_tt rfl ?_ ?_; (focus (((refine decide_eq_true ?_; (assumption))); done))) | (refine k_ff rfl ?_ ?_; (focus (((refine decide_eq_false ?_; (omega))); done))))
        (refine k_any (s_any (id := 9) _ (fun _ h => h) mixed ?_); refine x_tks (t := tb) (fuel := 11) [0, 1, 2] (bts 14 7) (by kernel_rfl) (by kernel_rfl) rfl rfl (Gh.le.refl _) (by repeat ((exact List.Sublist.refl _))) ?_ ?_; (focus (repeat' ((exact trivial)))); (try ((refine Nx.re (d := 47) (v' := Bo false) rfl (congrArg Value.bool ?_) ?_; (focus (((rfl)); done))))); refine x_tks (t := tb) (fuel := 5) [3, 4, 5, 7, 8, 9] (bts 14 959) (by kernel_rfl) (by kernel_rfl) rfl rfl (Gh.le.refl _) (by repeat ((exact List.Sublist.refl _))) ?_ ?_; (focus (repeat' ((exact trivial)))); ((refine (x_tkg (bts 14 1023) 6 rfl (by kernel_rfl) rfl (Gh.le.refl _) (by repeat ((exact List.Sublist.refl _)))) (g_ld rfl rfl rfl) rfl rfl ?_)); ((refine (x_tkg (bts 14 2047) 10 rfl (by kernel_rfl) rfl (Gh.le.refl _) (by repeat ((exact List.Sublist.refl _)))) (g_ldS rfl rfl (by assumption) rfl rfl) rfl rfl ?_)); ((refine (x_tkg (bts 14 4095) 11 rfl (by kernel_rfl) rfl (Gh.le.refl _) (by repeat ((exact List.Sublist.refl _)))) (g_lookupX rfl rfl (map_own MapI.mem) (by assumption) rfl) rfl rfl ?_)); ((refine (x_tkg (bts 14 8191) 12 rfl (by kernel_rfl) rfl (Gh.le.refl _) (by repeat ((exact List.Sublist.refl _)))) (g_pne0 rfl rfl) rfl rfl ?_)); ((refine (x_tkg (bts 14 16383) 13 rfl (by kernel_rfl) rfl (Gh.le.refl _) (by repeat ((exact List.Sublist.refl _)))) (g_pickF rfl rfl ?_) rfl rfl ?_; (focus (((rfl)); done)))); refine x_done (by kernel_rfl) (k_bk ?_))
        repeat' (first | (refine run (t := tb) 400 rfl ?_ ?_; (focus (repeat' ((exact trivial))))) | (refine k_op rfl ?_; first | refine v_op (g_ld rfl rfl rfl) rfl rfl ?_ | refine c_bsl rfl rfl rfl rfl rfl rfl fun _ => ?_ | (refine c_apX rfl rfl rfl rfl rfl rfl rfl rfl rfl ?_ fun _ _ => ?_; (focus ((omega); done))) | refine c_st1 rfl rfl rfl rfl ?_) | (refine k_ff rfl ?_ ?_; (focus (((rfl)); done))))
        rename_i w b2 c2
        (refine k_any (s_any (id := 12) [.blk x (.cells [.slice (some ⟨b2, 0, none⟩) (qs.length + 1) c2, .map (some m)].toArray tSc (0, 0))] (by intro y hy; simp only [List.mem_cons, List.not_mem_nil, or_false] at hy ⊢; simp [hy]) mixed ?_); refine x_tks (t := tb) (fuel := 3) [0, 1, 2, 4, 5, 6, 8] (bts 10 375) (by kernel_rfl) (by kernel_rfl) rfl rfl (Gh.le.refl _) (by repeat (first | exact List.nil_sublist _ | apply List.Sublist.cons_cons | apply List.Sublist.cons)) ?_ ?_; (focus (repeat' ((exact trivial)))); ((refine (x_tkg (bts 10 383) 3 rfl (by kernel_rfl) rfl (Gh.le.refl _) (by repeat (first | exact List.nil_sublist _ | apply List.Sublist.cons_cons | apply List.Sublist.cons))) (g_ld rfl rfl rfl) rfl rfl ?_)); ((refine (x_tkg (bts 10 511) 7 rfl (by kernel_rfl) rfl (Gh.le.refl _) (by repeat (first | exact List.nil_sublist _ | apply List.Sublist.cons_cons | apply List.Sublist.cons))) (g_ldS rfl rfl (by assumption) rfl rfl) rfl rfl ?_)); refine x_all [9] (by kernel_rfl) (by decide) ⟨?_, trivial⟩; refine x_opg rfl rfl ?_; ((refine c_mup rfl rfl rfl rfl ?_ ?_; (focus (((assumption)); done)))); refine x_ks (by (exact Gh.le.refl _)) (by repeat (first | exact List.nil_sublist _ | apply List.Sublist.cons_cons | apply List.Sublist.cons)) (listed' := (bts 10 1023)) (by kernel_rfl) ?_; refine x_done (by kernel_rfl) (k_bk ?_))
        repeat' ((refine run (t := tb) 400 rfl ?_ ?_; (focus (repeat' ((exact trivial))))))
        
        have e1 : kvsOf qs ++ [(ty.name, Pt b 0)] = kvsOf (qs ++ [(b, ty)]) := by simp [kvsOf]
        have e2 : rows ptF qs ++ [Pt b 0] = rows ptF (qs ++ [(b, ty)]) := (rows_snoc ptF qs (b, ty)).symm
        have e3 : tyq (qs ++ [(b, ty)]) = tyq qs ++ [ty] := by simp [tyq]
        rw [e1, e2]
        refine k_rd (.slice (some ⟨b2, 0, none⟩) (qs.length + 1) c2, qs ++ [(b, ty)], ls ++ [line], rest, G) ⟨?_, ⟨by simp; omega, by dsimp only; omega⟩, ?_, ?_, hgk.trans hle⟩ (by dsimp only; omega) (by repeat (first | exact trivial | refine ⟨rfl, ?_⟩)) rfl (by dsimp only; simp only [List.length_append, List.length_cons, List.length_nil, Nat.zero_add]; repeat (first | exact List.Sublist.refl _ | apply List.Sublist.cons_cons | apply List.Sublist.cons))
        · dsimp only; rw [e3]; exact hR.step hce hty
        · intro a ha k hk
          dsimp only at ha ⊢
          rw [e3]
          have hlen := tyq_len qs
          have hal : a < qs.length + 1 := by simpa using ha
          rcases Nat.lt_or_ge a qs.length with h3 | h3
          · rw [nth_app (by omega), nth_app (by omega)]; exact hna a h3 k hk
          · have ea : a = qs.length := by omega
            have e4 : nth (tyq qs ++ [ty]) a = ty := by rw [nth_eq (by simp; omega), List.getElem_append_right (by omega)]; simp
            rw [nth_app (by omega), e4]
            exact findQ_none hf k (by omega)
        · intro q hq
          dsimp only at hq ⊢
          rcases List.mem_append.1 hq with hq | hq
          · exact (hti q hq).mono hle
          · simp only [List.mem_singleton] at hq; subst hq; exact ⟨fv, ln, hsg, hfv⟩
  · subst ht
    have hfin := hR.fin hl (by rw [tyq_len]; exact h8)
    have hw : ∀ q ∈ qs, TyW q.2 := fun q hq => (typesOf_w hR.tyE).1 q.2 (show q.2 ∈ qs.map (fun y => y.2) from List.mem_map_of_mem hq)
    refine Nx.sealS (v := .slice au qs.length cu) fun G1 hl1 hsl => ?_
    refine Nx.sealC (b := x) fun G2 hl2 hsx => ?_
    refine Nx.sealM (b := m) fun G3 hl3 hmm => ?_
    have hS : ScI G3 x qs := ⟨⟨_, m, hsx.mono hl3, hsl.mono (hl2.trans hl3), hmm⟩, fun q hq => (hti q hq).mono ((hl1.trans hl2).trans hl3)⟩
    have hgl : Gh.le G G3 := ((hgk.trans hl1).trans hl2).trans hl3
    have hsx3 := hsx.mono hl3
    have hsl3 := hsl.mono (hl2.trans hl3)
    repeat' (first | (refine run (t := tb) 400 rfl ?_ ?_; (focus (repeat' ((exact trivial))))) | (refine k_op rfl ?_; first | refine v_op (g_ldS rfl rfl (by assumption) rfl rfl) rfl rfl ?_ | refine v_op (g_lenL rfl) rfl rfl ?_) | (refine k_ff rfl ?_ ?_; (focus (((rfl)); done))))
    refine k_loop (ι := Nat) (fun k => k ≤ qs.length ∧ ∀ j, j < k → KindsOk (tyq qs) (nth qs j).2) (fun k => [(4, Pt x 0), (82, .slice au qs.length cu), (83, I qs.length), (84, I k)]) (fun k => G3) (fun k => []) (fun k => qs.length - k) 0 ?_ (by repeat (first | exact trivial | refine ⟨rfl, ?_⟩)) rfl (by repeat ((exact List.Sublist.refl _))) (fun k Hk => ?_)
    · exact ⟨Nat.zero_le _, fun j hj => absurd hj (by omega)⟩
    by_cases hk : k < qs.length
    case neg =>
      have hko : ∀ q ∈ qs, KindsOk (tyq qs) q.2 := fun q hq => by
        obtain ⟨j, hj, rfl⟩ := mem_nth hq
        exact Hk.2 j (by omega)
      repeat' (first | (refine run (t := tb) 400 rfl ?_ ?_; (focus (repeat' ((exact trivial))))) | (refine k_op rfl ?_; first | refine v_op (g_ldS rfl rfl (by assumption) rfl rfl) rfl rfl ?_ | refine v_op (g_lenL rfl) rfl rfl ?_) | (refine k_ff rfl ?_ ?_; (focus (((refine decide_eq_false ?_; (omega))); done))))
      refine k_loop (ι := Nat) (fun k => k ≤ qs.length ∧ ∀ j, j < k → endsN (tyq qs) 9 (nth qs j).2 = true) (fun k => [(4, Pt x 0), (114, .slice au qs.length cu), (115, I qs.length), (116, I k)]) (fun k => G3) (fun k => []) (fun k => qs.length - k) 0 ?_ (by repeat (first | exact trivial | refine ⟨rfl, ?_⟩)) rfl (by repeat ((exact List.Sublist.refl _))) (fun k Hk => ?_)
      · exact ⟨Nat.zero_le _, fun j hj => absurd hj (by omega)⟩
      have hends : ∀ j, j < qs.length → endsN (tyq qs) 9 (nth qs j).2 = endsN (tyq qs) ((tyq qs).length + 1) (nth (tyq qs) j) := fun j hj => by
        rw [nth_tyq hj]
        exact ends_eq (by rw [tyq_len]; exact h8) (show (nth qs j).2 ∈ qs.map (fun y => y.2) from List.mem_map_of_mem (nth_mem hj))
      by_cases hk2 : k < qs.length
      case neg =>
        have hv : ValidT (tyq qs) := by
          refine ⟨fun j hj => ?_, fun j hj => ?_⟩
          · rw [tyq_len] at hj
            exact ⟨hna j hj, by rw [nth_tyq hj]; exact hko _ (nth_mem hj)⟩
          · rw [tyq_len] at hj
            rw [← hends j hj]; exact Hk.2 j (by omega)
        repeat' (first | (refine run (t := tb) 400 rfl ?_ ?_; (focus (repeat' ((exact trivial))))) | (refine k_ff rfl ?_ ?_; (focus (((refine decide_eq_false ?_; (omega))); done))))
        all_goals refine k_rr (vs := [_, _]) rfl ⟨rfl, rfl, trivial⟩ rfl (List.nil_sublist _) ⟨hgl, rfl, ?_⟩
        all_goals exact .inr ⟨x, qs, rfl, by rw [hfin, if_pos hv], hS⟩
      obtain ⟨ba, oa, ca, ea, hsa⟩ := hsl3.expl (by omega)
      simp only [Value.slice.injEq] at ea
      obtain ⟨rfl, -, rfl⟩ := ea
      rcases hq : nth qs k with ⟨p, ty⟩
      have hqm : (p, ty) ∈ qs := by rw [← hq]; exact nth_mem hk2
      have cx_en2 := c_endsI hS hw hko hqm
      have hek := hends k hk2
      rw [hq] at hek
      dsimp only at hek
      by_cases he : endsN (tyq qs) 9 ty = true
      · have he2 : (!endsN (tyq qs) 9 ty) = false := by rw [he]; rfl
        repeat' (first | (refine run (t := tb) 400 rfl ?_ ?_; (focus (repeat' (first | exact trivial | apply And.intro | omega)))) | (refine k_op rfl ?_; first | (refine v_op (g_ldR1x rfl rfl (by assumption) ?_ (by assumption) rfl) rfl rfl ?_; (focus (((omega)); done))) | (refine v_op (g_iaddrN rfl rfl ?_) rfl rfl ?_; (focus ((omega); done))) | (refine c_rt rfl rfl rfl cx_en2 rfl ?_)) | (refine k_tt rfl ?_ ?_; (focus (((refine decide_eq_true ?_; (omega))); done))) | (refine k_ff rfl ?_ ?_; (focus (((assumption)); done))))
        refine k_rd (k + 1) ⟨by omega, fun j hj => ?_⟩ (by omega) (by repeat (first | exact trivial | refine ⟨rfl, ?_⟩)) rfl (by repeat ((exact List.Sublist.refl _)))
        rcases Nat.lt_or_ge j k with h3 | h3
        · exact Hk.2 j h3
        · have : j = k := by omega
          subst this; rw [hq]; exact he
      · have he2 : (!endsN (tyq qs) 9 ty) = true := by simpa using he
        have hno : schemaOf s = none := by
          rw [hfin, if_neg]
          intro hv
          have := hv.2 k (by rw [tyq_len]; exact hk2)
          rw [← hek] at this
          exact he this
        repeat' (first | (refine run (t := tb) 400 rfl ?_ ?_; (focus (repeat' ((exact trivial))))) | (refine k_op rfl ?_; first | (refine v_op (g_ldR1x rfl rfl (by assumption) ?_ (by assumption) rfl) rfl rfl ?_; (focus (((omega)); done))) | (refine v_op (g_iaddrN rfl rfl ?_) rfl rfl ?_; (focus ((omega); done))) | (refine c_rt rfl rfl rfl cx_en2 rfl ?_)) | (refine k_tt rfl ?_ ?_; (focus ((first | assumption | (refine decide_eq_true ?_; (omega))); done))))
        all_goals refine k_rr (vs := [_, _]) rfl ⟨rfl, rfl, trivial⟩ rfl (List.nil_sublist _) ⟨hgl, rfl, ?_⟩
        all_goals exact .inl ⟨hno, _, rfl⟩
    obtain ⟨ba, oa, ca, ea, hsa⟩ := hsl3.expl (by omega)
    simp only [Value.slice.injEq] at ea
    obtain ⟨rfl, -, rfl⟩ := ea
    rcases hq : nth qs k with ⟨p, ty⟩
    have hqm : (p, ty) ∈ qs := by rw [← hq]; exact nth_mem hk
    obtain ⟨fv, ln, hsg, hfv⟩ := hS.ty _ hqm
    dsimp only at hsg hfv
    have hW := hw _ hqm
    dsimp only at hW
    have h88 := hW.len
    repeat' (first | (refine run (t := tb) 400 rfl ?_ ?_; (focus (repeat' ((exact trivial))))) | (refine k_op rfl ?_; first | refine v_op (g_ldS rfl rfl (by assumption) rfl rfl) rfl rfl ?_ | (refine v_op (g_ldR1x rfl rfl (by assumption) ?_ (by assumption) rfl) rfl rfl ?_; (focus (((omega)); done))) | refine v_op (g_lenV rfl (by assumption)) rfl rfl ?_ | (refine v_op (g_iaddrN rfl rfl ?_) rfl rfl ?_; (focus ((omega); done)))) | (refine k_tt rfl ?_ ?_; (focus (((refine decide_eq_true ?_; (omega))); done))))
    refine k_loop (ι := Nat) (fun l => l ≤ ty.fields.length ∧ (ty.sort = 69 ∨ ∀ j, j < l → hasK (tyq qs) (nth ty.fields j).kind = true)) (fun l => [(4, Pt x 0), (11, Pt p 0), (82, .slice (some ⟨ba, oa, none⟩) qs.length cu), (83, I qs.length), (84, I k), (91, fv), (92, I ty.fields.length), (93, I l)]) (fun l => G3) (fun l => []) (fun l => ty.fields.length - l) 0 ?_ (by repeat (first | exact trivial | refine ⟨rfl, ?_⟩)) rfl (by repeat ((exact List.Sublist.refl _))) (fun l Hl => ?_)
    · exact ⟨Nat.zero_le _, .inr fun j hj => absurd hj (by omega)⟩
    by_cases hl2 : l < ty.fields.length
    case neg =>
      repeat' (first | (refine run (t := tb) 400 rfl ?_ ?_; (focus (repeat' (first | exact trivial | apply And.intro | omega)))) | (refine k_ff rfl ?_ ?_; (focus (((refine decide_eq_false ?_; (omega))); done))))
      refine k_rd (k + 1) ⟨by omega, fun j hj => ?_⟩ (by omega) (by repeat (first | exact trivial | refine ⟨rfl, ?_⟩)) rfl (by repeat ((exact List.Sublist.refl _)))
      rcases Nat.lt_or_ge j k with h3 | h3
      · exact Hk.2 j h3
      · have : j = k := by omega
        subst this
        rw [hq]
        rcases Hl.2 with h5 | h5
        · exact .inl h5
        · exact .inr fun j2 hj2 => h5 j2 (by dsimp only at hj2; omega)
    obtain ⟨bf, of, cf, rfl, hsf⟩ := hfv.expl (by omega)
    by_cases h69 : ty.sort = 69
    · repeat' (first | (refine run (t := tb) 400 rfl ?_ ?_; (focus (repeat' (first | exact trivial | apply And.intro | omega)))) | (refine k_op rfl ?_; first | (refine v_op (g_ldR rfl rfl (by assumption) ?_) rfl rfl ?_; (focus (((omega)); done))) | refine v_op (g_ldS rfl rfl (by assumption) rfl rfl) rfl rfl ?_ | (refine v_op (g_pickF rfl rfl ?_) rfl rfl ?_; (focus (((rfl)); done))) | refine c_stA rfl rfl rfl rfl rfl rfl ?_ | (refine v_op (g_iaddrN rfl rfl ?_) rfl rfl ?_; (focus ((omega); done))) | refine c_al rfl rfl fun _ => ?_) | (refine k_gf rfl rfl ?_ ?_; (focus (((refine decide_eq_false ?_; (omega))); done))) | (refine k_tt rfl ?_ ?_; (focus (((refine decide_eq_true ?_; (omega))); done))) | (refine k_ff rfl ?_ ?_; (focus (((rfl)); done))))
      refine k_rd (l + 1) ⟨by omega, .inl h69⟩ (by omega) (by repeat (first | exact trivial | refine ⟨rfl, ?_⟩)) rfl (by repeat ((exact List.nil_sublist _)))
    have hko1 := (hW.fld _ (nth_mem hl2)).kind h69
    have cx_has := c_has hS hko1
    by_cases hh : hasK (tyq qs) (nth ty.fields l).kind = true
    · have hh2 : (!hasK (tyq qs) (nth ty.fields l).kind) = false := by rw [hh]; rfl
      repeat' (first | (refine run (t := tb) 400 rfl ?_ ?_; (focus (repeat' (first | exact trivial | apply And.intro | omega)))) | (refine k_op rfl ?_; first | (refine v_op (g_ldR rfl rfl (by assumption) ?_) rfl rfl ?_; (focus (((omega)); done))) | refine v_op (g_ldA rfl rfl rfl rfl) rfl rfl ?_ | refine v_op (g_ldS rfl rfl (by assumption) rfl rfl) rfl rfl ?_ | (refine v_op (g_pickT rfl rfl ?_) rfl rfl ?_; (focus (((rfl)); done))) | refine c_stA rfl rfl rfl rfl rfl rfl ?_ | (refine v_op (g_iaddrN rfl rfl ?_) rfl rfl ?_; (focus ((omega); done))) | refine c_al rfl rfl fun _ => ?_ | (refine c_rt rfl rfl rfl cx_has rfl ?_)) | (refine k_gt rfl rfl ?_ ?_; (focus (((refine decide_eq_true ?_; (omega))); done))) | (refine k_tt rfl ?_ ?_; (focus (((refine decide_eq_true ?_; (omega))); done))) | (refine k_ff rfl ?_ ?_; (focus (((assumption)); done))))
      refine k_rd (l + 1) ⟨by omega, .inr fun j hj => ?_⟩ (by omega) (by repeat (first | exact trivial | refine ⟨rfl, ?_⟩)) rfl (by repeat ((exact List.nil_sublist _)))
      rcases Nat.lt_or_ge j l with h3 | h3
      · rcases Hl.2 with h5 | h5
        · exact absurd h5 h69
        · exact h5 j h3
      · have : j = l := by omega
        subst this; exact hh
    · have hh2 : (!hasK (tyq qs) (nth ty.fields l).kind) = true := by simpa using hh
      have hno : schemaOf s = none := by
        rw [hfin, if_neg]
        intro hv
        have h5 := (hv.1 k (by rw [tyq_len]; exact hk)).2
        rw [nth_tyq hk, hq] at h5
        rcases h5 with h6 | h6
        · exact h69 h6
        · exact hh (h6 l hl2)
      repeat' (first | (refine run (t := tb) 400 rfl ?_ ?_; (focus (repeat' ((exact trivial))))) | (refine k_op rfl ?_; first | (refine v_op (g_ldR rfl rfl (by assumption) ?_) rfl rfl ?_; (focus (((omega)); done))) | refine v_op (g_ldA rfl rfl rfl rfl) rfl rfl ?_ | refine v_op (g_ldS rfl rfl (by assumption) rfl rfl) rfl rfl ?_ | (refine v_op (g_pickT rfl rfl ?_) rfl rfl ?_; (focus (((rfl)); done))) | refine c_stA rfl rfl rfl rfl rfl rfl ?_ | (refine v_op (g_iaddrN rfl rfl ?_) rfl rfl ?_; (focus ((omega); done))) | refine c_al rfl rfl fun _ => ?_ | (refine c_rt rfl rfl rfl cx_has rfl ?_)) | (refine k_gt rfl rfl ?_ ?_; (focus (((refine decide_eq_true ?_; (omega))); done))) | (refine k_tt rfl ?_ ?_; (focus ((first | assumption | (refine decide_eq_true ?_; (omega))); done))))
      all_goals refine k_rr (vs := [_, _]) rfl ⟨rfl, rfl, trivial⟩ rfl (List.nil_sublist _) ⟨hgl, rfl, ?_⟩
      all_goals exact .inl ⟨hno, _, rfl⟩
end Go.E
/-! Mq -/
namespace Go.E
set_option maxRecDepth 20000
set_option maxHeartbeats 2000000
open Go.Proofs
variable {G : Gh}
theorem c_SchemaOkI {s : List UInt8} (h : s.length ≤ 10000000) : PuG Tryz.prog 24 [S s] G (· = Bo (schemaOf s).isSome) := by
  cases hs : schemaOf s with
  | none =>
    have cx_rs0 : ∀ G, FnS Tryz.prog 36 [S s] G (fun v _ => ∃ p, v = Tu [p, Bo false]) := fun G => by
      refine (c_readSchema (G := G) h).mono ?_
      rintro v G' L' ⟨h1, h2, ⟨_, p, rfl⟩ | ⟨_, _, _, h4, _⟩⟩
      · exact ⟨h1, h2, p, rfl⟩
      · rw [hs] at h4; cases h4
    refine b_enter (Post := fun v G' L' => G' = G ∧ L' = [] ∧ _) [(0, _)] Tryz.func24 (by kernel_rfl) Tryz.ntmps24 rfl rfl (by repeat (first | exact trivial | refine ⟨rfl, ?_⟩)) fun B hok hB hW => ?_
    repeat' (first | (refine run (t := tb) 400 rfl ?_ ?_; (focus (repeat' ((exact trivial))))) | (refine k_op rfl ?_; (refine c_fns rfl rfl rfl (cx_rs0 _) rfl ?_; rintro _ G hle ⟨p, rfl⟩; skip)))
    refine Nx.base hok hB ?_
    refine k_rr (vs := [_]) rfl ⟨rfl, trivial⟩ rfl (List.nil_sublist _) ⟨rfl, rfl, ?_⟩
    rfl
  | some ts =>
    have cx_rs1 : ∀ G, FnS Tryz.prog 36 [S s] G (fun v G' => ∃ b qs, v = Tu [Pt b 0, Bo true] ∧ tyq qs = ts ∧ ScI G' b qs) := fun G => by
      refine (c_readSchema (G := G) h).mono ?_
      rintro v G' L' ⟨h1, h2, ⟨h4, _⟩ | ⟨b, qs, rfl, h4, h5⟩⟩
      · rw [hs] at h4; cases h4
      · rw [hs] at h4; simp only [Option.some.injEq] at h4; exact ⟨h1, h2, b, qs, rfl, h4.symm, h5⟩
    refine b_enter (Post := fun v G' L' => G' = G ∧ L' = [] ∧ _) [(0, _)] Tryz.func24 (by kernel_rfl) Tryz.ntmps24 rfl rfl (by repeat (first | exact trivial | refine ⟨rfl, ?_⟩)) fun B hok hB hW => ?_
    repeat' (first | (refine run (t := tb) 400 rfl ?_ ?_; (focus (repeat' ((exact trivial))))) | (refine k_op rfl ?_; (refine c_fns rfl rfl rfl (cx_rs1 _) rfl ?_; rintro _ G hle ⟨b, qs, rfl, hqs, hS⟩; skip)))
    refine Nx.base hok hB ?_
    refine k_rr (vs := [_]) rfl ⟨rfl, trivial⟩ rfl (List.nil_sublist _) ⟨rfl, rfl, ?_⟩
    rfl
def BothPost (s k : List UInt8) (v : Value) (G : Gh) : Prop := (kindS s k = false ∧ ∃ p a b c, v = Tu [p, Ag [S a, S b, S c], Bo false]) ∨ ∃ b qs, v = Tu [Pt b 0, Ag (kdF k), Bo true] ∧ schemaOf s = some (tyq qs) ∧ kindIn (tyq qs) k = true ∧ ScI G b qs
theorem c_both {s k : List UInt8} (h : s.length ≤ 10000000) (hk : k.length ≤ 2000000) : FnS Tryz.prog 25 [S s, S k] G (BothPost s k) := by
  cases hs : schemaOf s with
  | none =>
    have hno : kindS s k = false := by unfold kindS; rw [hs]
    have cx_rs0 : ∀ G, FnS Tryz.prog 36 [S s] G (fun v _ => ∃ p, v = Tu [p, Bo false]) := fun G => by
      refine (c_readSchema (G := G) h).mono ?_
      rintro v G' L' ⟨h1, h2, ⟨_, p, rfl⟩ | ⟨_, _, _, h4, _⟩⟩
      · exact ⟨h1, h2, p, rfl⟩
      · rw [hs] at h4; cases h4
    refine b_enter [(0, _), (1, _)] Tryz.func25 (by kernel_rfl) Tryz.ntmps25 rfl rfl (by repeat (first | exact trivial | refine ⟨rfl, ?_⟩)) fun B hok hB hW => ?_
    repeat' (first | (refine run (t := tb) 400 rfl ?_ ?_; (focus (repeat' ((exact trivial))))) | (refine k_op rfl ?_; first | refine c_al rfl rfl fun _ => ?_ | refine v_op (g_bld rfl rfl) rfl rfl ?_ | refine c_stA rfl rfl rfl rfl rfl rfl ?_ | (refine c_fns rfl rfl rfl (cx_rs0 _) rfl ?_; rintro _ G hle ⟨p, rfl⟩; skip)) | (refine k_tt rfl ?_ ?_; (focus (((rfl)); done))))
    all_goals refine k_rr (vs := [_, _, _]) rfl ⟨rfl, rc_A rfl rfl rfl rfl, rfl, trivial⟩ rfl (List.nil_sublist _) ⟨hle, rfl, ?_⟩
    all_goals exact .inl ⟨hno, _, [], [], [], rfl⟩
  | some ts =>
    have cx_rs1 : ∀ G, FnS Tryz.prog 36 [S s] G (fun v G' => ∃ b qs, v = Tu [Pt b 0, Bo true] ∧ tyq qs = ts ∧ ScI G' b qs) := fun G => by
      refine (c_readSchema (G := G) h).mono ?_
      rintro v G' L' ⟨h1, h2, ⟨h4, _⟩ | ⟨b, qs, rfl, h4, h5⟩⟩
      · rw [hs] at h4; cases h4
      · rw [hs] at h4; simp only [Option.some.injEq] at h4; exact ⟨h1, h2, b, qs, rfl, h4.symm, h5⟩
    by_cases hko : kindOk k = true
    case neg =>
      have hkc2 : kindOk k = false := by simpa using hko
      have hno : kindS s k = false := by unfold kindS kindIn; rw [hs]; simp [hkc2]
      have cx_kn : ∀ G, PuG Tryz.prog 37 [S k] G (fun v => ∃ x y z, v = Tu [Ag [S x, S y, S z], Bo false]) := fun G => by
        refine (c_readKind (G := G) (s := k) (by omega)).mono ?_
        rintro v G' L' ⟨h1, h2, x, y, z, rfl, _⟩
        exact ⟨h1, h2, x, y, z, by rw [hkc2]⟩
      refine b_enter [(0, _), (1, _)] Tryz.func25 (by kernel_rfl) Tryz.ntmps25 rfl rfl (by repeat (first | exact trivial | refine ⟨rfl, ?_⟩)) fun B hok hB hW => ?_
      repeat' (first | (refine run (t := tb) 400 rfl ?_ ?_; (focus (repeat' ((exact trivial))))) | (refine k_op rfl ?_; first | refine c_al rfl rfl fun _ => ?_ | refine c_stA rfl rfl rfl rfl rfl rfl ?_ | (refine c_fns rfl rfl rfl (cx_rs1 _) rfl ?_; rintro _ G hle ⟨b, qs, rfl, hqs, hS⟩; skip) | (refine c_pu rfl rfl rfl (cx_kn _) rfl ?_; rintro _ ⟨x, y, z, rfl⟩)) | (refine k_ff rfl ?_ ?_; (focus (((rfl)); done))) | (refine k_any (s_anyD (id := 5) (tt := 5) rfl mixed ?_); refine x_tks (t := tb) (fuel := 8) [0, 2, 3] (bts 11 13) (by kernel_rfl) (by kernel_rfl) rfl rfl (Gh.le.refl _) (by repeat (first | exact List.nil_sublist _ | apply List.Sublist.cons_cons)) ?_ ?_; (focus (repeat' ((exact trivial)))); (try ((refine Nx.re (d := 26) (v' := Bo false) rfl (congrArg Value.bool ?_) ?_; (focus (((rfl)); done))))); refine x_tks (t := tb) (fuel := 7) [4] (bts 11 29) (by kernel_rfl) (by kernel_rfl) rfl rfl (Gh.le.refl _) (by repeat (first | exact List.nil_sublist _ | apply List.Sublist.cons_cons)) ?_ ?_; (focus (repeat' ((exact trivial)))); ((refine (x_tkg (bts 11 31) 1 rfl (by kernel_rfl) rfl (Gh.le.refl _) (by repeat (first | exact List.nil_sublist _ | apply List.Sublist.cons_cons))) (g_ldA rfl rfl rfl rfl) rfl rfl ?_)); ((refine x_tkn (bts 11 63) 5 rfl (by kernel_rfl) rfl (Gh.le.refl _) (by repeat (first | exact List.nil_sublist _ | apply List.Sublist.cons_cons)) rfl rfl ?_)); ((refine x_tkn (bts 11 127) 6 rfl (by kernel_rfl) rfl (Gh.le.refl _) (by repeat (first | exact List.nil_sublist _ | apply List.Sublist.cons_cons)) rfl rfl ?_)); refine x_tks (t := tb) (fuel := 3) [8] (bts 11 383) (by kernel_rfl) (by kernel_rfl) rfl rfl (Gh.le.refl _) (by repeat (first | exact List.nil_sublist _ | apply List.Sublist.cons_cons)) ?_ ?_; (focus (repeat' ((exact trivial)))); ((refine (x_tkg (bts 11 511) 7 rfl (by kernel_rfl) rfl (Gh.le.refl _) (by repeat (first | exact List.nil_sublist _ | apply List.Sublist.cons_cons))) (g_pickF rfl rfl ?_) rfl rfl ?_; (focus (((rfl)); done)))); refine x_all [9] (by kernel_rfl) (by decide) ⟨?_, trivial⟩; refine x_opg rfl rfl ?_; ((refine c_stA rfl rfl rfl rfl rfl rfl ?_)); refine x_kk (by (exact Gh.le.refl _)) (by repeat (first | exact List.nil_sublist _ | apply List.Sublist.cons_cons)) (listed' := (bts 11 1023)) (by kernel_rfl) ?_; refine x_tks (t := tb) (fuel := 0) [10] (bts 11 2047) (by kernel_rfl) (by kernel_rfl) rfl rfl (Gh.le.refl _) (by repeat (first | exact List.nil_sublist _ | apply List.Sublist.cons_cons)) ?_ ?_; (focus (repeat' ((exact trivial)))); refine x_done (by kernel_rfl) (k_bk ?_)))
      all_goals refine k_rr (vs := [_, _, _]) rfl ⟨rfl, rc_A rfl rfl rfl rfl, rfl, trivial⟩ rfl (List.nil_sublist _) ⟨hle, rfl, ?_⟩
      all_goals exact .inl ⟨hno, _, _, _, _, rfl⟩
    have cx_kq : ∀ G, PuG Tryz.prog 37 [S k] G (· = Tu [Ag [S (sg k), S (bs k), S (nm k)], Bo true]) := fun G => c_kindX (by omega) hko
    have hkk : kdF k = [S (sg k), S (bs k), S (nm k)] := rfl
    by_cases hH : hasK ts k = true
    case pos =>
      have cx_hy : ∀ G b qs, tyq qs = ts → ScI G b qs → PuG Tryz.prog 38 [Pt b 0, Ag [S (sg k), S (bs k), S (nm k)]] G (· = Bo true) := by
        intro G b qs hq hS
        refine (c_has hS hko).mono ?_
        rintro v G' L' ⟨h1, h2, rfl⟩
        exact ⟨h1, h2, by rw [hq, hH]⟩
      refine b_enter [(0, _), (1, _)] Tryz.func25 (by kernel_rfl) Tryz.ntmps25 rfl rfl (by repeat (first | exact trivial | refine ⟨rfl, ?_⟩)) fun B hok hB hW => ?_
      repeat' (first | (refine run (t := tb) 400 rfl ?_ ?_; (focus (repeat' ((exact trivial))))) | (refine k_op rfl ?_; first | refine c_al rfl rfl fun _ => ?_ | refine c_stA rfl rfl rfl rfl rfl rfl ?_ | (refine c_fns rfl rfl rfl (cx_rs1 _) rfl ?_; rintro _ G hle ⟨b, qs, rfl, hqs, hS⟩; skip) | (refine c_rt rfl rfl rfl (cx_kq _) rfl ?_)) | (refine k_ff rfl ?_ ?_; (focus (((rfl)); done))) | (refine k_any (s_anyD (id := 5) (tt := 5) rfl mixed ?_); refine x_tks (t := tb) (fuel := 8) [0, 2, 3] (bts 11 13) (by kernel_rfl) (by kernel_rfl) rfl rfl (Gh.le.refl _) (by repeat (first | exact List.nil_sublist _ | apply List.Sublist.cons_cons)) ?_ ?_; (focus (repeat' ((exact trivial)))); (try ((refine Nx.re (d := 26) (v' := Bo true) rfl (congrArg Value.bool ?_) ?_; (focus (((rfl)); done))))); refine x_tks (t := tb) (fuel := 7) [4] (bts 11 29) (by kernel_rfl) (by kernel_rfl) rfl rfl (Gh.le.refl _) (by repeat (first | exact List.nil_sublist _ | apply List.Sublist.cons_cons)) ?_ ?_; (focus (repeat' ((exact trivial)))); ((refine (x_tkg (bts 11 31) 1 rfl (by kernel_rfl) rfl (Gh.le.refl _) (by repeat (first | exact List.nil_sublist _ | apply List.Sublist.cons_cons))) (g_ldA rfl rfl rfl rfl) rfl rfl ?_)); ((refine (x_tkg (bts 11 63) 5 rfl (by kernel_rfl) rfl (Gh.le.refl _) (by repeat (first | exact List.nil_sublist _ | apply List.Sublist.cons_cons))) (g_ldA rfl rfl rfl rfl) rfl rfl ?_)); ((refine x_all [6] (by kernel_rfl) (by decide) ⟨?_, trivial⟩; refine x_opg rfl rfl ?_; ((refine c_rt rfl rfl rfl ((cx_hy _ _ _) (by (repeat ((assumption))); done) (by (repeat ((assumption))); done)) rfl ?_)); refine x_kk (by (exact Gh.le.refl _)) (by repeat (first | exact List.nil_sublist _ | apply List.Sublist.cons_cons)) (listed' := (bts 11 127)) (by kernel_rfl) ?_)); refine x_tks (t := tb) (fuel := 3) [8] (bts 11 383) (by kernel_rfl) (by kernel_rfl) rfl rfl (Gh.le.refl _) (by repeat (first | exact List.nil_sublist _ | apply List.Sublist.cons_cons)) ?_ ?_; (focus (repeat' ((exact trivial)))); ((refine (x_tkg (bts 11 511) 7 rfl (by kernel_rfl) rfl (Gh.le.refl _) (by repeat (first | exact List.nil_sublist _ | apply List.Sublist.cons_cons))) (g_pickT rfl rfl ?_) rfl rfl ?_; (focus (((rfl)); done)))); refine x_all [9] (by kernel_rfl) (by decide) ⟨?_, trivial⟩; refine x_opg rfl rfl ?_; ((refine c_stA rfl rfl rfl rfl rfl rfl ?_)); refine x_kk (by (exact Gh.le.refl _)) (by repeat (first | exact List.nil_sublist _ | apply List.Sublist.cons_cons)) (listed' := (bts 11 1023)) (by kernel_rfl) ?_; refine x_tks (t := tb) (fuel := 0) [10] (bts 11 2047) (by kernel_rfl) (by kernel_rfl) rfl rfl (Gh.le.refl _) (by repeat (first | exact List.nil_sublist _ | apply List.Sublist.cons_cons)) ?_ ?_; (focus (repeat' ((exact trivial)))); refine x_done (by kernel_rfl) (k_bk ?_)))
      all_goals refine k_rr (vs := [_, _, _]) rfl ⟨rfl, rc_A rfl rfl rfl rfl, rfl, trivial⟩ rfl (List.nil_sublist _) ⟨hle, rfl, ?_⟩
      all_goals exact .inr ⟨b, qs, rfl, by rw [hs, hqs], by simp [kindIn, hqs, hko, hH], hS⟩
    case neg =>
      have hH2 : hasK ts k = false := by simpa using hH
      have hno : kindS s k = false := by unfold kindS kindIn; rw [hs]; simp [hH2]
      have cx_hn : ∀ G b qs, tyq qs = ts → ScI G b qs → PuG Tryz.prog 38 [Pt b 0, Ag [S (sg k), S (bs k), S (nm k)]] G (· = Bo false) := by
        intro G b qs hq hS
        refine (c_has hS hko).mono ?_
        rintro v G' L' ⟨h1, h2, rfl⟩
        exact ⟨h1, h2, by rw [hq, hH2]⟩
      refine b_enter [(0, _), (1, _)] Tryz.func25 (by kernel_rfl) Tryz.ntmps25 rfl rfl (by repeat (first | exact trivial | refine ⟨rfl, ?_⟩)) fun B hok hB hW => ?_
      repeat' (first | (refine run (t := tb) 400 rfl ?_ ?_; (focus (repeat' ((exact trivial))))) | (refine k_op rfl ?_; first | refine c_al rfl rfl fun _ => ?_ | refine c_stA rfl rfl rfl rfl rfl rfl ?_ | (refine c_fns rfl rfl rfl (cx_rs1 _) rfl ?_; rintro _ G hle ⟨b, qs, rfl, hqs, hS⟩; skip) | (refine c_rt rfl rfl rfl (cx_kq _) rfl ?_)) | (refine k_ff rfl ?_ ?_; (focus (((rfl)); done))) | (refine k_any (s_anyD (id := 5) (tt := 5) rfl mixed ?_); refine x_tks (t := tb) (fuel := 8) [0, 2, 3] (bts 11 13) (by kernel_rfl) (by kernel_rfl) rfl rfl (Gh.le.refl _) (by repeat (first | exact List.nil_sublist _ | apply List.Sublist.cons_cons)) ?_ ?_; (focus (repeat' ((exact trivial)))); (try ((refine Nx.re (d := 26) (v' := Bo true) rfl (congrArg Value.bool ?_) ?_; (focus (((rfl)); done))))); refine x_tks (t := tb) (fuel := 7) [4] (bts 11 29) (by kernel_rfl) (by kernel_rfl) rfl rfl (Gh.le.refl _) (by repeat (first | exact List.nil_sublist _ | apply List.Sublist.cons_cons)) ?_ ?_; (focus (repeat' ((exact trivial)))); ((refine (x_tkg (bts 11 31) 1 rfl (by kernel_rfl) rfl (Gh.le.refl _) (by repeat (first | exact List.nil_sublist _ | apply List.Sublist.cons_cons))) (g_ldA rfl rfl rfl rfl) rfl rfl ?_)); ((refine (x_tkg (bts 11 63) 5 rfl (by kernel_rfl) rfl (Gh.le.refl _) (by repeat (first | exact List.nil_sublist _ | apply List.Sublist.cons_cons))) (g_ldA rfl rfl rfl rfl) rfl rfl ?_)); ((refine x_all [6] (by kernel_rfl) (by decide) ⟨?_, trivial⟩; refine x_opg rfl rfl ?_; ((refine c_rt rfl rfl rfl ((cx_hn _ _ _) (by (repeat ((assumption))); done) (by (repeat ((assumption))); done)) rfl ?_)); refine x_kk (by (exact Gh.le.refl _)) (by repeat (first | exact List.nil_sublist _ | apply List.Sublist.cons_cons)) (listed' := (bts 11 127)) (by kernel_rfl) ?_)); refine x_tks (t := tb) (fuel := 3) [8] (bts 11 383) (by kernel_rfl) (by kernel_rfl) rfl rfl (Gh.le.refl _) (by repeat (first | exact List.nil_sublist _ | apply List.Sublist.cons_cons)) ?_ ?_; (focus (repeat' ((exact trivial)))); ((refine (x_tkg (bts 11 511) 7 rfl (by kernel_rfl) rfl (Gh.le.refl _) (by repeat (first | exact List.nil_sublist _ | apply List.Sublist.cons_cons))) (g_pickT rfl rfl ?_) rfl rfl ?_; (focus (((rfl)); done)))); refine x_all [9] (by kernel_rfl) (by decide) ⟨?_, trivial⟩; refine x_opg rfl rfl ?_; ((refine c_stA rfl rfl rfl rfl rfl rfl ?_)); refine x_kk (by (exact Gh.le.refl _)) (by repeat (first | exact List.nil_sublist _ | apply List.Sublist.cons_cons)) (listed' := (bts 11 1023)) (by kernel_rfl) ?_; refine x_tks (t := tb) (fuel := 0) [10] (bts 11 2047) (by kernel_rfl) (by kernel_rfl) rfl rfl (Gh.le.refl _) (by repeat (first | exact List.nil_sublist _ | apply List.Sublist.cons_cons)) ?_ ?_; (focus (repeat' ((exact trivial)))); refine x_done (by kernel_rfl) (k_bk ?_)))
      all_goals refine k_rr (vs := [_, _, _]) rfl ⟨rfl, rc_A rfl rfl rfl rfl, rfl, trivial⟩ rfl (List.nil_sublist _) ⟨hle, rfl, ?_⟩
      all_goals exact .inl ⟨hno, _, _, _, _, rfl⟩
end Go.E
/-! Ob -/
namespace Go.E
set_option maxRecDepth 20000
set_option maxHeartbeats 2000000
open Go.Proofs
variable {G : Gh}
theorem kind0_nth {t : Ty} : kind0 t = (nth t.fields 0).kind := by
  unfold kind0 nth
  cases t.fields with
  | nil => rfl
  | cons f r => rfl
theorem tag0_nth {t : Ty} : tag0 t = (nth t.fields 0).tag := by
  unfold tag0 nth
  cases t.fields with
  | nil => rfl
  | cons f r => rfl
theorem decI_len6 {n : Int} (h : 0 ≤ n ∧ n ≤ 9223372036854775807) : (decI n).length ≤ 19 := decI_len h.2
theorem plainOf_len (k : List UInt8) : (plainOf k).length ≤ 2 := by
  unfold plainOf
  split
  · simp
  · split
    · simp
    · split <;> simp
theorem SchW.tag0 {ts : List Ty} (h : SchW ts) {t : Ty} (ht : t ∈ ts) : 0 ≤ Go.E.tag0 t ∧ Go.E.tag0 t ≤ 200 := by
  rw [tag0_nth]
  by_cases h0 : 0 < t.fields.length
  · have := ((h.ty t ht).fld _ (nth_mem h0)).tag; omega
  · have : t.fields = [] := List.eq_nil_of_length_eq_zero (by omega)
    rw [this]; exact ⟨Int.le_refl _, by decide⟩
theorem standN_len {ts : List Ty} (h : SchW ts) : ∀ (n : Nat) (k : List UInt8), (standN ts n k).length ≤ 30 * n
  | 0, k => by simp [standN]
  | n + 1, [] => by simp [standN]
  | n + 1, c :: r => by
    unfold standN
    split
    · simp; omega
    · split
      · simp; omega
      · split
        · have := plainOf_len (c :: r); omega
        · rename_i t ht
          have h1 := h.tag0 (refT_mem ht)
          have h2 := decI_len6 (n := tag0 t) (by omega)
          have h3 := standN_len h n (kind0 t)
          split
          · simp; omega
          · split
            · simp; omega
            · simp; omega
theorem kind_in {ts : List Ty} (h : SchW ts) {t : Ty} (ht : t ∈ ts) (hs : t.sort ≠ 69) {f : Fld} (hf : f ∈ t.fields) : kindIn ts f.kind = true := by
  unfold kindIn
  rw [((h.ty t ht).fld f hf).kind hs, Bool.true_and]
  obtain ⟨i, hi, rfl⟩ := List.mem_iff_getElem.1 ht
  obtain ⟨j, hj, rfl⟩ := List.mem_iff_getElem.1 hf
  have h1 := (h.valid.1 i hi).2
  rw [nth_eq hi] at h1
  rcases h1 with h1 | h1
  · exact absurd h1 hs
  · have := h1 j hj
    rwa [nth_eq hj] at this
theorem kindIn_ok {ts : List Ty} {k : List UInt8} (h : kindIn ts k = true) : kindOk k = true := by
  unfold kindIn at h; simp only [Bool.and_eq_true] at h; exact h.1
theorem core_self {c : UInt8} {r : List UInt8} (h : ¬ (c.toNat = 91 ∨ c.toNat = 63)) : core (c :: r) = c :: r := by rw [core, if_neg h]
theorem ends_of {ts : List Ty} (h : SchW ts) {k : List UInt8} (t : Ty) (ht : refT ts k = some t) : endsN ts (ts.length + 1) t = true := by
  obtain ⟨i, hi, rfl⟩ := List.mem_iff_getElem.1 (refT_mem ht)
  have := h.valid.2 i hi
  rwa [nth_eq hi] at this
theorem c_standsS {u : Value} {vs : List TyX} (h : SchR G u vs) (hw : SchW (tys vs)) : ∀ (n : Nat) {k : List UInt8}, n ≤ 1000 → kindIn (tys vs) k = true → (∀ t, refT (tys vs) k = some t → endsN (tys vs) n t = true) →
    PuG Tryz.prog 78 [u, S k] G (· = S (standN (tys vs) (n + 1) k)) := by
  have hvl : vs.length ≤ 1000000 := by have := hw.len; rw [tys_len] at this; omega
  intro n
  induction n with
  | zero =>
    intro k hn hk he
    have hko := kindIn_ok hk
    have hkk := kindOk_kOk hko
    match k, hkk with
    | c :: r, hkk =>
      have e0 := bt_c0 c r
      by_cases h1 : c.toNat = 91
      · refine p_enter [(0, _), (1, _)] Tryz.func78 (by kernel_rfl) Tryz.ntmps78 rfl rfl (by repeat (first | exact trivial | refine ⟨rfl, ?_⟩)) fun B hB => ?_
        repeat' (first | (refine run (t := tb) 400 rfl ?_ ?_; (focus (repeat' (first | exact trivial | apply And.intro | omega | (simp only [List.length_append, List.length_cons, List.length_nil, Int.toNat_natCast]; omega))))) | (refine k_tt rfl ?_ ?_; (focus (((simp [*]; done)); done))))
        all_goals refine k_rr (vs := [_]) rfl ⟨rfl, trivial⟩ rfl (List.nil_sublist _) ⟨rfl, rfl, ?_⟩
        all_goals (rw [oneOf_one]; unfold standN; rw [if_pos h1])
      by_cases h2 : c.toNat = 63
      · refine p_enter [(0, _), (1, _)] Tryz.func78 (by kernel_rfl) Tryz.ntmps78 rfl rfl (by repeat (first | exact trivial | refine ⟨rfl, ?_⟩)) fun B hB => ?_
        repeat' (first | (refine run (t := tb) 400 rfl ?_ ?_; (focus (repeat' (first | exact trivial | apply And.intro | omega | (simp only [List.length_append, List.length_cons, List.length_nil, Int.toNat_natCast]; omega))))) | (refine k_tt rfl ?_ ?_; (focus (((simp [*]; done)); done))) | (refine k_ff rfl ?_ ?_; (focus (((simp [*]; done)); done))))
        all_goals refine k_rr (vs := [_]) rfl ⟨rfl, trivial⟩ rfl (List.nil_sublist _) ⟨rfl, rfl, ?_⟩
        all_goals (rw [oneOf_one]; unfold standN; rw [if_neg h1, if_pos h2])
      have href := refV_ty vs (c :: r)
      have cx_rf := c_ref (k := c :: r) h hvl hkk.1 (by omega)
      cases hr : refV vs (c :: r) with
      | some x => rw [hr] at href; have := he _ href.symm; cases this
      | none =>
        rw [hr] at href cx_rf
        refine p_enter [(0, _), (1, _)] Tryz.func78 (by kernel_rfl) Tryz.ntmps78 rfl rfl (by repeat (first | exact trivial | refine ⟨rfl, ?_⟩)) fun B hB => ?_
        repeat' (first | (refine run (t := tb) 400 rfl ?_ ?_; (focus (repeat' (first | exact trivial | apply And.intro | omega | (simp only [List.length_append, List.length_cons, List.length_nil, Int.toNat_natCast]; omega))))) | (refine k_op rfl ?_; first | refine c_al rfl rfl fun _ => ?_ | refine c_stA rfl rfl rfl rfl rfl rfl ?_ | (refine c_rt rfl rfl rfl cx_rf rfl ?_) | (refine c_rt rfl rfl rfl c_l3Plain rfl ?_)) | (refine k_tt rfl ?_ ?_; (focus (((rfl)); done))) | (refine k_ff rfl ?_ ?_; (focus (((simp; omega)); done))))
        all_goals refine k_rr (vs := [_]) rfl ⟨rfl, trivial⟩ rfl (List.nil_sublist _) ⟨rfl, rfl, ?_⟩
        all_goals (rw [oneOf_one]; unfold standN; rw [if_neg h1, if_neg h2, ← href]; rfl)
  | succ n ih =>
    intro k hn hk he
    have hko := kindIn_ok hk
    have hkk := kindOk_kOk hko
    match k, hkk with
    | c :: r, hkk =>
      have e0 := bt_c0 c r
      by_cases h1 : c.toNat = 91
      · refine p_enter [(0, _), (1, _)] Tryz.func78 (by kernel_rfl) Tryz.ntmps78 rfl rfl (by repeat (first | exact trivial | refine ⟨rfl, ?_⟩)) fun B hB => ?_
        repeat' (first | (refine run (t := tb) 400 rfl ?_ ?_; (focus (repeat' (first | exact trivial | apply And.intro | omega | (simp only [List.length_append, List.length_cons, List.length_nil, Int.toNat_natCast]; omega))))) | (refine k_tt rfl ?_ ?_; (focus (((simp [*]; done)); done))))
        all_goals refine k_rr (vs := [_]) rfl ⟨rfl, trivial⟩ rfl (List.nil_sublist _) ⟨rfl, rfl, ?_⟩
        all_goals (rw [oneOf_one]; unfold standN; rw [if_pos h1])
      by_cases h2 : c.toNat = 63
      · refine p_enter [(0, _), (1, _)] Tryz.func78 (by kernel_rfl) Tryz.ntmps78 rfl rfl (by repeat (first | exact trivial | refine ⟨rfl, ?_⟩)) fun B hB => ?_
        repeat' (first | (refine run (t := tb) 400 rfl ?_ ?_; (focus (repeat' (first | exact trivial | apply And.intro | omega | (simp only [List.length_append, List.length_cons, List.length_nil, Int.toNat_natCast]; omega))))) | (refine k_tt rfl ?_ ?_; (focus (((simp [*]; done)); done))) | (refine k_ff rfl ?_ ?_; (focus (((simp [*]; done)); done))))
        all_goals refine k_rr (vs := [_]) rfl ⟨rfl, trivial⟩ rfl (List.nil_sublist _) ⟨rfl, rfl, ?_⟩
        all_goals (rw [oneOf_one]; unfold standN; rw [if_neg h1, if_pos h2])
      have href := refV_ty vs (c :: r)
      have cx_rf := c_ref (k := c :: r) h hvl hkk.1 (by omega)
      rcases hr : refV vs (c :: r) with _ | ⟨⟨a, ca⟩, t⟩
      · rw [hr] at href cx_rf
        refine p_enter [(0, _), (1, _)] Tryz.func78 (by kernel_rfl) Tryz.ntmps78 rfl rfl (by repeat (first | exact trivial | refine ⟨rfl, ?_⟩)) fun B hB => ?_
        repeat' (first | (refine run (t := tb) 400 rfl ?_ ?_; (focus (repeat' (first | exact trivial | apply And.intro | omega | (simp only [List.length_append, List.length_cons, List.length_nil, Int.toNat_natCast]; omega))))) | (refine k_op rfl ?_; first | refine c_al rfl rfl fun _ => ?_ | refine c_stA rfl rfl rfl rfl rfl rfl ?_ | (refine c_rt rfl rfl rfl cx_rf rfl ?_) | (refine c_rt rfl rfl rfl c_l3Plain rfl ?_)) | (refine k_tt rfl ?_ ?_; (focus (((rfl)); done))) | (refine k_ff rfl ?_ ?_; (focus (((simp; omega)); done))))
        all_goals refine k_rr (vs := [_]) rfl ⟨rfl, trivial⟩ rfl (List.nil_sublist _) ⟨rfl, rfl, ?_⟩
        all_goals (rw [oneOf_one]; unfold standN; rw [if_neg h1, if_neg h2, ← href]; rfl)
      rw [hr] at href cx_rf
      have hrf : refT (tys vs) (c :: r) = some t := href.symm
      have htm := refT_mem hrf
      have hW := hw.ty t htm
      have htg := hw.tag0 htm
      rw [tag0_nth] at htg
      have e3 : standN (tys vs) (n + 1 + 1) (c :: r) = if t.sort = 82 then [123, 125] else if t.sort = 69 then 35 :: decI (tag0 t) else 60 :: (decI (tag0 t) ++ 61 :: (standN (tys vs) (n + 1) (kind0 t) ++ [62])) := by
        rw [standN, if_neg h1, if_neg h2, hrf]
      rw [e3, tag0_nth, kind0_nth]
      clear e3
      by_cases s1 : t.sort = 82
      · rw [if_pos s1]
        refine p_enter [(0, _), (1, _)] Tryz.func78 (by kernel_rfl) Tryz.ntmps78 rfl rfl (by repeat (first | exact trivial | refine ⟨rfl, ?_⟩)) fun B hB => ?_
        repeat' (first | (refine run (t := tb) 400 rfl ?_ ?_; (focus (repeat' (first | exact trivial | apply And.intro | omega | (simp only [List.length_append, List.length_cons, List.length_nil, Int.toNat_natCast]; omega))))) | (refine k_op rfl ?_; first | refine c_al rfl rfl fun _ => ?_ | refine c_stA rfl rfl rfl rfl rfl rfl ?_ | refine v_op (g_ld rfl rfl rfl) rfl rfl ?_ | (refine c_rt rfl rfl rfl cx_rf rfl ?_)) | (refine k_tt rfl ?_ ?_; (focus (((simp [*]; done)); done))) | (refine k_ff rfl ?_ ?_; (focus ((first | rfl | (simp; omega)); done))))
        all_goals refine k_rr (vs := [_]) rfl ⟨rfl, trivial⟩ rfl (List.nil_sublist _) ⟨rfl, rfl, ?_⟩
        all_goals rfl
      have h0 : 0 < t.fields.length := List.length_pos_iff.2 (hW.ne s1)
      obtain ⟨bf, of, cf, ef, hsf⟩ := (h.fl _ (refV_mem hr)).expl h0
      simp only [slX, Value.slice.injEq] at ef
      obtain ⟨rfl, -, rfl⟩ := ef
      dsimp only at hsf
      have cx_rf : PuG Tryz.prog 44 [u, S (c :: r)] G (· = Tu [Ag [U8 t.sort, S t.name, .slice (some ⟨bf, of, none⟩) t.fields.length ca], Bo true]) := cx_rf
      have hdl := decI_len6 (n := (nth t.fields 0).tag) (by omega)
      rw [if_neg s1]
      by_cases s2 : t.sort = 69
      · rw [if_pos s2]
        refine p_enter [(0, _), (1, _)] Tryz.func78 (by kernel_rfl) Tryz.ntmps78 rfl rfl (by repeat (first | exact trivial | refine ⟨rfl, ?_⟩)) fun B hB => ?_
        repeat' (first | (refine run (t := tb) 400 rfl ?_ ?_; (focus (repeat' (first | exact trivial | apply And.intro | omega | (simp only [List.length_append, List.length_cons, List.length_nil, Int.toNat_natCast]; omega))))) | (refine k_op rfl ?_; first | refine c_al rfl rfl fun _ => ?_ | refine c_stA rfl rfl rfl rfl rfl rfl ?_ | refine v_op (g_ld rfl rfl rfl) rfl rfl ?_ | (refine v_op (g_ldRF rfl rfl (by assumption) ?_ rfl rfl) rfl rfl ?_; (focus (((omega)); done))) | (refine v_op (g_iaddrN rfl rfl ?_) rfl rfl ?_; (focus ((omega); done))) | (refine c_rt rfl rfl rfl cx_rf rfl ?_) | (refine c_rt rfl rfl rfl (c_l6Dec ?_) rfl ?_; (focus (((simp; omega)); done)))) | (refine k_tt rfl ?_ ?_; (focus (((refine decide_eq_true ?_; (omega))); done))) | (refine k_ff rfl ?_ ?_; (focus ((first | rfl | (refine decide_eq_false ?_; (omega)) | (simp; omega)); done))))
        all_goals refine k_rr (vs := [_]) rfl ⟨rfl, trivial⟩ rfl (List.nil_sublist _) ⟨rfl, rfl, ?_⟩
        all_goals rfl
      have hin := kind_in hw htm s2 (nth_mem h0)
      have hen : ∀ t', refT (tys vs) (nth t.fields 0).kind = some t' → endsN (tys vs) n t' = true := by
        intro t' ht'
        have := he t hrf
        have s3 : t.sort = 85 := by rcases hW.sort with h | h | h <;> omega
        rw [endsN, if_neg (by simp [s3]), kind0_nth, ht'] at this
        exact this
      have cx_std := ih (k := (nth t.fields 0).kind) (by omega) hin hen
      have hsl := standN_len hw (n + 1) (nth t.fields 0).kind
      rw [if_neg s2]
      refine p_enter [(0, _), (1, _)] Tryz.func78 (by kernel_rfl) Tryz.ntmps78 rfl rfl (by repeat (first | exact trivial | refine ⟨rfl, ?_⟩)) fun B hB => ?_
      repeat' (first | (refine run (t := tb) 400 rfl ?_ ?_; (focus (repeat' (first | exact trivial | apply And.intro | omega | (simp only [List.length_append, List.length_cons, List.length_nil, Int.toNat_natCast]; omega))))) | (refine k_op rfl ?_; first | refine c_al rfl rfl fun _ => ?_ | refine c_stA rfl rfl rfl rfl rfl rfl ?_ | refine v_op (g_ld rfl rfl rfl) rfl rfl ?_ | (refine c_rt rfl rfl rfl cx_rf rfl ?_)) | (refine k_ff rfl ?_ ?_; (focus ((first | rfl | (refine decide_eq_false ?_; (omega)) | (simp; omega)); done))) | (refine k_any (s_any (id := 13) _ (fun _ h => h) mixed ?_); refine x_tks (t := tb) (fuel := 15) [0, 8, 9] (bts 18 769) (by kernel_rfl) (by kernel_rfl) rfl rfl (Gh.le.refl _) (by repeat ((exact List.Sublist.refl _))) ?_ ?_; (focus (repeat' ((exact trivial)))); ((refine (x_tkg (bts 18 771) 1 rfl (by kernel_rfl) rfl (Gh.le.refl _) (by repeat ((exact List.Sublist.refl _)))) (g_ld rfl rfl rfl) rfl rfl ?_)); ((refine (x_tkg (bts 18 775) 2 rfl (by kernel_rfl) rfl (Gh.le.refl _) (by repeat ((exact List.Sublist.refl _)))) (g_iaddrN rfl rfl ?_) rfl rfl ?_; (focus ((omega); done)))); refine x_tks (t := tb) (fuel := 12) [3] (bts 18 783) (by kernel_rfl) (by kernel_rfl) rfl rfl (Gh.le.refl _) (by repeat ((exact List.Sublist.refl _))) ?_ ?_; (focus (repeat' ((exact trivial)))); ((refine (x_tkg (bts 18 799) 4 rfl (by kernel_rfl) rfl (Gh.le.refl _) (by repeat ((exact List.Sublist.refl _)))) (g_ldRF rfl rfl (by assumption) ?_ rfl rfl) rfl rfl ?_; (focus (((omega)); done)))); ((refine (x_tkg (bts 18 1823) 10 rfl (by kernel_rfl) rfl (Gh.le.refl _) (by repeat ((exact List.Sublist.refl _)))) (g_ld rfl rfl rfl) rfl rfl ?_)); ((refine (x_tkg (bts 18 3871) 11 rfl (by kernel_rfl) rfl (Gh.le.refl _) (by repeat ((exact List.Sublist.refl _)))) (g_iaddrN rfl rfl ?_) rfl rfl ?_; (focus ((omega); done)))); refine x_tks (t := tb) (fuel := 8) [12] (bts 18 7967) (by kernel_rfl) (by kernel_rfl) rfl rfl (Gh.le.refl _) (by repeat ((exact List.Sublist.refl _))) ?_ ?_; (focus (repeat' ((exact trivial)))); ((refine (x_tkg (bts 18 16159) 13 rfl (by kernel_rfl) rfl (Gh.le.refl _) (by repeat ((exact List.Sublist.refl _)))) (g_ldRF rfl rfl (by assumption) ?_ rfl rfl) rfl rfl ?_; (focus (((omega)); done)))); refine x_all [5] (by kernel_rfl) (by decide) ⟨?_, trivial⟩; refine x_opg rfl rfl ?_; ((refine c_rt rfl rfl rfl (c_l6Dec ?_) rfl ?_; (focus (((simp; omega)); done)))); refine x_ks (by (exact Gh.le.refl _)) (by repeat ((exact List.Sublist.refl _))) (listed' := (bts 18 16191)) (by kernel_rfl) ?_; refine x_tks (t := tb) (fuel := 4) [6, 7] (bts 18 16383) (by kernel_rfl) (by kernel_rfl) rfl rfl (Gh.le.refl _) (by repeat ((exact List.Sublist.refl _))) ?_ ?_; (focus (repeat' (first | exact trivial | apply And.intro | (simp only [List.length_append, List.length_cons, List.length_nil, Int.toNat_natCast]; omega)))); refine x_all [14] (by kernel_rfl) (by decide) ⟨?_, trivial⟩; refine x_opg rfl rfl ?_; ((refine c_rt rfl rfl rfl cx_std rfl ?_)); refine x_ks (by (exact Gh.le.refl _)) (by repeat ((exact List.Sublist.refl _))) (listed' := (bts 18 32767)) (by kernel_rfl) ?_; refine x_tks (t := tb) (fuel := 0) [15, 16, 17] (bts 18 262143) (by kernel_rfl) (by kernel_rfl) rfl rfl (Gh.le.refl _) (by repeat ((exact List.Sublist.refl _))) ?_ ?_; (focus (repeat' (first | exact trivial | apply And.intro | (simp only [List.length_append, List.length_cons, List.length_nil, Int.toNat_natCast]; omega)))); refine x_done (by kernel_rfl) (k_bk ?_)))
      all_goals refine k_rr (vs := [_]) rfl ⟨rfl, trivial⟩ rfl (List.nil_sublist _) ⟨rfl, rfl, ?_⟩
      all_goals (rw [oneOf_one]; simp)
theorem c_standKS {u : Value} {vs : List TyX} (h : SchR G u vs) (hw : SchW (tys vs)) {k : List UInt8} (hk : kindIn (tys vs) k = true) : PuG Tryz.prog 78 [u, S k] G (· = S (standK (tys vs) k)) :=
  c_standsS h hw ((tys vs).length + 1) (by have := hw.len; omega) hk (fun t ht => ends_of hw t ht)
end Go.E
/-! Oc -/
namespace Go.E
set_option maxRecDepth 20000
set_option maxHeartbeats 2000000
open Go.Proofs
variable {G : Gh}
theorem sg_cons {c : UInt8} {r : List UInt8} (h : c.toNat = 91 ∨ c.toNat = 63) : sg (c :: r) = c :: sg r := by
  unfold sg
  rw [core, if_pos h]
  have := core_len' r
  rw [List.length_cons, show r.length + 1 - (core r).length = (r.length - (core r).length) + 1 by omega]
  rfl
theorem sg_none {c : UInt8} {r : List UInt8} (h : ¬ (c.toNat = 91 ∨ c.toNat = 63)) : sg (c :: r) = [] := by
  unfold sg; rw [core_self h]; simp
theorem c_sign0 {b c : List UInt8} : PuG Tryz.prog 100 [Ag [S [], S b, S c]] G (· = U8 (0 : Nat)) := by
  refine p_enter [(0, _)] Tryz.func100 (by kernel_rfl) Tryz.ntmps100 rfl rfl (by repeat (first | exact trivial | refine ⟨rfl, ?_⟩)) fun B hB => ?_
  repeat' (first | (refine run (t := tb) 400 rfl ?_ ?_; (focus (repeat' ((exact trivial))))) | (refine k_op rfl ?_; first | refine c_bx rfl rfl rfl fun _ => ?_ | refine v_op (g_ld rfl rfl rfl) rfl rfl ?_) | (refine k_tt rfl ?_ ?_; (focus (((rfl)); done))))
  all_goals refine k_rr (vs := [_]) rfl ⟨rfl, trivial⟩ rfl (List.nil_sublist _) ⟨rfl, rfl, ?_⟩
  all_goals rfl
theorem c_sign1 {x : UInt8} {a b c : List UInt8} : PuG Tryz.prog 100 [Ag [S (x :: a), S b, S c]] G (· = U8 (x.toNat : Nat)) := by
  have e0 := bt_c0 x a
  refine p_enter [(0, _)] Tryz.func100 (by kernel_rfl) Tryz.ntmps100 rfl rfl (by repeat (first | exact trivial | refine ⟨rfl, ?_⟩)) fun B hB => ?_
  repeat' (first | (refine run (t := tb) 400 rfl ?_ ?_; (focus (repeat' (first | exact trivial | apply And.intro | omega | (simp only [List.length_append, List.length_cons, List.length_nil, Int.toNat_natCast]; omega))))) | (refine k_op rfl ?_; first | refine c_bx rfl rfl rfl fun _ => ?_ | refine v_op (g_ld rfl rfl rfl) rfl rfl ?_) | (refine k_ff rfl ?_ ?_; (focus (((rfl)); done))))
  all_goals refine k_rr (vs := [_]) rfl ⟨rfl, trivial⟩ rfl (List.nil_sublist _) ⟨rfl, rfl, ?_⟩
  all_goals (rw [oneOf_one]; (rfl))
/-- What a kind without signs is. -/
theorem bs_plain {k : List UInt8} (hk : kindOk k = true) (hr : refN (core k) = none) : bs k = [110] ∨ bs k = [116] ∨ bs k = [102] := by
  have h := core_kOk (kindOk_kOk hk).1
  unfold bs
  cases hc : core k with
  | nil => rw [hc] at h; cases h
  | cons c r =>
    rw [hc] at h hr
    have h64 : ¬ c.toNat = 64 := by
      intro h64
      simp [refN, h64] at hr
    have h91 : ¬ (c.toNat = 91 ∨ c.toNat = 63) := core_head hc
    have e : bsT (c :: r) = c :: r := by simp [bsT, h64]
    rw [e]
    rw [kOk, if_neg h91, if_neg h64] at h
    simp only [Bool.and_eq_true, Bool.or_eq_true, decide_eq_true_eq] at h
    obtain ⟨rfl, h⟩ := h
    have hu : ∀ n : Nat, c.toNat = n → n < 256 → c = UInt8.ofNat n := fun n h1 h2 => by
      apply UInt8.toNat_inj.1; rw [h1, UInt8.toNat_ofNat']; omega
    rcases h with (h | h) | h
    · exact .inl (by rw [hu _ h (by decide)]; rfl)
    · exact .inr (.inl (by rw [hu _ h (by decide)]; rfl))
    · exact .inr (.inr (by rw [hu _ h (by decide)]; rfl))
theorem ScI.W {b : Nat} {qs : List TyP} (_ : ScI G b qs) (hw : SchW (tyq qs)) {q : TyP} (hq : q ∈ qs) : q.2 ∈ tyq qs ∧ TyW q.2 := by
  have h1 : q.2 ∈ tyq qs := List.mem_map_of_mem hq
  exact ⟨h1, hw.ty _ h1⟩
theorem plain_bs {k : List UInt8} (hs : sg k = []) (hk : kindOk k = true) (hr : refN (core k) = none) : plainOf k = plainOf (bs k) := by
  match k, hk with
  | c :: r, hk =>
    have h91 : ¬ (c.toNat = 91 ∨ c.toNat = 63) := fun h => by rw [sg_cons h] at hs; cases hs
    have hc := core_self (r := r) h91
    have h64 : ¬ c.toNat = 64 := fun h64 => by rw [hc] at hr; simp [refN, h64] at hr
    unfold bs; rw [hc]; simp [bsT, h64]
theorem c_standsI {b : Nat} {qs : List TyP} (h : ScI G b qs) (hw : SchW (tyq qs)) : ∀ (n : Nat) {k : List UInt8}, n ≤ 1000 → kindIn (tyq qs) k = true → (∀ t, refT (tyq qs) k = some t → endsN (tyq qs) n t = true) →
    PuG Tryz.prog 87 [Pt b 0, Ag [S (sg k), S (bs k), S (nm k)]] G (· = S (standN (tyq qs) (n + 1) k)) := by
  obtain ⟨u, m, g1, g2, g3⟩ := h.at'
  intro n
  induction n with
  | zero =>
    intro k hn hk he
    have hko := kindIn_ok hk
    match k, hko with
    | c :: r, hko =>
      by_cases h91 : c.toNat = 91 ∨ c.toNat = 63
      · have cx_sign := @c_sign1 G c (sg r) (bs (c :: r)) (nm (c :: r))
        rw [sg_cons h91]
        by_cases h1 : c.toNat = 91
        · refine p_enter [(0, _), (1, _)] Tryz.func87 (by kernel_rfl) Tryz.ntmps87 rfl rfl (by repeat (first | exact trivial | refine ⟨rfl, ?_⟩)) fun B hB => ?_
          repeat' (first | (refine run (t := tb) 400 rfl ?_ ?_; (focus (repeat' ((exact trivial))))) | (refine k_op rfl ?_; first | refine c_bx rfl rfl rfl fun _ => ?_ | refine v_op (g_ldA rfl rfl rfl rfl) rfl rfl ?_ | (refine c_rt rfl rfl rfl cx_sign rfl ?_)) | (refine k_tt rfl ?_ ?_; (focus (((refine decide_eq_true ?_; (omega))); done))))
          all_goals refine k_rr (vs := [_]) rfl ⟨rfl, trivial⟩ rfl (List.nil_sublist _) ⟨rfl, rfl, ?_⟩
          all_goals (rw [oneOf_one]; unfold standN; rw [if_pos h1])
        have h2 : c.toNat = 63 := by omega
        refine p_enter [(0, _), (1, _)] Tryz.func87 (by kernel_rfl) Tryz.ntmps87 rfl rfl (by repeat (first | exact trivial | refine ⟨rfl, ?_⟩)) fun B hB => ?_
        repeat' (first | (refine run (t := tb) 400 rfl ?_ ?_; (focus (repeat' ((exact trivial))))) | (refine k_op rfl ?_; first | refine c_bx rfl rfl rfl fun _ => ?_ | refine v_op (g_ldA rfl rfl rfl rfl) rfl rfl ?_ | (refine c_rt rfl rfl rfl cx_sign rfl ?_)) | (refine k_tt rfl ?_ ?_; (focus (((refine decide_eq_true ?_; (omega))); done))) | (refine k_ff rfl ?_ ?_; (focus (((refine decide_eq_false ?_; (omega))); done))))
        all_goals refine k_rr (vs := [_]) rfl ⟨rfl, trivial⟩ rfl (List.nil_sublist _) ⟨rfl, rfl, ?_⟩
        all_goals (rw [oneOf_one]; unfold standN; rw [if_neg h1, if_pos h2])
      have hsg := sg_none (r := r) h91
      have hcs := core_self (r := r) h91
      rw [hsg]
      cases hrf : refT (tyq qs) (c :: r) with
      | some t => have := he t hrf; cases this
      | none =>
        have hrn : refN (core (c :: r)) = none := by
          cases hx : refN (core (c :: r)) with
          | none => rfl
          | some x =>
            obtain ⟨t, ht⟩ := kind_refT hk (by rw [hx]; rfl)
            rw [hcs, hrf] at ht; cases ht
        have hpl := plain_bs hsg hko hrn
        have e3 : standN (tyq qs) (0 + 1) (c :: r) = plainOf (bs (c :: r)) := by
          rw [standN, if_neg (by omega), if_neg (by omega), hrf]; exact hpl
        rw [e3]
        rcases bs_plain hko hrn with e | e | e
        all_goals
          rw [e]
          refine p_enter [(0, _), (1, _)] Tryz.func87 (by kernel_rfl) Tryz.ntmps87 rfl rfl (by repeat (first | exact trivial | refine ⟨rfl, ?_⟩)) fun B hB => ?_
          repeat' (first | (refine run (t := tb) 400 rfl ?_ ?_; (focus (repeat' ((exact trivial))))) | (refine k_op rfl ?_; first | refine c_bx rfl rfl rfl fun _ => ?_ | refine v_op (g_ld rfl rfl rfl) rfl rfl ?_ | refine v_op (g_ldA rfl rfl rfl rfl) rfl rfl ?_ | (refine c_rt rfl rfl rfl c_sign0 rfl ?_)) | (refine k_tt rfl ?_ ?_; (focus (((rfl)); done))) | (refine k_ff rfl ?_ ?_; (focus (((rfl)); done))))
          all_goals refine k_rr (vs := [_]) rfl ⟨rfl, trivial⟩ rfl (List.nil_sublist _) ⟨rfl, rfl, ?_⟩
          all_goals rfl
  | succ n ih =>
    intro k hn hk he
    have hko := kindIn_ok hk
    match k, hko with
    | c :: r, hko =>
      by_cases h91 : c.toNat = 91 ∨ c.toNat = 63
      · have cx_sign := @c_sign1 G c (sg r) (bs (c :: r)) (nm (c :: r))
        rw [sg_cons h91]
        by_cases h1 : c.toNat = 91
        · refine p_enter [(0, _), (1, _)] Tryz.func87 (by kernel_rfl) Tryz.ntmps87 rfl rfl (by repeat (first | exact trivial | refine ⟨rfl, ?_⟩)) fun B hB => ?_
          repeat' (first | (refine run (t := tb) 400 rfl ?_ ?_; (focus (repeat' ((exact trivial))))) | (refine k_op rfl ?_; first | refine c_bx rfl rfl rfl fun _ => ?_ | refine v_op (g_ldA rfl rfl rfl rfl) rfl rfl ?_ | (refine c_rt rfl rfl rfl cx_sign rfl ?_)) | (refine k_tt rfl ?_ ?_; (focus (((refine decide_eq_true ?_; (omega))); done))))
          all_goals refine k_rr (vs := [_]) rfl ⟨rfl, trivial⟩ rfl (List.nil_sublist _) ⟨rfl, rfl, ?_⟩
          all_goals (rw [oneOf_one]; unfold standN; rw [if_pos h1])
        have h2 : c.toNat = 63 := by omega
        refine p_enter [(0, _), (1, _)] Tryz.func87 (by kernel_rfl) Tryz.ntmps87 rfl rfl (by repeat (first | exact trivial | refine ⟨rfl, ?_⟩)) fun B hB => ?_
        repeat' (first | (refine run (t := tb) 400 rfl ?_ ?_; (focus (repeat' ((exact trivial))))) | (refine k_op rfl ?_; first | refine c_bx rfl rfl rfl fun _ => ?_ | refine v_op (g_ldA rfl rfl rfl rfl) rfl rfl ?_ | (refine c_rt rfl rfl rfl cx_sign rfl ?_)) | (refine k_tt rfl ?_ ?_; (focus (((refine decide_eq_true ?_; (omega))); done))) | (refine k_ff rfl ?_ ?_; (focus (((refine decide_eq_false ?_; (omega))); done))))
        all_goals refine k_rr (vs := [_]) rfl ⟨rfl, trivial⟩ rfl (List.nil_sublist _) ⟨rfl, rfl, ?_⟩
        all_goals (rw [oneOf_one]; unfold standN; rw [if_neg h1, if_pos h2])
      have hsg := sg_none (r := r) h91
      have hcs := core_self (r := r) h91
      rw [hsg]
      cases hrf : refT (tyq qs) (c :: r) with
      | none =>
        have hrn : refN (core (c :: r)) = none := by
          cases hx : refN (core (c :: r)) with
          | none => rfl
          | some x =>
            obtain ⟨t, ht⟩ := kind_refT hk (by rw [hx]; rfl)
            rw [hcs, hrf] at ht; cases ht
        have hpl := plain_bs hsg hko hrn
        have e3 : standN (tyq qs) (n + 1 + 1) (c :: r) = plainOf (bs (c :: r)) := by
          rw [standN, if_neg (by omega), if_neg (by omega), hrf]; exact hpl
        rw [e3]
        rcases bs_plain hko hrn with e | e | e
        all_goals
          rw [e]
          refine p_enter [(0, _), (1, _)] Tryz.func87 (by kernel_rfl) Tryz.ntmps87 rfl rfl (by repeat (first | exact trivial | refine ⟨rfl, ?_⟩)) fun B hB => ?_
          repeat' (first | (refine run (t := tb) 400 rfl ?_ ?_; (focus (repeat' ((exact trivial))))) | (refine k_op rfl ?_; first | refine c_bx rfl rfl rfl fun _ => ?_ | refine v_op (g_ld rfl rfl rfl) rfl rfl ?_ | refine v_op (g_ldA rfl rfl rfl rfl) rfl rfl ?_ | (refine c_rt rfl rfl rfl c_sign0 rfl ?_)) | (refine k_tt rfl ?_ ?_; (focus (((rfl)); done))) | (refine k_ff rfl ?_ ?_; (focus (((rfl)); done))))
          all_goals refine k_rr (vs := [_]) rfl ⟨rfl, trivial⟩ rfl (List.nil_sublist _) ⟨rfl, rfl, ?_⟩
          all_goals rfl
      | some t =>
        have hrn : (refN (core (c :: r))).isSome = true := by
          rw [hcs]; unfold refT at hrf
          cases hx : refN (c :: r) with
          | none => rw [hx] at hrf; cases hrf
          | some x => rfl
        have hbs : bs (c :: r) = [64] := (bs_at hko).2 hrn
        have hnm : refN (c :: r) = some (nm (c :: r)) := by
          unfold nm; rw [hcs] at hrn ⊢
          cases hx : refN (c :: r) with
          | none => rw [hx] at hrn; cases hrn
          | some x => rfl
        have hft : findT (tyq qs) (nm (c :: r)) = some t := by unfold refT at hrf; rw [hnm] at hrf; exact hrf
        have hkv := kvF_find qs (nm (c :: r))
        rw [← findQ_ty] at hft
        rcases hfq : findQ qs (nm (c :: r)) with _ | ⟨p, t'⟩
        · rw [hfq] at hft; cases hft
        rw [hfq] at hft hkv
        dsimp only [Option.map_some] at hft hkv
        have htt : t' = t := Option.some.inj hft
        subst htt
        have hqm := findQ_mem hfq
        have htm := refT_mem hrf
        have hW := hw.ty t' htm
        have htg := hw.tag0 htm
        rw [tag0_nth] at htg
        obtain ⟨fv, ln, hsg2, hfv⟩ := h.ty _ hqm
        dsimp only at hsg2 hfv
        have e3 : standN (tyq qs) (n + 1 + 1) (c :: r) = if t'.sort = 82 then [123, 125] else if t'.sort = 69 then 35 :: decI (tag0 t') else 60 :: (decI (tag0 t') ++ 61 :: (standN (tyq qs) (n + 1) (kind0 t') ++ [62])) := by
          rw [standN, if_neg (by omega), if_neg (by omega), hrf]
        rw [e3, tag0_nth, kind0_nth, hbs]
        clear e3 hcs hsg hrn hnm hbs
        by_cases s1 : t'.sort = 82
        · rw [if_pos s1]
          refine p_enter [(0, _), (1, _)] Tryz.func87 (by kernel_rfl) Tryz.ntmps87 rfl rfl (by repeat (first | exact trivial | refine ⟨rfl, ?_⟩)) fun B hB => ?_
          repeat' (first | (refine run (t := tb) 400 rfl ?_ ?_; (focus (repeat' ((exact trivial))))) | (refine k_op rfl ?_; first | refine c_bx rfl rfl rfl fun _ => ?_ | refine v_op (g_ld rfl rfl rfl) rfl rfl ?_ | refine v_op (g_ldA rfl rfl rfl rfl) rfl rfl ?_ | refine v_op (g_ldS rfl rfl (by assumption) rfl rfl) rfl rfl ?_ | (refine c_rt rfl rfl rfl c_sign0 rfl ?_)) | (refine k_tt rfl ?_ ?_; (focus (((refine decide_eq_true ?_; (omega))); done))) | (refine k_ff rfl ?_ ?_; (focus (((rfl)); done))) | (refine k_any (s_any (id := 13) _ (fun _ h => h) mixed ?_); refine x_tks (t := tb) (fuel := 4) [0, 1, 2, 4] (bts 8 23) (by kernel_rfl) (by kernel_rfl) rfl rfl (Gh.le.refl _) (by repeat ((exact List.Sublist.refl _))) ?_ ?_; (focus (repeat' ((exact trivial)))); ((refine (x_tkg (bts 8 31) 3 rfl (by kernel_rfl) rfl (Gh.le.refl _) (by repeat ((exact List.Sublist.refl _)))) (g_ldS rfl rfl (by assumption) rfl rfl) rfl rfl ?_)); ((refine (x_tkg (bts 8 63) 5 rfl (by kernel_rfl) rfl (Gh.le.refl _) (by repeat ((exact List.Sublist.refl _)))) (g_ld rfl rfl rfl) rfl rfl ?_)); ((refine (x_tkg (bts 8 127) 6 rfl (by kernel_rfl) rfl (Gh.le.refl _) (by repeat ((exact List.Sublist.refl _)))) (g_lookupX rfl rfl (map_G (by assumption)) (by assumption) rfl) rfl rfl ?_)); refine x_tks (t := tb) (fuel := 0) [7] (bts 8 255) (by kernel_rfl) (by kernel_rfl) rfl rfl (Gh.le.refl _) (by repeat ((exact List.Sublist.refl _))) ?_ ?_; (focus (repeat' ((exact trivial)))); refine x_done (by kernel_rfl) (k_bk ?_)))
          all_goals refine k_rr (vs := [_]) rfl ⟨rfl, trivial⟩ rfl (List.nil_sublist _) ⟨rfl, rfl, ?_⟩
          all_goals rfl
        have h0 : 0 < t'.fields.length := List.length_pos_iff.2 (hW.ne s1)
        obtain ⟨bf, of, cf, rfl, hsf⟩ := hfv.expl h0
        have hdl := decI_len6 (n := (nth t'.fields 0).tag) (by omega)
        rw [if_neg s1]
        by_cases s2 : t'.sort = 69
        · rw [if_pos s2]
          refine p_enter [(0, _), (1, _)] Tryz.func87 (by kernel_rfl) Tryz.ntmps87 rfl rfl (by repeat (first | exact trivial | refine ⟨rfl, ?_⟩)) fun B hB => ?_
          repeat' (first | (refine run (t := tb) 400 rfl ?_ ?_; (focus (repeat' (first | exact trivial | apply And.intro | (simp only [List.length_append, List.length_cons, List.length_nil, Int.toNat_natCast]; omega))))) | (refine k_op rfl ?_; first | refine c_bx rfl rfl rfl fun _ => ?_ | refine v_op (g_ld rfl rfl rfl) rfl rfl ?_ | (refine v_op (g_ldRF rfl rfl (by assumption) ?_ rfl rfl) rfl rfl ?_; (focus (((omega)); done))) | refine v_op (g_ldA rfl rfl rfl rfl) rfl rfl ?_ | refine v_op (g_ldS rfl rfl (by assumption) rfl rfl) rfl rfl ?_ | (refine v_op (g_iaddrN rfl rfl ?_) rfl rfl ?_; (focus ((omega); done))) | (refine c_rt rfl rfl rfl c_sign0 rfl ?_) | (refine c_rt rfl rfl rfl (c_decimalN ?_) rfl ?_; (focus (((simp; omega)); done)))) | (refine k_tt rfl ?_ ?_; (focus (((refine decide_eq_true ?_; (omega))); done))) | (refine k_ff rfl ?_ ?_; (focus ((first | rfl | (refine decide_eq_false ?_; (omega))); done))) | (refine k_any (s_any (id := 13) _ (fun _ h => h) mixed ?_); refine x_tks (t := tb) (fuel := 4) [0, 1, 2, 4] (bts 8 23) (by kernel_rfl) (by kernel_rfl) rfl rfl (Gh.le.refl _) (by repeat ((exact List.Sublist.refl _))) ?_ ?_; (focus (repeat' ((exact trivial)))); ((refine (x_tkg (bts 8 31) 3 rfl (by kernel_rfl) rfl (Gh.le.refl _) (by repeat ((exact List.Sublist.refl _)))) (g_ldS rfl rfl (by assumption) rfl rfl) rfl rfl ?_)); ((refine (x_tkg (bts 8 63) 5 rfl (by kernel_rfl) rfl (Gh.le.refl _) (by repeat ((exact List.Sublist.refl _)))) (g_ld rfl rfl rfl) rfl rfl ?_)); ((refine (x_tkg (bts 8 127) 6 rfl (by kernel_rfl) rfl (Gh.le.refl _) (by repeat ((exact List.Sublist.refl _)))) (g_lookupX rfl rfl (map_G (by assumption)) (by assumption) rfl) rfl rfl ?_)); refine x_tks (t := tb) (fuel := 0) [7] (bts 8 255) (by kernel_rfl) (by kernel_rfl) rfl rfl (Gh.le.refl _) (by repeat ((exact List.Sublist.refl _))) ?_ ?_; (focus (repeat' ((exact trivial)))); refine x_done (by kernel_rfl) (k_bk ?_)))
          all_goals refine k_rr (vs := [_]) rfl ⟨rfl, trivial⟩ rfl (List.nil_sublist _) ⟨rfl, rfl, ?_⟩
          all_goals rfl
        have hin := kind_in hw htm s2 (nth_mem h0)
        have hen : ∀ t2, refT (tyq qs) (nth t'.fields 0).kind = some t2 → endsN (tyq qs) n t2 = true := by
          intro t2 ht2
          have := he t' hrf
          have s3 : t'.sort = 85 := by rcases hW.sort with h | h | h <;> omega
          rw [endsN, if_neg (by simp [s3]), kind0_nth, ht2] at this
          exact this
        have cx_std := ih (k := (nth t'.fields 0).kind) (by omega) hin hen
        have hsl := standN_len hw (n + 1) (nth t'.fields 0).kind
        rw [if_neg s2]
        refine p_enter [(0, _), (1, _)] Tryz.func87 (by kernel_rfl) Tryz.ntmps87 rfl rfl (by repeat (first | exact trivial | refine ⟨rfl, ?_⟩)) fun B hB => ?_
        repeat' (first | (refine run (t := tb) 400 rfl ?_ ?_; (focus (repeat' ((exact trivial))))) | (refine k_op rfl ?_; first | refine c_bx rfl rfl rfl fun _ => ?_ | refine v_op (g_ld rfl rfl rfl) rfl rfl ?_ | refine v_op (g_ldA rfl rfl rfl rfl) rfl rfl ?_ | refine v_op (g_ldS rfl rfl (by assumption) rfl rfl) rfl rfl ?_ | (refine c_rt rfl rfl rfl c_sign0 rfl ?_)) | (refine k_ff rfl ?_ ?_; (focus ((first | rfl | (refine decide_eq_false ?_; (omega))); done))) | (refine k_any (s_any (id := 13) _ (fun _ h => h) mixed ?_); refine x_tks (t := tb) (fuel := 4) [0, 1, 2, 4] (bts 8 23) (by kernel_rfl) (by kernel_rfl) rfl rfl (Gh.le.refl _) (by repeat ((exact List.Sublist.refl _))) ?_ ?_; (focus (repeat' ((exact trivial)))); ((refine (x_tkg (bts 8 31) 3 rfl (by kernel_rfl) rfl (Gh.le.refl _) (by repeat ((exact List.Sublist.refl _)))) (g_ldS rfl rfl (by assumption) rfl rfl) rfl rfl ?_)); ((refine (x_tkg (bts 8 63) 5 rfl (by kernel_rfl) rfl (Gh.le.refl _) (by repeat ((exact List.Sublist.refl _)))) (g_ld rfl rfl rfl) rfl rfl ?_)); ((refine (x_tkg (bts 8 127) 6 rfl (by kernel_rfl) rfl (Gh.le.refl _) (by repeat ((exact List.Sublist.refl _)))) (g_lookupX rfl rfl (map_G (by assumption)) (by assumption) rfl) rfl rfl ?_)); refine x_tks (t := tb) (fuel := 0) [7] (bts 8 255) (by kernel_rfl) (by kernel_rfl) rfl rfl (Gh.le.refl _) (by repeat ((exact List.Sublist.refl _))) ?_ ?_; (focus (repeat' ((exact trivial)))); refine x_done (by kernel_rfl) (k_bk ?_)) | (refine k_any (s_any (id := 19) _ (fun _ h => h) mixed ?_); refine x_tks (t := tb) (fuel := 15) [0, 1, 2, 10, 11, 12, 13] (bts 22 15367) (by kernel_rfl) (by kernel_rfl) rfl rfl (Gh.le.refl _) (by repeat ((exact List.Sublist.refl _))) ?_ ?_; (focus (repeat' ((exact trivial)))); ((refine (x_tkg (bts 22 15375) 3 rfl (by kernel_rfl) rfl (Gh.le.refl _) (by repeat ((exact List.Sublist.refl _)))) (g_ldS rfl rfl (by assumption) rfl rfl) rfl rfl ?_)); ((refine (x_tkg (bts 22 15391) 4 rfl (by kernel_rfl) rfl (Gh.le.refl _) (by repeat ((exact List.Sublist.refl _)))) (g_iaddrN rfl rfl ?_) rfl rfl ?_; (focus ((omega); done)))); refine x_tks (t := tb) (fuel := 12) [5] (bts 22 15423) (by kernel_rfl) (by kernel_rfl) rfl rfl (Gh.le.refl _) (by repeat ((exact List.Sublist.refl _))) ?_ ?_; (focus (repeat' ((exact trivial)))); ((refine (x_tkg (bts 22 15487) 6 rfl (by kernel_rfl) rfl (Gh.le.refl _) (by repeat ((exact List.Sublist.refl _)))) (g_ldRF rfl rfl (by assumption) ?_ rfl rfl) rfl rfl ?_; (focus (((omega)); done)))); ((refine (x_tkg (bts 22 31871) 14 rfl (by kernel_rfl) rfl (Gh.le.refl _) (by repeat ((exact List.Sublist.refl _)))) (g_ldS rfl rfl (by assumption) rfl rfl) rfl rfl ?_)); ((refine (x_tkg (bts 22 64639) 15 rfl (by kernel_rfl) rfl (Gh.le.refl _) (by repeat ((exact List.Sublist.refl _)))) (g_iaddrN rfl rfl ?_) rfl rfl ?_; (focus ((omega); done)))); refine x_tks (t := tb) (fuel := 8) [16] (bts 22 130175) (by kernel_rfl) (by kernel_rfl) rfl rfl (Gh.le.refl _) (by repeat ((exact List.Sublist.refl _))) ?_ ?_; (focus (repeat' ((exact trivial)))); ((refine (x_tkg (bts 22 261247) 17 rfl (by kernel_rfl) rfl (Gh.le.refl _) (by repeat ((exact List.Sublist.refl _)))) (g_ldRA rfl rfl (by assumption) ?_ rfl rfl) rfl rfl ?_; (focus (((omega)); done)))); refine x_all [7] (by kernel_rfl) (by decide) ⟨?_, trivial⟩; refine x_opg rfl rfl ?_; ((refine c_rt rfl rfl rfl (c_decimalN ?_) rfl ?_; (focus (((simp; omega)); done)))); refine x_ks (by (exact Gh.le.refl _)) (by repeat ((exact List.Sublist.refl _))) (listed' := (bts 22 261375)) (by kernel_rfl) ?_; refine x_tks (t := tb) (fuel := 4) [8, 9] (bts 22 262143) (by kernel_rfl) (by kernel_rfl) rfl rfl (Gh.le.refl _) (by repeat ((exact List.Sublist.refl _))) ?_ ?_; (focus (repeat' (first | exact trivial | apply And.intro | (simp only [List.length_append, List.length_cons, List.length_nil, Int.toNat_natCast]; omega)))); refine x_all [18] (by kernel_rfl) (by decide) ⟨?_, trivial⟩; refine x_opg rfl rfl ?_; ((refine c_rt rfl rfl rfl cx_std rfl ?_)); refine x_ks (by (exact Gh.le.refl _)) (by repeat ((exact List.Sublist.refl _))) (listed' := (bts 22 524287)) (by kernel_rfl) ?_; refine x_tks (t := tb) (fuel := 0) [19, 20, 21] (bts 22 4194303) (by kernel_rfl) (by kernel_rfl) rfl rfl (Gh.le.refl _) (by repeat ((exact List.Sublist.refl _))) ?_ ?_; (focus (repeat' (first | exact trivial | apply And.intro | (simp only [List.length_append, List.length_cons, List.length_nil, Int.toNat_natCast]; omega)))); refine x_done (by kernel_rfl) (k_bk ?_)))
        all_goals refine k_rr (vs := [_]) rfl ⟨rfl, trivial⟩ rfl (List.nil_sublist _) ⟨rfl, rfl, ?_⟩
        all_goals (rw [oneOf_one]; simp)
theorem c_standKI {b : Nat} {qs : List TyP} (h : ScI G b qs) (hw : SchW (tyq qs)) {k : List UInt8} (hk : kindIn (tyq qs) k = true) : PuG Tryz.prog 87 [Pt b 0, Ag [S (sg k), S (bs k), S (nm k)]] G (· = S (standK (tyq qs) k)) :=
  c_standsI h hw ((tyq qs).length + 1) (by have := hw.len; omega) hk (fun t ht => ends_of hw t ht)
end Go.E
/-! Od -/
namespace Go.E
set_option maxRecDepth 20000
set_option maxHeartbeats 2000000
open Go.Proofs
variable {G : Gh}
theorem find_at {α : Type} [Inhabited α] {p : α → Bool} : ∀ {l : List α} {i : Nat}, i < l.length → (∀ k, k < i → p (nth l k) = false) → p (nth l i) = true → l.find? p = some (nth l i)
  | [], i, hi, _, _ => by simp at hi
  | a :: l, 0, _, _, h => by
    have h : p a = true := h
    rw [List.find?_cons, h]; rfl
  | a :: l, i + 1, hi, hno, h => by
    have h0 : p a = false := hno 0 (by omega)
    rw [List.find?_cons, h0]
    exact find_at (l := l) (i := i) (by simpa using hi) (fun k hk => hno (k + 1) (by omega)) h
theorem find_no {α : Type} [Inhabited α] {p : α → Bool} {l : List α} (hno : ∀ k, k < l.length → p (nth l k) = false) : l.find? p = none := by
  rw [List.find?_eq_none]
  intro x hx
  obtain ⟨i, hi, rfl⟩ := List.mem_iff_getElem.1 hx
  have := hno i hi
  rw [nth_eq hi] at this
  simp [this]
theorem fldT_at {fs : List Fld} {tag : Int} {i : Nat} (hi : i < fs.length) (hno : ∀ k, k < i → (nth fs k).tag ≠ tag) (h : (nth fs i).tag = tag) : fldT fs tag = some (nth fs i) :=
  find_at hi (fun k hk => by simpa using hno k hk) (by simpa using h)
theorem fldT_no {fs : List Fld} {tag : Int} (hno : ∀ k, k < fs.length → (nth fs k).tag ≠ tag) : fldT fs tag = none := find_no fun k hk => by simpa using hno k hk
theorem fldT_some {fs : List Fld} {tag : Int} {f : Fld} (h : fldT fs tag = some f) : ∃ i, i < fs.length ∧ (∀ k, k < i → (nth fs k).tag ≠ tag) ∧ (nth fs i).tag = tag ∧ nth fs i = f := by
  have hex : ∃ i, i < fs.length ∧ (nth fs i).tag = tag := by
    have hm := List.mem_of_find?_eq_some h
    have ht := List.find?_some h
    obtain ⟨i, hi, rfl⟩ := List.mem_iff_getElem.1 hm
    exact ⟨i, hi, by rw [nth_eq hi]; simpa using ht⟩
  obtain ⟨i, hi, ht⟩ := hex
  induction i using Nat.strongRecOn with
  | _ i ih =>
    by_cases hc : ∃ k, k < i ∧ (nth fs k).tag = tag
    · obtain ⟨k, hk, hkt⟩ := hc
      exact ih k hk (by omega) hkt
    · have hno : ∀ k, k < i → (nth fs k).tag ≠ tag := fun k hk e => hc ⟨k, hk, e⟩
      refine ⟨i, hi, hno, ht, ?_⟩
      rw [fldT_at hi hno ht] at h
      exact Option.some.inj h
abbrev zF : Fld := ⟨0, [], [], []⟩
abbrev tFldS : TypeId := 116
abbrev tTyS : TypeId := 67
theorem c_fieldS {x : TyX} {tag : Int} (hf : SlV G (slX x) 4 x.2.fields.length (rows fldF x.2.fields)) (hl : x.2.fields.length ≤ 1000) :
    PuG Tryz.prog 62 [Ag [U8 x.2.sort, S x.2.name, slX x], I tag] G (· = Tu [Ag (fldF ((fldT x.2.fields tag).getD zF)), Bo (fldT x.2.fields tag).isSome]) := by
  obtain ⟨⟨a, ca⟩, t⟩ := x
  simp only [slX] at hf ⊢
  dsimp only at hl
  refine p_enter [(0, _), (1, _)] Tryz.func62 (by kernel_rfl) Tryz.ntmps62 rfl rfl (by repeat (first | exact trivial | refine ⟨rfl, ?_⟩)) fun B hB => ?_
  repeat' (first | (refine run (t := tb) 400 rfl ?_ ?_; (focus (repeat' ((exact trivial))))) | (refine k_op rfl ?_; first | refine c_bx rfl rfl rfl fun _ => ?_ | refine c_al rfl rfl fun _ => ?_))
  rename_i y z
  refine k_loop (ι := Nat) (fun i => i ≤ t.fields.length ∧ ∀ k, k < i → (nth t.fields k).tag ≠ tag) (fun i => [(1, I tag), (2, Pt y 0), (4, Pt z 0), (6, I i)]) (fun _ => G) (fun i => [.blk z (.cells [I 0, S [], S [], S []].toArray tFldS (0, 0)), .blk y (.cells [U8 t.sort, S t.name, .slice a t.fields.length ca].toArray tTyS (0, 0))]) (fun i => t.fields.length - i) 0 ?_ (by repeat (first | exact trivial | refine ⟨rfl, ?_⟩)) rfl (by repeat ((exact List.Sublist.refl _))) (fun i Hi => ?_)
  · exact ⟨Nat.zero_le _, fun k hk => absurd hk (by omega)⟩
  by_cases hi : i < t.fields.length
  · obtain ⟨bf, of, cf, e, hs⟩ := hf.expl (by omega)
    simp only [Value.slice.injEq] at e
    obtain ⟨rfl, -, rfl⟩ := e
    repeat' (first | (refine run (t := tb) 400 rfl ?_ ?_; (focus (repeat' (first | exact trivial | apply And.intro | omega)))) | (refine k_op rfl ?_; first | refine v_op (g_ld rfl rfl rfl) rfl rfl ?_ | (refine v_op (g_ldR rfl rfl (by assumption) ?_) rfl rfl ?_; (focus (((omega)); done))) | (refine v_op (g_ldRF rfl rfl (by assumption) ?_ rfl rfl) rfl rfl ?_; (focus (((omega)); done))) | refine v_op (g_lenL rfl) rfl rfl ?_ | (refine v_op (g_iaddrN rfl rfl ?_) rfl rfl ?_; (focus ((omega); done))) | refine c_stA rfl rfl rfl rfl rfl rfl ?_) | (refine k_tt rfl ?_ ?_; (focus (((refine decide_eq_true ?_; (omega))); done))) | refine k_if rfl (fun _ => ?_) (fun _ => ?_))
    · rename_i he
      refine k_rr (vs := [_, _]) rfl ⟨rc_A rfl rfl rfl rfl, rfl, trivial⟩ rfl (List.nil_sublist _) ⟨rfl, rfl, ?_⟩
      rw [fldT_at hi Hi.2 he]; rfl
    · rename_i he
      refine k_rd (i + 1) ⟨by omega, fun k hk => ?_⟩ (by omega) (by repeat (first | exact trivial | refine ⟨rfl, ?_⟩)) rfl (by repeat ((exact List.Sublist.refl _)))
      rcases Nat.lt_or_ge k i with h3 | h3
      · exact Hi.2 k h3
      · have : k = i := by omega
        subst this; exact he
  · repeat' (first | (refine run (t := tb) 400 rfl ?_ ?_; (focus (repeat' ((exact trivial))))) | (refine k_op rfl ?_; first | refine v_op (g_ld rfl rfl rfl) rfl rfl ?_ | refine v_op (g_lenL rfl) rfl rfl ?_ | refine c_stA rfl rfl rfl rfl rfl rfl ?_ | refine v_op (g_bld rfl rfl) rfl rfl ?_) | (refine k_ff rfl ?_ ?_; (focus (((refine decide_eq_false ?_; (omega))); done))))
    refine k_rr (vs := [_, _]) rfl ⟨rc_A rfl rfl rfl rfl, rfl, trivial⟩ rfl (List.nil_sublist _) ⟨rfl, rfl, ?_⟩
    rw [fldT_no fun k hk => Hi.2 k (by omega)]; rfl
theorem c_fieldI0 {b : Nat} {t : Ty} {fv : Value} {ln : List UInt8} {tag : Int} (hs : Seg G b 0 [U8 t.sort, S t.name, fv, S ln]) (hf : SlV G fv 6 t.fields.length (rows fiF t.fields)) (hl : t.fields.length ≤ 1000) (h : fldT t.fields tag = none) :
    PuG Tryz.prog 74 [Pt b 0, I tag] G (· = .pointer none) := by
  have hno : ∀ k, k < t.fields.length → (nth t.fields k).tag ≠ tag := fun k hk e => by
    have h1 := List.find?_eq_none.1 h (nth t.fields k) (nth_mem hk)
    exact h1 (by simpa using e)
  refine p_enter [(0, _), (1, _)] Tryz.func74 (by kernel_rfl) Tryz.ntmps74 rfl rfl (by repeat (first | exact trivial | refine ⟨rfl, ?_⟩)) fun B hB => ?_
  repeat' (first | (refine run (t := tb) 400 rfl ?_ ?_; (focus (repeat' ((exact trivial))))) | (refine k_op rfl ?_; first | refine v_op (g_ldS rfl rfl (by assumption) rfl rfl) rfl rfl ?_ | refine v_op (g_lenV rfl (by assumption)) rfl rfl ?_))
  refine k_loop (ι := Nat) (fun i => i ≤ t.fields.length) (fun i => [(0, Pt b 0), (1, I tag), (10, I t.fields.length), (11, I i)]) (fun _ => G) (fun i => []) (fun i => t.fields.length - i) 0 ?_ (by repeat (first | exact trivial | refine ⟨rfl, ?_⟩)) rfl (by repeat ((exact List.Sublist.refl _))) (fun i Hi => ?_)
  · exact Nat.zero_le _
  by_cases hi : i < t.fields.length
  · obtain ⟨bf, of, cf, rfl, hsf⟩ := hf.expl (by omega)
    have h2 := hno i hi
    repeat' (first | (refine run (t := tb) 400 rfl ?_ ?_; (focus (repeat' (first | exact trivial | apply And.intro | omega)))) | (refine k_op rfl ?_; first | (refine v_op (g_ldRF rfl rfl (by assumption) ?_ rfl rfl) rfl rfl ?_; (focus (((omega)); done))) | refine v_op (g_ldS rfl rfl (by assumption) rfl rfl) rfl rfl ?_ | (refine v_op (g_iaddrN rfl rfl ?_) rfl rfl ?_; (focus ((omega); done)))) | (refine k_tt rfl ?_ ?_; (focus (((refine decide_eq_true ?_; (omega))); done))) | (refine k_ff rfl ?_ ?_; (focus (((refine decide_eq_false ?_; (assumption))); done))))
    exact k_rd (i + 1) (by omega) (by omega) (by repeat (first | exact trivial | refine ⟨rfl, ?_⟩)) rfl (by repeat ((exact List.Sublist.refl _)))
  · repeat' (first | (refine run (t := tb) 400 rfl ?_ ?_; (focus (repeat' ((exact trivial))))) | (refine k_ff rfl ?_ ?_; (focus (((refine decide_eq_false ?_; (omega))); done))))
    refine k_rr (vs := [_]) rfl ⟨rfl, trivial⟩ rfl (List.nil_sublist _) ⟨rfl, rfl, ?_⟩
    rfl
theorem c_fieldI1 {b bf of cf j : Nat} {t : Ty} {ln : List UInt8} {tag : Int} (hs : Seg G b 0 [U8 t.sort, S t.name, .slice (some ⟨bf, of, none⟩) t.fields.length cf, S ln]) (hsf : Seg G bf of (rows fiF t.fields)) (hl : t.fields.length ≤ 1000) (hj : j < t.fields.length) (hno : ∀ k, k < j → (nth t.fields k).tag ≠ tag) (hat : (nth t.fields j).tag = tag) :
    PuG Tryz.prog 74 [Pt b 0, I tag] G (· = Pt bf (of + j * 6)) := by
  refine p_enter [(0, _), (1, _)] Tryz.func74 (by kernel_rfl) Tryz.ntmps74 rfl rfl (by repeat (first | exact trivial | refine ⟨rfl, ?_⟩)) fun B hB => ?_
  repeat' (first | (refine run (t := tb) 400 rfl ?_ ?_; (focus (repeat' ((exact trivial))))) | (refine k_op rfl ?_; first | refine v_op (g_ldS rfl rfl (by assumption) rfl rfl) rfl rfl ?_ | refine v_op (g_lenL rfl) rfl rfl ?_))
  refine k_loop (ι := Nat) (fun i => i ≤ j) (fun i => [(0, Pt b 0), (1, I tag), (10, I t.fields.length), (11, I i)]) (fun _ => G) (fun i => []) (fun i => t.fields.length - i) 0 ?_ (by repeat (first | exact trivial | refine ⟨rfl, ?_⟩)) rfl (by repeat ((exact List.Sublist.refl _))) (fun i Hi => ?_)
  · exact Nat.zero_le _
  by_cases hij : i = j
  · subst hij
    repeat' (first | (refine run (t := tb) 400 rfl ?_ ?_; (focus (repeat' ((exact trivial))))) | (refine k_op rfl ?_; first | (refine v_op (g_ldRF rfl rfl (by assumption) ?_ rfl rfl) rfl rfl ?_; (focus (((omega)); done))) | refine v_op (g_ldS rfl rfl (by assumption) rfl rfl) rfl rfl ?_ | (refine v_op (g_iaddrN rfl rfl ?_) rfl rfl ?_; (focus ((omega); done)))) | (refine k_tt rfl ?_ ?_; (focus (((refine decide_eq_true ?_; first | assumption | omega)); done))))
    all_goals refine k_rr (vs := [_]) rfl ⟨rfl, trivial⟩ rfl (List.nil_sublist _) ⟨rfl, rfl, ?_⟩
    all_goals rfl
  · have h2 := hno i (by omega)
    repeat' (first | (refine run (t := tb) 400 rfl ?_ ?_; (focus (repeat' (first | exact trivial | apply And.intro | omega)))) | (refine k_op rfl ?_; first | (refine v_op (g_ldRF rfl rfl (by assumption) ?_ rfl rfl) rfl rfl ?_; (focus (((omega)); done))) | refine v_op (g_ldS rfl rfl (by assumption) rfl rfl) rfl rfl ?_ | (refine v_op (g_iaddrN rfl rfl ?_) rfl rfl ?_; (focus ((omega); done)))) | (refine k_tt rfl ?_ ?_; (focus (((refine decide_eq_true ?_; (omega))); done))) | (refine k_ff rfl ?_ ?_; (focus (((refine decide_eq_false ?_; (assumption))); done))))
    exact k_rd (i + 1) (by omega) (by omega) (by repeat (first | exact trivial | refine ⟨rfl, ?_⟩)) rfl (by repeat ((exact List.Sublist.refl _)))
theorem c_standS {u : Value} {vs : List TyX} {f : Fld} (h : SchR G u vs) (hw : SchW (tys vs)) (hk : kindIn (tys vs) f.kind = true) :
    PuG Tryz.prog 63 [u, Ag [I f.tag, S f.name, S f.kind, S f.stand]] G (· = S (standF (tys vs) f)) := by
  have cx_std := c_standKS h hw hk
  unfold standF
  by_cases hs : f.stand = []
  · rw [if_pos hs, hs]
    refine p_enter [(0, _), (1, _)] Tryz.func63 (by kernel_rfl) Tryz.ntmps63 rfl rfl (by repeat (first | exact trivial | refine ⟨rfl, ?_⟩)) fun B hB => ?_
    repeat' (first | (refine run (t := tb) 400 rfl ?_ ?_; (focus (repeat' ((exact trivial))))) | (refine k_op rfl ?_; first | refine c_bx rfl rfl rfl fun _ => ?_ | refine v_op (g_ld rfl rfl rfl) rfl rfl ?_ | (refine c_rt rfl rfl rfl cx_std rfl ?_)) | (refine k_ff rfl ?_ ?_; (focus (((rfl)); done))))
    all_goals refine k_rr (vs := [_]) rfl ⟨rfl, trivial⟩ rfl (List.nil_sublist _) ⟨rfl, rfl, ?_⟩
    all_goals rfl
  · rw [if_neg hs]
    refine p_enter [(0, _), (1, _)] Tryz.func63 (by kernel_rfl) Tryz.ntmps63 rfl rfl (by repeat (first | exact trivial | refine ⟨rfl, ?_⟩)) fun B hB => ?_
    repeat' (first | (refine run (t := tb) 400 rfl ?_ ?_; (focus (repeat' ((exact trivial))))) | (refine k_op rfl ?_; first | refine c_bx rfl rfl rfl fun _ => ?_ | refine v_op (g_ld rfl rfl rfl) rfl rfl ?_) | (refine k_tt rfl ?_ ?_; (focus (((refine decide_eq_true ?_; (assumption))); done))))
    all_goals refine k_rr (vs := [_]) rfl ⟨rfl, trivial⟩ rfl (List.nil_sublist _) ⟨rfl, rfl, ?_⟩
    all_goals rfl
theorem c_ofI {b bf of j : Nat} {qs : List TyP} {fs : List Fld} (h : ScI G b qs) (hw : SchW (tyq qs)) (hsf : Seg G bf of (rows fiF fs)) (hj : j < fs.length) (hk : kindIn (tyq qs) (nth fs j).kind = true) :
    PuG Tryz.prog 75 [Pt b 0, Pt bf (of + j * 6)] G (· = S (standF (tyq qs) (nth fs j))) := by
  have cx_std := c_standKI h hw hk
  unfold standF
  by_cases hs : (nth fs j).stand = []
  · rw [if_pos hs]
    have hs2 : ¬ (nth fs j).stand ≠ [] := fun h => h hs
    refine p_enter [(0, _), (1, _)] Tryz.func75 (by kernel_rfl) Tryz.ntmps75 rfl rfl (by repeat (first | exact trivial | refine ⟨rfl, ?_⟩)) fun B hB => ?_
    repeat' (first | (refine run (t := tb) 400 rfl ?_ ?_; (focus (repeat' ((exact trivial))))) | (refine k_op rfl ?_; first | (refine v_op (g_ldRF rfl rfl (by assumption) ?_ rfl rfl) rfl rfl ?_; (focus (((omega)); done))) | (refine v_op (g_ldRA rfl rfl (by assumption) ?_ rfl rfl) rfl rfl ?_; (focus (((omega)); done))) | (refine c_rt rfl rfl rfl cx_std rfl ?_)) | (refine k_ff rfl ?_ ?_; (focus (((refine decide_eq_false ?_; (assumption))); done))))
    all_goals refine k_rr (vs := [_]) rfl ⟨rfl, trivial⟩ rfl (List.nil_sublist _) ⟨rfl, rfl, ?_⟩
    all_goals rfl
  · rw [if_neg hs]
    refine p_enter [(0, _), (1, _)] Tryz.func75 (by kernel_rfl) Tryz.ntmps75 rfl rfl (by repeat (first | exact trivial | refine ⟨rfl, ?_⟩)) fun B hB => ?_
    repeat' (first | (refine run (t := tb) 400 rfl ?_ ?_; (focus (repeat' ((exact trivial))))) | (refine k_op rfl ?_; (refine v_op (g_ldRF rfl rfl (by assumption) ?_ rfl rfl) rfl rfl ?_; (focus (((omega)); done)))) | (refine k_tt rfl ?_ ?_; (focus (((refine decide_eq_true ?_; (assumption))); done))))
    all_goals refine k_rr (vs := [_]) rfl ⟨rfl, trivial⟩ rfl (List.nil_sublist _) ⟨rfl, rfl, ?_⟩
    all_goals rfl
end Go.E
/-! Oe -/
namespace Go.E
set_option maxRecDepth 20000
set_option maxHeartbeats 2000000
open Go.Proofs
variable {G : Gh}
def prF (p : Pr) : List Value := [S p.1, S p.2]
instance : RowF prF 2 := ⟨fun _ => rfl⟩
abbrev tPr : TypeId := 90
abbrev tAsk : TypeId := 74
abbrev tTyA : TypeId := 67
abbrev tFldA : TypeId := 116
instance : PK Tryz.prog tPr := PK.mk' (N := Tryz.prog.types.size - 1) (st := 9) (fs := flds Tryz.prog tPr) (by kernel_rfl) (by kernel_rfl) (by kernel_rfl) (by kernel_rfl) (by kernel_rfl) (by kernel_rfl) (by kernel_rfl) (by kernel_rfl) (by kernel_rfl) (by kernel_rfl) (by kernel_rfl) (by kernel_rfl)
def AskP (ab : Nat) (u1 u2 : Value) (r : Bool × List Pr) (v : Value) (L' : List Own) : Prop := ∃ v', v = Bo r.1 ∧ L' = [.blk ab (.cells (List.toArray [u1, u2, v']) tAsk (0, 0)), .acc v' tPr 2 r.2.length (rows prF r.2)]
abbrev KindsS (G : Gh) (ab : Nat) (u1 u2 : Value) (ts us : List Ty) (n : Nat) : Prop := ∀ (k1 k2 : List UInt8) (m : List Pr) (v : Value), AskW ts us m → ts.length * us.length < m.length + n → kindIn ts k1 = true → kindIn us k2 = true →
  FnG Tryz.prog 35 [Pt ab 0, S k1, S k2] G [.blk ab (.cells (List.toArray [u1, u2, v]) tAsk (0, 0)), .acc v tPr 2 m.length (rows prF m)] (AskP ab u1 u2 (evoK ts us n k1 k2 m))
abbrev LoopT (t u : Ty) (ts us : List Ty) (kk : List UInt8 → List UInt8 → List Pr → Bool × List Pr) (m : List Pr) (i : Nat × List Pr × Value) : Prop :=
  (i.1 ≤ u.fields.length ∧ m.length ≤ i.2.1.length) ∧ AskW ts us i.2.1 ∧ evoF ts us kk t u (u.fields.drop i.1) i.2.1 = evoF ts us kk t u u.fields m
theorem drop_cons_nth {α : Type} [Inhabited α] {l : List α} {i : Nat} (h : i < l.length) : l.drop i = nth l i :: l.drop (i + 1) := by
  rw [List.drop_eq_getElem_cons h, nth_eq h]
theorem c_typesS {ab n : Nat} {u1 u2 : Value} {vs ws : List TyX} (h1 : SchR G u1 vs) (h2 : SchR G u2 ws) (w1 : SchW (tys vs)) (w2 : SchW (tys ws)) (ih : KindsS G ab u1 u2 (tys vs) (tys ws) n)
    {x y : TyX} (hx : x ∈ vs) (hy : y ∈ ws) {m : List Pr} {v : Value} (hm : AskW (tys vs) (tys ws) m) (hf : (tys vs).length * (tys ws).length < m.length + n) :
    FnG Tryz.prog 45 [Pt ab 0, Ag (tyF x), Ag (tyF y)] G [.blk ab (.cells (List.toArray [u1, u2, v]) tAsk (0, 0)), .acc v tPr 2 m.length (rows prF m)] (AskP ab u1 u2 (evoT (tys vs) (tys ws) (evoK (tys vs) (tys ws) n) x.2 y.2 m)) := by
  have hxt : x.2 ∈ tys vs := List.mem_map_of_mem hx
  have hyt : y.2 ∈ tys ws := List.mem_map_of_mem hy
  have hfx := h1.fl _ hx
  have hfy := h2.fl _ hy
  have W1 := w1.ty _ hxt
  have W2 := w2.ty _ hyt
  obtain ⟨⟨a1, c1⟩, t⟩ := x
  obtain ⟨⟨a2, c2⟩, u⟩ := y
  simp only [slX] at hfx hfy
  dsimp only at hxt hyt hfx hfy W1 W2 ⊢
  simp only [tyF, slX]
  have fl1 := W1.len
  have fl2 := W2.len
  unfold evoT
  by_cases hs : t.sort = u.sort
  case neg =>
    rw [if_pos hs]
    refine g_enter [(0, _), (1, _), (2, _)] Tryz.func45 (by kernel_rfl) Tryz.ntmps45 rfl rfl (by repeat (first | exact trivial | refine ⟨rfl, ?_⟩)) fun B hB hW => ?_
    repeat' (first | (refine run (t := tb) 400 rfl ?_ ?_; (focus (repeat' ((exact trivial))))) | (refine k_op rfl ?_; first | refine c_bx rfl rfl rfl fun _ => ?_ | refine v_op (g_ld rfl rfl rfl) rfl rfl ?_) | (refine k_tt rfl ?_ ?_; (focus (((refine decide_eq_true ?_; (omega))); done))))
    refine k_rr (vs := [_]) (L' := [.blk ab (.cells (List.toArray [u1, u2, v]) tAsk (0, 0)), .acc v tPr 2 m.length (rows prF m)]) rfl ⟨rfl, trivial⟩ rfl (by repeat (first | exact List.Sublist.refl _ | apply List.Sublist.cons)) ⟨rfl, v, rfl, rfl⟩
  rw [if_neg (by simp [hs])]
  refine g_enter [(0, _), (1, _), (2, _)] Tryz.func45 (by kernel_rfl) Tryz.ntmps45 rfl rfl (by repeat (first | exact trivial | refine ⟨rfl, ?_⟩)) fun B hB hW => ?_
  repeat' (first | (refine run (t := tb) 400 rfl ?_ ?_; (focus (repeat' ((exact trivial))))) | (refine k_op rfl ?_; first | refine c_bx rfl rfl rfl fun _ => ?_ | refine v_op (g_ld rfl rfl rfl) rfl rfl ?_) | (refine k_ff rfl ?_ ?_; (focus (((refine decide_eq_false ?_; (omega))); done))))
  rename_i x4 x5
  refine Nx.perm (L' := [.blk ab (.cells (List.toArray [u1, u2, v]) tAsk (0, 0)), .acc v tPr 2 m.length (rows prF m), .blk x5 (.cells (List.toArray [U8 u.sort, S u.name, .slice a2 u.fields.length c2]) tTyA (0, 0)), .blk x4 (.cells (List.toArray [U8 t.sort, S t.name, .slice a1 t.fields.length c1]) tTyA (0, 0))]) (List.perm_append_comm (l₁ := [Own.blk x5 (.cells (List.toArray [U8 u.sort, S u.name, .slice a2 u.fields.length c2]) tTyA (0, 0)), Own.blk x4 (.cells (List.toArray [U8 t.sort, S t.name, .slice a1 t.fields.length c1]) tTyA (0, 0))]) (l₂ := [Own.blk ab (.cells (List.toArray [u1, u2, v]) tAsk (0, 0)), Own.acc v tPr 2 m.length (rows prF m)])) ?_
  refine k_loop (ι := Nat × List Pr × Value) (fun i => LoopT t u (tys vs) (tys ws) (evoK (tys vs) (tys ws) n) m i) (fun i => [(0, Pt ab 0), (4, Pt x4 0), (5, Pt x5 0), (7, I i.1)]) (fun _ => G) (fun i => [.blk ab (.cells (List.toArray [u1, u2, i.2.2]) tAsk (0, 0)), .acc i.2.2 tPr 2 i.2.1.length (rows prF i.2.1), .blk x5 (.cells (List.toArray [U8 u.sort, S u.name, .slice a2 u.fields.length c2]) tTyA (0, 0)), .blk x4 (.cells (List.toArray [U8 t.sort, S t.name, .slice a1 t.fields.length c1]) tTyA (0, 0))]) (fun i => u.fields.length - i.1) (0, m, v) ?_ (by repeat (first | exact trivial | refine ⟨rfl, ?_⟩)) rfl (by repeat ((exact List.Sublist.refl _))) (fun i Hi => ?_)
  · exact ⟨⟨Nat.zero_le _, Nat.le_refl _⟩, hm, rfl⟩
  obtain ⟨i, mi, vi⟩ := i
  dsimp only at Hi ⊢
  obtain ⟨⟨hi1, hml⟩, hask, hev⟩ := Hi
  dsimp only at hi1 hml hask hev
  by_cases hi : i < u.fields.length
  case neg =>
    repeat' (first | (refine run (t := tb) 400 rfl ?_ ?_; (focus (repeat' ((exact trivial))))) | (refine k_op rfl ?_; first | refine v_op (g_ld rfl rfl rfl) rfl rfl ?_ | refine v_op (g_lenL rfl) rfl rfl ?_) | (refine k_ff rfl ?_ ?_; (focus (((refine decide_eq_false ?_; (omega))); done))))
    refine k_rr (vs := [_]) (L' := [.blk ab (.cells (List.toArray [u1, u2, vi]) tAsk (0, 0)), .acc vi tPr 2 mi.length (rows prF mi)]) rfl ⟨rfl, trivial⟩ rfl (by repeat (first | exact List.nil_sublist _ | apply List.Sublist.cons_cons)) ⟨rfl, vi, ?_, ?_⟩
    · rw [← hev, List.drop_eq_nil_of_le (by omega)]; rfl
    · rw [← hev, List.drop_eq_nil_of_le (by omega)]; rfl
  rw [drop_cons_nth hi, evoF] at hev
  obtain ⟨bu, ou, cu', e, hsu⟩ := hfy.expl (by omega)
  simp only [Value.slice.injEq] at e
  obtain ⟨rfl, -, rfl⟩ := e
  have cx_fl0 := c_fieldS (x := ((a1, c1), t)) (tag := (nth u.fields i).tag) hfx (by dsimp only; omega)
  simp only [slX] at cx_fl0
  cases hft : fldT t.fields (nth u.fields i).tag with
  | none =>
    rw [hft] at hev cx_fl0
    dsimp only at hev
    have cx_fld : PuG Tryz.prog 62 [Ag [U8 t.sort, S t.name, .slice a1 t.fields.length c1], I (nth u.fields i).tag] G (· = Tu [Ag [I 0, S [], S [], S []], Bo false]) := cx_fl0
    by_cases hR : u.sort = 82
    · rw [if_pos hR] at hev
      have hR2 : t.sort = 82 := by omega
      repeat' (first | (refine run (t := tb) 400 rfl ?_ ?_; (focus (repeat' (first | exact trivial | apply And.intro | omega)))) | (refine k_op rfl ?_; first | refine v_op (g_ld rfl rfl rfl) rfl rfl ?_ | (refine v_op (g_ldR rfl rfl (by assumption) ?_) rfl rfl ?_; (focus (((omega)); done))) | refine v_op (g_ldA rfl rfl rfl rfl) rfl rfl ?_ | refine v_op (g_lenL rfl) rfl rfl ?_ | (refine v_op (g_iaddrN rfl rfl ?_) rfl rfl ?_; (focus ((omega); done))) | refine c_al rfl rfl fun _ => ?_ | refine c_stA rfl rfl rfl rfl rfl rfl ?_ | (refine v_op (g_pickT rfl rfl ?_) rfl rfl ?_; (focus (((rfl)); done))) | (refine c_rt rfl rfl rfl cx_fld rfl ?_)) | (refine k_gt rfl rfl ?_ ?_; (focus (((rfl)); done))) | (refine k_tt rfl ?_ ?_; (focus ((first | rfl | (refine decide_eq_true ?_; (omega))); done))) | (refine k_ff rfl ?_ ?_; (focus (((refine decide_eq_false ?_; (omega))); done))))
      exact k_rd (i + 1, mi, vi) ⟨⟨by dsimp only; omega, hml⟩, hask, hev⟩ (by dsimp only; omega) (by repeat (first | exact trivial | refine ⟨rfl, ?_⟩)) rfl (by repeat (first | exact List.Sublist.refl _ | apply List.Sublist.cons))
    · rw [if_neg hR] at hev
      have hR2 : ¬ t.sort = 82 := by omega
      repeat' (first | (refine run (t := tb) 400 rfl ?_ ?_; (focus (repeat' ((exact trivial))))) | (refine k_op rfl ?_; first | refine v_op (g_ld rfl rfl rfl) rfl rfl ?_ | (refine v_op (g_ldR rfl rfl (by assumption) ?_) rfl rfl ?_; (focus (((omega)); done))) | refine v_op (g_ldA rfl rfl rfl rfl) rfl rfl ?_ | refine v_op (g_lenL rfl) rfl rfl ?_ | (refine v_op (g_iaddrN rfl rfl ?_) rfl rfl ?_; (focus ((omega); done))) | refine c_al rfl rfl fun _ => ?_ | refine c_stA rfl rfl rfl rfl rfl rfl ?_ | (refine v_op (g_pickT rfl rfl ?_) rfl rfl ?_; (focus (((rfl)); done))) | (refine c_rt rfl rfl rfl cx_fld rfl ?_)) | (refine k_gt rfl rfl ?_ ?_; (focus (((rfl)); done))) | (refine k_tt rfl ?_ ?_; (focus (((refine decide_eq_true ?_; (omega))); done))))
      all_goals refine k_rr (vs := [_]) (L' := [.blk ab (.cells (List.toArray [u1, u2, vi]) tAsk (0, 0)), .acc vi tPr 2 mi.length (rows prF mi)]) rfl ⟨rfl, trivial⟩ rfl (by repeat (first | exact List.nil_sublist _ | apply List.Sublist.cons_cons | apply List.Sublist.cons)) ⟨rfl, vi, ?_, ?_⟩
      all_goals (rw [← hev]; first | done | rfl)
  | some f =>
    rw [hft] at hev cx_fl0
    dsimp only at hev
    have cx_fld : PuG Tryz.prog 62 [Ag [U8 t.sort, S t.name, .slice a1 t.fields.length c1], I (nth u.fields i).tag] G (· = Tu [Ag [I f.tag, S f.name, S f.kind, S f.stand], Bo true]) := cx_fl0
    by_cases hE : u.sort = 69
    · rw [if_pos hE] at hev
      have hE2 : t.sort = 69 := by omega
      repeat' (first | (refine run (t := tb) 400 rfl ?_ ?_; (focus (repeat' (first | exact trivial | apply And.intro | omega)))) | (refine k_op rfl ?_; first | refine v_op (g_ld rfl rfl rfl) rfl rfl ?_ | (refine v_op (g_ldR rfl rfl (by assumption) ?_) rfl rfl ?_; (focus (((omega)); done))) | refine v_op (g_ldA rfl rfl rfl rfl) rfl rfl ?_ | refine v_op (g_lenL rfl) rfl rfl ?_ | (refine v_op (g_iaddrN rfl rfl ?_) rfl rfl ?_; (focus ((omega); done))) | refine c_al rfl rfl fun _ => ?_ | refine c_stA rfl rfl rfl rfl rfl rfl ?_ | (refine v_op (g_pickF rfl rfl ?_) rfl rfl ?_; (focus (((rfl)); done))) | (refine c_rt rfl rfl rfl cx_fld rfl ?_)) | (refine k_gf rfl rfl ?_ ?_; (focus (((rfl)); done))) | (refine k_tt rfl ?_ ?_; (focus (((refine decide_eq_true ?_; (omega))); done))) | (refine k_ff rfl ?_ ?_; (focus (((rfl)); done))))
      exact k_rd (i + 1, mi, vi) ⟨⟨by dsimp only; omega, hml⟩, hask, hev⟩ (by dsimp only; omega) (by repeat (first | exact trivial | refine ⟨rfl, ?_⟩)) rfl (by repeat (first | exact List.Sublist.refl _ | apply List.Sublist.cons))
    rw [if_neg hE] at hev
    have hE2 : ¬ t.sort = 69 := by omega
    have hfm : f ∈ t.fields := List.mem_of_find?_eq_some hft
    have hin1 := kind_in w1 hxt hE2 hfm
    have hin2 := kind_in w2 hyt hE (nth_mem hi)
    have cx_sta := c_standS (f := f) h1 w1 hin1
    have cx_stb := c_standS (f := nth u.fields i) h2 w2 hin2
    have cx_k0 := ih f.kind (nth u.fields i).kind mi vi hask (by omega) hin1 hin2
    have hgr := evoK_grows (ts := tys vs) (us := tys ws) n f.kind (nth u.fields i).kind mi hask
    generalize evoK (tys vs) (tys ws) n f.kind (nth u.fields i).kind mi = r at hev cx_k0 hgr
    obtain ⟨rb, mj⟩ := r
    dsimp only at hev hgr
    cases rb
    · rw [if_pos rfl] at hev
      have cx_ks : FnG Tryz.prog 35 [Pt ab 0, S f.kind, S (nth u.fields i).kind] G [.blk ab (.cells (List.toArray [u1, u2, vi]) tAsk (0, 0)), .acc vi tPr 2 mi.length (rows prF mi)] (fun v L' => ∃ v', v = Bo false ∧ L' = [.blk ab (.cells (List.toArray [u1, u2, v']) tAsk (0, 0)), .acc v' tPr 2 mj.length (rows prF mj)]) := cx_k0
      
      repeat' (first | (refine run (t := tb) 400 rfl ?_ ?_; (focus (repeat' ((exact trivial))))) | (refine k_op rfl ?_; first | refine v_op (g_ld rfl rfl rfl) rfl rfl ?_ | (refine v_op (g_ldR rfl rfl (by assumption) ?_) rfl rfl ?_; (focus (((omega)); done))) | refine v_op (g_ldA rfl rfl rfl rfl) rfl rfl ?_ | refine v_op (g_lenL rfl) rfl rfl ?_ | (refine v_op (g_iaddrN rfl rfl ?_) rfl rfl ?_; (focus ((omega); done))) | refine c_al rfl rfl fun _ => ?_ | refine c_stA rfl rfl rfl rfl rfl rfl ?_ | (refine v_op (g_pickF rfl rfl ?_) rfl rfl ?_; (focus (((rfl)); done))) | (refine c_rt rfl rfl rfl cx_fld rfl ?_)) | (refine k_gf rfl rfl ?_ ?_; (focus (((rfl)); done))) | (refine k_tt rfl ?_ ?_; (focus (((refine decide_eq_true ?_; (omega))); done))) | (refine k_ff rfl ?_ ?_; (focus ((first | rfl | (refine decide_eq_false ?_; (omega))); done))))
      rename_i x8 x9
      (refine k_any (s_any (id := 11) [.blk x9 (.cells (List.toArray [I f.tag, S f.name, S f.kind, S f.stand]) tFldA (0, 0)), .blk x8 (.cells (List.toArray [I (nth u.fields i).tag, S (nth u.fields i).name, S (nth u.fields i).kind, S (nth u.fields i).stand]) tFldA (0, 0)), .blk x5 (.cells (List.toArray [U8 u.sort, S u.name, .slice (some ⟨bu, ou, none⟩) u.fields.length c2]) tTyA (0, 0)), .blk x4 (.cells (List.toArray [U8 t.sort, S t.name, .slice a1 t.fields.length c1]) tTyA (0, 0))] (by intro y hy; simp only [List.mem_cons, List.not_mem_nil, or_false] at hy ⊢; rcases hy with hy | hy | hy | hy <;> simp [hy]) mixed ?_); refine x_tks (t := tb) (fuel := 24) [0, 1, 3] (bts 27 11) (by kernel_rfl) (by kernel_rfl) rfl rfl (Gh.le.refl _) (by repeat (first | exact List.Sublist.refl _ | apply List.Sublist.cons_cons | apply List.Sublist.cons)) ?_ ?_; (focus (repeat' ((exact trivial)))); ((refine (x_tkg (bts 27 15) 2 rfl (by kernel_rfl) rfl (Gh.le.refl _) (by repeat (first | exact List.Sublist.refl _ | apply List.Sublist.cons_cons | apply List.Sublist.cons))) (g_ld rfl rfl rfl) rfl rfl ?_)); ((refine (x_tkg (bts 27 31) 4 rfl (by kernel_rfl) rfl (Gh.le.refl _) (by repeat (first | exact List.Sublist.refl _ | apply List.Sublist.cons_cons | apply List.Sublist.cons))) (g_ld rfl rfl rfl) rfl rfl ?_)); refine x_all [5] (by kernel_rfl) (by decide) ⟨?_, trivial⟩; refine x_opg rfl rfl ?_; ((refine c_m2g rfl rfl rfl cx_ks rfl ?_; rintro _ _ ⟨v2, rfl, rfl⟩; dsimp only [List.cons_append, List.nil_append])); refine x_ks (by (exact Gh.le.refl _)) (by repeat (first | exact List.Sublist.refl _ | apply List.Sublist.cons)) (listed' := (bts 27 63)) (by kernel_rfl) ?_; refine x_tks (t := tb) (fuel := 19) [6, 7] (bts 27 255) (by kernel_rfl) (by kernel_rfl) rfl rfl (Gh.le.refl _) (by repeat ((exact List.Sublist.refl _))) ?_ ?_; (focus (repeat' ((exact trivial)))); (try ((refine Nx.re (d := 58) (v' := Bo true) rfl (congrArg Value.bool ?_) ?_; (focus (((rfl)); done))))); refine x_tks (t := tb) (fuel := 18) [8] (bts 27 511) (by kernel_rfl) (by kernel_rfl) rfl rfl (Gh.le.refl _) (by repeat ((exact List.Sublist.refl _))) ?_ ?_; (focus (repeat' ((exact trivial)))); ((refine x_tkn (bts 27 1023) 9 rfl (by kernel_rfl) rfl (Gh.le.refl _) (by repeat ((exact List.Sublist.refl _))) rfl rfl ?_)); refine x_tks (t := tb) (fuel := 15) [10, 11] (bts 27 4095) (by kernel_rfl) (by kernel_rfl) rfl rfl (Gh.le.refl _) (by repeat ((exact List.Sublist.refl _))) ?_ ?_; (focus (repeat' ((exact trivial)))); (try (fail)); refine x_tks (t := tb) (fuel := 9) [12, 13, 14, 18, 19, 20] (bts 27 1867775) (by kernel_rfl) (by kernel_rfl) rfl rfl (Gh.le.refl _) (by repeat ((exact List.Sublist.refl _))) ?_ ?_; (focus (repeat' ((exact trivial)))); ((refine x_tkn (bts 27 1900543) 15 rfl (by kernel_rfl) rfl (Gh.le.refl _) (by repeat ((exact List.Sublist.refl _))) rfl rfl ?_)); ((refine x_tkn (bts 27 1966079) 16 rfl (by kernel_rfl) rfl (Gh.le.refl _) (by repeat ((exact List.Sublist.refl _))) rfl rfl ?_)); ((refine x_tkn (bts 27 4063231) 21 rfl (by kernel_rfl) rfl (Gh.le.refl _) (by repeat ((exact List.Sublist.refl _))) rfl rfl ?_)); ((refine x_tkn (bts 27 8257535) 22 rfl (by kernel_rfl) rfl (Gh.le.refl _) (by repeat ((exact List.Sublist.refl _))) rfl rfl ?_)); ((refine x_tkn (bts 27 8388607) 17 rfl (by kernel_rfl) rfl (Gh.le.refl _) (by repeat ((exact List.Sublist.refl _))) rfl rfl ?_)); ((refine x_tkn (bts 27 16777215) 23 rfl (by kernel_rfl) rfl (Gh.le.refl _) (by repeat ((exact List.Sublist.refl _))) rfl rfl ?_)); refine x_tks (t := tb) (fuel := 2) [24] (bts 27 33554431) (by kernel_rfl) (by kernel_rfl) rfl rfl (Gh.le.refl _) (by repeat ((exact List.Sublist.refl _))) ?_ ?_; (focus (repeat' ((exact trivial)))); ((refine x_tkn (bts 27 67108863) 25 rfl (by kernel_rfl) rfl (Gh.le.refl _) (by repeat ((exact List.Sublist.refl _))) rfl rfl ?_)); ((refine (x_tkg (bts 27 134217727) 26 rfl (by kernel_rfl) rfl (Gh.le.refl _) (by repeat ((exact List.Sublist.refl _)))) (g_pickT rfl rfl ?_) rfl rfl ?_; (focus (((rfl)); done)))); refine x_done (by kernel_rfl) (k_bk ?_))
      repeat' (first | (refine run (t := tb) 400 rfl ?_ ?_; (focus (repeat' ((exact trivial))))) | (refine k_tt rfl ?_ ?_; (focus (((rfl)); done))))
      
      all_goals refine k_rr (vs := [_]) (L' := [.blk ab (.cells (List.toArray [u1, u2, v2]) tAsk (0, 0)), .acc v2 tPr 2 mj.length (rows prF mj)]) rfl ⟨rfl, trivial⟩ rfl (by repeat (first | exact List.nil_sublist _ | apply List.Sublist.cons_cons)) ⟨rfl, v2, ?_, ?_⟩
      all_goals (rw [← hev]; first | done | rfl)
    · rw [if_neg (by simp)] at hev
      have cx_ks : FnG Tryz.prog 35 [Pt ab 0, S f.kind, S (nth u.fields i).kind] G [.blk ab (.cells (List.toArray [u1, u2, vi]) tAsk (0, 0)), .acc vi tPr 2 mi.length (rows prF mi)] (fun v L' => ∃ v', v = Bo true ∧ L' = [.blk ab (.cells (List.toArray [u1, u2, v']) tAsk (0, 0)), .acc v' tPr 2 mj.length (rows prF mj)]) := cx_k0
      have hsf1 : standF (tys vs) f = standF (tys vs) f := rfl
      generalize standF (tys vs) f = sa at hev cx_sta hsf1
      generalize standF (tys ws) (nth u.fields i) = sb at hev cx_stb
      clear hsf1
      by_cases hR : u.sort = 82
      · have hR2 : t.sort = 82 := by omega
        by_cases hsab : sa = sb
        · rw [if_neg (by simp [hsab])] at hev
          
          repeat' (first | (refine run (t := tb) 400 rfl ?_ ?_; (focus (repeat' ((exact trivial))))) | (refine k_op rfl ?_; first | refine v_op (g_ld rfl rfl rfl) rfl rfl ?_ | (refine v_op (g_ldR rfl rfl (by assumption) ?_) rfl rfl ?_; (focus (((omega)); done))) | refine v_op (g_ldA rfl rfl rfl rfl) rfl rfl ?_ | refine v_op (g_lenL rfl) rfl rfl ?_ | (refine v_op (g_iaddrN rfl rfl ?_) rfl rfl ?_; (focus ((omega); done))) | refine c_al rfl rfl fun _ => ?_ | refine c_stA rfl rfl rfl rfl rfl rfl ?_ | (refine v_op (g_pickF rfl rfl ?_) rfl rfl ?_; (focus (((rfl)); done))) | (refine c_rt rfl rfl rfl cx_fld rfl ?_)) | (refine k_gf rfl rfl ?_ ?_; (focus (((rfl)); done))) | (refine k_tt rfl ?_ ?_; (focus (((refine decide_eq_true ?_; (omega))); done))) | (refine k_ff rfl ?_ ?_; (focus ((first | rfl | (refine decide_eq_false ?_; (omega))); done))))
          rename_i x8 x9
          (refine k_any (s_any (id := 11) [.blk x9 (.cells (List.toArray [I f.tag, S f.name, S f.kind, S f.stand]) tFldA (0, 0)), .blk x8 (.cells (List.toArray [I (nth u.fields i).tag, S (nth u.fields i).name, S (nth u.fields i).kind, S (nth u.fields i).stand]) tFldA (0, 0)), .blk x5 (.cells (List.toArray [U8 u.sort, S u.name, .slice (some ⟨bu, ou, none⟩) u.fields.length c2]) tTyA (0, 0)), .blk x4 (.cells (List.toArray [U8 t.sort, S t.name, .slice a1 t.fields.length c1]) tTyA (0, 0))] (by intro y hy; simp only [List.mem_cons, List.not_mem_nil, or_false] at hy ⊢; rcases hy with hy | hy | hy | hy <;> simp [hy]) mixed ?_); refine x_tks (t := tb) (fuel := 24) [0, 1, 3] (bts 27 11) (by kernel_rfl) (by kernel_rfl) rfl rfl (Gh.le.refl _) (by repeat (first | exact List.Sublist.refl _ | apply List.Sublist.cons_cons | apply List.Sublist.cons)) ?_ ?_; (focus (repeat' ((exact trivial)))); ((refine (x_tkg (bts 27 15) 2 rfl (by kernel_rfl) rfl (Gh.le.refl _) (by repeat (first | exact List.Sublist.refl _ | apply List.Sublist.cons_cons | apply List.Sublist.cons))) (g_ld rfl rfl rfl) rfl rfl ?_)); ((refine (x_tkg (bts 27 31) 4 rfl (by kernel_rfl) rfl (Gh.le.refl _) (by repeat (first | exact List.Sublist.refl _ | apply List.Sublist.cons_cons | apply List.Sublist.cons))) (g_ld rfl rfl rfl) rfl rfl ?_)); refine x_all [5] (by kernel_rfl) (by decide) ⟨?_, trivial⟩; refine x_opg rfl rfl ?_; ((refine c_m2g rfl rfl rfl cx_ks rfl ?_; rintro _ _ ⟨v2, rfl, rfl⟩; dsimp only [List.cons_append, List.nil_append])); refine x_ks (by (exact Gh.le.refl _)) (by repeat (first | exact List.Sublist.refl _ | apply List.Sublist.cons)) (listed' := (bts 27 63)) (by kernel_rfl) ?_; refine x_tks (t := tb) (fuel := 19) [6, 7] (bts 27 255) (by kernel_rfl) (by kernel_rfl) rfl rfl (Gh.le.refl _) (by repeat ((exact List.Sublist.refl _))) ?_ ?_; (focus (repeat' ((exact trivial)))); (try ((refine Nx.re (d := 58) (v' := Bo false) rfl (congrArg Value.bool ?_) ?_; (focus (((rfl)); done))))); refine x_tks (t := tb) (fuel := 18) [8] (bts 27 511) (by kernel_rfl) (by kernel_rfl) rfl rfl (Gh.le.refl _) (by repeat ((exact List.Sublist.refl _))) ?_ ?_; (focus (repeat' ((exact trivial)))); ((refine (x_tkg (bts 27 1023) 9 rfl (by kernel_rfl) rfl (Gh.le.refl _) (by repeat ((exact List.Sublist.refl _)))) (g_ld rfl rfl rfl) rfl rfl ?_)); refine x_tks (t := tb) (fuel := 15) [10, 11] (bts 27 4095) (by kernel_rfl) (by kernel_rfl) rfl rfl (Gh.le.refl _) (by repeat ((exact List.Sublist.refl _))) ?_ ?_; (focus (repeat' ((exact trivial)))); (try ((refine Nx.re (d := 62) (v' := Bo true) rfl (congrArg Value.bool ?_) ?_; (focus (((refine decide_eq_true ?_; (omega))); done))))); refine x_tks (t := tb) (fuel := 9) [12, 13, 14, 18, 19, 20] (bts 27 1867775) (by kernel_rfl) (by kernel_rfl) rfl rfl (Gh.le.refl _) (by repeat ((exact List.Sublist.refl _))) ?_ ?_; (focus (repeat' ((exact trivial)))); ((refine (x_tkg (bts 27 1900543) 15 rfl (by kernel_rfl) rfl (Gh.le.refl _) (by repeat ((exact List.Sublist.refl _)))) (g_ld rfl rfl rfl) rfl rfl ?_)); ((refine (x_tkg (bts 27 1966079) 16 rfl (by kernel_rfl) rfl (Gh.le.refl _) (by repeat ((exact List.Sublist.refl _)))) (g_ldA rfl rfl rfl rfl) rfl rfl ?_)); ((refine (x_tkg (bts 27 4063231) 21 rfl (by kernel_rfl) rfl (Gh.le.refl _) (by repeat ((exact List.Sublist.refl _)))) (g_ld rfl rfl rfl) rfl rfl ?_)); ((refine (x_tkg (bts 27 8257535) 22 rfl (by kernel_rfl) rfl (Gh.le.refl _) (by repeat ((exact List.Sublist.refl _)))) (g_ldA rfl rfl rfl rfl) rfl rfl ?_)); ((refine x_all [17] (by kernel_rfl) (by decide) ⟨?_, trivial⟩; refine x_opg rfl rfl ?_; ((refine c_rt rfl rfl rfl cx_sta rfl ?_)); refine x_ks (by (exact Gh.le.refl _)) (by repeat ((exact List.Sublist.refl _))) (listed' := (bts 27 8388607)) (by kernel_rfl) ?_)); ((refine x_all [23] (by kernel_rfl) (by decide) ⟨?_, trivial⟩; refine x_opg rfl rfl ?_; ((refine c_rt rfl rfl rfl cx_stb rfl ?_)); refine x_ks (by (exact Gh.le.refl _)) (by repeat ((exact List.Sublist.refl _))) (listed' := (bts 27 16777215)) (by kernel_rfl) ?_)); refine x_tks (t := tb) (fuel := 2) [24] (bts 27 33554431) (by kernel_rfl) (by kernel_rfl) rfl rfl (Gh.le.refl _) (by repeat ((exact List.Sublist.refl _))) ?_ ?_; (focus (repeat' ((exact trivial)))); ((refine (x_tkg (bts 27 67108863) 25 rfl (by kernel_rfl) rfl (Gh.le.refl _) (by repeat ((exact List.Sublist.refl _)))) (g_pickT rfl rfl ?_) rfl rfl ?_; (focus (((rfl)); done)))); ((refine (x_tkg (bts 27 134217727) 26 rfl (by kernel_rfl) rfl (Gh.le.refl _) (by repeat ((exact List.Sublist.refl _)))) (g_pickF rfl rfl ?_) rfl rfl ?_; (focus (((rfl)); done)))); refine x_done (by kernel_rfl) (k_bk ?_))
          repeat' (first | (refine run (t := tb) 400 rfl ?_ ?_; (focus (repeat' (first | exact trivial | apply And.intro | omega)))) | (refine k_ff rfl ?_ ?_; (focus (((simp [*]; done)); done))))
          
          all_goals exact k_rd (i + 1, mj, v2) ⟨⟨by dsimp only; omega, Nat.le_trans hml hgr.2⟩, hgr.1, hev⟩ (by dsimp only; omega) (by repeat (first | exact trivial | refine ⟨rfl, ?_⟩)) rfl (by repeat (first | exact List.Sublist.refl _ | apply List.Sublist.cons_cons | apply List.Sublist.cons))
        · rw [if_pos ⟨hR, hsab⟩] at hev
          
          repeat' (first | (refine run (t := tb) 400 rfl ?_ ?_; (focus (repeat' ((exact trivial))))) | (refine k_op rfl ?_; first | refine v_op (g_ld rfl rfl rfl) rfl rfl ?_ | (refine v_op (g_ldR rfl rfl (by assumption) ?_) rfl rfl ?_; (focus (((omega)); done))) | refine v_op (g_ldA rfl rfl rfl rfl) rfl rfl ?_ | refine v_op (g_lenL rfl) rfl rfl ?_ | (refine v_op (g_iaddrN rfl rfl ?_) rfl rfl ?_; (focus ((omega); done))) | refine c_al rfl rfl fun _ => ?_ | refine c_stA rfl rfl rfl rfl rfl rfl ?_ | (refine v_op (g_pickF rfl rfl ?_) rfl rfl ?_; (focus (((rfl)); done))) | (refine c_rt rfl rfl rfl cx_fld rfl ?_)) | (refine k_gf rfl rfl ?_ ?_; (focus (((rfl)); done))) | (refine k_tt rfl ?_ ?_; (focus (((refine decide_eq_true ?_; (omega))); done))) | (refine k_ff rfl ?_ ?_; (focus ((first | rfl | (refine decide_eq_false ?_; (omega))); done))))
          rename_i x8 x9
          (refine k_any (s_any (id := 11) [.blk x9 (.cells (List.toArray [I f.tag, S f.name, S f.kind, S f.stand]) tFldA (0, 0)), .blk x8 (.cells (List.toArray [I (nth u.fields i).tag, S (nth u.fields i).name, S (nth u.fields i).kind, S (nth u.fields i).stand]) tFldA (0, 0)), .blk x5 (.cells (List.toArray [U8 u.sort, S u.name, .slice (some ⟨bu, ou, none⟩) u.fields.length c2]) tTyA (0, 0)), .blk x4 (.cells (List.toArray [U8 t.sort, S t.name, .slice a1 t.fields.length c1]) tTyA (0, 0))] (by intro y hy; simp only [List.mem_cons, List.not_mem_nil, or_false] at hy ⊢; rcases hy with hy | hy | hy | hy <;> simp [hy]) mixed ?_); refine x_tks (t := tb) (fuel := 24) [0, 1, 3] (bts 27 11) (by kernel_rfl) (by kernel_rfl) rfl rfl (Gh.le.refl _) (by repeat (first | exact List.Sublist.refl _ | apply List.Sublist.cons_cons | apply List.Sublist.cons)) ?_ ?_; (focus (repeat' ((exact trivial)))); ((refine (x_tkg (bts 27 15) 2 rfl (by kernel_rfl) rfl (Gh.le.refl _) (by repeat (first | exact List.Sublist.refl _ | apply List.Sublist.cons_cons | apply List.Sublist.cons))) (g_ld rfl rfl rfl) rfl rfl ?_)); ((refine (x_tkg (bts 27 31) 4 rfl (by kernel_rfl) rfl (Gh.le.refl _) (by repeat (first | exact List.Sublist.refl _ | apply List.Sublist.cons_cons | apply List.Sublist.cons))) (g_ld rfl rfl rfl) rfl rfl ?_)); refine x_all [5] (by kernel_rfl) (by decide) ⟨?_, trivial⟩; refine x_opg rfl rfl ?_; ((refine c_m2g rfl rfl rfl cx_ks rfl ?_; rintro _ _ ⟨v2, rfl, rfl⟩; dsimp only [List.cons_append, List.nil_append])); refine x_ks (by (exact Gh.le.refl _)) (by repeat (first | exact List.Sublist.refl _ | apply List.Sublist.cons)) (listed' := (bts 27 63)) (by kernel_rfl) ?_; refine x_tks (t := tb) (fuel := 19) [6, 7] (bts 27 255) (by kernel_rfl) (by kernel_rfl) rfl rfl (Gh.le.refl _) (by repeat ((exact List.Sublist.refl _))) ?_ ?_; (focus (repeat' ((exact trivial)))); (try ((refine Nx.re (d := 58) (v' := Bo false) rfl (congrArg Value.bool ?_) ?_; (focus (((rfl)); done))))); refine x_tks (t := tb) (fuel := 18) [8] (bts 27 511) (by kernel_rfl) (by kernel_rfl) rfl rfl (Gh.le.refl _) (by repeat ((exact List.Sublist.refl _))) ?_ ?_; (focus (repeat' ((exact trivial)))); ((refine (x_tkg (bts 27 1023) 9 rfl (by kernel_rfl) rfl (Gh.le.refl _) (by repeat ((exact List.Sublist.refl _)))) (g_ld rfl rfl rfl) rfl rfl ?_)); refine x_tks (t := tb) (fuel := 15) [10, 11] (bts 27 4095) (by kernel_rfl) (by kernel_rfl) rfl rfl (Gh.le.refl _) (by repeat ((exact List.Sublist.refl _))) ?_ ?_; (focus (repeat' ((exact trivial)))); (try ((refine Nx.re (d := 62) (v' := Bo true) rfl (congrArg Value.bool ?_) ?_; (focus (((refine decide_eq_true ?_; (omega))); done))))); refine x_tks (t := tb) (fuel := 9) [12, 13, 14, 18, 19, 20] (bts 27 1867775) (by kernel_rfl) (by kernel_rfl) rfl rfl (Gh.le.refl _) (by repeat ((exact List.Sublist.refl _))) ?_ ?_; (focus (repeat' ((exact trivial)))); ((refine (x_tkg (bts 27 1900543) 15 rfl (by kernel_rfl) rfl (Gh.le.refl _) (by repeat ((exact List.Sublist.refl _)))) (g_ld rfl rfl rfl) rfl rfl ?_)); ((refine (x_tkg (bts 27 1966079) 16 rfl (by kernel_rfl) rfl (Gh.le.refl _) (by repeat ((exact List.Sublist.refl _)))) (g_ldA rfl rfl rfl rfl) rfl rfl ?_)); ((refine (x_tkg (bts 27 4063231) 21 rfl (by kernel_rfl) rfl (Gh.le.refl _) (by repeat ((exact List.Sublist.refl _)))) (g_ld rfl rfl rfl) rfl rfl ?_)); ((refine (x_tkg (bts 27 8257535) 22 rfl (by kernel_rfl) rfl (Gh.le.refl _) (by repeat ((exact List.Sublist.refl _)))) (g_ldA rfl rfl rfl rfl) rfl rfl ?_)); ((refine x_all [17] (by kernel_rfl) (by decide) ⟨?_, trivial⟩; refine x_opg rfl rfl ?_; ((refine c_rt rfl rfl rfl cx_sta rfl ?_)); refine x_ks (by (exact Gh.le.refl _)) (by repeat ((exact List.Sublist.refl _))) (listed' := (bts 27 8388607)) (by kernel_rfl) ?_)); ((refine x_all [23] (by kernel_rfl) (by decide) ⟨?_, trivial⟩; refine x_opg rfl rfl ?_; ((refine c_rt rfl rfl rfl cx_stb rfl ?_)); refine x_ks (by (exact Gh.le.refl _)) (by repeat ((exact List.Sublist.refl _))) (listed' := (bts 27 16777215)) (by kernel_rfl) ?_)); refine x_tks (t := tb) (fuel := 2) [24] (bts 27 33554431) (by kernel_rfl) (by kernel_rfl) rfl rfl (Gh.le.refl _) (by repeat ((exact List.Sublist.refl _))) ?_ ?_; (focus (repeat' ((exact trivial)))); ((refine (x_tkg (bts 27 67108863) 25 rfl (by kernel_rfl) rfl (Gh.le.refl _) (by repeat ((exact List.Sublist.refl _)))) (g_pickT rfl rfl ?_) rfl rfl ?_; (focus (((rfl)); done)))); ((refine (x_tkg (bts 27 134217727) 26 rfl (by kernel_rfl) rfl (Gh.le.refl _) (by repeat ((exact List.Sublist.refl _)))) (g_pickF rfl rfl ?_) rfl rfl ?_; (focus (((rfl)); done)))); refine x_done (by kernel_rfl) (k_bk ?_))
          repeat' (first | (refine run (t := tb) 400 rfl ?_ ?_; (focus (repeat' ((exact trivial))))) | (refine k_tt rfl ?_ ?_; (focus (((refine decide_eq_true ?_; (assumption))); done))))
          
          all_goals refine k_rr (vs := [_]) (L' := [.blk ab (.cells (List.toArray [u1, u2, v2]) tAsk (0, 0)), .acc v2 tPr 2 mj.length (rows prF mj)]) rfl ⟨rfl, trivial⟩ rfl (by repeat (first | exact List.nil_sublist _ | apply List.Sublist.cons_cons)) ⟨rfl, v2, ?_, ?_⟩
          all_goals (rw [← hev]; first | done | rfl)
      · have hR2 : ¬ t.sort = 82 := by omega
        rw [if_neg (by simp [hR])] at hev
        
        repeat' (first | (refine run (t := tb) 400 rfl ?_ ?_; (focus (repeat' ((exact trivial))))) | (refine k_op rfl ?_; first | refine v_op (g_ld rfl rfl rfl) rfl rfl ?_ | (refine v_op (g_ldR rfl rfl (by assumption) ?_) rfl rfl ?_; (focus (((omega)); done))) | refine v_op (g_ldA rfl rfl rfl rfl) rfl rfl ?_ | refine v_op (g_lenL rfl) rfl rfl ?_ | (refine v_op (g_iaddrN rfl rfl ?_) rfl rfl ?_; (focus ((omega); done))) | refine c_al rfl rfl fun _ => ?_ | refine c_stA rfl rfl rfl rfl rfl rfl ?_ | (refine v_op (g_pickF rfl rfl ?_) rfl rfl ?_; (focus (((rfl)); done))) | (refine c_rt rfl rfl rfl cx_fld rfl ?_)) | (refine k_gf rfl rfl ?_ ?_; (focus (((rfl)); done))) | (refine k_tt rfl ?_ ?_; (focus (((refine decide_eq_true ?_; (omega))); done))) | (refine k_ff rfl ?_ ?_; (focus ((first | rfl | (refine decide_eq_false ?_; (omega))); done))))
        rename_i x8 x9
        (refine k_any (s_any (id := 11) [.blk x9 (.cells (List.toArray [I f.tag, S f.name, S f.kind, S f.stand]) tFldA (0, 0)), .blk x8 (.cells (List.toArray [I (nth u.fields i).tag, S (nth u.fields i).name, S (nth u.fields i).kind, S (nth u.fields i).stand]) tFldA (0, 0)), .blk x5 (.cells (List.toArray [U8 u.sort, S u.name, .slice (some ⟨bu, ou, none⟩) u.fields.length c2]) tTyA (0, 0)), .blk x4 (.cells (List.toArray [U8 t.sort, S t.name, .slice a1 t.fields.length c1]) tTyA (0, 0))] (by intro y hy; simp only [List.mem_cons, List.not_mem_nil, or_false] at hy ⊢; rcases hy with hy | hy | hy | hy <;> simp [hy]) mixed ?_); refine x_tks (t := tb) (fuel := 24) [0, 1, 3] (bts 27 11) (by kernel_rfl) (by kernel_rfl) rfl rfl (Gh.le.refl _) (by repeat (first | exact List.Sublist.refl _ | apply List.Sublist.cons_cons | apply List.Sublist.cons)) ?_ ?_; (focus (repeat' ((exact trivial)))); ((refine (x_tkg (bts 27 15) 2 rfl (by kernel_rfl) rfl (Gh.le.refl _) (by repeat (first | exact List.Sublist.refl _ | apply List.Sublist.cons_cons | apply List.Sublist.cons))) (g_ld rfl rfl rfl) rfl rfl ?_)); ((refine (x_tkg (bts 27 31) 4 rfl (by kernel_rfl) rfl (Gh.le.refl _) (by repeat (first | exact List.Sublist.refl _ | apply List.Sublist.cons_cons | apply List.Sublist.cons))) (g_ld rfl rfl rfl) rfl rfl ?_)); refine x_all [5] (by kernel_rfl) (by decide) ⟨?_, trivial⟩; refine x_opg rfl rfl ?_; ((refine c_m2g rfl rfl rfl cx_ks rfl ?_; rintro _ _ ⟨v2, rfl, rfl⟩; dsimp only [List.cons_append, List.nil_append])); refine x_ks (by (exact Gh.le.refl _)) (by repeat (first | exact List.Sublist.refl _ | apply List.Sublist.cons)) (listed' := (bts 27 63)) (by kernel_rfl) ?_; refine x_tks (t := tb) (fuel := 19) [6, 7] (bts 27 255) (by kernel_rfl) (by kernel_rfl) rfl rfl (Gh.le.refl _) (by repeat ((exact List.Sublist.refl _))) ?_ ?_; (focus (repeat' ((exact trivial)))); (try ((refine Nx.re (d := 58) (v' := Bo false) rfl (congrArg Value.bool ?_) ?_; (focus (((rfl)); done))))); refine x_tks (t := tb) (fuel := 18) [8] (bts 27 511) (by kernel_rfl) (by kernel_rfl) rfl rfl (Gh.le.refl _) (by repeat ((exact List.Sublist.refl _))) ?_ ?_; (focus (repeat' ((exact trivial)))); ((refine (x_tkg (bts 27 1023) 9 rfl (by kernel_rfl) rfl (Gh.le.refl _) (by repeat ((exact List.Sublist.refl _)))) (g_ld rfl rfl rfl) rfl rfl ?_)); refine x_tks (t := tb) (fuel := 15) [10, 11] (bts 27 4095) (by kernel_rfl) (by kernel_rfl) rfl rfl (Gh.le.refl _) (by repeat ((exact List.Sublist.refl _))) ?_ ?_; (focus (repeat' ((exact trivial)))); (try ((refine Nx.re (d := 62) (v' := Bo false) rfl (congrArg Value.bool ?_) ?_; (focus (((refine decide_eq_false ?_; (omega))); done))))); refine x_tks (t := tb) (fuel := 9) [12, 13, 14, 18, 19, 20] (bts 27 1867775) (by kernel_rfl) (by kernel_rfl) rfl rfl (Gh.le.refl _) (by repeat ((exact List.Sublist.refl _))) ?_ ?_; (focus (repeat' ((exact trivial)))); ((refine x_tkn (bts 27 1900543) 15 rfl (by kernel_rfl) rfl (Gh.le.refl _) (by repeat ((exact List.Sublist.refl _))) rfl rfl ?_)); ((refine x_tkn (bts 27 1966079) 16 rfl (by kernel_rfl) rfl (Gh.le.refl _) (by repeat ((exact List.Sublist.refl _))) rfl rfl ?_)); ((refine x_tkn (bts 27 4063231) 21 rfl (by kernel_rfl) rfl (Gh.le.refl _) (by repeat ((exact List.Sublist.refl _))) rfl rfl ?_)); ((refine x_tkn (bts 27 8257535) 22 rfl (by kernel_rfl) rfl (Gh.le.refl _) (by repeat ((exact List.Sublist.refl _))) rfl rfl ?_)); ((refine x_tkn (bts 27 8388607) 17 rfl (by kernel_rfl) rfl (Gh.le.refl _) (by repeat ((exact List.Sublist.refl _))) rfl rfl ?_)); ((refine x_tkn (bts 27 16777215) 23 rfl (by kernel_rfl) rfl (Gh.le.refl _) (by repeat ((exact List.Sublist.refl _))) rfl rfl ?_)); refine x_tks (t := tb) (fuel := 2) [24] (bts 27 33554431) (by kernel_rfl) (by kernel_rfl) rfl rfl (Gh.le.refl _) (by repeat ((exact List.Sublist.refl _))) ?_ ?_; (focus (repeat' ((exact trivial)))); ((refine (x_tkg (bts 27 67108863) 25 rfl (by kernel_rfl) rfl (Gh.le.refl _) (by repeat ((exact List.Sublist.refl _)))) (g_pickF rfl rfl ?_) rfl rfl ?_; (focus (((rfl)); done)))); ((refine (x_tkg (bts 27 134217727) 26 rfl (by kernel_rfl) rfl (Gh.le.refl _) (by repeat ((exact List.Sublist.refl _)))) (g_pickF rfl rfl ?_) rfl rfl ?_; (focus (((rfl)); done)))); refine x_done (by kernel_rfl) (k_bk ?_))
        repeat' (first | (refine run (t := tb) 400 rfl ?_ ?_; (focus (repeat' (first | exact trivial | apply And.intro | omega)))) | (refine k_ff rfl ?_ ?_; (focus (((rfl)); done))))
        
        all_goals exact k_rd (i + 1, mj, v2) ⟨⟨by dsimp only; omega, Nat.le_trans hml hgr.2⟩, hgr.1, hev⟩ (by dsimp only; omega) (by repeat (first | exact trivial | refine ⟨rfl, ?_⟩)) rfl (by repeat (first | exact List.Sublist.refl _ | apply List.Sublist.cons_cons | apply List.Sublist.cons))
end Go.E
/-! Of -/
namespace Go.E
set_option maxRecDepth 20000
set_option maxHeartbeats 2000000
open Go.Proofs
variable {G : Gh}
theorem kind_none {ts : List Ty} {k : List UInt8} (h : kindIn ts k = true) (hr : refT ts (core k) = none) : refN (core k) = none := by
  cases hc : refN (core k) with
  | none => rfl
  | some x =>
    obtain ⟨t, ht⟩ := kind_refT h (by rw [hc]; rfl)
    rw [hr] at ht; cases ht
theorem refT_refN {ts : List Ty} {k : List UInt8} {t : Ty} (h : refT ts k = some t) : (refN k).isSome = true := by
  unfold refT at h
  cases hc : refN k with
  | none => rw [hc] at h; cases h
  | some x => rfl
theorem AskW.names {ts us : List Ty} {m : List Pr} (h : AskW ts us m) (w1 : SchW ts) (w2 : SchW us) : PsW m := fun p hp => by
  obtain ⟨⟨t, ht, e1⟩, u, hu, e2⟩ := h.mem p hp
  have := isNm_len (w1.ty t ht).name
  have := isNm_len (w2.ty u hu).name
  rw [← e1, ← e2]; omega
abbrev tTyK : TypeId := 67
theorem c_kindsS {ab : Nat} {u1 u2 : Value} {vs ws : List TyX} (h1 : SchR G u1 vs) (h2 : SchR G u2 ws) (w1 : SchW (tys vs)) (w2 : SchW (tys ws)) : ∀ n, KindsS G ab u1 u2 (tys vs) (tys ws) n := by
  intro n
  induction n with
  | zero => intro k1 k2 m v hm hf; have := hm.len; omega
  | succ n ih =>
    intro k1 k2 m v hm hf hk1 hk2
    have hm64 : m.length ≤ 64 := Nat.le_trans hm.len (Nat.mul_le_mul w1.len w2.len)
    have hvl : vs.length ≤ 1000000 := by have := w1.len; rw [tys_len] at this; omega
    have hwl : ws.length ≤ 1000000 := by have := w2.len; rw [tys_len] at this; omega
    have o1 := kindOk_kOk (kindIn_ok hk1)
    have o2 := kindOk_kOk (kindIn_ok hk2)
    have oc1 := core_kOk o1.1
    have oc2 := core_kOk o2.1
    have l1 := core_len' k1
    have l2 := core_len' k2
    have q1 := o1.1
    have q2 := o2.1
    have e1 : k1.take (((k1.length : Nat) : Int) - ((core k1).length : Nat)).toNat = sg k1 := by unfold sg; congr 1; omega
    have e2 : k2.take (((k2.length : Nat) : Int) - ((core k2).length : Nat)).toNat = sg k2 := by unfold sg; congr 1; omega
    unfold evoK
    by_cases hs : sg k1 = sg k2
    case neg =>
      rw [if_pos hs]
      have hne : k1.take (((k1.length : Nat) : Int) - ((core k1).length : Nat)).toNat ≠ k2.take (((k2.length : Nat) : Int) - ((core k2).length : Nat)).toNat := by rw [e1, e2]; exact hs
      refine g_enter [(0, _), (1, _), (2, _)] Tryz.func35 (by kernel_rfl) Tryz.ntmps35 rfl rfl (by repeat (first | exact trivial | refine ⟨rfl, ?_⟩)) fun B hB hW => ?_
      repeat' (first | (refine run (t := tb) 400 rfl ?_ ?_; (focus (repeat' ((exact trivial))))) | (refine k_op rfl ?_; (refine c_rt rfl rfl rfl (c_l2Core (by (repeat ((assumption))); done)) rfl ?_)) | (refine k_tt rfl ?_ ?_; (focus (((refine decide_eq_true ?_; (assumption))); done))) | (refine k_any (s_any (id := 3) _ (fun _ h => h) mixed ?_); refine x_tks (t := tb) (fuel := 0) [0, 1, 2, 3, 4, 5, 6, 7, 8, 9, 10, 11, 12, 13, 14] (bts 15 32767) (by kernel_rfl) (by kernel_rfl) rfl rfl (Gh.le.refl _) (by repeat ((exact List.Sublist.refl _))) ?_ ?_; (focus (repeat' (first | exact trivial | apply And.intro | omega))); refine x_done (by kernel_rfl) (k_bk ?_)))
      all_goals refine k_rr (vs := [_]) (L' := [.blk ab (.cells (List.toArray [u1, u2, v]) tAsk (0, 0)), .acc v tPr 2 m.length (rows prF m)]) rfl ⟨rfl, trivial⟩ rfl (by repeat ((exact List.Sublist.refl _))) ⟨rfl, v, rfl, rfl⟩
    rw [if_neg (by simp [hs])]
    have hne : ¬ (k1.take (((k1.length : Nat) : Int) - ((core k1).length : Nat)).toNat ≠ k2.take (((k2.length : Nat) : Int) - ((core k2).length : Nat)).toNat) := by rw [e1, e2]; simp [hs]
    clear e1 e2
    have r1 := refV_ty vs (core k1)
    have r2 := refV_ty ws (core k2)
    have cx_rfa := c_ref (k := core k1) h1 hvl oc1 (by omega)
    have cx_rfb := c_ref (k := core k2) h2 hwl oc2 (by omega)
    rcases hr1 : refV vs (core k1) with _ | ⟨⟨a1, c1⟩, t⟩
    · rw [hr1] at r1 cx_rfa
      have r1 : refT (tys vs) (core k1) = none := r1.symm
      have hn1 := kind_none hk1 r1
      rw [r1]
      dsimp only
      by_cases hcc : core k1 = core k2
      · have hr2 : refV ws (core k2) = none := by unfold refV; rw [← hcc, hn1]; rfl
        rw [hr2] at cx_rfb
        rw [decide_eq_true hcc]
        refine g_enter [(0, _), (1, _), (2, _)] Tryz.func35 (by kernel_rfl) Tryz.ntmps35 rfl rfl (by repeat (first | exact trivial | refine ⟨rfl, ?_⟩)) fun B hB hW => ?_
        repeat' (first | (refine run (t := tb) 400 rfl ?_ ?_; (focus (repeat' ((exact trivial))))) | (refine k_op rfl ?_; first | refine v_op (g_ld rfl rfl rfl) rfl rfl ?_ | refine c_al rfl rfl fun _ => ?_ | refine c_stA rfl rfl rfl rfl rfl rfl ?_ | (refine v_op (g_pickT rfl rfl ?_) rfl rfl ?_; (focus (((rfl)); done))) | (refine c_rt rfl rfl rfl (c_l2Core (by (repeat ((assumption))); done)) rfl ?_) | (refine c_rt rfl rfl rfl cx_rfa rfl ?_) | (refine c_rt rfl rfl rfl cx_rfb rfl ?_)) | (refine k_gt rfl rfl ?_ ?_; (focus ((first | rfl | (refine decide_eq_true ?_; (assumption))); done))) | (refine k_tt rfl ?_ ?_; (focus (((rfl)); done))) | (refine k_ff rfl ?_ ?_; (focus (((refine decide_eq_false ?_; (assumption))); done))) | (refine k_any (s_any (id := 3) _ (fun _ h => h) mixed ?_); refine x_tks (t := tb) (fuel := 0) [0, 1, 2, 3, 4, 5, 6, 7, 8, 9, 10, 11, 12, 13, 14] (bts 15 32767) (by kernel_rfl) (by kernel_rfl) rfl rfl (Gh.le.refl _) (by repeat ((exact List.Sublist.refl _))) ?_ ?_; (focus (repeat' (first | exact trivial | apply And.intro | omega))); refine x_done (by kernel_rfl) (k_bk ?_)))
        all_goals refine k_rr (vs := [_]) (L' := [.blk ab (.cells (List.toArray [u1, u2, v]) tAsk (0, 0)), .acc v tPr 2 m.length (rows prF m)]) rfl ⟨rfl, trivial⟩ rfl (by repeat (first | exact List.Sublist.refl _ | apply List.Sublist.cons)) ⟨rfl, v, rfl, rfl⟩
      · rw [decide_eq_false hcc]
        refine g_enter [(0, _), (1, _), (2, _)] Tryz.func35 (by kernel_rfl) Tryz.ntmps35 rfl rfl (by repeat (first | exact trivial | refine ⟨rfl, ?_⟩)) fun B hB hW => ?_
        repeat' (first | (refine run (t := tb) 400 rfl ?_ ?_; (focus (repeat' ((exact trivial))))) | (refine k_op rfl ?_; first | refine v_op (g_ld rfl rfl rfl) rfl rfl ?_ | refine c_al rfl rfl fun _ => ?_ | refine c_stA rfl rfl rfl rfl rfl rfl ?_ | (refine v_op (g_pickT rfl rfl ?_) rfl rfl ?_; (focus (((rfl)); done))) | (refine v_op (g_pickF rfl rfl ?_) rfl rfl ?_; (focus (((rfl)); done))) | (refine c_rt rfl rfl rfl (c_l2Core (by (repeat ((assumption))); done)) rfl ?_) | (refine c_rt rfl rfl rfl cx_rfa rfl ?_) | (refine c_rt rfl rfl rfl cx_rfb rfl ?_)) | (refine k_gt rfl rfl ?_ ?_; (focus (((rfl)); done))) | (refine k_gf rfl rfl ?_ ?_; (focus ((first | rfl | (refine decide_eq_false ?_; (assumption))); done))) | (refine k_tt rfl ?_ ?_; (focus (((rfl)); done))) | (refine k_ff rfl ?_ ?_; (focus (((refine decide_eq_false ?_; (assumption))); done))) | (refine k_any (s_any (id := 3) _ (fun _ h => h) mixed ?_); refine x_tks (t := tb) (fuel := 0) [0, 1, 2, 3, 4, 5, 6, 7, 8, 9, 10, 11, 12, 13, 14] (bts 15 32767) (by kernel_rfl) (by kernel_rfl) rfl rfl (Gh.le.refl _) (by repeat ((exact List.Sublist.refl _))) ?_ ?_; (focus (repeat' (first | exact trivial | apply And.intro | omega))); refine x_done (by kernel_rfl) (k_bk ?_)))
        all_goals refine k_rr (vs := [_]) (L' := [.blk ab (.cells (List.toArray [u1, u2, v]) tAsk (0, 0)), .acc v tPr 2 m.length (rows prF m)]) rfl ⟨rfl, trivial⟩ rfl (by repeat (first | exact List.Sublist.refl _ | apply List.Sublist.cons)) ⟨rfl, v, rfl, rfl⟩
    rw [hr1] at r1 cx_rfa
    have r1 : refT (tys vs) (core k1) = some t := r1.symm
    rcases hr2 : refV ws (core k2) with _ | ⟨⟨a2, c2⟩, u⟩
    · rw [hr2] at r2 cx_rfb
      have r2 : refT (tys ws) (core k2) = none := r2.symm
      have hn2 := kind_none hk2 r2
      have hcc : ¬ core k1 = core k2 := fun e => by have := refT_refN r1; rw [e, hn2] at this; cases this
      rw [r1, r2]
      dsimp only
      rw [decide_eq_false hcc]
      refine g_enter [(0, _), (1, _), (2, _)] Tryz.func35 (by kernel_rfl) Tryz.ntmps35 rfl rfl (by repeat (first | exact trivial | refine ⟨rfl, ?_⟩)) fun B hB hW => ?_
      repeat' (first | (refine run (t := tb) 400 rfl ?_ ?_; (focus (repeat' ((exact trivial))))) | (refine k_op rfl ?_; first | refine v_op (g_ld rfl rfl rfl) rfl rfl ?_ | refine c_al rfl rfl fun _ => ?_ | refine c_stA rfl rfl rfl rfl rfl rfl ?_ | (refine v_op (g_pickF rfl rfl ?_) rfl rfl ?_; (focus (((rfl)); done))) | (refine c_rt rfl rfl rfl (c_l2Core (by (repeat ((assumption))); done)) rfl ?_) | (refine c_rt rfl rfl rfl cx_rfa rfl ?_) | (refine c_rt rfl rfl rfl cx_rfb rfl ?_)) | (refine k_gf rfl rfl ?_ ?_; (focus ((first | rfl | (refine decide_eq_false ?_; (assumption))); done))) | (refine k_tt rfl ?_ ?_; (focus (((rfl)); done))) | (refine k_ff rfl ?_ ?_; (focus (((refine decide_eq_false ?_; (assumption))); done))) | (refine k_any (s_any (id := 3) _ (fun _ h => h) mixed ?_); refine x_tks (t := tb) (fuel := 0) [0, 1, 2, 3, 4, 5, 6, 7, 8, 9, 10, 11, 12, 13, 14] (bts 15 32767) (by kernel_rfl) (by kernel_rfl) rfl rfl (Gh.le.refl _) (by repeat ((exact List.Sublist.refl _))) ?_ ?_; (focus (repeat' (first | exact trivial | apply And.intro | omega))); refine x_done (by kernel_rfl) (k_bk ?_)))
      all_goals refine k_rr (vs := [_]) (L' := [.blk ab (.cells (List.toArray [u1, u2, v]) tAsk (0, 0)), .acc v tPr 2 m.length (rows prF m)]) rfl ⟨rfl, trivial⟩ rfl (by repeat (first | exact List.Sublist.refl _ | apply List.Sublist.cons)) ⟨rfl, v, rfl, rfl⟩
    rw [hr2] at r2 cx_rfb
    have r2 : refT (tys ws) (core k2) = some u := r2.symm
    rw [r1, r2]
    dsimp only
    have htm := refT_mem r1
    have hum := refT_mem r2
    have cx_rfa : PuG Tryz.prog 44 [u1, S (core k1)] G (· = Tu [Ag [U8 t.sort, S t.name, .slice a1 t.fields.length c1], Bo true]) := cx_rfa
    have cx_rfb : PuG Tryz.prog 44 [u2, S (core k2)] G (· = Tu [Ag [U8 u.sort, S u.name, .slice a2 u.fields.length c2], Bo true]) := cx_rfb
    have nl1 := isNm_len (w1.ty t htm).name
    have nl2 := isNm_len (w2.ty u hum).name
    have hps := hm.names w1 w2
    unfold evoP
    
    refine g_enter [(0, _), (1, _), (2, _)] Tryz.func35 (by kernel_rfl) Tryz.ntmps35 rfl rfl (by repeat (first | exact trivial | refine ⟨rfl, ?_⟩)) fun B hB hW => ?_
    refine Nx.shp (.tail _ (.head _)) fun hsh => ?_
    have hsh2 := hsh.sl
    obtain ⟨av, cv, rfl⟩ := hsh2
    repeat' (first | (refine run (t := tb) 400 rfl ?_ ?_; (focus (repeat' ((exact trivial))))) | (refine k_op rfl ?_; (refine c_rt rfl rfl rfl (c_l2Core (by (repeat ((assumption))); done)) rfl ?_)))
    (refine k_any (s_any (id := 3) _ (fun _ h => h) mixed ?_); refine x_tks (t := tb) (fuel := 0) [0, 1, 2, 3, 4, 5, 6, 7, 8, 9, 10, 11, 12, 13, 14] (bts 15 32767) (by kernel_rfl) (by kernel_rfl) rfl rfl (Gh.le.refl _) (by repeat ((exact List.Sublist.refl _))) ?_ ?_; (focus (repeat' (first | exact trivial | apply And.intro | omega))); refine x_done (by kernel_rfl) (k_bk ?_))
    repeat' (first | (refine run (t := tb) 400 rfl ?_ ?_; (focus (repeat' ((exact trivial))))) | (refine k_op rfl ?_; first | refine v_op (g_ld rfl rfl rfl) rfl rfl ?_ | refine c_al rfl rfl fun _ => ?_ | refine c_stA rfl rfl rfl rfl rfl rfl ?_ | (refine v_op (g_pickF rfl rfl ?_) rfl rfl ?_; (focus (((rfl)); done))) | refine v_op (g_bld rfl rfl) rfl rfl ?_ | (refine c_rt rfl rfl rfl cx_rfa rfl ?_) | (refine c_rt rfl rfl rfl cx_rfb rfl ?_)) | (refine k_gf rfl rfl ?_ ?_; (focus (((rfl)); done))) | (refine k_ff rfl ?_ ?_; (focus ((first | rfl | (refine decide_eq_false ?_; (assumption))); done))))
    rename_i x9 x11 x13
    refine k_loop (ι := Nat) (fun i => i ≤ m.length ∧ ∀ k, k < i → nth m k ≠ (t.name, u.name)) (fun i => [(0, Pt ab 0), (9, Pt x9 0), (11, Pt x11 0), (13, Pt x13 0), (14, I i)]) (fun _ => G) (fun i => [.blk x13 (.cells (List.toArray [S t.name, S u.name]) tPr (0, 0)), .blk x11 (.cells (List.toArray [U8 u.sort, S u.name, .slice a2 u.fields.length c2]) tTyK (0, 0)), .blk x9 (.cells (List.toArray [U8 t.sort, S t.name, .slice a1 t.fields.length c1]) tTyK (0, 0)), .blk ab (.cells (List.toArray [u1, u2, .slice av m.length cv]) tAsk (0, 0)), .acc (.slice av m.length cv) tPr 2 m.length (rows prF m)]) (fun i => m.length - i) 0 ?_ (by repeat (first | exact trivial | refine ⟨rfl, ?_⟩)) rfl (by repeat ((exact List.Sublist.refl _))) (fun i Hi => ?_)
    · exact ⟨Nat.zero_le _, fun k hk => absurd hk (by omega)⟩
    by_cases hi : i < m.length
    · obtain ⟨bv, cv', e⟩ := hsh.pos (by omega)
      simp only [Value.slice.injEq] at e
      obtain ⟨rfl, -, rfl⟩ := e
      have hpi := hps _ (nth_mem hi)
      have hb : ((nth m i).1.length ≤ 1000000 ∧ (nth m i).2.length ≤ 1000000) ∧ t.name.length ≤ 1000000 ∧ u.name.length ≤ 1000000 := ⟨hpi, by omega, by omega⟩
      by_cases heq : (nth m i).1 = t.name ∧ (nth m i).2 = u.name
      · repeat' (first | (refine run (t := tb) 400 rfl ?_ ?_; (focus (repeat' ((exact trivial))))) | (refine k_op rfl ?_; first | refine v_op (g_ld rfl rfl rfl) rfl rfl ?_ | refine v_op (g_lenL rfl) rfl rfl ?_) | (refine k_tt rfl ?_ ?_; (focus (((refine decide_eq_true ?_; (omega))); done))))
        (refine k_any (s_any (id := 13) _ (fun _ h => h) mixed ?_); refine x_tks (t := tb) (fuel := 5) [0, 1, 2, 4] (bts 9 23) (by kernel_rfl) (by kernel_rfl) rfl rfl (Gh.le.refl _) (by repeat ((exact List.Sublist.refl _))) ?_ ?_; (focus (repeat' ((exact trivial)))); ((refine (x_tkg (bts 9 31) 3 rfl (by kernel_rfl) rfl (Gh.le.refl _) (by repeat ((exact List.Sublist.refl _)))) (g_ld rfl rfl rfl) rfl rfl ?_)); ((refine (x_tkg (bts 9 63) 5 rfl (by kernel_rfl) rfl (Gh.le.refl _) (by repeat ((exact List.Sublist.refl _)))) (g_iaddrN rfl rfl ?_) rfl rfl ?_; (focus ((omega); done)))); ((refine (x_tkg (bts 9 127) 6 rfl (by kernel_rfl) rfl (Gh.le.refl _) (by repeat ((exact List.Sublist.refl _)))) (g_ldBR rfl rfl rfl ?_) rfl rfl ?_; (focus (((omega)); done)))); ((refine (x_tkg (bts 9 255) 7 rfl (by kernel_rfl) rfl (Gh.le.refl _) (by repeat ((exact List.Sublist.refl _)))) (g_ldA rfl rfl rfl rfl) rfl rfl ?_)); ((refine (x_tkg (bts 9 511) 8 rfl (by kernel_rfl) rfl (Gh.le.refl _) (by repeat ((exact List.Sublist.refl _)))) (g_eqP rfl rfl ?_) rfl rfl ?_; (focus ((assumption); done)))); refine x_done (by kernel_rfl) (k_bk ?_))
        repeat' (first | (refine run (t := tb) 400 rfl ?_ ?_; (focus (repeat' ((exact trivial))))) | (refine k_tt rfl ?_ ?_; (focus (((refine decide_eq_true ?_; (assumption))); done))))
        all_goals refine k_rr (vs := [_]) (L' := [.blk ab (.cells (List.toArray [u1, u2, .slice (some ⟨bv, 0, none⟩) m.length cv]) tAsk (0, 0)), .acc (.slice (some ⟨bv, 0, none⟩) m.length cv) tPr 2 m.length (rows prF m)]) rfl ⟨rfl, trivial⟩ rfl (by repeat (first | exact List.Sublist.refl _ | apply List.Sublist.cons)) ⟨rfl, .slice (some ⟨bv, 0, none⟩) m.length cv, ?_, ?_⟩
        all_goals have hmem : (t.name, u.name) ∈ m := by
                    have := nth_mem hi
                    rwa [show nth m i = (t.name, u.name) from Prod.ext heq.1 heq.2] at this
        all_goals (rw [if_pos hmem]; first | done | rfl)
      · repeat' (first | (refine run (t := tb) 400 rfl ?_ ?_; (focus (repeat' ((exact trivial))))) | (refine k_op rfl ?_; first | refine v_op (g_ld rfl rfl rfl) rfl rfl ?_ | refine v_op (g_lenL rfl) rfl rfl ?_) | (refine k_tt rfl ?_ ?_; (focus (((refine decide_eq_true ?_; (omega))); done))))
        (refine k_any (s_any (id := 13) _ (fun _ h => h) mixed ?_); refine x_tks (t := tb) (fuel := 5) [0, 1, 2, 4] (bts 9 23) (by kernel_rfl) (by kernel_rfl) rfl rfl (Gh.le.refl _) (by repeat ((exact List.Sublist.refl _))) ?_ ?_; (focus (repeat' ((exact trivial)))); ((refine (x_tkg (bts 9 31) 3 rfl (by kernel_rfl) rfl (Gh.le.refl _) (by repeat ((exact List.Sublist.refl _)))) (g_ld rfl rfl rfl) rfl rfl ?_)); ((refine (x_tkg (bts 9 63) 5 rfl (by kernel_rfl) rfl (Gh.le.refl _) (by repeat ((exact List.Sublist.refl _)))) (g_iaddrN rfl rfl ?_) rfl rfl ?_; (focus ((omega); done)))); ((refine (x_tkg (bts 9 127) 6 rfl (by kernel_rfl) rfl (Gh.le.refl _) (by repeat ((exact List.Sublist.refl _)))) (g_ldBR rfl rfl rfl ?_) rfl rfl ?_; (focus (((omega)); done)))); ((refine (x_tkg (bts 9 255) 7 rfl (by kernel_rfl) rfl (Gh.le.refl _) (by repeat ((exact List.Sublist.refl _)))) (g_ldA rfl rfl rfl rfl) rfl rfl ?_)); ((refine (x_tkg (bts 9 511) 8 rfl (by kernel_rfl) rfl (Gh.le.refl _) (by repeat ((exact List.Sublist.refl _)))) (g_eqP rfl rfl ?_) rfl rfl ?_; (focus ((assumption); done)))); refine x_done (by kernel_rfl) (k_bk ?_))
        repeat' (first | (refine run (t := tb) 400 rfl ?_ ?_; (focus (repeat' (first | exact trivial | apply And.intro | omega)))) | (refine k_ff rfl ?_ ?_; (focus (((refine decide_eq_false ?_; (assumption))); done))))
        all_goals
          refine k_rd (i + 1) ⟨by omega, fun k hk => ?_⟩ (by omega) (by repeat (first | exact trivial | refine ⟨rfl, ?_⟩)) rfl (by repeat ((exact List.Sublist.refl _)))
          rcases Nat.lt_or_ge k i with h3 | h3
          · exact Hi.2 k h3
          · have : k = i := by omega
            subst this
            intro e; rw [e] at heq; exact heq ⟨rfl, rfl⟩
    have hnot : (t.name, u.name) ∉ m := fun h => by
      obtain ⟨k, hk, e⟩ := mem_nth h
      exact Hi.2 k (by omega) e
    have cx_tsq : ∀ v, FnG Tryz.prog 45 [Pt ab 0, Ag [U8 t.sort, S t.name, .slice a1 t.fields.length c1], Ag [U8 u.sort, S u.name, .slice a2 u.fields.length c2]] G [.blk ab (.cells (List.toArray [u1, u2, v]) tAsk (0, 0)), .acc v tPr 2 (m.length + 1) (rows prF m ++ [S t.name, S u.name])] (AskP ab u1 u2 (evoT (tys vs) (tys ws) (evoK (tys vs) (tys ws) n) t u (m ++ [(t.name, u.name)]))) := fun v => by
      have := c_typesS (v := v) h1 h2 w1 w2 ih (refV_mem hr1) (refV_mem hr2) (hm.snoc htm hum hnot) (by simp only [List.length_append, List.length_cons, List.length_nil]; omega)
      simp only [rows_snoc, List.length_append, List.length_cons, List.length_nil, Nat.zero_add] at this
      exact this
    rw [if_neg hnot]
    generalize evoT (tys vs) (tys ws) (evoK (tys vs) (tys ws) n) t u (m ++ [(t.name, u.name)]) = r at cx_tsq
    repeat' (first | (refine run (t := tb) 400 rfl ?_ ?_; (focus (repeat' ((exact trivial))))) | (refine k_op rfl ?_; first | refine v_op (g_ld rfl rfl rfl) rfl rfl ?_ | refine v_op (g_lenL rfl) rfl rfl ?_) | (refine k_ff rfl ?_ ?_; (focus (((refine decide_eq_false ?_; (omega))); done))))
    (refine k_any (s_any (id := 15) [.blk x13 (.cells (List.toArray [S t.name, S u.name]) tPr (0, 0)), .blk x11 (.cells (List.toArray [U8 u.sort, S u.name, .slice a2 u.fields.length c2]) tTyK (0, 0)), .blk x9 (.cells (List.toArray [U8 t.sort, S t.name, .slice a1 t.fields.length c1]) tTyK (0, 0))] (by intro y hy; simp only [List.mem_cons, List.not_mem_nil, or_false] at hy ⊢; rcases hy with hy | hy | hy <;> simp [hy]) mixed ?_); refine x_tks (t := tb) (fuel := 7) [0, 1, 2, 3] (bts 11 15) (by kernel_rfl) (by kernel_rfl) rfl rfl (Gh.le.refl _) (by repeat (first | exact List.nil_sublist _ | apply List.Sublist.cons_cons)) ?_ ?_; (focus (repeat' ((exact trivial)))); ((refine (x_tkg (bts 11 47) 5 rfl (by kernel_rfl) rfl (Gh.le.refl _) (by repeat (first | exact List.nil_sublist _ | apply List.Sublist.cons_cons))) (g_ldA rfl rfl rfl rfl) rfl rfl ?_)); refine x_all [4, 6] (by kernel_rfl) (by decide) ⟨?_, ?_, trivial⟩; (focus (refine x_opg rfl rfl ?_; ((refine v_op (g_ld rfl rfl rfl) rfl rfl ?_)); refine x_kk (by (exact Gh.le.refl _)) (by repeat (first | exact List.nil_sublist _ | apply List.Sublist.cons_cons)) (listed' := (bts 11 63)) (by kernel_rfl) ?_; refine x_all [6] (by kernel_rfl) (by decide) ⟨?_, trivial⟩; refine x_opg rfl rfl ?_; ((refine c_bsl rfl rfl rfl rfl rfl rfl fun _ => ?_)); refine x_kk (by (exact Gh.le.refl _)) (by repeat (first | exact List.nil_sublist _ | apply List.Sublist.cons_cons | apply List.Sublist.cons)) (listed' := (bts 11 127)) (by kernel_rfl) ?_; refine x_all [7] (by kernel_rfl) (by decide) ⟨?_, trivial⟩; refine x_opg rfl rfl ?_; ((refine c_apX rfl rfl rfl rfl rfl rfl rfl rfl rfl ?_ fun _ _ => ?_; (focus ((omega); done)))); refine x_kk (by (exact Gh.le.refl _)) (by repeat (first | exact List.nil_sublist _ | apply List.Sublist.cons_cons | apply List.Sublist.cons)) (listed' := (bts 11 255)) (by kernel_rfl) ?_; refine x_tks (t := tb) (fuel := 1) [8, 9] (bts 11 1023) (by kernel_rfl) (by kernel_rfl) rfl rfl (Gh.le.refl _) (by repeat (first | exact List.nil_sublist _ | apply List.Sublist.cons_cons | apply List.Sublist.cons)) ?_ ?_; (focus (repeat' ((exact trivial)))); refine x_all [10] (by kernel_rfl) (by decide) ⟨?_, trivial⟩; refine x_opg rfl rfl ?_; ((refine c_st1 rfl rfl rfl rfl ?_)); refine x_kk (by (exact Gh.le.refl _)) (by repeat (first | exact List.nil_sublist _ | apply List.Sublist.cons_cons | apply List.Sublist.cons)) (listed' := (bts 11 2047)) (by kernel_rfl) ?_; refine x_done (by kernel_rfl) (k_bk ?_))); rotate_left 1; (focus (refine x_opg rfl rfl ?_; ((refine c_bsl rfl rfl rfl rfl rfl rfl fun _ => ?_)); refine x_kk (by (exact Gh.le.refl _)) (by repeat (first | exact List.nil_sublist _ | apply List.Sublist.cons_cons | apply List.Sublist.cons)) (listed' := (bts 11 111)) (by kernel_rfl) ?_; refine x_all [4] (by kernel_rfl) (by decide) ⟨?_, trivial⟩; refine x_opg rfl rfl ?_; ((refine v_op (g_ld rfl rfl rfl) rfl rfl ?_)); refine x_kk (by (exact Gh.le.refl _)) (by repeat (first | exact List.nil_sublist _ | apply List.Sublist.cons_cons | apply List.Sublist.cons)) (listed' := (bts 11 127)) (by kernel_rfl) ?_; refine x_all [7] (by kernel_rfl) (by decide) ⟨?_, trivial⟩; refine x_opg rfl rfl ?_; ((refine c_apX rfl rfl rfl rfl rfl rfl rfl rfl rfl ?_ fun _ _ => ?_; (focus ((omega); done)))); refine x_kk (by (exact Gh.le.refl _)) (by repeat (first | exact List.nil_sublist _ | apply List.Sublist.cons_cons | apply List.Sublist.cons)) (listed' := (bts 11 255)) (by kernel_rfl) ?_; refine x_tks (t := tb) (fuel := 1) [8, 9] (bts 11 1023) (by kernel_rfl) (by kernel_rfl) rfl rfl (Gh.le.refl _) (by repeat (first | exact List.nil_sublist _ | apply List.Sublist.cons_cons | apply List.Sublist.cons)) ?_ ?_; (focus (repeat' ((exact trivial)))); refine x_all [10] (by kernel_rfl) (by decide) ⟨?_, trivial⟩; refine x_opg rfl rfl ?_; ((refine c_st1 rfl rfl rfl rfl ?_)); refine x_kk (by (exact Gh.le.refl _)) (by repeat (first | exact List.nil_sublist _ | apply List.Sublist.cons_cons | apply List.Sublist.cons)) (listed' := (bts 11 2047)) (by kernel_rfl) ?_; refine x_done (by kernel_rfl) (k_bk ?_))); rotate_left 1)
    repeat' (first | (refine run (t := tb) 400 rfl ?_ ?_; (focus (repeat' ((exact trivial))))) | (refine k_op rfl ?_; first | refine v_op (g_ldA rfl rfl rfl rfl) rfl rfl ?_ | (refine c_m2g rfl rfl rfl (cx_tsq _) rfl ?_; rintro _ _ ⟨v2, rfl, rfl⟩; dsimp only [List.cons_append, List.nil_append])))
    
    all_goals exact k_rr (vs := [_]) (L' := [.blk ab (.cells (List.toArray [u1, u2, v2]) tAsk (0, 0)), .acc v2 tPr 2 r.2.length (rows prF r.2)]) rfl ⟨rfl, trivial⟩ rfl (by repeat (first | exact List.nil_sublist _ | apply List.Sublist.cons_cons)) ⟨rfl, v2, rfl, rfl⟩
end Go.E
