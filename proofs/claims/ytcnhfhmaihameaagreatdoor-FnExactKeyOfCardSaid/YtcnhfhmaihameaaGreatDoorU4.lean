/- Contracts and plain laws that the statement rests on, part 4. Conditions: as each says. -/
import Derived.Test.YtcnhfhmaihameaaGreatDoorU3
set_option linter.unusedVariables false
set_option linter.unusedSimpArgs false
namespace Go.E
set_option maxRecDepth 20000
set_option maxHeartbeats 2000000
open Go.Proofs
variable {G : Gh}
abbrev tPT : TypeId := 116
abbrev tSc : TypeId := 113
def RsPost (s : List UInt8) (v : Value) (G : Gh) : Prop := (schemaOf s = none ∧ ∃ p, v = Tu [p, Bo false]) ∨ ∃ b qs, v = Tu [Pt b 0, Bo true] ∧ schemaOf s = some (tyq qs) ∧ ScI G b qs
theorem tyq_len (qs : List TyP) : (tyq qs).length = qs.length := by simp [tyq]
theorem nth_tyq {qs : List TyP} {i : Nat} (h : i < qs.length) : nth (tyq qs) i = (nth qs i).2 := by
  rw [nth_eq h, nth_eq (by rw [tyq_len]; exact h)]; simp [tyq]
theorem findQ_some {qs : List TyP} {n : List UInt8} {q : TyP} (h : findQ qs n = some q) : ∃ i, i < (tyq qs).length ∧ (nth (tyq qs) i).name = n := by
  have h1 := findQ_mem h
  have h2 : n = q.2.name := by unfold findQ at h; simpa using List.find?_some h
  obtain ⟨i, hi, rfl⟩ := mem_nth h1
  exact ⟨i, by rw [tyq_len]; exact hi, by rw [nth_tyq hi, h2]⟩
theorem findQ_none {qs : List TyP} {n : List UInt8} (h : findQ qs n = none) : ∀ i, i < qs.length → (nth (tyq qs) i).name ≠ n := by
  intro i hi e
  unfold findQ at h
  rw [List.find?_eq_none] at h
  have := h _ (nth_mem hi)
  rw [nth_tyq hi] at e
  simp [e] at this
theorem c_readSchema {s : List UInt8} (h : s.length ≤ 10000000) : FnS Tryz.prog 64 [S s] G (RsPost s) := by
  by_cases hl : s.length ≤ 400
  case neg =>
    have hno := schema_len hl
    refine b_enter [(0, _)] Tryz.func64 (by kernel_rfl) Tryz.ntmps64 rfl rfl (by repeat' constructor) fun B hok hB hW => ?_
    repeat' (first | (refine run (t := tb) 400 rfl trivial ?_) | (refine k_tt rfl (dTt (by omega)) ?_))
    all_goals refine k_rr (vs := [_, _]) rfl ⟨rfl, rfl, trivial⟩ rfl (List.nil_sublist _) ⟨Gh.le.refl _, rfl, ?_⟩
    all_goals exact .inl ⟨hno, _, rfl⟩
  refine b_enter [(0, _)] Tryz.func64 (by kernel_rfl) Tryz.ntmps64 rfl rfl (by repeat' constructor) fun B hok hB hW => ?_
  repeat' (first | (refine run (t := tb) 400 rfl trivial ?_) | (refine k_op rfl ?_; first | refine c_mkm rfl fun _ => ?_ | refine v_op (g_bld rfl rfl) rfl rfl ?_ | refine c_bx rfl rfl rfl fun _ => ?_) | (refine k_ff rfl (dFf (by omega)) ?_))
  rename_i m x
  refine Nx.addNil tPT 1 ?_
  refine k_loop (ι := Value × List TyP × List (List UInt8) × List UInt8 × Gh) (fun i => Rdg s i.2.2.1 (tyq i.2.1) i.2.2.2.1 ∧ (i.2.1.length ≤ 8 ∧ i.2.2.2.1.length ≤ s.length) ∧ (∀ a, a < i.2.1.length → NamesAt (tyq i.2.1) a) ∧ (∀ q ∈ i.2.1, TyI i.2.2.2.2 q.1 q.2) ∧ Gh.le G i.2.2.2.2) (fun i => [(0, S i.2.2.2.1), (4, Pt x 0)]) (fun i => i.2.2.2.2) (fun i => [.acc i.1 tPT 1 i.2.1.length (rows ptF i.2.1), .blk x (.cells [i.1, .map (some m)].toArray tSc (0, 0)), .blk m (mapO (kvsOf i.2.1))]) (fun i => i.2.2.2.1.length) (nilS, [], [], s, G) ?_ (by repeat' constructor) rfl sRr (fun i Hi => ?_)
  · exact ⟨Rdg.start s, ⟨by simp, Nat.le_refl _⟩, fun a ha => absurd ha (by simp), by simp, Gh.le.refl _⟩
  obtain ⟨u, qs, ls, t, Gk⟩ := i
  dsimp only at Hi ⊢
  obtain ⟨hR, ⟨h8, htl⟩, hna, hti, hgk⟩ := Hi
  refine Nx.shp (v := u) (.head _) fun hsh => ?_
  have hsh2 := hsh
  obtain ⟨au, cu, rfl⟩ := hsh.sl
  by_cases ht : t = []
  case neg =>
    have cx_cut : ∀ G, PuG Tryz.prog 83 [S t, S [10]] G (· = Tu [S (cut1 10 t).1, S (cut1 10 t).2.1, Bo (cut1 10 t).2.2]) := fun G => c_Cut (c := 10) (by omega)
    have hcl := cut1_len (k := 10) (s := t)
    cases hc : (cut1 10 t).2.2 with
    | false =>
      have hno := hR.noend ht hc
      have hc2 : (!(cut1 10 t).2.2) = true := by rw [hc]; rfl
      repeat' (first | (refine run (t := tb) 400 rfl trivial ?_) | (refine k_op rfl ?_; first | (refine v_op (g_pickT rfl rfl rfl) rfl rfl ?_) | (refine c_rt rfl rfl rfl (cx_cut _) rfl ?_)) | (refine k_gt rfl rfl ‹_› ?_) | (refine k_tt rfl (by first | rfl | (refine decide_eq_true ?_; (assumption))) ?_))
      all_goals refine k_rr (vs := [_, _]) rfl ⟨rfl, rfl, trivial⟩ rfl (List.nil_sublist _) ⟨hgk, rfl, ?_⟩
      all_goals exact .inl ⟨hno, _, rfl⟩
    | true =>
      have hce : cut1 10 t = ((cut1 10 t).1, (cut1 10 t).2.1, true) := by rw [← hc]
      have hlt : (cut1 10 t).2.1.length < t.length := by
        obtain ⟨d, _, e⟩ := cut1_some hce
        have := congrArg List.length e
        simp at this; omega
      rw [hc] at cx_cut
      generalize (cut1 10 t).1 = line at *
      generalize (cut1 10 t).2.1 = rest at *
      clear hc
      by_cases h9 : qs.length = 8
      · have hno := hR.many hce (by rw [tyq_len]; exact h9)
        repeat' (first | (refine run (t := tb) 400 rfl trivial ?_) | (refine k_op rfl ?_; first | refine v_op (g_ld rfl rfl rfl) rfl rfl ?_ | refine v_op (g_lenL rfl) rfl rfl ?_ | (refine v_op (g_pickF rfl rfl rfl) rfl rfl ?_) | (refine c_rt rfl rfl rfl (cx_cut _) rfl ?_)) | (refine k_gf rfl rfl rfl ?_) | (refine k_tt rfl (by refine decide_eq_true ?_; first | assumption | omega) ?_))
        all_goals refine k_rr (vs := [_, _]) rfl ⟨rfl, rfl, trivial⟩ rfl (List.nil_sublist _) ⟨hgk, rfl, ?_⟩
        all_goals exact .inl ⟨hno, _, rfl⟩
      have hle1 : line.length ≤ 1000 := by omega
      cases hty : tyOf line with
      | none =>
        have hno := hR.bad hce hty
        have cx_rt0 : ∀ G, FnS Tryz.prog 84 [S line] G (fun v _ => ∃ p, v = Tu [p, Bo false]) := fun G => by
          refine (c_readType (G := G) hle1).mono ?_
          rintro v G' L' ⟨h1, h2, ⟨_, p, rfl⟩ | ⟨_, _, _, h4, _⟩⟩
          · exact ⟨h1, h2, p, rfl⟩
          · rw [hty] at h4; cases h4
        repeat' (first | (refine run (t := tb) 400 rfl trivial ?_) | (refine k_op rfl ?_; first | refine v_op (g_ld rfl rfl rfl) rfl rfl ?_ | refine v_op (g_lenL rfl) rfl rfl ?_ | (refine v_op (g_pickF rfl rfl rfl) rfl rfl ?_) | (refine c_rt rfl rfl rfl (cx_cut _) rfl ?_) | (refine c_fns rfl rfl rfl (cx_rt0 _) rfl ?_; rintro _ G hle ⟨p, rfl⟩; skip)) | (refine k_gf rfl rfl rfl ?_) | (refine k_tt rfl (by first | rfl | (refine decide_eq_true ?_; (assumption))) ?_) | (refine k_ff rfl (dFf (by omega)) ?_) | (refine k_any (s_any (id := 9) _ (fun _ h => h) mixed ?_); refine x_tks (t := tb) (fuel := 11) [0, 1, 2] (bts 14 7) (by kernel_rfl) (by kernel_rfl) rfl rfl (Gh.le.refl _) sRr trivial ?_; (try (refine Nx.re (d := 47) (v' := Bo true) rfl (congrArg Value.bool rfl) ?_)); refine x_tks (t := tb) (fuel := 5) [3, 4, 5, 7, 8, 9] (bts 14 959) (by kernel_rfl) (by kernel_rfl) rfl rfl (Gh.le.refl _) sRr trivial ?_; (refine x_tkn (bts 14 1023) 6 rfl (by kernel_rfl) rfl (Gh.le.refl _) sRr rfl rfl ?_); (refine x_tkn (bts 14 2047) 10 rfl (by kernel_rfl) rfl (Gh.le.refl _) sRr rfl rfl ?_); (refine x_tkn (bts 14 4095) 11 rfl (by kernel_rfl) rfl (Gh.le.refl _) sRr rfl rfl ?_); (refine x_tkn (bts 14 8191) 12 rfl (by kernel_rfl) rfl (Gh.le.refl _) sRr rfl rfl ?_); ((refine (x_tkg (bts 14 16383) 13 rfl (by kernel_rfl) rfl (Gh.le.refl _) sRr) (g_pickT rfl rfl rfl) rfl rfl ?_)); refine x_done (by kernel_rfl) (k_bk ?_)))
        all_goals refine k_rr (vs := [_, _]) rfl ⟨rfl, rfl, trivial⟩ rfl (List.nil_sublist _) ⟨hgk.trans hle, rfl, ?_⟩
        all_goals exact .inl ⟨hno, _, rfl⟩
      | some ty =>
      have cx_rt1 : ∀ G, FnS Tryz.prog 84 [S line] G (fun v G' => ∃ b fv ln, v = Tu [Pt b 0, Bo true] ∧ Seg G' b 0 [U8 ty.sort, S ty.name, fv, S ln] ∧ SlV G' fv 6 ty.fields.length (rows fiF ty.fields)) := fun G => by
        refine (c_readType (G := G) hle1).mono ?_
        rintro v G' L' ⟨h1, h2, ⟨h4, _⟩ | ⟨b, t2, rfl, h4, fv, ln, h5, h6⟩⟩
        · rw [hty] at h4; cases h4
        · rw [hty] at h4; simp only [Option.some.injEq] at h4; subst h4
          exact ⟨h1, h2, b, fv, ln, rfl, h5, h6⟩
      have hkv := kvF_find qs ty.name
      cases hf : findQ qs ty.name with
      | some q =>
        rw [hf] at hkv
        dsimp only [Option.map_some] at hkv
        obtain ⟨i, hi, hn⟩ := findQ_some hf
        have hno := hR.dup hce hty i hi hn
        repeat' (first | (refine run (t := tb) 400 rfl trivial ?_) | (refine k_op rfl ?_; first | refine v_op (g_ld rfl rfl rfl) rfl rfl ?_ | refine v_op (g_lenL rfl) rfl rfl ?_ | (refine v_op (g_pickF rfl rfl rfl) rfl rfl ?_) | (refine c_rt rfl rfl rfl (cx_cut _) rfl ?_) | (refine c_fns rfl rfl rfl (cx_rt1 _) rfl ?_; rintro _ G hle ⟨b, fv, ln, rfl, hsg, hfv⟩; skip)) | (refine k_gf rfl rfl rfl ?_) | (refine k_tt rfl (by first | rfl | (refine decide_eq_true ?_; (assumption))) ?_) | (refine k_ff rfl (dFf (by omega)) ?_) | (refine k_any (s_any (id := 9) _ (fun _ h => h) mixed ?_); refine x_tks (t := tb) (fuel := 11) [0, 1, 2] (bts 14 7) (by kernel_rfl) (by kernel_rfl) rfl rfl (Gh.le.refl _) sRr trivial ?_; (try (refine Nx.re (d := 47) (v' := Bo false) rfl (congrArg Value.bool rfl) ?_)); refine x_tks (t := tb) (fuel := 5) [3, 4, 5, 7, 8, 9] (bts 14 959) (by kernel_rfl) (by kernel_rfl) rfl rfl (Gh.le.refl _) sRr trivial ?_; ((refine (x_tkg (bts 14 1023) 6 rfl (by kernel_rfl) rfl (Gh.le.refl _) sRr) (g_ld rfl rfl rfl) rfl rfl ?_)); ((refine (x_tkg (bts 14 2047) 10 rfl (by kernel_rfl) rfl (Gh.le.refl _) sRr) (g_ldS rfl rfl (by assumption) rfl rfl) rfl rfl ?_)); ((refine (x_tkg (bts 14 4095) 11 rfl (by kernel_rfl) rfl (Gh.le.refl _) sRr) (g_lookupX rfl rfl (map_own MapI.mem) (by assumption) rfl) rfl rfl ?_)); ((refine (x_tkg (bts 14 8191) 12 rfl (by kernel_rfl) rfl (Gh.le.refl _) sRr) (g_pne0 rfl rfl) rfl rfl ?_)); ((refine (x_tkg (bts 14 16383) 13 rfl (by kernel_rfl) rfl (Gh.le.refl _) sRr) (g_pickF rfl rfl rfl) rfl rfl ?_)); refine x_done (by kernel_rfl) (k_bk ?_)))
        all_goals refine k_rr (vs := [_, _]) rfl ⟨rfl, rfl, trivial⟩ rfl (List.nil_sublist _) ⟨hgk.trans hle, rfl, ?_⟩
        all_goals exact .inl ⟨hno, _, rfl⟩
      | none =>
        rw [hf] at hkv
        dsimp only [Option.map_none] at hkv
        repeat' (first | (refine run (t := tb) 400 rfl trivial ?_) | (refine k_op rfl ?_; first | refine v_op (g_ld rfl rfl rfl) rfl rfl ?_ | refine v_op (g_lenL rfl) rfl rfl ?_ | (refine v_op (g_pickF rfl rfl rfl) rfl rfl ?_) | (refine c_rt rfl rfl rfl (cx_cut _) rfl ?_) | (refine c_fns rfl rfl rfl (cx_rt1 _) rfl ?_; rintro _ G hle ⟨b, fv, ln, rfl, hsg, hfv⟩; skip)) | (refine k_gf rfl rfl rfl ?_) | (refine k_tt rfl (dTt ‹_›) ?_) | (refine k_ff rfl (dFf (by omega)) ?_))
        (refine k_any (s_any (id := 9) _ (fun _ h => h) mixed ?_); refine x_tks (t := tb) (fuel := 11) [0, 1, 2] (bts 14 7) (by kernel_rfl) (by kernel_rfl) rfl rfl (Gh.le.refl _) sRr trivial ?_; (try (refine Nx.re (d := 47) (v' := Bo false) rfl (congrArg Value.bool rfl) ?_)); refine x_tks (t := tb) (fuel := 5) [3, 4, 5, 7, 8, 9] (bts 14 959) (by kernel_rfl) (by kernel_rfl) rfl rfl (Gh.le.refl _) sRr trivial ?_; ((refine (x_tkg (bts 14 1023) 6 rfl (by kernel_rfl) rfl (Gh.le.refl _) sRr) (g_ld rfl rfl rfl) rfl rfl ?_)); ((refine (x_tkg (bts 14 2047) 10 rfl (by kernel_rfl) rfl (Gh.le.refl _) sRr) (g_ldS rfl rfl (by assumption) rfl rfl) rfl rfl ?_)); ((refine (x_tkg (bts 14 4095) 11 rfl (by kernel_rfl) rfl (Gh.le.refl _) sRr) (g_lookupX rfl rfl (map_own MapI.mem) (by assumption) rfl) rfl rfl ?_)); ((refine (x_tkg (bts 14 8191) 12 rfl (by kernel_rfl) rfl (Gh.le.refl _) sRr) (g_pne0 rfl rfl) rfl rfl ?_)); ((refine (x_tkg (bts 14 16383) 13 rfl (by kernel_rfl) rfl (Gh.le.refl _) sRr) (g_pickF rfl rfl rfl) rfl rfl ?_)); refine x_done (by kernel_rfl) (k_bk ?_))
        repeat' (first | (refine run (t := tb) 400 rfl trivial ?_) | (refine k_op rfl ?_; first | refine v_op (g_ld rfl rfl rfl) rfl rfl ?_ | refine c_bsl rfl rfl rfl rfl rfl rfl fun _ => ?_ | (refine c_apX rfl rfl rfl rfl rfl rfl rfl rfl rfl (by omega) fun _ _ => ?_) | refine c_st1 rfl rfl rfl rfl ?_) | (refine k_ff rfl rfl ?_))
        rename_i w b2 c2
        (refine k_any (s_any (id := 12) [.blk x (.cells [.slice (some ⟨b2, 0, none⟩) (qs.length + 1) c2, .map (some m)].toArray tSc (0, 0))] (by intro y hy; simp only [List.mem_cons, List.not_mem_nil, or_false] at hy ⊢; simp [hy]) mixed ?_); refine x_tks (t := tb) (fuel := 3) [0, 1, 2, 4, 5, 6, 8] (bts 10 375) (by kernel_rfl) (by kernel_rfl) rfl rfl (Gh.le.refl _) (by repeat (first | exact List.nil_sublist _ | apply List.Sublist.cons_cons | apply List.Sublist.cons)) ?_ ?_; (focus (repeat' (exact trivial))); ((refine (x_tkg (bts 10 383) 3 rfl (by kernel_rfl) rfl (Gh.le.refl _) (by repeat (first | exact List.nil_sublist _ | apply List.Sublist.cons_cons | apply List.Sublist.cons))) (g_ld rfl rfl rfl) rfl rfl ?_)); ((refine (x_tkg (bts 10 511) 7 rfl (by kernel_rfl) rfl (Gh.le.refl _) (by repeat (first | exact List.nil_sublist _ | apply List.Sublist.cons_cons | apply List.Sublist.cons))) (g_ldS rfl rfl (by assumption) rfl rfl) rfl rfl ?_)); refine x_all [9] (by kernel_rfl) (by decide) ⟨?_, trivial⟩; refine x_opg rfl rfl ?_; (refine c_mup rfl rfl rfl rfl ‹_› ?_); refine x_ks gRr (by repeat (first | exact List.nil_sublist _ | apply List.Sublist.cons_cons | apply List.Sublist.cons)) (listed' := (bts 10 1023)) (by kernel_rfl) ?_; refine x_done (by kernel_rfl) (k_bk ?_))
        repeat' (refine run (t := tb) 400 rfl trivial ?_)
        have e1 : kvsOf qs ++ [(ty.name, Pt b 0)] = kvsOf (qs ++ [(b, ty)]) := by simp [kvsOf]
        have e2 : rows ptF qs ++ [Pt b 0] = rows ptF (qs ++ [(b, ty)]) := (rows_snoc ptF qs (b, ty)).symm
        have e3 : tyq (qs ++ [(b, ty)]) = tyq qs ++ [ty] := by simp [tyq]
        rw [e1, e2]
        refine k_rd (.slice (some ⟨b2, 0, none⟩) (qs.length + 1) c2, qs ++ [(b, ty)], ls ++ [line], rest, G) ⟨?_, ⟨by simp; omega, by dsimp only; omega⟩, ?_, ?_, hgk.trans hle⟩ (by dsimp only; omega) (by repeat' constructor) rfl (by dsimp only; simp only [List.length_append, List.length_cons, List.length_nil, Nat.zero_add]; repeat (first | exact List.Sublist.refl _ | apply List.Sublist.cons_cons | apply List.Sublist.cons))
        · dsimp only; rw [e3]; exact hR.step hce hty
        · intro a ha k hk
          dsimp only at ha ⊢
          rw [e3]
          have hlen := tyq_len qs
          have hal : a < qs.length + 1 := by simpa using ha
          rcases Nat.lt_or_ge a qs.length with h3 | h3
          · rw [nth_app (by omega), nth_app (by omega)]; exact hna a h3 k hk
          · have ea : a = qs.length := by omega
            have e4 : nth (tyq qs ++ [ty]) a = ty := by rw [nth_eq (by simp; omega), List.getElem_append_right (by omega)]; simp
            rw [nth_app (by omega), e4]
            exact findQ_none hf k (by omega)
        · intro q hq
          dsimp only at hq ⊢
          rcases List.mem_append.1 hq with hq | hq
          · exact (hti q hq).mono hle
          · simp only [List.mem_singleton] at hq; subst hq; exact ⟨fv, ln, hsg, hfv⟩
  · subst ht
    have hfin := hR.fin hl (by rw [tyq_len]; exact h8)
    have hw : ∀ q ∈ qs, TyW q.2 := fun q hq => (typesOf_w hR.tyE).1 q.2 (show q.2 ∈ qs.map (fun y => y.2) from List.mem_map_of_mem hq)
    refine Nx.sealS (v := .slice au qs.length cu) fun G1 hl1 hsl => ?_
    refine Nx.sealC (b := x) fun G2 hl2 hsx => ?_
    refine Nx.sealM (b := m) fun G3 hl3 hmm => ?_
    have hS : ScI G3 x qs := ⟨⟨_, m, hsx.mono hl3, hsl.mono (hl2.trans hl3), hmm⟩, fun q hq => (hti q hq).mono ((hl1.trans hl2).trans hl3)⟩
    have hgl : Gh.le G G3 := ((hgk.trans hl1).trans hl2).trans hl3
    have hsx3 := hsx.mono hl3
    have hsl3 := hsl.mono (hl2.trans hl3)
    repeat' (first | (refine run (t := tb) 400 rfl trivial ?_) | (refine k_op rfl ?_; first | refine v_op (g_ldS rfl rfl (by assumption) rfl rfl) rfl rfl ?_ | refine v_op (g_lenL rfl) rfl rfl ?_) | (refine k_ff rfl rfl ?_))
    refine k_loop (ι := Nat) (fun k => k ≤ qs.length ∧ ∀ j, j < k → KindsOk (tyq qs) (nth qs j).2) (fun k => [(4, Pt x 0), (82, .slice au qs.length cu), (83, I qs.length), (84, I k)]) (fun k => G3) (fun k => []) (fun k => qs.length - k) 0 ?_ (by repeat' constructor) rfl sRr (fun k Hk => ?_)
    · exact ⟨Nat.zero_le _, fun j hj => absurd hj (by omega)⟩
    by_cases hk : k < qs.length
    case neg =>
      have hko : ∀ q ∈ qs, KindsOk (tyq qs) q.2 := fun q hq => by
        obtain ⟨j, hj, rfl⟩ := mem_nth hq
        exact Hk.2 j (by omega)
      repeat' (first | (refine run (t := tb) 400 rfl trivial ?_) | (refine k_op rfl ?_; first | refine v_op (g_ldS rfl rfl (by assumption) rfl rfl) rfl rfl ?_ | refine v_op (g_lenL rfl) rfl rfl ?_) | (refine k_ff rfl (dFf (by omega)) ?_))
      refine k_loop (ι := Nat) (fun k => k ≤ qs.length ∧ ∀ j, j < k → endsN (tyq qs) 9 (nth qs j).2 = true) (fun k => [(4, Pt x 0), (114, .slice au qs.length cu), (115, I qs.length), (116, I k)]) (fun k => G3) (fun k => []) (fun k => qs.length - k) 0 ?_ (by repeat' constructor) rfl sRr (fun k Hk => ?_)
      · exact ⟨Nat.zero_le _, fun j hj => absurd hj (by omega)⟩
      have hends : ∀ j, j < qs.length → endsN (tyq qs) 9 (nth qs j).2 = endsN (tyq qs) ((tyq qs).length + 1) (nth (tyq qs) j) := fun j hj => by
        rw [nth_tyq hj]
        exact ends_eq (by rw [tyq_len]; exact h8) (show (nth qs j).2 ∈ qs.map (fun y => y.2) from List.mem_map_of_mem (nth_mem hj))
      by_cases hk2 : k < qs.length
      case neg =>
        have hv : ValidT (tyq qs) := by
          refine ⟨fun j hj => ?_, fun j hj => ?_⟩
          · rw [tyq_len] at hj
            exact ⟨hna j hj, by rw [nth_tyq hj]; exact hko _ (nth_mem hj)⟩
          · rw [tyq_len] at hj
            rw [← hends j hj]; exact Hk.2 j (by omega)
        repeat' (first | (refine run (t := tb) 400 rfl trivial ?_) | (refine k_ff rfl (dFf (by omega)) ?_))
        all_goals refine k_rr (vs := [_, _]) rfl ⟨rfl, rfl, trivial⟩ rfl (List.nil_sublist _) ⟨hgl, rfl, ?_⟩
        all_goals exact .inr ⟨x, qs, rfl, by rw [hfin, if_pos hv], hS⟩
      obtain ⟨ba, oa, ca, ea, hsa⟩ := hsl3.expl (by omega)
      simp only [Value.slice.injEq] at ea
      obtain ⟨rfl, -, rfl⟩ := ea
      rcases hq : nth qs k with ⟨p, ty⟩
      have hqm : (p, ty) ∈ qs := by rw [← hq]; exact nth_mem hk2
      have cx_en2 := c_endsI hS hw hko hqm
      have hek := hends k hk2
      rw [hq] at hek
      dsimp only at hek
      by_cases he : endsN (tyq qs) 9 ty = true
      · have he2 : (!endsN (tyq qs) 9 ty) = false := by rw [he]; rfl
        repeat' (first | (refine run (t := tb) 400 rfl ?_ ?_; (focus (repeat' (first | exact trivial | apply And.intro | omega)))) | (refine k_op rfl ?_; first | (refine v_op (g_ldR1x rfl rfl (by assumption) ?_ (by assumption) rfl) rfl rfl ?_; (focus ((omega); done))) | (refine v_op (g_iaddrN rfl rfl (by omega)) rfl rfl ?_) | (refine c_rt rfl rfl rfl cx_en2 rfl ?_)) | (refine k_tt rfl (dTt (by omega)) ?_) | (refine k_ff rfl ‹_› ?_))
        refine k_rd (k + 1) ⟨by omega, fun j hj => ?_⟩ (by omega) (by repeat' constructor) rfl sRr
        rcases Nat.lt_or_ge j k with h3 | h3
        · exact Hk.2 j h3
        · have : j = k := by omega
          subst this; rw [hq]; exact he
      · have he2 : (!endsN (tyq qs) 9 ty) = true := by simpa using he
        have hno : schemaOf s = none := by
          rw [hfin, if_neg]
          intro hv
          have := hv.2 k (by rw [tyq_len]; exact hk2)
          rw [← hek] at this
          exact he this
        repeat' (first | (refine run (t := tb) 400 rfl trivial ?_) | (refine k_op rfl ?_; first | (refine v_op (g_ldR1x rfl rfl (by assumption) ?_ (by assumption) rfl) rfl rfl ?_; (focus ((omega); done))) | (refine v_op (g_iaddrN rfl rfl (by omega)) rfl rfl ?_) | (refine c_rt rfl rfl rfl cx_en2 rfl ?_)) | (refine k_tt rfl (by first | assumption | (refine decide_eq_true ?_; (omega))) ?_))
        all_goals refine k_rr (vs := [_, _]) rfl ⟨rfl, rfl, trivial⟩ rfl (List.nil_sublist _) ⟨hgl, rfl, ?_⟩
        all_goals exact .inl ⟨hno, _, rfl⟩
    obtain ⟨ba, oa, ca, ea, hsa⟩ := hsl3.expl (by omega)
    simp only [Value.slice.injEq] at ea
    obtain ⟨rfl, -, rfl⟩ := ea
    rcases hq : nth qs k with ⟨p, ty⟩
    have hqm : (p, ty) ∈ qs := by rw [← hq]; exact nth_mem hk
    obtain ⟨fv, ln, hsg, hfv⟩ := hS.ty _ hqm
    dsimp only at hsg hfv
    have hW := hw _ hqm
    dsimp only at hW
    have h88 := hW.len
    repeat' (first | (refine run (t := tb) 400 rfl trivial ?_) | (refine k_op rfl ?_; first | refine v_op (g_ldS rfl rfl (by assumption) rfl rfl) rfl rfl ?_ | (refine v_op (g_ldR1x rfl rfl (by assumption) ?_ (by assumption) rfl) rfl rfl ?_; (focus ((omega); done))) | refine v_op (g_lenV rfl (by assumption)) rfl rfl ?_ | (refine v_op (g_iaddrN rfl rfl (by omega)) rfl rfl ?_)) | (refine k_tt rfl (dTt (by omega)) ?_))
    refine k_loop (ι := Nat) (fun l => l ≤ ty.fields.length ∧ (ty.sort = 69 ∨ ∀ j, j < l → hasK (tyq qs) (nth ty.fields j).kind = true)) (fun l => [(4, Pt x 0), (11, Pt p 0), (82, .slice (some ⟨ba, oa, none⟩) qs.length cu), (83, I qs.length), (84, I k), (91, fv), (92, I ty.fields.length), (93, I l)]) (fun l => G3) (fun l => []) (fun l => ty.fields.length - l) 0 ?_ (by repeat' constructor) rfl sRr (fun l Hl => ?_)
    · exact ⟨Nat.zero_le _, .inr fun j hj => absurd hj (by omega)⟩
    by_cases hl2 : l < ty.fields.length
    case neg =>
      repeat' (first | (refine run (t := tb) 400 rfl ?_ ?_; (focus (repeat' (first | exact trivial | apply And.intro | omega)))) | (refine k_ff rfl (dFf (by omega)) ?_))
      refine k_rd (k + 1) ⟨by omega, fun j hj => ?_⟩ (by omega) (by repeat' constructor) rfl sRr
      rcases Nat.lt_or_ge j k with h3 | h3
      · exact Hk.2 j h3
      · have : j = k := by omega
        subst this
        rw [hq]
        rcases Hl.2 with h5 | h5
        · exact .inl h5
        · exact .inr fun j2 hj2 => h5 j2 (by dsimp only at hj2; omega)
    obtain ⟨bf, of, cf, rfl, hsf⟩ := hfv.expl (by omega)
    by_cases h69 : ty.sort = 69
    · repeat' (first | (refine run (t := tb) 400 rfl ?_ ?_; (focus (repeat' (first | exact trivial | apply And.intro | omega)))) | (refine k_op rfl ?_; first | (refine v_op (g_ldR rfl rfl (by assumption) ?_) rfl rfl ?_; (focus ((omega); done))) | refine v_op (g_ldS rfl rfl (by assumption) rfl rfl) rfl rfl ?_ | (refine v_op (g_pickF rfl rfl rfl) rfl rfl ?_) | refine c_stA rfl rfl rfl rfl rfl rfl ?_ | (refine v_op (g_iaddrN rfl rfl (by omega)) rfl rfl ?_) | refine c_al rfl rfl fun _ => ?_) | (refine k_gf rfl rfl (dFf (by omega)) ?_) | (refine k_tt rfl (dTt (by omega)) ?_) | (refine k_ff rfl rfl ?_))
      refine k_rd (l + 1) ⟨by omega, .inl h69⟩ (by omega) (by repeat' constructor) rfl (by repeat (exact List.nil_sublist _))
    have hko1 := (hW.fld _ (nth_mem hl2)).kind h69
    have cx_has := c_has hS hko1
    by_cases hh : hasK (tyq qs) (nth ty.fields l).kind = true
    · have hh2 : (!hasK (tyq qs) (nth ty.fields l).kind) = false := by rw [hh]; rfl
      repeat' (first | (refine run (t := tb) 400 rfl ?_ ?_; (focus (repeat' (first | exact trivial | apply And.intro | omega)))) | (refine k_op rfl ?_; first | (refine v_op (g_ldR rfl rfl (by assumption) ?_) rfl rfl ?_; (focus ((omega); done))) | refine v_op (g_ldA rfl rfl rfl rfl) rfl rfl ?_ | refine v_op (g_ldS rfl rfl (by assumption) rfl rfl) rfl rfl ?_ | (refine v_op (g_pickT rfl rfl rfl) rfl rfl ?_) | refine c_stA rfl rfl rfl rfl rfl rfl ?_ | (refine v_op (g_iaddrN rfl rfl (by omega)) rfl rfl ?_) | refine c_al rfl rfl fun _ => ?_ | (refine c_rt rfl rfl rfl cx_has rfl ?_)) | (refine k_gt rfl rfl (dTt (by omega)) ?_) | (refine k_tt rfl (dTt (by omega)) ?_) | (refine k_ff rfl ‹_› ?_))
      refine k_rd (l + 1) ⟨by omega, .inr fun j hj => ?_⟩ (by omega) (by repeat' constructor) rfl (by repeat (exact List.nil_sublist _))
      rcases Nat.lt_or_ge j l with h3 | h3
      · rcases Hl.2 with h5 | h5
        · exact absurd h5 h69
        · exact h5 j h3
      · have : j = l := by omega
        subst this; exact hh
    · have hh2 : (!hasK (tyq qs) (nth ty.fields l).kind) = true := by simpa using hh
      have hno : schemaOf s = none := by
        rw [hfin, if_neg]
        intro hv
        have h5 := (hv.1 k (by rw [tyq_len]; exact hk)).2
        rw [nth_tyq hk, hq] at h5
        rcases h5 with h6 | h6
        · exact h69 h6
        · exact hh (h6 l hl2)
      repeat' (first | (refine run (t := tb) 400 rfl trivial ?_) | (refine k_op rfl ?_; first | (refine v_op (g_ldR rfl rfl (by assumption) ?_) rfl rfl ?_; (focus ((omega); done))) | refine v_op (g_ldA rfl rfl rfl rfl) rfl rfl ?_ | refine v_op (g_ldS rfl rfl (by assumption) rfl rfl) rfl rfl ?_ | (refine v_op (g_pickT rfl rfl rfl) rfl rfl ?_) | refine c_stA rfl rfl rfl rfl rfl rfl ?_ | (refine v_op (g_iaddrN rfl rfl (by omega)) rfl rfl ?_) | refine c_al rfl rfl fun _ => ?_ | (refine c_rt rfl rfl rfl cx_has rfl ?_)) | (refine k_gt rfl rfl (dTt (by omega)) ?_) | (refine k_tt rfl (by first | assumption | (refine decide_eq_true ?_; (omega))) ?_))
      all_goals refine k_rr (vs := [_, _]) rfl ⟨rfl, rfl, trivial⟩ rfl (List.nil_sublist _) ⟨hgl, rfl, ?_⟩
      all_goals exact .inl ⟨hno, _, rfl⟩
end Go.E
namespace Go.E
set_option maxRecDepth 20000
set_option maxHeartbeats 2000000
open Go.Proofs
variable {G : Gh}
def BothPost (s k : List UInt8) (v : Value) (G : Gh) : Prop := (kindS s k = false ∧ ∃ p a b c, v = Tu [p, Ag [S a, S b, S c], Bo false]) ∨ ∃ b qs, v = Tu [Pt b 0, Ag (kdF k), Bo true] ∧ schemaOf s = some (tyq qs) ∧ kindIn (tyq qs) k = true ∧ ScI G b qs
theorem c_both {s k : List UInt8} (h : s.length ≤ 10000000) (hk : k.length ≤ 2000000) : FnS Tryz.prog 37 [S s, S k] G (BothPost s k) := by
  cases hs : schemaOf s with
  | none =>
    have hno : kindS s k = false := by unfold kindS; rw [hs]
    have cx_rs0 : ∀ G, FnS Tryz.prog 64 [S s] G (fun v _ => ∃ p, v = Tu [p, Bo false]) := fun G => by
      refine (c_readSchema (G := G) h).mono ?_
      rintro v G' L' ⟨h1, h2, ⟨_, p, rfl⟩ | ⟨_, _, _, h4, _⟩⟩
      · exact ⟨h1, h2, p, rfl⟩
      · rw [hs] at h4; cases h4
    refine b_enter [(0, _), (1, _)] Tryz.func37 (by kernel_rfl) Tryz.ntmps37 rfl rfl (by repeat' constructor) fun B hok hB hW => ?_
    repeat' (first | (refine run (t := tb) 400 rfl trivial ?_) | (refine k_op rfl ?_; first | refine c_al rfl rfl fun _ => ?_ | refine v_op (g_bld rfl rfl) rfl rfl ?_ | refine c_stA rfl rfl rfl rfl rfl rfl ?_ | (refine c_fns rfl rfl rfl (cx_rs0 _) rfl ?_; rintro _ G hle ⟨p, rfl⟩; skip)) | (refine k_tt rfl rfl ?_))
    all_goals refine k_rr (vs := [_, _, _]) rfl ⟨rfl, rc_A rfl rfl rfl rfl, rfl, trivial⟩ rfl (List.nil_sublist _) ⟨hle, rfl, ?_⟩
    all_goals exact .inl ⟨hno, _, [], [], [], rfl⟩
  | some ts =>
    have cx_rs1 : ∀ G, FnS Tryz.prog 64 [S s] G (fun v G' => ∃ b qs, v = Tu [Pt b 0, Bo true] ∧ tyq qs = ts ∧ ScI G' b qs) := fun G => by
      refine (c_readSchema (G := G) h).mono ?_
      rintro v G' L' ⟨h1, h2, ⟨h4, _⟩ | ⟨b, qs, rfl, h4, h5⟩⟩
      · rw [hs] at h4; cases h4
      · rw [hs] at h4; simp only [Option.some.injEq] at h4; exact ⟨h1, h2, b, qs, rfl, h4.symm, h5⟩
    by_cases hko : kindOk k = true
    case neg =>
      have hkc2 : kindOk k = false := by simpa using hko
      have hno : kindS s k = false := by unfold kindS kindIn; rw [hs]; simp [hkc2]
      have cx_kn : ∀ G, PuG Tryz.prog 65 [S k] G (fun v => ∃ x y z, v = Tu [Ag [S x, S y, S z], Bo false]) := fun G => by
        refine (c_readKind (G := G) (s := k) (by omega)).mono ?_
        rintro v G' L' ⟨h1, h2, x, y, z, rfl, _⟩
        exact ⟨h1, h2, x, y, z, by rw [hkc2]⟩
      refine b_enter [(0, _), (1, _)] Tryz.func37 (by kernel_rfl) Tryz.ntmps37 rfl rfl (by repeat' constructor) fun B hok hB hW => ?_
      repeat' (first | (refine run (t := tb) 400 rfl trivial ?_) | (refine k_op rfl ?_; first | refine c_al rfl rfl fun _ => ?_ | refine c_stA rfl rfl rfl rfl rfl rfl ?_ | (refine c_fns rfl rfl rfl (cx_rs1 _) rfl ?_; rintro _ G hle ⟨b, qs, rfl, hqs, hS⟩; skip) | (refine c_pu rfl rfl rfl (cx_kn _) rfl ?_; rintro _ ⟨x, y, z, rfl⟩)) | (refine k_ff rfl rfl ?_) | (refine k_any (s_anyD (id := 5) (tt := 5) rfl mixed ?_); refine x_tks (t := tb) (fuel := 8) [0, 2, 3] (bts 11 13) (by kernel_rfl) (by kernel_rfl) rfl rfl (Gh.le.refl _) (by repeat (first | exact List.nil_sublist _ | apply List.Sublist.cons_cons)) ?_ ?_; (focus (repeat' (exact trivial))); (try (refine Nx.re (d := 26) (v' := Bo false) rfl (congrArg Value.bool rfl) ?_)); refine x_tks (t := tb) (fuel := 7) [4] (bts 11 29) (by kernel_rfl) (by kernel_rfl) rfl rfl (Gh.le.refl _) (by repeat (first | exact List.nil_sublist _ | apply List.Sublist.cons_cons)) ?_ ?_; (focus (repeat' (exact trivial))); ((refine (x_tkg (bts 11 31) 1 rfl (by kernel_rfl) rfl (Gh.le.refl _) (by repeat (first | exact List.nil_sublist _ | apply List.Sublist.cons_cons))) (g_ldA rfl rfl rfl rfl) rfl rfl ?_)); ((refine x_tkn (bts 11 63) 5 rfl (by kernel_rfl) rfl (Gh.le.refl _) (by repeat (first | exact List.nil_sublist _ | apply List.Sublist.cons_cons)) rfl rfl ?_)); ((refine x_tkn (bts 11 127) 6 rfl (by kernel_rfl) rfl (Gh.le.refl _) (by repeat (first | exact List.nil_sublist _ | apply List.Sublist.cons_cons)) rfl rfl ?_)); refine x_tks (t := tb) (fuel := 3) [8] (bts 11 383) (by kernel_rfl) (by kernel_rfl) rfl rfl (Gh.le.refl _) (by repeat (first | exact List.nil_sublist _ | apply List.Sublist.cons_cons)) ?_ ?_; (focus (repeat' (exact trivial))); ((refine (x_tkg (bts 11 511) 7 rfl (by kernel_rfl) rfl (Gh.le.refl _) (by repeat (first | exact List.nil_sublist _ | apply List.Sublist.cons_cons))) (g_pickF rfl rfl ?_) rfl rfl ?_; (focus ((rfl); done)))); refine x_all [9] (by kernel_rfl) (by decide) ⟨?_, trivial⟩; refine x_opg rfl rfl ?_; (refine c_stA rfl rfl rfl rfl rfl rfl ?_); refine x_kk gRr (by repeat (first | exact List.nil_sublist _ | apply List.Sublist.cons_cons)) (listed' := (bts 11 1023)) (by kernel_rfl) ?_; refine x_tks (t := tb) (fuel := 0) [10] (bts 11 2047) (by kernel_rfl) (by kernel_rfl) rfl rfl (Gh.le.refl _) (by repeat (first | exact List.nil_sublist _ | apply List.Sublist.cons_cons)) ?_ ?_; (focus (repeat' (exact trivial))); refine x_done (by kernel_rfl) (k_bk ?_)))
      all_goals refine k_rr (vs := [_, _, _]) rfl ⟨rfl, rc_A rfl rfl rfl rfl, rfl, trivial⟩ rfl (List.nil_sublist _) ⟨hle, rfl, ?_⟩
      all_goals exact .inl ⟨hno, _, _, _, _, rfl⟩
    have cx_kq : ∀ G, PuG Tryz.prog 65 [S k] G (· = Tu [Ag [S (sg k), S (bs k), S (nm k)], Bo true]) := fun G => c_kindX (by omega) hko
    have hkk : kdF k = [S (sg k), S (bs k), S (nm k)] := rfl
    by_cases hH : hasK ts k = true
    case pos =>
      have cx_hy : ∀ G b qs, tyq qs = ts → ScI G b qs → PuG Tryz.prog 66 [Pt b 0, Ag [S (sg k), S (bs k), S (nm k)]] G (· = Bo true) := by
        intro G b qs hq hS
        refine (c_has hS hko).mono ?_
        rintro v G' L' ⟨h1, h2, rfl⟩
        exact ⟨h1, h2, by rw [hq, hH]⟩
      refine b_enter [(0, _), (1, _)] Tryz.func37 (by kernel_rfl) Tryz.ntmps37 rfl rfl (by repeat' constructor) fun B hok hB hW => ?_
      repeat' (first | (refine run (t := tb) 400 rfl trivial ?_) | (refine k_op rfl ?_; first | refine c_al rfl rfl fun _ => ?_ | refine c_stA rfl rfl rfl rfl rfl rfl ?_ | (refine c_fns rfl rfl rfl (cx_rs1 _) rfl ?_; rintro _ G hle ⟨b, qs, rfl, hqs, hS⟩; skip) | (refine c_rt rfl rfl rfl (cx_kq _) rfl ?_)) | (refine k_ff rfl rfl ?_) | (refine k_any (s_anyD (id := 5) (tt := 5) rfl mixed ?_); refine x_tks (t := tb) (fuel := 8) [0, 2, 3] (bts 11 13) (by kernel_rfl) (by kernel_rfl) rfl rfl (Gh.le.refl _) (by repeat (first | exact List.nil_sublist _ | apply List.Sublist.cons_cons)) ?_ ?_; (focus (repeat' (exact trivial))); (try (refine Nx.re (d := 26) (v' := Bo true) rfl (congrArg Value.bool rfl) ?_)); refine x_tks (t := tb) (fuel := 7) [4] (bts 11 29) (by kernel_rfl) (by kernel_rfl) rfl rfl (Gh.le.refl _) (by repeat (first | exact List.nil_sublist _ | apply List.Sublist.cons_cons)) ?_ ?_; (focus (repeat' (exact trivial))); ((refine (x_tkg (bts 11 31) 1 rfl (by kernel_rfl) rfl (Gh.le.refl _) (by repeat (first | exact List.nil_sublist _ | apply List.Sublist.cons_cons))) (g_ldA rfl rfl rfl rfl) rfl rfl ?_)); ((refine (x_tkg (bts 11 63) 5 rfl (by kernel_rfl) rfl (Gh.le.refl _) (by repeat (first | exact List.nil_sublist _ | apply List.Sublist.cons_cons))) (g_ldA rfl rfl rfl rfl) rfl rfl ?_)); ((refine x_all [6] (by kernel_rfl) (by decide) ⟨?_, trivial⟩; refine x_opg rfl rfl ?_; ((refine c_rt rfl rfl rfl ((cx_hy _ _ _) (by (repeat (assumption)); done) (by (repeat (assumption)); done)) rfl ?_)); refine x_kk gRr (by repeat (first | exact List.nil_sublist _ | apply List.Sublist.cons_cons)) (listed' := (bts 11 127)) (by kernel_rfl) ?_)); refine x_tks (t := tb) (fuel := 3) [8] (bts 11 383) (by kernel_rfl) (by kernel_rfl) rfl rfl (Gh.le.refl _) (by repeat (first | exact List.nil_sublist _ | apply List.Sublist.cons_cons)) ?_ ?_; (focus (repeat' (exact trivial))); ((refine (x_tkg (bts 11 511) 7 rfl (by kernel_rfl) rfl (Gh.le.refl _) (by repeat (first | exact List.nil_sublist _ | apply List.Sublist.cons_cons))) (g_pickT rfl rfl ?_) rfl rfl ?_; (focus ((rfl); done)))); refine x_all [9] (by kernel_rfl) (by decide) ⟨?_, trivial⟩; refine x_opg rfl rfl ?_; (refine c_stA rfl rfl rfl rfl rfl rfl ?_); refine x_kk gRr (by repeat (first | exact List.nil_sublist _ | apply List.Sublist.cons_cons)) (listed' := (bts 11 1023)) (by kernel_rfl) ?_; refine x_tks (t := tb) (fuel := 0) [10] (bts 11 2047) (by kernel_rfl) (by kernel_rfl) rfl rfl (Gh.le.refl _) (by repeat (first | exact List.nil_sublist _ | apply List.Sublist.cons_cons)) ?_ ?_; (focus (repeat' (exact trivial))); refine x_done (by kernel_rfl) (k_bk ?_)))
      all_goals refine k_rr (vs := [_, _, _]) rfl ⟨rfl, rc_A rfl rfl rfl rfl, rfl, trivial⟩ rfl (List.nil_sublist _) ⟨hle, rfl, ?_⟩
      all_goals exact .inr ⟨b, qs, rfl, by rw [hs, hqs], by simp [kindIn, hqs, hko, hH], hS⟩
    case neg =>
      have hH2 : hasK ts k = false := by simpa using hH
      have hno : kindS s k = false := by unfold kindS kindIn; rw [hs]; simp [hH2]
      have cx_hn : ∀ G b qs, tyq qs = ts → ScI G b qs → PuG Tryz.prog 66 [Pt b 0, Ag [S (sg k), S (bs k), S (nm k)]] G (· = Bo false) := by
        intro G b qs hq hS
        refine (c_has hS hko).mono ?_
        rintro v G' L' ⟨h1, h2, rfl⟩
        exact ⟨h1, h2, by rw [hq, hH2]⟩
      refine b_enter [(0, _), (1, _)] Tryz.func37 (by kernel_rfl) Tryz.ntmps37 rfl rfl (by repeat' constructor) fun B hok hB hW => ?_
      repeat' (first | (refine run (t := tb) 400 rfl trivial ?_) | (refine k_op rfl ?_; first | refine c_al rfl rfl fun _ => ?_ | refine c_stA rfl rfl rfl rfl rfl rfl ?_ | (refine c_fns rfl rfl rfl (cx_rs1 _) rfl ?_; rintro _ G hle ⟨b, qs, rfl, hqs, hS⟩; skip) | (refine c_rt rfl rfl rfl (cx_kq _) rfl ?_)) | (refine k_ff rfl rfl ?_) | (refine k_any (s_anyD (id := 5) (tt := 5) rfl mixed ?_); refine x_tks (t := tb) (fuel := 8) [0, 2, 3] (bts 11 13) (by kernel_rfl) (by kernel_rfl) rfl rfl (Gh.le.refl _) (by repeat (first | exact List.nil_sublist _ | apply List.Sublist.cons_cons)) ?_ ?_; (focus (repeat' (exact trivial))); (try (refine Nx.re (d := 26) (v' := Bo true) rfl (congrArg Value.bool rfl) ?_)); refine x_tks (t := tb) (fuel := 7) [4] (bts 11 29) (by kernel_rfl) (by kernel_rfl) rfl rfl (Gh.le.refl _) (by repeat (first | exact List.nil_sublist _ | apply List.Sublist.cons_cons)) ?_ ?_; (focus (repeat' (exact trivial))); ((refine (x_tkg (bts 11 31) 1 rfl (by kernel_rfl) rfl (Gh.le.refl _) (by repeat (first | exact List.nil_sublist _ | apply List.Sublist.cons_cons))) (g_ldA rfl rfl rfl rfl) rfl rfl ?_)); ((refine (x_tkg (bts 11 63) 5 rfl (by kernel_rfl) rfl (Gh.le.refl _) (by repeat (first | exact List.nil_sublist _ | apply List.Sublist.cons_cons))) (g_ldA rfl rfl rfl rfl) rfl rfl ?_)); ((refine x_all [6] (by kernel_rfl) (by decide) ⟨?_, trivial⟩; refine x_opg rfl rfl ?_; ((refine c_rt rfl rfl rfl ((cx_hn _ _ _) (by (repeat (assumption)); done) (by (repeat (assumption)); done)) rfl ?_)); refine x_kk gRr (by repeat (first | exact List.nil_sublist _ | apply List.Sublist.cons_cons)) (listed' := (bts 11 127)) (by kernel_rfl) ?_)); refine x_tks (t := tb) (fuel := 3) [8] (bts 11 383) (by kernel_rfl) (by kernel_rfl) rfl rfl (Gh.le.refl _) (by repeat (first | exact List.nil_sublist _ | apply List.Sublist.cons_cons)) ?_ ?_; (focus (repeat' (exact trivial))); ((refine (x_tkg (bts 11 511) 7 rfl (by kernel_rfl) rfl (Gh.le.refl _) (by repeat (first | exact List.nil_sublist _ | apply List.Sublist.cons_cons))) (g_pickT rfl rfl ?_) rfl rfl ?_; (focus ((rfl); done)))); refine x_all [9] (by kernel_rfl) (by decide) ⟨?_, trivial⟩; refine x_opg rfl rfl ?_; (refine c_stA rfl rfl rfl rfl rfl rfl ?_); refine x_kk gRr (by repeat (first | exact List.nil_sublist _ | apply List.Sublist.cons_cons)) (listed' := (bts 11 1023)) (by kernel_rfl) ?_; refine x_tks (t := tb) (fuel := 0) [10] (bts 11 2047) (by kernel_rfl) (by kernel_rfl) rfl rfl (Gh.le.refl _) (by repeat (first | exact List.nil_sublist _ | apply List.Sublist.cons_cons)) ?_ ?_; (focus (repeat' (exact trivial))); refine x_done (by kernel_rfl) (k_bk ?_)))
      all_goals refine k_rr (vs := [_, _, _]) rfl ⟨rfl, rc_A rfl rfl rfl rfl, rfl, trivial⟩ rfl (List.nil_sublist _) ⟨hle, rfl, ?_⟩
      all_goals exact .inl ⟨hno, _, _, _, _, rfl⟩
end Go.E
namespace Go.E
set_option maxRecDepth 20000
set_option maxHeartbeats 2000000
open Go.Proofs
variable {G : Gh}
theorem kind0_nth {t : Ty} : kind0 t = (nth t.fields 0).kind := by
  unfold kind0 nth
  cases t.fields with
  | nil => rfl
  | cons f r => rfl
theorem tag0_nth {t : Ty} : tag0 t = (nth t.fields 0).tag := by
  unfold tag0 nth
  cases t.fields with
  | nil => rfl
  | cons f r => rfl
theorem decI_len6 {n : Int} (h : 0 ≤ n ∧ n ≤ 9223372036854775807) : (decI n).length ≤ 19 := decI_len h.2
theorem plainOf_len (k : List UInt8) : (plainOf k).length ≤ 2 := by
  unfold plainOf
  split
  · simp
  · split
    · simp
    · split <;> simp
theorem SchW.tag0 {ts : List Ty} (h : SchW ts) {t : Ty} (ht : t ∈ ts) : 0 ≤ Go.E.tag0 t ∧ Go.E.tag0 t ≤ 200 := by
  rw [tag0_nth]
  by_cases h0 : 0 < t.fields.length
  · have := ((h.ty t ht).fld _ (nth_mem h0)).tag; omega
  · have : t.fields = [] := List.eq_nil_of_length_eq_zero (by omega)
    rw [this]; exact ⟨Int.le_refl _, by decide⟩
theorem standN_len {ts : List Ty} (h : SchW ts) : ∀ (n : Nat) (k : List UInt8), (standN ts n k).length ≤ 30 * n
  | 0, k => by simp [standN]
  | n + 1, [] => by simp [standN]
  | n + 1, c :: r => by
    unfold standN
    split
    · simp; omega
    · split
      · simp; omega
      · split
        · have := plainOf_len (c :: r); omega
        · rename_i t ht
          have h1 := h.tag0 (refT_mem ht)
          have h2 := decI_len6 (n := tag0 t) (by omega)
          have h3 := standN_len h n (kind0 t)
          split
          · simp; omega
          · split
            · simp; omega
            · simp; omega
theorem kind_in {ts : List Ty} (h : SchW ts) {t : Ty} (ht : t ∈ ts) (hs : t.sort ≠ 69) {f : Fld} (hf : f ∈ t.fields) : kindIn ts f.kind = true := by
  unfold kindIn
  rw [((h.ty t ht).fld f hf).kind hs, Bool.true_and]
  obtain ⟨i, hi, rfl⟩ := List.mem_iff_getElem.1 ht
  obtain ⟨j, hj, rfl⟩ := List.mem_iff_getElem.1 hf
  have h1 := (h.valid.1 i hi).2
  rw [nth_eq hi] at h1
  rcases h1 with h1 | h1
  · exact absurd h1 hs
  · have := h1 j hj
    rwa [nth_eq hj] at this
theorem kindIn_ok {ts : List Ty} {k : List UInt8} (h : kindIn ts k = true) : kindOk k = true := by
  unfold kindIn at h; simp only [Bool.and_eq_true] at h; exact h.1
theorem core_self {c : UInt8} {r : List UInt8} (h : ¬ (c.toNat = 91 ∨ c.toNat = 63)) : core (c :: r) = c :: r := by rw [core, if_neg h]
theorem ends_of {ts : List Ty} (h : SchW ts) {k : List UInt8} (t : Ty) (ht : refT ts k = some t) : endsN ts (ts.length + 1) t = true := by
  obtain ⟨i, hi, rfl⟩ := List.mem_iff_getElem.1 (refT_mem ht)
  have := h.valid.2 i hi
  rwa [nth_eq hi] at this
theorem c_standsS {u : Value} {vs : List TyX} (h : SchR G u vs) (hw : SchW (tys vs)) : ∀ (n : Nat) {k : List UInt8}, n ≤ 1000 → kindIn (tys vs) k = true → (∀ t, refT (tys vs) k = some t → endsN (tys vs) n t = true) →
    PuG Tryz.prog 123 [u, S k] G (· = S (standN (tys vs) (n + 1) k)) := by
  have hvl : vs.length ≤ 1000000 := by have := hw.len; rw [tys_len] at this; omega
  intro n
  induction n with
  | zero =>
    intro k hn hk he
    have hko := kindIn_ok hk
    have hkk := kindOk_kOk hko
    match k, hkk with
    | c :: r, hkk =>
      have e0 := bt_c0 c r
      by_cases h1 : c.toNat = 91
      · refine p_enter [(0, _), (1, _)] Tryz.func123 (by kernel_rfl) Tryz.ntmps123 rfl rfl (by repeat' constructor) fun B hB => ?_
        repeat' (first | (refine run (t := tb) 400 rfl ?_ ?_; (focus (repeat' (first | exact trivial | apply And.intro | omega | (simp only [List.length_append, List.length_cons, List.length_nil, Int.toNat_natCast]; omega))))) | (refine k_tt rfl ?_ ?_; (focus ((simp [*]; done); done))))
        all_goals refine k_rr (vs := [_]) rfl ⟨rfl, trivial⟩ rfl (List.nil_sublist _) ⟨rfl, rfl, ?_⟩
        all_goals (rw [oneOf_one]; unfold standN; rw [if_pos h1])
      by_cases h2 : c.toNat = 63
      · refine p_enter [(0, _), (1, _)] Tryz.func123 (by kernel_rfl) Tryz.ntmps123 rfl rfl (by repeat' constructor) fun B hB => ?_
        repeat' (first | (refine run (t := tb) 400 rfl ?_ ?_; (focus (repeat' (first | exact trivial | apply And.intro | omega | (simp only [List.length_append, List.length_cons, List.length_nil, Int.toNat_natCast]; omega))))) | (refine k_tt rfl ?_ ?_; (focus ((simp [*]; done); done))) | (refine k_ff rfl ?_ ?_; (focus ((simp [*]; done); done))))
        all_goals refine k_rr (vs := [_]) rfl ⟨rfl, trivial⟩ rfl (List.nil_sublist _) ⟨rfl, rfl, ?_⟩
        all_goals (rw [oneOf_one]; unfold standN; rw [if_neg h1, if_pos h2])
      have href := refV_ty vs (c :: r)
      have cx_rf := c_ref (k := c :: r) h hvl hkk.1 (by omega)
      cases hr : refV vs (c :: r) with
      | some x => rw [hr] at href; have := he _ href.symm; cases this
      | none =>
        rw [hr] at href cx_rf
        refine p_enter [(0, _), (1, _)] Tryz.func123 (by kernel_rfl) Tryz.ntmps123 rfl rfl (by repeat' constructor) fun B hB => ?_
        repeat' (first | (refine run (t := tb) 400 rfl ?_ ?_; (focus (repeat' (first | exact trivial | apply And.intro | omega | (simp only [List.length_append, List.length_cons, List.length_nil, Int.toNat_natCast]; omega))))) | (refine k_op rfl ?_; first | refine c_al rfl rfl fun _ => ?_ | refine c_stA rfl rfl rfl rfl rfl rfl ?_ | (refine c_rt rfl rfl rfl cx_rf rfl ?_) | (refine c_rt rfl rfl rfl c_l3Plain rfl ?_)) | (refine k_tt rfl rfl ?_) | (refine k_ff rfl ?_ ?_; (focus ((simp; omega); done))))
        all_goals refine k_rr (vs := [_]) rfl ⟨rfl, trivial⟩ rfl (List.nil_sublist _) ⟨rfl, rfl, ?_⟩
        all_goals (rw [oneOf_one]; unfold standN; rw [if_neg h1, if_neg h2, ← href]; rfl)
  | succ n ih =>
    intro k hn hk he
    have hko := kindIn_ok hk
    have hkk := kindOk_kOk hko
    match k, hkk with
    | c :: r, hkk =>
      have e0 := bt_c0 c r
      by_cases h1 : c.toNat = 91
      · refine p_enter [(0, _), (1, _)] Tryz.func123 (by kernel_rfl) Tryz.ntmps123 rfl rfl (by repeat' constructor) fun B hB => ?_
        repeat' (first | (refine run (t := tb) 400 rfl ?_ ?_; (focus (repeat' (first | exact trivial | apply And.intro | omega | (simp only [List.length_append, List.length_cons, List.length_nil, Int.toNat_natCast]; omega))))) | (refine k_tt rfl ?_ ?_; (focus ((simp [*]; done); done))))
        all_goals refine k_rr (vs := [_]) rfl ⟨rfl, trivial⟩ rfl (List.nil_sublist _) ⟨rfl, rfl, ?_⟩
        all_goals (rw [oneOf_one]; unfold standN; rw [if_pos h1])
      by_cases h2 : c.toNat = 63
      · refine p_enter [(0, _), (1, _)] Tryz.func123 (by kernel_rfl) Tryz.ntmps123 rfl rfl (by repeat' constructor) fun B hB => ?_
        repeat' (first | (refine run (t := tb) 400 rfl ?_ ?_; (focus (repeat' (first | exact trivial | apply And.intro | omega | (simp only [List.length_append, List.length_cons, List.length_nil, Int.toNat_natCast]; omega))))) | (refine k_tt rfl ?_ ?_; (focus ((simp [*]; done); done))) | (refine k_ff rfl ?_ ?_; (focus ((simp [*]; done); done))))
        all_goals refine k_rr (vs := [_]) rfl ⟨rfl, trivial⟩ rfl (List.nil_sublist _) ⟨rfl, rfl, ?_⟩
        all_goals (rw [oneOf_one]; unfold standN; rw [if_neg h1, if_pos h2])
      have href := refV_ty vs (c :: r)
      have cx_rf := c_ref (k := c :: r) h hvl hkk.1 (by omega)
      rcases hr : refV vs (c :: r) with _ | ⟨⟨a, ca⟩, t⟩
      · rw [hr] at href cx_rf
        refine p_enter [(0, _), (1, _)] Tryz.func123 (by kernel_rfl) Tryz.ntmps123 rfl rfl (by repeat' constructor) fun B hB => ?_
        repeat' (first | (refine run (t := tb) 400 rfl ?_ ?_; (focus (repeat' (first | exact trivial | apply And.intro | omega | (simp only [List.length_append, List.length_cons, List.length_nil, Int.toNat_natCast]; omega))))) | (refine k_op rfl ?_; first | refine c_al rfl rfl fun _ => ?_ | refine c_stA rfl rfl rfl rfl rfl rfl ?_ | (refine c_rt rfl rfl rfl cx_rf rfl ?_) | (refine c_rt rfl rfl rfl c_l3Plain rfl ?_)) | (refine k_tt rfl rfl ?_) | (refine k_ff rfl ?_ ?_; (focus ((simp; omega); done))))
        all_goals refine k_rr (vs := [_]) rfl ⟨rfl, trivial⟩ rfl (List.nil_sublist _) ⟨rfl, rfl, ?_⟩
        all_goals (rw [oneOf_one]; unfold standN; rw [if_neg h1, if_neg h2, ← href]; rfl)
      rw [hr] at href cx_rf
      have hrf : refT (tys vs) (c :: r) = some t := href.symm
      have htm := refT_mem hrf
      have hW := hw.ty t htm
      have htg := hw.tag0 htm
      rw [tag0_nth] at htg
      have e3 : standN (tys vs) (n + 1 + 1) (c :: r) = if t.sort = 82 then [123, 125] else if t.sort = 69 then 35 :: decI (tag0 t) else 60 :: (decI (tag0 t) ++ 61 :: (standN (tys vs) (n + 1) (kind0 t) ++ [62])) := by
        rw [standN, if_neg h1, if_neg h2, hrf]
      rw [e3, tag0_nth, kind0_nth]
      clear e3
      by_cases s1 : t.sort = 82
      · rw [if_pos s1]
        refine p_enter [(0, _), (1, _)] Tryz.func123 (by kernel_rfl) Tryz.ntmps123 rfl rfl (by repeat' constructor) fun B hB => ?_
        repeat' (first | (refine run (t := tb) 400 rfl ?_ ?_; (focus (repeat' (first | exact trivial | apply And.intro | omega | (simp only [List.length_append, List.length_cons, List.length_nil, Int.toNat_natCast]; omega))))) | (refine k_op rfl ?_; first | refine c_al rfl rfl fun _ => ?_ | refine c_stA rfl rfl rfl rfl rfl rfl ?_ | refine v_op (g_ld rfl rfl rfl) rfl rfl ?_ | (refine c_rt rfl rfl rfl cx_rf rfl ?_)) | (refine k_tt rfl ?_ ?_; (focus ((simp [*]; done); done))) | (refine k_ff rfl ?_ ?_; (focus ((first | rfl | (simp; omega)); done))))
        all_goals refine k_rr (vs := [_]) rfl ⟨rfl, trivial⟩ rfl (List.nil_sublist _) ⟨rfl, rfl, ?_⟩
        all_goals rfl
      have h0 : 0 < t.fields.length := List.length_pos_iff.2 (hW.ne s1)
      obtain ⟨bf, of, cf, ef, hsf⟩ := (h.fl _ (refV_mem hr)).expl h0
      simp only [slX, Value.slice.injEq] at ef
      obtain ⟨rfl, -, rfl⟩ := ef
      dsimp only at hsf
      have cx_rf : PuG Tryz.prog 78 [u, S (c :: r)] G (· = Tu [Ag [U8 t.sort, S t.name, .slice (some ⟨bf, of, none⟩) t.fields.length ca], Bo true]) := cx_rf
      have hdl := decI_len6 (n := (nth t.fields 0).tag) (by omega)
      rw [if_neg s1]
      by_cases s2 : t.sort = 69
      · rw [if_pos s2]
        refine p_enter [(0, _), (1, _)] Tryz.func123 (by kernel_rfl) Tryz.ntmps123 rfl rfl (by repeat' constructor) fun B hB => ?_
        repeat' (first | (refine run (t := tb) 400 rfl ?_ ?_; (focus (repeat' (first | exact trivial | apply And.intro | omega | (simp only [List.length_append, List.length_cons, List.length_nil, Int.toNat_natCast]; omega))))) | (refine k_op rfl ?_; first | refine c_al rfl rfl fun _ => ?_ | refine c_stA rfl rfl rfl rfl rfl rfl ?_ | refine v_op (g_ld rfl rfl rfl) rfl rfl ?_ | (refine v_op (g_ldRF rfl rfl (by assumption) ?_ rfl rfl) rfl rfl ?_; (focus ((omega); done))) | (refine v_op (g_iaddrN rfl rfl (by omega)) rfl rfl ?_) | (refine c_rt rfl rfl rfl cx_rf rfl ?_) | (refine c_rt rfl rfl rfl (c_l6Dec ?_) rfl ?_; (focus ((simp; omega); done)))) | (refine k_tt rfl (dTt (by omega)) ?_) | (refine k_ff rfl ?_ ?_; (focus ((first | rfl | (refine decide_eq_false ?_; (omega)) | (simp; omega)); done))))
        all_goals refine k_rr (vs := [_]) rfl ⟨rfl, trivial⟩ rfl (List.nil_sublist _) ⟨rfl, rfl, ?_⟩
        all_goals rfl
      have hin := kind_in hw htm s2 (nth_mem h0)
      have hen : ∀ t', refT (tys vs) (nth t.fields 0).kind = some t' → endsN (tys vs) n t' = true := by
        intro t' ht'
        have := he t hrf
        have s3 : t.sort = 85 := by rcases hW.sort with h | h | h <;> omega
        rw [endsN, if_neg (by simp [s3]), kind0_nth, ht'] at this
        exact this
      have cx_std := ih (k := (nth t.fields 0).kind) (by omega) hin hen
      have hsl := standN_len hw (n + 1) (nth t.fields 0).kind
      rw [if_neg s2]
      refine p_enter [(0, _), (1, _)] Tryz.func123 (by kernel_rfl) Tryz.ntmps123 rfl rfl (by repeat' constructor) fun B hB => ?_
      repeat' (first | (refine run (t := tb) 400 rfl ?_ ?_; (focus (repeat' (first | exact trivial | apply And.intro | omega | (simp only [List.length_append, List.length_cons, List.length_nil, Int.toNat_natCast]; omega))))) | (refine k_op rfl ?_; first | refine c_al rfl rfl fun _ => ?_ | refine c_stA rfl rfl rfl rfl rfl rfl ?_ | refine v_op (g_ld rfl rfl rfl) rfl rfl ?_ | (refine c_rt rfl rfl rfl cx_rf rfl ?_)) | (refine k_ff rfl ?_ ?_; (focus ((first | rfl | (refine decide_eq_false ?_; (omega)) | (simp; omega)); done))) | (refine k_any (s_any (id := 13) _ (fun _ h => h) mixed ?_); refine x_tks (t := tb) (fuel := 15) [0, 8, 9] (bts 18 769) (by kernel_rfl) (by kernel_rfl) rfl rfl (Gh.le.refl _) sRr trivial ?_; ((refine (x_tkg (bts 18 771) 1 rfl (by kernel_rfl) rfl (Gh.le.refl _) sRr) (g_ld rfl rfl rfl) rfl rfl ?_)); ((refine (x_tkg (bts 18 775) 2 rfl (by kernel_rfl) rfl (Gh.le.refl _) sRr) (g_iaddrN rfl rfl (by omega)) rfl rfl ?_)); refine x_tks (t := tb) (fuel := 12) [3] (bts 18 783) (by kernel_rfl) (by kernel_rfl) rfl rfl (Gh.le.refl _) sRr trivial ?_; ((refine (x_tkg (bts 18 799) 4 rfl (by kernel_rfl) rfl (Gh.le.refl _) sRr) (g_ldRF rfl rfl (by assumption) ?_ rfl rfl) rfl rfl ?_; (focus ((omega); done)))); ((refine (x_tkg (bts 18 1823) 10 rfl (by kernel_rfl) rfl (Gh.le.refl _) sRr) (g_ld rfl rfl rfl) rfl rfl ?_)); ((refine (x_tkg (bts 18 3871) 11 rfl (by kernel_rfl) rfl (Gh.le.refl _) sRr) (g_iaddrN rfl rfl (by omega)) rfl rfl ?_)); refine x_tks (t := tb) (fuel := 8) [12] (bts 18 7967) (by kernel_rfl) (by kernel_rfl) rfl rfl (Gh.le.refl _) sRr trivial ?_; ((refine (x_tkg (bts 18 16159) 13 rfl (by kernel_rfl) rfl (Gh.le.refl _) sRr) (g_ldRF rfl rfl (by assumption) ?_ rfl rfl) rfl rfl ?_; (focus ((omega); done)))); refine x_all [5] (by kernel_rfl) (by decide) ⟨?_, trivial⟩; refine x_opg rfl rfl ?_; ((refine c_rt rfl rfl rfl (c_l6Dec ?_) rfl ?_; (focus ((simp; omega); done)))); refine x_ks gRr sRr (listed' := (bts 18 16191)) (by kernel_rfl) ?_; refine x_tks (t := tb) (fuel := 4) [6, 7] (bts 18 16383) (by kernel_rfl) (by kernel_rfl) rfl rfl (Gh.le.refl _) sRr ?_ ?_; (focus (repeat' (first | exact trivial | apply And.intro | (simp only [List.length_append, List.length_cons, List.length_nil, Int.toNat_natCast]; omega)))); refine x_all [14] (by kernel_rfl) (by decide) ⟨?_, trivial⟩; refine x_opg rfl rfl ?_; (refine c_rt rfl rfl rfl cx_std rfl ?_); refine x_ks gRr sRr (listed' := (bts 18 32767)) (by kernel_rfl) ?_; refine x_tks (t := tb) (fuel := 0) [15, 16, 17] (bts 18 262143) (by kernel_rfl) (by kernel_rfl) rfl rfl (Gh.le.refl _) sRr ?_ ?_; (focus (repeat' (first | exact trivial | apply And.intro | (simp only [List.length_append, List.length_cons, List.length_nil, Int.toNat_natCast]; omega)))); refine x_done (by kernel_rfl) (k_bk ?_)))
      all_goals refine k_rr (vs := [_]) rfl ⟨rfl, trivial⟩ rfl (List.nil_sublist _) ⟨rfl, rfl, ?_⟩
      all_goals (rw [oneOf_one]; simp)
theorem c_standKS {u : Value} {vs : List TyX} (h : SchR G u vs) (hw : SchW (tys vs)) {k : List UInt8} (hk : kindIn (tys vs) k = true) : PuG Tryz.prog 123 [u, S k] G (· = S (standK (tys vs) k)) :=
  c_standsS h hw ((tys vs).length + 1) (by have := hw.len; omega) hk (fun t ht => ends_of hw t ht)
end Go.E
namespace Go.E
set_option maxRecDepth 20000
set_option maxHeartbeats 2000000
open Go.Proofs
variable {G : Gh}
theorem sg_cons {c : UInt8} {r : List UInt8} (h : c.toNat = 91 ∨ c.toNat = 63) : sg (c :: r) = c :: sg r := by
  unfold sg
  rw [core, if_pos h]
  have := core_len' r
  rw [List.length_cons, show r.length + 1 - (core r).length = (r.length - (core r).length) + 1 by omega]
  rfl
theorem sg_none {c : UInt8} {r : List UInt8} (h : ¬ (c.toNat = 91 ∨ c.toNat = 63)) : sg (c :: r) = [] := by
  unfold sg; rw [core_self h]; simp
theorem c_sign0 {b c : List UInt8} : PuG Tryz.prog 90 [Ag [S [], S b, S c]] G (· = U8 (0 : Nat)) := by
  refine p_enter [(0, _)] Tryz.func90 (by kernel_rfl) Tryz.ntmps90 rfl rfl (by repeat' constructor) fun B hB => ?_
  repeat' (first | (refine run (t := tb) 400 rfl trivial ?_) | (refine k_op rfl ?_; first | refine c_bx rfl rfl rfl fun _ => ?_ | refine v_op (g_ld rfl rfl rfl) rfl rfl ?_) | (refine k_tt rfl rfl ?_))
  all_goals refine k_rr (vs := [_]) rfl ⟨rfl, trivial⟩ rfl (List.nil_sublist _) ⟨rfl, rfl, ?_⟩
  all_goals rfl
theorem c_sign1 {x : UInt8} {a b c : List UInt8} : PuG Tryz.prog 90 [Ag [S (x :: a), S b, S c]] G (· = U8 (x.toNat : Nat)) := by
  have e0 := bt_c0 x a
  refine p_enter [(0, _)] Tryz.func90 (by kernel_rfl) Tryz.ntmps90 rfl rfl (by repeat' constructor) fun B hB => ?_
  repeat' (first | (refine run (t := tb) 400 rfl ?_ ?_; (focus (repeat' (first | exact trivial | apply And.intro | omega | (simp only [List.length_append, List.length_cons, List.length_nil, Int.toNat_natCast]; omega))))) | (refine k_op rfl ?_; first | refine c_bx rfl rfl rfl fun _ => ?_ | refine v_op (g_ld rfl rfl rfl) rfl rfl ?_) | (refine k_ff rfl rfl ?_))
  all_goals refine k_rr (vs := [_]) rfl ⟨rfl, trivial⟩ rfl (List.nil_sublist _) ⟨rfl, rfl, ?_⟩
  all_goals (rw [oneOf_one]; (rfl))
theorem bs_plain {k : List UInt8} (hk : kindOk k = true) (hr : refN (core k) = none) : bs k = [110] ∨ bs k = [116] ∨ bs k = [102] := by
  have h := core_kOk (kindOk_kOk hk).1
  unfold bs
  cases hc : core k with
  | nil => rw [hc] at h; cases h
  | cons c r =>
    rw [hc] at h hr
    have h64 : ¬ c.toNat = 64 := by
      intro h64
      simp [refN, h64] at hr
    have h91 : ¬ (c.toNat = 91 ∨ c.toNat = 63) := core_head hc
    have e : bsT (c :: r) = c :: r := by simp [bsT, h64]
    rw [e]
    rw [kOk, if_neg h91, if_neg h64] at h
    simp only [Bool.and_eq_true, Bool.or_eq_true, decide_eq_true_eq] at h
    obtain ⟨rfl, h⟩ := h
    have hu : ∀ n : Nat, c.toNat = n → n < 256 → c = UInt8.ofNat n := fun n h1 h2 => by
      apply UInt8.toNat_inj.1; rw [h1, UInt8.toNat_ofNat']; omega
    rcases h with (h | h) | h
    · exact .inl (by rw [hu _ h (by decide)]; rfl)
    · exact .inr (.inl (by rw [hu _ h (by decide)]; rfl))
    · exact .inr (.inr (by rw [hu _ h (by decide)]; rfl))
theorem ScI.W {b : Nat} {qs : List TyP} (_ : ScI G b qs) (hw : SchW (tyq qs)) {q : TyP} (hq : q ∈ qs) : q.2 ∈ tyq qs ∧ TyW q.2 := by
  have h1 : q.2 ∈ tyq qs := List.mem_map_of_mem hq
  exact ⟨h1, hw.ty _ h1⟩
theorem plain_bs {k : List UInt8} (hs : sg k = []) (hk : kindOk k = true) (hr : refN (core k) = none) : plainOf k = plainOf (bs k) := by
  match k, hk with
  | c :: r, hk =>
    have h91 : ¬ (c.toNat = 91 ∨ c.toNat = 63) := fun h => by rw [sg_cons h] at hs; cases hs
    have hc := core_self (r := r) h91
    have h64 : ¬ c.toNat = 64 := fun h64 => by rw [hc] at hr; simp [refN, h64] at hr
    unfold bs; rw [hc]; simp [bsT, h64]
theorem c_standsI {b : Nat} {qs : List TyP} (h : ScI G b qs) (hw : SchW (tyq qs)) : ∀ (n : Nat) {k : List UInt8}, n ≤ 1000 → kindIn (tyq qs) k = true → (∀ t, refT (tyq qs) k = some t → endsN (tyq qs) n t = true) →
    PuG Tryz.prog 136 [Pt b 0, Ag [S (sg k), S (bs k), S (nm k)]] G (· = S (standN (tyq qs) (n + 1) k)) := by
  obtain ⟨u, m, g1, g2, g3⟩ := h.at'
  intro n
  induction n with
  | zero =>
    intro k hn hk he
    have hko := kindIn_ok hk
    match k, hko with
    | c :: r, hko =>
      by_cases h91 : c.toNat = 91 ∨ c.toNat = 63
      · have cx_sign := @c_sign1 G c (sg r) (bs (c :: r)) (nm (c :: r))
        rw [sg_cons h91]
        by_cases h1 : c.toNat = 91
        · refine p_enter [(0, _), (1, _)] Tryz.func136 (by kernel_rfl) Tryz.ntmps136 rfl rfl (by repeat' constructor) fun B hB => ?_
          repeat' (first | (refine run (t := tb) 400 rfl trivial ?_) | (refine k_op rfl ?_; first | refine c_bx rfl rfl rfl fun _ => ?_ | refine v_op (g_ldA rfl rfl rfl rfl) rfl rfl ?_ | (refine c_rt rfl rfl rfl cx_sign rfl ?_)) | (refine k_tt rfl (dTt (by omega)) ?_))
          all_goals refine k_rr (vs := [_]) rfl ⟨rfl, trivial⟩ rfl (List.nil_sublist _) ⟨rfl, rfl, ?_⟩
          all_goals (rw [oneOf_one]; unfold standN; rw [if_pos h1])
        have h2 : c.toNat = 63 := by omega
        refine p_enter [(0, _), (1, _)] Tryz.func136 (by kernel_rfl) Tryz.ntmps136 rfl rfl (by repeat' constructor) fun B hB => ?_
        repeat' (first | (refine run (t := tb) 400 rfl trivial ?_) | (refine k_op rfl ?_; first | refine c_bx rfl rfl rfl fun _ => ?_ | refine v_op (g_ldA rfl rfl rfl rfl) rfl rfl ?_ | (refine c_rt rfl rfl rfl cx_sign rfl ?_)) | (refine k_tt rfl (dTt (by omega)) ?_) | (refine k_ff rfl (dFf (by omega)) ?_))
        all_goals refine k_rr (vs := [_]) rfl ⟨rfl, trivial⟩ rfl (List.nil_sublist _) ⟨rfl, rfl, ?_⟩
        all_goals (rw [oneOf_one]; unfold standN; rw [if_neg h1, if_pos h2])
      have hsg := sg_none (r := r) h91
      have hcs := core_self (r := r) h91
      rw [hsg]
      cases hrf : refT (tyq qs) (c :: r) with
      | some t => have := he t hrf; cases this
      | none =>
        have hrn : refN (core (c :: r)) = none := by
          cases hx : refN (core (c :: r)) with
          | none => rfl
          | some x =>
            obtain ⟨t, ht⟩ := kind_refT hk (by rw [hx]; rfl)
            rw [hcs, hrf] at ht; cases ht
        have hpl := plain_bs hsg hko hrn
        have e3 : standN (tyq qs) (0 + 1) (c :: r) = plainOf (bs (c :: r)) := by
          rw [standN, if_neg (by omega), if_neg (by omega), hrf]; exact hpl
        rw [e3]
        rcases bs_plain hko hrn with e | e | e
        all_goals
          rw [e]
          refine p_enter [(0, _), (1, _)] Tryz.func136 (by kernel_rfl) Tryz.ntmps136 rfl rfl (by repeat' constructor) fun B hB => ?_
          repeat' (first | (refine run (t := tb) 400 rfl trivial ?_) | (refine k_op rfl ?_; first | refine c_bx rfl rfl rfl fun _ => ?_ | refine v_op (g_ld rfl rfl rfl) rfl rfl ?_ | refine v_op (g_ldA rfl rfl rfl rfl) rfl rfl ?_ | (refine c_rt rfl rfl rfl c_sign0 rfl ?_)) | (refine k_tt rfl rfl ?_) | (refine k_ff rfl rfl ?_))
          all_goals refine k_rr (vs := [_]) rfl ⟨rfl, trivial⟩ rfl (List.nil_sublist _) ⟨rfl, rfl, ?_⟩
          all_goals rfl
  | succ n ih =>
    intro k hn hk he
    have hko := kindIn_ok hk
    match k, hko with
    | c :: r, hko =>
      by_cases h91 : c.toNat = 91 ∨ c.toNat = 63
      · have cx_sign := @c_sign1 G c (sg r) (bs (c :: r)) (nm (c :: r))
        rw [sg_cons h91]
        by_cases h1 : c.toNat = 91
        · refine p_enter [(0, _), (1, _)] Tryz.func136 (by kernel_rfl) Tryz.ntmps136 rfl rfl (by repeat' constructor) fun B hB => ?_
          repeat' (first | (refine run (t := tb) 400 rfl trivial ?_) | (refine k_op rfl ?_; first | refine c_bx rfl rfl rfl fun _ => ?_ | refine v_op (g_ldA rfl rfl rfl rfl) rfl rfl ?_ | (refine c_rt rfl rfl rfl cx_sign rfl ?_)) | (refine k_tt rfl (dTt (by omega)) ?_))
          all_goals refine k_rr (vs := [_]) rfl ⟨rfl, trivial⟩ rfl (List.nil_sublist _) ⟨rfl, rfl, ?_⟩
          all_goals (rw [oneOf_one]; unfold standN; rw [if_pos h1])
        have h2 : c.toNat = 63 := by omega
        refine p_enter [(0, _), (1, _)] Tryz.func136 (by kernel_rfl) Tryz.ntmps136 rfl rfl (by repeat' constructor) fun B hB => ?_
        repeat' (first | (refine run (t := tb) 400 rfl trivial ?_) | (refine k_op rfl ?_; first | refine c_bx rfl rfl rfl fun _ => ?_ | refine v_op (g_ldA rfl rfl rfl rfl) rfl rfl ?_ | (refine c_rt rfl rfl rfl cx_sign rfl ?_)) | (refine k_tt rfl (dTt (by omega)) ?_) | (refine k_ff rfl (dFf (by omega)) ?_))
        all_goals refine k_rr (vs := [_]) rfl ⟨rfl, trivial⟩ rfl (List.nil_sublist _) ⟨rfl, rfl, ?_⟩
        all_goals (rw [oneOf_one]; unfold standN; rw [if_neg h1, if_pos h2])
      have hsg := sg_none (r := r) h91
      have hcs := core_self (r := r) h91
      rw [hsg]
      cases hrf : refT (tyq qs) (c :: r) with
      | none =>
        have hrn : refN (core (c :: r)) = none := by
          cases hx : refN (core (c :: r)) with
          | none => rfl
          | some x =>
            obtain ⟨t, ht⟩ := kind_refT hk (by rw [hx]; rfl)
            rw [hcs, hrf] at ht; cases ht
        have hpl := plain_bs hsg hko hrn
        have e3 : standN (tyq qs) (n + 1 + 1) (c :: r) = plainOf (bs (c :: r)) := by
          rw [standN, if_neg (by omega), if_neg (by omega), hrf]; exact hpl
        rw [e3]
        rcases bs_plain hko hrn with e | e | e
        all_goals
          rw [e]
          refine p_enter [(0, _), (1, _)] Tryz.func136 (by kernel_rfl) Tryz.ntmps136 rfl rfl (by repeat' constructor) fun B hB => ?_
          repeat' (first | (refine run (t := tb) 400 rfl trivial ?_) | (refine k_op rfl ?_; first | refine c_bx rfl rfl rfl fun _ => ?_ | refine v_op (g_ld rfl rfl rfl) rfl rfl ?_ | refine v_op (g_ldA rfl rfl rfl rfl) rfl rfl ?_ | (refine c_rt rfl rfl rfl c_sign0 rfl ?_)) | (refine k_tt rfl rfl ?_) | (refine k_ff rfl rfl ?_))
          all_goals refine k_rr (vs := [_]) rfl ⟨rfl, trivial⟩ rfl (List.nil_sublist _) ⟨rfl, rfl, ?_⟩
          all_goals rfl
      | some t =>
        have hrn : (refN (core (c :: r))).isSome = true := by
          rw [hcs]; unfold refT at hrf
          cases hx : refN (c :: r) with
          | none => rw [hx] at hrf; cases hrf
          | some x => rfl
        have hbs : bs (c :: r) = [64] := (bs_at hko).2 hrn
        have hnm : refN (c :: r) = some (nm (c :: r)) := by
          unfold nm; rw [hcs] at hrn ⊢
          cases hx : refN (c :: r) with
          | none => rw [hx] at hrn; cases hrn
          | some x => rfl
        have hft : findT (tyq qs) (nm (c :: r)) = some t := by unfold refT at hrf; rw [hnm] at hrf; exact hrf
        have hkv := kvF_find qs (nm (c :: r))
        rw [← findQ_ty] at hft
        rcases hfq : findQ qs (nm (c :: r)) with _ | ⟨p, t'⟩
        · rw [hfq] at hft; cases hft
        rw [hfq] at hft hkv
        dsimp only [Option.map_some] at hft hkv
        have htt : t' = t := Option.some.inj hft
        subst htt
        have hqm := findQ_mem hfq
        have htm := refT_mem hrf
        have hW := hw.ty t' htm
        have htg := hw.tag0 htm
        rw [tag0_nth] at htg
        obtain ⟨fv, ln, hsg2, hfv⟩ := h.ty _ hqm
        dsimp only at hsg2 hfv
        have e3 : standN (tyq qs) (n + 1 + 1) (c :: r) = if t'.sort = 82 then [123, 125] else if t'.sort = 69 then 35 :: decI (tag0 t') else 60 :: (decI (tag0 t') ++ 61 :: (standN (tyq qs) (n + 1) (kind0 t') ++ [62])) := by
          rw [standN, if_neg (by omega), if_neg (by omega), hrf]
        rw [e3, tag0_nth, kind0_nth, hbs]
        clear e3 hcs hsg hrn hnm hbs
        by_cases s1 : t'.sort = 82
        · rw [if_pos s1]
          refine p_enter [(0, _), (1, _)] Tryz.func136 (by kernel_rfl) Tryz.ntmps136 rfl rfl (by repeat' constructor) fun B hB => ?_
          repeat' (first | (refine run (t := tb) 400 rfl trivial ?_) | (refine k_op rfl ?_; first | refine c_bx rfl rfl rfl fun _ => ?_ | refine v_op (g_ld rfl rfl rfl) rfl rfl ?_ | refine v_op (g_ldA rfl rfl rfl rfl) rfl rfl ?_ | refine v_op (g_ldS rfl rfl (by assumption) rfl rfl) rfl rfl ?_ | (refine c_rt rfl rfl rfl c_sign0 rfl ?_)) | (refine k_tt rfl (dTt (by omega)) ?_) | (refine k_ff rfl rfl ?_) | (refine k_any (s_any (id := 13) _ (fun _ h => h) mixed ?_); refine x_tks (t := tb) (fuel := 4) [0, 1, 2, 4] (bts 8 23) (by kernel_rfl) (by kernel_rfl) rfl rfl (Gh.le.refl _) sRr trivial ?_; ((refine (x_tkg (bts 8 31) 3 rfl (by kernel_rfl) rfl (Gh.le.refl _) sRr) (g_ldS rfl rfl (by assumption) rfl rfl) rfl rfl ?_)); ((refine (x_tkg (bts 8 63) 5 rfl (by kernel_rfl) rfl (Gh.le.refl _) sRr) (g_ld rfl rfl rfl) rfl rfl ?_)); ((refine (x_tkg (bts 8 127) 6 rfl (by kernel_rfl) rfl (Gh.le.refl _) sRr) (g_lookupX rfl rfl (map_G (by assumption)) (by assumption) rfl) rfl rfl ?_)); refine x_tks (t := tb) (fuel := 0) [7] (bts 8 255) (by kernel_rfl) (by kernel_rfl) rfl rfl (Gh.le.refl _) sRr trivial ?_; refine x_done (by kernel_rfl) (k_bk ?_)))
          all_goals refine k_rr (vs := [_]) rfl ⟨rfl, trivial⟩ rfl (List.nil_sublist _) ⟨rfl, rfl, ?_⟩
          all_goals rfl
        have h0 : 0 < t'.fields.length := List.length_pos_iff.2 (hW.ne s1)
        obtain ⟨bf, of, cf, rfl, hsf⟩ := hfv.expl h0
        have hdl := decI_len6 (n := (nth t'.fields 0).tag) (by omega)
        rw [if_neg s1]
        by_cases s2 : t'.sort = 69
        · rw [if_pos s2]
          refine p_enter [(0, _), (1, _)] Tryz.func136 (by kernel_rfl) Tryz.ntmps136 rfl rfl (by repeat' constructor) fun B hB => ?_
          repeat' (first | (refine run (t := tb) 400 rfl ?_ ?_; (focus (repeat' (first | exact trivial | apply And.intro | (simp only [List.length_append, List.length_cons, List.length_nil, Int.toNat_natCast]; omega))))) | (refine k_op rfl ?_; first | refine c_bx rfl rfl rfl fun _ => ?_ | refine v_op (g_ld rfl rfl rfl) rfl rfl ?_ | (refine v_op (g_ldRF rfl rfl (by assumption) ?_ rfl rfl) rfl rfl ?_; (focus ((omega); done))) | refine v_op (g_ldA rfl rfl rfl rfl) rfl rfl ?_ | refine v_op (g_ldS rfl rfl (by assumption) rfl rfl) rfl rfl ?_ | (refine v_op (g_iaddrN rfl rfl (by omega)) rfl rfl ?_) | (refine c_rt rfl rfl rfl c_sign0 rfl ?_) | (refine c_rt rfl rfl rfl (c_decimalN ?_) rfl ?_; (focus ((simp; omega); done)))) | (refine k_tt rfl (dTt (by omega)) ?_) | (refine k_ff rfl (by first | rfl | (refine decide_eq_false ?_; (omega))) ?_) | (refine k_any (s_any (id := 13) _ (fun _ h => h) mixed ?_); refine x_tks (t := tb) (fuel := 4) [0, 1, 2, 4] (bts 8 23) (by kernel_rfl) (by kernel_rfl) rfl rfl (Gh.le.refl _) sRr trivial ?_; ((refine (x_tkg (bts 8 31) 3 rfl (by kernel_rfl) rfl (Gh.le.refl _) sRr) (g_ldS rfl rfl (by assumption) rfl rfl) rfl rfl ?_)); ((refine (x_tkg (bts 8 63) 5 rfl (by kernel_rfl) rfl (Gh.le.refl _) sRr) (g_ld rfl rfl rfl) rfl rfl ?_)); ((refine (x_tkg (bts 8 127) 6 rfl (by kernel_rfl) rfl (Gh.le.refl _) sRr) (g_lookupX rfl rfl (map_G (by assumption)) (by assumption) rfl) rfl rfl ?_)); refine x_tks (t := tb) (fuel := 0) [7] (bts 8 255) (by kernel_rfl) (by kernel_rfl) rfl rfl (Gh.le.refl _) sRr trivial ?_; refine x_done (by kernel_rfl) (k_bk ?_)))
          all_goals refine k_rr (vs := [_]) rfl ⟨rfl, trivial⟩ rfl (List.nil_sublist _) ⟨rfl, rfl, ?_⟩
          all_goals rfl
        have hin := kind_in hw htm s2 (nth_mem h0)
        have hen : ∀ t2, refT (tyq qs) (nth t'.fields 0).kind = some t2 → endsN (tyq qs) n t2 = true := by
          intro t2 ht2
          have := he t' hrf
          have s3 : t'.sort = 85 := by rcases hW.sort with h | h | h <;> omega
          rw [endsN, if_neg (by simp [s3]), kind0_nth, ht2] at this
          exact this
        have cx_std := ih (k := (nth t'.fields 0).kind) (by omega) hin hen
        have hsl := standN_len hw (n + 1) (nth t'.fields 0).kind
        rw [if_neg s2]
        refine p_enter [(0, _), (1, _)] Tryz.func136 (by kernel_rfl) Tryz.ntmps136 rfl rfl (by repeat' constructor) fun B hB => ?_
        repeat' (first | (refine run (t := tb) 400 rfl trivial ?_) | (refine k_op rfl ?_; first | refine c_bx rfl rfl rfl fun _ => ?_ | refine v_op (g_ld rfl rfl rfl) rfl rfl ?_ | refine v_op (g_ldA rfl rfl rfl rfl) rfl rfl ?_ | refine v_op (g_ldS rfl rfl (by assumption) rfl rfl) rfl rfl ?_ | (refine c_rt rfl rfl rfl c_sign0 rfl ?_)) | (refine k_ff rfl (by first | rfl | (refine decide_eq_false ?_; (omega))) ?_) | (refine k_any (s_any (id := 13) _ (fun _ h => h) mixed ?_); refine x_tks (t := tb) (fuel := 4) [0, 1, 2, 4] (bts 8 23) (by kernel_rfl) (by kernel_rfl) rfl rfl (Gh.le.refl _) sRr trivial ?_; ((refine (x_tkg (bts 8 31) 3 rfl (by kernel_rfl) rfl (Gh.le.refl _) sRr) (g_ldS rfl rfl (by assumption) rfl rfl) rfl rfl ?_)); ((refine (x_tkg (bts 8 63) 5 rfl (by kernel_rfl) rfl (Gh.le.refl _) sRr) (g_ld rfl rfl rfl) rfl rfl ?_)); ((refine (x_tkg (bts 8 127) 6 rfl (by kernel_rfl) rfl (Gh.le.refl _) sRr) (g_lookupX rfl rfl (map_G (by assumption)) (by assumption) rfl) rfl rfl ?_)); refine x_tks (t := tb) (fuel := 0) [7] (bts 8 255) (by kernel_rfl) (by kernel_rfl) rfl rfl (Gh.le.refl _) sRr trivial ?_; refine x_done (by kernel_rfl) (k_bk ?_)) | (refine k_any (s_any (id := 19) _ (fun _ h => h) mixed ?_); refine x_tks (t := tb) (fuel := 15) [0, 1, 2, 10, 11, 12, 13] (bts 22 15367) (by kernel_rfl) (by kernel_rfl) rfl rfl (Gh.le.refl _) sRr trivial ?_; ((refine (x_tkg (bts 22 15375) 3 rfl (by kernel_rfl) rfl (Gh.le.refl _) sRr) (g_ldS rfl rfl (by assumption) rfl rfl) rfl rfl ?_)); ((refine (x_tkg (bts 22 15391) 4 rfl (by kernel_rfl) rfl (Gh.le.refl _) sRr) (g_iaddrN rfl rfl (by omega)) rfl rfl ?_)); refine x_tks (t := tb) (fuel := 12) [5] (bts 22 15423) (by kernel_rfl) (by kernel_rfl) rfl rfl (Gh.le.refl _) sRr trivial ?_; ((refine (x_tkg (bts 22 15487) 6 rfl (by kernel_rfl) rfl (Gh.le.refl _) sRr) (g_ldRF rfl rfl (by assumption) ?_ rfl rfl) rfl rfl ?_; (focus ((omega); done)))); ((refine (x_tkg (bts 22 31871) 14 rfl (by kernel_rfl) rfl (Gh.le.refl _) sRr) (g_ldS rfl rfl (by assumption) rfl rfl) rfl rfl ?_)); ((refine (x_tkg (bts 22 64639) 15 rfl (by kernel_rfl) rfl (Gh.le.refl _) sRr) (g_iaddrN rfl rfl (by omega)) rfl rfl ?_)); refine x_tks (t := tb) (fuel := 8) [16] (bts 22 130175) (by kernel_rfl) (by kernel_rfl) rfl rfl (Gh.le.refl _) sRr trivial ?_; ((refine (x_tkg (bts 22 261247) 17 rfl (by kernel_rfl) rfl (Gh.le.refl _) sRr) (g_ldRA rfl rfl (by assumption) ?_ rfl rfl) rfl rfl ?_; (focus ((omega); done)))); refine x_all [7] (by kernel_rfl) (by decide) ⟨?_, trivial⟩; refine x_opg rfl rfl ?_; ((refine c_rt rfl rfl rfl (c_decimalN ?_) rfl ?_; (focus ((simp; omega); done)))); refine x_ks gRr sRr (listed' := (bts 22 261375)) (by kernel_rfl) ?_; refine x_tks (t := tb) (fuel := 4) [8, 9] (bts 22 262143) (by kernel_rfl) (by kernel_rfl) rfl rfl (Gh.le.refl _) sRr ?_ ?_; (focus (repeat' (first | exact trivial | apply And.intro | (simp only [List.length_append, List.length_cons, List.length_nil, Int.toNat_natCast]; omega)))); refine x_all [18] (by kernel_rfl) (by decide) ⟨?_, trivial⟩; refine x_opg rfl rfl ?_; (refine c_rt rfl rfl rfl cx_std rfl ?_); refine x_ks gRr sRr (listed' := (bts 22 524287)) (by kernel_rfl) ?_; refine x_tks (t := tb) (fuel := 0) [19, 20, 21] (bts 22 4194303) (by kernel_rfl) (by kernel_rfl) rfl rfl (Gh.le.refl _) sRr ?_ ?_; (focus (repeat' (first | exact trivial | apply And.intro | (simp only [List.length_append, List.length_cons, List.length_nil, Int.toNat_natCast]; omega)))); refine x_done (by kernel_rfl) (k_bk ?_)))
        all_goals refine k_rr (vs := [_]) rfl ⟨rfl, trivial⟩ rfl (List.nil_sublist _) ⟨rfl, rfl, ?_⟩
        all_goals (rw [oneOf_one]; simp)
theorem c_standKI {b : Nat} {qs : List TyP} (h : ScI G b qs) (hw : SchW (tyq qs)) {k : List UInt8} (hk : kindIn (tyq qs) k = true) : PuG Tryz.prog 136 [Pt b 0, Ag [S (sg k), S (bs k), S (nm k)]] G (· = S (standK (tyq qs) k)) :=
  c_standsI h hw ((tyq qs).length + 1) (by have := hw.len; omega) hk (fun t ht => ends_of hw t ht)
end Go.E
namespace Go.E
set_option maxRecDepth 20000
set_option maxHeartbeats 2000000
open Go.Proofs
variable {G : Gh}
theorem find_at {α : Type} [Inhabited α] {p : α → Bool} : ∀ {l : List α} {i : Nat}, i < l.length → (∀ k, k < i → p (nth l k) = false) → p (nth l i) = true → l.find? p = some (nth l i)
  | [], i, hi, _, _ => by simp at hi
  | a :: l, 0, _, _, h => by
    have h : p a = true := h
    rw [List.find?_cons, h]; rfl
  | a :: l, i + 1, hi, hno, h => by
    have h0 : p a = false := hno 0 (by omega)
    rw [List.find?_cons, h0]
    exact find_at (l := l) (i := i) (by simpa using hi) (fun k hk => hno (k + 1) (by omega)) h
theorem find_no {α : Type} [Inhabited α] {p : α → Bool} {l : List α} (hno : ∀ k, k < l.length → p (nth l k) = false) : l.find? p = none := by
  rw [List.find?_eq_none]
  intro x hx
  obtain ⟨i, hi, rfl⟩ := List.mem_iff_getElem.1 hx
  have := hno i hi
  rw [nth_eq hi] at this
  simp [this]
theorem fldT_at {fs : List Fld} {tag : Int} {i : Nat} (hi : i < fs.length) (hno : ∀ k, k < i → (nth fs k).tag ≠ tag) (h : (nth fs i).tag = tag) : fldT fs tag = some (nth fs i) :=
  find_at hi (fun k hk => by simpa using hno k hk) (by simpa using h)
theorem fldT_no {fs : List Fld} {tag : Int} (hno : ∀ k, k < fs.length → (nth fs k).tag ≠ tag) : fldT fs tag = none := find_no fun k hk => by simpa using hno k hk
theorem fldT_some {fs : List Fld} {tag : Int} {f : Fld} (h : fldT fs tag = some f) : ∃ i, i < fs.length ∧ (∀ k, k < i → (nth fs k).tag ≠ tag) ∧ (nth fs i).tag = tag ∧ nth fs i = f := by
  have hex : ∃ i, i < fs.length ∧ (nth fs i).tag = tag := by
    have hm := List.mem_of_find?_eq_some h
    have ht := List.find?_some h
    obtain ⟨i, hi, rfl⟩ := List.mem_iff_getElem.1 hm
    exact ⟨i, hi, by rw [nth_eq hi]; simpa using ht⟩
  obtain ⟨i, hi, ht⟩ := hex
  induction i using Nat.strongRecOn with
  | _ i ih =>
    by_cases hc : ∃ k, k < i ∧ (nth fs k).tag = tag
    · obtain ⟨k, hk, hkt⟩ := hc
      exact ih k hk (by omega) hkt
    · have hno : ∀ k, k < i → (nth fs k).tag ≠ tag := fun k hk e => hc ⟨k, hk, e⟩
      refine ⟨i, hi, hno, ht, ?_⟩
      rw [fldT_at hi hno ht] at h
      exact Option.some.inj h
abbrev zF : Fld := ⟨0, [], [], []⟩
abbrev tFldS : TypeId := 107
abbrev tTyS : TypeId := 86
theorem c_fieldS {x : TyX} {tag : Int} (hf : SlV G (slX x) 4 x.2.fields.length (rows fldF x.2.fields)) (hl : x.2.fields.length ≤ 1000) :
    PuG Tryz.prog 104 [Ag [U8 x.2.sort, S x.2.name, slX x], I tag] G (· = Tu [Ag (fldF ((fldT x.2.fields tag).getD zF)), Bo (fldT x.2.fields tag).isSome]) := by
  obtain ⟨⟨a, ca⟩, t⟩ := x
  simp only [slX] at hf ⊢
  dsimp only at hl
  refine p_enter [(0, _), (1, _)] Tryz.func104 (by kernel_rfl) Tryz.ntmps104 rfl rfl (by repeat' constructor) fun B hB => ?_
  repeat' (first | (refine run (t := tb) 400 rfl trivial ?_) | (refine k_op rfl ?_; first | refine c_bx rfl rfl rfl fun _ => ?_ | refine c_al rfl rfl fun _ => ?_))
  rename_i y z
  refine k_loop (ι := Nat) (fun i => i ≤ t.fields.length ∧ ∀ k, k < i → (nth t.fields k).tag ≠ tag) (fun i => [(1, I tag), (2, Pt y 0), (4, Pt z 0), (6, I i)]) (fun _ => G) (fun i => [.blk z (.cells [I 0, S [], S [], S []].toArray tFldS (0, 0)), .blk y (.cells [U8 t.sort, S t.name, .slice a t.fields.length ca].toArray tTyS (0, 0))]) (fun i => t.fields.length - i) 0 ?_ (by repeat' constructor) rfl sRr (fun i Hi => ?_)
  · exact ⟨Nat.zero_le _, fun k hk => absurd hk (by omega)⟩
  by_cases hi : i < t.fields.length
  · obtain ⟨bf, of, cf, e, hs⟩ := hf.expl (by omega)
    simp only [Value.slice.injEq] at e
    obtain ⟨rfl, -, rfl⟩ := e
    repeat' (first | (refine run (t := tb) 400 rfl ?_ ?_; (focus (repeat' (first | exact trivial | apply And.intro | omega)))) | (refine k_op rfl ?_; first | refine v_op (g_ld rfl rfl rfl) rfl rfl ?_ | (refine v_op (g_ldR rfl rfl (by assumption) ?_) rfl rfl ?_; (focus ((omega); done))) | (refine v_op (g_ldRF rfl rfl (by assumption) ?_ rfl rfl) rfl rfl ?_; (focus ((omega); done))) | refine v_op (g_lenL rfl) rfl rfl ?_ | (refine v_op (g_iaddrN rfl rfl (by omega)) rfl rfl ?_) | refine c_stA rfl rfl rfl rfl rfl rfl ?_) | (refine k_tt rfl (dTt (by omega)) ?_) | refine k_if rfl (fun _ => ?_) (fun _ => ?_))
    · rename_i he
      refine k_rr (vs := [_, _]) rfl ⟨rc_A rfl rfl rfl rfl, rfl, trivial⟩ rfl (List.nil_sublist _) ⟨rfl, rfl, ?_⟩
      rw [fldT_at hi Hi.2 he]; rfl
    · rename_i he
      refine k_rd (i + 1) ⟨by omega, fun k hk => ?_⟩ (by omega) (by repeat' constructor) rfl sRr
      rcases Nat.lt_or_ge k i with h3 | h3
      · exact Hi.2 k h3
      · have : k = i := by omega
        subst this; exact he
  · repeat' (first | (refine run (t := tb) 400 rfl trivial ?_) | (refine k_op rfl ?_; first | refine v_op (g_ld rfl rfl rfl) rfl rfl ?_ | refine v_op (g_lenL rfl) rfl rfl ?_ | refine c_stA rfl rfl rfl rfl rfl rfl ?_ | refine v_op (g_bld rfl rfl) rfl rfl ?_) | (refine k_ff rfl (dFf (by omega)) ?_))
    refine k_rr (vs := [_, _]) rfl ⟨rc_A rfl rfl rfl rfl, rfl, trivial⟩ rfl (List.nil_sublist _) ⟨rfl, rfl, ?_⟩
    rw [fldT_no fun k hk => Hi.2 k (by omega)]; rfl
theorem c_fieldI0 {b : Nat} {t : Ty} {fv : Value} {ln : List UInt8} {tag : Int} (hs : Seg G b 0 [U8 t.sort, S t.name, fv, S ln]) (hf : SlV G fv 6 t.fields.length (rows fiF t.fields)) (hl : t.fields.length ≤ 1000) (h : fldT t.fields tag = none) :
    PuG Tryz.prog 117 [Pt b 0, I tag] G (· = .pointer none) := by
  have hno : ∀ k, k < t.fields.length → (nth t.fields k).tag ≠ tag := fun k hk e => by
    have h1 := List.find?_eq_none.1 h (nth t.fields k) (nth_mem hk)
    exact h1 (by simpa using e)
  refine p_enter [(0, _), (1, _)] Tryz.func117 (by kernel_rfl) Tryz.ntmps117 rfl rfl (by repeat' constructor) fun B hB => ?_
  repeat' (first | (refine run (t := tb) 400 rfl trivial ?_) | (refine k_op rfl ?_; first | refine v_op (g_ldS rfl rfl (by assumption) rfl rfl) rfl rfl ?_ | refine v_op (g_lenV rfl (by assumption)) rfl rfl ?_))
  refine k_loop (ι := Nat) (fun i => i ≤ t.fields.length) (fun i => [(0, Pt b 0), (1, I tag), (10, I t.fields.length), (11, I i)]) (fun _ => G) (fun i => []) (fun i => t.fields.length - i) 0 ?_ (by repeat' constructor) rfl sRr (fun i Hi => ?_)
  · exact Nat.zero_le _
  by_cases hi : i < t.fields.length
  · obtain ⟨bf, of, cf, rfl, hsf⟩ := hf.expl (by omega)
    have h2 := hno i hi
    repeat' (first | (refine run (t := tb) 400 rfl ?_ ?_; (focus (repeat' (first | exact trivial | apply And.intro | omega)))) | (refine k_op rfl ?_; first | (refine v_op (g_ldRF rfl rfl (by assumption) ?_ rfl rfl) rfl rfl ?_; (focus ((omega); done))) | refine v_op (g_ldS rfl rfl (by assumption) rfl rfl) rfl rfl ?_ | (refine v_op (g_iaddrN rfl rfl (by omega)) rfl rfl ?_)) | (refine k_tt rfl (dTt (by omega)) ?_) | (refine k_ff rfl (dFf ‹_›) ?_))
    exact k_rd (i + 1) (by omega) (by omega) (by repeat' constructor) rfl sRr
  · repeat' (first | (refine run (t := tb) 400 rfl trivial ?_) | (refine k_ff rfl (dFf (by omega)) ?_))
    refine k_rr (vs := [_]) rfl ⟨rfl, trivial⟩ rfl (List.nil_sublist _) ⟨rfl, rfl, ?_⟩
    rfl
theorem c_fieldI1 {b bf of cf j : Nat} {t : Ty} {ln : List UInt8} {tag : Int} (hs : Seg G b 0 [U8 t.sort, S t.name, .slice (some ⟨bf, of, none⟩) t.fields.length cf, S ln]) (hsf : Seg G bf of (rows fiF t.fields)) (hl : t.fields.length ≤ 1000) (hj : j < t.fields.length) (hno : ∀ k, k < j → (nth t.fields k).tag ≠ tag) (hat : (nth t.fields j).tag = tag) :
    PuG Tryz.prog 117 [Pt b 0, I tag] G (· = Pt bf (of + j * 6)) := by
  refine p_enter [(0, _), (1, _)] Tryz.func117 (by kernel_rfl) Tryz.ntmps117 rfl rfl (by repeat' constructor) fun B hB => ?_
  repeat' (first | (refine run (t := tb) 400 rfl trivial ?_) | (refine k_op rfl ?_; first | refine v_op (g_ldS rfl rfl (by assumption) rfl rfl) rfl rfl ?_ | refine v_op (g_lenL rfl) rfl rfl ?_))
  refine k_loop (ι := Nat) (fun i => i ≤ j) (fun i => [(0, Pt b 0), (1, I tag), (10, I t.fields.length), (11, I i)]) (fun _ => G) (fun i => []) (fun i => t.fields.length - i) 0 ?_ (by repeat' constructor) rfl sRr (fun i Hi => ?_)
  · exact Nat.zero_le _
  by_cases hij : i = j
  · subst hij
    repeat' (first | (refine run (t := tb) 400 rfl trivial ?_) | (refine k_op rfl ?_; first | (refine v_op (g_ldRF rfl rfl (by assumption) ?_ rfl rfl) rfl rfl ?_; (focus ((omega); done))) | refine v_op (g_ldS rfl rfl (by assumption) rfl rfl) rfl rfl ?_ | (refine v_op (g_iaddrN rfl rfl (by omega)) rfl rfl ?_)) | (refine k_tt rfl (by refine decide_eq_true ?_; first | assumption | omega) ?_))
    all_goals refine k_rr (vs := [_]) rfl ⟨rfl, trivial⟩ rfl (List.nil_sublist _) ⟨rfl, rfl, ?_⟩
    all_goals rfl
  · have h2 := hno i (by omega)
    repeat' (first | (refine run (t := tb) 400 rfl ?_ ?_; (focus (repeat' (first | exact trivial | apply And.intro | omega)))) | (refine k_op rfl ?_; first | (refine v_op (g_ldRF rfl rfl (by assumption) ?_ rfl rfl) rfl rfl ?_; (focus ((omega); done))) | refine v_op (g_ldS rfl rfl (by assumption) rfl rfl) rfl rfl ?_ | (refine v_op (g_iaddrN rfl rfl (by omega)) rfl rfl ?_)) | (refine k_tt rfl (dTt (by omega)) ?_) | (refine k_ff rfl (dFf ‹_›) ?_))
    exact k_rd (i + 1) (by omega) (by omega) (by repeat' constructor) rfl sRr
theorem c_standS {u : Value} {vs : List TyX} {f : Fld} (h : SchR G u vs) (hw : SchW (tys vs)) (hk : kindIn (tys vs) f.kind = true) :
    PuG Tryz.prog 103 [u, Ag [I f.tag, S f.name, S f.kind, S f.stand]] G (· = S (standF (tys vs) f)) := by
  have cx_std := c_standKS h hw hk
  unfold standF
  by_cases hs : f.stand = []
  · rw [if_pos hs, hs]
    refine p_enter [(0, _), (1, _)] Tryz.func103 (by kernel_rfl) Tryz.ntmps103 rfl rfl (by repeat' constructor) fun B hB => ?_
    repeat' (first | (refine run (t := tb) 400 rfl trivial ?_) | (refine k_op rfl ?_; first | refine c_bx rfl rfl rfl fun _ => ?_ | refine v_op (g_ld rfl rfl rfl) rfl rfl ?_ | (refine c_rt rfl rfl rfl cx_std rfl ?_)) | (refine k_ff rfl rfl ?_))
    all_goals refine k_rr (vs := [_]) rfl ⟨rfl, trivial⟩ rfl (List.nil_sublist _) ⟨rfl, rfl, ?_⟩
    all_goals rfl
  · rw [if_neg hs]
    refine p_enter [(0, _), (1, _)] Tryz.func103 (by kernel_rfl) Tryz.ntmps103 rfl rfl (by repeat' constructor) fun B hB => ?_
    repeat' (first | (refine run (t := tb) 400 rfl trivial ?_) | (refine k_op rfl ?_; first | refine c_bx rfl rfl rfl fun _ => ?_ | refine v_op (g_ld rfl rfl rfl) rfl rfl ?_) | (refine k_tt rfl (dTt ‹_›) ?_))
    all_goals refine k_rr (vs := [_]) rfl ⟨rfl, trivial⟩ rfl (List.nil_sublist _) ⟨rfl, rfl, ?_⟩
    all_goals rfl
theorem c_ofI {b bf of j : Nat} {qs : List TyP} {fs : List Fld} (h : ScI G b qs) (hw : SchW (tyq qs)) (hsf : Seg G bf of (rows fiF fs)) (hj : j < fs.length) (hk : kindIn (tyq qs) (nth fs j).kind = true) :
    PuG Tryz.prog 120 [Pt b 0, Pt bf (of + j * 6)] G (· = S (standF (tyq qs) (nth fs j))) := by
  have cx_std := c_standKI h hw hk
  unfold standF
  by_cases hs : (nth fs j).stand = []
  · rw [if_pos hs]
    have hs2 : ¬ (nth fs j).stand ≠ [] := fun h => h hs
    refine p_enter [(0, _), (1, _)] Tryz.func120 (by kernel_rfl) Tryz.ntmps120 rfl rfl (by repeat' constructor) fun B hB => ?_
    repeat' (first | (refine run (t := tb) 400 rfl trivial ?_) | (refine k_op rfl ?_; first | (refine v_op (g_ldRF rfl rfl (by assumption) ?_ rfl rfl) rfl rfl ?_; (focus ((omega); done))) | (refine v_op (g_ldRA rfl rfl (by assumption) ?_ rfl rfl) rfl rfl ?_; (focus ((omega); done))) | (refine c_rt rfl rfl rfl cx_std rfl ?_)) | (refine k_ff rfl (dFf ‹_›) ?_))
    all_goals refine k_rr (vs := [_]) rfl ⟨rfl, trivial⟩ rfl (List.nil_sublist _) ⟨rfl, rfl, ?_⟩
    all_goals rfl
  · rw [if_neg hs]
    refine p_enter [(0, _), (1, _)] Tryz.func120 (by kernel_rfl) Tryz.ntmps120 rfl rfl (by repeat' constructor) fun B hB => ?_
    repeat' (first | (refine run (t := tb) 400 rfl trivial ?_) | (refine k_op rfl ?_; (refine v_op (g_ldRF rfl rfl (by assumption) ?_ rfl rfl) rfl rfl ?_; (focus ((omega); done)))) | (refine k_tt rfl (dTt ‹_›) ?_))
    all_goals refine k_rr (vs := [_]) rfl ⟨rfl, trivial⟩ rfl (List.nil_sublist _) ⟨rfl, rfl, ?_⟩
    all_goals rfl
end Go.E
namespace Go.E
set_option maxRecDepth 20000
set_option maxHeartbeats 2000000
open Go.Proofs
variable {G : Gh}
abbrev tVal : TypeId := 40
abbrev tStP : TypeId := 9
theorem nd_tot {w : Nat} {x : List UInt8} {t : Int} {ks : List V} : V.tot (.nd w x t ks) = 20 + x.length + V.tots ks := by rw [V.tot]
theorem c_print : ∀ (n : Nat) {v : V} {c : VC}, v.tot ≤ n → v.tot ≤ 1000000 → V.rep G v c → PuG Tryz.prog 119 [Ag (vcF c)] G (· = S v.out) := by
  intro n
  induction n with
  | zero => intro v c h1 _ _; have := tot_pos v; omega
  | succ n ih =>
    intro v c h1 h2 h
    obtain ⟨w, x, t, ks⟩ := v
    rw [nd_tot] at h1 h2
    obtain ⟨a, k, cs, rfl, hw, ht, h61, hcl, hsl, hks⟩ := rep_inv h
    have hkl := tots_len ks
    have hol := outs_len ks
    have hjl := outs_tot hks
    have hj2 := joinB_len 44 (V.outs ks)
    rw [hol] at hj2
    simp only [vcF, VC.sl]
    refine b_enter (Post := fun v G' L' => G' = G ∧ L' = [] ∧ _) [(0, _)] Tryz.func119 (by kernel_rfl) Tryz.ntmps119 rfl rfl (by repeat' constructor) fun B hok hB hW => ?_
    repeat' (first | (refine run (t := tb) 400 rfl trivial ?_) | (refine k_op rfl ?_; first | refine c_bx rfl rfl rfl fun _ => ?_ | refine v_op (g_ld rfl rfl rfl) rfl rfl ?_ | refine v_op (g_lenL rfl) rfl rfl ?_))
    rename_i bv
    refine Nx.addNil tStP 1 ?_
    refine k_loop (ι := Nat × Value) (fun q => q.1 ≤ ks.length) (fun q => [(1, Pt bv 0), (2, S []), (3, q.2), (8, .slice a ks.length k), (9, I ks.length), (10, I q.1)]) (fun _ => G) (fun q => [.acc q.2 tStP 1 q.1 (rows strF ((V.outs ks).take q.1)), .blk bv (.cells (List.toArray [U8 w, S x, I t, .slice a ks.length k]) tVal (0, 0))]) (fun q => ks.length - q.1) (0, nilS) ?_ (by repeat' constructor) rfl sRr (fun q Hq => ?_)
    · exact Nat.zero_le _
    obtain ⟨i, pv⟩ := q
    dsimp only at Hq ⊢
    by_cases hi : i < ks.length
    · have hti := tot_nth hi
      have cx_pr := ih (by omega) (by omega) (reps_nth hks i hi)
      obtain ⟨bf, of, cf, e, hs⟩ := hsl.expl (by omega)
      simp only [Value.slice.injEq] at e
      obtain ⟨rfl, -, rfl⟩ := e
      repeat' (first | (refine run (t := tb) 400 rfl ?_ ?_; (focus (repeat' (first | exact trivial | apply And.intro | omega)))) | (refine k_op rfl ?_; first | (refine v_op (g_ldR rfl rfl (by assumption) ?_) rfl rfl ?_; (focus ((omega); done))) | refine v_op (g_ldA rfl rfl rfl rfl) rfl rfl ?_ | (refine v_op (g_iaddrN rfl rfl (by omega)) rfl rfl ?_) | refine c_al rfl rfl fun _ => ?_ | refine c_stA rfl rfl rfl rfl rfl rfl ?_ | refine c_bsl rfl rfl rfl rfl rfl rfl fun _ => ?_ | (refine c_apX rfl rfl rfl rfl rfl rfl rfl rfl rfl (by omega) fun _ _ => ?_) | (refine c_rt rfl rfl rfl cx_pr rfl ?_)) | (refine k_tt rfl (dTt (by omega)) ?_))
      have e2 : rows strF ((V.outs ks).take i) ++ [S (nth ks i).out] = rows strF ((V.outs ks).take (i + 1)) := by rw [take_nth (by omega), rows_snoc, outs_get hi]; rfl
      rw [e2]
      exact k_rd (i + 1, _) (by dsimp only; omega) (by dsimp only; omega) (by repeat' constructor) rfl (by repeat (first | exact List.Sublist.refl _ | apply List.Sublist.cons_cons | apply List.Sublist.cons))
    · have hin : i = ks.length := by omega
      subst hin
      refine Nx.sealA .here fun G1 hG1 hsP => ?_
      rw [← hol, List.take_length] at hsP
      have cx_join := c_Join (c := 44) hsP (by omega)
      have hd := decI_len6' ht.2
      have hE : ks.isEmpty = decide (ks.length = 0) := by cases ks <;> simp
      repeat' (first | (refine run (t := tb) 400 rfl ?_ ?_; (focus (repeat' (first | exact trivial | apply And.intro | (simp only [List.length_append, List.length_cons, List.length_nil, Int.toNat_natCast]; omega))))) | (refine k_op rfl ?_; first | refine v_op (g_ld rfl rfl rfl) rfl rfl ?_ | refine v_op (g_lenL rfl) rfl rfl ?_ | (refine c_rt rfl rfl rfl cx_join rfl ?_) | (refine c_rt rfl rfl rfl (c_decimalN (by omega)) rfl ?_)) | (refine k_ff rfl (dFf (by omega)) ?_) | refine k_if rfl (fun _ => ?_) (fun _ => ?_))
      all_goals refine Nx.base hok hB ?_
      all_goals refine k_rr (vs := [_]) rfl ⟨rfl, trivial⟩ rfl (List.nil_sublist _) ⟨rfl, rfl, ?_⟩
      all_goals (rw [oneOf_one, V.out, hE]; unfold outW; simp only [decide_eq_true_eq]; repeat (first | rw [if_pos (by omega)] | rw [if_neg (by omega)]))
      all_goals (first | rfl | (simp; done))
theorem deep_fld1 {x : List UInt8} {t : Int} {u : V} : V.deep (.nd 61 x t [u]) = u.deep := by rw [V.deep, if_pos rfl, V.deeps, V.deeps, Nat.max_zero]
theorem deeps_snoc (v : V) : ∀ (ks : List V), V.deeps (ks ++ [v]) = max (V.deeps ks) v.deep
  | [] => by simp [V.deeps]
  | u :: r => by simp only [List.cons_append, V.deeps, deeps_snoc v r]; omega
mutual
theorem deep_tot : ∀ v : V, v.deep ≤ v.tot
  | .nd w x t ks => by
    have := deeps_tot ks
    rw [V.deep, V.tot]; split <;> omega
theorem deeps_tot : ∀ ks : List V, V.deeps ks ≤ V.tots ks
  | [] => by simp [V.deeps]
  | v :: r => by
    have := deep_tot v
    have := deeps_tot r
    rw [V.deeps, V.tots]; omega
end
theorem c_deep : ∀ (n : Nat) {v : V} {c : VC}, v.tot ≤ n → v.tot ≤ 1000000 → V.rep G v c → PuG Tryz.prog 68 [Ag (vcF c)] G (· = I (v.deep : Nat)) := by
  intro n
  induction n with
  | zero => intro v c h1 _ _; have := tot_pos v; omega
  | succ n ih =>
    intro v c h1 h2 h
    obtain ⟨w, x, t, ks⟩ := v
    rw [nd_tot] at h1 h2
    obtain ⟨a, k, cs, rfl, hw, ht, h61, hcl, hsl, hks⟩ := rep_inv h
    have hkl := tots_len ks
    simp only [vcF, VC.sl]
    by_cases hq : w = 61
    · have hk1 := h61 hq
      have hti := tot_nth (ks := ks) (i := 0) (by omega)
      have cx_dp := ih (by omega) (by omega) (reps_nth hks 0 (by omega))
      obtain ⟨bf, of, cf, e, hs⟩ := hsl.expl (by omega)
      simp only [Value.slice.injEq] at e
      obtain ⟨rfl, -, rfl⟩ := e
      refine p_enter [(0, _)] Tryz.func68 (by kernel_rfl) Tryz.ntmps68 rfl rfl (by repeat' constructor) fun B hB => ?_
      repeat' (first | (refine run (t := tb) 400 rfl trivial ?_) | (refine k_op rfl ?_; first | refine c_bx rfl rfl rfl fun _ => ?_ | refine v_op (g_ld rfl rfl rfl) rfl rfl ?_ | (refine v_op (g_ldR rfl rfl (by assumption) ?_) rfl rfl ?_; (focus ((omega); done))) | (refine v_op (g_iaddr rfl rfl (by omega)) rfl rfl ?_) | (refine c_rt rfl rfl rfl cx_dp rfl ?_)) | (refine k_tt rfl (dTt (by omega)) ?_))
      refine k_rr (vs := [_]) rfl ⟨rfl, trivial⟩ rfl (List.nil_sublist _) ⟨rfl, rfl, ?_⟩
      rw [oneOf_one]
      obtain ⟨u, rfl⟩ := List.length_eq_one_iff.1 hk1
      subst hq
      rw [deep_fld1]; rfl
    · rw [deep_nd hq]
      refine p_enter [(0, _)] Tryz.func68 (by kernel_rfl) Tryz.ntmps68 rfl rfl (by repeat' constructor) fun B hB => ?_
      repeat' (first | (refine run (t := tb) 400 rfl trivial ?_) | (refine k_op rfl ?_; first | refine c_bx rfl rfl rfl fun _ => ?_ | refine v_op (g_ld rfl rfl rfl) rfl rfl ?_ | refine v_op (g_lenL rfl) rfl rfl ?_) | (refine k_ff rfl (dFf (by omega)) ?_))
      rename_i bv
      refine Nx.re (d := 3) (v' := I (V.deeps (ks.take 0) : Nat)) rfl rfl ?_
      refine k_loop (ι := Nat) (fun i => i ≤ ks.length) (fun i => [(3, I (V.deeps (ks.take i) : Nat)), (15, .slice a ks.length k), (16, I ks.length), (17, I i)]) (fun _ => G) (fun i => []) (fun i => ks.length - i) 0 ?_ (by repeat' constructor) rfl (by repeat (exact List.nil_sublist _)) (fun i Hi => ?_)
      · exact Nat.zero_le _
      by_cases hi : i < ks.length
      · have hti := tot_nth hi
        have cx_dp := ih (by omega) (by omega) (reps_nth hks i hi)
        obtain ⟨bf, of, cf, e, hs⟩ := hsl.expl (by omega)
        simp only [Value.slice.injEq] at e
        obtain ⟨rfl, -, rfl⟩ := e
        repeat' (first | (refine run (t := tb) 400 rfl ?_ ?_; (focus (repeat' (first | exact trivial | apply And.intro | omega)))) | (refine k_op rfl ?_; first | (refine v_op (g_ldR rfl rfl (by assumption) ?_) rfl rfl ?_; (focus ((omega); done))) | refine v_op (g_ldA rfl rfl rfl rfl) rfl rfl ?_ | (refine v_op (g_iaddrN rfl rfl (by omega)) rfl rfl ?_) | refine c_al rfl rfl fun _ => ?_ | refine c_stA rfl rfl rfl rfl rfl rfl ?_ | refine v_op (g_max rfl rfl) rfl rfl ?_ | (refine c_rt rfl rfl rfl cx_dp rfl ?_)) | (refine k_tt rfl (dTt (by omega)) ?_))
        refine Nx.re (d := 3) (v' := I (V.deeps (ks.take (i + 1)) : Nat)) rfl (congrArg (Value.int .i64) (by rw [take_nth hi, deeps_snoc]; omega)) ?_
        exact k_rd (i + 1) (by omega) (by omega) (by repeat' constructor) rfl (by repeat (exact List.nil_sublist _))
      · have hin : i = ks.length := by omega
        subst hin
        rw [List.take_length]
        have hdt := deeps_tot ks
        repeat' (first | (refine run (t := tb) 400 rfl ?_ ?_; (focus (repeat' (first | exact trivial | apply And.intro | omega)))) | (refine k_ff rfl (dFf (by omega)) ?_))
        refine k_rr (vs := [_]) rfl ⟨rfl, trivial⟩ rfl (List.nil_sublist _) ⟨rfl, rfl, ?_⟩
        rw [oneOf_one]; congr 1
end Go.E
namespace Go.E
set_option maxRecDepth 20000
set_option maxHeartbeats 2000000
open Go.Proofs
variable {G : Gh}
abbrev tScn : TypeId := 97
theorem c_CutPrefixL {s p : List UInt8} (hs : s.length ≤ 1000000 ∧ p.length ≤ 1000000) : PuG Tryz.prog 134 [S s, S p] G (· = Tu [S (if p.isPrefixOf s = true then s.drop p.length else s), Bo (p.isPrefixOf s)]) := by
  have cx_hp : PuG Tryz.prog 113 [S s, S p] G (· = Bo (p.isPrefixOf s)) := c_HasPrefix0
  cases hp : p.isPrefixOf s with
  | false =>
    rw [hp] at cx_hp
    refine p_enter [(0, _), (1, _)] Tryz.func134 (by kernel_rfl) Tryz.ntmps134 rfl rfl (by repeat' constructor) fun B hB => ?_
    repeat' (first | (refine run (t := tb) 400 rfl trivial ?_) | (refine k_op rfl ?_; (refine c_rt rfl rfl rfl c_HasPrefix0 rfl ?_)) | (refine k_tt rfl ?_ ?_; (focus ((simp [*]; done); done))))
    refine k_rr (vs := [_, _]) rfl ⟨rfl, rfl, trivial⟩ rfl (List.nil_sublist _) ⟨rfl, rfl, ?_⟩
    rfl
  | true =>
    rw [hp] at cx_hp
    have hl : p.length ≤ s.length := by
      have := List.isPrefixOf_iff_prefix.1 hp
      exact this.length_le
    refine p_enter [(0, _), (1, _)] Tryz.func134 (by kernel_rfl) Tryz.ntmps134 rfl rfl (by repeat' constructor) fun B hB => ?_
    repeat' (first | (refine run (t := tb) 400 rfl ?_ ?_; (focus (repeat' (first | exact trivial | apply And.intro | omega)))) | (refine k_op rfl ?_; (refine c_rt rfl rfl rfl c_HasPrefix0 rfl ?_)) | (refine k_ff rfl ?_ ?_; (focus ((simp [*]; done); done))))
    refine k_rr (vs := [_, _]) rfl ⟨rfl, rfl, trivial⟩ rfl (List.nil_sublist _) ⟨rfl, rfl, ?_⟩
    rfl
theorem c_CutPrefix {s p : List UInt8} (hs : s.length ≤ 1000000 ∧ p.length ≤ 1000000) : PuG Tryz.prog 116 [S s, S p] G (· = Tu [S (if p.isPrefixOf s = true then s.drop p.length else s), Bo (p.isPrefixOf s)]) := by
  have cx_cp := c_CutPrefixL (G := G) hs
  refine p_enter [(0, _), (1, _)] Tryz.func116 (by kernel_rfl) Tryz.ntmps116 rfl rfl (by repeat' constructor) fun B hB => ?_
  repeat' (first | (refine run (t := tb) 400 rfl trivial ?_) | (refine k_op rfl ?_; (refine c_rt rfl rfl rfl cx_cp rfl ?_)))
  refine k_rr (vs := [_, _]) rfl ⟨rfl, rfl, trivial⟩ rfl (List.nil_sublist _) ⟨rfl, rfl, ?_⟩
  rfl
def tkR (l s : List UInt8) (b : Bool) : Bool := !b && l.isPrefixOf s
def tkS (l s : List UInt8) (b : Bool) : List UInt8 := if tkR l s b = true then s.drop l.length else s
abbrev scO (r sc : Nat) (s : List UInt8) (b : Bool) : Own := .blk r (.cells (List.toArray [Pt sc 0, S s, Bo b]) tScn (0, 0))
theorem c_take {r sc : Nat} {s l : List UInt8} {b : Bool} (hs : s.length ≤ 1000000 ∧ l.length ≤ 1000000) : FnG Tryz.prog 93 [Pt r 0, S l] G [scO r sc s b] (fun v L' => v = Bo (tkR l s b) ∧ L' = [scO r sc (tkS l s b) b]) := by
  have cx_cp := c_CutPrefix (G := G) hs
  unfold tkS tkR
  cases hp : l.isPrefixOf s with
  | false =>
    rw [hp] at cx_cp
    refine g_enter [(0, _), (1, _)] Tryz.func93 (by kernel_rfl) Tryz.ntmps93 rfl rfl (by repeat' constructor) fun B hB hW => ?_
    repeat' (first | (refine run (t := tb) 400 rfl trivial ?_) | (refine k_op rfl ?_; first | refine v_op (g_ld rfl rfl rfl) rfl rfl ?_ | (refine v_op (g_pickF rfl rfl rfl) rfl rfl ?_) | (refine c_rt rfl rfl rfl cx_cp rfl ?_)) | (refine k_gf rfl rfl rfl ?_) | (refine k_ff rfl rfl ?_))
    exact k_rr (vs := [_]) rfl ⟨rfl, trivial⟩ rfl (List.Sublist.refl _) ⟨rfl, by cases b <;> rfl, by cases b <;> rfl⟩
  | true =>
    rw [hp] at cx_cp
    cases b with
    | true =>
      refine g_enter [(0, _), (1, _)] Tryz.func93 (by kernel_rfl) Tryz.ntmps93 rfl rfl (by repeat' constructor) fun B hB hW => ?_
      repeat' (first | (refine run (t := tb) 400 rfl trivial ?_) | (refine k_op rfl ?_; first | refine v_op (g_ld rfl rfl rfl) rfl rfl ?_ | (refine v_op (g_pickT rfl rfl rfl) rfl rfl ?_) | (refine c_rt rfl rfl rfl cx_cp rfl ?_)) | (refine k_gt rfl rfl rfl ?_) | (refine k_ff rfl rfl ?_))
      exact k_rr (vs := [_]) rfl ⟨rfl, trivial⟩ rfl (List.Sublist.refl _) ⟨rfl, rfl, rfl⟩
    | false =>
      refine g_enter [(0, _), (1, _)] Tryz.func93 (by kernel_rfl) Tryz.ntmps93 rfl rfl (by repeat' constructor) fun B hB hW => ?_
      repeat' (first | (refine run (t := tb) 400 rfl trivial ?_) | (refine k_op rfl ?_; first | refine v_op (g_ld rfl rfl rfl) rfl rfl ?_ | (refine v_op (g_pickT rfl rfl rfl) rfl rfl ?_) | refine c_st1 rfl rfl rfl rfl ?_ | (refine c_rt rfl rfl rfl cx_cp rfl ?_)) | (refine k_gt rfl rfl rfl ?_) | (refine k_tt rfl rfl ?_))
      exact k_rr (vs := [_]) rfl ⟨rfl, trivial⟩ rfl (List.Sublist.refl _) ⟨rfl, rfl, rfl⟩
theorem c_want {r sc : Nat} {s l : List UInt8} {b : Bool} (hs : s.length ≤ 1000000 ∧ l.length ≤ 1000000) : FnG Tryz.prog 94 [Pt r 0, S l] G [scO r sc s b] (fun v L' => L' = [scO r sc (tkS l s b) (!tkR l s b)]) := by
  have cx_tk := c_take (G := G) (r := r) (sc := sc) (b := b) hs
  cases ht : tkR l s b with
  | false =>
    rw [ht] at cx_tk
    refine g_enter [(0, _), (1, _)] Tryz.func94 (by kernel_rfl) Tryz.ntmps94 rfl rfl (by repeat' constructor) fun B hB hW => ?_
    repeat' (first | (refine run (t := tb) 400 rfl trivial ?_) | (refine k_op rfl ?_; first | refine c_st1 rfl rfl rfl rfl ?_ | (refine c_m1g rfl rfl rfl cx_tk rfl ?_; rintro _ _ ⟨rfl, rfl⟩; dsimp only [List.cons_append, List.nil_append])) | (refine k_tt rfl rfl ?_))
    exact k_re (vs := []) rfl trivial rfl (List.Sublist.refl _) ⟨rfl, rfl⟩
  | true =>
    have hb : b = false := by unfold tkR at ht; cases b <;> simp_all
    subst hb
    rw [ht] at cx_tk
    refine g_enter [(0, _), (1, _)] Tryz.func94 (by kernel_rfl) Tryz.ntmps94 rfl rfl (by repeat' constructor) fun B hB hW => ?_
    repeat' (first | (refine run (t := tb) 400 rfl trivial ?_) | (refine k_op rfl ?_; (refine c_m1g rfl rfl rfl cx_tk rfl ?_; rintro _ _ ⟨rfl, rfl⟩; dsimp only [List.cons_append, List.nil_append])) | (refine k_ff rfl rfl ?_))
    exact k_re (vs := []) rfl trivial rfl (List.Sublist.refl _) ⟨rfl, rfl⟩
end Go.E
namespace Go.E
set_option maxRecDepth 20000
set_option maxHeartbeats 2000000
theorem trimL_drop {p : Nat → Bool} {q : UInt8 → Bool} (h : ∀ c : UInt8, p c.toNat = q c) : ∀ s : List UInt8, trimL p s = s.dropWhile q
  | [] => rfl
  | c :: r => by
    rw [trimL, h c, List.dropWhile_cons]
    cases q c with
    | true => simp only [if_true]; exact trimL_drop h r
    | false => simp
theorem dgb_in : ∀ c : UInt8, inS [48, 49, 50, 51, 52, 53, 54, 55, 56, 57] c.toNat = isDg c := by
  intro c
  have : ∀ n : Nat, n < 256 → inS [48, 49, 50, 51, 52, 53, 54, 55, 56, 57] n = decide (48 ≤ n ∧ n ≤ 57) := by decide +kernel
  exact this _ c.toNat_lt
def txB : List UInt8 := [97, 98, 99, 100, 101, 102, 103, 104, 105, 106, 107, 108, 109, 110, 111, 112, 113, 114, 115, 116, 117, 118, 119, 120, 121, 122, 48, 49, 50, 51, 52, 53, 54, 55, 56, 57, 32]
def isTb (c : UInt8) : Bool := decide (txN c.toNat)
theorem txb_in : ∀ c : UInt8, inS txB c.toNat = isTb c := by
  intro c
  have : ∀ n : Nat, n < 256 → inS txB n = decide (txN n) := by decide +kernel
  exact this _ c.toNat_lt
theorem take_drop_while (q : UInt8 → Bool) (s : List UInt8) : s.take (s.length - (s.dropWhile q).length) = s.takeWhile q := by
  have h := List.takeWhile_append_dropWhile (p := q) (l := s)
  have hl : (s.takeWhile q).length + (s.dropWhile q).length = s.length := by
    have := congrArg List.length h
    rwa [List.length_append] at this
  have e : s.length - (s.dropWhile q).length = (s.takeWhile q).length := by omega
  rw [e]
  have h2 : (s.takeWhile q ++ s.dropWhile q).take (s.takeWhile q).length = s.takeWhile q := List.take_left
  rwa [h] at h2
theorem while_len (q : UInt8 → Bool) (s : List UInt8) : (s.takeWhile q).length + (s.dropWhile q).length = s.length := by
  have h := List.takeWhile_append_dropWhile (p := q) (l := s)
  have := congrArg List.length h
  rwa [List.length_append] at this
theorem txP_iff (x : List UInt8) : isTx (39 :: (x ++ [39])) = true ↔ x.length ≤ 12 ∧ ∀ c ∈ x, isTb c = true := by
  unfold isTx
  rw [decide_eq_true_eq]
  unfold TxP
  have e0 : bt (39 :: (x ++ [39])) 0 = 39 := bt_zero _ _
  have e1 : (39 :: (x ++ [39]) : List UInt8).length = x.length + 2 := by simp
  have e2 : bt (39 :: (x ++ [39])) (x.length + 1) = 39 := by
    rw [bt_succ]; simp [bt]
  have e3 : ∀ i, i < x.length → bt (39 :: (x ++ [39])) (i + 1) = bt x i := fun i hi => by
    rw [bt_succ]; simp [bt, List.getD, List.getElem?_append_left hi]
  rw [e1, show x.length + 2 - 1 = x.length + 1 by omega]
  constructor
  · rintro ⟨⟨_, h1⟩, _, _, h2⟩
    refine ⟨by omega, fun c hc => ?_⟩
    obtain ⟨i, hi, rfl⟩ := List.mem_iff_getElem.1 hc
    have := h2 (i + 1) (by omega)
    rw [e3 i hi] at this
    have h3 : bt x i = (x[i]).toNat := by simp [bt, List.getD, List.getElem?_eq_getElem hi]
    rw [h3] at this
    unfold isTb
    rw [decide_eq_true_eq]
    rcases this with h | h
    · omega
    · exact h
  · rintro ⟨h1, h2⟩
    refine ⟨⟨by omega, by omega⟩, e0, e2, fun i hi => ?_⟩
    cases i with
    | zero => exact .inl rfl
    | succ i =>
      have hi' : i < x.length := by omega
      rw [e3 i hi']
      have h3 : bt x i = (x[i]).toNat := by simp [bt, List.getD, List.getElem?_eq_getElem hi']
      rw [h3]
      have := h2 _ (List.getElem_mem hi')
      unfold isTb at this
      rw [decide_eq_true_eq] at this
      exact .inr this
theorem isTb39 {c : UInt8} (h : c.toNat = 39) : isTb c = false := by
  have : c = 39 := UInt8.toNat_inj.1 h
  subst this; decide
theorem quote_law (s : List UInt8) : rdQuote s = match s with
    | [] => none
    | c :: r => if c.toNat = 39 then (match r.dropWhile isTb with
      | [] => none
      | d :: t => if d.toNat = 39 ∧ (r.takeWhile isTb).length ≤ 12 then some (.nd 116 (r.takeWhile isTb) 0 [], t) else none) else none := by
  cases s with
  | nil => rfl
  | cons c r =>
    unfold rdQuote
    dsimp only
    by_cases hc : c.toNat = 39
    · rw [if_pos hc, if_pos hc]
      have hcut : ∀ r : List UInt8, cut1 39 r = match r.dropWhile isTb with
        | [] => (r, [], false)
        | d :: t => if d.toNat = 39 then (r.takeWhile isTb, t, true) else (r.takeWhile isTb ++ (cut1 39 (d :: t)).1, (cut1 39 (d :: t)).2) := by
        intro r
        induction r with
        | nil => rfl
        | cons x r ih =>
          rw [List.dropWhile_cons, List.takeWhile_cons]
          by_cases hx : isTb x = true
          · rw [if_pos hx, if_pos hx]
            have h39 : ¬ x.toNat = 39 := fun h => by rw [isTb39 h] at hx; cases hx
            rw [cut1, if_neg h39, ih]
            cases hd : r.dropWhile isTb with
            | nil => rfl
            | cons d t =>
              dsimp only
              split
              · rfl
              · rfl
          · rw [if_neg hx, if_neg hx]
            dsimp only
            split
            · rename_i h39; rw [cut1, if_pos h39]
            · simp
      rw [hcut]
      cases hd : r.dropWhile isTb with
      | nil => rfl
      | cons d t =>
        dsimp only
        by_cases h39 : d.toNat = 39
        · rw [if_pos h39]
          dsimp only
          by_cases h12 : (r.takeWhile isTb).length ≤ 12
          · rw [if_pos ((txP_iff _).2 ⟨h12, fun c hc => List.all_eq_true.1 (List.all_takeWhile (l := r) (p := isTb)) c hc⟩), if_pos ⟨h39, h12⟩]
          · rw [if_neg (fun h => h12 ((txP_iff _).1 h).1), if_neg (fun h => h12 h.2)]
        · rw [if_neg h39, if_neg (fun h => h39 h.1)]
          cases hcc : cut1 39 (d :: t) with
          | mk a b =>
            obtain ⟨b, f⟩ := b
            cases f with
            | false => rfl
            | true =>
              dsimp only
              rw [if_neg]
              intro h
              have hall := ((txP_iff _).1 h).2
              have hdx : isTb d = false := by
                have := List.head_dropWhile_not (p := isTb) (l := r) (by rw [hd]; simp)
                simpa [hd] using this
              have ha : d ∈ a := by
                rw [cut1, if_neg h39] at hcc
                simp only [Prod.mk.injEq] at hcc
                rw [← hcc.1]; simp
              have := hall d (List.mem_append_right _ ha)
              rw [hdx] at this; cases this
    · rw [if_neg hc, if_neg hc]
end Go.E
namespace Go.E
set_option maxRecDepth 20000
set_option maxHeartbeats 2000000
open Go.Proofs
variable {G : Gh}
theorem c_number {r sc : Nat} {s : List UInt8} {b : Bool} {top : Int} (hs : s.length ≤ 1000000) : FnG Tryz.prog 96 [Pt r 0, I top] G [scO r sc s b]
    (fun v L' => ∃ n, v = I n ∧ (0 ≤ n ∧ n ≤ 999999) ∧ (∀ m, numOf (s.takeWhile isDg) top = some m → n = m) ∧ L' = [scO r sc (s.dropWhile isDg) (b || (numOf (s.takeWhile isDg) top).isNone)]) := by
  have hwl := while_len isDg s
  have cx_tl : PuG Tryz.prog 86 [S s, S [48, 49, 50, 51, 52, 53, 54, 55, 56, 57]] G (· = S (s.dropWhile isDg)) := by
    rw [← trimL_drop dgb_in]
    exact c_TrimLeft rfl (by kernel_rfl) rfl
  have e1 : s.take (((s.length : Nat) : Int) - (((s.dropWhile isDg).length : Nat) : Int)).toNat = s.takeWhile isDg := by
    rw [← take_drop_while]; congr 1; omega
  have cx_pnB := c_plainNumberB (G := G) (s := s.takeWhile isDg) (top := top) (by omega)
  rw [← e1] at cx_pnB
  cases hnum2 : (numOf (s.takeWhile isDg) top) with
  | none =>
    rw [← e1] at hnum2
    have hno : (!(numOf (s.take (((s.length : Nat) : Int) - (((s.dropWhile isDg).length : Nat) : Int)).toNat) top).isSome) = true := by rw [hnum2]; rfl
    refine g_enter [(0, _), (1, _)] Tryz.func96 (by kernel_rfl) Tryz.ntmps96 rfl rfl (by repeat' constructor) fun B hB hW => ?_
    repeat' (first | (refine run (t := tb) 400 rfl trivial ?_) | (refine k_op rfl ?_; first | refine v_op (g_ld rfl rfl rfl) rfl rfl ?_ | refine c_st1 rfl rfl rfl rfl ?_ | (refine c_rt rfl rfl rfl cx_tl rfl ?_)) | (refine k_tt rfl ‹_› ?_) | (refine k_any (s_any (id := 2) _ (fun _ h => h) mixed ?_); refine x_tks (t := tb) (fuel := 11) [0, 1, 2, 4, 5, 6, 9, 10, 13] (bts 20 9847) (by kernel_rfl) (by kernel_rfl) rfl rfl (Gh.le.refl _) sRr trivial ?_; ((refine (x_tkg (bts 20 9855) 3 rfl (by kernel_rfl) rfl (Gh.le.refl _) sRr) (g_ld rfl rfl rfl) rfl rfl ?_)); ((refine (x_tkg (bts 20 9983) 7 rfl (by kernel_rfl) rfl (Gh.le.refl _) sRr) (g_ld rfl rfl rfl) rfl rfl ?_)); refine x_tks (t := tb) (fuel := 6) [8, 11, 12] (bts 20 16383) (by kernel_rfl) (by kernel_rfl) rfl rfl (Gh.le.refl _) sRr ?_ ?_; (focus (repeat' (first | exact trivial | apply And.intro | omega))); refine x_all [14] (by kernel_rfl) (by decide) ⟨?_, trivial⟩; refine x_opg rfl rfl ?_; (refine c_pu rfl rfl rfl cx_pnB rfl ?_; rintro _ ⟨n, rfl, hnum, hn0, hn1⟩); refine x_ks gRr sRr (listed' := (bts 20 32767)) (by kernel_rfl) ?_; refine x_tks (t := tb) (fuel := 0) [15, 16, 17, 18, 19] (bts 20 1048575) (by kernel_rfl) (by kernel_rfl) rfl rfl (Gh.le.refl _) sRr trivial ?_; refine x_done (by kernel_rfl) (k_bk ?_)))
    exact k_rr (vs := [_]) rfl ⟨rfl, trivial⟩ rfl (List.Sublist.refl _) ⟨rfl, _, rfl, ⟨hn0, hn1⟩, fun m hm => (by cases hm), by simp⟩
  | some m =>
    rw [← e1] at hnum2
    have hno : (!(numOf (s.take (((s.length : Nat) : Int) - (((s.dropWhile isDg).length : Nat) : Int)).toNat) top).isSome) = false := by rw [hnum2]; rfl
    refine g_enter [(0, _), (1, _)] Tryz.func96 (by kernel_rfl) Tryz.ntmps96 rfl rfl (by repeat' constructor) fun B hB hW => ?_
    repeat' (first | (refine run (t := tb) 400 rfl trivial ?_) | (refine k_op rfl ?_; first | refine v_op (g_ld rfl rfl rfl) rfl rfl ?_ | refine c_st1 rfl rfl rfl rfl ?_ | (refine c_rt rfl rfl rfl cx_tl rfl ?_)) | (refine k_ff rfl ‹_› ?_) | (refine k_any (s_any (id := 2) _ (fun _ h => h) mixed ?_); refine x_tks (t := tb) (fuel := 11) [0, 1, 2, 4, 5, 6, 9, 10, 13] (bts 20 9847) (by kernel_rfl) (by kernel_rfl) rfl rfl (Gh.le.refl _) sRr trivial ?_; ((refine (x_tkg (bts 20 9855) 3 rfl (by kernel_rfl) rfl (Gh.le.refl _) sRr) (g_ld rfl rfl rfl) rfl rfl ?_)); ((refine (x_tkg (bts 20 9983) 7 rfl (by kernel_rfl) rfl (Gh.le.refl _) sRr) (g_ld rfl rfl rfl) rfl rfl ?_)); refine x_tks (t := tb) (fuel := 6) [8, 11, 12] (bts 20 16383) (by kernel_rfl) (by kernel_rfl) rfl rfl (Gh.le.refl _) sRr ?_ ?_; (focus (repeat' (first | exact trivial | apply And.intro | omega))); refine x_all [14] (by kernel_rfl) (by decide) ⟨?_, trivial⟩; refine x_opg rfl rfl ?_; (refine c_pu rfl rfl rfl cx_pnB rfl ?_; rintro _ ⟨n, rfl, hnum, hn0, hn1⟩); refine x_ks gRr sRr (listed' := (bts 20 32767)) (by kernel_rfl) ?_; refine x_tks (t := tb) (fuel := 0) [15, 16, 17, 18, 19] (bts 20 1048575) (by kernel_rfl) (by kernel_rfl) rfl rfl (Gh.le.refl _) sRr trivial ?_; refine x_done (by kernel_rfl) (k_bk ?_)))
    exact k_rr (vs := [_]) rfl ⟨rfl, trivial⟩ rfl (List.Sublist.refl _) ⟨rfl, _, rfl, ⟨hn0, hn1⟩, fun m' hm => hnum m' (by rw [hnum2]; exact hm), by simp⟩
theorem tk_len {l s : List UInt8} {b : Bool} : (tkS l s b).length ≤ s.length := by unfold tkS; split <;> simp
theorem tk1 {c : UInt8} {s : List UInt8} : tkR [c] s false = true ↔ ∃ r, s = c :: r := by
  cases s with
  | nil =>
    constructor
    · intro h; simp [tkR, List.isPrefixOf] at h
    · rintro ⟨r, h⟩; cases h
  | cons d r =>
    constructor
    · intro h
      have : c = d := by simpa [tkR, List.isPrefixOf] using h
      exact ⟨r, by rw [this]⟩
    · rintro ⟨r', h⟩
      simp only [List.cons.injEq] at h
      simp [tkR, List.isPrefixOf, h.1]
theorem tk1S {c : UInt8} {r : List UInt8} : tkS [c] (c :: r) false = r := by unfold tkS; rw [if_pos (tk1.2 ⟨r, rfl⟩)]; rfl
theorem tkT {l s : List UInt8} : tkR l s true = false := by simp [tkR]
theorem tkST {l s : List UInt8} : tkS l s true = s := by simp [tkS, tkT]
theorem tkSF {l s : List UInt8} {b : Bool} (h : tkR l s b = false) : tkS l s b = s := by simp [tkS, h]
def QuP (s : List UInt8) (b : Bool) (x s' : List UInt8) (b' : Bool) : Prop :=
  x.length + s'.length ≤ s.length ∧ (b' = false → b = false ∧ rdQuote s = some (.nd 116 x 0 [], s')) ∧ (b' = true → b = true ∨ rdQuote s = none)
theorem quP_mk (s : List UInt8) (b : Bool) : QuP s b ((tkS [39] s b).takeWhile isTb) (tkS [39] ((tkS [39] s b).dropWhile isTb) (!tkR [39] s b)) (!tkR [39] ((tkS [39] s b).dropWhile isTb) (!tkR [39] s b) || decide (12 < ((tkS [39] s b).takeWhile isTb).length)) := by
  have hl : ((tkS [39] s b).takeWhile isTb).length + (tkS [39] ((tkS [39] s b).dropWhile isTb) (!tkR [39] s b)).length ≤ s.length := by
    have h1 := tk_len (l := [39]) (s := s) (b := b)
    have h2 := while_len isTb (tkS [39] s b)
    have h3 := tk_len (l := [39]) (s := (tkS [39] s b).dropWhile isTb) (b := !tkR [39] s b)
    omega
  refine ⟨hl, ?_⟩
  rw [quote_law]
  cases b with
  | true => rw [tkST, tkT]; simp [tkT]
  | false =>
    cases ht : tkR [39] s false with
    | false =>
      simp only [Bool.not_false, tkT, Bool.true_or]
      refine ⟨fun h => (by cases h), fun _ => .inr ?_⟩
      cases s with
      | nil => rfl
      | cons c r =>
        dsimp only
        rw [if_neg]
        intro hc
        have : tkR [39] (c :: r) false = true := tk1.2 ⟨r, by rw [show c = 39 from UInt8.toNat_inj.1 hc]⟩
        rw [this] at ht; cases ht
    | true =>
      obtain ⟨r, rfl⟩ := tk1.1 ht
      rw [tk1S]
      dsimp only
      rw [if_pos (show (39 : UInt8).toNat = 39 from rfl), Bool.not_true]
      cases ht2 : tkR [39] (r.dropWhile isTb) false with
      | false =>
        simp only [Bool.not_false, Bool.true_or]
        refine ⟨fun h => (by cases h), fun _ => .inr ?_⟩
        cases hd : r.dropWhile isTb with
        | nil => rfl
        | cons d t =>
          dsimp only
          rw [if_neg]
          rintro ⟨hc, _⟩
          have : tkR [39] (r.dropWhile isTb) false = true := tk1.2 ⟨t, by rw [hd, show d = 39 from UInt8.toNat_inj.1 hc]⟩
          rw [this] at ht2; cases ht2
      | true =>
        obtain ⟨t, hd⟩ := tk1.1 ht2
        rw [hd, tk1S]
        dsimp only
        by_cases h12 : 12 < (r.takeWhile isTb).length
        · rw [decide_eq_true h12, if_neg (fun h => by omega)]
          exact ⟨fun h => (by cases h), fun _ => .inr rfl⟩
        · rw [decide_eq_false h12, if_pos ⟨rfl, by omega⟩]
          exact ⟨fun _ => ⟨rfl, rfl⟩, fun h => (by cases h)⟩
theorem c_quote {r sc : Nat} {s : List UInt8} {b : Bool} (hs : s.length ≤ 1000000) : FnG Tryz.prog 97 [Pt r 0] G [scO r sc s b]
    (fun v L' => ∃ x s' b', v = S x ∧ QuP s b x s' b' ∧ L' = [scO r sc s' b']) := by
  have hq := quP_mk s b
  have h1 := tk_len (l := [39]) (s := s) (b := b)
  have h2 := while_len isTb (tkS [39] s b)
  have h3 := tk_len (l := [39]) (s := (tkS [39] s b).dropWhile isTb) (b := !tkR [39] s b)
  have cx_wa := c_want (G := G) (r := r) (sc := sc) (s := s) (l := [39]) (b := b) ⟨hs, by simp⟩
  have cx_wb := c_want (G := G) (r := r) (sc := sc) (s := (tkS [39] s b).dropWhile isTb) (l := [39]) (b := !tkR [39] s b) ⟨by omega, by simp⟩
  have cx_tl : PuG Tryz.prog 86 [S (tkS [39] s b), S [97, 98, 99, 100, 101, 102, 103, 104, 105, 106, 107, 108, 109, 110, 111, 112, 113, 114, 115, 116, 117, 118, 119, 120, 121, 122, 48, 49, 50, 51, 52, 53, 54, 55, 56, 57, 32]] G (· = S ((tkS [39] s b).dropWhile isTb)) := by
    rw [← trimL_drop txb_in]
    exact c_TrimLeft rfl (by kernel_rfl) rfl
  have e1 : (tkS [39] s b).take ((((tkS [39] s b).length : Nat) : Int) - ((((tkS [39] s b).dropWhile isTb).length : Nat) : Int)).toNat = (tkS [39] s b).takeWhile isTb := by
    rw [← take_drop_while]; congr 1; omega
  by_cases h12 : 12 < ((tkS [39] s b).takeWhile isTb).length
  · rw [decide_eq_true h12, Bool.or_true] at hq
    rw [← e1] at h12
    refine g_enter [(0, _)] Tryz.func97 (by kernel_rfl) Tryz.ntmps97 rfl rfl (by repeat' constructor) fun B hB hW => ?_
    repeat' (first | (refine run (t := tb) 400 rfl trivial ?_) | (refine k_op rfl ?_; first | refine v_op (g_ld rfl rfl rfl) rfl rfl ?_ | refine c_st1 rfl rfl rfl rfl ?_ | (refine c_m1g rfl rfl rfl cx_wa rfl ?_; rintro _ _ rfl; dsimp only [List.cons_append, List.nil_append]) | (refine c_m1g rfl rfl rfl cx_wb rfl ?_; rintro _ _ rfl; dsimp only [List.cons_append, List.nil_append]) | (refine c_rt rfl rfl rfl cx_tl rfl ?_)) | (refine k_tt rfl (dTt (by omega)) ?_) | (refine k_any (s_any (id := 3) _ (fun _ h => h) mixed ?_); refine x_tks (t := tb) (fuel := 6) [0, 1, 2, 4, 5, 6, 9, 10] (bts 14 1655) (by kernel_rfl) (by kernel_rfl) rfl rfl (Gh.le.refl _) sRr trivial ?_; ((refine (x_tkg (bts 14 1663) 3 rfl (by kernel_rfl) rfl (Gh.le.refl _) sRr) (g_ld rfl rfl rfl) rfl rfl ?_)); ((refine (x_tkg (bts 14 1791) 7 rfl (by kernel_rfl) rfl (Gh.le.refl _) sRr) (g_ld rfl rfl rfl) rfl rfl ?_)); refine x_tks (t := tb) (fuel := 0) [8, 11, 12, 13] (bts 14 16383) (by kernel_rfl) (by kernel_rfl) rfl rfl (Gh.le.refl _) sRr ?_ ?_; (focus (repeat' (first | exact trivial | apply And.intro | omega))); refine x_done (by kernel_rfl) (k_bk ?_)))
    all_goals exact k_rr (vs := [_]) rfl ⟨rfl, trivial⟩ rfl (List.Sublist.refl _) ⟨rfl, _, _, _, rfl, by rw [e1]; exact hq, rfl⟩
  · rw [decide_eq_false h12, Bool.or_false] at hq
    rw [← e1] at h12
    refine g_enter [(0, _)] Tryz.func97 (by kernel_rfl) Tryz.ntmps97 rfl rfl (by repeat' constructor) fun B hB hW => ?_
    repeat' (first | (refine run (t := tb) 400 rfl trivial ?_) | (refine k_op rfl ?_; first | refine v_op (g_ld rfl rfl rfl) rfl rfl ?_ | refine c_st1 rfl rfl rfl rfl ?_ | (refine c_m1g rfl rfl rfl cx_wa rfl ?_; rintro _ _ rfl; dsimp only [List.cons_append, List.nil_append]) | (refine c_m1g rfl rfl rfl cx_wb rfl ?_; rintro _ _ rfl; dsimp only [List.cons_append, List.nil_append]) | (refine c_rt rfl rfl rfl cx_tl rfl ?_)) | (refine k_ff rfl (dFf (by omega)) ?_) | (refine k_any (s_any (id := 3) _ (fun _ h => h) mixed ?_); refine x_tks (t := tb) (fuel := 6) [0, 1, 2, 4, 5, 6, 9, 10] (bts 14 1655) (by kernel_rfl) (by kernel_rfl) rfl rfl (Gh.le.refl _) sRr trivial ?_; ((refine (x_tkg (bts 14 1663) 3 rfl (by kernel_rfl) rfl (Gh.le.refl _) sRr) (g_ld rfl rfl rfl) rfl rfl ?_)); ((refine (x_tkg (bts 14 1791) 7 rfl (by kernel_rfl) rfl (Gh.le.refl _) sRr) (g_ld rfl rfl rfl) rfl rfl ?_)); refine x_tks (t := tb) (fuel := 0) [8, 11, 12, 13] (bts 14 16383) (by kernel_rfl) (by kernel_rfl) rfl rfl (Gh.le.refl _) sRr ?_ ?_; (focus (repeat' (first | exact trivial | apply And.intro | omega))); refine x_done (by kernel_rfl) (k_bk ?_)))
    all_goals exact k_rr (vs := [_]) rfl ⟨rfl, trivial⟩ rfl (List.Sublist.refl _) ⟨rfl, _, _, _, rfl, by rw [e1]; exact hq, rfl⟩
end Go.E
namespace Go.E
def FnM (P : Program) (f : FuncId) (args : List Value) (G : Gh) (L : List Own) (R : Value → Gh → List Own → Prop) : Prop := Fn P f args G L (fun v G' L' => Gh.le G G' ∧ R v G' L')
section
variable {P : Program} {n : Nat} {D : List Deferred} {E : Env} {B : Base} {G : Gh} {L : List Own} {K : Act → World → Prop} {Q : Exit → Act → World → Prop}
theorem c_m1s {fo : Operand} {l : List Operand} {tys : Array TypeId} {d : Nat} {ty : TypeId} {pos : String} {aft : Array Edge} {g : Option (Nat × Bool)} {f : FuncId} {fi ca az vs : List Value} {b : Nat} {cs : List Value} {T : TypeId} {R : List Own} {Post : Value → Gh → List Own → Prop}
    [hd : DelB L b cs T R] (hf : ev E fo = some (.func (.func f) fi.toArray ca.toArray)) (ha : evs E l = some az) (hv : fi ++ az ++ ca = vs) (hc : FnM P f vs G [.blk b (.cells cs.toArray T (0, 0))] Post) (hlt : Nat.blt d n = true)
    (k : ∀ v G' L', Gh.le G G' → Post v G' L' → Nx n D ((d, v) :: E) B G' (L' ++ R) K) : Nx n D E B G L (ow P ⟨some d, .call ⟨.value fo, l.toArray, tys⟩, ty, pos, aft, g⟩ Q K) :=
  c_m1 hf ha hv hc hlt fun v G' L' h => k v G' L' h.1 h.2
theorem m_enter {f : FuncId} {fn : Func} {c : Code} {args : List Value} {R : Value → Gh → List Own → Prop} (E0 : Env) (hf : P.funcs[f]? = some fn) (hok : bodyOk P f = true) (hn : fn.ntmps = n) (hb : fn.body = some c)
    (hlen : Nat.ble args.length n = true) (hE : Sub E0 (params 0 args))
    (h : ∀ B, B.G = G → B.W = bks L → Nx n [] E0 B G L (cu P (.code c) [] (bp P fn (RPost B (fun v G' L' => Gh.le G G' ∧ R v G' L'))))) : FnM P f args G L R := c_enter E0 hf hok hn hb hlen hE h
end
end Go.E
namespace Go.E
set_option maxRecDepth 20000
set_option maxHeartbeats 2000000
open Go.Proofs
variable {G : Gh}
def RdP (f : List UInt8 → Option (V × List UInt8)) (s : List UInt8) (b : Bool) (u : V) (s' : List UInt8) (b' : Bool) : Prop :=
  s'.length ≤ s.length ∧ (b' = false → b = false ∧ f s = some (u, s')) ∧ (b' = true → (b = true ∨ f s = none) ∧ u.tot + 100 * s'.length ≤ 100 * s.length + 100)
def ValP (f : List UInt8 → Option (V × List UInt8)) (r sc : Nat) (s : List UInt8) (b : Bool) (v : Value) (G' : Gh) (L' : List Own) : Prop :=
  ∃ u c s' b', v = Ag (vcF c) ∧ V.rep G' u c ∧ L' = [scO r sc s' b'] ∧ RdP f s b u s' b'
def ValC (n sc : Nat) (qs : List TyP) : Prop := ∀ (G : Gh) (r : Nat) (k s : List UInt8) (b : Bool), ScI G sc qs → kindIn (tyq qs) k = true → s.length < n → s.length ≤ 1000 →
  FnM Tryz.prog 67 [Pt r 0, Ag (kdF k)] G [scO r sc s b] (ValP (rd (tyq qs) n k) r sc s b)
def rdList (f : List UInt8 → Option (V × List UInt8)) : List UInt8 → Option (V × List UInt8)
  | [] => none
  | d :: s' => if d.toNat = 91 then (match s' with
      | [] => none
      | e :: r => if e.toNat = 93 then some (.nd 91 [] 0 [], r) else (rdItems f 20 s' []).map fun x => (.nd 91 [] 0 x.1, x.2)) else none
theorem rdItems_more {f : List UInt8 → Option (V × List UInt8)} (hf : ∀ s x, f s = some x → x.2.length < s.length) : ∀ (m M : Nat) (s : List UInt8) (acc : List V), s.length < M →
    rdItems f m s acc = match rdItems f M s acc with
      | none => none
      | some x => if x.1.length ≤ acc.length + m then some x else none
  | 0, M, s, acc, hM => by
    cases hr : rdItems f M s acc with
    | none => rfl
    | some x =>
      have : acc.length + 1 ≤ x.1.length := by
        clear hM
        induction M generalizing s acc with
        | zero => cases hr
        | succ M ih =>
          unfold rdItems at hr
          cases hfs : f s with
          | none => rw [hfs] at hr; cases hr
          | some y =>
            rw [hfs] at hr
            obtain ⟨v, r⟩ := y
            cases r with
            | nil => cases hr
            | cons c r =>
              dsimp only at hr
              split at hr
              · have := ih _ _ hr; simp at this; omega
              · split at hr
                · simp only [Option.some.injEq] at hr; subst hr; simp
                · cases hr
      dsimp only
      rw [if_neg (by omega)]; rfl
  | m + 1, 0, s, acc, hM => by omega
  | m + 1, M + 1, s, acc, hM => by
    rw [rdItems, rdItems]
    cases hfs : f s with
    | none => rfl
    | some y =>
      have hlt := hf _ _ hfs
      obtain ⟨v, r⟩ := y
      cases r with
      | nil => rfl
      | cons c r =>
        simp only [List.length_cons] at hlt
        dsimp only
        split
        · rw [rdItems_more hf m M r (acc ++ [v]) (by omega)]
          cases rdItems f M r (acc ++ [v]) with
          | none => rfl
          | some x => dsimp only; simp only [List.length_append, List.length_singleton]; congr 1; simp; omega
        · split
          · dsimp only; rw [if_pos (by simp)]
          · rfl
theorem items_none {f : List UInt8 → Option (V × List UInt8)} {t : List UInt8} {vs : List V} : ∀ {m : Nat}, (f t = none ∨ ∃ u, f t = some (u, [])) → rdItems f m t vs = none
  | 0, _ => rfl
  | m + 1, h => by
    rw [rdItems]
    rcases h with h | ⟨u, h⟩ <;> rw [h]
theorem items_step {f : List UInt8 → Option (V × List UInt8)} {t t2 : List UInt8} {c : UInt8} {u : V} {vs : List V} {m : Nat} (h : f t = some (u, c :: t2)) (hm : 0 < m) :
    rdItems f m t vs = if c.toNat = 44 then rdItems f (m - 1) t2 (vs ++ [u]) else if c.toNat = 93 then some (vs ++ [u], t2) else none := by
  obtain ⟨m, rfl⟩ : ∃ k, m = k + 1 := ⟨m - 1, by omega⟩
  rw [rdItems, h]; rfl
theorem rd_short {ts : List Ty} {n : Nat} {k s : List UInt8} {x : V × List UInt8} (h : rd ts n k s = some x) : x.2.length < s.length := by
  have := rd_tot n k s x h
  have := tot_pos x.1
  omega
abbrev tKnd : TypeId := 37
abbrev lo4 (b : Nat) (cs : List Value) : Own := .blk b (.cells cs.toArray tVal (0, 0))
theorem c_list {n r sc : Nat} {qs : List TyP} {k s : List UInt8} {b : Bool} (hV : ValC n sc qs) (hS : ScI G sc qs) (hk : kindIn (tyq qs) k = true) (hs : s.length ≤ n ∧ s.length ≤ 1000) :
    FnM Tryz.prog 91 [Pt r 0, Ag (kdF k)] G [scO r sc s b] (ValP (rdList (rd (tyq qs) n k)) r sc s b) := by
  have cx_wa := c_want (G := G) (r := r) (sc := sc) (s := s) (l := [91]) (b := b) ⟨by omega, by simp⟩
  have cx_tk := c_take (G := G) (r := r) (sc := sc) (s := tkS [91] s b) (l := [93]) (b := !tkR [91] s b) ⟨by have := tk_len (l := [91]) (s := s) (b := b); omega, by simp⟩
  simp only [kdF]
  cases ht : tkR [91] s b with
  | false =>
    rw [ht, tkSF ht] at cx_wa cx_tk
    rw [Bool.not_false, tkT, tkST] at cx_tk
    have cx_wb := c_want (G := G) (r := r) (sc := sc) (s := s) (l := [93]) (b := true) ⟨by omega, by simp⟩
    rw [tkT, tkST] at cx_wb
    refine m_enter [(0, _), (1, _)] Tryz.func91 (by kernel_rfl) Tryz.ntmps91 rfl rfl (by repeat' constructor) fun B hB hW => ?_
    repeat' (first | (refine run (t := tb) 400 rfl trivial ?_) | (refine k_op rfl ?_; first | refine c_bx rfl rfl rfl fun _ => ?_ | refine c_al rfl rfl fun _ => ?_ | refine v_op (g_bld rfl rfl) rfl rfl ?_ | refine c_stA rfl rfl rfl rfl rfl rfl ?_ | (refine c_m1g rfl rfl rfl cx_wa rfl ?_; rintro _ _ rfl; dsimp only [List.cons_append, List.nil_append]) | (refine c_m1g rfl rfl rfl cx_tk rfl ?_; rintro _ _ ⟨rfl, rfl⟩; dsimp only [List.cons_append, List.nil_append])) | (refine k_ff rfl rfl ?_))
    rename_i x3 x4 x5 _
    refine k_loop (ι := Unit) (fun i => True) (fun i => [(0, Pt r 0), (4, Pt x4 0), (5, Pt x5 0)]) (fun _ => G) (fun i => [scO r sc s true, lo4 x5 [U8 91, S [], I 0, nilS], lo4 x4 [U8 0, S [], I 0, nilS]]) (fun i => 0) () ?_ (by repeat' constructor) rfl (by repeat (first | exact List.nil_sublist _ | apply List.Sublist.cons_cons)) (fun i Hi => ?_)
    · trivial
    repeat' (first | (refine run (t := tb) 400 rfl trivial ?_) | (refine k_op rfl ?_; first | refine c_stA rfl rfl rfl rfl rfl rfl ?_ | refine v_op (g_ld rfl rfl rfl) rfl rfl ?_ | refine v_op (g_ldA rfl rfl rfl rfl) rfl rfl ?_ | refine v_op (g_lenL rfl) rfl rfl ?_ | (refine c_m1g rfl rfl rfl cx_wb rfl ?_; rintro _ _ rfl; dsimp only [List.cons_append, List.nil_append])) | (refine k_ff rfl rfl ?_))
    refine k_rr (vs := [_]) rfl ⟨rc_A rfl rfl rfl rfl, trivial⟩ rfl (by repeat (first | exact List.nil_sublist _ | apply List.Sublist.cons_cons)) ⟨Gh.le.refl _, .nd 91 [] 0 [], ⟨91, [], 0, none, 0, 0⟩, s, true, rfl, rep_leaf (by decide) (by decide), rfl, Nat.le_refl _, fun h => (by cases h), fun _ => ⟨?_, by simp only [V.tot, V.tots, List.length_nil]; omega⟩⟩
    cases b with
    | true => exact .inl rfl
    | false =>
      right
      cases s with
      | nil => rfl
      | cons d r' =>
        unfold rdList
        dsimp only
        rw [if_neg]
        intro h91
        have : tkR [91] (d :: r') false = true := tk1.2 ⟨r', by rw [show d = 91 from UInt8.toNat_inj.1 h91]⟩
        rw [this] at ht; cases ht
  | true =>
    have hb : b = false := by cases b with | true => rw [tkT] at ht; cases ht | false => rfl
    subst hb
    obtain ⟨s1, rfl⟩ := tk1.1 ht
    rw [ht, tk1S] at cx_wa cx_tk
    rw [Bool.not_true] at cx_wa cx_tk
    simp only [List.length_cons] at hs
    cases ht2 : tkR [93] s1 false with
    | true =>
      obtain ⟨s2, rfl⟩ := tk1.1 ht2
      rw [ht2, tk1S] at cx_tk
      refine m_enter [(0, _), (1, _)] Tryz.func91 (by kernel_rfl) Tryz.ntmps91 rfl rfl (by repeat' constructor) fun B hB hW => ?_
      repeat' (first | (refine run (t := tb) 400 rfl trivial ?_) | (refine k_op rfl ?_; first | refine c_bx rfl rfl rfl fun _ => ?_ | refine c_al rfl rfl fun _ => ?_ | refine v_op (g_bld rfl rfl) rfl rfl ?_ | refine c_stA rfl rfl rfl rfl rfl rfl ?_ | refine v_op (g_ldA rfl rfl rfl rfl) rfl rfl ?_ | (refine c_m1g rfl rfl rfl cx_wa rfl ?_; rintro _ _ rfl; dsimp only [List.cons_append, List.nil_append]) | (refine c_m1g rfl rfl rfl cx_tk rfl ?_; rintro _ _ ⟨rfl, rfl⟩; dsimp only [List.cons_append, List.nil_append])) | (refine k_tt rfl rfl ?_))
      refine k_rr (vs := [_]) rfl ⟨rc_A rfl rfl rfl rfl, trivial⟩ rfl (by repeat (first | exact List.nil_sublist _ | apply List.Sublist.cons_cons)) ⟨Gh.le.refl _, .nd 91 [] 0 [], ⟨91, [], 0, none, 0, 0⟩, s2, false, rfl, rep_leaf (by decide) (by decide), rfl, by simp only [List.length_cons]; omega, fun _ => ⟨rfl, rfl⟩, fun h => (by cases h)⟩
    | false =>
      rw [ht2, tkSF ht2] at cx_tk
      have hR : rdList (rd (tyq qs) n k) (91 :: s1) = (rdItems (rd (tyq qs) n k) 20 s1 []).map fun x => (.nd 91 [] 0 x.1, x.2) := by
        unfold rdList
        dsimp only
        rw [if_pos (show (91 : UInt8).toNat = 91 from rfl)]
        cases s1 with
        | nil =>
          have : rd (tyq qs) n k [] = none := by
            cases h : rd (tyq qs) n k [] with
            | none => rfl
            | some x => have := rd_short h; simp at this
          simp [rdItems, this]
        | cons e r' =>
          dsimp only
          rw [if_neg]
          intro h93
          have : tkR [93] (e :: r') false = true := tk1.2 ⟨r', by rw [show e = 93 from UInt8.toNat_inj.1 h93]⟩
          rw [this] at ht2; cases ht2
      have hmore := rdItems_more (f := rd (tyq qs) n k) (fun s x h => rd_short h) 20 (s1.length + 1) s1 [] (by omega)
      refine m_enter [(0, _), (1, _)] Tryz.func91 (by kernel_rfl) Tryz.ntmps91 rfl rfl (by repeat' constructor) fun B hB hW => ?_
      repeat' (first | (refine run (t := tb) 400 rfl trivial ?_) | (refine k_op rfl ?_; first | refine c_bx rfl rfl rfl fun _ => ?_ | refine c_al rfl rfl fun _ => ?_ | refine v_op (g_bld rfl rfl) rfl rfl ?_ | refine c_stA rfl rfl rfl rfl rfl rfl ?_ | (refine c_m1g rfl rfl rfl cx_wa rfl ?_; rintro _ _ rfl; dsimp only [List.cons_append, List.nil_append]) | (refine c_m1g rfl rfl rfl cx_tk rfl ?_; rintro _ _ ⟨rfl, rfl⟩; dsimp only [List.cons_append, List.nil_append])) | (refine k_ff rfl rfl ?_))
      rename_i x3 x4 x5 _
      refine Nx.addNil tVal 4 (Nx.perm (List.Perm.swap _ _ _) ?_)
      refine k_loop (ι := List V × List VC × Option Addr × Nat × List UInt8 × Nat × Gh) (fun q => (V.reps q.2.2.2.2.2.2 q.1 q.2.1 ∧ Gh.le G q.2.2.2.2.2.2) ∧ (rdItems (rd (tyq qs) n k) (s1.length + 1) s1 [] = rdItems (rd (tyq qs) n k) q.2.2.2.2.2.1 q.2.2.2.2.1 q.1 ∧ q.2.2.2.2.1.length < q.2.2.2.2.2.1) ∧ (V.tots q.1 + 100 * q.2.2.2.2.1.length + 100 ≤ 100 * (s1.length + 1) ∧ q.2.2.2.2.1.length ≤ s1.length)) (fun q => [(0, Pt r 0), (3, Pt x3 0), (4, Pt x4 0), (5, Pt x5 0)]) (fun q => q.2.2.2.2.2.2) (fun q => [scO r sc q.2.2.2.2.1 false, .acc (.slice q.2.2.1 q.1.length q.2.2.2.1) tVal 4 q.1.length (rows vcF q.2.1), lo4 x5 [U8 91, S [], I 0, .slice q.2.2.1 q.1.length q.2.2.2.1], lo4 x4 [U8 0, S [], I 0, nilS], .blk x3 (.cells (List.toArray [S (sg k), S (bs k), S (nm k)]) tKnd (0, 0))]) (fun q => q.2.2.2.2.1.length) ([], [], none, 0, s1, s1.length + 1, G) ?_ (by repeat' constructor) rfl sRr (fun q Hq => ?_)
      · exact ⟨⟨rfl, Gh.le.refl _⟩, ⟨rfl, by dsimp only; omega⟩, by dsimp only; simp only [V.tots]; omega, Nat.le_refl _⟩
      obtain ⟨vs, cs, a, cap, t, m, Gq⟩ := q
      dsimp only at Hq ⊢
      obtain ⟨⟨hreps, hgq⟩, ⟨hit, htm⟩, hT, htl⟩ := Hq
      have hcl := reps_len hreps
      have hkl := tots_len vs
      have cx_vl := hV Gq r k t false (hS.mono hgq) hk (by omega) (by omega)
      repeat' (first | (refine run (t := tb) 400 rfl trivial ?_) | (refine k_op rfl ?_; (refine v_op (g_ld rfl rfl rfl) rfl rfl ?_)) | (refine k_tt rfl rfl ?_))
      (refine k_any (s_any (id := 6) [.blk x3 (.cells (List.toArray [S (sg k), S (bs k), S (nm k)]) tKnd (0, 0))] (by intro y hy; simp only [List.mem_cons, List.not_mem_nil, or_false] at hy ⊢; simp [hy]) mixed ?_); refine x_tks (t := tb) (fuel := 7) [0, 2] (bts 9 5) (by kernel_rfl) (by kernel_rfl) rfl rfl gRr (by repeat (first | exact List.Sublist.refl _ | apply List.Sublist.cons)) ?_ ?_; (focus (repeat' (exact trivial))); ((refine (x_tkg (bts 9 13) 3 rfl (by kernel_rfl) rfl gRr (by repeat (first | exact List.Sublist.refl _ | apply List.Sublist.cons))) (g_ldA rfl rfl rfl rfl) rfl rfl ?_)); refine x_all [1, 4] (by kernel_rfl) (by decide) ⟨?_, ?_, trivial⟩; (focus (refine x_opg rfl rfl ?_; (refine v_op (g_ld rfl rfl rfl) rfl rfl ?_); refine x_kk gRr (by repeat (first | exact List.Sublist.refl _ | apply List.Sublist.cons)) (listed' := (bts 9 15)) (by kernel_rfl) ?_; refine x_all [4] (by kernel_rfl) (by decide) ⟨?_, trivial⟩; refine x_opg rfl rfl ?_; (refine c_m1s rfl rfl rfl cx_vl rfl ?_; rintro _ G1 _ hle ⟨u1, c1, t1, b1, rfl, hrep, rfl, hP⟩; dsimp only [List.cons_append, List.nil_append]; skip); refine x_kk (by (assumption)) (by repeat (first | exact List.Sublist.refl _ | apply List.Sublist.cons)) (listed' := (bts 9 31)) (by kernel_rfl) ?_; refine x_all [5] (by kernel_rfl) (by decide) ⟨?_, trivial⟩; refine x_opg rfl rfl ?_; (refine c_bsl rfl rfl rfl rfl rfl rfl fun _ => ?_); refine x_kk (by (assumption)) (by repeat (first | exact List.Sublist.refl _ | apply List.Sublist.cons)) (listed' := (bts 9 63)) (by kernel_rfl) ?_; refine x_all [6] (by kernel_rfl) (by decide) ⟨?_, trivial⟩; refine x_opg rfl rfl ?_; ((refine c_apX rfl rfl rfl rfl rfl rfl rfl rfl rfl ?_ fun _ _ => ?_; (focus ((omega); done)))); refine x_kk (by (assumption)) (by repeat (first | exact List.Sublist.refl _ | apply List.Sublist.cons)) (listed' := (bts 9 127)) (by kernel_rfl) ?_; refine x_tks (t := tb) (fuel := 1) [7] (bts 9 255) (by kernel_rfl) (by kernel_rfl) rfl rfl (by (assumption)) (by repeat (first | exact List.Sublist.refl _ | apply List.Sublist.cons)) ?_ ?_; (focus (repeat' (exact trivial))); refine x_all [8] (by kernel_rfl) (by decide) ⟨?_, trivial⟩; refine x_opg rfl rfl ?_; (refine c_st1 rfl rfl rfl rfl ?_); refine x_kk (by (assumption)) (by repeat (first | exact List.Sublist.refl _ | apply List.Sublist.cons)) (listed' := (bts 9 511)) (by kernel_rfl) ?_; refine x_done (by kernel_rfl) (k_bk ?_))); rotate_left 1; (focus (refine x_opg rfl rfl ?_; (refine c_m1s rfl rfl rfl cx_vl rfl ?_; rintro _ G1 _ hle ⟨u1, c1, t1, b1, rfl, hrep, rfl, hP⟩; dsimp only [List.cons_append, List.nil_append]; skip); refine x_kk (by (assumption)) (by repeat (first | exact List.Sublist.refl _ | apply List.Sublist.cons)) (listed' := (bts 9 29)) (by kernel_rfl) ?_; refine x_all [1, 5] (by kernel_rfl) (by decide) ⟨?_, ?_, trivial⟩; (focus (refine x_opg rfl rfl ?_; (refine v_op (g_ld rfl rfl rfl) rfl rfl ?_); refine x_kk (by (assumption)) (by repeat (first | exact List.Sublist.refl _ | apply List.Sublist.cons)) (listed' := (bts 9 31)) (by kernel_rfl) ?_; refine x_all [5] (by kernel_rfl) (by decide) ⟨?_, trivial⟩; refine x_opg rfl rfl ?_; (refine c_bsl rfl rfl rfl rfl rfl rfl fun _ => ?_); refine x_kk (by (assumption)) (by repeat (first | exact List.Sublist.refl _ | apply List.Sublist.cons)) (listed' := (bts 9 63)) (by kernel_rfl) ?_; refine x_all [6] (by kernel_rfl) (by decide) ⟨?_, trivial⟩; refine x_opg rfl rfl ?_; ((refine c_apX rfl rfl rfl rfl rfl rfl rfl rfl rfl ?_ fun _ _ => ?_; (focus ((omega); done)))); refine x_kk (by (assumption)) (by repeat (first | exact List.Sublist.refl _ | apply List.Sublist.cons)) (listed' := (bts 9 127)) (by kernel_rfl) ?_; refine x_tks (t := tb) (fuel := 1) [7] (bts 9 255) (by kernel_rfl) (by kernel_rfl) rfl rfl (by (assumption)) (by repeat (first | exact List.Sublist.refl _ | apply List.Sublist.cons)) ?_ ?_; (focus (repeat' (exact trivial))); refine x_all [8] (by kernel_rfl) (by decide) ⟨?_, trivial⟩; refine x_opg rfl rfl ?_; (refine c_st1 rfl rfl rfl rfl ?_); refine x_kk (by (assumption)) (by repeat (first | exact List.Sublist.refl _ | apply List.Sublist.cons)) (listed' := (bts 9 511)) (by kernel_rfl) ?_; refine x_done (by kernel_rfl) (k_bk ?_))); rotate_left 1; (focus (refine x_opg rfl rfl ?_; (refine c_bsl rfl rfl rfl rfl rfl rfl fun _ => ?_); refine x_kk (by (assumption)) (by repeat (first | exact List.Sublist.refl _ | apply List.Sublist.cons)) (listed' := (bts 9 61)) (by kernel_rfl) ?_; refine x_all [1] (by kernel_rfl) (by decide) ⟨?_, trivial⟩; refine x_opg rfl rfl ?_; (refine v_op (g_ld rfl rfl rfl) rfl rfl ?_); refine x_kk (by (assumption)) (by repeat (first | exact List.Sublist.refl _ | apply List.Sublist.cons)) (listed' := (bts 9 63)) (by kernel_rfl) ?_; refine x_all [6] (by kernel_rfl) (by decide) ⟨?_, trivial⟩; refine x_opg rfl rfl ?_; ((refine c_apX rfl rfl rfl rfl rfl rfl rfl rfl rfl ?_ fun _ _ => ?_; (focus ((omega); done)))); refine x_kk (by (assumption)) (by repeat (first | exact List.Sublist.refl _ | apply List.Sublist.cons)) (listed' := (bts 9 127)) (by kernel_rfl) ?_; refine x_tks (t := tb) (fuel := 1) [7] (bts 9 255) (by kernel_rfl) (by kernel_rfl) rfl rfl (by (assumption)) (by repeat (first | exact List.Sublist.refl _ | apply List.Sublist.cons)) ?_ ?_; (focus (repeat' (exact trivial))); refine x_all [8] (by kernel_rfl) (by decide) ⟨?_, trivial⟩; refine x_opg rfl rfl ?_; (refine c_st1 rfl rfl rfl rfl ?_); refine x_kk (by (assumption)) (by repeat (first | exact List.Sublist.refl _ | apply List.Sublist.cons)) (listed' := (bts 9 511)) (by kernel_rfl) ?_; refine x_done (by kernel_rfl) (k_bk ?_))); rotate_left 1)); rotate_left 2)
      all_goals
        rename_i y1 yc
        have hrow : rows vcF cs ++ [U8 (c1.what : Nat), S c1.text, I c1.tag, c1.sl] = rows vcF (cs ++ [c1]) := (rows_snoc vcF cs c1).symm
        have hr2 : V.reps G1 (vs ++ [u1]) (cs ++ [c1]) := reps_snoc hrep (reps_mono hle hreps)
        have hvl : (vs ++ [u1]).length = vs.length + 1 := by simp
        have htu : V.tots (vs ++ [u1]) = V.tots vs + u1.tot := by simp [tots_app, V.tots]
        have hgl := hgq.trans hle
        obtain ⟨hPl, hP0, hP1⟩ := hP
        rw [hrow]
        cases b1 with
        | true =>
          obtain ⟨hno, hto⟩ := hP1 rfl
          have hno : rd (tyq qs) n k t = none := by
            rcases hno with h | h
            · cases h
            · exact h
          have hit2 : rdItems (rd (tyq qs) n k) m t vs = none := items_none (.inl hno)
          have cx_tm := c_take (G := G1) (r := r) (sc := sc) (s := t1) (l := [44]) (b := true) ⟨by omega, by simp⟩
          have cx_wb := c_want (G := G1) (r := r) (sc := sc) (s := t1) (l := [93]) (b := true) ⟨by omega, by simp⟩
          rw [tkT, tkST] at cx_tm cx_wb
          repeat' (first | (refine run (t := tb) 400 rfl trivial ?_) | (refine k_op rfl ?_; first | refine c_st1 rfl rfl rfl rfl ?_ | refine c_stA rfl rfl rfl rfl rfl rfl ?_ | refine v_op (g_ld rfl rfl rfl) rfl rfl ?_ | refine v_op (g_ldA rfl rfl rfl rfl) rfl rfl ?_ | refine v_op (g_lenL rfl) rfl rfl ?_ | (refine c_m1g rfl rfl rfl cx_wb rfl ?_; rintro _ _ rfl; dsimp only [List.cons_append, List.nil_append]) | (refine c_m1g rfl rfl rfl cx_tm rfl ?_; rintro _ _ ⟨rfl, rfl⟩; dsimp only [List.cons_append, List.nil_append])) | (refine k_tt rfl rfl ?_) | refine k_if rfl (fun _ => ?_) (fun _ => ?_))
          all_goals (refine Nx.sealS (v := .slice (some ⟨y1, 0, none⟩) (vs.length + 1) yc) fun G2 hG2 hsl => ?_)
          all_goals refine k_rr (vs := [_]) rfl ⟨rc_A rfl rfl rfl rfl, trivial⟩ rfl (by repeat (first | exact List.nil_sublist _ | apply List.Sublist.cons_cons)) ⟨hgl.trans hG2, .nd 91 [] 0 (vs ++ [u1]), ⟨91, [], 0, some ⟨y1, 0, none⟩, vs.length + 1, yc⟩, t1, true, rfl, rep_mk (by decide) (by decide) (fun h => absurd h (by decide)) hvl.symm (by rw [List.length_append, List.length_singleton, hcl]; exact hsl) (reps_mono hG2 hr2), rfl, by simp only [List.length_cons]; omega, fun h => (by cases h), fun _ => ⟨.inr (by rw [hR, hmore, hit, hit2]; rfl), by rw [nd_tot, htu]; simp only [List.length_cons, List.length_nil]; omega⟩⟩
        | false =>
          obtain ⟨_, hfs⟩ := hP0 rfl
          have htot := rd_tot n k t _ hfs
          dsimp only at htot
          have hup := tot_pos u1
          have cx_tm := c_take (G := G1) (r := r) (sc := sc) (s := t1) (l := [44]) (b := false) ⟨by omega, by simp⟩
          cases ht3 : tkR [44] t1 false with
          | true =>
            obtain ⟨t2, rfl⟩ := tk1.1 ht3
            rw [ht3, tk1S] at cx_tm
            have hit2 := items_step (m := m) (vs := vs) hfs (by omega)
            rw [if_pos (show (44 : UInt8).toNat = 44 from rfl)] at hit2
            simp only [List.length_cons] at htot hPl
            have hlt : t2.length < m - 1 := by omega
            repeat' (first | (refine run (t := tb) 400 rfl trivial ?_) | (refine k_op rfl ?_; (refine c_m1g rfl rfl rfl cx_tm rfl ?_; rintro _ _ ⟨rfl, rfl⟩; dsimp only [List.cons_append, List.nil_append])) | (refine k_ff rfl rfl ?_))
            exact k_rd (vs ++ [u1], cs ++ [c1], some ⟨y1, 0, none⟩, yc, t2, m - 1, G1) ⟨⟨hr2, hgl⟩, ⟨by rw [hit, hit2], hlt⟩, by dsimp only; omega, by dsimp only; omega⟩ (by dsimp only; omega) (by repeat' constructor) rfl (by rw [hvl]; repeat (first | exact List.Sublist.refl _ | apply List.Sublist.cons_cons | apply List.Sublist.cons))
          | false =>
            rw [ht3, tkSF ht3] at cx_tm
            have cx_wb := c_want (G := G1) (r := r) (sc := sc) (s := t1) (l := [93]) (b := false) ⟨by omega, by simp⟩
            cases ht4 : tkR [93] t1 false with
            | true =>
              obtain ⟨t2, rfl⟩ := tk1.1 ht4
              rw [ht4, tk1S, Bool.not_true] at cx_wb
              have hit2 := items_step (m := m) (vs := vs) hfs (by omega)
              rw [if_neg (show ¬ (93 : UInt8).toNat = 44 by decide), if_pos (show (93 : UInt8).toNat = 93 from rfl)] at hit2
              simp only [List.length_cons] at htot hPl
              by_cases h20 : vs.length + 1 ≤ 20
              · repeat' (first | (refine run (t := tb) 400 rfl trivial ?_) | (refine k_op rfl ?_; first | refine c_stA rfl rfl rfl rfl rfl rfl ?_ | refine v_op (g_ld rfl rfl rfl) rfl rfl ?_ | refine v_op (g_ldA rfl rfl rfl rfl) rfl rfl ?_ | refine v_op (g_lenL rfl) rfl rfl ?_ | (refine c_m1g rfl rfl rfl cx_wb rfl ?_; rintro _ _ rfl; dsimp only [List.cons_append, List.nil_append]) | (refine c_m1g rfl rfl rfl cx_tm rfl ?_; rintro _ _ ⟨rfl, rfl⟩; dsimp only [List.cons_append, List.nil_append])) | (refine k_tt rfl rfl ?_) | (refine k_ff rfl (dFf (by omega)) ?_))
                refine Nx.sealS (v := .slice (some ⟨y1, 0, none⟩) (vs.length + 1) yc) fun G2 hG2 hsl => ?_
                refine k_rr (vs := [_]) rfl ⟨rc_A rfl rfl rfl rfl, trivial⟩ rfl (by repeat (first | exact List.nil_sublist _ | apply List.Sublist.cons_cons)) ⟨hgl.trans hG2, .nd 91 [] 0 (vs ++ [u1]), ⟨91, [], 0, some ⟨y1, 0, none⟩, vs.length + 1, yc⟩, t2, false, rfl, rep_mk (by decide) (by decide) (fun h => absurd h (by decide)) hvl.symm (by rw [List.length_append, List.length_singleton, hcl]; exact hsl) (reps_mono hG2 hr2), rfl, by simp only [List.length_cons]; omega, fun _ => ⟨rfl, by rw [hR, hmore, hit, hit2]; dsimp only; rw [if_pos (by simp; omega)]; rfl⟩, fun h => (by cases h)⟩
              · repeat' (first | (refine run (t := tb) 400 rfl trivial ?_) | (refine k_op rfl ?_; first | refine c_st1 rfl rfl rfl rfl ?_ | refine c_stA rfl rfl rfl rfl rfl rfl ?_ | refine v_op (g_ld rfl rfl rfl) rfl rfl ?_ | refine v_op (g_ldA rfl rfl rfl rfl) rfl rfl ?_ | refine v_op (g_lenL rfl) rfl rfl ?_ | (refine c_m1g rfl rfl rfl cx_wb rfl ?_; rintro _ _ rfl; dsimp only [List.cons_append, List.nil_append]) | (refine c_m1g rfl rfl rfl cx_tm rfl ?_; rintro _ _ ⟨rfl, rfl⟩; dsimp only [List.cons_append, List.nil_append])) | (refine k_tt rfl (by first | rfl | (refine decide_eq_true ?_; (omega))) ?_))
                refine Nx.sealS (v := .slice (some ⟨y1, 0, none⟩) (vs.length + 1) yc) fun G2 hG2 hsl => ?_
                refine k_rr (vs := [_]) rfl ⟨rc_A rfl rfl rfl rfl, trivial⟩ rfl (by repeat (first | exact List.nil_sublist _ | apply List.Sublist.cons_cons)) ⟨hgl.trans hG2, .nd 91 [] 0 (vs ++ [u1]), ⟨91, [], 0, some ⟨y1, 0, none⟩, vs.length + 1, yc⟩, t2, true, rfl, rep_mk (by decide) (by decide) (fun h => absurd h (by decide)) hvl.symm (by rw [List.length_append, List.length_singleton, hcl]; exact hsl) (reps_mono hG2 hr2), rfl, by simp only [List.length_cons]; omega, fun h => (by cases h), fun _ => ⟨.inr (by rw [hR, hmore, hit, hit2]; dsimp only; rw [if_neg (by simp; omega)]; rfl), by rw [nd_tot, htu]; simp only [List.length_cons, List.length_nil]; omega⟩⟩
            | false =>
              rw [ht4, tkSF ht4, Bool.not_false] at cx_wb
              have hit2 : rdItems (rd (tyq qs) n k) m t vs = none := by
                cases t1 with
                | nil => exact items_none (.inr ⟨u1, hfs⟩)
                | cons d t2 =>
                  rw [items_step hfs (by omega), if_neg, if_neg]
                  · intro h93
                    have : tkR [93] (d :: t2) false = true := tk1.2 ⟨t2, by rw [show d = 93 from UInt8.toNat_inj.1 h93]⟩
                    rw [this] at ht4; cases ht4
                  · intro h44
                    have : tkR [44] (d :: t2) false = true := tk1.2 ⟨t2, by rw [show d = 44 from UInt8.toNat_inj.1 h44]⟩
                    rw [this] at ht3; cases ht3
              repeat' (first | (refine run (t := tb) 400 rfl trivial ?_) | (refine k_op rfl ?_; first | refine c_st1 rfl rfl rfl rfl ?_ | refine c_stA rfl rfl rfl rfl rfl rfl ?_ | refine v_op (g_ld rfl rfl rfl) rfl rfl ?_ | refine v_op (g_ldA rfl rfl rfl rfl) rfl rfl ?_ | refine v_op (g_lenL rfl) rfl rfl ?_ | (refine c_m1g rfl rfl rfl cx_wb rfl ?_; rintro _ _ rfl; dsimp only [List.cons_append, List.nil_append]) | (refine c_m1g rfl rfl rfl cx_tm rfl ?_; rintro _ _ ⟨rfl, rfl⟩; dsimp only [List.cons_append, List.nil_append])) | (refine k_tt rfl rfl ?_) | refine k_if rfl (fun _ => ?_) (fun _ => ?_))
              all_goals (refine Nx.sealS (v := .slice (some ⟨y1, 0, none⟩) (vs.length + 1) yc) fun G2 hG2 hsl => ?_)
              all_goals refine k_rr (vs := [_]) rfl ⟨rc_A rfl rfl rfl rfl, trivial⟩ rfl (by repeat (first | exact List.nil_sublist _ | apply List.Sublist.cons_cons)) ⟨hgl.trans hG2, .nd 91 [] 0 (vs ++ [u1]), ⟨91, [], 0, some ⟨y1, 0, none⟩, vs.length + 1, yc⟩, t1, true, rfl, rep_mk (by decide) (by decide) (fun h => absurd h (by decide)) hvl.symm (by rw [List.length_append, List.length_singleton, hcl]; exact hsl) (reps_mono hG2 hr2), rfl, by simp only [List.length_cons]; omega, fun h => (by cases h), fun _ => ⟨.inr (by rw [hR, hmore, hit, hit2]; rfl), by rw [nd_tot, htu]; simp only [List.length_cons, List.length_nil]; omega⟩⟩
end Go.E
namespace Go.E
set_option maxRecDepth 20000
set_option maxHeartbeats 2000000
open Go.Proofs
variable {G : Gh}
def zVC : VC := ⟨0, [], 0, none, 0, 0⟩
def FldP (t : Ty) (bf of : Nat) (f : List UInt8 → List UInt8 → Option (V × List UInt8)) (r sc : Nat) (s : List UInt8) (b : Bool) (v : Value) (G' : Gh) (L' : List Own) : Prop :=
  ∃ s' b', L' = [scO r sc s' b'] ∧ s'.length ≤ s.length ∧
    ((v = Tu [Ag (vcF zVC), .pointer none] ∧ b' = true ∧ (b = true ∨ rdField f t s = none)) ∨
     (∃ j u c, j < t.fields.length ∧ v = Tu [Ag (vcF c), Pt bf (of + j * 6)] ∧ V.rep G' (.nd 61 [] (nth t.fields j).tag [u]) c ∧ b = false ∧ u.tot + 100 * s'.length + 100 ≤ 100 * s.length ∧
       (b' = false → rdField f t s = some ((nth t.fields j, u), s')) ∧ (b' = true → rdField f t s = none)))
abbrev zP : Value := Ag [U8 0, S [], I 0, nilS]
theorem field_none {f : List UInt8 → List UInt8 → Option (V × List UInt8)} {t : Ty} {s : List UInt8} (h : numOf (s.takeWhile isDg) 200 = none ∨ ∃ m, numOf (s.takeWhile isDg) 200 = some m ∧ fldT t.fields m = none) : rdField f t s = none := by
  unfold rdField rdNum
  rcases h with h | ⟨m, h, h2⟩
  · rw [h]; rfl
  · rw [h]; dsimp only [Option.map_some]; rw [h2]
theorem field_noeq {f : List UInt8 → List UInt8 → Option (V × List UInt8)} {t : Ty} {s : List UInt8} {m : Int} (h : numOf (s.takeWhile isDg) 200 = some m) (h2 : ∀ s2, s.dropWhile isDg ≠ 61 :: s2) : rdField f t s = none := by
  unfold rdField rdNum
  rw [h]; dsimp only [Option.map_some]
  cases fldT t.fields m with
  | none => rfl
  | some d =>
    dsimp only
    cases hd : s.dropWhile isDg with
    | nil => rfl
    | cons c r =>
      dsimp only
      rw [if_neg]
      intro hc
      exact h2 r (by rw [hd, show c = 61 from UInt8.toNat_inj.1 hc])
theorem field_some {f : List UInt8 → List UInt8 → Option (V × List UInt8)} {t : Ty} {s s2 : List UInt8} {m : Int} {d : Fld} (h : numOf (s.takeWhile isDg) 200 = some m) (hd : fldT t.fields m = some d) (h2 : s.dropWhile isDg = 61 :: s2) : rdField f t s = (f d.kind s2).map fun x => ((d, x.1), x.2) := by
  unfold rdField rdNum
  rw [h]; dsimp only [Option.map_some]; rw [hd, h2]; dsimp only; rw [if_pos (show (61 : UInt8).toNat = 61 from rfl)]
theorem c_fieldV {n r sc bt bf of cf : Nat} {qs : List TyP} {t : Ty} {ln s : List UInt8} {b : Bool} {fv : Value} (hV : ValC n sc qs) (hS : ScI G sc qs) (hw : TyW t) (hkf : ∀ d ∈ t.fields, kindIn (tyq qs) d.kind = true)
    (h1 : Seg G bt 0 [U8 t.sort, S t.name, fv, S ln]) (h2 : SlV G fv 6 t.fields.length (rows fiF t.fields)) (hfv : t.fields ≠ [] → fv = .slice (some ⟨bf, of, none⟩) t.fields.length cf ∧ Seg G bf of (rows fiF t.fields)) (hs : s.length ≤ n ∧ s.length ≤ 1000) :
    FnM Tryz.prog 118 [Pt r 0, Pt bt 0] G [scO r sc s b] (FldP t bf of (rd (tyq qs) n) r sc s b) := by
  have hwl := while_len isDg s
  have hfl := hw.len
  have cx_nu := c_number (G := G) (r := r) (sc := sc) (s := s) (b := b) (top := 200) (by omega)
  have cx_wa := c_want (G := G) (r := r) (sc := sc) (s := s.dropWhile isDg) (l := [61]) (b := (b || (numOf (s.takeWhile isDg) 200).isNone)) ⟨by omega, by simp⟩
  have htl := tk_len (l := [61]) (s := s.dropWhile isDg) (b := (b || (numOf (s.takeWhile isDg) 200).isNone))
  have hleft : ∀ (s' : List UInt8), s'.length ≤ s.length → (b = true ∨ rdField (rd (tyq qs) n) t s = none) → ∀ G', FldP t bf of (rd (tyq qs) n) r sc s b (Tu [Ag (vcF zVC), .pointer none]) G' [scO r sc s' true] := fun s' h3 h4 G' => ⟨s', true, rfl, h3, .inl ⟨rfl, rfl, h4⟩⟩
  refine m_enter [(0, _), (1, _)] Tryz.func118 (by kernel_rfl) Tryz.ntmps118 rfl rfl (by repeat' constructor) fun B hB hW => ?_
  repeat' (first | (refine run (t := tb) 400 rfl trivial ?_) | (refine k_op rfl ?_; first | refine c_al rfl rfl fun _ => ?_ | (refine c_m1g rfl rfl rfl cx_nu rfl ?_; rintro _ _ ⟨n1, rfl, ⟨hn0, hn1⟩, hnum, rfl⟩; dsimp only [List.cons_append, List.nil_append])))
  rename_i x4
  cases hft : fldT t.fields n1 with
  | none =>
    have hno : rdField (rd (tyq qs) n) t s = none := by
      cases hm : numOf (s.takeWhile isDg) 200 with
      | none => exact field_none (.inl hm)
      | some m => exact field_none (.inr ⟨m, hm, by rw [← hnum m hm]; exact hft⟩)
    have cx_fld := c_fieldI0 h1 h2 (by omega) hft
    repeat' (first | (refine run (t := tb) 400 rfl trivial ?_) | (refine k_op rfl ?_; first | refine v_op (g_peq0 rfl rfl) rfl rfl ?_ | (refine v_op (g_pickT rfl rfl rfl) rfl rfl ?_) | refine c_st1 rfl rfl rfl rfl ?_ | refine c_stA rfl rfl rfl rfl rfl rfl ?_ | refine v_op (g_bld rfl rfl) rfl rfl ?_ | (refine c_rt rfl rfl rfl cx_fld rfl ?_) | (refine c_m1g rfl rfl rfl cx_wa rfl ?_; rintro _ _ rfl; dsimp only [List.cons_append, List.nil_append])) | (refine k_gt rfl rfl rfl ?_) | (refine k_tt rfl rfl ?_))
    refine k_rr (vs := [_, _]) rfl ⟨rc_A rfl rfl rfl rfl, rfl, trivial⟩ rfl (by repeat (first | exact List.nil_sublist _ | apply List.Sublist.cons_cons)) ⟨Gh.le.refl _, hleft _ (by omega) (.inr hno) _⟩
  | some d =>
    obtain ⟨j, hj, hjn, hjt, hjd⟩ := fldT_some hft
    subst hjd
    obtain ⟨rfl, hsf⟩ := hfv (fun h => by rw [h] at hj; simp at hj)
    have cx_fld := c_fieldI1 h1 hsf (by omega) hj hjn hjt
    cases ht : tkR [61] (s.dropWhile isDg) (b || (numOf (s.takeWhile isDg) 200).isNone) with
    | false =>
      rw [ht, Bool.not_false] at cx_wa
      have hno : b = true ∨ rdField (rd (tyq qs) n) t s = none := by
        cases b with
        | true => exact .inl rfl
        | false =>
          right
          cases hm : numOf (s.takeWhile isDg) 200 with
          | none => exact field_none (.inl hm)
          | some m =>
            refine field_noeq hm (fun s2 h => ?_)
            rw [hm, h] at ht
            have : tkR [61] (61 :: s2) false = true := tk1.2 ⟨s2, rfl⟩
            rw [show (false || (some m).isNone) = false from rfl, this] at ht; cases ht
      repeat' (first | (refine run (t := tb) 400 rfl trivial ?_) | (refine k_op rfl ?_; first | refine v_op (g_peq0 rfl rfl) rfl rfl ?_ | refine v_op (g_ld rfl rfl rfl) rfl rfl ?_ | (refine v_op (g_pickF rfl rfl rfl) rfl rfl ?_) | refine c_st1 rfl rfl rfl rfl ?_ | refine c_stA rfl rfl rfl rfl rfl rfl ?_ | refine v_op (g_bld rfl rfl) rfl rfl ?_ | (refine c_rt rfl rfl rfl cx_fld rfl ?_) | (refine c_m1g rfl rfl rfl cx_wa rfl ?_; rintro _ _ rfl; dsimp only [List.cons_append, List.nil_append])) | (refine k_gf rfl rfl rfl ?_) | (refine k_tt rfl rfl ?_))
      refine k_rr (vs := [_, _]) rfl ⟨rc_A rfl rfl rfl rfl, rfl, trivial⟩ rfl (by repeat (first | exact List.nil_sublist _ | apply List.Sublist.cons_cons)) ⟨Gh.le.refl _, hleft _ (by omega) hno _⟩
    | true =>
      have hb0 : (b || (numOf (s.takeWhile isDg) 200).isNone) = false := by
        cases hb : (b || (numOf (s.takeWhile isDg) 200).isNone) with
        | false => rfl
        | true => rw [hb, tkT] at ht; cases ht
      rw [hb0] at ht cx_wa htl
      rw [hb0]
      simp only [Bool.or_eq_false_iff] at hb0
      obtain ⟨hb, hnn⟩ := hb0
      obtain ⟨m, hm⟩ : ∃ m, numOf (s.takeWhile isDg) 200 = some m := by
        cases hm : numOf (s.takeWhile isDg) 200 with
        | none => rw [hm] at hnn; cases hnn
        | some m => exact ⟨m, rfl⟩
      obtain ⟨s2, hs2⟩ := tk1.1 ht
      rw [ht, hs2, tk1S, Bool.not_true] at cx_wa
      have hdig : 1 ≤ (s.takeWhile isDg).length := by
        have h3 := (numOf_le hm).2.1
        rw [h3]; exact decI_pos m
      rw [hs2, List.length_cons] at hwl
      have hfd : ∀ x, rdField (rd (tyq qs) n) t s = some x ↔ (rd (tyq qs) n (nth t.fields j).kind s2).map (fun x => ((nth t.fields j, x.1), x.2)) = some x := fun x => by
        rw [field_some hm (d := nth t.fields j) (by rw [← hnum m hm, hft]) hs2]
      have hkd := hkf (nth t.fields j) (nth_mem hj)
      have cx_vl := hV G r (nth t.fields j).kind s2 false hS hkd (by omega) (by omega)
      rw [hs2]
      repeat' (first | (refine run (t := tb) 400 rfl trivial ?_) | (refine k_op rfl ?_; first | refine c_al rfl rfl fun _ => ?_ | refine v_op (g_peq0 rfl rfl) rfl rfl ?_ | refine v_op (g_ld rfl rfl rfl) rfl rfl ?_ | (refine v_op (g_ldRA rfl rfl (by assumption) ?_ rfl rfl) rfl rfl ?_; (focus ((omega); done))) | (refine v_op (g_pickF rfl rfl rfl) rfl rfl ?_) | refine c_stA rfl rfl rfl rfl rfl rfl ?_ | (refine c_rt rfl rfl rfl cx_fld rfl ?_) | (refine c_m1g rfl rfl rfl cx_wa rfl ?_; rintro _ _ rfl; dsimp only [List.cons_append, List.nil_append]) | (refine c_m1s rfl rfl rfl cx_vl rfl ?_; rintro _ G1 _ hle ⟨u1, c1, t1, b1, rfl, hrep, rfl, hP⟩; dsimp only [List.cons_append, List.nil_append]; skip)) | (refine k_gf rfl rfl rfl ?_) | (refine k_ff rfl rfl ?_))
      have hsf1 := hsf.mono hle
      have htag := (hw.fld _ (nth_mem hj)).tag
      repeat' (first | (refine run (t := tb) 400 rfl trivial ?_) | (refine k_any (s_anyD (id := 7) (tt := 4) rfl mixed ?_); refine x_tks (t := tb) (fuel := 6) [0, 1, 2, 7] (bts 10 135) (by kernel_rfl) (by kernel_rfl) rfl rfl gRr (by repeat (first | exact List.nil_sublist _ | apply List.Sublist.cons_cons)) ?_ ?_; (focus (repeat' (exact trivial))); ((refine (x_tkg (bts 10 143) 3 rfl (by kernel_rfl) rfl gRr (by repeat (first | exact List.nil_sublist _ | apply List.Sublist.cons_cons))) (g_ldRF rfl rfl (by assumption) ?_ rfl rfl) rfl rfl ?_; (focus ((omega); done)))); ((refine (x_tkg (bts 10 159) 4 rfl (by kernel_rfl) rfl gRr (by repeat (first | exact List.nil_sublist _ | apply List.Sublist.cons_cons))) (g_ldA rfl rfl rfl rfl) rfl rfl ?_)); refine x_all [5] (by kernel_rfl) (by decide) ⟨?_, trivial⟩; refine x_opg rfl rfl ?_; (refine c_bsl rfl rfl rfl rfl rfl rfl fun _ => ?_); refine x_kk gRr (by repeat (first | exact List.nil_sublist _ | apply List.Sublist.cons_cons | apply List.Sublist.cons)) (listed' := (bts 10 191)) (by kernel_rfl) ?_; ((refine (x_tkg (bts 10 255) 6 rfl (by kernel_rfl) rfl gRr (by repeat (first | exact List.nil_sublist _ | apply List.Sublist.cons_cons | apply List.Sublist.cons))) (g_bld rfl rfl) rfl rfl ?_)); refine x_all [8] (by kernel_rfl) (by decide) ⟨?_, trivial⟩; refine x_opg rfl rfl ?_; (refine c_stA rfl rfl rfl rfl rfl rfl ?_); refine x_kk gRr (by repeat (first | exact List.nil_sublist _ | apply List.Sublist.cons_cons | apply List.Sublist.cons)) (listed' := (bts 10 511)) (by kernel_rfl) ?_; refine x_tks (t := tb) (fuel := 0) [9] (bts 10 1023) (by kernel_rfl) (by kernel_rfl) rfl rfl gRr (by repeat (first | exact List.nil_sublist _ | apply List.Sublist.cons_cons | apply List.Sublist.cons)) ?_ ?_; (focus (repeat' (exact trivial))); refine x_done (by kernel_rfl) (k_bk ?_)))
      rename_i y
      refine Nx.sealC (b := y) fun G2 hG2 hsy => ?_
      have hsl : SlV G2 (.slice (some ⟨y, 0, none⟩) 1 1) 4 ([c1] : List VC).length (rows vcF [c1]) := ⟨rfl, .inr ⟨y, 0, 1, rfl, Nat.le_refl _, hsy⟩⟩
      have hrp : V.rep G2 (.nd 61 [] (nth t.fields j).tag [u1]) ⟨61, [], (nth t.fields j).tag, some ⟨y, 0, none⟩, 1, 1⟩ := rep_mk (by decide) (by omega) (fun _ => rfl) rfl hsl ⟨c1, [], rfl, rep_mono hG2 hrep, rfl⟩
      obtain ⟨hPl, hP0, hP1⟩ := hP
      have hf2 := fun x => hfd x
      cases b1 with
      | false =>
        obtain ⟨_, hgood⟩ := hP0 rfl
        have htot := rd_tot n _ _ _ hgood
        dsimp only at htot
        refine k_rr (vs := [_, _]) rfl ⟨rc_A rfl rfl rfl rfl, rfl, trivial⟩ rfl (by repeat (first | exact List.nil_sublist _ | apply List.Sublist.cons_cons | apply List.Sublist.cons)) ⟨hle.trans hG2, t1, false, rfl, by omega, .inr ⟨j, u1, ⟨61, [], (nth t.fields j).tag, some ⟨y, 0, none⟩, 1, 1⟩, hj, rfl, hrp, hb, by omega, fun _ => (hfd _).2 (by rw [hgood]; rfl), fun h => (by cases h)⟩⟩
      | true =>
        obtain ⟨hbad, hto⟩ := hP1 rfl
        have hbad2 : rd (tyq qs) n (nth t.fields j).kind s2 = none := by
          rcases hbad with h | h
          · cases h
          · exact h
        have hno : rdField (rd (tyq qs) n) t s = none := by
          cases hx : rdField (rd (tyq qs) n) t s with
          | none => rfl
          | some x => have := (hfd x).1 hx; rw [hbad2] at this; cases this
        refine k_rr (vs := [_, _]) rfl ⟨rc_A rfl rfl rfl rfl, rfl, trivial⟩ rfl (by repeat (first | exact List.nil_sublist _ | apply List.Sublist.cons_cons | apply List.Sublist.cons)) ⟨hle.trans hG2, t1, true, rfl, by omega, .inr ⟨j, u1, ⟨61, [], (nth t.fields j).tag, some ⟨y, 0, none⟩, 1, 1⟩, hj, rfl, hrp, hb, by omega, fun h => (by cases h), fun _ => hno⟩⟩
end Go.E
namespace Go.E
set_option maxRecDepth 20000
set_option maxHeartbeats 2000000
open Go.Proofs
variable {G : Gh}
theorem tk_no {c : UInt8} {s : List UInt8} (h : tkR [c] s false = false) : ∀ s2, s ≠ c :: s2 := fun s2 e => by
  have : tkR [c] s false = true := tk1.2 ⟨s2, e⟩
  rw [this] at h; cases h
theorem typed_no {ts : List Ty} {f : List UInt8 → List UInt8 → Option (V × List UInt8)} {t : Ty} {s : List UInt8} {c : UInt8} (hc : t.sort = 82 ∧ c = 123 ∨ t.sort = 69 ∧ c = 35 ∨ (t.sort ≠ 82 ∧ t.sort ≠ 69) ∧ c = 60) (h : ∀ s2, s ≠ c :: s2) : rdTyped ts f t s = none := by
  cases s with
  | nil => rfl
  | cons d r =>
    have hd : d ≠ c := fun e => h r (by rw [e])
    unfold rdTyped
    dsimp only
    have hn : ∀ k : Nat, k < 256 → c = UInt8.ofNat k → ¬ d.toNat = k := fun k hk e h2 => hd (by rw [e, u8_eq h2 hk])
    rcases hc with ⟨h1, h2⟩ | ⟨h1, h2⟩ | ⟨⟨h1, h1'⟩, h2⟩
    · rw [if_pos h1, if_neg (hn 123 (by decide) h2)]
    · rw [if_neg (by omega), if_pos h1, if_neg (hn 35 (by decide) h2)]
    · rw [if_neg h1, if_neg h1', if_neg (hn 60 (by decide) h2)]
theorem c_ofE {n r sc bt : Nat} {qs : List TyP} {t : Ty} {s : List UInt8} {b : Bool} (hT : TyI G bt t) (hw : TyW t) (hso : t.sort = 69) (hs : s.length ≤ n ∧ s.length ≤ 1000) :
    FnM Tryz.prog 98 [Pt r 0, Pt bt 0] G [scO r sc s b] (ValP (rdTyped (tyq qs) (rd (tyq qs) n) t) r sc s b) := by
  obtain ⟨fv, ln, h1, h2⟩ := hT
  have hfl := hw.len
  have hso' : (t.sort : Int) = 69 := by omega
  have cx_wa := c_want (G := G) (r := r) (sc := sc) (s := s) (l := [35]) (b := b) ⟨by omega, by simp⟩
  cases ht : tkR [35] s b with
  | false =>
    rw [ht, tkSF ht, Bool.not_false] at cx_wa
    have hno : b = true ∨ rdTyped (tyq qs) (rd (tyq qs) n) t s = none := by
      cases b with
      | true => exact .inl rfl
      | false => exact .inr (typed_no (.inr (.inl ⟨hso, rfl⟩)) (tk_no ht))
    have cx_nu := c_number (G := G) (r := r) (sc := sc) (s := s) (b := true) (top := 200) (by omega)
    rw [Bool.true_or] at cx_nu
    have hwl := while_len isDg s
    refine m_enter [(0, _), (1, _)] Tryz.func98 (by kernel_rfl) Tryz.ntmps98 rfl rfl (by repeat' constructor) fun B hB hW => ?_
    repeat' (first | (refine run (t := tb) 400 rfl trivial ?_) | (refine k_op rfl ?_; first | refine c_al rfl rfl fun _ => ?_ | refine v_op (g_ld rfl rfl rfl) rfl rfl ?_ | refine v_op (g_ldS rfl rfl (by assumption) rfl rfl) rfl rfl ?_ | refine v_op (g_bld rfl rfl) rfl rfl ?_ | refine c_st1 rfl rfl rfl rfl ?_ | refine c_stA rfl rfl rfl rfl rfl rfl ?_ | (refine c_m1g rfl rfl rfl cx_wa rfl ?_; rintro _ _ rfl; dsimp only [List.cons_append, List.nil_append]) | (refine c_m1g rfl rfl rfl cx_nu rfl ?_; rintro _ _ ⟨n1, rfl, ⟨hn0, hn1⟩, hnum, rfl⟩; dsimp only [List.cons_append, List.nil_append])) | (refine k_tt rfl (dTt ‹_›) ?_))
    cases hft : fldT t.fields n1 with
    | none =>
      have cx_fld := c_fieldI0 h1 h2 (by omega) hft
      repeat' (first | (refine run (t := tb) 400 rfl trivial ?_) | (refine k_op rfl ?_; first | refine v_op (g_ldA rfl rfl rfl rfl) rfl rfl ?_ | refine c_st1 rfl rfl rfl rfl ?_ | refine c_stA rfl rfl rfl rfl rfl rfl ?_ | refine v_op (g_peq0 rfl rfl) rfl rfl ?_ | (refine c_rt rfl rfl rfl cx_fld rfl ?_)) | (refine k_tt rfl rfl ?_))
      refine k_rr (vs := [_]) rfl ⟨rc_A rfl rfl rfl rfl, trivial⟩ rfl (by repeat (first | exact List.nil_sublist _ | apply List.Sublist.cons_cons)) ⟨Gh.le.refl _, .nd 69 [] n1 [], ⟨69, [], n1, none, 0, 0⟩, s.dropWhile isDg, true, by rw [hso]; rfl, rep_leaf (by decide) ⟨hn0, hn1⟩, rfl, by omega, fun h => (by cases h), fun _ => ⟨hno, by simp only [V.tot, V.tots, List.length_nil]; omega⟩⟩
    | some d =>
      obtain ⟨j, hj, hjn, hjt, hjd⟩ := fldT_some hft
      obtain ⟨bf, of, cf, rfl, hsf⟩ := h2.expl (by omega)
      have cx_fld := c_fieldI1 h1 hsf (by omega) hj hjn hjt
      repeat' (first | (refine run (t := tb) 400 rfl trivial ?_) | (refine k_op rfl ?_; first | refine v_op (g_ldA rfl rfl rfl rfl) rfl rfl ?_ | refine c_stA rfl rfl rfl rfl rfl rfl ?_ | refine v_op (g_peq0 rfl rfl) rfl rfl ?_ | (refine c_rt rfl rfl rfl cx_fld rfl ?_)) | (refine k_ff rfl rfl ?_))
      refine k_rr (vs := [_]) rfl ⟨rc_A rfl rfl rfl rfl, trivial⟩ rfl (by repeat (first | exact List.nil_sublist _ | apply List.Sublist.cons_cons)) ⟨Gh.le.refl _, .nd 69 [] n1 [], ⟨69, [], n1, none, 0, 0⟩, s.dropWhile isDg, true, by rw [hso]; rfl, rep_leaf (by decide) ⟨hn0, hn1⟩, rfl, by omega, fun h => (by cases h), fun _ => ⟨hno, by simp only [V.tot, V.tots, List.length_nil]; omega⟩⟩
  | true =>
    have hb : b = false := by cases b with | true => rw [tkT] at ht; cases ht | false => rfl
    subst hb
    obtain ⟨s1, rfl⟩ := tk1.1 ht
    rw [ht, tk1S, Bool.not_true] at cx_wa
    simp only [List.length_cons] at hs
    have cx_nu := c_number (G := G) (r := r) (sc := sc) (s := s1) (b := false) (top := 200) (by omega)
    rw [Bool.false_or] at cx_nu
    have hwl := while_len isDg s1
    have hRT : rdTyped (tyq qs) (rd (tyq qs) n) t (35 :: s1) = match rdNum 200 s1 with
        | none => none
        | some (n, r) => if (fldT t.fields n).isSome = true then some (.nd 69 [] n [], r) else none := by
      unfold rdTyped
      dsimp only
      rw [if_neg (by omega), if_pos hso, if_pos (show (35 : UInt8).toNat = 35 from rfl)]
      cases rdNum 200 s1 <;> rfl
    cases hnu : numOf (s1.takeWhile isDg) 200 with
    | none =>
      have hno : rdTyped (tyq qs) (rd (tyq qs) n) t (35 :: s1) = none := by rw [hRT]; unfold rdNum; rw [hnu]; rfl
      rw [hnu] at cx_nu
      refine m_enter [(0, _), (1, _)] Tryz.func98 (by kernel_rfl) Tryz.ntmps98 rfl rfl (by repeat' constructor) fun B hB hW => ?_
      repeat' (first | (refine run (t := tb) 400 rfl trivial ?_) | (refine k_op rfl ?_; first | refine c_al rfl rfl fun _ => ?_ | refine v_op (g_ld rfl rfl rfl) rfl rfl ?_ | refine v_op (g_ldS rfl rfl (by assumption) rfl rfl) rfl rfl ?_ | refine v_op (g_bld rfl rfl) rfl rfl ?_ | refine c_st1 rfl rfl rfl rfl ?_ | refine c_stA rfl rfl rfl rfl rfl rfl ?_ | (refine c_m1g rfl rfl rfl cx_wa rfl ?_; rintro _ _ rfl; dsimp only [List.cons_append, List.nil_append]) | (refine c_m1g rfl rfl rfl cx_nu rfl ?_; rintro _ _ ⟨n1, rfl, ⟨hn0, hn1⟩, hnum, rfl⟩; dsimp only [List.cons_append, List.nil_append])) | (refine k_tt rfl (dTt ‹_›) ?_))
      cases hft : fldT t.fields n1 with
      | none =>
        have cx_fld := c_fieldI0 h1 h2 (by omega) hft
        repeat' (first | (refine run (t := tb) 400 rfl trivial ?_) | (refine k_op rfl ?_; first | refine v_op (g_ldA rfl rfl rfl rfl) rfl rfl ?_ | refine c_st1 rfl rfl rfl rfl ?_ | refine c_stA rfl rfl rfl rfl rfl rfl ?_ | refine v_op (g_peq0 rfl rfl) rfl rfl ?_ | (refine c_rt rfl rfl rfl cx_fld rfl ?_)) | (refine k_tt rfl rfl ?_))
        refine k_rr (vs := [_]) rfl ⟨rc_A rfl rfl rfl rfl, trivial⟩ rfl (by repeat (first | exact List.nil_sublist _ | apply List.Sublist.cons_cons)) ⟨Gh.le.refl _, .nd 69 [] n1 [], ⟨69, [], n1, none, 0, 0⟩, s1.dropWhile isDg, true, by rw [hso]; rfl, rep_leaf (by decide) ⟨hn0, hn1⟩, rfl, by simp only [List.length_cons]; omega, fun h => (by cases h), fun _ => ⟨.inr hno, by simp only [V.tot, V.tots, List.length_nil, List.length_cons]; omega⟩⟩
      | some d =>
        obtain ⟨j, hj, hjn, hjt, hjd⟩ := fldT_some hft
        obtain ⟨bf, of, cf, rfl, hsf⟩ := h2.expl (by omega)
        have cx_fld := c_fieldI1 h1 hsf (by omega) hj hjn hjt
        repeat' (first | (refine run (t := tb) 400 rfl trivial ?_) | (refine k_op rfl ?_; first | refine v_op (g_ldA rfl rfl rfl rfl) rfl rfl ?_ | refine c_stA rfl rfl rfl rfl rfl rfl ?_ | refine v_op (g_peq0 rfl rfl) rfl rfl ?_ | (refine c_rt rfl rfl rfl cx_fld rfl ?_)) | (refine k_ff rfl rfl ?_))
        refine k_rr (vs := [_]) rfl ⟨rc_A rfl rfl rfl rfl, trivial⟩ rfl (by repeat (first | exact List.nil_sublist _ | apply List.Sublist.cons_cons)) ⟨Gh.le.refl _, .nd 69 [] n1 [], ⟨69, [], n1, none, 0, 0⟩, s1.dropWhile isDg, true, by rw [hso]; rfl, rep_leaf (by decide) ⟨hn0, hn1⟩, rfl, by simp only [List.length_cons]; omega, fun h => (by cases h), fun _ => ⟨.inr hno, by simp only [V.tot, V.tots, List.length_nil, List.length_cons]; omega⟩⟩
    | some m =>
      rw [hnu] at cx_nu
      have hRT2 : rdTyped (tyq qs) (rd (tyq qs) n) t (35 :: s1) = if (fldT t.fields m).isSome = true then some (.nd 69 [] m [], s1.dropWhile isDg) else none := by rw [hRT]; unfold rdNum; rw [hnu]; rfl
      refine m_enter [(0, _), (1, _)] Tryz.func98 (by kernel_rfl) Tryz.ntmps98 rfl rfl (by repeat' constructor) fun B hB hW => ?_
      repeat' (first | (refine run (t := tb) 400 rfl trivial ?_) | (refine k_op rfl ?_; first | refine c_al rfl rfl fun _ => ?_ | refine v_op (g_ld rfl rfl rfl) rfl rfl ?_ | refine v_op (g_ldS rfl rfl (by assumption) rfl rfl) rfl rfl ?_ | refine v_op (g_bld rfl rfl) rfl rfl ?_ | refine c_st1 rfl rfl rfl rfl ?_ | refine c_stA rfl rfl rfl rfl rfl rfl ?_ | (refine c_m1g rfl rfl rfl cx_wa rfl ?_; rintro _ _ rfl; dsimp only [List.cons_append, List.nil_append]) | (refine c_m1g rfl rfl rfl cx_nu rfl ?_; rintro _ _ ⟨n1, rfl, ⟨hn0, hn1⟩, hnum, rfl⟩; dsimp only [List.cons_append, List.nil_append])) | (refine k_tt rfl (dTt ‹_›) ?_))
      obtain rfl : n1 = m := hnum m rfl
      cases hft : fldT t.fields n1 with
      | none =>
        rw [hft] at hRT2
        have cx_fld := c_fieldI0 h1 h2 (by omega) hft
        repeat' (first | (refine run (t := tb) 400 rfl trivial ?_) | (refine k_op rfl ?_; first | refine v_op (g_ldA rfl rfl rfl rfl) rfl rfl ?_ | refine c_st1 rfl rfl rfl rfl ?_ | refine c_stA rfl rfl rfl rfl rfl rfl ?_ | refine v_op (g_peq0 rfl rfl) rfl rfl ?_ | (refine c_rt rfl rfl rfl cx_fld rfl ?_)) | (refine k_tt rfl rfl ?_))
        refine k_rr (vs := [_]) rfl ⟨rc_A rfl rfl rfl rfl, trivial⟩ rfl (by repeat (first | exact List.nil_sublist _ | apply List.Sublist.cons_cons)) ⟨Gh.le.refl _, .nd 69 [] n1 [], ⟨69, [], n1, none, 0, 0⟩, s1.dropWhile isDg, true, by rw [hso]; rfl, rep_leaf (by decide) ⟨hn0, hn1⟩, rfl, by simp only [List.length_cons]; omega, fun h => (by cases h), fun _ => ⟨.inr hRT2, by simp only [V.tot, V.tots, List.length_nil, List.length_cons]; omega⟩⟩
      | some d =>
        rw [hft] at hRT2
        obtain ⟨j, hj, hjn, hjt, hjd⟩ := fldT_some hft
        obtain ⟨bf, of, cf, rfl, hsf⟩ := h2.expl (by omega)
        have cx_fld := c_fieldI1 h1 hsf (by omega) hj hjn hjt
        repeat' (first | (refine run (t := tb) 400 rfl trivial ?_) | (refine k_op rfl ?_; first | refine v_op (g_ldA rfl rfl rfl rfl) rfl rfl ?_ | refine c_stA rfl rfl rfl rfl rfl rfl ?_ | refine v_op (g_peq0 rfl rfl) rfl rfl ?_ | (refine c_rt rfl rfl rfl cx_fld rfl ?_)) | (refine k_ff rfl rfl ?_))
        refine k_rr (vs := [_]) rfl ⟨rc_A rfl rfl rfl rfl, trivial⟩ rfl (by repeat (first | exact List.nil_sublist _ | apply List.Sublist.cons_cons)) ⟨Gh.le.refl _, .nd 69 [] n1 [], ⟨69, [], n1, none, 0, 0⟩, s1.dropWhile isDg, false, by rw [hso]; rfl, rep_leaf (by decide) ⟨hn0, hn1⟩, rfl, by simp only [List.length_cons]; omega, fun _ => ⟨rfl, hRT2⟩, fun h => (by cases h)⟩
end Go.E
namespace Go.E
set_option maxRecDepth 20000
set_option maxHeartbeats 2000000
open Go.Proofs
variable {G : Gh}
theorem rep_uni {G : Gh} {t : Int} {u : V} {c : VC} (h : V.rep G (.nd 61 [] t [u]) c) : ∃ (b o k : Nat) (d : VC), c = ⟨61, [], t, some ⟨b, o, none⟩, 1, k⟩ ∧ (0 ≤ t ∧ t ≤ 999999) ∧ Seg G b o (rows vcF [d]) ∧ V.rep G u d ∧ V.rep G (.nd 85 [] t [u]) ⟨85, [], t, some ⟨b, o, none⟩, 1, k⟩ := by
  obtain ⟨a, k, cs, rfl, _, ht, _, hcl, hsl, hks⟩ := rep_inv h
  rw [V.reps] at hks
  obtain ⟨d, cs', rfl, hd, hcs⟩ := hks
  rw [V.reps] at hcs
  subst hcs
  obtain ⟨b, o, cap, e, hs⟩ := hsl.expl (by simp)
  simp only [Value.slice.injEq] at e
  obtain ⟨rfl, -, rfl⟩ := e
  exact ⟨b, o, k, d, rfl, ht, hs, hd, rep_mk (by decide) ht (fun h => absurd h (by decide)) rfl hsl ⟨d, [], rfl, hd, rfl⟩⟩
theorem c_ofU {n r sc bt : Nat} {qs : List TyP} {t : Ty} {s : List UInt8} {b : Bool} (hV : ValC n sc qs) (hS : ScI G sc qs) (hkf : ∀ d ∈ t.fields, kindIn (tyq qs) d.kind = true) (hT : TyI G bt t) (hw : TyW t) (hso : t.sort = 85) (hs : s.length ≤ n ∧ s.length ≤ 1000) :
    FnM Tryz.prog 98 [Pt r 0, Pt bt 0] G [scO r sc s b] (ValP (rdTyped (tyq qs) (rd (tyq qs) n) t) r sc s b) := by
  obtain ⟨fv, ln, h1, h2⟩ := hT
  have hfl := hw.len
  have hso' : (t.sort : Int) = 85 := by omega
  have hne : 0 < t.fields.length := List.length_pos_iff.2 (hw.ne (by omega))
  obtain ⟨bf, of, cf, rfl, hsf⟩ := h2.expl hne
  have cx_wa := c_want (G := G) (r := r) (sc := sc) (s := s) (l := [60]) (b := b) ⟨by omega, by simp⟩
  cases ht : tkR [60] s b with
  | false =>
    rw [ht, tkSF ht, Bool.not_false] at cx_wa
    have hno : b = true ∨ rdTyped (tyq qs) (rd (tyq qs) n) t s = none := by
      cases b with
      | true => exact .inl rfl
      | false => exact .inr (typed_no (.inr (.inr ⟨by omega, rfl⟩)) (tk_no ht))
    have cx_fd := c_fieldV (s := s) (b := true) (r := r) hV hS hw hkf h1 h2 (fun _ => ⟨rfl, hsf⟩) hs
    refine m_enter [(0, _), (1, _)] Tryz.func98 (by kernel_rfl) Tryz.ntmps98 rfl rfl (by repeat' constructor) fun B hB hW => ?_
    repeat' (first | (refine run (t := tb) 400 rfl trivial ?_) | (refine k_op rfl ?_; first | refine c_al rfl rfl fun _ => ?_ | refine v_op (g_ldS rfl rfl (by assumption) rfl rfl) rfl rfl ?_ | refine v_op (g_bld rfl rfl) rfl rfl ?_ | refine c_stA rfl rfl rfl rfl rfl rfl ?_ | (refine c_m1g rfl rfl rfl cx_wa rfl ?_; rintro _ _ rfl; dsimp only [List.cons_append, List.nil_append]) | (refine c_m1s rfl rfl rfl cx_fd rfl ?_; rintro _ G1 _ hle ⟨t1, b1, rfl, htl, ⟨rfl, rfl, hF⟩ | ⟨j, u1, c1, hj, rfl, hrep, hb0, hto, hg, hbd⟩⟩ <;> (dsimp only [List.cons_append, List.nil_append]; skip))) | (refine k_tt rfl (dTt ‹_›) ?_) | (refine k_ff rfl (dFf (by omega)) ?_))
    · have cx_wb := c_want (G := G1) (r := r) (sc := sc) (s := t1) (l := [62]) (b := true) ⟨by omega, by simp⟩
      rw [tkT, tkST, Bool.not_false] at cx_wb
      repeat' (first | (refine run (t := tb) 400 rfl trivial ?_) | (refine k_op rfl ?_; first | refine v_op (g_ldA rfl rfl rfl rfl) rfl rfl ?_ | refine c_stA rfl rfl rfl rfl rfl rfl ?_ | refine v_op (g_pne0 rfl rfl) rfl rfl ?_ | (refine c_m1g rfl rfl rfl cx_wb rfl ?_; rintro _ _ rfl; dsimp only [List.cons_append, List.nil_append])) | (refine k_ff rfl rfl ?_))
      refine k_rr (vs := [_]) rfl ⟨rc_A rfl rfl rfl rfl, trivial⟩ rfl (by repeat (first | exact List.nil_sublist _ | apply List.Sublist.cons_cons)) ⟨hle, .nd 85 [] 0 [], ⟨85, [], 0, none, 0, 0⟩, t1, true, by rw [hso]; rfl, rep_leaf (by decide) (by decide), rfl, by omega, fun h => (by cases h), fun _ => ⟨hno, by simp only [V.tot, V.tots, List.length_nil]; omega⟩⟩
    · cases hb0
  | true =>
    have hb : b = false := by cases b with | true => rw [tkT] at ht; cases ht | false => rfl
    subst hb
    obtain ⟨s1, rfl⟩ := tk1.1 ht
    rw [ht, tk1S, Bool.not_true] at cx_wa
    simp only [List.length_cons] at hs
    have hRT : rdTyped (tyq qs) (rd (tyq qs) n) t (60 :: s1) = match rdField (rd (tyq qs) n) t s1 with
        | none => none
        | some ((d, v), r) => match r with
          | [] => none
          | c' :: r' => if c'.toNat = 62 then some (.nd 85 [] d.tag [v], r') else none := by
      unfold rdTyped
      dsimp only
      rw [if_neg (by omega), if_neg (by omega), if_pos (show (60 : UInt8).toNat = 60 from rfl)]
      cases rdField (rd (tyq qs) n) t s1 <;> rfl
    have cx_fd := c_fieldV (s := s1) (b := false) (r := r) hV hS hw hkf h1 h2 (fun _ => ⟨rfl, hsf⟩) ⟨by omega, by omega⟩
    refine m_enter [(0, _), (1, _)] Tryz.func98 (by kernel_rfl) Tryz.ntmps98 rfl rfl (by repeat' constructor) fun B hB hW => ?_
    repeat' (first | (refine run (t := tb) 400 rfl trivial ?_) | (refine k_op rfl ?_; first | refine c_al rfl rfl fun _ => ?_ | refine v_op (g_ldS rfl rfl (by assumption) rfl rfl) rfl rfl ?_ | refine v_op (g_bld rfl rfl) rfl rfl ?_ | refine c_stA rfl rfl rfl rfl rfl rfl ?_ | (refine c_m1g rfl rfl rfl cx_wa rfl ?_; rintro _ _ rfl; dsimp only [List.cons_append, List.nil_append]) | (refine c_m1s rfl rfl rfl cx_fd rfl ?_; rintro _ G1 _ hle ⟨t1, b1, rfl, htl, ⟨rfl, rfl, hF⟩ | ⟨j, u1, c1, hj, rfl, hrep, hb0, hto, hg, hbd⟩⟩ <;> (dsimp only [List.cons_append, List.nil_append]; skip))) | (refine k_tt rfl (dTt ‹_›) ?_) | (refine k_ff rfl (dFf (by omega)) ?_))
    · have hno : rdTyped (tyq qs) (rd (tyq qs) n) t (60 :: s1) = none := by
        rcases hF with h | h
        · cases h
        · rw [hRT, h]
      have cx_wb := c_want (G := G1) (r := r) (sc := sc) (s := t1) (l := [62]) (b := true) ⟨by omega, by simp⟩
      rw [tkT, tkST, Bool.not_false] at cx_wb
      repeat' (first | (refine run (t := tb) 400 rfl trivial ?_) | (refine k_op rfl ?_; first | refine v_op (g_ldA rfl rfl rfl rfl) rfl rfl ?_ | refine c_stA rfl rfl rfl rfl rfl rfl ?_ | refine v_op (g_pne0 rfl rfl) rfl rfl ?_ | (refine c_m1g rfl rfl rfl cx_wb rfl ?_; rintro _ _ rfl; dsimp only [List.cons_append, List.nil_append])) | (refine k_ff rfl rfl ?_))
      refine k_rr (vs := [_]) rfl ⟨rc_A rfl rfl rfl rfl, trivial⟩ rfl (by repeat (first | exact List.nil_sublist _ | apply List.Sublist.cons_cons)) ⟨hle, .nd 85 [] 0 [], ⟨85, [], 0, none, 0, 0⟩, t1, true, by rw [hso]; rfl, rep_leaf (by decide) (by decide), rfl, by simp only [List.length_cons]; omega, fun h => (by cases h), fun _ => ⟨.inr hno, by simp only [V.tot, V.tots, List.length_nil, List.length_cons]; omega⟩⟩
    · obtain ⟨kb, ko, kc, d, rfl, htg, hsd, hrd, hru⟩ := rep_uni hrep
      have hsf1 := hsf.mono hle
      cases b1 with
      | true =>
        have hno : rdTyped (tyq qs) (rd (tyq qs) n) t (60 :: s1) = none := by rw [hRT, hbd rfl]
        have cx_wb := c_want (G := G1) (r := r) (sc := sc) (s := t1) (l := [62]) (b := true) ⟨by omega, by simp⟩
        rw [tkT, tkST, Bool.not_false] at cx_wb
        repeat' (first | (refine run (t := tb) 400 rfl trivial ?_) | (refine k_op rfl ?_; first | refine v_op (g_pne0 rfl rfl) rfl rfl ?_ | (refine c_m1g rfl rfl rfl cx_wb rfl ?_; rintro _ _ rfl; dsimp only [List.cons_append, List.nil_append])) | (refine k_tt rfl rfl ?_))
        rename_i x4 x5 _ x6 _
        dsimp only [VC.sl]
        (refine k_any (s_any (id := 25) [.blk x6 (.cells (List.toArray [U8 ((61 : Nat) : Int), S [], I (nth t.fields j).tag, .slice (some ⟨kb, ko, none⟩) 1 kc]) tVal (0, 0))] (by intro y hy; simp only [List.mem_cons, List.not_mem_nil, or_false] at hy ⊢; simp [hy]) mixed ?_); refine x_tks (t := tb) (fuel := 6) [0, 1, 2, 4] (bts 10 23) (by kernel_rfl) (by kernel_rfl) rfl rfl gRr (by repeat (first | exact List.nil_sublist _ | apply List.Sublist.cons_cons | apply List.Sublist.cons)) ?_ ?_; (focus (repeat' (exact trivial))); ((refine (x_tkg (bts 10 31) 3 rfl (by kernel_rfl) rfl gRr (by repeat (first | exact List.nil_sublist _ | apply List.Sublist.cons_cons | apply List.Sublist.cons))) (g_ldRF rfl rfl (by assumption) ?_ rfl rfl) rfl rfl ?_; (focus ((omega); done)))); refine x_tks (t := tb) (fuel := 4) [6] (bts 10 95) (by kernel_rfl) (by kernel_rfl) rfl rfl gRr (by repeat (first | exact List.nil_sublist _ | apply List.Sublist.cons_cons | apply List.Sublist.cons)) ?_ ?_; (focus (repeat' (exact trivial))); ((refine (x_tkg (bts 10 127) 5 rfl (by kernel_rfl) rfl gRr (by repeat (first | exact List.nil_sublist _ | apply List.Sublist.cons_cons | apply List.Sublist.cons))) (g_ld rfl rfl rfl) rfl rfl ?_)); refine x_all [7] (by kernel_rfl) (by decide) ⟨?_, trivial⟩; refine x_opg rfl rfl ?_; (refine c_st1 rfl rfl rfl rfl ?_); refine x_kk gRr (by repeat (first | exact List.nil_sublist _ | apply List.Sublist.cons_cons | apply List.Sublist.cons)) (listed' := (bts 10 255)) (by kernel_rfl) ?_; refine x_tks (t := tb) (fuel := 1) [8] (bts 10 511) (by kernel_rfl) (by kernel_rfl) rfl rfl gRr (by repeat (first | exact List.nil_sublist _ | apply List.Sublist.cons_cons | apply List.Sublist.cons)) ?_ ?_; (focus (repeat' (exact trivial))); refine x_all [9] (by kernel_rfl) (by decide) ⟨?_, trivial⟩; refine x_opg rfl rfl ?_; (refine c_st1 rfl rfl rfl rfl ?_); refine x_kk gRr (by repeat (first | exact List.nil_sublist _ | apply List.Sublist.cons_cons | apply List.Sublist.cons)) (listed' := (bts 10 1023)) (by kernel_rfl) ?_; refine x_done (by kernel_rfl) (k_bk ?_))
        all_goals repeat' (first | (refine run (t := tb) 400 rfl trivial ?_) | (refine k_op rfl ?_; first | refine v_op (g_ldA rfl rfl rfl rfl) rfl rfl ?_ | refine c_stA rfl rfl rfl rfl rfl rfl ?_))
        all_goals refine k_rr (vs := [_]) rfl ⟨rc_A rfl rfl rfl rfl, trivial⟩ rfl (by repeat (first | exact List.nil_sublist _ | apply List.Sublist.cons_cons)) ⟨hle, .nd 85 [] (nth t.fields j).tag [u1], ⟨85, [], (nth t.fields j).tag, some ⟨kb, ko, none⟩, 1, kc⟩, t1, true, by rw [hso]; rfl, hru, rfl, by simp only [List.length_cons] at *; omega, fun h => (by cases h), fun _ => ⟨.inr hno, by simp only [V.tot, V.tots, List.length_nil, List.length_cons] at *; omega⟩⟩
      | false =>
        have hgd := hg rfl
        have cx_wb := c_want (G := G1) (r := r) (sc := sc) (s := t1) (l := [62]) (b := false) ⟨by omega, by simp⟩
        cases ht2 : tkR [62] t1 false with
        | true =>
          obtain ⟨t2, rfl⟩ := tk1.1 ht2
          rw [ht2, tk1S, Bool.not_true] at cx_wb
          have hgood : rdTyped (tyq qs) (rd (tyq qs) n) t (60 :: s1) = some (.nd 85 [] (nth t.fields j).tag [u1], t2) := by
            rw [hRT, hgd]; dsimp only; rw [if_pos (show (62 : UInt8).toNat = 62 from rfl)]
          repeat' (first | (refine run (t := tb) 400 rfl trivial ?_) | (refine k_op rfl ?_; first | refine v_op (g_pne0 rfl rfl) rfl rfl ?_ | (refine c_m1g rfl rfl rfl cx_wb rfl ?_; rintro _ _ rfl; dsimp only [List.cons_append, List.nil_append])) | (refine k_tt rfl rfl ?_))
          rename_i x4 x5 _ x6 _
          dsimp only [VC.sl]
          (refine k_any (s_any (id := 25) [.blk x6 (.cells (List.toArray [U8 ((61 : Nat) : Int), S [], I (nth t.fields j).tag, .slice (some ⟨kb, ko, none⟩) 1 kc]) tVal (0, 0))] (by intro y hy; simp only [List.mem_cons, List.not_mem_nil, or_false] at hy ⊢; simp [hy]) mixed ?_); refine x_tks (t := tb) (fuel := 6) [0, 1, 2, 4] (bts 10 23) (by kernel_rfl) (by kernel_rfl) rfl rfl gRr (by repeat (first | exact List.nil_sublist _ | apply List.Sublist.cons_cons | apply List.Sublist.cons)) ?_ ?_; (focus (repeat' (exact trivial))); ((refine (x_tkg (bts 10 31) 3 rfl (by kernel_rfl) rfl gRr (by repeat (first | exact List.nil_sublist _ | apply List.Sublist.cons_cons | apply List.Sublist.cons))) (g_ldRF rfl rfl (by assumption) ?_ rfl rfl) rfl rfl ?_; (focus ((omega); done)))); refine x_tks (t := tb) (fuel := 4) [6] (bts 10 95) (by kernel_rfl) (by kernel_rfl) rfl rfl gRr (by repeat (first | exact List.nil_sublist _ | apply List.Sublist.cons_cons | apply List.Sublist.cons)) ?_ ?_; (focus (repeat' (exact trivial))); ((refine (x_tkg (bts 10 127) 5 rfl (by kernel_rfl) rfl gRr (by repeat (first | exact List.nil_sublist _ | apply List.Sublist.cons_cons | apply List.Sublist.cons))) (g_ld rfl rfl rfl) rfl rfl ?_)); refine x_all [7] (by kernel_rfl) (by decide) ⟨?_, trivial⟩; refine x_opg rfl rfl ?_; (refine c_st1 rfl rfl rfl rfl ?_); refine x_kk gRr (by repeat (first | exact List.nil_sublist _ | apply List.Sublist.cons_cons | apply List.Sublist.cons)) (listed' := (bts 10 255)) (by kernel_rfl) ?_; refine x_tks (t := tb) (fuel := 1) [8] (bts 10 511) (by kernel_rfl) (by kernel_rfl) rfl rfl gRr (by repeat (first | exact List.nil_sublist _ | apply List.Sublist.cons_cons | apply List.Sublist.cons)) ?_ ?_; (focus (repeat' (exact trivial))); refine x_all [9] (by kernel_rfl) (by decide) ⟨?_, trivial⟩; refine x_opg rfl rfl ?_; (refine c_st1 rfl rfl rfl rfl ?_); refine x_kk gRr (by repeat (first | exact List.nil_sublist _ | apply List.Sublist.cons_cons | apply List.Sublist.cons)) (listed' := (bts 10 1023)) (by kernel_rfl) ?_; refine x_done (by kernel_rfl) (k_bk ?_))
          all_goals repeat' (first | (refine run (t := tb) 400 rfl trivial ?_) | (refine k_op rfl ?_; first | refine v_op (g_ldA rfl rfl rfl rfl) rfl rfl ?_ | refine c_stA rfl rfl rfl rfl rfl rfl ?_))
          all_goals refine k_rr (vs := [_]) rfl ⟨rc_A rfl rfl rfl rfl, trivial⟩ rfl (by repeat (first | exact List.nil_sublist _ | apply List.Sublist.cons_cons)) ⟨hle, .nd 85 [] (nth t.fields j).tag [u1], ⟨85, [], (nth t.fields j).tag, some ⟨kb, ko, none⟩, 1, kc⟩, t2, false, by rw [hso]; rfl, hru, rfl, by simp only [List.length_cons] at *; omega, fun _ => ⟨rfl, hgood⟩, fun h => (by cases h)⟩
        | false =>
          rw [ht2, tkSF ht2, Bool.not_false] at cx_wb
          have hno : rdTyped (tyq qs) (rd (tyq qs) n) t (60 :: s1) = none := by
            rw [hRT, hgd]
            dsimp only
            cases t1 with
            | nil => rfl
            | cons e t2 =>
              dsimp only
              rw [if_neg]
              intro h62
              exact tk_no ht2 t2 (by rw [show e = 62 from UInt8.toNat_inj.1 h62])
          repeat' (first | (refine run (t := tb) 400 rfl trivial ?_) | (refine k_op rfl ?_; first | refine v_op (g_pne0 rfl rfl) rfl rfl ?_ | (refine c_m1g rfl rfl rfl cx_wb rfl ?_; rintro _ _ rfl; dsimp only [List.cons_append, List.nil_append])) | (refine k_tt rfl rfl ?_))
          rename_i x4 x5 _ x6 _
          dsimp only [VC.sl]
          (refine k_any (s_any (id := 25) [.blk x6 (.cells (List.toArray [U8 ((61 : Nat) : Int), S [], I (nth t.fields j).tag, .slice (some ⟨kb, ko, none⟩) 1 kc]) tVal (0, 0))] (by intro y hy; simp only [List.mem_cons, List.not_mem_nil, or_false] at hy ⊢; simp [hy]) mixed ?_); refine x_tks (t := tb) (fuel := 6) [0, 1, 2, 4] (bts 10 23) (by kernel_rfl) (by kernel_rfl) rfl rfl gRr (by repeat (first | exact List.nil_sublist _ | apply List.Sublist.cons_cons | apply List.Sublist.cons)) ?_ ?_; (focus (repeat' (exact trivial))); ((refine (x_tkg (bts 10 31) 3 rfl (by kernel_rfl) rfl gRr (by repeat (first | exact List.nil_sublist _ | apply List.Sublist.cons_cons | apply List.Sublist.cons))) (g_ldRF rfl rfl (by assumption) ?_ rfl rfl) rfl rfl ?_; (focus ((omega); done)))); refine x_tks (t := tb) (fuel := 4) [6] (bts 10 95) (by kernel_rfl) (by kernel_rfl) rfl rfl gRr (by repeat (first | exact List.nil_sublist _ | apply List.Sublist.cons_cons | apply List.Sublist.cons)) ?_ ?_; (focus (repeat' (exact trivial))); ((refine (x_tkg (bts 10 127) 5 rfl (by kernel_rfl) rfl gRr (by repeat (first | exact List.nil_sublist _ | apply List.Sublist.cons_cons | apply List.Sublist.cons))) (g_ld rfl rfl rfl) rfl rfl ?_)); refine x_all [7] (by kernel_rfl) (by decide) ⟨?_, trivial⟩; refine x_opg rfl rfl ?_; (refine c_st1 rfl rfl rfl rfl ?_); refine x_kk gRr (by repeat (first | exact List.nil_sublist _ | apply List.Sublist.cons_cons | apply List.Sublist.cons)) (listed' := (bts 10 255)) (by kernel_rfl) ?_; refine x_tks (t := tb) (fuel := 1) [8] (bts 10 511) (by kernel_rfl) (by kernel_rfl) rfl rfl gRr (by repeat (first | exact List.nil_sublist _ | apply List.Sublist.cons_cons | apply List.Sublist.cons)) ?_ ?_; (focus (repeat' (exact trivial))); refine x_all [9] (by kernel_rfl) (by decide) ⟨?_, trivial⟩; refine x_opg rfl rfl ?_; (refine c_st1 rfl rfl rfl rfl ?_); refine x_kk gRr (by repeat (first | exact List.nil_sublist _ | apply List.Sublist.cons_cons | apply List.Sublist.cons)) (listed' := (bts 10 1023)) (by kernel_rfl) ?_; refine x_done (by kernel_rfl) (k_bk ?_))
          all_goals repeat' (first | (refine run (t := tb) 400 rfl trivial ?_) | (refine k_op rfl ?_; first | refine v_op (g_ldA rfl rfl rfl rfl) rfl rfl ?_ | refine c_stA rfl rfl rfl rfl rfl rfl ?_))
          all_goals refine k_rr (vs := [_]) rfl ⟨rc_A rfl rfl rfl rfl, trivial⟩ rfl (by repeat (first | exact List.nil_sublist _ | apply List.Sublist.cons_cons)) ⟨hle, .nd 85 [] (nth t.fields j).tag [u1], ⟨85, [], (nth t.fields j).tag, some ⟨kb, ko, none⟩, 1, kc⟩, t1, true, by rw [hso]; rfl, hru, rfl, by simp only [List.length_cons] at *; omega, fun h => (by cases h), fun _ => ⟨.inr hno, by simp only [V.tot, V.tots, List.length_nil, List.length_cons] at *; omega⟩⟩
end Go.E
namespace Go.E
set_option maxRecDepth 20000
set_option maxHeartbeats 2000000
open Go.Proofs
variable {G : Gh}
theorem flds_none {ts : List Ty} {f : List UInt8 → List UInt8 → Option (V × List UInt8)} {t : Ty} {s : List UInt8} {vs : List V} {last : Int} : ∀ {m : Nat}, rdField f t s = none → rdFlds ts f t m last s vs = none
  | 0, _ => rfl
  | m + 1, h => by rw [rdFlds, h]
theorem flds_step {ts : List Ty} {f : List UInt8 → List UInt8 → Option (V × List UInt8)} {t : Ty} {s r : List UInt8} {vs : List V} {last : Int} {d : Fld} {v : V} {m : Nat} (h : rdField f t s = some ((d, v), r)) (hm : 0 < m) :
    rdFlds ts f t m last s vs = if d.tag ≤ last ∨ v.out = standF ts d then none else match r with
      | [] => none
      | c :: r' => if c.toNat = 44 then rdFlds ts f t (m - 1) d.tag r' (vs ++ [.nd 61 [] d.tag [v]]) else if c.toNat = 125 then some (vs ++ [.nd 61 [] d.tag [v]], r') else none := by
  obtain ⟨m, rfl⟩ : ∃ k, m = k + 1 := ⟨m - 1, by omega⟩
  rw [rdFlds, h]; rfl
theorem rdField_nil {f : List UInt8 → List UInt8 → Option (V × List UInt8)} {t : Ty} : rdField f t [] = none := by
  unfold rdField rdNum
  have : numOf (([] : List UInt8).takeWhile isDg) 200 = none := by
    cases h : numOf (([] : List UInt8).takeWhile isDg) 200 with
    | none => rfl
    | some m =>
      have := (numOf_le h).2.1
      have h2 := decI_pos m
      rw [← this] at h2; simp at h2
  rw [this]; rfl
theorem c_ofR {n r sc bt : Nat} {qs : List TyP} {t : Ty} {s : List UInt8} {b : Bool} (hV : ValC n sc qs) (hS : ScI G sc qs) (hW0 : SchW (tyq qs)) (hkf : ∀ d ∈ t.fields, kindIn (tyq qs) d.kind = true) (hT : TyI G bt t) (hw : TyW t) (hso : t.sort = 82) (hs : s.length ≤ n ∧ s.length ≤ 1000) :
    FnM Tryz.prog 98 [Pt r 0, Pt bt 0] G [scO r sc s b] (ValP (rdTyped (tyq qs) (rd (tyq qs) n) t) r sc s b) := by
  obtain ⟨fv, ln, h1, h2⟩ := hT
  have hfl := hw.len
  have hso' : (t.sort : Int) = 82 := by omega
  have cx_wa := c_want (G := G) (r := r) (sc := sc) (s := s) (l := [123]) (b := b) ⟨by omega, by simp⟩
  have cx_tk := c_take (G := G) (r := r) (sc := sc) (s := tkS [123] s b) (l := [125]) (b := !tkR [123] s b) ⟨by have := tk_len (l := [123]) (s := s) (b := b); omega, by simp⟩
  cases ht : tkR [123] s b with
  | false =>
    rw [ht, tkSF ht] at cx_wa cx_tk
    rw [Bool.not_false, tkT, tkST] at cx_tk
    have cx_wb := c_want (G := G) (r := r) (sc := sc) (s := s) (l := [125]) (b := true) ⟨by omega, by simp⟩
    rw [tkT, tkST] at cx_wb
    have hno : b = true ∨ rdTyped (tyq qs) (rd (tyq qs) n) t s = none := by
      cases b with
      | true => exact .inl rfl
      | false => exact .inr (typed_no (.inl ⟨hso, rfl⟩) (tk_no ht))
    refine m_enter [(0, _), (1, _)] Tryz.func98 (by kernel_rfl) Tryz.ntmps98 rfl rfl (by repeat' constructor) fun B hB hW => ?_
    repeat' (first | (refine run (t := tb) 400 rfl trivial ?_) | (refine k_op rfl ?_; first | refine c_al rfl rfl fun _ => ?_ | refine v_op (g_ldS rfl rfl (by assumption) rfl rfl) rfl rfl ?_ | refine v_op (g_bld rfl rfl) rfl rfl ?_ | refine c_stA rfl rfl rfl rfl rfl rfl ?_ | (refine c_m1g rfl rfl rfl cx_wa rfl ?_; rintro _ _ rfl; dsimp only [List.cons_append, List.nil_append]) | (refine c_m1g rfl rfl rfl cx_tk rfl ?_; rintro _ _ ⟨rfl, rfl⟩; dsimp only [List.cons_append, List.nil_append])) | (refine k_ff rfl (by first | rfl | (refine decide_eq_false ?_; (omega))) ?_))
    rename_i x4 x5 _
    refine k_loop (ι := Unit) (fun i => True) (fun i => [(0, Pt r 0), (1, Pt bt 0), (4, Pt x4 0), (5, Pt x5 0), (8, I 0)]) (fun _ => G) (fun i => [scO r sc s true, lo4 x5 [U8 t.sort, S [], I 0, nilS], lo4 x4 [U8 0, S [], I 0, nilS]]) (fun i => 0) () ?_ (by repeat' constructor) rfl sRr (fun i Hi => ?_)
    · trivial
    repeat' (first | (refine run (t := tb) 400 rfl trivial ?_) | (refine k_op rfl ?_; first | refine v_op (g_ld rfl rfl rfl) rfl rfl ?_ | refine v_op (g_ldA rfl rfl rfl rfl) rfl rfl ?_ | refine c_stA rfl rfl rfl rfl rfl rfl ?_ | (refine c_m1g rfl rfl rfl cx_wb rfl ?_; rintro _ _ rfl; dsimp only [List.cons_append, List.nil_append])) | (refine k_ff rfl rfl ?_))
    refine k_rr (vs := [_]) rfl ⟨rc_A rfl rfl rfl rfl, trivial⟩ rfl (by repeat (first | exact List.nil_sublist _ | apply List.Sublist.cons_cons)) ⟨Gh.le.refl _, .nd 82 [] 0 [], ⟨82, [], 0, none, 0, 0⟩, s, true, by rw [hso]; rfl, rep_leaf (by decide) (by decide), rfl, Nat.le_refl _, fun h => (by cases h), fun _ => ⟨hno, by simp only [V.tot, V.tots, List.length_nil]; omega⟩⟩
  | true =>
    have hb : b = false := by cases b with | true => rw [tkT] at ht; cases ht | false => rfl
    subst hb
    obtain ⟨s1, rfl⟩ := tk1.1 ht
    rw [ht, tk1S] at cx_wa cx_tk
    rw [Bool.not_true] at cx_wa cx_tk
    simp only [List.length_cons] at hs
    cases ht2 : tkR [125] s1 false with
    | true =>
      obtain ⟨s2, rfl⟩ := tk1.1 ht2
      rw [ht2, tk1S] at cx_tk
      have hgood : rdTyped (tyq qs) (rd (tyq qs) n) t (123 :: 125 :: s2) = some (.nd 82 [] 0 [], s2) := by
        unfold rdTyped
        dsimp only
        rw [if_pos hso, if_pos (show (123 : UInt8).toNat = 123 from rfl), if_pos (show (125 : UInt8).toNat = 125 from rfl)]
      refine m_enter [(0, _), (1, _)] Tryz.func98 (by kernel_rfl) Tryz.ntmps98 rfl rfl (by repeat' constructor) fun B hB hW => ?_
      repeat' (first | (refine run (t := tb) 400 rfl trivial ?_) | (refine k_op rfl ?_; first | refine c_al rfl rfl fun _ => ?_ | refine v_op (g_ldA rfl rfl rfl rfl) rfl rfl ?_ | refine v_op (g_ldS rfl rfl (by assumption) rfl rfl) rfl rfl ?_ | refine v_op (g_bld rfl rfl) rfl rfl ?_ | refine c_stA rfl rfl rfl rfl rfl rfl ?_ | (refine c_m1g rfl rfl rfl cx_wa rfl ?_; rintro _ _ rfl; dsimp only [List.cons_append, List.nil_append]) | (refine c_m1g rfl rfl rfl cx_tk rfl ?_; rintro _ _ ⟨rfl, rfl⟩; dsimp only [List.cons_append, List.nil_append])) | (refine k_tt rfl rfl ?_) | (refine k_ff rfl (dFf (by omega)) ?_))
      refine k_rr (vs := [_]) rfl ⟨rc_A rfl rfl rfl rfl, trivial⟩ rfl (by repeat (first | exact List.nil_sublist _ | apply List.Sublist.cons_cons)) ⟨Gh.le.refl _, .nd 82 [] 0 [], ⟨82, [], 0, none, 0, 0⟩, s2, false, by rw [hso]; rfl, rep_leaf (by decide) (by decide), rfl, by simp only [List.length_cons]; omega, fun _ => ⟨rfl, hgood⟩, fun h => (by cases h)⟩
    | false =>
      rw [ht2, tkSF ht2] at cx_tk
      have hR : rdTyped (tyq qs) (rd (tyq qs) n) t (123 :: s1) = (rdFlds (tyq qs) (rd (tyq qs) n) t (s1.length + 1) 0 s1 []).map fun x => (.nd 82 [] 0 x.1, x.2) := by
        unfold rdTyped
        dsimp only
        rw [if_pos hso, if_pos (show (123 : UInt8).toNat = 123 from rfl)]
        cases s1 with
        | nil => rw [flds_none rdField_nil]; rfl
        | cons e r' =>
          dsimp only
          rw [if_neg]
          intro h93
          exact tk_no ht2 r' (by rw [show e = 125 from UInt8.toNat_inj.1 h93])
      refine m_enter [(0, _), (1, _)] Tryz.func98 (by kernel_rfl) Tryz.ntmps98 rfl rfl (by repeat' constructor) fun B hB hW => ?_
      repeat' (first | (refine run (t := tb) 400 rfl trivial ?_) | (refine k_op rfl ?_; first | refine c_al rfl rfl fun _ => ?_ | refine v_op (g_ldS rfl rfl (by assumption) rfl rfl) rfl rfl ?_ | refine v_op (g_bld rfl rfl) rfl rfl ?_ | refine c_stA rfl rfl rfl rfl rfl rfl ?_ | (refine c_m1g rfl rfl rfl cx_wa rfl ?_; rintro _ _ rfl; dsimp only [List.cons_append, List.nil_append]) | (refine c_m1g rfl rfl rfl cx_tk rfl ?_; rintro _ _ ⟨rfl, rfl⟩; dsimp only [List.cons_append, List.nil_append])) | (refine k_ff rfl (by first | rfl | (refine decide_eq_false ?_; (omega))) ?_))
      rename_i x4 x5 _
      refine Nx.addNil tVal 4 (Nx.perm (List.Perm.swap _ _ _) ?_)
      refine k_loop (ι := List V × List VC × Option Addr × Nat × List UInt8 × Nat × Int × Gh) (fun q => (V.reps q.2.2.2.2.2.2.2 q.1 q.2.1 ∧ Gh.le G q.2.2.2.2.2.2.2) ∧ (rdFlds (tyq qs) (rd (tyq qs) n) t (s1.length + 1) 0 s1 [] = rdFlds (tyq qs) (rd (tyq qs) n) t q.2.2.2.2.2.1 q.2.2.2.2.2.2.1 q.2.2.2.2.1 q.1 ∧ q.2.2.2.2.1.length < q.2.2.2.2.2.1) ∧ (V.tots q.1 + 100 * q.2.2.2.2.1.length + 100 ≤ 100 * (s1.length + 1) ∧ q.2.2.2.2.1.length ≤ s1.length)) (fun q => [(0, Pt r 0), (1, Pt bt 0), (4, Pt x4 0), (5, Pt x5 0), (8, I q.2.2.2.2.2.2.1)]) (fun q => q.2.2.2.2.2.2.2) (fun q => [scO r sc q.2.2.2.2.1 false, .acc (.slice q.2.2.1 q.1.length q.2.2.2.1) tVal 4 q.1.length (rows vcF q.2.1), lo4 x5 [U8 t.sort, S [], I 0, .slice q.2.2.1 q.1.length q.2.2.2.1], lo4 x4 [U8 0, S [], I 0, nilS]]) (fun q => q.2.2.2.2.1.length) ([], [], none, 0, s1, s1.length + 1, 0, G) ?_ (by repeat' constructor) rfl sRr (fun q Hq => ?_)
      · exact ⟨⟨rfl, Gh.le.refl _⟩, ⟨rfl, by dsimp only; omega⟩, by dsimp only; simp only [V.tots]; omega, Nat.le_refl _⟩
      obtain ⟨vs, cs, a, cap, t', m, last, Gq⟩ := q
      dsimp only at Hq ⊢
      obtain ⟨⟨hreps, hgq⟩, ⟨hit, htm⟩, hT, htl'⟩ := Hq
      have hcl := reps_len hreps
      have hkl := tots_len vs
      have hfv : t.fields ≠ [] → ∃ bf of cf, fv = .slice (some ⟨bf, of, none⟩) t.fields.length cf ∧ Seg G bf of (rows fiF t.fields) := fun h => by
        obtain ⟨bf, of, cf, e, hs⟩ := h2.expl (List.length_pos_iff.2 h)
        exact ⟨bf, of, cf, e, hs⟩
      obtain ⟨bf, of, cf, hfv⟩ : ∃ bf of cf, t.fields ≠ [] → fv = .slice (some ⟨bf, of, none⟩) t.fields.length cf ∧ Seg G bf of (rows fiF t.fields) := by
        by_cases h : t.fields = []
        · exact ⟨0, 0, 0, fun h' => absurd h h'⟩
        · obtain ⟨bf, of, cf, h⟩ := hfv h
          exact ⟨bf, of, cf, fun _ => h⟩
      have cx_fd := c_fieldV (s := t') (b := false) (r := r) hV (hS.mono hgq) hw hkf (h1.mono hgq) (h2.mono hgq) (fun h => ⟨(hfv h).1, (hfv h).2.mono hgq⟩) ⟨by omega, by omega⟩
      repeat' (first | (refine run (t := tb) 400 rfl trivial ?_) | (refine k_op rfl ?_; first | refine c_al rfl rfl fun _ => ?_ | refine v_op (g_ld rfl rfl rfl) rfl rfl ?_ | refine c_st1 rfl rfl rfl rfl ?_ | refine c_stA rfl rfl rfl rfl rfl rfl ?_ | (refine c_m1s rfl rfl rfl cx_fd rfl ?_; rintro _ G1 _ hle ⟨t1, b1, rfl, htl, ⟨rfl, rfl, hF⟩ | ⟨j, u1, c1, hj, rfl, hrep, hb0, hto, hg, hbd⟩⟩ <;> (dsimp only [List.cons_append, List.nil_append]; skip))) | (refine k_tt rfl rfl ?_) | (refine k_any (s_any (id := 9) _ (fun _ h => h) mixed ?_); refine x_tks (t := tb) (fuel := 23) [0] (bts 24 1) (by kernel_rfl) (by kernel_rfl) rfl rfl gRr sRr trivial ?_; ((refine (x_tkg (bts 24 3) 1 rfl (by kernel_rfl) rfl gRr sRr) (g_peq0 rfl rfl) rfl rfl ?_)); refine x_tks (t := tb) (fuel := 21) [2] (bts 24 7) (by kernel_rfl) (by kernel_rfl) rfl rfl gRr sRr trivial ?_; (try (first | (refine Nx.re (d := 38) (v' := Bo true) rfl (congrArg Value.bool rfl) ?_) | (refine Nx.re (d := 38) (v' := Bo false) rfl (congrArg Value.bool rfl) ?_))); refine x_tks (t := tb) (fuel := 17) [3, 4, 5, 7] (bts 24 191) (by kernel_rfl) (by kernel_rfl) rfl rfl gRr sRr trivial ?_; (refine x_tkn (bts 24 255) 6 rfl (by kernel_rfl) rfl gRr sRr rfl rfl ?_); refine x_tks (t := tb) (fuel := 15) [8] (bts 24 511) (by kernel_rfl) (by kernel_rfl) rfl rfl gRr sRr trivial ?_; ((refine (x_tkg (bts 24 1023) 9 rfl (by kernel_rfl) rfl gRr sRr) (g_pickT rfl rfl rfl) rfl rfl ?_)); refine x_tks (t := tb) (fuel := 13) [10] (bts 24 2047) (by kernel_rfl) (by kernel_rfl) rfl rfl gRr sRr trivial ?_; (try (refine Nx.re (d := 46) (v' := Bo true) rfl (congrArg Value.bool rfl) ?_)); refine x_tks (t := tb) (fuel := 8) [11, 16, 17, 18, 20] (bts 24 1511423) (by kernel_rfl) (by kernel_rfl) rfl rfl gRr sRr trivial ?_; (refine x_tkn (bts 24 1515519) 12 rfl (by kernel_rfl) rfl gRr sRr rfl rfl ?_); (refine x_tkn (bts 24 1523711) 13 rfl (by kernel_rfl) rfl gRr sRr rfl rfl ?_); (refine x_tkn (bts 24 1540095) 14 rfl (by kernel_rfl) rfl gRr sRr rfl rfl ?_); (refine x_tkn (bts 24 2064383) 19 rfl (by kernel_rfl) rfl gRr sRr rfl rfl ?_); (refine x_tkn (bts 24 2097151) 15 rfl (by kernel_rfl) rfl gRr sRr rfl rfl ?_); (refine x_tkn (bts 24 4194303) 21 rfl (by kernel_rfl) rfl gRr sRr rfl rfl ?_); refine x_tks (t := tb) (fuel := 1) [22] (bts 24 8388607) (by kernel_rfl) (by kernel_rfl) rfl rfl gRr sRr trivial ?_; ((refine (x_tkg (bts 24 16777215) 23 rfl (by kernel_rfl) rfl gRr sRr) (g_pickT rfl rfl rfl) rfl rfl ?_)); refine x_done (by kernel_rfl) (k_bk ?_)))
      · have hgl := hgq.trans hle
        have hno : rdField (rd (tyq qs) n) t t' = none := by
          rcases hF with h | h
          · cases h
          · exact h
        have hit2 : rdFlds (tyq qs) (rd (tyq qs) n) t m last t' vs = none := flds_none hno
        have cx_wb := c_want (G := G1) (r := r) (sc := sc) (s := t1) (l := [125]) (b := true) ⟨by omega, by simp⟩
        rw [tkT, tkST, Bool.not_false] at cx_wb
        repeat' (first | (refine run (t := tb) 400 rfl trivial ?_) | (refine k_op rfl ?_; first | refine v_op (g_ldA rfl rfl rfl rfl) rfl rfl ?_ | refine c_stA rfl rfl rfl rfl rfl rfl ?_ | (refine c_m1g rfl rfl rfl cx_wb rfl ?_; rintro _ _ rfl; dsimp only [List.cons_append, List.nil_append])))
        refine Nx.sealS (v := .slice a vs.length cap) fun G2 hG2 hsl => ?_
        refine k_rr (vs := [_]) rfl ⟨rc_A rfl rfl rfl rfl, trivial⟩ rfl (by repeat (first | exact List.nil_sublist _ | apply List.Sublist.cons_cons)) ⟨hgl.trans hG2, .nd 82 [] 0 vs, ⟨82, [], 0, a, vs.length, cap⟩, t1, true, by rw [hso]; rfl, rep_mk (by decide) (by decide) (fun h => absurd h (by decide)) rfl (by rw [hcl]; exact hsl) (reps_mono (hle.trans hG2) hreps), rfl, by simp only [List.length_cons]; omega, fun h => (by cases h), fun _ => ⟨.inr (by rw [hR, hit, hit2]; rfl), by rw [nd_tot]; simp only [List.length_cons, List.length_nil]; omega⟩⟩
      · have hgl := hgq.trans hle
        obtain ⟨kb, ko, kc, d, rfl, htg, hsd, hrd, hru⟩ := rep_uni hrep
        dsimp only [vcF, VC.sl]
        have hsf1 := (hfv (fun h => by rw [h] at hj; simp at hj)).2.mono hgl
        have hS1 := hS.mono hgl
        have cx_pr := c_print (G := G1) u1.tot (Nat.le_refl _) (by omega) hrd
        have hotl := out_tot hrd
        have cx_of := c_ofI hS1 hW0 hsf1 hj (hkf _ (nth_mem hj))
        have cx_wb := c_want (G := G1) (r := r) (sc := sc) (s := t1) (l := [125]) (b := true) ⟨by omega, by simp⟩
        rw [tkT, tkST, Bool.not_false] at cx_wb
        by_cases hbrk : (nth t.fields j).tag ≤ last ∨ u1.out = standF (tyq qs) (nth t.fields j)
        · have hit2 : rdFlds (tyq qs) (rd (tyq qs) n) t m last t' vs = none := by
            cases b1 with
            | true => exact flds_none (hbd rfl)
            | false => rw [flds_step (hg rfl) (by omega), if_pos hbrk]
          by_cases hlast : (nth t.fields j).tag ≤ last
          · repeat' (first | (refine run (t := tb) 400 rfl trivial ?_) | (refine k_op rfl ?_; first | refine v_op (g_ldA rfl rfl rfl rfl) rfl rfl ?_ | refine c_st1 rfl rfl rfl rfl ?_ | refine c_stA rfl rfl rfl rfl rfl rfl ?_ | (refine c_m1g rfl rfl rfl cx_wb rfl ?_; rintro _ _ rfl; dsimp only [List.cons_append, List.nil_append])) | (refine k_tt rfl rfl ?_) | (refine k_any (s_any (id := 9) _ (fun _ h => h) mixed ?_); refine x_tks (t := tb) (fuel := 23) [0] (bts 24 1) (by kernel_rfl) (by kernel_rfl) rfl rfl gRr sRr trivial ?_; ((refine (x_tkg (bts 24 3) 1 rfl (by kernel_rfl) rfl gRr sRr) (g_peq0 rfl rfl) rfl rfl ?_)); refine x_tks (t := tb) (fuel := 21) [2] (bts 24 7) (by kernel_rfl) (by kernel_rfl) rfl rfl gRr sRr trivial ?_; (try (refine Nx.re (d := 38) (v' := Bo false) rfl (congrArg Value.bool rfl) ?_)); refine x_tks (t := tb) (fuel := 17) [3, 4, 5, 7] (bts 24 191) (by kernel_rfl) (by kernel_rfl) rfl rfl gRr sRr trivial ?_; ((refine (x_tkg (bts 24 255) 6 rfl (by kernel_rfl) rfl gRr sRr) (g_ldRF rfl rfl (by assumption) ?_ rfl rfl) rfl rfl ?_; (focus ((omega); done)))); refine x_tks (t := tb) (fuel := 15) [8] (bts 24 511) (by kernel_rfl) (by kernel_rfl) rfl rfl gRr sRr trivial ?_; ((refine (x_tkg (bts 24 1023) 9 rfl (by kernel_rfl) rfl gRr sRr) (g_pickF rfl rfl rfl) rfl rfl ?_)); refine x_tks (t := tb) (fuel := 13) [10] (bts 24 2047) (by kernel_rfl) (by kernel_rfl) rfl rfl gRr sRr trivial ?_; (try ((refine Nx.re (d := 46) (v' := Bo true) rfl (congrArg Value.bool (dTt ‹_›)) ?_))); refine x_tks (t := tb) (fuel := 8) [11, 16, 17, 18, 20] (bts 24 1511423) (by kernel_rfl) (by kernel_rfl) rfl rfl gRr sRr trivial ?_; (refine x_tkn (bts 24 1515519) 12 rfl (by kernel_rfl) rfl gRr sRr rfl rfl ?_); (refine x_tkn (bts 24 1523711) 13 rfl (by kernel_rfl) rfl gRr sRr rfl rfl ?_); (refine x_tkn (bts 24 1540095) 14 rfl (by kernel_rfl) rfl gRr sRr rfl rfl ?_); (refine x_tkn (bts 24 2064383) 19 rfl (by kernel_rfl) rfl gRr sRr rfl rfl ?_); (refine x_tkn (bts 24 2097151) 15 rfl (by kernel_rfl) rfl gRr sRr rfl rfl ?_); (refine x_tkn (bts 24 4194303) 21 rfl (by kernel_rfl) rfl gRr sRr rfl rfl ?_); refine x_tks (t := tb) (fuel := 1) [22] (bts 24 8388607) (by kernel_rfl) (by kernel_rfl) rfl rfl gRr sRr trivial ?_; ((refine (x_tkg (bts 24 16777215) 23 rfl (by kernel_rfl) rfl gRr sRr) (g_pickT rfl rfl rfl) rfl rfl ?_)); refine x_done (by kernel_rfl) (k_bk ?_)))
            refine Nx.sealS (v := .slice a vs.length cap) fun G2 hG2 hsl => ?_
            refine k_rr (vs := [_]) rfl ⟨rc_A rfl rfl rfl rfl, trivial⟩ rfl (by repeat (first | exact List.nil_sublist _ | apply List.Sublist.cons_cons)) ⟨hgl.trans hG2, .nd 82 [] 0 vs, ⟨82, [], 0, a, vs.length, cap⟩, t1, true, by rw [hso]; rfl, rep_mk (by decide) (by decide) (fun h => absurd h (by decide)) rfl (by rw [hcl]; exact hsl) (reps_mono (hle.trans hG2) hreps), rfl, by simp only [List.length_cons]; omega, fun h => (by cases h), fun _ => ⟨.inr (by rw [hR, hit, hit2]; rfl), by rw [nd_tot]; simp only [List.length_cons, List.length_nil]; omega⟩⟩
          · have heq : u1.out = standF (tyq qs) (nth t.fields j) := by
              rcases hbrk with h | h
              · exact absurd h hlast
              · exact h
            repeat' (first | (refine run (t := tb) 400 rfl trivial ?_) | (refine k_op rfl ?_; first | refine v_op (g_ldA rfl rfl rfl rfl) rfl rfl ?_ | refine c_st1 rfl rfl rfl rfl ?_ | refine c_stA rfl rfl rfl rfl rfl rfl ?_ | (refine c_m1g rfl rfl rfl cx_wb rfl ?_; rintro _ _ rfl; dsimp only [List.cons_append, List.nil_append])) | (refine k_tt rfl (dTt ‹_›) ?_) | (refine k_any (s_any (id := 9) _ (fun _ h => h) mixed ?_); refine x_tks (t := tb) (fuel := 23) [0] (bts 24 1) (by kernel_rfl) (by kernel_rfl) rfl rfl gRr sRr trivial ?_; ((refine (x_tkg (bts 24 3) 1 rfl (by kernel_rfl) rfl gRr sRr) (g_peq0 rfl rfl) rfl rfl ?_)); refine x_tks (t := tb) (fuel := 21) [2] (bts 24 7) (by kernel_rfl) (by kernel_rfl) rfl rfl gRr sRr trivial ?_; (try (refine Nx.re (d := 38) (v' := Bo false) rfl (congrArg Value.bool rfl) ?_)); refine x_tks (t := tb) (fuel := 17) [3, 4, 5, 7] (bts 24 191) (by kernel_rfl) (by kernel_rfl) rfl rfl gRr sRr trivial ?_; ((refine (x_tkg (bts 24 255) 6 rfl (by kernel_rfl) rfl gRr sRr) (g_ldRF rfl rfl (by assumption) ?_ rfl rfl) rfl rfl ?_; (focus ((omega); done)))); refine x_tks (t := tb) (fuel := 15) [8] (bts 24 511) (by kernel_rfl) (by kernel_rfl) rfl rfl gRr sRr trivial ?_; ((refine (x_tkg (bts 24 1023) 9 rfl (by kernel_rfl) rfl gRr sRr) (g_pickF rfl rfl rfl) rfl rfl ?_)); refine x_tks (t := tb) (fuel := 13) [10] (bts 24 2047) (by kernel_rfl) (by kernel_rfl) rfl rfl gRr sRr trivial ?_; (try ((refine Nx.re (d := 46) (v' := Bo false) rfl (congrArg Value.bool (dFf ‹_›)) ?_))); refine x_tks (t := tb) (fuel := 8) [11, 16, 17, 18, 20] (bts 24 1511423) (by kernel_rfl) (by kernel_rfl) rfl rfl gRr sRr trivial ?_; ((refine (x_tkg (bts 24 1515519) 12 rfl (by kernel_rfl) rfl gRr sRr) (g_ld rfl rfl rfl) rfl rfl ?_)); ((refine (x_tkg (bts 24 1523711) 13 rfl (by kernel_rfl) rfl gRr sRr) (g_iaddr rfl rfl (by omega)) rfl rfl ?_)); ((refine (x_tkg (bts 24 1540095) 14 rfl (by kernel_rfl) rfl gRr sRr) (g_ldR rfl rfl (by assumption) ?_) rfl rfl ?_; (focus ((simp only [List.length_append, List.length_cons, List.length_nil, List.length_take]; omega); done)))); ((refine (x_tkg (bts 24 2064383) 19 rfl (by kernel_rfl) rfl gRr sRr) (g_ld rfl rfl rfl) rfl rfl ?_)); ((refine x_all [15] (by kernel_rfl) (by decide) ⟨?_, trivial⟩; refine x_opg rfl rfl ?_; (refine c_rt rfl rfl rfl cx_pr rfl ?_); refine x_ks gRr sRr (listed' := (bts 24 2097151)) (by kernel_rfl) ?_)); ((refine x_all [21] (by kernel_rfl) (by decide) ⟨?_, trivial⟩; refine x_opg rfl rfl ?_; (refine c_rt rfl rfl rfl cx_of rfl ?_); refine x_ks gRr sRr (listed' := (bts 24 4194303)) (by kernel_rfl) ?_)); refine x_tks (t := tb) (fuel := 1) [22] (bts 24 8388607) (by kernel_rfl) (by kernel_rfl) rfl rfl gRr sRr trivial ?_; ((refine (x_tkg (bts 24 16777215) 23 rfl (by kernel_rfl) rfl gRr sRr) (g_pickF rfl rfl rfl) rfl rfl ?_)); refine x_done (by kernel_rfl) (k_bk ?_)))
            refine Nx.sealS (v := .slice a vs.length cap) fun G2 hG2 hsl => ?_
            refine k_rr (vs := [_]) rfl ⟨rc_A rfl rfl rfl rfl, trivial⟩ rfl (by repeat (first | exact List.nil_sublist _ | apply List.Sublist.cons_cons)) ⟨hgl.trans hG2, .nd 82 [] 0 vs, ⟨82, [], 0, a, vs.length, cap⟩, t1, true, by rw [hso]; rfl, rep_mk (by decide) (by decide) (fun h => absurd h (by decide)) rfl (by rw [hcl]; exact hsl) (reps_mono (hle.trans hG2) hreps), rfl, by simp only [List.length_cons]; omega, fun h => (by cases h), fun _ => ⟨.inr (by rw [hR, hit, hit2]; rfl), by rw [nd_tot]; simp only [List.length_cons, List.length_nil]; omega⟩⟩
        · have hlast : ¬ (nth t.fields j).tag ≤ last := fun h => hbrk (.inl h)
          have heq : ¬ u1.out = standF (tyq qs) (nth t.fields j) := fun h => hbrk (.inr h)
          have hrow : rows vcF cs ++ [U8 ((61 : Nat) : Int), S [], I (nth t.fields j).tag, .slice (some ⟨kb, ko, none⟩) 1 kc] = rows vcF (cs ++ [⟨61, [], (nth t.fields j).tag, some ⟨kb, ko, none⟩, 1, kc⟩]) := (rows_snoc vcF cs (⟨61, [], (nth t.fields j).tag, some ⟨kb, ko, none⟩, 1, kc⟩ : VC)).symm
          have hr2 : V.reps G1 (vs ++ [.nd 61 [] (nth t.fields j).tag [u1]]) (cs ++ [⟨61, [], (nth t.fields j).tag, some ⟨kb, ko, none⟩, 1, kc⟩]) := reps_snoc hrep (reps_mono hle hreps)
          have hvl : (vs ++ [V.nd 61 [] (nth t.fields j).tag [u1]]).length = vs.length + 1 := by simp
          have htu : V.tots (vs ++ [V.nd 61 [] (nth t.fields j).tag [u1]]) = V.tots vs + (20 + u1.tot) := by simp [tots_app, V.tots, V.tot]
          cases b1 with
          | true =>
            have hit2 : rdFlds (tyq qs) (rd (tyq qs) n) t m last t' vs = none := flds_none (hbd rfl)
            have cx_tm := c_take (G := G1) (r := r) (sc := sc) (s := t1) (l := [44]) (b := true) ⟨by omega, by simp⟩
            rw [tkT, tkST] at cx_tm
            repeat' (first | (refine run (t := tb) 400 rfl trivial ?_) | (refine k_op rfl ?_; first | refine v_op (g_ld rfl rfl rfl) rfl rfl ?_ | (refine v_op (g_ldRF rfl rfl (by assumption) ?_ rfl rfl) rfl rfl ?_; (focus ((omega); done))) | refine v_op (g_ldA rfl rfl rfl rfl) rfl rfl ?_ | refine c_st1 rfl rfl rfl rfl ?_ | refine c_stA rfl rfl rfl rfl rfl rfl ?_ | refine c_bsl rfl rfl rfl rfl rfl rfl fun _ => ?_ | (refine c_apX rfl rfl rfl rfl rfl rfl rfl rfl rfl (by omega) fun _ _ => ?_) | (refine c_m1g rfl rfl rfl cx_wb rfl ?_; rintro _ _ rfl; dsimp only [List.cons_append, List.nil_append]) | (refine c_m1g rfl rfl rfl cx_tm rfl ?_; rintro _ _ ⟨rfl, rfl⟩; dsimp only [List.cons_append, List.nil_append])) | (refine k_tt rfl rfl ?_) | (refine k_ff rfl (dFf ‹_›) ?_) | (refine k_any (s_any (id := 9) _ (fun _ h => h) mixed ?_); refine x_tks (t := tb) (fuel := 23) [0] (bts 24 1) (by kernel_rfl) (by kernel_rfl) rfl rfl gRr sRr trivial ?_; ((refine (x_tkg (bts 24 3) 1 rfl (by kernel_rfl) rfl gRr sRr) (g_peq0 rfl rfl) rfl rfl ?_)); refine x_tks (t := tb) (fuel := 21) [2] (bts 24 7) (by kernel_rfl) (by kernel_rfl) rfl rfl gRr sRr trivial ?_; (try (refine Nx.re (d := 38) (v' := Bo false) rfl (congrArg Value.bool rfl) ?_)); refine x_tks (t := tb) (fuel := 17) [3, 4, 5, 7] (bts 24 191) (by kernel_rfl) (by kernel_rfl) rfl rfl gRr sRr trivial ?_; ((refine (x_tkg (bts 24 255) 6 rfl (by kernel_rfl) rfl gRr sRr) (g_ldRF rfl rfl (by assumption) ?_ rfl rfl) rfl rfl ?_; (focus ((omega); done)))); refine x_tks (t := tb) (fuel := 15) [8] (bts 24 511) (by kernel_rfl) (by kernel_rfl) rfl rfl gRr sRr trivial ?_; ((refine (x_tkg (bts 24 1023) 9 rfl (by kernel_rfl) rfl gRr sRr) (g_pickF rfl rfl rfl) rfl rfl ?_)); refine x_tks (t := tb) (fuel := 13) [10] (bts 24 2047) (by kernel_rfl) (by kernel_rfl) rfl rfl gRr sRr trivial ?_; (try ((refine Nx.re (d := 46) (v' := Bo false) rfl (congrArg Value.bool (dFf ‹_›)) ?_))); refine x_tks (t := tb) (fuel := 8) [11, 16, 17, 18, 20] (bts 24 1511423) (by kernel_rfl) (by kernel_rfl) rfl rfl gRr sRr trivial ?_; ((refine (x_tkg (bts 24 1515519) 12 rfl (by kernel_rfl) rfl gRr sRr) (g_ld rfl rfl rfl) rfl rfl ?_)); ((refine (x_tkg (bts 24 1523711) 13 rfl (by kernel_rfl) rfl gRr sRr) (g_iaddr rfl rfl (by omega)) rfl rfl ?_)); ((refine (x_tkg (bts 24 1540095) 14 rfl (by kernel_rfl) rfl gRr sRr) (g_ldR rfl rfl (by assumption) ?_) rfl rfl ?_; (focus ((simp only [List.length_append, List.length_cons, List.length_nil, List.length_take]; omega); done)))); ((refine (x_tkg (bts 24 2064383) 19 rfl (by kernel_rfl) rfl gRr sRr) (g_ld rfl rfl rfl) rfl rfl ?_)); ((refine x_all [15] (by kernel_rfl) (by decide) ⟨?_, trivial⟩; refine x_opg rfl rfl ?_; (refine c_rt rfl rfl rfl cx_pr rfl ?_); refine x_ks gRr sRr (listed' := (bts 24 2097151)) (by kernel_rfl) ?_)); ((refine x_all [21] (by kernel_rfl) (by decide) ⟨?_, trivial⟩; refine x_opg rfl rfl ?_; (refine c_rt rfl rfl rfl cx_of rfl ?_); refine x_ks gRr sRr (listed' := (bts 24 4194303)) (by kernel_rfl) ?_)); refine x_tks (t := tb) (fuel := 1) [22] (bts 24 8388607) (by kernel_rfl) (by kernel_rfl) rfl rfl gRr sRr trivial ?_; ((refine (x_tkg (bts 24 16777215) 23 rfl (by kernel_rfl) rfl gRr sRr) (g_pickF rfl rfl rfl) rfl rfl ?_)); refine x_done (by kernel_rfl) (k_bk ?_)))
            rename_i _ y1 yc _
            rw [hrow]
            refine Nx.sealS (v := .slice (some ⟨y1, 0, none⟩) (vs.length + 1) yc) fun G2 hG2 hsl => ?_
            refine k_rr (vs := [_]) rfl ⟨rc_A rfl rfl rfl rfl, trivial⟩ rfl (by repeat (first | exact List.nil_sublist _ | apply List.Sublist.cons_cons)) ⟨hgl.trans hG2, .nd 82 [] 0 (vs ++ [.nd 61 [] (nth t.fields j).tag [u1]]), ⟨82, [], 0, some ⟨y1, 0, none⟩, vs.length + 1, yc⟩, t1, true, by rw [hso]; rfl, rep_mk (by decide) (by decide) (fun h => absurd h (by decide)) hvl.symm (by rw [List.length_append, List.length_singleton, hcl]; exact hsl) (reps_mono hG2 hr2), rfl, by simp only [List.length_cons]; omega, fun h => (by cases h), fun _ => ⟨.inr (by rw [hR, hit, hit2]; rfl), by rw [nd_tot, htu]; simp only [List.length_cons, List.length_nil]; omega⟩⟩
          | false =>
            have hst := flds_step (ts := tyq qs) (vs := vs) (last := last) (m := m) (hg rfl) (by omega)
            rw [if_neg hbrk] at hst
            have cx_tm := c_take (G := G1) (r := r) (sc := sc) (s := t1) (l := [44]) (b := false) ⟨by omega, by simp⟩
            clear cx_wb
            have cx_wb := c_want (G := G1) (r := r) (sc := sc) (s := t1) (l := [125]) (b := false) ⟨by omega, by simp⟩
            cases ht3 : tkR [44] t1 false with
            | true =>
              obtain ⟨t2, rfl⟩ := tk1.1 ht3
              rw [ht3, tk1S] at cx_tm
              simp only [List.length_cons] at htl hto
              dsimp only at hst
              rw [if_pos (show (44 : UInt8).toNat = 44 from rfl)] at hst
              have hlt : t2.length < m - 1 := by omega
              repeat' (first | (refine run (t := tb) 400 rfl trivial ?_) | (refine k_op rfl ?_; first | refine v_op (g_ld rfl rfl rfl) rfl rfl ?_ | (refine v_op (g_ldRF rfl rfl (by assumption) ?_ rfl rfl) rfl rfl ?_; (focus ((omega); done))) | refine v_op (g_ldA rfl rfl rfl rfl) rfl rfl ?_ | refine c_st1 rfl rfl rfl rfl ?_ | refine c_bsl rfl rfl rfl rfl rfl rfl fun _ => ?_ | (refine c_apX rfl rfl rfl rfl rfl rfl rfl rfl rfl (by omega) fun _ _ => ?_) | (refine c_m1g rfl rfl rfl cx_tm rfl ?_; rintro _ _ ⟨rfl, rfl⟩; dsimp only [List.cons_append, List.nil_append])) | (refine k_ff rfl (by first | rfl | (refine decide_eq_false ?_; (assumption))) ?_) | (refine k_any (s_any (id := 9) _ (fun _ h => h) mixed ?_); refine x_tks (t := tb) (fuel := 23) [0] (bts 24 1) (by kernel_rfl) (by kernel_rfl) rfl rfl gRr sRr trivial ?_; ((refine (x_tkg (bts 24 3) 1 rfl (by kernel_rfl) rfl gRr sRr) (g_peq0 rfl rfl) rfl rfl ?_)); refine x_tks (t := tb) (fuel := 21) [2] (bts 24 7) (by kernel_rfl) (by kernel_rfl) rfl rfl gRr sRr trivial ?_; (try (refine Nx.re (d := 38) (v' := Bo false) rfl (congrArg Value.bool rfl) ?_)); refine x_tks (t := tb) (fuel := 17) [3, 4, 5, 7] (bts 24 191) (by kernel_rfl) (by kernel_rfl) rfl rfl gRr sRr trivial ?_; ((refine (x_tkg (bts 24 255) 6 rfl (by kernel_rfl) rfl gRr sRr) (g_ldRF rfl rfl (by assumption) ?_ rfl rfl) rfl rfl ?_; (focus ((omega); done)))); refine x_tks (t := tb) (fuel := 15) [8] (bts 24 511) (by kernel_rfl) (by kernel_rfl) rfl rfl gRr sRr trivial ?_; ((refine (x_tkg (bts 24 1023) 9 rfl (by kernel_rfl) rfl gRr sRr) (g_pickF rfl rfl rfl) rfl rfl ?_)); refine x_tks (t := tb) (fuel := 13) [10] (bts 24 2047) (by kernel_rfl) (by kernel_rfl) rfl rfl gRr sRr trivial ?_; (try ((refine Nx.re (d := 46) (v' := Bo false) rfl (congrArg Value.bool (dFf ‹_›)) ?_))); refine x_tks (t := tb) (fuel := 8) [11, 16, 17, 18, 20] (bts 24 1511423) (by kernel_rfl) (by kernel_rfl) rfl rfl gRr sRr trivial ?_; ((refine (x_tkg (bts 24 1515519) 12 rfl (by kernel_rfl) rfl gRr sRr) (g_ld rfl rfl rfl) rfl rfl ?_)); ((refine (x_tkg (bts 24 1523711) 13 rfl (by kernel_rfl) rfl gRr sRr) (g_iaddr rfl rfl (by omega)) rfl rfl ?_)); ((refine (x_tkg (bts 24 1540095) 14 rfl (by kernel_rfl) rfl gRr sRr) (g_ldR rfl rfl (by assumption) ?_) rfl rfl ?_; (focus ((simp only [List.length_append, List.length_cons, List.length_nil, List.length_take]; omega); done)))); ((refine (x_tkg (bts 24 2064383) 19 rfl (by kernel_rfl) rfl gRr sRr) (g_ld rfl rfl rfl) rfl rfl ?_)); ((refine x_all [15] (by kernel_rfl) (by decide) ⟨?_, trivial⟩; refine x_opg rfl rfl ?_; (refine c_rt rfl rfl rfl cx_pr rfl ?_); refine x_ks gRr sRr (listed' := (bts 24 2097151)) (by kernel_rfl) ?_)); ((refine x_all [21] (by kernel_rfl) (by decide) ⟨?_, trivial⟩; refine x_opg rfl rfl ?_; (refine c_rt rfl rfl rfl cx_of rfl ?_); refine x_ks gRr sRr (listed' := (bts 24 4194303)) (by kernel_rfl) ?_)); refine x_tks (t := tb) (fuel := 1) [22] (bts 24 8388607) (by kernel_rfl) (by kernel_rfl) rfl rfl gRr sRr trivial ?_; ((refine (x_tkg (bts 24 16777215) 23 rfl (by kernel_rfl) rfl gRr sRr) (g_pickF rfl rfl rfl) rfl rfl ?_)); refine x_done (by kernel_rfl) (k_bk ?_)))
              rename_i _ y1 yc
              rw [hrow]
              exact k_rd (vs ++ [.nd 61 [] (nth t.fields j).tag [u1]], cs ++ [⟨61, [], (nth t.fields j).tag, some ⟨kb, ko, none⟩, 1, kc⟩], some ⟨y1, 0, none⟩, yc, t2, m - 1, (nth t.fields j).tag, G1) ⟨⟨hr2, hgl⟩, ⟨by rw [hit, hst], hlt⟩, by dsimp only; omega, by dsimp only; omega⟩ (by dsimp only; omega) (by repeat' constructor) rfl (by rw [hvl]; repeat (first | exact List.Sublist.refl _ | apply List.Sublist.cons_cons | apply List.Sublist.cons))
            | false =>
              rw [ht3, tkSF ht3] at cx_tm
              cases ht4 : tkR [125] t1 false with
              | true =>
                obtain ⟨t2, rfl⟩ := tk1.1 ht4
                rw [ht4, tk1S, Bool.not_true] at cx_wb
                simp only [List.length_cons] at htl hto
                dsimp only at hst
                rw [if_neg (show ¬ (125 : UInt8).toNat = 44 by decide), if_pos (show (125 : UInt8).toNat = 125 from rfl)] at hst
                have hit2 := hst
                repeat' (first | (refine run (t := tb) 400 rfl trivial ?_) | (refine k_op rfl ?_; first | refine v_op (g_ld rfl rfl rfl) rfl rfl ?_ | (refine v_op (g_ldRF rfl rfl (by assumption) ?_ rfl rfl) rfl rfl ?_; (focus ((omega); done))) | refine v_op (g_ldA rfl rfl rfl rfl) rfl rfl ?_ | refine c_st1 rfl rfl rfl rfl ?_ | refine c_stA rfl rfl rfl rfl rfl rfl ?_ | refine c_bsl rfl rfl rfl rfl rfl rfl fun _ => ?_ | (refine c_apX rfl rfl rfl rfl rfl rfl rfl rfl rfl (by omega) fun _ _ => ?_) | (refine c_m1g rfl rfl rfl cx_wb rfl ?_; rintro _ _ rfl; dsimp only [List.cons_append, List.nil_append]) | (refine c_m1g rfl rfl rfl cx_tm rfl ?_; rintro _ _ ⟨rfl, rfl⟩; dsimp only [List.cons_append, List.nil_append])) | (refine k_tt rfl rfl ?_) | (refine k_ff rfl (dFf ‹_›) ?_) | (refine k_any (s_any (id := 9) _ (fun _ h => h) mixed ?_); refine x_tks (t := tb) (fuel := 23) [0] (bts 24 1) (by kernel_rfl) (by kernel_rfl) rfl rfl gRr sRr trivial ?_; ((refine (x_tkg (bts 24 3) 1 rfl (by kernel_rfl) rfl gRr sRr) (g_peq0 rfl rfl) rfl rfl ?_)); refine x_tks (t := tb) (fuel := 21) [2] (bts 24 7) (by kernel_rfl) (by kernel_rfl) rfl rfl gRr sRr trivial ?_; (try (refine Nx.re (d := 38) (v' := Bo false) rfl (congrArg Value.bool rfl) ?_)); refine x_tks (t := tb) (fuel := 17) [3, 4, 5, 7] (bts 24 191) (by kernel_rfl) (by kernel_rfl) rfl rfl gRr sRr trivial ?_; ((refine (x_tkg (bts 24 255) 6 rfl (by kernel_rfl) rfl gRr sRr) (g_ldRF rfl rfl (by assumption) ?_ rfl rfl) rfl rfl ?_; (focus ((omega); done)))); refine x_tks (t := tb) (fuel := 15) [8] (bts 24 511) (by kernel_rfl) (by kernel_rfl) rfl rfl gRr sRr trivial ?_; ((refine (x_tkg (bts 24 1023) 9 rfl (by kernel_rfl) rfl gRr sRr) (g_pickF rfl rfl rfl) rfl rfl ?_)); refine x_tks (t := tb) (fuel := 13) [10] (bts 24 2047) (by kernel_rfl) (by kernel_rfl) rfl rfl gRr sRr trivial ?_; (try ((refine Nx.re (d := 46) (v' := Bo false) rfl (congrArg Value.bool (dFf ‹_›)) ?_))); refine x_tks (t := tb) (fuel := 8) [11, 16, 17, 18, 20] (bts 24 1511423) (by kernel_rfl) (by kernel_rfl) rfl rfl gRr sRr trivial ?_; ((refine (x_tkg (bts 24 1515519) 12 rfl (by kernel_rfl) rfl gRr sRr) (g_ld rfl rfl rfl) rfl rfl ?_)); ((refine (x_tkg (bts 24 1523711) 13 rfl (by kernel_rfl) rfl gRr sRr) (g_iaddr rfl rfl (by omega)) rfl rfl ?_)); ((refine (x_tkg (bts 24 1540095) 14 rfl (by kernel_rfl) rfl gRr sRr) (g_ldR rfl rfl (by assumption) ?_) rfl rfl ?_; (focus ((simp only [List.length_append, List.length_cons, List.length_nil, List.length_take]; omega); done)))); ((refine (x_tkg (bts 24 2064383) 19 rfl (by kernel_rfl) rfl gRr sRr) (g_ld rfl rfl rfl) rfl rfl ?_)); ((refine x_all [15] (by kernel_rfl) (by decide) ⟨?_, trivial⟩; refine x_opg rfl rfl ?_; (refine c_rt rfl rfl rfl cx_pr rfl ?_); refine x_ks gRr sRr (listed' := (bts 24 2097151)) (by kernel_rfl) ?_)); ((refine x_all [21] (by kernel_rfl) (by decide) ⟨?_, trivial⟩; refine x_opg rfl rfl ?_; (refine c_rt rfl rfl rfl cx_of rfl ?_); refine x_ks gRr sRr (listed' := (bts 24 4194303)) (by kernel_rfl) ?_)); refine x_tks (t := tb) (fuel := 1) [22] (bts 24 8388607) (by kernel_rfl) (by kernel_rfl) rfl rfl gRr sRr trivial ?_; ((refine (x_tkg (bts 24 16777215) 23 rfl (by kernel_rfl) rfl gRr sRr) (g_pickF rfl rfl rfl) rfl rfl ?_)); refine x_done (by kernel_rfl) (k_bk ?_)))
                rename_i _ y1 yc _
                rw [hrow]
                refine Nx.sealS (v := .slice (some ⟨y1, 0, none⟩) (vs.length + 1) yc) fun G2 hG2 hsl => ?_
                refine k_rr (vs := [_]) rfl ⟨rc_A rfl rfl rfl rfl, trivial⟩ rfl (by repeat (first | exact List.nil_sublist _ | apply List.Sublist.cons_cons)) ⟨hgl.trans hG2, .nd 82 [] 0 (vs ++ [.nd 61 [] (nth t.fields j).tag [u1]]), ⟨82, [], 0, some ⟨y1, 0, none⟩, vs.length + 1, yc⟩, t2, false, by rw [hso]; rfl, rep_mk (by decide) (by decide) (fun h => absurd h (by decide)) hvl.symm (by rw [List.length_append, List.length_singleton, hcl]; exact hsl) (reps_mono hG2 hr2), rfl, by simp only [List.length_cons]; omega, fun _ => ⟨rfl, by rw [hR, hit, hit2]; rfl⟩, fun h => (by cases h)⟩
              | false =>
                rw [ht4, tkSF ht4, Bool.not_false] at cx_wb
                have hit2 : rdFlds (tyq qs) (rd (tyq qs) n) t m last t' vs = none := by
                  rw [hst]
                  cases t1 with
                  | nil => rfl
                  | cons e t2 =>
                    dsimp only
                    rw [if_neg, if_neg]
                    · intro h
                      exact tk_no ht4 t2 (by rw [show e = 125 from UInt8.toNat_inj.1 h])
                    · intro h
                      exact tk_no ht3 t2 (by rw [show e = 44 from UInt8.toNat_inj.1 h])
                repeat' (first | (refine run (t := tb) 400 rfl trivial ?_) | (refine k_op rfl ?_; first | refine v_op (g_ld rfl rfl rfl) rfl rfl ?_ | (refine v_op (g_ldRF rfl rfl (by assumption) ?_ rfl rfl) rfl rfl ?_; (focus ((omega); done))) | refine v_op (g_ldA rfl rfl rfl rfl) rfl rfl ?_ | refine c_st1 rfl rfl rfl rfl ?_ | refine c_stA rfl rfl rfl rfl rfl rfl ?_ | refine c_bsl rfl rfl rfl rfl rfl rfl fun _ => ?_ | (refine c_apX rfl rfl rfl rfl rfl rfl rfl rfl rfl (by omega) fun _ _ => ?_) | (refine c_m1g rfl rfl rfl cx_wb rfl ?_; rintro _ _ rfl; dsimp only [List.cons_append, List.nil_append]) | (refine c_m1g rfl rfl rfl cx_tm rfl ?_; rintro _ _ ⟨rfl, rfl⟩; dsimp only [List.cons_append, List.nil_append])) | (refine k_tt rfl rfl ?_) | (refine k_ff rfl (dFf ‹_›) ?_) | (refine k_any (s_any (id := 9) _ (fun _ h => h) mixed ?_); refine x_tks (t := tb) (fuel := 23) [0] (bts 24 1) (by kernel_rfl) (by kernel_rfl) rfl rfl gRr sRr trivial ?_; ((refine (x_tkg (bts 24 3) 1 rfl (by kernel_rfl) rfl gRr sRr) (g_peq0 rfl rfl) rfl rfl ?_)); refine x_tks (t := tb) (fuel := 21) [2] (bts 24 7) (by kernel_rfl) (by kernel_rfl) rfl rfl gRr sRr trivial ?_; (try (refine Nx.re (d := 38) (v' := Bo false) rfl (congrArg Value.bool rfl) ?_)); refine x_tks (t := tb) (fuel := 17) [3, 4, 5, 7] (bts 24 191) (by kernel_rfl) (by kernel_rfl) rfl rfl gRr sRr trivial ?_; ((refine (x_tkg (bts 24 255) 6 rfl (by kernel_rfl) rfl gRr sRr) (g_ldRF rfl rfl (by assumption) ?_ rfl rfl) rfl rfl ?_; (focus ((omega); done)))); refine x_tks (t := tb) (fuel := 15) [8] (bts 24 511) (by kernel_rfl) (by kernel_rfl) rfl rfl gRr sRr trivial ?_; ((refine (x_tkg (bts 24 1023) 9 rfl (by kernel_rfl) rfl gRr sRr) (g_pickF rfl rfl rfl) rfl rfl ?_)); refine x_tks (t := tb) (fuel := 13) [10] (bts 24 2047) (by kernel_rfl) (by kernel_rfl) rfl rfl gRr sRr trivial ?_; (try ((refine Nx.re (d := 46) (v' := Bo false) rfl (congrArg Value.bool (dFf ‹_›)) ?_))); refine x_tks (t := tb) (fuel := 8) [11, 16, 17, 18, 20] (bts 24 1511423) (by kernel_rfl) (by kernel_rfl) rfl rfl gRr sRr trivial ?_; ((refine (x_tkg (bts 24 1515519) 12 rfl (by kernel_rfl) rfl gRr sRr) (g_ld rfl rfl rfl) rfl rfl ?_)); ((refine (x_tkg (bts 24 1523711) 13 rfl (by kernel_rfl) rfl gRr sRr) (g_iaddr rfl rfl (by omega)) rfl rfl ?_)); ((refine (x_tkg (bts 24 1540095) 14 rfl (by kernel_rfl) rfl gRr sRr) (g_ldR rfl rfl (by assumption) ?_) rfl rfl ?_; (focus ((simp only [List.length_append, List.length_cons, List.length_nil, List.length_take]; omega); done)))); ((refine (x_tkg (bts 24 2064383) 19 rfl (by kernel_rfl) rfl gRr sRr) (g_ld rfl rfl rfl) rfl rfl ?_)); ((refine x_all [15] (by kernel_rfl) (by decide) ⟨?_, trivial⟩; refine x_opg rfl rfl ?_; (refine c_rt rfl rfl rfl cx_pr rfl ?_); refine x_ks gRr sRr (listed' := (bts 24 2097151)) (by kernel_rfl) ?_)); ((refine x_all [21] (by kernel_rfl) (by decide) ⟨?_, trivial⟩; refine x_opg rfl rfl ?_; (refine c_rt rfl rfl rfl cx_of rfl ?_); refine x_ks gRr sRr (listed' := (bts 24 4194303)) (by kernel_rfl) ?_)); refine x_tks (t := tb) (fuel := 1) [22] (bts 24 8388607) (by kernel_rfl) (by kernel_rfl) rfl rfl gRr sRr trivial ?_; ((refine (x_tkg (bts 24 16777215) 23 rfl (by kernel_rfl) rfl gRr sRr) (g_pickF rfl rfl rfl) rfl rfl ?_)); refine x_done (by kernel_rfl) (k_bk ?_)))
                rename_i _ y1 yc _
                rw [hrow]
                refine Nx.sealS (v := .slice (some ⟨y1, 0, none⟩) (vs.length + 1) yc) fun G2 hG2 hsl => ?_
                refine k_rr (vs := [_]) rfl ⟨rc_A rfl rfl rfl rfl, trivial⟩ rfl (by repeat (first | exact List.nil_sublist _ | apply List.Sublist.cons_cons)) ⟨hgl.trans hG2, .nd 82 [] 0 (vs ++ [.nd 61 [] (nth t.fields j).tag [u1]]), ⟨82, [], 0, some ⟨y1, 0, none⟩, vs.length + 1, yc⟩, t1, true, by rw [hso]; rfl, rep_mk (by decide) (by decide) (fun h => absurd h (by decide)) hvl.symm (by rw [List.length_append, List.length_singleton, hcl]; exact hsl) (reps_mono hG2 hr2), rfl, by simp only [List.length_cons]; omega, fun h => (by cases h), fun _ => ⟨.inr (by rw [hR, hit, hit2]; rfl), by rw [nd_tot, htu]; simp only [List.length_cons, List.length_nil]; omega⟩⟩
end Go.E
namespace Go.E
set_option maxRecDepth 20000
set_option maxHeartbeats 2000000
open Go.Proofs
variable {G : Gh}
theorem c_part {c : UInt8} {a b d : List UInt8} : PuG Tryz.prog 92 [Ag [S (c :: a), S b, S d]] G (· = Ag [S a, S b, S d]) := by
  refine p_enter [(0, _)] Tryz.func92 (by kernel_rfl) Tryz.ntmps92 rfl rfl (by repeat' constructor) fun B hB => ?_
  repeat' (first | (refine run (t := tb) 400 rfl ?_ ?_; (focus (repeat' (first | exact trivial | apply And.intro | omega | (simp only [List.length_append, List.length_cons, List.length_nil, Int.toNat_natCast]; omega))))) | (refine k_op rfl ?_; first | refine c_bx rfl rfl rfl fun _ => ?_ | refine c_al rfl rfl fun _ => ?_ | refine v_op (g_ld rfl rfl rfl) rfl rfl ?_ | refine v_op (g_ldA rfl rfl rfl rfl) rfl rfl ?_ | refine c_st1 rfl rfl rfl rfl ?_ | refine c_stA rfl rfl rfl rfl rfl rfl ?_))
  refine k_rr (vs := [_]) rfl ⟨rc_A rfl rfl rfl rfl, trivial⟩ rfl (List.nil_sublist _) ⟨rfl, rfl, ?_⟩
  rfl
theorem kdF_cons {c : UInt8} {k : List UInt8} (h : c.toNat = 91 ∨ c.toNat = 63) : sg (c :: k) = c :: sg k ∧ bs (c :: k) = bs k ∧ nm (c :: k) = nm k ∧ core (c :: k) = core k := by
  have hc : core (c :: k) = core k := by rw [core, if_pos h]
  exact ⟨sg_cons h, by unfold bs; rw [hc], by unfold nm; rw [hc], hc⟩
theorem kindIn_tail {ts : List Ty} {c : UInt8} {k : List UInt8} (hc : c.toNat = 91 ∨ c.toNat = 63) (h : kindIn ts (c :: k) = true) : kindIn ts k = true := by
  unfold kindIn at h ⊢
  simp only [Bool.and_eq_true] at h ⊢
  obtain ⟨h1, h2⟩ := h
  refine ⟨?_, ?_⟩
  · unfold kindOk at h1 ⊢
    simp only [Bool.and_eq_true, decide_eq_true_eq, List.length_cons] at h1 ⊢
    refine ⟨by omega, ?_⟩
    have := h1.2
    rw [kOk, if_pos hc] at this
    exact this
  · unfold hasK at h2 ⊢
    rw [(kdF_cons hc).2.2.2] at h2
    exact h2
theorem rdK_list {ts : List Ty} {f : List UInt8 → List UInt8 → Option (V × List UInt8)} {c : UInt8} {k s : List UInt8} (hc : c.toNat = 91) : rdK ts f (c :: k) s = rdList (f k) s := by
  unfold rdK rdList
  dsimp only
  rw [if_pos hc]
  cases s <;> rfl
theorem c_valBad {r sc : Nat} {k s : List UInt8} : FnG Tryz.prog 67 [Pt r 0, Ag [S (sg k), S (bs k), S (nm k)]] G [scO r sc s true] (fun v L' => v = zP ∧ L' = [scO r sc s true]) := by
  refine g_enter [(0, _), (1, _)] Tryz.func67 (by kernel_rfl) Tryz.ntmps67 rfl rfl (by repeat' constructor) fun B hB hW => ?_
  repeat' (first | (refine run (t := tb) 400 rfl trivial ?_) | (refine k_op rfl ?_; first | refine c_bx rfl rfl rfl fun _ => ?_ | refine c_al rfl rfl fun _ => ?_ | refine v_op (g_ld rfl rfl rfl) rfl rfl ?_ | refine v_op (g_bld rfl rfl) rfl rfl ?_ | refine c_stA rfl rfl rfl rfl rfl rfl ?_) | (refine k_tt rfl rfl ?_))
  refine k_rr (vs := [_]) rfl ⟨rc_A rfl rfl rfl rfl, trivial⟩ rfl (by repeat (first | exact List.Sublist.refl _ | apply List.Sublist.cons)) ⟨rfl, rfl, rfl⟩
theorem FnG.toM {P : Program} {f : FuncId} {args : List Value} {L : List Own} {R : Value → List Own → Prop} {R' : Value → Gh → List Own → Prop} (h : FnG P f args G L R) (hr : ∀ v L', R v L' → R' v G L') : FnM P f args G L R' :=
  Fn.mono h fun v G' L' h2 => ⟨h2.1 ▸ Gh.le.refl _, h2.1 ▸ hr v L' h2.2⟩
theorem rep_zero : V.rep G (.nd 0 [] 0 []) ⟨0, [], 0, none, 0, 0⟩ := rep_leaf (by decide) (by decide)
theorem c_valO {n r sc : Nat} {qs : List TyP} {c : UInt8} {k s : List UInt8} (hc : c = 63) (hV : ValC n sc qs) (hS : ScI G sc qs) (hk : kindIn (tyq qs) (c :: k) = true) (hs : s.length < n + 1 ∧ s.length ≤ 1000) :
    FnM Tryz.prog 67 [Pt r 0, Ag (kdF (c :: k))] G [scO r sc s false] (ValP (rd (tyq qs) (n + 1) (c :: k)) r sc s false) := by
  subst hc
  have hk2 := kindIn_tail (.inr rfl) hk
  obtain ⟨e1, e2, e3, _⟩ := kdF_cons (c := 63) (k := k) (.inr rfl)
  have hrd : rd (tyq qs) (n + 1) (63 :: k) s = match s with
      | [] => none
      | d :: s' => if d.toNat = 45 then some (.nd 63 [] 0 [], s') else if d.toNat = 43 then (rd (tyq qs) n k s').map fun x => (.nd 63 [] 0 [x.1], x.2) else none := by
    rw [rd]; unfold rdK
    dsimp only
    rw [if_neg (show ¬ (63 : UInt8).toNat = 91 by decide), if_pos (show (63 : UInt8).toNat = 63 from rfl)]
    cases s <;> rfl
  unfold kdF
  rw [e1, e2, e3]
  have cx_sign := @c_sign1 G 63 (sg k) (bs k) (nm k)
  have cx_pt := @c_part G 63 (sg k) (bs k) (nm k)
  have cx_tk := c_take (G := G) (r := r) (sc := sc) (s := s) (l := [45]) (b := false) ⟨by omega, by simp⟩
  have cx_wa := c_want (G := G) (r := r) (sc := sc) (s := s) (l := [43]) (b := false) ⟨by omega, by simp⟩
  cases ht : tkR [45] s false with
  | true =>
    obtain ⟨s1, rfl⟩ := tk1.1 ht
    rw [ht, tk1S] at cx_tk
    dsimp only at hrd
    rw [if_pos (show (45 : UInt8).toNat = 45 from rfl)] at hrd
    refine m_enter [(0, _), (1, _)] Tryz.func67 (by kernel_rfl) Tryz.ntmps67 rfl rfl (by repeat' constructor) fun B hB hW => ?_
    repeat' (first | (refine run (t := tb) 400 rfl trivial ?_) | (refine k_op rfl ?_; first | refine c_bx rfl rfl rfl fun _ => ?_ | refine c_al rfl rfl fun _ => ?_ | refine v_op (g_ld rfl rfl rfl) rfl rfl ?_ | refine v_op (g_ldA rfl rfl rfl rfl) rfl rfl ?_ | refine v_op (g_bld rfl rfl) rfl rfl ?_ | refine c_stA rfl rfl rfl rfl rfl rfl ?_ | (refine c_rt rfl rfl rfl cx_sign rfl ?_) | (refine c_m1g rfl rfl rfl cx_tk rfl ?_; rintro _ _ ⟨rfl, rfl⟩; dsimp only [List.cons_append, List.nil_append])) | (refine k_tt rfl rfl ?_) | (refine k_ff rfl rfl ?_))
    refine k_rr (vs := [_]) rfl ⟨rc_A rfl rfl rfl rfl, trivial⟩ rfl (by repeat (first | exact List.nil_sublist _ | apply List.Sublist.cons_cons)) ⟨Gh.le.refl _, .nd 63 [] 0 [], ⟨63, [], 0, none, 0, 0⟩, s1, false, rfl, rep_leaf (by decide) (by decide), rfl, by simp only [List.length_cons]; omega, fun _ => ⟨rfl, hrd⟩, fun h => (by cases h)⟩
  | false =>
    rw [ht, tkSF ht] at cx_tk
    cases ht2 : tkR [43] s false with
    | false =>
      rw [ht2, tkSF ht2, Bool.not_false] at cx_wa
      have hno : rd (tyq qs) (n + 1) (63 :: k) s = none := by
        rw [hrd]
        cases s with
        | nil => rfl
        | cons d s' =>
          dsimp only
          rw [if_neg, if_neg]
          · intro h; exact tk_no ht2 s' (by rw [show d = 43 from UInt8.toNat_inj.1 h])
          · intro h; exact tk_no ht s' (by rw [show d = 45 from UInt8.toNat_inj.1 h])
      refine m_enter [(0, _), (1, _)] Tryz.func67 (by kernel_rfl) Tryz.ntmps67 rfl rfl (by repeat' constructor) fun B hB hW => ?_
      repeat' (first | (refine run (t := tb) 400 rfl trivial ?_) | (refine k_op rfl ?_; first | refine c_bx rfl rfl rfl fun _ => ?_ | refine c_al rfl rfl fun _ => ?_ | refine v_op (g_ld rfl rfl rfl) rfl rfl ?_ | refine v_op (g_ldA rfl rfl rfl rfl) rfl rfl ?_ | (refine c_rt rfl rfl rfl cx_sign rfl ?_) | (refine c_rt rfl rfl rfl cx_pt rfl ?_) | (refine c_m1g rfl rfl rfl cx_tk rfl ?_; rintro _ _ ⟨rfl, rfl⟩; dsimp only [List.cons_append, List.nil_append]) | (refine c_m1g rfl rfl rfl cx_wa rfl ?_; rintro _ _ rfl; dsimp only [List.cons_append, List.nil_append])) | (refine k_tt rfl rfl ?_) | (refine k_ff rfl rfl ?_))
      refine k_op rfl ?_
      refine c_m1g rfl rfl rfl c_valBad rfl ?_
      rintro _ _ ⟨rfl, rfl⟩
      dsimp only [List.cons_append, List.nil_append]
      repeat' (first | (refine run (t := tb) 400 rfl trivial ?_) | (refine k_op rfl ?_; first | refine v_op (g_bld rfl rfl) rfl rfl ?_ | refine c_stA rfl rfl rfl rfl rfl rfl ?_ | refine c_bsl rfl rfl rfl rfl rfl rfl fun _ => ?_))
      rename_i y
      refine Nx.sealC (b := y) fun G2 hG2 hsy => ?_
      have hsl : SlV G2 (.slice (some ⟨y, 0, none⟩) 1 1) 4 ([⟨0, [], 0, none, 0, 0⟩] : List VC).length (rows vcF [⟨0, [], 0, none, 0, 0⟩]) := ⟨rfl, .inr ⟨y, 0, 1, rfl, Nat.le_refl _, hsy⟩⟩
      refine k_rr (vs := [_]) rfl ⟨rc_A rfl rfl rfl rfl, trivial⟩ rfl (by repeat (first | exact List.nil_sublist _ | apply List.Sublist.cons_cons)) ⟨hG2, .nd 63 [] 0 [.nd 0 [] 0 []], ⟨63, [], 0, some ⟨y, 0, none⟩, 1, 1⟩, s, true, rfl, rep_mk (by decide) (by decide) (fun h => absurd h (by decide)) rfl hsl ⟨_, [], rfl, rep_zero, rfl⟩, rfl, Nat.le_refl _, fun h => (by cases h), fun _ => ⟨.inr hno, by simp only [V.tot, V.tots, List.length_nil]; omega⟩⟩
    | true =>
      obtain ⟨s1, rfl⟩ := tk1.1 ht2
      rw [ht2, tk1S, Bool.not_true] at cx_wa
      simp only [List.length_cons] at hs
      dsimp only at hrd
      rw [if_neg (show ¬ (43 : UInt8).toNat = 45 by decide), if_pos (show (43 : UInt8).toNat = 43 from rfl)] at hrd
      have cx_vl := hV G r k s1 false hS hk2 (by omega) (by omega)
      refine m_enter [(0, _), (1, _)] Tryz.func67 (by kernel_rfl) Tryz.ntmps67 rfl rfl (by repeat' constructor) fun B hB hW => ?_
      repeat' (first | (refine run (t := tb) 400 rfl trivial ?_) | (refine k_op rfl ?_; first | refine c_bx rfl rfl rfl fun _ => ?_ | refine c_al rfl rfl fun _ => ?_ | refine v_op (g_ld rfl rfl rfl) rfl rfl ?_ | refine v_op (g_ldA rfl rfl rfl rfl) rfl rfl ?_ | refine v_op (g_bld rfl rfl) rfl rfl ?_ | refine c_stA rfl rfl rfl rfl rfl rfl ?_ | refine c_bsl rfl rfl rfl rfl rfl rfl fun _ => ?_ | (refine c_rt rfl rfl rfl cx_sign rfl ?_) | (refine c_rt rfl rfl rfl cx_pt rfl ?_) | (refine c_m1g rfl rfl rfl cx_tk rfl ?_; rintro _ _ ⟨rfl, rfl⟩; dsimp only [List.cons_append, List.nil_append]) | (refine c_m1g rfl rfl rfl cx_wa rfl ?_; rintro _ _ rfl; dsimp only [List.cons_append, List.nil_append]) | (refine c_m1s rfl rfl rfl cx_vl rfl ?_; rintro _ G1 _ hle ⟨u1, c1, t1, b1, rfl, hrep, rfl, hP⟩; dsimp only [List.cons_append, List.nil_append]; skip)) | (refine k_tt rfl rfl ?_) | (refine k_ff rfl rfl ?_))
      rename_i y
      refine Nx.sealC (b := y) fun G2 hG2 hsy => ?_
      have hsl : SlV G2 (.slice (some ⟨y, 0, none⟩) 1 1) 4 ([c1] : List VC).length (rows vcF [c1]) := ⟨rfl, .inr ⟨y, 0, 1, rfl, Nat.le_refl _, hsy⟩⟩
      obtain ⟨hPl, hP0, hP1⟩ := hP
      cases b1 with
      | false =>
        refine k_rr (vs := [_]) rfl ⟨rc_A rfl rfl rfl rfl, trivial⟩ rfl (by repeat (first | exact List.nil_sublist _ | apply List.Sublist.cons_cons)) ⟨hle.trans hG2, .nd 63 [] 0 [u1], ⟨63, [], 0, some ⟨y, 0, none⟩, 1, 1⟩, t1, false, rfl, rep_mk (by decide) (by decide) (fun h => absurd h (by decide)) rfl hsl ⟨_, [], rfl, rep_mono hG2 hrep, rfl⟩, rfl, by simp only [List.length_cons]; omega, fun _ => ⟨rfl, by rw [hrd, (hP0 rfl).2]; rfl⟩, fun h => (by cases h)⟩
      | true =>
        obtain ⟨hno, hto⟩ := hP1 rfl
        have hno2 : rd (tyq qs) n k s1 = none := by
          rcases hno with h | h
          · cases h
          · exact h
        refine k_rr (vs := [_]) rfl ⟨rc_A rfl rfl rfl rfl, trivial⟩ rfl (by repeat (first | exact List.nil_sublist _ | apply List.Sublist.cons_cons)) ⟨hle.trans hG2, .nd 63 [] 0 [u1], ⟨63, [], 0, some ⟨y, 0, none⟩, 1, 1⟩, t1, true, rfl, rep_mk (by decide) (by decide) (fun h => absurd h (by decide)) rfl hsl ⟨_, [], rfl, rep_mono hG2 hrep, rfl⟩, rfl, by simp only [List.length_cons]; omega, fun h => (by cases h), fun _ => ⟨.inr (by rw [hrd, hno2]; rfl), by simp only [V.tot, V.tots, List.length_nil, List.length_cons]; omega⟩⟩
end Go.E
