/- Contracts and plain laws that the statement rests on, part 4. Conditions: as each says. -/
import Derived.Test.YtifffndbgheghaaDoorZ3
import Derived.Test.YtifffndbgheghaaDoorZ2
set_option linter.unusedVariables false
set_option linter.unusedSimpArgs false
/-! Mb -/
namespace Go.E
set_option maxRecDepth 20000
set_option maxHeartbeats 2000000
open Go.Proofs
variable {G : Gh}
theorem c_l3CutS {s : List UInt8} {k : Nat} (h : s.length ≤ 100000000) : FnS Tryd.prog 31 [S s, U8 k] G (fun v G' => SlV G' v 1 (cut k s).length (rows strF (cut k s))) := by
  refine FnG.shutP ((c_l3Cut (G := G) (k := k) h).mono ?_)
  rintro v G' L' ⟨h1, h2, _⟩
  exact ⟨h1, v, _, _, _, _, h2, fun G' _ h3 => by rw [← strs_rows]; exact h3⟩
abbrev tFld : TypeId := 95
abbrev tTy : TypeId := 56
def TyPost (s : List UInt8) (v : Value) (G : Gh) : Prop := ∃ fv t ok, v = Tu [Ag [U8 (t : Ty).sort, S t.name, fv], Bo ok] ∧ (tyOf s = if ok = true then some t else none) ∧ SlV G fv 4 t.fields.length (rows fldF t.fields)
theorem SlV.nil0 {G : Gh} {sz : Nat} : SlV G nilS sz 0 [] := ⟨by simp, .inl ⟨rfl, rfl⟩⟩
theorem drop_nth {α : Type} [Inhabited α] {xs : List α} {i : Nat} (h : i < xs.length) : xs.drop i = nth xs i :: xs.drop (i + 1) := by rw [nth_eq h]; exact (List.getElem_cons_drop (h := h)).symm
theorem Shp.sl {v : Value} {m : Nat} (h : Shp v m) : ∃ a cap, v = .slice a m cap := by
  rcases h with ⟨rfl, rfl⟩ | ⟨b, cap, rfl, _⟩
  · exact ⟨none, 0, rfl⟩
  · exact ⟨_, cap, rfl⟩
theorem tyOf_bad {c : UInt8} {r : List UInt8} (h : (cut1 61 r).2.2 = false) : tyOf (c :: r) = none := by
  unfold tyOf
  split
  · rfl
  · rename_i h1; cases h1
    split
    · rename_i h2; rw [h2] at h; cases h
    · rfl
theorem tyOf_at {c : UInt8} {r name rest : List UInt8} (h : cut1 61 r = (name, rest, true)) : tyOf (c :: r) = if isNm name = true ∧ sortOk c.toNat then
        if rest = [] then (if c.toNat = 82 then some ⟨82, name, []⟩ else none)
        else match fieldsOf c.toNat (cut 44 rest) [] with
          | some fs => if fs.length ≤ 8 then some ⟨c.toNat, name, fs⟩ else none
          | none => none
      else none := by
  unfold tyOf
  simp only [h]; rfl
theorem c_l3ReadType {s : List UInt8} (h : s.length ≤ 1000) : FnS Tryd.prog 32 [S s] G (TyPost s) := by
  refine b_enter [(0, _)] Tryd.func32 (by kernel_rfl) Tryd.ntmps32 rfl rfl (by repeat (first | exact trivial | refine ⟨rfl, ?_⟩)) fun B hok hB hW => ?_
  repeat' (first | (refine run (t := tb) 400 rfl ?_ ?_; (focus (repeat' ((exact trivial))))) | (refine k_op rfl ?_; (refine c_al rfl rfl fun _ => ?_)))
  rename_i x
  refine k_loop (ι := Nat) (fun i => i ≤ s.length ∧ ∀ k, k < i → bt s k ≠ 61) (fun i => [(0, S s), (2, Pt x 0), (4, I i)]) (fun _ => G) (fun i => [.blk x (.cells [U8 0, S [], nilS].toArray tTy (0, 0))]) (fun i => s.length - i) 0 ?_ (by repeat (first | exact trivial | refine ⟨rfl, ?_⟩)) rfl (by repeat ((exact List.Sublist.refl _))) (fun i Hi => ?_)
  · exact ⟨by omega, fun k hk => absurd hk (by omega)⟩
  by_cases hi : i < s.length ∧ bt s i ≠ 61
  · repeat' (first | (refine run (t := tb) 400 rfl ?_ ?_; (focus (repeat' (first | exact trivial | apply And.intro | omega)))) | (refine k_op rfl ?_; (refine v_op (g_pickT rfl rfl ?_) rfl rfl ?_; (focus (((rfl)); done)))) | (refine k_gt rfl rfl ?_ ?_; (focus (((refine decide_eq_true ?_; (omega))); done))) | (refine k_tt rfl ?_ ?_; (focus (((simp; omega)); done))))
    refine k_rd (i + 1) ⟨by omega, fun k hk => ?_⟩ (by omega) (by repeat (first | exact trivial | refine ⟨rfl, ?_⟩)) rfl (by repeat ((exact List.Sublist.refl _)))
    rcases Nat.lt_or_ge k i with h3 | h3
    · exact Hi.2 k h3
    · have : k = i := by omega
      subst this; exact hi.2
  rcases Nat.lt_or_ge i s.length with hlt | hge
  case inr =>
    have hno : tyOf s = none := by
      match s, Hi, hge with
      | [], _, _ => rfl
      | c :: r, Hi, hge =>
        refine tyOf_bad ?_
        rw [cut1_no fun j hj => by have := Hi.2 (j + 1) (by simp at hge; omega); rwa [bt_succ] at this]
    repeat' (first | (refine run (t := tb) 400 rfl ?_ ?_; (focus (repeat' ((exact trivial))))) | (refine k_op rfl ?_; first | (refine v_op (g_pickT rfl rfl ?_) rfl rfl ?_; (focus (((rfl)); done))) | (refine v_op (g_pickF rfl rfl ?_) rfl rfl ?_; (focus (((rfl)); done))) | refine v_op (g_bld rfl rfl) rfl rfl ?_ | refine c_stA rfl rfl rfl rfl rfl rfl ?_) | (refine k_gf rfl rfl ?_ ?_; (focus (((refine decide_eq_false ?_; (omega))); done))) | refine k_g rfl rfl (fun _ => ?_) (fun _ => ?_) | (refine k_tt rfl ?_ ?_; (focus ((first | rfl | (refine decide_eq_true ?_; (omega))); done))) | (refine k_ff rfl ?_ ?_; (focus (((rfl)); done))))
    all_goals refine k_rr (vs := [_, _]) rfl ⟨rc_A rfl rfl rfl rfl, rfl, trivial⟩ rfl (List.nil_sublist _) ⟨Gh.le.refl _, rfl, ?_⟩
    all_goals exact ⟨nilS, default, false, rfl, by rw [hno]; rfl, SlV.nil0⟩
  have h61 : bt s i = 61 := by
    rcases Nat.lt_or_ge (bt s i) 61 with h1 | h1
    · exact absurd ⟨hlt, by omega⟩ hi
    · rcases Nat.lt_or_ge 61 (bt s i) with h2 | h2
      · exact absurd ⟨hlt, by omega⟩ hi
      · omega
  match s, i, Hi, hlt, h61, h with
  | c :: r, 0, Hi, hlt, h61, h =>
    have hno : tyOf (c :: r) = none := by
      rw [bt_zero] at h61
      cases ht : (cut1 61 r).2.2 with
      | false => exact tyOf_bad ht
      | true =>
        rw [tyOf_at (c := c) (r := r) (name := (cut1 61 r).1) (rest := (cut1 61 r).2.1) (by rw [← ht])]
        rw [if_neg]
        rintro ⟨_, h2⟩
        unfold sortOk at h2; omega
    have h62 : bt (c :: r) ((0 : Nat) : Int).toNat = 61 := h61
    repeat' (first | (refine run (t := tb) 400 rfl ?_ ?_; (focus (repeat' (first | exact trivial | apply And.intro | omega)))) | (refine k_op rfl ?_; first | (refine v_op (g_pickT rfl rfl ?_) rfl rfl ?_; (focus (((rfl)); done))) | refine v_op (g_bld rfl rfl) rfl rfl ?_ | refine c_stA rfl rfl rfl rfl rfl rfl ?_) | (refine k_gt rfl rfl ?_ ?_; (focus ((first | rfl | (refine decide_eq_true ?_; (omega))); done))) | (refine k_tt rfl ?_ ?_; (focus (((rfl)); done))) | (refine k_ff rfl ?_ ?_; (focus (((refine decide_eq_false ?_; (omega))); done))))
    all_goals refine k_rr (vs := [_, _]) rfl ⟨rc_A rfl rfl rfl rfl, rfl, trivial⟩ rfl (List.nil_sublist _) ⟨Gh.le.refl _, rfl, ?_⟩
    all_goals exact ⟨nilS, default, false, rfl, by rw [hno]; rfl, SlV.nil0⟩
  | c :: r, j + 1, Hi, hlt, h61, h =>
    have hj : j < r.length := by simpa using hlt
    have hcut1 : cut1 61 r = (r.take j, r.drop (j + 1), true) := cut1_at hj (fun k hk => by have := Hi.2 (k + 1) (by omega); rwa [bt_succ] at this) (by rwa [bt_succ] at h61)
    have hty := tyOf_at (c := c) hcut1
    have h62 : bt (c :: r) ((j + 1 : Nat) : Int).toNat = 61 := h61
    have e0 : bt (c :: r) (Int.toNat 0) = c.toNat := bt_zero c r
    have hnl : (r.take j).length ≤ 1000 := by simp at h ⊢; omega
    have cx_nm := c_l2Name (G := G) (s := r.take j) (by omega)
    by_cases hg : isNm (r.take j) = true ∧ sortOk c.toNat
    case neg =>
      have hno : tyOf (c :: r) = none := by rw [hty, if_neg hg]
      by_cases hn : isNm (r.take j) = true
      · have hn2 : (!isNm (r.take j)) = false := by rw [hn]; rfl
        have hns : ¬ sortOk c.toNat := fun h => hg ⟨hn, h⟩
        unfold sortOk at hns
        repeat' (first | (refine run (t := tb) 400 rfl ?_ ?_; (focus (repeat' (first | exact trivial | apply And.intro | omega)))) | (refine k_op rfl ?_; first | (refine v_op (g_pickT rfl rfl ?_) rfl rfl ?_; (focus (((rfl)); done))) | (refine v_op (g_pickF rfl rfl ?_) rfl rfl ?_; (focus (((rfl)); done))) | refine c_stA rfl rfl rfl rfl rfl rfl ?_ | refine v_op (g_ld rfl rfl rfl) rfl rfl ?_ | refine v_op (g_ldA rfl rfl rfl rfl) rfl rfl ?_ | (refine c_rt rfl rfl rfl cx_nm rfl ?_)) | (refine k_gt rfl rfl ?_ ?_; (focus (((refine decide_eq_true ?_; (omega))); done))) | (refine k_gf rfl rfl ?_ ?_; (focus ((first | rfl | assumption); done))) | (refine k_tt rfl ?_ ?_; (focus (((refine decide_eq_true ?_; (omega))); done))) | (refine k_ff rfl ?_ ?_; (focus (((refine decide_eq_false ?_; (omega))); done))) | (refine k_any (s_any (id := 6) _ (fun _ h => h) mixed ?_); refine x_tks (t := tb) (fuel := 3) [0, 1, 2, 3, 4] (bts 8 31) (by kernel_rfl) (by kernel_rfl) rfl rfl (Gh.le.refl _) (by repeat ((exact List.Sublist.refl _))) ?_ ?_; (focus (repeat' (first | exact trivial | apply And.intro | omega))); ((refine (x_tkg (bts 8 63) 5 rfl (by kernel_rfl) rfl (Gh.le.refl _) (by repeat ((exact List.Sublist.refl _)))) (g_bld rfl rfl) rfl rfl ?_)); refine x_all [6] (by kernel_rfl) (by decide) ⟨?_, trivial⟩; refine x_opg rfl rfl ?_; ((refine c_al rfl rfl fun _ => ?_)); refine x_kk (by (exact Gh.le.refl _)) (by repeat (first | exact List.Sublist.refl _ | apply List.Sublist.cons)) (listed' := (bts 8 127)) (by kernel_rfl) ?_; refine x_all [7] (by kernel_rfl) (by decide) ⟨?_, trivial⟩; refine x_opg rfl rfl ?_; ((refine c_stA rfl rfl rfl rfl rfl rfl ?_)); refine x_kk (by (exact Gh.le.refl _)) (by repeat (first | exact List.Sublist.refl _ | apply List.Sublist.cons)) (listed' := (bts 8 255)) (by kernel_rfl) ?_; refine x_done (by kernel_rfl) (k_bk ?_)))
        all_goals refine k_rr (vs := [_, _]) rfl ⟨rc_A rfl rfl rfl rfl, rfl, trivial⟩ rfl (List.nil_sublist _) ⟨Gh.le.refl _, rfl, ?_⟩
        all_goals exact ⟨nilS, ⟨_, _, []⟩, false, rfl, by rw [hno]; rfl, SlV.nil0⟩
      · have hn2 : (!isNm (r.take j)) = true := by simpa using hn
        repeat' (first | (refine run (t := tb) 400 rfl ?_ ?_; (focus (repeat' (first | exact trivial | apply And.intro | omega)))) | (refine k_op rfl ?_; first | (refine v_op (g_pickT rfl rfl ?_) rfl rfl ?_; (focus (((rfl)); done))) | (refine v_op (g_pickF rfl rfl ?_) rfl rfl ?_; (focus (((rfl)); done))) | refine c_stA rfl rfl rfl rfl rfl rfl ?_ | refine v_op (g_ld rfl rfl rfl) rfl rfl ?_ | refine v_op (g_ldA rfl rfl rfl rfl) rfl rfl ?_ | (refine c_rt rfl rfl rfl cx_nm rfl ?_)) | (refine k_gt rfl rfl ?_ ?_; (focus ((first | assumption | (refine decide_eq_true ?_; (omega))); done))) | (refine k_gf rfl rfl ?_ ?_; (focus (((rfl)); done))) | (refine k_tt rfl ?_ ?_; (focus (((rfl)); done))) | (refine k_ff rfl ?_ ?_; (focus (((refine decide_eq_false ?_; (omega))); done))) | (refine k_any (s_any (id := 6) _ (fun _ h => h) mixed ?_); refine x_tks (t := tb) (fuel := 3) [0, 1, 2, 3, 4] (bts 8 31) (by kernel_rfl) (by kernel_rfl) rfl rfl (Gh.le.refl _) (by repeat ((exact List.Sublist.refl _))) ?_ ?_; (focus (repeat' (first | exact trivial | apply And.intro | omega))); ((refine (x_tkg (bts 8 63) 5 rfl (by kernel_rfl) rfl (Gh.le.refl _) (by repeat ((exact List.Sublist.refl _)))) (g_bld rfl rfl) rfl rfl ?_)); refine x_all [6] (by kernel_rfl) (by decide) ⟨?_, trivial⟩; refine x_opg rfl rfl ?_; ((refine c_al rfl rfl fun _ => ?_)); refine x_kk (by (exact Gh.le.refl _)) (by repeat (first | exact List.Sublist.refl _ | apply List.Sublist.cons)) (listed' := (bts 8 127)) (by kernel_rfl) ?_; refine x_all [7] (by kernel_rfl) (by decide) ⟨?_, trivial⟩; refine x_opg rfl rfl ?_; ((refine c_stA rfl rfl rfl rfl rfl rfl ?_)); refine x_kk (by (exact Gh.le.refl _)) (by repeat (first | exact List.Sublist.refl _ | apply List.Sublist.cons)) (listed' := (bts 8 255)) (by kernel_rfl) ?_; refine x_done (by kernel_rfl) (k_bk ?_)))
        all_goals refine k_rr (vs := [_, _]) rfl ⟨rc_A rfl rfl rfl rfl, rfl, trivial⟩ rfl (List.nil_sublist _) ⟨Gh.le.refl _, rfl, ?_⟩
        all_goals exact ⟨nilS, ⟨_, _, []⟩, false, rfl, by rw [hno]; rfl, SlV.nil0⟩
    have hn2 : (!isNm (r.take j)) = false := by rw [hg.1]; rfl
    have hs2 := hg.2
    unfold sortOk at hs2
    rw [if_pos hg] at hty
    by_cases hrest : r.drop (j + 1) = []
    · rw [if_pos hrest] at hty
      by_cases h82 : c.toNat = 82
      · rw [if_pos h82] at hty
        have e82 : bt (c :: r) (Int.toNat 0) = 82 := by omega
        repeat' (first | (refine run (t := tb) 400 rfl ?_ ?_; (focus (repeat' (first | exact trivial | apply And.intro | omega)))) | (refine k_op rfl ?_; first | (refine v_op (g_pickT rfl rfl ?_) rfl rfl ?_; (focus (((rfl)); done))) | (refine v_op (g_pickF rfl rfl ?_) rfl rfl ?_; (focus (((rfl)); done))) | refine v_op (g_ld rfl rfl rfl) rfl rfl ?_ | (refine c_rt rfl rfl rfl cx_nm rfl ?_)) | (refine k_gt rfl rfl ?_ ?_; (focus (((refine decide_eq_true ?_; (omega))); done))) | (refine k_gf rfl rfl ?_ ?_; (focus ((first | rfl | assumption | (refine decide_eq_false ?_; (omega))); done))) | (refine k_tt rfl ?_ ?_; (focus (((refine decide_eq_true ?_; (assumption))); done))) | (refine k_ff rfl ?_ ?_; (focus ((first | rfl | (refine decide_eq_false ?_; (omega))); done))) | (refine k_any (s_any (id := 6) _ (fun _ h => h) mixed ?_); refine x_tks (t := tb) (fuel := 3) [0, 1, 2, 3, 4] (bts 8 31) (by kernel_rfl) (by kernel_rfl) rfl rfl (Gh.le.refl _) (by repeat ((exact List.Sublist.refl _))) ?_ ?_; (focus (repeat' (first | exact trivial | apply And.intro | omega))); ((refine (x_tkg (bts 8 63) 5 rfl (by kernel_rfl) rfl (Gh.le.refl _) (by repeat ((exact List.Sublist.refl _)))) (g_bld rfl rfl) rfl rfl ?_)); refine x_all [6] (by kernel_rfl) (by decide) ⟨?_, trivial⟩; refine x_opg rfl rfl ?_; ((refine c_al rfl rfl fun _ => ?_)); refine x_kk (by (exact Gh.le.refl _)) (by repeat (first | exact List.Sublist.refl _ | apply List.Sublist.cons)) (listed' := (bts 8 127)) (by kernel_rfl) ?_; refine x_all [7] (by kernel_rfl) (by decide) ⟨?_, trivial⟩; refine x_opg rfl rfl ?_; ((refine c_stA rfl rfl rfl rfl rfl rfl ?_)); refine x_kk (by (exact Gh.le.refl _)) (by repeat (first | exact List.Sublist.refl _ | apply List.Sublist.cons)) (listed' := (bts 8 255)) (by kernel_rfl) ?_; refine x_done (by kernel_rfl) (k_bk ?_)) | (refine k_any (s_anyD (id := 10) (tt := 2) rfl mixed ?_); refine x_tks (t := tb) (fuel := 5) [1] (bts 6 2) (by kernel_rfl) (by kernel_rfl) rfl rfl (Gh.le.refl _) (by repeat (first | exact List.nil_sublist _ | apply List.Sublist.cons_cons)) ?_ ?_; (focus (repeat' ((exact trivial)))); ((refine (x_tkg (bts 6 3) 0 rfl (by kernel_rfl) rfl (Gh.le.refl _) (by repeat (first | exact List.nil_sublist _ | apply List.Sublist.cons_cons))) (g_ldA rfl rfl rfl rfl) rfl rfl ?_)); ((refine (x_tkg (bts 6 7) 2 rfl (by kernel_rfl) rfl (Gh.le.refl _) (by repeat (first | exact List.nil_sublist _ | apply List.Sublist.cons_cons))) (g_ld rfl rfl rfl) rfl rfl ?_)); refine x_tks (t := tb) (fuel := 2) [3] (bts 6 15) (by kernel_rfl) (by kernel_rfl) rfl rfl (Gh.le.refl _) (by repeat (first | exact List.nil_sublist _ | apply List.Sublist.cons_cons)) ?_ ?_; (focus (repeat' ((exact trivial)))); refine x_all [4] (by kernel_rfl) (by decide) ⟨?_, trivial⟩; refine x_opg rfl rfl ?_; ((refine c_stA rfl rfl rfl rfl rfl rfl ?_)); refine x_kk (by (exact Gh.le.refl _)) (by repeat (first | exact List.nil_sublist _ | apply List.Sublist.cons_cons)) (listed' := (bts 6 31)) (by kernel_rfl) ?_; refine x_tks (t := tb) (fuel := 0) [5] (bts 6 63) (by kernel_rfl) (by kernel_rfl) rfl rfl (Gh.le.refl _) (by repeat (first | exact List.nil_sublist _ | apply List.Sublist.cons_cons)) ?_ ?_; (focus (repeat' ((exact trivial)))); refine x_done (by kernel_rfl) (k_bk ?_)))
        all_goals refine k_rr (vs := [_, _]) rfl ⟨rc_A rfl rfl rfl rfl, rfl, trivial⟩ rfl (List.nil_sublist _) ⟨Gh.le.refl _, rfl, ?_⟩
        all_goals refine ⟨nilS, ⟨82, r.take j, []⟩, true, ?_, hty, SlV.nil0⟩
        all_goals show Tu [Ag [U8 (bt (c :: r) (Int.toNat 0) : Nat), S (r.take j), nilS], Bo (decide (((bt (c :: r) (Int.toNat 0) : Nat) : Int) = 82))] = _
        all_goals (rw [e82]; rfl)
      · rw [if_neg h82] at hty
        have e82 : ¬ bt (c :: r) (Int.toNat 0) = 82 := by omega
        have e83 : decide (((bt (c :: r) (Int.toNat 0) : Nat) : Int) = 82) = false := decide_eq_false (by omega)
        repeat' (first | (refine run (t := tb) 400 rfl ?_ ?_; (focus (repeat' (first | exact trivial | apply And.intro | omega)))) | (refine k_op rfl ?_; first | (refine v_op (g_pickT rfl rfl ?_) rfl rfl ?_; (focus (((rfl)); done))) | (refine v_op (g_pickF rfl rfl ?_) rfl rfl ?_; (focus (((rfl)); done))) | refine v_op (g_ld rfl rfl rfl) rfl rfl ?_ | (refine c_rt rfl rfl rfl cx_nm rfl ?_)) | (refine k_gt rfl rfl ?_ ?_; (focus (((refine decide_eq_true ?_; (omega))); done))) | (refine k_gf rfl rfl ?_ ?_; (focus ((first | rfl | assumption); done))) | refine k_g rfl rfl (fun _ => ?_) (fun _ => ?_) | (refine k_tt rfl ?_ ?_; (focus (((refine decide_eq_true ?_; (assumption))); done))) | (refine k_ff rfl ?_ ?_; (focus ((first | rfl | (refine decide_eq_false ?_; (omega))); done))) | (refine k_any (s_any (id := 6) _ (fun _ h => h) mixed ?_); refine x_tks (t := tb) (fuel := 3) [0, 1, 2, 3, 4] (bts 8 31) (by kernel_rfl) (by kernel_rfl) rfl rfl (Gh.le.refl _) (by repeat ((exact List.Sublist.refl _))) ?_ ?_; (focus (repeat' (first | exact trivial | apply And.intro | omega))); ((refine (x_tkg (bts 8 63) 5 rfl (by kernel_rfl) rfl (Gh.le.refl _) (by repeat ((exact List.Sublist.refl _)))) (g_bld rfl rfl) rfl rfl ?_)); refine x_all [6] (by kernel_rfl) (by decide) ⟨?_, trivial⟩; refine x_opg rfl rfl ?_; ((refine c_al rfl rfl fun _ => ?_)); refine x_kk (by (exact Gh.le.refl _)) (by repeat (first | exact List.Sublist.refl _ | apply List.Sublist.cons)) (listed' := (bts 8 127)) (by kernel_rfl) ?_; refine x_all [7] (by kernel_rfl) (by decide) ⟨?_, trivial⟩; refine x_opg rfl rfl ?_; ((refine c_stA rfl rfl rfl rfl rfl rfl ?_)); refine x_kk (by (exact Gh.le.refl _)) (by repeat (first | exact List.Sublist.refl _ | apply List.Sublist.cons)) (listed' := (bts 8 255)) (by kernel_rfl) ?_; refine x_done (by kernel_rfl) (k_bk ?_)) | (refine k_any (s_anyD (id := 10) (tt := 2) rfl mixed ?_); refine x_tks (t := tb) (fuel := 5) [1] (bts 6 2) (by kernel_rfl) (by kernel_rfl) rfl rfl (Gh.le.refl _) (by repeat (first | exact List.nil_sublist _ | apply List.Sublist.cons_cons)) ?_ ?_; (focus (repeat' ((exact trivial)))); ((refine (x_tkg (bts 6 3) 0 rfl (by kernel_rfl) rfl (Gh.le.refl _) (by repeat (first | exact List.nil_sublist _ | apply List.Sublist.cons_cons))) (g_ldA rfl rfl rfl rfl) rfl rfl ?_)); ((refine (x_tkg (bts 6 7) 2 rfl (by kernel_rfl) rfl (Gh.le.refl _) (by repeat (first | exact List.nil_sublist _ | apply List.Sublist.cons_cons))) (g_ld rfl rfl rfl) rfl rfl ?_)); refine x_tks (t := tb) (fuel := 2) [3] (bts 6 15) (by kernel_rfl) (by kernel_rfl) rfl rfl (Gh.le.refl _) (by repeat (first | exact List.nil_sublist _ | apply List.Sublist.cons_cons)) ?_ ?_; (focus (repeat' ((exact trivial)))); refine x_all [4] (by kernel_rfl) (by decide) ⟨?_, trivial⟩; refine x_opg rfl rfl ?_; ((refine c_stA rfl rfl rfl rfl rfl rfl ?_)); refine x_kk (by (exact Gh.le.refl _)) (by repeat (first | exact List.nil_sublist _ | apply List.Sublist.cons_cons)) (listed' := (bts 6 31)) (by kernel_rfl) ?_; refine x_tks (t := tb) (fuel := 0) [5] (bts 6 63) (by kernel_rfl) (by kernel_rfl) rfl rfl (Gh.le.refl _) (by repeat (first | exact List.nil_sublist _ | apply List.Sublist.cons_cons)) ?_ ?_; (focus (repeat' ((exact trivial)))); refine x_done (by kernel_rfl) (k_bk ?_)))
        all_goals refine k_rr (vs := [_, _]) rfl ⟨rc_A rfl rfl rfl rfl, rfl, trivial⟩ rfl (List.nil_sublist _) ⟨Gh.le.refl _, rfl, ?_⟩
        all_goals refine ⟨nilS, ⟨bt (c :: r) (Int.toNat 0), r.take j, []⟩, false, ?_, hty, SlV.nil0⟩
        all_goals show Tu [Ag [U8 (bt (c :: r) (Int.toNat 0) : Nat), S (r.take j), nilS], Bo (decide (((bt (c :: r) (Int.toNat 0) : Nat) : Int) = 82))] = _
        all_goals (rw [e83])
    rw [if_neg hrest] at hty
    have hrl : (r.drop (j + 1)).length ≤ 1000 := by simp at h ⊢; omega
    have hcl := cut_count (k := 44) (s := r.drop (j + 1))
    have cx_cutS := c_l3CutS (G := G) (s := r.drop (j + 1)) (k := 44) (by omega)
    have hall : ∀ y ∈ cut 44 (r.drop (j + 1)), y.length ≤ 1000 := fun y hy => Nat.le_trans (cut_len hy) hrl
    generalize hxs : cut 44 (r.drop (j + 1)) = xs at *
    rcases hs2 with h1 | h1 | h1
    all_goals repeat' (first | (refine run (t := tb) 400 rfl ?_ ?_; (focus (repeat' (first | exact trivial | apply And.intro | omega)))) | (refine k_op rfl ?_; first | (refine v_op (g_pickT rfl rfl ?_) rfl rfl ?_; (focus (((rfl)); done))) | (refine v_op (g_pickF rfl rfl ?_) rfl rfl ?_; (focus (((rfl)); done))) | refine v_op (g_ld rfl rfl rfl) rfl rfl ?_ | (refine c_rt rfl rfl rfl cx_nm rfl ?_) | (refine c_fns rfl rfl rfl cx_cutS rfl ?_; rintro _ G hle hcut; skip)) | (refine k_gt rfl rfl ?_ ?_; (focus (((refine decide_eq_true ?_; (omega))); done))) | (refine k_gf rfl rfl ?_ ?_; (focus ((first | rfl | assumption | (refine decide_eq_false ?_; (omega))); done))) | (refine k_ff rfl ?_ ?_; (focus ((first | rfl | (refine decide_eq_false ?_; first | assumption | omega)); done))) | (refine k_any (s_any (id := 6) _ (fun _ h => h) mixed ?_); refine x_tks (t := tb) (fuel := 3) [0, 1, 2, 3, 4] (bts 8 31) (by kernel_rfl) (by kernel_rfl) rfl rfl (Gh.le.refl _) (by repeat ((exact List.Sublist.refl _))) ?_ ?_; (focus (repeat' (first | exact trivial | apply And.intro | omega))); ((refine (x_tkg (bts 8 63) 5 rfl (by kernel_rfl) rfl (Gh.le.refl _) (by repeat ((exact List.Sublist.refl _)))) (g_bld rfl rfl) rfl rfl ?_)); refine x_all [6] (by kernel_rfl) (by decide) ⟨?_, trivial⟩; refine x_opg rfl rfl ?_; ((refine c_al rfl rfl fun _ => ?_)); refine x_kk (by (exact Gh.le.refl _)) (by repeat (first | exact List.Sublist.refl _ | apply List.Sublist.cons)) (listed' := (bts 8 127)) (by kernel_rfl) ?_; refine x_all [7] (by kernel_rfl) (by decide) ⟨?_, trivial⟩; refine x_opg rfl rfl ?_; ((refine c_stA rfl rfl rfl rfl rfl rfl ?_)); refine x_kk (by (exact Gh.le.refl _)) (by repeat (first | exact List.Sublist.refl _ | apply List.Sublist.cons)) (listed' := (bts 8 255)) (by kernel_rfl) ?_; refine x_done (by kernel_rfl) (k_bk ?_)))
    all_goals rename_i y v
    all_goals refine Nx.addNil tFld 4 ?_
    all_goals refine k_loop (ι := Value × List Fld × Nat) (fun i => i.2.2 ≤ xs.length ∧ i.2.1.length ≤ i.2.2 ∧ fieldsOf c.toNat (xs.drop i.2.2) i.2.1 = fieldsOf c.toNat xs []) (fun i => [(2, Pt x 0), (5, Pt y 0), (6, v), (7, I i.2.2)]) (fun _ => G) (fun i => [.acc i.1 tFld 4 i.2.1.length (rows fldF i.2.1), .blk y (.cells [U8 (bt (c :: r) (Int.toNat 0) : Nat), S (r.take j), i.1].toArray tTy (0, 0)), .blk x (.cells [U8 0, S [], nilS].toArray tTy (0, 0))]) (fun i => xs.length - i.2.2) (nilS, [], 0) ?_ (by repeat (first | exact trivial | refine ⟨rfl, ?_⟩)) rfl (by repeat ((exact List.Sublist.refl _))) (fun i Hi => ?_)
    all_goals (first | exact ⟨Nat.zero_le _, Nat.le_refl _, rfl⟩ | skip)
    all_goals obtain ⟨u, fs, i⟩ := i
    all_goals dsimp only at Hi ⊢
    all_goals obtain ⟨hi1, hi2, hi3⟩ := Hi
    all_goals refine Nx.shp (v := u) (.head _) fun hsh => ?_
    all_goals (have hsh2 := hsh; obtain ⟨au, cu, rfl⟩ := hsh.sl)
    all_goals by_cases hix : i < xs.length
    all_goals try (rw [drop_nth hix, fieldsOf] at hi3; obtain ⟨bv, ov, cv, rfl, hsv⟩ := hcut.expl (by omega); have hx := hall _ (nth_mem hix))
    all_goals repeat' (first | (refine run (t := tb) 400 rfl ?_ ?_; (focus (repeat' ((exact trivial))))) | (refine k_op rfl ?_; first | refine c_stA rfl rfl rfl rfl rfl rfl ?_ | refine v_op (g_ldA rfl rfl rfl rfl) rfl rfl ?_ | refine v_op (g_lenL rfl) rfl rfl ?_ | refine v_op (g_lenV rfl (by assumption)) rfl rfl ?_) | (refine k_tt rfl ?_ ?_; (focus (((refine decide_eq_true ?_; (omega))); done))) | (refine k_ff rfl ?_ ?_; (focus (((refine decide_eq_false ?_; (omega))); done))) | refine k_cd rfl (fun _ => ?_) (fun _ => ?_) | (refine k_any (s_any (id := 15) _ (fun _ h => h) mixed ?_); refine x_tks (t := tb) (fuel := 10) [0, 1, 4] (bts 13 19) (by kernel_rfl) (by kernel_rfl) rfl rfl (Gh.le.refl _) (by repeat ((exact List.Sublist.refl _))) ?_ ?_; (focus (repeat' ((exact trivial)))); ((refine (x_tkg (bts 13 23) 2 rfl (by kernel_rfl) rfl (Gh.le.refl _) (by repeat ((exact List.Sublist.refl _)))) (g_iaddrN rfl rfl ?_) rfl rfl ?_; (focus ((omega); done)))); ((refine (x_tkg (bts 13 31) 3 rfl (by kernel_rfl) rfl (Gh.le.refl _) (by repeat ((exact List.Sublist.refl _)))) (g_ldRS rfl rfl (by assumption) ?_) rfl rfl ?_; (focus (((omega)); done)))); ((refine (x_tkg (bts 13 63) 5 rfl (by kernel_rfl) rfl (Gh.le.refl _) (by repeat ((exact List.Sublist.refl _)))) (g_ld rfl rfl rfl) rfl rfl ?_)); refine x_all [6, 10] (by kernel_rfl) (by decide) ⟨?_, ?_, trivial⟩; (focus (refine x_opg rfl rfl ?_; ((refine c_pu rfl rfl rfl (c_l3ReadField (by omega)) rfl ?_; rintro _ ⟨f, ok, rfl, hfld⟩)); refine x_kk (by (exact Gh.le.refl _)) (by repeat ((exact List.Sublist.refl _))) (listed' := (bts 13 127)) (by kernel_rfl) ?_; refine x_tks (t := tb) (fuel := 3) [7, 8, 9] (bts 13 1023) (by kernel_rfl) (by kernel_rfl) rfl rfl (Gh.le.refl _) (by repeat ((exact List.Sublist.refl _))) ?_ ?_; (focus (repeat' ((exact trivial)))); refine x_all [10] (by kernel_rfl) (by decide) ⟨?_, trivial⟩; refine x_opg rfl rfl ?_; ((refine c_al rfl rfl fun _ => ?_)); refine x_kk (by (exact Gh.le.refl _)) (by repeat (first | exact List.Sublist.refl _ | apply List.Sublist.cons)) (listed' := (bts 13 2047)) (by kernel_rfl) ?_; refine x_all [11] (by kernel_rfl) (by decide) ⟨?_, trivial⟩; refine x_opg rfl rfl ?_; ((refine c_stA rfl rfl rfl rfl rfl rfl ?_)); refine x_kk (by (exact Gh.le.refl _)) (by repeat (first | exact List.Sublist.refl _ | apply List.Sublist.cons)) (listed' := (bts 13 4095)) (by kernel_rfl) ?_; refine x_tks (t := tb) (fuel := 0) [12] (bts 13 8191) (by kernel_rfl) (by kernel_rfl) rfl rfl (Gh.le.refl _) (by repeat (first | exact List.Sublist.refl _ | apply List.Sublist.cons)) ?_ ?_; (focus (repeat' ((exact trivial)))); refine x_done (by kernel_rfl) (k_bk ?_))); rotate_left 1; (focus (refine x_opg rfl rfl ?_; ((refine c_al rfl rfl fun _ => ?_)); refine x_kk (by (exact Gh.le.refl _)) (by repeat (first | exact List.Sublist.refl _ | apply List.Sublist.cons)) (listed' := (bts 13 1087)) (by kernel_rfl) ?_; refine x_all [6] (by kernel_rfl) (by decide) ⟨?_, trivial⟩; refine x_opg rfl rfl ?_; ((refine c_pu rfl rfl rfl (c_l3ReadField (by omega)) rfl ?_; rintro _ ⟨f, ok, rfl, hfld⟩)); refine x_kk (by (exact Gh.le.refl _)) (by repeat (first | exact List.Sublist.refl _ | apply List.Sublist.cons)) (listed' := (bts 13 1151)) (by kernel_rfl) ?_; refine x_tks (t := tb) (fuel := 2) [7, 8, 9] (bts 13 2047) (by kernel_rfl) (by kernel_rfl) rfl rfl (Gh.le.refl _) (by repeat (first | exact List.Sublist.refl _ | apply List.Sublist.cons)) ?_ ?_; (focus (repeat' ((exact trivial)))); refine x_all [11] (by kernel_rfl) (by decide) ⟨?_, trivial⟩; refine x_opg rfl rfl ?_; ((refine c_stA rfl rfl rfl rfl rfl rfl ?_)); refine x_kk (by (exact Gh.le.refl _)) (by repeat (first | exact List.Sublist.refl _ | apply List.Sublist.cons)) (listed' := (bts 13 4095)) (by kernel_rfl) ?_; refine x_tks (t := tb) (fuel := 0) [12] (bts 13 8191) (by kernel_rfl) (by kernel_rfl) rfl rfl (Gh.le.refl _) (by repeat (first | exact List.Sublist.refl _ | apply List.Sublist.cons)) ?_ ?_; (focus (repeat' ((exact trivial)))); refine x_done (by kernel_rfl) (k_bk ?_))); rotate_left 1) | (refine k_any (s_anyD (id := 24) (tt := 2) rfl mixed ?_); refine x_tks (t := tb) (fuel := 6) [1] (bts 7 2) (by kernel_rfl) (by kernel_rfl) rfl rfl (Gh.le.refl _) (by repeat (first | exact List.nil_sublist _ | apply List.Sublist.cons_cons)) ?_ ?_; (focus (repeat' ((exact trivial)))); ((refine (x_tkg (bts 7 3) 0 rfl (by kernel_rfl) rfl (Gh.le.refl _) (by repeat (first | exact List.nil_sublist _ | apply List.Sublist.cons_cons))) (g_ldA rfl rfl rfl rfl) rfl rfl ?_)); ((refine (x_tkg (bts 7 7) 2 rfl (by kernel_rfl) rfl (Gh.le.refl _) (by repeat (first | exact List.nil_sublist _ | apply List.Sublist.cons_cons))) (g_ld rfl rfl rfl) rfl rfl ?_)); ((refine (x_tkg (bts 7 15) 3 rfl (by kernel_rfl) rfl (Gh.le.refl _) (by repeat (first | exact List.nil_sublist _ | apply List.Sublist.cons_cons))) (g_lenL rfl) rfl rfl ?_)); refine x_tks (t := tb) (fuel := 2) [4] (bts 7 31) (by kernel_rfl) (by kernel_rfl) rfl rfl (Gh.le.refl _) (by repeat (first | exact List.nil_sublist _ | apply List.Sublist.cons_cons)) ?_ ?_; (focus (repeat' ((exact trivial)))); refine x_all [5] (by kernel_rfl) (by decide) ⟨?_, trivial⟩; refine x_opg rfl rfl ?_; ((refine c_stA rfl rfl rfl rfl rfl rfl ?_)); refine x_kk (by (exact Gh.le.refl _)) (by repeat (first | exact List.nil_sublist _ | apply List.Sublist.cons_cons)) (listed' := (bts 7 63)) (by kernel_rfl) ?_; refine x_tks (t := tb) (fuel := 0) [6] (bts 7 127) (by kernel_rfl) (by kernel_rfl) rfl rfl (Gh.le.refl _) (by repeat (first | exact List.nil_sublist _ | apply List.Sublist.cons_cons)) ?_ ?_; (focus (repeat' ((exact trivial)))); refine x_done (by kernel_rfl) (k_bk ?_)))
    all_goals first
      | (rename_i z hq
         have hq2 : ok = false := by simpa using hq
         subst hq2
         have hf0 : fldOf (nth xs i) c.toNat = none := hfld
         have hno : tyOf (c :: r) = none := by rw [hf0] at hi3; rw [hty, ← hi3]
         refine Nx.sealS (v := .slice au fs.length cu) fun G' hle2 hsl => ?_
         refine k_rr (vs := [_, _]) rfl ⟨rc_A rfl rfl rfl rfl, rfl, trivial⟩ rfl (List.nil_sublist _) ⟨hle.trans hle2, rfl, ?_⟩
         exact ⟨.slice au fs.length cu, ⟨bt (c :: r) (Int.toNat 0), r.take j, fs⟩, false, rfl, by rw [hno]; rfl, hsl⟩)
      | (have ei : i = xs.length := by omega
         have hyes : tyOf (c :: r) = if fs.length ≤ 8 then some ⟨c.toNat, r.take j, fs⟩ else none := by
           rw [ei, List.drop_length, fieldsOf] at hi3
           rw [hty, ← hi3]
         refine Nx.sealS (v := .slice au fs.length cu) fun G' hle2 hsl => ?_
         refine k_rr (vs := [_, _]) rfl ⟨rc_A rfl rfl rfl rfl, rfl, trivial⟩ rfl (List.nil_sublist _) ⟨hle.trans hle2, rfl, ?_⟩
         refine ⟨.slice au fs.length cu, ⟨c.toNat, r.take j, fs⟩, decide (fs.length ≤ 8), ?_, by rw [hyes]; simp, hsl⟩
         rw [oneOf_two, e0]
         refine congrArg (fun x => Tu [_, Bo x]) (decide_eq_decide.2 ?_)
         omega)
      | (rename_i z hq
         have hq2 : ok = true := by simpa using hq
         subst hq2
         have hf1 : fldOf (nth xs i) c.toNat = some f := hfld
         rw [hf1] at hi3
         dsimp only at hi3
         refine k_loop (ι := Nat) (fun k => k ≤ fs.length ∧ ∀ m, m < k → (nth fs m).tag < f.tag ∧ (nth fs m).name ≠ f.name) (fun k => [(2, Pt x 0), (5, Pt y 0), (6, .slice (some ⟨bv, ov, none⟩) xs.length cv), (7, I i), (8, Pt z 0), (10, I k)]) (fun _ => G) (fun k => [.blk z (.cells (fldF f).toArray tFld (0, 0)), .acc (.slice au fs.length cu) tFld 4 fs.length (rows fldF fs), .blk y (.cells [U8 (bt (c :: r) (Int.toNat 0) : Nat), S (r.take j), .slice au fs.length cu].toArray tTy (0, 0)), .blk x (.cells [U8 0, S [], nilS].toArray tTy (0, 0))]) (fun k => fs.length - k) 0 ?_ (by repeat (first | exact trivial | refine ⟨rfl, ?_⟩)) rfl (by repeat ((exact List.Sublist.refl _))) (fun k Hk => ?_)
         · exact ⟨Nat.zero_le _, fun m hm => absurd hm (by omega)⟩
         by_cases hk : k < fs.length
         · obtain ⟨bu, cu2, eu⟩ := hsh2.pos (by omega)
           simp only [Value.slice.injEq] at eu
           obtain ⟨rfl, -, rfl⟩ := eu
           by_cases hbad : (nth fs k).tag < f.tag ∧ (nth fs k).name ≠ f.name
           · obtain ⟨hb1, hb2⟩ := hbad
             repeat' (first | (refine run (t := tb) 400 rfl ?_ ?_; (focus (repeat' (first | exact trivial | apply And.intro | omega)))) | (refine k_op rfl ?_; first | refine v_op (g_ld rfl rfl rfl) rfl rfl ?_ | refine v_op (g_lenL rfl) rfl rfl ?_) | (refine k_tt rfl ?_ ?_; (focus (((refine decide_eq_true ?_; (omega))); done))) | (refine k_ff rfl ?_ ?_; (focus (((refine decide_eq_false ?_; (assumption))); done))) | (refine k_any (s_any (id := 21) _ (fun _ h => h) mixed ?_); refine x_tks (t := tb) (fuel := 17) [0, 2, 6] (bts 20 69) (by kernel_rfl) (by kernel_rfl) rfl rfl (Gh.le.refl _) (by repeat ((exact List.Sublist.refl _))) ?_ ?_; (focus (repeat' ((exact trivial)))); ((refine (x_tkg (bts 20 71) 1 rfl (by kernel_rfl) rfl (Gh.le.refl _) (by repeat ((exact List.Sublist.refl _)))) (g_ld rfl rfl rfl) rfl rfl ?_)); ((refine (x_tkg (bts 20 79) 3 rfl (by kernel_rfl) rfl (Gh.le.refl _) (by repeat ((exact List.Sublist.refl _)))) (g_iaddrN rfl rfl ?_) rfl rfl ?_; (focus ((omega); done)))); refine x_tks (t := tb) (fuel := 14) [4] (bts 20 95) (by kernel_rfl) (by kernel_rfl) rfl rfl (Gh.le.refl _) (by repeat ((exact List.Sublist.refl _))) ?_ ?_; (focus (repeat' ((exact trivial)))); ((refine (x_tkg (bts 20 127) 5 rfl (by kernel_rfl) rfl (Gh.le.refl _) (by repeat ((exact List.Sublist.refl _)))) (g_ldBRF rfl rfl rfl ?_ rfl rfl) rfl rfl ?_; (focus (((omega)); done)))); ((refine (x_tkg (bts 20 255) 7 rfl (by kernel_rfl) rfl (Gh.le.refl _) (by repeat ((exact List.Sublist.refl _)))) (g_ld rfl rfl rfl) rfl rfl ?_)); refine x_tks (t := tb) (fuel := 10) [8, 9] (bts 20 1023) (by kernel_rfl) (by kernel_rfl) rfl rfl (Gh.le.refl _) (by repeat ((exact List.Sublist.refl _))) ?_ ?_; (focus (repeat' ((exact trivial)))); (try ((refine Nx.re (d := 107) (v' := Bo false) rfl (congrArg Value.bool ?_) ?_; (focus (((refine decide_eq_false ?_; (omega))); done))))); refine x_tks (t := tb) (fuel := 7) [10, 12, 16] (bts 20 71679) (by kernel_rfl) (by kernel_rfl) rfl rfl (Gh.le.refl _) (by repeat ((exact List.Sublist.refl _))) ?_ ?_; (focus (repeat' ((exact trivial)))); ((refine (x_tkg (bts 20 73727) 11 rfl (by kernel_rfl) rfl (Gh.le.refl _) (by repeat ((exact List.Sublist.refl _)))) (g_ld rfl rfl rfl) rfl rfl ?_)); ((refine (x_tkg (bts 20 81919) 13 rfl (by kernel_rfl) rfl (Gh.le.refl _) (by repeat ((exact List.Sublist.refl _)))) (g_iaddrN rfl rfl ?_) rfl rfl ?_; (focus ((omega); done)))); refine x_tks (t := tb) (fuel := 4) [14] (bts 20 98303) (by kernel_rfl) (by kernel_rfl) rfl rfl (Gh.le.refl _) (by repeat ((exact List.Sublist.refl _))) ?_ ?_; (focus (repeat' ((exact trivial)))); ((refine (x_tkg (bts 20 131071) 15 rfl (by kernel_rfl) rfl (Gh.le.refl _) (by repeat ((exact List.Sublist.refl _)))) (g_ldBRF rfl rfl rfl ?_ rfl rfl) rfl rfl ?_; (focus (((omega)); done)))); ((refine (x_tkg (bts 20 262143) 17 rfl (by kernel_rfl) rfl (Gh.le.refl _) (by repeat ((exact List.Sublist.refl _)))) (g_ld rfl rfl rfl) rfl rfl ?_)); refine x_tks (t := tb) (fuel := 1) [18] (bts 20 524287) (by kernel_rfl) (by kernel_rfl) rfl rfl (Gh.le.refl _) (by repeat ((exact List.Sublist.refl _))) ?_ ?_; (focus (repeat' ((exact trivial)))); ((refine (x_tkg (bts 20 1048575) 19 rfl (by kernel_rfl) rfl (Gh.le.refl _) (by repeat ((exact List.Sublist.refl _)))) (g_pickF rfl rfl ?_) rfl rfl ?_; (focus (((rfl)); done)))); refine x_done (by kernel_rfl) (k_bk ?_)))
             refine k_rd (k + 1) ⟨by omega, fun m hm => ?_⟩ (by omega) (by repeat (first | exact trivial | refine ⟨rfl, ?_⟩)) rfl (by repeat ((exact List.Sublist.refl _)))
             rcases Nat.lt_or_ge m k with h3 | h3
             · exact Hk.2 m h3
             · have : m = k := by omega
               subst this; exact ⟨hb1, hb2⟩
           · have hfr : fresh f fs = false := by
               unfold fresh
               rw [List.all_eq_false]
               exact ⟨nth fs k, nth_mem hk, by simpa using hbad⟩
             have hno : tyOf (c :: r) = none := by
               rw [hfr, if_neg (by simp)] at hi3
               rw [hty, ← hi3]
             by_cases htag : f.tag ≤ (nth fs k).tag
             case' neg => have hnm : (nth fs k).name = f.name := by
                           by_cases h6 : (nth fs k).name = f.name
                           · exact h6
                           · exact absurd ⟨by omega, h6⟩ hbad
             all_goals repeat' (first | (refine run (t := tb) 400 rfl ?_ ?_; (focus (repeat' ((exact trivial))))) | (refine k_op rfl ?_; first | refine c_stA rfl rfl rfl rfl rfl rfl ?_ | refine v_op (g_ld rfl rfl rfl) rfl rfl ?_ | refine v_op (g_ldA rfl rfl rfl rfl) rfl rfl ?_ | refine v_op (g_lenL rfl) rfl rfl ?_) | (refine k_tt rfl ?_ ?_; (focus ((first | rfl | (refine decide_eq_true ?_; first | assumption | omega)); done))) | (refine k_any (s_any (id := 21) _ (fun _ h => h) mixed ?_); refine x_tks (t := tb) (fuel := 17) [0, 2, 6] (bts 20 69) (by kernel_rfl) (by kernel_rfl) rfl rfl (Gh.le.refl _) (by repeat ((exact List.Sublist.refl _))) ?_ ?_; (focus (repeat' ((exact trivial)))); ((refine (x_tkg (bts 20 71) 1 rfl (by kernel_rfl) rfl (Gh.le.refl _) (by repeat ((exact List.Sublist.refl _)))) (g_ld rfl rfl rfl) rfl rfl ?_)); ((refine (x_tkg (bts 20 79) 3 rfl (by kernel_rfl) rfl (Gh.le.refl _) (by repeat ((exact List.Sublist.refl _)))) (g_iaddrN rfl rfl ?_) rfl rfl ?_; (focus ((omega); done)))); refine x_tks (t := tb) (fuel := 14) [4] (bts 20 95) (by kernel_rfl) (by kernel_rfl) rfl rfl (Gh.le.refl _) (by repeat ((exact List.Sublist.refl _))) ?_ ?_; (focus (repeat' ((exact trivial)))); ((refine (x_tkg (bts 20 127) 5 rfl (by kernel_rfl) rfl (Gh.le.refl _) (by repeat ((exact List.Sublist.refl _)))) (g_ldBRF rfl rfl rfl ?_ rfl rfl) rfl rfl ?_; (focus (((omega)); done)))); ((refine (x_tkg (bts 20 255) 7 rfl (by kernel_rfl) rfl (Gh.le.refl _) (by repeat ((exact List.Sublist.refl _)))) (g_ld rfl rfl rfl) rfl rfl ?_)); refine x_tks (t := tb) (fuel := 10) [8, 9] (bts 20 1023) (by kernel_rfl) (by kernel_rfl) rfl rfl (Gh.le.refl _) (by repeat ((exact List.Sublist.refl _))) ?_ ?_; (focus (repeat' ((exact trivial)))); (try (first | (refine Nx.re (d := 107) (v' := Bo true) rfl (congrArg Value.bool ?_) ?_; (focus (((refine decide_eq_true ?_; (assumption))); done))) | (refine Nx.re (d := 107) (v' := Bo false) rfl (congrArg Value.bool ?_) ?_; (focus (((refine decide_eq_false ?_; (assumption))); done))))); refine x_tks (t := tb) (fuel := 7) [10, 12, 16] (bts 20 71679) (by kernel_rfl) (by kernel_rfl) rfl rfl (Gh.le.refl _) (by repeat ((exact List.Sublist.refl _))) ?_ ?_; (focus (repeat' ((exact trivial)))); (first | refine (x_tkg (bts 20 73727) 11 rfl (by kernel_rfl) rfl (Gh.le.refl _) (by repeat ((exact List.Sublist.refl _)))) (g_ld rfl rfl rfl) rfl rfl ?_ | refine x_tkn (bts 20 73727) 11 rfl (by kernel_rfl) rfl (Gh.le.refl _) (by repeat ((exact List.Sublist.refl _))) rfl rfl ?_); (first | (refine (x_tkg (bts 20 81919) 13 rfl (by kernel_rfl) rfl (Gh.le.refl _) (by repeat ((exact List.Sublist.refl _)))) (g_iaddrN rfl rfl ?_) rfl rfl ?_; (focus ((omega); done))) | refine x_tkn (bts 20 81919) 13 rfl (by kernel_rfl) rfl (Gh.le.refl _) (by repeat ((exact List.Sublist.refl _))) rfl rfl ?_); refine x_tks (t := tb) (fuel := 4) [14] (bts 20 98303) (by kernel_rfl) (by kernel_rfl) rfl rfl (Gh.le.refl _) (by repeat ((exact List.Sublist.refl _))) ?_ ?_; (focus (repeat' ((exact trivial)))); (first | (refine (x_tkg (bts 20 131071) 15 rfl (by kernel_rfl) rfl (Gh.le.refl _) (by repeat ((exact List.Sublist.refl _)))) (g_ldBRF rfl rfl rfl ?_ rfl rfl) rfl rfl ?_; (focus (((omega)); done))) | refine x_tkn (bts 20 131071) 15 rfl (by kernel_rfl) rfl (Gh.le.refl _) (by repeat ((exact List.Sublist.refl _))) rfl rfl ?_); (first | refine (x_tkg (bts 20 262143) 17 rfl (by kernel_rfl) rfl (Gh.le.refl _) (by repeat ((exact List.Sublist.refl _)))) (g_ld rfl rfl rfl) rfl rfl ?_ | refine x_tkn (bts 20 262143) 17 rfl (by kernel_rfl) rfl (Gh.le.refl _) (by repeat ((exact List.Sublist.refl _))) rfl rfl ?_); refine x_tks (t := tb) (fuel := 1) [18] (bts 20 524287) (by kernel_rfl) (by kernel_rfl) rfl rfl (Gh.le.refl _) (by repeat ((exact List.Sublist.refl _))) ?_ ?_; (focus (repeat' ((exact trivial)))); (first | (refine (x_tkg (bts 20 1048575) 19 rfl (by kernel_rfl) rfl (Gh.le.refl _) (by repeat ((exact List.Sublist.refl _)))) (g_pickT rfl rfl ?_) rfl rfl ?_; (focus (((rfl)); done))) | (refine (x_tkg (bts 20 1048575) 19 rfl (by kernel_rfl) rfl (Gh.le.refl _) (by repeat ((exact List.Sublist.refl _)))) (g_pickF rfl rfl ?_) rfl rfl ?_; (focus (((rfl)); done)))); refine x_done (by kernel_rfl) (k_bk ?_)))
             all_goals refine Nx.sealS (v := .slice (some ⟨bu, 0, none⟩) fs.length cu) fun G' hle2 hsl => ?_
             all_goals refine k_rr (vs := [_, _]) rfl ⟨rc_A rfl rfl rfl rfl, rfl, trivial⟩ rfl (List.nil_sublist _) ⟨hle.trans hle2, rfl, ?_⟩
             all_goals exact ⟨.slice (some ⟨bu, 0, none⟩) fs.length cu, ⟨bt (c :: r) (Int.toNat 0), r.take j, fs⟩, false, rfl, by rw [hno]; rfl, hsl⟩
         · have hfr : fresh f fs = true := by
             unfold fresh
             rw [List.all_eq_true]
             intro g hg
             obtain ⟨m, hm, rfl⟩ := mem_nth hg
             simpa using Hk.2 m (by omega)
           rw [hfr, if_pos rfl] at hi3
           have hxl : xs.length ≤ 1001 := by omega
           repeat' (first | (refine run (t := tb) 400 rfl ?_ ?_; (focus (repeat' ((exact trivial))))) | (refine k_op rfl ?_; first | refine v_op (g_ld rfl rfl rfl) rfl rfl ?_ | refine v_op (g_ldA rfl rfl rfl rfl) rfl rfl ?_ | refine v_op (g_lenL rfl) rfl rfl ?_ | refine c_bsl rfl rfl rfl rfl rfl rfl fun _ => ?_ | (refine c_apB rfl rfl rfl rfl rfl rfl rfl rfl ?_ fun _ => ?_; (focus ((omega); done)))) | (refine k_ff rfl ?_ ?_; (focus (((refine decide_eq_false ?_; (omega))); done))))
           rename_i u2
           refine Nx.shp (v := u2) (.head _) fun hs4 => ?_
           obtain ⟨a4, c4, rfl⟩ := hs4.sl
           repeat' (first | (refine run (t := tb) 400 rfl ?_ ?_; (focus (repeat' (first | exact trivial | apply And.intro | omega)))) | (refine k_op rfl ?_; (refine c_st1 rfl rfl rfl rfl ?_)))
           refine k_rd (.slice a4 (fs.length + 1) c4, fs ++ [f], i + 1) ⟨by dsimp only; omega, by simp; omega, hi3⟩ (by dsimp only; omega) (by repeat (first | exact trivial | refine ⟨rfl, ?_⟩)) rfl (by dsimp only; simp only [rows_snoc, List.length_append, List.length_cons, List.length_nil, Nat.zero_add]; repeat (first | exact List.Sublist.refl _ | apply List.Sublist.cons_cons | apply List.Sublist.cons)))
end Go.E
/-! EngP -/
namespace Go.E
section
variable {P : Program} {n : Nat} {D : List Deferred} {E : Env} {M : World → Prop} {d : Option Nat} {ty : TypeId} {pos : String} {aft : Array Edge} {gd : Option (Nat × Bool)}
variable {α : Type} [Inhabited α] {f : α → List Value}
theorem g_ldRFx {T : TypeId} {x : Operand} {desc : TypeDesc} {size sz bytes b o i k : Nat} {zero v : Value} {G0 : Gh} {L0 : List Own} {cs : List α} {y : α} [TI P T desc size bytes zero] [RowF f sz] [Kn M G0 L0] (hx : ev E x = some (Pt b (o + i * sz + k))) (ha : aggD desc = false) (hs : Seg G0 b o (rows f cs)) (hi : i < cs.length) (hy : nth cs i = y) (hk : Nat.blt k sz = true) (hv : (f y)[k]? = some v) :
    Gives P n D E M ⟨d, .load T x, ty, pos, aft, gd⟩ v := g_ldRF hx ha hs hi hk (by rw [hy]; exact hv)
theorem g_ldRx {T : TypeId} {x : Operand} {desc : TypeDesc} {sz bytes b o i : Nat} {zero : Value} {G0 : Gh} {L0 : List Own} {cs : List α} {y : α} [TI P T desc sz bytes zero] [RowF f sz] [Kn M G0 L0] (hx : ev E x = some (Pt b (o + i * sz))) (ha : aggD desc = true) (hs : Seg G0 b o (rows f cs)) (hi : i < cs.length) (hy : nth cs i = y) :
    Gives P n D E M ⟨d, .load T x, ty, pos, aft, gd⟩ (Ag (f y)) := by rw [← hy]; exact g_ldR hx ha hs hi
end
section
variable {P : Program} {n : Nat} {D : List Deferred} {E : Env} {B : Base} {G : Gh} {L : List Own} {K : Act → World → Prop} {Q : Exit → Act → World → Prop} {ty : TypeId} {pos : String} {aft : Array Edge} {gd : Option (Nat × Bool)} {dd : Nat}
/-- What an append hands back, written out. -/
theorem c_apX {v : Value} {m k b c : Nat} {s x : Operand} {T el T0 : TypeId} {desc : TypeDesc} {size bytes s1 b1 : Nat} {z1 zero : Value} {zs xs news : List Value} {fr : Nat × Nat} {L' : List Own} [TI P T (.slice el) s1 b1 z1] [TI P el desc size bytes zero] [ha : AccI L v el size m xs L'] [hb' : BlkI L b news T0 fr]
    (hs : ev E s = some v) (hx : ev E x = some (.slice (some ⟨b, 0, none⟩) k c)) (hl : Nat.beq news.length (k * size) = true) (h1 : all1 news = true)
    (hz : cellsC zero = some zs) (hzl : Nat.beq zs.length size = true) (hb0 : Nat.beq bytes 0 = false) (hlt : Nat.blt dd n = true) (hk : Nat.blt 0 k = true) (hb : (2 * (m + k) + 768) * bytes ≤ 281474976710656)
    (kk : ∀ b' c', Nx n D ((dd, .slice (some ⟨b', 0, none⟩) (m + k) c') :: E) B G (.acc (.slice (some ⟨b', 0, none⟩) (m + k) c') el size (m + k) (xs ++ news) :: L') K) :
    Nx n D E B G L (ow P ⟨some dd, .call ⟨.builtin .append, [s, x].toArray, [T, T].toArray⟩, ty, pos, aft, gd⟩ Q K) :=
  c_append hs hx ha.del (src_cells hl (cells_own hb'.mem)) h1 (cellsC_eq hz) hzl hb0 hb hlt fun v' => Nx.shp (.head _) fun hsh => by
    have hk' : 0 < k := by simpa using hk
    obtain ⟨b', c', rfl⟩ := hsh.pos (by omega)
    exact kk b' c'
end
section
variable {P : Program} {n : Nat} {D : List Deferred} {E : Env} {M : World → Prop} {d : Option Nat} {ty : TypeId} {pos : String} {aft : Array Edge} {gd : Option (Nat × Bool)}
theorem g_lookupX {T kt et : TypeId} {x i : Operand} {b : Nat} {k : List UInt8} {r : Option Value} {kvs : List (List UInt8 × Value)} {s1 b1 s2 b2 s3 b3 : Nat} {z1 z2 z3 v : Value} {de : TypeDesc} [TI P T (.map kt et) s1 b1 z1] [TI P kt .string s2 b2 z2] [TI P et de s3 b3 z3]
    (hx : ev E x = some (.map (some b))) (hi : ev E i = some (S k)) (hm : MapAt M b kvs) (hk : kvF kvs k = r) (hv : r.getD z3 = v) : Gives P n D E M ⟨d, .lookup T x i false, ty, pos, aft, gd⟩ v := by
  subst hv; subst hk; exact g_lookup hx hi hm
end
section
variable {P : Program} {n : Nat} {D : List Deferred} {E : Env} {M : World → Prop} {d : Option Nat} {ty : TypeId} {pos : String} {aft : Array Edge} {gd : Option (Nat × Bool)}
variable {α : Type} [Inhabited α] {f : α → List Value}
/-- A part of a row. -/
theorem g_ldRA {T : TypeId} {x : Operand} {desc : TypeDesc} {size sz bytes b o i k : Nat} {zero : Value} {vs : List Value} {G0 : Gh} {L0 : List Own} {cs : List α} [TI P T desc size bytes zero] [RowF f sz] [Kn M G0 L0] (hx : ev E x = some (Pt b (o + i * sz + k))) (ha : aggD desc = true) (hs : Seg G0 b o (rows f cs)) (hi : i < cs.length) (hv : takeC (f (nth cs i)) k size = some vs) (hl : Nat.beq vs.length size = true) :
    Gives P n D E M ⟨d, .load T x, ty, pos, aft, gd⟩ (Ag vs) := g_loadA (size := size) hx ha (Nat.eq_of_beq_eq_true hl) (by
  have h : CellsOf M b (o + i * sz) (f (nth cs i)) := CellsOf.mk fun j v hj => by
    have hlt : j < sz := by have := (List.getElem?_eq_some_iff.1 hj).1; rwa [RowF.len] at this
    have := (cells_seg (S := M) hs).go (i * sz + j) v (by rw [rows_get hi hlt]; exact hj)
    rwa [← Nat.add_assoc] at this
  exact h.take hv)
end
section
variable {P : Program} {n : Nat} {D : List Deferred} {E : Env} {M : World → Prop} {d : Option Nat} {ty : TypeId} {pos : String} {aft : Array Edge} {gd : Option (Nat × Bool)}
variable {α : Type} [Inhabited α] {f : α → List Value}
/-- Rows of one cell. -/
theorem g_ldR1x {T : TypeId} {x : Operand} {desc : TypeDesc} {size bytes b o i : Nat} {zero v : Value} {G0 : Gh} {L0 : List Own} {cs : List α} {y : α} [TI P T desc size bytes zero] [RowF f 1] [Kn M G0 L0] (hx : ev E x = some (Pt b (o + i * 1))) (ha : aggD desc = false) (hs : Seg G0 b o (rows f cs)) (hi : i < cs.length) (hy : nth cs i = y) (hv : (f y)[0]? = some v) :
    Gives P n D E M ⟨d, .load T x, ty, pos, aft, gd⟩ v := g_load hx ha (by
  have := (cells_seg (S := M) hs).go (i * 1 + 0) v (by rw [rows_get hi (by omega), hy]; exact hv)
  simpa using this)
end
end Go.E
/-! Mj -/
namespace Go.E
set_option maxRecDepth 20000
set_option maxHeartbeats 2000000
open Go.Proofs
variable {G : Gh}
/-- The program's type, laid down. -/
def TyI (G : Gh) (b : Nat) (t : Ty) : Prop := ∃ fv ln, Seg G b 0 [U8 t.sort, S t.name, fv, S ln] ∧ SlV G fv 6 t.fields.length (rows fiF t.fields)
theorem TyI.mono {G G' : Gh} {b : Nat} {t : Ty} (h : TyI G b t) (hl : Gh.le G G') : TyI G' b t := by
  obtain ⟨fv, ln, h1, h2⟩ := h
  exact ⟨fv, ln, h1.mono hl, h2.mono hl⟩
def TiPost (s : List UInt8) (v : Value) (G : Gh) : Prop := (tyOf s = none ∧ ∃ p, v = Tu [p, Bo false]) ∨ ∃ b t, v = Tu [Pt b 0, Bo true] ∧ tyOf s = some t ∧ TyI G b t
abbrev tFi : TypeId := 84
abbrev tTi : TypeId := 82
theorem fieldsOf_len {k : Nat} : ∀ {xs : List (List UInt8)} {fs gs : List Fld}, fieldsOf k xs fs = some gs → gs.length = fs.length + xs.length
  | [], fs, gs, h => by simp only [fieldsOf, Option.some.injEq] at h; subst h; simp
  | x :: xs, fs, gs, h => by
    unfold fieldsOf at h
    split at h
    · cases h
    · split at h
      · have := fieldsOf_len h; simp at this ⊢; omega
      · cases h
theorem rue (c : UInt8) : decide (0 ≤ idx1 c.toNat [82, 85, 69]) = decide (sortOk c.toNat) := by
  have h : ∀ n : Nat, n < 256 → decide (0 ≤ idx1 n [82, 85, 69]) = decide (sortOk n) := by decide +kernel
  exact h _ c.toNat_lt
theorem c_readType {s : List UInt8} (h : s.length ≤ 1000) : FnS Tryd.prog 35 [S s] G (TiPost s) := by
  match s, h with
  | [], h =>
    refine b_enter [(0, _)] Tryd.func35 (by kernel_rfl) Tryd.ntmps35 rfl rfl (by repeat (first | exact trivial | refine ⟨rfl, ?_⟩)) fun B hok hB hW => ?_
    repeat' (first | (refine run (t := tb) 400 rfl ?_ ?_; (focus (repeat' ((exact trivial))))) | (refine k_op rfl ?_; (refine v_op (g_pickT rfl rfl ?_) rfl rfl ?_; (focus (((rfl)); done)))) | (refine k_gt rfl rfl ?_ ?_; (focus (((rfl)); done))) | (refine k_tt rfl ?_ ?_; (focus (((rfl)); done))))
    all_goals refine k_rr (vs := [_, _]) rfl ⟨rfl, rfl, trivial⟩ rfl (List.nil_sublist _) ⟨Gh.le.refl _, rfl, ?_⟩
    all_goals exact .inl ⟨rfl, _, rfl⟩
  | c :: r, h =>
    have cx_cont : PuG Tryd.prog 50 [S [82, 85, 69], S [c]] G (· = Bo (decide (sortOk c.toNat))) := by rw [← rue]; exact c_Contains
    by_cases hs : sortOk c.toNat
    case neg =>
      have hno : tyOf (c :: r) = none := by
        cases ht : (cut1 61 r).2.2 with
        | false => exact tyOf_bad ht
        | true => rw [tyOf_at (c := c) (r := r) (name := (cut1 61 r).1) (rest := (cut1 61 r).2.1) (by rw [← ht]), if_neg fun h => hs h.2]
      have hs2 : (!decide (sortOk c.toNat)) = true := by simpa using hs
      refine b_enter [(0, _)] Tryd.func35 (by kernel_rfl) Tryd.ntmps35 rfl rfl (by repeat (first | exact trivial | refine ⟨rfl, ?_⟩)) fun B hok hB hW => ?_
      repeat' (first | (refine run (t := tb) 400 rfl ?_ ?_; (focus (repeat' (first | exact trivial | apply And.intro | omega | (simp only [List.length_append, List.length_cons, List.length_nil, Int.toNat_natCast]; omega))))) | (refine k_op rfl ?_; first | (refine v_op (g_pickF rfl rfl ?_) rfl rfl ?_; (focus (((rfl)); done))) | (refine c_rt rfl rfl rfl cx_cont rfl ?_)) | (refine k_gf rfl rfl ?_ ?_; (focus (((rfl)); done))) | (refine k_tt rfl ?_ ?_; (focus (((assumption)); done))))
      all_goals refine k_rr (vs := [_, _]) rfl ⟨rfl, rfl, trivial⟩ rfl (List.nil_sublist _) ⟨Gh.le.refl _, rfl, ?_⟩
      all_goals exact .inl ⟨hno, _, rfl⟩
    have hs2 : (!decide (sortOk c.toNat)) = false := by simpa using hs
    have hcl := cut1_len (k := 61) (s := r)
    have hrl : r.length ≤ 1000 := by simp at h; omega
    have cx_cut : PuG Tryd.prog 34 [S r, S [61]] G (· = Tu [S (cut1 61 r).1, S (cut1 61 r).2.1, Bo (cut1 61 r).2.2]) := c_Cut (c := 61) (by omega)
    cases ht : (cut1 61 r).2.2 with
    | false =>
      rw [ht] at cx_cut
      refine b_enter [(0, _)] Tryd.func35 (by kernel_rfl) Tryd.ntmps35 rfl rfl (by repeat (first | exact trivial | refine ⟨rfl, ?_⟩)) fun B hok hB hW => ?_
      repeat' (first | (refine run (t := tb) 400 rfl ?_ ?_; (focus (repeat' (first | exact trivial | apply And.intro | omega | (simp only [List.length_append, List.length_cons, List.length_nil, Int.toNat_natCast]; omega))))) | (refine k_op rfl ?_; first | (refine v_op (g_pickT rfl rfl ?_) rfl rfl ?_; (focus (((rfl)); done))) | (refine v_op (g_pickF rfl rfl ?_) rfl rfl ?_; (focus (((rfl)); done))) | (refine c_rt rfl rfl rfl cx_cont rfl ?_) | (refine c_rt rfl rfl rfl cx_cut rfl ?_)) | (refine k_gt rfl rfl ?_ ?_; (focus (((rfl)); done))) | (refine k_gf rfl rfl ?_ ?_; (focus (((rfl)); done))) | (refine k_tt rfl ?_ ?_; (focus (((rfl)); done))) | (refine k_ff rfl ?_ ?_; (focus (((assumption)); done))))
      all_goals refine k_rr (vs := [_, _]) rfl ⟨rfl, rfl, trivial⟩ rfl (List.nil_sublist _) ⟨Gh.le.refl _, rfl, ?_⟩
      all_goals exact .inl ⟨tyOf_bad ht, _, rfl⟩
    | true =>
      have hty := tyOf_at (c := c) (r := r) (name := (cut1 61 r).1) (rest := (cut1 61 r).2.1) (by rw [← ht])
      rw [ht] at cx_cut
      generalize (cut1 61 r).1 = name at *
      generalize (cut1 61 r).2.1 = rest at *
      have e0 : bt (c :: r) (Int.toNat 0) = c.toNat := bt_zero c r
      by_cases hn : isNm name = true
      case neg =>
        have hn2 : (!isNm name) = true := by simpa using hn
        have hno : tyOf (c :: r) = none := by rw [hty, if_neg fun h => hn h.1]
        refine b_enter [(0, _)] Tryd.func35 (by kernel_rfl) Tryd.ntmps35 rfl rfl (by repeat (first | exact trivial | refine ⟨rfl, ?_⟩)) fun B hok hB hW => ?_
        repeat' (first | (refine run (t := tb) 400 rfl ?_ ?_; (focus (repeat' (first | exact trivial | apply And.intro | omega | (simp only [List.length_append, List.length_cons, List.length_nil, Int.toNat_natCast]; omega))))) | (refine k_op rfl ?_; first | (refine v_op (g_pickF rfl rfl ?_) rfl rfl ?_; (focus (((rfl)); done))) | (refine c_rt rfl rfl rfl cx_cont rfl ?_) | (refine c_rt rfl rfl rfl cx_cut rfl ?_) | (refine c_rt rfl rfl rfl (c_isName ?_) rfl ?_; (focus (((omega)); done)))) | (refine k_gf rfl rfl ?_ ?_; (focus (((rfl)); done))) | (refine k_tt rfl ?_ ?_; (focus (((assumption)); done))) | (refine k_ff rfl ?_ ?_; (focus (((assumption)); done))))
        all_goals refine k_rr (vs := [_, _]) rfl ⟨rfl, rfl, trivial⟩ rfl (List.nil_sublist _) ⟨Gh.le.refl _, rfl, ?_⟩
        all_goals exact .inl ⟨hno, _, rfl⟩
      have hn2 : (!isNm name) = false := by rw [hn]; rfl
      rw [if_pos ⟨hn, hs⟩] at hty
      by_cases hr : rest = []
      · rw [if_pos hr] at hty
        by_cases h82 : c.toNat = 82
        · rw [if_pos h82] at hty
          have e82 : bt (c :: r) (Int.toNat 0) = 82 := by omega
          refine b_enter [(0, _)] Tryd.func35 (by kernel_rfl) Tryd.ntmps35 rfl rfl (by repeat (first | exact trivial | refine ⟨rfl, ?_⟩)) fun B hok hB hW => ?_
          repeat' (first | (refine run (t := tb) 400 rfl ?_ ?_; (focus (repeat' (first | exact trivial | apply And.intro | omega | (simp only [List.length_append, List.length_cons, List.length_nil, Int.toNat_natCast]; omega))))) | (refine k_op rfl ?_; first | (refine v_op (g_pickF rfl rfl ?_) rfl rfl ?_; (focus (((rfl)); done))) | refine v_op (g_bld rfl rfl) rfl rfl ?_ | refine c_bx rfl rfl rfl fun _ => ?_ | (refine c_rt rfl rfl rfl cx_cont rfl ?_) | (refine c_rt rfl rfl rfl cx_cut rfl ?_) | (refine c_rt rfl rfl rfl (c_isName ?_) rfl ?_; (focus (((omega)); done)))) | (refine k_gf rfl rfl ?_ ?_; (focus (((rfl)); done))) | (refine k_tt rfl ?_ ?_; (focus (((refine decide_eq_true ?_; (assumption))); done))) | (refine k_ff rfl ?_ ?_; (focus (((assumption)); done))) | (refine k_any (s_any (id := 8) _ (fun _ h => h) mixed ?_); refine x_tks (t := tb) (fuel := 3) [0, 1, 2, 3, 6] (bts 8 79) (by kernel_rfl) (by kernel_rfl) rfl rfl (Gh.le.refl _) (by repeat ((exact List.Sublist.refl _))) ?_ ?_; (focus (repeat' ((exact trivial)))); ((refine (x_tkg (bts 8 95) 4 rfl (by kernel_rfl) rfl (Gh.le.refl _) (by repeat ((exact List.Sublist.refl _)))) (g_ld rfl rfl rfl) rfl rfl ?_)); refine x_tks (t := tb) (fuel := 0) [5, 7] (bts 8 255) (by kernel_rfl) (by kernel_rfl) rfl rfl (Gh.le.refl _) (by repeat ((exact List.Sublist.refl _))) ?_ ?_; (focus (repeat' ((exact trivial)))); refine x_done (by kernel_rfl) (k_bk ?_)))
          rename_i x
          refine Nx.sealC (b := x) fun G' hle hseg => ?_
          refine k_rr (vs := [_, _]) rfl ⟨rfl, rfl, trivial⟩ rfl (List.nil_sublist _) ⟨hle, rfl, ?_⟩
          rw [e82] at hseg
          refine .inr ⟨x, ⟨82, name, []⟩, ?_, hty, _, _, hseg, SlV.nil0⟩
          show Tu [Pt x 0, Bo (decide (((bt (c :: r) (Int.toNat 0) : Nat) : Int) = 82))] = _
          rw [e82]; rfl
        · rw [if_neg h82] at hty
          have e82 : ¬ bt (c :: r) (Int.toNat 0) = 82 := by omega
          refine b_enter [(0, _)] Tryd.func35 (by kernel_rfl) Tryd.ntmps35 rfl rfl (by repeat (first | exact trivial | refine ⟨rfl, ?_⟩)) fun B hok hB hW => ?_
          repeat' (first | (refine run (t := tb) 400 rfl ?_ ?_; (focus (repeat' (first | exact trivial | apply And.intro | omega | (simp only [List.length_append, List.length_cons, List.length_nil, Int.toNat_natCast]; omega))))) | (refine k_op rfl ?_; first | (refine v_op (g_pickF rfl rfl ?_) rfl rfl ?_; (focus (((rfl)); done))) | refine v_op (g_bld rfl rfl) rfl rfl ?_ | refine c_bx rfl rfl rfl fun _ => ?_ | (refine c_rt rfl rfl rfl cx_cont rfl ?_) | (refine c_rt rfl rfl rfl cx_cut rfl ?_) | (refine c_rt rfl rfl rfl (c_isName ?_) rfl ?_; (focus (((omega)); done)))) | (refine k_gf rfl rfl ?_ ?_; (focus (((rfl)); done))) | (refine k_tt rfl ?_ ?_; (focus (((refine decide_eq_true ?_; (assumption))); done))) | (refine k_ff rfl ?_ ?_; (focus (((assumption)); done))) | (refine k_any (s_any (id := 8) _ (fun _ h => h) mixed ?_); refine x_tks (t := tb) (fuel := 3) [0, 1, 2, 3, 6] (bts 8 79) (by kernel_rfl) (by kernel_rfl) rfl rfl (Gh.le.refl _) (by repeat ((exact List.Sublist.refl _))) ?_ ?_; (focus (repeat' ((exact trivial)))); ((refine (x_tkg (bts 8 95) 4 rfl (by kernel_rfl) rfl (Gh.le.refl _) (by repeat ((exact List.Sublist.refl _)))) (g_ld rfl rfl rfl) rfl rfl ?_)); refine x_tks (t := tb) (fuel := 0) [5, 7] (bts 8 255) (by kernel_rfl) (by kernel_rfl) rfl rfl (Gh.le.refl _) (by repeat ((exact List.Sublist.refl _))) ?_ ?_; (focus (repeat' ((exact trivial)))); refine x_done (by kernel_rfl) (k_bk ?_)))
          all_goals refine k_rr (vs := [_, _]) rfl ⟨rfl, rfl, trivial⟩ rfl (List.nil_sublist _) ⟨Gh.le.refl _, rfl, ?_⟩
          all_goals exact .inl ⟨hty, _, by rw [oneOf_two, decide_eq_false (show ¬ ((bt (c :: r) (Int.toNat 0) : Nat) : Int) = 82 by omega)]⟩
      · rw [if_neg hr] at hty
        have hall : ∀ y ∈ cut 44 rest, y.length ≤ 1000 := fun y hy => Nat.le_trans (cut_len hy) (by omega)
        have hcnt := cut_count (k := 44) (s := rest)
        have cx_split : FnS Tryd.prog 51 [S rest, S [44]] G (fun v G' => ∃ b o cap, v = .slice (some ⟨b, o, none⟩) (cut 44 rest).length cap ∧ Seg G' b o (rows strF (cut 44 rest))) := c_splitX (c := 44) _ (by omega) rfl rfl rfl cut_pos
        generalize cut 44 rest = xs at *
        refine b_enter [(0, _)] Tryd.func35 (by kernel_rfl) Tryd.ntmps35 rfl rfl (by repeat (first | exact trivial | refine ⟨rfl, ?_⟩)) fun B hok hB hW => ?_
        repeat' (first | (refine run (t := tb) 400 rfl ?_ ?_; (focus (repeat' (first | exact trivial | apply And.intro | omega | (simp only [List.length_append, List.length_cons, List.length_nil, Int.toNat_natCast]; omega))))) | (refine k_op rfl ?_; first | (refine v_op (g_pickF rfl rfl ?_) rfl rfl ?_; (focus (((rfl)); done))) | refine v_op (g_bld rfl rfl) rfl rfl ?_ | refine c_bx rfl rfl rfl fun _ => ?_ | refine v_op (g_lenL rfl) rfl rfl ?_ | (refine c_rt rfl rfl rfl cx_cont rfl ?_) | (refine c_rt rfl rfl rfl cx_cut rfl ?_) | (refine c_rt rfl rfl rfl (c_isName ?_) rfl ?_; (focus (((omega)); done))) | (refine c_fns rfl rfl rfl cx_split rfl ?_; rintro _ G hle ⟨b1, o1, cap1, rfl, hseg⟩; skip)) | (refine k_gf rfl rfl ?_ ?_; (focus (((rfl)); done))) | (refine k_ff rfl ?_ ?_; (focus ((first | assumption | (refine decide_eq_false ?_; (assumption))); done))))
        rename_i x
        have hle0 := hle
        refine Nx.addNil tFi 6 ?_
        refine k_loop (ι := Value × List Fld × Nat × Gh) (fun i => ((i.2.2.1 ≤ xs.length ∧ i.2.1.length ≤ i.2.2.1) ∧ i.2.1.length ≤ 8) ∧ fieldsOf c.toNat (xs.drop i.2.2.1) i.2.1 = fieldsOf c.toNat xs [] ∧ Gh.le G i.2.2.2) (fun i => [(7, Pt x 0), (51, .slice (some ⟨b1, o1, none⟩) xs.length cap1), (52, I xs.length), (53, I i.2.2.1)]) (fun i => i.2.2.2) (fun i => [.acc i.1 tFi 6 i.2.1.length (rows fiF i.2.1), .blk x (.cells [U8 (bt (c :: r) (Int.toNat 0) : Nat), S name, i.1, S (c :: r)].toArray tTi (0, 0))]) (fun i => xs.length - i.2.2.1) (nilS, [], 0, G) ?_ (by repeat (first | exact trivial | refine ⟨rfl, ?_⟩)) rfl (by repeat ((exact List.Sublist.refl _))) (fun i Hi => ?_)
        · exact ⟨⟨⟨Nat.zero_le _, Nat.le_refl _⟩, by simp⟩, rfl, Gh.le.refl _⟩
        obtain ⟨u, fs, i, Gk⟩ := i
        dsimp only at Hi ⊢
        obtain ⟨⟨⟨hi1, hi2⟩, hi8⟩, hi3, hgk⟩ := Hi
        have hsk := hseg.mono hgk
        refine Nx.shp (v := u) (.head _) fun hsh => ?_
        have hsh2 := hsh
        obtain ⟨au, cu, rfl⟩ := hsh.sl
        by_cases hix : i < xs.length
        case neg =>
          have ei : i = xs.length := by omega
          rw [ei, List.drop_length, fieldsOf] at hi3
          have hyes : tyOf (c :: r) = some ⟨c.toNat, name, fs⟩ := by rw [hty, ← hi3]; exact if_pos hi8
          repeat' (first | (refine run (t := tb) 400 rfl ?_ ?_; (focus (repeat' ((exact trivial))))) | (refine k_ff rfl ?_ ?_; (focus (((refine decide_eq_false ?_; (omega))); done))))
          refine Nx.sealS (v := .slice au fs.length cu) fun G1 hle1 hsl => ?_
          refine Nx.sealC (b := x) fun G2 hle2 hsg2 => ?_
          refine k_rr (vs := [_, _]) rfl ⟨rfl, rfl, trivial⟩ rfl (List.nil_sublist _) ⟨((hle.trans hgk).trans hle1).trans hle2, rfl, ?_⟩
          exact .inr ⟨x, ⟨c.toNat, name, fs⟩, rfl, hyes, _, _, hsg2, hsl.mono hle2⟩
        rw [drop_nth hix, fieldsOf] at hi3
        have hx := hall _ (nth_mem hix)
        repeat' (first | (refine run (t := tb) 400 rfl ?_ ?_; (focus (repeat' ((exact trivial))))) | (refine k_op rfl ?_; first | (refine v_op (g_pickT rfl rfl ?_) rfl rfl ?_; (focus (((rfl)); done))) | (refine v_op (g_pickF rfl rfl ?_) rfl rfl ?_; (focus (((rfl)); done))) | refine v_op (g_ld rfl rfl rfl) rfl rfl ?_ | (refine v_op (g_ldRS rfl rfl (by assumption) ?_) rfl rfl ?_; (focus (((omega)); done))) | refine v_op (g_lenL rfl) rfl rfl ?_ | (refine v_op (g_iaddrN rfl rfl ?_) rfl rfl ?_; (focus ((omega); done))) | refine c_al rfl rfl fun _ => ?_ | refine c_stA rfl rfl rfl rfl rfl rfl ?_ | (refine c_fns rfl rfl rfl (c_readField (by omega)) rfl ?_; rintro _ G hle ⟨f, ok, rfl, hfld⟩; skip)) | refine k_gb rfl rfl (fun _ => ?_) (fun _ => ?_) | (refine k_tt rfl ?_ ?_; (focus ((first | rfl | (refine decide_eq_true ?_; (omega))); done))) | refine k_if rfl (fun _ => ?_) (fun _ => ?_))
        all_goals first
          | (rename_i z hq h8
             have hq2 : ok = true := by simpa using hq
             subst hq2
             have hf1 : fldOf (nth xs i) c.toNat = some f := hfld
             rw [hf1] at hi3
             dsimp only at hi3
             have h9 : fs.length = 8 := by omega
             have hno : tyOf (c :: r) = none := by
               rw [hty]
               cases hgs : fieldsOf c.toNat xs [] with
               | none => rfl
               | some gs =>
                 rw [hgs] at hi3
                 split at hi3
                 · have := fieldsOf_len hi3
                   simp at this
                   exact if_neg (by omega)
                 · cases hi3
             refine k_rr (vs := [_, _]) rfl ⟨rfl, rfl, trivial⟩ rfl (List.nil_sublist _) ⟨(hle0.trans hgk).trans hle, rfl, ?_⟩
             exact .inl ⟨hno, _, rfl⟩)
          | (rename_i z hq
             have hq2 : ok = false := by simpa using hq
             subst hq2
             have hf0 : fldOf (nth xs i) c.toNat = none := hfld
             have hno : tyOf (c :: r) = none := by rw [hf0] at hi3; rw [hty, ← hi3]
             refine k_rr (vs := [_, _]) rfl ⟨rfl, rfl, trivial⟩ rfl (List.nil_sublist _) ⟨(hle0.trans hgk).trans hle, rfl, ?_⟩
             exact .inl ⟨hno, _, rfl⟩)
          | (rename_i z hq h8
             have hq2 : ok = true := by simpa using hq
             subst hq2
             have hf1 : fldOf (nth xs i) c.toNat = some f := hfld
             rw [hf1] at hi3
             dsimp only at hi3
             have h9 : fs.length ≠ 8 := by omega
             refine k_loop (ι := Nat) (fun k => k ≤ fs.length ∧ ∀ m, m < k → (nth fs m).tag < f.tag ∧ (nth fs m).name ≠ f.name) (fun k => [(7, Pt x 0), (10, Pt z 0), (51, .slice (some ⟨b1, o1, none⟩) xs.length cap1), (52, I xs.length), (53, I i), (79, .slice au fs.length cu), (80, I fs.length), (81, I k)]) (fun _ => G) (fun k => [.blk z (.cells (fiF f).toArray tFi (0, 0)), .acc (.slice au fs.length cu) tFi 6 fs.length (rows fiF fs), .blk x (.cells [U8 (bt (c :: r) (Int.toNat 0) : Nat), S name, .slice au fs.length cu, S (c :: r)].toArray tTi (0, 0))]) (fun k => fs.length - k) 0 ?_ (by repeat (first | exact trivial | refine ⟨rfl, ?_⟩)) rfl (by repeat ((exact List.Sublist.refl _))) (fun k Hk => ?_)
             · exact ⟨Nat.zero_le _, fun m hm => absurd hm (by omega)⟩
             by_cases hk : k < fs.length
             · obtain ⟨bu, cu2, eu⟩ := hsh2.pos (by omega)
               simp only [Value.slice.injEq] at eu
               obtain ⟨rfl, -, rfl⟩ := eu
               by_cases hbad : (nth fs k).tag < f.tag ∧ (nth fs k).name ≠ f.name
               · obtain ⟨hb1, hb2⟩ := hbad
                 repeat' (first | (refine run (t := tb) 400 rfl ?_ ?_; (focus (repeat' (first | exact trivial | apply And.intro | omega)))) | (refine k_op rfl ?_; first | (refine v_op (g_pickF rfl rfl ?_) rfl rfl ?_; (focus (((rfl)); done))) | refine v_op (g_ld rfl rfl rfl) rfl rfl ?_ | (refine v_op (g_ldBR rfl rfl rfl ?_) rfl rfl ?_; (focus (((omega)); done))) | (refine v_op (g_iaddrN rfl rfl ?_) rfl rfl ?_; (focus ((omega); done))) | refine c_al rfl rfl fun _ => ?_ | refine c_stA rfl rfl rfl rfl rfl rfl ?_) | (refine k_gf rfl rfl ?_ ?_; (focus (((refine decide_eq_false ?_; (assumption))); done))) | (refine k_tt rfl ?_ ?_; (focus (((refine decide_eq_true ?_; (omega))); done))) | (refine k_ff rfl ?_ ?_; (focus (((refine decide_eq_false ?_; (omega))); done))))
                 refine k_rd (k + 1) ⟨by omega, fun m hm => ?_⟩ (by omega) (by repeat (first | exact trivial | refine ⟨rfl, ?_⟩)) rfl (by repeat (first | exact List.Sublist.refl _ | apply List.Sublist.cons))
                 rcases Nat.lt_or_ge m k with h3 | h3
                 · exact Hk.2 m h3
                 · have : m = k := by omega
                   subst this; exact ⟨hb1, hb2⟩
               · have hfr : fresh f fs = false := by
                   unfold fresh
                   rw [List.all_eq_false]
                   exact ⟨nth fs k, nth_mem hk, by simpa using hbad⟩
                 have hno : tyOf (c :: r) = none := by
                   rw [hfr, if_neg (by simp)] at hi3
                   rw [hty, ← hi3]
                 by_cases hnm : (nth fs k).name = f.name
                 case' neg => have htag : f.tag ≤ (nth fs k).tag := by
                               rcases Int.lt_or_le (nth fs k).tag f.tag with h6 | h6
                               · exact absurd ⟨h6, hnm⟩ hbad
                               · exact h6
                 all_goals repeat' (first | (refine run (t := tb) 400 rfl ?_ ?_; (focus (repeat' ((exact trivial))))) | (refine k_op rfl ?_; first | (refine v_op (g_pickT rfl rfl ?_) rfl rfl ?_; (focus (((rfl)); done))) | (refine v_op (g_pickF rfl rfl ?_) rfl rfl ?_; (focus (((rfl)); done))) | refine v_op (g_ld rfl rfl rfl) rfl rfl ?_ | (refine v_op (g_ldBR rfl rfl rfl ?_) rfl rfl ?_; (focus (((omega)); done))) | (refine v_op (g_iaddrN rfl rfl ?_) rfl rfl ?_; (focus ((omega); done))) | refine c_al rfl rfl fun _ => ?_ | refine c_stA rfl rfl rfl rfl rfl rfl ?_) | (refine k_gt rfl rfl ?_ ?_; (focus (((refine decide_eq_true ?_; (assumption))); done))) | (refine k_gf rfl rfl ?_ ?_; (focus (((refine decide_eq_false ?_; (assumption))); done))) | (refine k_tt rfl ?_ ?_; (focus ((first | rfl | (refine decide_eq_true ?_; first | assumption | omega)); done))))
                 all_goals refine k_rr (vs := [_, _]) rfl ⟨rfl, rfl, trivial⟩ rfl (List.nil_sublist _) ⟨(hle0.trans hgk).trans hle, rfl, ?_⟩
                 all_goals exact .inl ⟨hno, _, rfl⟩
             · have hfr : fresh f fs = true := by
                 unfold fresh
                 rw [List.all_eq_true]
                 intro g hg
                 obtain ⟨m, hm, rfl⟩ := mem_nth hg
                 simpa using Hk.2 m (by omega)
               rw [hfr, if_pos rfl] at hi3
               have hxl : xs.length ≤ 1001 := by omega
               
               repeat' (first | (refine run (t := tb) 400 rfl ?_ ?_; (focus (repeat' ((exact trivial))))) | (refine k_ff rfl ?_ ?_; (focus (((refine decide_eq_false ?_; (omega))); done))))
               (refine k_any (s_any (id := 21) [.blk z (.cells (fiF f).toArray tFi (0, 0))] (by intro y hy; simp only [List.mem_cons, List.not_mem_nil, or_false] at hy ⊢; simp [hy]) mixed ?_); refine x_tks (t := tb) (fuel := 7) [0, 1, 2, 3] (bts 11 15) (by kernel_rfl) (by kernel_rfl) rfl rfl (Gh.le.refl _) (by repeat (first | exact List.nil_sublist _ | apply List.Sublist.cons_cons)) ?_ ?_; (focus (repeat' ((exact trivial)))); ((refine (x_tkg (bts 11 47) 5 rfl (by kernel_rfl) rfl (Gh.le.refl _) (by repeat (first | exact List.nil_sublist _ | apply List.Sublist.cons_cons))) (g_ldA rfl rfl rfl rfl) rfl rfl ?_)); refine x_all [4, 6] (by kernel_rfl) (by decide) ⟨?_, ?_, trivial⟩; (focus (refine x_opg rfl rfl ?_; ((refine v_op (g_ld rfl rfl rfl) rfl rfl ?_)); refine x_kk (by (exact Gh.le.refl _)) (by repeat (first | exact List.nil_sublist _ | apply List.Sublist.cons_cons)) (listed' := (bts 11 63)) (by kernel_rfl) ?_; refine x_all [6] (by kernel_rfl) (by decide) ⟨?_, trivial⟩; refine x_opg rfl rfl ?_; ((refine c_bsl rfl rfl rfl rfl rfl rfl fun _ => ?_)); refine x_kk (by (exact Gh.le.refl _)) (by repeat (first | exact List.nil_sublist _ | apply List.Sublist.cons_cons | apply List.Sublist.cons)) (listed' := (bts 11 127)) (by kernel_rfl) ?_; refine x_all [7] (by kernel_rfl) (by decide) ⟨?_, trivial⟩; refine x_opg rfl rfl ?_; ((refine c_apX rfl rfl rfl rfl rfl rfl rfl rfl rfl ?_ fun _ _ => ?_; (focus ((omega); done)))); refine x_kk (by (exact Gh.le.refl _)) (by repeat (first | exact List.nil_sublist _ | apply List.Sublist.cons_cons | apply List.Sublist.cons)) (listed' := (bts 11 255)) (by kernel_rfl) ?_; refine x_tks (t := tb) (fuel := 1) [8, 9] (bts 11 1023) (by kernel_rfl) (by kernel_rfl) rfl rfl (Gh.le.refl _) (by repeat (first | exact List.nil_sublist _ | apply List.Sublist.cons_cons | apply List.Sublist.cons)) ?_ ?_; (focus (repeat' ((exact trivial)))); refine x_all [10] (by kernel_rfl) (by decide) ⟨?_, trivial⟩; refine x_opg rfl rfl ?_; ((refine c_st1 rfl rfl rfl rfl ?_)); refine x_kk (by (exact Gh.le.refl _)) (by repeat (first | exact List.nil_sublist _ | apply List.Sublist.cons_cons | apply List.Sublist.cons)) (listed' := (bts 11 2047)) (by kernel_rfl) ?_; refine x_done (by kernel_rfl) (k_bk ?_))); rotate_left 1; (focus (refine x_opg rfl rfl ?_; ((refine c_bsl rfl rfl rfl rfl rfl rfl fun _ => ?_)); refine x_kk (by (exact Gh.le.refl _)) (by repeat (first | exact List.nil_sublist _ | apply List.Sublist.cons_cons | apply List.Sublist.cons)) (listed' := (bts 11 111)) (by kernel_rfl) ?_; refine x_all [4] (by kernel_rfl) (by decide) ⟨?_, trivial⟩; refine x_opg rfl rfl ?_; ((refine v_op (g_ld rfl rfl rfl) rfl rfl ?_)); refine x_kk (by (exact Gh.le.refl _)) (by repeat (first | exact List.nil_sublist _ | apply List.Sublist.cons_cons | apply List.Sublist.cons)) (listed' := (bts 11 127)) (by kernel_rfl) ?_; refine x_all [7] (by kernel_rfl) (by decide) ⟨?_, trivial⟩; refine x_opg rfl rfl ?_; ((refine c_apX rfl rfl rfl rfl rfl rfl rfl rfl rfl ?_ fun _ _ => ?_; (focus ((omega); done)))); refine x_kk (by (exact Gh.le.refl _)) (by repeat (first | exact List.nil_sublist _ | apply List.Sublist.cons_cons | apply List.Sublist.cons)) (listed' := (bts 11 255)) (by kernel_rfl) ?_; refine x_tks (t := tb) (fuel := 1) [8, 9] (bts 11 1023) (by kernel_rfl) (by kernel_rfl) rfl rfl (Gh.le.refl _) (by repeat (first | exact List.nil_sublist _ | apply List.Sublist.cons_cons | apply List.Sublist.cons)) ?_ ?_; (focus (repeat' ((exact trivial)))); refine x_all [10] (by kernel_rfl) (by decide) ⟨?_, trivial⟩; refine x_opg rfl rfl ?_; ((refine c_st1 rfl rfl rfl rfl ?_)); refine x_kk (by (exact Gh.le.refl _)) (by repeat (first | exact List.nil_sublist _ | apply List.Sublist.cons_cons | apply List.Sublist.cons)) (listed' := (bts 11 2047)) (by kernel_rfl) ?_; refine x_done (by kernel_rfl) (k_bk ?_))); rotate_left 1)
               
               all_goals rename_i w b2 c2
               all_goals repeat' ((refine run (t := tb) 400 rfl ?_ ?_; (focus (repeat' (first | exact trivial | apply And.intro | omega)))))
               all_goals refine k_rd (.slice (some ⟨b2, 0, none⟩) (fs.length + 1) c2, fs ++ [f], i + 1, G) ⟨⟨⟨by dsimp only; omega, by simp; omega⟩, by simp; omega⟩, hi3, hgk.trans hle⟩ (by dsimp only; omega) (by repeat (first | exact trivial | refine ⟨rfl, ?_⟩)) rfl (by dsimp only; simp only [rows_snoc, List.length_append, List.length_cons, List.length_nil, Nat.zero_add]; repeat (first | exact List.Sublist.refl _ | apply List.Sublist.cons_cons | apply List.Sublist.cons)))
end Go.E
/-! Mc -/
namespace Go.E
set_option maxRecDepth 20000
set_option maxHeartbeats 2000000
open Go.Proofs
variable {G : Gh}
/-- A type with where its fields lie. -/
abbrev TyX := (Option Addr × Nat) × Ty
def slX (x : TyX) : Value := .slice x.1.1 x.2.fields.length x.1.2
def tyF (x : TyX) : List Value := [U8 x.2.sort, S x.2.name, slX x]
instance : RowF tyF 3 := ⟨fun _ => rfl⟩
def zT : TyX := ((none, 0), ⟨0, [], []⟩)
theorem SlV.sl {G : Gh} {v : Value} {sz m : Nat} {xs : List Value} (h : SlV G v sz m xs) : ∃ a cap, v = .slice a m cap := by
  obtain ⟨_, ⟨rfl, rfl⟩ | ⟨b, o, cap, rfl, _⟩⟩ := h
  · exact ⟨none, 0, rfl⟩
  · exact ⟨_, cap, rfl⟩
/-- The reference's schema, laid down. -/
structure SchR (G : Gh) (u : Value) (vs : List TyX) : Prop where
  sl : SlV G u 3 vs.length (rows tyF vs)
  fl : ∀ x ∈ vs, SlV G (slX x) 4 x.2.fields.length (rows fldF x.2.fields)
theorem SchR.mono {G G' : Gh} {u : Value} {vs : List TyX} (h : SchR G u vs) (hl : Gh.le G G') : SchR G' u vs := ⟨h.sl.mono hl, fun x hx => (h.fl x hx).mono hl⟩
def tys (vs : List TyX) : List Ty := vs.map (·.2)
def findV (vs : List TyX) (n : List UInt8) : Option TyX := vs.find? fun x => decide (x.2.name = n)
def refV (vs : List TyX) (k : List UInt8) : Option TyX := (refN k).bind (findV vs)
theorem findV_ty (vs : List TyX) (n : List UInt8) : (findV vs n).map (·.2) = findT (tys vs) n := by
  unfold findV findT tys
  induction vs with
  | nil => rfl
  | cons x vs ih =>
    simp only [List.map_cons, List.find?_cons]
    split <;> simp_all
theorem findV_mem {vs : List TyX} {n : List UInt8} {x : TyX} (h : findV vs n = some x) : x ∈ vs ∧ x.2.name = n := by
  unfold findV at h
  exact ⟨List.mem_of_find?_eq_some h, by simpa using List.find?_some h⟩
theorem findV_at {vs : List TyX} {n : List UInt8} {i : Nat} (hi : i < vs.length) (h : ∀ k, k < i → (nth vs k).2.name ≠ n) (h2 : (nth vs i).2.name = n) : findV vs n = some (nth vs i) := by
  unfold findV
  rw [List.find?_eq_some_iff_getElem]
  rw [nth_eq hi] at h2 ⊢
  refine ⟨by simpa using h2, i, hi, rfl, fun j hj => ?_⟩
  have := h j hj
  rw [nth_eq (by omega)] at this
  simpa using this
theorem findV_none {vs : List TyX} {n : List UInt8} (h : ∀ k, k < vs.length → (nth vs k).2.name ≠ n) : findV vs n = none := by
  unfold findV
  rw [List.find?_eq_none]
  intro x hx
  obtain ⟨i, hi, rfl⟩ := List.mem_iff_getElem.1 hx
  have := h i hi
  rw [nth_eq hi] at this
  simpa using this
theorem c_find {u : Value} {vs : List TyX} {n : List UInt8} (h : SchR G u vs) (hn : vs.length ≤ 1000000) : PuG Tryd.prog 23 [u, S n] G (· = Tu [Ag (tyF ((findV vs n).getD zT)), Bo (findV vs n).isSome]) := by
  have hsl := h.sl
  refine p_enter [(0, _), (1, _)] Tryd.func23 (by kernel_rfl) Tryd.ntmps23 rfl rfl (by repeat (first | exact trivial | refine ⟨rfl, ?_⟩)) fun B hB => ?_
  repeat' (first | (refine run (t := tb) 400 rfl ?_ ?_; (focus (repeat' ((exact trivial))))) | (refine k_op rfl ?_; (refine c_al rfl rfl fun _ => ?_)))
  rename_i x
  refine k_loop (ι := Nat) (fun i => i ≤ vs.length ∧ ∀ k, k < i → (nth vs k).2.name ≠ n) (fun i => [(0, u), (1, S n), (4, Pt x 0), (6, I i)]) (fun _ => G) (fun i => [.blk x (.cells [U8 0, S [], nilS].toArray tTy (0, 0))]) (fun i => vs.length - i) 0 ?_ (by repeat (first | exact trivial | refine ⟨rfl, ?_⟩)) rfl (by repeat ((exact List.Sublist.refl _))) (fun i Hi => ?_)
  · exact ⟨by omega, fun k hk => absurd hk (by omega)⟩
  by_cases hi : i < vs.length
  · obtain ⟨b, o, cap, rfl, hs⟩ := hsl.expl (by omega)
    repeat' (first | (refine run (t := tb) 400 rfl ?_ ?_; (focus (repeat' (first | exact trivial | apply And.intro | omega)))) | (refine k_op rfl ?_; first | refine v_op (g_lenL rfl) rfl rfl ?_ | (refine v_op (g_iaddrN rfl rfl ?_) rfl rfl ?_; (focus ((omega); done))) | (refine v_op (g_ldR rfl rfl (by assumption) ?_) rfl rfl ?_; (focus (((omega)); done))) | (refine v_op (g_ldRF rfl rfl (by assumption) ?_ rfl rfl) rfl rfl ?_; (focus (((omega)); done))) | refine c_stA rfl rfl rfl rfl rfl rfl ?_) | (refine k_tt rfl ?_ ?_; (focus (((refine decide_eq_true ?_; (omega))); done))) | refine k_if rfl (fun _ => ?_) (fun _ => ?_))
    · rename_i he
      refine k_rr (vs := [_, _]) rfl ⟨rc_A rfl rfl rfl rfl, rfl, trivial⟩ rfl (List.nil_sublist _) ⟨rfl, rfl, ?_⟩
      rw [findV_at hi Hi.2 he]; rfl
    · rename_i he
      refine k_rd (i + 1) ⟨by omega, fun k hk => ?_⟩ (by omega) (by repeat (first | exact trivial | refine ⟨rfl, ?_⟩)) rfl (by repeat ((exact List.Sublist.refl _)))
      rcases Nat.lt_or_ge k i with h3 | h3
      · exact Hi.2 k h3
      · have : k = i := by omega
        subst this; exact he
  · repeat' (first | (refine run (t := tb) 400 rfl ?_ ?_; (focus (repeat' ((exact trivial))))) | (refine k_op rfl ?_; first | refine v_op (g_lenV rfl (by assumption)) rfl rfl ?_ | refine c_stA rfl rfl rfl rfl rfl rfl ?_ | refine v_op (g_bld rfl rfl) rfl rfl ?_) | (refine k_ff rfl ?_ ?_; (focus (((refine decide_eq_false ?_; (omega))); done))))
    refine k_rr (vs := [_, _]) rfl ⟨rc_A rfl rfl rfl rfl, rfl, trivial⟩ rfl (List.nil_sublist _) ⟨rfl, rfl, ?_⟩
    rw [findV_none fun k hk => Hi.2 k (by omega)]; rfl
theorem c_l2RefK {s : List UInt8} (h : kOk s = true) (hl : s.length ≤ 1000000) : PuG Tryd.prog 21 [S s] G (· = Tu [S ((refN s).getD []), Bo (refN s).isSome]) := by
  match s, h with
  | c :: r, h =>
    by_cases hr : r = []
    · have hc : ¬ c.toNat = 64 := by
        intro hc
        subst hr
        rw [kOk, if_neg (by omega), if_pos hc] at h
        simp [bt_zero, hc] at h
      have e0 := bt_c0 c r
      have hq : refN (c :: r) = none := by simp [refN, hc]
      rw [hq]
      refine p_enter [(0, _)] Tryd.func21 (by kernel_rfl) Tryd.ntmps21 rfl rfl (by repeat (first | exact trivial | refine ⟨rfl, ?_⟩)) fun B hB => ?_
      repeat' (first | (refine run (t := tb) 400 rfl ?_ ?_; (focus (repeat' (first | exact trivial | apply And.intro | omega | (simp only [List.length_append, List.length_cons, List.length_nil, Int.toNat_natCast]; omega))))) | (refine k_tt rfl ?_ ?_; (focus (((simp; omega)); done))))
      all_goals refine k_rr (vs := [_, _]) rfl ⟨rfl, rfl, trivial⟩ rfl (List.nil_sublist _) ⟨rfl, rfl, ?_⟩
      all_goals rfl
    · have := c_l2Ref (G := G) (c := c) hr (by simp at hl; omega)
      refine this.mono ?_
      rintro v G' L' ⟨h1, h2, h3⟩
      refine ⟨h1, h2, h3.trans ?_⟩
      by_cases hc : c.toNat = 64 <;> simp [refN, hc]
theorem c_ref {u : Value} {vs : List TyX} {k : List UInt8} (h : SchR G u vs) (hn : vs.length ≤ 1000000) (hk : kOk k = true) (hl : k.length ≤ 1000000) : PuG Tryd.prog 61 [u, S k] G (· = Tu [Ag (tyF ((refV vs k).getD zT)), Bo (refV vs k).isSome]) := by
  rcases hr : refN k with _ | n
  · have e : refV vs k = none := by simp [refV, hr]
    rw [e]
    have cx_ref : PuG Tryd.prog 21 [S k] G (· = Tu [S [], Bo false]) := by have := c_l2RefK (G := G) hk hl; rwa [hr] at this
    refine p_enter [(0, _), (1, _)] Tryd.func61 (by kernel_rfl) Tryd.ntmps61 rfl rfl (by repeat (first | exact trivial | refine ⟨rfl, ?_⟩)) fun B hB => ?_
    repeat' (first | (refine run (t := tb) 400 rfl ?_ ?_; (focus (repeat' ((exact trivial))))) | (refine k_op rfl ?_; first | refine c_al rfl rfl fun _ => ?_ | refine v_op (g_bld rfl rfl) rfl rfl ?_ | refine c_stA rfl rfl rfl rfl rfl rfl ?_ | (refine c_rt rfl rfl rfl cx_ref rfl ?_)) | (refine k_tt rfl ?_ ?_; (focus (((rfl)); done))))
    all_goals refine k_rr (vs := [_, _]) rfl ⟨rc_A rfl rfl rfl rfl, rfl, trivial⟩ rfl (List.nil_sublist _) ⟨rfl, rfl, ?_⟩
    all_goals rfl
  · have e : refV vs k = findV vs n := by simp [refV, hr]
    rw [e]
    have cx_ref : PuG Tryd.prog 21 [S k] G (· = Tu [S n, Bo true]) := by have := c_l2RefK (G := G) hk hl; rwa [hr] at this
    refine p_enter [(0, _), (1, _)] Tryd.func61 (by kernel_rfl) Tryd.ntmps61 rfl rfl (by repeat (first | exact trivial | refine ⟨rfl, ?_⟩)) fun B hB => ?_
    repeat' (first | (refine run (t := tb) 400 rfl ?_ ?_; (focus (repeat' ((exact trivial))))) | (refine k_op rfl ?_; first | refine c_al rfl rfl fun _ => ?_ | refine c_stA rfl rfl rfl rfl rfl rfl ?_ | (refine c_rt rfl rfl rfl cx_ref rfl ?_) | (refine c_rt rfl rfl rfl (c_find (by (repeat ((assumption))); done) (by omega)) rfl ?_)) | (refine k_ff rfl ?_ ?_; (focus (((rfl)); done))))
    all_goals refine k_rr (vs := [_, _]) rfl ⟨rc_A rfl rfl rfl rfl, rfl, trivial⟩ rfl (List.nil_sublist _) ⟨rfl, rfl, ?_⟩
    all_goals rfl
end Go.E
/-! Md -/
namespace Go.E
set_option maxRecDepth 20000
set_option maxHeartbeats 2000000
open Go.Proofs
variable {G : Gh}
theorem refV_ty (vs : List TyX) (k : List UInt8) : (refV vs k).map (·.2) = refT (tys vs) k := by
  unfold refV refT
  cases refN k with
  | none => rfl
  | some n => simp only [Option.bind_some]; exact findV_ty vs n
theorem refV_mem {vs : List TyX} {k : List UInt8} {x : TyX} (h : refV vs k = some x) : x ∈ vs := by
  unfold refV at h
  cases hr : refN k with
  | none => rw [hr] at h; cases h
  | some n => rw [hr] at h; exact (findV_mem h).1
theorem kindOk_kOk {s : List UInt8} (h : kindOk s = true) : kOk s = true ∧ s.length ≤ 12 := by
  unfold kindOk at h; simp only [Bool.and_eq_true, decide_eq_true_eq] at h; exact ⟨h.2, h.1⟩
theorem c_ends {u : Value} {vs : List TyX} {x0 : TyX} (h : SchR G u vs) (hn : vs.length ≤ 1000) (hw : ∀ x ∈ vs, TyW x.2) (hx : x0 ∈ vs) :
    PuG Tryd.prog 48 [u, Ag (tyF x0)] G (· = Bo (endsN (tys vs) (vs.length + 1) x0.2)) := by
  have hsl := h.sl
  refine p_enter [(0, _), (1, _)] Tryd.func48 (by kernel_rfl) Tryd.ntmps48 rfl rfl (by repeat (first | exact trivial | refine ⟨rfl, ?_⟩)) fun B hB => ?_
  repeat' (first | (refine run (t := tb) 400 rfl ?_ ?_; (focus (repeat' ((exact trivial))))) | (refine k_op rfl ?_; (refine c_bx rfl rfl rfl fun _ => ?_)))
  rename_i b0
  refine k_loop (ι := TyX × Nat) (fun i => i.1 ∈ vs ∧ i.2 ≤ vs.length + 1 ∧ endsN (tys vs) (vs.length + 1 - i.2) i.1.2 = endsN (tys vs) (vs.length + 1) x0.2) (fun i => [(0, u), (3, Pt b0 0), (5, I i.2)]) (fun _ => G) (fun i => [.blk b0 (.cells (tyF i.1).toArray tTy (0, 0))]) (fun i => vs.length + 1 - i.2) (x0, 0) ?_ (by repeat (first | exact trivial | refine ⟨rfl, ?_⟩)) rfl (by repeat ((exact List.Sublist.refl _))) (fun i Hi => ?_)
  · exact ⟨hx, Nat.zero_le _, rfl⟩
  obtain ⟨⟨⟨a, ca⟩, t⟩, n⟩ := i
  dsimp only at Hi ⊢
  obtain ⟨hxm, hnl, he⟩ := Hi
  have hW := hw _ hxm
  dsimp only at hW
  by_cases hlt : n ≤ vs.length
  case neg =>
    have e0 : vs.length + 1 - n = 0 := by omega
    rw [e0] at he
    repeat' (first | (refine run (t := tb) 400 rfl ?_ ?_; (focus (repeat' ((exact trivial))))) | (refine k_op rfl ?_; (refine v_op (g_lenV rfl (by assumption)) rfl rfl ?_)) | (refine k_ff rfl ?_ ?_; (focus (((refine decide_eq_false ?_; (omega))); done))))
    refine k_rr (vs := [_]) rfl ⟨rfl, trivial⟩ rfl (List.nil_sublist _) ⟨rfl, rfl, ?_⟩
    rw [← he]; rfl
  obtain ⟨m, hm⟩ : ∃ m, vs.length + 1 - n = m + 1 := ⟨vs.length - n, by omega⟩
  rw [hm, endsN] at he
  by_cases hU : t.sort = 85
  case neg =>
    rw [if_pos hU] at he
    repeat' (first | (refine run (t := tb) 400 rfl ?_ ?_; (focus (repeat' ((exact trivial))))) | (refine k_op rfl ?_; first | refine v_op (g_lenV rfl (by assumption)) rfl rfl ?_ | refine v_op (g_ld rfl rfl rfl) rfl rfl ?_) | (refine k_tt rfl ?_ ?_; (focus ((first | (refine decide_eq_true ?_; (omega)) | (simp; omega)); done))))
    refine k_rr (vs := [_]) rfl ⟨rfl, trivial⟩ rfl (List.nil_sublist _) ⟨rfl, rfl, ?_⟩
    rw [← he]; rfl
  rw [if_neg (by simp [hU])] at he
  have hne := hW.ne (by omega)
  have h0 : 0 < t.fields.length := List.length_pos_iff.2 hne
  obtain ⟨bf, of, cf, ef, hsf⟩ := (h.fl _ hxm).expl h0
  simp only [slX, Value.slice.injEq] at ef
  obtain ⟨rfl, -, rfl⟩ := ef
  dsimp only at hsf
  have hk0 : kind0 t = (nth t.fields 0).kind := by
    unfold kind0 nth
    cases t.fields with
    | nil => rfl
    | cons f r => rfl
  have hkk := kindOk_kOk ((hW.fld _ (nth_mem h0)).kind (by omega))
  rw [hk0] at he
  have href := refV_ty vs (nth t.fields 0).kind
  have cx_rf := c_ref (k := (nth t.fields 0).kind) h (by omega) hkk.1 (by omega)
  rcases hr : refV vs (nth t.fields 0).kind with _ | ⟨⟨a2, c2⟩, t2⟩
  · rw [hr] at href cx_rf
    rw [← href] at he
    repeat' (first | (refine run (t := tb) 400 rfl ?_ ?_; (focus (repeat' ((exact trivial))))) | (refine k_op rfl ?_; first | refine v_op (g_lenV rfl (by assumption)) rfl rfl ?_ | refine v_op (g_ld rfl rfl rfl) rfl rfl ?_ | (refine v_op (g_ldRF rfl rfl (by assumption) ?_ rfl rfl) rfl rfl ?_; (focus (((omega)); done))) | (refine v_op (g_iaddrN rfl rfl ?_) rfl rfl ?_; (focus ((omega); done))) | refine c_al rfl rfl fun _ => ?_ | refine c_stA rfl rfl rfl rfl rfl rfl ?_ | (refine c_rt rfl rfl rfl cx_rf rfl ?_)) | (refine k_tt rfl ?_ ?_; (focus ((first | rfl | (refine decide_eq_true ?_; (omega))); done))) | (refine k_ff rfl ?_ ?_; (focus (((simp [*]; done)); done))))
    all_goals refine k_rr (vs := [_]) rfl ⟨rfl, trivial⟩ rfl (List.nil_sublist _) ⟨rfl, rfl, ?_⟩
    all_goals (rw [← he]; rfl)
  · rw [hr] at href cx_rf
    rw [← href] at he
    repeat' (first | (refine run (t := tb) 400 rfl ?_ ?_; (focus (repeat' (first | exact trivial | apply And.intro | omega)))) | (refine k_op rfl ?_; first | refine v_op (g_lenV rfl (by assumption)) rfl rfl ?_ | refine v_op (g_ld rfl rfl rfl) rfl rfl ?_ | (refine v_op (g_ldRF rfl rfl (by assumption) ?_ rfl rfl) rfl rfl ?_; (focus (((omega)); done))) | refine v_op (g_ldA rfl rfl rfl rfl) rfl rfl ?_ | (refine v_op (g_iaddrN rfl rfl ?_) rfl rfl ?_; (focus ((omega); done))) | refine c_al rfl rfl fun _ => ?_ | refine c_stA rfl rfl rfl rfl rfl rfl ?_ | (refine c_rt rfl rfl rfl cx_rf rfl ?_)) | (refine k_tt rfl ?_ ?_; (focus (((refine decide_eq_true ?_; (omega))); done))) | (refine k_ff rfl ?_ ?_; (focus ((first | rfl | (simp [*]; done)); done))))
    refine k_rd (((a2, c2), t2), n + 1) ⟨refV_mem hr, by dsimp only; omega, ?_⟩ (by dsimp only; omega) (by repeat (first | exact trivial | refine ⟨rfl, ?_⟩)) rfl (by repeat (first | exact List.Sublist.refl _ | apply List.Sublist.cons))
    dsimp only
    rw [show vs.length + 1 - (n + 1) = m by omega]
    exact he
theorem tys_len (vs : List TyX) : (tys vs).length = vs.length := by simp [tys]
theorem nth_tys {vs : List TyX} {i : Nat} (h : i < vs.length) : nth (tys vs) i = (nth vs i).2 := by
  rw [nth_eq h, nth_eq (by rw [tys_len]; exact h)]; simp [tys]
theorem hasK_find {vs : List TyX} {k : List UInt8} : hasK (tys vs) k = (!(refN (core k)).isSome || (findV vs ((refN (core k)).getD [])).isSome) := by
  unfold hasK
  cases refN (core k) with
  | none => rfl
  | some n =>
    show (findT (tys vs) n).isSome = _
    rw [← findV_ty]; simp
theorem core_kOk {k : List UInt8} (h : kOk k = true) : kOk (core k) = true := by
  induction k with
  | nil => cases h
  | cons c r ih =>
    unfold core
    split
    · rename_i hc; rw [kOk, if_pos hc] at h; exact ih h
    · exact h
theorem core_len' : ∀ s : List UInt8, (core s).length ≤ s.length
  | [] => Nat.le_refl _
  | c :: r => by
    unfold core
    split
    · have := core_len' r; simp; omega
    · exact Nat.le_refl _
theorem c_valid {u : Value} {vs : List TyX} (h : SchR G u vs) (hn : vs.length ≤ 1000) (hw : ∀ x ∈ vs, TyW x.2) :
    PuG Tryd.prog 33 [u] G (· = Bo (decide (ValidT (tys vs)))) := by
  have hsl := h.sl
  have hlen := tys_len vs
  refine p_enter [(0, _)] Tryd.func33 (by kernel_rfl) Tryd.ntmps33 rfl rfl (by repeat (first | exact trivial | refine ⟨rfl, ?_⟩)) fun B hB => ?_
  repeat' ((refine run (t := tb) 400 rfl ?_ ?_; (focus (repeat' ((exact trivial))))))
  refine k_loop (ι := Nat) (fun i => i ≤ vs.length ∧ ∀ j, j < i → NamesAt (tys vs) j ∧ KindsOk (tys vs) (nth (tys vs) j)) (fun i => [(0, u), (3, I i)]) (fun _ => G) (fun i => []) (fun i => vs.length - i) 0 ?_ (by repeat (first | exact trivial | refine ⟨rfl, ?_⟩)) rfl (by repeat ((exact List.Sublist.refl _))) (fun i Hi => ?_)
  · exact ⟨Nat.zero_le _, fun j hj => absurd hj (by omega)⟩
  by_cases hi : i < vs.length
  case neg =>
    have ei : i = vs.length := by omega
    subst ei
    have Hall := Hi.2
    repeat' (first | (refine run (t := tb) 400 rfl ?_ ?_; (focus (repeat' ((exact trivial))))) | (refine k_op rfl ?_; (refine v_op (g_lenV rfl (by assumption)) rfl rfl ?_)) | (refine k_ff rfl ?_ ?_; (focus (((refine decide_eq_false ?_; (omega))); done))))
    refine k_loop (ι := Nat) (fun i => i ≤ vs.length ∧ ∀ j, j < i → endsN (tys vs) ((tys vs).length + 1) (nth (tys vs) j) = true) (fun i => [(0, u), (10, I i)]) (fun _ => G) (fun i => []) (fun i => vs.length - i) 0 ?_ (by repeat (first | exact trivial | refine ⟨rfl, ?_⟩)) rfl (by repeat ((exact List.Sublist.refl _))) (fun i Hi => ?_)
    · exact ⟨Nat.zero_le _, fun j hj => absurd hj (by omega)⟩
    by_cases hi : i < vs.length
    · obtain ⟨b, o, cap, rfl, hs⟩ := hsl.expl (by omega)
      have hm := nth_mem hi
      have cx_en := c_ends h hn hw hm
      by_cases he : endsN (tys vs) (vs.length + 1) (nth vs i).2 = true
      · have he2 : (!endsN (tys vs) (vs.length + 1) (nth vs i).2) = false := by rw [he]; rfl
        repeat' (first | (refine run (t := tb) 400 rfl ?_ ?_; (focus (repeat' (first | exact trivial | apply And.intro | omega)))) | (refine k_op rfl ?_; first | refine v_op (g_lenL rfl) rfl rfl ?_ | (refine v_op (g_iaddrN rfl rfl ?_) rfl rfl ?_; (focus ((omega); done))) | (refine v_op (g_ldR rfl rfl (by assumption) ?_) rfl rfl ?_; (focus (((omega)); done))) | (refine c_rt rfl rfl rfl cx_en rfl ?_)) | (refine k_tt rfl ?_ ?_; (focus (((refine decide_eq_true ?_; (omega))); done))) | (refine k_ff rfl ?_ ?_; (focus (((assumption)); done))))
        refine k_rd (i + 1) ⟨by omega, fun j hj => ?_⟩ (by omega) (by repeat (first | exact trivial | refine ⟨rfl, ?_⟩)) rfl (by repeat ((exact List.Sublist.refl _)))
        rcases Nat.lt_or_ge j i with h3 | h3
        · exact Hi.2 j h3
        · have : j = i := by omega
          subst this; rw [hlen, nth_tys hi]; exact he
      · have he2 : (!endsN (tys vs) (vs.length + 1) (nth vs i).2) = true := by simpa using he
        repeat' (first | (refine run (t := tb) 400 rfl ?_ ?_; (focus (repeat' ((exact trivial))))) | (refine k_op rfl ?_; first | refine v_op (g_lenL rfl) rfl rfl ?_ | (refine v_op (g_iaddrN rfl rfl ?_) rfl rfl ?_; (focus ((omega); done))) | (refine v_op (g_ldR rfl rfl (by assumption) ?_) rfl rfl ?_; (focus (((omega)); done))) | (refine c_rt rfl rfl rfl cx_en rfl ?_)) | (refine k_tt rfl ?_ ?_; (focus ((first | assumption | (refine decide_eq_true ?_; (omega))); done))))
        refine k_rr (vs := [_]) rfl ⟨rfl, trivial⟩ rfl (List.nil_sublist _) ⟨rfl, rfl, ?_⟩
        refine congrArg Bo (decide_eq_false fun hv => he ?_).symm
        have := hv.2 i (by omega)
        rwa [hlen, nth_tys hi] at this
    · repeat' (first | (refine run (t := tb) 400 rfl ?_ ?_; (focus (repeat' ((exact trivial))))) | (refine k_op rfl ?_; (refine v_op (g_lenV rfl (by assumption)) rfl rfl ?_)) | (refine k_ff rfl ?_ ?_; (focus (((refine decide_eq_false ?_; (omega))); done))))
      refine k_rr (vs := [_]) rfl ⟨rfl, trivial⟩ rfl (List.nil_sublist _) ⟨rfl, rfl, ?_⟩
      exact congrArg Bo (decide_eq_true ⟨fun j hj => Hall j (by omega), fun j hj => Hi.2 j (by omega)⟩).symm
  obtain ⟨b, o, cap, rfl, hs⟩ := hsl.expl (by omega)
  rcases hxi : nth vs i with ⟨⟨a, ca⟩, t⟩
  have hm : ((a, ca), t) ∈ vs := by rw [← hxi]; exact nth_mem hi
  have hW := hw _ hm
  dsimp only at hW
  have hti : nth (tys vs) i = t := by rw [nth_tys hi, hxi]
  have hE1 : (((a, ca), t) : TyX).2.sort = t.sort := rfl
  have hE2 : (((a, ca), t) : TyX).2.fields.length = t.fields.length := rfl
  have h8 := hW.len
  have hfl := h.fl _ hm
  repeat' (first | (refine run (t := tb) 400 rfl ?_ ?_; (focus (repeat' ((exact trivial))))) | (refine k_op rfl ?_; (refine v_op (g_lenL rfl) rfl rfl ?_)) | (refine k_tt rfl ?_ ?_; (focus (((refine decide_eq_true ?_; (omega))); done))))
  refine k_loop (ι := Nat) (fun k => k ≤ i ∧ ∀ j, j < k → (nth (tys vs) j).name ≠ (nth (tys vs) i).name) (fun k => [(0, .slice (some ⟨b, o, none⟩) vs.length cap), (3, I i), (4, I k)]) (fun _ => G) (fun k => []) (fun k => i - k) 0 ?_ (by repeat (first | exact trivial | refine ⟨rfl, ?_⟩)) rfl (by repeat ((exact List.Sublist.refl _))) (fun k Hk => ?_)
  · exact ⟨Nat.zero_le _, fun j hj => absurd hj (by omega)⟩
  by_cases hk : k < i
  · have hkv : k < vs.length := by omega
    by_cases hnm : (nth vs k).2.name = t.name
    · repeat' (first | (refine run (t := tb) 400 rfl ?_ ?_; (focus (repeat' ((exact trivial))))) | (refine k_tt rfl ?_ ?_; (focus (((refine decide_eq_true ?_; first | assumption | omega)); done))) | (refine k_any (s_any (id := 7) _ (fun _ h => h) mixed ?_); refine x_tks (t := tb) (fuel := 7) [0, 1, 5, 6] (bts 11 99) (by kernel_rfl) (by kernel_rfl) rfl rfl (Gh.le.refl _) (by repeat ((exact List.Sublist.refl _))) ?_ ?_; (focus (repeat' ((exact trivial)))); ((refine (x_tkg (bts 11 103) 2 rfl (by kernel_rfl) rfl (Gh.le.refl _) (by repeat ((exact List.Sublist.refl _)))) (g_iaddrN rfl rfl ?_) rfl rfl ?_; (focus ((omega); done)))); refine x_tks (t := tb) (fuel := 5) [3] (bts 11 111) (by kernel_rfl) (by kernel_rfl) rfl rfl (Gh.le.refl _) (by repeat ((exact List.Sublist.refl _))) ?_ ?_; (focus (repeat' ((exact trivial)))); ((refine (x_tkg (bts 11 127) 4 rfl (by kernel_rfl) rfl (Gh.le.refl _) (by repeat ((exact List.Sublist.refl _)))) (g_ldRF rfl rfl (by assumption) ?_ rfl rfl) rfl rfl ?_; (focus (((omega)); done)))); ((refine (x_tkg (bts 11 255) 7 rfl (by kernel_rfl) rfl (Gh.le.refl _) (by repeat ((exact List.Sublist.refl _)))) (g_iaddrN rfl rfl ?_) rfl rfl ?_; (focus ((omega); done)))); refine x_tks (t := tb) (fuel := 2) [8] (bts 11 511) (by kernel_rfl) (by kernel_rfl) rfl rfl (Gh.le.refl _) (by repeat ((exact List.Sublist.refl _))) ?_ ?_; (focus (repeat' ((exact trivial)))); ((refine (x_tkg (bts 11 1023) 9 rfl (by kernel_rfl) rfl (Gh.le.refl _) (by repeat ((exact List.Sublist.refl _)))) (g_ldRFx rfl rfl (by assumption) ?_ (by assumption) rfl rfl) rfl rfl ?_; (focus (((omega)); done)))); refine x_tks (t := tb) (fuel := 0) [10] (bts 11 2047) (by kernel_rfl) (by kernel_rfl) rfl rfl (Gh.le.refl _) (by repeat ((exact List.Sublist.refl _))) ?_ ?_; (focus (repeat' ((exact trivial)))); refine x_done (by kernel_rfl) (k_bk ?_)))
      refine k_rr (vs := [_]) rfl ⟨rfl, trivial⟩ rfl (List.nil_sublist _) ⟨rfl, rfl, ?_⟩
      refine congrArg Bo (decide_eq_false fun hv => ?_).symm
      have := (hv.1 i (by omega)).1 k hk
      rw [nth_tys hkv, hti] at this
      exact this hnm
    · repeat' (first | (refine run (t := tb) 400 rfl ?_ ?_; (focus (repeat' (first | exact trivial | apply And.intro | omega)))) | (refine k_tt rfl ?_ ?_; (focus (((refine decide_eq_true ?_; (omega))); done))) | (refine k_ff rfl ?_ ?_; (focus (((refine decide_eq_false ?_; (assumption))); done))) | (refine k_any (s_any (id := 7) _ (fun _ h => h) mixed ?_); refine x_tks (t := tb) (fuel := 7) [0, 1, 5, 6] (bts 11 99) (by kernel_rfl) (by kernel_rfl) rfl rfl (Gh.le.refl _) (by repeat ((exact List.Sublist.refl _))) ?_ ?_; (focus (repeat' ((exact trivial)))); ((refine (x_tkg (bts 11 103) 2 rfl (by kernel_rfl) rfl (Gh.le.refl _) (by repeat ((exact List.Sublist.refl _)))) (g_iaddrN rfl rfl ?_) rfl rfl ?_; (focus ((omega); done)))); refine x_tks (t := tb) (fuel := 5) [3] (bts 11 111) (by kernel_rfl) (by kernel_rfl) rfl rfl (Gh.le.refl _) (by repeat ((exact List.Sublist.refl _))) ?_ ?_; (focus (repeat' ((exact trivial)))); ((refine (x_tkg (bts 11 127) 4 rfl (by kernel_rfl) rfl (Gh.le.refl _) (by repeat ((exact List.Sublist.refl _)))) (g_ldRF rfl rfl (by assumption) ?_ rfl rfl) rfl rfl ?_; (focus (((omega)); done)))); ((refine (x_tkg (bts 11 255) 7 rfl (by kernel_rfl) rfl (Gh.le.refl _) (by repeat ((exact List.Sublist.refl _)))) (g_iaddrN rfl rfl ?_) rfl rfl ?_; (focus ((omega); done)))); refine x_tks (t := tb) (fuel := 2) [8] (bts 11 511) (by kernel_rfl) (by kernel_rfl) rfl rfl (Gh.le.refl _) (by repeat ((exact List.Sublist.refl _))) ?_ ?_; (focus (repeat' ((exact trivial)))); ((refine (x_tkg (bts 11 1023) 9 rfl (by kernel_rfl) rfl (Gh.le.refl _) (by repeat ((exact List.Sublist.refl _)))) (g_ldRFx rfl rfl (by assumption) ?_ (by assumption) rfl rfl) rfl rfl ?_; (focus (((omega)); done)))); refine x_tks (t := tb) (fuel := 0) [10] (bts 11 2047) (by kernel_rfl) (by kernel_rfl) rfl rfl (Gh.le.refl _) (by repeat ((exact List.Sublist.refl _))) ?_ ?_; (focus (repeat' ((exact trivial)))); refine x_done (by kernel_rfl) (k_bk ?_)))
      refine k_rd (k + 1) ⟨by omega, fun j hj => ?_⟩ (by omega) (by repeat (first | exact trivial | refine ⟨rfl, ?_⟩)) rfl (by repeat ((exact List.Sublist.refl _)))
      rcases Nat.lt_or_ge j k with h3 | h3
      · exact Hk.2 j h3
      · have : j = k := by omega
        subst this; rw [nth_tys hkv, hti]; exact hnm
  have hna : NamesAt (tys vs) i := fun j hj => Hk.2 j (by omega)
  repeat' (first | (refine run (t := tb) 400 rfl ?_ ?_; (focus (repeat' ((exact trivial))))) | (refine k_ff rfl ?_ ?_; (focus (((refine decide_eq_false ?_; (omega))); done))))
  refine k_loop (ι := Nat) (fun k => (t.sort = 69 ∨ ∀ j, j < k → hasK (tys vs) (nth t.fields j).kind = true) ∧ k ≤ t.fields.length) (fun k => [(0, .slice (some ⟨b, o, none⟩) vs.length cap), (3, I i), (5, I k)]) (fun _ => G) (fun k => []) (fun k => t.fields.length - k) 0 ?_ (by repeat (first | exact trivial | refine ⟨rfl, ?_⟩)) rfl (by repeat ((exact List.Sublist.refl _))) (fun k Hk => ?_)
  · exact ⟨.inr fun j hj => absurd hj (by omega), Nat.zero_le _⟩
  by_cases hk : k < t.fields.length ∧ t.sort ≠ 69
  case neg =>
    have hko : KindsOk (tys vs) (nth (tys vs) i) := by
      rw [hti]
      by_cases h69 : t.sort = 69
      · exact .inl h69
      · refine .inr fun j hj => ?_
        rcases Hk.1 with h3 | h3
        · exact absurd h3 h69
        · exact h3 j (by omega)
    repeat' (first | (refine run (t := tb) 400 rfl ?_ ?_; (focus (repeat' (first | exact trivial | apply And.intro | omega)))) | (refine k_op rfl ?_; first | refine v_op (g_lenL rfl) rfl rfl ?_ | (refine v_op (g_iaddrN rfl rfl ?_) rfl rfl ?_; (focus ((omega); done))) | (refine v_op (g_ldRFx rfl rfl (by assumption) ?_ (by assumption) rfl rfl) rfl rfl ?_; (focus (((omega)); done))) | (refine v_op (g_pickT rfl rfl ?_) rfl rfl ?_; (focus (((rfl)); done))) | (refine v_op (g_pickF rfl rfl ?_) rfl rfl ?_; (focus (((rfl)); done)))) | refine k_g rfl rfl (fun _ => ?_) (fun _ => ?_) | (refine k_ff rfl ?_ ?_; (focus ((first | rfl | (refine decide_eq_false ?_; (omega))); done))))
    all_goals refine k_rd (i + 1) ⟨by omega, fun j hj => ?_⟩ (by omega) (by repeat (first | exact trivial | refine ⟨rfl, ?_⟩)) rfl (by repeat ((exact List.Sublist.refl _)))
    all_goals (rcases Nat.lt_or_ge j i with h3 | h3; · exact Hi.2 j h3)
    all_goals (have : j = i := by omega)
    all_goals (subst this; exact ⟨hna, hko⟩)
  obtain ⟨hk1, hk2⟩ := hk
  obtain ⟨bf, of, cf, ef, hsf⟩ := hfl.expl (by dsimp only; omega)
  simp only [slX, Value.slice.injEq] at ef
  obtain ⟨rfl, -, rfl⟩ := ef
  dsimp only at hsf
  have hE1 : (((some ⟨bf, of, none⟩, ca), t) : TyX).2.sort = t.sort := rfl
  have hE2 : (((some ⟨bf, of, none⟩, ca), t) : TyX).2.fields.length = t.fields.length := rfl
  have hkk := kindOk_kOk ((hW.fld _ (nth_mem hk1)).kind hk2)
  have hkk1 := hkk.1
  have hcl := core_len' (nth t.fields k).kind
  have cx_ref : PuG Tryd.prog 21 [S (core (nth t.fields k).kind)] G (· = Tu [S ((refN (core (nth t.fields k).kind)).getD []), Bo (refN (core (nth t.fields k).kind)).isSome]) := c_l2RefK (core_kOk hkk1) (by omega)
  have hhas := hasK_find (vs := vs) (k := (nth t.fields k).kind)
  repeat' (first | (refine run (t := tb) 400 rfl ?_ ?_; (focus (repeat' (first | exact trivial | apply And.intro | omega)))) | (refine k_op rfl ?_; first | refine v_op (g_lenL rfl) rfl rfl ?_ | (refine v_op (g_iaddrN rfl rfl ?_) rfl rfl ?_; (focus ((omega); done))) | (refine v_op (g_ldRFx rfl rfl (by assumption) ?_ (by assumption) rfl rfl) rfl rfl ?_; (focus (((omega)); done))) | (refine v_op (g_ldRF rfl rfl (by assumption) ?_ rfl rfl) rfl rfl ?_; (focus (((omega)); done))) | (refine v_op (g_pickT rfl rfl ?_) rfl rfl ?_; (focus (((rfl)); done))) | (refine v_op (g_pickF rfl rfl ?_) rfl rfl ?_; (focus (((rfl)); done))) | refine c_al rfl rfl fun _ => ?_ | refine c_stA rfl rfl rfl rfl rfl rfl ?_ | (refine c_rt rfl rfl rfl (c_l2Core (by (repeat ((assumption))); done)) rfl ?_) | (refine c_rt rfl rfl rfl cx_ref rfl ?_) | (refine c_rt rfl rfl rfl (c_find (by (repeat ((assumption))); done) (by omega)) rfl ?_)) | (refine k_gt rfl rfl ?_ ?_; (focus (((refine decide_eq_true ?_; (omega))); done))) | refine k_gb rfl rfl (fun _ => ?_) (fun _ => ?_) | (refine k_tt rfl ?_ ?_; (focus (((refine decide_eq_true ?_; (omega))); done))) | (refine k_ff rfl ?_ ?_; (focus (((rfl)); done))) | refine k_cd rfl (fun _ => ?_) (fun _ => ?_))
  all_goals first
    | (rename_i h1 h2
       have hK : hasK (tys vs) (nth t.fields k).kind = false := by rw [hhas, h1]; simpa using h2
       refine k_rr (vs := [_]) rfl ⟨rfl, trivial⟩ rfl (List.nil_sublist _) ⟨rfl, rfl, ?_⟩
       refine congrArg Bo (decide_eq_false fun hv => ?_).symm
       have h5 := (hv.1 i (by omega)).2
       rw [hti] at h5
       rcases h5 with h3 | h3
       · exact hk2 h3
       · have h6 := h3 k hk1
         rw [hK] at h6; cases h6)
    | (have hK : hasK (tys vs) (nth t.fields k).kind = true := by rw [hhas]; simp_all
       refine k_rd (k + 1) ⟨.inr fun j hj => ?_, by omega⟩ (by omega) (by repeat (first | exact trivial | refine ⟨rfl, ?_⟩)) rfl (by repeat ((exact List.nil_sublist _)))
       rcases Nat.lt_or_ge j k with h3 | h3
       · rcases Hk.1 with h4 | h4
         · exact absurd h4 hk2
         · exact h4 j h3
       · have : j = k := by omega
         subst this; exact hK)
theorem typesOf_snoc : ∀ {xs : List (List UInt8)} {ts : List Ty} {x : List UInt8}, typesOf xs = some ts → typesOf (xs ++ [x]) = (tyOf x).map (fun t => ts ++ [t])
  | [], ts, x, h => by
    simp only [typesOf, Option.some.injEq] at h; subst h
    simp only [List.nil_append, typesOf]
    cases tyOf x <;> rfl
  | y :: xs, ts, x, h => by
    unfold typesOf at h
    rw [List.cons_append, typesOf]
    cases hy : tyOf y with
    | none => rw [hy] at h; cases h
    | some t =>
      rw [hy] at h
      dsimp only at h ⊢
      cases hr : typesOf xs with
      | none => rw [hr] at h; cases h
      | some us =>
        rw [hr] at h
        simp only [Option.map_some, Option.some.injEq] at h; subst h
        rw [typesOf_snoc hr]
        cases tyOf x <;> rfl
theorem typesOf_app_none : ∀ {xs ys : List (List UInt8)}, typesOf xs = none → typesOf (xs ++ ys) = none
  | [], ys, h => by cases h
  | y :: xs, ys, h => by
    unfold typesOf at h
    rw [List.cons_append, typesOf]
    cases hy : tyOf y with
    | none => rfl
    | some t =>
      rw [hy] at h
      dsimp only at h ⊢
      cases hr : typesOf xs with
      | none => rw [typesOf_app_none hr]; rfl
      | some us => rw [hr] at h; cases h
end Go.E
/-! Mk -/
namespace Go.E
set_option maxRecDepth 20000
set_option maxHeartbeats 2000000
open Go.Proofs
variable {G : Gh}
def OfPost (s : List UInt8) (v : Value) (G : Gh) : Prop := ∃ u vs, v = Tu [u, Bo (schemaOf s).isSome] ∧ SchR G u vs ∧ vs.length ≤ 8 ∧ ∀ ts, schemaOf s = some ts → tys vs = ts
theorem SchR.nil : SchR G nilS [] := ⟨SlV.nil0, by simp⟩
theorem c_cutE {s : List UInt8} {k : Nat} (h : s.length ≤ 100000000) : FnS Tryd.prog 31 [S s, U8 k] G (fun v G' => ∃ b o cap, v = .slice (some ⟨b, o, none⟩) (cut k s).length cap ∧ Seg G' b o (rows strF (cut k s))) := by
  refine (c_l3CutS (G := G) (k := k) h).mono ?_
  rintro v G' L' ⟨h1, h2, h3⟩
  obtain ⟨b, o, cap, rfl, hs⟩ := h3.expl cut_pos
  exact ⟨h1, h2, b, o, cap, rfl, hs⟩
theorem c_l3ReadTypeX {s : List UInt8} (h : s.length ≤ 1000) : FnS Tryd.prog 32 [S s] G (fun v G' => ∃ (x : TyX) (ok : Bool), v = Tu [Ag [U8 x.2.sort, S x.2.name, .slice x.1.1 x.2.fields.length x.1.2], Bo ok] ∧ (tyOf s = if ok = true then some x.2 else none) ∧ SlV G' (slX x) 4 x.2.fields.length (rows fldF x.2.fields)) := by
  refine (c_l3ReadType (G := G) h).mono ?_
  rintro v G' L' ⟨h1, h2, fv, t, ok, rfl, h3, h4⟩
  obtain ⟨a, cap, rfl⟩ := h4.sl
  exact ⟨h1, h2, ((a, cap), t), ok, rfl, h3, h4⟩
theorem c_l3Of0 {s : List UInt8} (h : s.length ≤ 10000000) (hb : ¬ (s.length ≤ 400 ∧ (cut 10 s).length ≤ 9 ∧ nth (cut 10 s) ((cut 10 s).length - 1) = [])) (hno : schemaOf s = none) : FnS Tryd.prog 19 [S s] G (OfPost s) := by
  have hpos := cut_pos (k := 10) (s := s)
  have hcnt := cut_count (k := 10) (s := s)
  have cx_cutE := c_cutE (G := G) (s := s) (k := 10) (by omega)
  generalize cut 10 s = xs at *
  have e1 : (((xs.length : Nat) : Int) - 1).toNat = xs.length - 1 := by omega
  refine b_enter [(0, _)] Tryd.func19 (by kernel_rfl) Tryd.ntmps19 rfl rfl (by repeat (first | exact trivial | refine ⟨rfl, ?_⟩)) fun B hok hB hW => ?_
  by_cases h1 : s.length ≤ 400
  case neg =>
    repeat' (first | (refine run (t := tb) 400 rfl ?_ ?_; (focus (repeat' ((exact trivial))))) | (refine k_op rfl ?_; first | (refine v_op (g_pickT rfl rfl ?_) rfl rfl ?_; (focus (((rfl)); done))) | (refine c_fns rfl rfl rfl cx_cutE rfl ?_; rintro _ G hle ⟨b1, o1, cap1, rfl, hseg⟩; skip)) | (refine k_gt rfl rfl ?_ ?_; (focus ((first | rfl | (refine decide_eq_true ?_; (omega))); done))) | (refine k_tt rfl ?_ ?_; (focus (((rfl)); done))))
    all_goals refine k_rr (vs := [_, _]) rfl ⟨rfl, rfl, trivial⟩ rfl (List.nil_sublist _) ⟨hle, rfl, ?_⟩
    all_goals exact ⟨nilS, [], by rw [hno]; rfl, SchR.nil, by simp, fun ts h => by rw [hno] at h; cases h⟩
  by_cases h2 : xs.length ≤ 9
  case neg =>
    repeat' (first | (refine run (t := tb) 400 rfl ?_ ?_; (focus (repeat' ((exact trivial))))) | (refine k_op rfl ?_; first | refine v_op (g_lenL rfl) rfl rfl ?_ | (refine v_op (g_pickT rfl rfl ?_) rfl rfl ?_; (focus (((rfl)); done))) | (refine v_op (g_pickF rfl rfl ?_) rfl rfl ?_; (focus (((rfl)); done))) | (refine c_fns rfl rfl rfl cx_cutE rfl ?_; rintro _ G hle ⟨b1, o1, cap1, rfl, hseg⟩; skip)) | (refine k_gt rfl rfl ?_ ?_; (focus (((refine decide_eq_true ?_; (omega))); done))) | (refine k_gf rfl rfl ?_ ?_; (focus (((refine decide_eq_false ?_; (omega))); done))) | (refine k_tt rfl ?_ ?_; (focus (((rfl)); done))))
    all_goals refine k_rr (vs := [_, _]) rfl ⟨rfl, rfl, trivial⟩ rfl (List.nil_sublist _) ⟨hle, rfl, ?_⟩
    all_goals exact ⟨nilS, [], by rw [hno]; rfl, SchR.nil, by simp, fun ts h => by rw [hno] at h; cases h⟩
  have h3 : ¬ nth xs (((xs.length : Nat) : Int) - 1).toNat = [] := by rw [e1]; exact fun h => hb ⟨h1, h2, h⟩
  clear hb
  repeat' (first | (refine run (t := tb) 400 rfl ?_ ?_; (focus (repeat' (first | exact trivial | apply And.intro | omega)))) | (refine k_op rfl ?_; first | refine v_op (g_lenL rfl) rfl rfl ?_ | (refine v_op (g_pickF rfl rfl ?_) rfl rfl ?_; (focus (((rfl)); done))) | (refine v_op (g_iaddr rfl rfl ?_) rfl rfl ?_; (focus ((omega); done))) | (refine v_op (g_ldRS rfl rfl (by assumption) ?_) rfl rfl ?_; (focus (((omega)); done))) | (refine c_fns rfl rfl rfl cx_cutE rfl ?_; rintro _ G hle ⟨b1, o1, cap1, rfl, hseg⟩; skip)) | (refine k_gf rfl rfl ?_ ?_; (focus (((refine decide_eq_false ?_; (omega))); done))) | (refine k_tt rfl ?_ ?_; (focus (((refine decide_eq_true ?_; (assumption))); done))))
  all_goals refine k_rr (vs := [_, _]) rfl ⟨rfl, rfl, trivial⟩ rfl (List.nil_sublist _) ⟨hle, rfl, ?_⟩
  all_goals exact ⟨nilS, [], by rw [hno]; rfl, SchR.nil, by simp, fun ts h => by rw [hno] at h; cases h⟩
theorem c_l3Of1 {s : List UInt8} (h : s.length ≤ 400) (h2 : (cut 10 s).length ≤ 9) (h3 : nth (cut 10 s) ((cut 10 s).length - 1) = []) (hsc : schemaOf s = match typesOf ((cut 10 s).take ((cut 10 s).length - 1)) with
    | some ts => if ValidT ts then some ts else none
    | none => none) : FnS Tryd.prog 19 [S s] G (OfPost s) := by
  have hpos := cut_pos (k := 10) (s := s)
  have hall : ∀ y ∈ cut 10 s, y.length ≤ s.length := fun y hy => cut_len hy
  have cx_cutE := c_cutE (G := G) (s := s) (k := 10) (by omega)
  generalize cut 10 s = xs at *
  have e1 : (((xs.length : Nat) : Int) - 1).toNat = xs.length - 1 := by omega
  have h4 : nth xs (((xs.length : Nat) : Int) - 1).toNat = [] := by rw [e1]; exact h3
  have h5 : ¬ nth xs (((xs.length : Nat) : Int) - 1).toNat ≠ [] := fun h => h h4
  clear e1 h3 h4
  refine b_enter [(0, _)] Tryd.func19 (by kernel_rfl) Tryd.ntmps19 rfl rfl (by repeat (first | exact trivial | refine ⟨rfl, ?_⟩)) fun B hok hB hW => ?_
  repeat' (first | (refine run (t := tb) 400 rfl ?_ ?_; (focus (repeat' (first | exact trivial | apply And.intro | omega)))) | (refine k_op rfl ?_; first | refine v_op (g_lenL rfl) rfl rfl ?_ | (refine v_op (g_pickF rfl rfl ?_) rfl rfl ?_; (focus (((rfl)); done))) | (refine v_op (g_iaddr rfl rfl ?_) rfl rfl ?_; (focus ((omega); done))) | (refine v_op (g_ldRS rfl rfl (by assumption) ?_) rfl rfl ?_; (focus (((omega)); done))) | refine c_bsl rfl rfl rfl rfl rfl rfl fun _ => ?_ | (refine c_fns rfl rfl rfl cx_cutE rfl ?_; rintro _ G hle ⟨b1, o1, cap1, rfl, hseg⟩; skip)) | (refine k_gf rfl rfl ?_ ?_; (focus (((refine decide_eq_false ?_; (omega))); done))) | (refine k_ff rfl ?_ ?_; (focus (((refine decide_eq_false ?_; (assumption))); done))))
  rename_i x0
  refine Nx.blkAcc (m := 0) (sz := 3) .here rfl ?_
  refine k_loop (ι := Value × List TyX × Nat × Gh) (fun i => ((i.2.2.1 + 1 ≤ xs.length ∧ i.2.1.length = i.2.2.1) ∧ typesOf (xs.take i.2.2.1) = some (tys i.2.1)) ∧ (∀ y ∈ i.2.1, SlV i.2.2.2 (slX y) 4 y.2.fields.length (rows fldF y.2.fields)) ∧ Gh.le G i.2.2.2) (fun i => [(4, .slice (some ⟨b1, o1, none⟩) xs.length cap1), (5, i.1), (6, I i.2.2.1)]) (fun i => i.2.2.2) (fun i => [.acc i.1 tTy 3 i.2.1.length (rows tyF i.2.1)]) (fun i => xs.length - i.2.2.1) (.slice (some ⟨x0, 0, none⟩) 0 0, [], 0, G) ?_ (by repeat (first | exact trivial | refine ⟨rfl, ?_⟩)) rfl (by repeat ((exact List.Sublist.refl _))) (fun i Hi => ?_)
  · exact ⟨⟨⟨by dsimp only; omega, rfl⟩, rfl⟩, by simp, Gh.le.refl _⟩
  obtain ⟨u, vs, i, Gk⟩ := i
  dsimp only at Hi ⊢
  obtain ⟨⟨⟨hi1, hi2⟩, hty⟩, hfs, hgk⟩ := Hi
  have hsk := hseg.mono hgk
  have hle0 := hle
  by_cases hix : i + 1 < xs.length
  case neg =>
    have ei : i = xs.length - 1 := by omega
    rw [← ei, hty] at hsc
    dsimp only at hsc
    refine Nx.sealS (v := u) fun G1 hle1 hsl => ?_
    have hS : SchR G1 u vs := ⟨hsl, fun x hx => (hfs x hx).mono hle1⟩
    have hw : ∀ x ∈ vs, TyW x.2 := fun x hx => (typesOf_w hty).1 x.2 (show x.2 ∈ vs.map (fun y => y.2) from List.mem_map_of_mem hx)
    have cx_val := c_valid hS (by omega) hw
    repeat' (first | (refine run (t := tb) 400 rfl ?_ ?_; (focus (repeat' (first | exact trivial | apply And.intro | omega)))) | (refine k_op rfl ?_; first | refine v_op (g_lenL rfl) rfl rfl ?_ | (refine c_rt rfl rfl rfl cx_val rfl ?_)) | (refine k_ff rfl ?_ ?_; (focus (((refine decide_eq_false ?_; (omega))); done))))
    all_goals refine k_rr (vs := [_, _]) rfl ⟨rfl, rfl, trivial⟩ rfl (List.nil_sublist _) ⟨(hle0.trans hgk).trans hle1, rfl, ?_⟩
    all_goals refine ⟨u, vs, ?_, hS, by omega, fun ts h => ?_⟩
    · rw [hsc, oneOf_two]
      by_cases hv : ValidT (tys vs)
      · rw [if_pos hv, decide_eq_true hv]; rfl
      · rw [if_neg hv, decide_eq_false hv]; rfl
    · rw [hsc] at h
      split at h
      · exact Option.some.inj h
      · cases h
  have hx2 : (nth xs i).length ≤ 1000 := by have := hall _ (nth_mem (show i < xs.length by omega)); omega
  have hsn := typesOf_snoc (x := nth xs i) hty
  rw [← take_nth (by omega)] at hsn
  repeat' (first | (refine run (t := tb) 400 rfl ?_ ?_; (focus (repeat' (first | exact trivial | apply And.intro | omega)))) | (refine k_op rfl ?_; first | refine v_op (g_lenL rfl) rfl rfl ?_ | (refine v_op (g_iaddrN rfl rfl ?_) rfl rfl ?_; (focus ((omega); done))) | refine v_op (g_ldA rfl rfl rfl rfl) rfl rfl ?_ | (refine v_op (g_ldRS rfl rfl (by assumption) ?_) rfl rfl ?_; (focus (((omega)); done))) | refine c_bsl rfl rfl rfl rfl rfl rfl fun _ => ?_ | refine c_al rfl rfl fun _ => ?_ | refine c_stA rfl rfl rfl rfl rfl rfl ?_ | (refine c_apX rfl rfl rfl rfl rfl rfl rfl rfl rfl ?_ fun _ _ => ?_; (focus ((omega); done))) | (refine c_fns rfl rfl rfl (c_l3ReadTypeX (by omega)) rfl ?_; rintro _ G hle ⟨x, ok, rfl, htyp, hfl⟩; skip)) | (refine k_tt rfl ?_ ?_; (focus (((refine decide_eq_true ?_; (omega))); done))) | refine k_cd rfl (fun _ => ?_) (fun _ => ?_))
  all_goals first
    | (rename_i hq
       have hq2 : ok = false := by simpa using hq
       subst hq2
       have hf0 : tyOf (nth xs i) = none := htyp
       have hno : schemaOf s = none := by
         rw [hf0] at hsn
         have e2 : xs.take (xs.length - 1) = xs.take (i + 1) ++ (xs.take (xs.length - 1)).drop (i + 1) := by
           have := List.take_append_drop (i + 1) (xs.take (xs.length - 1))
           rw [List.take_take, Nat.min_eq_left (by omega)] at this
           exact this.symm
         rw [hsc, e2, typesOf_app_none hsn]
       refine k_rr (vs := [_, _]) rfl ⟨rfl, rfl, trivial⟩ rfl (List.nil_sublist _) ⟨(hle0.trans hgk).trans hle, rfl, ?_⟩
       exact ⟨nilS, [], by rw [hno]; rfl, SchR.nil, by simp, fun ts h => by rw [hno] at h; cases h⟩)
    | (rename_i z hq w b2 c2
       have hq2 : ok = true := by simpa using hq
       subst hq2
       have hf1 : tyOf (nth xs i) = some x.2 := htyp
       rw [hf1] at hsn
       have e3 : rows tyF vs ++ [U8 x.2.sort, S x.2.name, .slice x.1.1 x.2.fields.length x.1.2] = rows tyF (vs ++ [x]) := (rows_snoc tyF vs x).symm
       refine k_rd (.slice (some ⟨b2, 0, none⟩) (vs.length + 1) c2, vs ++ [x], i + 1, G) ⟨⟨⟨by dsimp only; omega, by simp; omega⟩, ?_⟩, ?_, hgk.trans hle⟩ (by dsimp only; omega) (by repeat (first | exact trivial | refine ⟨rfl, ?_⟩)) rfl (by dsimp only; rw [e3]; simp only [List.length_append, List.length_cons, List.length_nil, Nat.zero_add]; repeat (first | exact List.nil_sublist _ | apply List.Sublist.cons_cons))
       · dsimp only; rw [hsn]; simp [tys]
       · intro y hy
         rcases List.mem_append.1 hy with hy | hy
         · exact (hfs y hy).mono hle
         · simp only [List.mem_singleton] at hy; subst hy; exact hfl)
theorem c_l3Of {s : List UInt8} (h : s.length ≤ 10000000) : FnS Tryd.prog 19 [S s] G (OfPost s) := by
  have hpos := cut_pos (k := 10) (s := s)
  have hlast : (cut 10 s).getLastD [] = nth (cut 10 s) ((cut 10 s).length - 1) := by
    rw [nth_eq (by omega), List.getLastD_eq_getLast?, List.getLast?_eq_getElem?]
    rw [List.getElem?_eq_getElem (by omega)]; rfl
  by_cases hc : s.length ≤ 400 ∧ (cut 10 s).length ≤ 9 ∧ nth (cut 10 s) ((cut 10 s).length - 1) = []
  · refine c_l3Of1 hc.1 hc.2.1 hc.2.2 ?_
    unfold schemaOf
    rw [hlast, if_pos hc, List.dropLast_eq_take]
    (rfl)
  · refine c_l3Of0 h hc ?_
    unfold schemaOf
    rw [hlast, if_neg hc]
def kindS (s k : List UInt8) : Bool := match schemaOf s with
  | some ts => kindIn ts k
  | none => false
theorem c_SchemaOkS {s : List UInt8} (h : s.length ≤ 10000000) : PuG Tryd.prog 10 [S s] G (· = Bo (schemaOf s).isSome) := by
  refine b_enter (Post := fun v G' L' => G' = G ∧ L' = [] ∧ _) [(0, _)] Tryd.func10 (by kernel_rfl) Tryd.ntmps10 rfl rfl (by repeat (first | exact trivial | refine ⟨rfl, ?_⟩)) fun B hok hB hW => ?_
  repeat' (first | (refine run (t := tb) 400 rfl ?_ ?_; (focus (repeat' ((exact trivial))))) | (refine k_op rfl ?_; (refine c_fns rfl rfl rfl (c_l3Of (by omega)) rfl ?_; rintro _ G hle ⟨u, vs, rfl, hsch, hvl, hvs⟩; skip)))
  refine Nx.base hok hB ?_
  refine k_rr (vs := [_]) rfl ⟨rfl, trivial⟩ rfl (List.nil_sublist _) ⟨rfl, rfl, ?_⟩
  rfl
def KindPost (s k : List UInt8) (v : Value) (G : Gh) : Prop := ∃ u vs, v = Tu [u, Bo (kindS s k)] ∧ SchR G u vs ∧ vs.length ≤ 8 ∧ ∀ ts, schemaOf s = some ts → kindIn ts k = true → tys vs = ts
theorem c_l3Kind {s k : List UInt8} (h : s.length ≤ 10000000) (hk : k.length ≤ 10000000) : FnS Tryd.prog 11 [S s, S k] G (KindPost s k) := by
  cases hs : schemaOf s with
  | none =>
    have hno : kindS s k = false := by unfold kindS; rw [hs]
    have e1 : (!(schemaOf s).isSome) = true := by rw [hs]; rfl
    refine b_enter [(0, _), (1, _)] Tryd.func11 (by kernel_rfl) Tryd.ntmps11 rfl rfl (by repeat (first | exact trivial | refine ⟨rfl, ?_⟩)) fun B hok hB hW => ?_
    repeat' (first | (refine run (t := tb) 400 rfl ?_ ?_; (focus (repeat' ((exact trivial))))) | (refine k_op rfl ?_; first | (refine v_op (g_pickT rfl rfl ?_) rfl rfl ?_; (focus (((rfl)); done))) | (refine c_fns rfl rfl rfl (c_l3Of (by omega)) rfl ?_; rintro _ G hle ⟨u, vs, rfl, hsch, hvl, hvs⟩; skip)) | (refine k_gt rfl rfl ?_ ?_; (focus (((assumption)); done))) | (refine k_tt rfl ?_ ?_; (focus (((rfl)); done))))
    all_goals refine k_rr (vs := [_, _]) rfl ⟨rfl, rfl, trivial⟩ rfl (List.nil_sublist _) ⟨hle, rfl, ?_⟩
    all_goals exact ⟨nilS, [], by rw [hno]; rfl, SchR.nil, by simp, fun ts h => by rw [hs] at h; cases h⟩
  | some ts =>
    have e1 : (!(schemaOf s).isSome) = false := by rw [hs]; rfl
    by_cases hko : kindOk k = true
    case neg =>
      have hno : kindS s k = false := by unfold kindS kindIn; rw [hs]; simp [hko]
      have e2 : (!kindOk k) = true := by simpa using hko
      refine b_enter [(0, _), (1, _)] Tryd.func11 (by kernel_rfl) Tryd.ntmps11 rfl rfl (by repeat (first | exact trivial | refine ⟨rfl, ?_⟩)) fun B hok hB hW => ?_
      repeat' (first | (refine run (t := tb) 400 rfl ?_ ?_; (focus (repeat' ((exact trivial))))) | (refine k_op rfl ?_; first | (refine v_op (g_pickF rfl rfl ?_) rfl rfl ?_; (focus (((rfl)); done))) | (refine c_fns rfl rfl rfl (c_l3Of (by omega)) rfl ?_; rintro _ G hle ⟨u, vs, rfl, hsch, hvl, hvs⟩; skip) | (refine c_rt rfl rfl rfl c_KindOkS rfl ?_)) | (refine k_gf rfl rfl ?_ ?_; (focus (((assumption)); done))) | (refine k_tt rfl ?_ ?_; (focus (((assumption)); done))))
      all_goals refine k_rr (vs := [_, _]) rfl ⟨rfl, rfl, trivial⟩ rfl (List.nil_sublist _) ⟨hle, rfl, ?_⟩
      all_goals exact ⟨nilS, [], by rw [hno]; rfl, SchR.nil, by simp, fun ts h1 h2 => by unfold kindIn at h2; simp [hko] at h2⟩
    have e2 : (!kindOk k) = false := by rw [hko]; rfl
    have hkk := kindOk_kOk hko
    have hkk1 := hkk.1
    have hcl := core_len' k
    have cx_rf2 : ∀ G, PuG Tryd.prog 21 [S (core k)] G (· = Tu [S ((refN (core k)).getD []), Bo (refN (core k)).isSome]) := fun G => c_l2RefK (core_kOk hkk1) (by omega)
    refine b_enter [(0, _), (1, _)] Tryd.func11 (by kernel_rfl) Tryd.ntmps11 rfl rfl (by repeat (first | exact trivial | refine ⟨rfl, ?_⟩)) fun B hok hB hW => ?_
    repeat' (first | (refine run (t := tb) 400 rfl ?_ ?_; (focus (repeat' ((exact trivial))))) | (refine k_op rfl ?_; first | (refine v_op (g_pickT rfl rfl ?_) rfl rfl ?_; (focus (((rfl)); done))) | (refine v_op (g_pickF rfl rfl ?_) rfl rfl ?_; (focus (((rfl)); done))) | refine c_al rfl rfl fun _ => ?_ | refine c_stA rfl rfl rfl rfl rfl rfl ?_ | (refine c_fns rfl rfl rfl (c_l3Of (by omega)) rfl ?_; rintro _ G hle ⟨u, vs, rfl, hsch, hvl, hvs⟩; skip) | (refine c_rt rfl rfl rfl c_KindOkS rfl ?_) | (refine c_rt rfl rfl rfl (c_l2Core (by (repeat ((assumption))); done)) rfl ?_) | (refine c_rt rfl rfl rfl (cx_rf2 _) rfl ?_) | (refine c_rt rfl rfl rfl (c_find (by (repeat ((assumption))); done) (by omega)) rfl ?_)) | (refine k_gf rfl rfl ?_ ?_; (focus (((assumption)); done))) | refine k_gb rfl rfl (fun _ => ?_) (fun _ => ?_) | (refine k_ff rfl ?_ ?_; (focus (((assumption)); done))))
    all_goals rename_i hq
    all_goals refine k_rr (vs := [_, _]) rfl ⟨rfl, rfl, trivial⟩ rfl (List.nil_sublist _) ⟨hle, rfl, ?_⟩
    all_goals have hks : kindS s k = (!(refN (core k)).isSome || (findV vs ((refN (core k)).getD [])).isSome) := by
                unfold kindS kindIn
                rw [hs]
                dsimp only
                rw [hko, Bool.true_and, ← hvs ts hs, hasK_find]
    all_goals exact ⟨u, vs, by rw [hks, hq]; rfl, hsch, hvl, fun ts' h1 _ => hvs ts' h1⟩
end Go.E
/-! Ml -/
namespace Go.E
set_option maxRecDepth 20000
set_option maxHeartbeats 2000000
open Go.Proofs
variable {G : Gh}
/-- A type with where it lies. -/
abbrev TyP := Nat × Ty
def ptF (q : TyP) : List Value := [Pt q.1 0]
instance : RowF ptF 1 := ⟨fun _ => rfl⟩
def kvsOf (qs : List TyP) : List (List UInt8 × Value) := qs.map fun q => (q.2.name, Pt q.1 0)
def tyq (qs : List TyP) : List Ty := qs.map (·.2)
def findQ (qs : List TyP) (n : List UInt8) : Option TyP := qs.find? fun q => decide (n = q.2.name)
theorem kvF_find (qs : List TyP) (n : List UInt8) : kvF (kvsOf qs) n = (findQ qs n).map fun q => Pt q.1 0 := by
  unfold kvF kvsOf findQ
  induction qs with
  | nil => rfl
  | cons q qs ih =>
    simp only [List.map_cons, List.find?_cons]
    by_cases h : n = q.2.name
    · simp [h]
    · simp only [h, decide_false]; exact ih
theorem findQ_ty (qs : List TyP) (n : List UInt8) : (findQ qs n).map (·.2) = findT (tyq qs) n := by
  unfold findQ findT tyq
  induction qs with
  | nil => rfl
  | cons q qs ih =>
    simp only [List.map_cons, List.find?_cons]
    by_cases h : n = q.2.name
    · simp [h]
    · have h2 : ¬ q.2.name = n := fun e => h e.symm
      simp only [h, h2, decide_false]; exact ih
theorem findQ_mem {qs : List TyP} {n : List UInt8} {q : TyP} (h : findQ qs n = some q) : q ∈ qs := List.mem_of_find?_eq_some h
/-- The program's schema, laid down. -/
structure ScI (G : Gh) (b : Nat) (qs : List TyP) : Prop where
  at' : ∃ u m, Seg G b 0 [u, .map (some m)] ∧ SlV G u 1 qs.length (rows ptF qs) ∧ G m = some (.ex (mapO (kvsOf qs)))
  ty : ∀ q ∈ qs, TyI G q.1 q.2
theorem ScI.mono {G G' : Gh} {b : Nat} {qs : List TyP} (h : ScI G b qs) (hl : Gh.le G G') : ScI G' b qs := by
  obtain ⟨u, m, h1, h2, h3⟩ := h.at'
  exact ⟨⟨u, m, h1.mono hl, h2.mono hl, hl _ _ h3⟩, fun q hq => (h.ty q hq).mono hl⟩
theorem bs_at {k : List UInt8} (h : kindOk k = true) : bs k = [64] ↔ (refN (core k)).isSome = true := by
  have hk := core_kOk (kindOk_kOk h).1
  unfold bs
  cases hc : core k with
  | nil => rw [hc] at hk; cases hk
  | cons c r =>
    unfold bsT refN
    by_cases h64 : c.toNat = 64
    · simp [h64]
    · simp only [h64, if_false]
      constructor
      · intro e; simp only [List.cons.injEq] at e; exact absurd (by rw [e.1]; rfl) h64
      · intro e; cases e
theorem c_has {b : Nat} {qs : List TyP} {k : List UInt8} (h : ScI G b qs) (hk : kindOk k = true) : PuG Tryd.prog 28 [Pt b 0, Ag [S (sg k), S (bs k), S (nm k)]] G (· = Bo (hasK (tyq qs) k)) := by
  obtain ⟨u, m, h1, h2, h3⟩ := h.at'
  have hat := bs_at hk
  rcases hr : refN (core k) with _ | n
  · have hb : ¬ bs k = [64] := by rw [hat, hr]; simp
    have e : hasK (tyq qs) k = true := by unfold hasK; rw [hr]
    clear hat hr
    rw [e]
    refine p_enter [(0, _), (1, _)] Tryd.func28 (by kernel_rfl) Tryd.ntmps28 rfl rfl (by repeat (first | exact trivial | refine ⟨rfl, ?_⟩)) fun B hB => ?_
    repeat' (first | (refine run (t := tb) 400 rfl ?_ ?_; (focus (repeat' ((exact trivial))))) | (refine k_op rfl ?_; (refine c_bx rfl rfl rfl fun _ => ?_)) | (refine k_any (s_any (id := 1) _ (fun _ h => h) mixed ?_); refine x_tks (t := tb) (fuel := 13) [0] (bts 14 1) (by kernel_rfl) (by kernel_rfl) rfl rfl (Gh.le.refl _) (by repeat ((exact List.Sublist.refl _))) ?_ ?_; (focus (repeat' ((exact trivial)))); ((refine (x_tkg (bts 14 3) 1 rfl (by kernel_rfl) rfl (Gh.le.refl _) (by repeat ((exact List.Sublist.refl _)))) (g_ld rfl rfl rfl) rfl rfl ?_)); refine x_tks (t := tb) (fuel := 10) [2, 3] (bts 14 15) (by kernel_rfl) (by kernel_rfl) rfl rfl (Gh.le.refl _) (by repeat ((exact List.Sublist.refl _))) ?_ ?_; (focus (repeat' ((exact trivial)))); (try ((refine Nx.re (d := 8) (v' := Bo true) rfl (congrArg Value.bool ?_) ?_; (focus (((refine decide_eq_true ?_; (assumption))); done))))); refine x_tks (t := tb) (fuel := 6) [4, 5, 6, 8] (bts 14 383) (by kernel_rfl) (by kernel_rfl) rfl rfl (Gh.le.refl _) (by repeat ((exact List.Sublist.refl _))) ?_ ?_; (focus (repeat' ((exact trivial)))); ((refine x_tkn (bts 14 511) 7 rfl (by kernel_rfl) rfl (Gh.le.refl _) (by repeat ((exact List.Sublist.refl _))) rfl rfl ?_)); ((refine x_tkn (bts 14 1023) 9 rfl (by kernel_rfl) rfl (Gh.le.refl _) (by repeat ((exact List.Sublist.refl _))) rfl rfl ?_)); ((refine x_tkn (bts 14 2047) 10 rfl (by kernel_rfl) rfl (Gh.le.refl _) (by repeat ((exact List.Sublist.refl _))) rfl rfl ?_)); ((refine x_tkn (bts 14 4095) 11 rfl (by kernel_rfl) rfl (Gh.le.refl _) (by repeat ((exact List.Sublist.refl _))) rfl rfl ?_)); ((refine (x_tkg (bts 14 8191) 12 rfl (by kernel_rfl) rfl (Gh.le.refl _) (by repeat ((exact List.Sublist.refl _)))) (g_pickT rfl rfl ?_) rfl rfl ?_; (focus (((rfl)); done)))); refine x_tks (t := tb) (fuel := 0) [13] (bts 14 16383) (by kernel_rfl) (by kernel_rfl) rfl rfl (Gh.le.refl _) (by repeat ((exact List.Sublist.refl _))) ?_ ?_; (focus (repeat' ((exact trivial)))); refine x_done (by kernel_rfl) (k_bk ?_)))
    all_goals refine k_rr (vs := [_]) rfl ⟨rfl, trivial⟩ rfl (List.nil_sublist _) ⟨rfl, rfl, ?_⟩
    all_goals rfl
  · have hb : ¬ (bs k ≠ [64]) := fun h => h (by rw [hat, hr]; rfl)
    have hn : nm k = n := by unfold nm; rw [hr]; rfl
    have e : hasK (tyq qs) k = (findQ qs (nm k)).isSome := by unfold hasK; rw [hr, hn]; dsimp only; rw [← findQ_ty]; simp
    rw [e]
    clear hat hr hn e
    have hkv := kvF_find qs (nm k)
    cases hf : findQ qs (nm k) with
    | none =>
      rw [hf] at hkv
      dsimp only [Option.map_none] at hkv
      refine p_enter [(0, _), (1, _)] Tryd.func28 (by kernel_rfl) Tryd.ntmps28 rfl rfl (by repeat (first | exact trivial | refine ⟨rfl, ?_⟩)) fun B hB => ?_
      repeat' (first | (refine run (t := tb) 400 rfl ?_ ?_; (focus (repeat' ((exact trivial))))) | (refine k_op rfl ?_; (refine c_bx rfl rfl rfl fun _ => ?_)) | (refine k_any (s_any (id := 1) _ (fun _ h => h) mixed ?_); refine x_tks (t := tb) (fuel := 13) [0] (bts 14 1) (by kernel_rfl) (by kernel_rfl) rfl rfl (Gh.le.refl _) (by repeat ((exact List.Sublist.refl _))) ?_ ?_; (focus (repeat' ((exact trivial)))); ((refine (x_tkg (bts 14 3) 1 rfl (by kernel_rfl) rfl (Gh.le.refl _) (by repeat ((exact List.Sublist.refl _)))) (g_ld rfl rfl rfl) rfl rfl ?_)); refine x_tks (t := tb) (fuel := 10) [2, 3] (bts 14 15) (by kernel_rfl) (by kernel_rfl) rfl rfl (Gh.le.refl _) (by repeat ((exact List.Sublist.refl _))) ?_ ?_; (focus (repeat' ((exact trivial)))); (try ((refine Nx.re (d := 8) (v' := Bo false) rfl (congrArg Value.bool ?_) ?_; (focus (((refine decide_eq_false ?_; (assumption))); done))))); refine x_tks (t := tb) (fuel := 6) [4, 5, 6, 8] (bts 14 383) (by kernel_rfl) (by kernel_rfl) rfl rfl (Gh.le.refl _) (by repeat ((exact List.Sublist.refl _))) ?_ ?_; (focus (repeat' ((exact trivial)))); ((refine (x_tkg (bts 14 511) 7 rfl (by kernel_rfl) rfl (Gh.le.refl _) (by repeat ((exact List.Sublist.refl _)))) (g_ldS rfl rfl (by assumption) rfl rfl) rfl rfl ?_)); ((refine (x_tkg (bts 14 1023) 9 rfl (by kernel_rfl) rfl (Gh.le.refl _) (by repeat ((exact List.Sublist.refl _)))) (g_ld rfl rfl rfl) rfl rfl ?_)); ((refine (x_tkg (bts 14 2047) 10 rfl (by kernel_rfl) rfl (Gh.le.refl _) (by repeat ((exact List.Sublist.refl _)))) (g_lookupX rfl rfl (map_G (by assumption)) (by assumption) rfl) rfl rfl ?_)); ((refine (x_tkg (bts 14 4095) 11 rfl (by kernel_rfl) rfl (Gh.le.refl _) (by repeat ((exact List.Sublist.refl _)))) (g_pne0 rfl rfl) rfl rfl ?_)); ((refine (x_tkg (bts 14 8191) 12 rfl (by kernel_rfl) rfl (Gh.le.refl _) (by repeat ((exact List.Sublist.refl _)))) (g_pickF rfl rfl ?_) rfl rfl ?_; (focus (((rfl)); done)))); refine x_tks (t := tb) (fuel := 0) [13] (bts 14 16383) (by kernel_rfl) (by kernel_rfl) rfl rfl (Gh.le.refl _) (by repeat ((exact List.Sublist.refl _))) ?_ ?_; (focus (repeat' ((exact trivial)))); refine x_done (by kernel_rfl) (k_bk ?_)))
      all_goals refine k_rr (vs := [_]) rfl ⟨rfl, trivial⟩ rfl (List.nil_sublist _) ⟨rfl, rfl, ?_⟩
      all_goals rfl
    | some q =>
      rw [hf] at hkv
      dsimp only [Option.map_some] at hkv
      refine p_enter [(0, _), (1, _)] Tryd.func28 (by kernel_rfl) Tryd.ntmps28 rfl rfl (by repeat (first | exact trivial | refine ⟨rfl, ?_⟩)) fun B hB => ?_
      repeat' (first | (refine run (t := tb) 400 rfl ?_ ?_; (focus (repeat' ((exact trivial))))) | (refine k_op rfl ?_; (refine c_bx rfl rfl rfl fun _ => ?_)) | (refine k_any (s_any (id := 1) _ (fun _ h => h) mixed ?_); refine x_tks (t := tb) (fuel := 13) [0] (bts 14 1) (by kernel_rfl) (by kernel_rfl) rfl rfl (Gh.le.refl _) (by repeat ((exact List.Sublist.refl _))) ?_ ?_; (focus (repeat' ((exact trivial)))); ((refine (x_tkg (bts 14 3) 1 rfl (by kernel_rfl) rfl (Gh.le.refl _) (by repeat ((exact List.Sublist.refl _)))) (g_ld rfl rfl rfl) rfl rfl ?_)); refine x_tks (t := tb) (fuel := 10) [2, 3] (bts 14 15) (by kernel_rfl) (by kernel_rfl) rfl rfl (Gh.le.refl _) (by repeat ((exact List.Sublist.refl _))) ?_ ?_; (focus (repeat' ((exact trivial)))); (try ((refine Nx.re (d := 8) (v' := Bo false) rfl (congrArg Value.bool ?_) ?_; (focus (((refine decide_eq_false ?_; (assumption))); done))))); refine x_tks (t := tb) (fuel := 6) [4, 5, 6, 8] (bts 14 383) (by kernel_rfl) (by kernel_rfl) rfl rfl (Gh.le.refl _) (by repeat ((exact List.Sublist.refl _))) ?_ ?_; (focus (repeat' ((exact trivial)))); ((refine (x_tkg (bts 14 511) 7 rfl (by kernel_rfl) rfl (Gh.le.refl _) (by repeat ((exact List.Sublist.refl _)))) (g_ldS rfl rfl (by assumption) rfl rfl) rfl rfl ?_)); ((refine (x_tkg (bts 14 1023) 9 rfl (by kernel_rfl) rfl (Gh.le.refl _) (by repeat ((exact List.Sublist.refl _)))) (g_ld rfl rfl rfl) rfl rfl ?_)); ((refine (x_tkg (bts 14 2047) 10 rfl (by kernel_rfl) rfl (Gh.le.refl _) (by repeat ((exact List.Sublist.refl _)))) (g_lookupX rfl rfl (map_G (by assumption)) (by assumption) rfl) rfl rfl ?_)); ((refine (x_tkg (bts 14 4095) 11 rfl (by kernel_rfl) rfl (Gh.le.refl _) (by repeat ((exact List.Sublist.refl _)))) (g_pne0 rfl rfl) rfl rfl ?_)); ((refine (x_tkg (bts 14 8191) 12 rfl (by kernel_rfl) rfl (Gh.le.refl _) (by repeat ((exact List.Sublist.refl _)))) (g_pickF rfl rfl ?_) rfl rfl ?_; (focus (((rfl)); done)))); refine x_tks (t := tb) (fuel := 0) [13] (bts 14 16383) (by kernel_rfl) (by kernel_rfl) rfl rfl (Gh.le.refl _) (by repeat ((exact List.Sublist.refl _))) ?_ ?_; (focus (repeat' ((exact trivial)))); refine x_done (by kernel_rfl) (k_bk ?_)))
      all_goals refine k_rr (vs := [_]) rfl ⟨rfl, trivial⟩ rfl (List.nil_sublist _) ⟨rfl, rfl, ?_⟩
      all_goals rfl
end Go.E
/-! Mm -/
namespace Go.E
set_option maxRecDepth 20000
set_option maxHeartbeats 2000000
open Go.Proofs
variable {G : Gh}
theorem refN_sg {k : List UInt8} (h : kindOk k = true) : refN k = if sg k = [] ∧ bs k = [64] then some (nm k) else none := by
  have hat := bs_at h
  match k, h with
  | c :: r, h =>
    by_cases h1 : c.toNat = 91 ∨ c.toNat = 63
    · have hs : ¬ (sg (c :: r) = [] ∧ bs (c :: r) = [64]) := by
        rintro ⟨e, _⟩
        unfold sg at e
        rw [core, if_pos h1] at e
        have := core_len r
        have e2 := congrArg List.length e
        simp only [List.length_take, List.length_cons, List.length_nil] at e2
        omega
      rw [if_neg hs]
      simp only [refN]
      rw [if_neg (by omega)]
    · have hc : core (c :: r) = c :: r := by rw [core, if_neg h1]
      have hs : sg (c :: r) = [] := by unfold sg; rw [hc]; simp
      have hn : nm (c :: r) = (refN (c :: r)).getD [] := by unfold nm; rw [hc]
      rw [hc] at hat
      rw [hn, hs]
      cases hr : refN (c :: r) with
      | none => rw [hr] at hat; rw [if_neg]; rintro ⟨_, e⟩; have := hat.1 e; cases this
      | some n => rw [hr] at hat; rw [if_pos ⟨rfl, hat.2 rfl⟩]; rfl
theorem c_endsI {b : Nat} {qs : List TyP} {q0 : TyP} (h : ScI G b qs) (hw : ∀ q ∈ qs, TyW q.2) (hk : ∀ q ∈ qs, KindsOk (tyq qs) q.2) (hq : q0 ∈ qs) :
    PuG Tryd.prog 36 [Pt b 0, Pt q0.1 0] G (· = Bo (endsN (tyq qs) 9 q0.2)) := by
  obtain ⟨u, m, h1, h2, h3⟩ := h.at'
  refine p_enter [(0, _), (1, _)] Tryd.func36 (by kernel_rfl) Tryd.ntmps36 rfl rfl (by repeat (first | exact trivial | refine ⟨rfl, ?_⟩)) fun B hB => ?_
  repeat' ((refine run (t := tb) 400 rfl ?_ ?_; (focus (repeat' ((exact trivial))))))
  refine k_loop (ι := TyP × Nat) (fun i => i.1 ∈ qs ∧ i.2 ≤ 9 ∧ endsN (tyq qs) (9 - i.2) i.1.2 = endsN (tyq qs) 9 q0.2) (fun i => [(0, Pt b 0), (1, Pt i.1.1 0), (6, I i.2)]) (fun _ => G) (fun i => []) (fun i => 9 - i.2) (q0, 0) ?_ (by repeat (first | exact trivial | refine ⟨rfl, ?_⟩)) rfl (by repeat ((exact List.Sublist.refl _))) (fun i Hi => ?_)
  · exact ⟨hq, Nat.zero_le _, rfl⟩
  obtain ⟨⟨p, t⟩, i⟩ := i
  dsimp only at Hi ⊢
  obtain ⟨hqm, hi9, he⟩ := Hi
  have hW := hw _ hqm
  obtain ⟨fv, ln, hsg, hfv⟩ := h.ty _ hqm
  dsimp only at hW hsg hfv
  by_cases hlt : i < 9
  case neg =>
    have e0 : 9 - i = 0 := by omega
    rw [e0] at he
    repeat' (first | (refine run (t := tb) 400 rfl ?_ ?_; (focus (repeat' ((exact trivial))))) | (refine k_ff rfl ?_ ?_; (focus (((refine decide_eq_false ?_; (omega))); done))))
    refine k_rr (vs := [_]) rfl ⟨rfl, trivial⟩ rfl (List.nil_sublist _) ⟨rfl, rfl, ?_⟩
    rw [← he]; rfl
  obtain ⟨j, hj⟩ : ∃ j, 9 - i = j + 1 := ⟨8 - i, by omega⟩
  rw [hj, endsN] at he
  by_cases hU : t.sort = 85
  case neg =>
    rw [if_pos hU] at he
    repeat' (first | (refine run (t := tb) 400 rfl ?_ ?_; (focus (repeat' ((exact trivial))))) | (refine k_op rfl ?_; (refine v_op (g_ldS rfl rfl (by assumption) rfl rfl) rfl rfl ?_)) | (refine k_tt rfl ?_ ?_; (focus (((refine decide_eq_true ?_; (omega))); done))))
    refine k_rr (vs := [_]) rfl ⟨rfl, trivial⟩ rfl (List.nil_sublist _) ⟨rfl, rfl, ?_⟩
    rw [← he]; rfl
  rw [if_neg (by simp [hU])] at he
  have hne := hW.ne (by omega)
  have h0 : 0 < t.fields.length := List.length_pos_iff.2 hne
  obtain ⟨bf, of, cf, rfl, hsf⟩ := hfv.expl h0
  have hk0 : kind0 t = (nth t.fields 0).kind := by
    unfold kind0 nth
    cases t.fields with
    | nil => rfl
    | cons f r => rfl
  have hko := (hW.fld _ (nth_mem h0)).kind (by omega)
  have hrs := refN_sg hko
  have hhas : hasK (tyq qs) (nth t.fields 0).kind = true := by
    rcases hk _ hqm with h5 | h5
    · dsimp only at h5; omega
    · exact h5 0 h0
  rw [hk0] at he
  by_cases hs1 : sg (nth t.fields 0).kind = []
  case neg =>
    rw [if_neg fun h => hs1 h.1] at hrs
    unfold refT at he
    rw [hrs] at he
    repeat' (first | (refine run (t := tb) 400 rfl ?_ ?_; (focus (repeat' ((exact trivial))))) | (refine k_op rfl ?_; first | refine v_op (g_ld rfl rfl rfl) rfl rfl ?_ | refine v_op (g_ldS rfl rfl (by assumption) rfl rfl) rfl rfl ?_ | (refine v_op (g_ldRA rfl rfl (by assumption) ?_ rfl rfl) rfl rfl ?_; (focus (((omega)); done))) | (refine v_op (g_iaddrN rfl rfl ?_) rfl rfl ?_; (focus ((omega); done))) | refine c_al rfl rfl fun _ => ?_ | refine c_stA rfl rfl rfl rfl rfl rfl ?_ | (refine v_op (g_pickT rfl rfl ?_) rfl rfl ?_; (focus (((rfl)); done)))) | (refine k_gt rfl rfl ?_ ?_; (focus (((refine decide_eq_true ?_; (assumption))); done))) | (refine k_tt rfl ?_ ?_; (focus ((first | rfl | (refine decide_eq_true ?_; (omega))); done))) | (refine k_ff rfl ?_ ?_; (focus (((refine decide_eq_false ?_; (omega))); done))))
    all_goals refine k_rr (vs := [_]) rfl ⟨rfl, trivial⟩ rfl (List.nil_sublist _) ⟨rfl, rfl, ?_⟩
    all_goals (rw [← he]; rfl)
  by_cases hs2 : bs (nth t.fields 0).kind = [64]
  case neg =>
    rw [if_neg fun h => hs2 h.2] at hrs
    unfold refT at he
    rw [hrs] at he
    repeat' (first | (refine run (t := tb) 400 rfl ?_ ?_; (focus (repeat' ((exact trivial))))) | (refine k_op rfl ?_; first | refine v_op (g_ld rfl rfl rfl) rfl rfl ?_ | refine v_op (g_ldS rfl rfl (by assumption) rfl rfl) rfl rfl ?_ | (refine v_op (g_ldRA rfl rfl (by assumption) ?_ rfl rfl) rfl rfl ?_; (focus (((omega)); done))) | (refine v_op (g_iaddrN rfl rfl ?_) rfl rfl ?_; (focus ((omega); done))) | refine c_al rfl rfl fun _ => ?_ | refine c_stA rfl rfl rfl rfl rfl rfl ?_ | (refine v_op (g_pickF rfl rfl ?_) rfl rfl ?_; (focus (((rfl)); done)))) | (refine k_gf rfl rfl ?_ ?_; (focus (((simp [*]; done)); done))) | (refine k_tt rfl ?_ ?_; (focus (((refine decide_eq_true ?_; first | assumption | omega)); done))) | (refine k_ff rfl ?_ ?_; (focus (((refine decide_eq_false ?_; (omega))); done))))
    all_goals refine k_rr (vs := [_]) rfl ⟨rfl, trivial⟩ rfl (List.nil_sublist _) ⟨rfl, rfl, ?_⟩
    all_goals (rw [← he]; rfl)
  rw [if_pos ⟨hs1, hs2⟩] at hrs
  unfold refT at he
  rw [hrs, Option.bind_some, ← findQ_ty] at he
  have hkv := kvF_find qs (nm (nth t.fields 0).kind)
  have hr2 : refN (core (nth t.fields 0).kind) = some (nm (nth t.fields 0).kind) := by
    have := (bs_at hko).1 hs2
    unfold nm
    cases hx : refN (core (nth t.fields 0).kind) with
    | none => rw [hx] at this; cases this
    | some n => rfl
  unfold hasK at hhas
  rw [hr2] at hhas
  dsimp only at hhas
  rw [← findQ_ty] at hhas
  cases hf : findQ qs (nm (nth t.fields 0).kind) with
  | none => rw [hf] at hhas; cases hhas
  | some q =>
    rw [hf] at hkv he
    dsimp only [Option.map_some] at hkv he
    have hb1 : ¬ sg (nth t.fields 0).kind ≠ [] := fun h => h hs1
    have hb2 : ¬ bs (nth t.fields 0).kind ≠ [64] := fun h => h hs2
    clear hs1 hs2 hrs hr2
    repeat' (first | (refine run (t := tb) 400 rfl ?_ ?_; (focus (repeat' (first | exact trivial | apply And.intro | omega)))) | (refine k_op rfl ?_; first | refine v_op (g_ld rfl rfl rfl) rfl rfl ?_ | refine v_op (g_ldS rfl rfl (by assumption) rfl rfl) rfl rfl ?_ | (refine v_op (g_ldRA rfl rfl (by assumption) ?_ rfl rfl) rfl rfl ?_; (focus (((omega)); done))) | (refine v_op (g_iaddrN rfl rfl ?_) rfl rfl ?_; (focus ((omega); done))) | refine c_al rfl rfl fun _ => ?_ | refine c_stA rfl rfl rfl rfl rfl rfl ?_ | (refine v_op (g_pickF rfl rfl ?_) rfl rfl ?_; (focus (((rfl)); done)))) | (refine k_gf rfl rfl ?_ ?_; (focus (((refine decide_eq_false ?_; (assumption))); done))) | (refine k_tt rfl ?_ ?_; (focus (((refine decide_eq_true ?_; (omega))); done))) | (refine k_ff rfl ?_ ?_; (focus (((refine decide_eq_false ?_; first | assumption | omega)); done))) | (refine k_any (s_any (id := 8) _ (fun _ h => h) mixed ?_); refine x_tks (t := tb) (fuel := 4) [0, 1, 2, 4] (bts 8 23) (by kernel_rfl) (by kernel_rfl) rfl rfl (Gh.le.refl _) (by repeat ((exact List.Sublist.refl _))) ?_ ?_; (focus (repeat' ((exact trivial)))); ((refine (x_tkg (bts 8 31) 3 rfl (by kernel_rfl) rfl (Gh.le.refl _) (by repeat ((exact List.Sublist.refl _)))) (g_ldS rfl rfl (by assumption) rfl rfl) rfl rfl ?_)); ((refine (x_tkg (bts 8 63) 5 rfl (by kernel_rfl) rfl (Gh.le.refl _) (by repeat ((exact List.Sublist.refl _)))) (g_ld rfl rfl rfl) rfl rfl ?_)); ((refine (x_tkg (bts 8 127) 6 rfl (by kernel_rfl) rfl (Gh.le.refl _) (by repeat ((exact List.Sublist.refl _)))) (g_lookupX rfl rfl (map_G (by assumption)) (by assumption) rfl) rfl rfl ?_)); refine x_tks (t := tb) (fuel := 0) [7] (bts 8 255) (by kernel_rfl) (by kernel_rfl) rfl rfl (Gh.le.refl _) (by repeat ((exact List.Sublist.refl _))) ?_ ?_; (focus (repeat' ((exact trivial)))); refine x_done (by kernel_rfl) (k_bk ?_)))
    refine k_rd (q, i + 1) ⟨findQ_mem hf, by dsimp only; omega, ?_⟩ (by dsimp only; omega) (by repeat (first | exact trivial | refine ⟨rfl, ?_⟩)) rfl (by repeat ((exact List.nil_sublist _)))
    dsimp only
    rw [show 9 - (i + 1) = j by omega]
    exact he
end Go.E
/-! Mn -/
namespace Go.E
set_option maxRecDepth 20000
set_option maxHeartbeats 2000000
theorem findT_mem {ts : List Ty} {n : List UInt8} {t : Ty} (h : findT ts n = some t) : t ∈ ts := List.mem_of_find?_eq_some h
theorem refT_mem {ts : List Ty} {k : List UInt8} {t : Ty} (h : refT ts k = some t) : t ∈ ts := by
  unfold refT at h
  cases hr : refN k with
  | none => rw [hr] at h; cases h
  | some n => rw [hr] at h; exact findT_mem h
theorem endsN_mono (ts : List Ty) : ∀ (k : Nat) (t : Ty), endsN ts k t = true → endsN ts (k + 1) t = true
  | 0, t, h => by cases h
  | k + 1, t, h => by
    unfold endsN at h ⊢
    split
    · rfl
    · rename_i hs
      rw [if_neg hs] at h
      cases hr : refT ts (kind0 t) with
      | none => rfl
      | some u => rw [hr] at h; exact endsN_mono ts k u h
def stableAt (ts : List Ty) (k : Nat) : Prop := ∀ t ∈ ts, endsN ts (k + 1) t = endsN ts k t
theorem stable_next {ts : List Ty} {k : Nat} (h : stableAt ts k) : stableAt ts (k + 1) := by
  intro t ht
  rw [endsN, endsN]
  split
  · rfl
  · cases hr : refT ts (kind0 t) with
    | none => rfl
    | some u => exact h u (refT_mem hr)
theorem stable_all {ts : List Ty} {k : Nat} (h : stableAt ts k) : ∀ (m : Nat) (t : Ty), t ∈ ts → endsN ts (k + m) t = endsN ts k t := by
  have hs : ∀ m, stableAt ts (k + m) := fun m => by
    induction m with
    | zero => exact h
    | succ m ih => exact stable_next ih
  intro m t ht
  induction m with
  | zero => rfl
  | succ m ih => rw [← ih]; exact hs m t ht
theorem count_lt {α : Type} {p q : α → Bool} : ∀ {l : List α}, (∀ x ∈ l, p x = true → q x = true) → (∃ x ∈ l, q x = true ∧ p x = false) → l.countP p < l.countP q
  | [], _, h => by obtain ⟨x, hx, _⟩ := h; cases hx
  | a :: l, h1, h2 => by
    have hle : ∀ l : List α, (∀ x ∈ l, p x = true → q x = true) → l.countP p ≤ l.countP q := fun l h => List.countP_mono_left h
    rw [List.countP_cons, List.countP_cons]
    have h3 := hle l fun x hx => h1 x (List.mem_cons_of_mem _ hx)
    obtain ⟨x, hx, h4, h5⟩ := h2
    rcases List.mem_cons.1 hx with rfl | hx
    · simp [h4, h5]; omega
    · have h6 := count_lt (fun x hx => h1 x (List.mem_cons_of_mem _ hx)) ⟨x, hx, h4, h5⟩
      by_cases hp : p a = true
      · simp [hp, h1 a (List.mem_cons_self ..) hp]; exact h6
      · simp [hp]; split <;> omega
theorem unstable_lt {ts : List Ty} {k : Nat} (h : ¬ stableAt ts k) : ts.countP (endsN ts k) < ts.countP (endsN ts (k + 1)) := by
  refine count_lt (fun x _ => endsN_mono ts k x) ?_
  unfold stableAt at h
  simp only [Classical.not_forall] at h
  obtain ⟨t, ht, hne⟩ := h
  refine ⟨t, ht, ?_⟩
  cases h1 : endsN ts k t with
  | false =>
    refine ⟨?_, rfl⟩
    cases h2 : endsN ts (k + 1) t with
    | false => rw [h1, h2] at hne; exact absurd rfl hne
    | true => rfl
  | true => rw [endsN_mono ts k t h1, h1] at hne; exact absurd rfl hne
theorem stable_or (ts : List Ty) (k : Nat) : stableAt ts k ∨ k + 1 ≤ ts.countP (endsN ts (k + 1)) := by
  induction k with
  | zero =>
    by_cases h : stableAt ts 0
    · exact .inl h
    · have := unstable_lt h; exact .inr (by omega)
  | succ k ih =>
    by_cases h : stableAt ts (k + 1)
    · exact .inl h
    · have := unstable_lt h
      rcases ih with h3 | h3
      · exact absurd (stable_next h3) h
      · exact .inr (by omega)
theorem ends_eq {ts : List Ty} {t : Ty} (hl : ts.length ≤ 8) (ht : t ∈ ts) : endsN ts 9 t = endsN ts (ts.length + 1) t := by
  have hs : stableAt ts ts.length := by
    rcases stable_or ts ts.length with h | h
    · exact h
    · have := List.countP_le_length (p := endsN ts (ts.length + 1)) (l := ts)
      omega
  have h1 := stable_all hs (9 - ts.length) t ht
  have h2 := stable_all hs 1 t ht
  rw [show ts.length + (9 - ts.length) = 9 by omega] at h1
  rw [h1, h2]
end Go.E
/-! Mo -/
namespace Go.E
set_option maxRecDepth 20000
set_option maxHeartbeats 2000000
/-- What has been read, and what is left. -/
structure Rdg (s : List UInt8) (ls : List (List UInt8)) (ts : List Ty) (t : List UInt8) : Prop where
  cutE : cut 10 s = ls ++ cut 10 t
  tyE : typesOf ls = some ts
theorem Rdg.start (s : List UInt8) : Rdg s [] [] s := ⟨rfl, rfl⟩
theorem Rdg.len {s : List UInt8} {ls : List (List UInt8)} {ts : List Ty} {t : List UInt8} (h : Rdg s ls ts t) : ts.length = ls.length := (typesOf_w h.tyE).2
theorem cut_line {t line rest : List UInt8} (h : cut1 10 t = (line, rest, true)) : cut 10 t = line :: cut 10 rest := by rw [cut_cut1, h]; rfl
theorem Rdg.step {s : List UInt8} {ls : List (List UInt8)} {ts : List Ty} {t line rest : List UInt8} {x : Ty} (h : Rdg s ls ts t) (hc : cut1 10 t = (line, rest, true)) (hx : tyOf line = some x) : Rdg s (ls ++ [line]) (ts ++ [x]) rest :=
  ⟨by rw [h.cutE, cut_line hc]; simp, by rw [typesOf_snoc h.tyE, hx]; rfl⟩
theorem Rdg.fin {s : List UInt8} {ls : List (List UInt8)} {ts : List Ty} (h : Rdg s ls ts []) (hl : s.length ≤ 400) (h8 : ts.length ≤ 8) : schemaOf s = if ValidT ts then some ts else none := by
  have hlen := h.len
  have e : cut 10 s = ls ++ [[]] := h.cutE
  unfold schemaOf
  rw [e, if_pos ⟨hl, by simp; omega, by simp⟩, List.dropLast_concat, h.tyE]
theorem schema_len {s : List UInt8} (h : ¬ s.length ≤ 400) : schemaOf s = none := by
  unfold schemaOf
  exact if_neg fun h2 => h h2.1
theorem Rdg.noend {s : List UInt8} {ls : List (List UInt8)} {ts : List Ty} {t : List UInt8} (h : Rdg s ls ts t) (ht : t ≠ []) (hc : (cut1 10 t).2.2 = false) : schemaOf s = none := by
  have e : cut 10 s = ls ++ [t] := by rw [h.cutE, cut_cut1, hc]; rfl
  unfold schemaOf
  rw [e, if_neg]
  rintro ⟨_, _, h3⟩
  simp at h3
  exact ht h3
theorem Rdg.many {s : List UInt8} {ls : List (List UInt8)} {ts : List Ty} {t line rest : List UInt8} (h : Rdg s ls ts t) (hc : cut1 10 t = (line, rest, true)) (h8 : ts.length = 8) : schemaOf s = none := by
  have hlen := h.len
  have hp := cut_pos (k := 10) (s := rest)
  unfold schemaOf
  rw [h.cutE, cut_line hc, if_neg]
  rintro ⟨_, h3, _⟩
  simp at h3
  omega
theorem drop_last {ls : List (List UInt8)} {line rest : List UInt8} : (ls ++ line :: cut 10 rest).dropLast = (ls ++ [line]) ++ (cut 10 rest).dropLast := by
  have hp := cut_pos (k := 10) (s := rest)
  have hne : cut 10 rest ≠ [] := fun e => by rw [e] at hp; simp at hp
  rw [List.dropLast_append_of_ne_nil (by simp), List.dropLast_cons_of_ne_nil hne]; simp
theorem Rdg.bad {s : List UInt8} {ls : List (List UInt8)} {ts : List Ty} {t line rest : List UInt8} (h : Rdg s ls ts t) (hc : cut1 10 t = (line, rest, true)) (hx : tyOf line = none) : schemaOf s = none := by
  have hn : typesOf (ls ++ [line]) = none := by rw [typesOf_snoc h.tyE, hx]; rfl
  unfold schemaOf
  split
  · rw [h.cutE, cut_line hc, drop_last, typesOf_app_none hn]
  · rfl
theorem typesOf_pre : ∀ {xs ys : List (List UInt8)} {ts us : List Ty}, typesOf xs = some ts → typesOf (xs ++ ys) = some us → ∃ vs, us = ts ++ vs
  | [], ys, ts, us, h, h2 => by simp only [typesOf, Option.some.injEq] at h; subst h; exact ⟨us, rfl⟩
  | x :: xs, ys, ts, us, h, h2 => by
    unfold typesOf at h
    rw [List.cons_append, typesOf] at h2
    cases hx : tyOf x with
    | none => rw [hx] at h; cases h
    | some t =>
      rw [hx] at h h2
      dsimp only at h h2
      cases hr : typesOf xs with
      | none => rw [hr] at h; cases h
      | some ws =>
        rw [hr] at h
        simp only [Option.map_some, Option.some.injEq] at h; subst h
        cases hq : typesOf (xs ++ ys) with
        | none => rw [hq] at h2; cases h2
        | some zs =>
          rw [hq] at h2
          simp only [Option.map_some, Option.some.injEq] at h2; subst h2
          obtain ⟨vs, rfl⟩ := typesOf_pre hr hq
          exact ⟨vs, rfl⟩
theorem nth_app {α : Type} [Inhabited α] {xs ys : List α} {i : Nat} (h : i < xs.length) : nth (xs ++ ys) i = nth xs i := by
  rw [nth_eq h, nth_eq (by simp; omega), List.getElem_append_left h]
theorem Rdg.dup {s : List UInt8} {ls : List (List UInt8)} {ts : List Ty} {t line rest : List UInt8} {x : Ty} (h : Rdg s ls ts t) (hc : cut1 10 t = (line, rest, true)) (hx : tyOf line = some x) (i : Nat) (hi : i < ts.length) (hd : (nth ts i).name = x.name) : schemaOf s = none := by
  have h2 := h.step hc hx
  unfold schemaOf
  split
  · rw [h.cutE, cut_line hc, drop_last]
    cases hr : typesOf (ls ++ [line] ++ (cut 10 rest).dropLast) with
    | none => rfl
    | some us =>
      obtain ⟨vs, rfl⟩ := typesOf_pre h2.tyE hr
      dsimp only
      rw [if_neg]
      intro hv
      have h3 := (hv.1 ts.length (by simp)).1 i hi
      have e1 : nth (ts ++ [x] ++ vs) i = nth ts i := by rw [nth_app (by simp; omega), nth_app hi]
      have e2 : nth (ts ++ [x] ++ vs) ts.length = x := by rw [nth_app (by simp), nth_eq (by simp)]; simp
      rw [e1, e2] at h3
      exact h3 hd
  · rfl
end Go.E
/-! Mp -/
namespace Go.E
set_option maxRecDepth 20000
set_option maxHeartbeats 2000000
open Go.Proofs
variable {G : Gh}
abbrev tPT : TypeId := 77
abbrev tSc : TypeId := 74
def RsPost (s : List UInt8) (v : Value) (G : Gh) : Prop := (schemaOf s = none ∧ ∃ p, v = Tu [p, Bo false]) ∨ ∃ b qs, v = Tu [Pt b 0, Bo true] ∧ schemaOf s = some (tyq qs) ∧ ScI G b qs
theorem tyq_len (qs : List TyP) : (tyq qs).length = qs.length := by simp [tyq]
theorem nth_tyq {qs : List TyP} {i : Nat} (h : i < qs.length) : nth (tyq qs) i = (nth qs i).2 := by
  rw [nth_eq h, nth_eq (by rw [tyq_len]; exact h)]; simp [tyq]
theorem findQ_some {qs : List TyP} {n : List UInt8} {q : TyP} (h : findQ qs n = some q) : ∃ i, i < (tyq qs).length ∧ (nth (tyq qs) i).name = n := by
  have h1 := findQ_mem h
  have h2 : n = q.2.name := by unfold findQ at h; simpa using List.find?_some h
  obtain ⟨i, hi, rfl⟩ := mem_nth h1
  exact ⟨i, by rw [tyq_len]; exact hi, by rw [nth_tyq hi, h2]⟩
theorem findQ_none {qs : List TyP} {n : List UInt8} (h : findQ qs n = none) : ∀ i, i < qs.length → (nth (tyq qs) i).name ≠ n := by
  intro i hi e
  unfold findQ at h
  rw [List.find?_eq_none] at h
  have := h _ (nth_mem hi)
  rw [nth_tyq hi] at e
  simp [e] at this
theorem c_readSchema {s : List UInt8} (h : s.length ≤ 10000000) : FnS Tryd.prog 26 [S s] G (RsPost s) := by
  by_cases hl : s.length ≤ 400
  case neg =>
    have hno := schema_len hl
    refine b_enter [(0, _)] Tryd.func26 (by kernel_rfl) Tryd.ntmps26 rfl rfl (by repeat (first | exact trivial | refine ⟨rfl, ?_⟩)) fun B hok hB hW => ?_
    repeat' (first | (refine run (t := tb) 400 rfl ?_ ?_; (focus (repeat' ((exact trivial))))) | (refine k_tt rfl ?_ ?_; (focus (((refine decide_eq_true ?_; (omega))); done))))
    all_goals refine k_rr (vs := [_, _]) rfl ⟨rfl, rfl, trivial⟩ rfl (List.nil_sublist _) ⟨Gh.le.refl _, rfl, ?_⟩
    all_goals exact .inl ⟨hno, _, rfl⟩
  refine b_enter [(0, _)] Tryd.func26 (by kernel_rfl) Tryd.ntmps26 rfl rfl (by repeat (first | exact trivial | refine ⟨rfl, ?_⟩)) fun B hok hB hW => ?_
  repeat' (first | (refine run (t := tb) 400 rfl ?_ ?_; (focus (repeat' ((exact trivial))))) | (refine k_op rfl ?_; first | refine c_mkm rfl fun _ => ?_ | refine v_op (g_bld rfl rfl) rfl rfl ?_ | refine c_bx rfl rfl rfl fun _ => ?_) | (refine k_ff rfl ?_ ?_; (focus (((refine decide_eq_false ?_; (omega))); done))))
  rename_i m x
  refine Nx.addNil tPT 1 ?_
  refine k_loop (ι := Value × List TyP × List (List UInt8) × List UInt8 × Gh) (fun i => Rdg s i.2.2.1 (tyq i.2.1) i.2.2.2.1 ∧ (i.2.1.length ≤ 8 ∧ i.2.2.2.1.length ≤ s.length) ∧ (∀ a, a < i.2.1.length → NamesAt (tyq i.2.1) a) ∧ (∀ q ∈ i.2.1, TyI i.2.2.2.2 q.1 q.2) ∧ Gh.le G i.2.2.2.2) (fun i => [(0, S i.2.2.2.1), (4, Pt x 0)]) (fun i => i.2.2.2.2) (fun i => [.acc i.1 tPT 1 i.2.1.length (rows ptF i.2.1), .blk x (.cells [i.1, .map (some m)].toArray tSc (0, 0)), .blk m (mapO (kvsOf i.2.1))]) (fun i => i.2.2.2.1.length) (nilS, [], [], s, G) ?_ (by repeat (first | exact trivial | refine ⟨rfl, ?_⟩)) rfl (by repeat ((exact List.Sublist.refl _))) (fun i Hi => ?_)
  · exact ⟨Rdg.start s, ⟨by simp, Nat.le_refl _⟩, fun a ha => absurd ha (by simp), by simp, Gh.le.refl _⟩
  obtain ⟨u, qs, ls, t, Gk⟩ := i
  dsimp only at Hi ⊢
  obtain ⟨hR, ⟨h8, htl⟩, hna, hti, hgk⟩ := Hi
  refine Nx.shp (v := u) (.head _) fun hsh => ?_
  have hsh2 := hsh
  obtain ⟨au, cu, rfl⟩ := hsh.sl
  by_cases ht : t = []
  case neg =>
    have cx_cut : ∀ G, PuG Tryd.prog 34 [S t, S [10]] G (· = Tu [S (cut1 10 t).1, S (cut1 10 t).2.1, Bo (cut1 10 t).2.2]) := fun G => c_Cut (c := 10) (by omega)
    have hcl := cut1_len (k := 10) (s := t)
    cases hc : (cut1 10 t).2.2 with
    | false =>
      have hno := hR.noend ht hc
      have hc2 : (!(cut1 10 t).2.2) = true := by rw [hc]; rfl
      repeat' (first | (refine run (t := tb) 400 rfl ?_ ?_; (focus (repeat' ((exact trivial))))) | (refine k_op rfl ?_; first | (refine v_op (g_pickT rfl rfl ?_) rfl rfl ?_; (focus (((rfl)); done))) | (refine c_rt rfl rfl rfl (cx_cut _) rfl ?_)) | (refine k_gt rfl rfl ?_ ?_; (focus (((assumption)); done))) | (refine k_tt rfl ?_ ?_; (focus ((first | rfl | (refine decide_eq_true ?_; (assumption))); done))))
      all_goals refine k_rr (vs := [_, _]) rfl ⟨rfl, rfl, trivial⟩ rfl (List.nil_sublist _) ⟨hgk, rfl, ?_⟩
      all_goals exact .inl ⟨hno, _, rfl⟩
    | true =>
      have hce : cut1 10 t = ((cut1 10 t).1, (cut1 10 t).2.1, true) := by rw [← hc]
      have hlt : (cut1 10 t).2.1.length < t.length := by
        obtain ⟨d, _, e⟩ := cut1_some hce
        have := congrArg List.length e
        simp at this; omega
      rw [hc] at cx_cut
      generalize (cut1 10 t).1 = line at *
      generalize (cut1 10 t).2.1 = rest at *
      clear hc
      by_cases h9 : qs.length = 8
      · have hno := hR.many hce (by rw [tyq_len]; exact h9)
        repeat' (first | (refine run (t := tb) 400 rfl ?_ ?_; (focus (repeat' ((exact trivial))))) | (refine k_op rfl ?_; first | refine v_op (g_ld rfl rfl rfl) rfl rfl ?_ | refine v_op (g_lenL rfl) rfl rfl ?_ | (refine v_op (g_pickF rfl rfl ?_) rfl rfl ?_; (focus (((rfl)); done))) | (refine c_rt rfl rfl rfl (cx_cut _) rfl ?_)) | (refine k_gf rfl rfl ?_ ?_; (focus (((rfl)); done))) | (refine k_tt rfl ?_ ?_; (focus (((refine decide_eq_true ?_; first | assumption | omega)); done))))
        all_goals refine k_rr (vs := [_, _]) rfl ⟨rfl, rfl, trivial⟩ rfl (List.nil_sublist _) ⟨hgk, rfl, ?_⟩
        all_goals exact .inl ⟨hno, _, rfl⟩
      have hle1 : line.length ≤ 1000 := by omega
      cases hty : tyOf line with
      | none =>
        have hno := hR.bad hce hty
        have cx_rt0 : ∀ G, FnS Tryd.prog 35 [S line] G (fun v _ => ∃ p, v = Tu [p, Bo false]) := fun G => by
          refine (c_readType (G := G) hle1).mono ?_
          rintro v G' L' ⟨h1, h2, ⟨_, p, rfl⟩ | ⟨_, _, _, h4, _⟩⟩
          · exact ⟨h1, h2, p, rfl⟩
          · rw [hty] at h4; cases h4
        repeat' (first | (refine run (t := tb) 400 rfl ?_ ?_; (focus (repeat' ((exact trivial))))) | (refine k_op rfl ?_; first | refine v_op (g_ld rfl rfl rfl) rfl rfl ?_ | refine v_op (g_lenL rfl) rfl rfl ?_ | (refine v_op (g_pickF rfl rfl ?_) rfl rfl ?_; (focus (((rfl)); done))) | (refine c_rt rfl rfl rfl (cx_cut _) rfl ?_) | (refine c_fns rfl rfl rfl (cx_rt0 _) rfl ?_; rintro _ G hle ⟨p, rfl⟩; skip)) | (refine k_gf rfl rfl ?_ ?_; (focus (((rfl)); done))) | (refine k_tt rfl ?_ ?_; (focus ((first | rfl | (refine decide_eq_true ?_; (assumption))); done))) | (refine k_ff rfl ?_ ?_; (focus (((refine decide_eq_false ?_; (omega))); done))) | (refine k_any (s_any (id := 9) _ (fun _ h => h) mixed ?_); refine x_tks (t := tb) (fuel := 11) [0, 1, 2] (bts 14 7) (by kernel_rfl) (by kernel_rfl) rfl rfl (Gh.le.refl _) (by repeat ((exact List.Sublist.refl _))) ?_ ?_; (focus (repeat' ((exact trivial)))); (try ((refine Nx.re (d := 47) (v' := Bo true) rfl (congrArg Value.bool ?_) ?_; (focus (((rfl)); done))))); refine x_tks (t := tb) (fuel := 5) [3, 4, 5, 7, 8, 9] (bts 14 959) (by kernel_rfl) (by kernel_rfl) rfl rfl (Gh.le.refl _) (by repeat ((exact List.Sublist.refl _))) ?_ ?_; (focus (repeat' ((exact trivial)))); ((refine x_tkn (bts 14 1023) 6 rfl (by kernel_rfl) rfl (Gh.le.refl _) (by repeat ((exact List.Sublist.refl _))) rfl rfl ?_)); ((refine x_tkn (bts 14 2047) 10 rfl (by kernel_rfl) rfl (Gh.le.refl _) (by repeat ((exact List.Sublist.refl _))) rfl rfl ?_)); ((refine x_tkn (bts 14 4095) 11 rfl (by kernel_rfl) rfl (Gh.le.refl _) (by repeat ((exact List.Sublist.refl _))) rfl rfl ?_)); ((refine x_tkn (bts 14 8191) 12 rfl (by kernel_rfl) rfl (Gh.le.refl _) (by repeat ((exact List.Sublist.refl _))) rfl rfl ?_)); ((refine (x_tkg (bts 14 16383) 13 rfl (by kernel_rfl) rfl (Gh.le.refl _) (by repeat ((exact List.Sublist.refl _)))) (g_pickT rfl rfl ?_) rfl rfl ?_; (focus (((rfl)); done)))); refine x_done (by kernel_rfl) (k_bk ?_)))
        all_goals refine k_rr (vs := [_, _]) rfl ⟨rfl, rfl, trivial⟩ rfl (List.nil_sublist _) ⟨hgk.trans hle, rfl, ?_⟩
        all_goals exact .inl ⟨hno, _, rfl⟩
      | some ty =>
      have cx_rt1 : ∀ G, FnS Tryd.prog 35 [S line] G (fun v G' => ∃ b fv ln, v = Tu [Pt b 0, Bo true] ∧ Seg G' b 0 [U8 ty.sort, S ty.name, fv, S ln] ∧ SlV G' fv 6 ty.fields.length (rows fiF ty.fields)) := fun G => by
        refine (c_readType (G := G) hle1).mono ?_
        rintro v G' L' ⟨h1, h2, ⟨h4, _⟩ | ⟨b, t2, rfl, h4, fv, ln, h5, h6⟩⟩
        · rw [hty] at h4; cases h4
        · rw [hty] at h4; simp only [Option.some.injEq] at h4; subst h4
          exact ⟨h1, h2, b, fv, ln, rfl, h5, h6⟩
      have hkv := kvF_find qs ty.name
      cases hf : findQ qs ty.name with
      | some q =>
        rw [hf] at hkv
        dsimp only [Option.map_some] at hkv
        obtain ⟨i, hi, hn⟩ := findQ_some hf
        have hno := hR.dup hce hty i hi hn
        repeat' (first | (refine run (t := tb) 400 rfl ?_ ?_; (focus (repeat' ((exact trivial))))) | (refine k_op rfl ?_; first | refine v_op (g_ld rfl rfl rfl) rfl rfl ?_ | refine v_op (g_lenL rfl) rfl rfl ?_ | (refine v_op (g_pickF rfl rfl ?_) rfl rfl ?_; (focus (((rfl)); done))) | (refine c_rt rfl rfl rfl (cx_cut _) rfl ?_) | (refine c_fns rfl rfl rfl (cx_rt1 _) rfl ?_; rintro _ G hle ⟨b, fv, ln, rfl, hsg, hfv⟩; skip)) | (refine k_gf rfl rfl ?_ ?_; (focus (((rfl)); done))) | (refine k_tt rfl ?_ ?_; (focus ((first | rfl | (refine decide_eq_true ?_; (assumption))); done))) | (refine k_ff rfl ?_ ?_; (focus (((refine decide_eq_false ?_; (omega))); done))) | (refine k_any (s_any (id := 9) _ (fun _ h => h) mixed ?_); refine x_tks (t := tb) (fuel := 11) [0, 1, 2] (bts 14 7) (by kernel_rfl) (by kernel_rfl) rfl rfl (Gh.le.refl _) (by repeat ((exact List.Sublist.refl _))) ?_ ?_; (focus (repeat' ((exact trivial)))); (try ((refine Nx.re (d := 47) (v' := Bo false) rfl (congrArg Value.bool ?_) ?_; (focus (((rfl)); done))))); refine x_tks (t := tb) (fuel := 5) [3, 4, 5, 7, 8, 9] (bts 14 959) (by kernel_rfl) (by kernel_rfl) rfl rfl (Gh.le.refl _) (by repeat ((exact List.Sublist.refl _))) ?_ ?_; (focus (repeat' ((exact trivial)))); ((refine (x_tkg (bts 14 1023) 6 rfl (by kernel_rfl) rfl (Gh.le.refl _) (by repeat ((exact List.Sublist.refl _)))) (g_ld rfl rfl rfl) rfl rfl ?_)); ((refine (x_tkg (bts 14 2047) 10 rfl (by kernel_rfl) rfl (Gh.le.refl _) (by repeat ((exact List.Sublist.refl _)))) (g_ldS rfl rfl (by assumption) rfl rfl) rfl rfl ?_)); ((refine (x_tkg (bts 14 4095) 11 rfl (by kernel_rfl) rfl (Gh.le.refl _) (by repeat ((exact List.Sublist.refl _)))) (g_lookupX rfl rfl (map_own MapI.mem) (by assumption) rfl) rfl rfl ?_)); ((refine (x_tkg (bts 14 8191) 12 rfl (by kernel_rfl) rfl (Gh.le.refl _) (by repeat ((exact List.Sublist.refl _)))) (g_pne0 rfl rfl) rfl rfl ?_)); ((refine (x_tkg (bts 14 16383) 13 rfl (by kernel_rfl) rfl (Gh.le.refl _) (by repeat ((exact List.Sublist.refl _)))) (g_pickF rfl rfl ?_) rfl rfl ?_; (focus (((rfl)); done)))); refine x_done (by kernel_rfl) (k_bk ?_)))
        all_goals refine k_rr (vs := [_, _]) rfl ⟨rfl, rfl, trivial⟩ rfl (List.nil_sublist _) ⟨hgk.trans hle, rfl, ?_⟩
        all_goals exact .inl ⟨hno, _, rfl⟩
      | none =>
        rw [hf] at hkv
        dsimp only [Option.map_none] at hkv
        
        repeat' (first | (refine run (t := tb) 400 rfl ?_ ?_; (focus (repeat' ((exact trivial))))) | (refine k_op rfl ?_; first | refine v_op (g_ld rfl rfl rfl) rfl rfl ?_ | refine v_op (g_lenL rfl) rfl rfl ?_ | (refine v_op (g_pickF rfl rfl ?_) rfl rfl ?_; (focus (((rfl)); done))) | (refine c_rt rfl rfl rfl (cx_cut _) rfl ?_) | (refine c_fns rfl rfl rfl (cx_rt1 _) rfl ?_; rintro _ G hle ⟨b, fv, ln, rfl, hsg, hfv⟩; skip)) | (refine k_gf rfl rfl ?_ ?_; (focus (((rfl)); done))) | (refine k_tt rfl ?_ ?_; (focus (((refine decide_eq_true ?_; (assumption))); done))) | (refine k_ff rfl ?_ ?_; (focus (((refine decide_eq_false ?_; (omega))); done))))
        (refine k_any (s_any (id := 9) _ (fun _ h => h) mixed ?_); refine x_tks (t := tb) (fuel := 11) [0, 1, 2] (bts 14 7) (by kernel_rfl) (by kernel_rfl) rfl rfl (Gh.le.refl _) (by repeat ((exact List.Sublist.refl _))) ?_ ?_; (focus (repeat' ((exact trivial)))); (try ((refine Nx.re (d := 47) (v' := Bo false) rfl (congrArg Value.bool ?_) ?_; (focus (((rfl)); done))))); refine x_tks (t := tb) (fuel := 5) [3, 4, 5, 7, 8, 9] (bts 14 959) (by kernel_rfl) (by kernel_rfl) rfl rfl (Gh.le.refl _) (by repeat ((exact List.Sublist.refl _))) ?_ ?_; (focus (repeat' ((exact trivial)))); ((refine (x_tkg (bts 14 1023) 6 rfl (by kernel_rfl) rfl (Gh.le.refl _) (by repeat ((exact List.Sublist.refl _)))) (g_ld rfl rfl rfl) rfl rfl ?_)); ((refine (x_tkg (bts 14 2047) 10 rfl (by kernel_rfl) rfl (Gh.le.refl _) (by repeat ((exact List.Sublist.refl _)))) (g_ldS rfl rfl (by assumption) rfl rfl) rfl rfl ?_)); ((refine (x_tkg (bts 14 4095) 11 rfl (by kernel_rfl) rfl (Gh.le.refl _) (by repeat ((exact List.Sublist.refl _)))) (g_lookupX rfl rfl (map_own MapI.mem) (by assumption) rfl) rfl rfl ?_)); ((refine (x_tkg (bts 14 8191) 12 rfl (by kernel_rfl) rfl (Gh.le.refl _) (by repeat ((exact List.Sublist.refl _)))) (g_pne0 rfl rfl) rfl rfl ?_)); ((refine (x_tkg (bts 14 16383) 13 rfl (by kernel_rfl) rfl (Gh.le.refl _) (by repeat ((exact List.Sublist.refl _)))) (g_pickF rfl rfl ?_) rfl rfl ?_; (focus (((rfl)); done)))); refine x_done (by kernel_rfl) (k_bk ?_))
        repeat' (first | (refine run (t := tb) 400 rfl ?_ ?_; (focus (repeat' ((exact trivial))))) | (refine k_op rfl ?_; first | refine v_op (g_ld rfl rfl rfl) rfl rfl ?_ | refine c_bsl rfl rfl rfl rfl rfl rfl fun _ => ?_ | (refine c_apX rfl rfl rfl rfl rfl rfl rfl rfl rfl ?_ fun _ _ => ?_; (focus ((omega); done))) | refine c_st1 rfl rfl rfl rfl ?_) | (refine k_ff rfl ?_ ?_; (focus (((rfl)); done))))
        rename_i w b2 c2
        (refine k_any (s_any (id := 12) [.blk x (.cells [.slice (some ⟨b2, 0, none⟩) (qs.length + 1) c2, .map (some m)].toArray tSc (0, 0))] (by intro y hy; simp only [List.mem_cons, List.not_mem_nil, or_false] at hy ⊢; simp [hy]) mixed ?_); refine x_tks (t := tb) (fuel := 3) [0, 1, 2, 4, 5, 6, 8] (bts 10 375) (by kernel_rfl) (by kernel_rfl) rfl rfl (Gh.le.refl _) (by repeat (first | exact List.nil_sublist _ | apply List.Sublist.cons_cons | apply List.Sublist.cons)) ?_ ?_; (focus (repeat' ((exact trivial)))); ((refine (x_tkg (bts 10 383) 3 rfl (by kernel_rfl) rfl (Gh.le.refl _) (by repeat (first | exact List.nil_sublist _ | apply List.Sublist.cons_cons | apply List.Sublist.cons))) (g_ld rfl rfl rfl) rfl rfl ?_)); ((refine (x_tkg (bts 10 511) 7 rfl (by kernel_rfl) rfl (Gh.le.refl _) (by repeat (first | exact List.nil_sublist _ | apply List.Sublist.cons_cons | apply List.Sublist.cons))) (g_ldS rfl rfl (by assumption) rfl rfl) rfl rfl ?_)); refine x_all [9] (by kernel_rfl) (by decide) ⟨?_, trivial⟩; refine x_opg rfl rfl ?_; ((refine c_mup rfl rfl rfl rfl ?_ ?_; (focus (((assumption)); done)))); refine x_ks (by (exact Gh.le.refl _)) (by repeat (first | exact List.nil_sublist _ | apply List.Sublist.cons_cons | apply List.Sublist.cons)) (listed' := (bts 10 1023)) (by kernel_rfl) ?_; refine x_done (by kernel_rfl) (k_bk ?_))
        repeat' ((refine run (t := tb) 400 rfl ?_ ?_; (focus (repeat' ((exact trivial))))))
        
        have e1 : kvsOf qs ++ [(ty.name, Pt b 0)] = kvsOf (qs ++ [(b, ty)]) := by simp [kvsOf]
        have e2 : rows ptF qs ++ [Pt b 0] = rows ptF (qs ++ [(b, ty)]) := (rows_snoc ptF qs (b, ty)).symm
        have e3 : tyq (qs ++ [(b, ty)]) = tyq qs ++ [ty] := by simp [tyq]
        rw [e1, e2]
        refine k_rd (.slice (some ⟨b2, 0, none⟩) (qs.length + 1) c2, qs ++ [(b, ty)], ls ++ [line], rest, G) ⟨?_, ⟨by simp; omega, by dsimp only; omega⟩, ?_, ?_, hgk.trans hle⟩ (by dsimp only; omega) (by repeat (first | exact trivial | refine ⟨rfl, ?_⟩)) rfl (by dsimp only; simp only [List.length_append, List.length_cons, List.length_nil, Nat.zero_add]; repeat (first | exact List.Sublist.refl _ | apply List.Sublist.cons_cons | apply List.Sublist.cons))
        · dsimp only; rw [e3]; exact hR.step hce hty
        · intro a ha k hk
          dsimp only at ha ⊢
          rw [e3]
          have hlen := tyq_len qs
          have hal : a < qs.length + 1 := by simpa using ha
          rcases Nat.lt_or_ge a qs.length with h3 | h3
          · rw [nth_app (by omega), nth_app (by omega)]; exact hna a h3 k hk
          · have ea : a = qs.length := by omega
            have e4 : nth (tyq qs ++ [ty]) a = ty := by rw [nth_eq (by simp; omega), List.getElem_append_right (by omega)]; simp
            rw [nth_app (by omega), e4]
            exact findQ_none hf k (by omega)
        · intro q hq
          dsimp only at hq ⊢
          rcases List.mem_append.1 hq with hq | hq
          · exact (hti q hq).mono hle
          · simp only [List.mem_singleton] at hq; subst hq; exact ⟨fv, ln, hsg, hfv⟩
  · subst ht
    have hfin := hR.fin hl (by rw [tyq_len]; exact h8)
    have hw : ∀ q ∈ qs, TyW q.2 := fun q hq => (typesOf_w hR.tyE).1 q.2 (show q.2 ∈ qs.map (fun y => y.2) from List.mem_map_of_mem hq)
    refine Nx.sealS (v := .slice au qs.length cu) fun G1 hl1 hsl => ?_
    refine Nx.sealC (b := x) fun G2 hl2 hsx => ?_
    refine Nx.sealM (b := m) fun G3 hl3 hmm => ?_
    have hS : ScI G3 x qs := ⟨⟨_, m, hsx.mono hl3, hsl.mono (hl2.trans hl3), hmm⟩, fun q hq => (hti q hq).mono ((hl1.trans hl2).trans hl3)⟩
    have hgl : Gh.le G G3 := ((hgk.trans hl1).trans hl2).trans hl3
    have hsx3 := hsx.mono hl3
    have hsl3 := hsl.mono (hl2.trans hl3)
    repeat' (first | (refine run (t := tb) 400 rfl ?_ ?_; (focus (repeat' ((exact trivial))))) | (refine k_op rfl ?_; first | refine v_op (g_ldS rfl rfl (by assumption) rfl rfl) rfl rfl ?_ | refine v_op (g_lenL rfl) rfl rfl ?_) | (refine k_ff rfl ?_ ?_; (focus (((rfl)); done))))
    refine k_loop (ι := Nat) (fun k => k ≤ qs.length ∧ ∀ j, j < k → KindsOk (tyq qs) (nth qs j).2) (fun k => [(4, Pt x 0), (82, .slice au qs.length cu), (83, I qs.length), (84, I k)]) (fun k => G3) (fun k => []) (fun k => qs.length - k) 0 ?_ (by repeat (first | exact trivial | refine ⟨rfl, ?_⟩)) rfl (by repeat ((exact List.Sublist.refl _))) (fun k Hk => ?_)
    · exact ⟨Nat.zero_le _, fun j hj => absurd hj (by omega)⟩
    by_cases hk : k < qs.length
    case neg =>
      have hko : ∀ q ∈ qs, KindsOk (tyq qs) q.2 := fun q hq => by
        obtain ⟨j, hj, rfl⟩ := mem_nth hq
        exact Hk.2 j (by omega)
      repeat' (first | (refine run (t := tb) 400 rfl ?_ ?_; (focus (repeat' ((exact trivial))))) | (refine k_op rfl ?_; first | refine v_op (g_ldS rfl rfl (by assumption) rfl rfl) rfl rfl ?_ | refine v_op (g_lenL rfl) rfl rfl ?_) | (refine k_ff rfl ?_ ?_; (focus (((refine decide_eq_false ?_; (omega))); done))))
      refine k_loop (ι := Nat) (fun k => k ≤ qs.length ∧ ∀ j, j < k → endsN (tyq qs) 9 (nth qs j).2 = true) (fun k => [(4, Pt x 0), (114, .slice au qs.length cu), (115, I qs.length), (116, I k)]) (fun k => G3) (fun k => []) (fun k => qs.length - k) 0 ?_ (by repeat (first | exact trivial | refine ⟨rfl, ?_⟩)) rfl (by repeat ((exact List.Sublist.refl _))) (fun k Hk => ?_)
      · exact ⟨Nat.zero_le _, fun j hj => absurd hj (by omega)⟩
      have hends : ∀ j, j < qs.length → endsN (tyq qs) 9 (nth qs j).2 = endsN (tyq qs) ((tyq qs).length + 1) (nth (tyq qs) j) := fun j hj => by
        rw [nth_tyq hj]
        exact ends_eq (by rw [tyq_len]; exact h8) (show (nth qs j).2 ∈ qs.map (fun y => y.2) from List.mem_map_of_mem (nth_mem hj))
      by_cases hk2 : k < qs.length
      case neg =>
        have hv : ValidT (tyq qs) := by
          refine ⟨fun j hj => ?_, fun j hj => ?_⟩
          · rw [tyq_len] at hj
            exact ⟨hna j hj, by rw [nth_tyq hj]; exact hko _ (nth_mem hj)⟩
          · rw [tyq_len] at hj
            rw [← hends j hj]; exact Hk.2 j (by omega)
        repeat' (first | (refine run (t := tb) 400 rfl ?_ ?_; (focus (repeat' ((exact trivial))))) | (refine k_ff rfl ?_ ?_; (focus (((refine decide_eq_false ?_; (omega))); done))))
        all_goals refine k_rr (vs := [_, _]) rfl ⟨rfl, rfl, trivial⟩ rfl (List.nil_sublist _) ⟨hgl, rfl, ?_⟩
        all_goals exact .inr ⟨x, qs, rfl, by rw [hfin, if_pos hv], hS⟩
      obtain ⟨ba, oa, ca, ea, hsa⟩ := hsl3.expl (by omega)
      simp only [Value.slice.injEq] at ea
      obtain ⟨rfl, -, rfl⟩ := ea
      rcases hq : nth qs k with ⟨p, ty⟩
      have hqm : (p, ty) ∈ qs := by rw [← hq]; exact nth_mem hk2
      have cx_en2 := c_endsI hS hw hko hqm
      have hek := hends k hk2
      rw [hq] at hek
      dsimp only at hek
      by_cases he : endsN (tyq qs) 9 ty = true
      · have he2 : (!endsN (tyq qs) 9 ty) = false := by rw [he]; rfl
        repeat' (first | (refine run (t := tb) 400 rfl ?_ ?_; (focus (repeat' (first | exact trivial | apply And.intro | omega)))) | (refine k_op rfl ?_; first | (refine v_op (g_ldR1x rfl rfl (by assumption) ?_ (by assumption) rfl) rfl rfl ?_; (focus (((omega)); done))) | (refine v_op (g_iaddrN rfl rfl ?_) rfl rfl ?_; (focus ((omega); done))) | (refine c_rt rfl rfl rfl cx_en2 rfl ?_)) | (refine k_tt rfl ?_ ?_; (focus (((refine decide_eq_true ?_; (omega))); done))) | (refine k_ff rfl ?_ ?_; (focus (((assumption)); done))))
        refine k_rd (k + 1) ⟨by omega, fun j hj => ?_⟩ (by omega) (by repeat (first | exact trivial | refine ⟨rfl, ?_⟩)) rfl (by repeat ((exact List.Sublist.refl _)))
        rcases Nat.lt_or_ge j k with h3 | h3
        · exact Hk.2 j h3
        · have : j = k := by omega
          subst this; rw [hq]; exact he
      · have he2 : (!endsN (tyq qs) 9 ty) = true := by simpa using he
        have hno : schemaOf s = none := by
          rw [hfin, if_neg]
          intro hv
          have := hv.2 k (by rw [tyq_len]; exact hk2)
          rw [← hek] at this
          exact he this
        repeat' (first | (refine run (t := tb) 400 rfl ?_ ?_; (focus (repeat' ((exact trivial))))) | (refine k_op rfl ?_; first | (refine v_op (g_ldR1x rfl rfl (by assumption) ?_ (by assumption) rfl) rfl rfl ?_; (focus (((omega)); done))) | (refine v_op (g_iaddrN rfl rfl ?_) rfl rfl ?_; (focus ((omega); done))) | (refine c_rt rfl rfl rfl cx_en2 rfl ?_)) | (refine k_tt rfl ?_ ?_; (focus ((first | assumption | (refine decide_eq_true ?_; (omega))); done))))
        all_goals refine k_rr (vs := [_, _]) rfl ⟨rfl, rfl, trivial⟩ rfl (List.nil_sublist _) ⟨hgl, rfl, ?_⟩
        all_goals exact .inl ⟨hno, _, rfl⟩
    obtain ⟨ba, oa, ca, ea, hsa⟩ := hsl3.expl (by omega)
    simp only [Value.slice.injEq] at ea
    obtain ⟨rfl, -, rfl⟩ := ea
    rcases hq : nth qs k with ⟨p, ty⟩
    have hqm : (p, ty) ∈ qs := by rw [← hq]; exact nth_mem hk
    obtain ⟨fv, ln, hsg, hfv⟩ := hS.ty _ hqm
    dsimp only at hsg hfv
    have hW := hw _ hqm
    dsimp only at hW
    have h88 := hW.len
    repeat' (first | (refine run (t := tb) 400 rfl ?_ ?_; (focus (repeat' ((exact trivial))))) | (refine k_op rfl ?_; first | refine v_op (g_ldS rfl rfl (by assumption) rfl rfl) rfl rfl ?_ | (refine v_op (g_ldR1x rfl rfl (by assumption) ?_ (by assumption) rfl) rfl rfl ?_; (focus (((omega)); done))) | refine v_op (g_lenV rfl (by assumption)) rfl rfl ?_ | (refine v_op (g_iaddrN rfl rfl ?_) rfl rfl ?_; (focus ((omega); done)))) | (refine k_tt rfl ?_ ?_; (focus (((refine decide_eq_true ?_; (omega))); done))))
    refine k_loop (ι := Nat) (fun l => l ≤ ty.fields.length ∧ (ty.sort = 69 ∨ ∀ j, j < l → hasK (tyq qs) (nth ty.fields j).kind = true)) (fun l => [(4, Pt x 0), (11, Pt p 0), (82, .slice (some ⟨ba, oa, none⟩) qs.length cu), (83, I qs.length), (84, I k), (91, fv), (92, I ty.fields.length), (93, I l)]) (fun l => G3) (fun l => []) (fun l => ty.fields.length - l) 0 ?_ (by repeat (first | exact trivial | refine ⟨rfl, ?_⟩)) rfl (by repeat ((exact List.Sublist.refl _))) (fun l Hl => ?_)
    · exact ⟨Nat.zero_le _, .inr fun j hj => absurd hj (by omega)⟩
    by_cases hl2 : l < ty.fields.length
    case neg =>
      repeat' (first | (refine run (t := tb) 400 rfl ?_ ?_; (focus (repeat' (first | exact trivial | apply And.intro | omega)))) | (refine k_ff rfl ?_ ?_; (focus (((refine decide_eq_false ?_; (omega))); done))))
      refine k_rd (k + 1) ⟨by omega, fun j hj => ?_⟩ (by omega) (by repeat (first | exact trivial | refine ⟨rfl, ?_⟩)) rfl (by repeat ((exact List.Sublist.refl _)))
      rcases Nat.lt_or_ge j k with h3 | h3
      · exact Hk.2 j h3
      · have : j = k := by omega
        subst this
        rw [hq]
        rcases Hl.2 with h5 | h5
        · exact .inl h5
        · exact .inr fun j2 hj2 => h5 j2 (by dsimp only at hj2; omega)
    obtain ⟨bf, of, cf, rfl, hsf⟩ := hfv.expl (by omega)
    by_cases h69 : ty.sort = 69
    · repeat' (first | (refine run (t := tb) 400 rfl ?_ ?_; (focus (repeat' (first | exact trivial | apply And.intro | omega)))) | (refine k_op rfl ?_; first | (refine v_op (g_ldR rfl rfl (by assumption) ?_) rfl rfl ?_; (focus (((omega)); done))) | refine v_op (g_ldS rfl rfl (by assumption) rfl rfl) rfl rfl ?_ | (refine v_op (g_pickF rfl rfl ?_) rfl rfl ?_; (focus (((rfl)); done))) | refine c_stA rfl rfl rfl rfl rfl rfl ?_ | (refine v_op (g_iaddrN rfl rfl ?_) rfl rfl ?_; (focus ((omega); done))) | refine c_al rfl rfl fun _ => ?_) | (refine k_gf rfl rfl ?_ ?_; (focus (((refine decide_eq_false ?_; (omega))); done))) | (refine k_tt rfl ?_ ?_; (focus (((refine decide_eq_true ?_; (omega))); done))) | (refine k_ff rfl ?_ ?_; (focus (((rfl)); done))))
      refine k_rd (l + 1) ⟨by omega, .inl h69⟩ (by omega) (by repeat (first | exact trivial | refine ⟨rfl, ?_⟩)) rfl (by repeat ((exact List.nil_sublist _)))
    have hko1 := (hW.fld _ (nth_mem hl2)).kind h69
    have cx_has := c_has hS hko1
    by_cases hh : hasK (tyq qs) (nth ty.fields l).kind = true
    · have hh2 : (!hasK (tyq qs) (nth ty.fields l).kind) = false := by rw [hh]; rfl
      repeat' (first | (refine run (t := tb) 400 rfl ?_ ?_; (focus (repeat' (first | exact trivial | apply And.intro | omega)))) | (refine k_op rfl ?_; first | (refine v_op (g_ldR rfl rfl (by assumption) ?_) rfl rfl ?_; (focus (((omega)); done))) | refine v_op (g_ldA rfl rfl rfl rfl) rfl rfl ?_ | refine v_op (g_ldS rfl rfl (by assumption) rfl rfl) rfl rfl ?_ | (refine v_op (g_pickT rfl rfl ?_) rfl rfl ?_; (focus (((rfl)); done))) | refine c_stA rfl rfl rfl rfl rfl rfl ?_ | (refine v_op (g_iaddrN rfl rfl ?_) rfl rfl ?_; (focus ((omega); done))) | refine c_al rfl rfl fun _ => ?_ | (refine c_rt rfl rfl rfl cx_has rfl ?_)) | (refine k_gt rfl rfl ?_ ?_; (focus (((refine decide_eq_true ?_; (omega))); done))) | (refine k_tt rfl ?_ ?_; (focus (((refine decide_eq_true ?_; (omega))); done))) | (refine k_ff rfl ?_ ?_; (focus (((assumption)); done))))
      refine k_rd (l + 1) ⟨by omega, .inr fun j hj => ?_⟩ (by omega) (by repeat (first | exact trivial | refine ⟨rfl, ?_⟩)) rfl (by repeat ((exact List.nil_sublist _)))
      rcases Nat.lt_or_ge j l with h3 | h3
      · rcases Hl.2 with h5 | h5
        · exact absurd h5 h69
        · exact h5 j h3
      · have : j = l := by omega
        subst this; exact hh
    · have hh2 : (!hasK (tyq qs) (nth ty.fields l).kind) = true := by simpa using hh
      have hno : schemaOf s = none := by
        rw [hfin, if_neg]
        intro hv
        have h5 := (hv.1 k (by rw [tyq_len]; exact hk)).2
        rw [nth_tyq hk, hq] at h5
        rcases h5 with h6 | h6
        · exact h69 h6
        · exact hh (h6 l hl2)
      repeat' (first | (refine run (t := tb) 400 rfl ?_ ?_; (focus (repeat' ((exact trivial))))) | (refine k_op rfl ?_; first | (refine v_op (g_ldR rfl rfl (by assumption) ?_) rfl rfl ?_; (focus (((omega)); done))) | refine v_op (g_ldA rfl rfl rfl rfl) rfl rfl ?_ | refine v_op (g_ldS rfl rfl (by assumption) rfl rfl) rfl rfl ?_ | (refine v_op (g_pickT rfl rfl ?_) rfl rfl ?_; (focus (((rfl)); done))) | refine c_stA rfl rfl rfl rfl rfl rfl ?_ | (refine v_op (g_iaddrN rfl rfl ?_) rfl rfl ?_; (focus ((omega); done))) | refine c_al rfl rfl fun _ => ?_ | (refine c_rt rfl rfl rfl cx_has rfl ?_)) | (refine k_gt rfl rfl ?_ ?_; (focus (((refine decide_eq_true ?_; (omega))); done))) | (refine k_tt rfl ?_ ?_; (focus ((first | assumption | (refine decide_eq_true ?_; (omega))); done))))
      all_goals refine k_rr (vs := [_, _]) rfl ⟨rfl, rfl, trivial⟩ rfl (List.nil_sublist _) ⟨hgl, rfl, ?_⟩
      all_goals exact .inl ⟨hno, _, rfl⟩
end Go.E
/-! Mq -/
namespace Go.E
set_option maxRecDepth 20000
set_option maxHeartbeats 2000000
open Go.Proofs
variable {G : Gh}
theorem c_SchemaOkI {s : List UInt8} (h : s.length ≤ 10000000) : PuG Tryd.prog 14 [S s] G (· = Bo (schemaOf s).isSome) := by
  cases hs : schemaOf s with
  | none =>
    have cx_rs0 : ∀ G, FnS Tryd.prog 26 [S s] G (fun v _ => ∃ p, v = Tu [p, Bo false]) := fun G => by
      refine (c_readSchema (G := G) h).mono ?_
      rintro v G' L' ⟨h1, h2, ⟨_, p, rfl⟩ | ⟨_, _, _, h4, _⟩⟩
      · exact ⟨h1, h2, p, rfl⟩
      · rw [hs] at h4; cases h4
    refine b_enter (Post := fun v G' L' => G' = G ∧ L' = [] ∧ _) [(0, _)] Tryd.func14 (by kernel_rfl) Tryd.ntmps14 rfl rfl (by repeat (first | exact trivial | refine ⟨rfl, ?_⟩)) fun B hok hB hW => ?_
    repeat' (first | (refine run (t := tb) 400 rfl ?_ ?_; (focus (repeat' ((exact trivial))))) | (refine k_op rfl ?_; (refine c_fns rfl rfl rfl (cx_rs0 _) rfl ?_; rintro _ G hle ⟨p, rfl⟩; skip)))
    refine Nx.base hok hB ?_
    refine k_rr (vs := [_]) rfl ⟨rfl, trivial⟩ rfl (List.nil_sublist _) ⟨rfl, rfl, ?_⟩
    rfl
  | some ts =>
    have cx_rs1 : ∀ G, FnS Tryd.prog 26 [S s] G (fun v G' => ∃ b qs, v = Tu [Pt b 0, Bo true] ∧ tyq qs = ts ∧ ScI G' b qs) := fun G => by
      refine (c_readSchema (G := G) h).mono ?_
      rintro v G' L' ⟨h1, h2, ⟨h4, _⟩ | ⟨b, qs, rfl, h4, h5⟩⟩
      · rw [hs] at h4; cases h4
      · rw [hs] at h4; simp only [Option.some.injEq] at h4; exact ⟨h1, h2, b, qs, rfl, h4.symm, h5⟩
    refine b_enter (Post := fun v G' L' => G' = G ∧ L' = [] ∧ _) [(0, _)] Tryd.func14 (by kernel_rfl) Tryd.ntmps14 rfl rfl (by repeat (first | exact trivial | refine ⟨rfl, ?_⟩)) fun B hok hB hW => ?_
    repeat' (first | (refine run (t := tb) 400 rfl ?_ ?_; (focus (repeat' ((exact trivial))))) | (refine k_op rfl ?_; (refine c_fns rfl rfl rfl (cx_rs1 _) rfl ?_; rintro _ G hle ⟨b, qs, rfl, hqs, hS⟩; skip)))
    refine Nx.base hok hB ?_
    refine k_rr (vs := [_]) rfl ⟨rfl, trivial⟩ rfl (List.nil_sublist _) ⟨rfl, rfl, ?_⟩
    rfl
def BothPost (s k : List UInt8) (v : Value) (G : Gh) : Prop := (kindS s k = false ∧ ∃ p a b c, v = Tu [p, Ag [S a, S b, S c], Bo false]) ∨ ∃ b qs, v = Tu [Pt b 0, Ag (kdF k), Bo true] ∧ schemaOf s = some (tyq qs) ∧ kindIn (tyq qs) k = true ∧ ScI G b qs
theorem c_both {s k : List UInt8} (h : s.length ≤ 10000000) (hk : k.length ≤ 2000000) : FnS Tryd.prog 15 [S s, S k] G (BothPost s k) := by
  cases hs : schemaOf s with
  | none =>
    have hno : kindS s k = false := by unfold kindS; rw [hs]
    have cx_rs0 : ∀ G, FnS Tryd.prog 26 [S s] G (fun v _ => ∃ p, v = Tu [p, Bo false]) := fun G => by
      refine (c_readSchema (G := G) h).mono ?_
      rintro v G' L' ⟨h1, h2, ⟨_, p, rfl⟩ | ⟨_, _, _, h4, _⟩⟩
      · exact ⟨h1, h2, p, rfl⟩
      · rw [hs] at h4; cases h4
    refine b_enter [(0, _), (1, _)] Tryd.func15 (by kernel_rfl) Tryd.ntmps15 rfl rfl (by repeat (first | exact trivial | refine ⟨rfl, ?_⟩)) fun B hok hB hW => ?_
    repeat' (first | (refine run (t := tb) 400 rfl ?_ ?_; (focus (repeat' ((exact trivial))))) | (refine k_op rfl ?_; first | refine c_al rfl rfl fun _ => ?_ | refine v_op (g_bld rfl rfl) rfl rfl ?_ | refine c_stA rfl rfl rfl rfl rfl rfl ?_ | (refine c_fns rfl rfl rfl (cx_rs0 _) rfl ?_; rintro _ G hle ⟨p, rfl⟩; skip)) | (refine k_tt rfl ?_ ?_; (focus (((rfl)); done))))
    all_goals refine k_rr (vs := [_, _, _]) rfl ⟨rfl, rc_A rfl rfl rfl rfl, rfl, trivial⟩ rfl (List.nil_sublist _) ⟨hle, rfl, ?_⟩
    all_goals exact .inl ⟨hno, _, [], [], [], rfl⟩
  | some ts =>
    have cx_rs1 : ∀ G, FnS Tryd.prog 26 [S s] G (fun v G' => ∃ b qs, v = Tu [Pt b 0, Bo true] ∧ tyq qs = ts ∧ ScI G' b qs) := fun G => by
      refine (c_readSchema (G := G) h).mono ?_
      rintro v G' L' ⟨h1, h2, ⟨h4, _⟩ | ⟨b, qs, rfl, h4, h5⟩⟩
      · rw [hs] at h4; cases h4
      · rw [hs] at h4; simp only [Option.some.injEq] at h4; exact ⟨h1, h2, b, qs, rfl, h4.symm, h5⟩
    by_cases hko : kindOk k = true
    case neg =>
      have hkc2 : kindOk k = false := by simpa using hko
      have hno : kindS s k = false := by unfold kindS kindIn; rw [hs]; simp [hkc2]
      have cx_kn : ∀ G, PuG Tryd.prog 27 [S k] G (fun v => ∃ x y z, v = Tu [Ag [S x, S y, S z], Bo false]) := fun G => by
        refine (c_readKind (G := G) (s := k) (by omega)).mono ?_
        rintro v G' L' ⟨h1, h2, x, y, z, rfl, _⟩
        exact ⟨h1, h2, x, y, z, by rw [hkc2]⟩
      refine b_enter [(0, _), (1, _)] Tryd.func15 (by kernel_rfl) Tryd.ntmps15 rfl rfl (by repeat (first | exact trivial | refine ⟨rfl, ?_⟩)) fun B hok hB hW => ?_
      repeat' (first | (refine run (t := tb) 400 rfl ?_ ?_; (focus (repeat' ((exact trivial))))) | (refine k_op rfl ?_; first | refine c_al rfl rfl fun _ => ?_ | refine c_stA rfl rfl rfl rfl rfl rfl ?_ | (refine c_fns rfl rfl rfl (cx_rs1 _) rfl ?_; rintro _ G hle ⟨b, qs, rfl, hqs, hS⟩; skip) | (refine c_pu rfl rfl rfl (cx_kn _) rfl ?_; rintro _ ⟨x, y, z, rfl⟩)) | (refine k_ff rfl ?_ ?_; (focus (((rfl)); done))) | (refine k_any (s_anyD (id := 5) (tt := 5) rfl mixed ?_); refine x_tks (t := tb) (fuel := 8) [0, 2, 3] (bts 11 13) (by kernel_rfl) (by kernel_rfl) rfl rfl (Gh.le.refl _) (by repeat (first | exact List.nil_sublist _ | apply List.Sublist.cons_cons)) ?_ ?_; (focus (repeat' ((exact trivial)))); (try ((refine Nx.re (d := 26) (v' := Bo false) rfl (congrArg Value.bool ?_) ?_; (focus (((rfl)); done))))); refine x_tks (t := tb) (fuel := 7) [4] (bts 11 29) (by kernel_rfl) (by kernel_rfl) rfl rfl (Gh.le.refl _) (by repeat (first | exact List.nil_sublist _ | apply List.Sublist.cons_cons)) ?_ ?_; (focus (repeat' ((exact trivial)))); ((refine (x_tkg (bts 11 31) 1 rfl (by kernel_rfl) rfl (Gh.le.refl _) (by repeat (first | exact List.nil_sublist _ | apply List.Sublist.cons_cons))) (g_ldA rfl rfl rfl rfl) rfl rfl ?_)); ((refine x_tkn (bts 11 63) 5 rfl (by kernel_rfl) rfl (Gh.le.refl _) (by repeat (first | exact List.nil_sublist _ | apply List.Sublist.cons_cons)) rfl rfl ?_)); ((refine x_tkn (bts 11 127) 6 rfl (by kernel_rfl) rfl (Gh.le.refl _) (by repeat (first | exact List.nil_sublist _ | apply List.Sublist.cons_cons)) rfl rfl ?_)); refine x_tks (t := tb) (fuel := 3) [8] (bts 11 383) (by kernel_rfl) (by kernel_rfl) rfl rfl (Gh.le.refl _) (by repeat (first | exact List.nil_sublist _ | apply List.Sublist.cons_cons)) ?_ ?_; (focus (repeat' ((exact trivial)))); ((refine (x_tkg (bts 11 511) 7 rfl (by kernel_rfl) rfl (Gh.le.refl _) (by repeat (first | exact List.nil_sublist _ | apply List.Sublist.cons_cons))) (g_pickF rfl rfl ?_) rfl rfl ?_; (focus (((rfl)); done)))); refine x_all [9] (by kernel_rfl) (by decide) ⟨?_, trivial⟩; refine x_opg rfl rfl ?_; ((refine c_stA rfl rfl rfl rfl rfl rfl ?_)); refine x_kk (by (exact Gh.le.refl _)) (by repeat (first | exact List.nil_sublist _ | apply List.Sublist.cons_cons)) (listed' := (bts 11 1023)) (by kernel_rfl) ?_; refine x_tks (t := tb) (fuel := 0) [10] (bts 11 2047) (by kernel_rfl) (by kernel_rfl) rfl rfl (Gh.le.refl _) (by repeat (first | exact List.nil_sublist _ | apply List.Sublist.cons_cons)) ?_ ?_; (focus (repeat' ((exact trivial)))); refine x_done (by kernel_rfl) (k_bk ?_)))
      all_goals refine k_rr (vs := [_, _, _]) rfl ⟨rfl, rc_A rfl rfl rfl rfl, rfl, trivial⟩ rfl (List.nil_sublist _) ⟨hle, rfl, ?_⟩
      all_goals exact .inl ⟨hno, _, _, _, _, rfl⟩
    have cx_kq : ∀ G, PuG Tryd.prog 27 [S k] G (· = Tu [Ag [S (sg k), S (bs k), S (nm k)], Bo true]) := fun G => c_kindX (by omega) hko
    have hkk : kdF k = [S (sg k), S (bs k), S (nm k)] := rfl
    by_cases hH : hasK ts k = true
    case pos =>
      have cx_hy : ∀ G b qs, tyq qs = ts → ScI G b qs → PuG Tryd.prog 28 [Pt b 0, Ag [S (sg k), S (bs k), S (nm k)]] G (· = Bo true) := by
        intro G b qs hq hS
        refine (c_has hS hko).mono ?_
        rintro v G' L' ⟨h1, h2, rfl⟩
        exact ⟨h1, h2, by rw [hq, hH]⟩
      refine b_enter [(0, _), (1, _)] Tryd.func15 (by kernel_rfl) Tryd.ntmps15 rfl rfl (by repeat (first | exact trivial | refine ⟨rfl, ?_⟩)) fun B hok hB hW => ?_
      repeat' (first | (refine run (t := tb) 400 rfl ?_ ?_; (focus (repeat' ((exact trivial))))) | (refine k_op rfl ?_; first | refine c_al rfl rfl fun _ => ?_ | refine c_stA rfl rfl rfl rfl rfl rfl ?_ | (refine c_fns rfl rfl rfl (cx_rs1 _) rfl ?_; rintro _ G hle ⟨b, qs, rfl, hqs, hS⟩; skip) | (refine c_rt rfl rfl rfl (cx_kq _) rfl ?_)) | (refine k_ff rfl ?_ ?_; (focus (((rfl)); done))) | (refine k_any (s_anyD (id := 5) (tt := 5) rfl mixed ?_); refine x_tks (t := tb) (fuel := 8) [0, 2, 3] (bts 11 13) (by kernel_rfl) (by kernel_rfl) rfl rfl (Gh.le.refl _) (by repeat (first | exact List.nil_sublist _ | apply List.Sublist.cons_cons)) ?_ ?_; (focus (repeat' ((exact trivial)))); (try ((refine Nx.re (d := 26) (v' := Bo true) rfl (congrArg Value.bool ?_) ?_; (focus (((rfl)); done))))); refine x_tks (t := tb) (fuel := 7) [4] (bts 11 29) (by kernel_rfl) (by kernel_rfl) rfl rfl (Gh.le.refl _) (by repeat (first | exact List.nil_sublist _ | apply List.Sublist.cons_cons)) ?_ ?_; (focus (repeat' ((exact trivial)))); ((refine (x_tkg (bts 11 31) 1 rfl (by kernel_rfl) rfl (Gh.le.refl _) (by repeat (first | exact List.nil_sublist _ | apply List.Sublist.cons_cons))) (g_ldA rfl rfl rfl rfl) rfl rfl ?_)); ((refine (x_tkg (bts 11 63) 5 rfl (by kernel_rfl) rfl (Gh.le.refl _) (by repeat (first | exact List.nil_sublist _ | apply List.Sublist.cons_cons))) (g_ldA rfl rfl rfl rfl) rfl rfl ?_)); ((refine x_all [6] (by kernel_rfl) (by decide) ⟨?_, trivial⟩; refine x_opg rfl rfl ?_; ((refine c_rt rfl rfl rfl ((cx_hy _ _ _) (by (repeat ((assumption))); done) (by (repeat ((assumption))); done)) rfl ?_)); refine x_kk (by (exact Gh.le.refl _)) (by repeat (first | exact List.nil_sublist _ | apply List.Sublist.cons_cons)) (listed' := (bts 11 127)) (by kernel_rfl) ?_)); refine x_tks (t := tb) (fuel := 3) [8] (bts 11 383) (by kernel_rfl) (by kernel_rfl) rfl rfl (Gh.le.refl _) (by repeat (first | exact List.nil_sublist _ | apply List.Sublist.cons_cons)) ?_ ?_; (focus (repeat' ((exact trivial)))); ((refine (x_tkg (bts 11 511) 7 rfl (by kernel_rfl) rfl (Gh.le.refl _) (by repeat (first | exact List.nil_sublist _ | apply List.Sublist.cons_cons))) (g_pickT rfl rfl ?_) rfl rfl ?_; (focus (((rfl)); done)))); refine x_all [9] (by kernel_rfl) (by decide) ⟨?_, trivial⟩; refine x_opg rfl rfl ?_; ((refine c_stA rfl rfl rfl rfl rfl rfl ?_)); refine x_kk (by (exact Gh.le.refl _)) (by repeat (first | exact List.nil_sublist _ | apply List.Sublist.cons_cons)) (listed' := (bts 11 1023)) (by kernel_rfl) ?_; refine x_tks (t := tb) (fuel := 0) [10] (bts 11 2047) (by kernel_rfl) (by kernel_rfl) rfl rfl (Gh.le.refl _) (by repeat (first | exact List.nil_sublist _ | apply List.Sublist.cons_cons)) ?_ ?_; (focus (repeat' ((exact trivial)))); refine x_done (by kernel_rfl) (k_bk ?_)))
      all_goals refine k_rr (vs := [_, _, _]) rfl ⟨rfl, rc_A rfl rfl rfl rfl, rfl, trivial⟩ rfl (List.nil_sublist _) ⟨hle, rfl, ?_⟩
      all_goals exact .inr ⟨b, qs, rfl, by rw [hs, hqs], by simp [kindIn, hqs, hko, hH], hS⟩
    case neg =>
      have hH2 : hasK ts k = false := by simpa using hH
      have hno : kindS s k = false := by unfold kindS kindIn; rw [hs]; simp [hH2]
      have cx_hn : ∀ G b qs, tyq qs = ts → ScI G b qs → PuG Tryd.prog 28 [Pt b 0, Ag [S (sg k), S (bs k), S (nm k)]] G (· = Bo false) := by
        intro G b qs hq hS
        refine (c_has hS hko).mono ?_
        rintro v G' L' ⟨h1, h2, rfl⟩
        exact ⟨h1, h2, by rw [hq, hH2]⟩
      refine b_enter [(0, _), (1, _)] Tryd.func15 (by kernel_rfl) Tryd.ntmps15 rfl rfl (by repeat (first | exact trivial | refine ⟨rfl, ?_⟩)) fun B hok hB hW => ?_
      repeat' (first | (refine run (t := tb) 400 rfl ?_ ?_; (focus (repeat' ((exact trivial))))) | (refine k_op rfl ?_; first | refine c_al rfl rfl fun _ => ?_ | refine c_stA rfl rfl rfl rfl rfl rfl ?_ | (refine c_fns rfl rfl rfl (cx_rs1 _) rfl ?_; rintro _ G hle ⟨b, qs, rfl, hqs, hS⟩; skip) | (refine c_rt rfl rfl rfl (cx_kq _) rfl ?_)) | (refine k_ff rfl ?_ ?_; (focus (((rfl)); done))) | (refine k_any (s_anyD (id := 5) (tt := 5) rfl mixed ?_); refine x_tks (t := tb) (fuel := 8) [0, 2, 3] (bts 11 13) (by kernel_rfl) (by kernel_rfl) rfl rfl (Gh.le.refl _) (by repeat (first | exact List.nil_sublist _ | apply List.Sublist.cons_cons)) ?_ ?_; (focus (repeat' ((exact trivial)))); (try ((refine Nx.re (d := 26) (v' := Bo true) rfl (congrArg Value.bool ?_) ?_; (focus (((rfl)); done))))); refine x_tks (t := tb) (fuel := 7) [4] (bts 11 29) (by kernel_rfl) (by kernel_rfl) rfl rfl (Gh.le.refl _) (by repeat (first | exact List.nil_sublist _ | apply List.Sublist.cons_cons)) ?_ ?_; (focus (repeat' ((exact trivial)))); ((refine (x_tkg (bts 11 31) 1 rfl (by kernel_rfl) rfl (Gh.le.refl _) (by repeat (first | exact List.nil_sublist _ | apply List.Sublist.cons_cons))) (g_ldA rfl rfl rfl rfl) rfl rfl ?_)); ((refine (x_tkg (bts 11 63) 5 rfl (by kernel_rfl) rfl (Gh.le.refl _) (by repeat (first | exact List.nil_sublist _ | apply List.Sublist.cons_cons))) (g_ldA rfl rfl rfl rfl) rfl rfl ?_)); ((refine x_all [6] (by kernel_rfl) (by decide) ⟨?_, trivial⟩; refine x_opg rfl rfl ?_; ((refine c_rt rfl rfl rfl ((cx_hn _ _ _) (by (repeat ((assumption))); done) (by (repeat ((assumption))); done)) rfl ?_)); refine x_kk (by (exact Gh.le.refl _)) (by repeat (first | exact List.nil_sublist _ | apply List.Sublist.cons_cons)) (listed' := (bts 11 127)) (by kernel_rfl) ?_)); refine x_tks (t := tb) (fuel := 3) [8] (bts 11 383) (by kernel_rfl) (by kernel_rfl) rfl rfl (Gh.le.refl _) (by repeat (first | exact List.nil_sublist _ | apply List.Sublist.cons_cons)) ?_ ?_; (focus (repeat' ((exact trivial)))); ((refine (x_tkg (bts 11 511) 7 rfl (by kernel_rfl) rfl (Gh.le.refl _) (by repeat (first | exact List.nil_sublist _ | apply List.Sublist.cons_cons))) (g_pickT rfl rfl ?_) rfl rfl ?_; (focus (((rfl)); done)))); refine x_all [9] (by kernel_rfl) (by decide) ⟨?_, trivial⟩; refine x_opg rfl rfl ?_; ((refine c_stA rfl rfl rfl rfl rfl rfl ?_)); refine x_kk (by (exact Gh.le.refl _)) (by repeat (first | exact List.nil_sublist _ | apply List.Sublist.cons_cons)) (listed' := (bts 11 1023)) (by kernel_rfl) ?_; refine x_tks (t := tb) (fuel := 0) [10] (bts 11 2047) (by kernel_rfl) (by kernel_rfl) rfl rfl (Gh.le.refl _) (by repeat (first | exact List.nil_sublist _ | apply List.Sublist.cons_cons)) ?_ ?_; (focus (repeat' ((exact trivial)))); refine x_done (by kernel_rfl) (k_bk ?_)))
      all_goals refine k_rr (vs := [_, _, _]) rfl ⟨rfl, rc_A rfl rfl rfl rfl, rfl, trivial⟩ rfl (List.nil_sublist _) ⟨hle, rfl, ?_⟩
      all_goals exact .inl ⟨hno, _, _, _, _, rfl⟩
end Go.E
