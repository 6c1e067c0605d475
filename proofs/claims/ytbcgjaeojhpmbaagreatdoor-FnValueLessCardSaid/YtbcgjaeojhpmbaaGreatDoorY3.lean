/- Contracts and plain laws that the statement rests on, part 3. Conditions: as each says. -/
import Derived.Test.YtbcgjaeojhpmbaaGreatDoorY2
set_option linter.unusedVariables false
set_option linter.unusedSimpArgs false
namespace Go.E
set_option maxRecDepth 20000
set_option maxHeartbeats 2000000
open Go.Proofs
variable {G : Gh}
theorem c_l3CutS {s : List UInt8} {k : Nat} (h : s.length ≤ 100000000) : FnS Tryz.prog 88 [S s, U8 k] G (fun v G' => SlV G' v 1 (cut k s).length (rows strF (cut k s))) := by
 refine FnG.shutP ((c_l3Cut (G := G) (k := k) h).mono ?_)
 rintro v G' L' ⟨h1, h2, _⟩
 exact ⟨h1, v, _, _, _, _, h2, fun G' _ h3 => by rw [← strs_rows]; exact h3⟩
abbrev tFld : TypeId := 136
abbrev tTy : TypeId := 153
def TyPost (s : List UInt8) (v : Value) (G : Gh) : Prop := ∃ fv t ok, v = Tu [Ag [U8 (t : Ty).sort, S t.name, fv], Bo ok] ∧ (tyOf s = if ok = true then some t else none) ∧ SlV G fv 4 t.fields.length (rows fldF t.fields)
theorem SlV.nil0 {G : Gh} {sz : Nat} : SlV G nilS sz 0 [] := ⟨by simp, .inl ⟨rfl, rfl⟩⟩
theorem drop_nth {α : Type} [Inhabited α] {xs : List α} {i : Nat} (h : i < xs.length) : xs.drop i = nth xs i :: xs.drop (i + 1) := by rw [nth_eq h]; exact (List.getElem_cons_drop (h := h)).symm
theorem Shp.sl {v : Value} {m : Nat} (h : Shp v m) : ∃ a cap, v = .slice a m cap := by
 rcases h with ⟨rfl, rfl⟩ | ⟨b, cap, rfl, _⟩
 ·exact ⟨none, 0, rfl⟩
 ·exact ⟨_, cap, rfl⟩
theorem tyOf_bad {c : UInt8} {r : List UInt8} (h : (cut1 61 r).2.2 = false) : tyOf (c :: r) = none := by
 unfold tyOf
 split
 ·rfl
 ·rename_i h1; cases h1
  split
  ·rename_i h2; rw [h2] at h; cases h
  ·rfl
theorem tyOf_at {c : UInt8} {r name rest : List UInt8} (h : cut1 61 r = (name, rest, true)) : tyOf (c :: r) = if isNm name = true ∧ sortOk c.toNat then
        if rest = [] then (if c.toNat = 82 then some ⟨82, name, []⟩ else none)
        else match fieldsOf c.toNat (cut 44 rest) [] with
          | some fs => if fs.length ≤ 8 then some ⟨c.toNat, name, fs⟩ else none
          | none => none
      else none := by
  unfold tyOf
  simp only [h]; rfl
theorem c_l3ReadType {s : List UInt8} (h : s.length ≤ 1000) : FnS Tryz.prog 147 [S s] G (TyPost s) := by
  refine jB [(0, _)] Tryz.func147 Tryz.ntmps147 fun B hok hB hW => ?_
  repeat' (first | (refine jR ?_) | (refine k_op rfl ?_; (refine c_al rfl rfl fun _ => ?_)))
  rename_i x
  refine k_loop (ι := Nat) (fun i => i ≤ s.length ∧ ∀ k, k < i → bt s k ≠ 61) (fun i => [(0, S s), (2, Pt x 0), (4, I i)]) (fun _ => G) (fun i => [.blk x (.cells [U8 0, S [], nilS].toArray tTy (0, 0))]) (fun i => s.length - i) 0 ?_ (by repeat' constructor) rfl sRr (fun i Hi => ?_)
  · exact ⟨by omega, fun k hk => absurd hk (by omega)⟩
  by_cases hi : i < s.length ∧ bt s i ≠ 61
  · repeat' (first | refine jM ?_ | (refine k_op rfl ?_; (refine jV (g_pickT rfl rfl rfl) ?_)) | (refine k_gt rfl rfl (dTt (by omega)) ?_) | (refine k_tt rfl ?_ ?_; (focus ((simp; omega); done))))
    refine k_rd (i + 1) ⟨by omega, fun k hk => ?_⟩ (by omega) (by repeat' constructor) rfl sRr
    rcases Nat.lt_or_ge k i with h3 | h3
    · exact Hi.2 k h3
    · have : k = i := by omega
      subst this; exact hi.2
  rcases Nat.lt_or_ge i s.length with hlt | hge
  case inr =>
    have hno : tyOf s = none := by
      match s, Hi, hge with
      | [], _, _ => rfl
      | c :: r, Hi, hge =>
        refine tyOf_bad ?_
        rw [cut1_no fun j hj => by have := Hi.2 (j + 1) (by simp at hge; omega); rwa [bt_succ] at this]
    repeat' (first | (refine jR ?_) | (refine k_op rfl ?_; first | (refine jV (g_pickT rfl rfl rfl) ?_) | (refine jV (g_pickF rfl rfl rfl) ?_) | refine jV (g_bld rfl rfl) ?_ | refine c_stA rfl rfl rfl rfl rfl rfl ?_) | (refine k_gf rfl rfl (dFf (by omega)) ?_) | refine k_g rfl rfl (fun _ => ?_) (fun _ => ?_) | (refine k_tt rfl (by first | rfl | (refine decide_eq_true ?_; (omega))) ?_) | (refine k_ff rfl rfl ?_))
    all_goals refine jZ (vs := [_, _]) rfl ⟨rc_A rfl rfl rfl rfl, rfl, trivial⟩ rfl ⟨Gh.le.refl _, rfl, ?_⟩
    all_goals exact ⟨nilS, default, false, rfl, by rw [hno]; rfl, SlV.nil0⟩
  have h61 : bt s i = 61 := by
    rcases Nat.lt_or_ge (bt s i) 61 with h1 | h1
    · exact absurd ⟨hlt, by omega⟩ hi
    · rcases Nat.lt_or_ge 61 (bt s i) with h2 | h2
      · exact absurd ⟨hlt, by omega⟩ hi
      · omega
  match s, i, Hi, hlt, h61, h with
  | c :: r, 0, Hi, hlt, h61, h =>
    have hno : tyOf (c :: r) = none := by
      rw [bt_zero] at h61
      cases ht : (cut1 61 r).2.2 with
      | false => exact tyOf_bad ht
      | true =>
        rw [tyOf_at (c := c) (r := r) (name := (cut1 61 r).1) (rest := (cut1 61 r).2.1) (by rw [← ht])]
        rw [if_neg]
        rintro ⟨_, h2⟩
        unfold sortOk at h2; omega
    have h62 : bt (c :: r) ((0 : Nat) : Int).toNat = 61 := h61
    repeat' (first | refine jM ?_ | (refine k_op rfl ?_; first | (refine jV (g_pickT rfl rfl rfl) ?_) | refine jV (g_bld rfl rfl) ?_ | refine c_stA rfl rfl rfl rfl rfl rfl ?_) | (refine k_gt rfl rfl (by first | rfl | (refine decide_eq_true ?_; (omega))) ?_) | (refine k_tt rfl rfl ?_) | (refine k_ff rfl (dFf (by omega)) ?_))
    all_goals refine jZ (vs := [_, _]) rfl ⟨rc_A rfl rfl rfl rfl, rfl, trivial⟩ rfl ⟨Gh.le.refl _, rfl, ?_⟩
    all_goals exact ⟨nilS, default, false, rfl, by rw [hno]; rfl, SlV.nil0⟩
  | c :: r, j + 1, Hi, hlt, h61, h =>
    have hj : j < r.length := by simpa using hlt
    have hcut1 : cut1 61 r = (r.take j, r.drop (j + 1), true) := cut1_at hj (fun k hk => by have := Hi.2 (k + 1) (by omega); rwa [bt_succ] at this) (by rwa [bt_succ] at h61)
    have hty := tyOf_at (c := c) hcut1
    have h62 : bt (c :: r) ((j + 1 : Nat) : Int).toNat = 61 := h61
    have e0 : bt (c :: r) (Int.toNat 0) = c.toNat := bt_zero c r
    have hnl : (r.take j).length ≤ 1000 := by simp at h ⊢; omega
    have cx_nm := c_l2Name (G := G) (s := r.take j) (by omega)
    by_cases hg : isNm (r.take j) = true ∧ sortOk c.toNat
    case neg =>
      have hno : tyOf (c :: r) = none := by rw [hty, if_neg hg]
      by_cases hn : isNm (r.take j) = true
      · have hn2 : (!isNm (r.take j)) = false := by rw [hn]; rfl
        have hns : ¬ sortOk c.toNat := fun h => hg ⟨hn, h⟩
        unfold sortOk at hns
        repeat' (first | refine jM ?_ | (refine k_op rfl ?_; first | (refine jV (g_pickT rfl rfl rfl) ?_) | (refine jV (g_pickF rfl rfl rfl) ?_) | refine c_stA rfl rfl rfl rfl rfl rfl ?_ | refine jV (g_ld rfl rfl rfl) ?_ | refine jV (g_ldA rfl rfl rfl rfl) ?_ | (refine c_rt rfl rfl rfl cx_nm rfl ?_)) | (refine k_gt rfl rfl (dTt (by omega)) ?_) | (refine k_gf rfl rfl (by first | rfl | assumption) ?_) | (refine k_tt rfl (dTt (by omega)) ?_) | (refine k_ff rfl (dFf (by omega)) ?_) | (refine k_any (s_any (id := 6) _ (fun _ h => h) mixed ?_); refine jU 3 [0, 1, 2, 3, 4] (bts 8 31) ?_ ?_; (focus (repeat' (first | exact trivial | apply And.intro | omega))); (refine jG (bts 8 63) 5 rfl (g_bld rfl rfl) ?_); refine jA 6 rfl ?_; (refine c_al rfl rfl fun _ => ?_); refine jK (bts 8 127) ?_; refine jA 7 rfl ?_; (refine c_stA rfl rfl rfl rfl rfl rfl ?_); refine jK (bts 8 255) ?_; refine x_done (by kernel_rfl) (k_bk ?_)))
        all_goals refine jZ (vs := [_, _]) rfl ⟨rc_A rfl rfl rfl rfl, rfl, trivial⟩ rfl ⟨Gh.le.refl _, rfl, ?_⟩
        all_goals exact ⟨nilS, ⟨_, _, []⟩, false, rfl, by rw [hno]; rfl, SlV.nil0⟩
      · have hn2 : (!isNm (r.take j)) = true := by simpa using hn
        repeat' (first | refine jM ?_ | (refine k_op rfl ?_; first | (refine jV (g_pickT rfl rfl rfl) ?_) | (refine jV (g_pickF rfl rfl rfl) ?_) | refine c_stA rfl rfl rfl rfl rfl rfl ?_ | refine jV (g_ld rfl rfl rfl) ?_ | refine jV (g_ldA rfl rfl rfl rfl) ?_ | (refine c_rt rfl rfl rfl cx_nm rfl ?_)) | (refine k_gt rfl rfl (by first | assumption | (refine decide_eq_true ?_; (omega))) ?_) | (refine k_gf rfl rfl rfl ?_) | (refine k_tt rfl rfl ?_) | (refine k_ff rfl (dFf (by omega)) ?_) | (refine k_any (s_any (id := 6) _ (fun _ h => h) mixed ?_); refine jU 3 [0, 1, 2, 3, 4] (bts 8 31) ?_ ?_; (focus (repeat' (first | exact trivial | apply And.intro | omega))); (refine jG (bts 8 63) 5 rfl (g_bld rfl rfl) ?_); refine jA 6 rfl ?_; (refine c_al rfl rfl fun _ => ?_); refine jK (bts 8 127) ?_; refine jA 7 rfl ?_; (refine c_stA rfl rfl rfl rfl rfl rfl ?_); refine jK (bts 8 255) ?_; refine x_done (by kernel_rfl) (k_bk ?_)))
        all_goals refine jZ (vs := [_, _]) rfl ⟨rc_A rfl rfl rfl rfl, rfl, trivial⟩ rfl ⟨Gh.le.refl _, rfl, ?_⟩
        all_goals exact ⟨nilS, ⟨_, _, []⟩, false, rfl, by rw [hno]; rfl, SlV.nil0⟩
    have hn2 : (!isNm (r.take j)) = false := by rw [hg.1]; rfl
    have hs2 := hg.2
    unfold sortOk at hs2
    rw [if_pos hg] at hty
    by_cases hrest : r.drop (j + 1) = []
    · rw [if_pos hrest] at hty
      by_cases h82 : c.toNat = 82
      · rw [if_pos h82] at hty
        have e82 : bt (c :: r) (Int.toNat 0) = 82 := by omega
        repeat' (first | refine jM ?_ | (refine k_op rfl ?_; first | (refine jV (g_pickT rfl rfl rfl) ?_) | (refine jV (g_pickF rfl rfl rfl) ?_) | refine jV (g_ld rfl rfl rfl) ?_ | (refine c_rt rfl rfl rfl cx_nm rfl ?_)) | (refine k_gt rfl rfl (dTt (by omega)) ?_) | (refine k_gf rfl rfl (by first | rfl | assumption | (refine decide_eq_false ?_; (omega))) ?_) | (refine k_tt rfl (dTt ‹_›) ?_) | (refine k_ff rfl (by first | rfl | (refine decide_eq_false ?_; (omega))) ?_) | (refine k_any (s_any (id := 6) _ (fun _ h => h) mixed ?_); refine jU 3 [0, 1, 2, 3, 4] (bts 8 31) ?_ ?_; (focus (repeat' (first | exact trivial | apply And.intro | omega))); (refine jG (bts 8 63) 5 rfl (g_bld rfl rfl) ?_); refine jA 6 rfl ?_; (refine c_al rfl rfl fun _ => ?_); refine jK (bts 8 127) ?_; refine jA 7 rfl ?_; (refine c_stA rfl rfl rfl rfl rfl rfl ?_); refine jK (bts 8 255) ?_; refine x_done (by kernel_rfl) (k_bk ?_)) | (refine k_any (s_anyD (id := 10) (tt := 2) rfl mixed ?_); refine jU 5 [1] (bts 6 2) ?_ ?_; (focus (repeat' (exact trivial))); (refine jG (bts 6 3) 0 rfl (g_ldA rfl rfl rfl rfl) ?_); (refine jG (bts 6 7) 2 rfl (g_ld rfl rfl rfl) ?_); refine jU 2 [3] (bts 6 15) ?_ ?_; (focus (repeat' (exact trivial))); refine jA 4 rfl ?_; (refine c_stA rfl rfl rfl rfl rfl rfl ?_); refine jK (bts 6 31) ?_; refine jU 0 [5] (bts 6 63) ?_ ?_; (focus (repeat' (exact trivial))); refine x_done (by kernel_rfl) (k_bk ?_)))
        all_goals refine jZ (vs := [_, _]) rfl ⟨rc_A rfl rfl rfl rfl, rfl, trivial⟩ rfl ⟨Gh.le.refl _, rfl, ?_⟩
        all_goals refine ⟨nilS, ⟨82, r.take j, []⟩, true, ?_, hty, SlV.nil0⟩
        all_goals show Tu [Ag [U8 (bt (c :: r) (Int.toNat 0) : Nat), S (r.take j), nilS], Bo (decide (((bt (c :: r) (Int.toNat 0) : Nat) : Int) = 82))] = _
        all_goals (rw [e82]; rfl)
      · rw [if_neg h82] at hty
        have e82 : ¬ bt (c :: r) (Int.toNat 0) = 82 := by omega
        have e83 : decide (((bt (c :: r) (Int.toNat 0) : Nat) : Int) = 82) = false := decide_eq_false (by omega)
        repeat' (first | refine jM ?_ | (refine k_op rfl ?_; first | (refine jV (g_pickT rfl rfl rfl) ?_) | (refine jV (g_pickF rfl rfl rfl) ?_) | refine jV (g_ld rfl rfl rfl) ?_ | (refine c_rt rfl rfl rfl cx_nm rfl ?_)) | (refine k_gt rfl rfl (dTt (by omega)) ?_) | (refine k_gf rfl rfl (by first | rfl | assumption) ?_) | refine k_g rfl rfl (fun _ => ?_) (fun _ => ?_) | (refine k_tt rfl (dTt ‹_›) ?_) | (refine k_ff rfl (by first | rfl | (refine decide_eq_false ?_; (omega))) ?_) | (refine k_any (s_any (id := 6) _ (fun _ h => h) mixed ?_); refine jU 3 [0, 1, 2, 3, 4] (bts 8 31) ?_ ?_; (focus (repeat' (first | exact trivial | apply And.intro | omega))); (refine jG (bts 8 63) 5 rfl (g_bld rfl rfl) ?_); refine jA 6 rfl ?_; (refine c_al rfl rfl fun _ => ?_); refine jK (bts 8 127) ?_; refine jA 7 rfl ?_; (refine c_stA rfl rfl rfl rfl rfl rfl ?_); refine jK (bts 8 255) ?_; refine x_done (by kernel_rfl) (k_bk ?_)) | (refine k_any (s_anyD (id := 10) (tt := 2) rfl mixed ?_); refine jU 5 [1] (bts 6 2) ?_ ?_; (focus (repeat' (exact trivial))); (refine jG (bts 6 3) 0 rfl (g_ldA rfl rfl rfl rfl) ?_); (refine jG (bts 6 7) 2 rfl (g_ld rfl rfl rfl) ?_); refine jU 2 [3] (bts 6 15) ?_ ?_; (focus (repeat' (exact trivial))); refine jA 4 rfl ?_; (refine c_stA rfl rfl rfl rfl rfl rfl ?_); refine jK (bts 6 31) ?_; refine jU 0 [5] (bts 6 63) ?_ ?_; (focus (repeat' (exact trivial))); refine x_done (by kernel_rfl) (k_bk ?_)))
        all_goals refine jZ (vs := [_, _]) rfl ⟨rc_A rfl rfl rfl rfl, rfl, trivial⟩ rfl ⟨Gh.le.refl _, rfl, ?_⟩
        all_goals refine ⟨nilS, ⟨bt (c :: r) (Int.toNat 0), r.take j, []⟩, false, ?_, hty, SlV.nil0⟩
        all_goals show Tu [Ag [U8 (bt (c :: r) (Int.toNat 0) : Nat), S (r.take j), nilS], Bo (decide (((bt (c :: r) (Int.toNat 0) : Nat) : Int) = 82))] = _
        all_goals (rw [e83])
    rw [if_neg hrest] at hty
    have hrl : (r.drop (j + 1)).length ≤ 1000 := by simp at h ⊢; omega
    have hcl := cut_count (k := 44) (s := r.drop (j + 1))
    have cx_cutS := c_l3CutS (G := G) (s := r.drop (j + 1)) (k := 44) (by omega)
    have hall : ∀ y ∈ cut 44 (r.drop (j + 1)), y.length ≤ 1000 := fun y hy => Nat.le_trans (cut_len hy) hrl
    generalize hxs : cut 44 (r.drop (j + 1)) = xs at *
    rcases hs2 with h1 | h1 | h1
    all_goals repeat' (first | refine jM ?_ | (refine k_op rfl ?_; first | (refine jV (g_pickT rfl rfl rfl) ?_) | (refine jV (g_pickF rfl rfl rfl) ?_) | refine jV (g_ld rfl rfl rfl) ?_ | (refine c_rt rfl rfl rfl cx_nm rfl ?_) | (refine c_fns rfl rfl rfl cx_cutS rfl ?_; rintro _ G hle hcut; skip)) | (refine k_gt rfl rfl (dTt (by omega)) ?_) | (refine k_gf rfl rfl (by first | rfl | assumption | (refine decide_eq_false ?_; (omega))) ?_) | (refine k_ff rfl (by first | rfl | (refine decide_eq_false ?_; first | assumption | omega)) ?_) | (refine k_any (s_any (id := 6) _ (fun _ h => h) mixed ?_); refine jU 3 [0, 1, 2, 3, 4] (bts 8 31) ?_ ?_; (focus (repeat' (first | exact trivial | apply And.intro | omega))); (refine jG (bts 8 63) 5 rfl (g_bld rfl rfl) ?_); refine jA 6 rfl ?_; (refine c_al rfl rfl fun _ => ?_); refine jK (bts 8 127) ?_; refine jA 7 rfl ?_; (refine c_stA rfl rfl rfl rfl rfl rfl ?_); refine jK (bts 8 255) ?_; refine x_done (by kernel_rfl) (k_bk ?_)))
    all_goals rename_i y v
    all_goals refine Nx.addNil tFld 4 ?_
    all_goals refine k_loop (ι := Value × List Fld × Nat) (fun i => i.2.2 ≤ xs.length ∧ i.2.1.length ≤ i.2.2 ∧ fieldsOf c.toNat (xs.drop i.2.2) i.2.1 = fieldsOf c.toNat xs []) (fun i => [(2, Pt x 0), (5, Pt y 0), (6, v), (7, I i.2.2)]) (fun _ => G) (fun i => [.acc i.1 tFld 4 i.2.1.length (rows fldF i.2.1), .blk y (.cells [U8 (bt (c :: r) (Int.toNat 0) : Nat), S (r.take j), i.1].toArray tTy (0, 0)), .blk x (.cells [U8 0, S [], nilS].toArray tTy (0, 0))]) (fun i => xs.length - i.2.2) (nilS, [], 0) ?_ (by repeat' constructor) rfl sRr (fun i Hi => ?_)
    all_goals (first | exact ⟨Nat.zero_le _, Nat.le_refl _, rfl⟩ | skip)
    all_goals obtain ⟨u, fs, i⟩ := i
    all_goals dsimp only at Hi ⊢
    all_goals obtain ⟨hi1, hi2, hi3⟩ := Hi
    all_goals refine Nx.shp (v := u) (.head _) fun hsh => ?_
    all_goals (have hsh2 := hsh; obtain ⟨au, cu, rfl⟩ := hsh.sl)
    all_goals by_cases hix : i < xs.length
    all_goals try (rw [drop_nth hix, fieldsOf] at hi3; obtain ⟨bv, ov, cv, rfl, hsv⟩ := hcut.expl (by omega); have hx := hall _ (nth_mem hix))
    all_goals repeat' (first | (refine jR ?_) | (refine k_op rfl ?_; first | refine c_stA rfl rfl rfl rfl rfl rfl ?_ | refine jV (g_ldA rfl rfl rfl rfl) ?_ | refine jV (g_lenL rfl) ?_ | refine jV (g_lenV rfl (by assumption)) ?_) | (refine k_tt rfl (dTt (by omega)) ?_) | (refine k_ff rfl (dFf (by omega)) ?_) | refine k_cd rfl (fun _ => ?_) (fun _ => ?_) | (refine k_any (s_any (id := 15) _ (fun _ h => h) mixed ?_); refine jT 10 [0, 1, 4] (bts 13 19) ?_; (refine jG (bts 13 23) 2 rfl (g_iaddrN rfl rfl (by omega)) ?_); ((refine jG (bts 13 31) 3 rfl (g_ldRS rfl rfl (by assumption) ?_) ?_; (focus ((omega); done)))); (refine jG (bts 13 63) 5 rfl (g_ld rfl rfl rfl) ?_); refine x_all [6, 10] (by kernel_rfl) (by decide) ⟨?_, ?_, trivial⟩; (focus (refine x_opg rfl rfl ?_; (refine c_pu rfl rfl rfl (c_l3ReadField (by omega)) rfl ?_; rintro _ ⟨f, ok, rfl, hfld⟩); refine jK (bts 13 127) ?_; refine jU 3 [7, 8, 9] (bts 13 1023) ?_ ?_; (focus (repeat' (exact trivial))); refine jA 10 rfl ?_; (refine c_al rfl rfl fun _ => ?_); refine jK (bts 13 2047) ?_; refine jA 11 rfl ?_; (refine c_stA rfl rfl rfl rfl rfl rfl ?_); refine jK (bts 13 4095) ?_; refine jU 0 [12] (bts 13 8191) ?_ ?_; (focus (repeat' (exact trivial))); refine x_done (by kernel_rfl) (k_bk ?_))); rotate_left 1; (focus (refine x_opg rfl rfl ?_; (refine c_al rfl rfl fun _ => ?_); refine jK (bts 13 1087) ?_; refine jA 6 rfl ?_; (refine c_pu rfl rfl rfl (c_l3ReadField (by omega)) rfl ?_; rintro _ ⟨f, ok, rfl, hfld⟩); refine jK (bts 13 1151) ?_; refine jU 2 [7, 8, 9] (bts 13 2047) ?_ ?_; (focus (repeat' (exact trivial))); refine jA 11 rfl ?_; (refine c_stA rfl rfl rfl rfl rfl rfl ?_); refine jK (bts 13 4095) ?_; refine jU 0 [12] (bts 13 8191) ?_ ?_; (focus (repeat' (exact trivial))); refine x_done (by kernel_rfl) (k_bk ?_))); rotate_left 1) | (refine k_any (s_anyD (id := 24) (tt := 2) rfl mixed ?_); refine jU 6 [1] (bts 7 2) ?_ ?_; (focus (repeat' (exact trivial))); (refine jG (bts 7 3) 0 rfl (g_ldA rfl rfl rfl rfl) ?_); (refine jG (bts 7 7) 2 rfl (g_ld rfl rfl rfl) ?_); (refine jG (bts 7 15) 3 rfl (g_lenL rfl) ?_); refine jU 2 [4] (bts 7 31) ?_ ?_; (focus (repeat' (exact trivial))); refine jA 5 rfl ?_; (refine c_stA rfl rfl rfl rfl rfl rfl ?_); refine jK (bts 7 63) ?_; refine jU 0 [6] (bts 7 127) ?_ ?_; (focus (repeat' (exact trivial))); refine x_done (by kernel_rfl) (k_bk ?_)))
    all_goals first
      | (rename_i z hq
         have hq2 : ok = false := by simpa using hq
         subst hq2
         have hf0 : fldOf (nth xs i) c.toNat = none := hfld
         have hno : tyOf (c :: r) = none := by rw [hf0] at hi3; rw [hty, ← hi3]
         refine Nx.sealS (v := .slice au fs.length cu) fun G' hle2 hsl => ?_
         refine jZ (vs := [_, _]) rfl ⟨rc_A rfl rfl rfl rfl, rfl, trivial⟩ rfl ⟨hle.trans hle2, rfl, ?_⟩
         exact ⟨.slice au fs.length cu, ⟨bt (c :: r) (Int.toNat 0), r.take j, fs⟩, false, rfl, by rw [hno]; rfl, hsl⟩)
      | (have ei : i = xs.length := by omega
         have hyes : tyOf (c :: r) = if fs.length ≤ 8 then some ⟨c.toNat, r.take j, fs⟩ else none := by
           rw [ei, List.drop_length, fieldsOf] at hi3
           rw [hty, ← hi3]
         refine Nx.sealS (v := .slice au fs.length cu) fun G' hle2 hsl => ?_
         refine jZ (vs := [_, _]) rfl ⟨rc_A rfl rfl rfl rfl, rfl, trivial⟩ rfl ⟨hle.trans hle2, rfl, ?_⟩
         refine ⟨.slice au fs.length cu, ⟨c.toNat, r.take j, fs⟩, decide (fs.length ≤ 8), ?_, by rw [hyes]; simp, hsl⟩
         rw [oneOf_two, e0]
         refine congrArg (fun x => Tu [_, Bo x]) (decide_eq_decide.2 ?_)
         omega)
      | (rename_i z hq
         have hq2 : ok = true := by simpa using hq
         subst hq2
         have hf1 : fldOf (nth xs i) c.toNat = some f := hfld
         rw [hf1] at hi3
         dsimp only at hi3
         refine k_loop (ι := Nat) (fun k => k ≤ fs.length ∧ ∀ m, m < k → (nth fs m).tag < f.tag ∧ (nth fs m).name ≠ f.name) (fun k => [(2, Pt x 0), (5, Pt y 0), (6, .slice (some ⟨bv, ov, none⟩) xs.length cv), (7, I i), (8, Pt z 0), (10, I k)]) (fun _ => G) (fun k => [.blk z (.cells (fldF f).toArray tFld (0, 0)), .acc (.slice au fs.length cu) tFld 4 fs.length (rows fldF fs), .blk y (.cells [U8 (bt (c :: r) (Int.toNat 0) : Nat), S (r.take j), .slice au fs.length cu].toArray tTy (0, 0)), .blk x (.cells [U8 0, S [], nilS].toArray tTy (0, 0))]) (fun k => fs.length - k) 0 ?_ (by repeat' constructor) rfl sRr (fun k Hk => ?_)
         · exact ⟨Nat.zero_le _, fun m hm => absurd hm (by omega)⟩
         by_cases hk : k < fs.length
         · obtain ⟨bu, cu2, eu⟩ := hsh2.pos (by omega)
           simp only [Value.slice.injEq] at eu
           obtain ⟨rfl, -, rfl⟩ := eu
           by_cases hbad : (nth fs k).tag < f.tag ∧ (nth fs k).name ≠ f.name
           · obtain ⟨hb1, hb2⟩ := hbad
             repeat' (first | refine jM ?_ | (refine k_op rfl ?_; first | refine jV (g_ld rfl rfl rfl) ?_ | refine jV (g_lenL rfl) ?_) | (refine k_tt rfl (dTt (by omega)) ?_) | (refine k_ff rfl (dFf ‹_›) ?_) | (refine k_any (s_any (id := 21) _ (fun _ h => h) mixed ?_); refine jT 17 [0, 2, 6] (bts 20 69) ?_; (refine jG (bts 20 71) 1 rfl (g_ld rfl rfl rfl) ?_); (refine jG (bts 20 79) 3 rfl (g_iaddrN rfl rfl (by omega)) ?_); refine jT 14 [4] (bts 20 95) ?_; (refine jG (bts 20 127) 5 rfl (g_ldBRF rfl rfl rfl (by omega) rfl rfl) ?_); (refine jG (bts 20 255) 7 rfl (g_ld rfl rfl rfl) ?_); refine jT 10 [8, 9] (bts 20 1023) ?_; (try ((refine Nx.re (d := 107) (v' := Bo false) rfl (congrArg Value.bool (dFf (by omega))) ?_))); refine jT 7 [10, 12, 16] (bts 20 71679) ?_; (refine jG (bts 20 73727) 11 rfl (g_ld rfl rfl rfl) ?_); (refine jG (bts 20 81919) 13 rfl (g_iaddrN rfl rfl (by omega)) ?_); refine jT 4 [14] (bts 20 98303) ?_; (refine jG (bts 20 131071) 15 rfl (g_ldBRF rfl rfl rfl (by omega) rfl rfl) ?_); (refine jG (bts 20 262143) 17 rfl (g_ld rfl rfl rfl) ?_); refine jT 1 [18] (bts 20 524287) ?_; (refine jG (bts 20 1048575) 19 rfl (g_pickF rfl rfl rfl) ?_); refine x_done (by kernel_rfl) (k_bk ?_)))
             refine k_rd (k + 1) ⟨by omega, fun m hm => ?_⟩ (by omega) (by repeat' constructor) rfl sRr
             rcases Nat.lt_or_ge m k with h3 | h3
             · exact Hk.2 m h3
             · have : m = k := by omega
               subst this; exact ⟨hb1, hb2⟩
           · have hfr : fresh f fs = false := by
               unfold fresh
               rw [List.all_eq_false]
               exact ⟨nth fs k, nth_mem hk, by simpa using hbad⟩
             have hno : tyOf (c :: r) = none := by
               rw [hfr, if_neg (by simp)] at hi3
               rw [hty, ← hi3]
             by_cases htag : f.tag ≤ (nth fs k).tag
             case' neg => have hnm : (nth fs k).name = f.name := by
                           by_cases h6 : (nth fs k).name = f.name
                           · exact h6
                           · exact absurd ⟨by omega, h6⟩ hbad
             all_goals repeat' (first | (refine jR ?_) | (refine k_op rfl ?_; first | refine c_stA rfl rfl rfl rfl rfl rfl ?_ | refine jV (g_ld rfl rfl rfl) ?_ | refine jV (g_ldA rfl rfl rfl rfl) ?_ | refine jV (g_lenL rfl) ?_) | (refine k_tt rfl (by first | rfl | (refine decide_eq_true ?_; first | assumption | omega)) ?_) | (refine k_any (s_any (id := 21) _ (fun _ h => h) mixed ?_); refine jT 17 [0, 2, 6] (bts 20 69) ?_; (refine jG (bts 20 71) 1 rfl (g_ld rfl rfl rfl) ?_); (refine jG (bts 20 79) 3 rfl (g_iaddrN rfl rfl (by omega)) ?_); refine jT 14 [4] (bts 20 95) ?_; (refine jG (bts 20 127) 5 rfl (g_ldBRF rfl rfl rfl (by omega) rfl rfl) ?_); (refine jG (bts 20 255) 7 rfl (g_ld rfl rfl rfl) ?_); refine jT 10 [8, 9] (bts 20 1023) ?_; (try (first | (refine Nx.re (d := 107) (v' := Bo true) rfl (congrArg Value.bool (dTt ‹_›)) ?_) | (refine Nx.re (d := 107) (v' := Bo false) rfl (congrArg Value.bool (dFf ‹_›)) ?_))); refine jT 7 [10, 12, 16] (bts 20 71679) ?_; (first | refine jG (bts 20 73727) 11 rfl (g_ld rfl rfl rfl) ?_ | refine jN (bts 20 73727) 11 rfl ?_); (first | (refine jG (bts 20 81919) 13 rfl (g_iaddrN rfl rfl (by omega)) ?_) | refine jN (bts 20 81919) 13 rfl ?_); refine jT 4 [14] (bts 20 98303) ?_; (first | (refine jG (bts 20 131071) 15 rfl (g_ldBRF rfl rfl rfl (by omega) rfl rfl) ?_) | refine jN (bts 20 131071) 15 rfl ?_); (first | refine jG (bts 20 262143) 17 rfl (g_ld rfl rfl rfl) ?_ | refine jN (bts 20 262143) 17 rfl ?_); refine jT 1 [18] (bts 20 524287) ?_; (first | (refine jG (bts 20 1048575) 19 rfl (g_pickT rfl rfl rfl) ?_) | (refine jG (bts 20 1048575) 19 rfl (g_pickF rfl rfl rfl) ?_)); refine x_done (by kernel_rfl) (k_bk ?_)))
             all_goals refine Nx.sealS (v := .slice (some ⟨bu, 0, none⟩) fs.length cu) fun G' hle2 hsl => ?_
             all_goals refine jZ (vs := [_, _]) rfl ⟨rc_A rfl rfl rfl rfl, rfl, trivial⟩ rfl ⟨hle.trans hle2, rfl, ?_⟩
             all_goals exact ⟨.slice (some ⟨bu, 0, none⟩) fs.length cu, ⟨bt (c :: r) (Int.toNat 0), r.take j, fs⟩, false, rfl, by rw [hno]; rfl, hsl⟩
         · have hfr : fresh f fs = true := by
             unfold fresh
             rw [List.all_eq_true]
             intro g hg
             obtain ⟨m, hm, rfl⟩ := mem_nth hg
             simpa using Hk.2 m (by omega)
           rw [hfr, if_pos rfl] at hi3
           have hxl : xs.length ≤ 1001 := by omega
           repeat' (first | (refine jR ?_) | (refine k_op rfl ?_; first | refine jV (g_ld rfl rfl rfl) ?_ | refine jV (g_ldA rfl rfl rfl rfl) ?_ | refine jV (g_lenL rfl) ?_ | refine c_bsl rfl rfl rfl rfl rfl rfl fun _ => ?_ | (refine c_apB rfl rfl rfl rfl rfl rfl rfl rfl (by omega) fun _ => ?_)) | (refine k_ff rfl (dFf (by omega)) ?_))
           rename_i u2
           refine Nx.shp (v := u2) (.head _) fun hs4 => ?_
           obtain ⟨a4, c4, rfl⟩ := hs4.sl
           repeat' (first | refine jM ?_ | (refine k_op rfl ?_; (refine c_st1 rfl rfl rfl rfl ?_)))
           refine k_rd (.slice a4 (fs.length + 1) c4, fs ++ [f], i + 1) ⟨by dsimp only; omega, by simp; omega, hi3⟩ (by dsimp only; omega) (by repeat' constructor) rfl (by dsimp only; simp only [rows_snoc, List.length_append, List.length_cons, List.length_nil, Nat.zero_add]; repeat (first | exact List.Sublist.refl _ | apply List.Sublist.cons_cons | apply List.Sublist.cons)))
def TyI (G : Gh) (b : Nat) (t : Ty) : Prop := ∃ fv ln, Seg G b 0 [U8 t.sort, S t.name, fv, S ln] ∧ SlV G fv 6 t.fields.length (rows fiF t.fields)
theorem TyI.mono {G G' : Gh} {b : Nat} {t : Ty} (h : TyI G b t) (hl : Gh.le G G') : TyI G' b t := by
 obtain ⟨fv, ln, h1, h2⟩ := h
 exact ⟨fv, ln, h1.mono hl, h2.mono hl⟩
def TiPost (s : List UInt8) (v : Value) (G : Gh) : Prop := (tyOf s = none ∧ ∃ p, v = Tu [p, Bo false]) ∨ ∃ b t, v = Tu [Pt b 0, Bo true] ∧ tyOf s = some t ∧ TyI G b t
abbrev tFi : TypeId := 111
abbrev tTi : TypeId := 108
theorem fieldsOf_len {k : Nat} : ∀ {xs : List (List UInt8)} {fs gs : List Fld}, fieldsOf k xs fs = some gs → gs.length = fs.length + xs.length
 | [], fs, gs, h => by simp only [fieldsOf, Option.some.injEq] at h; subst h; simp
 | x :: xs, fs, gs, h => by
  unfold fieldsOf at h
  split at h
  ·cases h
  ·split at h
   ·have := fieldsOf_len h; simp at this ⊢; omega
   ·cases h
theorem rue (c : UInt8) : decide (0 ≤ idx1 c.toNat [82, 85, 69]) = decide (sortOk c.toNat) := by
 have h : ∀ n : Nat, n < 256 → decide (0 ≤ idx1 n [82, 85, 69]) = decide (sortOk n) := by decide +kernel
 exact h _ c.toNat_lt
theorem c_readType {s : List UInt8} (h : s.length ≤ 1000) : FnS Tryz.prog 110 [S s] G (TiPost s) := by
  match s, h with
  | [], h =>
    refine jB [(0, _)] Tryz.func110 Tryz.ntmps110 fun B hok hB hW => ?_
    repeat' (first | (refine jR ?_) | (refine k_op rfl ?_; (refine jV (g_pickT rfl rfl rfl) ?_)) | (refine k_gt rfl rfl rfl ?_) | (refine k_tt rfl rfl ?_))
    all_goals refine jZ (vs := [_, _]) rfl ⟨rfl, rfl, trivial⟩ rfl ⟨Gh.le.refl _, rfl, ?_⟩
    all_goals exact .inl ⟨rfl, _, rfl⟩
  | c :: r, h =>
    have cx_cont : PuG Tryz.prog 151 [S [82, 85, 69], S [c]] G (· = Bo (decide (sortOk c.toNat))) := by rw [← rue]; exact c_Contains
    by_cases hs : sortOk c.toNat
    case neg =>
      have hno : tyOf (c :: r) = none := by
        cases ht : (cut1 61 r).2.2 with
        | false => exact tyOf_bad ht
        | true => rw [tyOf_at (c := c) (r := r) (name := (cut1 61 r).1) (rest := (cut1 61 r).2.1) (by rw [← ht]), if_neg fun h => hs h.2]
      have hs2 : (!decide (sortOk c.toNat)) = true := by simpa using hs
      refine jB [(0, _)] Tryz.func110 Tryz.ntmps110 fun B hok hB hW => ?_
      repeat' (first | (refine run (t := tb) 400 rfl ?_ ?_; (focus (repeat' (first | exact trivial | apply And.intro | omega | (simp only [List.length_append, List.length_cons, List.length_nil, Int.toNat_natCast]; omega))))) | (refine k_op rfl ?_; first | (refine jV (g_pickF rfl rfl rfl) ?_) | (refine c_rt rfl rfl rfl cx_cont rfl ?_)) | (refine k_gf rfl rfl rfl ?_) | (refine k_tt rfl ‹_› ?_))
      all_goals refine jZ (vs := [_, _]) rfl ⟨rfl, rfl, trivial⟩ rfl ⟨Gh.le.refl _, rfl, ?_⟩
      all_goals exact .inl ⟨hno, _, rfl⟩
    have hs2 : (!decide (sortOk c.toNat)) = false := by simpa using hs
    have hcl := cut1_len (k := 61) (s := r)
    have hrl : r.length ≤ 1000 := by simp at h; omega
    have cx_cut : PuG Tryz.prog 109 [S r, S [61]] G (· = Tu [S (cut1 61 r).1, S (cut1 61 r).2.1, Bo (cut1 61 r).2.2]) := c_Cut (c := 61) (by omega)
    cases ht : (cut1 61 r).2.2 with
    | false =>
      rw [ht] at cx_cut
      refine jB [(0, _)] Tryz.func110 Tryz.ntmps110 fun B hok hB hW => ?_
      repeat' (first | (refine run (t := tb) 400 rfl ?_ ?_; (focus (repeat' (first | exact trivial | apply And.intro | omega | (simp only [List.length_append, List.length_cons, List.length_nil, Int.toNat_natCast]; omega))))) | (refine k_op rfl ?_; first | (refine jV (g_pickT rfl rfl rfl) ?_) | (refine jV (g_pickF rfl rfl rfl) ?_) | (refine c_rt rfl rfl rfl cx_cont rfl ?_) | (refine c_rt rfl rfl rfl cx_cut rfl ?_)) | (refine k_gt rfl rfl rfl ?_) | (refine k_gf rfl rfl rfl ?_) | (refine k_tt rfl rfl ?_) | (refine k_ff rfl ‹_› ?_))
      all_goals refine jZ (vs := [_, _]) rfl ⟨rfl, rfl, trivial⟩ rfl ⟨Gh.le.refl _, rfl, ?_⟩
      all_goals exact .inl ⟨tyOf_bad ht, _, rfl⟩
    | true =>
      have hty := tyOf_at (c := c) (r := r) (name := (cut1 61 r).1) (rest := (cut1 61 r).2.1) (by rw [← ht])
      rw [ht] at cx_cut
      generalize (cut1 61 r).1 = name at *
      generalize (cut1 61 r).2.1 = rest at *
      have e0 : bt (c :: r) (Int.toNat 0) = c.toNat := bt_zero c r
      by_cases hn : isNm name = true
      case neg =>
        have hn2 : (!isNm name) = true := by simpa using hn
        have hno : tyOf (c :: r) = none := by rw [hty, if_neg fun h => hn h.1]
        refine jB [(0, _)] Tryz.func110 Tryz.ntmps110 fun B hok hB hW => ?_
        repeat' (first | (refine run (t := tb) 400 rfl ?_ ?_; (focus (repeat' (first | exact trivial | apply And.intro | omega | (simp only [List.length_append, List.length_cons, List.length_nil, Int.toNat_natCast]; omega))))) | (refine k_op rfl ?_; first | (refine jV (g_pickF rfl rfl rfl) ?_) | (refine c_rt rfl rfl rfl cx_cont rfl ?_) | (refine c_rt rfl rfl rfl cx_cut rfl ?_) | (refine c_rt rfl rfl rfl (c_isName (by omega)) rfl ?_)) | (refine k_gf rfl rfl rfl ?_) | (refine k_tt rfl ‹_› ?_) | (refine k_ff rfl ‹_› ?_))
        all_goals refine jZ (vs := [_, _]) rfl ⟨rfl, rfl, trivial⟩ rfl ⟨Gh.le.refl _, rfl, ?_⟩
        all_goals exact .inl ⟨hno, _, rfl⟩
      have hn2 : (!isNm name) = false := by rw [hn]; rfl
      rw [if_pos ⟨hn, hs⟩] at hty
      by_cases hr : rest = []
      · rw [if_pos hr] at hty
        by_cases h82 : c.toNat = 82
        · rw [if_pos h82] at hty
          have e82 : bt (c :: r) (Int.toNat 0) = 82 := by omega
          refine jB [(0, _)] Tryz.func110 Tryz.ntmps110 fun B hok hB hW => ?_
          repeat' (first | (refine run (t := tb) 400 rfl ?_ ?_; (focus (repeat' (first | exact trivial | apply And.intro | omega | (simp only [List.length_append, List.length_cons, List.length_nil, Int.toNat_natCast]; omega))))) | (refine k_op rfl ?_; first | (refine jV (g_pickF rfl rfl rfl) ?_) | refine jV (g_bld rfl rfl) ?_ | refine c_bx rfl rfl rfl fun _ => ?_ | (refine c_rt rfl rfl rfl cx_cont rfl ?_) | (refine c_rt rfl rfl rfl cx_cut rfl ?_) | (refine c_rt rfl rfl rfl (c_isName (by omega)) rfl ?_)) | (refine k_gf rfl rfl rfl ?_) | (refine k_tt rfl (dTt ‹_›) ?_) | (refine k_ff rfl ‹_› ?_) | (refine k_any (s_any (id := 8) _ (fun _ h => h) mixed ?_); refine jT 3 [0, 1, 2, 3, 6] (bts 8 79) ?_; (refine jG (bts 8 95) 4 rfl (g_ld rfl rfl rfl) ?_); refine jT 0 [5, 7] (bts 8 255) ?_; refine x_done (by kernel_rfl) (k_bk ?_)))
          rename_i x
          refine Nx.sealC (b := x) fun G' hle hseg => ?_
          refine jZ (vs := [_, _]) rfl ⟨rfl, rfl, trivial⟩ rfl ⟨hle, rfl, ?_⟩
          rw [e82] at hseg
          refine .inr ⟨x, ⟨82, name, []⟩, ?_, hty, _, _, hseg, SlV.nil0⟩
          show Tu [Pt x 0, Bo (decide (((bt (c :: r) (Int.toNat 0) : Nat) : Int) = 82))] = _
          rw [e82]; rfl
        · rw [if_neg h82] at hty
          have e82 : ¬ bt (c :: r) (Int.toNat 0) = 82 := by omega
          refine jB [(0, _)] Tryz.func110 Tryz.ntmps110 fun B hok hB hW => ?_
          repeat' (first | (refine run (t := tb) 400 rfl ?_ ?_; (focus (repeat' (first | exact trivial | apply And.intro | omega | (simp only [List.length_append, List.length_cons, List.length_nil, Int.toNat_natCast]; omega))))) | (refine k_op rfl ?_; first | (refine jV (g_pickF rfl rfl rfl) ?_) | refine jV (g_bld rfl rfl) ?_ | refine c_bx rfl rfl rfl fun _ => ?_ | (refine c_rt rfl rfl rfl cx_cont rfl ?_) | (refine c_rt rfl rfl rfl cx_cut rfl ?_) | (refine c_rt rfl rfl rfl (c_isName (by omega)) rfl ?_)) | (refine k_gf rfl rfl rfl ?_) | (refine k_tt rfl (dTt ‹_›) ?_) | (refine k_ff rfl ‹_› ?_) | (refine k_any (s_any (id := 8) _ (fun _ h => h) mixed ?_); refine jT 3 [0, 1, 2, 3, 6] (bts 8 79) ?_; (refine jG (bts 8 95) 4 rfl (g_ld rfl rfl rfl) ?_); refine jT 0 [5, 7] (bts 8 255) ?_; refine x_done (by kernel_rfl) (k_bk ?_)))
          all_goals refine jZ (vs := [_, _]) rfl ⟨rfl, rfl, trivial⟩ rfl ⟨Gh.le.refl _, rfl, ?_⟩
          all_goals exact .inl ⟨hty, _, by rw [oneOf_two, decide_eq_false (show ¬ ((bt (c :: r) (Int.toNat 0) : Nat) : Int) = 82 by omega)]⟩
      · rw [if_neg hr] at hty
        have hall : ∀ y ∈ cut 44 rest, y.length ≤ 1000 := fun y hy => Nat.le_trans (cut_len hy) (by omega)
        have hcnt := cut_count (k := 44) (s := rest)
        have cx_split : FnS Tryz.prog 91 [S rest, S [44]] G (fun v G' => ∃ b o cap, v = .slice (some ⟨b, o, none⟩) (cut 44 rest).length cap ∧ Seg G' b o (rows strF (cut 44 rest))) := c_splitX (c := 44) _ (by omega) rfl rfl rfl cut_pos
        generalize cut 44 rest = xs at *
        refine jB [(0, _)] Tryz.func110 Tryz.ntmps110 fun B hok hB hW => ?_
        repeat' (first | (refine run (t := tb) 400 rfl ?_ ?_; (focus (repeat' (first | exact trivial | apply And.intro | omega | (simp only [List.length_append, List.length_cons, List.length_nil, Int.toNat_natCast]; omega))))) | (refine k_op rfl ?_; first | (refine jV (g_pickF rfl rfl rfl) ?_) | refine jV (g_bld rfl rfl) ?_ | refine c_bx rfl rfl rfl fun _ => ?_ | refine jV (g_lenL rfl) ?_ | (refine c_rt rfl rfl rfl cx_cont rfl ?_) | (refine c_rt rfl rfl rfl cx_cut rfl ?_) | (refine c_rt rfl rfl rfl (c_isName (by omega)) rfl ?_) | (refine c_fns rfl rfl rfl cx_split rfl ?_; rintro _ G hle ⟨b1, o1, cap1, rfl, hseg⟩; skip)) | (refine k_gf rfl rfl rfl ?_) | (refine k_ff rfl (by first | assumption | (refine decide_eq_false ?_; (assumption))) ?_))
        rename_i x
        have hle0 := hle
        refine Nx.addNil tFi 6 ?_
        refine k_loop (ι := Value × List Fld × Nat × Gh) (fun i => ((i.2.2.1 ≤ xs.length ∧ i.2.1.length ≤ i.2.2.1) ∧ i.2.1.length ≤ 8) ∧ fieldsOf c.toNat (xs.drop i.2.2.1) i.2.1 = fieldsOf c.toNat xs [] ∧ Gh.le G i.2.2.2) (fun i => [(7, Pt x 0), (51, .slice (some ⟨b1, o1, none⟩) xs.length cap1), (52, I xs.length), (53, I i.2.2.1)]) (fun i => i.2.2.2) (fun i => [.acc i.1 tFi 6 i.2.1.length (rows fiF i.2.1), .blk x (.cells [U8 (bt (c :: r) (Int.toNat 0) : Nat), S name, i.1, S (c :: r)].toArray tTi (0, 0))]) (fun i => xs.length - i.2.2.1) (nilS, [], 0, G) ?_ (by repeat' constructor) rfl sRr (fun i Hi => ?_)
        · exact ⟨⟨⟨Nat.zero_le _, Nat.le_refl _⟩, by simp⟩, rfl, Gh.le.refl _⟩
        obtain ⟨u, fs, i, Gk⟩ := i
        dsimp only at Hi ⊢
        obtain ⟨⟨⟨hi1, hi2⟩, hi8⟩, hi3, hgk⟩ := Hi
        have hsk := hseg.mono hgk
        refine Nx.shp (v := u) (.head _) fun hsh => ?_
        have hsh2 := hsh
        obtain ⟨au, cu, rfl⟩ := hsh.sl
        by_cases hix : i < xs.length
        case neg =>
          have ei : i = xs.length := by omega
          rw [ei, List.drop_length, fieldsOf] at hi3
          have hyes : tyOf (c :: r) = some ⟨c.toNat, name, fs⟩ := by rw [hty, ← hi3]; exact if_pos hi8
          repeat' (first | (refine jR ?_) | (refine k_ff rfl (dFf (by omega)) ?_))
          refine Nx.sealS (v := .slice au fs.length cu) fun G1 hle1 hsl => ?_
          refine Nx.sealC (b := x) fun G2 hle2 hsg2 => ?_
          refine jZ (vs := [_, _]) rfl ⟨rfl, rfl, trivial⟩ rfl ⟨((hle.trans hgk).trans hle1).trans hle2, rfl, ?_⟩
          exact .inr ⟨x, ⟨c.toNat, name, fs⟩, rfl, hyes, _, _, hsg2, hsl.mono hle2⟩
        rw [drop_nth hix, fieldsOf] at hi3
        have hx := hall _ (nth_mem hix)
        repeat' (first | (refine jR ?_) | (refine k_op rfl ?_; first | (refine jV (g_pickT rfl rfl rfl) ?_) | (refine jV (g_pickF rfl rfl rfl) ?_) | refine jV (g_ld rfl rfl rfl) ?_ | (refine jV (g_ldRS rfl rfl (by assumption) ?_) ?_; (focus ((omega); done))) | refine jV (g_lenL rfl) ?_ | (refine jV (g_iaddrN rfl rfl (by omega)) ?_) | refine c_al rfl rfl fun _ => ?_ | refine c_stA rfl rfl rfl rfl rfl rfl ?_ | (refine c_fns rfl rfl rfl (c_readField (by omega)) rfl ?_; rintro _ G hle ⟨f, ok, rfl, hfld⟩; skip)) | refine k_gb rfl rfl (fun _ => ?_) (fun _ => ?_) | (refine k_tt rfl (by first | rfl | (refine decide_eq_true ?_; (omega))) ?_) | refine k_if rfl (fun _ => ?_) (fun _ => ?_))
        all_goals first
          | (rename_i z hq h8
             have hq2 : ok = true := by simpa using hq
             subst hq2
             have hf1 : fldOf (nth xs i) c.toNat = some f := hfld
             rw [hf1] at hi3
             dsimp only at hi3
             have h9 : fs.length = 8 := by omega
             have hno : tyOf (c :: r) = none := by
               rw [hty]
               cases hgs : fieldsOf c.toNat xs [] with
               | none => rfl
               | some gs =>
                 rw [hgs] at hi3
                 split at hi3
                 · have := fieldsOf_len hi3
                   simp at this
                   exact if_neg (by omega)
                 · cases hi3
             refine jZ (vs := [_, _]) rfl ⟨rfl, rfl, trivial⟩ rfl ⟨(hle0.trans hgk).trans hle, rfl, ?_⟩
             exact .inl ⟨hno, _, rfl⟩)
          | (rename_i z hq
             have hq2 : ok = false := by simpa using hq
             subst hq2
             have hf0 : fldOf (nth xs i) c.toNat = none := hfld
             have hno : tyOf (c :: r) = none := by rw [hf0] at hi3; rw [hty, ← hi3]
             refine jZ (vs := [_, _]) rfl ⟨rfl, rfl, trivial⟩ rfl ⟨(hle0.trans hgk).trans hle, rfl, ?_⟩
             exact .inl ⟨hno, _, rfl⟩)
          | (rename_i z hq h8
             have hq2 : ok = true := by simpa using hq
             subst hq2
             have hf1 : fldOf (nth xs i) c.toNat = some f := hfld
             rw [hf1] at hi3
             dsimp only at hi3
             have h9 : fs.length ≠ 8 := by omega
             refine k_loop (ι := Nat) (fun k => k ≤ fs.length ∧ ∀ m, m < k → (nth fs m).tag < f.tag ∧ (nth fs m).name ≠ f.name) (fun k => [(7, Pt x 0), (10, Pt z 0), (51, .slice (some ⟨b1, o1, none⟩) xs.length cap1), (52, I xs.length), (53, I i), (79, .slice au fs.length cu), (80, I fs.length), (81, I k)]) (fun _ => G) (fun k => [.blk z (.cells (fiF f).toArray tFi (0, 0)), .acc (.slice au fs.length cu) tFi 6 fs.length (rows fiF fs), .blk x (.cells [U8 (bt (c :: r) (Int.toNat 0) : Nat), S name, .slice au fs.length cu, S (c :: r)].toArray tTi (0, 0))]) (fun k => fs.length - k) 0 ?_ (by repeat' constructor) rfl sRr (fun k Hk => ?_)
             · exact ⟨Nat.zero_le _, fun m hm => absurd hm (by omega)⟩
             by_cases hk : k < fs.length
             · obtain ⟨bu, cu2, eu⟩ := hsh2.pos (by omega)
               simp only [Value.slice.injEq] at eu
               obtain ⟨rfl, -, rfl⟩ := eu
               by_cases hbad : (nth fs k).tag < f.tag ∧ (nth fs k).name ≠ f.name
               · obtain ⟨hb1, hb2⟩ := hbad
                 repeat' (first | refine jM ?_ | (refine k_op rfl ?_; first | (refine jV (g_pickF rfl rfl rfl) ?_) | refine jV (g_ld rfl rfl rfl) ?_ | (refine jV (g_ldBR rfl rfl rfl (by omega)) ?_) | (refine jV (g_iaddrN rfl rfl (by omega)) ?_) | refine c_al rfl rfl fun _ => ?_ | refine c_stA rfl rfl rfl rfl rfl rfl ?_) | (refine k_gf rfl rfl (dFf ‹_›) ?_) | (refine k_tt rfl (dTt (by omega)) ?_) | (refine k_ff rfl (dFf (by omega)) ?_))
                 refine k_rd (k + 1) ⟨by omega, fun m hm => ?_⟩ (by omega) (by repeat' constructor) rfl (by repeat (first | exact List.Sublist.refl _ | apply List.Sublist.cons))
                 rcases Nat.lt_or_ge m k with h3 | h3
                 · exact Hk.2 m h3
                 · have : m = k := by omega
                   subst this; exact ⟨hb1, hb2⟩
               · have hfr : fresh f fs = false := by
                   unfold fresh
                   rw [List.all_eq_false]
                   exact ⟨nth fs k, nth_mem hk, by simpa using hbad⟩
                 have hno : tyOf (c :: r) = none := by
                   rw [hfr, if_neg (by simp)] at hi3
                   rw [hty, ← hi3]
                 by_cases hnm : (nth fs k).name = f.name
                 case' neg => have htag : f.tag ≤ (nth fs k).tag := by
                               rcases Int.lt_or_le (nth fs k).tag f.tag with h6 | h6
                               · exact absurd ⟨h6, hnm⟩ hbad
                               · exact h6
                 all_goals repeat' (first | (refine jR ?_) | (refine k_op rfl ?_; first | (refine jV (g_pickT rfl rfl rfl) ?_) | (refine jV (g_pickF rfl rfl rfl) ?_) | refine jV (g_ld rfl rfl rfl) ?_ | (refine jV (g_ldBR rfl rfl rfl (by omega)) ?_) | (refine jV (g_iaddrN rfl rfl (by omega)) ?_) | refine c_al rfl rfl fun _ => ?_ | refine c_stA rfl rfl rfl rfl rfl rfl ?_) | (refine k_gt rfl rfl (dTt ‹_›) ?_) | (refine k_gf rfl rfl (dFf ‹_›) ?_) | (refine k_tt rfl (by first | rfl | (refine decide_eq_true ?_; first | assumption | omega)) ?_))
                 all_goals refine jZ (vs := [_, _]) rfl ⟨rfl, rfl, trivial⟩ rfl ⟨(hle0.trans hgk).trans hle, rfl, ?_⟩
                 all_goals exact .inl ⟨hno, _, rfl⟩
             · have hfr : fresh f fs = true := by
                 unfold fresh
                 rw [List.all_eq_true]
                 intro g hg
                 obtain ⟨m, hm, rfl⟩ := mem_nth hg
                 simpa using Hk.2 m (by omega)
               rw [hfr, if_pos rfl] at hi3
               have hxl : xs.length ≤ 1001 := by omega
               repeat' (first | (refine jR ?_) | (refine k_ff rfl (dFf (by omega)) ?_))
               (refine k_any (s_any (id := 21) [.blk z (.cells (fiF f).toArray tFi (0, 0))] (by intro y hy; simp only [List.mem_cons, List.not_mem_nil, or_false] at hy ⊢; simp [hy]) mixed ?_); refine jU 7 [0, 1, 2, 3] (bts 11 15) ?_ ?_; (focus (repeat' (exact trivial))); (refine jG (bts 11 47) 5 rfl (g_ldA rfl rfl rfl rfl) ?_); refine x_all [4, 6] (by kernel_rfl) (by decide) ⟨?_, ?_, trivial⟩; (focus (refine x_opg rfl rfl ?_; (refine jV (g_ld rfl rfl rfl) ?_); refine jK (bts 11 63) ?_; refine jA 6 rfl ?_; (refine c_bsl rfl rfl rfl rfl rfl rfl fun _ => ?_); refine jK (bts 11 127) ?_; refine jA 7 rfl ?_; ((refine c_apX rfl rfl rfl rfl rfl rfl rfl rfl rfl ?_ fun _ _ => ?_; (focus ((omega); done)))); refine jK (bts 11 255) ?_; refine jU 1 [8, 9] (bts 11 1023) ?_ ?_; (focus (repeat' (exact trivial))); refine jA 10 rfl ?_; (refine c_st1 rfl rfl rfl rfl ?_); refine jK (bts 11 2047) ?_; refine x_done (by kernel_rfl) (k_bk ?_))); rotate_left 1; (focus (refine x_opg rfl rfl ?_; (refine c_bsl rfl rfl rfl rfl rfl rfl fun _ => ?_); refine jK (bts 11 111) ?_; refine jA 4 rfl ?_; (refine jV (g_ld rfl rfl rfl) ?_); refine jK (bts 11 127) ?_; refine jA 7 rfl ?_; ((refine c_apX rfl rfl rfl rfl rfl rfl rfl rfl rfl ?_ fun _ _ => ?_; (focus ((omega); done)))); refine jK (bts 11 255) ?_; refine jU 1 [8, 9] (bts 11 1023) ?_ ?_; (focus (repeat' (exact trivial))); refine jA 10 rfl ?_; (refine c_st1 rfl rfl rfl rfl ?_); refine jK (bts 11 2047) ?_; refine x_done (by kernel_rfl) (k_bk ?_))); rotate_left 1)
               all_goals rename_i w b2 c2
               all_goals repeat' (refine jM ?_)
               all_goals refine k_rd (.slice (some ⟨b2, 0, none⟩) (fs.length + 1) c2, fs ++ [f], i + 1, G) ⟨⟨⟨by dsimp only; omega, by simp; omega⟩, by simp; omega⟩, hi3, hgk.trans hle⟩ (by dsimp only; omega) (by repeat' constructor) rfl (by dsimp only; simp only [rows_snoc, List.length_append, List.length_cons, List.length_nil, Nat.zero_add]; repeat (first | exact List.Sublist.refl _ | apply List.Sublist.cons_cons | apply List.Sublist.cons)))
abbrev TyX := (Option Addr × Nat) × Ty
def slX (x : TyX) : Value := .slice x.1.1 x.2.fields.length x.1.2
def tyF (x : TyX) : List Value := [U8 x.2.sort, S x.2.name, slX x]
instance : RowF tyF 3 := ⟨fun _ => rfl⟩
def zT : TyX := ((none, 0), ⟨0, [], []⟩)
theorem SlV.sl {G : Gh} {v : Value} {sz m : Nat} {xs : List Value} (h : SlV G v sz m xs) : ∃ a cap, v = .slice a m cap := by
 obtain ⟨_, ⟨rfl, rfl⟩ | ⟨b, o, cap, rfl, _⟩⟩ := h
 ·exact ⟨none, 0, rfl⟩
 ·exact ⟨_, cap, rfl⟩
structure SchR (G : Gh) (u : Value) (vs : List TyX) : Prop where
 sl : SlV G u 3 vs.length (rows tyF vs)
 fl : ∀ x ∈ vs, SlV G (slX x) 4 x.2.fields.length (rows fldF x.2.fields)
theorem SchR.mono {G G' : Gh} {u : Value} {vs : List TyX} (h : SchR G u vs) (hl : Gh.le G G') : SchR G' u vs := ⟨h.sl.mono hl, fun x hx => (h.fl x hx).mono hl⟩
def tys (vs : List TyX) : List Ty := vs.map (·.2)
def findV (vs : List TyX) (n : List UInt8) : Option TyX := vs.find? fun x => decide (x.2.name = n)
def refV (vs : List TyX) (k : List UInt8) : Option TyX := (refN k).bind (findV vs)
theorem findV_ty (vs : List TyX) (n : List UInt8) : (findV vs n).map (·.2) = findT (tys vs) n := by
 unfold findV findT tys
 induction vs with
 | nil => rfl
 | cons x vs ih =>
  simp only [List.map_cons, List.find?_cons]
  split <;> simp_all
theorem findV_mem {vs : List TyX} {n : List UInt8} {x : TyX} (h : findV vs n = some x) : x ∈ vs ∧ x.2.name = n := by
 unfold findV at h
 exact ⟨List.mem_of_find?_eq_some h, by simpa using List.find?_some h⟩
theorem findV_at {vs : List TyX} {n : List UInt8} {i : Nat} (hi : i < vs.length) (h : ∀ k, k < i → (nth vs k).2.name ≠ n) (h2 : (nth vs i).2.name = n) : findV vs n = some (nth vs i) := by
 unfold findV
 rw [List.find?_eq_some_iff_getElem]
 rw [nth_eq hi] at h2 ⊢
 refine ⟨by simpa using h2, i, hi, rfl, fun j hj => ?_⟩
 have := h j hj
 rw [nth_eq (by omega)] at this
 simpa using this
theorem findV_none {vs : List TyX} {n : List UInt8} (h : ∀ k, k < vs.length → (nth vs k).2.name ≠ n) : findV vs n = none := by
 unfold findV
 rw [List.find?_eq_none]
 intro x hx
 obtain ⟨i, hi, rfl⟩ := List.mem_iff_getElem.1 hx
 have := h i hi
 rw [nth_eq hi] at this
 simpa using this
theorem c_find {u : Value} {vs : List TyX} {n : List UInt8} (h : SchR G u vs) (hn : vs.length ≤ 1000000) : PuG Tryz.prog 108 [u, S n] G (· = Tu [Ag (tyF ((findV vs n).getD zT)), Bo (findV vs n).isSome]) := by
 have hsl := h.sl
 refine jE [(0, _), (1, _)] Tryz.func108 Tryz.ntmps108 fun B hB => ?_
 repeat' (first | (refine jR ?_) | (refine k_op rfl ?_; (refine c_al rfl rfl fun _ => ?_)))
 rename_i x
 refine k_loop (ι := Nat) (fun i => i ≤ vs.length ∧ ∀ k, k < i → (nth vs k).2.name ≠ n) (fun i => [(0, u), (1, S n), (4, Pt x 0), (6, I i)]) (fun _ => G) (fun i => [.blk x (.cells [U8 0, S [], nilS].toArray tTy (0, 0))]) (fun i => vs.length - i) 0 ?_ (by repeat' constructor) rfl sRr (fun i Hi => ?_)
 ·exact ⟨by omega, fun k hk => absurd hk (by omega)⟩
 by_cases hi : i < vs.length
 ·obtain ⟨b, o, cap, rfl, hs⟩ := hsl.expl (by omega)
  repeat' (first | refine jM ?_ | (refine k_op rfl ?_; first | refine jV (g_lenL rfl) ?_ | (refine jV (g_iaddrN rfl rfl (by omega)) ?_) | (refine jV (g_ldR rfl rfl (by assumption) ?_) ?_; (focus ((omega); done))) | (refine jV (g_ldRF rfl rfl (by assumption) ?_ rfl rfl) ?_; (focus ((omega); done))) | refine c_stA rfl rfl rfl rfl rfl rfl ?_) | (refine k_tt rfl (dTt (by omega)) ?_) | refine k_if rfl (fun _ => ?_) (fun _ => ?_))
  ·rename_i he
   refine jZ (vs := [_, _]) rfl ⟨rc_A rfl rfl rfl rfl, rfl, trivial⟩ rfl ⟨rfl, rfl, ?_⟩
   rw [findV_at hi Hi.2 he]; rfl
  ·rename_i he
   refine k_rd (i + 1) ⟨by omega, fun k hk => ?_⟩ (by omega) (by repeat' constructor) rfl sRr
   rcases Nat.lt_or_ge k i with h3 | h3
   ·exact Hi.2 k h3
   ·have : k = i := by omega
    subst this; exact he
 ·repeat' (first | (refine jR ?_) | (refine k_op rfl ?_; first | refine jV (g_lenV rfl (by assumption)) ?_ | refine c_stA rfl rfl rfl rfl rfl rfl ?_ | refine jV (g_bld rfl rfl) ?_) | (refine k_ff rfl (dFf (by omega)) ?_))
  refine jZ (vs := [_, _]) rfl ⟨rc_A rfl rfl rfl rfl, rfl, trivial⟩ rfl ⟨rfl, rfl, ?_⟩
  rw [findV_none fun k hk => Hi.2 k (by omega)]; rfl
theorem c_l2RefK {s : List UInt8} (h : kOk s = true) (hl : s.length ≤ 1000000) : PuG Tryz.prog 106 [S s] G (· = Tu [S ((refN s).getD []), Bo (refN s).isSome]) := by
 match s, h with
 | c :: r, h =>
  by_cases hr : r = []
  ·have hc : ¬ c.toNat = 64 := by
    intro hc
    subst hr
    rw [kOk, if_neg (by omega), if_pos hc] at h
    simp [bt_zero, hc] at h
   have e0 := bt_c0 c r
   have hq : refN (c :: r) = none := by simp [refN, hc]
   rw [hq]
   refine jE [(0, _)] Tryz.func106 Tryz.ntmps106 fun B hB => ?_
   repeat' (first | (refine run (t := tb) 400 rfl ?_ ?_; (focus (repeat' (first | exact trivial | apply And.intro | omega | (simp only [List.length_append, List.length_cons, List.length_nil, Int.toNat_natCast]; omega))))) | (refine k_tt rfl ?_ ?_; (focus ((simp; omega); done))))
   all_goals refine jZ (vs := [_, _]) rfl ⟨rfl, rfl, trivial⟩ rfl ⟨rfl, rfl, ?_⟩
   all_goals rfl
  ·have := c_l2Ref (G := G) (c := c) hr (by simp at hl; omega)
   refine this.mono ?_
   rintro v G' L' ⟨h1, h2, h3⟩
   refine ⟨h1, h2, h3.trans ?_⟩
   by_cases hc : c.toNat = 64 <;> simp [refN, hc]
theorem c_ref {u : Value} {vs : List TyX} {k : List UInt8} (h : SchR G u vs) (hn : vs.length ≤ 1000000) (hk : kOk k = true) (hl : k.length ≤ 1000000) : PuG Tryz.prog 132 [u, S k] G (· = Tu [Ag (tyF ((refV vs k).getD zT)), Bo (refV vs k).isSome]) := by
 rcases hr : refN k with _ | n
 ·have e : refV vs k = none := by simp [refV, hr]
  rw [e]
  have cx_ref : PuG Tryz.prog 106 [S k] G (· = Tu [S [], Bo false]) := by have := c_l2RefK (G := G) hk hl; rwa [hr] at this
  refine jE [(0, _), (1, _)] Tryz.func132 Tryz.ntmps132 fun B hB => ?_
  repeat' (first | (refine jR ?_) | (refine k_op rfl ?_; first | refine c_al rfl rfl fun _ => ?_ | refine jV (g_bld rfl rfl) ?_ | refine c_stA rfl rfl rfl rfl rfl rfl ?_ | (refine c_rt rfl rfl rfl cx_ref rfl ?_)) | (refine k_tt rfl rfl ?_))
  all_goals refine jZ (vs := [_, _]) rfl ⟨rc_A rfl rfl rfl rfl, rfl, trivial⟩ rfl ⟨rfl, rfl, ?_⟩
  all_goals rfl
 ·have e : refV vs k = findV vs n := by simp [refV, hr]
  rw [e]
  have cx_ref : PuG Tryz.prog 106 [S k] G (· = Tu [S n, Bo true]) := by have := c_l2RefK (G := G) hk hl; rwa [hr] at this
  refine jE [(0, _), (1, _)] Tryz.func132 Tryz.ntmps132 fun B hB => ?_
  repeat' (first | (refine jR ?_) | (refine k_op rfl ?_; first | refine c_al rfl rfl fun _ => ?_ | refine c_stA rfl rfl rfl rfl rfl rfl ?_ | (refine c_rt rfl rfl rfl cx_ref rfl ?_) | (refine c_rt rfl rfl rfl (c_find (by (repeat (assumption)); done) (by omega)) rfl ?_)) | (refine k_ff rfl rfl ?_))
  all_goals refine jZ (vs := [_, _]) rfl ⟨rc_A rfl rfl rfl rfl, rfl, trivial⟩ rfl ⟨rfl, rfl, ?_⟩
  all_goals rfl
end Go.E
namespace Go.E
set_option maxRecDepth 20000
set_option maxHeartbeats 2000000
open Go.Proofs
variable {G : Gh}
theorem refV_ty (vs : List TyX) (k : List UInt8) : (refV vs k).map (·.2) = refT (tys vs) k := by
 unfold refV refT
 cases refN k with
 | none => rfl
 | some n => simp only [Option.bind_some]; exact findV_ty vs n
theorem refV_mem {vs : List TyX} {k : List UInt8} {x : TyX} (h : refV vs k = some x) : x ∈ vs := by
 unfold refV at h
 cases hr : refN k with
 | none => rw [hr] at h; cases h
 | some n => rw [hr] at h; exact (findV_mem h).1
theorem kindOk_kOk {s : List UInt8} (h : kindOk s = true) : kOk s = true ∧ s.length ≤ 12 := by
 unfold kindOk at h; simp only [Bool.and_eq_true, decide_eq_true_eq] at h; exact ⟨h.2, h.1⟩
theorem c_ends {u : Value} {vs : List TyX} {x0 : TyX} (h : SchR G u vs) (hn : vs.length ≤ 1000) (hw : ∀ x ∈ vs, TyW x.2) (hx : x0 ∈ vs) :
  PuG Tryz.prog 171 [u, Ag (tyF x0)] G (· = Bo (endsN (tys vs) (vs.length + 1) x0.2)) := by
 have hsl := h.sl
 refine jE [(0, _), (1, _)] Tryz.func171 Tryz.ntmps171 fun B hB => ?_
 repeat' (first | (refine jR ?_) | (refine k_op rfl ?_; (refine c_bx rfl rfl rfl fun _ => ?_)))
 rename_i b0
 refine k_loop (ι := TyX × Nat) (fun i => i.1 ∈ vs ∧ i.2 ≤ vs.length + 1 ∧ endsN (tys vs) (vs.length + 1 - i.2) i.1.2 = endsN (tys vs) (vs.length + 1) x0.2) (fun i => [(0, u), (3, Pt b0 0), (5, I i.2)]) (fun _ => G) (fun i => [.blk b0 (.cells (tyF i.1).toArray tTy (0, 0))]) (fun i => vs.length + 1 - i.2) (x0, 0) ?_ (by repeat' constructor) rfl sRr (fun i Hi => ?_)
 ·exact ⟨hx, Nat.zero_le _, rfl⟩
 obtain ⟨⟨⟨a, ca⟩, t⟩, n⟩ := i
 dsimp only at Hi ⊢
 obtain ⟨hxm, hnl, he⟩ := Hi
 have hW := hw _ hxm
 dsimp only at hW
 by_cases hlt : n ≤ vs.length
 case neg =>
  have e0 : vs.length + 1 - n = 0 := by omega
  rw [e0] at he
  repeat' (first | (refine jR ?_) | (refine k_op rfl ?_; (refine jV (g_lenV rfl (by assumption)) ?_)) | (refine k_ff rfl (dFf (by omega)) ?_))
  refine jZ (vs := [_]) rfl ⟨rfl, trivial⟩ rfl ⟨rfl, rfl, ?_⟩
  rw [← he]; rfl
 obtain ⟨m, hm⟩ : ∃ m, vs.length + 1 - n = m + 1 := ⟨vs.length - n, by omega⟩
 rw [hm, endsN] at he
 by_cases hU : t.sort = 85
 case neg =>
  rw [if_pos hU] at he
  repeat' (first | (refine jR ?_) | (refine k_op rfl ?_; first | refine jV (g_lenV rfl (by assumption)) ?_ | refine jV (g_ld rfl rfl rfl) ?_) | (refine k_tt rfl ?_ ?_; (focus ((first | (refine decide_eq_true ?_; (omega)) | (simp; omega)); done))))
  refine jZ (vs := [_]) rfl ⟨rfl, trivial⟩ rfl ⟨rfl, rfl, ?_⟩
  rw [← he]; rfl
 rw [if_neg (by simp [hU])] at he
 have hne := hW.ne (by omega)
 have h0 : 0 < t.fields.length := List.length_pos_iff.2 hne
 obtain ⟨bf, of, cf, ef, hsf⟩ := (h.fl _ hxm).expl h0
 simp only [slX, Value.slice.injEq] at ef
 obtain ⟨rfl, -, rfl⟩ := ef
 dsimp only at hsf
 have hk0 : kind0 t = (nth t.fields 0).kind := by
  unfold kind0 nth
  cases t.fields with
  | nil => rfl
  | cons f r => rfl
 have hkk := kindOk_kOk ((hW.fld _ (nth_mem h0)).kind (by omega))
 rw [hk0] at he
 have href := refV_ty vs (nth t.fields 0).kind
 have cx_rf := c_ref (k := (nth t.fields 0).kind) h (by omega) hkk.1 (by omega)
 rcases hr : refV vs (nth t.fields 0).kind with _ | ⟨⟨a2, c2⟩, t2⟩
 ·rw [hr] at href cx_rf
  rw [← href] at he
  repeat' (first | (refine jR ?_) | (refine k_op rfl ?_; first | refine jV (g_lenV rfl (by assumption)) ?_ | refine jV (g_ld rfl rfl rfl) ?_ | (refine jV (g_ldRF rfl rfl (by assumption) ?_ rfl rfl) ?_; (focus ((omega); done))) | (refine jV (g_iaddrN rfl rfl (by omega)) ?_) | refine c_al rfl rfl fun _ => ?_ | refine c_stA rfl rfl rfl rfl rfl rfl ?_ | (refine c_rt rfl rfl rfl cx_rf rfl ?_)) | (refine k_tt rfl (by first | rfl | (refine decide_eq_true ?_; (omega))) ?_) | (refine k_ff rfl ?_ ?_; (focus ((simp [*]; done); done))))
  all_goals refine jZ (vs := [_]) rfl ⟨rfl, trivial⟩ rfl ⟨rfl, rfl, ?_⟩
  all_goals (rw [← he]; rfl)
 ·rw [hr] at href cx_rf
  rw [← href] at he
  repeat' (first | refine jM ?_ | (refine k_op rfl ?_; first | refine jV (g_lenV rfl (by assumption)) ?_ | refine jV (g_ld rfl rfl rfl) ?_ | (refine jV (g_ldRF rfl rfl (by assumption) ?_ rfl rfl) ?_; (focus ((omega); done))) | refine jV (g_ldA rfl rfl rfl rfl) ?_ | (refine jV (g_iaddrN rfl rfl (by omega)) ?_) | refine c_al rfl rfl fun _ => ?_ | refine c_stA rfl rfl rfl rfl rfl rfl ?_ | (refine c_rt rfl rfl rfl cx_rf rfl ?_)) | (refine k_tt rfl (dTt (by omega)) ?_) | (refine k_ff rfl ?_ ?_; (focus ((first | rfl | (simp [*]; done)); done))))
  refine k_rd (((a2, c2), t2), n + 1) ⟨refV_mem hr, by dsimp only; omega, ?_⟩ (by dsimp only; omega) (by repeat' constructor) rfl (by repeat (first | exact List.Sublist.refl _ | apply List.Sublist.cons))
  dsimp only
  rw [show vs.length + 1 - (n + 1) = m by omega]
  exact he
theorem tys_len (vs : List TyX) : (tys vs).length = vs.length := by simp [tys]
theorem nth_tys {vs : List TyX} {i : Nat} (h : i < vs.length) : nth (tys vs) i = (nth vs i).2 := by
 rw [nth_eq h, nth_eq (by rw [tys_len]; exact h)]; simp [tys]
theorem hasK_find {vs : List TyX} {k : List UInt8} : hasK (tys vs) k = (!(refN (core k)).isSome || (findV vs ((refN (core k)).getD [])).isSome) := by
 unfold hasK
 cases refN (core k) with
 | none => rfl
 | some n =>
  show (findT (tys vs) n).isSome = _
  rw [← findV_ty]; simp
theorem core_kOk {k : List UInt8} (h : kOk k = true) : kOk (core k) = true := by
 induction k with
 | nil => cases h
 | cons c r ih =>
  unfold core
  split
  ·rename_i hc; rw [kOk, if_pos hc] at h; exact ih h
  ·exact h
theorem core_len' : ∀ s : List UInt8, (core s).length ≤ s.length
 | [] => Nat.le_refl _
 | c :: r => by
  unfold core
  split
  ·have := core_len' r; simp; omega
  ·exact Nat.le_refl _
theorem c_valid {u : Value} {vs : List TyX} (h : SchR G u vs) (hn : vs.length ≤ 1000) (hw : ∀ x ∈ vs, TyW x.2) :
    PuG Tryz.prog 148 [u] G (· = Bo (decide (ValidT (tys vs)))) := by
  have hsl := h.sl
  have hlen := tys_len vs
  refine jE [(0, _)] Tryz.func148 Tryz.ntmps148 fun B hB => ?_
  repeat' (refine jR ?_)
  refine k_loop (ι := Nat) (fun i => i ≤ vs.length ∧ ∀ j, j < i → NamesAt (tys vs) j ∧ KindsOk (tys vs) (nth (tys vs) j)) (fun i => [(0, u), (3, I i)]) (fun _ => G) (fun i => []) (fun i => vs.length - i) 0 ?_ (by repeat' constructor) rfl sRr (fun i Hi => ?_)
  · exact ⟨Nat.zero_le _, fun j hj => absurd hj (by omega)⟩
  by_cases hi : i < vs.length
  case neg =>
    have ei : i = vs.length := by omega
    subst ei
    have Hall := Hi.2
    repeat' (first | (refine jR ?_) | (refine k_op rfl ?_; (refine jV (g_lenV rfl (by assumption)) ?_)) | (refine k_ff rfl (dFf (by omega)) ?_))
    refine k_loop (ι := Nat) (fun i => i ≤ vs.length ∧ ∀ j, j < i → endsN (tys vs) ((tys vs).length + 1) (nth (tys vs) j) = true) (fun i => [(0, u), (10, I i)]) (fun _ => G) (fun i => []) (fun i => vs.length - i) 0 ?_ (by repeat' constructor) rfl sRr (fun i Hi => ?_)
    · exact ⟨Nat.zero_le _, fun j hj => absurd hj (by omega)⟩
    by_cases hi : i < vs.length
    · obtain ⟨b, o, cap, rfl, hs⟩ := hsl.expl (by omega)
      have hm := nth_mem hi
      have cx_en := c_ends h hn hw hm
      by_cases he : endsN (tys vs) (vs.length + 1) (nth vs i).2 = true
      · have he2 : (!endsN (tys vs) (vs.length + 1) (nth vs i).2) = false := by rw [he]; rfl
        repeat' (first | refine jM ?_ | (refine k_op rfl ?_; first | refine jV (g_lenL rfl) ?_ | (refine jV (g_iaddrN rfl rfl (by omega)) ?_) | (refine jV (g_ldR rfl rfl (by assumption) ?_) ?_; (focus ((omega); done))) | (refine c_rt rfl rfl rfl cx_en rfl ?_)) | (refine k_tt rfl (dTt (by omega)) ?_) | (refine k_ff rfl ‹_› ?_))
        refine k_rd (i + 1) ⟨by omega, fun j hj => ?_⟩ (by omega) (by repeat' constructor) rfl sRr
        rcases Nat.lt_or_ge j i with h3 | h3
        · exact Hi.2 j h3
        · have : j = i := by omega
          subst this; rw [hlen, nth_tys hi]; exact he
      · have he2 : (!endsN (tys vs) (vs.length + 1) (nth vs i).2) = true := by simpa using he
        repeat' (first | (refine jR ?_) | (refine k_op rfl ?_; first | refine jV (g_lenL rfl) ?_ | (refine jV (g_iaddrN rfl rfl (by omega)) ?_) | (refine jV (g_ldR rfl rfl (by assumption) ?_) ?_; (focus ((omega); done))) | (refine c_rt rfl rfl rfl cx_en rfl ?_)) | (refine k_tt rfl (by first | assumption | (refine decide_eq_true ?_; (omega))) ?_))
        refine jZ (vs := [_]) rfl ⟨rfl, trivial⟩ rfl ⟨rfl, rfl, ?_⟩
        refine congrArg Bo (decide_eq_false fun hv => he ?_).symm
        have := hv.2 i (by omega)
        rwa [hlen, nth_tys hi] at this
    · repeat' (first | (refine jR ?_) | (refine k_op rfl ?_; (refine jV (g_lenV rfl (by assumption)) ?_)) | (refine k_ff rfl (dFf (by omega)) ?_))
      refine jZ (vs := [_]) rfl ⟨rfl, trivial⟩ rfl ⟨rfl, rfl, ?_⟩
      exact congrArg Bo (decide_eq_true ⟨fun j hj => Hall j (by omega), fun j hj => Hi.2 j (by omega)⟩).symm
  obtain ⟨b, o, cap, rfl, hs⟩ := hsl.expl (by omega)
  rcases hxi : nth vs i with ⟨⟨a, ca⟩, t⟩
  have hm : ((a, ca), t) ∈ vs := by rw [← hxi]; exact nth_mem hi
  have hW := hw _ hm
  dsimp only at hW
  have hti : nth (tys vs) i = t := by rw [nth_tys hi, hxi]
  have hE1 : (((a, ca), t) : TyX).2.sort = t.sort := rfl
  have hE2 : (((a, ca), t) : TyX).2.fields.length = t.fields.length := rfl
  have h8 := hW.len
  have hfl := h.fl _ hm
  repeat' (first | (refine jR ?_) | (refine k_op rfl ?_; (refine jV (g_lenL rfl) ?_)) | (refine k_tt rfl (dTt (by omega)) ?_))
  refine k_loop (ι := Nat) (fun k => k ≤ i ∧ ∀ j, j < k → (nth (tys vs) j).name ≠ (nth (tys vs) i).name) (fun k => [(0, .slice (some ⟨b, o, none⟩) vs.length cap), (3, I i), (4, I k)]) (fun _ => G) (fun k => []) (fun k => i - k) 0 ?_ (by repeat' constructor) rfl sRr (fun k Hk => ?_)
  · exact ⟨Nat.zero_le _, fun j hj => absurd hj (by omega)⟩
  by_cases hk : k < i
  · have hkv : k < vs.length := by omega
    by_cases hnm : (nth vs k).2.name = t.name
    · repeat' (first | (refine jR ?_) | (refine k_tt rfl (by refine decide_eq_true ?_; first | assumption | omega) ?_) | (refine k_any (s_any (id := 7) _ (fun _ h => h) mixed ?_); refine jT 7 [0, 1, 5, 6] (bts 11 99) ?_; (refine jG (bts 11 103) 2 rfl (g_iaddrN rfl rfl (by omega)) ?_); refine jT 5 [3] (bts 11 111) ?_; ((refine jG (bts 11 127) 4 rfl (g_ldRF rfl rfl (by assumption) ?_ rfl rfl) ?_; (focus ((omega); done)))); (refine jG (bts 11 255) 7 rfl (g_iaddrN rfl rfl (by omega)) ?_); refine jT 2 [8] (bts 11 511) ?_; ((refine jG (bts 11 1023) 9 rfl (g_ldRFx rfl rfl (by assumption) ?_ (by assumption) rfl rfl) ?_; (focus ((omega); done)))); refine jT 0 [10] (bts 11 2047) ?_; refine x_done (by kernel_rfl) (k_bk ?_)))
      refine jZ (vs := [_]) rfl ⟨rfl, trivial⟩ rfl ⟨rfl, rfl, ?_⟩
      refine congrArg Bo (decide_eq_false fun hv => ?_).symm
      have := (hv.1 i (by omega)).1 k hk
      rw [nth_tys hkv, hti] at this
      exact this hnm
    · repeat' (first | refine jM ?_ | (refine k_tt rfl (dTt (by omega)) ?_) | (refine k_ff rfl (dFf ‹_›) ?_) | (refine k_any (s_any (id := 7) _ (fun _ h => h) mixed ?_); refine jT 7 [0, 1, 5, 6] (bts 11 99) ?_; (refine jG (bts 11 103) 2 rfl (g_iaddrN rfl rfl (by omega)) ?_); refine jT 5 [3] (bts 11 111) ?_; ((refine jG (bts 11 127) 4 rfl (g_ldRF rfl rfl (by assumption) ?_ rfl rfl) ?_; (focus ((omega); done)))); (refine jG (bts 11 255) 7 rfl (g_iaddrN rfl rfl (by omega)) ?_); refine jT 2 [8] (bts 11 511) ?_; ((refine jG (bts 11 1023) 9 rfl (g_ldRFx rfl rfl (by assumption) ?_ (by assumption) rfl rfl) ?_; (focus ((omega); done)))); refine jT 0 [10] (bts 11 2047) ?_; refine x_done (by kernel_rfl) (k_bk ?_)))
      refine k_rd (k + 1) ⟨by omega, fun j hj => ?_⟩ (by omega) (by repeat' constructor) rfl sRr
      rcases Nat.lt_or_ge j k with h3 | h3
      · exact Hk.2 j h3
      · have : j = k := by omega
        subst this; rw [nth_tys hkv, hti]; exact hnm
  have hna : NamesAt (tys vs) i := fun j hj => Hk.2 j (by omega)
  repeat' (first | (refine jR ?_) | (refine k_ff rfl (dFf (by omega)) ?_))
  refine k_loop (ι := Nat) (fun k => (t.sort = 69 ∨ ∀ j, j < k → hasK (tys vs) (nth t.fields j).kind = true) ∧ k ≤ t.fields.length) (fun k => [(0, .slice (some ⟨b, o, none⟩) vs.length cap), (3, I i), (5, I k)]) (fun _ => G) (fun k => []) (fun k => t.fields.length - k) 0 ?_ (by repeat' constructor) rfl sRr (fun k Hk => ?_)
  · exact ⟨.inr fun j hj => absurd hj (by omega), Nat.zero_le _⟩
  by_cases hk : k < t.fields.length ∧ t.sort ≠ 69
  case neg =>
    have hko : KindsOk (tys vs) (nth (tys vs) i) := by
      rw [hti]
      by_cases h69 : t.sort = 69
      · exact .inl h69
      · refine .inr fun j hj => ?_
        rcases Hk.1 with h3 | h3
        · exact absurd h3 h69
        · exact h3 j (by omega)
    repeat' (first | refine jM ?_ | (refine k_op rfl ?_; first | refine jV (g_lenL rfl) ?_ | (refine jV (g_iaddrN rfl rfl (by omega)) ?_) | (refine jV (g_ldRFx rfl rfl (by assumption) ?_ (by assumption) rfl rfl) ?_; (focus ((omega); done))) | (refine jV (g_pickT rfl rfl rfl) ?_) | (refine jV (g_pickF rfl rfl rfl) ?_)) | refine k_g rfl rfl (fun _ => ?_) (fun _ => ?_) | (refine k_ff rfl (by first | rfl | (refine decide_eq_false ?_; (omega))) ?_))
    all_goals refine k_rd (i + 1) ⟨by omega, fun j hj => ?_⟩ (by omega) (by repeat' constructor) rfl sRr
    all_goals (rcases Nat.lt_or_ge j i with h3 | h3; · exact Hi.2 j h3)
    all_goals (have : j = i := by omega)
    all_goals (subst this; exact ⟨hna, hko⟩)
  obtain ⟨hk1, hk2⟩ := hk
  obtain ⟨bf, of, cf, ef, hsf⟩ := hfl.expl (by dsimp only; omega)
  simp only [slX, Value.slice.injEq] at ef
  obtain ⟨rfl, -, rfl⟩ := ef
  dsimp only at hsf
  have hE1 : (((some ⟨bf, of, none⟩, ca), t) : TyX).2.sort = t.sort := rfl
  have hE2 : (((some ⟨bf, of, none⟩, ca), t) : TyX).2.fields.length = t.fields.length := rfl
  have hkk := kindOk_kOk ((hW.fld _ (nth_mem hk1)).kind hk2)
  have hkk1 := hkk.1
  have hcl := core_len' (nth t.fields k).kind
  have cx_ref : PuG Tryz.prog 106 [S (core (nth t.fields k).kind)] G (· = Tu [S ((refN (core (nth t.fields k).kind)).getD []), Bo (refN (core (nth t.fields k).kind)).isSome]) := c_l2RefK (core_kOk hkk1) (by omega)
  have hhas := hasK_find (vs := vs) (k := (nth t.fields k).kind)
  repeat' (first | refine jM ?_ | (refine k_op rfl ?_; first | refine jV (g_lenL rfl) ?_ | (refine jV (g_iaddrN rfl rfl (by omega)) ?_) | (refine jV (g_ldRFx rfl rfl (by assumption) ?_ (by assumption) rfl rfl) ?_; (focus ((omega); done))) | (refine jV (g_ldRF rfl rfl (by assumption) ?_ rfl rfl) ?_; (focus ((omega); done))) | (refine jV (g_pickT rfl rfl rfl) ?_) | (refine jV (g_pickF rfl rfl rfl) ?_) | refine c_al rfl rfl fun _ => ?_ | refine c_stA rfl rfl rfl rfl rfl rfl ?_ | (refine c_rt rfl rfl rfl (c_l2Core (by (repeat (assumption)); done)) rfl ?_) | (refine c_rt rfl rfl rfl cx_ref rfl ?_) | (refine c_rt rfl rfl rfl (c_find (by (repeat (assumption)); done) (by omega)) rfl ?_)) | (refine k_gt rfl rfl (dTt (by omega)) ?_) | refine k_gb rfl rfl (fun _ => ?_) (fun _ => ?_) | (refine k_tt rfl (dTt (by omega)) ?_) | (refine k_ff rfl rfl ?_) | refine k_cd rfl (fun _ => ?_) (fun _ => ?_))
  all_goals first
    | (rename_i h1 h2
       have hK : hasK (tys vs) (nth t.fields k).kind = false := by rw [hhas, h1]; simpa using h2
       refine jZ (vs := [_]) rfl ⟨rfl, trivial⟩ rfl ⟨rfl, rfl, ?_⟩
       refine congrArg Bo (decide_eq_false fun hv => ?_).symm
       have h5 := (hv.1 i (by omega)).2
       rw [hti] at h5
       rcases h5 with h3 | h3
       · exact hk2 h3
       · have h6 := h3 k hk1
         rw [hK] at h6; cases h6)
    | (have hK : hasK (tys vs) (nth t.fields k).kind = true := by rw [hhas]; simp_all
       refine k_rd (k + 1) ⟨.inr fun j hj => ?_, by omega⟩ (by omega) (by repeat' constructor) rfl (by repeat (exact List.nil_sublist _))
       rcases Nat.lt_or_ge j k with h3 | h3
       · rcases Hk.1 with h4 | h4
         · exact absurd h4 hk2
         · exact h4 j h3
       · have : j = k := by omega
         subst this; exact hK)
theorem typesOf_snoc : ∀ {xs : List (List UInt8)} {ts : List Ty} {x : List UInt8}, typesOf xs = some ts → typesOf (xs ++ [x]) = (tyOf x).map (fun t => ts ++ [t])
 | [], ts, x, h => by
  simp only [typesOf, Option.some.injEq] at h; subst h
  simp only [List.nil_append, typesOf]
  cases tyOf x <;> rfl
 | y :: xs, ts, x, h => by
  unfold typesOf at h
  rw [List.cons_append, typesOf]
  cases hy : tyOf y with
  | none => rw [hy] at h; cases h
  | some t =>
   rw [hy] at h
   dsimp only at h ⊢
   cases hr : typesOf xs with
   | none => rw [hr] at h; cases h
   | some us =>
    rw [hr] at h
    simp only [Option.map_some, Option.some.injEq] at h; subst h
    rw [typesOf_snoc hr]
    cases tyOf x <;> rfl
theorem typesOf_app_none : ∀ {xs ys : List (List UInt8)}, typesOf xs = none → typesOf (xs ++ ys) = none
 | [], ys, h => by cases h
 | y :: xs, ys, h => by
  unfold typesOf at h
  rw [List.cons_append, typesOf]
  cases hy : tyOf y with
  | none => rfl
  | some t =>
   rw [hy] at h
   dsimp only at h ⊢
   cases hr : typesOf xs with
   | none => rw [typesOf_app_none hr]; rfl
   | some us => rw [hr] at h; cases h
def OfPost (s : List UInt8) (v : Value) (G : Gh) : Prop := ∃ u vs, v = Tu [u, Bo (schemaOf s).isSome] ∧ SchR G u vs ∧ vs.length ≤ 8 ∧ ∀ ts, schemaOf s = some ts → tys vs = ts
theorem SchR.nil : SchR G nilS [] := ⟨SlV.nil0, by simp⟩
theorem c_cutE {s : List UInt8} {k : Nat} (h : s.length ≤ 100000000) : FnS Tryz.prog 88 [S s, U8 k] G (fun v G' => ∃ b o cap, v = .slice (some ⟨b, o, none⟩) (cut k s).length cap ∧ Seg G' b o (rows strF (cut k s))) := by
 refine (c_l3CutS (G := G) (k := k) h).mono ?_
 rintro v G' L' ⟨h1, h2, h3⟩
 obtain ⟨b, o, cap, rfl, hs⟩ := h3.expl cut_pos
 exact ⟨h1, h2, b, o, cap, rfl, hs⟩
theorem c_l3ReadTypeX {s : List UInt8} (h : s.length ≤ 1000) : FnS Tryz.prog 147 [S s] G (fun v G' => ∃ (x : TyX) (ok : Bool), v = Tu [Ag [U8 x.2.sort, S x.2.name, .slice x.1.1 x.2.fields.length x.1.2], Bo ok] ∧ (tyOf s = if ok = true then some x.2 else none) ∧ SlV G' (slX x) 4 x.2.fields.length (rows fldF x.2.fields)) := by
 refine (c_l3ReadType (G := G) h).mono ?_
 rintro v G' L' ⟨h1, h2, fv, t, ok, rfl, h3, h4⟩
 obtain ⟨a, cap, rfl⟩ := h4.sl
 exact ⟨h1, h2, ((a, cap), t), ok, rfl, h3, h4⟩
theorem c_l3Of0 {s : List UInt8} (h : s.length ≤ 10000000) (hb : ¬ (s.length ≤ 400 ∧ (cut 10 s).length ≤ 9 ∧ nth (cut 10 s) ((cut 10 s).length - 1) = [])) (hno : schemaOf s = none) : FnS Tryz.prog 104 [S s] G (OfPost s) := by
 have hpos := cut_pos (k := 10) (s := s)
 have hcnt := cut_count (k := 10) (s := s)
 have cx_cutE := c_cutE (G := G) (s := s) (k := 10) (by omega)
 generalize cut 10 s = xs at *
 have e1 : (((xs.length : Nat) : Int) - 1).toNat = xs.length - 1 := by omega
 refine jB [(0, _)] Tryz.func104 Tryz.ntmps104 fun B hok hB hW => ?_
 by_cases h1 : s.length ≤ 400
 case neg =>
  repeat' (first | (refine jR ?_) | (refine k_op rfl ?_; first | (refine jV (g_pickT rfl rfl rfl) ?_) | (refine c_fns rfl rfl rfl cx_cutE rfl ?_; rintro _ G hle ⟨b1, o1, cap1, rfl, hseg⟩; skip)) | (refine k_gt rfl rfl (by first | rfl | (refine decide_eq_true ?_; (omega))) ?_) | (refine k_tt rfl rfl ?_))
  all_goals refine jZ (vs := [_, _]) rfl ⟨rfl, rfl, trivial⟩ rfl ⟨hle, rfl, ?_⟩
  all_goals exact ⟨nilS, [], by rw [hno]; rfl, SchR.nil, by simp, fun ts h => by rw [hno] at h; cases h⟩
 by_cases h2 : xs.length ≤ 9
 case neg =>
  repeat' (first | (refine jR ?_) | (refine k_op rfl ?_; first | refine jV (g_lenL rfl) ?_ | (refine jV (g_pickT rfl rfl rfl) ?_) | (refine jV (g_pickF rfl rfl rfl) ?_) | (refine c_fns rfl rfl rfl cx_cutE rfl ?_; rintro _ G hle ⟨b1, o1, cap1, rfl, hseg⟩; skip)) | (refine k_gt rfl rfl (dTt (by omega)) ?_) | (refine k_gf rfl rfl (dFf (by omega)) ?_) | (refine k_tt rfl rfl ?_))
  all_goals refine jZ (vs := [_, _]) rfl ⟨rfl, rfl, trivial⟩ rfl ⟨hle, rfl, ?_⟩
  all_goals exact ⟨nilS, [], by rw [hno]; rfl, SchR.nil, by simp, fun ts h => by rw [hno] at h; cases h⟩
 have h3 : ¬ nth xs (((xs.length : Nat) : Int) - 1).toNat = [] := by rw [e1]; exact fun h => hb ⟨h1, h2, h⟩
 clear hb
 repeat' (first | refine jM ?_ | (refine k_op rfl ?_; first | refine jV (g_lenL rfl) ?_ | (refine jV (g_pickF rfl rfl rfl) ?_) | (refine jV (g_iaddr rfl rfl (by omega)) ?_) | (refine jV (g_ldRS rfl rfl (by assumption) ?_) ?_; (focus ((omega); done))) | (refine c_fns rfl rfl rfl cx_cutE rfl ?_; rintro _ G hle ⟨b1, o1, cap1, rfl, hseg⟩; skip)) | (refine k_gf rfl rfl (dFf (by omega)) ?_) | (refine k_tt rfl (dTt ‹_›) ?_))
 all_goals refine jZ (vs := [_, _]) rfl ⟨rfl, rfl, trivial⟩ rfl ⟨hle, rfl, ?_⟩
 all_goals exact ⟨nilS, [], by rw [hno]; rfl, SchR.nil, by simp, fun ts h => by rw [hno] at h; cases h⟩
theorem c_l3Of1 {s : List UInt8} (h : s.length ≤ 400) (h2 : (cut 10 s).length ≤ 9) (h3 : nth (cut 10 s) ((cut 10 s).length - 1) = []) (hsc : schemaOf s = match typesOf ((cut 10 s).take ((cut 10 s).length - 1)) with
    | some ts => if ValidT ts then some ts else none
    | none => none) : FnS Tryz.prog 104 [S s] G (OfPost s) := by
  have hpos := cut_pos (k := 10) (s := s)
  have hall : ∀ y ∈ cut 10 s, y.length ≤ s.length := fun y hy => cut_len hy
  have cx_cutE := c_cutE (G := G) (s := s) (k := 10) (by omega)
  generalize cut 10 s = xs at *
  have e1 : (((xs.length : Nat) : Int) - 1).toNat = xs.length - 1 := by omega
  have h4 : nth xs (((xs.length : Nat) : Int) - 1).toNat = [] := by rw [e1]; exact h3
  have h5 : ¬ nth xs (((xs.length : Nat) : Int) - 1).toNat ≠ [] := fun h => h h4
  clear e1 h3 h4
  refine jB [(0, _)] Tryz.func104 Tryz.ntmps104 fun B hok hB hW => ?_
  repeat' (first | refine jM ?_ | (refine k_op rfl ?_; first | refine jV (g_lenL rfl) ?_ | (refine jV (g_pickF rfl rfl rfl) ?_) | (refine jV (g_iaddr rfl rfl (by omega)) ?_) | (refine jV (g_ldRS rfl rfl (by assumption) ?_) ?_; (focus ((omega); done))) | refine c_bsl rfl rfl rfl rfl rfl rfl fun _ => ?_ | (refine c_fns rfl rfl rfl cx_cutE rfl ?_; rintro _ G hle ⟨b1, o1, cap1, rfl, hseg⟩; skip)) | (refine k_gf rfl rfl (dFf (by omega)) ?_) | (refine k_ff rfl (dFf ‹_›) ?_))
  rename_i x0
  refine Nx.blkAcc (m := 0) (sz := 3) .here rfl ?_
  refine k_loop (ι := Value × List TyX × Nat × Gh) (fun i => ((i.2.2.1 + 1 ≤ xs.length ∧ i.2.1.length = i.2.2.1) ∧ typesOf (xs.take i.2.2.1) = some (tys i.2.1)) ∧ (∀ y ∈ i.2.1, SlV i.2.2.2 (slX y) 4 y.2.fields.length (rows fldF y.2.fields)) ∧ Gh.le G i.2.2.2) (fun i => [(4, .slice (some ⟨b1, o1, none⟩) xs.length cap1), (5, i.1), (6, I i.2.2.1)]) (fun i => i.2.2.2) (fun i => [.acc i.1 tTy 3 i.2.1.length (rows tyF i.2.1)]) (fun i => xs.length - i.2.2.1) (.slice (some ⟨x0, 0, none⟩) 0 0, [], 0, G) ?_ (by repeat' constructor) rfl sRr (fun i Hi => ?_)
  · exact ⟨⟨⟨by dsimp only; omega, rfl⟩, rfl⟩, by simp, Gh.le.refl _⟩
  obtain ⟨u, vs, i, Gk⟩ := i
  dsimp only at Hi ⊢
  obtain ⟨⟨⟨hi1, hi2⟩, hty⟩, hfs, hgk⟩ := Hi
  have hsk := hseg.mono hgk
  have hle0 := hle
  by_cases hix : i + 1 < xs.length
  case neg =>
    have ei : i = xs.length - 1 := by omega
    rw [← ei, hty] at hsc
    dsimp only at hsc
    refine Nx.sealS (v := u) fun G1 hle1 hsl => ?_
    have hS : SchR G1 u vs := ⟨hsl, fun x hx => (hfs x hx).mono hle1⟩
    have hw : ∀ x ∈ vs, TyW x.2 := fun x hx => (typesOf_w hty).1 x.2 (show x.2 ∈ vs.map (fun y => y.2) from List.mem_map_of_mem hx)
    have cx_val := c_valid hS (by omega) hw
    repeat' (first | refine jM ?_ | (refine k_op rfl ?_; first | refine jV (g_lenL rfl) ?_ | (refine c_rt rfl rfl rfl cx_val rfl ?_)) | (refine k_ff rfl (dFf (by omega)) ?_))
    all_goals refine jZ (vs := [_, _]) rfl ⟨rfl, rfl, trivial⟩ rfl ⟨(hle0.trans hgk).trans hle1, rfl, ?_⟩
    all_goals refine ⟨u, vs, ?_, hS, by omega, fun ts h => ?_⟩
    · rw [hsc, oneOf_two]
      by_cases hv : ValidT (tys vs)
      · rw [if_pos hv, decide_eq_true hv]; rfl
      · rw [if_neg hv, decide_eq_false hv]; rfl
    · rw [hsc] at h
      split at h
      · exact Option.some.inj h
      · cases h
  have hx2 : (nth xs i).length ≤ 1000 := by have := hall _ (nth_mem (show i < xs.length by omega)); omega
  have hsn := typesOf_snoc (x := nth xs i) hty
  rw [← take_nth (by omega)] at hsn
  repeat' (first | refine jM ?_ | (refine k_op rfl ?_; first | refine jV (g_lenL rfl) ?_ | (refine jV (g_iaddrN rfl rfl (by omega)) ?_) | refine jV (g_ldA rfl rfl rfl rfl) ?_ | (refine jV (g_ldRS rfl rfl (by assumption) ?_) ?_; (focus ((omega); done))) | refine c_bsl rfl rfl rfl rfl rfl rfl fun _ => ?_ | refine c_al rfl rfl fun _ => ?_ | refine c_stA rfl rfl rfl rfl rfl rfl ?_ | (refine c_apX rfl rfl rfl rfl rfl rfl rfl rfl rfl (by omega) fun _ _ => ?_) | (refine c_fns rfl rfl rfl (c_l3ReadTypeX (by omega)) rfl ?_; rintro _ G hle ⟨x, ok, rfl, htyp, hfl⟩; skip)) | (refine k_tt rfl (dTt (by omega)) ?_) | refine k_cd rfl (fun _ => ?_) (fun _ => ?_))
  all_goals first
    | (rename_i hq
       have hq2 : ok = false := by simpa using hq
       subst hq2
       have hf0 : tyOf (nth xs i) = none := htyp
       have hno : schemaOf s = none := by
         rw [hf0] at hsn
         have e2 : xs.take (xs.length - 1) = xs.take (i + 1) ++ (xs.take (xs.length - 1)).drop (i + 1) := by
           have := List.take_append_drop (i + 1) (xs.take (xs.length - 1))
           rw [List.take_take, Nat.min_eq_left (by omega)] at this
           exact this.symm
         rw [hsc, e2, typesOf_app_none hsn]
       refine jZ (vs := [_, _]) rfl ⟨rfl, rfl, trivial⟩ rfl ⟨(hle0.trans hgk).trans hle, rfl, ?_⟩
       exact ⟨nilS, [], by rw [hno]; rfl, SchR.nil, by simp, fun ts h => by rw [hno] at h; cases h⟩)
    | (rename_i z hq w b2 c2
       have hq2 : ok = true := by simpa using hq
       subst hq2
       have hf1 : tyOf (nth xs i) = some x.2 := htyp
       rw [hf1] at hsn
       have e3 : rows tyF vs ++ [U8 x.2.sort, S x.2.name, .slice x.1.1 x.2.fields.length x.1.2] = rows tyF (vs ++ [x]) := (rows_snoc tyF vs x).symm
       refine k_rd (.slice (some ⟨b2, 0, none⟩) (vs.length + 1) c2, vs ++ [x], i + 1, G) ⟨⟨⟨by dsimp only; omega, by simp; omega⟩, ?_⟩, ?_, hgk.trans hle⟩ (by dsimp only; omega) (by repeat' constructor) rfl (by dsimp only; rw [e3]; simp only [List.length_append, List.length_cons, List.length_nil, Nat.zero_add]; repeat (first | exact List.nil_sublist _ | apply List.Sublist.cons_cons))
       · dsimp only; rw [hsn]; simp [tys]
       · intro y hy
         rcases List.mem_append.1 hy with hy | hy
         · exact (hfs y hy).mono hle
         · simp only [List.mem_singleton] at hy; subst hy; exact hfl)
theorem c_l3Of {s : List UInt8} (h : s.length ≤ 10000000) : FnS Tryz.prog 104 [S s] G (OfPost s) := by
 have hpos := cut_pos (k := 10) (s := s)
 have hlast : (cut 10 s).getLastD [] = nth (cut 10 s) ((cut 10 s).length - 1) := by
  rw [nth_eq (by omega), List.getLastD_eq_getLast?, List.getLast?_eq_getElem?]
  rw [List.getElem?_eq_getElem (by omega)]; rfl
 by_cases hc : s.length ≤ 400 ∧ (cut 10 s).length ≤ 9 ∧ nth (cut 10 s) ((cut 10 s).length - 1) = []
 ·refine c_l3Of1 hc.1 hc.2.1 hc.2.2 ?_
  unfold schemaOf
  rw [hlast, if_pos hc, List.dropLast_eq_take]
  (rfl)
 ·refine c_l3Of0 h hc ?_
  unfold schemaOf
  rw [hlast, if_neg hc]
def kindS (s k : List UInt8) : Bool := match schemaOf s with
 | some ts => kindIn ts k
 | none => false
theorem c_SchemaOkS {s : List UInt8} (h : s.length ≤ 10000000) : PuG Tryz.prog 71 [S s] G (· = Bo (schemaOf s).isSome) := by
 refine jB (Post := fun v G' L' => G' = G ∧ L' = [] ∧ _) [(0, _)] Tryz.func71 Tryz.ntmps71 fun B hok hB hW => ?_
 repeat' (first | (refine jR ?_) | (refine k_op rfl ?_; (refine c_fns rfl rfl rfl (c_l3Of (by omega)) rfl ?_; rintro _ G hle ⟨u, vs, rfl, hsch, hvl, hvs⟩; skip)))
 refine Nx.base hok hB ?_
 refine jZ (vs := [_]) rfl ⟨rfl, trivial⟩ rfl ⟨rfl, rfl, ?_⟩
 rfl
def KindPost (s k : List UInt8) (v : Value) (G : Gh) : Prop := ∃ u vs, v = Tu [u, Bo (kindS s k)] ∧ SchR G u vs ∧ vs.length ≤ 8 ∧ ∀ ts, schemaOf s = some ts → kindIn ts k = true → tys vs = ts
theorem c_l3Kind {s k : List UInt8} (h : s.length ≤ 10000000) (hk : k.length ≤ 10000000) : FnS Tryz.prog 64 [S s, S k] G (KindPost s k) := by
  cases hs : schemaOf s with
  | none =>
    have hno : kindS s k = false := by unfold kindS; rw [hs]
    have e1 : (!(schemaOf s).isSome) = true := by rw [hs]; rfl
    refine jB [(0, _), (1, _)] Tryz.func64 Tryz.ntmps64 fun B hok hB hW => ?_
    repeat' (first | (refine jR ?_) | (refine k_op rfl ?_; first | (refine jV (g_pickT rfl rfl rfl) ?_) | (refine c_fns rfl rfl rfl (c_l3Of (by omega)) rfl ?_; rintro _ G hle ⟨u, vs, rfl, hsch, hvl, hvs⟩; skip)) | (refine k_gt rfl rfl ‹_› ?_) | (refine k_tt rfl rfl ?_))
    all_goals refine jZ (vs := [_, _]) rfl ⟨rfl, rfl, trivial⟩ rfl ⟨hle, rfl, ?_⟩
    all_goals exact ⟨nilS, [], by rw [hno]; rfl, SchR.nil, by simp, fun ts h => by rw [hs] at h; cases h⟩
  | some ts =>
    have e1 : (!(schemaOf s).isSome) = false := by rw [hs]; rfl
    by_cases hko : kindOk k = true
    case neg =>
      have hno : kindS s k = false := by unfold kindS kindIn; rw [hs]; simp [hko]
      have e2 : (!kindOk k) = true := by simpa using hko
      refine jB [(0, _), (1, _)] Tryz.func64 Tryz.ntmps64 fun B hok hB hW => ?_
      repeat' (first | (refine jR ?_) | (refine k_op rfl ?_; first | (refine jV (g_pickF rfl rfl rfl) ?_) | (refine c_fns rfl rfl rfl (c_l3Of (by omega)) rfl ?_; rintro _ G hle ⟨u, vs, rfl, hsch, hvl, hvs⟩; skip) | (refine c_rt rfl rfl rfl c_KindOkS rfl ?_)) | (refine k_gf rfl rfl ‹_› ?_) | (refine k_tt rfl ‹_› ?_))
      all_goals refine jZ (vs := [_, _]) rfl ⟨rfl, rfl, trivial⟩ rfl ⟨hle, rfl, ?_⟩
      all_goals exact ⟨nilS, [], by rw [hno]; rfl, SchR.nil, by simp, fun ts h1 h2 => by unfold kindIn at h2; simp [hko] at h2⟩
    have e2 : (!kindOk k) = false := by rw [hko]; rfl
    have hkk := kindOk_kOk hko
    have hkk1 := hkk.1
    have hcl := core_len' k
    have cx_rf2 : ∀ G, PuG Tryz.prog 106 [S (core k)] G (· = Tu [S ((refN (core k)).getD []), Bo (refN (core k)).isSome]) := fun G => c_l2RefK (core_kOk hkk1) (by omega)
    refine jB [(0, _), (1, _)] Tryz.func64 Tryz.ntmps64 fun B hok hB hW => ?_
    repeat' (first | (refine jR ?_) | (refine k_op rfl ?_; first | (refine jV (g_pickT rfl rfl rfl) ?_) | (refine jV (g_pickF rfl rfl rfl) ?_) | refine c_al rfl rfl fun _ => ?_ | refine c_stA rfl rfl rfl rfl rfl rfl ?_ | (refine c_fns rfl rfl rfl (c_l3Of (by omega)) rfl ?_; rintro _ G hle ⟨u, vs, rfl, hsch, hvl, hvs⟩; skip) | (refine c_rt rfl rfl rfl c_KindOkS rfl ?_) | (refine c_rt rfl rfl rfl (c_l2Core (by (repeat (assumption)); done)) rfl ?_) | (refine c_rt rfl rfl rfl (cx_rf2 _) rfl ?_) | (refine c_rt rfl rfl rfl (c_find (by (repeat (assumption)); done) (by omega)) rfl ?_)) | (refine k_gf rfl rfl ‹_› ?_) | refine k_gb rfl rfl (fun _ => ?_) (fun _ => ?_) | (refine k_ff rfl ‹_› ?_))
    all_goals rename_i hq
    all_goals refine jZ (vs := [_, _]) rfl ⟨rfl, rfl, trivial⟩ rfl ⟨hle, rfl, ?_⟩
    all_goals have hks : kindS s k = (!(refN (core k)).isSome || (findV vs ((refN (core k)).getD [])).isSome) := by
                unfold kindS kindIn
                rw [hs]
                dsimp only
                rw [hko, Bool.true_and, ← hvs ts hs, hasK_find]
    all_goals exact ⟨u, vs, by rw [hks, hq]; rfl, hsch, hvl, fun ts' h1 _ => hvs ts' h1⟩
abbrev TyP := Nat × Ty
def ptF (q : TyP) : List Value := [Pt q.1 0]
instance : RowF ptF 1 := ⟨fun _ => rfl⟩
def kvsOf (qs : List TyP) : List (List UInt8 × Value) := qs.map fun q => (q.2.name, Pt q.1 0)
def tyq (qs : List TyP) : List Ty := qs.map (·.2)
def findQ (qs : List TyP) (n : List UInt8) : Option TyP := qs.find? fun q => decide (n = q.2.name)
theorem kvF_find (qs : List TyP) (n : List UInt8) : kvF (kvsOf qs) n = (findQ qs n).map fun q => Pt q.1 0 := by
 unfold kvF kvsOf findQ
 induction qs with
 | nil => rfl
 | cons q qs ih =>
  simp only [List.map_cons, List.find?_cons]
  by_cases h : n = q.2.name
  ·simp [h]
  ·simp only [h, decide_false]; exact ih
theorem findQ_ty (qs : List TyP) (n : List UInt8) : (findQ qs n).map (·.2) = findT (tyq qs) n := by
 unfold findQ findT tyq
 induction qs with
 | nil => rfl
 | cons q qs ih =>
  simp only [List.map_cons, List.find?_cons]
  by_cases h : n = q.2.name
  ·simp [h]
  ·have h2 : ¬ q.2.name = n := fun e => h e.symm
   simp only [h, h2, decide_false]; exact ih
theorem findQ_mem {qs : List TyP} {n : List UInt8} {q : TyP} (h : findQ qs n = some q) : q ∈ qs := List.mem_of_find?_eq_some h
structure ScI (G : Gh) (b : Nat) (qs : List TyP) : Prop where
 at' : ∃ u m, Seg G b 0 [u, .map (some m)] ∧ SlV G u 1 qs.length (rows ptF qs) ∧ G m = some (.ex (mapO (kvsOf qs)))
 ty : ∀ q ∈ qs, TyI G q.1 q.2
theorem ScI.mono {G G' : Gh} {b : Nat} {qs : List TyP} (h : ScI G b qs) (hl : Gh.le G G') : ScI G' b qs := by
 obtain ⟨u, m, h1, h2, h3⟩ := h.at'
 exact ⟨⟨u, m, h1.mono hl, h2.mono hl, hl _ _ h3⟩, fun q hq => (h.ty q hq).mono hl⟩
theorem bs_at {k : List UInt8} (h : kindOk k = true) : bs k = [64] ↔ (refN (core k)).isSome = true := by
 have hk := core_kOk (kindOk_kOk h).1
 unfold bs
 cases hc : core k with
 | nil => rw [hc] at hk; cases hk
 | cons c r =>
  unfold bsT refN
  by_cases h64 : c.toNat = 64
  ·simp [h64]
  ·simp only [h64, if_false]
   constructor
   ·intro e; simp only [List.cons.injEq] at e; exact absurd (by rw [e.1]; rfl) h64
   ·intro e; cases e
theorem c_has {b : Nat} {qs : List TyP} {k : List UInt8} (h : ScI G b qs) (hk : kindOk k = true) : PuG Tryz.prog 67 [Pt b 0, Ag [S (sg k), S (bs k), S (nm k)]] G (· = Bo (hasK (tyq qs) k)) := by
 obtain ⟨u, m, h1, h2, h3⟩ := h.at'
 have hat := bs_at hk
 rcases hr : refN (core k) with _ | n
 ·have hb : ¬ bs k = [64] := by rw [hat, hr]; simp
  have e : hasK (tyq qs) k = true := by unfold hasK; rw [hr]
  clear hat hr
  rw [e]
  refine jE [(0, _), (1, _)] Tryz.func67 Tryz.ntmps67 fun B hB => ?_
  repeat' (first | (refine jR ?_) | (refine k_op rfl ?_; (refine c_bx rfl rfl rfl fun _ => ?_)) | (refine k_any (s_any (id := 1) _ (fun _ h => h) mixed ?_); refine jT 13 [0] (bts 14 1) ?_; (refine jG (bts 14 3) 1 rfl (g_ld rfl rfl rfl) ?_); refine jT 10 [2, 3] (bts 14 15) ?_; (try (refine Nx.re (d := 8) (v' := Bo true) rfl (congrArg Value.bool (dTt ‹_›)) ?_)); refine jT 6 [4, 5, 6, 8] (bts 14 383) ?_; (refine jN (bts 14 511) 7 rfl ?_); (refine jN (bts 14 1023) 9 rfl ?_); (refine jN (bts 14 2047) 10 rfl ?_); (refine jN (bts 14 4095) 11 rfl ?_); (refine jG (bts 14 8191) 12 rfl (g_pickT rfl rfl rfl) ?_); refine jT 0 [13] (bts 14 16383) ?_; refine x_done (by kernel_rfl) (k_bk ?_)))
  all_goals refine jZ (vs := [_]) rfl ⟨rfl, trivial⟩ rfl ⟨rfl, rfl, ?_⟩
  all_goals rfl
 ·have hb : ¬ (bs k ≠ [64]) := fun h => h (by rw [hat, hr]; rfl)
  have hn : nm k = n := by unfold nm; rw [hr]; rfl
  have e : hasK (tyq qs) k = (findQ qs (nm k)).isSome := by unfold hasK; rw [hr, hn]; dsimp only; rw [← findQ_ty]; simp
  rw [e]
  clear hat hr hn e
  have hkv := kvF_find qs (nm k)
  cases hf : findQ qs (nm k) with
  | none =>
   rw [hf] at hkv
   dsimp only [Option.map_none] at hkv
   refine jE [(0, _), (1, _)] Tryz.func67 Tryz.ntmps67 fun B hB => ?_
   repeat' (first | (refine jR ?_) | (refine k_op rfl ?_; (refine c_bx rfl rfl rfl fun _ => ?_)) | (refine k_any (s_any (id := 1) _ (fun _ h => h) mixed ?_); refine jT 13 [0] (bts 14 1) ?_; (refine jG (bts 14 3) 1 rfl (g_ld rfl rfl rfl) ?_); refine jT 10 [2, 3] (bts 14 15) ?_; (try (refine Nx.re (d := 8) (v' := Bo false) rfl (congrArg Value.bool (dFf ‹_›)) ?_)); refine jT 6 [4, 5, 6, 8] (bts 14 383) ?_; (refine jG (bts 14 511) 7 rfl (g_ldS rfl rfl (by assumption) rfl rfl) ?_); (refine jG (bts 14 1023) 9 rfl (g_ld rfl rfl rfl) ?_); ((refine jG (bts 14 2047) 10 rfl (g_lookupX rfl rfl (map_G (by assumption)) (by assumption) rfl) ?_)); (refine jG (bts 14 4095) 11 rfl (g_pne0 rfl rfl) ?_); (refine jG (bts 14 8191) 12 rfl (g_pickF rfl rfl rfl) ?_); refine jT 0 [13] (bts 14 16383) ?_; refine x_done (by kernel_rfl) (k_bk ?_)))
   all_goals refine jZ (vs := [_]) rfl ⟨rfl, trivial⟩ rfl ⟨rfl, rfl, ?_⟩
   all_goals rfl
  | some q =>
   rw [hf] at hkv
   dsimp only [Option.map_some] at hkv
   refine jE [(0, _), (1, _)] Tryz.func67 Tryz.ntmps67 fun B hB => ?_
   repeat' (first | (refine jR ?_) | (refine k_op rfl ?_; (refine c_bx rfl rfl rfl fun _ => ?_)) | (refine k_any (s_any (id := 1) _ (fun _ h => h) mixed ?_); refine jT 13 [0] (bts 14 1) ?_; (refine jG (bts 14 3) 1 rfl (g_ld rfl rfl rfl) ?_); refine jT 10 [2, 3] (bts 14 15) ?_; (try (refine Nx.re (d := 8) (v' := Bo false) rfl (congrArg Value.bool (dFf ‹_›)) ?_)); refine jT 6 [4, 5, 6, 8] (bts 14 383) ?_; (refine jG (bts 14 511) 7 rfl (g_ldS rfl rfl (by assumption) rfl rfl) ?_); (refine jG (bts 14 1023) 9 rfl (g_ld rfl rfl rfl) ?_); ((refine jG (bts 14 2047) 10 rfl (g_lookupX rfl rfl (map_G (by assumption)) (by assumption) rfl) ?_)); (refine jG (bts 14 4095) 11 rfl (g_pne0 rfl rfl) ?_); (refine jG (bts 14 8191) 12 rfl (g_pickF rfl rfl rfl) ?_); refine jT 0 [13] (bts 14 16383) ?_; refine x_done (by kernel_rfl) (k_bk ?_)))
   all_goals refine jZ (vs := [_]) rfl ⟨rfl, trivial⟩ rfl ⟨rfl, rfl, ?_⟩
   all_goals rfl
theorem refN_sg {k : List UInt8} (h : kindOk k = true) : refN k = if sg k = [] ∧ bs k = [64] then some (nm k) else none := by
 have hat := bs_at h
 match k, h with
 | c :: r, h =>
  by_cases h1 : c.toNat = 91 ∨ c.toNat = 63
  ·have hs : ¬ (sg (c :: r) = [] ∧ bs (c :: r) = [64]) := by
    rintro ⟨e, _⟩
    unfold sg at e
    rw [core, if_pos h1] at e
    have := core_len r
    have e2 := congrArg List.length e
    simp only [List.length_take, List.length_cons, List.length_nil] at e2
    omega
   rw [if_neg hs]
   simp only [refN]
   rw [if_neg (by omega)]
  ·have hc : core (c :: r) = c :: r := by rw [core, if_neg h1]
   have hs : sg (c :: r) = [] := by unfold sg; rw [hc]; simp
   have hn : nm (c :: r) = (refN (c :: r)).getD [] := by unfold nm; rw [hc]
   rw [hc] at hat
   rw [hn, hs]
   cases hr : refN (c :: r) with
   | none => rw [hr] at hat; rw [if_neg]; rintro ⟨_, e⟩; have := hat.1 e; cases this
   | some n => rw [hr] at hat; rw [if_pos ⟨rfl, hat.2 rfl⟩]; rfl
theorem c_endsI {b : Nat} {qs : List TyP} {q0 : TyP} (h : ScI G b qs) (hw : ∀ q ∈ qs, TyW q.2) (hk : ∀ q ∈ qs, KindsOk (tyq qs) q.2) (hq : q0 ∈ qs) :
  PuG Tryz.prog 111 [Pt b 0, Pt q0.1 0] G (· = Bo (endsN (tyq qs) 9 q0.2)) := by
 obtain ⟨u, m, h1, h2, h3⟩ := h.at'
 refine jE [(0, _), (1, _)] Tryz.func111 Tryz.ntmps111 fun B hB => ?_
 repeat' (refine jR ?_)
 refine k_loop (ι := TyP × Nat) (fun i => i.1 ∈ qs ∧ i.2 ≤ 9 ∧ endsN (tyq qs) (9 - i.2) i.1.2 = endsN (tyq qs) 9 q0.2) (fun i => [(0, Pt b 0), (1, Pt i.1.1 0), (6, I i.2)]) (fun _ => G) (fun i => []) (fun i => 9 - i.2) (q0, 0) ?_ (by repeat' constructor) rfl sRr (fun i Hi => ?_)
 ·exact ⟨hq, Nat.zero_le _, rfl⟩
 obtain ⟨⟨p, t⟩, i⟩ := i
 dsimp only at Hi ⊢
 obtain ⟨hqm, hi9, he⟩ := Hi
 have hW := hw _ hqm
 obtain ⟨fv, ln, hsg, hfv⟩ := h.ty _ hqm
 dsimp only at hW hsg hfv
 by_cases hlt : i < 9
 case neg =>
  have e0 : 9 - i = 0 := by omega
  rw [e0] at he
  repeat' (first | (refine jR ?_) | (refine k_ff rfl (dFf (by omega)) ?_))
  refine jZ (vs := [_]) rfl ⟨rfl, trivial⟩ rfl ⟨rfl, rfl, ?_⟩
  rw [← he]; rfl
 obtain ⟨j, hj⟩ : ∃ j, 9 - i = j + 1 := ⟨8 - i, by omega⟩
 rw [hj, endsN] at he
 by_cases hU : t.sort = 85
 case neg =>
  rw [if_pos hU] at he
  repeat' (first | (refine jR ?_) | (refine k_op rfl ?_; (refine jV (g_ldS rfl rfl (by assumption) rfl rfl) ?_)) | (refine k_tt rfl (dTt (by omega)) ?_))
  refine jZ (vs := [_]) rfl ⟨rfl, trivial⟩ rfl ⟨rfl, rfl, ?_⟩
  rw [← he]; rfl
 rw [if_neg (by simp [hU])] at he
 have hne := hW.ne (by omega)
 have h0 : 0 < t.fields.length := List.length_pos_iff.2 hne
 obtain ⟨bf, of, cf, rfl, hsf⟩ := hfv.expl h0
 have hk0 : kind0 t = (nth t.fields 0).kind := by
  unfold kind0 nth
  cases t.fields with
  | nil => rfl
  | cons f r => rfl
 have hko := (hW.fld _ (nth_mem h0)).kind (by omega)
 have hrs := refN_sg hko
 have hhas : hasK (tyq qs) (nth t.fields 0).kind = true := by
  rcases hk _ hqm with h5 | h5
  ·dsimp only at h5; omega
  ·exact h5 0 h0
 rw [hk0] at he
 by_cases hs1 : sg (nth t.fields 0).kind = []
 case neg =>
  rw [if_neg fun h => hs1 h.1] at hrs
  unfold refT at he
  rw [hrs] at he
  repeat' (first | (refine jR ?_) | (refine k_op rfl ?_; first | refine jV (g_ld rfl rfl rfl) ?_ | refine jV (g_ldS rfl rfl (by assumption) rfl rfl) ?_ | (refine jV (g_ldRA rfl rfl (by assumption) ?_ rfl rfl) ?_; (focus ((omega); done))) | (refine jV (g_iaddrN rfl rfl (by omega)) ?_) | refine c_al rfl rfl fun _ => ?_ | refine c_stA rfl rfl rfl rfl rfl rfl ?_ | (refine jV (g_pickT rfl rfl rfl) ?_)) | (refine k_gt rfl rfl (dTt ‹_›) ?_) | (refine k_tt rfl (by first | rfl | (refine decide_eq_true ?_; (omega))) ?_) | (refine k_ff rfl (dFf (by omega)) ?_))
  all_goals refine jZ (vs := [_]) rfl ⟨rfl, trivial⟩ rfl ⟨rfl, rfl, ?_⟩
  all_goals (rw [← he]; rfl)
 by_cases hs2 : bs (nth t.fields 0).kind = [64]
 case neg =>
  rw [if_neg fun h => hs2 h.2] at hrs
  unfold refT at he
  rw [hrs] at he
  repeat' (first | (refine jR ?_) | (refine k_op rfl ?_; first | refine jV (g_ld rfl rfl rfl) ?_ | refine jV (g_ldS rfl rfl (by assumption) rfl rfl) ?_ | (refine jV (g_ldRA rfl rfl (by assumption) ?_ rfl rfl) ?_; (focus ((omega); done))) | (refine jV (g_iaddrN rfl rfl (by omega)) ?_) | refine c_al rfl rfl fun _ => ?_ | refine c_stA rfl rfl rfl rfl rfl rfl ?_ | (refine jV (g_pickF rfl rfl rfl) ?_)) | (refine k_gf rfl rfl ?_ ?_; (focus ((simp [*]; done); done))) | (refine k_tt rfl (by refine decide_eq_true ?_; first | assumption | omega) ?_) | (refine k_ff rfl (dFf (by omega)) ?_))
  all_goals refine jZ (vs := [_]) rfl ⟨rfl, trivial⟩ rfl ⟨rfl, rfl, ?_⟩
  all_goals (rw [← he]; rfl)
 rw [if_pos ⟨hs1, hs2⟩] at hrs
 unfold refT at he
 rw [hrs, Option.bind_some, ← findQ_ty] at he
 have hkv := kvF_find qs (nm (nth t.fields 0).kind)
 have hr2 : refN (core (nth t.fields 0).kind) = some (nm (nth t.fields 0).kind) := by
  have := (bs_at hko).1 hs2
  unfold nm
  cases hx : refN (core (nth t.fields 0).kind) with
  | none => rw [hx] at this; cases this
  | some n => rfl
 unfold hasK at hhas
 rw [hr2] at hhas
 dsimp only at hhas
 rw [← findQ_ty] at hhas
 cases hf : findQ qs (nm (nth t.fields 0).kind) with
 | none => rw [hf] at hhas; cases hhas
 | some q =>
  rw [hf] at hkv he
  dsimp only [Option.map_some] at hkv he
  have hb1 : ¬ sg (nth t.fields 0).kind ≠ [] := fun h => h hs1
  have hb2 : ¬ bs (nth t.fields 0).kind ≠ [64] := fun h => h hs2
  clear hs1 hs2 hrs hr2
  repeat' (first | refine jM ?_ | (refine k_op rfl ?_; first | refine jV (g_ld rfl rfl rfl) ?_ | refine jV (g_ldS rfl rfl (by assumption) rfl rfl) ?_ | (refine jV (g_ldRA rfl rfl (by assumption) ?_ rfl rfl) ?_; (focus ((omega); done))) | (refine jV (g_iaddrN rfl rfl (by omega)) ?_) | refine c_al rfl rfl fun _ => ?_ | refine c_stA rfl rfl rfl rfl rfl rfl ?_ | (refine jV (g_pickF rfl rfl rfl) ?_)) | (refine k_gf rfl rfl (dFf ‹_›) ?_) | (refine k_tt rfl (dTt (by omega)) ?_) | (refine k_ff rfl (by refine decide_eq_false ?_; first | assumption | omega) ?_) | (refine k_any (s_any (id := 8) _ (fun _ h => h) mixed ?_); refine jT 4 [0, 1, 2, 4] (bts 8 23) ?_; (refine jG (bts 8 31) 3 rfl (g_ldS rfl rfl (by assumption) rfl rfl) ?_); (refine jG (bts 8 63) 5 rfl (g_ld rfl rfl rfl) ?_); ((refine jG (bts 8 127) 6 rfl (g_lookupX rfl rfl (map_G (by assumption)) (by assumption) rfl) ?_)); refine jT 0 [7] (bts 8 255) ?_; refine x_done (by kernel_rfl) (k_bk ?_)))
  refine k_rd (q, i + 1) ⟨findQ_mem hf, by dsimp only; omega, ?_⟩ (by dsimp only; omega) (by repeat' constructor) rfl (by repeat (exact List.nil_sublist _))
  dsimp only
  rw [show 9 - (i + 1) = j by omega]
  exact he
end Go.E
namespace Go.E
set_option maxRecDepth 20000
set_option maxHeartbeats 2000000
theorem findT_mem {ts : List Ty} {n : List UInt8} {t : Ty} (h : findT ts n = some t) : t ∈ ts := List.mem_of_find?_eq_some h
theorem refT_mem {ts : List Ty} {k : List UInt8} {t : Ty} (h : refT ts k = some t) : t ∈ ts := by
 unfold refT at h
 cases hr : refN k with
 | none => rw [hr] at h; cases h
 | some n => rw [hr] at h; exact findT_mem h
theorem endsN_mono (ts : List Ty) : ∀ (k : Nat) (t : Ty), endsN ts k t = true → endsN ts (k + 1) t = true
 | 0, t, h => by cases h
 | k + 1, t, h => by
  unfold endsN at h ⊢
  split
  ·rfl
  ·rename_i hs
   rw [if_neg hs] at h
   cases hr : refT ts (kind0 t) with
   | none => rfl
   | some u => rw [hr] at h; exact endsN_mono ts k u h
def stableAt (ts : List Ty) (k : Nat) : Prop := ∀ t ∈ ts, endsN ts (k + 1) t = endsN ts k t
theorem stable_next {ts : List Ty} {k : Nat} (h : stableAt ts k) : stableAt ts (k + 1) := by
 intro t ht
 rw [endsN, endsN]
 split
 ·rfl
 ·cases hr : refT ts (kind0 t) with
  | none => rfl
  | some u => exact h u (refT_mem hr)
theorem stable_all {ts : List Ty} {k : Nat} (h : stableAt ts k) : ∀ (m : Nat) (t : Ty), t ∈ ts → endsN ts (k + m) t = endsN ts k t := by
 have hs : ∀ m, stableAt ts (k + m) := fun m => by
  induction m with
  | zero => exact h
  | succ m ih => exact stable_next ih
 intro m t ht
 induction m with
 | zero => rfl
 | succ m ih => rw [← ih]; exact hs m t ht
theorem count_lt {α : Type} {p q : α → Bool} : ∀ {l : List α}, (∀ x ∈ l, p x = true → q x = true) → (∃ x ∈ l, q x = true ∧ p x = false) → l.countP p < l.countP q
 | [], _, h => by obtain ⟨x, hx, _⟩ := h; cases hx
 | a :: l, h1, h2 => by
  have hle : ∀ l : List α, (∀ x ∈ l, p x = true → q x = true) → l.countP p ≤ l.countP q := fun l h => List.countP_mono_left h
  rw [List.countP_cons, List.countP_cons]
  have h3 := hle l fun x hx => h1 x (List.mem_cons_of_mem _ hx)
  obtain ⟨x, hx, h4, h5⟩ := h2
  rcases List.mem_cons.1 hx with rfl | hx
  ·simp [h4, h5]; omega
  ·have h6 := count_lt (fun x hx => h1 x (List.mem_cons_of_mem _ hx)) ⟨x, hx, h4, h5⟩
   by_cases hp : p a = true
   ·simp [hp, h1 a (List.mem_cons_self ..) hp]; exact h6
   ·simp [hp]; split <;> omega
theorem unstable_lt {ts : List Ty} {k : Nat} (h : ¬ stableAt ts k) : ts.countP (endsN ts k) < ts.countP (endsN ts (k + 1)) := by
 refine count_lt (fun x _ => endsN_mono ts k x) ?_
 unfold stableAt at h
 simp only [Classical.not_forall] at h
 obtain ⟨t, ht, hne⟩ := h
 refine ⟨t, ht, ?_⟩
 cases h1 : endsN ts k t with
 | false =>
  refine ⟨?_, rfl⟩
  cases h2 : endsN ts (k + 1) t with
  | false => rw [h1, h2] at hne; exact absurd rfl hne
  | true => rfl
 | true => rw [endsN_mono ts k t h1, h1] at hne; exact absurd rfl hne
theorem stable_or (ts : List Ty) (k : Nat) : stableAt ts k ∨ k + 1 ≤ ts.countP (endsN ts (k + 1)) := by
 induction k with
 | zero =>
  by_cases h : stableAt ts 0
  ·exact .inl h
  ·have := unstable_lt h; exact .inr (by omega)
 | succ k ih =>
  by_cases h : stableAt ts (k + 1)
  ·exact .inl h
  ·have := unstable_lt h
   rcases ih with h3 | h3
   ·exact absurd (stable_next h3) h
   ·exact .inr (by omega)
theorem ends_eq {ts : List Ty} {t : Ty} (hl : ts.length ≤ 8) (ht : t ∈ ts) : endsN ts 9 t = endsN ts (ts.length + 1) t := by
 have hs : stableAt ts ts.length := by
  rcases stable_or ts ts.length with h | h
  ·exact h
  ·have := List.countP_le_length (p := endsN ts (ts.length + 1)) (l := ts)
   omega
 have h1 := stable_all hs (9 - ts.length) t ht
 have h2 := stable_all hs 1 t ht
 rw [show ts.length + (9 - ts.length) = 9 by omega] at h1
 rw [h1, h2]
structure Rdg (s : List UInt8) (ls : List (List UInt8)) (ts : List Ty) (t : List UInt8) : Prop where
 cutE : cut 10 s = ls ++ cut 10 t
 tyE : typesOf ls = some ts
theorem Rdg.start (s : List UInt8) : Rdg s [] [] s := ⟨rfl, rfl⟩
theorem Rdg.len {s : List UInt8} {ls : List (List UInt8)} {ts : List Ty} {t : List UInt8} (h : Rdg s ls ts t) : ts.length = ls.length := (typesOf_w h.tyE).2
theorem cut_line {t line rest : List UInt8} (h : cut1 10 t = (line, rest, true)) : cut 10 t = line :: cut 10 rest := by rw [cut_cut1, h]; rfl
theorem Rdg.step {s : List UInt8} {ls : List (List UInt8)} {ts : List Ty} {t line rest : List UInt8} {x : Ty} (h : Rdg s ls ts t) (hc : cut1 10 t = (line, rest, true)) (hx : tyOf line = some x) : Rdg s (ls ++ [line]) (ts ++ [x]) rest :=
 ⟨by rw [h.cutE, cut_line hc]; simp, by rw [typesOf_snoc h.tyE, hx]; rfl⟩
theorem Rdg.fin {s : List UInt8} {ls : List (List UInt8)} {ts : List Ty} (h : Rdg s ls ts []) (hl : s.length ≤ 400) (h8 : ts.length ≤ 8) : schemaOf s = if ValidT ts then some ts else none := by
 have hlen := h.len
 have e : cut 10 s = ls ++ [[]] := h.cutE
 unfold schemaOf
 rw [e, if_pos ⟨hl, by simp; omega, by simp⟩, List.dropLast_concat, h.tyE]
theorem schema_len {s : List UInt8} (h : ¬ s.length ≤ 400) : schemaOf s = none := by
 unfold schemaOf
 exact if_neg fun h2 => h h2.1
theorem Rdg.noend {s : List UInt8} {ls : List (List UInt8)} {ts : List Ty} {t : List UInt8} (h : Rdg s ls ts t) (ht : t ≠ []) (hc : (cut1 10 t).2.2 = false) : schemaOf s = none := by
 have e : cut 10 s = ls ++ [t] := by rw [h.cutE, cut_cut1, hc]; rfl
 unfold schemaOf
 rw [e, if_neg]
 rintro ⟨_, _, h3⟩
 simp at h3
 exact ht h3
theorem Rdg.many {s : List UInt8} {ls : List (List UInt8)} {ts : List Ty} {t line rest : List UInt8} (h : Rdg s ls ts t) (hc : cut1 10 t = (line, rest, true)) (h8 : ts.length = 8) : schemaOf s = none := by
 have hlen := h.len
 have hp := cut_pos (k := 10) (s := rest)
 unfold schemaOf
 rw [h.cutE, cut_line hc, if_neg]
 rintro ⟨_, h3, _⟩
 simp at h3
 omega
theorem drop_last {ls : List (List UInt8)} {line rest : List UInt8} : (ls ++ line :: cut 10 rest).dropLast = (ls ++ [line]) ++ (cut 10 rest).dropLast := by
 have hp := cut_pos (k := 10) (s := rest)
 have hne : cut 10 rest ≠ [] := fun e => by rw [e] at hp; simp at hp
 rw [List.dropLast_append_of_ne_nil (by simp), List.dropLast_cons_of_ne_nil hne]; simp
theorem Rdg.bad {s : List UInt8} {ls : List (List UInt8)} {ts : List Ty} {t line rest : List UInt8} (h : Rdg s ls ts t) (hc : cut1 10 t = (line, rest, true)) (hx : tyOf line = none) : schemaOf s = none := by
 have hn : typesOf (ls ++ [line]) = none := by rw [typesOf_snoc h.tyE, hx]; rfl
 unfold schemaOf
 split
 ·rw [h.cutE, cut_line hc, drop_last, typesOf_app_none hn]
 ·rfl
theorem typesOf_pre : ∀ {xs ys : List (List UInt8)} {ts us : List Ty}, typesOf xs = some ts → typesOf (xs ++ ys) = some us → ∃ vs, us = ts ++ vs
 | [], ys, ts, us, h, h2 => by simp only [typesOf, Option.some.injEq] at h; subst h; exact ⟨us, rfl⟩
 | x :: xs, ys, ts, us, h, h2 => by
  unfold typesOf at h
  rw [List.cons_append, typesOf] at h2
  cases hx : tyOf x with
  | none => rw [hx] at h; cases h
  | some t =>
   rw [hx] at h h2
   dsimp only at h h2
   cases hr : typesOf xs with
   | none => rw [hr] at h; cases h
   | some ws =>
    rw [hr] at h
    simp only [Option.map_some, Option.some.injEq] at h; subst h
    cases hq : typesOf (xs ++ ys) with
    | none => rw [hq] at h2; cases h2
    | some zs =>
     rw [hq] at h2
     simp only [Option.map_some, Option.some.injEq] at h2; subst h2
     obtain ⟨vs, rfl⟩ := typesOf_pre hr hq
     exact ⟨vs, rfl⟩
theorem nth_app {α : Type} [Inhabited α] {xs ys : List α} {i : Nat} (h : i < xs.length) : nth (xs ++ ys) i = nth xs i := by
 rw [nth_eq h, nth_eq (by simp; omega), List.getElem_append_left h]
theorem Rdg.dup {s : List UInt8} {ls : List (List UInt8)} {ts : List Ty} {t line rest : List UInt8} {x : Ty} (h : Rdg s ls ts t) (hc : cut1 10 t = (line, rest, true)) (hx : tyOf line = some x) (i : Nat) (hi : i < ts.length) (hd : (nth ts i).name = x.name) : schemaOf s = none := by
 have h2 := h.step hc hx
 unfold schemaOf
 split
 ·rw [h.cutE, cut_line hc, drop_last]
  cases hr : typesOf (ls ++ [line] ++ (cut 10 rest).dropLast) with
  | none => rfl
  | some us =>
   obtain ⟨vs, rfl⟩ := typesOf_pre h2.tyE hr
   dsimp only
   rw [if_neg]
   intro hv
   have h3 := (hv.1 ts.length (by simp)).1 i hi
   have e1 : nth (ts ++ [x] ++ vs) i = nth ts i := by rw [nth_app (by simp; omega), nth_app hi]
   have e2 : nth (ts ++ [x] ++ vs) ts.length = x := by rw [nth_app (by simp), nth_eq (by simp)]; simp
   rw [e1, e2] at h3
   exact h3 hd
 ·rfl
end Go.E
namespace Go.E
set_option maxRecDepth 20000
set_option maxHeartbeats 2000000
open Go.Proofs
variable {G : Gh}
abbrev tPT : TypeId := 101
abbrev tSc : TypeId := 105
def RsPost (s : List UInt8) (v : Value) (G : Gh) : Prop := (schemaOf s = none ∧ ∃ p, v = Tu [p, Bo false]) ∨ ∃ b qs, v = Tu [Pt b 0, Bo true] ∧ schemaOf s = some (tyq qs) ∧ ScI G b qs
theorem tyq_len (qs : List TyP) : (tyq qs).length = qs.length := by simp [tyq]
theorem nth_tyq {qs : List TyP} {i : Nat} (h : i < qs.length) : nth (tyq qs) i = (nth qs i).2 := by
 rw [nth_eq h, nth_eq (by rw [tyq_len]; exact h)]; simp [tyq]
theorem findQ_some {qs : List TyP} {n : List UInt8} {q : TyP} (h : findQ qs n = some q) : ∃ i, i < (tyq qs).length ∧ (nth (tyq qs) i).name = n := by
 have h1 := findQ_mem h
 have h2 : n = q.2.name := by unfold findQ at h; simpa using List.find?_some h
 obtain ⟨i, hi, rfl⟩ := mem_nth h1
 exact ⟨i, by rw [tyq_len]; exact hi, by rw [nth_tyq hi, h2]⟩
theorem findQ_none {qs : List TyP} {n : List UInt8} (h : findQ qs n = none) : ∀ i, i < qs.length → (nth (tyq qs) i).name ≠ n := by
 intro i hi e
 unfold findQ at h
 rw [List.find?_eq_none] at h
 have := h _ (nth_mem hi)
 rw [nth_tyq hi] at e
 simp [e] at this
theorem c_readSchema {s : List UInt8} (h : s.length ≤ 10000000) : FnS Tryz.prog 65 [S s] G (RsPost s) := by
 by_cases hl : s.length ≤ 400
 case neg =>
  have hno := schema_len hl
  refine jB [(0, _)] Tryz.func65 Tryz.ntmps65 fun B hok hB hW => ?_
  repeat' (first | (refine jR ?_) | (refine k_tt rfl (dTt (by omega)) ?_))
  all_goals refine jZ (vs := [_, _]) rfl ⟨rfl, rfl, trivial⟩ rfl ⟨Gh.le.refl _, rfl, ?_⟩
  all_goals exact .inl ⟨hno, _, rfl⟩
 refine jB [(0, _)] Tryz.func65 Tryz.ntmps65 fun B hok hB hW => ?_
 repeat' (first | (refine jR ?_) | (refine k_op rfl ?_; first | refine c_mkm rfl fun _ => ?_ | refine jV (g_bld rfl rfl) ?_ | refine c_bx rfl rfl rfl fun _ => ?_) | (refine k_ff rfl (dFf (by omega)) ?_))
 rename_i m x
 refine Nx.addNil tPT 1 ?_
 refine k_loop (ι := Value × List TyP × List (List UInt8) × List UInt8 × Gh) (fun i => Rdg s i.2.2.1 (tyq i.2.1) i.2.2.2.1 ∧ (i.2.1.length ≤ 8 ∧ i.2.2.2.1.length ≤ s.length) ∧ (∀ a, a < i.2.1.length → NamesAt (tyq i.2.1) a) ∧ (∀ q ∈ i.2.1, TyI i.2.2.2.2 q.1 q.2) ∧ Gh.le G i.2.2.2.2) (fun i => [(0, S i.2.2.2.1), (4, Pt x 0)]) (fun i => i.2.2.2.2) (fun i => [.acc i.1 tPT 1 i.2.1.length (rows ptF i.2.1), .blk x (.cells [i.1, .map (some m)].toArray tSc (0, 0)), .blk m (mapO (kvsOf i.2.1))]) (fun i => i.2.2.2.1.length) (nilS, [], [], s, G) ?_ (by repeat' constructor) rfl sRr (fun i Hi => ?_)
 ·exact ⟨Rdg.start s, ⟨by simp, Nat.le_refl _⟩, fun a ha => absurd ha (by simp), by simp, Gh.le.refl _⟩
 obtain ⟨u, qs, ls, t, Gk⟩ := i
 dsimp only at Hi ⊢
 obtain ⟨hR, ⟨h8, htl⟩, hna, hti, hgk⟩ := Hi
 refine Nx.shp (v := u) (.head _) fun hsh => ?_
 have hsh2 := hsh
 obtain ⟨au, cu, rfl⟩ := hsh.sl
 by_cases ht : t = []
 case neg =>
  have cx_cut : ∀ G, PuG Tryz.prog 109 [S t, S [10]] G (· = Tu [S (cut1 10 t).1, S (cut1 10 t).2.1, Bo (cut1 10 t).2.2]) := fun G => c_Cut (c := 10) (by omega)
  have hcl := cut1_len (k := 10) (s := t)
  cases hc : (cut1 10 t).2.2 with
  | false =>
   have hno := hR.noend ht hc
   have hc2 : (!(cut1 10 t).2.2) = true := by rw [hc]; rfl
   repeat' (first | (refine jR ?_) | (refine k_op rfl ?_; first | (refine jV (g_pickT rfl rfl rfl) ?_) | (refine c_rt rfl rfl rfl (cx_cut _) rfl ?_)) | (refine k_gt rfl rfl ‹_› ?_) | (refine k_tt rfl (by first | rfl | (refine decide_eq_true ?_; (assumption))) ?_))
   all_goals refine jZ (vs := [_, _]) rfl ⟨rfl, rfl, trivial⟩ rfl ⟨hgk, rfl, ?_⟩
   all_goals exact .inl ⟨hno, _, rfl⟩
  | true =>
   have hce : cut1 10 t = ((cut1 10 t).1, (cut1 10 t).2.1, true) := by rw [← hc]
   have hlt : (cut1 10 t).2.1.length < t.length := by
    obtain ⟨d, _, e⟩ := cut1_some hce
    have := congrArg List.length e
    simp at this; omega
   rw [hc] at cx_cut
   generalize (cut1 10 t).1 = line at *
   generalize (cut1 10 t).2.1 = rest at *
   clear hc
   by_cases h9 : qs.length = 8
   ·have hno := hR.many hce (by rw [tyq_len]; exact h9)
    repeat' (first | (refine jR ?_) | (refine k_op rfl ?_; first | refine jV (g_ld rfl rfl rfl) ?_ | refine jV (g_lenL rfl) ?_ | (refine jV (g_pickF rfl rfl rfl) ?_) | (refine c_rt rfl rfl rfl (cx_cut _) rfl ?_)) | (refine k_gf rfl rfl rfl ?_) | (refine k_tt rfl (by refine decide_eq_true ?_; first | assumption | omega) ?_))
    all_goals refine jZ (vs := [_, _]) rfl ⟨rfl, rfl, trivial⟩ rfl ⟨hgk, rfl, ?_⟩
    all_goals exact .inl ⟨hno, _, rfl⟩
   have hle1 : line.length ≤ 1000 := by omega
   cases hty : tyOf line with
   | none =>
    have hno := hR.bad hce hty
    have cx_rt0 : ∀ G, FnS Tryz.prog 110 [S line] G (fun v _ => ∃ p, v = Tu [p, Bo false]) := fun G => by
     refine (c_readType (G := G) hle1).mono ?_
     rintro v G' L' ⟨h1, h2, ⟨_, p, rfl⟩ | ⟨_, _, _, h4, _⟩⟩
     ·exact ⟨h1, h2, p, rfl⟩
     ·rw [hty] at h4; cases h4
    repeat' (first | (refine jR ?_) | (refine k_op rfl ?_; first | refine jV (g_ld rfl rfl rfl) ?_ | refine jV (g_lenL rfl) ?_ | (refine jV (g_pickF rfl rfl rfl) ?_) | (refine c_rt rfl rfl rfl (cx_cut _) rfl ?_) | (refine c_fns rfl rfl rfl (cx_rt0 _) rfl ?_; rintro _ G hle ⟨p, rfl⟩; skip)) | (refine k_gf rfl rfl rfl ?_) | (refine k_tt rfl (by first | rfl | (refine decide_eq_true ?_; (assumption))) ?_) | (refine k_ff rfl (dFf (by omega)) ?_) | (refine k_any (s_any (id := 9) _ (fun _ h => h) mixed ?_); refine jT 11 [0, 1, 2] (bts 14 7) ?_; (try (refine Nx.re (d := 47) (v' := Bo true) rfl (congrArg Value.bool rfl) ?_)); refine jT 5 [3, 4, 5, 7, 8, 9] (bts 14 959) ?_; (refine jN (bts 14 1023) 6 rfl ?_); (refine jN (bts 14 2047) 10 rfl ?_); (refine jN (bts 14 4095) 11 rfl ?_); (refine jN (bts 14 8191) 12 rfl ?_); (refine jG (bts 14 16383) 13 rfl (g_pickT rfl rfl rfl) ?_); refine x_done (by kernel_rfl) (k_bk ?_)))
    all_goals refine jZ (vs := [_, _]) rfl ⟨rfl, rfl, trivial⟩ rfl ⟨hgk.trans hle, rfl, ?_⟩
    all_goals exact .inl ⟨hno, _, rfl⟩
   | some ty =>
   have cx_rt1 : ∀ G, FnS Tryz.prog 110 [S line] G (fun v G' => ∃ b fv ln, v = Tu [Pt b 0, Bo true] ∧ Seg G' b 0 [U8 ty.sort, S ty.name, fv, S ln] ∧ SlV G' fv 6 ty.fields.length (rows fiF ty.fields)) := fun G => by
    refine (c_readType (G := G) hle1).mono ?_
    rintro v G' L' ⟨h1, h2, ⟨h4, _⟩ | ⟨b, t2, rfl, h4, fv, ln, h5, h6⟩⟩
    ·rw [hty] at h4; cases h4
    ·rw [hty] at h4; simp only [Option.some.injEq] at h4; subst h4
     exact ⟨h1, h2, b, fv, ln, rfl, h5, h6⟩
   have hkv := kvF_find qs ty.name
   cases hf : findQ qs ty.name with
   | some q =>
    rw [hf] at hkv
    dsimp only [Option.map_some] at hkv
    obtain ⟨i, hi, hn⟩ := findQ_some hf
    have hno := hR.dup hce hty i hi hn
    repeat' (first | (refine jR ?_) | (refine k_op rfl ?_; first | refine jV (g_ld rfl rfl rfl) ?_ | refine jV (g_lenL rfl) ?_ | (refine jV (g_pickF rfl rfl rfl) ?_) | (refine c_rt rfl rfl rfl (cx_cut _) rfl ?_) | (refine c_fns rfl rfl rfl (cx_rt1 _) rfl ?_; rintro _ G hle ⟨b, fv, ln, rfl, hsg, hfv⟩; skip)) | (refine k_gf rfl rfl rfl ?_) | (refine k_tt rfl (by first | rfl | (refine decide_eq_true ?_; (assumption))) ?_) | (refine k_ff rfl (dFf (by omega)) ?_) | (refine k_any (s_any (id := 9) _ (fun _ h => h) mixed ?_); refine jT 11 [0, 1, 2] (bts 14 7) ?_; (try (refine Nx.re (d := 47) (v' := Bo false) rfl (congrArg Value.bool rfl) ?_)); refine jT 5 [3, 4, 5, 7, 8, 9] (bts 14 959) ?_; (refine jG (bts 14 1023) 6 rfl (g_ld rfl rfl rfl) ?_); (refine jG (bts 14 2047) 10 rfl (g_ldS rfl rfl (by assumption) rfl rfl) ?_); (refine jG (bts 14 4095) 11 rfl (g_lookupX rfl rfl (map_own MapI.mem) (by assumption) rfl) ?_); (refine jG (bts 14 8191) 12 rfl (g_pne0 rfl rfl) ?_); (refine jG (bts 14 16383) 13 rfl (g_pickF rfl rfl rfl) ?_); refine x_done (by kernel_rfl) (k_bk ?_)))
    all_goals refine jZ (vs := [_, _]) rfl ⟨rfl, rfl, trivial⟩ rfl ⟨hgk.trans hle, rfl, ?_⟩
    all_goals exact .inl ⟨hno, _, rfl⟩
   | none =>
    rw [hf] at hkv
    dsimp only [Option.map_none] at hkv
    repeat' (first | (refine jR ?_) | (refine k_op rfl ?_; first | refine jV (g_ld rfl rfl rfl) ?_ | refine jV (g_lenL rfl) ?_ | (refine jV (g_pickF rfl rfl rfl) ?_) | (refine c_rt rfl rfl rfl (cx_cut _) rfl ?_) | (refine c_fns rfl rfl rfl (cx_rt1 _) rfl ?_; rintro _ G hle ⟨b, fv, ln, rfl, hsg, hfv⟩; skip)) | (refine k_gf rfl rfl rfl ?_) | (refine k_tt rfl (dTt ‹_›) ?_) | (refine k_ff rfl (dFf (by omega)) ?_))
    (refine k_any (s_any (id := 9) _ (fun _ h => h) mixed ?_); refine jT 11 [0, 1, 2] (bts 14 7) ?_; (try (refine Nx.re (d := 47) (v' := Bo false) rfl (congrArg Value.bool rfl) ?_)); refine jT 5 [3, 4, 5, 7, 8, 9] (bts 14 959) ?_; (refine jG (bts 14 1023) 6 rfl (g_ld rfl rfl rfl) ?_); (refine jG (bts 14 2047) 10 rfl (g_ldS rfl rfl (by assumption) rfl rfl) ?_); (refine jG (bts 14 4095) 11 rfl (g_lookupX rfl rfl (map_own MapI.mem) (by assumption) rfl) ?_); (refine jG (bts 14 8191) 12 rfl (g_pne0 rfl rfl) ?_); (refine jG (bts 14 16383) 13 rfl (g_pickF rfl rfl rfl) ?_); refine x_done (by kernel_rfl) (k_bk ?_))
    repeat' (first | (refine jR ?_) | (refine k_op rfl ?_; first | refine jV (g_ld rfl rfl rfl) ?_ | refine c_bsl rfl rfl rfl rfl rfl rfl fun _ => ?_ | (refine c_apX rfl rfl rfl rfl rfl rfl rfl rfl rfl (by omega) fun _ _ => ?_) | refine c_st1 rfl rfl rfl rfl ?_) | (refine k_ff rfl rfl ?_))
    rename_i w b2 c2
    (refine k_any (s_any (id := 12) [.blk x (.cells [.slice (some ⟨b2, 0, none⟩) (qs.length + 1) c2, .map (some m)].toArray tSc (0, 0))] (by intro y hy; simp only [List.mem_cons, List.not_mem_nil, or_false] at hy ⊢; simp [hy]) mixed ?_); refine jU 3 [0, 1, 2, 4, 5, 6, 8] (bts 10 375) ?_ ?_; (focus (repeat' (exact trivial))); (refine jG (bts 10 383) 3 rfl (g_ld rfl rfl rfl) ?_); (refine jG (bts 10 511) 7 rfl (g_ldS rfl rfl (by assumption) rfl rfl) ?_); refine jA 9 rfl ?_; (refine c_mup rfl rfl rfl rfl ‹_› ?_); refine jS (bts 10 1023) ?_; refine x_done (by kernel_rfl) (k_bk ?_))
    repeat' (refine jR ?_)
    have e1 : kvsOf qs ++ [(ty.name, Pt b 0)] = kvsOf (qs ++ [(b, ty)]) := by simp [kvsOf]
    have e2 : rows ptF qs ++ [Pt b 0] = rows ptF (qs ++ [(b, ty)]) := (rows_snoc ptF qs (b, ty)).symm
    have e3 : tyq (qs ++ [(b, ty)]) = tyq qs ++ [ty] := by simp [tyq]
    rw [e1, e2]
    refine k_rd (.slice (some ⟨b2, 0, none⟩) (qs.length + 1) c2, qs ++ [(b, ty)], ls ++ [line], rest, G) ⟨?_, ⟨by simp; omega, by dsimp only; omega⟩, ?_, ?_, hgk.trans hle⟩ (by dsimp only; omega) (by repeat' constructor) rfl (by dsimp only; simp only [List.length_append, List.length_cons, List.length_nil, Nat.zero_add]; repeat (first | exact List.Sublist.refl _ | apply List.Sublist.cons_cons | apply List.Sublist.cons))
    ·dsimp only; rw [e3]; exact hR.step hce hty
    ·intro a ha k hk
     dsimp only at ha ⊢
     rw [e3]
     have hlen := tyq_len qs
     have hal : a < qs.length + 1 := by simpa using ha
     rcases Nat.lt_or_ge a qs.length with h3 | h3
     ·rw [nth_app (by omega), nth_app (by omega)]; exact hna a h3 k hk
     ·have ea : a = qs.length := by omega
      have e4 : nth (tyq qs ++ [ty]) a = ty := by rw [nth_eq (by simp; omega), List.getElem_append_right (by omega)]; simp
      rw [nth_app (by omega), e4]
      exact findQ_none hf k (by omega)
    ·intro q hq
     dsimp only at hq ⊢
     rcases List.mem_append.1 hq with hq | hq
     ·exact (hti q hq).mono hle
     ·simp only [List.mem_singleton] at hq; subst hq; exact ⟨fv, ln, hsg, hfv⟩
 ·subst ht
  have hfin := hR.fin hl (by rw [tyq_len]; exact h8)
  have hw : ∀ q ∈ qs, TyW q.2 := fun q hq => (typesOf_w hR.tyE).1 q.2 (show q.2 ∈ qs.map (fun y => y.2) from List.mem_map_of_mem hq)
  refine Nx.sealS (v := .slice au qs.length cu) fun G1 hl1 hsl => ?_
  refine Nx.sealC (b := x) fun G2 hl2 hsx => ?_
  refine Nx.sealM (b := m) fun G3 hl3 hmm => ?_
  have hS : ScI G3 x qs := ⟨⟨_, m, hsx.mono hl3, hsl.mono (hl2.trans hl3), hmm⟩, fun q hq => (hti q hq).mono ((hl1.trans hl2).trans hl3)⟩
  have hgl : Gh.le G G3 := ((hgk.trans hl1).trans hl2).trans hl3
  have hsx3 := hsx.mono hl3
  have hsl3 := hsl.mono (hl2.trans hl3)
  repeat' (first | (refine jR ?_) | (refine k_op rfl ?_; first | refine jV (g_ldS rfl rfl (by assumption) rfl rfl) ?_ | refine jV (g_lenL rfl) ?_) | (refine k_ff rfl rfl ?_))
  refine k_loop (ι := Nat) (fun k => k ≤ qs.length ∧ ∀ j, j < k → KindsOk (tyq qs) (nth qs j).2) (fun k => [(4, Pt x 0), (82, .slice au qs.length cu), (83, I qs.length), (84, I k)]) (fun k => G3) (fun k => []) (fun k => qs.length - k) 0 ?_ (by repeat' constructor) rfl sRr (fun k Hk => ?_)
  ·exact ⟨Nat.zero_le _, fun j hj => absurd hj (by omega)⟩
  by_cases hk : k < qs.length
  case neg =>
   have hko : ∀ q ∈ qs, KindsOk (tyq qs) q.2 := fun q hq => by
    obtain ⟨j, hj, rfl⟩ := mem_nth hq
    exact Hk.2 j (by omega)
   repeat' (first | (refine jR ?_) | (refine k_op rfl ?_; first | refine jV (g_ldS rfl rfl (by assumption) rfl rfl) ?_ | refine jV (g_lenL rfl) ?_) | (refine k_ff rfl (dFf (by omega)) ?_))
   refine k_loop (ι := Nat) (fun k => k ≤ qs.length ∧ ∀ j, j < k → endsN (tyq qs) 9 (nth qs j).2 = true) (fun k => [(4, Pt x 0), (114, .slice au qs.length cu), (115, I qs.length), (116, I k)]) (fun k => G3) (fun k => []) (fun k => qs.length - k) 0 ?_ (by repeat' constructor) rfl sRr (fun k Hk => ?_)
   ·exact ⟨Nat.zero_le _, fun j hj => absurd hj (by omega)⟩
   have hends : ∀ j, j < qs.length → endsN (tyq qs) 9 (nth qs j).2 = endsN (tyq qs) ((tyq qs).length + 1) (nth (tyq qs) j) := fun j hj => by
    rw [nth_tyq hj]
    exact ends_eq (by rw [tyq_len]; exact h8) (show (nth qs j).2 ∈ qs.map (fun y => y.2) from List.mem_map_of_mem (nth_mem hj))
   by_cases hk2 : k < qs.length
   case neg =>
    have hv : ValidT (tyq qs) := by
     refine ⟨fun j hj => ?_, fun j hj => ?_⟩
     ·rw [tyq_len] at hj
      exact ⟨hna j hj, by rw [nth_tyq hj]; exact hko _ (nth_mem hj)⟩
     ·rw [tyq_len] at hj
      rw [← hends j hj]; exact Hk.2 j (by omega)
    repeat' (first | (refine jR ?_) | (refine k_ff rfl (dFf (by omega)) ?_))
    all_goals refine jZ (vs := [_, _]) rfl ⟨rfl, rfl, trivial⟩ rfl ⟨hgl, rfl, ?_⟩
    all_goals exact .inr ⟨x, qs, rfl, by rw [hfin, if_pos hv], hS⟩
   obtain ⟨ba, oa, ca, ea, hsa⟩ := hsl3.expl (by omega)
   simp only [Value.slice.injEq] at ea
   obtain ⟨rfl, -, rfl⟩ := ea
   rcases hq : nth qs k with ⟨p, ty⟩
   have hqm : (p, ty) ∈ qs := by rw [← hq]; exact nth_mem hk2
   have cx_en2 := c_endsI hS hw hko hqm
   have hek := hends k hk2
   rw [hq] at hek
   dsimp only at hek
   by_cases he : endsN (tyq qs) 9 ty = true
   ·have he2 : (!endsN (tyq qs) 9 ty) = false := by rw [he]; rfl
    repeat' (first | refine jM ?_ | (refine k_op rfl ?_; first | (refine jV (g_ldR1x rfl rfl (by assumption) ?_ (by assumption) rfl) ?_; (focus ((omega); done))) | (refine jV (g_iaddrN rfl rfl (by omega)) ?_) | (refine c_rt rfl rfl rfl cx_en2 rfl ?_)) | (refine k_tt rfl (dTt (by omega)) ?_) | (refine k_ff rfl ‹_› ?_))
    refine k_rd (k + 1) ⟨by omega, fun j hj => ?_⟩ (by omega) (by repeat' constructor) rfl sRr
    rcases Nat.lt_or_ge j k with h3 | h3
    ·exact Hk.2 j h3
    ·have : j = k := by omega
     subst this; rw [hq]; exact he
   ·have he2 : (!endsN (tyq qs) 9 ty) = true := by simpa using he
    have hno : schemaOf s = none := by
     rw [hfin, if_neg]
     intro hv
     have := hv.2 k (by rw [tyq_len]; exact hk2)
     rw [← hek] at this
     exact he this
    repeat' (first | (refine jR ?_) | (refine k_op rfl ?_; first | (refine jV (g_ldR1x rfl rfl (by assumption) ?_ (by assumption) rfl) ?_; (focus ((omega); done))) | (refine jV (g_iaddrN rfl rfl (by omega)) ?_) | (refine c_rt rfl rfl rfl cx_en2 rfl ?_)) | (refine k_tt rfl (by first | assumption | (refine decide_eq_true ?_; (omega))) ?_))
    all_goals refine jZ (vs := [_, _]) rfl ⟨rfl, rfl, trivial⟩ rfl ⟨hgl, rfl, ?_⟩
    all_goals exact .inl ⟨hno, _, rfl⟩
  obtain ⟨ba, oa, ca, ea, hsa⟩ := hsl3.expl (by omega)
  simp only [Value.slice.injEq] at ea
  obtain ⟨rfl, -, rfl⟩ := ea
  rcases hq : nth qs k with ⟨p, ty⟩
  have hqm : (p, ty) ∈ qs := by rw [← hq]; exact nth_mem hk
  obtain ⟨fv, ln, hsg, hfv⟩ := hS.ty _ hqm
  dsimp only at hsg hfv
  have hW := hw _ hqm
  dsimp only at hW
  have h88 := hW.len
  repeat' (first | (refine jR ?_) | (refine k_op rfl ?_; first | refine jV (g_ldS rfl rfl (by assumption) rfl rfl) ?_ | (refine jV (g_ldR1x rfl rfl (by assumption) ?_ (by assumption) rfl) ?_; (focus ((omega); done))) | refine jV (g_lenV rfl (by assumption)) ?_ | (refine jV (g_iaddrN rfl rfl (by omega)) ?_)) | (refine k_tt rfl (dTt (by omega)) ?_))
  refine k_loop (ι := Nat) (fun l => l ≤ ty.fields.length ∧ (ty.sort = 69 ∨ ∀ j, j < l → hasK (tyq qs) (nth ty.fields j).kind = true)) (fun l => [(4, Pt x 0), (11, Pt p 0), (82, .slice (some ⟨ba, oa, none⟩) qs.length cu), (83, I qs.length), (84, I k), (91, fv), (92, I ty.fields.length), (93, I l)]) (fun l => G3) (fun l => []) (fun l => ty.fields.length - l) 0 ?_ (by repeat' constructor) rfl sRr (fun l Hl => ?_)
  ·exact ⟨Nat.zero_le _, .inr fun j hj => absurd hj (by omega)⟩
  by_cases hl2 : l < ty.fields.length
  case neg =>
   repeat' (first | refine jM ?_ | (refine k_ff rfl (dFf (by omega)) ?_))
   refine k_rd (k + 1) ⟨by omega, fun j hj => ?_⟩ (by omega) (by repeat' constructor) rfl sRr
   rcases Nat.lt_or_ge j k with h3 | h3
   ·exact Hk.2 j h3
   ·have : j = k := by omega
    subst this
    rw [hq]
    rcases Hl.2 with h5 | h5
    ·exact .inl h5
    ·exact .inr fun j2 hj2 => h5 j2 (by dsimp only at hj2; omega)
  obtain ⟨bf, of, cf, rfl, hsf⟩ := hfv.expl (by omega)
  by_cases h69 : ty.sort = 69
  ·repeat' (first | refine jM ?_ | (refine k_op rfl ?_; first | (refine jV (g_ldR rfl rfl (by assumption) ?_) ?_; (focus ((omega); done))) | refine jV (g_ldS rfl rfl (by assumption) rfl rfl) ?_ | (refine jV (g_pickF rfl rfl rfl) ?_) | refine c_stA rfl rfl rfl rfl rfl rfl ?_ | (refine jV (g_iaddrN rfl rfl (by omega)) ?_) | refine c_al rfl rfl fun _ => ?_) | (refine k_gf rfl rfl (dFf (by omega)) ?_) | (refine k_tt rfl (dTt (by omega)) ?_) | (refine k_ff rfl rfl ?_))
   refine k_rd (l + 1) ⟨by omega, .inl h69⟩ (by omega) (by repeat' constructor) rfl (by repeat (exact List.nil_sublist _))
  have hko1 := (hW.fld _ (nth_mem hl2)).kind h69
  have cx_has := c_has hS hko1
  by_cases hh : hasK (tyq qs) (nth ty.fields l).kind = true
  ·have hh2 : (!hasK (tyq qs) (nth ty.fields l).kind) = false := by rw [hh]; rfl
   repeat' (first | refine jM ?_ | (refine k_op rfl ?_; first | (refine jV (g_ldR rfl rfl (by assumption) ?_) ?_; (focus ((omega); done))) | refine jV (g_ldA rfl rfl rfl rfl) ?_ | refine jV (g_ldS rfl rfl (by assumption) rfl rfl) ?_ | (refine jV (g_pickT rfl rfl rfl) ?_) | refine c_stA rfl rfl rfl rfl rfl rfl ?_ | (refine jV (g_iaddrN rfl rfl (by omega)) ?_) | refine c_al rfl rfl fun _ => ?_ | (refine c_rt rfl rfl rfl cx_has rfl ?_)) | (refine k_gt rfl rfl (dTt (by omega)) ?_) | (refine k_tt rfl (dTt (by omega)) ?_) | (refine k_ff rfl ‹_› ?_))
   refine k_rd (l + 1) ⟨by omega, .inr fun j hj => ?_⟩ (by omega) (by repeat' constructor) rfl (by repeat (exact List.nil_sublist _))
   rcases Nat.lt_or_ge j l with h3 | h3
   ·rcases Hl.2 with h5 | h5
    ·exact absurd h5 h69
    ·exact h5 j h3
   ·have : j = l := by omega
    subst this; exact hh
  ·have hh2 : (!hasK (tyq qs) (nth ty.fields l).kind) = true := by simpa using hh
   have hno : schemaOf s = none := by
    rw [hfin, if_neg]
    intro hv
    have h5 := (hv.1 k (by rw [tyq_len]; exact hk)).2
    rw [nth_tyq hk, hq] at h5
    rcases h5 with h6 | h6
    ·exact h69 h6
    ·exact hh (h6 l hl2)
   repeat' (first | (refine jR ?_) | (refine k_op rfl ?_; first | (refine jV (g_ldR rfl rfl (by assumption) ?_) ?_; (focus ((omega); done))) | refine jV (g_ldA rfl rfl rfl rfl) ?_ | refine jV (g_ldS rfl rfl (by assumption) rfl rfl) ?_ | (refine jV (g_pickT rfl rfl rfl) ?_) | refine c_stA rfl rfl rfl rfl rfl rfl ?_ | (refine jV (g_iaddrN rfl rfl (by omega)) ?_) | refine c_al rfl rfl fun _ => ?_ | (refine c_rt rfl rfl rfl cx_has rfl ?_)) | (refine k_gt rfl rfl (dTt (by omega)) ?_) | (refine k_tt rfl (by first | assumption | (refine decide_eq_true ?_; (omega))) ?_))
   all_goals refine jZ (vs := [_, _]) rfl ⟨rfl, rfl, trivial⟩ rfl ⟨hgl, rfl, ?_⟩
   all_goals exact .inl ⟨hno, _, rfl⟩
def BothPost (s k : List UInt8) (v : Value) (G : Gh) : Prop := (kindS s k = false ∧ ∃ p a b c, v = Tu [p, Ag [S a, S b, S c], Bo false]) ∨ ∃ b qs, v = Tu [Pt b 0, Ag (kdF k), Bo true] ∧ schemaOf s = some (tyq qs) ∧ kindIn (tyq qs) k = true ∧ ScI G b qs
theorem c_both {s k : List UInt8} (h : s.length ≤ 10000000) (hk : k.length ≤ 2000000) : FnS Tryz.prog 35 [S s, S k] G (BothPost s k) := by
 cases hs : schemaOf s with
 | none =>
  have hno : kindS s k = false := by unfold kindS; rw [hs]
  have cx_rs0 : ∀ G, FnS Tryz.prog 65 [S s] G (fun v _ => ∃ p, v = Tu [p, Bo false]) := fun G => by
   refine (c_readSchema (G := G) h).mono ?_
   rintro v G' L' ⟨h1, h2, ⟨_, p, rfl⟩ | ⟨_, _, _, h4, _⟩⟩
   ·exact ⟨h1, h2, p, rfl⟩
   ·rw [hs] at h4; cases h4
  refine jB [(0, _), (1, _)] Tryz.func35 Tryz.ntmps35 fun B hok hB hW => ?_
  repeat' (first | (refine jR ?_) | (refine k_op rfl ?_; first | refine c_al rfl rfl fun _ => ?_ | refine jV (g_bld rfl rfl) ?_ | refine c_stA rfl rfl rfl rfl rfl rfl ?_ | (refine c_fns rfl rfl rfl (cx_rs0 _) rfl ?_; rintro _ G hle ⟨p, rfl⟩; skip)) | (refine k_tt rfl rfl ?_))
  all_goals refine jZ (vs := [_, _, _]) rfl ⟨rfl, rc_A rfl rfl rfl rfl, rfl, trivial⟩ rfl ⟨hle, rfl, ?_⟩
  all_goals exact .inl ⟨hno, _, [], [], [], rfl⟩
 | some ts =>
  have cx_rs1 : ∀ G, FnS Tryz.prog 65 [S s] G (fun v G' => ∃ b qs, v = Tu [Pt b 0, Bo true] ∧ tyq qs = ts ∧ ScI G' b qs) := fun G => by
   refine (c_readSchema (G := G) h).mono ?_
   rintro v G' L' ⟨h1, h2, ⟨h4, _⟩ | ⟨b, qs, rfl, h4, h5⟩⟩
   ·rw [hs] at h4; cases h4
   ·rw [hs] at h4; simp only [Option.some.injEq] at h4; exact ⟨h1, h2, b, qs, rfl, h4.symm, h5⟩
  by_cases hko : kindOk k = true
  case neg =>
   have hkc2 : kindOk k = false := by simpa using hko
   have hno : kindS s k = false := by unfold kindS kindIn; rw [hs]; simp [hkc2]
   have cx_kn : ∀ G, PuG Tryz.prog 66 [S k] G (fun v => ∃ x y z, v = Tu [Ag [S x, S y, S z], Bo false]) := fun G => by
    refine (c_readKind (G := G) (s := k) (by omega)).mono ?_
    rintro v G' L' ⟨h1, h2, x, y, z, rfl, _⟩
    exact ⟨h1, h2, x, y, z, by rw [hkc2]⟩
   refine jB [(0, _), (1, _)] Tryz.func35 Tryz.ntmps35 fun B hok hB hW => ?_
   repeat' (first | (refine jR ?_) | (refine k_op rfl ?_; first | refine c_al rfl rfl fun _ => ?_ | refine c_stA rfl rfl rfl rfl rfl rfl ?_ | (refine c_fns rfl rfl rfl (cx_rs1 _) rfl ?_; rintro _ G hle ⟨b, qs, rfl, hqs, hS⟩; skip) | (refine c_pu rfl rfl rfl (cx_kn _) rfl ?_; rintro _ ⟨x, y, z, rfl⟩)) | (refine k_ff rfl rfl ?_) | (refine k_any (s_anyD (id := 5) (tt := 5) rfl mixed ?_); refine jU 8 [0, 2, 3] (bts 11 13) ?_ ?_; (focus (repeat' (exact trivial))); (try (refine Nx.re (d := 26) (v' := Bo false) rfl (congrArg Value.bool rfl) ?_)); refine jU 7 [4] (bts 11 29) ?_ ?_; (focus (repeat' (exact trivial))); (refine jG (bts 11 31) 1 rfl (g_ldA rfl rfl rfl rfl) ?_); (refine jN (bts 11 63) 5 rfl ?_); (refine jN (bts 11 127) 6 rfl ?_); refine jU 3 [8] (bts 11 383) ?_ ?_; (focus (repeat' (exact trivial))); ((refine jG (bts 11 511) 7 rfl (g_pickF rfl rfl ?_) ?_; (focus ((rfl); done)))); refine jA 9 rfl ?_; (refine c_stA rfl rfl rfl rfl rfl rfl ?_); refine jK (bts 11 1023) ?_; refine jU 0 [10] (bts 11 2047) ?_ ?_; (focus (repeat' (exact trivial))); refine x_done (by kernel_rfl) (k_bk ?_)))
   all_goals refine jZ (vs := [_, _, _]) rfl ⟨rfl, rc_A rfl rfl rfl rfl, rfl, trivial⟩ rfl ⟨hle, rfl, ?_⟩
   all_goals exact .inl ⟨hno, _, _, _, _, rfl⟩
  have cx_kq : ∀ G, PuG Tryz.prog 66 [S k] G (· = Tu [Ag [S (sg k), S (bs k), S (nm k)], Bo true]) := fun G => c_kindX (by omega) hko
  have hkk : kdF k = [S (sg k), S (bs k), S (nm k)] := rfl
  by_cases hH : hasK ts k = true
  case pos =>
   have cx_hy : ∀ G b qs, tyq qs = ts → ScI G b qs → PuG Tryz.prog 67 [Pt b 0, Ag [S (sg k), S (bs k), S (nm k)]] G (· = Bo true) := by
    intro G b qs hq hS
    refine (c_has hS hko).mono ?_
    rintro v G' L' ⟨h1, h2, rfl⟩
    exact ⟨h1, h2, by rw [hq, hH]⟩
   refine jB [(0, _), (1, _)] Tryz.func35 Tryz.ntmps35 fun B hok hB hW => ?_
   repeat' (first | (refine jR ?_) | (refine k_op rfl ?_; first | refine c_al rfl rfl fun _ => ?_ | refine c_stA rfl rfl rfl rfl rfl rfl ?_ | (refine c_fns rfl rfl rfl (cx_rs1 _) rfl ?_; rintro _ G hle ⟨b, qs, rfl, hqs, hS⟩; skip) | (refine c_rt rfl rfl rfl (cx_kq _) rfl ?_)) | (refine k_ff rfl rfl ?_) | (refine k_any (s_anyD (id := 5) (tt := 5) rfl mixed ?_); refine jU 8 [0, 2, 3] (bts 11 13) ?_ ?_; (focus (repeat' (exact trivial))); (try (refine Nx.re (d := 26) (v' := Bo true) rfl (congrArg Value.bool rfl) ?_)); refine jU 7 [4] (bts 11 29) ?_ ?_; (focus (repeat' (exact trivial))); (refine jG (bts 11 31) 1 rfl (g_ldA rfl rfl rfl rfl) ?_); (refine jG (bts 11 63) 5 rfl (g_ldA rfl rfl rfl rfl) ?_); ((refine jA 6 rfl ?_; ((refine c_rt rfl rfl rfl ((cx_hy _ _ _) (by (repeat (assumption)); done) (by (repeat (assumption)); done)) rfl ?_)); refine jK (bts 11 127) ?_)); refine jU 3 [8] (bts 11 383) ?_ ?_; (focus (repeat' (exact trivial))); ((refine jG (bts 11 511) 7 rfl (g_pickT rfl rfl ?_) ?_; (focus ((rfl); done)))); refine jA 9 rfl ?_; (refine c_stA rfl rfl rfl rfl rfl rfl ?_); refine jK (bts 11 1023) ?_; refine jU 0 [10] (bts 11 2047) ?_ ?_; (focus (repeat' (exact trivial))); refine x_done (by kernel_rfl) (k_bk ?_)))
   all_goals refine jZ (vs := [_, _, _]) rfl ⟨rfl, rc_A rfl rfl rfl rfl, rfl, trivial⟩ rfl ⟨hle, rfl, ?_⟩
   all_goals exact .inr ⟨b, qs, rfl, by rw [hs, hqs], by simp [kindIn, hqs, hko, hH], hS⟩
  case neg =>
   have hH2 : hasK ts k = false := by simpa using hH
   have hno : kindS s k = false := by unfold kindS kindIn; rw [hs]; simp [hH2]
   have cx_hn : ∀ G b qs, tyq qs = ts → ScI G b qs → PuG Tryz.prog 67 [Pt b 0, Ag [S (sg k), S (bs k), S (nm k)]] G (· = Bo false) := by
    intro G b qs hq hS
    refine (c_has hS hko).mono ?_
    rintro v G' L' ⟨h1, h2, rfl⟩
    exact ⟨h1, h2, by rw [hq, hH2]⟩
   refine jB [(0, _), (1, _)] Tryz.func35 Tryz.ntmps35 fun B hok hB hW => ?_
   repeat' (first | (refine jR ?_) | (refine k_op rfl ?_; first | refine c_al rfl rfl fun _ => ?_ | refine c_stA rfl rfl rfl rfl rfl rfl ?_ | (refine c_fns rfl rfl rfl (cx_rs1 _) rfl ?_; rintro _ G hle ⟨b, qs, rfl, hqs, hS⟩; skip) | (refine c_rt rfl rfl rfl (cx_kq _) rfl ?_)) | (refine k_ff rfl rfl ?_) | (refine k_any (s_anyD (id := 5) (tt := 5) rfl mixed ?_); refine jU 8 [0, 2, 3] (bts 11 13) ?_ ?_; (focus (repeat' (exact trivial))); (try (refine Nx.re (d := 26) (v' := Bo true) rfl (congrArg Value.bool rfl) ?_)); refine jU 7 [4] (bts 11 29) ?_ ?_; (focus (repeat' (exact trivial))); (refine jG (bts 11 31) 1 rfl (g_ldA rfl rfl rfl rfl) ?_); (refine jG (bts 11 63) 5 rfl (g_ldA rfl rfl rfl rfl) ?_); ((refine jA 6 rfl ?_; ((refine c_rt rfl rfl rfl ((cx_hn _ _ _) (by (repeat (assumption)); done) (by (repeat (assumption)); done)) rfl ?_)); refine jK (bts 11 127) ?_)); refine jU 3 [8] (bts 11 383) ?_ ?_; (focus (repeat' (exact trivial))); ((refine jG (bts 11 511) 7 rfl (g_pickT rfl rfl ?_) ?_; (focus ((rfl); done)))); refine jA 9 rfl ?_; (refine c_stA rfl rfl rfl rfl rfl rfl ?_); refine jK (bts 11 1023) ?_; refine jU 0 [10] (bts 11 2047) ?_ ?_; (focus (repeat' (exact trivial))); refine x_done (by kernel_rfl) (k_bk ?_)))
   all_goals refine jZ (vs := [_, _, _]) rfl ⟨rfl, rc_A rfl rfl rfl rfl, rfl, trivial⟩ rfl ⟨hle, rfl, ?_⟩
   all_goals exact .inl ⟨hno, _, _, _, _, rfl⟩
abbrev tRdr : TypeId := 92
theorem c_l6Open {v : Value} {l : List UInt8} (h : SlV G v 1 l.length (u8s l)) : FnG Tryz.prog 31 [v] G [] (fun v L' => ∃ b code l', v = Pt b 0 ∧ L' = [rdO b code 0 tRdr] ∧ SlV G code 1 l'.length (u8s l') ∧ l'.length ≤ 2000) := by
 obtain ⟨h1, ⟨rfl, h2⟩ | ⟨c, o, cap, rfl, h2, h3⟩⟩ := id h
 ·refine jH [(0, _)] Tryz.func31 Tryz.ntmps31 fun B hB hW => ?_
  repeat' (first | (refine jR ?_) | (refine k_op rfl ?_; first | refine jV (g_lenL rfl) ?_ | refine jV (g_bld rfl rfl) ?_ | refine c_bx rfl rfl rfl fun _ => ?_) | (refine k_ff rfl rfl ?_))
  refine k_rr (vs := [_]) rfl ⟨rfl, trivial⟩ rfl (List.Sublist.refl _) ⟨rfl, _, _, [], rfl, rfl, ⟨by simp [u8s], .inl ⟨rfl, rfl⟩⟩, by simp⟩
 ·refine jH [(0, _)] Tryz.func31 Tryz.ntmps31 fun B hB hW => ?_
  repeat' (first | (refine jR ?_) | (refine k_op rfl ?_; first | refine jV (g_lenL rfl) ?_ | (refine jV (g_slTo rfl rfl (by omega)) ?_) | refine jV (g_bld rfl rfl) ?_ | refine c_bx rfl rfl rfl fun _ => ?_) | refine k_if rfl (fun _ => ?_) (fun _ => ?_))
  ·refine k_rr (vs := [_]) rfl ⟨rfl, trivial⟩ rfl (List.Sublist.refl _) ⟨rfl, _, _, l.take 2000, rfl, rfl, ?_, by simp; omega⟩
   have e : (l.take 2000).length = 2000 := by simp; omega
   rw [e]
   refine ⟨by simp [u8s]; omega, .inr ⟨c, o, cap, rfl, by omega, ?_⟩⟩
   have := h3.take 2000
   simpa [u8s] using this
  ·exact k_rr (vs := [_]) rfl ⟨rfl, trivial⟩ rfl (List.Sublist.refl _) ⟨rfl, _, _, l, rfl, rfl, h, by omega⟩
theorem c_pick {b : Nat} {code : Value} {p n : Int} {l : List UInt8} (hp : 0 ≤ p ∧ p ≤ 1000000000000 ∧ n ≤ 1000000000000) (hs : SlV G code 1 l.length (u8s l)) :
  FnG Tryz.prog 46 [Pt b 0, I n] G [rdO b code p tRdr] (fun v L' => ∃ k, v = I k ∧ L' = [rdO b code (p + 1) tRdr] ∧ 0 ≤ k ∧ (k < n ∨ k = 0)) := by
 obtain ⟨h1, ⟨rfl, h2⟩ | ⟨c, o, cap, rfl, h2, h3⟩⟩ := id hs
 ·refine jH [(0, _), (1, _)] Tryz.func46 Tryz.ntmps46 fun B hB hW => ?_
  repeat' (first | (refine run (t := tb) 400 rfl ?_ ?_; (focus (repeat' (first | exact trivial | apply And.intro | omega)))) | (refine k_op rfl ?_; first | refine jV (g_ld rfl rfl rfl) ?_ | refine c_st1 rfl rfl rfl rfl ?_ | refine jV (g_lenL rfl) ?_ | (refine jV (g_pickT rfl rfl rfl) ?_) | (refine jV (g_pickF rfl rfl rfl) ?_)) | refine k_g rfl rfl (fun _ => ?_) (fun _ => ?_) | (refine k_tt rfl rfl ?_))
  all_goals exact k_rr (vs := [_]) rfl ⟨rfl, trivial⟩ rfl (List.Sublist.refl _) ⟨rfl, _, rfl, rfl, by omega, by omega⟩
 ·have b1 := bt_lt l (p + 1 - 1).toNat
  have b2 := bt_lt l ((p + 1 - 1) % (l.length : Int)).toNat
  have b3 := bt_lt l (((p + 1 - 1) * 7 + 3) % (l.length : Int)).toNat
  have e1 := fun h => Int.emod_nonneg (p + 1 - 1) (b := (l.length : Int)) h
  have e2 := fun h => Int.emod_lt_of_pos (p + 1 - 1) (b := (l.length : Int)) h
  have e3 := fun h => Int.emod_nonneg ((p + 1 - 1) * 7 + 3) (b := (l.length : Int)) h
  have e4 := fun h => Int.emod_lt_of_pos ((p + 1 - 1) * 7 + 3) (b := (l.length : Int)) h
  have e5 := fun h => Int.ediv_nonneg (a := p + 1 - 1) (b := (l.length : Int)) h (by omega)
  have e6 := fun h => Int.ediv_le_self (a := p + 1 - 1) (l.length : Int) h
  refine jH [(0, _), (1, _)] Tryz.func46 Tryz.ntmps46 fun B hB hW => ?_
  repeat' (first | (refine run (t := tb) 400 rfl ?_ ?_; (focus (repeat' (first | exact trivial | apply And.intro | omega)))) | (refine k_op rfl ?_; first | refine jV (g_ld rfl rfl rfl) ?_ | (refine jV (g_ldU rfl (by assumption) ?_) ?_; (focus ((omega); done))) | refine c_st1 rfl rfl rfl rfl ?_ | refine jV (g_lenL rfl) ?_ | (refine jV (g_pickT rfl rfl rfl) ?_) | (refine jV (g_pickF rfl rfl rfl) ?_) | (refine jV (g_iaddr rfl rfl (by omega)) ?_) | (refine jV (g_xorP rfl rfl (by omega)) ?_)) | refine k_g rfl rfl (fun _ => ?_) (fun _ => ?_) | (refine k_tt rfl rfl ?_) | refine k_if rfl (fun _ => ?_) (fun _ => ?_) | (refine k_any (s_any (id := 7) _ (fun _ h => h) mixed ?_); refine jU 24 [0, 1, 2, 4, 5, 6, 7, 15, 16, 17, 19, 20, 21, 22, 23, 24, 33, 34, 36, 37, 38, 39] (bts 46 1056595214583) ?_ ?_; (focus (repeat' (first | exact trivial | apply And.intro | omega))); (refine jG (bts 46 1056595214591) 3 rfl (g_ld rfl rfl rfl) ?_); (refine jG (bts 46 1056595214847) 8 rfl (g_ld rfl rfl rfl) ?_); (refine jG (bts 46 1056595215359) 9 rfl (g_lenL rfl) ?_); refine jU 20 [10] (bts 46 1056595216383) ?_ ?_; (focus (repeat' (first | exact trivial | apply And.intro | omega))); (refine jG (bts 46 1056595218431) 11 rfl (g_iaddr rfl rfl (by omega)) ?_); ((refine jG (bts 46 1056595222527) 12 rfl (g_ldU rfl (by assumption) ?_) ?_; (focus ((omega); done)))); refine jU 16 [13, 14] (bts 46 1056595247103) ?_ ?_; (focus (repeat' (first | exact trivial | apply And.intro | omega))); (refine jG (bts 46 1056595509247) 18 rfl (g_ld rfl rfl rfl) ?_); (refine jG (bts 46 1056629063679) 25 rfl (g_ld rfl rfl rfl) ?_); (refine jG (bts 46 1056696172543) 26 rfl (g_lenL rfl) ?_); refine jU 12 [27] (bts 46 1056830390271) ?_ ?_; (focus (repeat' (first | exact trivial | apply And.intro | omega))); (refine jG (bts 46 1057098825727) 28 rfl (g_iaddr rfl rfl (by omega)) ?_); ((refine jG (bts 46 1057635696639) 29 rfl (g_ldU rfl (by assumption) ?_) ?_; (focus ((omega); done)))); refine jU 6 [30, 31, 32, 35] (bts 46 1099511627775) ?_ ?_; (focus (repeat' (first | exact trivial | apply And.intro | omega))); (refine jG (bts 46 2199023255551) 40 rfl (g_ld rfl rfl rfl) ?_); (refine jG (bts 46 4398046511103) 41 rfl (g_lenL rfl) ?_); refine jU 0 [42, 43, 44, 45] (bts 46 70368744177663) ?_ ?_; (focus (repeat' (first | exact trivial | apply And.intro | omega))); refine x_done (by kernel_rfl) (k_bk ?_)))
  all_goals (first | exact k_rr (vs := [_]) rfl ⟨rfl, trivial⟩ rfl (List.Sublist.refl _) ⟨rfl, _, rfl, rfl, by omega, by omega⟩ | exact k_rr (vs := [_]) rfl ⟨rfl, trivial⟩ rfl (List.Sublist.refl _) ⟨rfl, _, rfl, rfl, Int.emod_nonneg _ (by omega), .inl (Int.emod_lt_of_pos _ (by omega))⟩ | exact xorI_nn _ _)
theorem c_l91Kind {r : Nat} {code : Value} {p : Int} {l : List UInt8} (hp : 0 ≤ p ∧ p ≤ 900000000000) (hs : SlV G code 1 l.length (u8s l)) :
  FnG Tryz.prog 72 [Pt r 0] G [rdO r code p tRdr] (fun v L' => ∃ x q, v = S x ∧ x.length ≤ 400 ∧ L' = [rdO r code q tRdr] ∧ p ≤ q ∧ q ≤ p + 10) := by
 refine jH [(0, _)] Tryz.func72 Tryz.ntmps72 fun B hB hW => ?_
 repeat' (first | (refine jR ?_) | (refine k_op rfl ?_; first | refine c_bsl rfl rfl rfl rfl rfl rfl fun _ => ?_ | (refine jV (g_iaddr rfl rfl (by omega)) ?_) | (refine c_ldMS 64 rfl rfl rfl ?_ rfl (fun xs hxs => ?_); (focus ((simp only [List.length_append, List.length_cons, List.length_nil, List.length_take]; omega); done))) | (refine c_m1g rfl rfl rfl (c_pick ?_ (by (repeat (assumption)); done)) rfl ?_; (focus ((omega); done)); rintro _ _ ⟨k, rfl, rfl, hk0, hk1⟩; dsimp only [zA, fA])))
 refine k_loop (ι := List UInt8 × Int × Int) (fun j => (0 ≤ j.2.1 ∧ j.2.1 ≤ 3) ∧ ((j.1.length : Nat) : Int) ≤ 64 * (4 - j.2.1) ∧ p ≤ j.2.2 ∧ j.2.2 ≤ p + 5 - j.2.1) (fun j => [(0, Pt r 0), (3, S j.1), (4, I j.2.1)]) (fun _ => G) (fun j => [rdO r code j.2.2 tRdr]) (fun j => j.2.1.toNat) (xs, k, p + 1 + 1) ?_ (by repeat' constructor) rfl (by repeat (first | exact List.nil_sublist _ | apply List.Sublist.cons_cons)) (fun j Hj => ?_)
 ·dsimp only; omega
 obtain ⟨s, kk, q⟩ := j
 dsimp only at Hj ⊢
 obtain ⟨hk, hsl, hq0, hq1⟩ := Hj
 by_cases h1 : 1 < kk
 ·repeat' (first | refine jM ?_ | (refine k_op rfl ?_; first | refine c_bsl rfl rfl rfl rfl rfl rfl fun _ => ?_ | (refine jV (g_iaddr rfl rfl (by omega)) ?_) | (refine c_ldMS 64 rfl rfl rfl ?_ rfl (fun xs hxs => ?_); (focus ((simp only [List.length_append, List.length_cons, List.length_nil, List.length_take]; omega); done))) | (refine c_m1g rfl rfl rfl (c_pick ?_ (by (repeat (assumption)); done)) rfl ?_; (focus ((omega); done)); rintro _ _ ⟨k, rfl, rfl, hk0, hk1⟩; dsimp only [zA, fA])) | (refine k_tt rfl (dTt ‹_›) ?_))
  exact k_rd (xs ++ s, kk - 1, q + 1) (by dsimp only; rw [List.length_append]; omega) (by dsimp only; omega) (by repeat' constructor) rfl (by repeat (first | exact List.nil_sublist _ | apply List.Sublist.cons_cons))
 ·repeat' (first | (refine jR ?_) | (refine k_op rfl ?_; first | refine c_bsl rfl rfl rfl rfl rfl rfl fun _ => ?_ | (refine jV (g_iaddr rfl rfl (by omega)) ?_) | (refine c_ldMS 64 rfl rfl rfl ?_ rfl (fun xs hxs => ?_); (focus ((simp only [List.length_append, List.length_cons, List.length_nil, List.length_take]; omega); done))) | (refine c_m1g rfl rfl rfl (c_pick ?_ (by (repeat (assumption)); done)) rfl ?_; (focus ((omega); done)); rintro _ _ ⟨k, rfl, rfl, hk0, hk1⟩; dsimp only [zA, fA])) | (refine k_ff rfl (dFf ‹_›) ?_) | refine k_if rfl (fun _ => ?_) (fun _ => ?_))
  all_goals exact k_rr (vs := [_]) rfl ⟨rfl, trivial⟩ rfl (by repeat (first | exact List.Sublist.refl _ | exact List.nil_sublist _ | apply List.Sublist.cons_cons)) ⟨rfl, _, _, rfl, by omega, rfl, by omega, by omega⟩
theorem c_l91Text {r : Nat} {code : Value} {p : Int} {l : List UInt8} (hp : 0 ≤ p ∧ p ≤ 900000000000) (hs : SlV G code 1 l.length (u8s l)) :
  FnG Tryz.prog 118 [Pt r 0] G [rdO r code p tRdr] (fun v L' => ∃ x q, v = S (39 :: (x ++ [39])) ∧ x.length ≤ 64 ∧ L' = [rdO r code q tRdr] ∧ p ≤ q ∧ q ≤ p + 10) := by
 refine jH [(0, _)] Tryz.func118 Tryz.ntmps118 fun B hB hW => ?_
 repeat' (first | (refine run (t := tb) 400 rfl ?_ ?_; (focus (repeat' (first | exact trivial | apply And.intro | (simp only [List.length_append, List.length_cons, List.length_nil, Int.toNat_natCast]; omega))))) | (refine k_op rfl ?_; first | refine c_bsl rfl rfl rfl rfl rfl rfl fun _ => ?_ | (refine jV (g_iaddr rfl rfl (by omega)) ?_) | (refine c_ldMS 64 rfl rfl rfl ?_ rfl (fun xs hxs => ?_); (focus ((simp only [List.length_append, List.length_cons, List.length_nil, List.length_take]; omega); done))) | (refine c_m1g rfl rfl rfl (c_pick ?_ (by (repeat (assumption)); done)) rfl ?_; (focus ((omega); done)); rintro _ _ ⟨k, rfl, rfl, hk0, hk1⟩; dsimp only [zA, fA])))
 exact k_rr (vs := [_]) rfl ⟨rfl, trivial⟩ rfl (by repeat (first | exact List.nil_sublist _ | apply List.Sublist.cons_cons)) ⟨rfl, xs, _, rfl, by omega, rfl, by omega, by omega⟩
theorem c_l91Field {r : Nat} {code : Value} {p tag : Int} {l so nm : List UInt8} (hp : 0 ≤ p ∧ p ≤ 800000000000) (hs : SlV G code 1 l.length (u8s l)) (ht : 0 ≤ tag ∧ tag ≤ 1000000) (hnm : nm.length ≤ 100) :
  FnG Tryz.prog 116 [Pt r 0, S so, I tag, S nm] G [rdO r code p tRdr] (fun v L' => ∃ x q, v = S x ∧ x.length ≤ 1000 ∧ L' = [rdO r code q tRdr] ∧ p ≤ q ∧ q ≤ p + 20) := by
 have hdl := decI_len (n := tag) (by omega)
 refine jH [(0, _), (1, _), (2, _), (3, _)] Tryz.func116 Tryz.ntmps116 fun B hB hW => ?_
 repeat' (first | (refine run (t := tb) 400 rfl ?_ ?_; (focus (repeat' (first | exact trivial | apply And.intro | omega | (simp only [List.length_append, List.length_cons, List.length_nil, Int.toNat_natCast]; omega))))) | (refine k_op rfl ?_; first | (refine jV (g_pickT rfl rfl rfl) ?_) | (refine jV (g_pickF rfl rfl rfl) ?_) | refine c_bsl rfl rfl rfl rfl rfl rfl fun _ => ?_ | (refine jV (g_iaddr rfl rfl (by omega)) ?_) | (refine c_ldMS 64 rfl rfl rfl ?_ rfl (fun xs hxs => ?_); (focus ((simp only [List.length_append, List.length_cons, List.length_nil, List.length_take]; omega); done))) | (refine c_rt rfl rfl rfl (c_l6Dec (by omega)) rfl ?_) | (refine c_m1g rfl rfl rfl (c_l91Kind ?_ (by (repeat (assumption)); done)) rfl ?_; (focus ((omega); done)); rintro _ _ ⟨kd, q1, rfl, hkd, rfl, hq1, hq2⟩; dsimp only [zA, fA]) | (refine c_m1g rfl rfl rfl (c_pick ?_ (by (repeat (assumption)); done)) rfl ?_; (focus ((omega); done)); rintro _ _ ⟨k, rfl, rfl, hk0, hk1⟩; dsimp only [zA, fA])) | refine k_g rfl rfl (fun _ => ?_) (fun _ => ?_) | (refine k_ff rfl rfl ?_) | refine k_if rfl (fun _ => ?_) (fun _ => ?_))
 all_goals exact k_rr (vs := [_]) rfl ⟨rfl, trivial⟩ rfl (by repeat (first | exact List.Sublist.refl _ | exact List.nil_sublist _ | apply List.Sublist.cons_cons)) ⟨rfl, _, _, rfl, by simp only [List.length_append, List.length_cons, List.length_nil]; omega, rfl, by omega, by omega⟩
theorem c_l91Type {r : Nat} {code : Value} {p : Int} {l so nm : List UInt8} (hp : 0 ≤ p ∧ p ≤ 700000000000) (hs : SlV G code 1 l.length (u8s l)) (hso : so.length ≤ 64) (hnm : nm.length ≤ 64) :
  FnG Tryz.prog 70 [Pt r 0, S so, S nm] G [rdO r code p tRdr] (fun v L' => ∃ x q, v = S x ∧ x.length ≤ 6000 ∧ 1 ≤ x.length ∧ L' = [rdO r code q tRdr] ∧ p ≤ q ∧ q ≤ p + 200) := by
 refine jH [(0, _), (1, _), (2, _)] Tryz.func70 Tryz.ntmps70 fun B hB hW => ?_
 repeat' (first | (refine run (t := tb) 400 rfl ?_ ?_; (focus (repeat' (first | exact trivial | apply And.intro | omega | (simp only [List.length_append, List.length_cons, List.length_nil, Int.toNat_natCast]; omega))))) | (refine k_op rfl ?_; first | (refine jV (g_pickT rfl rfl rfl) ?_) | (refine jV (g_pickF rfl rfl rfl) ?_) | (refine c_m1g rfl rfl rfl (c_pick ?_ (by (repeat (assumption)); done)) rfl ?_; (focus ((omega); done)); rintro _ _ ⟨k, rfl, rfl, hk0, hk1⟩; dsimp only [zA, fA])) | refine k_g rfl rfl (fun _ => ?_) (fun _ => ?_) | (refine k_ff rfl rfl ?_) | refine k_if rfl (fun _ => ?_) (fun _ => ?_))
 all_goals
  have cx_pk2 : ∀ {p : Int}, 0 ≤ p ∧ p ≤ 1000000000000 → FnG Tryz.prog 46 [Pt r 0, I 2] G [rdO r code p tRdr] (fun v L' => L' = [rdO r code (p + 1) tRdr] ∧ (v = I 0 ∨ v = I 1)) := fun {p} hp => (c_pick (b := r) (p := p) (n := 2) ⟨hp.1, hp.2, by decide⟩ hs).mono fun v G' L' ⟨h1, k, h2, h3, h4, h5⟩ => ⟨h1, h3, by subst h2; rcases (show k = 0 ∨ k = 1 by omega) with rfl | rfl; exact .inl rfl; exact .inr rfl⟩
  refine k_loop (ι := List UInt8 × Int × Int × Int × Int) (fun j => (0 ≤ j.2.2.1 ∧ j.2.2.1 ≤ j.2.2.2.1 ∧ j.2.2.2.1 ≤ 4) ∧ (0 ≤ j.2.1 ∧ j.2.1 ≤ 10 * j.2.2.1) ∧ (1 ≤ j.1.length ∧ ((j.1.length : Nat) : Int) ≤ 200 + 1001 * j.2.2.1) ∧ p ≤ j.2.2.2.2 ∧ j.2.2.2.2 ≤ p + 4 + 30 * j.2.2.1) (fun j => [(0, Pt r 0), (1, S so), (7, S j.1), (8, I j.2.1), (9, I j.2.2.2.1), (10, I j.2.2.1)]) (fun _ => G) (fun j => [rdO r code j.2.2.2.2 tRdr]) (fun j => (j.2.2.2.1 - j.2.2.1).toNat) (so ++ nm ++ [61], 0, 0, _, _) ?_ (by repeat' constructor) rfl sRr (fun j Hj => ?_)
  ·dsimp only; simp only [List.length_append, List.length_cons, List.length_nil]; omega
  obtain ⟨s, tag, kk, n, q⟩ := j
  dsimp only at Hj ⊢
  obtain ⟨hk, htg, hsl, hq0, hq1⟩ := Hj
  by_cases h1 : kk < n
  ·repeat' (first | (refine run (t := tb) 400 rfl ?_ ?_; (focus (repeat' (first | exact trivial | apply And.intro | omega | (simp only [List.length_append, List.length_cons, List.length_nil, Int.toNat_natCast]; omega))))) | (refine k_op rfl ?_; first | refine c_bsl rfl rfl rfl rfl rfl rfl fun _ => ?_ | refine jV (g_bsB rfl rfl (by (repeat (first | exact BL.nil | apply BL.cons)); done)) ?_ | (refine c_m1g rfl rfl rfl (cx_pk2 (by omega)) rfl ?_; rintro _ _ ⟨rfl, rfl | rfl⟩ <;> dsimp only [zA, fA]) | (refine c_m1g rfl rfl rfl (c_pick ?_ (by (repeat (assumption)); done)) rfl ?_; (focus ((omega); done)); rintro _ _ ⟨k, rfl, rfl, hk0, hk1⟩; dsimp only [zA, fA]) | (refine c_m1g rfl rfl rfl (c_l91Field ?_ (by (repeat (assumption)); done) ?_ ?_) rfl ?_; (focus ((omega); done)); (focus ((omega); done)); (focus ((simp; done); done)); rintro _ _ ⟨fd, q1, rfl, hfd, rfl, hq1, hq2⟩; dsimp only [zA, fA])) | (refine k_tt rfl (dTt ‹_›) ?_) | refine k_if rfl (fun _ => ?_) (fun _ => ?_))
   all_goals (refine k_rd (_, _, kk + 1, n, _) ?_ ?_ (by repeat' constructor) rfl (by repeat (first | exact List.nil_sublist _ | apply List.Sublist.cons_cons)))
   all_goals (first | (dsimp only; simp only [List.length_append, List.length_cons, List.length_nil]; omega) | (dsimp only; omega))
  ·repeat' (first | (refine run (t := tb) 400 rfl ?_ ?_; (focus (repeat' (first | exact trivial | apply And.intro | (simp only [List.length_append, List.length_cons, List.length_nil, Int.toNat_natCast]; omega))))) | (refine k_ff rfl (dFf ‹_›) ?_))
   exact k_rr (vs := [_]) rfl ⟨rfl, trivial⟩ rfl sRr ⟨rfl, _, _, rfl, by simp only [List.length_append, List.length_cons, List.length_nil]; omega, by simp only [List.length_append, List.length_cons, List.length_nil]; omega, rfl, by omega, by omega⟩
end Go.E
namespace Go.E
set_option maxRecDepth 20000
set_option maxHeartbeats 2000000
def tag0 (t : Ty) : Int := (t.fields.headD default).tag
def standN (ts : List Ty) : Nat → List UInt8 → List UInt8
 | 0, _ => []
 | _ + 1, [] => []
 | n + 1, c :: r => if c.toNat = 91 then [91, 93] else if c.toNat = 63 then [45] else
   match refT ts (c :: r) with
   | none => plainOf (c :: r)
   | some t => if t.sort = 82 then [123, 125] else if t.sort = 69 then 35 :: decI (tag0 t) else 60 :: (decI (tag0 t) ++ 61 :: (standN ts n (kind0 t) ++ [62]))
def standK (ts : List Ty) (k : List UInt8) : List UInt8 := standN ts (ts.length + 2) k
def standF (ts : List Ty) (f : Fld) : List UInt8 := if f.stand = [] then standK ts f.kind else f.stand
def fldT (fs : List Fld) (tag : Int) : Option Fld := fs.find? fun f => decide (f.tag = tag)
structure AskW (ts us : List Ty) (m : List Pr) : Prop where
 nd : m.Nodup
 mem : ∀ p ∈ m, (∃ t ∈ ts, t.name = p.1) ∧ ∃ u ∈ us, u.name = p.2
theorem AskW.nil {ts us : List Ty} : AskW ts us [] := ⟨List.nodup_nil, by simp⟩
theorem nodup_le {α : Type} [DecidableEq α] : ∀ {l l' : List α}, l.Nodup → (∀ x ∈ l, x ∈ l') → l.length ≤ l'.length
 | [], _, _, _ => Nat.zero_le _
 | a :: l, l', hn, hs => by
  rw [List.nodup_cons] at hn
  have ha := hs a (.head _)
  have := nodup_le (l := l) (l' := l'.erase a) hn.2 fun x hx => by
   have hx' := hs x (.tail _ hx)
   exact (List.mem_erase_of_ne (fun e => hn.1 (by rw [← e]; exact hx))).2 hx'
  rw [List.length_erase_of_mem ha] at this
  have hp : 0 < l'.length := List.length_pos_of_mem ha
  simp only [List.length_cons]; omega
theorem AskW.len {ts us : List Ty} {m : List Pr} (h : AskW ts us m) : m.length ≤ ts.length * us.length := by
 have h1 : m.length ≤ (ts.flatMap fun t => us.map fun u => (t.name, u.name)).length := nodup_le h.nd fun p hp => by
  obtain ⟨⟨t, ht, e1⟩, u, hu, e2⟩ := h.mem p hp
  exact List.mem_flatMap.2 ⟨t, ht, List.mem_map.2 ⟨u, hu, by rw [e1, e2]⟩⟩
 have h2 : ∀ ts : List Ty, (ts.flatMap fun t => us.map fun u => (t.name, u.name)).length = ts.length * us.length := fun ts => by
  induction ts with
  | nil => simp
  | cons t ts ih => rw [List.flatMap_cons, List.length_append, ih, List.length_map, List.length_cons, Nat.succ_mul, Nat.add_comm]
 rw [h2] at h1; exact h1
theorem kind_refT {ts : List Ty} {k : List UInt8} (h : kindIn ts k = true) (hr : (refN (core k)).isSome = true) : ∃ t, refT ts (core k) = some t := by
 unfold kindIn hasK at h
 unfold refT
 cases hc : refN (core k) with
 | none => rw [hc] at hr; cases hr
 | some n =>
  rw [hc] at h
  simp only [Bool.and_eq_true] at h
  obtain ⟨_, h⟩ := h
  exact Option.isSome_iff_exists.1 h
inductive V where
 | nd (what : Nat) (text : List UInt8) (tag : Int) (kids : List V)
instance : Inhabited V := ⟨.nd 0 [] 0 []⟩
def V.what : V → Nat | .nd w _ _ _ => w
def V.text : V → List UInt8 | .nd _ x _ _ => x
def V.tag : V → Int | .nd _ _ t _ => t
def V.kids : V → List V | .nd _ _ _ ks => ks
def outW (w : Nat) (x : List UInt8) (t : Int) (e : Bool) (j : List UInt8) : List UInt8 :=
 if w = 116 then 39 :: (x ++ [39]) else if w = 91 then 91 :: (j ++ [93]) else if w = 63 then (if e = true then [45] else 43 :: j)
 else if w = 61 then decI t ++ 61 :: j else if w = 82 then 123 :: (j ++ [125]) else if w = 85 then 60 :: (decI t ++ 61 :: (j ++ [62])) else if w = 69 then 35 :: decI t else x
mutual
def V.out : V → List UInt8
 | .nd w x t ks => outW w x t ks.isEmpty (joinB 44 (V.outs ks))
def V.outs : List V → List (List UInt8)
 | [] => []
 | v :: r => V.out v :: V.outs r
end
mutual
def V.deep : V → Nat
 | .nd w _ _ ks => if w = 61 then V.deeps ks else V.deeps ks + 1
def V.deeps : List V → Nat
 | [] => 0
 | v :: r => max (V.deep v) (V.deeps r)
end
def leafW (w : Nat) (e : Bool) : Bool := (decide (w = 110) || decide (w = 116) || decide (w = 102) || decide (w = 69)) || (decide (w = 63) && e)
mutual
def V.size : V → Nat
 | .nd w _ _ ks => if leafW w ks.isEmpty = true then 1 else V.sizes ks
def V.sizes : List V → Nat
 | [] => 0
 | v :: r => V.size v + V.sizes r
end
theorem V.outs_map : ∀ ks : List V, V.outs ks = ks.map V.out
 | [] => rfl
 | v :: r => by rw [V.outs, V.outs_map r]; rfl
def isDg (c : UInt8) : Bool := decide (48 ≤ c.toNat ∧ c.toNat ≤ 57)
def rdNum (top : Int) (s : List UInt8) : Option (Int × List UInt8) := (numOf (s.takeWhile isDg) top).map fun n => (n, s.dropWhile isDg)
def rdItems (f : List UInt8 → Option (V × List UInt8)) : Nat → List UInt8 → List V → Option (List V × List UInt8)
 | 0, _, _ => none
 | m + 1, s, acc => match f s with
  | none => none
  | some (v, r) => match r with
   | [] => none
   | c :: r' => if c.toNat = 44 then rdItems f m r' (acc ++ [v]) else if c.toNat = 93 then some (acc ++ [v], r') else none
def rdField (f : List UInt8 → List UInt8 → Option (V × List UInt8)) (t : Ty) (s : List UInt8) : Option ((Fld × V) × List UInt8) :=
 match rdNum 200 s with
 | none => none
 | some (n, r) => match fldT t.fields n with
  | none => none
  | some d => match r with
   | [] => none
   | c :: r' => if c.toNat = 61 then (f d.kind r').map fun x => ((d, x.1), x.2) else none
def rdFlds (ts : List Ty) (f : List UInt8 → List UInt8 → Option (V × List UInt8)) (t : Ty) : Nat → Int → List UInt8 → List V → Option (List V × List UInt8)
 | 0, _, _, _ => none
 | m + 1, last, s, acc => match rdField f t s with
  | none => none
  | some ((d, v), r) => if d.tag ≤ last ∨ v.out = standF ts d then none else match r with
   | [] => none
   | c :: r' => if c.toNat = 44 then rdFlds ts f t m d.tag r' (acc ++ [.nd 61 [] d.tag [v]]) else if c.toNat = 125 then some (acc ++ [.nd 61 [] d.tag [v]], r') else none
def rdTyped (ts : List Ty) (f : List UInt8 → List UInt8 → Option (V × List UInt8)) (t : Ty) : List UInt8 → Option (V × List UInt8)
 | [] => none
 | c :: s => if t.sort = 82 then
   (if c.toNat = 123 then (match s with
    | [] => none
    | c' :: r => if c'.toNat = 125 then some (.nd 82 [] 0 [], r) else (rdFlds ts f t (s.length + 1) 0 s []).map fun x => (.nd 82 [] 0 x.1, x.2)) else none)
  else if t.sort = 69 then
   (if c.toNat = 35 then (match rdNum 200 s with
    | none => none
    | some (n, r) => if (fldT t.fields n).isSome = true then some (.nd 69 [] n [], r) else none) else none)
  else if c.toNat = 60 then (match rdField f t s with
    | none => none
    | some ((d, v), r) => match r with
     | [] => none
     | c' :: r' => if c'.toNat = 62 then some (.nd 85 [] d.tag [v], r') else none)
   else none
def rdQuote : List UInt8 → Option (V × List UInt8)
 | [] => none
 | c :: s => if c.toNat = 39 then (match cut1 39 s with
   | (x, r, true) => if isTx (39 :: (x ++ [39])) = true then some (.nd 116 x 0 [], r) else none
   | _ => none) else none
def rdFlag (s : List UInt8) : Option (V × List UInt8) :=
 if [121, 101, 115].isPrefixOf s = true then some (.nd 102 [121, 101, 115] 0 [], s.drop 3) else if [110, 111].isPrefixOf s = true then some (.nd 102 [110, 111] 0 [], s.drop 2) else none
def rdK (ts : List Ty) (f : List UInt8 → List UInt8 → Option (V × List UInt8)) : List UInt8 → List UInt8 → Option (V × List UInt8)
 | [], _ => none
 | c :: k, s =>
  if c.toNat = 91 then (match s with
   | [] => none
   | d :: s' => if d.toNat = 91 then (match s' with
     | [] => none
     | e :: r => if e.toNat = 93 then some (.nd 91 [] 0 [], r) else (rdItems (f k) 20 s' []).map fun x => (.nd 91 [] 0 x.1, x.2)) else none)
  else if c.toNat = 63 then (match s with
   | [] => none
   | d :: s' => if d.toNat = 45 then some (.nd 63 [] 0 [], s') else if d.toNat = 43 then (f k s').map fun x => (.nd 63 [] 0 [x.1], x.2) else none)
  else match refT ts (c :: k) with
   | some t => rdTyped ts f t s
   | none => if c.toNat = 110 then (rdNum 999999 s).map fun x => (.nd 110 (decI x.1) 0 [], x.2) else if c.toNat = 116 then rdQuote s else if c.toNat = 102 then rdFlag s else none
def rd (ts : List Ty) : Nat → List UInt8 → List UInt8 → Option (V × List UInt8)
 | 0, _, _ => none
 | n + 1, k, s => rdK ts (rd ts n) k s
def valOf (ts : List Ty) (k s : List UInt8) : Option V := if s.length ≤ 400 then (match rd ts 12 k s with
 | some (v, []) => some v
 | _ => none) else none
theorem rdItems_mono {f g : List UInt8 → Option (V × List UInt8)} (h : ∀ s x, f s = some x → g s = some x) : ∀ (m : Nat) (s : List UInt8) (acc : List V) {x : List V × List UInt8}, rdItems f m s acc = some x → rdItems g m s acc = some x
 | 0, _, _, _, e => by cases e
 | m + 1, s, acc, x, e => by
  unfold rdItems at e ⊢
  cases hf : f s with
  | none => rw [hf] at e; cases e
  | some y =>
   rw [hf] at e
   rw [h s y hf]
   obtain ⟨v, r⟩ := y
   cases r with
   | nil => exact e
   | cons c r =>
    dsimp only at e ⊢
    split at e
    ·rename_i hc; rw [if_pos hc]; exact rdItems_mono h m r _ e
    ·rename_i hc; rw [if_neg hc]; exact e
theorem rdField_mono {f g : List UInt8 → List UInt8 → Option (V × List UInt8)} (h : ∀ k s x, f k s = some x → g k s = some x) (t : Ty) (s : List UInt8) {x : (Fld × V) × List UInt8} (e : rdField f t s = some x) : rdField g t s = some x := by
 unfold rdField at e ⊢
 cases hn : rdNum 200 s with
 | none => rw [hn] at e; cases e
 | some y =>
  rw [hn] at e
  obtain ⟨n, r⟩ := y
  dsimp only at e ⊢
  cases hd : fldT t.fields n with
  | none => rw [hd] at e; cases e
  | some d =>
   rw [hd] at e
   cases r with
   | nil => cases e
   | cons c r' =>
    dsimp only at e ⊢
    by_cases hc : c.toNat = 61
    ·rw [if_pos hc] at e ⊢
     cases hf : f d.kind r' with
     | none => rw [hf] at e; cases e
     | some y => rw [hf] at e; rw [h _ _ y hf]; exact e
    ·rw [if_neg hc] at e; cases e
theorem rdFlds_mono {ts : List Ty} {f g : List UInt8 → List UInt8 → Option (V × List UInt8)} (h : ∀ k s x, f k s = some x → g k s = some x) (t : Ty) : ∀ (m : Nat) (last : Int) (s : List UInt8) (acc : List V) {x : List V × List UInt8}, rdFlds ts f t m last s acc = some x → rdFlds ts g t m last s acc = some x
 | 0, _, _, _, _, e => by cases e
 | m + 1, last, s, acc, x, e => by
  unfold rdFlds at e ⊢
  cases hf : rdField f t s with
  | none => rw [hf] at e; cases e
  | some y =>
   rw [hf] at e
   rw [rdField_mono h t s hf]
   obtain ⟨⟨d, v⟩, r⟩ := y
   dsimp only at e ⊢
   split at e
   ·cases e
   ·rename_i hd
    rw [if_neg hd]
    cases r with
    | nil => exact e
    | cons c r =>
     dsimp only at e ⊢
     split at e
     ·rename_i hc; rw [if_pos hc]; exact rdFlds_mono h t m _ r _ e
     ·rename_i hc; rw [if_neg hc]; exact e
theorem rdTyped_mono {ts : List Ty} {f g : List UInt8 → List UInt8 → Option (V × List UInt8)} (h : ∀ k s x, f k s = some x → g k s = some x) (t : Ty) : ∀ (s : List UInt8) {x : V × List UInt8}, rdTyped ts f t s = some x → rdTyped ts g t s = some x
 | [], _, e => by cases e
 | c :: s, x, e => by
  unfold rdTyped at e ⊢
  dsimp only at e ⊢
  by_cases h82 : t.sort = 82
  ·rw [if_pos h82] at e ⊢
   by_cases hc : c.toNat = 123
   ·rw [if_pos hc] at e ⊢
    cases s with
    | nil => exact e
    | cons c' r =>
     dsimp only at e ⊢
     by_cases hc' : c'.toNat = 125
     ·rw [if_pos hc'] at e ⊢; exact e
     ·rw [if_neg hc'] at e ⊢
      cases hf : rdFlds ts f t ((c' :: r).length + 1) 0 (c' :: r) [] with
      | none => rw [hf] at e; cases e
      | some y => rw [hf] at e; rw [rdFlds_mono h t _ _ _ _ hf]; exact e
   ·rw [if_neg hc] at e; cases e
  ·rw [if_neg h82] at e ⊢
   by_cases h69 : t.sort = 69
   ·rw [if_pos h69] at e ⊢; exact e
   ·rw [if_neg h69] at e ⊢
    by_cases hc : c.toNat = 60
    ·rw [if_pos hc] at e ⊢
     cases hf : rdField f t s with
     | none => rw [hf] at e; cases e
     | some y => rw [hf] at e; rw [rdField_mono h t s hf]; exact e
    ·rw [if_neg hc] at e; cases e
theorem rdK_mono {ts : List Ty} {f g : List UInt8 → List UInt8 → Option (V × List UInt8)} (ih : ∀ k s x, f k s = some x → g k s = some x) : ∀ (k s : List UInt8) {x : V × List UInt8}, rdK ts f k s = some x → rdK ts g k s = some x
 | [], _, _, e => by cases e
 | c :: k, s, x, e => by
  unfold rdK at e ⊢
  dsimp only at e ⊢
  by_cases h91 : c.toNat = 91
  ·rw [if_pos h91] at e ⊢
   cases s with
   | nil => exact e
   | cons d s' =>
    dsimp only at e ⊢
    by_cases hd : d.toNat = 91
    ·rw [if_pos hd] at e ⊢
     cases s' with
     | nil => exact e
     | cons e' r =>
      dsimp only at e ⊢
      by_cases he : e'.toNat = 93
      ·rw [if_pos he] at e ⊢; exact e
      ·rw [if_neg he] at e ⊢
       cases hf : rdItems (f k) 20 (e' :: r) [] with
       | none => rw [hf] at e; cases e
       | some y => rw [hf] at e; rw [rdItems_mono (ih k) _ _ _ hf]; exact e
    ·rw [if_neg hd] at e; cases e
  ·rw [if_neg h91] at e ⊢
   by_cases h63 : c.toNat = 63
   ·rw [if_pos h63] at e ⊢
    cases s with
    | nil => exact e
    | cons d s' =>
     dsimp only at e ⊢
     by_cases hd : d.toNat = 45
     ·rw [if_pos hd] at e ⊢; exact e
     ·rw [if_neg hd] at e ⊢
      by_cases hd2 : d.toNat = 43
      ·rw [if_pos hd2] at e ⊢
       cases hf : f k s' with
       | none => rw [hf] at e; cases e
       | some y => rw [hf] at e; rw [ih k s' y hf]; exact e
      ·rw [if_neg hd2] at e; cases e
   ·rw [if_neg h63] at e ⊢
    cases hr : refT ts (c :: k) with
    | none => rw [hr] at e; exact e
    | some t => rw [hr] at e; exact rdTyped_mono ih t s e
theorem rd_mono {ts : List Ty} : ∀ (n : Nat) (k s : List UInt8) {x : V × List UInt8}, rd ts n k s = some x → rd ts (n + 1) k s = some x
 | 0, _, _, _, e => by cases e
 | n + 1, k, s, _, e => rdK_mono (fun k s _ e => rd_mono n k s e) k s e
theorem rd_le {ts : List Ty} {n m : Nat} (h : n ≤ m) {k s : List UInt8} {x : V × List UInt8} (e : rd ts n k s = some x) : rd ts m k s = some x := by
  induction m with
  | zero => have : n = 0 := by omega
            subst this; exact e
  | succ m ih =>
    by_cases hn : n = m + 1
    · subst hn; exact e
    · exact rd_mono m k s (ih (by omega))
theorem V.deep_mem : ∀ {ks : List V} {v : V}, v ∈ ks → V.deep v ≤ V.deeps ks
 | [], _, h => by cases h
 | u :: ks, v, h => by
  rw [V.deeps]
  rcases List.mem_cons.1 h with rfl | h
  ·exact Nat.le_max_left _ _
  ·exact Nat.le_trans (V.deep_mem h) (Nat.le_max_right _ _)
theorem V.deeps_le : ∀ {ks : List V} {n : Nat}, (∀ v ∈ ks, V.deep v ≤ n) → V.deeps ks ≤ n
 | [], _, _ => by rw [V.deeps]; exact Nat.zero_le _
 | u :: ks, n, h => by
  rw [V.deeps]
  exact Nat.max_le.2 ⟨h u (.head _), V.deeps_le fun v hv => h v (.tail _ hv)⟩
theorem deep_nd {w : Nat} {x : List UInt8} {t : Int} {ks : List V} (h : ¬ w = 61) : V.deep (.nd w x t ks) = V.deeps ks + 1 := by rw [V.deep, if_neg h]
theorem deep_fld {t : Int} {v : V} : V.deep (.nd 61 [] t [v]) = V.deep v := by rw [V.deep, if_pos rfl, V.deeps, V.deeps, Nat.max_zero]
theorem rdItems_all {f : List UInt8 → Option (V × List UInt8)} {p : V → Prop} (h : ∀ s x, f s = some x → p x.1) : ∀ (m : Nat) (s : List UInt8) (acc : List V) {x : List V × List UInt8}, rdItems f m s acc = some x → (∀ v ∈ acc, p v) → ∀ v ∈ x.1, p v
 | 0, _, _, _, e, _ => by cases e
 | m + 1, s, acc, x, e, ha => by
  unfold rdItems at e
  cases hf : f s with
  | none => rw [hf] at e; cases e
  | some y =>
   rw [hf] at e
   have hy := h s y hf
   obtain ⟨v, r⟩ := y
   have ha' : ∀ u ∈ acc ++ [v], p u := fun u hu => by
    rcases List.mem_append.1 hu with hu | hu
    ·exact ha u hu
    ·simp only [List.mem_singleton] at hu; subst hu; exact hy
   cases r with
   | nil => cases e
   | cons c r =>
    dsimp only at e
    split at e
    ·exact rdItems_all h m r _ e ha'
    ·split at e
     ·simp only [Option.some.injEq] at e; subst e; exact ha'
     ·cases e
theorem rdItems_loc {f g : List UInt8 → Option (V × List UInt8)} : ∀ (m : Nat) (s : List UInt8) (acc : List V) {x : List V × List UInt8}, rdItems f m s acc = some x → (∀ s y, f s = some y → y.1 ∈ x.1 → g s = some y) → rdItems g m s acc = some x ∧ ∀ v ∈ acc, v ∈ x.1
 | 0, _, _, _, e, _ => by cases e
 | m + 1, s, acc, x, e, h => by
  unfold rdItems at e ⊢
  cases hf : f s with
  | none => rw [hf] at e; cases e
  | some y =>
   rw [hf] at e
   have hy := h s y hf
   obtain ⟨v, r⟩ := y
   cases r with
   | nil => cases e
   | cons c r =>
    dsimp only at e hy
    split at e
    ·rename_i hc
     obtain ⟨h1, h2⟩ := rdItems_loc m r _ e h
     rw [hy (h2 v (by simp))]
     dsimp only
     rw [if_pos hc]
     exact ⟨h1, fun u hu => h2 u (List.mem_append_left _ hu)⟩
    ·rename_i hc
     split at e
     ·rename_i hc2
      simp only [Option.some.injEq] at e; subst e
      rw [hy (by simp)]
      dsimp only
      rw [if_neg hc, if_pos hc2]
      exact ⟨rfl, fun u hu => List.mem_append_left _ hu⟩
     ·cases e
theorem rdField_inv {f : List UInt8 → List UInt8 → Option (V × List UInt8)} {t : Ty} {s : List UInt8} {x : (Fld × V) × List UInt8} (e : rdField f t s = some x) : x.1.1 ∈ t.fields ∧ ∃ s', f x.1.1.kind s' = some (x.1.2, x.2) := by
 unfold rdField at e
 cases hn : rdNum 200 s with
 | none => rw [hn] at e; cases e
 | some y =>
  rw [hn] at e
  obtain ⟨n, r⟩ := y
  dsimp only at e
  cases hd : fldT t.fields n with
  | none => rw [hd] at e; cases e
  | some d =>
   rw [hd] at e
   cases r with
   | nil => cases e
   | cons c r' =>
    dsimp only at e
    by_cases hc : c.toNat = 61
    ·rw [if_pos hc] at e
     cases hf : f d.kind r' with
     | none => rw [hf] at e; cases e
     | some y =>
      rw [hf] at e
      simp only [Option.map_some, Option.some.injEq] at e
      subst e
      exact ⟨List.mem_of_find?_eq_some hd, r', hf⟩
    ·rw [if_neg hc] at e; cases e
theorem rdField_loc {f g : List UInt8 → List UInt8 → Option (V × List UInt8)} {t : Ty} {s : List UInt8} {x : (Fld × V) × List UInt8} (e : rdField f t s = some x) (h : ∀ k s y, f k s = some y → y.1 = x.1.2 → g k s = some y) : rdField g t s = some x := by
 unfold rdField at e ⊢
 cases hn : rdNum 200 s with
 | none => rw [hn] at e; cases e
 | some y =>
  rw [hn] at e
  obtain ⟨n, r⟩ := y
  dsimp only at e ⊢
  cases hd : fldT t.fields n with
  | none => rw [hd] at e; cases e
  | some d =>
   rw [hd] at e
   cases r with
   | nil => cases e
   | cons c r' =>
    dsimp only at e ⊢
    by_cases hc : c.toNat = 61
    ·rw [if_pos hc] at e ⊢
     cases hf : f d.kind r' with
     | none => rw [hf] at e; cases e
     | some y =>
      rw [hf] at e
      simp only [Option.map_some, Option.some.injEq] at e
      subst e
      rw [h _ _ _ hf rfl]; rfl
    ·rw [if_neg hc] at e; cases e
theorem rdFlds_all {ts : List Ty} {f : List UInt8 → List UInt8 → Option (V × List UInt8)} {t : Ty} {p : V → Prop} (h : ∀ k s x, f k s = some x → ∀ n, p (.nd 61 [] n [x.1])) : ∀ (m : Nat) (last : Int) (s : List UInt8) (acc : List V) {x : List V × List UInt8}, rdFlds ts f t m last s acc = some x → (∀ v ∈ acc, p v) → ∀ v ∈ x.1, p v
 | 0, _, _, _, _, e, _ => by cases e
 | m + 1, last, s, acc, x, e, ha => by
  unfold rdFlds at e
  cases hf : rdField f t s with
  | none => rw [hf] at e; cases e
  | some y =>
   rw [hf] at e
   obtain ⟨_, s', hs'⟩ := rdField_inv hf
   have hy := h _ s' _ hs'
   obtain ⟨⟨d, v⟩, r⟩ := y
   dsimp only at e hy
   have ha' : ∀ u ∈ acc ++ [V.nd 61 [] d.tag [v]], p u := fun u hu => by
    rcases List.mem_append.1 hu with hu | hu
    ·exact ha u hu
    ·simp only [List.mem_singleton] at hu; subst hu; exact hy d.tag
   split at e
   ·cases e
   ·cases r with
    | nil => cases e
    | cons c r =>
     dsimp only at e
     split at e
     ·exact rdFlds_all h m _ r _ e ha'
     ·split at e
      ·simp only [Option.some.injEq] at e; subst e; exact ha'
      ·cases e
theorem rdFlds_loc {ts : List Ty} {f g : List UInt8 → List UInt8 → Option (V × List UInt8)} {t : Ty} : ∀ (m : Nat) (last : Int) (s : List UInt8) (acc : List V) {x : List V × List UInt8}, rdFlds ts f t m last s acc = some x → (∀ k s y, f k s = some y → (∃ n, V.nd 61 [] n [y.1] ∈ x.1) → g k s = some y) → rdFlds ts g t m last s acc = some x ∧ ∀ v ∈ acc, v ∈ x.1
 | 0, _, _, _, _, e, _ => by cases e
 | m + 1, last, s, acc, x, e, h => by
  unfold rdFlds at e ⊢
  cases hf : rdField f t s with
  | none => rw [hf] at e; cases e
  | some y =>
   rw [hf] at e
   obtain ⟨⟨d, v⟩, r⟩ := y
   dsimp only at e
   split at e
   ·cases e
   ·rename_i hd
    cases r with
    | nil => cases e
    | cons c r =>
     dsimp only at e
     split at e
     ·rename_i hc
      obtain ⟨h1, h2⟩ := rdFlds_loc m _ r _ e h
      have hg := rdField_loc (g := g) hf (fun k s y hy e2 => h k s y hy ⟨d.tag, by rw [e2]; exact h2 _ (by simp)⟩)
      rw [hg]
      dsimp only
      rw [if_neg hd, if_pos hc]
      exact ⟨h1, fun u hu => h2 u (List.mem_append_left _ hu)⟩
     ·rename_i hc
      split at e
      ·rename_i hc2
       simp only [Option.some.injEq] at e; subst e
       have hg := rdField_loc (g := g) hf (fun k s y hy e2 => h k s y hy ⟨d.tag, by rw [e2]; simp⟩)
       rw [hg]
       dsimp only
       rw [if_neg hd, if_neg hc, if_pos hc2]
       exact ⟨rfl, fun u hu => List.mem_append_left _ hu⟩
      ·cases e
theorem rdK_loc {ts : List Ty} {f g : List UInt8 → List UInt8 → Option (V × List UInt8)} : ∀ (k s : List UInt8) {x : V × List UInt8}, rdK ts f k s = some x → ∃ w tx tg ks, x.1 = .nd w tx tg ks ∧ ¬ w = 61 ∧ ((∀ k s y, f k s = some y → V.deep y.1 ≤ V.deeps ks → g k s = some y) → rdK ts g k s = some x) ∧ ∀ n, (∀ k s y, f k s = some y → V.deep y.1 ≤ n) → V.deeps ks ≤ n
 | [], _, _, e => by cases e
 | c :: k, s, x, e => by
  unfold rdK at e ⊢
  dsimp only at e ⊢
  have leaf : ∀ {w : Nat} {tx : List UInt8} {tg : Int} {q : Prop}, x.1 = .nd w tx tg [] → ¬ w = 61 → q → ∃ w tx tg ks, x.1 = .nd w tx tg ks ∧ ¬ w = 61 ∧ ((∀ k s y, f k s = some y → V.deep y.1 ≤ V.deeps ks → g k s = some y) → q) ∧ ∀ n, (∀ k s y, f k s = some y → V.deep y.1 ≤ n) → V.deeps ks ≤ n :=
   fun h1 h2 h3 => ⟨_, _, _, [], h1, h2, fun _ => h3, fun n _ => by rw [V.deeps]; exact Nat.zero_le n⟩
  by_cases h91 : c.toNat = 91
  ·simp only [if_pos h91] at e ⊢
   cases s with
   | nil => cases e
   | cons d s' =>
    dsimp only at e ⊢
    by_cases hd : d.toNat = 91
    ·simp only [if_pos hd] at e ⊢
     cases s' with
     | nil => cases e
     | cons e' r =>
      dsimp only at e ⊢
      by_cases he : e'.toNat = 93
      ·simp only [if_pos he] at e ⊢
       have e2 := e
       simp only [Option.some.injEq] at e2; subst e2
       exact leaf rfl (by decide) rfl
      ·simp only [if_neg he] at e ⊢
       cases hf : rdItems (f k) 20 (e' :: r) [] with
       | none => rw [hf] at e; cases e
       | some y =>
        rw [hf] at e
        simp only [Option.map_some, Option.some.injEq] at e; subst e
        refine ⟨91, [], 0, y.1, rfl, by decide, fun h => ?_, fun n h => ?_⟩
        ·rw [(rdItems_loc (g := g k) _ _ _ hf fun s u hu hm => h k s u hu (V.deep_mem hm)).1]; rfl
        ·exact V.deeps_le fun v hv => rdItems_all (p := fun v => V.deep v ≤ n) (fun s u hu => h k s u hu) _ _ _ hf (by simp) v hv
    ·simp only [if_neg hd] at e; cases e
  ·simp only [if_neg h91] at e ⊢
   by_cases h63 : c.toNat = 63
   ·simp only [if_pos h63] at e ⊢
    cases s with
    | nil => cases e
    | cons d s' =>
     dsimp only at e ⊢
     by_cases hd : d.toNat = 45
     ·simp only [if_pos hd] at e ⊢
      have e2 := e
      simp only [Option.some.injEq] at e2; subst e2
      exact leaf rfl (by decide) rfl
     ·simp only [if_neg hd] at e ⊢
      by_cases hd2 : d.toNat = 43
      ·simp only [if_pos hd2] at e ⊢
       cases hf : f k s' with
       | none => rw [hf] at e; cases e
       | some y =>
        rw [hf] at e
        simp only [Option.map_some, Option.some.injEq] at e; subst e
        refine ⟨63, [], 0, [y.1], rfl, by decide, fun h => ?_, fun n h => ?_⟩
        ·rw [h k s' y hf (V.deep_mem (by simp))]; rfl
        ·exact V.deeps_le fun v hv => by simp only [List.mem_singleton] at hv; subst hv; exact h k s' y hf
      ·simp only [if_neg hd2] at e; cases e
   ·simp only [if_neg h63] at e ⊢
    cases hr : refT ts (c :: k) with
    | none =>
     rw [hr] at e
     dsimp only at e ⊢
     by_cases h1 : c.toNat = 110
     ·simp only [if_pos h1] at e ⊢
      cases hn : rdNum 999999 s with
      | none => rw [hn] at e; cases e
      | some y =>
       rw [hn] at e
       have e2 := e
       simp only [Option.map_some, Option.some.injEq] at e2; subst e2
       exact leaf rfl (by decide) rfl
     ·simp only [if_neg h1] at e ⊢
      by_cases h2 : c.toNat = 116
      ·simp only [if_pos h2] at e ⊢
       refine leaf (w := 116) (tx := x.1.text) (tg := 0) ?_ (by decide) e
       unfold rdQuote at e
       split at e
       ·cases e
       ·split at e
        ·split at e
         ·split at e
          ·simp only [Option.some.injEq] at e; subst e; rfl
          ·cases e
         ·cases e
        ·cases e
      ·simp only [if_neg h2] at e ⊢
       by_cases h3 : c.toNat = 102
       ·simp only [if_pos h3] at e ⊢
        refine leaf (w := 102) (tx := x.1.text) (tg := 0) ?_ (by decide) e
        unfold rdFlag at e
        split at e
        ·simp only [Option.some.injEq] at e; subst e; rfl
        ·split at e
         ·simp only [Option.some.injEq] at e; subst e; rfl
         ·cases e
       ·simp only [if_neg h3] at e; cases e
    | some t =>
     rw [hr] at e
     dsimp only at e ⊢
     unfold rdTyped at e ⊢
     cases s with
     | nil => cases e
     | cons d s =>
      dsimp only at e ⊢
      by_cases h82 : t.sort = 82
      ·simp only [if_pos h82] at e ⊢
       by_cases hd : d.toNat = 123
       ·simp only [if_pos hd] at e ⊢
        cases s with
        | nil => cases e
        | cons d' r =>
         dsimp only at e ⊢
         by_cases hd' : d'.toNat = 125
         ·simp only [if_pos hd'] at e ⊢
          have e2 := e
          simp only [Option.some.injEq] at e2; subst e2
          exact leaf rfl (by decide) rfl
         ·simp only [if_neg hd'] at e ⊢
          cases hf : rdFlds ts f t ((d' :: r).length + 1) 0 (d' :: r) [] with
          | none => rw [hf] at e; cases e
          | some y =>
           rw [hf] at e
           simp only [Option.map_some, Option.some.injEq] at e; subst e
           refine ⟨82, [], 0, y.1, rfl, by decide, fun h => ?_, fun n h => ?_⟩
           ·rw [(rdFlds_loc (g := g) _ _ _ _ hf fun k s u hu hm => h k s u hu (by obtain ⟨n, hm⟩ := hm; have := V.deep_mem hm; rwa [deep_fld] at this)).1]; rfl
           ·exact V.deeps_le fun v hv => rdFlds_all (p := fun v => V.deep v ≤ n) (fun k s u hu m => by rw [deep_fld]; exact h k s u hu) _ _ _ _ hf (by simp) v hv
       ·simp only [if_neg hd] at e; cases e
      ·simp only [if_neg h82] at e ⊢
       by_cases h69 : t.sort = 69
       ·simp only [if_pos h69] at e ⊢
        refine leaf (w := 69) (tx := []) (tg := x.1.tag) ?_ (by decide) e
        split at e
        ·split at e
         ·cases e
         ·split at e
          ·simp only [Option.some.injEq] at e; subst e; rfl
          ·cases e
        ·cases e
       ·simp only [if_neg h69] at e ⊢
        by_cases hd : d.toNat = 60
        ·simp only [if_pos hd] at e ⊢
         cases hf : rdField f t s with
         | none => rw [hf] at e; cases e
         | some y =>
          rw [hf] at e
          obtain ⟨⟨fd, v⟩, r⟩ := y
          cases r with
          | nil => cases e
          | cons c' r =>
           dsimp only at e
           by_cases hc' : c'.toNat = 62
           ·simp only [if_pos hc', Option.some.injEq] at e; subst e
            refine ⟨85, [], fd.tag, [v], rfl, by decide, fun h => ?_, fun n h => ?_⟩
            ·rw [rdField_loc (g := g) hf fun k s u hu e2 => h k s u hu (by rw [e2]; exact V.deep_mem (by simp))]
             dsimp only
             rw [if_pos hc']
            ·obtain ⟨_, s', hs'⟩ := rdField_inv hf
             exact V.deeps_le fun u hu => by simp only [List.mem_singleton] at hu; subst hu; exact h _ _ _ hs'
           ·simp only [if_neg hc'] at e; cases e
        ·simp only [if_neg hd] at e; cases e
theorem rd_deep_le {ts : List Ty} : ∀ (n : Nat) (k s : List UInt8) (x : V × List UInt8), rd ts n k s = some x → V.deep x.1 ≤ n
 | 0, _, _, _, e => by cases e
 | n + 1, k, s, x, e => by
  obtain ⟨w, tx, tg, ks, h1, h2, _, h4⟩ := rdK_loc (g := rd ts n) k s e
  rw [h1, deep_nd h2]
  have := h4 n fun k s y hy => rd_deep_le n k s y hy
  omega
theorem rd_at {ts : List Ty} : ∀ (n m : Nat) (k s : List UInt8) (x : V × List UInt8), rd ts n k s = some x → V.deep x.1 ≤ m → rd ts m k s = some x
 | 0, _, _, _, _, e, _ => by cases e
 | n + 1, m, k, s, x, e, hm => by
  obtain ⟨w, tx, tg, ks, h1, h2, h3, _⟩ := rdK_loc (g := rd ts (m - 1)) k s e
  rw [h1, deep_nd h2] at hm
  obtain ⟨m, rfl⟩ : ∃ j, m = j + 1 := ⟨m - 1, by omega⟩
  exact h3 fun k s y hy hd => rd_at n m k s y hy (by omega)
theorem u8_eq {c : UInt8} {n : Nat} (h : c.toNat = n) (hn : n < 256) : c = UInt8.ofNat n := by
 apply UInt8.toNat_inj.1; rw [h, UInt8.toNat_ofNat']; omega
theorem rdNum_out {top : Int} {s r : List UInt8} {n : Int} (h : rdNum top s = some (n, r)) : s = decI n ++ r := by
 unfold rdNum at h
 cases hn : numOf (s.takeWhile isDg) top with
 | none => rw [hn] at h; cases h
 | some q =>
  rw [hn] at h
  simp only [Option.map_some, Option.some.injEq, Prod.mk.injEq] at h
  obtain ⟨rfl, rfl⟩ := h
  rw [← (numOf_le hn).2.1, List.takeWhile_append_dropWhile]
theorem rdItems_out {f : List UInt8 → Option (V × List UInt8)} (h : ∀ s y, f s = some y → s = y.1.out ++ y.2) : ∀ (m : Nat) (s : List UInt8) (acc : List V) {x : List V × List UInt8}, rdItems f m s acc = some x → ∃ vs, vs ≠ [] ∧ x.1 = acc ++ vs ∧ s = joinB 44 (vs.map V.out) ++ 93 :: x.2
 | 0, _, _, _, e => by cases e
 | m + 1, s, acc, x, e => by
  unfold rdItems at e
  cases hf : f s with
  | none => rw [hf] at e; cases e
  | some y =>
   rw [hf] at e
   have hy := h s y hf
   obtain ⟨v, r⟩ := y
   cases r with
   | nil => cases e
   | cons c r =>
    dsimp only at e hy
    split at e
    ·rename_i hc
     obtain ⟨vs, h1, h2, h3⟩ := rdItems_out h m r _ e
     have hc2 := u8_eq hc (by decide)
     refine ⟨v :: vs, by simp, by rw [h2]; simp, ?_⟩
     rw [hy, h3, List.map_cons, joinB_cons _ _ (by simpa using h1), hc2]
     simp
    ·split at e
     ·rename_i hc2
      have hc3 := u8_eq hc2 (by decide)
      simp only [Option.some.injEq] at e; subst e
      exact ⟨[v], by simp, rfl, by rw [hy, hc3]; rfl⟩
     ·cases e
theorem out_fld {t : Int} {v : V} : V.out (.nd 61 [] t [v]) = decI t ++ 61 :: v.out := by
 rw [V.out, V.outs, V.outs]; simp [outW, joinB]
theorem rdField_out {f : List UInt8 → List UInt8 → Option (V × List UInt8)} (h : ∀ k s y, f k s = some y → s = y.1.out ++ y.2) {t : Ty} {s : List UInt8} {x : (Fld × V) × List UInt8} (e : rdField f t s = some x) : s = decI x.1.1.tag ++ 61 :: (x.1.2.out ++ x.2) := by
 unfold rdField at e
 cases hn : rdNum 200 s with
 | none => rw [hn] at e; cases e
 | some y =>
  rw [hn] at e
  obtain ⟨n, r⟩ := y
  have h1 := rdNum_out hn
  dsimp only at e
  cases hd : fldT t.fields n with
  | none => rw [hd] at e; cases e
  | some d =>
   rw [hd] at e
   have h2 : d.tag = n := by have := List.find?_some hd; simpa using this
   cases r with
   | nil => cases e
   | cons c r' =>
    dsimp only at e
    by_cases hc : c.toNat = 61
    ·rw [if_pos hc] at e
     cases hf : f d.kind r' with
     | none => rw [hf] at e; cases e
     | some y =>
      rw [hf] at e
      simp only [Option.map_some, Option.some.injEq] at e
      subst e
      have h3 := h _ _ _ hf
      dsimp only
      rw [h1, h2, h3, u8_eq hc (by decide)]; rfl
    ·rw [if_neg hc] at e; cases e
theorem rdFlds_out {ts : List Ty} {f : List UInt8 → List UInt8 → Option (V × List UInt8)} (h : ∀ k s y, f k s = some y → s = y.1.out ++ y.2) {t : Ty} : ∀ (m : Nat) (last : Int) (s : List UInt8) (acc : List V) {x : List V × List UInt8}, rdFlds ts f t m last s acc = some x → ∃ vs, vs ≠ [] ∧ x.1 = acc ++ vs ∧ s = joinB 44 (vs.map V.out) ++ 125 :: x.2
 | 0, _, _, _, _, e => by cases e
 | m + 1, last, s, acc, x, e => by
  unfold rdFlds at e
  cases hf : rdField f t s with
  | none => rw [hf] at e; cases e
  | some y =>
   rw [hf] at e
   have hy := rdField_out h hf
   obtain ⟨⟨d, v⟩, r⟩ := y
   dsimp only at e hy
   split at e
   ·cases e
   ·cases r with
    | nil => cases e
    | cons c r =>
     dsimp only at e
     split at e
     ·rename_i hc
      obtain ⟨vs, h1, h2, h3⟩ := rdFlds_out h m _ r _ e
      have hc2 := u8_eq hc (by decide)
      refine ⟨V.nd 61 [] d.tag [v] :: vs, by simp, by rw [h2]; simp, ?_⟩
      rw [hy, h3, List.map_cons, joinB_cons _ _ (by simpa using h1), hc2, out_fld]
      simp
     ·split at e
      ·rename_i hc2
       have hc3 := u8_eq hc2 (by decide)
       simp only [Option.some.injEq] at e; subst e
       exact ⟨[V.nd 61 [] d.tag [v]], by simp, rfl, by rw [hy, hc3]; simp [joinB, out_fld]⟩
      ·cases e
theorem cut1_join {k : Nat} {c : UInt8} (hc : c.toNat = k) : ∀ {s x r : List UInt8}, cut1 k s = (x, r, true) → s = x ++ c :: r
 | [], _, _, h => by cases h
 | d :: s, x, r, h => by
  unfold cut1 at h
  split at h
  ·rename_i hd
   simp only [Prod.mk.injEq, and_true] at h
   obtain ⟨rfl, rfl⟩ := h
   have : d = c := UInt8.toNat_inj.1 (by rw [hd, hc])
   rw [this]; rfl
  ·simp only [Prod.mk.injEq] at h
   obtain ⟨h1, h2, h3⟩ := h
   have ih := cut1_join hc (s := s) (x := (cut1 k s).1) (r := (cut1 k s).2.1) (by rw [← h3])
   rw [← h1, ← h2, List.cons_append, ← ih]
theorem pre_out {p s : List UInt8} (h : p.isPrefixOf s = true) : s = p ++ s.drop p.length := by
 rw [List.isPrefixOf_iff_prefix] at h
 obtain ⟨t, rfl⟩ := h
 simp
theorem rdQuote_out {s : List UInt8} {x : V × List UInt8} (e : rdQuote s = some x) : s = x.1.out ++ x.2 := by
 unfold rdQuote at e
 cases s with
 | nil => cases e
 | cons c s =>
  dsimp only at e
  by_cases hc : c.toNat = 39
  ·rw [if_pos hc] at e
   rcases hq : cut1 39 s with ⟨y, r, b⟩
   rw [hq] at e
   cases b with
   | false => cases e
   | true =>
    dsimp only at e
    split at e
    ·simp only [Option.some.injEq] at e; subst e
     have h1 := cut1_join (c := 39) rfl hq
     rw [h1, u8_eq hc (by decide)]
     simp [V.out, outW]
    ·cases e
  ·rw [if_neg hc] at e; cases e
theorem rdFlag_out {s : List UInt8} {x : V × List UInt8} (e : rdFlag s = some x) : s = x.1.out ++ x.2 := by
 unfold rdFlag at e
 split at e
 ·rename_i h
  simp only [Option.some.injEq] at e; subst e
  have := pre_out h
  simpa [V.out, outW] using this
 ·split at e
  ·rename_i h
   simp only [Option.some.injEq] at e; subst e
   have := pre_out h
   simpa [V.out, outW] using this
  ·cases e
theorem out_list {ks : List V} {r : List UInt8} : V.out (.nd 91 [] 0 ks) ++ r = 91 :: (joinB 44 (ks.map V.out) ++ 93 :: r) := by
 rw [V.out, V.outs_map]; simp [outW]
theorem out_rec {ks : List V} {r : List UInt8} : V.out (.nd 82 [] 0 ks) ++ r = 123 :: (joinB 44 (ks.map V.out) ++ 125 :: r) := by
 rw [V.out, V.outs_map]; simp [outW]
theorem out_opt {v : V} {r : List UInt8} : V.out (.nd 63 [] 0 [v]) ++ r = 43 :: (v.out ++ r) := by
 rw [V.out, V.outs_map]; simp [outW, joinB]
theorem out_uni {v : V} {n : Int} {r : List UInt8} : V.out (.nd 85 [] n [v]) ++ r = 60 :: (decI n ++ 61 :: (v.out ++ 62 :: r)) := by
 rw [V.out, V.outs_map]; simp [outW, joinB]
theorem rdK_out {ts : List Ty} {f : List UInt8 → List UInt8 → Option (V × List UInt8)} (h : ∀ k s y, f k s = some y → s = y.1.out ++ y.2) : ∀ (k s : List UInt8) {x : V × List UInt8}, rdK ts f k s = some x → s = x.1.out ++ x.2
 | [], _, _, e => by cases e
 | c :: k, s, x, e => by
  unfold rdK at e
  dsimp only at e
  by_cases h91 : c.toNat = 91
  ·simp only [if_pos h91] at e
   cases s with
   | nil => cases e
   | cons d s' =>
    dsimp only at e
    by_cases hd : d.toNat = 91
    ·simp only [if_pos hd] at e
     cases s' with
     | nil => cases e
     | cons e' r =>
      dsimp only at e
      by_cases he : e'.toNat = 93
      ·simp only [if_pos he, Option.some.injEq] at e; subst e
       rw [out_list, u8_eq hd (by decide), u8_eq he (by decide)]; rfl
      ·simp only [if_neg he] at e
       cases hf : rdItems (f k) 20 (e' :: r) [] with
       | none => rw [hf] at e; cases e
       | some y =>
        rw [hf] at e
        simp only [Option.map_some, Option.some.injEq] at e; subst e
        obtain ⟨vs, _, h2, h3⟩ := rdItems_out (h k) _ _ _ hf
        rw [out_list, h2, h3, u8_eq hd (by decide)]; rfl
    ·simp only [if_neg hd] at e; cases e
  ·simp only [if_neg h91] at e
   by_cases h63 : c.toNat = 63
   ·simp only [if_pos h63] at e
    cases s with
    | nil => cases e
    | cons d s' =>
     dsimp only at e
     by_cases hd : d.toNat = 45
     ·simp only [if_pos hd, Option.some.injEq] at e; subst e
      rw [u8_eq hd (by decide)]; simp [V.out, outW]
     ·simp only [if_neg hd] at e
      by_cases hd2 : d.toNat = 43
      ·simp only [if_pos hd2] at e
       cases hf : f k s' with
       | none => rw [hf] at e; cases e
       | some y =>
        rw [hf] at e
        simp only [Option.map_some, Option.some.injEq] at e; subst e
        rw [out_opt, ← h k s' y hf, u8_eq hd2 (by decide)]; rfl
      ·simp only [if_neg hd2] at e; cases e
   ·simp only [if_neg h63] at e
    cases hr : refT ts (c :: k) with
    | none =>
     rw [hr] at e
     dsimp only at e
     by_cases h1 : c.toNat = 110
     ·simp only [if_pos h1] at e
      cases hn : rdNum 999999 s with
      | none => rw [hn] at e; cases e
      | some y =>
       rw [hn] at e
       simp only [Option.map_some, Option.some.injEq] at e; subst e
       rw [rdNum_out hn]; simp [V.out, outW]
     ·simp only [if_neg h1] at e
      by_cases h2 : c.toNat = 116
      ·simp only [if_pos h2] at e; exact rdQuote_out e
      ·simp only [if_neg h2] at e
       by_cases h3 : c.toNat = 102
       ·simp only [if_pos h3] at e; exact rdFlag_out e
       ·simp only [if_neg h3] at e; cases e
    | some t =>
     rw [hr] at e
     dsimp only at e
     unfold rdTyped at e
     cases s with
     | nil => cases e
     | cons d s =>
      dsimp only at e
      by_cases h82 : t.sort = 82
      ·simp only [if_pos h82] at e
       by_cases hd : d.toNat = 123
       ·simp only [if_pos hd] at e
        cases s with
        | nil => cases e
        | cons d' r =>
         dsimp only at e
         by_cases hd' : d'.toNat = 125
         ·simp only [if_pos hd', Option.some.injEq] at e; subst e
          rw [out_rec, u8_eq hd (by decide), u8_eq hd' (by decide)]; rfl
         ·simp only [if_neg hd'] at e
          cases hf : rdFlds ts f t ((d' :: r).length + 1) 0 (d' :: r) [] with
          | none => rw [hf] at e; cases e
          | some y =>
           rw [hf] at e
           simp only [Option.map_some, Option.some.injEq] at e; subst e
           obtain ⟨vs, _, h2, h3⟩ := rdFlds_out h _ _ _ _ hf
           rw [out_rec, h2, h3, u8_eq hd (by decide)]; rfl
       ·simp only [if_neg hd] at e; cases e
      ·simp only [if_neg h82] at e
       by_cases h69 : t.sort = 69
       ·simp only [if_pos h69] at e
        by_cases hd : d.toNat = 35
        ·simp only [if_pos hd] at e
         cases hn : rdNum 200 s with
         | none => rw [hn] at e; cases e
         | some y =>
          rw [hn] at e
          obtain ⟨n, r⟩ := y
          dsimp only at e
          split at e
          ·simp only [Option.some.injEq] at e; subst e
           rw [rdNum_out hn, u8_eq hd (by decide)]; simp [V.out, outW]
          ·cases e
        ·simp only [if_neg hd] at e; cases e
       ·simp only [if_neg h69] at e
        by_cases hd : d.toNat = 60
        ·simp only [if_pos hd] at e
         cases hf : rdField f t s with
         | none => rw [hf] at e; cases e
         | some y =>
          rw [hf] at e
          have h3 := rdField_out h hf
          obtain ⟨⟨fd, v⟩, r⟩ := y
          cases r with
          | nil => cases e
          | cons c' r =>
           dsimp only at e h3
           by_cases hc' : c'.toNat = 62
           ·simp only [if_pos hc', Option.some.injEq] at e; subst e
            rw [out_uni, h3, u8_eq hd (by decide), u8_eq hc' (by decide)]; rfl
           ·simp only [if_neg hc'] at e; cases e
        ·simp only [if_neg hd] at e; cases e
theorem rd_out {ts : List Ty} : ∀ (n : Nat) (k s : List UInt8) (x : V × List UInt8), rd ts n k s = some x → s = x.1.out ++ x.2
 | 0, _, _, _, e => by cases e
 | n + 1, k, s, x, e => rdK_out (fun k s y hy => rd_out n k s y hy) k s e
theorem valOf_out {ts : List Ty} {k s : List UInt8} {v : V} (h : valOf ts k s = some v) : v.out = s ∧ s.length ≤ 400 ∧ V.deep v ≤ 12 := by
 unfold valOf at h
 split at h
 ·rename_i hl
  split at h
  ·rename_i w hw
   simp only [Option.some.injEq] at h; subst h
   have h1 := rd_out _ _ _ _ hw
   have h2 := rd_deep_le _ _ _ _ hw
   simp only [List.append_nil] at h1
   exact ⟨h1.symm, hl, h2⟩
  ·cases h
 ·cases h
inductive RdK (ts : List Ty) (f : List UInt8 → List UInt8 → Option (V × List UInt8)) : List UInt8 → List UInt8 → V → List UInt8 → Prop
 | lst0 (k r : List UInt8) : RdK ts f (91 :: k) (91 :: 93 :: r) (.nd 91 [] 0 []) r
 | lst (k s r : List UInt8) (vs : List V) : rdItems (f k) 20 s [] = some (vs, r) → RdK ts f (91 :: k) (91 :: s) (.nd 91 [] 0 vs) r
 | non (k r : List UInt8) : RdK ts f (63 :: k) (45 :: r) (.nd 63 [] 0 []) r
 | opt (k s r : List UInt8) (v : V) : f k s = some (v, r) → RdK ts f (63 :: k) (43 :: s) (.nd 63 [] 0 [v]) r
 | num (k s r : List UInt8) (n : Int) : refT ts (110 :: k) = none → rdNum 999999 s = some (n, r) → RdK ts f (110 :: k) s (.nd 110 (decI n) 0 []) r
 | txt (k s r : List UInt8) (v : V) : refT ts (116 :: k) = none → rdQuote s = some (v, r) → RdK ts f (116 :: k) s v r
 | flg (k s r : List UInt8) (v : V) : refT ts (102 :: k) = none → rdFlag s = some (v, r) → RdK ts f (102 :: k) s v r
 | recd0 (k r : List UInt8) (t : Ty) : refT ts k = some t → t.sort = 82 → RdK ts f k (123 :: 125 :: r) (.nd 82 [] 0 []) r
 | recd (k s r : List UInt8) (t : Ty) (vs : List V) : refT ts k = some t → t.sort = 82 → rdFlds ts f t (s.length + 1) 0 s [] = some (vs, r) → RdK ts f k (123 :: s) (.nd 82 [] 0 vs) r
 | enm (k s r : List UInt8) (t : Ty) (n : Int) : refT ts k = some t → t.sort = 69 → rdNum 200 s = some (n, r) → (fldT t.fields n).isSome = true → RdK ts f k (35 :: s) (.nd 69 [] n []) r
 | uni (k s r : List UInt8) (t : Ty) (d : Fld) (v : V) : refT ts k = some t → t.sort ≠ 82 → t.sort ≠ 69 → rdField f t s = some ((d, v), 62 :: r) → RdK ts f k (60 :: s) (.nd 85 [] d.tag [v]) r
theorem rdK_inv {ts : List Ty} {f : List UInt8 → List UInt8 → Option (V × List UInt8)} : ∀ (k s : List UInt8) {x : V × List UInt8}, rdK ts f k s = some x → RdK ts f k s x.1 x.2
 | [], _, _, e => by cases e
 | c :: k, s, x, e => by
  unfold rdK at e
  dsimp only at e
  by_cases h91 : c.toNat = 91
  ·simp only [if_pos h91] at e
   obtain rfl := u8_eq h91 (by decide)
   cases s with
   | nil => cases e
   | cons d s' =>
    dsimp only at e
    by_cases hd : d.toNat = 91
    ·simp only [if_pos hd] at e
     obtain rfl := u8_eq hd (by decide)
     cases s' with
     | nil => cases e
     | cons e' r =>
      dsimp only at e
      by_cases he : e'.toNat = 93
      ·simp only [if_pos he, Option.some.injEq] at e; subst e
       obtain rfl := u8_eq he (by decide)
       exact .lst0 _ _
      ·simp only [if_neg he] at e
       cases hf : rdItems (f k) 20 (e' :: r) [] with
       | none => rw [hf] at e; cases e
       | some y =>
        rw [hf] at e
        simp only [Option.map_some, Option.some.injEq] at e; subst e
        exact .lst _ _ _ _ hf
    ·simp only [if_neg hd] at e; cases e
  ·simp only [if_neg h91] at e
   by_cases h63 : c.toNat = 63
   ·simp only [if_pos h63] at e
    obtain rfl := u8_eq h63 (by decide)
    cases s with
    | nil => cases e
    | cons d s' =>
     dsimp only at e
     by_cases hd : d.toNat = 45
     ·simp only [if_pos hd, Option.some.injEq] at e; subst e
      obtain rfl := u8_eq hd (by decide)
      exact .non _ _
     ·simp only [if_neg hd] at e
      by_cases hd2 : d.toNat = 43
      ·simp only [if_pos hd2] at e
       obtain rfl := u8_eq hd2 (by decide)
       cases hf : f k s' with
       | none => rw [hf] at e; cases e
       | some y =>
        rw [hf] at e
        simp only [Option.map_some, Option.some.injEq] at e; subst e
        exact .opt _ _ _ _ hf
      ·simp only [if_neg hd2] at e; cases e
   ·simp only [if_neg h63] at e
    cases hr : refT ts (c :: k) with
    | none =>
     rw [hr] at e
     dsimp only at e
     by_cases h1 : c.toNat = 110
     ·simp only [if_pos h1] at e
      obtain rfl := u8_eq h1 (by decide)
      cases hn : rdNum 999999 s with
      | none => rw [hn] at e; cases e
      | some y =>
       rw [hn] at e
       simp only [Option.map_some, Option.some.injEq] at e; subst e
       exact .num _ _ _ _ hr hn
     ·simp only [if_neg h1] at e
      by_cases h2 : c.toNat = 116
      ·simp only [if_pos h2] at e
       obtain rfl := u8_eq h2 (by decide)
       exact .txt _ _ _ _ hr e
      ·simp only [if_neg h2] at e
       by_cases h3 : c.toNat = 102
       ·simp only [if_pos h3] at e
        obtain rfl := u8_eq h3 (by decide)
        exact .flg _ _ _ _ hr e
       ·simp only [if_neg h3] at e; cases e
    | some t =>
     rw [hr] at e
     dsimp only at e
     unfold rdTyped at e
     cases s with
     | nil => cases e
     | cons d s =>
      dsimp only at e
      by_cases h82 : t.sort = 82
      ·simp only [if_pos h82] at e
       by_cases hd : d.toNat = 123
       ·simp only [if_pos hd] at e
        obtain rfl := u8_eq hd (by decide)
        cases s with
        | nil => cases e
        | cons d' r =>
         dsimp only at e
         by_cases hd' : d'.toNat = 125
         ·simp only [if_pos hd', Option.some.injEq] at e; subst e
          obtain rfl := u8_eq hd' (by decide)
          exact .recd0 _ _ t hr h82
         ·simp only [if_neg hd'] at e
          cases hf : rdFlds ts f t ((d' :: r).length + 1) 0 (d' :: r) [] with
          | none => rw [hf] at e; cases e
          | some y =>
           rw [hf] at e
           simp only [Option.map_some, Option.some.injEq] at e; subst e
           exact .recd _ _ _ t _ hr h82 hf
       ·simp only [if_neg hd] at e; cases e
      ·simp only [if_neg h82] at e
       by_cases h69 : t.sort = 69
       ·simp only [if_pos h69] at e
        by_cases hd : d.toNat = 35
        ·simp only [if_pos hd] at e
         obtain rfl := u8_eq hd (by decide)
         cases hn : rdNum 200 s with
         | none => rw [hn] at e; cases e
         | some y =>
          rw [hn] at e
          obtain ⟨n, r⟩ := y
          dsimp only at e
          split at e
          ·rename_i hs
           simp only [Option.some.injEq] at e; subst e
           exact .enm _ _ _ t _ hr h69 hn hs
          ·cases e
        ·simp only [if_neg hd] at e; cases e
       ·simp only [if_neg h69] at e
        by_cases hd : d.toNat = 60
        ·simp only [if_pos hd] at e
         obtain rfl := u8_eq hd (by decide)
         cases hf : rdField f t s with
         | none => rw [hf] at e; cases e
         | some y =>
          rw [hf] at e
          obtain ⟨⟨fd, v⟩, r⟩ := y
          cases r with
          | nil => cases e
          | cons c' r =>
           dsimp only at e
           by_cases hc' : c'.toNat = 62
           ·simp only [if_pos hc', Option.some.injEq] at e; subst e
            obtain rfl := u8_eq hc' (by decide)
            exact .uni _ _ _ t _ _ hr h82 h69 hf
           ·simp only [if_neg hc'] at e; cases e
        ·simp only [if_neg hd] at e; cases e
mutual
def V.tot : V → Nat
 | .nd _ x _ ks => 20 + x.length + V.tots ks
def V.tots : List V → Nat
 | [] => 0
 | v :: r => V.tot v + V.tots r
end
theorem tots_app : ∀ (a b : List V), V.tots (a ++ b) = V.tots a + V.tots b
 | [], b => by simp [V.tots]
 | v :: a, b => by simp only [List.cons_append, V.tots, tots_app a b]; omega
theorem tot_pos (v : V) : 20 ≤ v.tot := by obtain ⟨w, x, t, ks⟩ := v; rw [V.tot]; omega
theorem tots_mem : ∀ {ks : List V} {v : V}, v ∈ ks → V.tot v ≤ V.tots ks
 | u :: ks, v, h => by
  rw [V.tots]
  rcases List.mem_cons.1 h with rfl | h
  ·omega
  ·have := tots_mem h; omega
theorem tots_len : ∀ (ks : List V), 20 * ks.length ≤ V.tots ks
 | [] => by simp [V.tots]
 | u :: ks => by rw [V.tots, List.length_cons]; have := tots_len ks; have := tot_pos u; omega
theorem decI_pos (n : Int) : 1 ≤ (decI n).length := by
 by_cases h : n < 10
 ·by_cases h0 : 0 ≤ n
  ·rw [decI_lo h h0]; simp
  ·have : n.toNat = (0 : Int).toNat := by omega
   have e : decI n = decI 0 := by unfold decI; rw [this]
   rw [e, decI_lo (by decide) (by decide)]; simp
 ·rw [decI_hi h]; simp
theorem rdNum_tot {top : Int} {s r : List UInt8} {n : Int} (h : rdNum top s = some (n, r)) : (decI n).length + r.length = s.length ∧ 1 ≤ (decI n).length := by
 have := rdNum_out h
 exact ⟨by rw [this]; simp, decI_pos n⟩
theorem rdItems_tot {f : List UInt8 → Option (V × List UInt8)} (h : ∀ s y, f s = some y → y.1.tot + 100 * y.2.length ≤ 100 * s.length) : ∀ (m : Nat) (s : List UInt8) (acc : List V) {x : List V × List UInt8}, rdItems f m s acc = some x → V.tots x.1 + 100 * (x.2.length + 1) ≤ V.tots acc + 100 * s.length
 | 0, _, _, _, e => by cases e
 | m + 1, s, acc, x, e => by
  unfold rdItems at e
  cases hf : f s with
  | none => rw [hf] at e; cases e
  | some y =>
   rw [hf] at e
   have hy := h s y hf
   obtain ⟨v, r⟩ := y
   cases r with
   | nil => cases e
   | cons c r =>
    dsimp only at e hy
    have e2 : V.tots (acc ++ [v]) = V.tots acc + v.tot := by simp [tots_app, V.tots]
    rw [List.length_cons] at hy
    split at e
    ·have := rdItems_tot h m r _ e
     omega
    ·split at e
     ·simp only [Option.some.injEq] at e; subst e
      dsimp only; omega
     ·cases e
theorem rdField_tot {f : List UInt8 → List UInt8 → Option (V × List UInt8)} (h : ∀ k s y, f k s = some y → y.1.tot + 100 * y.2.length ≤ 100 * s.length) {t : Ty} {s : List UInt8} {x : (Fld × V) × List UInt8} (e : rdField f t s = some x) : x.1.2.tot + 100 * x.2.length + 200 ≤ 100 * s.length := by
 unfold rdField at e
 cases hn : rdNum 200 s with
 | none => rw [hn] at e; cases e
 | some y =>
  rw [hn] at e
  obtain ⟨n, r⟩ := y
  obtain ⟨h1, h2⟩ := rdNum_tot hn
  dsimp only at e
  cases hd : fldT t.fields n with
  | none => rw [hd] at e; cases e
  | some d =>
   rw [hd] at e
   cases r with
   | nil => cases e
   | cons c r' =>
    dsimp only at e
    rw [List.length_cons] at h1
    by_cases hc : c.toNat = 61
    ·rw [if_pos hc] at e
     cases hf : f d.kind r' with
     | none => rw [hf] at e; cases e
     | some y =>
      rw [hf] at e
      simp only [Option.map_some, Option.some.injEq] at e
      subst e
      have h3 := h _ _ _ hf
      dsimp only
      omega
    ·rw [if_neg hc] at e; cases e
theorem rdFlds_tot {ts : List Ty} {f : List UInt8 → List UInt8 → Option (V × List UInt8)} (h : ∀ k s y, f k s = some y → y.1.tot + 100 * y.2.length ≤ 100 * s.length) {t : Ty} : ∀ (m : Nat) (last : Int) (s : List UInt8) (acc : List V) {x : List V × List UInt8}, rdFlds ts f t m last s acc = some x → V.tots x.1 + 100 * (x.2.length + 1) ≤ V.tots acc + 100 * s.length
 | 0, _, _, _, _, e => by cases e
 | m + 1, last, s, acc, x, e => by
  unfold rdFlds at e
  cases hf : rdField f t s with
  | none => rw [hf] at e; cases e
  | some y =>
   rw [hf] at e
   have hy := rdField_tot h hf
   obtain ⟨⟨d, v⟩, r⟩ := y
   dsimp only at e hy
   split at e
   ·cases e
   ·cases r with
    | nil => cases e
    | cons c r =>
     dsimp only at e
     have e2 : V.tots (acc ++ [V.nd 61 [] d.tag [v]]) = V.tots acc + (20 + v.tot) := by simp [tots_app, V.tots, V.tot]
     rw [List.length_cons] at hy
     split at e
     ·have := rdFlds_tot h m _ r _ e
      omega
     ·split at e
      ·simp only [Option.some.injEq] at e; subst e
       dsimp only; omega
      ·cases e
theorem rd_tot {ts : List Ty} : ∀ (n : Nat) (k s : List UInt8) (x : V × List UInt8), rd ts n k s = some x → x.1.tot + 100 * x.2.length ≤ 100 * s.length
 | 0, _, _, _, e => by cases e
 | n + 1, k, s, x, e => by
  have ih : ∀ k s y, rd ts n k s = some y → y.1.tot + 100 * y.2.length ≤ 100 * s.length := fun k s y hy => rd_tot n k s y hy
  have h := rdK_inv k s (x := x) e
  obtain ⟨v, r⟩ := x
  dsimp only at h ⊢
  cases h with
  | lst0 => simp only [V.tot, V.tots, List.length_cons, List.length_nil]; omega
  | lst k s r vs h =>
   have := rdItems_tot (ih k) _ _ _ h
   simp only [V.tot, V.tots, List.length_cons, List.length_nil] at this ⊢; omega
  | non => simp only [V.tot, V.tots, List.length_cons, List.length_nil]; omega
  | opt k s r v h =>
   have := ih _ _ _ h
   simp only [V.tot, V.tots, List.length_cons, List.length_nil] at this ⊢; omega
  | num k s r n _ h =>
   have := rdNum_tot h
   simp only [V.tot, V.tots]; omega
  | txt k s r v _ h =>
   have e1 := rdQuote_out h
   have h2 : v.out.length = 2 + v.text.length ∧ v.tot = 20 + v.text.length := by
    unfold rdQuote at h
    split at h
    ·cases h
    ·split at h
     ·split at h
      ·split at h
       ·simp only [Option.some.injEq, Prod.mk.injEq] at h
        obtain ⟨rfl, _⟩ := h
        simp [V.out, outW, V.text, V.tot, V.tots]; omega
       ·cases h
      ·cases h
     ·cases h
   rw [e1]
   simp only [List.length_append]
   omega
  | flg k s r v _ h =>
   have e1 := rdFlag_out h
   have h2 : 2 ≤ v.out.length ∧ v.tot ≤ 23 := by
    unfold rdFlag at h
    split at h
    ·simp only [Option.some.injEq, Prod.mk.injEq] at h
     obtain ⟨rfl, _⟩ := h
     simp [V.out, outW, V.tot, V.tots]
    ·split at h
     ·simp only [Option.some.injEq, Prod.mk.injEq] at h
      obtain ⟨rfl, _⟩ := h
      simp [V.out, outW, V.tot, V.tots]
     ·cases h
   rw [e1]
   simp only [List.length_append]
   omega
  | recd0 => simp only [V.tot, V.tots, List.length_cons, List.length_nil]; omega
  | recd k s r t vs _ _ h =>
   have := rdFlds_tot ih _ _ _ _ h
   simp only [V.tot, V.tots, List.length_cons, List.length_nil] at this ⊢; omega
  | enm k s r t n _ _ h _ =>
   have := rdNum_tot h
   simp only [V.tot, V.tots, List.length_cons, List.length_nil]; omega
  | uni k s r t d v _ _ _ h =>
   have := rdField_tot ih h
   simp only [V.tot, V.tots, List.length_cons, List.length_nil] at this ⊢; omega
end Go.E
namespace Go.E
set_option maxRecDepth 20000
set_option maxHeartbeats 2000000
open Go.Proofs
variable {G : Gh}
abbrev tBld : TypeId := 120
abbrev tByt : TypeId := 5
theorem c_mnzT {n : Nat} {D : List Deferred} {E : Env} {B : Base} {L : List Own} {K : Act → World → Prop} {Q : Exit → Act → World → Prop} {ty : TypeId} {pos : String} {aft : Array Edge} {gd : Option (Nat × Bool)} {d : Nat} {fo x : Operand} {tys : Array TypeId} {m : Nat}
  (hf : ev E fo = some (.func (.func 182) #[] #[])) (hx : ev E x = some (I (m : Nat))) (hlt : Nat.blt d n = true) (hm : 0 < m ∧ m ≤ 1000000000)
  (k : ∀ b cap, m ≤ cap + 1 → Nx n D ((d, .slice (some ⟨b, 0, none⟩) m (cap + 1)) :: E) B G (.acc (.slice (some ⟨b, 0, none⟩) 0 (cap + 1)) tByt 1 0 [] :: L) K) : Nx n D E B G L (ow Tryz.prog ⟨some d, .call ⟨.value fo, [x].toArray, tys⟩, ty, pos, aft, gd⟩ Q K) :=
 c_mnz (ps := #[3]) hf hx hlt Tryz.func182 (by kernel_rfl) (by kernel_rfl) (by kernel_rfl) (by kernel_rfl) (TI.und (T := 22)) hm k
theorem c_ccF {b : Nat} {v : Value} : FnG Tryz.prog 122 [Pt b 0] G [.blk b (.cells (List.toArray [.pointer none, v]) tBld (0, 0))] (fun r L' => L' = [.blk b (.cells (List.toArray [Pt b 0, v]) tBld (0, 0))]) := by
 have hx : ∀ w, (callFunc 160 [Pt b 0].toArray).run Tryz.prog w = .ok (.value (Pt b 0)) w := fun w => by
  rw [run_callFunc_extern Tryz.func160 (by kernel_rfl) (by kernel_rfl) (by kernel_rfl) (e := Extern.AbiNoEscape.same) (by kernel_rfl)]
  rw [Lib.run_noEscape]; rfl
 refine jH [(0, _)] Tryz.func122 Tryz.ntmps122 fun B hB hW => ?_
 repeat' (first | (refine jR ?_) | (refine k_op rfl ?_; first | refine jV (g_ld rfl rfl rfl) ?_ | refine jV (g_peq0 rfl rfl) ?_ | refine jV (g_toU (by kernel_rfl) rfl rfl rfl) ?_) | (refine k_tt rfl rfl ?_))
 refine k_op rfl (v_op (g_extern rfl rfl rfl hx) rfl rfl ?_)
 repeat' (first | (refine jR ?_) | (refine k_op rfl ?_; first | refine jV (g_fromU (by kernel_rfl) rfl (by kernel_rfl)) ?_ | refine c_st1 rfl rfl rfl rfl ?_))
 exact k_re (vs := []) rfl trivial rfl sRr ⟨rfl, rfl⟩
theorem c_ccU {b : Nat} {v : Value} : FnG Tryz.prog 122 [Pt b 0] G [.blk b (.cells (List.toArray [Pt b 0, v]) tBld (0, 0))] (fun r L' => L' = [.blk b (.cells (List.toArray [Pt b 0, v]) tBld (0, 0))]) := by
 refine jH [(0, _)] Tryz.func122 Tryz.ntmps122 fun B hB hW => ?_
 repeat' (first | (refine jR ?_) | (refine k_op rfl ?_; first | refine jV (g_ld rfl rfl rfl) ?_ | refine jV (g_peq0 rfl rfl) ?_ | refine jV (g_pneS rfl rfl) ?_) | (refine k_ff rfl rfl ?_))
 exact k_re (vs := []) rfl trivial rfl sRr ⟨rfl, rfl⟩
theorem c_growB {b m : Nat} (hm : 0 < m ∧ m ≤ 1000000000) : FnG Tryz.prog 166 [Pt b 0, I (m : Nat)] G [.blk b (.cells (List.toArray [Pt b 0, nilS]) tBld (0, 0))] (fun r L' => ∃ b2 c2, L' = [.acc (.slice (some ⟨b2, 0, none⟩) 0 (c2 + 1)) tByt 1 0 [], .blk b (.cells (List.toArray [Pt b 0, .slice (some ⟨b2, 0, none⟩) 0 (c2 + 1)]) tBld (0, 0))]) := by
 refine jH [(0, _), (1, _)] Tryz.func166 Tryz.ntmps166 fun B hB hW => ?_
 repeat' (first | (refine jR ?_) | (refine k_op rfl ?_; first | refine jV (g_ld rfl rfl rfl) ?_ | refine jV (g_copy0 rfl rfl) ?_ | refine c_st1 rfl rfl rfl rfl ?_) | (refine k_any (s_any (id := 0) _ (fun _ h => h) mixed ?_); refine jT 9 [0, 1, 2, 6, 9, 10, 11] (bts 16 3655) ?_; (refine jG (bts 16 3663) 3 rfl (g_ld rfl rfl rfl) ?_); (refine jG (bts 16 3679) 4 rfl (g_cap rfl) ?_); refine jU 5 [5, 7] (bts 16 3839) ?_ ?_; (focus (repeat' (first | exact trivial | apply And.intro | omega))); (refine jG (bts 16 7935) 12 rfl (g_ld rfl rfl rfl) ?_); (refine jG (bts 16 16127) 13 rfl (g_lenL rfl) ?_); refine jA 8 rfl ?_; (refine c_mnzT rfl rfl rfl (by omega) (fun _ _ _ => ?_)); refine jS (bts 16 16383) ?_; (refine jG (bts 16 32767) 14 rfl (g_slTo rfl rfl (by omega)) ?_); refine jT 0 [15] (bts 16 65535) ?_; refine x_done (by kernel_rfl) (k_bk ?_)))
 exact k_re (vs := []) rfl trivial rfl (List.Sublist.refl _) ⟨rfl, _, _, rfl⟩
theorem c_GrowB {b m : Nat} (hm : 0 < m ∧ m ≤ 1000000000) : FnG Tryz.prog 131 [Pt b 0, I (m : Nat)] G [.blk b (.cells (List.toArray [.pointer none, nilS]) tBld (0, 0))] (fun r L' => ∃ b2 c2, L' = [.acc (.slice (some ⟨b2, 0, none⟩) 0 (c2 + 1)) tByt 1 0 [], .blk b (.cells (List.toArray [Pt b 0, .slice (some ⟨b2, 0, none⟩) 0 (c2 + 1)]) tBld (0, 0))]) := by
 refine jH [(0, _), (1, _)] Tryz.func131 Tryz.ntmps131 fun B hB hW => ?_
 repeat' (first | (refine jR ?_) | (refine k_op rfl ?_; first | (refine c_m1g rfl rfl rfl c_ccF rfl ?_; rintro _ _ rfl; dsimp only [zA, fA]) | (refine c_m1g rfl rfl rfl (c_growB (by omega)) rfl ?_; rintro _ _ ⟨b2, c2, hb2, rfl⟩; dsimp only [zA, fA])) | (refine k_tt rfl (dTt (by omega)) ?_) | (refine k_ff rfl rfl ?_) | (refine k_any (s_any (id := 3) _ (fun _ h => h) mixed ?_); refine jT 6 [0, 1, 2, 5, 6, 7, 11] (bts 13 2279) ?_; (refine jG (bts 13 2287) 3 rfl (g_ld rfl rfl rfl) ?_); (refine jG (bts 13 2303) 4 rfl (g_cap rfl) ?_); (refine jG (bts 13 2559) 8 rfl (g_ld rfl rfl rfl) ?_); (refine jG (bts 13 3071) 9 rfl (g_lenL rfl) ?_); refine jU 0 [10, 12] (bts 13 8191) ?_ ?_; (focus (repeat' (first | exact trivial | apply And.intro | omega))); refine x_done (by kernel_rfl) (k_bk ?_)))
 exact k_re (vs := []) rfl trivial rfl (List.Sublist.refl _) ⟨rfl, _, _, rfl⟩
theorem c_wstr {b b1 c1 m : Nat} {xs : List Value} {l : List UInt8} (hm : m + l.length ≤ 1000000000) : FnG Tryz.prog 82 [Pt b 0, S l] G [.blk b (.cells (List.toArray [Pt b 0, .slice (some ⟨b1, 0, none⟩) m (c1 + 1)]) tBld (0, 0)), .acc (.slice (some ⟨b1, 0, none⟩) m (c1 + 1)) tByt 1 m xs]
  (fun r L' => ∃ b2 c2, r = Tu [I l.length, .nilIface] ∧ L' = [.acc (.slice (some ⟨b2, 0, none⟩) (m + l.length) (c2 + 1)) tByt 1 (m + l.length) (xs ++ u8s l), .blk b (.cells (List.toArray [Pt b 0, .slice (some ⟨b2, 0, none⟩) (m + l.length) (c2 + 1)]) tBld (0, 0))]) := by
 refine jH [(0, _), (1, _)] Tryz.func82 Tryz.ntmps82 fun B hB hW => ?_
 repeat' (first | (refine jR ?_) | (refine k_op rfl ?_; first | refine jV (g_ld rfl rfl rfl) ?_ | (refine c_apS rfl rfl rfl (by omega) fun _ _ => ?_) | refine c_st1 rfl rfl rfl rfl ?_ | (refine c_m1g rfl rfl rfl c_ccU rfl ?_; rintro _ _ rfl; dsimp only [zA, fA])))
 exact k_rr (vs := [_, _]) rfl ⟨rfl, rfl, trivial⟩ rfl (List.Sublist.refl _) ⟨rfl, _, _, rfl, rfl⟩
theorem c_bstr {b b1 c1 m : Nat} {l : List UInt8} (hm : m ≤ 1000000000) : FnG Tryz.prog 84 [Pt b 0] G [.blk b (.cells (List.toArray [Pt b 0, .slice (some ⟨b1, 0, none⟩) m (c1 + 1)]) tBld (0, 0)), .acc (.slice (some ⟨b1, 0, none⟩) m (c1 + 1)) tByt 1 m (u8s l)]
  (fun r L' => r = S l ∧ L' = []) := by
 refine jH [(0, _)] Tryz.func84 Tryz.ntmps84 fun B hB hW => ?_
 repeat' (refine jR ?_)
 (refine k_any (s_any (id := 1) [.blk b (.cells (List.toArray [Pt b 0, .slice (some ⟨b1, 0, none⟩) m (c1 + 1)]) tBld (0, 0))] (by intro y hy; simp only [List.mem_cons, List.not_mem_nil, or_false] at hy ⊢; simp [hy]) mixed ?_); refine jU 6 [0, 1, 2, 5, 6, 7] (bts 12 231) ?_ ?_; (focus (repeat' (exact trivial))); (refine jG (bts 12 239) 3 rfl (g_ld rfl rfl rfl) ?_); (refine jG (bts 12 255) 4 rfl (g_sdat rfl rfl) ?_); (refine jG (bts 12 511) 8 rfl (g_ld rfl rfl rfl) ?_); (refine jG (bts 12 1023) 9 rfl (g_lenL rfl) ?_); refine jA 10 rfl ?_; (refine c_ustr (by kernel_rfl) rfl rfl rfl (by omega) ?_); refine jS (bts 12 2047) ?_; refine jT 0 [11] (bts 12 4095) ?_; refine x_done (by kernel_rfl) (k_bk ?_))
 repeat' (refine jR ?_)
 refine jZ (vs := [_]) rfl ⟨rfl, trivial⟩ rfl ⟨rfl, rfl, ?_⟩
 rfl
def lensT (xs : List (List UInt8)) : Nat := (xs.map List.length).sum
theorem lensT_snoc (xs : List (List UInt8)) (x : List UInt8) : lensT (xs ++ [x]) = lensT xs + x.length := by simp [lensT]
theorem lensT_take : ∀ (xs : List (List UInt8)) (i : Nat), lensT (xs.take i) ≤ lensT xs
 | [], i => by simp [lensT]
 | x :: xs, 0 => by simp [lensT]
 | x :: xs, i + 1 => by
  have := lensT_take xs i
  simp only [lensT, List.take_succ_cons, List.map_cons, List.sum_cons] at this ⊢; omega
theorem joinB_snoc (c : UInt8) (y : List UInt8) : ∀ (xs : List (List UInt8)), xs ≠ [] → joinB c (xs ++ [y]) = joinB c xs ++ c :: y
 | [], h => absurd rfl h
 | [x], _ => by simp [joinB]
 | x :: z :: r, _ => by
  have := joinB_snoc c y (z :: r) (by simp)
  simp only [List.cons_append, joinB] at this ⊢
  rw [this]; simp
theorem joinB_len (c : UInt8) : ∀ (xs : List (List UInt8)), (joinB c xs).length ≤ lensT xs + xs.length
 | [] => by simp [joinB]
 | [x] => by simp [joinB, lensT]
 | x :: z :: r => by
  have := joinB_len c (z :: r)
  simp only [joinB, lensT, List.map_cons, List.sum_cons, List.length_append, List.length_cons] at this ⊢; omega
theorem Nx.cast {n : Nat} {D : List Deferred} {E : Env} {B : Base} {L L' : List Own} {K : Act → World → Prop} (e : L = L') (h : Nx n D E B G L' K) : Nx n D E B G L K := by subst e; exact h
theorem SlV.cap {G : Gh} {p : Option Addr} {c sz m : Nat} {xs : List Value} (h : SlV G (.slice p m c) sz m xs) : m ≤ c := by
 obtain ⟨_, ⟨h1, h2⟩ | ⟨b, o, cap, e, h1, _⟩⟩ := h
 ·omega
 ·simp only [Value.slice.injEq, true_and] at e; omega
theorem Seg.tailS {G : Gh} {b o : Nat} {xs : List (List UInt8)} (h : Seg G b o (rows strF xs)) : Seg G b (o + 1) (rows strF (xs.drop 1)) := by
 cases xs with
 | nil => obtain ⟨cs, h1, _⟩ := h; exact ⟨cs, h1, fun i v hv => by simp [rows] at hv⟩
 | cons x r =>
  obtain ⟨cs, h1, h2⟩ := h
  refine ⟨cs, h1, fun i v hv => ?_⟩
  have := h2 (i + 1) v (by simpa [rows, strF] using hv)
  rw [show o + 1 + i = o + (i + 1) by omega]; exact this
theorem nth_drop1 (xs : List (List UInt8)) (i : Nat) : nth (xs.drop 1) i = nth xs (i + 1) := by
 cases xs with
 | nil => simp [nth]
 | cons x r => simp [nth, List.getD]
theorem lensT_nth {xs : List (List UInt8)} {i : Nat} (h : i < xs.length) : lensT (xs.take (i + 1)) = lensT (xs.take i) + (nth xs i).length := by
 rw [take_nth h, lensT_snoc]
theorem c_Join {v : Value} {xs : List (List UInt8)} {c : UInt8} (hs : SlV G v 1 xs.length (rows strF xs)) (hl : lensT xs + xs.length ≤ 100000000) : PuG Tryz.prog 93 [v, S [c]] G (· = S (joinB c xs)) := by
 by_cases h0 : xs = []
 ·subst h0
  refine jE [(0, _), (1, _)] Tryz.func93 Tryz.ntmps93 fun B hB => ?_
  repeat' (first | (refine jR ?_) | (refine k_op rfl ?_; (refine jV (g_lenV rfl (by assumption)) ?_)) | (refine k_tt rfl rfl ?_))
  refine jZ (vs := [_]) rfl ⟨rfl, trivial⟩ rfl ⟨rfl, rfl, ?_⟩
  rfl
 have hpos := List.length_pos_iff.2 h0
 obtain ⟨bv, ov, cv, rfl, hsv⟩ := hs.expl (by omega)
 by_cases h1 : xs.length = 1
 ·obtain ⟨x, rfl⟩ := List.length_eq_one_iff.1 h1
  refine jE [(0, _), (1, _)] Tryz.func93 Tryz.ntmps93 fun B hB => ?_
  repeat' (first | (refine jR ?_) | (refine k_op rfl ?_; first | refine jV (g_lenL rfl) ?_ | (refine jV (g_iaddrN rfl rfl (by omega)) ?_) | refine jV (g_ldS rfl rfl (by assumption) rfl rfl) ?_) | (refine k_tt rfl rfl ?_) | (refine k_ff rfl rfl ?_))
  refine jZ (vs := [_]) rfl ⟨rfl, trivial⟩ rfl ⟨rfl, rfl, ?_⟩
  rfl
 have hcap := hs.cap
 have hq : ¬ (9223372036854775807 / ((xs.length : Int) - 1) ≤ ((([c] : List UInt8).length : Nat) : Int)) := by
  have : (2 : Int) ≤ 9223372036854775807 / ((xs.length : Int) - 1) := Int.le_ediv_of_mul_le (by omega) (by omega)
  have e : ((([c] : List UInt8).length : Nat) : Int) = 1 := rfl
  omega
 have e1 : ((([c] : List UInt8).length : Nat) : Int) * ((xs.length : Int) - 1) = (xs.length : Int) - 1 := by
  have e : ((([c] : List UInt8).length : Nat) : Int) = 1 := rfl
  rw [e]; omega
 have p1 : ((([c] : List UInt8).length : Nat) : Int) * ((xs.length : Int) - 1) ≤ 9223372036854775807 := by rw [e1]; omega
 have p2 : -9223372036854775808 ≤ ((([c] : List UInt8).length : Nat) : Int) * ((xs.length : Int) - 1) := by rw [e1]; omega
 have p3 : 0 + ((([c] : List UInt8).length : Nat) : Int) * ((xs.length : Int) - 1) ≤ 9223372036854775807 := by rw [e1]; omega
 have p4 : -9223372036854775808 ≤ 0 + ((([c] : List UInt8).length : Nat) : Int) * ((xs.length : Int) - 1) := by rw [e1]; omega
 refine jE [(0, _), (1, _)] Tryz.func93 Tryz.ntmps93 fun B hB => ?_
 repeat' (first | refine jM ?_ | (refine k_op rfl ?_; (refine jV (g_lenL rfl) ?_)) | (refine k_tt rfl rfl ?_) | (refine k_ff rfl (by refine decide_eq_false ?_; first | assumption | omega) ?_))
 refine Nx.re (d := 5) (v' := I ((xs.length : Int) - 1 + (lensT (xs.take 0) : Nat))) rfl (congrArg (Value.int .i64) (by rw [e1]; simp [lensT])) ?_
 refine k_loop (ι := Nat) (fun i => i ≤ xs.length) (fun i => [(0, .slice (some ⟨bv, ov, none⟩) xs.length cv), (1, S [c]), (39, .slice (some ⟨bv, ov, none⟩) xs.length cv), (40, I xs.length), (41, I i), (5, I ((xs.length : Int) - 1 + (lensT (xs.take i) : Nat)))]) (fun _ => G) (fun i => []) (fun i => xs.length - i) 0 ?_ (by repeat' constructor) rfl sRr (fun i Hi => ?_)
 ·exact Nat.zero_le _
 have hb1 := lensT_take xs i
 by_cases hi : i < xs.length
 ·have hb2 := lensT_nth hi
  have hb3 := lensT_take xs (i + 1)
  repeat' (first | refine jM ?_ | (refine k_op rfl ?_; first | (refine jV (g_iaddrN rfl rfl (by omega)) ?_) | (refine jV (g_ldRS rfl rfl (by assumption) ?_) ?_; (focus ((omega); done)))) | (refine k_tt rfl (dTt (by omega)) ?_) | (refine k_ff rfl (dFf (by omega)) ?_))
  refine Nx.re (d := 5) (v' := I ((xs.length : Int) - 1 + (lensT (xs.take (i + 1)) : Nat))) rfl (congrArg (Value.int .i64) (by rw [hb2]; omega)) ?_
  exact k_rd (i + 1) (by omega) (by omega) (by repeat' constructor) rfl sRr
 have hin : i = xs.length := by omega
 subst hin
 rw [List.take_length] at *
 refine Nx.re (d := 5) (v' := I ((xs.length - 1 + lensT xs : Nat) : Int)) rfl (congrArg (Value.int .i64) (by omega)) ?_
 have hb0 : (nth xs 0).length ≤ lensT xs := by have := lensT_nth (i := 0) hpos; have := lensT_take xs (0 + 1); omega
 have hw0 : 0 + (nth xs 0).length ≤ 1000000000 := by omega
 have hsv1 := hsv.tailS
 have hdl : (xs.drop 1).length = xs.length - 1 := by rw [List.length_drop]
 have eJ0 : joinB c (xs.take (0 + 1)) = nth xs 0 := by rw [take_nth hpos]; rfl
 repeat' (first | (refine jR ?_) | (refine k_op rfl ?_; first | refine jV (g_lenL rfl) ?_ | (refine jV (g_iaddrN rfl rfl (by omega)) ?_) | (refine jV (g_ldRS rfl rfl (by assumption) ?_) ?_; (focus ((omega); done))) | refine c_al rfl rfl fun _ => ?_ | (refine jV (g_slF rfl rfl (by omega)) ?_) | (refine c_m1g rfl rfl rfl (c_GrowB (by omega)) rfl ?_; rintro _ _ ⟨b2, c2, rfl⟩; dsimp only [zA, fA]) | (refine c_m2g rfl rfl rfl (c_wstr (by (repeat (assumption)); done)) rfl ?_; rintro _ _ ⟨b3, c3, rfl, rfl⟩; dsimp only [zA, fA])) | (refine k_ff rfl (dFf (by omega)) ?_))
 rename_i x _
 refine Nx.cast (L' := [.acc (.slice (some ⟨b3, 0, none⟩) (joinB c (xs.take (0 + 1))).length (c3 + 1)) tByt 1 (joinB c (xs.take (0 + 1))).length (u8s (joinB c (xs.take (0 + 1)))), .blk x (.cells (List.toArray [Pt x 0, .slice (some ⟨b3, 0, none⟩) (joinB c (xs.take (0 + 1))).length (c3 + 1)]) tBld (0, 0))]) (by rw [eJ0]; simp only [Nat.zero_add]) ?_
 refine k_loop (ι := Nat × Nat × Nat) (fun q => q.1 ≤ xs.length - 1) (fun q => [(1, S [c]), (63, .slice (some ⟨bv, ov + 1, none⟩) (xs.length - 1) (cv - 1)), (64, I (xs.length - 1 : Nat)), (65, I q.1), (8, Pt x 0)]) (fun _ => G) (fun q => [.acc (.slice (some ⟨q.2.1, 0, none⟩) (joinB c (xs.take (q.1 + 1))).length (q.2.2 + 1)) tByt 1 (joinB c (xs.take (q.1 + 1))).length (u8s (joinB c (xs.take (q.1 + 1)))), .blk x (.cells (List.toArray [Pt x 0, .slice (some ⟨q.2.1, 0, none⟩) (joinB c (xs.take (q.1 + 1))).length (q.2.2 + 1)]) tBld (0, 0))]) (fun q => xs.length - q.1) (0, b3, c3) ?_ (by repeat' constructor) rfl sRr (fun q Hq => ?_)
 ·exact Nat.zero_le _
 obtain ⟨i, b4, c4⟩ := q
 dsimp only at Hq ⊢
 have hj1 := joinB_len c (xs.take (i + 1))
 have hj2 := lensT_take xs (i + 1)
 have hj3 : (xs.take (i + 1)).length ≤ xs.length := by rw [List.length_take]; omega
 by_cases hi2 : i < xs.length - 1
 ·have hwA : (joinB c (xs.take (i + 1))).length + ([c] : List UInt8).length ≤ 1000000000 := by rw [List.length_singleton]; omega
  have hy1 := lensT_nth (xs := xs) (i := i + 1) (by omega)
  have hy2 := lensT_take xs (i + 1 + 1)
  have hwB : (joinB c (xs.take (i + 1))).length + ([c] : List UInt8).length + (nth (xs.drop 1) i).length ≤ 1000000000 := by rw [nth_drop1, List.length_singleton]; omega
  have ej : joinB c (xs.take (i + 1 + 1)) = joinB c (xs.take (i + 1)) ++ c :: nth (xs.drop 1) i := by
   rw [take_nth (by omega), joinB_snoc c _ _ (by rw [ne_eq, List.take_eq_nil_iff]; simp [h0]), nth_drop1]
  repeat' (first | refine jM ?_ | (refine k_op rfl ?_; first | (refine jV (g_iaddrN rfl rfl (by omega)) ?_) | (refine jV (g_ldRS rfl rfl (by assumption) ?_) ?_; (focus ((omega); done))) | (refine c_m2g rfl rfl rfl (c_wstr (by (repeat (assumption)); done)) rfl ?_; rintro _ _ ⟨b3, c3, rfl, rfl⟩; dsimp only [zA, fA])) | (refine k_tt rfl (dTt (by omega)) ?_))
  refine Nx.cast (L' := [.acc (.slice (some ⟨b3, 0, none⟩) (joinB c (xs.take (i + 1 + 1))).length (c3 + 1)) tByt 1 (joinB c (xs.take (i + 1 + 1))).length (u8s (joinB c (xs.take (i + 1 + 1)))), .blk x (.cells (List.toArray [Pt x 0, .slice (some ⟨b3, 0, none⟩) (joinB c (xs.take (i + 1 + 1))).length (c3 + 1)]) tBld (0, 0))]) (by
   have e2 : (joinB c (xs.take (i + 1 + 1))).length = (joinB c (xs.take (i + 1))).length + ([c] : List UInt8).length + (nth (xs.drop 1) i).length := by rw [ej]; simp; omega
   have e3 : u8s (joinB c (xs.take (i + 1 + 1))) = u8s (joinB c (xs.take (i + 1))) ++ u8s [c] ++ u8s (nth (xs.drop 1) i) := by rw [ej]; simp [u8s]
   rw [e2, e3]) ?_
  exact k_rd (i + 1, b3, c3) (by dsimp only; omega) (by dsimp only; omega) (by repeat' constructor) rfl sRr
 ·have ei : xs.take (i + 1) = xs := List.take_of_length_le (by omega)
  rw [ei] at hj1 ⊢
  repeat' (first | (refine jR ?_) | (refine k_op rfl ?_; (refine c_m2g rfl rfl rfl (c_bstr (by omega)) rfl ?_; rintro _ _ ⟨rfl, rfl⟩; dsimp only [zA, fA])) | (refine k_ff rfl (dFf (by omega)) ?_))
  refine jZ (vs := [_]) rfl ⟨rfl, trivial⟩ rfl ⟨rfl, rfl, ?_⟩
  rfl
end Go.E
namespace Go.E
set_option maxRecDepth 20000
set_option maxHeartbeats 2000000
open Go.Proofs
structure VC where
 what : Nat
 text : List UInt8
 tag : Int
 a : Option Addr
 n : Nat
 c : Nat
instance : Inhabited VC := ⟨⟨0, [], 0, none, 0, 0⟩⟩
abbrev VC.sl (v : VC) : Value := .slice v.a v.n v.c
def vcF (v : VC) : List Value := [U8 (v.what : Nat), S v.text, I v.tag, v.sl]
instance : RowF vcF 4 := ⟨fun _ => rfl⟩
mutual
def V.rep (G : Gh) : V → VC → Prop
 | .nd w x t ks, c => (c.what = w ∧ w ≤ 255) ∧ c.text = x ∧ (c.tag = t ∧ 0 ≤ t ∧ t ≤ 999999) ∧ (c.n = ks.length ∧ (w = 61 → ks.length = 1)) ∧ ∃ cs, SlV G c.sl 4 cs.length (rows vcF cs) ∧ V.reps G ks cs
def V.reps (G : Gh) : List V → List VC → Prop
 | [], cs => cs = []
 | v :: r, cs => ∃ c cs', cs = c :: cs' ∧ V.rep G v c ∧ V.reps G r cs'
end
theorem reps_len {G : Gh} : ∀ {ks : List V} {cs : List VC}, V.reps G ks cs → cs.length = ks.length
 | [], cs, h => by rw [V.reps] at h; subst h; rfl
 | v :: r, cs, h => by
  rw [V.reps] at h
  obtain ⟨c, cs', rfl, _, h2⟩ := h
  rw [List.length_cons, List.length_cons, reps_len h2]
theorem reps_nth {G : Gh} : ∀ {ks : List V} {cs : List VC}, V.reps G ks cs → ∀ i, i < ks.length → V.rep G (nth ks i) (nth cs i)
 | [], _, _, i, hi => by simp at hi
 | v :: r, cs, h, i, hi => by
  rw [V.reps] at h
  obtain ⟨c, cs', rfl, h1, h2⟩ := h
  cases i with
  | zero => exact h1
  | succ i => exact reps_nth h2 i (by simpa using hi)
theorem reps_snoc {G : Gh} {v : V} {c : VC} (h2 : V.rep G v c) : ∀ {ks : List V} {cs : List VC}, V.reps G ks cs → V.reps G (ks ++ [v]) (cs ++ [c])
 | [], cs, h => by
  rw [V.reps] at h; subst h
  exact ⟨c, [], rfl, h2, rfl⟩
 | u :: r, cs, h => by
  rw [V.reps] at h
  obtain ⟨d, cs', rfl, h1, h3⟩ := h
  exact ⟨d, cs' ++ [c], rfl, h1, reps_snoc h2 h3⟩
mutual
theorem rep_mono {G G' : Gh} (hl : Gh.le G G') : ∀ {v : V} {c : VC}, V.rep G v c → V.rep G' v c
 | .nd w x t ks, c, h => by
  rw [V.rep] at h ⊢
  obtain ⟨h1, h2, h3, h4, cs, h5, h6⟩ := h
  exact ⟨h1, h2, h3, h4, cs, h5.mono hl, reps_mono hl h6⟩
theorem reps_mono {G G' : Gh} (hl : Gh.le G G') : ∀ {ks : List V} {cs : List VC}, V.reps G ks cs → V.reps G' ks cs
 | [], cs, h => h
 | v :: r, cs, h => by
  rw [V.reps] at h ⊢
  obtain ⟨c, cs', e, h1, h2⟩ := h
  exact ⟨c, cs', e, rep_mono hl h1, reps_mono hl h2⟩
end
theorem rep_inv {G : Gh} {w : Nat} {x : List UInt8} {t : Int} {ks : List V} {c : VC} (h : V.rep G (.nd w x t ks) c) : ∃ (a : Option Addr) (k : Nat) (cs : List VC), c = ⟨w, x, t, a, ks.length, k⟩ ∧ w ≤ 255 ∧ (0 ≤ t ∧ t ≤ 999999) ∧ (w = 61 → ks.length = 1) ∧ cs.length = ks.length ∧ SlV G (.slice a ks.length k) 4 cs.length (rows vcF cs) ∧ V.reps G ks cs := by
 rw [V.rep] at h
 obtain ⟨⟨h1, h1'⟩, h2, ⟨h3, h3'⟩, ⟨h4, h4'⟩, cs, h5, h6⟩ := h
 obtain ⟨w', x', t', a, n, k⟩ := c
 dsimp only at h1 h2 h3 h4 h5
 subst h1; subst h2; subst h3; subst h4
 exact ⟨a, k, cs, rfl, h1', h3', h4', reps_len h6, h5, h6⟩
theorem rep_mk {G : Gh} {w : Nat} {x : List UInt8} {t : Int} {ks : List V} {a : Option Addr} {k m : Nat} {cs : List VC} (hw : w ≤ 255) (ht : 0 ≤ t ∧ t ≤ 999999) (h61 : w = 61 → ks.length = 1) (hm : m = ks.length) (hs : SlV G (.slice a m k) 4 cs.length (rows vcF cs)) (hk : V.reps G ks cs) : V.rep G (.nd w x t ks) ⟨w, x, t, a, m, k⟩ := by
 rw [V.rep]; exact ⟨⟨rfl, hw⟩, rfl, ⟨rfl, ht⟩, ⟨hm, h61⟩, cs, hs, hk⟩
theorem slv_nil {G : Gh} : SlV G nilS 4 ([] : List VC).length (rows vcF []) := ⟨rfl, .inl ⟨rfl, rfl⟩⟩
theorem rep_leaf {G : Gh} {w : Nat} {x : List UInt8} {t : Int} (hw : w ≤ 255 ∧ w ≠ 61) (ht : 0 ≤ t ∧ t ≤ 999999) : V.rep G (.nd w x t []) ⟨w, x, t, none, 0, 0⟩ := rep_mk hw.1 ht (fun h => absurd h hw.2) rfl slv_nil rfl
theorem outs_get : ∀ {ks : List V} {i : Nat}, i < ks.length → nth (V.outs ks) i = (nth ks i).out
 | [], i, h => by simp at h
 | v :: r, 0, _ => rfl
 | v :: r, i + 1, h => by
  have := outs_get (ks := r) (i := i) (by simpa using h)
  simpa [V.outs, nth] using this
theorem outs_len (ks : List V) : (V.outs ks).length = ks.length := by rw [V.outs_map]; simp
theorem tot_nth {ks : List V} {i : Nat} (h : i < ks.length) : V.tot (nth ks i) ≤ V.tots ks := by
 rw [nth_eq h]; exact tots_mem (List.getElem_mem h)
theorem decI_len6' {t : Int} (h : t ≤ 999999) : (decI t).length ≤ 19 := decI_len (by omega)
theorem outW_len {w : Nat} {x : List UInt8} {t : Int} {e : Bool} {j : List UInt8} (ht : t ≤ 999999) : (outW w x t e j).length ≤ 25 + x.length + j.length := by
 have hd := decI_len6' ht
 unfold outW
 split
 ·simp; omega
 split
 ·simp; omega
 split
 ·split
  ·simp; omega
  ·simp; omega
 split
 ·simp; omega
 split
 ·simp; omega
 split
 ·simp; omega
 split
 ·simp; omega
 ·omega
mutual
theorem out_tot {G : Gh} : ∀ {v : V} {c : VC}, V.rep G v c → v.out.length + 1 ≤ 2 * v.tot
 | .nd w x t ks, c, h => by
  rw [V.rep] at h
  obtain ⟨_, _, ⟨_, h3⟩, _, cs, _, h6⟩ := h
  have h1 := outs_tot h6
  have h2 := joinB_len 44 (V.outs ks)
  rw [outs_len] at h2
  have h4 := outW_len (w := w) (x := x) (e := ks.isEmpty) (j := joinB 44 (V.outs ks)) h3.2
  have h5 := tots_len ks
  rw [V.out, V.tot]
  omega
theorem outs_tot {G : Gh} : ∀ {ks : List V} {cs : List VC}, V.reps G ks cs → lensT (V.outs ks) + ks.length ≤ 2 * V.tots ks
 | [], cs, h => by simp [V.outs, lensT]
 | v :: r, cs, h => by
  rw [V.reps] at h
  obtain ⟨c, cs', _, h1, h2⟩ := h
  have h3 := out_tot h1
  have h4 := outs_tot h2
  simp only [V.outs, lensT, List.map_cons, List.sum_cons, V.tots, List.length_cons] at *
  omega
end
end Go.E
