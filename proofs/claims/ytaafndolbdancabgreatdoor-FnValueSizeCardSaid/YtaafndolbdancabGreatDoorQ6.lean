/- Contracts and plain laws that the statement rests on, part 6. Conditions: as each says. -/
import Derived.Test.YtaafndolbdancabGreatDoorQ5
set_option linter.unusedVariables false
set_option linter.unusedSimpArgs false
namespace Go.E
set_option maxRecDepth 20000
set_option maxHeartbeats 2000000
open Go.Proofs
variable {G : Gh}
theorem kind_ne' {ts : List Ty} {k : List UInt8} (h : kindIn ts k = true) : ∃ c r, k = c :: r := by
 cases k with
 | nil => unfold kindIn kindOk kOk at h; simp at h
 | cons c r => exact ⟨c, r, rfl⟩
def cpk : Nat → Int
 | 0 => 105
 | d + 1 => 8 * cpk d + 40
def ctt : Nat → Nat
 | 0 => 480
 | d + 1 => 8 * ctt d + 400
theorem cpk_le : ∀ d, d ≤ 4 → 0 ≤ cpk d ∧ cpk d ≤ 500000 ∧ ctt d ≤ 3000000 ∧ 105 ≤ cpk d ∧ 480 ≤ ctt d := by decide
theorem draw0 {u : Value} {vs : List TyX} (hw : SchW (tys vs)) (hu : u.oneCell' = true) : ∀ (n : Nat) {k : List UInt8} {deep : Int}, n ≤ 9 → deep ≤ 0 → (n : Int) - 900 ≤ deep → kindIn (tys vs) k = true → (∀ t, refT (tys vs) k = some t → endsN (tys vs) n t = true) → DrawC u vs k deep (15 + 10 * n) (300 + 20 * n) := by
 have hvl : vs.length ≤ 8 := by have := hw.len; unfold tys at this; simpa using this
 intro n
 induction n with
 | zero =>
  intro k deep _ hd hd2 hk he
  obtain ⟨c, r, rfl⟩ := kind_ne' hk
  have hkk := kindOk_kOk (kindIn_ok hk)
  simp only [List.length_cons] at hkk
  by_cases h1 : c.toNat = 91
  ·obtain rfl := u8_eq h1 (by decide)
   exact (dv_list (cp := 0) (ct := 0) (by omega) (by omega) (fun h => absurd h (by omega)) hu (by omega) (by omega)).le (by omega) (by omega)
  by_cases h2 : c.toNat = 63
  ·obtain rfl := u8_eq h2 (by decide)
   exact (dv_opt (cp := 0) (ct := 0) (by omega) (by omega) (fun h => absurd h (by omega)) hu (by omega) (by omega)).le (by omega) (by omega)
  have h91 : ¬ (c.toNat = 91 ∨ c.toNat = 63) := fun h => by rcases h with h | h <;> omega
  cases hr : refT (tys vs) (c :: r) with
  | some t => have := he t hr; simp [endsN] at this
  | none =>
   rcases plain_kinds hk h91 hr with e1 | e1 | e1
   ·rw [e1]; exact dv_num.le (by omega) (by omega)
   ·rw [e1]; exact dv_txt.le (by omega) (by omega)
   ·rw [e1]; exact dv_flag.le (by omega) (by omega)
 | succ n ih =>
  intro k deep hn hd hd2 hk he
  obtain ⟨c, r, rfl⟩ := kind_ne' hk
  have hkk := kindOk_kOk (kindIn_ok hk)
  have hkk1 := hkk.1
  simp only [List.length_cons] at hkk
  by_cases h1 : c.toNat = 91
  ·obtain rfl := u8_eq h1 (by decide)
   exact (dv_list (cp := 0) (ct := 0) (by omega) (by omega) (fun h => absurd h (by omega)) hu (by omega) (by omega)).le (by omega) (by omega)
  by_cases h2 : c.toNat = 63
  ·obtain rfl := u8_eq h2 (by decide)
   exact (dv_opt (cp := 0) (ct := 0) (by omega) (by omega) (fun h => absurd h (by omega)) hu (by omega) (by omega)).le (by omega) (by omega)
  have h91 : ¬ (c.toNat = 91 ∨ c.toNat = 63) := fun h => by rcases h with h | h <;> omega
  cases hr : refT (tys vs) (c :: r) with
  | none =>
   rcases plain_kinds hk h91 hr with e1 | e1 | e1
   ·rw [e1]; exact dv_num.le (by omega) (by omega)
   ·rw [e1]; exact dv_txt.le (by omega) (by omega)
   ·rw [e1]; exact dv_flag.le (by omega) (by omega)
  | some t =>
   obtain ⟨r', e⟩ := refT_64 hr
   simp only [List.cons.injEq] at e
   obtain ⟨rfl, rfl⟩ := e
   have href := refV_ty vs (64 :: r)
   rw [hr] at href
   rcases hrv : refV vs (64 :: r) with _ | ⟨⟨a, ca⟩, ⟨so, nm, fs⟩⟩
   ·rw [hrv] at href; cases href
   rw [hrv] at href
   obtain rfl := (Option.some.inj href).symm
   dsimp only at hr he
   have hTW := hw.ty _ (refT_mem hr)
   have h8 : fs.length ≤ 8 := hTW.len
   refine dv_typed ?_ (by omega)
   rcases hTW.sort with h3 | h3 | h3 <;> dsimp only at h3 <;> subst h3
   ·exact fun G r code p l g1 g2 g3 => ((dt_rec0 hrv (by omega) hkk1 (by simp only [List.length_cons]; omega) h8 (by omega)) G r code p l g1 g2 ⟨g3.1, by omega⟩).mono fun _ _ _ ⟨h6, w, b, q, h7, h8, h9, h10, h11, h12, h13⟩ => ⟨h6, w, b, q, h7, h8, by omega, h10, h11, h12, by omega⟩
   ·have h0 : 0 < fs.length := List.length_pos_iff.2 (hTW.ne (by simp))
    refine fun G r code p l g1 g2 g3 => ((dt_uni (cp := 15 + 10 * n) (ct := 300 + 20 * n) hrv (by omega) hkk1 (by simp only [List.length_cons]; omega) h0 h8 hw (by omega) (by omega) (fun d hdm hc => ?_) (by omega)) G r code p l g1 g2 ⟨g3.1, by omega⟩).mono fun _ _ _ ⟨h6, w, b, q, h7, h8, h9, h10, h11, h12, h13⟩ => ⟨h6, w, b, q, h7, h8, by omega, h10, h11, h12, by omega⟩
    rcases hc with hc | rfl
    ·omega
    refine ih (by omega) (by omega) (by omega) (kind_in hw (refT_mem hr) (by simp) hdm) fun t' ht' => ?_
    have := he _ hr
    rw [endsN, if_neg (by simp), kind0_nth] at this
    dsimp only at this
    rw [ht'] at this
    exact this
   ·have h0 : 0 < fs.length := List.length_pos_iff.2 (hTW.ne (by simp))
    exact fun G r code p l g1 g2 g3 => ((dt_enm hrv (by omega) hkk1 (by simp only [List.length_cons]; omega) h0 h8 hw) G r code p l g1 g2 ⟨g3.1, by omega⟩).mono fun _ _ _ ⟨h6, w, b, q, h7, h8, h9, h10, h11, h12, h13⟩ => ⟨h6, w, b, q, h7, h8, by omega, h10, h11, h12, by omega⟩
theorem draw_all {u : Value} {vs : List TyX} (hw : SchW (tys vs)) (hu : u.oneCell' = true) : ∀ (m : Nat) {k : List UInt8} {deep : Int}, m ≤ 4 → deep ≤ m → -800 ≤ deep → kindIn (tys vs) k = true → DrawC u vs k deep (cpk m) (ctt m) := by
 have hvl : vs.length ≤ 8 := by have := hw.len; unfold tys at this; simpa using this
 have hz : ∀ {k : List UInt8} {deep : Int}, deep ≤ 0 → -800 ≤ deep → kindIn (tys vs) k = true → DrawC u vs k deep 105 480 := fun {k deep} h1 h2 h3 => (draw0 hw hu ((tys vs).length + 1) (by have := hw.len; omega) h1 (by have := hw.len; omega) h3 (fun t ht => ends_of hw t ht)).le (by have := hw.len; omega) (by have := hw.len; omega)
 intro m
 induction m with
 | zero => intro k deep _ hd hd2 hk; exact hz hd hd2 hk
 | succ m ih =>
  intro k deep hm hd hd2 hk
  have hcm := cpk_le m (by omega)
  have e1 : cpk (m + 1) = 8 * cpk m + 40 := rfl
  have e2 : ctt (m + 1) = 8 * ctt m + 400 := rfl
  by_cases hd0 : deep ≤ 0
  ·exact (hz hd0 hd2 hk).le (by omega) (by omega)
  have hD : ∀ {k : List UInt8}, kindIn (tys vs) k = true → DrawC u vs k (deep - 1) (cpk m) (ctt m) := fun {k} hk => ih (by omega) (by omega) (by omega) hk
  obtain ⟨c, r, rfl⟩ := kind_ne' hk
  have hkk := kindOk_kOk (kindIn_ok hk)
  have hkk1 := hkk.1
  simp only [List.length_cons] at hkk
  by_cases h1 : c.toNat = 91
  ·obtain rfl := u8_eq h1 (by decide)
   exact (dv_list (by omega) (by omega) (fun _ => hD (kindIn_tail (.inl rfl) hk)) hu (by omega) (by omega)).le (by omega) (by omega)
  by_cases h2 : c.toNat = 63
  ·obtain rfl := u8_eq h2 (by decide)
   exact (dv_opt (by omega) (by omega) (fun _ => hD (kindIn_tail (.inr rfl) hk)) hu (by omega) (by omega)).le (by omega) (by omega)
  have h91 : ¬ (c.toNat = 91 ∨ c.toNat = 63) := fun h => by rcases h with h | h <;> omega
  cases hr : refT (tys vs) (c :: r) with
  | none =>
   rcases plain_kinds hk h91 hr with e1 | e1 | e1
   ·rw [e1]; exact dv_num.le (by omega) (by omega)
   ·rw [e1]; exact dv_txt.le (by omega) (by omega)
   ·rw [e1]; exact dv_flag.le (by omega) (by omega)
  | some t =>
   obtain ⟨r', e⟩ := refT_64 hr
   simp only [List.cons.injEq] at e
   obtain ⟨rfl, rfl⟩ := e
   have href := refV_ty vs (64 :: r)
   rw [hr] at href
   rcases hrv : refV vs (64 :: r) with _ | ⟨⟨a, ca⟩, ⟨so, nm, fs⟩⟩
   ·rw [hrv] at href; cases href
   rw [hrv] at href
   obtain rfl := (Option.some.inj href).symm
   dsimp only at hr
   have hTW := hw.ty _ (refT_mem hr)
   have h8 : fs.length ≤ 8 := hTW.len
   refine dv_typed ?_ (by omega)
   rcases hTW.sort with h3 | h3 | h3 <;> dsimp only at h3 <;> subst h3
   ·exact fun G r code p l g1 g2 g3 => ((dt_rec hrv (by omega) hkk1 (by simp only [List.length_cons]; omega) h8 hw (by omega) (by omega) (fun d hdm => hD (kind_in hw (refT_mem hr) (by simp) hdm)) (by omega)) G r code p l g1 g2 ⟨g3.1, by omega⟩).mono fun _ _ _ ⟨h6, w, b, q, h7, h8, h9, h10, h11, h12, h13⟩ => ⟨h6, w, b, q, h7, h8, by omega, h10, h11, h12, by omega⟩
   ·have h0 : 0 < fs.length := List.length_pos_iff.2 (hTW.ne (by simp))
    exact fun G r code p l g1 g2 g3 => ((dt_uni hrv (by omega) hkk1 (by simp only [List.length_cons]; omega) h0 h8 hw (by omega) (by omega) (fun d hdm _ => hD (kind_in hw (refT_mem hr) (by simp) hdm)) (by omega)) G r code p l g1 g2 ⟨g3.1, by omega⟩).mono fun _ _ _ ⟨h6, w, b, q, h7, h8, h9, h10, h11, h12, h13⟩ => ⟨h6, w, b, q, h7, h8, by omega, h10, h11, h12, by omega⟩
   ·have h0 : 0 < fs.length := List.length_pos_iff.2 (hTW.ne (by simp))
    exact fun G r code p l g1 g2 g3 => ((dt_enm hrv (by omega) hkk1 (by simp only [List.length_cons]; omega) h0 h8 hw) G r code p l g1 g2 ⟨g3.1, by omega⟩).mono fun _ _ _ ⟨h6, w, b, q, h7, h8, h9, h10, h11, h12, h13⟩ => ⟨h6, w, b, q, h7, h8, by omega, h10, h11, h12, by omega⟩
theorem c_l91Schema {r : Nat} {code : Value} {p : Int} {l : List UInt8} (hp : 0 ≤ p ∧ p ≤ 600000000000) (hs : SlV G code 1 l.length (u8s l)) :
  FnG Tryz.prog 45 [Pt r 0] G [rdO r code p tRdr] (fun v L' => ∃ x q, v = S x ∧ x.length ≤ 20000 ∧ L' = [rdO r code q tRdr] ∧ p ≤ q ∧ q ≤ p + 700) := by
 refine jH [(0, _)] Tryz.func45 Tryz.ntmps45 fun B hB hW => ?_
 repeat' (first | (refine run (t := tb) 400 rfl ?_ ?_; (focus (repeat' (first | exact trivial | apply And.intro | omega | (simp only [List.length_append, List.length_cons, List.length_nil, Int.toNat_natCast]; omega))))) | (refine k_op rfl ?_; first | refine c_bsl rfl rfl rfl rfl rfl rfl fun _ => ?_ | (refine jV (g_iaddr rfl rfl (by omega)) ?_) | (refine c_ldMS 64 rfl rfl rfl ?_ rfl (fun xs hxs => ?_); (focus ((simp only [List.length_append, List.length_cons, List.length_nil, List.length_take]; omega); done))) | (refine jV (g_pickT rfl rfl rfl) ?_) | (refine jV (g_pickF rfl rfl rfl) ?_) | (refine c_m1g rfl rfl rfl (c_l91Type ?_ (by (repeat (assumption)); done) ?_ ?_) rfl ?_; (focus ((omega); done)); (focus ((first | assumption | (simp; done)); done)); (focus ((simp; done); done)); rintro _ _ ⟨ty, q1, rfl, hty, hty1, rfl, hq1, hq2⟩; dsimp only [zA, fA]) | (refine c_m1g rfl rfl rfl (c_pick ?_ (by (repeat (assumption)); done)) rfl ?_; (focus ((first | omega | (simp; omega)); done)); rintro _ _ ⟨k, rfl, rfl, hk0, hk1⟩; dsimp only [zA, fA]) | (refine c_rt rfl rfl rfl (c_SchemaOkS ?_) rfl ?_; (focus ((simp; omega); done)))) | refine k_gb rfl rfl (fun _ => ?_) (fun _ => ?_) | (refine k_ff rfl rfl ?_) | refine k_if rfl (fun _ => ?_) (fun _ => ?_))
 all_goals (first | exact k_rr (vs := [_]) rfl ⟨rfl, trivial⟩ rfl (by repeat (first | exact List.nil_sublist _ | apply List.Sublist.cons_cons)) ⟨rfl, _, _, rfl, by (simp only [List.length_append, List.length_cons, List.length_nil, List.length_take, List.length_drop]; omega), rfl, by omega, by omega⟩ | skip)
 all_goals simp only [List.length_append, List.length_cons, List.length_nil] at hk1
 all_goals (refine k_any (s_any (id := 6) [] (fun _ h => absurd h (by simp)) mixed ?_); refine jU 7 [0, 1, 2, 4, 9, 10, 11, 12] (bts 15 7703) ?_ ?_; (focus (repeat' (first | exact trivial | apply And.intro | omega | (simp only [List.length_append, List.length_cons, List.length_nil, Int.toNat_natCast]; omega)))); refine x_all [3, 5] (by kernel_rfl) (by decide) ⟨?_, ?_, trivial⟩; (focus (refine x_opg rfl rfl ?_; (refine c_bsl rfl rfl rfl rfl rfl rfl fun _ => ?_); refine jK (bts 15 7711) ?_; refine jA 5 rfl ?_; ((refine c_m1g rfl rfl rfl (c_pick ?_ (by (repeat (assumption)); done)) rfl ?_; (focus ((omega); done)); rintro _ _ ⟨k, rfl, rfl, hk0, hk1⟩; dsimp only [zA, fA])); refine jK (bts 15 7743) ?_; ((refine jG (bts 15 7807) 6 rfl (g_iaddr rfl rfl ?_) ?_; (focus ((omega); done)))); refine jA 7 rfl ?_; ((refine c_ldMS 64 rfl rfl rfl ?_ rfl (fun xs hxs => ?_); (focus ((simp only [List.length_append, List.length_cons, List.length_nil, List.length_take]; omega); done)))); refine jK (bts 15 7935) ?_; refine jU 0 [8, 13, 14] (bts 15 32767) ?_ ?_; (focus (repeat' (first | exact trivial | apply And.intro | (simp only [List.length_append, List.length_cons, List.length_nil, List.length_take, List.length_drop]; omega)))); refine x_done (by kernel_rfl) (k_bk ?_))); rotate_left 1; (focus (refine x_opg rfl rfl ?_; ((refine c_m1g rfl rfl rfl (c_pick ?_ (by (repeat (assumption)); done)) rfl ?_; (focus ((omega); done)); rintro _ _ ⟨k, rfl, rfl, hk0, hk1⟩; dsimp only [zA, fA])); refine jK (bts 15 7735) ?_; refine jA 3 rfl ?_; (refine c_bsl rfl rfl rfl rfl rfl rfl fun _ => ?_); refine jK (bts 15 7743) ?_; ((refine jG (bts 15 7807) 6 rfl (g_iaddr rfl rfl ?_) ?_; (focus ((omega); done)))); refine jA 7 rfl ?_; ((refine c_ldMS 64 rfl rfl rfl ?_ rfl (fun xs hxs => ?_); (focus ((simp only [List.length_append, List.length_cons, List.length_nil, List.length_take]; omega); done)))); refine jK (bts 15 7935) ?_; refine jU 0 [8, 13, 14] (bts 15 32767) ?_ ?_; (focus (repeat' (first | exact trivial | apply And.intro | (simp only [List.length_append, List.length_cons, List.length_nil, List.length_take, List.length_drop]; omega)))); refine x_done (by kernel_rfl) (k_bk ?_))); rotate_left 1)
 all_goals repeat' (refine jR ?_)
 all_goals exact k_rr (vs := [_]) rfl ⟨rfl, trivial⟩ rfl (by repeat (first | exact List.nil_sublist _ | apply List.Sublist.cons_cons | apply List.Sublist.cons)) ⟨rfl, _, _, rfl, by (simp only [List.length_append, List.length_cons, List.length_nil, List.length_take, List.length_drop]; omega), rfl, by omega, by omega⟩
theorem c_l91Some {r : Nat} {code : Value} {p : Int} {l s : List UInt8} (hp : 0 ≤ p ∧ p ≤ 600000000000) (hs : SlV G code 1 l.length (u8s l)) (hsl : s.length ≤ 10000000) :
  FnG Tryz.prog 46 [Pt r 0, S s] G [rdO r code p tRdr] (fun v L' => ∃ x q, v = S x ∧ x.length ≤ 400 ∧ L' = [rdO r code q tRdr] ∧ p ≤ q ∧ q ≤ p + 20) := by
 have cx_lkg : ∀ {k : List UInt8} (G : Gh), k.length ≤ 1000 → FnS Tryz.prog 48 [S s, S k] G (fun v _ => ∃ u b, v = Tu [u, Bo b]) := fun {k} G h => (c_l3Kind (G := G) (s := s) (k := k) (by omega) (by omega)).mono fun v G' L' ⟨h1, h2, u, vs, h3, _⟩ => ⟨h1, h2, u, _, h3⟩
 refine jB (Post := fun v G' L' => G' = G ∧ _) [(0, _), (1, _)] Tryz.func46 Tryz.ntmps46 fun B hok hB hW => ?_
 repeat' (first | (refine jR ?_) | (refine k_op rfl ?_; first | refine c_bsl rfl rfl rfl rfl rfl rfl fun _ => ?_ | (refine jV (g_iaddr rfl rfl (by omega)) ?_) | (refine c_ldMS 64 rfl rfl rfl ?_ rfl (fun xs hxs => ?_); (focus ((simp only [List.length_append, List.length_cons, List.length_nil, List.length_take]; omega); done))) | (refine c_m1g rfl rfl rfl (c_pick ?_ (by (repeat (assumption)); done)) rfl ?_; (focus ((omega); done)); rintro _ _ ⟨k, rfl, rfl, hk0, hk1⟩; dsimp only [zA, fA]) | (refine c_m1g rfl rfl rfl (c_l91Kind ?_ (by (repeat (assumption)); done)) rfl ?_; (focus ((omega); done)); rintro _ _ ⟨kd, q1, rfl, hkd, rfl, hq1, hq2⟩; dsimp only [zA, fA]) | (refine c_fns rfl rfl rfl ((cx_lkg _) (by omega)) rfl ?_; rintro _ G hle ⟨u1, b1, rfl⟩; skip)) | refine k_if rfl (fun _ => ?_) (fun _ => ?_) | refine k_cd rfl (fun _ => ?_) (fun _ => ?_))
 all_goals refine Nx.base hok hB ?_
 all_goals exact k_rr (vs := [_]) rfl ⟨rfl, trivial⟩ rfl (by repeat (first | exact List.Sublist.refl _ | exact List.nil_sublist _ | apply List.Sublist.cons_cons)) ⟨rfl, _, _, rfl, by (first | omega | (simp only [List.length_append, List.length_cons, List.length_nil, List.length_take, List.length_drop]; omega)), rfl, by omega, by omega⟩
theorem c_l91Of {r : Nat} {code : Value} {p : Int} {l s k : List UInt8} (hp : 0 ≤ p ∧ p ≤ 500000000000) (hs : SlV G code 1 l.length (u8s l)) (hsl : s.length ≤ 10000000) (hkl : k.length ≤ 1000) :
  FnG Tryz.prog 23 [Pt r 0, S s, S k] G [rdO r code p tRdr] (fun v L' => ∃ x q, v = S x ∧ x.length ≤ 20000 ∧ L' = [rdO r code q tRdr] ∧ p ≤ q ∧ q ≤ p + 3000000) := by
 by_cases hk : kindS s k = true
 case neg =>
  have hk2 : kindS s k = false := by simpa using hk
  have cx_lk1 : ∀ G, FnS Tryz.prog 48 [S s, S k] G (fun v _ => ∃ u, v = Tu [u, Bo false]) := fun G => by
   refine (c_l3Kind (G := G) (s := s) (k := k) (by omega) (by omega)).mono ?_
   rintro v G' L' ⟨h1, h2, u, vs, rfl, _⟩
   exact ⟨h1, h2, u, by rw [hk2]⟩
  refine jB (Post := fun v G' L' => G' = G ∧ _) [(0, _), (1, _), (2, _)] Tryz.func23 Tryz.ntmps23 fun B hok hB hW => ?_
  repeat' (first | (refine jR ?_) | (refine k_op rfl ?_; (refine c_fns rfl rfl rfl (cx_lk1 _) rfl ?_; rintro _ G hle ⟨u1, rfl⟩; skip)) | (refine k_tt rfl rfl ?_))
  all_goals refine Nx.base hok hB ?_
  all_goals exact k_rr (vs := [_]) rfl ⟨rfl, trivial⟩ rfl sRr ⟨rfl, _, _, rfl, by (simp only [List.length_append, List.length_cons, List.length_nil, List.length_take, List.length_drop]; omega), rfl, by omega, by omega⟩
 obtain ⟨ts, hsc, hki, hw⟩ := kindS_some2 hk
 have cx_lka : ∀ G, FnS Tryz.prog 48 [S s, S k] G (fun v G' => ∃ a c vs, v = Tu [.slice a vs.length c, Bo true] ∧ SchR G' (.slice a vs.length c) vs ∧ tys vs = ts) := fun G => by
  refine (c_l3Kind (G := G) (s := s) (k := k) (by omega) (by omega)).mono ?_
  rintro v G' L' ⟨h1, h2, u, vs, rfl, h4, _, h6⟩
  obtain ⟨_, ⟨rfl, h0⟩ | ⟨b, o, cap, rfl, _, _⟩⟩ := h4.sl
  ·exact ⟨h1, h2, none, 0, vs, by rw [hk, h0], by rw [h0]; exact h4, h6 ts hsc hki⟩
  ·exact ⟨h1, h2, _, cap, vs, by rw [hk], h4, h6 ts hsc hki⟩
 refine jB (Post := fun v G' L' => G' = G ∧ _) [(0, _), (1, _), (2, _)] Tryz.func23 Tryz.ntmps23 fun B hok hB hW => ?_
 repeat' (first | (refine jR ?_) | (refine k_op rfl ?_; (refine c_fns rfl rfl rfl (cx_lka _) rfl ?_; rintro _ G hle ⟨av1, cv1, vs1, rfl, hR1, hT1⟩; skip)) | (refine k_ff rfl rfl ?_))
 subst hT1
 have hg0 := hle
 have hu1 := hR1.sl.one
 have cx_dv := fun {p : Int} (hp : 0 ≤ p ∧ p + cpk 4 ≤ 600000000000) => draw_all hw hu1 4 (k := k) (deep := 4) (by omega) (by omega) (by omega) hki G r code p l hR1 (hs.mono hle) hp
 have hc4 : cpk 4 = 453480 := by decide
 have ht4 : ctt 4 = 2200080 := by decide
 rw [hc4, ht4] at cx_dv
 repeat' ((refine k_op rfl ?_; (refine c_m1s rfl rfl rfl (cx_dv (by omega)) rfl ?_; rintro _ G1 _ hle ⟨w1, b1, q1, rfl, hrep, htot, hone, rfl, hq1, hq2⟩; dsimp only [zA, fA]; skip)))
 have hg1 := hle
 have hob := outR hw hrep
 unfold OutB at hob
 have cx_out := c_outS hw hrep (by omega)
 repeat' (first | (refine jR ?_) | (refine k_op rfl ?_; (refine c_rt rfl rfl rfl cx_out rfl ?_)))
 refine k_loop (ι := List UInt8 × Int × Int × Gh) (fun j => Gh.le G1 j.2.2.2 ∧ (0 ≤ j.2.1 ∧ j.2.1 ≤ 3) ∧ (1 ≤ j.1.length ∧ j.1.length ≤ 2 * ctt (j.2.1.toNat + 1)) ∧ p ≤ j.2.2.1 ∧ j.2.2.1 ≤ p + 500000 * (4 - j.2.1)) (fun j => [(0, Pt r 0), (2, S k), (7, .slice av1 vs1.length cv1), (9, S j.1), (10, I j.2.1)]) (fun j => j.2.2.2) (fun j => [rdO r code j.2.2.1 tRdr]) (fun j => j.2.1.toNat) (w1.out, 3, q1, G1) ?_ (by repeat' constructor) rfl sRr (fun j Hj => ?_)
 ·refine ⟨Gh.le.refl _, by dsimp only; omega, ⟨hone, ?_⟩, by dsimp only; omega, by dsimp only; omega⟩
  show w1.out.length ≤ 2 * ctt 4
  omega
 obtain ⟨t, d, q, Gq⟩ := j
 dsimp only at Hj ⊢
 obtain ⟨hgq, hd, ⟨ht1, ht2⟩, hq3, hq4⟩ := Hj
 have hs2 := hs.mono ((hg0.trans hg1).trans hgq)
 clear cx_dv cx_out hrep
 by_cases hgo : 150 < t.length ∧ 0 < d
 ·obtain ⟨hgo1, hgo2⟩ := hgo
  have hcm := cpk_le d.toNat (by omega)
  have cx_dv := fun {p : Int} (hp : 0 ≤ p ∧ p + 500000 ≤ 600000000000) => ((draw_all hw hu1 d.toNat (k := k) (deep := d) (by omega) (by omega) (by omega) hki).le hcm.2.1 (Nat.le_refl _)) Gq r code p l (hR1.mono (hg1.trans hgq)) hs2 hp
  repeat' (first | (refine jR ?_) | (refine k_op rfl ?_; first | (refine jV (g_pickT rfl rfl rfl) ?_) | (refine c_m1s rfl rfl rfl (cx_dv (by omega)) rfl ?_; rintro _ G1 _ hle ⟨w1, b1, q1, rfl, hrep, htot, hone, rfl, hq1, hq2⟩; dsimp only [zA, fA]; skip)) | (refine k_gt rfl rfl (dTt (by omega)) ?_) | (refine k_tt rfl (dTt ‹_›) ?_))
  have hob := outR hw hrep
  unfold OutB at hob
  have cx_out := c_outS hw hrep (by omega)
  have e : (d - 1).toNat + 1 = d.toNat := by omega
  repeat' (first | refine jM ?_ | (refine k_op rfl ?_; (refine c_rt rfl rfl rfl cx_out rfl ?_)))
  exact k_rd (w1.out, d - 1, q1, G1) ⟨hgq.trans hle, by dsimp only; omega, ⟨hone, by dsimp only; rw [e]; omega⟩, by dsimp only; omega, by dsimp only; omega⟩ (by dsimp only; omega) (by repeat' constructor) rfl sRr
 ·have hx : t.length ≤ 150 ∨ d ≤ 0 := by omega
  have hl : t.length ≤ 8480 := by
   rcases hx with hx | hx
   ·omega
   ·have e : d = 0 := by omega
    subst e
    have : ctt (Int.toNat 0 + 1) = 4240 := by decide
    omega
  repeat' (first | (refine jR ?_) | (refine k_op rfl ?_; first | (refine jV (g_pickT rfl rfl rfl) ?_) | (refine jV (g_pickF rfl rfl rfl) ?_) | (refine c_m1g rfl rfl rfl (c_pick ?_ (by (repeat (assumption)); done)) rfl ?_; (focus ((omega); done)); rintro _ _ ⟨k, rfl, rfl, hk0, hk1⟩; dsimp only [zA, fA])) | refine k_g rfl rfl (fun _ => ?_) (fun _ => ?_) | (refine k_ff rfl (by first | rfl | (refine decide_eq_false ?_; (omega))) ?_) | refine k_if rfl (fun _ => ?_) (fun _ => ?_))
  all_goals refine Nx.base hok hB ?_
  all_goals (first | exact k_rr (vs := [_]) rfl ⟨rfl, trivial⟩ rfl sRr ⟨rfl, _, _, rfl, by (omega), rfl, by omega, by omega⟩ | skip)
  all_goals (refine k_any (s_any (id := 11) [] (fun _ h => absurd h (by simp)) mixed ?_); refine jU 7 [0, 1, 2, 4, 9, 10, 11, 12] (bts 15 7703) ?_ ?_; (focus (repeat' (first | exact trivial | apply And.intro | omega))); refine x_all [3, 5] (by kernel_rfl) (by decide) ⟨?_, ?_, trivial⟩; (focus (refine x_opg rfl rfl ?_; (refine c_bsl rfl rfl rfl rfl rfl rfl fun _ => ?_); refine jK (bts 15 7711) ?_; refine jA 5 rfl ?_; ((refine c_m1g rfl rfl rfl (c_pick ?_ (by (repeat (assumption)); done)) rfl ?_; (focus ((omega); done)); rintro _ _ ⟨k, rfl, rfl, hk0, hk1⟩; dsimp only [zA, fA])); refine jK (bts 15 7743) ?_; ((refine jG (bts 15 7807) 6 rfl (g_iaddr rfl rfl ?_) ?_; (focus ((omega); done)))); refine jA 7 rfl ?_; ((refine c_ldMS 64 rfl rfl rfl ?_ rfl (fun xs hxs => ?_); (focus ((simp only [List.length_append, List.length_cons, List.length_nil, List.length_take]; omega); done)))); refine jK (bts 15 7935) ?_; refine jU 0 [8, 13, 14] (bts 15 32767) ?_ ?_; (focus (repeat' (first | exact trivial | apply And.intro | (simp only [List.length_append, List.length_cons, List.length_nil, List.length_take, List.length_drop]; omega)))); refine x_done (by kernel_rfl) (k_bk ?_))); rotate_left 1; (focus (refine x_opg rfl rfl ?_; ((refine c_m1g rfl rfl rfl (c_pick ?_ (by (repeat (assumption)); done)) rfl ?_; (focus ((omega); done)); rintro _ _ ⟨k, rfl, rfl, hk0, hk1⟩; dsimp only [zA, fA])); refine jK (bts 15 7735) ?_; refine jA 3 rfl ?_; (refine c_bsl rfl rfl rfl rfl rfl rfl fun _ => ?_); refine jK (bts 15 7743) ?_; ((refine jG (bts 15 7807) 6 rfl (g_iaddr rfl rfl ?_) ?_; (focus ((omega); done)))); refine jA 7 rfl ?_; ((refine c_ldMS 64 rfl rfl rfl ?_ rfl (fun xs hxs => ?_); (focus ((simp only [List.length_append, List.length_cons, List.length_nil, List.length_take]; omega); done)))); refine jK (bts 15 7935) ?_; refine jU 0 [8, 13, 14] (bts 15 32767) ?_ ?_; (focus (repeat' (first | exact trivial | apply And.intro | (simp only [List.length_append, List.length_cons, List.length_nil, List.length_take, List.length_drop]; omega)))); refine x_done (by kernel_rfl) (k_bk ?_))); rotate_left 1)
  all_goals repeat' (refine jR ?_)
  all_goals exact k_rr (vs := [_]) rfl ⟨rfl, trivial⟩ rfl (by repeat (first | exact List.Sublist.refl _ | exact List.nil_sublist _ | apply List.Sublist.cons_cons | apply List.Sublist.cons)) ⟨rfl, _, _, rfl, by (simp only [List.length_append, List.length_cons, List.length_nil, List.length_take, List.length_drop]; omega), rfl, by omega, by omega⟩
theorem c_l91Three {r : Nat} {code : Value} {p : Int} {l : List UInt8} (hp : 0 ≤ p ∧ p ≤ 400000000000) (hs : SlV G code 1 l.length (u8s l)) :
  FnG Tryz.prog 19 [Pt r 0] G [rdO r code p tRdr] (fun v L' => ∃ s k x q, v = Tu [S s, S k, S x] ∧ (s.length ≤ 20000 ∧ k.length ≤ 400 ∧ x.length ≤ 20000) ∧ L' = [rdO r code q tRdr] ∧ p ≤ q ∧ q ≤ p + 4000000) := by
 refine jH [(0, _)] Tryz.func19 Tryz.ntmps19 fun B hB hW => ?_
 repeat' (first | (refine jR ?_) | (refine k_op rfl ?_; first | (refine c_m1g rfl rfl rfl (c_l91Schema ?_ (by (repeat (assumption)); done)) rfl ?_; (focus ((omega); done)); rintro _ _ ⟨sc, q1, rfl, hsc, rfl, hq1, hq2⟩; dsimp only [zA, fA]) | (refine c_m1g rfl rfl rfl (c_l91Some ?_ (by (repeat (assumption)); done) ?_) rfl ?_; (focus ((omega); done)); (focus ((omega); done)); rintro _ _ ⟨kd, q1, rfl, hkd, rfl, hq1, hq2⟩; dsimp only [zA, fA]) | (refine c_m1g rfl rfl rfl (c_l91Of ?_ (by (repeat (assumption)); done) ?_ ?_) rfl ?_; (focus ((omega); done)); (focus ((omega); done)); (focus ((omega); done)); rintro _ _ ⟨tx, q1, rfl, htx, rfl, hq1, hq2⟩; dsimp only [zA, fA])))
 exact k_rr (vs := [_, _, _]) rfl ⟨rfl, rfl, rfl, trivial⟩ rfl sRr ⟨rfl, _, _, _, _, rfl, ⟨by omega, by omega, by omega⟩, rfl, by omega, by omega⟩
def leavesV (s k w : List UInt8) : Option (List (List UInt8)) := match givenV s k w with
 | some u => if (u.leaves.all fun r => decide (r.length ≤ 8)) = true then some (lvT [] u) else none
 | none => none
def okL (q : List Int) (v : V) : Bool := v.leaves.all fun r => decide ((q ++ r).length ≤ 8)
def okLs (q : List Int) (ks : List V) (w : Nat) (t : Int) : Bool := (V.leavesS ks w t 0).all fun r => decide ((q ++ r).length ≤ 8)
theorem okLs_snoc {q : List Int} {ks : List V} {v : V} {w : Nat} {t : Int} : okLs q (ks ++ [v]) w t = (okLs q ks w t && okL (q ++ [stepNo w t ks.length v]) v) := by
 unfold okLs okL
 rw [leavesS_snoc, List.all_append, List.all_map, Nat.zero_add]
 congr 1
 congr 1
 funext r
 simp
theorem okLs_nil {q : List Int} {w : Nat} {t : Int} : okLs q [] w t = true := by unfold okLs; rw [V.leavesS]; rfl
theorem okL_leaf {q : List Int} {w : Nat} {x : List UInt8} {t : Int} (h : leafW w true = true) : okL q (.nd w x t []) = decide (q.length ≤ 8) := by
 unfold okL
 rw [V.leaves, if_pos (c := leafW w ([] : List V).isEmpty = true) h]
 simp
theorem okL_nd {q : List Int} {w : Nat} {x : List UInt8} {t : Int} {ks : List V} (h : leafW w ks.isEmpty = false) (h61 : w ≠ 61) : okL q (.nd w x t ks) = okLs q ks w t := by
 unfold okL okLs
 rw [V.leaves, if_neg (by rw [h]; simp), if_neg h61]
theorem okL_fld {q : List Int} {t : Int} {v : V} : okL q (.nd 61 [] t [v]) = okL q v := by
 unfold okL
 rw [V.leaves, if_neg (by simp [leafW]), if_pos rfl, V.leavesF, V.leavesF, List.append_nil]
theorem lensT_dec : ∀ {q : List Int}, (∀ n ∈ q, 0 ≤ n ∧ n ≤ 999999) → lensT (q.map decI) ≤ 6 * q.length
 | [], _ => by simp [lensT]
 | n :: q, h => by
  have h1 := decI_6 (h n (by simp)).2
  have h2 := lensT_dec (q := q) fun x hx => h x (by simp [hx])
  simp only [List.map_cons, lensT, List.length_cons, List.sum_cons] at h2 ⊢
  omega
abbrev tTxI : TypeId := 9
abbrev tOkI : TypeId := 4
abbrev tOuI : TypeId := 33
abbrev okO (b : Nat) (o : Bool) : Own := .blk b (.cells (List.toArray [Bo o]) tOkI (0, 0))
abbrev ouO (b : Nat) (v : Value) : Own := .blk b (.cells (List.toArray [v]) tOuI (0, 0))
theorem c_see {n : Nat} {pa : Option Addr} {pc bo bu m cap : Nat} {q : List Int} {ok : Bool} {a : Option Addr} {out : List (List UInt8)} (hn : n = q.length) (hs : SlV G (.slice pa n pc) 1 n (rows strF (q.map decI))) (hq : ∀ n ∈ q, 0 ≤ n ∧ n ≤ 999999) (hm : m = out.length ∧ m ≤ 100000 ∧ n ≤ 100000) :
  FnM Tryz.prog 42 [.slice pa n pc, Pt bo 0, Pt bu 0] G [.acc (.slice a m cap) tTxI 1 m (rows strF out), okO bo ok, ouO bu (.slice a m cap)]
   (fun _ _ L' => ∃ a' cap', L' = [.acc (.slice a' (m + 1) cap') tTxI 1 (m + 1) (rows strF (out ++ [pathText q])), okO bo (ok && decide (q.length ≤ 8)), ouO bu (.slice a' (m + 1) cap')]) := by
 have hle := lensT_dec hq
 have hml : n = (q.map decI).length := by simp [hn]
 have cx_join : PuG Tryz.prog 43 [.slice pa n pc, S [47]] G (· = S (pathText q)) := by
  have hs2 : SlV G (.slice pa n pc) 1 (q.map decI).length (rows strF (q.map decI)) := by rw [← hml]; exact hs
  exact c_Join (c := 47) hs2 (by omega)
 have hrow : rows strF out ++ [S (pathText q)] = rows strF (out ++ [pathText q]) := (rows_snoc strF out (pathText q)).symm
 rw [← hn]
 clear hle
 cases ok
 ·
  refine m_enter [(0, _), (1, _), (2, _)] Tryz.func42 (by kernel_rfl) Tryz.ntmps42 rfl rfl (by repeat' constructor) fun B hB hW => ?_
  repeat' (first | (refine jR ?_) | (refine k_op rfl ?_; first | refine jV (g_ld rfl rfl rfl) ?_ | (refine jV (g_pickF rfl rfl rfl) ?_) | refine c_st1 rfl rfl rfl rfl ?_) | (refine k_gf rfl rfl rfl ?_))
  all_goals (refine k_any (s_any (id := 1) [] (fun _ h => absurd h (by simp)) mixed ?_); refine jU 5 [1] (bts 6 2) ?_ ?_; (focus (repeat' (exact trivial))); refine x_all [0, 2] (by kernel_rfl) (by decide) ⟨?_, ?_, trivial⟩; (focus (refine x_opg rfl rfl ?_; (refine jV (g_ld rfl rfl rfl) ?_); refine jK (bts 6 3) ?_; refine jA 2 rfl ?_; (refine c_rt rfl rfl rfl cx_join rfl ?_); refine jK (bts 6 7) ?_; refine jA 3 rfl ?_; (refine c_bsl rfl rfl rfl rfl rfl rfl fun _ => ?_); refine jK (bts 6 15) ?_; refine jA 4 rfl ?_; ((refine c_apX rfl rfl rfl rfl rfl rfl rfl rfl rfl ?_ fun _ _ => ?_; (focus ((omega); done)))); refine jK (bts 6 31) ?_; refine jA 5 rfl ?_; (refine c_st1 rfl rfl rfl rfl ?_); refine jK (bts 6 63) ?_; refine x_done (by kernel_rfl) (k_bk ?_))); rotate_left 1; (focus (refine x_opg rfl rfl ?_; (refine c_rt rfl rfl rfl cx_join rfl ?_); refine jK (bts 6 6) ?_; refine x_all [0, 3] (by kernel_rfl) (by decide) ⟨?_, ?_, trivial⟩; (focus (refine x_opg rfl rfl ?_; (refine jV (g_ld rfl rfl rfl) ?_); refine jK (bts 6 7) ?_; refine jA 3 rfl ?_; (refine c_bsl rfl rfl rfl rfl rfl rfl fun _ => ?_); refine jK (bts 6 15) ?_; refine jA 4 rfl ?_; ((refine c_apX rfl rfl rfl rfl rfl rfl rfl rfl rfl ?_ fun _ _ => ?_; (focus ((omega); done)))); refine jK (bts 6 31) ?_; refine jA 5 rfl ?_; (refine c_st1 rfl rfl rfl rfl ?_); refine jK (bts 6 63) ?_; refine x_done (by kernel_rfl) (k_bk ?_))); rotate_left 1; (focus (refine x_opg rfl rfl ?_; (refine c_bsl rfl rfl rfl rfl rfl rfl fun _ => ?_); refine jK (bts 6 14) ?_; refine jA 0 rfl ?_; (refine jV (g_ld rfl rfl rfl) ?_); refine jK (bts 6 15) ?_; refine jA 4 rfl ?_; ((refine c_apX rfl rfl rfl rfl rfl rfl rfl rfl rfl ?_ fun _ _ => ?_; (focus ((omega); done)))); refine jK (bts 6 31) ?_; refine jA 5 rfl ?_; (refine c_st1 rfl rfl rfl rfl ?_); refine jK (bts 6 63) ?_; refine x_done (by kernel_rfl) (k_bk ?_))); rotate_left 1)); rotate_left 2)
  all_goals repeat' (fail)
  all_goals rw [hrow]
  all_goals exact k_re (vs := []) rfl trivial rfl (by repeat (first | exact List.Sublist.refl _ | apply List.Sublist.cons_cons | apply List.Sublist.cons)) ⟨Gh.le.refl _, _, _, rfl⟩
 ·rw [show (true && decide (n ≤ 8)) = decide ((n : Int) ≤ 8) by rw [Bool.true_and]; exact decide_eq_decide.2 (by omega)]
  refine m_enter [(0, _), (1, _), (2, _)] Tryz.func42 (by kernel_rfl) Tryz.ntmps42 rfl rfl (by repeat' constructor) fun B hB hW => ?_
  repeat' (first | (refine jR ?_) | (refine k_op rfl ?_; first | refine jV (g_ld rfl rfl rfl) ?_ | refine jV (g_lenL rfl) ?_ | (refine jV (g_pickT rfl rfl rfl) ?_) | refine c_st1 rfl rfl rfl rfl ?_) | (refine k_gt rfl rfl rfl ?_))
  all_goals (refine k_any (s_any (id := 1) [] (fun _ h => absurd h (by simp)) mixed ?_); refine jU 5 [1] (bts 6 2) ?_ ?_; (focus (repeat' (exact trivial))); refine x_all [0, 2] (by kernel_rfl) (by decide) ⟨?_, ?_, trivial⟩; (focus (refine x_opg rfl rfl ?_; (refine jV (g_ld rfl rfl rfl) ?_); refine jK (bts 6 3) ?_; refine jA 2 rfl ?_; (refine c_rt rfl rfl rfl cx_join rfl ?_); refine jK (bts 6 7) ?_; refine jA 3 rfl ?_; (refine c_bsl rfl rfl rfl rfl rfl rfl fun _ => ?_); refine jK (bts 6 15) ?_; refine jA 4 rfl ?_; ((refine c_apX rfl rfl rfl rfl rfl rfl rfl rfl rfl ?_ fun _ _ => ?_; (focus ((omega); done)))); refine jK (bts 6 31) ?_; refine jA 5 rfl ?_; (refine c_st1 rfl rfl rfl rfl ?_); refine jK (bts 6 63) ?_; refine x_done (by kernel_rfl) (k_bk ?_))); rotate_left 1; (focus (refine x_opg rfl rfl ?_; (refine c_rt rfl rfl rfl cx_join rfl ?_); refine jK (bts 6 6) ?_; refine x_all [0, 3] (by kernel_rfl) (by decide) ⟨?_, ?_, trivial⟩; (focus (refine x_opg rfl rfl ?_; (refine jV (g_ld rfl rfl rfl) ?_); refine jK (bts 6 7) ?_; refine jA 3 rfl ?_; (refine c_bsl rfl rfl rfl rfl rfl rfl fun _ => ?_); refine jK (bts 6 15) ?_; refine jA 4 rfl ?_; ((refine c_apX rfl rfl rfl rfl rfl rfl rfl rfl rfl ?_ fun _ _ => ?_; (focus ((omega); done)))); refine jK (bts 6 31) ?_; refine jA 5 rfl ?_; (refine c_st1 rfl rfl rfl rfl ?_); refine jK (bts 6 63) ?_; refine x_done (by kernel_rfl) (k_bk ?_))); rotate_left 1; (focus (refine x_opg rfl rfl ?_; (refine c_bsl rfl rfl rfl rfl rfl rfl fun _ => ?_); refine jK (bts 6 14) ?_; refine jA 0 rfl ?_; (refine jV (g_ld rfl rfl rfl) ?_); refine jK (bts 6 15) ?_; refine jA 4 rfl ?_; ((refine c_apX rfl rfl rfl rfl rfl rfl rfl rfl rfl ?_ fun _ _ => ?_; (focus ((omega); done)))); refine jK (bts 6 31) ?_; refine jA 5 rfl ?_; (refine c_st1 rfl rfl rfl rfl ?_); refine jK (bts 6 63) ?_; refine x_done (by kernel_rfl) (k_bk ?_))); rotate_left 1)); rotate_left 2)
  all_goals repeat' (fail)
  all_goals rw [hrow]
  all_goals exact k_re (vs := []) rfl trivial rfl (by repeat (first | exact List.Sublist.refl _ | apply List.Sublist.cons_cons | apply List.Sublist.cons)) ⟨Gh.le.refl _, _, _, rfl⟩
def LvI (v : V) : Prop := ∀ (G : Gh) (c : VC) (q : List Int) (n : Nat) (pa : Option Addr) (pc bo bu : Nat) (ok : Bool) (a : Option Addr) (m cap : Nat) (out : List (List UInt8)), V.rep G v c → n = q.length → SlV G (.slice pa n pc) 1 n (rows strF (q.map decI)) → (∀ n ∈ q, 0 ≤ n ∧ n ≤ 999999) → m = out.length → m + v.tot ≤ 100000 ∧ n + v.tot ≤ 100000 →
 FnM Tryz.prog 41 [Ag (vcF c), .slice pa n pc, .func (.func 42) (List.toArray []) (List.toArray [Pt bo 0, Pt bu 0])] G [.acc (.slice a m cap) tTxI 1 m (rows strF out), okO bo ok, ouO bu (.slice a m cap)]
  (fun _ _ L' => ∃ a' cap', L' = [.acc (.slice a' (m + v.size) cap') tTxI 1 (m + v.size) (rows strF (out ++ lvT q v)), okO bo (ok && okL q v), ouO bu (.slice a' (m + v.size) cap')])
abbrev tValL : TypeId := 48
theorem rows_q {q : List Int} {s : Int} : rows strF ((q ++ [s]).map decI) = rows strF (q.map decI) ++ [S (decI s)] := by rw [List.map_append]; exact rows_snoc strF (q.map decI) (decI s)
theorem slv_capL {G : Gh} {pa : Option Addr} {n pc sz : Nat} {xs : List Value} (h : SlV G (.slice pa n pc) sz n xs) : n ≤ pc := by
 obtain ⟨_, ⟨e, _⟩ | ⟨b, o, c, e, hc, _⟩⟩ := h
 ·simp only [Value.slice.injEq] at e; omega
 ·simp only [Value.slice.injEq] at e; omega
theorem c_lvLeaf {w : Nat} {x : List UInt8} {t : Int} (hl : w = 110 ∨ w = 116 ∨ w = 102 ∨ w = 69 ∨ w = 63) : LvI (.nd w x t []) := by
 intro G c q n pa pc bo bu ok a m cap out hrep hn hs hq hm hto
 obtain ⟨ka, kc, cs, rfl, hw, ht, h61, hcl, hsl, hks⟩ := rep_inv hrep
 rw [nd_tot] at hto
 have hee : ([] : List V).length = 0 := rfl
 have hsee := c_see (G := G) (bo := bo) (bu := bu) (cap := cap) (ok := ok) (a := a) hn hs hq ⟨hm, by omega, by omega⟩
 simp only [vcF, VC.sl]
 rcases hl with rfl | rfl | rfl | rfl | rfl
 all_goals
  rw [size_leaf rfl, lvT_leaf rfl, okL_leaf rfl]
  refine m_enter [(0, _), (1, _), (2, _)] Tryz.func41 (by kernel_rfl) Tryz.ntmps41 rfl rfl (by repeat' constructor) fun B hB hW => ?_
  repeat' (first | (refine jR ?_) | (refine k_op rfl ?_; first | refine c_bx rfl rfl rfl fun _ => ?_ | refine jV (g_ld rfl rfl rfl) ?_ | (refine jV (g_pickT rfl rfl rfl) ?_) | (refine jV (g_pickF rfl rfl rfl) ?_) | refine jV (g_lenL rfl) ?_) | (refine k_gt rfl rfl rfl ?_) | (refine k_gf rfl rfl rfl ?_) | (refine k_tt rfl rfl ?_))
  refine k_op rfl ?_
  refine c_m3s rfl rfl rfl hsee rfl ?_
  rintro _ G1 _ hle ⟨av, cv, rfl⟩
  dsimp only [zA, fA]
  repeat' (refine jR ?_)
  exact k_rr (vs := []) rfl trivial rfl (by repeat (first | exact List.nil_sublist _ | apply List.Sublist.cons_cons)) ⟨hle, _, _, rfl⟩
theorem lv_next {q : List Int} {w : Nat} {t st : Int} {ks : List V} {v : V} {i m : Nat} {out : List (List UInt8)} {ok : Bool} (hi : i < ks.length) (hv : lvT (q ++ [st]) (nth ks i) = lvT (q ++ [st]) v ∧ okL (q ++ [st]) (nth ks i) = okL (q ++ [st]) v ∧ (nth ks i).size = v.size) (hst : stepNo w t (ks.take i).length (nth ks i) = st) :
  m + V.sizes (ks.take (i + 1)) = m + V.sizes (ks.take i) + v.size ∧ out ++ lvS q (ks.take (i + 1)) w t = out ++ lvS q (ks.take i) w t ++ lvT (q ++ [st]) v ∧ (ok && okLs q (ks.take (i + 1)) w t) = (ok && okLs q (ks.take i) w t && okL (q ++ [st]) v) := by
 refine ⟨by rw [take_nth hi, sizes_snocL, hv.2.2, Nat.add_assoc], by rw [take_nth hi, lvS_snoc, hst, hv.1, List.append_assoc], by rw [take_nth hi, okLs_snoc, hst, hv.2.1, Bool.and_assoc]⟩
theorem c_lvKids {w : Nat} {x : List UInt8} {t : Int} {ks : List V} (hw : w = 91 ∨ (w = 63 ∧ ks.length ≠ 0) ∨ w = 85) (hlk : ks.length ≤ 1000) (ih : ∀ v ∈ ks, LvI v) : LvI (.nd w x t ks) := by
 intro G c q n pa pc bo bu ok a m cap out hrep hn hs hq hm hto
 obtain ⟨ka, kc, cs, rfl, hw2, ht, h61, hcl, hsl, hks⟩ := rep_inv hrep
 rw [nd_tot] at hto
 have hpc := slv_capL hs
 have hst := sizes_totL ks
 have hkl := tots_len ks
 have hsz : V.size (.nd w x t ks) = V.sizes ks := by
  rw [V.size, if_neg]
  rcases hw with rfl | ⟨rfl, h⟩ | rfl
  ·simp [leafW]
  ·have : ks.isEmpty = false := by cases ks with | nil => simp at h | cons => rfl
   simp [leafW, this]
  ·simp [leafW]
 have hlf : leafW w ks.isEmpty = false := by
  rcases hw with rfl | ⟨rfl, h⟩ | rfl
  ·exact leafW_91
  ·have : ks.isEmpty = false := by cases ks with | nil => simp at h | cons => rfl
   simp [leafW, this]
  ·exact leafW_85
 have h61' : w ≠ 61 := by omega
 rw [hsz, lvT_nd hlf h61', okL_nd hlf h61']
 simp only [vcF, VC.sl]
 rw [show rows strF out = rows strF (out ++ lvS q (ks.take 0) w t) by rw [List.take_zero, lvS_nil, List.append_nil], show okO bo ok = okO bo (ok && okLs q (ks.take 0) w t) by rw [List.take_zero, okLs_nil, Bool.and_true]]
 clear h61 hlf hsz h61'
 rcases hw with rfl | ⟨rfl, hne⟩ | rfl
 ·
  refine m_enter [(0, _), (1, _), (2, _)] Tryz.func41 (by kernel_rfl) Tryz.ntmps41 rfl rfl (by repeat' constructor) fun B hB hW => ?_
  repeat' (first | (refine jR ?_) | (refine k_op rfl ?_; first | refine c_bx rfl rfl rfl fun _ => ?_ | refine jV (g_ld rfl rfl rfl) ?_ | (refine jV (g_pickF rfl rfl rfl) ?_) | refine jV (g_lenL rfl) ?_) | (refine k_gf rfl rfl rfl ?_) | (refine k_ff rfl rfl ?_))
  rename_i x3
  refine Nx.perm (List.perm_append_comm (l₁ := [_]) (l₂ := [_, _, _])) ?_
  dsimp only [zA, fA]
  refine k_loop (ι := Nat × Option Addr × Nat × Gh) (fun i => i.1 ≤ ks.length ∧ Gh.le G i.2.2.2) (fun i => [(1, .slice pa n pc), (2, .func (.func 42) (List.toArray []) (List.toArray [Pt bo 0, Pt bu 0])), (3, Pt x3 0), (42, .slice ka ks.length kc), (43, I ks.length), (44, I i.1)]) (fun i => i.2.2.2) (fun i => [.acc (.slice i.2.1 (m + V.sizes (ks.take i.1)) i.2.2.1) tTxI 1 (m + V.sizes (ks.take i.1)) (rows strF (out ++ lvS q (ks.take i.1) 91 t)), okO bo (ok && okLs q (ks.take i.1) 91 t), ouO bu (.slice i.2.1 (m + V.sizes (ks.take i.1)) i.2.2.1), .blk x3 (.cells (List.toArray [U8 ((91 : Nat) : Int), S x, I t, .slice ka ks.length kc]) tValL (0, 0))]) (fun i => ks.length - i.1) (0, a, cap, G) ?_ (by repeat' constructor) rfl sRr (fun i Hi => ?_)
  ·exact ⟨Nat.zero_le _, Gh.le.refl _⟩
  obtain ⟨i, a, cap, Gq⟩ := i
  dsimp only at Hi ⊢
  obtain ⟨hi0, hgq⟩ := Hi
  by_cases hi : i < ks.length
  ·have hsq := hs.mono hgq
   have hslq := hsl.mono hgq
   have hstp : stepNo 91 t (ks.take i).length (nth ks i) = (i : Int) := by rw [List.length_take, Nat.min_eq_left (by omega)]; rfl
   obtain ⟨hN1, hN2, hN3⟩ := lv_next (q := q) (m := m) (out := out) (ok := ok) (st := (i : Int)) hi ⟨rfl, rfl, rfl⟩ hstp
   have htn := tot_nth hi
   have htk1 := tots_take ks (i + 1)
   rw [take_nth hi, tots_app] at htk1
   simp only [V.tots] at htk1
   have hs1 := sizes_totL (ks.take i)
   have hlen : m + V.sizes (ks.take i) = (out ++ lvS q (ks.take i) 91 t).length := by rw [List.length_append, lvS_len, hm]
   have cx_lvi : ∀ G', Gh.le Gq G' → ∀ pa' pc', SlV G' (.slice pa' (n + 1) pc') 1 (n + 1) (rows strF (q.map decI) ++ [S (decI (i : Int))]) → FnM Tryz.prog 41 [Ag (vcF (nth cs i)), .slice pa' (n + 1) pc', .func (.func 42) (List.toArray []) (List.toArray [Pt bo 0, Pt bu 0])] G' [.acc (.slice a (m + V.sizes (ks.take i)) cap) tTxI 1 (m + V.sizes (ks.take i)) (rows strF (out ++ lvS q (ks.take i) 91 t)), okO bo (ok && okLs q (ks.take i) 91 t), ouO bu (.slice a (m + V.sizes (ks.take i)) cap)]
     (fun _ _ L' => ∃ a' cap', L' = [.acc (.slice a' (m + V.sizes (ks.take i) + (nth ks i).size) cap') tTxI 1 (m + V.sizes (ks.take i) + (nth ks i).size) (rows strF (out ++ lvS q (ks.take i) 91 t ++ lvT (q ++ [(i : Int)]) (nth ks i))), okO bo (ok && okLs q (ks.take i) 91 t && okL (q ++ [(i : Int)]) (nth ks i)), ouO bu (.slice a' (m + V.sizes (ks.take i) + (nth ks i).size) cap')]) := fun G' hG' pa' pc' hs' => ih _ (nth_mem hi) G' (nth cs i) (q ++ [(i : Int)]) (n + 1) pa' pc' bo bu _ a _ cap _ (reps_nth (reps_mono (hgq.trans hG') hks) i hi) (by simp [hn]) (by rw [rows_q]; exact hs') (snoc_in hq ⟨by omega, by omega⟩) hlen ⟨by omega, by omega⟩
   obtain ⟨kb, ko, kcc, e, hsx⟩ := hslq.expl (by omega)
   simp only [Value.slice.injEq] at e
   obtain ⟨rfl, -, rfl⟩ := e
   have hxi : nth cs i = nth cs i := rfl
   repeat' (first | (refine jR ?_) | (refine k_op rfl ?_; first | refine jV (g_ld rfl rfl rfl) ?_ | (refine jV (g_ldRx rfl rfl (by assumption) ?_ (by assumption)) ?_; (focus ((omega); done))) | (refine jV (g_iaddrN rfl rfl (by omega)) ?_) | refine c_al rfl rfl fun _ => ?_ | refine c_stA rfl rfl rfl rfl rfl rfl ?_) | (refine k_tt rfl (dTt (by omega)) ?_) | (refine k_ff rfl rfl ?_))
   rename_i x7
   simp only [vcF, VC.sl] at cx_lvi
   (refine k_any (s_any (id := 12) [.blk x7 (.cells (List.toArray [U8 ((nth cs i).what : Int), S (nth cs i).text, I (nth cs i).tag, .slice (nth cs i).a (nth cs i).n (nth cs i).c]) tValL (0, 0))] (by intro y hy; simp only [List.mem_cons, List.not_mem_nil, or_false] at hy ⊢; simp [hy]) mixed ?_); refine jU 8 [1, 2, 4, 7, 11] (bts 13 2198) ?_ ?_; (focus (repeat' (exact trivial))); (refine jG (bts 13 2199) 0 rfl (g_ldA rfl rfl rfl rfl) ?_); (refine jG (bts 13 2207) 3 rfl (g_lenL rfl) ?_); (refine jG (bts 13 2239) 5 rfl (g_lenL rfl) ?_); ((refine jG (bts 13 2303) 6 rfl (g_sl3 rfl rfl rfl ?_) ?_; (focus ((omega); done)))); refine jA 8 rfl ?_; (refine c_rt rfl rfl rfl (c_decimalN (by omega)) rfl ?_); refine jK (bts 13 2559) ?_; refine jA 9 rfl ?_; (refine c_bsl rfl rfl rfl rfl rfl rfl fun _ => ?_); refine jK (bts 13 3071) ?_; refine jA 10 rfl ?_; ((refine c_apC rfl rfl (by assumption) rfl rfl rfl rfl rfl rfl rfl rfl ?_ fun _ _ G2 hG2 hpth => ?_; (focus ((omega); done)))); refine jK (bts 13 4095) ?_; refine jA 12 rfl ?_; ((refine c_m3s rfl rfl rfl ((cx_lvi _) (by (repeat (assumption)); done) _ _ (by (repeat (assumption)); done)) rfl ?_; rintro _ G1 _ hle ⟨av, cv, rfl⟩; dsimp only [zA, fA]; (have hle := Gh.le.trans hG2 hle))); refine jK (bts 13 8191) ?_; refine x_done (by kernel_rfl) (k_bk ?_))
   all_goals repeat' (refine jM ?_)
   all_goals exact k_rd (i + 1, av, cv, _) ⟨by dsimp only; omega, hgq.trans hle⟩ (by dsimp only; omega) (by repeat' constructor) rfl (by dsimp only; rw [hN1, hN2, hN3]; repeat (first | exact List.Sublist.refl _ | apply List.Sublist.cons_cons | apply List.Sublist.cons))
  ·obtain rfl : i = ks.length := by omega
   rw [List.take_length]
   repeat' (first | (refine jR ?_) | (refine k_ff rfl (dFf (by omega)) ?_))
   exact k_re (vs := []) rfl trivial rfl (by repeat (first | exact List.nil_sublist _ | apply List.Sublist.cons_cons)) ⟨hgq, _, _, rfl⟩
 ·
  refine m_enter [(0, _), (1, _), (2, _)] Tryz.func41 (by kernel_rfl) Tryz.ntmps41 rfl rfl (by repeat' constructor) fun B hB hW => ?_
  repeat' (first | (refine jR ?_) | (refine k_op rfl ?_; first | refine c_bx rfl rfl rfl fun _ => ?_ | refine jV (g_ld rfl rfl rfl) ?_ | (refine jV (g_pickT rfl rfl rfl) ?_) | (refine jV (g_pickF rfl rfl rfl) ?_) | refine jV (g_lenL rfl) ?_) | (refine k_gt rfl rfl rfl ?_) | (refine k_gf rfl rfl rfl ?_) | (refine k_ff rfl (dFf (by omega)) ?_))
  rename_i x3
  refine Nx.perm (List.perm_append_comm (l₁ := [_]) (l₂ := [_, _, _])) ?_
  dsimp only [zA, fA]
  refine k_loop (ι := Nat × Option Addr × Nat × Gh) (fun i => i.1 ≤ ks.length ∧ Gh.le G i.2.2.2) (fun i => [(1, .slice pa n pc), (2, .func (.func 42) (List.toArray []) (List.toArray [Pt bo 0, Pt bu 0])), (3, Pt x3 0), (42, .slice ka ks.length kc), (43, I ks.length), (44, I i.1)]) (fun i => i.2.2.2) (fun i => [.acc (.slice i.2.1 (m + V.sizes (ks.take i.1)) i.2.2.1) tTxI 1 (m + V.sizes (ks.take i.1)) (rows strF (out ++ lvS q (ks.take i.1) 63 t)), okO bo (ok && okLs q (ks.take i.1) 63 t), ouO bu (.slice i.2.1 (m + V.sizes (ks.take i.1)) i.2.2.1), .blk x3 (.cells (List.toArray [U8 ((63 : Nat) : Int), S x, I t, .slice ka ks.length kc]) tValL (0, 0))]) (fun i => ks.length - i.1) (0, a, cap, G) ?_ (by repeat' constructor) rfl sRr (fun i Hi => ?_)
  ·exact ⟨Nat.zero_le _, Gh.le.refl _⟩
  obtain ⟨i, a, cap, Gq⟩ := i
  dsimp only at Hi ⊢
  obtain ⟨hi0, hgq⟩ := Hi
  by_cases hi : i < ks.length
  ·have hsq := hs.mono hgq
   have hslq := hsl.mono hgq
   have hstp : stepNo 63 t (ks.take i).length (nth ks i) = (i : Int) := by rw [List.length_take, Nat.min_eq_left (by omega)]; rfl
   obtain ⟨hN1, hN2, hN3⟩ := lv_next (q := q) (m := m) (out := out) (ok := ok) (st := (i : Int)) hi ⟨rfl, rfl, rfl⟩ hstp
   have htn := tot_nth hi
   have htk1 := tots_take ks (i + 1)
   rw [take_nth hi, tots_app] at htk1
   simp only [V.tots] at htk1
   have hs1 := sizes_totL (ks.take i)
   have hlen : m + V.sizes (ks.take i) = (out ++ lvS q (ks.take i) 63 t).length := by rw [List.length_append, lvS_len, hm]
   have cx_lvi : ∀ G', Gh.le Gq G' → ∀ pa' pc', SlV G' (.slice pa' (n + 1) pc') 1 (n + 1) (rows strF (q.map decI) ++ [S (decI (i : Int))]) → FnM Tryz.prog 41 [Ag (vcF (nth cs i)), .slice pa' (n + 1) pc', .func (.func 42) (List.toArray []) (List.toArray [Pt bo 0, Pt bu 0])] G' [.acc (.slice a (m + V.sizes (ks.take i)) cap) tTxI 1 (m + V.sizes (ks.take i)) (rows strF (out ++ lvS q (ks.take i) 63 t)), okO bo (ok && okLs q (ks.take i) 63 t), ouO bu (.slice a (m + V.sizes (ks.take i)) cap)]
     (fun _ _ L' => ∃ a' cap', L' = [.acc (.slice a' (m + V.sizes (ks.take i) + (nth ks i).size) cap') tTxI 1 (m + V.sizes (ks.take i) + (nth ks i).size) (rows strF (out ++ lvS q (ks.take i) 63 t ++ lvT (q ++ [(i : Int)]) (nth ks i))), okO bo (ok && okLs q (ks.take i) 63 t && okL (q ++ [(i : Int)]) (nth ks i)), ouO bu (.slice a' (m + V.sizes (ks.take i) + (nth ks i).size) cap')]) := fun G' hG' pa' pc' hs' => ih _ (nth_mem hi) G' (nth cs i) (q ++ [(i : Int)]) (n + 1) pa' pc' bo bu _ a _ cap _ (reps_nth (reps_mono (hgq.trans hG') hks) i hi) (by simp [hn]) (by rw [rows_q]; exact hs') (snoc_in hq ⟨by omega, by omega⟩) hlen ⟨by omega, by omega⟩
   obtain ⟨kb, ko, kcc, e, hsx⟩ := hslq.expl (by omega)
   simp only [Value.slice.injEq] at e
   obtain ⟨rfl, -, rfl⟩ := e
   have hxi : nth cs i = nth cs i := rfl
   repeat' (first | (refine jR ?_) | (refine k_op rfl ?_; first | refine jV (g_ld rfl rfl rfl) ?_ | (refine jV (g_ldRx rfl rfl (by assumption) ?_ (by assumption)) ?_; (focus ((omega); done))) | (refine jV (g_iaddrN rfl rfl (by omega)) ?_) | refine c_al rfl rfl fun _ => ?_ | refine c_stA rfl rfl rfl rfl rfl rfl ?_) | (refine k_tt rfl (dTt (by omega)) ?_) | (refine k_ff rfl rfl ?_))
   rename_i x7
   simp only [vcF, VC.sl] at cx_lvi
   (refine k_any (s_any (id := 12) [.blk x7 (.cells (List.toArray [U8 ((nth cs i).what : Int), S (nth cs i).text, I (nth cs i).tag, .slice (nth cs i).a (nth cs i).n (nth cs i).c]) tValL (0, 0))] (by intro y hy; simp only [List.mem_cons, List.not_mem_nil, or_false] at hy ⊢; simp [hy]) mixed ?_); refine jU 8 [1, 2, 4, 7, 11] (bts 13 2198) ?_ ?_; (focus (repeat' (exact trivial))); (refine jG (bts 13 2199) 0 rfl (g_ldA rfl rfl rfl rfl) ?_); (refine jG (bts 13 2207) 3 rfl (g_lenL rfl) ?_); (refine jG (bts 13 2239) 5 rfl (g_lenL rfl) ?_); ((refine jG (bts 13 2303) 6 rfl (g_sl3 rfl rfl rfl ?_) ?_; (focus ((omega); done)))); refine jA 8 rfl ?_; (refine c_rt rfl rfl rfl (c_decimalN (by omega)) rfl ?_); refine jK (bts 13 2559) ?_; refine jA 9 rfl ?_; (refine c_bsl rfl rfl rfl rfl rfl rfl fun _ => ?_); refine jK (bts 13 3071) ?_; refine jA 10 rfl ?_; ((refine c_apC rfl rfl (by assumption) rfl rfl rfl rfl rfl rfl rfl rfl ?_ fun _ _ G2 hG2 hpth => ?_; (focus ((omega); done)))); refine jK (bts 13 4095) ?_; refine jA 12 rfl ?_; ((refine c_m3s rfl rfl rfl ((cx_lvi _) (by (repeat (assumption)); done) _ _ (by (repeat (assumption)); done)) rfl ?_; rintro _ G1 _ hle ⟨av, cv, rfl⟩; dsimp only [zA, fA]; (have hle := Gh.le.trans hG2 hle))); refine jK (bts 13 8191) ?_; refine x_done (by kernel_rfl) (k_bk ?_))
   all_goals repeat' (refine jM ?_)
   all_goals exact k_rd (i + 1, av, cv, _) ⟨by dsimp only; omega, hgq.trans hle⟩ (by dsimp only; omega) (by repeat' constructor) rfl (by dsimp only; rw [hN1, hN2, hN3]; repeat (first | exact List.Sublist.refl _ | apply List.Sublist.cons_cons | apply List.Sublist.cons))
  ·obtain rfl : i = ks.length := by omega
   rw [List.take_length]
   repeat' (first | (refine jR ?_) | (refine k_ff rfl (dFf (by omega)) ?_))
   exact k_re (vs := []) rfl trivial rfl (by repeat (first | exact List.nil_sublist _ | apply List.Sublist.cons_cons)) ⟨hgq, _, _, rfl⟩
 ·
  refine m_enter [(0, _), (1, _), (2, _)] Tryz.func41 (by kernel_rfl) Tryz.ntmps41 rfl rfl (by repeat' constructor) fun B hB hW => ?_
  repeat' (first | (refine jR ?_) | (refine k_op rfl ?_; first | refine c_bx rfl rfl rfl fun _ => ?_ | refine jV (g_ld rfl rfl rfl) ?_ | (refine jV (g_pickF rfl rfl rfl) ?_) | refine jV (g_lenL rfl) ?_) | (refine k_gf rfl rfl rfl ?_) | (refine k_ff rfl rfl ?_))
  rename_i x3
  refine Nx.perm (List.perm_append_comm (l₁ := [_]) (l₂ := [_, _, _])) ?_
  dsimp only [zA, fA]
  refine k_loop (ι := Nat × Option Addr × Nat × Gh) (fun i => i.1 ≤ ks.length ∧ Gh.le G i.2.2.2) (fun i => [(1, .slice pa n pc), (2, .func (.func 42) (List.toArray []) (List.toArray [Pt bo 0, Pt bu 0])), (3, Pt x3 0), (42, .slice ka ks.length kc), (43, I ks.length), (44, I i.1)]) (fun i => i.2.2.2) (fun i => [.acc (.slice i.2.1 (m + V.sizes (ks.take i.1)) i.2.2.1) tTxI 1 (m + V.sizes (ks.take i.1)) (rows strF (out ++ lvS q (ks.take i.1) 85 t)), okO bo (ok && okLs q (ks.take i.1) 85 t), ouO bu (.slice i.2.1 (m + V.sizes (ks.take i.1)) i.2.2.1), .blk x3 (.cells (List.toArray [U8 ((85 : Nat) : Int), S x, I t, .slice ka ks.length kc]) tValL (0, 0))]) (fun i => ks.length - i.1) (0, a, cap, G) ?_ (by repeat' constructor) rfl sRr (fun i Hi => ?_)
  ·exact ⟨Nat.zero_le _, Gh.le.refl _⟩
  obtain ⟨i, a, cap, Gq⟩ := i
  dsimp only at Hi ⊢
  obtain ⟨hi0, hgq⟩ := Hi
  by_cases hi : i < ks.length
  ·have hsq := hs.mono hgq
   have hslq := hsl.mono hgq
   have hstp : stepNo 85 t (ks.take i).length (nth ks i) = t := by rfl
   obtain ⟨hN1, hN2, hN3⟩ := lv_next (q := q) (m := m) (out := out) (ok := ok) (st := t) hi ⟨rfl, rfl, rfl⟩ hstp
   have htn := tot_nth hi
   have htk1 := tots_take ks (i + 1)
   rw [take_nth hi, tots_app] at htk1
   simp only [V.tots] at htk1
   have hs1 := sizes_totL (ks.take i)
   have hlen : m + V.sizes (ks.take i) = (out ++ lvS q (ks.take i) 85 t).length := by rw [List.length_append, lvS_len, hm]
   have cx_lvi : ∀ G', Gh.le Gq G' → ∀ pa' pc', SlV G' (.slice pa' (n + 1) pc') 1 (n + 1) (rows strF (q.map decI) ++ [S (decI (t))]) → FnM Tryz.prog 41 [Ag (vcF (nth cs i)), .slice pa' (n + 1) pc', .func (.func 42) (List.toArray []) (List.toArray [Pt bo 0, Pt bu 0])] G' [.acc (.slice a (m + V.sizes (ks.take i)) cap) tTxI 1 (m + V.sizes (ks.take i)) (rows strF (out ++ lvS q (ks.take i) 85 t)), okO bo (ok && okLs q (ks.take i) 85 t), ouO bu (.slice a (m + V.sizes (ks.take i)) cap)]
     (fun _ _ L' => ∃ a' cap', L' = [.acc (.slice a' (m + V.sizes (ks.take i) + (nth ks i).size) cap') tTxI 1 (m + V.sizes (ks.take i) + (nth ks i).size) (rows strF (out ++ lvS q (ks.take i) 85 t ++ lvT (q ++ [t]) (nth ks i))), okO bo (ok && okLs q (ks.take i) 85 t && okL (q ++ [t]) (nth ks i)), ouO bu (.slice a' (m + V.sizes (ks.take i) + (nth ks i).size) cap')]) := fun G' hG' pa' pc' hs' => ih _ (nth_mem hi) G' (nth cs i) (q ++ [t]) (n + 1) pa' pc' bo bu _ a _ cap _ (reps_nth (reps_mono (hgq.trans hG') hks) i hi) (by simp [hn]) (by rw [rows_q]; exact hs') (snoc_in hq ⟨by omega, by omega⟩) hlen ⟨by omega, by omega⟩
   obtain ⟨kb, ko, kcc, e, hsx⟩ := hslq.expl (by omega)
   simp only [Value.slice.injEq] at e
   obtain ⟨rfl, -, rfl⟩ := e
   have hxi : nth cs i = nth cs i := rfl
   repeat' (first | (refine jR ?_) | (refine k_op rfl ?_; first | refine jV (g_ld rfl rfl rfl) ?_ | (refine jV (g_ldRx rfl rfl (by assumption) ?_ (by assumption)) ?_; (focus ((omega); done))) | (refine jV (g_iaddrN rfl rfl (by omega)) ?_) | refine c_al rfl rfl fun _ => ?_ | refine c_stA rfl rfl rfl rfl rfl rfl ?_) | (refine k_tt rfl (by first | rfl | (refine decide_eq_true ?_; (omega))) ?_))
   rename_i x7
   simp only [vcF, VC.sl] at cx_lvi
   (refine k_any (s_any (id := 12) [.blk x7 (.cells (List.toArray [U8 ((nth cs i).what : Int), S (nth cs i).text, I (nth cs i).tag, .slice (nth cs i).a (nth cs i).n (nth cs i).c]) tValL (0, 0))] (by intro y hy; simp only [List.mem_cons, List.not_mem_nil, or_false] at hy ⊢; simp [hy]) mixed ?_); refine jU 8 [1, 2, 4, 7, 11] (bts 13 2198) ?_ ?_; (focus (repeat' (exact trivial))); (refine jG (bts 13 2199) 0 rfl (g_ldA rfl rfl rfl rfl) ?_); (refine jG (bts 13 2207) 3 rfl (g_lenL rfl) ?_); (refine jG (bts 13 2239) 5 rfl (g_lenL rfl) ?_); ((refine jG (bts 13 2303) 6 rfl (g_sl3 rfl rfl rfl ?_) ?_; (focus ((omega); done)))); refine jA 8 rfl ?_; (refine c_rt rfl rfl rfl (c_decimalN (by omega)) rfl ?_); refine jK (bts 13 2559) ?_; refine jA 9 rfl ?_; (refine c_bsl rfl rfl rfl rfl rfl rfl fun _ => ?_); refine jK (bts 13 3071) ?_; refine jA 10 rfl ?_; ((refine c_apC rfl rfl (by assumption) rfl rfl rfl rfl rfl rfl rfl rfl ?_ fun _ _ G2 hG2 hpth => ?_; (focus ((omega); done)))); refine jK (bts 13 4095) ?_; refine jA 12 rfl ?_; ((refine c_m3s rfl rfl rfl ((cx_lvi _) (by (repeat (assumption)); done) _ _ (by (repeat (assumption)); done)) rfl ?_; rintro _ G1 _ hle ⟨av, cv, rfl⟩; dsimp only [zA, fA]; (have hle := Gh.le.trans hG2 hle))); refine jK (bts 13 8191) ?_; refine x_done (by kernel_rfl) (k_bk ?_))
   all_goals repeat' (refine jM ?_)
   all_goals exact k_rd (i + 1, av, cv, _) ⟨by dsimp only; omega, hgq.trans hle⟩ (by dsimp only; omega) (by repeat' constructor) rfl (by dsimp only; rw [hN1, hN2, hN3]; repeat (first | exact List.Sublist.refl _ | apply List.Sublist.cons_cons | apply List.Sublist.cons))
  ·obtain rfl : i = ks.length := by omega
   rw [List.take_length]
   repeat' (first | (refine jR ?_) | (refine k_ff rfl (dFf (by omega)) ?_))
   exact k_re (vs := []) rfl trivial rfl (by repeat (first | exact List.nil_sublist _ | apply List.Sublist.cons_cons)) ⟨hgq, _, _, rfl⟩
end Go.E
namespace Go.E
set_option maxRecDepth 20000
set_option maxHeartbeats 2000000
open Go.Proofs
variable {G : Gh}
theorem c_lvRec {fs : List (Fld × V)} (htg : ∀ p ∈ fs, 0 ≤ p.1.tag ∧ p.1.tag ≤ 999999) (ih : ∀ p ∈ fs, LvI p.2) : LvI (.nd 82 [] 0 (fs.map fldV)) := by
 intro G c q n pa pc bo bu ok a m cap out hrep hn hs hq hm hto
 have hml : (fs.map fldV).length = fs.length := by simp
 have hnt : ∀ i, i < fs.length → nth (fs.map fldV) i = fldV (nth fs i) := fun i hi => by rw [nth_eq (by simpa using hi), nth_eq hi]; simp
 generalize fs.map fldV = ks at *
 obtain ⟨ka, kc, cs, rfl, hw2, ht, h61, hcl, hsl, hks⟩ := rep_inv hrep
 rw [nd_tot] at hto
 have hpc := slv_capL hs
 have hst := sizes_totL ks
 have hkl := tots_len ks
 have hsz : V.size (.nd 82 [] 0 ks) = V.sizes ks := by rw [V.size, if_neg (by simp [leafW])]
 rw [hsz, lvT_nd leafW_82 (by decide), okL_nd leafW_82 (by decide)]
 simp only [vcF, VC.sl]
 rw [show rows strF out = rows strF (out ++ lvS q (ks.take 0) 82 0) by rw [List.take_zero, lvS_nil, List.append_nil], show okO bo ok = okO bo (ok && okLs q (ks.take 0) 82 0) by rw [List.take_zero, okLs_nil, Bool.and_true]]
 clear h61 hsz
 refine m_enter [(0, _), (1, _), (2, _)] Tryz.func41 (by kernel_rfl) Tryz.ntmps41 rfl rfl (by repeat' constructor) fun B hB hW => ?_
 repeat' (first | (refine jR ?_) | (refine k_op rfl ?_; first | refine c_bx rfl rfl rfl fun _ => ?_ | refine jV (g_ld rfl rfl rfl) ?_ | (refine jV (g_pickF rfl rfl rfl) ?_) | refine jV (g_lenL rfl) ?_) | (refine k_gf rfl rfl rfl ?_) | (refine k_ff rfl rfl ?_))
 rename_i x3
 refine Nx.perm (List.perm_append_comm (l₁ := [_]) (l₂ := [_, _, _])) ?_
 dsimp only [zA, fA]
 refine k_loop (ι := Nat × Option Addr × Nat × Gh) (fun i => i.1 ≤ ks.length ∧ Gh.le G i.2.2.2) (fun i => [(1, .slice pa n pc), (2, .func (.func 42) (List.toArray []) (List.toArray [Pt bo 0, Pt bu 0])), (3, Pt x3 0), (42, .slice ka ks.length kc), (43, I ks.length), (44, I i.1)]) (fun i => i.2.2.2) (fun i => [.acc (.slice i.2.1 (m + V.sizes (ks.take i.1)) i.2.2.1) tTxI 1 (m + V.sizes (ks.take i.1)) (rows strF (out ++ lvS q (ks.take i.1) 82 0)), okO bo (ok && okLs q (ks.take i.1) 82 0), ouO bu (.slice i.2.1 (m + V.sizes (ks.take i.1)) i.2.2.1), .blk x3 (.cells (List.toArray [U8 ((82 : Nat) : Int), S [], I 0, .slice ka ks.length kc]) tValL (0, 0))]) (fun i => ks.length - i.1) (0, a, cap, G) ?_ (by repeat' constructor) rfl sRr (fun i Hi => ?_)
 ·exact ⟨Nat.zero_le _, Gh.le.refl _⟩
 obtain ⟨i, a, cap, Gq⟩ := i
 dsimp only at Hi ⊢
 obtain ⟨hi0, hgq⟩ := Hi
 by_cases hi : i < ks.length
 ·have hsq := hs.mono hgq
  have hslq := hsl.mono hgq
  have hki := hnt i (by omega)
  have hstp : stepNo 82 0 (ks.take i).length (nth ks i) = (nth fs i).1.tag := by rw [hki]; rfl
  have hsi : (nth ks i).size = (nth fs i).2.size := by rw [hki, V.size, if_neg (by simp [leafW]), V.sizes, V.sizes]; rfl
  obtain ⟨hN1, hN2, hN3⟩ := lv_next (q := q) (m := m) (out := out) (ok := ok) (st := (nth fs i).1.tag) (v := (nth fs i).2) hi ⟨by rw [hki]; exact lvT_fld, by rw [hki]; exact okL_fld, hsi⟩ hstp
  have htn : (nth fs i).2.tot + 20 ≤ V.tots ks := by
   have := tot_nth hi
   rw [hki] at this
   simp only [nd_tot, V.tots, List.length_nil] at this
   omega
  have htk1 := tots_take ks (i + 1)
  rw [take_nth hi, tots_app, hki] at htk1
  simp only [V.tots, nd_tot, List.length_nil] at htk1
  have hs1 := sizes_totL (ks.take i)
  have hlen : m + V.sizes (ks.take i) = (out ++ lvS q (ks.take i) 82 0).length := by rw [List.length_append, lvS_len, hm]
  have htag := htg _ (nth_mem (show i < fs.length by omega))
  have hrk := reps_nth (reps_mono hgq hks) i hi
  rw [hki] at hrk
  obtain ⟨kb2, ko2, kc2, dd, hxi, _, hsd, hrd, _⟩ := rep_uni hrk
  have hxd : nth [dd] 0 = dd := rfl
  have cx_lvi : ∀ G', Gh.le Gq G' → ∀ pa' pc', SlV G' (.slice pa' (n + 1) pc') 1 (n + 1) (rows strF (q.map decI) ++ [S (decI (nth fs i).1.tag)]) → FnM Tryz.prog 41 [Ag (vcF dd), .slice pa' (n + 1) pc', .func (.func 42) (List.toArray []) (List.toArray [Pt bo 0, Pt bu 0])] G' [.acc (.slice a (m + V.sizes (ks.take i)) cap) tTxI 1 (m + V.sizes (ks.take i)) (rows strF (out ++ lvS q (ks.take i) 82 0)), okO bo (ok && okLs q (ks.take i) 82 0), ouO bu (.slice a (m + V.sizes (ks.take i)) cap)]
    (fun _ _ L' => ∃ a' cap', L' = [.acc (.slice a' (m + V.sizes (ks.take i) + (nth fs i).2.size) cap') tTxI 1 (m + V.sizes (ks.take i) + (nth fs i).2.size) (rows strF (out ++ lvS q (ks.take i) 82 0 ++ lvT (q ++ [(nth fs i).1.tag]) (nth fs i).2)), okO bo (ok && okLs q (ks.take i) 82 0 && okL (q ++ [(nth fs i).1.tag]) (nth fs i).2), ouO bu (.slice a' (m + V.sizes (ks.take i) + (nth fs i).2.size) cap')]) := fun G' hG' pa' pc' hs' => ih _ (nth_mem (by omega)) G' dd (q ++ [(nth fs i).1.tag]) (n + 1) pa' pc' bo bu _ a _ cap _ (rep_mono hG' hrd) (by simp [hn]) (by rw [rows_q]; exact hs') (snoc_in hq htag) hlen ⟨by omega, by omega⟩
  obtain ⟨kb, ko, kcc, e, hsx⟩ := hslq.expl (by omega)
  simp only [Value.slice.injEq] at e
  obtain ⟨rfl, -, rfl⟩ := e
  repeat' (first | (refine jR ?_) | (refine k_op rfl ?_; first | refine jV (g_ld rfl rfl rfl) ?_ | (refine jV (g_ldRx rfl rfl (by assumption) ?_ (by assumption)) ?_; (focus ((omega); done))) | (refine jV (g_iaddrN rfl rfl (by omega)) ?_) | refine c_al rfl rfl fun _ => ?_ | refine c_stA rfl rfl rfl rfl rfl rfl ?_) | (refine k_tt rfl (by first | rfl | (refine decide_eq_true ?_; (omega))) ?_) | (refine k_ff rfl rfl ?_))
  rename_i x7
  simp only [vcF, VC.sl] at cx_lvi
  dsimp only [vcF, VC.sl]
  (refine k_any (s_any (id := 11) [] (fun _ h => absurd h (by simp)) mixed ?_); refine jU 6 [0, 2] (bts 8 5) ?_ ?_; (focus (repeat' (exact trivial))); refine x_all [1, 3] (by kernel_rfl) (by decide) ⟨?_, ?_, trivial⟩; (focus (refine x_opg rfl rfl ?_; (refine jV (g_ld rfl rfl rfl) ?_); refine jK (bts 8 7) ?_; refine jU 4 [6] (bts 8 71) ?_ ?_; (focus (repeat' (exact trivial))); refine jA 3 rfl ?_; (refine jV (g_ld rfl rfl rfl) ?_); refine jK (bts 8 79) ?_; ((refine jG (bts 8 95) 4 rfl (g_iaddr rfl rfl ?_) ?_; (focus ((omega); done)))); ((refine jG (bts 8 127) 5 rfl (g_ldRx rfl rfl (by assumption) ?_ (by assumption)) ?_; (focus ((simp only [List.length_append, List.length_cons, List.length_nil, List.length_take]; omega); done)))); refine jA 7 rfl ?_; (refine c_stA rfl rfl rfl rfl rfl rfl ?_); refine jK (bts 8 255) ?_; refine x_done (by kernel_rfl) (k_bk ?_))); rotate_left 1; (focus (refine x_opg rfl rfl ?_; (refine jV (g_ld rfl rfl rfl) ?_); refine jK (bts 8 13) ?_; ((refine jG (bts 8 29) 4 rfl (g_iaddr rfl rfl ?_) ?_; (focus ((omega); done)))); ((refine jG (bts 8 61) 5 rfl (g_ldRx rfl rfl (by assumption) ?_ (by assumption)) ?_; (focus ((simp only [List.length_append, List.length_cons, List.length_nil, List.length_take]; omega); done)))); refine jA 1 rfl ?_; (refine jV (g_ld rfl rfl rfl) ?_); refine jK (bts 8 63) ?_; refine jU 1 [6] (bts 8 127) ?_ ?_; (focus (repeat' (exact trivial))); refine jA 7 rfl ?_; (refine c_stA rfl rfl rfl rfl rfl rfl ?_); refine jK (bts 8 255) ?_; refine x_done (by kernel_rfl) (k_bk ?_))); rotate_left 1)
  all_goals repeat' (refine jR ?_)
  all_goals dsimp only [vcF, VC.sl]
  all_goals (refine k_any (s_any (id := 12) [.blk x7 (.cells (List.toArray [U8 (dd.what : Int), S dd.text, I dd.tag, .slice dd.a dd.n dd.c]) tValL (0, 0))] (by intro y hy; simp only [List.mem_cons, List.not_mem_nil, or_false] at hy ⊢; simp [hy]) mixed ?_); refine jU 8 [1, 2, 4, 7, 11] (bts 13 2198) ?_ ?_; (focus (repeat' (exact trivial))); (refine jG (bts 13 2199) 0 rfl (g_ldA rfl rfl rfl rfl) ?_); (refine jG (bts 13 2207) 3 rfl (g_lenL rfl) ?_); (refine jG (bts 13 2239) 5 rfl (g_lenL rfl) ?_); ((refine jG (bts 13 2303) 6 rfl (g_sl3 rfl rfl rfl ?_) ?_; (focus ((omega); done)))); refine jA 8 rfl ?_; (refine c_rt rfl rfl rfl (c_decimalN (by omega)) rfl ?_); refine jK (bts 13 2559) ?_; refine jA 9 rfl ?_; (refine c_bsl rfl rfl rfl rfl rfl rfl fun _ => ?_); refine jK (bts 13 3071) ?_; refine jA 10 rfl ?_; ((refine c_apC rfl rfl (by assumption) rfl rfl rfl rfl rfl rfl rfl rfl ?_ fun _ _ G2 hG2 hpth => ?_; (focus ((omega); done)))); refine jK (bts 13 4095) ?_; refine jA 12 rfl ?_; ((refine c_m3s rfl rfl rfl ((cx_lvi _) (by (repeat (assumption)); done) _ _ (by (repeat (assumption)); done)) rfl ?_; rintro _ G1 _ hle ⟨av, cv, rfl⟩; dsimp only [zA, fA]; (have hle := Gh.le.trans hG2 hle))); refine jK (bts 13 8191) ?_; refine x_done (by kernel_rfl) (k_bk ?_))
  all_goals repeat' (refine jM ?_)
  all_goals exact k_rd (i + 1, av, cv, _) ⟨by dsimp only; omega, hgq.trans hle⟩ (by dsimp only; omega) (by repeat' constructor) rfl (by dsimp only; rw [hN1, hN2, hN3]; repeat (first | exact List.Sublist.refl _ | apply List.Sublist.cons_cons | apply List.Sublist.cons))
 ·obtain rfl : i = ks.length := by omega
  rw [List.take_length]
  repeat' (first | (refine jR ?_) | (refine k_ff rfl (dFf (by omega)) ?_))
  exact k_re (vs := []) rfl trivial rfl (by repeat (first | exact List.nil_sublist _ | apply List.Sublist.cons_cons)) ⟨hgq, _, _, rfl⟩
theorem c_leavesI {ts : List Ty} (hw : SchW ts) {k : List UInt8} {v : V} (h : OfK ts k v) : LvI v := by
 induction h with
 | num k m h1 h2 => exact c_lvLeaf (.inl rfl)
 | txt k x h1 => exact c_lvLeaf (.inr (.inl rfl))
 | flg k x h1 => exact c_lvLeaf (.inr (.inr (.inl rfl)))
 | lst k ks h1 h2 ih => exact c_lvKids (.inl rfl) (by omega) ih
 | non k => exact c_lvLeaf (.inr (.inr (.inr (.inr rfl))))
 | opt k v h1 ih => exact c_lvKids (.inr (.inl ⟨rfl, by simp⟩)) (by simp) (fun u hu => by simp only [List.mem_singleton] at hu; subst hu; exact ih)
 | recd k t fs h1 h2 h3 h4 h5 h6 ih =>
  have hTW := hw.ty t (refT_mem h1)
  refine c_lvRec (fun p hp => ?_) ih
  have := (hTW.fld _ (h3 p hp)).tag
  omega
 | enm k t d h1 h2 h3 => exact c_lvLeaf (.inr (.inr (.inr (.inl rfl))))
 | uni k t d v h1 h2 h3 h4 h5 ih => exact c_lvKids (.inr (.inr rfl)) (by simp) (fun u hu => by simp only [List.mem_singleton] at hu; subst hu; exact ih)
theorem c_PathLeavesI {s k w : List UInt8} (h : s.length ≤ 1048576 ∧ k.length ≤ 1048576 ∧ w.length ≤ 1048576) : FnS Tryz.prog 14 [S s, S k, S w] G (fun v G' => ∃ a c ls, v = Tu [.slice a ls.length c, Bo (leavesV s k w).isSome] ∧ SlV G' (.slice a ls.length c) 1 ls.length (rows strF ls) ∧ (∀ l, leavesV s k w = some l → ls = l) ∧ (leavesV s k w = none → ls = [])) := by
 unfold leavesV
 cases hg : givenV s k w with
 | none =>
  have cx_gi0 := c_given0 (G := G) h hg
  refine jB [(0, _), (1, _), (2, _)] Tryz.func14 Tryz.ntmps14 fun B hok hB hW => ?_
  repeat' (first | (refine jR ?_) | (refine k_op rfl ?_; first | refine c_al rfl rfl fun _ => ?_ | refine c_st1 rfl rfl rfl rfl ?_ | refine c_stA rfl rfl rfl rfl rfl rfl ?_ | refine jV (g_ld rfl rfl rfl) ?_ | (refine c_fns rfl rfl rfl cx_gi0 rfl ?_; rintro _ G hle ⟨p1, a1, b1, c1, rfl⟩; skip)) | (refine k_tt rfl rfl ?_))
  refine jZ (vs := [_, _]) rfl ⟨rfl, rfl, trivial⟩ rfl ⟨hle, rfl, ?_⟩
  exact ⟨_, _, [], rfl, SlV.nil0, fun l h => (by cases h), fun _ => rfl⟩
 | some u =>
  obtain ⟨ts, hs, hki, hvo, hto, hwf⟩ := given_some hg
  have hw := schemaOf_w hs
  have hof := valOf_of_k hvo
  have cx_gi1 := c_given1 (G := G) h hs hki hvo
  have hsz := size_totL u
  dsimp only
  refine jB [(0, _), (1, _), (2, _)] Tryz.func14 Tryz.ntmps14 fun B hok hB hW => ?_
  repeat' (first | (refine jR ?_) | (refine k_op rfl ?_; first | refine c_al rfl rfl fun _ => ?_ | refine c_st1 rfl rfl rfl rfl ?_ | refine c_stA rfl rfl rfl rfl rfl rfl ?_ | refine jV (g_ld rfl rfl rfl) ?_ | refine jV (g_ldA rfl rfl rfl rfl) ?_ | refine jV (g_mkf rfl rfl) ?_ | (refine c_fns rfl rfl rfl cx_gi1 rfl ?_; rintro _ G hle ⟨bg, qg, cv, rfl, hTg, hRg, hrv⟩; skip)) | (refine k_ff rfl rfl ?_))
  rename_i x9 x10 x11 x12
  refine Nx.addNil tTxI 1 ?_
  have hlv := c_leavesI hw hof G cv [] 0 none 0 x11 x12 true none 0 0 [] hrv rfl SlV.nil0 (by simp) rfl ⟨by omega, by omega⟩
  have hle0 := hle
  refine k_op rfl ?_
  refine c_m3s rfl rfl rfl hlv rfl ?_
  rintro _ G1 _ hle1 ⟨av, cv2, rfl⟩
  dsimp only [zA, fA]
  rw [Nat.zero_add]
  have hoL : okL [] u = u.leaves.all fun r => decide (r.length ≤ 8) := rfl
  rw [← hoL]
  have hll : (lvT [] u).length = u.size := lvT_len
  clear hlv
  cases hok8 : okL [] u with
  | false =>
   rw [Bool.and_false]
   repeat' (first | (refine jR ?_) | (refine k_op rfl ?_; (refine jV (g_ld rfl rfl rfl) ?_)) | (refine k_tt rfl rfl ?_))
   refine jZ (vs := [_, _]) rfl ⟨rfl, rfl, trivial⟩ rfl ⟨(hle0.trans hle1), rfl, ?_⟩
   exact ⟨_, _, [], rfl, SlV.nil0, fun l h => (by cases h), fun _ => rfl⟩
  | true =>
   rw [Bool.and_true]
   repeat' (first | (refine jR ?_) | (refine k_op rfl ?_; (refine jV (g_ld rfl rfl rfl) ?_)) | (refine k_ff rfl rfl ?_))
   refine Nx.sealS (v := .slice av u.size cv2) fun G2 hG2 hsl => ?_
   refine jZ (vs := [_, _]) rfl ⟨rfl, rfl, trivial⟩ rfl ⟨(hle0.trans (hle1.trans hG2)), rfl, ?_⟩
   rw [← hll] at hsl ⊢
   exact ⟨_, _, lvT [] u, rfl, hsl, fun l h => by simpa using h, fun h => (by cases h)⟩
theorem c_DrawValueSize {v : Value} {l : List UInt8} (hs : SlV G v 1 l.length (u8s l)) : PuG Tryz.prog 11 [v] G (fun r => ∃ s k x, r = Tu [S s, S k, S x] ∧ s.length ≤ 1048576 ∧ k.length ≤ 1048576 ∧ x.length ≤ 1048576) := by
 refine jE [(0, _)] Tryz.func11 Tryz.ntmps11 fun B hB => ?_
 repeat' (first | (refine jR ?_) | (refine k_op rfl ?_; first | (refine c_fng rfl rfl rfl (c_l6Open (by (repeat (assumption)); done)) rfl ?_; rintro _ _ ⟨b, code, l, rfl, rfl, hcd, hcl⟩; dsimp only [zA, fA]) | (refine c_m1g rfl rfl rfl (c_l91Three ?_ (by (repeat (assumption)); done)) rfl ?_; (focus ((omega); done)); rintro _ _ ⟨sc, kd, tx, q1, rfl, ⟨hsc, hkd, htx⟩, rfl, hq1, hq2⟩; dsimp only [zA, fA])))
 exact jZ (vs := [_, _, _]) rfl ⟨rfl, rfl, rfl, trivial⟩ rfl ⟨rfl, rfl, _, _, _, rfl, by omega, by omega, by omega⟩
theorem leavesV_size {s k w : List UInt8} {ls : List (List UInt8)} (h : leavesV s k w = some ls) : sizeV s k w = ls.length := by
 unfold leavesV at h
 unfold sizeV
 cases hg : givenV s k w with
 | none => rw [hg] at h; cases h
 | some u =>
  rw [hg] at h
  dsimp only at h ⊢
  split at h
  ·simp only [Option.some.injEq] at h
   subst h
   rw [lvT_len]
  ·cases h
theorem c_FnValueSize {v : Value} {l : List UInt8} (hs : SlV G v 1 l.length (u8s l)) : PuG Tryz.prog 4 [v] G (· = Bo true) := by
 obtain ⟨a, cap, rfl⟩ := hs.sl
 refine jB (Post := fun v G' L' => G' = G ∧ L' = [] ∧ _) [(0, _)] Tryz.func4 Tryz.ntmps4 fun B hok hB hW => ?_
 repeat' (first | (refine jR ?_) | (refine k_op rfl ?_; first | refine jV (g_lenL rfl) ?_ | (refine c_pu rfl rfl rfl (c_DrawValueSize (by (repeat (assumption)); done)) rfl ?_; rintro _ ⟨s1, k1, x1, rfl, hsz⟩)) | refine k_if rfl (fun _ => ?_) (fun _ => ?_))
 ·refine Nx.base hok hB ?_
  refine jZ (vs := [_]) rfl ⟨rfl, trivial⟩ rfl ⟨rfl, rfl, ?_⟩
  rfl
 have cx_vs2 := c_ValueSizeI (G := G) hsz
 have cx_vs1 := c_ValueSizeS (G := G) hsz
 cases h : leavesV s1 k1 x1 with
 | none =>
  have cx_pli0 : FnS Tryz.prog 14 [S s1, S k1, S x1] G (fun v _ => ∃ a n c, v = Tu [.slice a n c, Bo false]) := (c_PathLeavesI hsz).mono fun v G' L' ⟨g1, g2, a, c, ls, g3, _⟩ => ⟨g1, g2, a, ls.length, c, by rw [g3, h]; rfl⟩
  generalize sizeV s1 k1 x1 = z at *
  repeat' (first | (refine jR ?_) | (refine k_op rfl ?_; first | (refine jV (g_pickT rfl rfl rfl) ?_) | (refine jV (g_pickF rfl rfl rfl) ?_) | (refine c_rt rfl rfl rfl cx_vs2 rfl ?_) | (refine c_rt rfl rfl rfl cx_vs1 rfl ?_) | (refine c_fns rfl rfl rfl cx_pli0 rfl ?_; rintro _ G hle ⟨pa1, pn1, pc1, rfl⟩; skip)) | (refine k_gt rfl rfl rfl ?_) | (refine k_gf rfl rfl ?_ ?_; (focus ((simp [*]; done); done))) | refine k_cd rfl (fun _ => ?_) (fun _ => ?_))
  all_goals refine Nx.base hok hB ?_
  all_goals refine jZ (vs := [_]) rfl ⟨rfl, trivial⟩ rfl ⟨rfl, rfl, ?_⟩
  all_goals (first | rfl | exact congrArg Value.bool (decide_eq_true rfl))
 | some ls =>
  have hz := leavesV_size h
  have cx_pli1 : FnS Tryz.prog 14 [S s1, S k1, S x1] G (fun v G' => ∃ a c, v = Tu [.slice a ls.length c, Bo true] ∧ SlV G' (.slice a ls.length c) 1 ls.length (rows strF ls)) := (c_PathLeavesI hsz).mono fun v G' L' ⟨g1, g2, a, c, ls', g3, g4, g5, _⟩ => by
   obtain rfl := g5 ls h
   exact ⟨g1, g2, a, c, by rw [g3, h]; rfl, g4⟩
  rw [hz] at cx_vs1 cx_vs2
  repeat' (first | (refine jR ?_) | (refine k_op rfl ?_; first | refine jV (g_lenL rfl) ?_ | (refine jV (g_pickF rfl rfl rfl) ?_) | (refine c_rt rfl rfl rfl cx_vs2 rfl ?_) | (refine c_rt rfl rfl rfl cx_vs1 rfl ?_) | (refine c_fns rfl rfl rfl cx_pli1 rfl ?_; rintro _ G hle ⟨pa1, pc1, rfl, hlvs⟩; skip)) | (refine k_gf rfl rfl ?_ ?_; (focus ((first | rfl | (simp [*]; done)); done))) | (refine k_ff rfl rfl ?_))
  all_goals refine Nx.base hok hB ?_
  all_goals refine jZ (vs := [_]) rfl ⟨rfl, trivial⟩ rfl ⟨rfl, rfl, ?_⟩
  all_goals (exact congrArg Value.bool (decide_eq_true rfl))
end Go.E
