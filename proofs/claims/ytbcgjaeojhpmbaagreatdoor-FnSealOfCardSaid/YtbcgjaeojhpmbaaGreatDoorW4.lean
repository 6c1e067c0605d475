/- Contracts and plain laws that the statement rests on, part 4. Conditions: as each says. -/
import Derived.Test.YtbcgjaeojhpmbaaGreatDoorW3
set_option linter.unusedVariables false
set_option linter.unusedSimpArgs false
namespace Go.E
set_option maxRecDepth 20000
set_option maxHeartbeats 2000000
open Go.Proofs
variable {G : Gh}
theorem kind0_nth {t : Ty} : kind0 t = (nth t.fields 0).kind := by
 unfold kind0 nth
 cases t.fields with
 | nil => rfl
 | cons f r => rfl
theorem tag0_nth {t : Ty} : tag0 t = (nth t.fields 0).tag := by
 unfold tag0 nth
 cases t.fields with
 | nil => rfl
 | cons f r => rfl
theorem decI_len6 {n : Int} (h : 0 ≤ n ∧ n ≤ 9223372036854775807) : (decI n).length ≤ 19 := decI_len h.2
theorem plainOf_len (k : List UInt8) : (plainOf k).length ≤ 2 := by
 unfold plainOf
 split
 ·simp
 ·split
  ·simp
  ·split <;> simp
theorem SchW.tag0 {ts : List Ty} (h : SchW ts) {t : Ty} (ht : t ∈ ts) : 0 ≤ Go.E.tag0 t ∧ Go.E.tag0 t ≤ 200 := by
 rw [tag0_nth]
 by_cases h0 : 0 < t.fields.length
 ·have := ((h.ty t ht).fld _ (nth_mem h0)).tag; omega
 ·have : t.fields = [] := List.eq_nil_of_length_eq_zero (by omega)
  rw [this]; exact ⟨Int.le_refl _, by decide⟩
theorem standN_len {ts : List Ty} (h : SchW ts) : ∀ (n : Nat) (k : List UInt8), (standN ts n k).length ≤ 30 * n
 | 0, k => by simp [standN]
 | n + 1, [] => by simp [standN]
 | n + 1, c :: r => by
  unfold standN
  split
  ·simp; omega
  ·split
   ·simp; omega
   ·split
    ·have := plainOf_len (c :: r); omega
    ·rename_i t ht
     have h1 := h.tag0 (refT_mem ht)
     have h2 := decI_len6 (n := tag0 t) (by omega)
     have h3 := standN_len h n (kind0 t)
     split
     ·simp; omega
     ·split
      ·simp; omega
      ·simp; omega
theorem kind_in {ts : List Ty} (h : SchW ts) {t : Ty} (ht : t ∈ ts) (hs : t.sort ≠ 69) {f : Fld} (hf : f ∈ t.fields) : kindIn ts f.kind = true := by
 unfold kindIn
 rw [((h.ty t ht).fld f hf).kind hs, Bool.true_and]
 obtain ⟨i, hi, rfl⟩ := List.mem_iff_getElem.1 ht
 obtain ⟨j, hj, rfl⟩ := List.mem_iff_getElem.1 hf
 have h1 := (h.valid.1 i hi).2
 rw [nth_eq hi] at h1
 rcases h1 with h1 | h1
 ·exact absurd h1 hs
 ·have := h1 j hj
  rwa [nth_eq hj] at this
theorem kindIn_ok {ts : List Ty} {k : List UInt8} (h : kindIn ts k = true) : kindOk k = true := by
 unfold kindIn at h; simp only [Bool.and_eq_true] at h; exact h.1
theorem core_self {c : UInt8} {r : List UInt8} (h : ¬ (c.toNat = 91 ∨ c.toNat = 63)) : core (c :: r) = c :: r := by rw [core, if_neg h]
theorem ends_of {ts : List Ty} (h : SchW ts) {k : List UInt8} (t : Ty) (ht : refT ts k = some t) : endsN ts (ts.length + 1) t = true := by
 obtain ⟨i, hi, rfl⟩ := List.mem_iff_getElem.1 (refT_mem ht)
 have := h.valid.2 i hi
 rwa [nth_eq hi] at this
theorem c_standsS {u : Value} {vs : List TyX} (h : SchR G u vs) (hw : SchW (tys vs)) : ∀ (n : Nat) {k : List UInt8}, n ≤ 1000 → kindIn (tys vs) k = true → (∀ t, refT (tys vs) k = some t → endsN (tys vs) n t = true) →
  PuG Tryz.prog 138 [u, S k] G (· = S (standN (tys vs) (n + 1) k)) := by
 have hvl : vs.length ≤ 1000000 := by have := hw.len; rw [tys_len] at this; omega
 intro n
 induction n with
 | zero =>
  intro k hn hk he
  have hko := kindIn_ok hk
  have hkk := kindOk_kOk hko
  match k, hkk with
  | c :: r, hkk =>
   have e0 := bt_c0 c r
   by_cases h1 : c.toNat = 91
   ·refine jE [(0, _), (1, _)] Tryz.func138 Tryz.ntmps138 fun B hB => ?_
    repeat' (first | (refine run (t := tb) 400 rfl ?_ ?_; (focus (repeat' (first | exact trivial | apply And.intro | omega | (simp only [List.length_append, List.length_cons, List.length_nil, Int.toNat_natCast]; omega))))) | (refine k_tt rfl ?_ ?_; (focus ((simp [*]; done); done))))
    all_goals refine jZ (vs := [_]) rfl ⟨rfl, trivial⟩ rfl ⟨rfl, rfl, ?_⟩
    all_goals (rw [oneOf_one]; unfold standN; rw [if_pos h1])
   by_cases h2 : c.toNat = 63
   ·refine jE [(0, _), (1, _)] Tryz.func138 Tryz.ntmps138 fun B hB => ?_
    repeat' (first | (refine run (t := tb) 400 rfl ?_ ?_; (focus (repeat' (first | exact trivial | apply And.intro | omega | (simp only [List.length_append, List.length_cons, List.length_nil, Int.toNat_natCast]; omega))))) | (refine k_tt rfl ?_ ?_; (focus ((simp [*]; done); done))) | (refine k_ff rfl ?_ ?_; (focus ((simp [*]; done); done))))
    all_goals refine jZ (vs := [_]) rfl ⟨rfl, trivial⟩ rfl ⟨rfl, rfl, ?_⟩
    all_goals (rw [oneOf_one]; unfold standN; rw [if_neg h1, if_pos h2])
   have href := refV_ty vs (c :: r)
   have cx_rf := c_ref (k := c :: r) h hvl hkk.1 (by omega)
   cases hr : refV vs (c :: r) with
   | some x => rw [hr] at href; have := he _ href.symm; cases this
   | none =>
    rw [hr] at href cx_rf
    refine jE [(0, _), (1, _)] Tryz.func138 Tryz.ntmps138 fun B hB => ?_
    repeat' (first | (refine run (t := tb) 400 rfl ?_ ?_; (focus (repeat' (first | exact trivial | apply And.intro | omega | (simp only [List.length_append, List.length_cons, List.length_nil, Int.toNat_natCast]; omega))))) | (refine k_op rfl ?_; first | refine c_al rfl rfl fun _ => ?_ | refine c_stA rfl rfl rfl rfl rfl rfl ?_ | (refine c_rt rfl rfl rfl cx_rf rfl ?_) | (refine c_rt rfl rfl rfl c_l3Plain rfl ?_)) | (refine k_tt rfl rfl ?_) | (refine k_ff rfl ?_ ?_; (focus ((simp; omega); done))))
    all_goals refine jZ (vs := [_]) rfl ⟨rfl, trivial⟩ rfl ⟨rfl, rfl, ?_⟩
    all_goals (rw [oneOf_one]; unfold standN; rw [if_neg h1, if_neg h2, ← href]; rfl)
 | succ n ih =>
  intro k hn hk he
  have hko := kindIn_ok hk
  have hkk := kindOk_kOk hko
  match k, hkk with
  | c :: r, hkk =>
   have e0 := bt_c0 c r
   by_cases h1 : c.toNat = 91
   ·refine jE [(0, _), (1, _)] Tryz.func138 Tryz.ntmps138 fun B hB => ?_
    repeat' (first | (refine run (t := tb) 400 rfl ?_ ?_; (focus (repeat' (first | exact trivial | apply And.intro | omega | (simp only [List.length_append, List.length_cons, List.length_nil, Int.toNat_natCast]; omega))))) | (refine k_tt rfl ?_ ?_; (focus ((simp [*]; done); done))))
    all_goals refine jZ (vs := [_]) rfl ⟨rfl, trivial⟩ rfl ⟨rfl, rfl, ?_⟩
    all_goals (rw [oneOf_one]; unfold standN; rw [if_pos h1])
   by_cases h2 : c.toNat = 63
   ·refine jE [(0, _), (1, _)] Tryz.func138 Tryz.ntmps138 fun B hB => ?_
    repeat' (first | (refine run (t := tb) 400 rfl ?_ ?_; (focus (repeat' (first | exact trivial | apply And.intro | omega | (simp only [List.length_append, List.length_cons, List.length_nil, Int.toNat_natCast]; omega))))) | (refine k_tt rfl ?_ ?_; (focus ((simp [*]; done); done))) | (refine k_ff rfl ?_ ?_; (focus ((simp [*]; done); done))))
    all_goals refine jZ (vs := [_]) rfl ⟨rfl, trivial⟩ rfl ⟨rfl, rfl, ?_⟩
    all_goals (rw [oneOf_one]; unfold standN; rw [if_neg h1, if_pos h2])
   have href := refV_ty vs (c :: r)
   have cx_rf := c_ref (k := c :: r) h hvl hkk.1 (by omega)
   rcases hr : refV vs (c :: r) with _ | ⟨⟨a, ca⟩, t⟩
   ·rw [hr] at href cx_rf
    refine jE [(0, _), (1, _)] Tryz.func138 Tryz.ntmps138 fun B hB => ?_
    repeat' (first | (refine run (t := tb) 400 rfl ?_ ?_; (focus (repeat' (first | exact trivial | apply And.intro | omega | (simp only [List.length_append, List.length_cons, List.length_nil, Int.toNat_natCast]; omega))))) | (refine k_op rfl ?_; first | refine c_al rfl rfl fun _ => ?_ | refine c_stA rfl rfl rfl rfl rfl rfl ?_ | (refine c_rt rfl rfl rfl cx_rf rfl ?_) | (refine c_rt rfl rfl rfl c_l3Plain rfl ?_)) | (refine k_tt rfl rfl ?_) | (refine k_ff rfl ?_ ?_; (focus ((simp; omega); done))))
    all_goals refine jZ (vs := [_]) rfl ⟨rfl, trivial⟩ rfl ⟨rfl, rfl, ?_⟩
    all_goals (rw [oneOf_one]; unfold standN; rw [if_neg h1, if_neg h2, ← href]; rfl)
   rw [hr] at href cx_rf
   have hrf : refT (tys vs) (c :: r) = some t := href.symm
   have htm := refT_mem hrf
   have hW := hw.ty t htm
   have htg := hw.tag0 htm
   rw [tag0_nth] at htg
   have e3 : standN (tys vs) (n + 1 + 1) (c :: r) = if t.sort = 82 then [123, 125] else if t.sort = 69 then 35 :: decI (tag0 t) else 60 :: (decI (tag0 t) ++ 61 :: (standN (tys vs) (n + 1) (kind0 t) ++ [62])) := by
    rw [standN, if_neg h1, if_neg h2, hrf]
   rw [e3, tag0_nth, kind0_nth]
   clear e3
   by_cases s1 : t.sort = 82
   ·rw [if_pos s1]
    refine jE [(0, _), (1, _)] Tryz.func138 Tryz.ntmps138 fun B hB => ?_
    repeat' (first | (refine run (t := tb) 400 rfl ?_ ?_; (focus (repeat' (first | exact trivial | apply And.intro | omega | (simp only [List.length_append, List.length_cons, List.length_nil, Int.toNat_natCast]; omega))))) | (refine k_op rfl ?_; first | refine c_al rfl rfl fun _ => ?_ | refine c_stA rfl rfl rfl rfl rfl rfl ?_ | refine jV (g_ld rfl rfl rfl) ?_ | (refine c_rt rfl rfl rfl cx_rf rfl ?_)) | (refine k_tt rfl ?_ ?_; (focus ((simp [*]; done); done))) | (refine k_ff rfl ?_ ?_; (focus ((first | rfl | (simp; omega)); done))))
    all_goals refine jZ (vs := [_]) rfl ⟨rfl, trivial⟩ rfl ⟨rfl, rfl, ?_⟩
    all_goals rfl
   have h0 : 0 < t.fields.length := List.length_pos_iff.2 (hW.ne s1)
   obtain ⟨bf, of, cf, ef, hsf⟩ := (h.fl _ (refV_mem hr)).expl h0
   simp only [slX, Value.slice.injEq] at ef
   obtain ⟨rfl, -, rfl⟩ := ef
   dsimp only at hsf
   have cx_rf : PuG Tryz.prog 132 [u, S (c :: r)] G (· = Tu [Ag [U8 t.sort, S t.name, .slice (some ⟨bf, of, none⟩) t.fields.length ca], Bo true]) := cx_rf
   have hdl := decI_len6 (n := (nth t.fields 0).tag) (by omega)
   rw [if_neg s1]
   by_cases s2 : t.sort = 69
   ·rw [if_pos s2]
    refine jE [(0, _), (1, _)] Tryz.func138 Tryz.ntmps138 fun B hB => ?_
    repeat' (first | (refine run (t := tb) 400 rfl ?_ ?_; (focus (repeat' (first | exact trivial | apply And.intro | omega | (simp only [List.length_append, List.length_cons, List.length_nil, Int.toNat_natCast]; omega))))) | (refine k_op rfl ?_; first | refine c_al rfl rfl fun _ => ?_ | refine c_stA rfl rfl rfl rfl rfl rfl ?_ | refine jV (g_ld rfl rfl rfl) ?_ | (refine jV (g_ldRF rfl rfl (by assumption) ?_ rfl rfl) ?_; (focus ((omega); done))) | (refine jV (g_iaddrN rfl rfl (by omega)) ?_) | (refine c_rt rfl rfl rfl cx_rf rfl ?_) | (refine c_rt rfl rfl rfl (c_l6Dec ?_) rfl ?_; (focus ((simp; omega); done)))) | (refine k_tt rfl (dTt (by omega)) ?_) | (refine k_ff rfl ?_ ?_; (focus ((first | rfl | (refine decide_eq_false ?_; (omega)) | (simp; omega)); done))))
    all_goals refine jZ (vs := [_]) rfl ⟨rfl, trivial⟩ rfl ⟨rfl, rfl, ?_⟩
    all_goals rfl
   have hin := kind_in hw htm s2 (nth_mem h0)
   have hen : ∀ t', refT (tys vs) (nth t.fields 0).kind = some t' → endsN (tys vs) n t' = true := by
    intro t' ht'
    have := he t hrf
    have s3 : t.sort = 85 := by rcases hW.sort with h | h | h <;> omega
    rw [endsN, if_neg (by simp [s3]), kind0_nth, ht'] at this
    exact this
   have cx_std := ih (k := (nth t.fields 0).kind) (by omega) hin hen
   have hsl := standN_len hw (n + 1) (nth t.fields 0).kind
   rw [if_neg s2]
   refine jE [(0, _), (1, _)] Tryz.func138 Tryz.ntmps138 fun B hB => ?_
   repeat' (first | (refine run (t := tb) 400 rfl ?_ ?_; (focus (repeat' (first | exact trivial | apply And.intro | omega | (simp only [List.length_append, List.length_cons, List.length_nil, Int.toNat_natCast]; omega))))) | (refine k_op rfl ?_; first | refine c_al rfl rfl fun _ => ?_ | refine c_stA rfl rfl rfl rfl rfl rfl ?_ | refine jV (g_ld rfl rfl rfl) ?_ | (refine c_rt rfl rfl rfl cx_rf rfl ?_)) | (refine k_ff rfl ?_ ?_; (focus ((first | rfl | (refine decide_eq_false ?_; (omega)) | (simp; omega)); done))) | (refine k_any (s_any (id := 13) _ (fun _ h => h) mixed ?_); refine jT 15 [0, 8, 9] (bts 18 769) ?_; (refine jG (bts 18 771) 1 rfl (g_ld rfl rfl rfl) ?_); (refine jG (bts 18 775) 2 rfl (g_iaddrN rfl rfl (by omega)) ?_); refine jT 12 [3] (bts 18 783) ?_; ((refine jG (bts 18 799) 4 rfl (g_ldRF rfl rfl (by assumption) ?_ rfl rfl) ?_; (focus ((omega); done)))); (refine jG (bts 18 1823) 10 rfl (g_ld rfl rfl rfl) ?_); (refine jG (bts 18 3871) 11 rfl (g_iaddrN rfl rfl (by omega)) ?_); refine jT 8 [12] (bts 18 7967) ?_; ((refine jG (bts 18 16159) 13 rfl (g_ldRF rfl rfl (by assumption) ?_ rfl rfl) ?_; (focus ((omega); done)))); refine jA 5 rfl ?_; ((refine c_rt rfl rfl rfl (c_l6Dec ?_) rfl ?_; (focus ((simp; omega); done)))); refine jS (bts 18 16191) ?_; refine jU 4 [6, 7] (bts 18 16383) ?_ ?_; (focus (repeat' (first | exact trivial | apply And.intro | (simp only [List.length_append, List.length_cons, List.length_nil, Int.toNat_natCast]; omega)))); refine jA 14 rfl ?_; (refine c_rt rfl rfl rfl cx_std rfl ?_); refine jS (bts 18 32767) ?_; refine jU 0 [15, 16, 17] (bts 18 262143) ?_ ?_; (focus (repeat' (first | exact trivial | apply And.intro | (simp only [List.length_append, List.length_cons, List.length_nil, Int.toNat_natCast]; omega)))); refine x_done (by kernel_rfl) (k_bk ?_)))
   all_goals refine jZ (vs := [_]) rfl ⟨rfl, trivial⟩ rfl ⟨rfl, rfl, ?_⟩
   all_goals (rw [oneOf_one]; simp)
theorem c_standKS {u : Value} {vs : List TyX} (h : SchR G u vs) (hw : SchW (tys vs)) {k : List UInt8} (hk : kindIn (tys vs) k = true) : PuG Tryz.prog 138 [u, S k] G (· = S (standK (tys vs) k)) :=
 c_standsS h hw ((tys vs).length + 1) (by have := hw.len; omega) hk (fun t ht => ends_of hw t ht)
theorem sg_cons {c : UInt8} {r : List UInt8} (h : c.toNat = 91 ∨ c.toNat = 63) : sg (c :: r) = c :: sg r := by
 unfold sg
 rw [core, if_pos h]
 have := core_len' r
 rw [List.length_cons, show r.length + 1 - (core r).length = (r.length - (core r).length) + 1 by omega]
 rfl
theorem sg_none {c : UInt8} {r : List UInt8} (h : ¬ (c.toNat = 91 ∨ c.toNat = 63)) : sg (c :: r) = [] := by
 unfold sg; rw [core_self h]; simp
theorem c_sign0 {b c : List UInt8} : PuG Tryz.prog 68 [Ag [S [], S b, S c]] G (· = U8 (0 : Nat)) := by
 refine jE [(0, _)] Tryz.func68 Tryz.ntmps68 fun B hB => ?_
 repeat' (first | (refine jR ?_) | (refine k_op rfl ?_; first | refine c_bx rfl rfl rfl fun _ => ?_ | refine jV (g_ld rfl rfl rfl) ?_) | (refine k_tt rfl rfl ?_))
 all_goals refine jZ (vs := [_]) rfl ⟨rfl, trivial⟩ rfl ⟨rfl, rfl, ?_⟩
 all_goals rfl
theorem c_sign1 {x : UInt8} {a b c : List UInt8} : PuG Tryz.prog 68 [Ag [S (x :: a), S b, S c]] G (· = U8 (x.toNat : Nat)) := by
 have e0 := bt_c0 x a
 refine jE [(0, _)] Tryz.func68 Tryz.ntmps68 fun B hB => ?_
 repeat' (first | (refine run (t := tb) 400 rfl ?_ ?_; (focus (repeat' (first | exact trivial | apply And.intro | omega | (simp only [List.length_append, List.length_cons, List.length_nil, Int.toNat_natCast]; omega))))) | (refine k_op rfl ?_; first | refine c_bx rfl rfl rfl fun _ => ?_ | refine jV (g_ld rfl rfl rfl) ?_) | (refine k_ff rfl rfl ?_))
 all_goals refine jZ (vs := [_]) rfl ⟨rfl, trivial⟩ rfl ⟨rfl, rfl, ?_⟩
 all_goals (rw [oneOf_one]; (rfl))
theorem bs_plain {k : List UInt8} (hk : kindOk k = true) (hr : refN (core k) = none) : bs k = [110] ∨ bs k = [116] ∨ bs k = [102] := by
 have h := core_kOk (kindOk_kOk hk).1
 unfold bs
 cases hc : core k with
 | nil => rw [hc] at h; cases h
 | cons c r =>
  rw [hc] at h hr
  have h64 : ¬ c.toNat = 64 := by
   intro h64
   simp [refN, h64] at hr
  have h91 : ¬ (c.toNat = 91 ∨ c.toNat = 63) := core_head hc
  have e : bsT (c :: r) = c :: r := by simp [bsT, h64]
  rw [e]
  rw [kOk, if_neg h91, if_neg h64] at h
  simp only [Bool.and_eq_true, Bool.or_eq_true, decide_eq_true_eq] at h
  obtain ⟨rfl, h⟩ := h
  have hu : ∀ n : Nat, c.toNat = n → n < 256 → c = UInt8.ofNat n := fun n h1 h2 => by
   apply UInt8.toNat_inj.1; rw [h1, UInt8.toNat_ofNat']; omega
  rcases h with (h | h) | h
  ·exact .inl (by rw [hu _ h (by decide)]; rfl)
  ·exact .inr (.inl (by rw [hu _ h (by decide)]; rfl))
  ·exact .inr (.inr (by rw [hu _ h (by decide)]; rfl))
theorem ScI.W {b : Nat} {qs : List TyP} (_ : ScI G b qs) (hw : SchW (tyq qs)) {q : TyP} (hq : q ∈ qs) : q.2 ∈ tyq qs ∧ TyW q.2 := by
 have h1 : q.2 ∈ tyq qs := List.mem_map_of_mem hq
 exact ⟨h1, hw.ty _ h1⟩
theorem plain_bs {k : List UInt8} (hs : sg k = []) (hk : kindOk k = true) (hr : refN (core k) = none) : plainOf k = plainOf (bs k) := by
 match k, hk with
 | c :: r, hk =>
  have h91 : ¬ (c.toNat = 91 ∨ c.toNat = 63) := fun h => by rw [sg_cons h] at hs; cases hs
  have hc := core_self (r := r) h91
  have h64 : ¬ c.toNat = 64 := fun h64 => by rw [hc] at hr; simp [refN, h64] at hr
  unfold bs; rw [hc]; simp [bsT, h64]
theorem c_standsI {b : Nat} {qs : List TyP} (h : ScI G b qs) (hw : SchW (tyq qs)) : ∀ (n : Nat) {k : List UInt8}, n ≤ 1000 → kindIn (tyq qs) k = true → (∀ t, refT (tyq qs) k = some t → endsN (tyq qs) n t = true) →
  PuG Tryz.prog 36 [Pt b 0, Ag [S (sg k), S (bs k), S (nm k)]] G (· = S (standN (tyq qs) (n + 1) k)) := by
 obtain ⟨u, m, g1, g2, g3⟩ := h.at'
 intro n
 induction n with
 | zero =>
  intro k hn hk he
  have hko := kindIn_ok hk
  match k, hko with
  | c :: r, hko =>
   by_cases h91 : c.toNat = 91 ∨ c.toNat = 63
   ·have cx_sign := @c_sign1 G c (sg r) (bs (c :: r)) (nm (c :: r))
    rw [sg_cons h91]
    by_cases h1 : c.toNat = 91
    ·refine jE [(0, _), (1, _)] Tryz.func36 Tryz.ntmps36 fun B hB => ?_
     repeat' (first | (refine jR ?_) | (refine k_op rfl ?_; first | refine c_bx rfl rfl rfl fun _ => ?_ | refine jV (g_ldA rfl rfl rfl rfl) ?_ | (refine c_rt rfl rfl rfl cx_sign rfl ?_)) | (refine k_tt rfl (dTt (by omega)) ?_))
     all_goals refine jZ (vs := [_]) rfl ⟨rfl, trivial⟩ rfl ⟨rfl, rfl, ?_⟩
     all_goals (rw [oneOf_one]; unfold standN; rw [if_pos h1])
    have h2 : c.toNat = 63 := by omega
    refine jE [(0, _), (1, _)] Tryz.func36 Tryz.ntmps36 fun B hB => ?_
    repeat' (first | (refine jR ?_) | (refine k_op rfl ?_; first | refine c_bx rfl rfl rfl fun _ => ?_ | refine jV (g_ldA rfl rfl rfl rfl) ?_ | (refine c_rt rfl rfl rfl cx_sign rfl ?_)) | (refine k_tt rfl (dTt (by omega)) ?_) | (refine k_ff rfl (dFf (by omega)) ?_))
    all_goals refine jZ (vs := [_]) rfl ⟨rfl, trivial⟩ rfl ⟨rfl, rfl, ?_⟩
    all_goals (rw [oneOf_one]; unfold standN; rw [if_neg h1, if_pos h2])
   have hsg := sg_none (r := r) h91
   have hcs := core_self (r := r) h91
   rw [hsg]
   cases hrf : refT (tyq qs) (c :: r) with
   | some t => have := he t hrf; cases this
   | none =>
    have hrn : refN (core (c :: r)) = none := by
     cases hx : refN (core (c :: r)) with
     | none => rfl
     | some x =>
      obtain ⟨t, ht⟩ := kind_refT hk (by rw [hx]; rfl)
      rw [hcs, hrf] at ht; cases ht
    have hpl := plain_bs hsg hko hrn
    have e3 : standN (tyq qs) (0 + 1) (c :: r) = plainOf (bs (c :: r)) := by
     rw [standN, if_neg (by omega), if_neg (by omega), hrf]; exact hpl
    rw [e3]
    rcases bs_plain hko hrn with e | e | e
    all_goals
     rw [e]
     refine jE [(0, _), (1, _)] Tryz.func36 Tryz.ntmps36 fun B hB => ?_
     repeat' (first | (refine jR ?_) | (refine k_op rfl ?_; first | refine c_bx rfl rfl rfl fun _ => ?_ | refine jV (g_ld rfl rfl rfl) ?_ | refine jV (g_ldA rfl rfl rfl rfl) ?_ | (refine c_rt rfl rfl rfl c_sign0 rfl ?_)) | (refine k_tt rfl rfl ?_) | (refine k_ff rfl rfl ?_))
     all_goals refine jZ (vs := [_]) rfl ⟨rfl, trivial⟩ rfl ⟨rfl, rfl, ?_⟩
     all_goals rfl
 | succ n ih =>
  intro k hn hk he
  have hko := kindIn_ok hk
  match k, hko with
  | c :: r, hko =>
   by_cases h91 : c.toNat = 91 ∨ c.toNat = 63
   ·have cx_sign := @c_sign1 G c (sg r) (bs (c :: r)) (nm (c :: r))
    rw [sg_cons h91]
    by_cases h1 : c.toNat = 91
    ·refine jE [(0, _), (1, _)] Tryz.func36 Tryz.ntmps36 fun B hB => ?_
     repeat' (first | (refine jR ?_) | (refine k_op rfl ?_; first | refine c_bx rfl rfl rfl fun _ => ?_ | refine jV (g_ldA rfl rfl rfl rfl) ?_ | (refine c_rt rfl rfl rfl cx_sign rfl ?_)) | (refine k_tt rfl (dTt (by omega)) ?_))
     all_goals refine jZ (vs := [_]) rfl ⟨rfl, trivial⟩ rfl ⟨rfl, rfl, ?_⟩
     all_goals (rw [oneOf_one]; unfold standN; rw [if_pos h1])
    have h2 : c.toNat = 63 := by omega
    refine jE [(0, _), (1, _)] Tryz.func36 Tryz.ntmps36 fun B hB => ?_
    repeat' (first | (refine jR ?_) | (refine k_op rfl ?_; first | refine c_bx rfl rfl rfl fun _ => ?_ | refine jV (g_ldA rfl rfl rfl rfl) ?_ | (refine c_rt rfl rfl rfl cx_sign rfl ?_)) | (refine k_tt rfl (dTt (by omega)) ?_) | (refine k_ff rfl (dFf (by omega)) ?_))
    all_goals refine jZ (vs := [_]) rfl ⟨rfl, trivial⟩ rfl ⟨rfl, rfl, ?_⟩
    all_goals (rw [oneOf_one]; unfold standN; rw [if_neg h1, if_pos h2])
   have hsg := sg_none (r := r) h91
   have hcs := core_self (r := r) h91
   rw [hsg]
   cases hrf : refT (tyq qs) (c :: r) with
   | none =>
    have hrn : refN (core (c :: r)) = none := by
     cases hx : refN (core (c :: r)) with
     | none => rfl
     | some x =>
      obtain ⟨t, ht⟩ := kind_refT hk (by rw [hx]; rfl)
      rw [hcs, hrf] at ht; cases ht
    have hpl := plain_bs hsg hko hrn
    have e3 : standN (tyq qs) (n + 1 + 1) (c :: r) = plainOf (bs (c :: r)) := by
     rw [standN, if_neg (by omega), if_neg (by omega), hrf]; exact hpl
    rw [e3]
    rcases bs_plain hko hrn with e | e | e
    all_goals
     rw [e]
     refine jE [(0, _), (1, _)] Tryz.func36 Tryz.ntmps36 fun B hB => ?_
     repeat' (first | (refine jR ?_) | (refine k_op rfl ?_; first | refine c_bx rfl rfl rfl fun _ => ?_ | refine jV (g_ld rfl rfl rfl) ?_ | refine jV (g_ldA rfl rfl rfl rfl) ?_ | (refine c_rt rfl rfl rfl c_sign0 rfl ?_)) | (refine k_tt rfl rfl ?_) | (refine k_ff rfl rfl ?_))
     all_goals refine jZ (vs := [_]) rfl ⟨rfl, trivial⟩ rfl ⟨rfl, rfl, ?_⟩
     all_goals rfl
   | some t =>
    have hrn : (refN (core (c :: r))).isSome = true := by
     rw [hcs]; unfold refT at hrf
     cases hx : refN (c :: r) with
     | none => rw [hx] at hrf; cases hrf
     | some x => rfl
    have hbs : bs (c :: r) = [64] := (bs_at hko).2 hrn
    have hnm : refN (c :: r) = some (nm (c :: r)) := by
     unfold nm; rw [hcs] at hrn ⊢
     cases hx : refN (c :: r) with
     | none => rw [hx] at hrn; cases hrn
     | some x => rfl
    have hft : findT (tyq qs) (nm (c :: r)) = some t := by unfold refT at hrf; rw [hnm] at hrf; exact hrf
    have hkv := kvF_find qs (nm (c :: r))
    rw [← findQ_ty] at hft
    rcases hfq : findQ qs (nm (c :: r)) with _ | ⟨p, t'⟩
    ·rw [hfq] at hft; cases hft
    rw [hfq] at hft hkv
    dsimp only [Option.map_some] at hft hkv
    have htt : t' = t := Option.some.inj hft
    subst htt
    have hqm := findQ_mem hfq
    have htm := refT_mem hrf
    have hW := hw.ty t' htm
    have htg := hw.tag0 htm
    rw [tag0_nth] at htg
    obtain ⟨fv, ln, hsg2, hfv⟩ := h.ty _ hqm
    dsimp only at hsg2 hfv
    have e3 : standN (tyq qs) (n + 1 + 1) (c :: r) = if t'.sort = 82 then [123, 125] else if t'.sort = 69 then 35 :: decI (tag0 t') else 60 :: (decI (tag0 t') ++ 61 :: (standN (tyq qs) (n + 1) (kind0 t') ++ [62])) := by
     rw [standN, if_neg (by omega), if_neg (by omega), hrf]
    rw [e3, tag0_nth, kind0_nth, hbs]
    clear e3 hcs hsg hrn hnm hbs
    by_cases s1 : t'.sort = 82
    ·rw [if_pos s1]
     refine jE [(0, _), (1, _)] Tryz.func36 Tryz.ntmps36 fun B hB => ?_
     repeat' (first | (refine jR ?_) | (refine k_op rfl ?_; first | refine c_bx rfl rfl rfl fun _ => ?_ | refine jV (g_ld rfl rfl rfl) ?_ | refine jV (g_ldA rfl rfl rfl rfl) ?_ | refine jV (g_ldS rfl rfl (by assumption) rfl rfl) ?_ | (refine c_rt rfl rfl rfl c_sign0 rfl ?_)) | (refine k_tt rfl (dTt (by omega)) ?_) | (refine k_ff rfl rfl ?_) | (refine k_any (s_any (id := 13) _ (fun _ h => h) mixed ?_); refine jT 4 [0, 1, 2, 4] (bts 8 23) ?_; (refine jG (bts 8 31) 3 rfl (g_ldS rfl rfl (by assumption) rfl rfl) ?_); (refine jG (bts 8 63) 5 rfl (g_ld rfl rfl rfl) ?_); ((refine jG (bts 8 127) 6 rfl (g_lookupX rfl rfl (map_G (by assumption)) (by assumption) rfl) ?_)); refine jT 0 [7] (bts 8 255) ?_; refine x_done (by kernel_rfl) (k_bk ?_)))
     all_goals refine jZ (vs := [_]) rfl ⟨rfl, trivial⟩ rfl ⟨rfl, rfl, ?_⟩
     all_goals rfl
    have h0 : 0 < t'.fields.length := List.length_pos_iff.2 (hW.ne s1)
    obtain ⟨bf, of, cf, rfl, hsf⟩ := hfv.expl h0
    have hdl := decI_len6 (n := (nth t'.fields 0).tag) (by omega)
    rw [if_neg s1]
    by_cases s2 : t'.sort = 69
    ·rw [if_pos s2]
     refine jE [(0, _), (1, _)] Tryz.func36 Tryz.ntmps36 fun B hB => ?_
     repeat' (first | (refine run (t := tb) 400 rfl ?_ ?_; (focus (repeat' (first | exact trivial | apply And.intro | (simp only [List.length_append, List.length_cons, List.length_nil, Int.toNat_natCast]; omega))))) | (refine k_op rfl ?_; first | refine c_bx rfl rfl rfl fun _ => ?_ | refine jV (g_ld rfl rfl rfl) ?_ | (refine jV (g_ldRF rfl rfl (by assumption) ?_ rfl rfl) ?_; (focus ((omega); done))) | refine jV (g_ldA rfl rfl rfl rfl) ?_ | refine jV (g_ldS rfl rfl (by assumption) rfl rfl) ?_ | (refine jV (g_iaddrN rfl rfl (by omega)) ?_) | (refine c_rt rfl rfl rfl c_sign0 rfl ?_) | (refine c_rt rfl rfl rfl (c_decimalN ?_) rfl ?_; (focus ((simp; omega); done)))) | (refine k_tt rfl (dTt (by omega)) ?_) | (refine k_ff rfl (by first | rfl | (refine decide_eq_false ?_; (omega))) ?_) | (refine k_any (s_any (id := 13) _ (fun _ h => h) mixed ?_); refine jT 4 [0, 1, 2, 4] (bts 8 23) ?_; (refine jG (bts 8 31) 3 rfl (g_ldS rfl rfl (by assumption) rfl rfl) ?_); (refine jG (bts 8 63) 5 rfl (g_ld rfl rfl rfl) ?_); ((refine jG (bts 8 127) 6 rfl (g_lookupX rfl rfl (map_G (by assumption)) (by assumption) rfl) ?_)); refine jT 0 [7] (bts 8 255) ?_; refine x_done (by kernel_rfl) (k_bk ?_)))
     all_goals refine jZ (vs := [_]) rfl ⟨rfl, trivial⟩ rfl ⟨rfl, rfl, ?_⟩
     all_goals rfl
    have hin := kind_in hw htm s2 (nth_mem h0)
    have hen : ∀ t2, refT (tyq qs) (nth t'.fields 0).kind = some t2 → endsN (tyq qs) n t2 = true := by
     intro t2 ht2
     have := he t' hrf
     have s3 : t'.sort = 85 := by rcases hW.sort with h | h | h <;> omega
     rw [endsN, if_neg (by simp [s3]), kind0_nth, ht2] at this
     exact this
    have cx_std := ih (k := (nth t'.fields 0).kind) (by omega) hin hen
    have hsl := standN_len hw (n + 1) (nth t'.fields 0).kind
    rw [if_neg s2]
    refine jE [(0, _), (1, _)] Tryz.func36 Tryz.ntmps36 fun B hB => ?_
    repeat' (first | (refine jR ?_) | (refine k_op rfl ?_; first | refine c_bx rfl rfl rfl fun _ => ?_ | refine jV (g_ld rfl rfl rfl) ?_ | refine jV (g_ldA rfl rfl rfl rfl) ?_ | refine jV (g_ldS rfl rfl (by assumption) rfl rfl) ?_ | (refine c_rt rfl rfl rfl c_sign0 rfl ?_)) | (refine k_ff rfl (by first | rfl | (refine decide_eq_false ?_; (omega))) ?_) | (refine k_any (s_any (id := 13) _ (fun _ h => h) mixed ?_); refine jT 4 [0, 1, 2, 4] (bts 8 23) ?_; (refine jG (bts 8 31) 3 rfl (g_ldS rfl rfl (by assumption) rfl rfl) ?_); (refine jG (bts 8 63) 5 rfl (g_ld rfl rfl rfl) ?_); ((refine jG (bts 8 127) 6 rfl (g_lookupX rfl rfl (map_G (by assumption)) (by assumption) rfl) ?_)); refine jT 0 [7] (bts 8 255) ?_; refine x_done (by kernel_rfl) (k_bk ?_)) | (refine k_any (s_any (id := 19) _ (fun _ h => h) mixed ?_); refine jT 15 [0, 1, 2, 10, 11, 12, 13] (bts 22 15367) ?_; (refine jG (bts 22 15375) 3 rfl (g_ldS rfl rfl (by assumption) rfl rfl) ?_); (refine jG (bts 22 15391) 4 rfl (g_iaddrN rfl rfl (by omega)) ?_); refine jT 12 [5] (bts 22 15423) ?_; ((refine jG (bts 22 15487) 6 rfl (g_ldRF rfl rfl (by assumption) ?_ rfl rfl) ?_; (focus ((omega); done)))); (refine jG (bts 22 31871) 14 rfl (g_ldS rfl rfl (by assumption) rfl rfl) ?_); (refine jG (bts 22 64639) 15 rfl (g_iaddrN rfl rfl (by omega)) ?_); refine jT 8 [16] (bts 22 130175) ?_; ((refine jG (bts 22 261247) 17 rfl (g_ldRA rfl rfl (by assumption) ?_ rfl rfl) ?_; (focus ((omega); done)))); refine jA 7 rfl ?_; ((refine c_rt rfl rfl rfl (c_decimalN ?_) rfl ?_; (focus ((simp; omega); done)))); refine jS (bts 22 261375) ?_; refine jU 4 [8, 9] (bts 22 262143) ?_ ?_; (focus (repeat' (first | exact trivial | apply And.intro | (simp only [List.length_append, List.length_cons, List.length_nil, Int.toNat_natCast]; omega)))); refine jA 18 rfl ?_; (refine c_rt rfl rfl rfl cx_std rfl ?_); refine jS (bts 22 524287) ?_; refine jU 0 [19, 20, 21] (bts 22 4194303) ?_ ?_; (focus (repeat' (first | exact trivial | apply And.intro | (simp only [List.length_append, List.length_cons, List.length_nil, Int.toNat_natCast]; omega)))); refine x_done (by kernel_rfl) (k_bk ?_)))
    all_goals refine jZ (vs := [_]) rfl ⟨rfl, trivial⟩ rfl ⟨rfl, rfl, ?_⟩
    all_goals (rw [oneOf_one]; simp)
theorem c_standKI {b : Nat} {qs : List TyP} (h : ScI G b qs) (hw : SchW (tyq qs)) {k : List UInt8} (hk : kindIn (tyq qs) k = true) : PuG Tryz.prog 36 [Pt b 0, Ag [S (sg k), S (bs k), S (nm k)]] G (· = S (standK (tyq qs) k)) :=
 c_standsI h hw ((tyq qs).length + 1) (by have := hw.len; omega) hk (fun t ht => ends_of hw t ht)
theorem find_at {α : Type} [Inhabited α] {p : α → Bool} : ∀ {l : List α} {i : Nat}, i < l.length → (∀ k, k < i → p (nth l k) = false) → p (nth l i) = true → l.find? p = some (nth l i)
 | [], i, hi, _, _ => by simp at hi
 | a :: l, 0, _, _, h => by
  have h : p a = true := h
  rw [List.find?_cons, h]; rfl
 | a :: l, i + 1, hi, hno, h => by
  have h0 : p a = false := hno 0 (by omega)
  rw [List.find?_cons, h0]
  exact find_at (l := l) (i := i) (by simpa using hi) (fun k hk => hno (k + 1) (by omega)) h
theorem find_no {α : Type} [Inhabited α] {p : α → Bool} {l : List α} (hno : ∀ k, k < l.length → p (nth l k) = false) : l.find? p = none := by
 rw [List.find?_eq_none]
 intro x hx
 obtain ⟨i, hi, rfl⟩ := List.mem_iff_getElem.1 hx
 have := hno i hi
 rw [nth_eq hi] at this
 simp [this]
theorem fldT_at {fs : List Fld} {tag : Int} {i : Nat} (hi : i < fs.length) (hno : ∀ k, k < i → (nth fs k).tag ≠ tag) (h : (nth fs i).tag = tag) : fldT fs tag = some (nth fs i) :=
 find_at hi (fun k hk => by simpa using hno k hk) (by simpa using h)
theorem fldT_no {fs : List Fld} {tag : Int} (hno : ∀ k, k < fs.length → (nth fs k).tag ≠ tag) : fldT fs tag = none := find_no fun k hk => by simpa using hno k hk
theorem fldT_some {fs : List Fld} {tag : Int} {f : Fld} (h : fldT fs tag = some f) : ∃ i, i < fs.length ∧ (∀ k, k < i → (nth fs k).tag ≠ tag) ∧ (nth fs i).tag = tag ∧ nth fs i = f := by
 have hex : ∃ i, i < fs.length ∧ (nth fs i).tag = tag := by
  have hm := List.mem_of_find?_eq_some h
  have ht := List.find?_some h
  obtain ⟨i, hi, rfl⟩ := List.mem_iff_getElem.1 hm
  exact ⟨i, hi, by rw [nth_eq hi]; simpa using ht⟩
 obtain ⟨i, hi, ht⟩ := hex
 induction i using Nat.strongRecOn with
 | _ i ih =>
  by_cases hc : ∃ k, k < i ∧ (nth fs k).tag = tag
  ·obtain ⟨k, hk, hkt⟩ := hc
   exact ih k hk (by omega) hkt
  ·have hno : ∀ k, k < i → (nth fs k).tag ≠ tag := fun k hk e => hc ⟨k, hk, e⟩
   refine ⟨i, hi, hno, ht, ?_⟩
   rw [fldT_at hi hno ht] at h
   exact Option.some.inj h
abbrev zF : Fld := ⟨0, [], [], []⟩
abbrev tFldS : TypeId := 136
abbrev tTyS : TypeId := 153
theorem c_fieldS {x : TyX} {tag : Int} (hf : SlV G (slX x) 4 x.2.fields.length (rows fldF x.2.fields)) (hl : x.2.fields.length ≤ 1000) :
  PuG Tryz.prog 137 [Ag [U8 x.2.sort, S x.2.name, slX x], I tag] G (· = Tu [Ag (fldF ((fldT x.2.fields tag).getD zF)), Bo (fldT x.2.fields tag).isSome]) := by
 obtain ⟨⟨a, ca⟩, t⟩ := x
 simp only [slX] at hf ⊢
 dsimp only at hl
 refine jE [(0, _), (1, _)] Tryz.func137 Tryz.ntmps137 fun B hB => ?_
 repeat' (first | (refine jR ?_) | (refine k_op rfl ?_; first | refine c_bx rfl rfl rfl fun _ => ?_ | refine c_al rfl rfl fun _ => ?_))
 rename_i y z
 refine k_loop (ι := Nat) (fun i => i ≤ t.fields.length ∧ ∀ k, k < i → (nth t.fields k).tag ≠ tag) (fun i => [(1, I tag), (2, Pt y 0), (4, Pt z 0), (6, I i)]) (fun _ => G) (fun i => [.blk z (.cells [I 0, S [], S [], S []].toArray tFldS (0, 0)), .blk y (.cells [U8 t.sort, S t.name, .slice a t.fields.length ca].toArray tTyS (0, 0))]) (fun i => t.fields.length - i) 0 ?_ (by repeat' constructor) rfl sRr (fun i Hi => ?_)
 ·exact ⟨Nat.zero_le _, fun k hk => absurd hk (by omega)⟩
 by_cases hi : i < t.fields.length
 ·obtain ⟨bf, of, cf, e, hs⟩ := hf.expl (by omega)
  simp only [Value.slice.injEq] at e
  obtain ⟨rfl, -, rfl⟩ := e
  repeat' (first | refine jM ?_ | (refine k_op rfl ?_; first | refine jV (g_ld rfl rfl rfl) ?_ | (refine jV (g_ldR rfl rfl (by assumption) ?_) ?_; (focus ((omega); done))) | (refine jV (g_ldRF rfl rfl (by assumption) ?_ rfl rfl) ?_; (focus ((omega); done))) | refine jV (g_lenL rfl) ?_ | (refine jV (g_iaddrN rfl rfl (by omega)) ?_) | refine c_stA rfl rfl rfl rfl rfl rfl ?_) | (refine k_tt rfl (dTt (by omega)) ?_) | refine k_if rfl (fun _ => ?_) (fun _ => ?_))
  ·rename_i he
   refine jZ (vs := [_, _]) rfl ⟨rc_A rfl rfl rfl rfl, rfl, trivial⟩ rfl ⟨rfl, rfl, ?_⟩
   rw [fldT_at hi Hi.2 he]; rfl
  ·rename_i he
   refine k_rd (i + 1) ⟨by omega, fun k hk => ?_⟩ (by omega) (by repeat' constructor) rfl sRr
   rcases Nat.lt_or_ge k i with h3 | h3
   ·exact Hi.2 k h3
   ·have : k = i := by omega
    subst this; exact he
 ·repeat' (first | (refine jR ?_) | (refine k_op rfl ?_; first | refine jV (g_ld rfl rfl rfl) ?_ | refine jV (g_lenL rfl) ?_ | refine c_stA rfl rfl rfl rfl rfl rfl ?_ | refine jV (g_bld rfl rfl) ?_) | (refine k_ff rfl (dFf (by omega)) ?_))
  refine jZ (vs := [_, _]) rfl ⟨rc_A rfl rfl rfl rfl, rfl, trivial⟩ rfl ⟨rfl, rfl, ?_⟩
  rw [fldT_no fun k hk => Hi.2 k (by omega)]; rfl
theorem c_fieldI0 {b : Nat} {t : Ty} {fv : Value} {ln : List UInt8} {tag : Int} (hs : Seg G b 0 [U8 t.sort, S t.name, fv, S ln]) (hf : SlV G fv 6 t.fields.length (rows fiF t.fields)) (hl : t.fields.length ≤ 1000) (h : fldT t.fields tag = none) :
  PuG Tryz.prog 103 [Pt b 0, I tag] G (· = .pointer none) := by
 have hno : ∀ k, k < t.fields.length → (nth t.fields k).tag ≠ tag := fun k hk e => by
  have h1 := List.find?_eq_none.1 h (nth t.fields k) (nth_mem hk)
  exact h1 (by simpa using e)
 refine jE [(0, _), (1, _)] Tryz.func103 Tryz.ntmps103 fun B hB => ?_
 repeat' (first | (refine jR ?_) | (refine k_op rfl ?_; first | refine jV (g_ldS rfl rfl (by assumption) rfl rfl) ?_ | refine jV (g_lenV rfl (by assumption)) ?_))
 refine k_loop (ι := Nat) (fun i => i ≤ t.fields.length) (fun i => [(0, Pt b 0), (1, I tag), (10, I t.fields.length), (11, I i)]) (fun _ => G) (fun i => []) (fun i => t.fields.length - i) 0 ?_ (by repeat' constructor) rfl sRr (fun i Hi => ?_)
 ·exact Nat.zero_le _
 by_cases hi : i < t.fields.length
 ·obtain ⟨bf, of, cf, rfl, hsf⟩ := hf.expl (by omega)
  have h2 := hno i hi
  repeat' (first | refine jM ?_ | (refine k_op rfl ?_; first | (refine jV (g_ldRF rfl rfl (by assumption) ?_ rfl rfl) ?_; (focus ((omega); done))) | refine jV (g_ldS rfl rfl (by assumption) rfl rfl) ?_ | (refine jV (g_iaddrN rfl rfl (by omega)) ?_)) | (refine k_tt rfl (dTt (by omega)) ?_) | (refine k_ff rfl (dFf ‹_›) ?_))
  exact k_rd (i + 1) (by omega) (by omega) (by repeat' constructor) rfl sRr
 ·repeat' (first | (refine jR ?_) | (refine k_ff rfl (dFf (by omega)) ?_))
  refine jZ (vs := [_]) rfl ⟨rfl, trivial⟩ rfl ⟨rfl, rfl, ?_⟩
  rfl
theorem c_fieldI1 {b bf of cf j : Nat} {t : Ty} {ln : List UInt8} {tag : Int} (hs : Seg G b 0 [U8 t.sort, S t.name, .slice (some ⟨bf, of, none⟩) t.fields.length cf, S ln]) (hsf : Seg G bf of (rows fiF t.fields)) (hl : t.fields.length ≤ 1000) (hj : j < t.fields.length) (hno : ∀ k, k < j → (nth t.fields k).tag ≠ tag) (hat : (nth t.fields j).tag = tag) :
  PuG Tryz.prog 103 [Pt b 0, I tag] G (· = Pt bf (of + j * 6)) := by
 refine jE [(0, _), (1, _)] Tryz.func103 Tryz.ntmps103 fun B hB => ?_
 repeat' (first | (refine jR ?_) | (refine k_op rfl ?_; first | refine jV (g_ldS rfl rfl (by assumption) rfl rfl) ?_ | refine jV (g_lenL rfl) ?_))
 refine k_loop (ι := Nat) (fun i => i ≤ j) (fun i => [(0, Pt b 0), (1, I tag), (10, I t.fields.length), (11, I i)]) (fun _ => G) (fun i => []) (fun i => t.fields.length - i) 0 ?_ (by repeat' constructor) rfl sRr (fun i Hi => ?_)
 ·exact Nat.zero_le _
 by_cases hij : i = j
 ·subst hij
  repeat' (first | (refine jR ?_) | (refine k_op rfl ?_; first | (refine jV (g_ldRF rfl rfl (by assumption) ?_ rfl rfl) ?_; (focus ((omega); done))) | refine jV (g_ldS rfl rfl (by assumption) rfl rfl) ?_ | (refine jV (g_iaddrN rfl rfl (by omega)) ?_)) | (refine k_tt rfl (by refine decide_eq_true ?_; first | assumption | omega) ?_))
  all_goals refine jZ (vs := [_]) rfl ⟨rfl, trivial⟩ rfl ⟨rfl, rfl, ?_⟩
  all_goals rfl
 ·have h2 := hno i (by omega)
  repeat' (first | refine jM ?_ | (refine k_op rfl ?_; first | (refine jV (g_ldRF rfl rfl (by assumption) ?_ rfl rfl) ?_; (focus ((omega); done))) | refine jV (g_ldS rfl rfl (by assumption) rfl rfl) ?_ | (refine jV (g_iaddrN rfl rfl (by omega)) ?_)) | (refine k_tt rfl (dTt (by omega)) ?_) | (refine k_ff rfl (dFf ‹_›) ?_))
  exact k_rd (i + 1) (by omega) (by omega) (by repeat' constructor) rfl sRr
theorem c_standS {u : Value} {vs : List TyX} {f : Fld} (h : SchR G u vs) (hw : SchW (tys vs)) (hk : kindIn (tys vs) f.kind = true) :
  PuG Tryz.prog 98 [u, Ag [I f.tag, S f.name, S f.kind, S f.stand]] G (· = S (standF (tys vs) f)) := by
 have cx_std := c_standKS h hw hk
 unfold standF
 by_cases hs : f.stand = []
 ·rw [if_pos hs, hs]
  refine jE [(0, _), (1, _)] Tryz.func98 Tryz.ntmps98 fun B hB => ?_
  repeat' (first | (refine jR ?_) | (refine k_op rfl ?_; first | refine c_bx rfl rfl rfl fun _ => ?_ | refine jV (g_ld rfl rfl rfl) ?_ | (refine c_rt rfl rfl rfl cx_std rfl ?_)) | (refine k_ff rfl rfl ?_))
  all_goals refine jZ (vs := [_]) rfl ⟨rfl, trivial⟩ rfl ⟨rfl, rfl, ?_⟩
  all_goals rfl
 ·rw [if_neg hs]
  refine jE [(0, _), (1, _)] Tryz.func98 Tryz.ntmps98 fun B hB => ?_
  repeat' (first | (refine jR ?_) | (refine k_op rfl ?_; first | refine c_bx rfl rfl rfl fun _ => ?_ | refine jV (g_ld rfl rfl rfl) ?_) | (refine k_tt rfl (dTt ‹_›) ?_))
  all_goals refine jZ (vs := [_]) rfl ⟨rfl, trivial⟩ rfl ⟨rfl, rfl, ?_⟩
  all_goals rfl
theorem c_ofI {b bf of j : Nat} {qs : List TyP} {fs : List Fld} (h : ScI G b qs) (hw : SchW (tyq qs)) (hsf : Seg G bf of (rows fiF fs)) (hj : j < fs.length) (hk : kindIn (tyq qs) (nth fs j).kind = true) :
  PuG Tryz.prog 145 [Pt b 0, Pt bf (of + j * 6)] G (· = S (standF (tyq qs) (nth fs j))) := by
 have cx_std := c_standKI h hw hk
 unfold standF
 by_cases hs : (nth fs j).stand = []
 ·rw [if_pos hs]
  have hs2 : ¬ (nth fs j).stand ≠ [] := fun h => h hs
  refine jE [(0, _), (1, _)] Tryz.func145 Tryz.ntmps145 fun B hB => ?_
  repeat' (first | (refine jR ?_) | (refine k_op rfl ?_; first | (refine jV (g_ldRF rfl rfl (by assumption) ?_ rfl rfl) ?_; (focus ((omega); done))) | (refine jV (g_ldRA rfl rfl (by assumption) ?_ rfl rfl) ?_; (focus ((omega); done))) | (refine c_rt rfl rfl rfl cx_std rfl ?_)) | (refine k_ff rfl (dFf ‹_›) ?_))
  all_goals refine jZ (vs := [_]) rfl ⟨rfl, trivial⟩ rfl ⟨rfl, rfl, ?_⟩
  all_goals rfl
 ·rw [if_neg hs]
  refine jE [(0, _), (1, _)] Tryz.func145 Tryz.ntmps145 fun B hB => ?_
  repeat' (first | (refine jR ?_) | (refine k_op rfl ?_; (refine jV (g_ldRF rfl rfl (by assumption) ?_ rfl rfl) ?_; (focus ((omega); done)))) | (refine k_tt rfl (dTt ‹_›) ?_))
  all_goals refine jZ (vs := [_]) rfl ⟨rfl, trivial⟩ rfl ⟨rfl, rfl, ?_⟩
  all_goals rfl
abbrev tVal : TypeId := 48
abbrev tStP : TypeId := 9
theorem nd_tot {w : Nat} {x : List UInt8} {t : Int} {ks : List V} : V.tot (.nd w x t ks) = 20 + x.length + V.tots ks := by rw [V.tot]
theorem c_print : ∀ (n : Nat) {v : V} {c : VC}, v.tot ≤ n → v.tot ≤ 1000000 → V.rep G v c → PuG Tryz.prog 57 [Ag (vcF c)] G (· = S v.out) := by
 intro n
 induction n with
 | zero => intro v c h1 _ _; have := tot_pos v; omega
 | succ n ih =>
  intro v c h1 h2 h
  obtain ⟨w, x, t, ks⟩ := v
  rw [nd_tot] at h1 h2
  obtain ⟨a, k, cs, rfl, hw, ht, h61, hcl, hsl, hks⟩ := rep_inv h
  have hkl := tots_len ks
  have hol := outs_len ks
  have hjl := outs_tot hks
  have hj2 := joinB_len 44 (V.outs ks)
  rw [hol] at hj2
  simp only [vcF, VC.sl]
  refine jB (Post := fun v G' L' => G' = G ∧ L' = [] ∧ _) [(0, _)] Tryz.func57 Tryz.ntmps57 fun B hok hB hW => ?_
  repeat' (first | (refine jR ?_) | (refine k_op rfl ?_; first | refine c_bx rfl rfl rfl fun _ => ?_ | refine jV (g_ld rfl rfl rfl) ?_ | refine jV (g_lenL rfl) ?_))
  rename_i bv
  refine Nx.addNil tStP 1 ?_
  refine k_loop (ι := Nat × Value) (fun q => q.1 ≤ ks.length) (fun q => [(1, Pt bv 0), (2, S []), (3, q.2), (8, .slice a ks.length k), (9, I ks.length), (10, I q.1)]) (fun _ => G) (fun q => [.acc q.2 tStP 1 q.1 (rows strF ((V.outs ks).take q.1)), .blk bv (.cells (List.toArray [U8 w, S x, I t, .slice a ks.length k]) tVal (0, 0))]) (fun q => ks.length - q.1) (0, nilS) ?_ (by repeat' constructor) rfl sRr (fun q Hq => ?_)
  ·exact Nat.zero_le _
  obtain ⟨i, pv⟩ := q
  dsimp only at Hq ⊢
  by_cases hi : i < ks.length
  ·have hti := tot_nth hi
   have cx_pr := ih (by omega) (by omega) (reps_nth hks i hi)
   obtain ⟨bf, of, cf, e, hs⟩ := hsl.expl (by omega)
   simp only [Value.slice.injEq] at e
   obtain ⟨rfl, -, rfl⟩ := e
   repeat' (first | refine jM ?_ | (refine k_op rfl ?_; first | (refine jV (g_ldR rfl rfl (by assumption) ?_) ?_; (focus ((omega); done))) | refine jV (g_ldA rfl rfl rfl rfl) ?_ | (refine jV (g_iaddrN rfl rfl (by omega)) ?_) | refine c_al rfl rfl fun _ => ?_ | refine c_stA rfl rfl rfl rfl rfl rfl ?_ | refine c_bsl rfl rfl rfl rfl rfl rfl fun _ => ?_ | (refine c_apX rfl rfl rfl rfl rfl rfl rfl rfl rfl (by omega) fun _ _ => ?_) | (refine c_rt rfl rfl rfl cx_pr rfl ?_)) | (refine k_tt rfl (dTt (by omega)) ?_))
   have e2 : rows strF ((V.outs ks).take i) ++ [S (nth ks i).out] = rows strF ((V.outs ks).take (i + 1)) := by rw [take_nth (by omega), rows_snoc, outs_get hi]; rfl
   rw [e2]
   exact k_rd (i + 1, _) (by dsimp only; omega) (by dsimp only; omega) (by repeat' constructor) rfl (by repeat (first | exact List.Sublist.refl _ | apply List.Sublist.cons_cons | apply List.Sublist.cons))
  ·have hin : i = ks.length := by omega
   subst hin
   refine Nx.sealA .here fun G1 hG1 hsP => ?_
   rw [← hol, List.take_length] at hsP
   have cx_join := c_Join (c := 44) hsP (by omega)
   have hd := decI_len6' ht.2
   have hE : ks.isEmpty = decide (ks.length = 0) := by cases ks <;> simp
   repeat' (first | (refine run (t := tb) 400 rfl ?_ ?_; (focus (repeat' (first | exact trivial | apply And.intro | (simp only [List.length_append, List.length_cons, List.length_nil, Int.toNat_natCast]; omega))))) | (refine k_op rfl ?_; first | refine jV (g_ld rfl rfl rfl) ?_ | refine jV (g_lenL rfl) ?_ | (refine c_rt rfl rfl rfl cx_join rfl ?_) | (refine c_rt rfl rfl rfl (c_decimalN (by omega)) rfl ?_)) | (refine k_ff rfl (dFf (by omega)) ?_) | refine k_if rfl (fun _ => ?_) (fun _ => ?_))
   all_goals refine Nx.base hok hB ?_
   all_goals refine jZ (vs := [_]) rfl ⟨rfl, trivial⟩ rfl ⟨rfl, rfl, ?_⟩
   all_goals (rw [oneOf_one, V.out, hE]; unfold outW; simp only [decide_eq_true_eq]; repeat (first | rw [if_pos (by omega)] | rw [if_neg (by omega)]))
   all_goals (first | rfl | (simp; done))
theorem deep_fld1 {x : List UInt8} {t : Int} {u : V} : V.deep (.nd 61 x t [u]) = u.deep := by rw [V.deep, if_pos rfl, V.deeps, V.deeps, Nat.max_zero]
theorem deeps_snoc (v : V) : ∀ (ks : List V), V.deeps (ks ++ [v]) = max (V.deeps ks) v.deep
 | [] => by simp [V.deeps]
 | u :: r => by simp only [List.cons_append, V.deeps, deeps_snoc v r]; omega
mutual
theorem deep_tot : ∀ v : V, v.deep ≤ v.tot
 | .nd w x t ks => by
  have := deeps_tot ks
  rw [V.deep, V.tot]; split <;> omega
theorem deeps_tot : ∀ ks : List V, V.deeps ks ≤ V.tots ks
 | [] => by simp [V.deeps]
 | v :: r => by
  have := deep_tot v
  have := deeps_tot r
  rw [V.deeps, V.tots]; omega
end
theorem c_deep : ∀ (n : Nat) {v : V} {c : VC}, v.tot ≤ n → v.tot ≤ 1000000 → V.rep G v c → PuG Tryz.prog 101 [Ag (vcF c)] G (· = I (v.deep : Nat)) := by
 intro n
 induction n with
 | zero => intro v c h1 _ _; have := tot_pos v; omega
 | succ n ih =>
  intro v c h1 h2 h
  obtain ⟨w, x, t, ks⟩ := v
  rw [nd_tot] at h1 h2
  obtain ⟨a, k, cs, rfl, hw, ht, h61, hcl, hsl, hks⟩ := rep_inv h
  have hkl := tots_len ks
  simp only [vcF, VC.sl]
  by_cases hq : w = 61
  ·have hk1 := h61 hq
   have hti := tot_nth (ks := ks) (i := 0) (by omega)
   have cx_dp := ih (by omega) (by omega) (reps_nth hks 0 (by omega))
   obtain ⟨bf, of, cf, e, hs⟩ := hsl.expl (by omega)
   simp only [Value.slice.injEq] at e
   obtain ⟨rfl, -, rfl⟩ := e
   refine jE [(0, _)] Tryz.func101 Tryz.ntmps101 fun B hB => ?_
   repeat' (first | (refine jR ?_) | (refine k_op rfl ?_; first | refine c_bx rfl rfl rfl fun _ => ?_ | refine jV (g_ld rfl rfl rfl) ?_ | (refine jV (g_ldR rfl rfl (by assumption) ?_) ?_; (focus ((omega); done))) | (refine jV (g_iaddr rfl rfl (by omega)) ?_) | (refine c_rt rfl rfl rfl cx_dp rfl ?_)) | (refine k_tt rfl (dTt (by omega)) ?_))
   refine jZ (vs := [_]) rfl ⟨rfl, trivial⟩ rfl ⟨rfl, rfl, ?_⟩
   rw [oneOf_one]
   obtain ⟨u, rfl⟩ := List.length_eq_one_iff.1 hk1
   subst hq
   rw [deep_fld1]; rfl
  ·rw [deep_nd hq]
   refine jE [(0, _)] Tryz.func101 Tryz.ntmps101 fun B hB => ?_
   repeat' (first | (refine jR ?_) | (refine k_op rfl ?_; first | refine c_bx rfl rfl rfl fun _ => ?_ | refine jV (g_ld rfl rfl rfl) ?_ | refine jV (g_lenL rfl) ?_) | (refine k_ff rfl (dFf (by omega)) ?_))
   rename_i bv
   refine Nx.re (d := 3) (v' := I (V.deeps (ks.take 0) : Nat)) rfl rfl ?_
   refine k_loop (ι := Nat) (fun i => i ≤ ks.length) (fun i => [(3, I (V.deeps (ks.take i) : Nat)), (15, .slice a ks.length k), (16, I ks.length), (17, I i)]) (fun _ => G) (fun i => []) (fun i => ks.length - i) 0 ?_ (by repeat' constructor) rfl (by repeat (exact List.nil_sublist _)) (fun i Hi => ?_)
   ·exact Nat.zero_le _
   by_cases hi : i < ks.length
   ·have hti := tot_nth hi
    have cx_dp := ih (by omega) (by omega) (reps_nth hks i hi)
    obtain ⟨bf, of, cf, e, hs⟩ := hsl.expl (by omega)
    simp only [Value.slice.injEq] at e
    obtain ⟨rfl, -, rfl⟩ := e
    repeat' (first | refine jM ?_ | (refine k_op rfl ?_; first | (refine jV (g_ldR rfl rfl (by assumption) ?_) ?_; (focus ((omega); done))) | refine jV (g_ldA rfl rfl rfl rfl) ?_ | (refine jV (g_iaddrN rfl rfl (by omega)) ?_) | refine c_al rfl rfl fun _ => ?_ | refine c_stA rfl rfl rfl rfl rfl rfl ?_ | refine jV (g_max rfl rfl) ?_ | (refine c_rt rfl rfl rfl cx_dp rfl ?_)) | (refine k_tt rfl (dTt (by omega)) ?_))
    refine Nx.re (d := 3) (v' := I (V.deeps (ks.take (i + 1)) : Nat)) rfl (congrArg (Value.int .i64) (by rw [take_nth hi, deeps_snoc]; omega)) ?_
    exact k_rd (i + 1) (by omega) (by omega) (by repeat' constructor) rfl (by repeat (exact List.nil_sublist _))
   ·have hin : i = ks.length := by omega
    subst hin
    rw [List.take_length]
    have hdt := deeps_tot ks
    repeat' (first | refine jM ?_ | (refine k_ff rfl (dFf (by omega)) ?_))
    refine jZ (vs := [_]) rfl ⟨rfl, trivial⟩ rfl ⟨rfl, rfl, ?_⟩
    rw [oneOf_one]; congr 1
abbrev tScn : TypeId := 143
theorem c_CutPrefixL {s p : List UInt8} (hs : s.length ≤ 1000000 ∧ p.length ≤ 1000000) : PuG Tryz.prog 183 [S s, S p] G (· = Tu [S (if p.isPrefixOf s = true then s.drop p.length else s), Bo (p.isPrefixOf s)]) := by
 have cx_hp : PuG Tryz.prog 157 [S s, S p] G (· = Bo (p.isPrefixOf s)) := c_HasPrefix0
 cases hp : p.isPrefixOf s with
 | false =>
  rw [hp] at cx_hp
  refine jE [(0, _), (1, _)] Tryz.func183 Tryz.ntmps183 fun B hB => ?_
  repeat' (first | (refine jR ?_) | (refine k_op rfl ?_; (refine c_rt rfl rfl rfl c_HasPrefix0 rfl ?_)) | (refine k_tt rfl ?_ ?_; (focus ((simp [*]; done); done))))
  refine jZ (vs := [_, _]) rfl ⟨rfl, rfl, trivial⟩ rfl ⟨rfl, rfl, ?_⟩
  rfl
 | true =>
  rw [hp] at cx_hp
  have hl : p.length ≤ s.length := by
   have := List.isPrefixOf_iff_prefix.1 hp
   exact this.length_le
  refine jE [(0, _), (1, _)] Tryz.func183 Tryz.ntmps183 fun B hB => ?_
  repeat' (first | refine jM ?_ | (refine k_op rfl ?_; (refine c_rt rfl rfl rfl c_HasPrefix0 rfl ?_)) | (refine k_ff rfl ?_ ?_; (focus ((simp [*]; done); done))))
  refine jZ (vs := [_, _]) rfl ⟨rfl, rfl, trivial⟩ rfl ⟨rfl, rfl, ?_⟩
  rfl
theorem c_CutPrefix {s p : List UInt8} (hs : s.length ≤ 1000000 ∧ p.length ≤ 1000000) : PuG Tryz.prog 168 [S s, S p] G (· = Tu [S (if p.isPrefixOf s = true then s.drop p.length else s), Bo (p.isPrefixOf s)]) := by
 have cx_cp := c_CutPrefixL (G := G) hs
 refine jE [(0, _), (1, _)] Tryz.func168 Tryz.ntmps168 fun B hB => ?_
 repeat' (first | (refine jR ?_) | (refine k_op rfl ?_; (refine c_rt rfl rfl rfl cx_cp rfl ?_)))
 refine jZ (vs := [_, _]) rfl ⟨rfl, rfl, trivial⟩ rfl ⟨rfl, rfl, ?_⟩
 rfl
def tkR (l s : List UInt8) (b : Bool) : Bool := !b && l.isPrefixOf s
def tkS (l s : List UInt8) (b : Bool) : List UInt8 := if tkR l s b = true then s.drop l.length else s
abbrev scO (r sc : Nat) (s : List UInt8) (b : Bool) : Own := .blk r (.cells (List.toArray [Pt sc 0, S s, Bo b]) tScn (0, 0))
theorem c_take {r sc : Nat} {s l : List UInt8} {b : Bool} (hs : s.length ≤ 1000000 ∧ l.length ≤ 1000000) : FnG Tryz.prog 140 [Pt r 0, S l] G [scO r sc s b] (fun v L' => v = Bo (tkR l s b) ∧ L' = [scO r sc (tkS l s b) b]) := by
 have cx_cp := c_CutPrefix (G := G) hs
 unfold tkS tkR
 cases hp : l.isPrefixOf s with
 | false =>
  rw [hp] at cx_cp
  refine jH [(0, _), (1, _)] Tryz.func140 Tryz.ntmps140 fun B hB hW => ?_
  repeat' (first | (refine jR ?_) | (refine k_op rfl ?_; first | refine jV (g_ld rfl rfl rfl) ?_ | (refine jV (g_pickF rfl rfl rfl) ?_) | (refine c_rt rfl rfl rfl cx_cp rfl ?_)) | (refine k_gf rfl rfl rfl ?_) | (refine k_ff rfl rfl ?_))
  exact k_rr (vs := [_]) rfl ⟨rfl, trivial⟩ rfl (List.Sublist.refl _) ⟨rfl, by cases b <;> rfl, by cases b <;> rfl⟩
 | true =>
  rw [hp] at cx_cp
  cases b with
  | true =>
   refine jH [(0, _), (1, _)] Tryz.func140 Tryz.ntmps140 fun B hB hW => ?_
   repeat' (first | (refine jR ?_) | (refine k_op rfl ?_; first | refine jV (g_ld rfl rfl rfl) ?_ | (refine jV (g_pickT rfl rfl rfl) ?_) | (refine c_rt rfl rfl rfl cx_cp rfl ?_)) | (refine k_gt rfl rfl rfl ?_) | (refine k_ff rfl rfl ?_))
   exact k_rr (vs := [_]) rfl ⟨rfl, trivial⟩ rfl (List.Sublist.refl _) ⟨rfl, rfl, rfl⟩
  | false =>
   refine jH [(0, _), (1, _)] Tryz.func140 Tryz.ntmps140 fun B hB hW => ?_
   repeat' (first | (refine jR ?_) | (refine k_op rfl ?_; first | refine jV (g_ld rfl rfl rfl) ?_ | (refine jV (g_pickT rfl rfl rfl) ?_) | refine c_st1 rfl rfl rfl rfl ?_ | (refine c_rt rfl rfl rfl cx_cp rfl ?_)) | (refine k_gt rfl rfl rfl ?_) | (refine k_tt rfl rfl ?_))
   exact k_rr (vs := [_]) rfl ⟨rfl, trivial⟩ rfl (List.Sublist.refl _) ⟨rfl, rfl, rfl⟩
theorem c_want {r sc : Nat} {s l : List UInt8} {b : Bool} (hs : s.length ≤ 1000000 ∧ l.length ≤ 1000000) : FnG Tryz.prog 141 [Pt r 0, S l] G [scO r sc s b] (fun v L' => L' = [scO r sc (tkS l s b) (!tkR l s b)]) := by
 have cx_tk := c_take (G := G) (r := r) (sc := sc) (b := b) hs
 cases ht : tkR l s b with
 | false =>
  rw [ht] at cx_tk
  refine jH [(0, _), (1, _)] Tryz.func141 Tryz.ntmps141 fun B hB hW => ?_
  repeat' (first | (refine jR ?_) | (refine k_op rfl ?_; first | refine c_st1 rfl rfl rfl rfl ?_ | (refine c_m1g rfl rfl rfl cx_tk rfl ?_; rintro _ _ ⟨rfl, rfl⟩; dsimp only [zA, fA])) | (refine k_tt rfl rfl ?_))
  exact k_re (vs := []) rfl trivial rfl (List.Sublist.refl _) ⟨rfl, rfl⟩
 | true =>
  have hb : b = false := by unfold tkR at ht; cases b <;> simp_all
  subst hb
  rw [ht] at cx_tk
  refine jH [(0, _), (1, _)] Tryz.func141 Tryz.ntmps141 fun B hB hW => ?_
  repeat' (first | (refine jR ?_) | (refine k_op rfl ?_; (refine c_m1g rfl rfl rfl cx_tk rfl ?_; rintro _ _ ⟨rfl, rfl⟩; dsimp only [zA, fA])) | (refine k_ff rfl rfl ?_))
  exact k_re (vs := []) rfl trivial rfl (List.Sublist.refl _) ⟨rfl, rfl⟩
end Go.E
namespace Go.E
set_option maxRecDepth 20000
set_option maxHeartbeats 2000000
theorem trimL_drop {p : Nat → Bool} {q : UInt8 → Bool} (h : ∀ c : UInt8, p c.toNat = q c) : ∀ s : List UInt8, trimL p s = s.dropWhile q
 | [] => rfl
 | c :: r => by
  rw [trimL, h c, List.dropWhile_cons]
  cases q c with
  | true => simp only [if_true]; exact trimL_drop h r
  | false => simp
theorem dgb_in : ∀ c : UInt8, inS [48, 49, 50, 51, 52, 53, 54, 55, 56, 57] c.toNat = isDg c := by
 intro c
 have : ∀ n : Nat, n < 256 → inS [48, 49, 50, 51, 52, 53, 54, 55, 56, 57] n = decide (48 ≤ n ∧ n ≤ 57) := by decide +kernel
 exact this _ c.toNat_lt
def txB : List UInt8 := [97, 98, 99, 100, 101, 102, 103, 104, 105, 106, 107, 108, 109, 110, 111, 112, 113, 114, 115, 116, 117, 118, 119, 120, 121, 122, 48, 49, 50, 51, 52, 53, 54, 55, 56, 57, 32]
def isTb (c : UInt8) : Bool := decide (txN c.toNat)
theorem txb_in : ∀ c : UInt8, inS txB c.toNat = isTb c := by
 intro c
 have : ∀ n : Nat, n < 256 → inS txB n = decide (txN n) := by decide +kernel
 exact this _ c.toNat_lt
theorem take_drop_while (q : UInt8 → Bool) (s : List UInt8) : s.take (s.length - (s.dropWhile q).length) = s.takeWhile q := by
 have h := List.takeWhile_append_dropWhile (p := q) (l := s)
 have hl : (s.takeWhile q).length + (s.dropWhile q).length = s.length := by
  have := congrArg List.length h
  rwa [List.length_append] at this
 have e : s.length - (s.dropWhile q).length = (s.takeWhile q).length := by omega
 rw [e]
 have h2 : (s.takeWhile q ++ s.dropWhile q).take (s.takeWhile q).length = s.takeWhile q := List.take_left
 rwa [h] at h2
theorem while_len (q : UInt8 → Bool) (s : List UInt8) : (s.takeWhile q).length + (s.dropWhile q).length = s.length := by
 have h := List.takeWhile_append_dropWhile (p := q) (l := s)
 have := congrArg List.length h
 rwa [List.length_append] at this
theorem txP_iff (x : List UInt8) : isTx (39 :: (x ++ [39])) = true ↔ x.length ≤ 12 ∧ ∀ c ∈ x, isTb c = true := by
 unfold isTx
 rw [decide_eq_true_eq]
 unfold TxP
 have e0 : bt (39 :: (x ++ [39])) 0 = 39 := bt_zero _ _
 have e1 : (39 :: (x ++ [39]) : List UInt8).length = x.length + 2 := by simp
 have e2 : bt (39 :: (x ++ [39])) (x.length + 1) = 39 := by
  rw [bt_succ]; simp [bt]
 have e3 : ∀ i, i < x.length → bt (39 :: (x ++ [39])) (i + 1) = bt x i := fun i hi => by
  rw [bt_succ]; simp [bt, List.getD, List.getElem?_append_left hi]
 rw [e1, show x.length + 2 - 1 = x.length + 1 by omega]
 constructor
 ·rintro ⟨⟨_, h1⟩, _, _, h2⟩
  refine ⟨by omega, fun c hc => ?_⟩
  obtain ⟨i, hi, rfl⟩ := List.mem_iff_getElem.1 hc
  have := h2 (i + 1) (by omega)
  rw [e3 i hi] at this
  have h3 : bt x i = (x[i]).toNat := by simp [bt, List.getD, List.getElem?_eq_getElem hi]
  rw [h3] at this
  unfold isTb
  rw [decide_eq_true_eq]
  rcases this with h | h
  ·omega
  ·exact h
 ·rintro ⟨h1, h2⟩
  refine ⟨⟨by omega, by omega⟩, e0, e2, fun i hi => ?_⟩
  cases i with
  | zero => exact .inl rfl
  | succ i =>
   have hi' : i < x.length := by omega
   rw [e3 i hi']
   have h3 : bt x i = (x[i]).toNat := by simp [bt, List.getD, List.getElem?_eq_getElem hi']
   rw [h3]
   have := h2 _ (List.getElem_mem hi')
   unfold isTb at this
   rw [decide_eq_true_eq] at this
   exact .inr this
theorem isTb39 {c : UInt8} (h : c.toNat = 39) : isTb c = false := by
 have : c = 39 := UInt8.toNat_inj.1 h
 subst this; decide
theorem quote_law (s : List UInt8) : rdQuote s = match s with
  | [] => none
  | c :: r => if c.toNat = 39 then (match r.dropWhile isTb with
   | [] => none
   | d :: t => if d.toNat = 39 ∧ (r.takeWhile isTb).length ≤ 12 then some (.nd 116 (r.takeWhile isTb) 0 [], t) else none) else none := by
 cases s with
 | nil => rfl
 | cons c r =>
  unfold rdQuote
  dsimp only
  by_cases hc : c.toNat = 39
  ·rw [if_pos hc, if_pos hc]
   have hcut : ∀ r : List UInt8, cut1 39 r = match r.dropWhile isTb with
    | [] => (r, [], false)
    | d :: t => if d.toNat = 39 then (r.takeWhile isTb, t, true) else (r.takeWhile isTb ++ (cut1 39 (d :: t)).1, (cut1 39 (d :: t)).2) := by
    intro r
    induction r with
    | nil => rfl
    | cons x r ih =>
     rw [List.dropWhile_cons, List.takeWhile_cons]
     by_cases hx : isTb x = true
     ·rw [if_pos hx, if_pos hx]
      have h39 : ¬ x.toNat = 39 := fun h => by rw [isTb39 h] at hx; cases hx
      rw [cut1, if_neg h39, ih]
      cases hd : r.dropWhile isTb with
      | nil => rfl
      | cons d t =>
       dsimp only
       split
       ·rfl
       ·rfl
     ·rw [if_neg hx, if_neg hx]
      dsimp only
      split
      ·rename_i h39; rw [cut1, if_pos h39]
      ·simp
   rw [hcut]
   cases hd : r.dropWhile isTb with
   | nil => rfl
   | cons d t =>
    dsimp only
    by_cases h39 : d.toNat = 39
    ·rw [if_pos h39]
     dsimp only
     by_cases h12 : (r.takeWhile isTb).length ≤ 12
     ·rw [if_pos ((txP_iff _).2 ⟨h12, fun c hc => List.all_eq_true.1 (List.all_takeWhile (l := r) (p := isTb)) c hc⟩), if_pos ⟨h39, h12⟩]
     ·rw [if_neg (fun h => h12 ((txP_iff _).1 h).1), if_neg (fun h => h12 h.2)]
    ·rw [if_neg h39, if_neg (fun h => h39 h.1)]
     cases hcc : cut1 39 (d :: t) with
     | mk a b =>
      obtain ⟨b, f⟩ := b
      cases f with
      | false => rfl
      | true =>
       dsimp only
       rw [if_neg]
       intro h
       have hall := ((txP_iff _).1 h).2
       have hdx : isTb d = false := by
        have := List.head_dropWhile_not (p := isTb) (l := r) (by rw [hd]; simp)
        simpa [hd] using this
       have ha : d ∈ a := by
        rw [cut1, if_neg h39] at hcc
        simp only [Prod.mk.injEq] at hcc
        rw [← hcc.1]; simp
       have := hall d (List.mem_append_right _ ha)
       rw [hdx] at this; cases this
  ·rw [if_neg hc, if_neg hc]
end Go.E
namespace Go.E
set_option maxRecDepth 20000
set_option maxHeartbeats 2000000
open Go.Proofs
variable {G : Gh}
theorem c_number {r sc : Nat} {s : List UInt8} {b : Bool} {top : Int} (hs : s.length ≤ 1000000) : FnG Tryz.prog 142 [Pt r 0, I top] G [scO r sc s b]
  (fun v L' => ∃ n, v = I n ∧ (0 ≤ n ∧ n ≤ 999999) ∧ (∀ m, numOf (s.takeWhile isDg) top = some m → n = m) ∧ L' = [scO r sc (s.dropWhile isDg) (b || (numOf (s.takeWhile isDg) top).isNone)]) := by
 have hwl := while_len isDg s
 have cx_tl : PuG Tryz.prog 112 [S s, S [48, 49, 50, 51, 52, 53, 54, 55, 56, 57]] G (· = S (s.dropWhile isDg)) := by
  rw [← trimL_drop dgb_in]
  exact c_TrimLeft rfl (by kernel_rfl) rfl
 have e1 : s.take (((s.length : Nat) : Int) - (((s.dropWhile isDg).length : Nat) : Int)).toNat = s.takeWhile isDg := by
  rw [← take_drop_while]; congr 1; omega
 have cx_pnB := c_plainNumberB (G := G) (s := s.takeWhile isDg) (top := top) (by omega)
 rw [← e1] at cx_pnB
 cases hnum2 : (numOf (s.takeWhile isDg) top) with
 | none =>
  rw [← e1] at hnum2
  have hno : (!(numOf (s.take (((s.length : Nat) : Int) - (((s.dropWhile isDg).length : Nat) : Int)).toNat) top).isSome) = true := by rw [hnum2]; rfl
  refine jH [(0, _), (1, _)] Tryz.func142 Tryz.ntmps142 fun B hB hW => ?_
  repeat' (first | (refine jR ?_) | (refine k_op rfl ?_; first | refine jV (g_ld rfl rfl rfl) ?_ | refine c_st1 rfl rfl rfl rfl ?_ | (refine c_rt rfl rfl rfl cx_tl rfl ?_)) | (refine k_tt rfl ‹_› ?_) | (refine k_any (s_any (id := 2) _ (fun _ h => h) mixed ?_); refine jT 11 [0, 1, 2, 4, 5, 6, 9, 10, 13] (bts 20 9847) ?_; (refine jG (bts 20 9855) 3 rfl (g_ld rfl rfl rfl) ?_); (refine jG (bts 20 9983) 7 rfl (g_ld rfl rfl rfl) ?_); refine jU 6 [8, 11, 12] (bts 20 16383) ?_ ?_; (focus (repeat' (first | exact trivial | apply And.intro | omega))); refine jA 14 rfl ?_; (refine c_pu rfl rfl rfl cx_pnB rfl ?_; rintro _ ⟨n, rfl, hnum, hn0, hn1⟩); refine jS (bts 20 32767) ?_; refine jT 0 [15, 16, 17, 18, 19] (bts 20 1048575) ?_; refine x_done (by kernel_rfl) (k_bk ?_)))
  exact k_rr (vs := [_]) rfl ⟨rfl, trivial⟩ rfl (List.Sublist.refl _) ⟨rfl, _, rfl, ⟨hn0, hn1⟩, fun m hm => (by cases hm), by simp⟩
 | some m =>
  rw [← e1] at hnum2
  have hno : (!(numOf (s.take (((s.length : Nat) : Int) - (((s.dropWhile isDg).length : Nat) : Int)).toNat) top).isSome) = false := by rw [hnum2]; rfl
  refine jH [(0, _), (1, _)] Tryz.func142 Tryz.ntmps142 fun B hB hW => ?_
  repeat' (first | (refine jR ?_) | (refine k_op rfl ?_; first | refine jV (g_ld rfl rfl rfl) ?_ | refine c_st1 rfl rfl rfl rfl ?_ | (refine c_rt rfl rfl rfl cx_tl rfl ?_)) | (refine k_ff rfl ‹_› ?_) | (refine k_any (s_any (id := 2) _ (fun _ h => h) mixed ?_); refine jT 11 [0, 1, 2, 4, 5, 6, 9, 10, 13] (bts 20 9847) ?_; (refine jG (bts 20 9855) 3 rfl (g_ld rfl rfl rfl) ?_); (refine jG (bts 20 9983) 7 rfl (g_ld rfl rfl rfl) ?_); refine jU 6 [8, 11, 12] (bts 20 16383) ?_ ?_; (focus (repeat' (first | exact trivial | apply And.intro | omega))); refine jA 14 rfl ?_; (refine c_pu rfl rfl rfl cx_pnB rfl ?_; rintro _ ⟨n, rfl, hnum, hn0, hn1⟩); refine jS (bts 20 32767) ?_; refine jT 0 [15, 16, 17, 18, 19] (bts 20 1048575) ?_; refine x_done (by kernel_rfl) (k_bk ?_)))
  exact k_rr (vs := [_]) rfl ⟨rfl, trivial⟩ rfl (List.Sublist.refl _) ⟨rfl, _, rfl, ⟨hn0, hn1⟩, fun m' hm => hnum m' (by rw [hnum2]; exact hm), by simp⟩
theorem tk_len {l s : List UInt8} {b : Bool} : (tkS l s b).length ≤ s.length := by unfold tkS; split <;> simp
theorem tk1 {c : UInt8} {s : List UInt8} : tkR [c] s false = true ↔ ∃ r, s = c :: r := by
 cases s with
 | nil =>
  constructor
  ·intro h; simp [tkR, List.isPrefixOf] at h
  ·rintro ⟨r, h⟩; cases h
 | cons d r =>
  constructor
  ·intro h
   have : c = d := by simpa [tkR, List.isPrefixOf] using h
   exact ⟨r, by rw [this]⟩
  ·rintro ⟨r', h⟩
   simp only [List.cons.injEq] at h
   simp [tkR, List.isPrefixOf, h.1]
theorem tk1S {c : UInt8} {r : List UInt8} : tkS [c] (c :: r) false = r := by unfold tkS; rw [if_pos (tk1.2 ⟨r, rfl⟩)]; rfl
theorem tkT {l s : List UInt8} : tkR l s true = false := by simp [tkR]
theorem tkST {l s : List UInt8} : tkS l s true = s := by simp [tkS, tkT]
theorem tkSF {l s : List UInt8} {b : Bool} (h : tkR l s b = false) : tkS l s b = s := by simp [tkS, h]
def QuP (s : List UInt8) (b : Bool) (x s' : List UInt8) (b' : Bool) : Prop :=
 x.length + s'.length ≤ s.length ∧ (b' = false → b = false ∧ rdQuote s = some (.nd 116 x 0 [], s')) ∧ (b' = true → b = true ∨ rdQuote s = none)
theorem quP_mk (s : List UInt8) (b : Bool) : QuP s b ((tkS [39] s b).takeWhile isTb) (tkS [39] ((tkS [39] s b).dropWhile isTb) (!tkR [39] s b)) (!tkR [39] ((tkS [39] s b).dropWhile isTb) (!tkR [39] s b) || decide (12 < ((tkS [39] s b).takeWhile isTb).length)) := by
 have hl : ((tkS [39] s b).takeWhile isTb).length + (tkS [39] ((tkS [39] s b).dropWhile isTb) (!tkR [39] s b)).length ≤ s.length := by
  have h1 := tk_len (l := [39]) (s := s) (b := b)
  have h2 := while_len isTb (tkS [39] s b)
  have h3 := tk_len (l := [39]) (s := (tkS [39] s b).dropWhile isTb) (b := !tkR [39] s b)
  omega
 refine ⟨hl, ?_⟩
 rw [quote_law]
 cases b with
 | true => rw [tkST, tkT]; simp [tkT]
 | false =>
  cases ht : tkR [39] s false with
  | false =>
   simp only [Bool.not_false, tkT, Bool.true_or]
   refine ⟨fun h => (by cases h), fun _ => .inr ?_⟩
   cases s with
   | nil => rfl
   | cons c r =>
    dsimp only
    rw [if_neg]
    intro hc
    have : tkR [39] (c :: r) false = true := tk1.2 ⟨r, by rw [show c = 39 from UInt8.toNat_inj.1 hc]⟩
    rw [this] at ht; cases ht
  | true =>
   obtain ⟨r, rfl⟩ := tk1.1 ht
   rw [tk1S]
   dsimp only
   rw [if_pos (show (39 : UInt8).toNat = 39 from rfl), Bool.not_true]
   cases ht2 : tkR [39] (r.dropWhile isTb) false with
   | false =>
    simp only [Bool.not_false, Bool.true_or]
    refine ⟨fun h => (by cases h), fun _ => .inr ?_⟩
    cases hd : r.dropWhile isTb with
    | nil => rfl
    | cons d t =>
     dsimp only
     rw [if_neg]
     rintro ⟨hc, _⟩
     have : tkR [39] (r.dropWhile isTb) false = true := tk1.2 ⟨t, by rw [hd, show d = 39 from UInt8.toNat_inj.1 hc]⟩
     rw [this] at ht2; cases ht2
   | true =>
    obtain ⟨t, hd⟩ := tk1.1 ht2
    rw [hd, tk1S]
    dsimp only
    by_cases h12 : 12 < (r.takeWhile isTb).length
    ·rw [decide_eq_true h12, if_neg (fun h => by omega)]
     exact ⟨fun h => (by cases h), fun _ => .inr rfl⟩
    ·rw [decide_eq_false h12, if_pos ⟨rfl, by omega⟩]
     exact ⟨fun _ => ⟨rfl, rfl⟩, fun h => (by cases h)⟩
theorem c_quote {r sc : Nat} {s : List UInt8} {b : Bool} (hs : s.length ≤ 1000000) : FnG Tryz.prog 143 [Pt r 0] G [scO r sc s b]
  (fun v L' => ∃ x s' b', v = S x ∧ QuP s b x s' b' ∧ L' = [scO r sc s' b']) := by
 have hq := quP_mk s b
 have h1 := tk_len (l := [39]) (s := s) (b := b)
 have h2 := while_len isTb (tkS [39] s b)
 have h3 := tk_len (l := [39]) (s := (tkS [39] s b).dropWhile isTb) (b := !tkR [39] s b)
 have cx_wa := c_want (G := G) (r := r) (sc := sc) (s := s) (l := [39]) (b := b) ⟨hs, by simp⟩
 have cx_wb := c_want (G := G) (r := r) (sc := sc) (s := (tkS [39] s b).dropWhile isTb) (l := [39]) (b := !tkR [39] s b) ⟨by omega, by simp⟩
 have cx_tl : PuG Tryz.prog 112 [S (tkS [39] s b), S [97, 98, 99, 100, 101, 102, 103, 104, 105, 106, 107, 108, 109, 110, 111, 112, 113, 114, 115, 116, 117, 118, 119, 120, 121, 122, 48, 49, 50, 51, 52, 53, 54, 55, 56, 57, 32]] G (· = S ((tkS [39] s b).dropWhile isTb)) := by
  rw [← trimL_drop txb_in]
  exact c_TrimLeft rfl (by kernel_rfl) rfl
 have e1 : (tkS [39] s b).take ((((tkS [39] s b).length : Nat) : Int) - ((((tkS [39] s b).dropWhile isTb).length : Nat) : Int)).toNat = (tkS [39] s b).takeWhile isTb := by
  rw [← take_drop_while]; congr 1; omega
 by_cases h12 : 12 < ((tkS [39] s b).takeWhile isTb).length
 ·rw [decide_eq_true h12, Bool.or_true] at hq
  rw [← e1] at h12
  refine jH [(0, _)] Tryz.func143 Tryz.ntmps143 fun B hB hW => ?_
  repeat' (first | (refine jR ?_) | (refine k_op rfl ?_; first | refine jV (g_ld rfl rfl rfl) ?_ | refine c_st1 rfl rfl rfl rfl ?_ | (refine c_m1g rfl rfl rfl cx_wa rfl ?_; rintro _ _ rfl; dsimp only [zA, fA]) | (refine c_m1g rfl rfl rfl cx_wb rfl ?_; rintro _ _ rfl; dsimp only [zA, fA]) | (refine c_rt rfl rfl rfl cx_tl rfl ?_)) | (refine k_tt rfl (dTt (by omega)) ?_) | (refine k_any (s_any (id := 3) _ (fun _ h => h) mixed ?_); refine jT 6 [0, 1, 2, 4, 5, 6, 9, 10] (bts 14 1655) ?_; (refine jG (bts 14 1663) 3 rfl (g_ld rfl rfl rfl) ?_); (refine jG (bts 14 1791) 7 rfl (g_ld rfl rfl rfl) ?_); refine jU 0 [8, 11, 12, 13] (bts 14 16383) ?_ ?_; (focus (repeat' (first | exact trivial | apply And.intro | omega))); refine x_done (by kernel_rfl) (k_bk ?_)))
  all_goals exact k_rr (vs := [_]) rfl ⟨rfl, trivial⟩ rfl (List.Sublist.refl _) ⟨rfl, _, _, _, rfl, by rw [e1]; exact hq, rfl⟩
 ·rw [decide_eq_false h12, Bool.or_false] at hq
  rw [← e1] at h12
  refine jH [(0, _)] Tryz.func143 Tryz.ntmps143 fun B hB hW => ?_
  repeat' (first | (refine jR ?_) | (refine k_op rfl ?_; first | refine jV (g_ld rfl rfl rfl) ?_ | refine c_st1 rfl rfl rfl rfl ?_ | (refine c_m1g rfl rfl rfl cx_wa rfl ?_; rintro _ _ rfl; dsimp only [zA, fA]) | (refine c_m1g rfl rfl rfl cx_wb rfl ?_; rintro _ _ rfl; dsimp only [zA, fA]) | (refine c_rt rfl rfl rfl cx_tl rfl ?_)) | (refine k_ff rfl (dFf (by omega)) ?_) | (refine k_any (s_any (id := 3) _ (fun _ h => h) mixed ?_); refine jT 6 [0, 1, 2, 4, 5, 6, 9, 10] (bts 14 1655) ?_; (refine jG (bts 14 1663) 3 rfl (g_ld rfl rfl rfl) ?_); (refine jG (bts 14 1791) 7 rfl (g_ld rfl rfl rfl) ?_); refine jU 0 [8, 11, 12, 13] (bts 14 16383) ?_ ?_; (focus (repeat' (first | exact trivial | apply And.intro | omega))); refine x_done (by kernel_rfl) (k_bk ?_)))
  all_goals exact k_rr (vs := [_]) rfl ⟨rfl, trivial⟩ rfl (List.Sublist.refl _) ⟨rfl, _, _, _, rfl, by rw [e1]; exact hq, rfl⟩
def RdP (f : List UInt8 → Option (V × List UInt8)) (s : List UInt8) (b : Bool) (u : V) (s' : List UInt8) (b' : Bool) : Prop :=
 s'.length ≤ s.length ∧ (b' = false → b = false ∧ f s = some (u, s')) ∧ (b' = true → (b = true ∨ f s = none) ∧ u.tot + 100 * s'.length ≤ 100 * s.length + 100)
def ValP (f : List UInt8 → Option (V × List UInt8)) (r sc : Nat) (s : List UInt8) (b : Bool) (v : Value) (G' : Gh) (L' : List Own) : Prop :=
 ∃ u c s' b', v = Ag (vcF c) ∧ V.rep G' u c ∧ L' = [scO r sc s' b'] ∧ RdP f s b u s' b'
def ValC (n sc : Nat) (qs : List TyP) : Prop := ∀ (G : Gh) (r : Nat) (k s : List UInt8) (b : Bool), ScI G sc qs → kindIn (tyq qs) k = true → s.length < n → s.length ≤ 1000 →
 FnM Tryz.prog 100 [Pt r 0, Ag (kdF k)] G [scO r sc s b] (ValP (rd (tyq qs) n k) r sc s b)
def rdList (f : List UInt8 → Option (V × List UInt8)) : List UInt8 → Option (V × List UInt8)
 | [] => none
 | d :: s' => if d.toNat = 91 then (match s' with
   | [] => none
   | e :: r => if e.toNat = 93 then some (.nd 91 [] 0 [], r) else (rdItems f 20 s' []).map fun x => (.nd 91 [] 0 x.1, x.2)) else none
theorem rdItems_more {f : List UInt8 → Option (V × List UInt8)} (hf : ∀ s x, f s = some x → x.2.length < s.length) : ∀ (m M : Nat) (s : List UInt8) (acc : List V), s.length < M →
  rdItems f m s acc = match rdItems f M s acc with
   | none => none
   | some x => if x.1.length ≤ acc.length + m then some x else none
 | 0, M, s, acc, hM => by
  cases hr : rdItems f M s acc with
  | none => rfl
  | some x =>
   have : acc.length + 1 ≤ x.1.length := by
    clear hM
    induction M generalizing s acc with
    | zero => cases hr
    | succ M ih =>
     unfold rdItems at hr
     cases hfs : f s with
     | none => rw [hfs] at hr; cases hr
     | some y =>
      rw [hfs] at hr
      obtain ⟨v, r⟩ := y
      cases r with
      | nil => cases hr
      | cons c r =>
       dsimp only at hr
       split at hr
       ·have := ih _ _ hr; simp at this; omega
       ·split at hr
        ·simp only [Option.some.injEq] at hr; subst hr; simp
        ·cases hr
   dsimp only
   rw [if_neg (by omega)]; rfl
 | m + 1, 0, s, acc, hM => by omega
 | m + 1, M + 1, s, acc, hM => by
  rw [rdItems, rdItems]
  cases hfs : f s with
  | none => rfl
  | some y =>
   have hlt := hf _ _ hfs
   obtain ⟨v, r⟩ := y
   cases r with
   | nil => rfl
   | cons c r =>
    simp only [List.length_cons] at hlt
    dsimp only
    split
    ·rw [rdItems_more hf m M r (acc ++ [v]) (by omega)]
     cases rdItems f M r (acc ++ [v]) with
     | none => rfl
     | some x => dsimp only; simp only [List.length_append, List.length_singleton]; congr 1; simp; omega
    ·split
     ·dsimp only; rw [if_pos (by simp)]
     ·rfl
theorem items_none {f : List UInt8 → Option (V × List UInt8)} {t : List UInt8} {vs : List V} : ∀ {m : Nat}, (f t = none ∨ ∃ u, f t = some (u, [])) → rdItems f m t vs = none
 | 0, _ => rfl
 | m + 1, h => by
  rw [rdItems]
  rcases h with h | ⟨u, h⟩ <;> rw [h]
theorem items_step {f : List UInt8 → Option (V × List UInt8)} {t t2 : List UInt8} {c : UInt8} {u : V} {vs : List V} {m : Nat} (h : f t = some (u, c :: t2)) (hm : 0 < m) :
  rdItems f m t vs = if c.toNat = 44 then rdItems f (m - 1) t2 (vs ++ [u]) else if c.toNat = 93 then some (vs ++ [u], t2) else none := by
 obtain ⟨m, rfl⟩ : ∃ k, m = k + 1 := ⟨m - 1, by omega⟩
 rw [rdItems, h]; rfl
theorem rd_short {ts : List Ty} {n : Nat} {k s : List UInt8} {x : V × List UInt8} (h : rd ts n k s = some x) : x.2.length < s.length := by
 have := rd_tot n k s x h
 have := tot_pos x.1
 omega
abbrev tKnd : TypeId := 45
abbrev lo4 (b : Nat) (cs : List Value) : Own := .blk b (.cells cs.toArray tVal (0, 0))
theorem c_list {n r sc : Nat} {qs : List TyP} {k s : List UInt8} {b : Bool} (hV : ValC n sc qs) (hS : ScI G sc qs) (hk : kindIn (tyq qs) k = true) (hs : s.length ≤ n ∧ s.length ≤ 1000) :
  FnM Tryz.prog 139 [Pt r 0, Ag (kdF k)] G [scO r sc s b] (ValP (rdList (rd (tyq qs) n k)) r sc s b) := by
 have cx_wa := c_want (G := G) (r := r) (sc := sc) (s := s) (l := [91]) (b := b) ⟨by omega, by simp⟩
 have cx_tk := c_take (G := G) (r := r) (sc := sc) (s := tkS [91] s b) (l := [93]) (b := !tkR [91] s b) ⟨by have := tk_len (l := [91]) (s := s) (b := b); omega, by simp⟩
 simp only [kdF]
 cases ht : tkR [91] s b with
 | false =>
  rw [ht, tkSF ht] at cx_wa cx_tk
  rw [Bool.not_false, tkT, tkST] at cx_tk
  have cx_wb := c_want (G := G) (r := r) (sc := sc) (s := s) (l := [93]) (b := true) ⟨by omega, by simp⟩
  rw [tkT, tkST] at cx_wb
  refine m_enter [(0, _), (1, _)] Tryz.func139 (by kernel_rfl) Tryz.ntmps139 rfl rfl (by repeat' constructor) fun B hB hW => ?_
  repeat' (first | (refine jR ?_) | (refine k_op rfl ?_; first | refine c_bx rfl rfl rfl fun _ => ?_ | refine c_al rfl rfl fun _ => ?_ | refine jV (g_bld rfl rfl) ?_ | refine c_stA rfl rfl rfl rfl rfl rfl ?_ | (refine c_m1g rfl rfl rfl cx_wa rfl ?_; rintro _ _ rfl; dsimp only [zA, fA]) | (refine c_m1g rfl rfl rfl cx_tk rfl ?_; rintro _ _ ⟨rfl, rfl⟩; dsimp only [zA, fA])) | (refine k_ff rfl rfl ?_))
  rename_i x3 x4 x5 _
  refine k_loop (ι := Unit) (fun i => True) (fun i => [(0, Pt r 0), (4, Pt x4 0), (5, Pt x5 0)]) (fun _ => G) (fun i => [scO r sc s true, lo4 x5 [U8 91, S [], I 0, nilS], lo4 x4 [U8 0, S [], I 0, nilS]]) (fun i => 0) () ?_ (by repeat' constructor) rfl (by repeat (first | exact List.nil_sublist _ | apply List.Sublist.cons_cons)) (fun i Hi => ?_)
  ·trivial
  repeat' (first | (refine jR ?_) | (refine k_op rfl ?_; first | refine c_stA rfl rfl rfl rfl rfl rfl ?_ | refine jV (g_ld rfl rfl rfl) ?_ | refine jV (g_ldA rfl rfl rfl rfl) ?_ | refine jV (g_lenL rfl) ?_ | (refine c_m1g rfl rfl rfl cx_wb rfl ?_; rintro _ _ rfl; dsimp only [zA, fA])) | (refine k_ff rfl rfl ?_))
  refine k_rr (vs := [_]) rfl ⟨rc_A rfl rfl rfl rfl, trivial⟩ rfl (by repeat (first | exact List.nil_sublist _ | apply List.Sublist.cons_cons)) ⟨Gh.le.refl _, .nd 91 [] 0 [], ⟨91, [], 0, none, 0, 0⟩, s, true, rfl, rep_leaf (by decide) (by decide), rfl, Nat.le_refl _, fun h => (by cases h), fun _ => ⟨?_, by simp only [V.tot, V.tots, List.length_nil]; omega⟩⟩
  cases b with
  | true => exact .inl rfl
  | false =>
   right
   cases s with
   | nil => rfl
   | cons d r' =>
    unfold rdList
    dsimp only
    rw [if_neg]
    intro h91
    have : tkR [91] (d :: r') false = true := tk1.2 ⟨r', by rw [show d = 91 from UInt8.toNat_inj.1 h91]⟩
    rw [this] at ht; cases ht
 | true =>
  have hb : b = false := by cases b with | true => rw [tkT] at ht; cases ht | false => rfl
  subst hb
  obtain ⟨s1, rfl⟩ := tk1.1 ht
  rw [ht, tk1S] at cx_wa cx_tk
  rw [Bool.not_true] at cx_wa cx_tk
  simp only [List.length_cons] at hs
  cases ht2 : tkR [93] s1 false with
  | true =>
   obtain ⟨s2, rfl⟩ := tk1.1 ht2
   rw [ht2, tk1S] at cx_tk
   refine m_enter [(0, _), (1, _)] Tryz.func139 (by kernel_rfl) Tryz.ntmps139 rfl rfl (by repeat' constructor) fun B hB hW => ?_
   repeat' (first | (refine jR ?_) | (refine k_op rfl ?_; first | refine c_bx rfl rfl rfl fun _ => ?_ | refine c_al rfl rfl fun _ => ?_ | refine jV (g_bld rfl rfl) ?_ | refine c_stA rfl rfl rfl rfl rfl rfl ?_ | refine jV (g_ldA rfl rfl rfl rfl) ?_ | (refine c_m1g rfl rfl rfl cx_wa rfl ?_; rintro _ _ rfl; dsimp only [zA, fA]) | (refine c_m1g rfl rfl rfl cx_tk rfl ?_; rintro _ _ ⟨rfl, rfl⟩; dsimp only [zA, fA])) | (refine k_tt rfl rfl ?_))
   refine k_rr (vs := [_]) rfl ⟨rc_A rfl rfl rfl rfl, trivial⟩ rfl (by repeat (first | exact List.nil_sublist _ | apply List.Sublist.cons_cons)) ⟨Gh.le.refl _, .nd 91 [] 0 [], ⟨91, [], 0, none, 0, 0⟩, s2, false, rfl, rep_leaf (by decide) (by decide), rfl, by simp only [List.length_cons]; omega, fun _ => ⟨rfl, rfl⟩, fun h => (by cases h)⟩
  | false =>
   rw [ht2, tkSF ht2] at cx_tk
   have hR : rdList (rd (tyq qs) n k) (91 :: s1) = (rdItems (rd (tyq qs) n k) 20 s1 []).map fun x => (.nd 91 [] 0 x.1, x.2) := by
    unfold rdList
    dsimp only
    rw [if_pos (show (91 : UInt8).toNat = 91 from rfl)]
    cases s1 with
    | nil =>
     have : rd (tyq qs) n k [] = none := by
      cases h : rd (tyq qs) n k [] with
      | none => rfl
      | some x => have := rd_short h; simp at this
     simp [rdItems, this]
    | cons e r' =>
     dsimp only
     rw [if_neg]
     intro h93
     have : tkR [93] (e :: r') false = true := tk1.2 ⟨r', by rw [show e = 93 from UInt8.toNat_inj.1 h93]⟩
     rw [this] at ht2; cases ht2
   have hmore := rdItems_more (f := rd (tyq qs) n k) (fun s x h => rd_short h) 20 (s1.length + 1) s1 [] (by omega)
   refine m_enter [(0, _), (1, _)] Tryz.func139 (by kernel_rfl) Tryz.ntmps139 rfl rfl (by repeat' constructor) fun B hB hW => ?_
   repeat' (first | (refine jR ?_) | (refine k_op rfl ?_; first | refine c_bx rfl rfl rfl fun _ => ?_ | refine c_al rfl rfl fun _ => ?_ | refine jV (g_bld rfl rfl) ?_ | refine c_stA rfl rfl rfl rfl rfl rfl ?_ | (refine c_m1g rfl rfl rfl cx_wa rfl ?_; rintro _ _ rfl; dsimp only [zA, fA]) | (refine c_m1g rfl rfl rfl cx_tk rfl ?_; rintro _ _ ⟨rfl, rfl⟩; dsimp only [zA, fA])) | (refine k_ff rfl rfl ?_))
   rename_i x3 x4 x5 _
   refine Nx.addNil tVal 4 (Nx.perm (List.Perm.swap _ _ _) ?_)
   refine k_loop (ι := List V × List VC × Option Addr × Nat × List UInt8 × Nat × Gh) (fun q => (V.reps q.2.2.2.2.2.2 q.1 q.2.1 ∧ Gh.le G q.2.2.2.2.2.2) ∧ (rdItems (rd (tyq qs) n k) (s1.length + 1) s1 [] = rdItems (rd (tyq qs) n k) q.2.2.2.2.2.1 q.2.2.2.2.1 q.1 ∧ q.2.2.2.2.1.length < q.2.2.2.2.2.1) ∧ (V.tots q.1 + 100 * q.2.2.2.2.1.length + 100 ≤ 100 * (s1.length + 1) ∧ q.2.2.2.2.1.length ≤ s1.length)) (fun q => [(0, Pt r 0), (3, Pt x3 0), (4, Pt x4 0), (5, Pt x5 0)]) (fun q => q.2.2.2.2.2.2) (fun q => [scO r sc q.2.2.2.2.1 false, .acc (.slice q.2.2.1 q.1.length q.2.2.2.1) tVal 4 q.1.length (rows vcF q.2.1), lo4 x5 [U8 91, S [], I 0, .slice q.2.2.1 q.1.length q.2.2.2.1], lo4 x4 [U8 0, S [], I 0, nilS], .blk x3 (.cells (List.toArray [S (sg k), S (bs k), S (nm k)]) tKnd (0, 0))]) (fun q => q.2.2.2.2.1.length) ([], [], none, 0, s1, s1.length + 1, G) ?_ (by repeat' constructor) rfl sRr (fun q Hq => ?_)
   ·exact ⟨⟨rfl, Gh.le.refl _⟩, ⟨rfl, by dsimp only; omega⟩, by dsimp only; simp only [V.tots]; omega, Nat.le_refl _⟩
   obtain ⟨vs, cs, a, cap, t, m, Gq⟩ := q
   dsimp only at Hq ⊢
   obtain ⟨⟨hreps, hgq⟩, ⟨hit, htm⟩, hT, htl⟩ := Hq
   have hcl := reps_len hreps
   have hkl := tots_len vs
   have cx_vl := hV Gq r k t false (hS.mono hgq) hk (by omega) (by omega)
   repeat' (first | (refine jR ?_) | (refine k_op rfl ?_; (refine jV (g_ld rfl rfl rfl) ?_)) | (refine k_tt rfl rfl ?_))
   (refine k_any (s_any (id := 6) [.blk x3 (.cells (List.toArray [S (sg k), S (bs k), S (nm k)]) tKnd (0, 0))] (by intro y hy; simp only [List.mem_cons, List.not_mem_nil, or_false] at hy ⊢; simp [hy]) mixed ?_); refine jU 7 [0, 2] (bts 9 5) ?_ ?_; (focus (repeat' (exact trivial))); (refine jG (bts 9 13) 3 rfl (g_ldA rfl rfl rfl rfl) ?_); refine x_all [1, 4] (by kernel_rfl) (by decide) ⟨?_, ?_, trivial⟩; (focus (refine x_opg rfl rfl ?_; (refine jV (g_ld rfl rfl rfl) ?_); refine jK (bts 9 15) ?_; refine jA 4 rfl ?_; (refine c_m1s rfl rfl rfl cx_vl rfl ?_; rintro _ G1 _ hle ⟨u1, c1, t1, b1, rfl, hrep, rfl, hP⟩; dsimp only [zA, fA]; skip); refine jK (bts 9 31) ?_; refine jA 5 rfl ?_; (refine c_bsl rfl rfl rfl rfl rfl rfl fun _ => ?_); refine jK (bts 9 63) ?_; refine jA 6 rfl ?_; ((refine c_apX rfl rfl rfl rfl rfl rfl rfl rfl rfl ?_ fun _ _ => ?_; (focus ((omega); done)))); refine jK (bts 9 127) ?_; refine jU 1 [7] (bts 9 255) ?_ ?_; (focus (repeat' (exact trivial))); refine jA 8 rfl ?_; (refine c_st1 rfl rfl rfl rfl ?_); refine jK (bts 9 511) ?_; refine x_done (by kernel_rfl) (k_bk ?_))); rotate_left 1; (focus (refine x_opg rfl rfl ?_; (refine c_m1s rfl rfl rfl cx_vl rfl ?_; rintro _ G1 _ hle ⟨u1, c1, t1, b1, rfl, hrep, rfl, hP⟩; dsimp only [zA, fA]; skip); refine jK (bts 9 29) ?_; refine x_all [1, 5] (by kernel_rfl) (by decide) ⟨?_, ?_, trivial⟩; (focus (refine x_opg rfl rfl ?_; (refine jV (g_ld rfl rfl rfl) ?_); refine jK (bts 9 31) ?_; refine jA 5 rfl ?_; (refine c_bsl rfl rfl rfl rfl rfl rfl fun _ => ?_); refine jK (bts 9 63) ?_; refine jA 6 rfl ?_; ((refine c_apX rfl rfl rfl rfl rfl rfl rfl rfl rfl ?_ fun _ _ => ?_; (focus ((omega); done)))); refine jK (bts 9 127) ?_; refine jU 1 [7] (bts 9 255) ?_ ?_; (focus (repeat' (exact trivial))); refine jA 8 rfl ?_; (refine c_st1 rfl rfl rfl rfl ?_); refine jK (bts 9 511) ?_; refine x_done (by kernel_rfl) (k_bk ?_))); rotate_left 1; (focus (refine x_opg rfl rfl ?_; (refine c_bsl rfl rfl rfl rfl rfl rfl fun _ => ?_); refine jK (bts 9 61) ?_; refine jA 1 rfl ?_; (refine jV (g_ld rfl rfl rfl) ?_); refine jK (bts 9 63) ?_; refine jA 6 rfl ?_; ((refine c_apX rfl rfl rfl rfl rfl rfl rfl rfl rfl ?_ fun _ _ => ?_; (focus ((omega); done)))); refine jK (bts 9 127) ?_; refine jU 1 [7] (bts 9 255) ?_ ?_; (focus (repeat' (exact trivial))); refine jA 8 rfl ?_; (refine c_st1 rfl rfl rfl rfl ?_); refine jK (bts 9 511) ?_; refine x_done (by kernel_rfl) (k_bk ?_))); rotate_left 1)); rotate_left 2)
   all_goals
    rename_i y1 yc
    have hrow : rows vcF cs ++ [U8 (c1.what : Nat), S c1.text, I c1.tag, c1.sl] = rows vcF (cs ++ [c1]) := (rows_snoc vcF cs c1).symm
    have hr2 : V.reps G1 (vs ++ [u1]) (cs ++ [c1]) := reps_snoc hrep (reps_mono hle hreps)
    have hvl : (vs ++ [u1]).length = vs.length + 1 := by simp
    have htu : V.tots (vs ++ [u1]) = V.tots vs + u1.tot := by simp [tots_app, V.tots]
    have hgl := hgq.trans hle
    obtain ⟨hPl, hP0, hP1⟩ := hP
    rw [hrow]
    cases b1 with
    | true =>
     obtain ⟨hno, hto⟩ := hP1 rfl
     have hno : rd (tyq qs) n k t = none := by
      rcases hno with h | h
      ·cases h
      ·exact h
     have hit2 : rdItems (rd (tyq qs) n k) m t vs = none := items_none (.inl hno)
     have cx_tm := c_take (G := G1) (r := r) (sc := sc) (s := t1) (l := [44]) (b := true) ⟨by omega, by simp⟩
     have cx_wb := c_want (G := G1) (r := r) (sc := sc) (s := t1) (l := [93]) (b := true) ⟨by omega, by simp⟩
     rw [tkT, tkST] at cx_tm cx_wb
     repeat' (first | (refine jR ?_) | (refine k_op rfl ?_; first | refine c_st1 rfl rfl rfl rfl ?_ | refine c_stA rfl rfl rfl rfl rfl rfl ?_ | refine jV (g_ld rfl rfl rfl) ?_ | refine jV (g_ldA rfl rfl rfl rfl) ?_ | refine jV (g_lenL rfl) ?_ | (refine c_m1g rfl rfl rfl cx_wb rfl ?_; rintro _ _ rfl; dsimp only [zA, fA]) | (refine c_m1g rfl rfl rfl cx_tm rfl ?_; rintro _ _ ⟨rfl, rfl⟩; dsimp only [zA, fA])) | (refine k_tt rfl rfl ?_) | refine k_if rfl (fun _ => ?_) (fun _ => ?_))
     all_goals (refine Nx.sealS (v := .slice (some ⟨y1, 0, none⟩) (vs.length + 1) yc) fun G2 hG2 hsl => ?_)
     all_goals refine k_rr (vs := [_]) rfl ⟨rc_A rfl rfl rfl rfl, trivial⟩ rfl (by repeat (first | exact List.nil_sublist _ | apply List.Sublist.cons_cons)) ⟨hgl.trans hG2, .nd 91 [] 0 (vs ++ [u1]), ⟨91, [], 0, some ⟨y1, 0, none⟩, vs.length + 1, yc⟩, t1, true, rfl, rep_mk (by decide) (by decide) (fun h => absurd h (by decide)) hvl.symm (by rw [List.length_append, List.length_singleton, hcl]; exact hsl) (reps_mono hG2 hr2), rfl, by simp only [List.length_cons]; omega, fun h => (by cases h), fun _ => ⟨.inr (by rw [hR, hmore, hit, hit2]; rfl), by rw [nd_tot, htu]; simp only [List.length_cons, List.length_nil]; omega⟩⟩
    | false =>
     obtain ⟨_, hfs⟩ := hP0 rfl
     have htot := rd_tot n k t _ hfs
     dsimp only at htot
     have hup := tot_pos u1
     have cx_tm := c_take (G := G1) (r := r) (sc := sc) (s := t1) (l := [44]) (b := false) ⟨by omega, by simp⟩
     cases ht3 : tkR [44] t1 false with
     | true =>
      obtain ⟨t2, rfl⟩ := tk1.1 ht3
      rw [ht3, tk1S] at cx_tm
      have hit2 := items_step (m := m) (vs := vs) hfs (by omega)
      rw [if_pos (show (44 : UInt8).toNat = 44 from rfl)] at hit2
      simp only [List.length_cons] at htot hPl
      have hlt : t2.length < m - 1 := by omega
      repeat' (first | (refine jR ?_) | (refine k_op rfl ?_; (refine c_m1g rfl rfl rfl cx_tm rfl ?_; rintro _ _ ⟨rfl, rfl⟩; dsimp only [zA, fA])) | (refine k_ff rfl rfl ?_))
      exact k_rd (vs ++ [u1], cs ++ [c1], some ⟨y1, 0, none⟩, yc, t2, m - 1, G1) ⟨⟨hr2, hgl⟩, ⟨by rw [hit, hit2], hlt⟩, by dsimp only; omega, by dsimp only; omega⟩ (by dsimp only; omega) (by repeat' constructor) rfl (by rw [hvl]; repeat (first | exact List.Sublist.refl _ | apply List.Sublist.cons_cons | apply List.Sublist.cons))
     | false =>
      rw [ht3, tkSF ht3] at cx_tm
      have cx_wb := c_want (G := G1) (r := r) (sc := sc) (s := t1) (l := [93]) (b := false) ⟨by omega, by simp⟩
      cases ht4 : tkR [93] t1 false with
      | true =>
       obtain ⟨t2, rfl⟩ := tk1.1 ht4
       rw [ht4, tk1S, Bool.not_true] at cx_wb
       have hit2 := items_step (m := m) (vs := vs) hfs (by omega)
       rw [if_neg (show ¬ (93 : UInt8).toNat = 44 by decide), if_pos (show (93 : UInt8).toNat = 93 from rfl)] at hit2
       simp only [List.length_cons] at htot hPl
       by_cases h20 : vs.length + 1 ≤ 20
       ·repeat' (first | (refine jR ?_) | (refine k_op rfl ?_; first | refine c_stA rfl rfl rfl rfl rfl rfl ?_ | refine jV (g_ld rfl rfl rfl) ?_ | refine jV (g_ldA rfl rfl rfl rfl) ?_ | refine jV (g_lenL rfl) ?_ | (refine c_m1g rfl rfl rfl cx_wb rfl ?_; rintro _ _ rfl; dsimp only [zA, fA]) | (refine c_m1g rfl rfl rfl cx_tm rfl ?_; rintro _ _ ⟨rfl, rfl⟩; dsimp only [zA, fA])) | (refine k_tt rfl rfl ?_) | (refine k_ff rfl (dFf (by omega)) ?_))
        refine Nx.sealS (v := .slice (some ⟨y1, 0, none⟩) (vs.length + 1) yc) fun G2 hG2 hsl => ?_
        refine k_rr (vs := [_]) rfl ⟨rc_A rfl rfl rfl rfl, trivial⟩ rfl (by repeat (first | exact List.nil_sublist _ | apply List.Sublist.cons_cons)) ⟨hgl.trans hG2, .nd 91 [] 0 (vs ++ [u1]), ⟨91, [], 0, some ⟨y1, 0, none⟩, vs.length + 1, yc⟩, t2, false, rfl, rep_mk (by decide) (by decide) (fun h => absurd h (by decide)) hvl.symm (by rw [List.length_append, List.length_singleton, hcl]; exact hsl) (reps_mono hG2 hr2), rfl, by simp only [List.length_cons]; omega, fun _ => ⟨rfl, by rw [hR, hmore, hit, hit2]; dsimp only; rw [if_pos (by simp; omega)]; rfl⟩, fun h => (by cases h)⟩
       ·repeat' (first | (refine jR ?_) | (refine k_op rfl ?_; first | refine c_st1 rfl rfl rfl rfl ?_ | refine c_stA rfl rfl rfl rfl rfl rfl ?_ | refine jV (g_ld rfl rfl rfl) ?_ | refine jV (g_ldA rfl rfl rfl rfl) ?_ | refine jV (g_lenL rfl) ?_ | (refine c_m1g rfl rfl rfl cx_wb rfl ?_; rintro _ _ rfl; dsimp only [zA, fA]) | (refine c_m1g rfl rfl rfl cx_tm rfl ?_; rintro _ _ ⟨rfl, rfl⟩; dsimp only [zA, fA])) | (refine k_tt rfl (by first | rfl | (refine decide_eq_true ?_; (omega))) ?_))
        refine Nx.sealS (v := .slice (some ⟨y1, 0, none⟩) (vs.length + 1) yc) fun G2 hG2 hsl => ?_
        refine k_rr (vs := [_]) rfl ⟨rc_A rfl rfl rfl rfl, trivial⟩ rfl (by repeat (first | exact List.nil_sublist _ | apply List.Sublist.cons_cons)) ⟨hgl.trans hG2, .nd 91 [] 0 (vs ++ [u1]), ⟨91, [], 0, some ⟨y1, 0, none⟩, vs.length + 1, yc⟩, t2, true, rfl, rep_mk (by decide) (by decide) (fun h => absurd h (by decide)) hvl.symm (by rw [List.length_append, List.length_singleton, hcl]; exact hsl) (reps_mono hG2 hr2), rfl, by simp only [List.length_cons]; omega, fun h => (by cases h), fun _ => ⟨.inr (by rw [hR, hmore, hit, hit2]; dsimp only; rw [if_neg (by simp; omega)]; rfl), by rw [nd_tot, htu]; simp only [List.length_cons, List.length_nil]; omega⟩⟩
      | false =>
       rw [ht4, tkSF ht4, Bool.not_false] at cx_wb
       have hit2 : rdItems (rd (tyq qs) n k) m t vs = none := by
        cases t1 with
        | nil => exact items_none (.inr ⟨u1, hfs⟩)
        | cons d t2 =>
         rw [items_step hfs (by omega), if_neg, if_neg]
         ·intro h93
          have : tkR [93] (d :: t2) false = true := tk1.2 ⟨t2, by rw [show d = 93 from UInt8.toNat_inj.1 h93]⟩
          rw [this] at ht4; cases ht4
         ·intro h44
          have : tkR [44] (d :: t2) false = true := tk1.2 ⟨t2, by rw [show d = 44 from UInt8.toNat_inj.1 h44]⟩
          rw [this] at ht3; cases ht3
       repeat' (first | (refine jR ?_) | (refine k_op rfl ?_; first | refine c_st1 rfl rfl rfl rfl ?_ | refine c_stA rfl rfl rfl rfl rfl rfl ?_ | refine jV (g_ld rfl rfl rfl) ?_ | refine jV (g_ldA rfl rfl rfl rfl) ?_ | refine jV (g_lenL rfl) ?_ | (refine c_m1g rfl rfl rfl cx_wb rfl ?_; rintro _ _ rfl; dsimp only [zA, fA]) | (refine c_m1g rfl rfl rfl cx_tm rfl ?_; rintro _ _ ⟨rfl, rfl⟩; dsimp only [zA, fA])) | (refine k_tt rfl rfl ?_) | refine k_if rfl (fun _ => ?_) (fun _ => ?_))
       all_goals (refine Nx.sealS (v := .slice (some ⟨y1, 0, none⟩) (vs.length + 1) yc) fun G2 hG2 hsl => ?_)
       all_goals refine k_rr (vs := [_]) rfl ⟨rc_A rfl rfl rfl rfl, trivial⟩ rfl (by repeat (first | exact List.nil_sublist _ | apply List.Sublist.cons_cons)) ⟨hgl.trans hG2, .nd 91 [] 0 (vs ++ [u1]), ⟨91, [], 0, some ⟨y1, 0, none⟩, vs.length + 1, yc⟩, t1, true, rfl, rep_mk (by decide) (by decide) (fun h => absurd h (by decide)) hvl.symm (by rw [List.length_append, List.length_singleton, hcl]; exact hsl) (reps_mono hG2 hr2), rfl, by simp only [List.length_cons]; omega, fun h => (by cases h), fun _ => ⟨.inr (by rw [hR, hmore, hit, hit2]; rfl), by rw [nd_tot, htu]; simp only [List.length_cons, List.length_nil]; omega⟩⟩
def zVC : VC := ⟨0, [], 0, none, 0, 0⟩
def FldP (t : Ty) (bf of : Nat) (f : List UInt8 → List UInt8 → Option (V × List UInt8)) (r sc : Nat) (s : List UInt8) (b : Bool) (v : Value) (G' : Gh) (L' : List Own) : Prop :=
  ∃ s' b', L' = [scO r sc s' b'] ∧ s'.length ≤ s.length ∧
    ((v = Tu [Ag (vcF zVC), .pointer none] ∧ b' = true ∧ (b = true ∨ rdField f t s = none)) ∨
     (∃ j u c, j < t.fields.length ∧ v = Tu [Ag (vcF c), Pt bf (of + j * 6)] ∧ V.rep G' (.nd 61 [] (nth t.fields j).tag [u]) c ∧ b = false ∧ u.tot + 100 * s'.length + 100 ≤ 100 * s.length ∧
       (b' = false → rdField f t s = some ((nth t.fields j, u), s')) ∧ (b' = true → rdField f t s = none)))
abbrev zP : Value := Ag [U8 0, S [], I 0, nilS]
theorem field_none {f : List UInt8 → List UInt8 → Option (V × List UInt8)} {t : Ty} {s : List UInt8} (h : numOf (s.takeWhile isDg) 200 = none ∨ ∃ m, numOf (s.takeWhile isDg) 200 = some m ∧ fldT t.fields m = none) : rdField f t s = none := by
 unfold rdField rdNum
 rcases h with h | ⟨m, h, h2⟩
 ·rw [h]; rfl
 ·rw [h]; dsimp only [Option.map_some]; rw [h2]
theorem field_noeq {f : List UInt8 → List UInt8 → Option (V × List UInt8)} {t : Ty} {s : List UInt8} {m : Int} (h : numOf (s.takeWhile isDg) 200 = some m) (h2 : ∀ s2, s.dropWhile isDg ≠ 61 :: s2) : rdField f t s = none := by
 unfold rdField rdNum
 rw [h]; dsimp only [Option.map_some]
 cases fldT t.fields m with
 | none => rfl
 | some d =>
  dsimp only
  cases hd : s.dropWhile isDg with
  | nil => rfl
  | cons c r =>
   dsimp only
   rw [if_neg]
   intro hc
   exact h2 r (by rw [hd, show c = 61 from UInt8.toNat_inj.1 hc])
theorem field_some {f : List UInt8 → List UInt8 → Option (V × List UInt8)} {t : Ty} {s s2 : List UInt8} {m : Int} {d : Fld} (h : numOf (s.takeWhile isDg) 200 = some m) (hd : fldT t.fields m = some d) (h2 : s.dropWhile isDg = 61 :: s2) : rdField f t s = (f d.kind s2).map fun x => ((d, x.1), x.2) := by
 unfold rdField rdNum
 rw [h]; dsimp only [Option.map_some]; rw [hd, h2]; dsimp only; rw [if_pos (show (61 : UInt8).toNat = 61 from rfl)]
theorem c_fieldV {n r sc bt bf of cf : Nat} {qs : List TyP} {t : Ty} {ln s : List UInt8} {b : Bool} {fv : Value} (hV : ValC n sc qs) (hS : ScI G sc qs) (hw : TyW t) (hkf : ∀ d ∈ t.fields, kindIn (tyq qs) d.kind = true)
  (h1 : Seg G bt 0 [U8 t.sort, S t.name, fv, S ln]) (h2 : SlV G fv 6 t.fields.length (rows fiF t.fields)) (hfv : t.fields ≠ [] → fv = .slice (some ⟨bf, of, none⟩) t.fields.length cf ∧ Seg G bf of (rows fiF t.fields)) (hs : s.length ≤ n ∧ s.length ≤ 1000) :
  FnM Tryz.prog 169 [Pt r 0, Pt bt 0] G [scO r sc s b] (FldP t bf of (rd (tyq qs) n) r sc s b) := by
 have hwl := while_len isDg s
 have hfl := hw.len
 have cx_nu := c_number (G := G) (r := r) (sc := sc) (s := s) (b := b) (top := 200) (by omega)
 have cx_wa := c_want (G := G) (r := r) (sc := sc) (s := s.dropWhile isDg) (l := [61]) (b := (b || (numOf (s.takeWhile isDg) 200).isNone)) ⟨by omega, by simp⟩
 have htl := tk_len (l := [61]) (s := s.dropWhile isDg) (b := (b || (numOf (s.takeWhile isDg) 200).isNone))
 have hleft : ∀ (s' : List UInt8), s'.length ≤ s.length → (b = true ∨ rdField (rd (tyq qs) n) t s = none) → ∀ G', FldP t bf of (rd (tyq qs) n) r sc s b (Tu [Ag (vcF zVC), .pointer none]) G' [scO r sc s' true] := fun s' h3 h4 G' => ⟨s', true, rfl, h3, .inl ⟨rfl, rfl, h4⟩⟩
 refine m_enter [(0, _), (1, _)] Tryz.func169 (by kernel_rfl) Tryz.ntmps169 rfl rfl (by repeat' constructor) fun B hB hW => ?_
 repeat' (first | (refine jR ?_) | (refine k_op rfl ?_; first | refine c_al rfl rfl fun _ => ?_ | (refine c_m1g rfl rfl rfl cx_nu rfl ?_; rintro _ _ ⟨n1, rfl, ⟨hn0, hn1⟩, hnum, rfl⟩; dsimp only [zA, fA])))
 rename_i x4
 cases hft : fldT t.fields n1 with
 | none =>
  have hno : rdField (rd (tyq qs) n) t s = none := by
   cases hm : numOf (s.takeWhile isDg) 200 with
   | none => exact field_none (.inl hm)
   | some m => exact field_none (.inr ⟨m, hm, by rw [← hnum m hm]; exact hft⟩)
  have cx_fld := c_fieldI0 h1 h2 (by omega) hft
  repeat' (first | (refine jR ?_) | (refine k_op rfl ?_; first | refine jV (g_peq0 rfl rfl) ?_ | (refine jV (g_pickT rfl rfl rfl) ?_) | refine c_st1 rfl rfl rfl rfl ?_ | refine c_stA rfl rfl rfl rfl rfl rfl ?_ | refine jV (g_bld rfl rfl) ?_ | (refine c_rt rfl rfl rfl cx_fld rfl ?_) | (refine c_m1g rfl rfl rfl cx_wa rfl ?_; rintro _ _ rfl; dsimp only [zA, fA])) | (refine k_gt rfl rfl rfl ?_) | (refine k_tt rfl rfl ?_))
  refine k_rr (vs := [_, _]) rfl ⟨rc_A rfl rfl rfl rfl, rfl, trivial⟩ rfl (by repeat (first | exact List.nil_sublist _ | apply List.Sublist.cons_cons)) ⟨Gh.le.refl _, hleft _ (by omega) (.inr hno) _⟩
 | some d =>
  obtain ⟨j, hj, hjn, hjt, hjd⟩ := fldT_some hft
  subst hjd
  obtain ⟨rfl, hsf⟩ := hfv (fun h => by rw [h] at hj; simp at hj)
  have cx_fld := c_fieldI1 h1 hsf (by omega) hj hjn hjt
  cases ht : tkR [61] (s.dropWhile isDg) (b || (numOf (s.takeWhile isDg) 200).isNone) with
  | false =>
   rw [ht, Bool.not_false] at cx_wa
   have hno : b = true ∨ rdField (rd (tyq qs) n) t s = none := by
    cases b with
    | true => exact .inl rfl
    | false =>
     right
     cases hm : numOf (s.takeWhile isDg) 200 with
     | none => exact field_none (.inl hm)
     | some m =>
      refine field_noeq hm (fun s2 h => ?_)
      rw [hm, h] at ht
      have : tkR [61] (61 :: s2) false = true := tk1.2 ⟨s2, rfl⟩
      rw [show (false || (some m).isNone) = false from rfl, this] at ht; cases ht
   repeat' (first | (refine jR ?_) | (refine k_op rfl ?_; first | refine jV (g_peq0 rfl rfl) ?_ | refine jV (g_ld rfl rfl rfl) ?_ | (refine jV (g_pickF rfl rfl rfl) ?_) | refine c_st1 rfl rfl rfl rfl ?_ | refine c_stA rfl rfl rfl rfl rfl rfl ?_ | refine jV (g_bld rfl rfl) ?_ | (refine c_rt rfl rfl rfl cx_fld rfl ?_) | (refine c_m1g rfl rfl rfl cx_wa rfl ?_; rintro _ _ rfl; dsimp only [zA, fA])) | (refine k_gf rfl rfl rfl ?_) | (refine k_tt rfl rfl ?_))
   refine k_rr (vs := [_, _]) rfl ⟨rc_A rfl rfl rfl rfl, rfl, trivial⟩ rfl (by repeat (first | exact List.nil_sublist _ | apply List.Sublist.cons_cons)) ⟨Gh.le.refl _, hleft _ (by omega) hno _⟩
  | true =>
   have hb0 : (b || (numOf (s.takeWhile isDg) 200).isNone) = false := by
    cases hb : (b || (numOf (s.takeWhile isDg) 200).isNone) with
    | false => rfl
    | true => rw [hb, tkT] at ht; cases ht
   rw [hb0] at ht cx_wa htl
   rw [hb0]
   simp only [Bool.or_eq_false_iff] at hb0
   obtain ⟨hb, hnn⟩ := hb0
   obtain ⟨m, hm⟩ : ∃ m, numOf (s.takeWhile isDg) 200 = some m := by
    cases hm : numOf (s.takeWhile isDg) 200 with
    | none => rw [hm] at hnn; cases hnn
    | some m => exact ⟨m, rfl⟩
   obtain ⟨s2, hs2⟩ := tk1.1 ht
   rw [ht, hs2, tk1S, Bool.not_true] at cx_wa
   have hdig : 1 ≤ (s.takeWhile isDg).length := by
    have h3 := (numOf_le hm).2.1
    rw [h3]; exact decI_pos m
   rw [hs2, List.length_cons] at hwl
   have hfd : ∀ x, rdField (rd (tyq qs) n) t s = some x ↔ (rd (tyq qs) n (nth t.fields j).kind s2).map (fun x => ((nth t.fields j, x.1), x.2)) = some x := fun x => by
    rw [field_some hm (d := nth t.fields j) (by rw [← hnum m hm, hft]) hs2]
   have hkd := hkf (nth t.fields j) (nth_mem hj)
   have cx_vl := hV G r (nth t.fields j).kind s2 false hS hkd (by omega) (by omega)
   rw [hs2]
   repeat' (first | (refine jR ?_) | (refine k_op rfl ?_; first | refine c_al rfl rfl fun _ => ?_ | refine jV (g_peq0 rfl rfl) ?_ | refine jV (g_ld rfl rfl rfl) ?_ | (refine jV (g_ldRA rfl rfl (by assumption) ?_ rfl rfl) ?_; (focus ((omega); done))) | (refine jV (g_pickF rfl rfl rfl) ?_) | refine c_stA rfl rfl rfl rfl rfl rfl ?_ | (refine c_rt rfl rfl rfl cx_fld rfl ?_) | (refine c_m1g rfl rfl rfl cx_wa rfl ?_; rintro _ _ rfl; dsimp only [zA, fA]) | (refine c_m1s rfl rfl rfl cx_vl rfl ?_; rintro _ G1 _ hle ⟨u1, c1, t1, b1, rfl, hrep, rfl, hP⟩; dsimp only [zA, fA]; skip)) | (refine k_gf rfl rfl rfl ?_) | (refine k_ff rfl rfl ?_))
   have hsf1 := hsf.mono hle
   have htag := (hw.fld _ (nth_mem hj)).tag
   repeat' (first | (refine jR ?_) | (refine k_any (s_anyD (id := 7) (tt := 4) rfl mixed ?_); refine jU 6 [0, 1, 2, 7] (bts 10 135) ?_ ?_; (focus (repeat' (exact trivial))); ((refine jG (bts 10 143) 3 rfl (g_ldRF rfl rfl (by assumption) ?_ rfl rfl) ?_; (focus ((omega); done)))); (refine jG (bts 10 159) 4 rfl (g_ldA rfl rfl rfl rfl) ?_); refine jA 5 rfl ?_; (refine c_bsl rfl rfl rfl rfl rfl rfl fun _ => ?_); refine jK (bts 10 191) ?_; (refine jG (bts 10 255) 6 rfl (g_bld rfl rfl) ?_); refine jA 8 rfl ?_; (refine c_stA rfl rfl rfl rfl rfl rfl ?_); refine jK (bts 10 511) ?_; refine jU 0 [9] (bts 10 1023) ?_ ?_; (focus (repeat' (exact trivial))); refine x_done (by kernel_rfl) (k_bk ?_)))
   rename_i y
   refine Nx.sealC (b := y) fun G2 hG2 hsy => ?_
   have hsl : SlV G2 (.slice (some ⟨y, 0, none⟩) 1 1) 4 ([c1] : List VC).length (rows vcF [c1]) := ⟨rfl, .inr ⟨y, 0, 1, rfl, Nat.le_refl _, hsy⟩⟩
   have hrp : V.rep G2 (.nd 61 [] (nth t.fields j).tag [u1]) ⟨61, [], (nth t.fields j).tag, some ⟨y, 0, none⟩, 1, 1⟩ := rep_mk (by decide) (by omega) (fun _ => rfl) rfl hsl ⟨c1, [], rfl, rep_mono hG2 hrep, rfl⟩
   obtain ⟨hPl, hP0, hP1⟩ := hP
   have hf2 := fun x => hfd x
   cases b1 with
   | false =>
    obtain ⟨_, hgood⟩ := hP0 rfl
    have htot := rd_tot n _ _ _ hgood
    dsimp only at htot
    refine k_rr (vs := [_, _]) rfl ⟨rc_A rfl rfl rfl rfl, rfl, trivial⟩ rfl (by repeat (first | exact List.nil_sublist _ | apply List.Sublist.cons_cons | apply List.Sublist.cons)) ⟨hle.trans hG2, t1, false, rfl, by omega, .inr ⟨j, u1, ⟨61, [], (nth t.fields j).tag, some ⟨y, 0, none⟩, 1, 1⟩, hj, rfl, hrp, hb, by omega, fun _ => (hfd _).2 (by rw [hgood]; rfl), fun h => (by cases h)⟩⟩
   | true =>
    obtain ⟨hbad, hto⟩ := hP1 rfl
    have hbad2 : rd (tyq qs) n (nth t.fields j).kind s2 = none := by
     rcases hbad with h | h
     ·cases h
     ·exact h
    have hno : rdField (rd (tyq qs) n) t s = none := by
     cases hx : rdField (rd (tyq qs) n) t s with
     | none => rfl
     | some x => have := (hfd x).1 hx; rw [hbad2] at this; cases this
    refine k_rr (vs := [_, _]) rfl ⟨rc_A rfl rfl rfl rfl, rfl, trivial⟩ rfl (by repeat (first | exact List.nil_sublist _ | apply List.Sublist.cons_cons | apply List.Sublist.cons)) ⟨hle.trans hG2, t1, true, rfl, by omega, .inr ⟨j, u1, ⟨61, [], (nth t.fields j).tag, some ⟨y, 0, none⟩, 1, 1⟩, hj, rfl, hrp, hb, by omega, fun h => (by cases h), fun _ => hno⟩⟩
theorem tk_no {c : UInt8} {s : List UInt8} (h : tkR [c] s false = false) : ∀ s2, s ≠ c :: s2 := fun s2 e => by
 have : tkR [c] s false = true := tk1.2 ⟨s2, e⟩
 rw [this] at h; cases h
theorem typed_no {ts : List Ty} {f : List UInt8 → List UInt8 → Option (V × List UInt8)} {t : Ty} {s : List UInt8} {c : UInt8} (hc : t.sort = 82 ∧ c = 123 ∨ t.sort = 69 ∧ c = 35 ∨ (t.sort ≠ 82 ∧ t.sort ≠ 69) ∧ c = 60) (h : ∀ s2, s ≠ c :: s2) : rdTyped ts f t s = none := by
 cases s with
 | nil => rfl
 | cons d r =>
  have hd : d ≠ c := fun e => h r (by rw [e])
  unfold rdTyped
  dsimp only
  have hn : ∀ k : Nat, k < 256 → c = UInt8.ofNat k → ¬ d.toNat = k := fun k hk e h2 => hd (by rw [e, u8_eq h2 hk])
  rcases hc with ⟨h1, h2⟩ | ⟨h1, h2⟩ | ⟨⟨h1, h1'⟩, h2⟩
  ·rw [if_pos h1, if_neg (hn 123 (by decide) h2)]
  ·rw [if_neg (by omega), if_pos h1, if_neg (hn 35 (by decide) h2)]
  ·rw [if_neg h1, if_neg h1', if_neg (hn 60 (by decide) h2)]
theorem c_ofE {n r sc bt : Nat} {qs : List TyP} {t : Ty} {s : List UInt8} {b : Bool} (hT : TyI G bt t) (hw : TyW t) (hso : t.sort = 69) (hs : s.length ≤ n ∧ s.length ≤ 1000) :
  FnM Tryz.prog 144 [Pt r 0, Pt bt 0] G [scO r sc s b] (ValP (rdTyped (tyq qs) (rd (tyq qs) n) t) r sc s b) := by
 obtain ⟨fv, ln, h1, h2⟩ := hT
 have hfl := hw.len
 have hso' : (t.sort : Int) = 69 := by omega
 have cx_wa := c_want (G := G) (r := r) (sc := sc) (s := s) (l := [35]) (b := b) ⟨by omega, by simp⟩
 cases ht : tkR [35] s b with
 | false =>
  rw [ht, tkSF ht, Bool.not_false] at cx_wa
  have hno : b = true ∨ rdTyped (tyq qs) (rd (tyq qs) n) t s = none := by
   cases b with
   | true => exact .inl rfl
   | false => exact .inr (typed_no (.inr (.inl ⟨hso, rfl⟩)) (tk_no ht))
  have cx_nu := c_number (G := G) (r := r) (sc := sc) (s := s) (b := true) (top := 200) (by omega)
  rw [Bool.true_or] at cx_nu
  have hwl := while_len isDg s
  refine m_enter [(0, _), (1, _)] Tryz.func144 (by kernel_rfl) Tryz.ntmps144 rfl rfl (by repeat' constructor) fun B hB hW => ?_
  repeat' (first | (refine jR ?_) | (refine k_op rfl ?_; first | refine c_al rfl rfl fun _ => ?_ | refine jV (g_ld rfl rfl rfl) ?_ | refine jV (g_ldS rfl rfl (by assumption) rfl rfl) ?_ | refine jV (g_bld rfl rfl) ?_ | refine c_st1 rfl rfl rfl rfl ?_ | refine c_stA rfl rfl rfl rfl rfl rfl ?_ | (refine c_m1g rfl rfl rfl cx_wa rfl ?_; rintro _ _ rfl; dsimp only [zA, fA]) | (refine c_m1g rfl rfl rfl cx_nu rfl ?_; rintro _ _ ⟨n1, rfl, ⟨hn0, hn1⟩, hnum, rfl⟩; dsimp only [zA, fA])) | (refine k_tt rfl (dTt ‹_›) ?_))
  cases hft : fldT t.fields n1 with
  | none =>
   have cx_fld := c_fieldI0 h1 h2 (by omega) hft
   repeat' (first | (refine jR ?_) | (refine k_op rfl ?_; first | refine jV (g_ldA rfl rfl rfl rfl) ?_ | refine c_st1 rfl rfl rfl rfl ?_ | refine c_stA rfl rfl rfl rfl rfl rfl ?_ | refine jV (g_peq0 rfl rfl) ?_ | (refine c_rt rfl rfl rfl cx_fld rfl ?_)) | (refine k_tt rfl rfl ?_))
   refine k_rr (vs := [_]) rfl ⟨rc_A rfl rfl rfl rfl, trivial⟩ rfl (by repeat (first | exact List.nil_sublist _ | apply List.Sublist.cons_cons)) ⟨Gh.le.refl _, .nd 69 [] n1 [], ⟨69, [], n1, none, 0, 0⟩, s.dropWhile isDg, true, by rw [hso]; rfl, rep_leaf (by decide) ⟨hn0, hn1⟩, rfl, by omega, fun h => (by cases h), fun _ => ⟨hno, by simp only [V.tot, V.tots, List.length_nil]; omega⟩⟩
  | some d =>
   obtain ⟨j, hj, hjn, hjt, hjd⟩ := fldT_some hft
   obtain ⟨bf, of, cf, rfl, hsf⟩ := h2.expl (by omega)
   have cx_fld := c_fieldI1 h1 hsf (by omega) hj hjn hjt
   repeat' (first | (refine jR ?_) | (refine k_op rfl ?_; first | refine jV (g_ldA rfl rfl rfl rfl) ?_ | refine c_stA rfl rfl rfl rfl rfl rfl ?_ | refine jV (g_peq0 rfl rfl) ?_ | (refine c_rt rfl rfl rfl cx_fld rfl ?_)) | (refine k_ff rfl rfl ?_))
   refine k_rr (vs := [_]) rfl ⟨rc_A rfl rfl rfl rfl, trivial⟩ rfl (by repeat (first | exact List.nil_sublist _ | apply List.Sublist.cons_cons)) ⟨Gh.le.refl _, .nd 69 [] n1 [], ⟨69, [], n1, none, 0, 0⟩, s.dropWhile isDg, true, by rw [hso]; rfl, rep_leaf (by decide) ⟨hn0, hn1⟩, rfl, by omega, fun h => (by cases h), fun _ => ⟨hno, by simp only [V.tot, V.tots, List.length_nil]; omega⟩⟩
 | true =>
  have hb : b = false := by cases b with | true => rw [tkT] at ht; cases ht | false => rfl
  subst hb
  obtain ⟨s1, rfl⟩ := tk1.1 ht
  rw [ht, tk1S, Bool.not_true] at cx_wa
  simp only [List.length_cons] at hs
  have cx_nu := c_number (G := G) (r := r) (sc := sc) (s := s1) (b := false) (top := 200) (by omega)
  rw [Bool.false_or] at cx_nu
  have hwl := while_len isDg s1
  have hRT : rdTyped (tyq qs) (rd (tyq qs) n) t (35 :: s1) = match rdNum 200 s1 with
    | none => none
    | some (n, r) => if (fldT t.fields n).isSome = true then some (.nd 69 [] n [], r) else none := by
   unfold rdTyped
   dsimp only
   rw [if_neg (by omega), if_pos hso, if_pos (show (35 : UInt8).toNat = 35 from rfl)]
   cases rdNum 200 s1 <;> rfl
  cases hnu : numOf (s1.takeWhile isDg) 200 with
  | none =>
   have hno : rdTyped (tyq qs) (rd (tyq qs) n) t (35 :: s1) = none := by rw [hRT]; unfold rdNum; rw [hnu]; rfl
   rw [hnu] at cx_nu
   refine m_enter [(0, _), (1, _)] Tryz.func144 (by kernel_rfl) Tryz.ntmps144 rfl rfl (by repeat' constructor) fun B hB hW => ?_
   repeat' (first | (refine jR ?_) | (refine k_op rfl ?_; first | refine c_al rfl rfl fun _ => ?_ | refine jV (g_ld rfl rfl rfl) ?_ | refine jV (g_ldS rfl rfl (by assumption) rfl rfl) ?_ | refine jV (g_bld rfl rfl) ?_ | refine c_st1 rfl rfl rfl rfl ?_ | refine c_stA rfl rfl rfl rfl rfl rfl ?_ | (refine c_m1g rfl rfl rfl cx_wa rfl ?_; rintro _ _ rfl; dsimp only [zA, fA]) | (refine c_m1g rfl rfl rfl cx_nu rfl ?_; rintro _ _ ⟨n1, rfl, ⟨hn0, hn1⟩, hnum, rfl⟩; dsimp only [zA, fA])) | (refine k_tt rfl (dTt ‹_›) ?_))
   cases hft : fldT t.fields n1 with
   | none =>
    have cx_fld := c_fieldI0 h1 h2 (by omega) hft
    repeat' (first | (refine jR ?_) | (refine k_op rfl ?_; first | refine jV (g_ldA rfl rfl rfl rfl) ?_ | refine c_st1 rfl rfl rfl rfl ?_ | refine c_stA rfl rfl rfl rfl rfl rfl ?_ | refine jV (g_peq0 rfl rfl) ?_ | (refine c_rt rfl rfl rfl cx_fld rfl ?_)) | (refine k_tt rfl rfl ?_))
    refine k_rr (vs := [_]) rfl ⟨rc_A rfl rfl rfl rfl, trivial⟩ rfl (by repeat (first | exact List.nil_sublist _ | apply List.Sublist.cons_cons)) ⟨Gh.le.refl _, .nd 69 [] n1 [], ⟨69, [], n1, none, 0, 0⟩, s1.dropWhile isDg, true, by rw [hso]; rfl, rep_leaf (by decide) ⟨hn0, hn1⟩, rfl, by simp only [List.length_cons]; omega, fun h => (by cases h), fun _ => ⟨.inr hno, by simp only [V.tot, V.tots, List.length_nil, List.length_cons]; omega⟩⟩
   | some d =>
    obtain ⟨j, hj, hjn, hjt, hjd⟩ := fldT_some hft
    obtain ⟨bf, of, cf, rfl, hsf⟩ := h2.expl (by omega)
    have cx_fld := c_fieldI1 h1 hsf (by omega) hj hjn hjt
    repeat' (first | (refine jR ?_) | (refine k_op rfl ?_; first | refine jV (g_ldA rfl rfl rfl rfl) ?_ | refine c_stA rfl rfl rfl rfl rfl rfl ?_ | refine jV (g_peq0 rfl rfl) ?_ | (refine c_rt rfl rfl rfl cx_fld rfl ?_)) | (refine k_ff rfl rfl ?_))
    refine k_rr (vs := [_]) rfl ⟨rc_A rfl rfl rfl rfl, trivial⟩ rfl (by repeat (first | exact List.nil_sublist _ | apply List.Sublist.cons_cons)) ⟨Gh.le.refl _, .nd 69 [] n1 [], ⟨69, [], n1, none, 0, 0⟩, s1.dropWhile isDg, true, by rw [hso]; rfl, rep_leaf (by decide) ⟨hn0, hn1⟩, rfl, by simp only [List.length_cons]; omega, fun h => (by cases h), fun _ => ⟨.inr hno, by simp only [V.tot, V.tots, List.length_nil, List.length_cons]; omega⟩⟩
  | some m =>
   rw [hnu] at cx_nu
   have hRT2 : rdTyped (tyq qs) (rd (tyq qs) n) t (35 :: s1) = if (fldT t.fields m).isSome = true then some (.nd 69 [] m [], s1.dropWhile isDg) else none := by rw [hRT]; unfold rdNum; rw [hnu]; rfl
   refine m_enter [(0, _), (1, _)] Tryz.func144 (by kernel_rfl) Tryz.ntmps144 rfl rfl (by repeat' constructor) fun B hB hW => ?_
   repeat' (first | (refine jR ?_) | (refine k_op rfl ?_; first | refine c_al rfl rfl fun _ => ?_ | refine jV (g_ld rfl rfl rfl) ?_ | refine jV (g_ldS rfl rfl (by assumption) rfl rfl) ?_ | refine jV (g_bld rfl rfl) ?_ | refine c_st1 rfl rfl rfl rfl ?_ | refine c_stA rfl rfl rfl rfl rfl rfl ?_ | (refine c_m1g rfl rfl rfl cx_wa rfl ?_; rintro _ _ rfl; dsimp only [zA, fA]) | (refine c_m1g rfl rfl rfl cx_nu rfl ?_; rintro _ _ ⟨n1, rfl, ⟨hn0, hn1⟩, hnum, rfl⟩; dsimp only [zA, fA])) | (refine k_tt rfl (dTt ‹_›) ?_))
   obtain rfl : n1 = m := hnum m rfl
   cases hft : fldT t.fields n1 with
   | none =>
    rw [hft] at hRT2
    have cx_fld := c_fieldI0 h1 h2 (by omega) hft
    repeat' (first | (refine jR ?_) | (refine k_op rfl ?_; first | refine jV (g_ldA rfl rfl rfl rfl) ?_ | refine c_st1 rfl rfl rfl rfl ?_ | refine c_stA rfl rfl rfl rfl rfl rfl ?_ | refine jV (g_peq0 rfl rfl) ?_ | (refine c_rt rfl rfl rfl cx_fld rfl ?_)) | (refine k_tt rfl rfl ?_))
    refine k_rr (vs := [_]) rfl ⟨rc_A rfl rfl rfl rfl, trivial⟩ rfl (by repeat (first | exact List.nil_sublist _ | apply List.Sublist.cons_cons)) ⟨Gh.le.refl _, .nd 69 [] n1 [], ⟨69, [], n1, none, 0, 0⟩, s1.dropWhile isDg, true, by rw [hso]; rfl, rep_leaf (by decide) ⟨hn0, hn1⟩, rfl, by simp only [List.length_cons]; omega, fun h => (by cases h), fun _ => ⟨.inr hRT2, by simp only [V.tot, V.tots, List.length_nil, List.length_cons]; omega⟩⟩
   | some d =>
    rw [hft] at hRT2
    obtain ⟨j, hj, hjn, hjt, hjd⟩ := fldT_some hft
    obtain ⟨bf, of, cf, rfl, hsf⟩ := h2.expl (by omega)
    have cx_fld := c_fieldI1 h1 hsf (by omega) hj hjn hjt
    repeat' (first | (refine jR ?_) | (refine k_op rfl ?_; first | refine jV (g_ldA rfl rfl rfl rfl) ?_ | refine c_stA rfl rfl rfl rfl rfl rfl ?_ | refine jV (g_peq0 rfl rfl) ?_ | (refine c_rt rfl rfl rfl cx_fld rfl ?_)) | (refine k_ff rfl rfl ?_))
    refine k_rr (vs := [_]) rfl ⟨rc_A rfl rfl rfl rfl, trivial⟩ rfl (by repeat (first | exact List.nil_sublist _ | apply List.Sublist.cons_cons)) ⟨Gh.le.refl _, .nd 69 [] n1 [], ⟨69, [], n1, none, 0, 0⟩, s1.dropWhile isDg, false, by rw [hso]; rfl, rep_leaf (by decide) ⟨hn0, hn1⟩, rfl, by simp only [List.length_cons]; omega, fun _ => ⟨rfl, hRT2⟩, fun h => (by cases h)⟩
end Go.E
namespace Go.E
set_option maxRecDepth 20000
set_option maxHeartbeats 2000000
open Go.Proofs
variable {G : Gh}
theorem rep_uni {G : Gh} {t : Int} {u : V} {c : VC} (h : V.rep G (.nd 61 [] t [u]) c) : ∃ (b o k : Nat) (d : VC), c = ⟨61, [], t, some ⟨b, o, none⟩, 1, k⟩ ∧ (0 ≤ t ∧ t ≤ 999999) ∧ Seg G b o (rows vcF [d]) ∧ V.rep G u d ∧ V.rep G (.nd 85 [] t [u]) ⟨85, [], t, some ⟨b, o, none⟩, 1, k⟩ := by
 obtain ⟨a, k, cs, rfl, _, ht, _, hcl, hsl, hks⟩ := rep_inv h
 rw [V.reps] at hks
 obtain ⟨d, cs', rfl, hd, hcs⟩ := hks
 rw [V.reps] at hcs
 subst hcs
 obtain ⟨b, o, cap, e, hs⟩ := hsl.expl (by simp)
 simp only [Value.slice.injEq] at e
 obtain ⟨rfl, -, rfl⟩ := e
 exact ⟨b, o, k, d, rfl, ht, hs, hd, rep_mk (by decide) ht (fun h => absurd h (by decide)) rfl hsl ⟨d, [], rfl, hd, rfl⟩⟩
theorem c_ofU {n r sc bt : Nat} {qs : List TyP} {t : Ty} {s : List UInt8} {b : Bool} (hV : ValC n sc qs) (hS : ScI G sc qs) (hkf : ∀ d ∈ t.fields, kindIn (tyq qs) d.kind = true) (hT : TyI G bt t) (hw : TyW t) (hso : t.sort = 85) (hs : s.length ≤ n ∧ s.length ≤ 1000) :
  FnM Tryz.prog 144 [Pt r 0, Pt bt 0] G [scO r sc s b] (ValP (rdTyped (tyq qs) (rd (tyq qs) n) t) r sc s b) := by
 obtain ⟨fv, ln, h1, h2⟩ := hT
 have hfl := hw.len
 have hso' : (t.sort : Int) = 85 := by omega
 have hne : 0 < t.fields.length := List.length_pos_iff.2 (hw.ne (by omega))
 obtain ⟨bf, of, cf, rfl, hsf⟩ := h2.expl hne
 have cx_wa := c_want (G := G) (r := r) (sc := sc) (s := s) (l := [60]) (b := b) ⟨by omega, by simp⟩
 cases ht : tkR [60] s b with
 | false =>
  rw [ht, tkSF ht, Bool.not_false] at cx_wa
  have hno : b = true ∨ rdTyped (tyq qs) (rd (tyq qs) n) t s = none := by
   cases b with
   | true => exact .inl rfl
   | false => exact .inr (typed_no (.inr (.inr ⟨by omega, rfl⟩)) (tk_no ht))
  have cx_fd := c_fieldV (s := s) (b := true) (r := r) hV hS hw hkf h1 h2 (fun _ => ⟨rfl, hsf⟩) hs
  refine m_enter [(0, _), (1, _)] Tryz.func144 (by kernel_rfl) Tryz.ntmps144 rfl rfl (by repeat' constructor) fun B hB hW => ?_
  repeat' (first | (refine jR ?_) | (refine k_op rfl ?_; first | refine c_al rfl rfl fun _ => ?_ | refine jV (g_ldS rfl rfl (by assumption) rfl rfl) ?_ | refine jV (g_bld rfl rfl) ?_ | refine c_stA rfl rfl rfl rfl rfl rfl ?_ | (refine c_m1g rfl rfl rfl cx_wa rfl ?_; rintro _ _ rfl; dsimp only [zA, fA]) | (refine c_m1s rfl rfl rfl cx_fd rfl ?_; rintro _ G1 _ hle ⟨t1, b1, rfl, htl, ⟨rfl, rfl, hF⟩ | ⟨j, u1, c1, hj, rfl, hrep, hb0, hto, hg, hbd⟩⟩ <;> (dsimp only [zA, fA]; skip))) | (refine k_tt rfl (dTt ‹_›) ?_) | (refine k_ff rfl (dFf (by omega)) ?_))
  ·have cx_wb := c_want (G := G1) (r := r) (sc := sc) (s := t1) (l := [62]) (b := true) ⟨by omega, by simp⟩
   rw [tkT, tkST, Bool.not_false] at cx_wb
   repeat' (first | (refine jR ?_) | (refine k_op rfl ?_; first | refine jV (g_ldA rfl rfl rfl rfl) ?_ | refine c_stA rfl rfl rfl rfl rfl rfl ?_ | refine jV (g_pne0 rfl rfl) ?_ | (refine c_m1g rfl rfl rfl cx_wb rfl ?_; rintro _ _ rfl; dsimp only [zA, fA])) | (refine k_ff rfl rfl ?_))
   refine k_rr (vs := [_]) rfl ⟨rc_A rfl rfl rfl rfl, trivial⟩ rfl (by repeat (first | exact List.nil_sublist _ | apply List.Sublist.cons_cons)) ⟨hle, .nd 85 [] 0 [], ⟨85, [], 0, none, 0, 0⟩, t1, true, by rw [hso]; rfl, rep_leaf (by decide) (by decide), rfl, by omega, fun h => (by cases h), fun _ => ⟨hno, by simp only [V.tot, V.tots, List.length_nil]; omega⟩⟩
  ·cases hb0
 | true =>
  have hb : b = false := by cases b with | true => rw [tkT] at ht; cases ht | false => rfl
  subst hb
  obtain ⟨s1, rfl⟩ := tk1.1 ht
  rw [ht, tk1S, Bool.not_true] at cx_wa
  simp only [List.length_cons] at hs
  have hRT : rdTyped (tyq qs) (rd (tyq qs) n) t (60 :: s1) = match rdField (rd (tyq qs) n) t s1 with
    | none => none
    | some ((d, v), r) => match r with
     | [] => none
     | c' :: r' => if c'.toNat = 62 then some (.nd 85 [] d.tag [v], r') else none := by
   unfold rdTyped
   dsimp only
   rw [if_neg (by omega), if_neg (by omega), if_pos (show (60 : UInt8).toNat = 60 from rfl)]
   cases rdField (rd (tyq qs) n) t s1 <;> rfl
  have cx_fd := c_fieldV (s := s1) (b := false) (r := r) hV hS hw hkf h1 h2 (fun _ => ⟨rfl, hsf⟩) ⟨by omega, by omega⟩
  refine m_enter [(0, _), (1, _)] Tryz.func144 (by kernel_rfl) Tryz.ntmps144 rfl rfl (by repeat' constructor) fun B hB hW => ?_
  repeat' (first | (refine jR ?_) | (refine k_op rfl ?_; first | refine c_al rfl rfl fun _ => ?_ | refine jV (g_ldS rfl rfl (by assumption) rfl rfl) ?_ | refine jV (g_bld rfl rfl) ?_ | refine c_stA rfl rfl rfl rfl rfl rfl ?_ | (refine c_m1g rfl rfl rfl cx_wa rfl ?_; rintro _ _ rfl; dsimp only [zA, fA]) | (refine c_m1s rfl rfl rfl cx_fd rfl ?_; rintro _ G1 _ hle ⟨t1, b1, rfl, htl, ⟨rfl, rfl, hF⟩ | ⟨j, u1, c1, hj, rfl, hrep, hb0, hto, hg, hbd⟩⟩ <;> (dsimp only [zA, fA]; skip))) | (refine k_tt rfl (dTt ‹_›) ?_) | (refine k_ff rfl (dFf (by omega)) ?_))
  ·have hno : rdTyped (tyq qs) (rd (tyq qs) n) t (60 :: s1) = none := by
    rcases hF with h | h
    ·cases h
    ·rw [hRT, h]
   have cx_wb := c_want (G := G1) (r := r) (sc := sc) (s := t1) (l := [62]) (b := true) ⟨by omega, by simp⟩
   rw [tkT, tkST, Bool.not_false] at cx_wb
   repeat' (first | (refine jR ?_) | (refine k_op rfl ?_; first | refine jV (g_ldA rfl rfl rfl rfl) ?_ | refine c_stA rfl rfl rfl rfl rfl rfl ?_ | refine jV (g_pne0 rfl rfl) ?_ | (refine c_m1g rfl rfl rfl cx_wb rfl ?_; rintro _ _ rfl; dsimp only [zA, fA])) | (refine k_ff rfl rfl ?_))
   refine k_rr (vs := [_]) rfl ⟨rc_A rfl rfl rfl rfl, trivial⟩ rfl (by repeat (first | exact List.nil_sublist _ | apply List.Sublist.cons_cons)) ⟨hle, .nd 85 [] 0 [], ⟨85, [], 0, none, 0, 0⟩, t1, true, by rw [hso]; rfl, rep_leaf (by decide) (by decide), rfl, by simp only [List.length_cons]; omega, fun h => (by cases h), fun _ => ⟨.inr hno, by simp only [V.tot, V.tots, List.length_nil, List.length_cons]; omega⟩⟩
  ·obtain ⟨kb, ko, kc, d, rfl, htg, hsd, hrd, hru⟩ := rep_uni hrep
   have hsf1 := hsf.mono hle
   cases b1 with
   | true =>
    have hno : rdTyped (tyq qs) (rd (tyq qs) n) t (60 :: s1) = none := by rw [hRT, hbd rfl]
    have cx_wb := c_want (G := G1) (r := r) (sc := sc) (s := t1) (l := [62]) (b := true) ⟨by omega, by simp⟩
    rw [tkT, tkST, Bool.not_false] at cx_wb
    repeat' (first | (refine jR ?_) | (refine k_op rfl ?_; first | refine jV (g_pne0 rfl rfl) ?_ | (refine c_m1g rfl rfl rfl cx_wb rfl ?_; rintro _ _ rfl; dsimp only [zA, fA])) | (refine k_tt rfl rfl ?_))
    rename_i x4 x5 _ x6 _
    dsimp only [VC.sl]
    (refine k_any (s_any (id := 25) [.blk x6 (.cells (List.toArray [U8 ((61 : Nat) : Int), S [], I (nth t.fields j).tag, .slice (some ⟨kb, ko, none⟩) 1 kc]) tVal (0, 0))] (by intro y hy; simp only [List.mem_cons, List.not_mem_nil, or_false] at hy ⊢; simp [hy]) mixed ?_); refine jU 6 [0, 1, 2, 4] (bts 10 23) ?_ ?_; (focus (repeat' (exact trivial))); ((refine jG (bts 10 31) 3 rfl (g_ldRF rfl rfl (by assumption) ?_ rfl rfl) ?_; (focus ((omega); done)))); refine jU 4 [6] (bts 10 95) ?_ ?_; (focus (repeat' (exact trivial))); (refine jG (bts 10 127) 5 rfl (g_ld rfl rfl rfl) ?_); refine jA 7 rfl ?_; (refine c_st1 rfl rfl rfl rfl ?_); refine jK (bts 10 255) ?_; refine jU 1 [8] (bts 10 511) ?_ ?_; (focus (repeat' (exact trivial))); refine jA 9 rfl ?_; (refine c_st1 rfl rfl rfl rfl ?_); refine jK (bts 10 1023) ?_; refine x_done (by kernel_rfl) (k_bk ?_))
    all_goals repeat' (first | (refine jR ?_) | (refine k_op rfl ?_; first | refine jV (g_ldA rfl rfl rfl rfl) ?_ | refine c_stA rfl rfl rfl rfl rfl rfl ?_))
    all_goals refine k_rr (vs := [_]) rfl ⟨rc_A rfl rfl rfl rfl, trivial⟩ rfl (by repeat (first | exact List.nil_sublist _ | apply List.Sublist.cons_cons)) ⟨hle, .nd 85 [] (nth t.fields j).tag [u1], ⟨85, [], (nth t.fields j).tag, some ⟨kb, ko, none⟩, 1, kc⟩, t1, true, by rw [hso]; rfl, hru, rfl, by simp only [List.length_cons] at *; omega, fun h => (by cases h), fun _ => ⟨.inr hno, by simp only [V.tot, V.tots, List.length_nil, List.length_cons] at *; omega⟩⟩
   | false =>
    have hgd := hg rfl
    have cx_wb := c_want (G := G1) (r := r) (sc := sc) (s := t1) (l := [62]) (b := false) ⟨by omega, by simp⟩
    cases ht2 : tkR [62] t1 false with
    | true =>
     obtain ⟨t2, rfl⟩ := tk1.1 ht2
     rw [ht2, tk1S, Bool.not_true] at cx_wb
     have hgood : rdTyped (tyq qs) (rd (tyq qs) n) t (60 :: s1) = some (.nd 85 [] (nth t.fields j).tag [u1], t2) := by
      rw [hRT, hgd]; dsimp only; rw [if_pos (show (62 : UInt8).toNat = 62 from rfl)]
     repeat' (first | (refine jR ?_) | (refine k_op rfl ?_; first | refine jV (g_pne0 rfl rfl) ?_ | (refine c_m1g rfl rfl rfl cx_wb rfl ?_; rintro _ _ rfl; dsimp only [zA, fA])) | (refine k_tt rfl rfl ?_))
     rename_i x4 x5 _ x6 _
     dsimp only [VC.sl]
     (refine k_any (s_any (id := 25) [.blk x6 (.cells (List.toArray [U8 ((61 : Nat) : Int), S [], I (nth t.fields j).tag, .slice (some ⟨kb, ko, none⟩) 1 kc]) tVal (0, 0))] (by intro y hy; simp only [List.mem_cons, List.not_mem_nil, or_false] at hy ⊢; simp [hy]) mixed ?_); refine jU 6 [0, 1, 2, 4] (bts 10 23) ?_ ?_; (focus (repeat' (exact trivial))); ((refine jG (bts 10 31) 3 rfl (g_ldRF rfl rfl (by assumption) ?_ rfl rfl) ?_; (focus ((omega); done)))); refine jU 4 [6] (bts 10 95) ?_ ?_; (focus (repeat' (exact trivial))); (refine jG (bts 10 127) 5 rfl (g_ld rfl rfl rfl) ?_); refine jA 7 rfl ?_; (refine c_st1 rfl rfl rfl rfl ?_); refine jK (bts 10 255) ?_; refine jU 1 [8] (bts 10 511) ?_ ?_; (focus (repeat' (exact trivial))); refine jA 9 rfl ?_; (refine c_st1 rfl rfl rfl rfl ?_); refine jK (bts 10 1023) ?_; refine x_done (by kernel_rfl) (k_bk ?_))
     all_goals repeat' (first | (refine jR ?_) | (refine k_op rfl ?_; first | refine jV (g_ldA rfl rfl rfl rfl) ?_ | refine c_stA rfl rfl rfl rfl rfl rfl ?_))
     all_goals refine k_rr (vs := [_]) rfl ⟨rc_A rfl rfl rfl rfl, trivial⟩ rfl (by repeat (first | exact List.nil_sublist _ | apply List.Sublist.cons_cons)) ⟨hle, .nd 85 [] (nth t.fields j).tag [u1], ⟨85, [], (nth t.fields j).tag, some ⟨kb, ko, none⟩, 1, kc⟩, t2, false, by rw [hso]; rfl, hru, rfl, by simp only [List.length_cons] at *; omega, fun _ => ⟨rfl, hgood⟩, fun h => (by cases h)⟩
    | false =>
     rw [ht2, tkSF ht2, Bool.not_false] at cx_wb
     have hno : rdTyped (tyq qs) (rd (tyq qs) n) t (60 :: s1) = none := by
      rw [hRT, hgd]
      dsimp only
      cases t1 with
      | nil => rfl
      | cons e t2 =>
       dsimp only
       rw [if_neg]
       intro h62
       exact tk_no ht2 t2 (by rw [show e = 62 from UInt8.toNat_inj.1 h62])
     repeat' (first | (refine jR ?_) | (refine k_op rfl ?_; first | refine jV (g_pne0 rfl rfl) ?_ | (refine c_m1g rfl rfl rfl cx_wb rfl ?_; rintro _ _ rfl; dsimp only [zA, fA])) | (refine k_tt rfl rfl ?_))
     rename_i x4 x5 _ x6 _
     dsimp only [VC.sl]
     (refine k_any (s_any (id := 25) [.blk x6 (.cells (List.toArray [U8 ((61 : Nat) : Int), S [], I (nth t.fields j).tag, .slice (some ⟨kb, ko, none⟩) 1 kc]) tVal (0, 0))] (by intro y hy; simp only [List.mem_cons, List.not_mem_nil, or_false] at hy ⊢; simp [hy]) mixed ?_); refine jU 6 [0, 1, 2, 4] (bts 10 23) ?_ ?_; (focus (repeat' (exact trivial))); ((refine jG (bts 10 31) 3 rfl (g_ldRF rfl rfl (by assumption) ?_ rfl rfl) ?_; (focus ((omega); done)))); refine jU 4 [6] (bts 10 95) ?_ ?_; (focus (repeat' (exact trivial))); (refine jG (bts 10 127) 5 rfl (g_ld rfl rfl rfl) ?_); refine jA 7 rfl ?_; (refine c_st1 rfl rfl rfl rfl ?_); refine jK (bts 10 255) ?_; refine jU 1 [8] (bts 10 511) ?_ ?_; (focus (repeat' (exact trivial))); refine jA 9 rfl ?_; (refine c_st1 rfl rfl rfl rfl ?_); refine jK (bts 10 1023) ?_; refine x_done (by kernel_rfl) (k_bk ?_))
     all_goals repeat' (first | (refine jR ?_) | (refine k_op rfl ?_; first | refine jV (g_ldA rfl rfl rfl rfl) ?_ | refine c_stA rfl rfl rfl rfl rfl rfl ?_))
     all_goals refine k_rr (vs := [_]) rfl ⟨rc_A rfl rfl rfl rfl, trivial⟩ rfl (by repeat (first | exact List.nil_sublist _ | apply List.Sublist.cons_cons)) ⟨hle, .nd 85 [] (nth t.fields j).tag [u1], ⟨85, [], (nth t.fields j).tag, some ⟨kb, ko, none⟩, 1, kc⟩, t1, true, by rw [hso]; rfl, hru, rfl, by simp only [List.length_cons] at *; omega, fun h => (by cases h), fun _ => ⟨.inr hno, by simp only [V.tot, V.tots, List.length_nil, List.length_cons] at *; omega⟩⟩
theorem flds_none {ts : List Ty} {f : List UInt8 → List UInt8 → Option (V × List UInt8)} {t : Ty} {s : List UInt8} {vs : List V} {last : Int} : ∀ {m : Nat}, rdField f t s = none → rdFlds ts f t m last s vs = none
 | 0, _ => rfl
 | m + 1, h => by rw [rdFlds, h]
theorem flds_step {ts : List Ty} {f : List UInt8 → List UInt8 → Option (V × List UInt8)} {t : Ty} {s r : List UInt8} {vs : List V} {last : Int} {d : Fld} {v : V} {m : Nat} (h : rdField f t s = some ((d, v), r)) (hm : 0 < m) :
  rdFlds ts f t m last s vs = if d.tag ≤ last ∨ v.out = standF ts d then none else match r with
   | [] => none
   | c :: r' => if c.toNat = 44 then rdFlds ts f t (m - 1) d.tag r' (vs ++ [.nd 61 [] d.tag [v]]) else if c.toNat = 125 then some (vs ++ [.nd 61 [] d.tag [v]], r') else none := by
 obtain ⟨m, rfl⟩ : ∃ k, m = k + 1 := ⟨m - 1, by omega⟩
 rw [rdFlds, h]; rfl
theorem rdField_nil {f : List UInt8 → List UInt8 → Option (V × List UInt8)} {t : Ty} : rdField f t [] = none := by
 unfold rdField rdNum
 have : numOf (([] : List UInt8).takeWhile isDg) 200 = none := by
  cases h : numOf (([] : List UInt8).takeWhile isDg) 200 with
  | none => rfl
  | some m =>
   have := (numOf_le h).2.1
   have h2 := decI_pos m
   rw [← this] at h2; simp at h2
 rw [this]; rfl
theorem c_ofR {n r sc bt : Nat} {qs : List TyP} {t : Ty} {s : List UInt8} {b : Bool} (hV : ValC n sc qs) (hS : ScI G sc qs) (hW0 : SchW (tyq qs)) (hkf : ∀ d ∈ t.fields, kindIn (tyq qs) d.kind = true) (hT : TyI G bt t) (hw : TyW t) (hso : t.sort = 82) (hs : s.length ≤ n ∧ s.length ≤ 1000) :
  FnM Tryz.prog 144 [Pt r 0, Pt bt 0] G [scO r sc s b] (ValP (rdTyped (tyq qs) (rd (tyq qs) n) t) r sc s b) := by
 obtain ⟨fv, ln, h1, h2⟩ := hT
 have hfl := hw.len
 have hso' : (t.sort : Int) = 82 := by omega
 have cx_wa := c_want (G := G) (r := r) (sc := sc) (s := s) (l := [123]) (b := b) ⟨by omega, by simp⟩
 have cx_tk := c_take (G := G) (r := r) (sc := sc) (s := tkS [123] s b) (l := [125]) (b := !tkR [123] s b) ⟨by have := tk_len (l := [123]) (s := s) (b := b); omega, by simp⟩
 cases ht : tkR [123] s b with
 | false =>
  rw [ht, tkSF ht] at cx_wa cx_tk
  rw [Bool.not_false, tkT, tkST] at cx_tk
  have cx_wb := c_want (G := G) (r := r) (sc := sc) (s := s) (l := [125]) (b := true) ⟨by omega, by simp⟩
  rw [tkT, tkST] at cx_wb
  have hno : b = true ∨ rdTyped (tyq qs) (rd (tyq qs) n) t s = none := by
   cases b with
   | true => exact .inl rfl
   | false => exact .inr (typed_no (.inl ⟨hso, rfl⟩) (tk_no ht))
  refine m_enter [(0, _), (1, _)] Tryz.func144 (by kernel_rfl) Tryz.ntmps144 rfl rfl (by repeat' constructor) fun B hB hW => ?_
  repeat' (first | (refine jR ?_) | (refine k_op rfl ?_; first | refine c_al rfl rfl fun _ => ?_ | refine jV (g_ldS rfl rfl (by assumption) rfl rfl) ?_ | refine jV (g_bld rfl rfl) ?_ | refine c_stA rfl rfl rfl rfl rfl rfl ?_ | (refine c_m1g rfl rfl rfl cx_wa rfl ?_; rintro _ _ rfl; dsimp only [zA, fA]) | (refine c_m1g rfl rfl rfl cx_tk rfl ?_; rintro _ _ ⟨rfl, rfl⟩; dsimp only [zA, fA])) | (refine k_ff rfl (by first | rfl | (refine decide_eq_false ?_; (omega))) ?_))
  rename_i x4 x5 _
  refine k_loop (ι := Unit) (fun i => True) (fun i => [(0, Pt r 0), (1, Pt bt 0), (4, Pt x4 0), (5, Pt x5 0), (8, I 0)]) (fun _ => G) (fun i => [scO r sc s true, lo4 x5 [U8 t.sort, S [], I 0, nilS], lo4 x4 [U8 0, S [], I 0, nilS]]) (fun i => 0) () ?_ (by repeat' constructor) rfl sRr (fun i Hi => ?_)
  ·trivial
  repeat' (first | (refine jR ?_) | (refine k_op rfl ?_; first | refine jV (g_ld rfl rfl rfl) ?_ | refine jV (g_ldA rfl rfl rfl rfl) ?_ | refine c_stA rfl rfl rfl rfl rfl rfl ?_ | (refine c_m1g rfl rfl rfl cx_wb rfl ?_; rintro _ _ rfl; dsimp only [zA, fA])) | (refine k_ff rfl rfl ?_))
  refine k_rr (vs := [_]) rfl ⟨rc_A rfl rfl rfl rfl, trivial⟩ rfl (by repeat (first | exact List.nil_sublist _ | apply List.Sublist.cons_cons)) ⟨Gh.le.refl _, .nd 82 [] 0 [], ⟨82, [], 0, none, 0, 0⟩, s, true, by rw [hso]; rfl, rep_leaf (by decide) (by decide), rfl, Nat.le_refl _, fun h => (by cases h), fun _ => ⟨hno, by simp only [V.tot, V.tots, List.length_nil]; omega⟩⟩
 | true =>
  have hb : b = false := by cases b with | true => rw [tkT] at ht; cases ht | false => rfl
  subst hb
  obtain ⟨s1, rfl⟩ := tk1.1 ht
  rw [ht, tk1S] at cx_wa cx_tk
  rw [Bool.not_true] at cx_wa cx_tk
  simp only [List.length_cons] at hs
  cases ht2 : tkR [125] s1 false with
  | true =>
   obtain ⟨s2, rfl⟩ := tk1.1 ht2
   rw [ht2, tk1S] at cx_tk
   have hgood : rdTyped (tyq qs) (rd (tyq qs) n) t (123 :: 125 :: s2) = some (.nd 82 [] 0 [], s2) := by
    unfold rdTyped
    dsimp only
    rw [if_pos hso, if_pos (show (123 : UInt8).toNat = 123 from rfl), if_pos (show (125 : UInt8).toNat = 125 from rfl)]
   refine m_enter [(0, _), (1, _)] Tryz.func144 (by kernel_rfl) Tryz.ntmps144 rfl rfl (by repeat' constructor) fun B hB hW => ?_
   repeat' (first | (refine jR ?_) | (refine k_op rfl ?_; first | refine c_al rfl rfl fun _ => ?_ | refine jV (g_ldA rfl rfl rfl rfl) ?_ | refine jV (g_ldS rfl rfl (by assumption) rfl rfl) ?_ | refine jV (g_bld rfl rfl) ?_ | refine c_stA rfl rfl rfl rfl rfl rfl ?_ | (refine c_m1g rfl rfl rfl cx_wa rfl ?_; rintro _ _ rfl; dsimp only [zA, fA]) | (refine c_m1g rfl rfl rfl cx_tk rfl ?_; rintro _ _ ⟨rfl, rfl⟩; dsimp only [zA, fA])) | (refine k_tt rfl rfl ?_) | (refine k_ff rfl (dFf (by omega)) ?_))
   refine k_rr (vs := [_]) rfl ⟨rc_A rfl rfl rfl rfl, trivial⟩ rfl (by repeat (first | exact List.nil_sublist _ | apply List.Sublist.cons_cons)) ⟨Gh.le.refl _, .nd 82 [] 0 [], ⟨82, [], 0, none, 0, 0⟩, s2, false, by rw [hso]; rfl, rep_leaf (by decide) (by decide), rfl, by simp only [List.length_cons]; omega, fun _ => ⟨rfl, hgood⟩, fun h => (by cases h)⟩
  | false =>
   rw [ht2, tkSF ht2] at cx_tk
   have hR : rdTyped (tyq qs) (rd (tyq qs) n) t (123 :: s1) = (rdFlds (tyq qs) (rd (tyq qs) n) t (s1.length + 1) 0 s1 []).map fun x => (.nd 82 [] 0 x.1, x.2) := by
    unfold rdTyped
    dsimp only
    rw [if_pos hso, if_pos (show (123 : UInt8).toNat = 123 from rfl)]
    cases s1 with
    | nil => rw [flds_none rdField_nil]; rfl
    | cons e r' =>
     dsimp only
     rw [if_neg]
     intro h93
     exact tk_no ht2 r' (by rw [show e = 125 from UInt8.toNat_inj.1 h93])
   refine m_enter [(0, _), (1, _)] Tryz.func144 (by kernel_rfl) Tryz.ntmps144 rfl rfl (by repeat' constructor) fun B hB hW => ?_
   repeat' (first | (refine jR ?_) | (refine k_op rfl ?_; first | refine c_al rfl rfl fun _ => ?_ | refine jV (g_ldS rfl rfl (by assumption) rfl rfl) ?_ | refine jV (g_bld rfl rfl) ?_ | refine c_stA rfl rfl rfl rfl rfl rfl ?_ | (refine c_m1g rfl rfl rfl cx_wa rfl ?_; rintro _ _ rfl; dsimp only [zA, fA]) | (refine c_m1g rfl rfl rfl cx_tk rfl ?_; rintro _ _ ⟨rfl, rfl⟩; dsimp only [zA, fA])) | (refine k_ff rfl (by first | rfl | (refine decide_eq_false ?_; (omega))) ?_))
   rename_i x4 x5 _
   refine Nx.addNil tVal 4 (Nx.perm (List.Perm.swap _ _ _) ?_)
   refine k_loop (ι := List V × List VC × Option Addr × Nat × List UInt8 × Nat × Int × Gh) (fun q => (V.reps q.2.2.2.2.2.2.2 q.1 q.2.1 ∧ Gh.le G q.2.2.2.2.2.2.2) ∧ (rdFlds (tyq qs) (rd (tyq qs) n) t (s1.length + 1) 0 s1 [] = rdFlds (tyq qs) (rd (tyq qs) n) t q.2.2.2.2.2.1 q.2.2.2.2.2.2.1 q.2.2.2.2.1 q.1 ∧ q.2.2.2.2.1.length < q.2.2.2.2.2.1) ∧ (V.tots q.1 + 100 * q.2.2.2.2.1.length + 100 ≤ 100 * (s1.length + 1) ∧ q.2.2.2.2.1.length ≤ s1.length)) (fun q => [(0, Pt r 0), (1, Pt bt 0), (4, Pt x4 0), (5, Pt x5 0), (8, I q.2.2.2.2.2.2.1)]) (fun q => q.2.2.2.2.2.2.2) (fun q => [scO r sc q.2.2.2.2.1 false, .acc (.slice q.2.2.1 q.1.length q.2.2.2.1) tVal 4 q.1.length (rows vcF q.2.1), lo4 x5 [U8 t.sort, S [], I 0, .slice q.2.2.1 q.1.length q.2.2.2.1], lo4 x4 [U8 0, S [], I 0, nilS]]) (fun q => q.2.2.2.2.1.length) ([], [], none, 0, s1, s1.length + 1, 0, G) ?_ (by repeat' constructor) rfl sRr (fun q Hq => ?_)
   ·exact ⟨⟨rfl, Gh.le.refl _⟩, ⟨rfl, by dsimp only; omega⟩, by dsimp only; simp only [V.tots]; omega, Nat.le_refl _⟩
   obtain ⟨vs, cs, a, cap, t', m, last, Gq⟩ := q
   dsimp only at Hq ⊢
   obtain ⟨⟨hreps, hgq⟩, ⟨hit, htm⟩, hT, htl'⟩ := Hq
   have hcl := reps_len hreps
   have hkl := tots_len vs
   have hfv : t.fields ≠ [] → ∃ bf of cf, fv = .slice (some ⟨bf, of, none⟩) t.fields.length cf ∧ Seg G bf of (rows fiF t.fields) := fun h => by
    obtain ⟨bf, of, cf, e, hs⟩ := h2.expl (List.length_pos_iff.2 h)
    exact ⟨bf, of, cf, e, hs⟩
   obtain ⟨bf, of, cf, hfv⟩ : ∃ bf of cf, t.fields ≠ [] → fv = .slice (some ⟨bf, of, none⟩) t.fields.length cf ∧ Seg G bf of (rows fiF t.fields) := by
    by_cases h : t.fields = []
    ·exact ⟨0, 0, 0, fun h' => absurd h h'⟩
    ·obtain ⟨bf, of, cf, h⟩ := hfv h
     exact ⟨bf, of, cf, fun _ => h⟩
   have cx_fd := c_fieldV (s := t') (b := false) (r := r) hV (hS.mono hgq) hw hkf (h1.mono hgq) (h2.mono hgq) (fun h => ⟨(hfv h).1, (hfv h).2.mono hgq⟩) ⟨by omega, by omega⟩
   repeat' (first | (refine jR ?_) | (refine k_op rfl ?_; first | refine c_al rfl rfl fun _ => ?_ | refine jV (g_ld rfl rfl rfl) ?_ | refine c_st1 rfl rfl rfl rfl ?_ | refine c_stA rfl rfl rfl rfl rfl rfl ?_ | (refine c_m1s rfl rfl rfl cx_fd rfl ?_; rintro _ G1 _ hle ⟨t1, b1, rfl, htl, ⟨rfl, rfl, hF⟩ | ⟨j, u1, c1, hj, rfl, hrep, hb0, hto, hg, hbd⟩⟩ <;> (dsimp only [zA, fA]; skip))) | (refine k_tt rfl rfl ?_) | (refine k_any (s_any (id := 9) _ (fun _ h => h) mixed ?_); refine jT 23 [0] (bts 24 1) ?_; (refine jG (bts 24 3) 1 rfl (g_peq0 rfl rfl) ?_); refine jT 21 [2] (bts 24 7) ?_; (try (first | (refine Nx.re (d := 38) (v' := Bo true) rfl (congrArg Value.bool rfl) ?_) | (refine Nx.re (d := 38) (v' := Bo false) rfl (congrArg Value.bool rfl) ?_))); refine jT 17 [3, 4, 5, 7] (bts 24 191) ?_; (refine jN (bts 24 255) 6 rfl ?_); refine jT 15 [8] (bts 24 511) ?_; (refine jG (bts 24 1023) 9 rfl (g_pickT rfl rfl rfl) ?_); refine jT 13 [10] (bts 24 2047) ?_; (try (refine Nx.re (d := 46) (v' := Bo true) rfl (congrArg Value.bool rfl) ?_)); refine jT 8 [11, 16, 17, 18, 20] (bts 24 1511423) ?_; (refine jN (bts 24 1515519) 12 rfl ?_); (refine jN (bts 24 1523711) 13 rfl ?_); (refine jN (bts 24 1540095) 14 rfl ?_); (refine jN (bts 24 2064383) 19 rfl ?_); (refine jN (bts 24 2097151) 15 rfl ?_); (refine jN (bts 24 4194303) 21 rfl ?_); refine jT 1 [22] (bts 24 8388607) ?_; (refine jG (bts 24 16777215) 23 rfl (g_pickT rfl rfl rfl) ?_); refine x_done (by kernel_rfl) (k_bk ?_)))
   ·have hgl := hgq.trans hle
    have hno : rdField (rd (tyq qs) n) t t' = none := by
     rcases hF with h | h
     ·cases h
     ·exact h
    have hit2 : rdFlds (tyq qs) (rd (tyq qs) n) t m last t' vs = none := flds_none hno
    have cx_wb := c_want (G := G1) (r := r) (sc := sc) (s := t1) (l := [125]) (b := true) ⟨by omega, by simp⟩
    rw [tkT, tkST, Bool.not_false] at cx_wb
    repeat' (first | (refine jR ?_) | (refine k_op rfl ?_; first | refine jV (g_ldA rfl rfl rfl rfl) ?_ | refine c_stA rfl rfl rfl rfl rfl rfl ?_ | (refine c_m1g rfl rfl rfl cx_wb rfl ?_; rintro _ _ rfl; dsimp only [zA, fA])))
    refine Nx.sealS (v := .slice a vs.length cap) fun G2 hG2 hsl => ?_
    refine k_rr (vs := [_]) rfl ⟨rc_A rfl rfl rfl rfl, trivial⟩ rfl (by repeat (first | exact List.nil_sublist _ | apply List.Sublist.cons_cons)) ⟨hgl.trans hG2, .nd 82 [] 0 vs, ⟨82, [], 0, a, vs.length, cap⟩, t1, true, by rw [hso]; rfl, rep_mk (by decide) (by decide) (fun h => absurd h (by decide)) rfl (by rw [hcl]; exact hsl) (reps_mono (hle.trans hG2) hreps), rfl, by simp only [List.length_cons]; omega, fun h => (by cases h), fun _ => ⟨.inr (by rw [hR, hit, hit2]; rfl), by rw [nd_tot]; simp only [List.length_cons, List.length_nil]; omega⟩⟩
   ·have hgl := hgq.trans hle
    obtain ⟨kb, ko, kc, d, rfl, htg, hsd, hrd, hru⟩ := rep_uni hrep
    dsimp only [vcF, VC.sl]
    have hsf1 := (hfv (fun h => by rw [h] at hj; simp at hj)).2.mono hgl
    have hS1 := hS.mono hgl
    have cx_pr := c_print (G := G1) u1.tot (Nat.le_refl _) (by omega) hrd
    have hotl := out_tot hrd
    have cx_of := c_ofI hS1 hW0 hsf1 hj (hkf _ (nth_mem hj))
    have cx_wb := c_want (G := G1) (r := r) (sc := sc) (s := t1) (l := [125]) (b := true) ⟨by omega, by simp⟩
    rw [tkT, tkST, Bool.not_false] at cx_wb
    by_cases hbrk : (nth t.fields j).tag ≤ last ∨ u1.out = standF (tyq qs) (nth t.fields j)
    ·have hit2 : rdFlds (tyq qs) (rd (tyq qs) n) t m last t' vs = none := by
      cases b1 with
      | true => exact flds_none (hbd rfl)
      | false => rw [flds_step (hg rfl) (by omega), if_pos hbrk]
     by_cases hlast : (nth t.fields j).tag ≤ last
     ·repeat' (first | (refine jR ?_) | (refine k_op rfl ?_; first | refine jV (g_ldA rfl rfl rfl rfl) ?_ | refine c_st1 rfl rfl rfl rfl ?_ | refine c_stA rfl rfl rfl rfl rfl rfl ?_ | (refine c_m1g rfl rfl rfl cx_wb rfl ?_; rintro _ _ rfl; dsimp only [zA, fA])) | (refine k_tt rfl rfl ?_) | (refine k_any (s_any (id := 9) _ (fun _ h => h) mixed ?_); refine jT 23 [0] (bts 24 1) ?_; (refine jG (bts 24 3) 1 rfl (g_peq0 rfl rfl) ?_); refine jT 21 [2] (bts 24 7) ?_; (try (refine Nx.re (d := 38) (v' := Bo false) rfl (congrArg Value.bool rfl) ?_)); refine jT 17 [3, 4, 5, 7] (bts 24 191) ?_; ((refine jG (bts 24 255) 6 rfl (g_ldRF rfl rfl (by assumption) ?_ rfl rfl) ?_; (focus ((omega); done)))); refine jT 15 [8] (bts 24 511) ?_; (refine jG (bts 24 1023) 9 rfl (g_pickF rfl rfl rfl) ?_); refine jT 13 [10] (bts 24 2047) ?_; (try (refine Nx.re (d := 46) (v' := Bo true) rfl (congrArg Value.bool (dTt ‹_›)) ?_)); refine jT 8 [11, 16, 17, 18, 20] (bts 24 1511423) ?_; (refine jN (bts 24 1515519) 12 rfl ?_); (refine jN (bts 24 1523711) 13 rfl ?_); (refine jN (bts 24 1540095) 14 rfl ?_); (refine jN (bts 24 2064383) 19 rfl ?_); (refine jN (bts 24 2097151) 15 rfl ?_); (refine jN (bts 24 4194303) 21 rfl ?_); refine jT 1 [22] (bts 24 8388607) ?_; (refine jG (bts 24 16777215) 23 rfl (g_pickT rfl rfl rfl) ?_); refine x_done (by kernel_rfl) (k_bk ?_)))
      refine Nx.sealS (v := .slice a vs.length cap) fun G2 hG2 hsl => ?_
      refine k_rr (vs := [_]) rfl ⟨rc_A rfl rfl rfl rfl, trivial⟩ rfl (by repeat (first | exact List.nil_sublist _ | apply List.Sublist.cons_cons)) ⟨hgl.trans hG2, .nd 82 [] 0 vs, ⟨82, [], 0, a, vs.length, cap⟩, t1, true, by rw [hso]; rfl, rep_mk (by decide) (by decide) (fun h => absurd h (by decide)) rfl (by rw [hcl]; exact hsl) (reps_mono (hle.trans hG2) hreps), rfl, by simp only [List.length_cons]; omega, fun h => (by cases h), fun _ => ⟨.inr (by rw [hR, hit, hit2]; rfl), by rw [nd_tot]; simp only [List.length_cons, List.length_nil]; omega⟩⟩
     ·have heq : u1.out = standF (tyq qs) (nth t.fields j) := by
       rcases hbrk with h | h
       ·exact absurd h hlast
       ·exact h
      repeat' (first | (refine jR ?_) | (refine k_op rfl ?_; first | refine jV (g_ldA rfl rfl rfl rfl) ?_ | refine c_st1 rfl rfl rfl rfl ?_ | refine c_stA rfl rfl rfl rfl rfl rfl ?_ | (refine c_m1g rfl rfl rfl cx_wb rfl ?_; rintro _ _ rfl; dsimp only [zA, fA])) | (refine k_tt rfl (dTt ‹_›) ?_) | (refine k_any (s_any (id := 9) _ (fun _ h => h) mixed ?_); refine jT 23 [0] (bts 24 1) ?_; (refine jG (bts 24 3) 1 rfl (g_peq0 rfl rfl) ?_); refine jT 21 [2] (bts 24 7) ?_; (try (refine Nx.re (d := 38) (v' := Bo false) rfl (congrArg Value.bool rfl) ?_)); refine jT 17 [3, 4, 5, 7] (bts 24 191) ?_; ((refine jG (bts 24 255) 6 rfl (g_ldRF rfl rfl (by assumption) ?_ rfl rfl) ?_; (focus ((omega); done)))); refine jT 15 [8] (bts 24 511) ?_; (refine jG (bts 24 1023) 9 rfl (g_pickF rfl rfl rfl) ?_); refine jT 13 [10] (bts 24 2047) ?_; (try (refine Nx.re (d := 46) (v' := Bo false) rfl (congrArg Value.bool (dFf ‹_›)) ?_)); refine jT 8 [11, 16, 17, 18, 20] (bts 24 1511423) ?_; (refine jG (bts 24 1515519) 12 rfl (g_ld rfl rfl rfl) ?_); (refine jG (bts 24 1523711) 13 rfl (g_iaddr rfl rfl (by omega)) ?_); ((refine jG (bts 24 1540095) 14 rfl (g_ldR rfl rfl (by assumption) ?_) ?_; (focus ((simp only [List.length_append, List.length_cons, List.length_nil, List.length_take]; omega); done)))); (refine jG (bts 24 2064383) 19 rfl (g_ld rfl rfl rfl) ?_); (refine jA 15 rfl ?_; (refine c_rt rfl rfl rfl cx_pr rfl ?_); refine jS (bts 24 2097151) ?_); (refine jA 21 rfl ?_; (refine c_rt rfl rfl rfl cx_of rfl ?_); refine jS (bts 24 4194303) ?_); refine jT 1 [22] (bts 24 8388607) ?_; (refine jG (bts 24 16777215) 23 rfl (g_pickF rfl rfl rfl) ?_); refine x_done (by kernel_rfl) (k_bk ?_)))
      refine Nx.sealS (v := .slice a vs.length cap) fun G2 hG2 hsl => ?_
      refine k_rr (vs := [_]) rfl ⟨rc_A rfl rfl rfl rfl, trivial⟩ rfl (by repeat (first | exact List.nil_sublist _ | apply List.Sublist.cons_cons)) ⟨hgl.trans hG2, .nd 82 [] 0 vs, ⟨82, [], 0, a, vs.length, cap⟩, t1, true, by rw [hso]; rfl, rep_mk (by decide) (by decide) (fun h => absurd h (by decide)) rfl (by rw [hcl]; exact hsl) (reps_mono (hle.trans hG2) hreps), rfl, by simp only [List.length_cons]; omega, fun h => (by cases h), fun _ => ⟨.inr (by rw [hR, hit, hit2]; rfl), by rw [nd_tot]; simp only [List.length_cons, List.length_nil]; omega⟩⟩
    ·have hlast : ¬ (nth t.fields j).tag ≤ last := fun h => hbrk (.inl h)
     have heq : ¬ u1.out = standF (tyq qs) (nth t.fields j) := fun h => hbrk (.inr h)
     have hrow : rows vcF cs ++ [U8 ((61 : Nat) : Int), S [], I (nth t.fields j).tag, .slice (some ⟨kb, ko, none⟩) 1 kc] = rows vcF (cs ++ [⟨61, [], (nth t.fields j).tag, some ⟨kb, ko, none⟩, 1, kc⟩]) := (rows_snoc vcF cs (⟨61, [], (nth t.fields j).tag, some ⟨kb, ko, none⟩, 1, kc⟩ : VC)).symm
     have hr2 : V.reps G1 (vs ++ [.nd 61 [] (nth t.fields j).tag [u1]]) (cs ++ [⟨61, [], (nth t.fields j).tag, some ⟨kb, ko, none⟩, 1, kc⟩]) := reps_snoc hrep (reps_mono hle hreps)
     have hvl : (vs ++ [V.nd 61 [] (nth t.fields j).tag [u1]]).length = vs.length + 1 := by simp
     have htu : V.tots (vs ++ [V.nd 61 [] (nth t.fields j).tag [u1]]) = V.tots vs + (20 + u1.tot) := by simp [tots_app, V.tots, V.tot]
     cases b1 with
     | true =>
      have hit2 : rdFlds (tyq qs) (rd (tyq qs) n) t m last t' vs = none := flds_none (hbd rfl)
      have cx_tm := c_take (G := G1) (r := r) (sc := sc) (s := t1) (l := [44]) (b := true) ⟨by omega, by simp⟩
      rw [tkT, tkST] at cx_tm
      repeat' (first | (refine jR ?_) | (refine k_op rfl ?_; first | refine jV (g_ld rfl rfl rfl) ?_ | (refine jV (g_ldRF rfl rfl (by assumption) ?_ rfl rfl) ?_; (focus ((omega); done))) | refine jV (g_ldA rfl rfl rfl rfl) ?_ | refine c_st1 rfl rfl rfl rfl ?_ | refine c_stA rfl rfl rfl rfl rfl rfl ?_ | refine c_bsl rfl rfl rfl rfl rfl rfl fun _ => ?_ | (refine c_apX rfl rfl rfl rfl rfl rfl rfl rfl rfl (by omega) fun _ _ => ?_) | (refine c_m1g rfl rfl rfl cx_wb rfl ?_; rintro _ _ rfl; dsimp only [zA, fA]) | (refine c_m1g rfl rfl rfl cx_tm rfl ?_; rintro _ _ ⟨rfl, rfl⟩; dsimp only [zA, fA])) | (refine k_tt rfl rfl ?_) | (refine k_ff rfl (dFf ‹_›) ?_) | (refine k_any (s_any (id := 9) _ (fun _ h => h) mixed ?_); refine jT 23 [0] (bts 24 1) ?_; (refine jG (bts 24 3) 1 rfl (g_peq0 rfl rfl) ?_); refine jT 21 [2] (bts 24 7) ?_; (try (refine Nx.re (d := 38) (v' := Bo false) rfl (congrArg Value.bool rfl) ?_)); refine jT 17 [3, 4, 5, 7] (bts 24 191) ?_; ((refine jG (bts 24 255) 6 rfl (g_ldRF rfl rfl (by assumption) ?_ rfl rfl) ?_; (focus ((omega); done)))); refine jT 15 [8] (bts 24 511) ?_; (refine jG (bts 24 1023) 9 rfl (g_pickF rfl rfl rfl) ?_); refine jT 13 [10] (bts 24 2047) ?_; (try (refine Nx.re (d := 46) (v' := Bo false) rfl (congrArg Value.bool (dFf ‹_›)) ?_)); refine jT 8 [11, 16, 17, 18, 20] (bts 24 1511423) ?_; (refine jG (bts 24 1515519) 12 rfl (g_ld rfl rfl rfl) ?_); (refine jG (bts 24 1523711) 13 rfl (g_iaddr rfl rfl (by omega)) ?_); ((refine jG (bts 24 1540095) 14 rfl (g_ldR rfl rfl (by assumption) ?_) ?_; (focus ((simp only [List.length_append, List.length_cons, List.length_nil, List.length_take]; omega); done)))); (refine jG (bts 24 2064383) 19 rfl (g_ld rfl rfl rfl) ?_); (refine jA 15 rfl ?_; (refine c_rt rfl rfl rfl cx_pr rfl ?_); refine jS (bts 24 2097151) ?_); (refine jA 21 rfl ?_; (refine c_rt rfl rfl rfl cx_of rfl ?_); refine jS (bts 24 4194303) ?_); refine jT 1 [22] (bts 24 8388607) ?_; (refine jG (bts 24 16777215) 23 rfl (g_pickF rfl rfl rfl) ?_); refine x_done (by kernel_rfl) (k_bk ?_)))
      rename_i _ y1 yc _
      rw [hrow]
      refine Nx.sealS (v := .slice (some ⟨y1, 0, none⟩) (vs.length + 1) yc) fun G2 hG2 hsl => ?_
      refine k_rr (vs := [_]) rfl ⟨rc_A rfl rfl rfl rfl, trivial⟩ rfl (by repeat (first | exact List.nil_sublist _ | apply List.Sublist.cons_cons)) ⟨hgl.trans hG2, .nd 82 [] 0 (vs ++ [.nd 61 [] (nth t.fields j).tag [u1]]), ⟨82, [], 0, some ⟨y1, 0, none⟩, vs.length + 1, yc⟩, t1, true, by rw [hso]; rfl, rep_mk (by decide) (by decide) (fun h => absurd h (by decide)) hvl.symm (by rw [List.length_append, List.length_singleton, hcl]; exact hsl) (reps_mono hG2 hr2), rfl, by simp only [List.length_cons]; omega, fun h => (by cases h), fun _ => ⟨.inr (by rw [hR, hit, hit2]; rfl), by rw [nd_tot, htu]; simp only [List.length_cons, List.length_nil]; omega⟩⟩
     | false =>
      have hst := flds_step (ts := tyq qs) (vs := vs) (last := last) (m := m) (hg rfl) (by omega)
      rw [if_neg hbrk] at hst
      have cx_tm := c_take (G := G1) (r := r) (sc := sc) (s := t1) (l := [44]) (b := false) ⟨by omega, by simp⟩
      clear cx_wb
      have cx_wb := c_want (G := G1) (r := r) (sc := sc) (s := t1) (l := [125]) (b := false) ⟨by omega, by simp⟩
      cases ht3 : tkR [44] t1 false with
      | true =>
       obtain ⟨t2, rfl⟩ := tk1.1 ht3
       rw [ht3, tk1S] at cx_tm
       simp only [List.length_cons] at htl hto
       dsimp only at hst
       rw [if_pos (show (44 : UInt8).toNat = 44 from rfl)] at hst
       have hlt : t2.length < m - 1 := by omega
       repeat' (first | (refine jR ?_) | (refine k_op rfl ?_; first | refine jV (g_ld rfl rfl rfl) ?_ | (refine jV (g_ldRF rfl rfl (by assumption) ?_ rfl rfl) ?_; (focus ((omega); done))) | refine jV (g_ldA rfl rfl rfl rfl) ?_ | refine c_st1 rfl rfl rfl rfl ?_ | refine c_bsl rfl rfl rfl rfl rfl rfl fun _ => ?_ | (refine c_apX rfl rfl rfl rfl rfl rfl rfl rfl rfl (by omega) fun _ _ => ?_) | (refine c_m1g rfl rfl rfl cx_tm rfl ?_; rintro _ _ ⟨rfl, rfl⟩; dsimp only [zA, fA])) | (refine k_ff rfl (by first | rfl | (refine decide_eq_false ?_; (assumption))) ?_) | (refine k_any (s_any (id := 9) _ (fun _ h => h) mixed ?_); refine jT 23 [0] (bts 24 1) ?_; (refine jG (bts 24 3) 1 rfl (g_peq0 rfl rfl) ?_); refine jT 21 [2] (bts 24 7) ?_; (try (refine Nx.re (d := 38) (v' := Bo false) rfl (congrArg Value.bool rfl) ?_)); refine jT 17 [3, 4, 5, 7] (bts 24 191) ?_; ((refine jG (bts 24 255) 6 rfl (g_ldRF rfl rfl (by assumption) ?_ rfl rfl) ?_; (focus ((omega); done)))); refine jT 15 [8] (bts 24 511) ?_; (refine jG (bts 24 1023) 9 rfl (g_pickF rfl rfl rfl) ?_); refine jT 13 [10] (bts 24 2047) ?_; (try (refine Nx.re (d := 46) (v' := Bo false) rfl (congrArg Value.bool (dFf ‹_›)) ?_)); refine jT 8 [11, 16, 17, 18, 20] (bts 24 1511423) ?_; (refine jG (bts 24 1515519) 12 rfl (g_ld rfl rfl rfl) ?_); (refine jG (bts 24 1523711) 13 rfl (g_iaddr rfl rfl (by omega)) ?_); ((refine jG (bts 24 1540095) 14 rfl (g_ldR rfl rfl (by assumption) ?_) ?_; (focus ((simp only [List.length_append, List.length_cons, List.length_nil, List.length_take]; omega); done)))); (refine jG (bts 24 2064383) 19 rfl (g_ld rfl rfl rfl) ?_); (refine jA 15 rfl ?_; (refine c_rt rfl rfl rfl cx_pr rfl ?_); refine jS (bts 24 2097151) ?_); (refine jA 21 rfl ?_; (refine c_rt rfl rfl rfl cx_of rfl ?_); refine jS (bts 24 4194303) ?_); refine jT 1 [22] (bts 24 8388607) ?_; (refine jG (bts 24 16777215) 23 rfl (g_pickF rfl rfl rfl) ?_); refine x_done (by kernel_rfl) (k_bk ?_)))
       rename_i _ y1 yc
       rw [hrow]
       exact k_rd (vs ++ [.nd 61 [] (nth t.fields j).tag [u1]], cs ++ [⟨61, [], (nth t.fields j).tag, some ⟨kb, ko, none⟩, 1, kc⟩], some ⟨y1, 0, none⟩, yc, t2, m - 1, (nth t.fields j).tag, G1) ⟨⟨hr2, hgl⟩, ⟨by rw [hit, hst], hlt⟩, by dsimp only; omega, by dsimp only; omega⟩ (by dsimp only; omega) (by repeat' constructor) rfl (by rw [hvl]; repeat (first | exact List.Sublist.refl _ | apply List.Sublist.cons_cons | apply List.Sublist.cons))
      | false =>
       rw [ht3, tkSF ht3] at cx_tm
       cases ht4 : tkR [125] t1 false with
       | true =>
        obtain ⟨t2, rfl⟩ := tk1.1 ht4
        rw [ht4, tk1S, Bool.not_true] at cx_wb
        simp only [List.length_cons] at htl hto
        dsimp only at hst
        rw [if_neg (show ¬ (125 : UInt8).toNat = 44 by decide), if_pos (show (125 : UInt8).toNat = 125 from rfl)] at hst
        have hit2 := hst
        repeat' (first | (refine jR ?_) | (refine k_op rfl ?_; first | refine jV (g_ld rfl rfl rfl) ?_ | (refine jV (g_ldRF rfl rfl (by assumption) ?_ rfl rfl) ?_; (focus ((omega); done))) | refine jV (g_ldA rfl rfl rfl rfl) ?_ | refine c_st1 rfl rfl rfl rfl ?_ | refine c_stA rfl rfl rfl rfl rfl rfl ?_ | refine c_bsl rfl rfl rfl rfl rfl rfl fun _ => ?_ | (refine c_apX rfl rfl rfl rfl rfl rfl rfl rfl rfl (by omega) fun _ _ => ?_) | (refine c_m1g rfl rfl rfl cx_wb rfl ?_; rintro _ _ rfl; dsimp only [zA, fA]) | (refine c_m1g rfl rfl rfl cx_tm rfl ?_; rintro _ _ ⟨rfl, rfl⟩; dsimp only [zA, fA])) | (refine k_tt rfl rfl ?_) | (refine k_ff rfl (dFf ‹_›) ?_) | (refine k_any (s_any (id := 9) _ (fun _ h => h) mixed ?_); refine jT 23 [0] (bts 24 1) ?_; (refine jG (bts 24 3) 1 rfl (g_peq0 rfl rfl) ?_); refine jT 21 [2] (bts 24 7) ?_; (try (refine Nx.re (d := 38) (v' := Bo false) rfl (congrArg Value.bool rfl) ?_)); refine jT 17 [3, 4, 5, 7] (bts 24 191) ?_; ((refine jG (bts 24 255) 6 rfl (g_ldRF rfl rfl (by assumption) ?_ rfl rfl) ?_; (focus ((omega); done)))); refine jT 15 [8] (bts 24 511) ?_; (refine jG (bts 24 1023) 9 rfl (g_pickF rfl rfl rfl) ?_); refine jT 13 [10] (bts 24 2047) ?_; (try (refine Nx.re (d := 46) (v' := Bo false) rfl (congrArg Value.bool (dFf ‹_›)) ?_)); refine jT 8 [11, 16, 17, 18, 20] (bts 24 1511423) ?_; (refine jG (bts 24 1515519) 12 rfl (g_ld rfl rfl rfl) ?_); (refine jG (bts 24 1523711) 13 rfl (g_iaddr rfl rfl (by omega)) ?_); ((refine jG (bts 24 1540095) 14 rfl (g_ldR rfl rfl (by assumption) ?_) ?_; (focus ((simp only [List.length_append, List.length_cons, List.length_nil, List.length_take]; omega); done)))); (refine jG (bts 24 2064383) 19 rfl (g_ld rfl rfl rfl) ?_); (refine jA 15 rfl ?_; (refine c_rt rfl rfl rfl cx_pr rfl ?_); refine jS (bts 24 2097151) ?_); (refine jA 21 rfl ?_; (refine c_rt rfl rfl rfl cx_of rfl ?_); refine jS (bts 24 4194303) ?_); refine jT 1 [22] (bts 24 8388607) ?_; (refine jG (bts 24 16777215) 23 rfl (g_pickF rfl rfl rfl) ?_); refine x_done (by kernel_rfl) (k_bk ?_)))
        rename_i _ y1 yc _
        rw [hrow]
        refine Nx.sealS (v := .slice (some ⟨y1, 0, none⟩) (vs.length + 1) yc) fun G2 hG2 hsl => ?_
        refine k_rr (vs := [_]) rfl ⟨rc_A rfl rfl rfl rfl, trivial⟩ rfl (by repeat (first | exact List.nil_sublist _ | apply List.Sublist.cons_cons)) ⟨hgl.trans hG2, .nd 82 [] 0 (vs ++ [.nd 61 [] (nth t.fields j).tag [u1]]), ⟨82, [], 0, some ⟨y1, 0, none⟩, vs.length + 1, yc⟩, t2, false, by rw [hso]; rfl, rep_mk (by decide) (by decide) (fun h => absurd h (by decide)) hvl.symm (by rw [List.length_append, List.length_singleton, hcl]; exact hsl) (reps_mono hG2 hr2), rfl, by simp only [List.length_cons]; omega, fun _ => ⟨rfl, by rw [hR, hit, hit2]; rfl⟩, fun h => (by cases h)⟩
       | false =>
        rw [ht4, tkSF ht4, Bool.not_false] at cx_wb
        have hit2 : rdFlds (tyq qs) (rd (tyq qs) n) t m last t' vs = none := by
         rw [hst]
         cases t1 with
         | nil => rfl
         | cons e t2 =>
          dsimp only
          rw [if_neg, if_neg]
          ·intro h
           exact tk_no ht4 t2 (by rw [show e = 125 from UInt8.toNat_inj.1 h])
          ·intro h
           exact tk_no ht3 t2 (by rw [show e = 44 from UInt8.toNat_inj.1 h])
        repeat' (first | (refine jR ?_) | (refine k_op rfl ?_; first | refine jV (g_ld rfl rfl rfl) ?_ | (refine jV (g_ldRF rfl rfl (by assumption) ?_ rfl rfl) ?_; (focus ((omega); done))) | refine jV (g_ldA rfl rfl rfl rfl) ?_ | refine c_st1 rfl rfl rfl rfl ?_ | refine c_stA rfl rfl rfl rfl rfl rfl ?_ | refine c_bsl rfl rfl rfl rfl rfl rfl fun _ => ?_ | (refine c_apX rfl rfl rfl rfl rfl rfl rfl rfl rfl (by omega) fun _ _ => ?_) | (refine c_m1g rfl rfl rfl cx_wb rfl ?_; rintro _ _ rfl; dsimp only [zA, fA]) | (refine c_m1g rfl rfl rfl cx_tm rfl ?_; rintro _ _ ⟨rfl, rfl⟩; dsimp only [zA, fA])) | (refine k_tt rfl rfl ?_) | (refine k_ff rfl (dFf ‹_›) ?_) | (refine k_any (s_any (id := 9) _ (fun _ h => h) mixed ?_); refine jT 23 [0] (bts 24 1) ?_; (refine jG (bts 24 3) 1 rfl (g_peq0 rfl rfl) ?_); refine jT 21 [2] (bts 24 7) ?_; (try (refine Nx.re (d := 38) (v' := Bo false) rfl (congrArg Value.bool rfl) ?_)); refine jT 17 [3, 4, 5, 7] (bts 24 191) ?_; ((refine jG (bts 24 255) 6 rfl (g_ldRF rfl rfl (by assumption) ?_ rfl rfl) ?_; (focus ((omega); done)))); refine jT 15 [8] (bts 24 511) ?_; (refine jG (bts 24 1023) 9 rfl (g_pickF rfl rfl rfl) ?_); refine jT 13 [10] (bts 24 2047) ?_; (try (refine Nx.re (d := 46) (v' := Bo false) rfl (congrArg Value.bool (dFf ‹_›)) ?_)); refine jT 8 [11, 16, 17, 18, 20] (bts 24 1511423) ?_; (refine jG (bts 24 1515519) 12 rfl (g_ld rfl rfl rfl) ?_); (refine jG (bts 24 1523711) 13 rfl (g_iaddr rfl rfl (by omega)) ?_); ((refine jG (bts 24 1540095) 14 rfl (g_ldR rfl rfl (by assumption) ?_) ?_; (focus ((simp only [List.length_append, List.length_cons, List.length_nil, List.length_take]; omega); done)))); (refine jG (bts 24 2064383) 19 rfl (g_ld rfl rfl rfl) ?_); (refine jA 15 rfl ?_; (refine c_rt rfl rfl rfl cx_pr rfl ?_); refine jS (bts 24 2097151) ?_); (refine jA 21 rfl ?_; (refine c_rt rfl rfl rfl cx_of rfl ?_); refine jS (bts 24 4194303) ?_); refine jT 1 [22] (bts 24 8388607) ?_; (refine jG (bts 24 16777215) 23 rfl (g_pickF rfl rfl rfl) ?_); refine x_done (by kernel_rfl) (k_bk ?_)))
        rename_i _ y1 yc _
        rw [hrow]
        refine Nx.sealS (v := .slice (some ⟨y1, 0, none⟩) (vs.length + 1) yc) fun G2 hG2 hsl => ?_
        refine k_rr (vs := [_]) rfl ⟨rc_A rfl rfl rfl rfl, trivial⟩ rfl (by repeat (first | exact List.nil_sublist _ | apply List.Sublist.cons_cons)) ⟨hgl.trans hG2, .nd 82 [] 0 (vs ++ [.nd 61 [] (nth t.fields j).tag [u1]]), ⟨82, [], 0, some ⟨y1, 0, none⟩, vs.length + 1, yc⟩, t1, true, by rw [hso]; rfl, rep_mk (by decide) (by decide) (fun h => absurd h (by decide)) hvl.symm (by rw [List.length_append, List.length_singleton, hcl]; exact hsl) (reps_mono hG2 hr2), rfl, by simp only [List.length_cons]; omega, fun h => (by cases h), fun _ => ⟨.inr (by rw [hR, hit, hit2]; rfl), by rw [nd_tot, htu]; simp only [List.length_cons, List.length_nil]; omega⟩⟩
theorem c_part {c : UInt8} {a b d : List UInt8} : PuG Tryz.prog 129 [Ag [S (c :: a), S b, S d]] G (· = Ag [S a, S b, S d]) := by
 refine jE [(0, _)] Tryz.func129 Tryz.ntmps129 fun B hB => ?_
 repeat' (first | (refine run (t := tb) 400 rfl ?_ ?_; (focus (repeat' (first | exact trivial | apply And.intro | omega | (simp only [List.length_append, List.length_cons, List.length_nil, Int.toNat_natCast]; omega))))) | (refine k_op rfl ?_; first | refine c_bx rfl rfl rfl fun _ => ?_ | refine c_al rfl rfl fun _ => ?_ | refine jV (g_ld rfl rfl rfl) ?_ | refine jV (g_ldA rfl rfl rfl rfl) ?_ | refine c_st1 rfl rfl rfl rfl ?_ | refine c_stA rfl rfl rfl rfl rfl rfl ?_))
 refine jZ (vs := [_]) rfl ⟨rc_A rfl rfl rfl rfl, trivial⟩ rfl ⟨rfl, rfl, ?_⟩
 rfl
theorem kdF_cons {c : UInt8} {k : List UInt8} (h : c.toNat = 91 ∨ c.toNat = 63) : sg (c :: k) = c :: sg k ∧ bs (c :: k) = bs k ∧ nm (c :: k) = nm k ∧ core (c :: k) = core k := by
 have hc : core (c :: k) = core k := by rw [core, if_pos h]
 exact ⟨sg_cons h, by unfold bs; rw [hc], by unfold nm; rw [hc], hc⟩
theorem kindIn_tail {ts : List Ty} {c : UInt8} {k : List UInt8} (hc : c.toNat = 91 ∨ c.toNat = 63) (h : kindIn ts (c :: k) = true) : kindIn ts k = true := by
 unfold kindIn at h ⊢
 simp only [Bool.and_eq_true] at h ⊢
 obtain ⟨h1, h2⟩ := h
 refine ⟨?_, ?_⟩
 ·unfold kindOk at h1 ⊢
  simp only [Bool.and_eq_true, decide_eq_true_eq, List.length_cons] at h1 ⊢
  refine ⟨by omega, ?_⟩
  have := h1.2
  rw [kOk, if_pos hc] at this
  exact this
 ·unfold hasK at h2 ⊢
  rw [(kdF_cons hc).2.2.2] at h2
  exact h2
theorem rdK_list {ts : List Ty} {f : List UInt8 → List UInt8 → Option (V × List UInt8)} {c : UInt8} {k s : List UInt8} (hc : c.toNat = 91) : rdK ts f (c :: k) s = rdList (f k) s := by
 unfold rdK rdList
 dsimp only
 rw [if_pos hc]
 cases s <;> rfl
theorem c_valBad {r sc : Nat} {k s : List UInt8} : FnG Tryz.prog 100 [Pt r 0, Ag [S (sg k), S (bs k), S (nm k)]] G [scO r sc s true] (fun v L' => v = zP ∧ L' = [scO r sc s true]) := by
 refine jH [(0, _), (1, _)] Tryz.func100 Tryz.ntmps100 fun B hB hW => ?_
 repeat' (first | (refine jR ?_) | (refine k_op rfl ?_; first | refine c_bx rfl rfl rfl fun _ => ?_ | refine c_al rfl rfl fun _ => ?_ | refine jV (g_ld rfl rfl rfl) ?_ | refine jV (g_bld rfl rfl) ?_ | refine c_stA rfl rfl rfl rfl rfl rfl ?_) | (refine k_tt rfl rfl ?_))
 refine k_rr (vs := [_]) rfl ⟨rc_A rfl rfl rfl rfl, trivial⟩ rfl (by repeat (first | exact List.Sublist.refl _ | apply List.Sublist.cons)) ⟨rfl, rfl, rfl⟩
theorem FnG.toM {P : Program} {f : FuncId} {args : List Value} {L : List Own} {R : Value → List Own → Prop} {R' : Value → Gh → List Own → Prop} (h : FnG P f args G L R) (hr : ∀ v L', R v L' → R' v G L') : FnM P f args G L R' :=
 Fn.mono h fun v G' L' h2 => ⟨h2.1 ▸ Gh.le.refl _, h2.1 ▸ hr v L' h2.2⟩
theorem rep_zero : V.rep G (.nd 0 [] 0 []) ⟨0, [], 0, none, 0, 0⟩ := rep_leaf (by decide) (by decide)
theorem c_valO {n r sc : Nat} {qs : List TyP} {c : UInt8} {k s : List UInt8} (hc : c = 63) (hV : ValC n sc qs) (hS : ScI G sc qs) (hk : kindIn (tyq qs) (c :: k) = true) (hs : s.length < n + 1 ∧ s.length ≤ 1000) :
  FnM Tryz.prog 100 [Pt r 0, Ag (kdF (c :: k))] G [scO r sc s false] (ValP (rd (tyq qs) (n + 1) (c :: k)) r sc s false) := by
 subst hc
 have hk2 := kindIn_tail (.inr rfl) hk
 obtain ⟨e1, e2, e3, _⟩ := kdF_cons (c := 63) (k := k) (.inr rfl)
 have hrd : rd (tyq qs) (n + 1) (63 :: k) s = match s with
   | [] => none
   | d :: s' => if d.toNat = 45 then some (.nd 63 [] 0 [], s') else if d.toNat = 43 then (rd (tyq qs) n k s').map fun x => (.nd 63 [] 0 [x.1], x.2) else none := by
  rw [rd]; unfold rdK
  dsimp only
  rw [if_neg (show ¬ (63 : UInt8).toNat = 91 by decide), if_pos (show (63 : UInt8).toNat = 63 from rfl)]
  cases s <;> rfl
 unfold kdF
 rw [e1, e2, e3]
 have cx_sign := @c_sign1 G 63 (sg k) (bs k) (nm k)
 have cx_pt := @c_part G 63 (sg k) (bs k) (nm k)
 have cx_tk := c_take (G := G) (r := r) (sc := sc) (s := s) (l := [45]) (b := false) ⟨by omega, by simp⟩
 have cx_wa := c_want (G := G) (r := r) (sc := sc) (s := s) (l := [43]) (b := false) ⟨by omega, by simp⟩
 cases ht : tkR [45] s false with
 | true =>
  obtain ⟨s1, rfl⟩ := tk1.1 ht
  rw [ht, tk1S] at cx_tk
  dsimp only at hrd
  rw [if_pos (show (45 : UInt8).toNat = 45 from rfl)] at hrd
  refine m_enter [(0, _), (1, _)] Tryz.func100 (by kernel_rfl) Tryz.ntmps100 rfl rfl (by repeat' constructor) fun B hB hW => ?_
  repeat' (first | (refine jR ?_) | (refine k_op rfl ?_; first | refine c_bx rfl rfl rfl fun _ => ?_ | refine c_al rfl rfl fun _ => ?_ | refine jV (g_ld rfl rfl rfl) ?_ | refine jV (g_ldA rfl rfl rfl rfl) ?_ | refine jV (g_bld rfl rfl) ?_ | refine c_stA rfl rfl rfl rfl rfl rfl ?_ | (refine c_rt rfl rfl rfl cx_sign rfl ?_) | (refine c_m1g rfl rfl rfl cx_tk rfl ?_; rintro _ _ ⟨rfl, rfl⟩; dsimp only [zA, fA])) | (refine k_tt rfl rfl ?_) | (refine k_ff rfl rfl ?_))
  refine k_rr (vs := [_]) rfl ⟨rc_A rfl rfl rfl rfl, trivial⟩ rfl (by repeat (first | exact List.nil_sublist _ | apply List.Sublist.cons_cons)) ⟨Gh.le.refl _, .nd 63 [] 0 [], ⟨63, [], 0, none, 0, 0⟩, s1, false, rfl, rep_leaf (by decide) (by decide), rfl, by simp only [List.length_cons]; omega, fun _ => ⟨rfl, hrd⟩, fun h => (by cases h)⟩
 | false =>
  rw [ht, tkSF ht] at cx_tk
  cases ht2 : tkR [43] s false with
  | false =>
   rw [ht2, tkSF ht2, Bool.not_false] at cx_wa
   have hno : rd (tyq qs) (n + 1) (63 :: k) s = none := by
    rw [hrd]
    cases s with
    | nil => rfl
    | cons d s' =>
     dsimp only
     rw [if_neg, if_neg]
     ·intro h; exact tk_no ht2 s' (by rw [show d = 43 from UInt8.toNat_inj.1 h])
     ·intro h; exact tk_no ht s' (by rw [show d = 45 from UInt8.toNat_inj.1 h])
   refine m_enter [(0, _), (1, _)] Tryz.func100 (by kernel_rfl) Tryz.ntmps100 rfl rfl (by repeat' constructor) fun B hB hW => ?_
   repeat' (first | (refine jR ?_) | (refine k_op rfl ?_; first | refine c_bx rfl rfl rfl fun _ => ?_ | refine c_al rfl rfl fun _ => ?_ | refine jV (g_ld rfl rfl rfl) ?_ | refine jV (g_ldA rfl rfl rfl rfl) ?_ | (refine c_rt rfl rfl rfl cx_sign rfl ?_) | (refine c_rt rfl rfl rfl cx_pt rfl ?_) | (refine c_m1g rfl rfl rfl cx_tk rfl ?_; rintro _ _ ⟨rfl, rfl⟩; dsimp only [zA, fA]) | (refine c_m1g rfl rfl rfl cx_wa rfl ?_; rintro _ _ rfl; dsimp only [zA, fA])) | (refine k_tt rfl rfl ?_) | (refine k_ff rfl rfl ?_))
   refine k_op rfl ?_
   refine c_m1g rfl rfl rfl c_valBad rfl ?_
   rintro _ _ ⟨rfl, rfl⟩
   dsimp only [zA, fA]
   repeat' (first | (refine jR ?_) | (refine k_op rfl ?_; first | refine jV (g_bld rfl rfl) ?_ | refine c_stA rfl rfl rfl rfl rfl rfl ?_ | refine c_bsl rfl rfl rfl rfl rfl rfl fun _ => ?_))
   rename_i y
   refine Nx.sealC (b := y) fun G2 hG2 hsy => ?_
   have hsl : SlV G2 (.slice (some ⟨y, 0, none⟩) 1 1) 4 ([⟨0, [], 0, none, 0, 0⟩] : List VC).length (rows vcF [⟨0, [], 0, none, 0, 0⟩]) := ⟨rfl, .inr ⟨y, 0, 1, rfl, Nat.le_refl _, hsy⟩⟩
   refine k_rr (vs := [_]) rfl ⟨rc_A rfl rfl rfl rfl, trivial⟩ rfl (by repeat (first | exact List.nil_sublist _ | apply List.Sublist.cons_cons)) ⟨hG2, .nd 63 [] 0 [.nd 0 [] 0 []], ⟨63, [], 0, some ⟨y, 0, none⟩, 1, 1⟩, s, true, rfl, rep_mk (by decide) (by decide) (fun h => absurd h (by decide)) rfl hsl ⟨_, [], rfl, rep_zero, rfl⟩, rfl, Nat.le_refl _, fun h => (by cases h), fun _ => ⟨.inr hno, by simp only [V.tot, V.tots, List.length_nil]; omega⟩⟩
  | true =>
   obtain ⟨s1, rfl⟩ := tk1.1 ht2
   rw [ht2, tk1S, Bool.not_true] at cx_wa
   simp only [List.length_cons] at hs
   dsimp only at hrd
   rw [if_neg (show ¬ (43 : UInt8).toNat = 45 by decide), if_pos (show (43 : UInt8).toNat = 43 from rfl)] at hrd
   have cx_vl := hV G r k s1 false hS hk2 (by omega) (by omega)
   refine m_enter [(0, _), (1, _)] Tryz.func100 (by kernel_rfl) Tryz.ntmps100 rfl rfl (by repeat' constructor) fun B hB hW => ?_
   repeat' (first | (refine jR ?_) | (refine k_op rfl ?_; first | refine c_bx rfl rfl rfl fun _ => ?_ | refine c_al rfl rfl fun _ => ?_ | refine jV (g_ld rfl rfl rfl) ?_ | refine jV (g_ldA rfl rfl rfl rfl) ?_ | refine jV (g_bld rfl rfl) ?_ | refine c_stA rfl rfl rfl rfl rfl rfl ?_ | refine c_bsl rfl rfl rfl rfl rfl rfl fun _ => ?_ | (refine c_rt rfl rfl rfl cx_sign rfl ?_) | (refine c_rt rfl rfl rfl cx_pt rfl ?_) | (refine c_m1g rfl rfl rfl cx_tk rfl ?_; rintro _ _ ⟨rfl, rfl⟩; dsimp only [zA, fA]) | (refine c_m1g rfl rfl rfl cx_wa rfl ?_; rintro _ _ rfl; dsimp only [zA, fA]) | (refine c_m1s rfl rfl rfl cx_vl rfl ?_; rintro _ G1 _ hle ⟨u1, c1, t1, b1, rfl, hrep, rfl, hP⟩; dsimp only [zA, fA]; skip)) | (refine k_tt rfl rfl ?_) | (refine k_ff rfl rfl ?_))
   rename_i y
   refine Nx.sealC (b := y) fun G2 hG2 hsy => ?_
   have hsl : SlV G2 (.slice (some ⟨y, 0, none⟩) 1 1) 4 ([c1] : List VC).length (rows vcF [c1]) := ⟨rfl, .inr ⟨y, 0, 1, rfl, Nat.le_refl _, hsy⟩⟩
   obtain ⟨hPl, hP0, hP1⟩ := hP
   cases b1 with
   | false =>
    refine k_rr (vs := [_]) rfl ⟨rc_A rfl rfl rfl rfl, trivial⟩ rfl (by repeat (first | exact List.nil_sublist _ | apply List.Sublist.cons_cons)) ⟨hle.trans hG2, .nd 63 [] 0 [u1], ⟨63, [], 0, some ⟨y, 0, none⟩, 1, 1⟩, t1, false, rfl, rep_mk (by decide) (by decide) (fun h => absurd h (by decide)) rfl hsl ⟨_, [], rfl, rep_mono hG2 hrep, rfl⟩, rfl, by simp only [List.length_cons]; omega, fun _ => ⟨rfl, by rw [hrd, (hP0 rfl).2]; rfl⟩, fun h => (by cases h)⟩
   | true =>
    obtain ⟨hno, hto⟩ := hP1 rfl
    have hno2 : rd (tyq qs) n k s1 = none := by
     rcases hno with h | h
     ·cases h
     ·exact h
    refine k_rr (vs := [_]) rfl ⟨rc_A rfl rfl rfl rfl, trivial⟩ rfl (by repeat (first | exact List.nil_sublist _ | apply List.Sublist.cons_cons)) ⟨hle.trans hG2, .nd 63 [] 0 [u1], ⟨63, [], 0, some ⟨y, 0, none⟩, 1, 1⟩, t1, true, rfl, rep_mk (by decide) (by decide) (fun h => absurd h (by decide)) rfl hsl ⟨_, [], rfl, rep_mono hG2 hrep, rfl⟩, rfl, by simp only [List.length_cons]; omega, fun h => (by cases h), fun _ => ⟨.inr (by rw [hrd, hno2]; rfl), by simp only [V.tot, V.tots, List.length_nil, List.length_cons]; omega⟩⟩
end Go.E
namespace Go.E
set_option maxRecDepth 20000
set_option maxHeartbeats 2000000
open Go.Proofs
variable {G : Gh}
theorem c_valL {n r sc : Nat} {qs : List TyP} {k s : List UInt8} (hV : ValC n sc qs) (hS : ScI G sc qs) (hk : kindIn (tyq qs) (91 :: k) = true) (hs : s.length < n + 1 ∧ s.length ≤ 1000) :
  FnM Tryz.prog 100 [Pt r 0, Ag (kdF (91 :: k))] G [scO r sc s false] (ValP (rd (tyq qs) (n + 1) (91 :: k)) r sc s false) := by
 have hk2 := kindIn_tail (.inl rfl) hk
 obtain ⟨e1, e2, e3, _⟩ := kdF_cons (c := 91) (k := k) (.inl rfl)
 have hrd : rd (tyq qs) (n + 1) (91 :: k) s = rdList (rd (tyq qs) n k) s := by rw [rd]; exact rdK_list rfl
 unfold kdF
 rw [e1, e2, e3]
 have cx_sign := @c_sign1 G 91 (sg k) (bs k) (nm k)
 have cx_pt := @c_part G 91 (sg k) (bs k) (nm k)
 have cx_li := c_list (G := G) (r := r) (b := false) hV hS hk2 (s := s) ⟨by omega, by omega⟩
 refine m_enter [(0, _), (1, _)] Tryz.func100 (by kernel_rfl) Tryz.ntmps100 rfl rfl (by repeat' constructor) fun B hB hW => ?_
 repeat' (first | (refine jR ?_) | (refine k_op rfl ?_; first | refine c_bx rfl rfl rfl fun _ => ?_ | refine c_al rfl rfl fun _ => ?_ | refine jV (g_ld rfl rfl rfl) ?_ | refine jV (g_ldA rfl rfl rfl rfl) ?_ | refine c_stA rfl rfl rfl rfl rfl rfl ?_ | (refine c_rt rfl rfl rfl cx_sign rfl ?_) | (refine c_rt rfl rfl rfl cx_pt rfl ?_) | (refine c_m1s rfl rfl rfl cx_li rfl ?_; rintro _ G1 _ hle ⟨u1, c1, t1, b1, rfl, hrep, rfl, hP⟩; dsimp only [zA, fA]; skip)) | (refine k_tt rfl rfl ?_) | (refine k_ff rfl rfl ?_))
 obtain ⟨hPl, hP0, hP1⟩ := hP
 refine k_rr (vs := [_]) rfl ⟨rc_A rfl rfl rfl rfl, trivial⟩ rfl (by repeat (first | exact List.nil_sublist _ | apply List.Sublist.cons_cons)) ⟨hle, u1, c1, t1, b1, rfl, hrep, rfl, hPl, fun h => ⟨rfl, by rw [hrd]; exact (hP0 h).2⟩, fun h => by rw [hrd]; exact hP1 h⟩
theorem plain_kinds {ts : List Ty} {c : UInt8} {k : List UInt8} (hk : kindIn ts (c :: k) = true) (h91 : ¬ (c.toNat = 91 ∨ c.toNat = 63)) (hr : refT ts (c :: k) = none) : c :: k = [110] ∨ c :: k = [116] ∨ c :: k = [102] := by
 have hko := kindIn_ok hk
 have hcs := core_self (r := k) h91
 have hrn : refN (core (c :: k)) = none := by
  cases hx : refN (core (c :: k)) with
  | none => rfl
  | some x =>
   obtain ⟨t, ht⟩ := kind_refT hk (by rw [hx]; rfl)
   rw [hcs, hr] at ht; cases ht
 have h := bs_plain hko hrn
 have h64 : ¬ c.toNat = 64 := by
  intro h64
  rw [hcs] at hrn
  simp [refN, h64] at hrn
 have e : bs (c :: k) = c :: k := by unfold bs; rw [hcs]; simp [bsT, h64]
 rwa [e] at h
theorem rd_plain {ts : List Ty} {n : Nat} {s : List UInt8} {c : UInt8} (hc : c = 110 ∨ c = 116 ∨ c = 102) (hr : refT ts [c] = none) : rd ts (n + 1) [c] s = if c = 110 then (rdNum 999999 s).map fun x => (.nd 110 (decI x.1) 0 [], x.2) else if c = 116 then rdQuote s else rdFlag s := by
 rw [rd]; unfold rdK
 dsimp only
 rcases hc with rfl | rfl | rfl <;> simp [hr]
theorem c_valN {n r sc : Nat} {qs : List TyP} {s : List UInt8} (hr : refT (tyq qs) [110] = none) (hs : s.length ≤ 1000) :
  FnM Tryz.prog 100 [Pt r 0, Ag (kdF [110])] G [scO r sc s false] (ValP (rd (tyq qs) (n + 1) [110]) r sc s false) := by
 have hrd := rd_plain (ts := tyq qs) (n := n) (s := s) (c := 110) (.inl rfl) hr
 rw [if_pos rfl] at hrd
 have cx_sign := @c_sign0 G [110] []
 have cx_nu := c_number (G := G) (r := r) (sc := sc) (s := s) (b := false) (top := 999999) (by omega)
 have hwl := while_len isDg s
 show FnM Tryz.prog 100 [Pt r 0, Ag [S [], S [110], S []]] G [scO r sc s false] _
 refine m_enter [(0, _), (1, _)] Tryz.func100 (by kernel_rfl) Tryz.ntmps100 rfl rfl (by repeat' constructor) fun B hB hW => ?_
 repeat' (first | (refine jR ?_) | (refine k_op rfl ?_; first | refine c_bx rfl rfl rfl fun _ => ?_ | refine c_al rfl rfl fun _ => ?_ | refine jV (g_ld rfl rfl rfl) ?_ | refine jV (g_ldA rfl rfl rfl rfl) ?_ | refine jV (g_bld rfl rfl) ?_ | refine c_stA rfl rfl rfl rfl rfl rfl ?_ | (refine c_rt rfl rfl rfl cx_sign rfl ?_) | (refine c_m1g rfl rfl rfl cx_nu rfl ?_; rintro _ _ ⟨n1, rfl, ⟨hn0, hn1⟩, hnum, rfl⟩; dsimp only [zA, fA]) | (refine c_rt rfl rfl rfl (c_decimalN (by omega)) rfl ?_)) | (refine k_tt rfl rfl ?_) | (refine k_ff rfl rfl ?_))
 have hdl := decI_len6' hn1
 cases hm : numOf (s.takeWhile isDg) 999999 with
 | none =>
  refine k_rr (vs := [_]) rfl ⟨rc_A rfl rfl rfl rfl, trivial⟩ rfl (by repeat (first | exact List.nil_sublist _ | apply List.Sublist.cons_cons)) ⟨Gh.le.refl _, .nd 110 (decI n1) 0 [], ⟨110, decI n1, 0, none, 0, 0⟩, s.dropWhile isDg, true, rfl, rep_leaf (by decide) (by decide), rfl, by omega, fun h => (by cases h), fun _ => ⟨.inr (by rw [hrd]; unfold rdNum; rw [hm]; rfl), by simp only [V.tot, V.tots]; omega⟩⟩
 | some m =>
  obtain rfl : n1 = m := hnum m hm
  refine k_rr (vs := [_]) rfl ⟨rc_A rfl rfl rfl rfl, trivial⟩ rfl (by repeat (first | exact List.nil_sublist _ | apply List.Sublist.cons_cons)) ⟨Gh.le.refl _, .nd 110 (decI n1) 0 [], ⟨110, decI n1, 0, none, 0, 0⟩, s.dropWhile isDg, false, rfl, rep_leaf (by decide) (by decide), rfl, by omega, fun _ => ⟨rfl, by rw [hrd]; unfold rdNum; rw [hm]; rfl⟩, fun h => (by cases h)⟩
theorem c_valT {n r sc : Nat} {qs : List TyP} {s : List UInt8} (hr : refT (tyq qs) [116] = none) (hs : s.length ≤ 1000) :
  FnM Tryz.prog 100 [Pt r 0, Ag (kdF [116])] G [scO r sc s false] (ValP (rd (tyq qs) (n + 1) [116]) r sc s false) := by
 have hrd := rd_plain (ts := tyq qs) (n := n) (s := s) (c := 116) (.inr (.inl rfl)) hr
 rw [if_neg (by decide), if_pos rfl] at hrd
 have cx_sign := @c_sign0 G [116] []
 have cx_qu := c_quote (G := G) (r := r) (sc := sc) (s := s) (b := false) (by omega)
 show FnM Tryz.prog 100 [Pt r 0, Ag [S [], S [116], S []]] G [scO r sc s false] _
 refine m_enter [(0, _), (1, _)] Tryz.func100 (by kernel_rfl) Tryz.ntmps100 rfl rfl (by repeat' constructor) fun B hB hW => ?_
 repeat' (first | (refine jR ?_) | (refine k_op rfl ?_; first | refine c_bx rfl rfl rfl fun _ => ?_ | refine c_al rfl rfl fun _ => ?_ | refine jV (g_ld rfl rfl rfl) ?_ | refine jV (g_ldA rfl rfl rfl rfl) ?_ | refine jV (g_bld rfl rfl) ?_ | refine c_stA rfl rfl rfl rfl rfl rfl ?_ | (refine c_rt rfl rfl rfl cx_sign rfl ?_) | (refine c_m1g rfl rfl rfl cx_qu rfl ?_; rintro _ _ ⟨x1, t1, b1, rfl, hQ, rfl⟩; dsimp only [zA, fA])) | (refine k_tt rfl rfl ?_) | (refine k_ff rfl rfl ?_))
 obtain ⟨hQl, hQ0, hQ1⟩ := hQ
 refine k_rr (vs := [_]) rfl ⟨rc_A rfl rfl rfl rfl, trivial⟩ rfl (by repeat (first | exact List.nil_sublist _ | apply List.Sublist.cons_cons)) ⟨Gh.le.refl _, .nd 116 x1 0 [], ⟨116, x1, 0, none, 0, 0⟩, t1, b1, rfl, rep_leaf (by decide) (by decide), rfl, by omega, fun h => ⟨rfl, by rw [hrd]; exact (hQ0 h).2⟩, fun h => ⟨.inr (by rw [hrd]; rcases hQ1 h with h | h; cases h; exact h), by simp only [V.tot, V.tots]; omega⟩⟩
theorem c_valF {n r sc : Nat} {qs : List TyP} {s : List UInt8} (hr : refT (tyq qs) [102] = none) (hs : s.length ≤ 1000) :
  FnM Tryz.prog 100 [Pt r 0, Ag (kdF [102])] G [scO r sc s false] (ValP (rd (tyq qs) (n + 1) [102]) r sc s false) := by
 have hrd := rd_plain (ts := tyq qs) (n := n) (s := s) (c := 102) (.inr (.inr rfl)) hr
 rw [if_neg (by decide), if_neg (by decide)] at hrd
 unfold rdFlag at hrd
 have cx_sign := @c_sign0 G [102] []
 have cx_tk := c_take (G := G) (r := r) (sc := sc) (s := s) (l := [121, 101, 115]) (b := false) ⟨by omega, by simp⟩
 have cx_wa := c_want (G := G) (r := r) (sc := sc) (s := s) (l := [110, 111]) (b := false) ⟨by omega, by simp⟩
 have ey : ∀ l : List UInt8, tkR l s false = l.isPrefixOf s := fun l => by simp [tkR]
 have el : ∀ l : List UInt8, l.isPrefixOf s = true → s.length = l.length + (s.drop l.length).length := fun l h => by
  have := pre_out h
  have h2 := congrArg List.length this
  rwa [List.length_append] at h2
 show FnM Tryz.prog 100 [Pt r 0, Ag [S [], S [102], S []]] G [scO r sc s false] _
 cases hy : ([121, 101, 115] : List UInt8).isPrefixOf s with
 | true =>
  have hl : s.length = 3 + (s.drop 3).length := el _ hy
  unfold tkS at cx_tk
  rw [ey, hy, if_pos rfl] at cx_tk
  rw [hy, if_pos rfl] at hrd
  refine m_enter [(0, _), (1, _)] Tryz.func100 (by kernel_rfl) Tryz.ntmps100 rfl rfl (by repeat' constructor) fun B hB hW => ?_
  repeat' (first | (refine jR ?_) | (refine k_op rfl ?_; first | refine c_bx rfl rfl rfl fun _ => ?_ | refine c_al rfl rfl fun _ => ?_ | refine jV (g_ld rfl rfl rfl) ?_ | refine jV (g_ldA rfl rfl rfl rfl) ?_ | refine jV (g_bld rfl rfl) ?_ | refine c_stA rfl rfl rfl rfl rfl rfl ?_ | (refine c_rt rfl rfl rfl cx_sign rfl ?_) | (refine c_m1g rfl rfl rfl cx_tk rfl ?_; rintro _ _ ⟨rfl, rfl⟩; dsimp only [zA, fA])) | (refine k_tt rfl rfl ?_) | (refine k_ff rfl rfl ?_))
  refine k_rr (vs := [_]) rfl ⟨rc_A rfl rfl rfl rfl, trivial⟩ rfl (by repeat (first | exact List.nil_sublist _ | apply List.Sublist.cons_cons)) ⟨Gh.le.refl _, .nd 102 [121, 101, 115] 0 [], ⟨102, [121, 101, 115], 0, none, 0, 0⟩, s.drop 3, false, rfl, rep_leaf (by decide) (by decide), rfl, by omega, fun _ => ⟨rfl, hrd⟩, fun h => (by cases h)⟩
 | false =>
  have h1 : tkR [121, 101, 115] s false = false := by rw [ey, hy]
  rw [h1, tkSF h1] at cx_tk
  rw [hy, if_neg (by decide)] at hrd
  cases hno : ([110, 111] : List UInt8).isPrefixOf s with
  | true =>
   have hl : s.length = 2 + (s.drop 2).length := el _ hno
   unfold tkS at cx_wa
   rw [ey, hno, if_pos rfl] at cx_wa
   rw [hno, if_pos rfl] at hrd
   refine m_enter [(0, _), (1, _)] Tryz.func100 (by kernel_rfl) Tryz.ntmps100 rfl rfl (by repeat' constructor) fun B hB hW => ?_
   repeat' (first | (refine jR ?_) | (refine k_op rfl ?_; first | refine c_bx rfl rfl rfl fun _ => ?_ | refine c_al rfl rfl fun _ => ?_ | refine jV (g_ld rfl rfl rfl) ?_ | refine jV (g_ldA rfl rfl rfl rfl) ?_ | refine jV (g_bld rfl rfl) ?_ | refine c_stA rfl rfl rfl rfl rfl rfl ?_ | (refine c_rt rfl rfl rfl cx_sign rfl ?_) | (refine c_m1g rfl rfl rfl cx_tk rfl ?_; rintro _ _ ⟨rfl, rfl⟩; dsimp only [zA, fA]) | (refine c_m1g rfl rfl rfl cx_wa rfl ?_; rintro _ _ rfl; dsimp only [zA, fA])) | (refine k_tt rfl rfl ?_) | (refine k_ff rfl rfl ?_))
   refine k_rr (vs := [_]) rfl ⟨rc_A rfl rfl rfl rfl, trivial⟩ rfl (by repeat (first | exact List.nil_sublist _ | apply List.Sublist.cons_cons)) ⟨Gh.le.refl _, .nd 102 [110, 111] 0 [], ⟨102, [110, 111], 0, none, 0, 0⟩, s.drop 2, false, rfl, rep_leaf (by decide) (by decide), rfl, by omega, fun _ => ⟨rfl, hrd⟩, fun h => (by cases h)⟩
  | false =>
   have h2 : tkR [110, 111] s false = false := by rw [ey, hno]
   rw [h2, tkSF h2, Bool.not_false] at cx_wa
   rw [hno, if_neg (by decide)] at hrd
   refine m_enter [(0, _), (1, _)] Tryz.func100 (by kernel_rfl) Tryz.ntmps100 rfl rfl (by repeat' constructor) fun B hB hW => ?_
   repeat' (first | (refine jR ?_) | (refine k_op rfl ?_; first | refine c_bx rfl rfl rfl fun _ => ?_ | refine c_al rfl rfl fun _ => ?_ | refine jV (g_ld rfl rfl rfl) ?_ | refine jV (g_ldA rfl rfl rfl rfl) ?_ | refine jV (g_bld rfl rfl) ?_ | refine c_stA rfl rfl rfl rfl rfl rfl ?_ | (refine c_rt rfl rfl rfl cx_sign rfl ?_) | (refine c_m1g rfl rfl rfl cx_tk rfl ?_; rintro _ _ ⟨rfl, rfl⟩; dsimp only [zA, fA]) | (refine c_m1g rfl rfl rfl cx_wa rfl ?_; rintro _ _ rfl; dsimp only [zA, fA])) | (refine k_tt rfl rfl ?_) | (refine k_ff rfl rfl ?_))
   refine k_rr (vs := [_]) rfl ⟨rc_A rfl rfl rfl rfl, trivial⟩ rfl (by repeat (first | exact List.nil_sublist _ | apply List.Sublist.cons_cons)) ⟨Gh.le.refl _, .nd 102 [110, 111] 0 [], ⟨102, [110, 111], 0, none, 0, 0⟩, s, true, rfl, rep_leaf (by decide) (by decide), rfl, Nat.le_refl _, fun h => (by cases h), fun _ => ⟨.inr hrd, by simp only [V.tot, V.tots, List.length_cons, List.length_nil]; omega⟩⟩
theorem c_valA {n r sc : Nat} {qs : List TyP} {c : UInt8} {k s : List UInt8} {t : Ty} (h91 : ¬ (c.toNat = 91 ∨ c.toNat = 63)) (hV : ValC n sc qs) (hS : ScI G sc qs) (hw : SchW (tyq qs)) (hk : kindIn (tyq qs) (c :: k) = true) (hrf : refT (tyq qs) (c :: k) = some t) (hs : s.length < n + 1 ∧ s.length ≤ 1000) :
  FnM Tryz.prog 100 [Pt r 0, Ag (kdF (c :: k))] G [scO r sc s false] (ValP (rd (tyq qs) (n + 1) (c :: k)) r sc s false) := by
 have hko := kindIn_ok hk
 have hsg := sg_none (r := k) h91
 have hcs := core_self (r := k) h91
 have hrn : (refN (core (c :: k))).isSome = true := by
  rw [hcs]; unfold refT at hrf
  cases hx : refN (c :: k) with
  | none => rw [hx] at hrf; cases hrf
  | some x => rfl
 have hbs : bs (c :: k) = [64] := (bs_at hko).2 hrn
 have hnm : refN (c :: k) = some (nm (c :: k)) := by
  unfold nm; rw [hcs] at hrn ⊢
  cases hx : refN (c :: k) with
  | none => rw [hx] at hrn; cases hrn
  | some x => rfl
 have hft : findT (tyq qs) (nm (c :: k)) = some t := by unfold refT at hrf; rw [hnm] at hrf; exact hrf
 have hkv := kvF_find qs (nm (c :: k))
 rw [← findQ_ty] at hft
 rcases hfq : findQ qs (nm (c :: k)) with _ | ⟨p, t'⟩
 ·rw [hfq] at hft; cases hft
 rw [hfq] at hft hkv
 dsimp only [Option.map_some] at hft hkv
 have htt : t' = t := Option.some.inj hft
 subst htt
 have hqm := findQ_mem hfq
 have htm := refT_mem hrf
 have hW := hw.ty t' htm
 have hT : TyI G p t' := hS.ty _ hqm
 obtain ⟨u, m, g1, g2, g3⟩ := hS.at'
 have hrd : rd (tyq qs) (n + 1) (c :: k) s = rdTyped (tyq qs) (rd (tyq qs) n) t' s := by
  rw [rd]; unfold rdK
  dsimp only
  rw [if_neg (fun h => h91 (.inl h)), if_neg (fun h => h91 (.inr h)), hrf]
 have cx_ot : FnM Tryz.prog 144 [Pt r 0, Pt p 0] G [scO r sc s false] (ValP (rdTyped (tyq qs) (rd (tyq qs) n) t') r sc s false) := by
  rcases hW.sort with h | h | h
  ·exact c_ofR hV hS hw (fun d hd => kind_in hw htm (by omega) hd) hT hW h ⟨by omega, by omega⟩
  ·exact c_ofU hV hS (fun d hd => kind_in hw htm (by omega) hd) hT hW h ⟨by omega, by omega⟩
  ·exact c_ofE hT hW h ⟨by omega, by omega⟩
 have cx_sign := @c_sign0 G [64] (nm (c :: k))
 unfold kdF
 rw [hsg, hbs]
 clear hft hfq hnm hrn hcs
 refine m_enter [(0, _), (1, _)] Tryz.func100 (by kernel_rfl) Tryz.ntmps100 rfl rfl (by repeat' constructor) fun B hB hW => ?_
 repeat' (first | (refine jR ?_) | (refine k_op rfl ?_; first | refine c_bx rfl rfl rfl fun _ => ?_ | refine c_al rfl rfl fun _ => ?_ | refine jV (g_ld rfl rfl rfl) ?_ | refine jV (g_ldA rfl rfl rfl rfl) ?_ | (refine c_rt rfl rfl rfl cx_sign rfl ?_)) | (refine k_ff rfl rfl ?_))
 rename_i x3 x4
 (refine k_any (s_any (id := 21) [.blk x3 (.cells (List.toArray [S [], S [64], S (nm (c :: k))]) tKnd (0, 0))] (by intro y hy; simp only [List.mem_cons, List.not_mem_nil, or_false] at hy ⊢; simp [hy]) mixed ?_); refine jU 8 [0, 1, 2, 3, 8] (bts 13 271) ?_ ?_; (focus (repeat' (exact trivial))); (refine jG (bts 13 783) 9 rfl (g_ld rfl rfl rfl) ?_); refine jA 4 rfl ?_; (refine jV (g_ld rfl rfl rfl) ?_); refine jK (bts 13 799) ?_; refine jU 4 [5, 6] (bts 13 895) ?_ ?_; (focus (repeat' (exact trivial))); (refine jG (bts 13 1023) 7 rfl (g_ldS rfl rfl (by assumption) rfl rfl) ?_); ((refine jG (bts 13 2047) 10 rfl (g_lookupX rfl rfl (map_G (by assumption)) (by assumption) rfl) ?_)); refine jA 11 rfl ?_; (refine c_m1s rfl rfl rfl cx_ot rfl ?_; rintro _ G1 _ hle ⟨u1, c1, t1, b1, rfl, hrep, rfl, hP⟩; dsimp only [zA, fA]; skip); refine jK (bts 13 4095) ?_; refine jA 12 rfl ?_; (refine c_stA rfl rfl rfl rfl rfl rfl ?_); refine jK (bts 13 8191) ?_; refine x_done (by kernel_rfl) (k_bk ?_))
 all_goals repeat' (refine jR ?_)
 all_goals (obtain ⟨hPl, hP0, hP1⟩ := hP)
 all_goals refine k_rr (vs := [_]) rfl ⟨rc_A rfl rfl rfl rfl, trivial⟩ rfl (by repeat (first | exact List.nil_sublist _ | apply List.Sublist.cons_cons)) ⟨hle, u1, c1, t1, b1, rfl, hrep, rfl, hPl, fun h => ⟨rfl, by rw [hrd]; exact (hP0 h).2⟩, fun h => by rw [hrd]; exact hP1 h⟩
theorem valC_all {sc : Nat} {qs : List TyP} (hw : SchW (tyq qs)) : ∀ n, ValC n sc qs
 | 0 => fun G r k s b _ _ h _ => absurd h (Nat.not_lt_zero _)
 | n + 1 => fun G r k s b hS hk hn hs => by
  have hV := valC_all (sc := sc) hw n
  cases b with
  | true =>
   exact c_valBad.toM fun v L' ⟨h1, h2⟩ => ⟨.nd 0 [] 0 [], ⟨0, [], 0, none, 0, 0⟩, s, true, h1, rep_zero, h2, Nat.le_refl _, fun h => (by cases h), fun _ => ⟨.inl rfl, by simp only [V.tot, V.tots, List.length_nil]; omega⟩⟩
  | false =>
   match k, hk with
   | [], hk => cases hk
   | c :: k, hk =>
    by_cases h1 : c.toNat = 91
    ·obtain rfl := u8_eq h1 (by decide)
     exact c_valL hV hS hk ⟨hn, hs⟩
    by_cases h2 : c.toNat = 63
    ·obtain rfl := u8_eq h2 (by decide)
     exact c_valO rfl hV hS hk ⟨hn, hs⟩
    have h91 : ¬ (c.toNat = 91 ∨ c.toNat = 63) := fun h => by rcases h with h | h <;> omega
    cases hr : refT (tyq qs) (c :: k) with
    | some t => exact c_valA h91 hV hS hw hk hr ⟨hn, hs⟩
    | none =>
     rcases plain_kinds hk h91 hr with e | e | e
     ·rw [e] at hr ⊢; exact c_valN hr hs
     ·rw [e] at hr ⊢; exact c_valT hr hs
     ·rw [e] at hr ⊢; exact c_valF hr hs
theorem valOf_of {ts : List Ty} {k s : List UInt8} {u : V} {t : List UInt8} {N : Nat} (hN : 12 ≤ N) (hl : s.length ≤ 400) (h : rd ts N k s = some (u, t)) : valOf ts k s = if t = [] ∧ V.deep u ≤ 12 then some u else none := by
 unfold valOf
 rw [if_pos hl]
 cases h12 : rd ts 12 k s with
 | none =>
  dsimp only
  rw [if_neg]
  rintro ⟨_, hd⟩
  have := rd_at _ 12 k s _ h hd
  rw [h12] at this; cases this
 | some x =>
  have h1 := rd_le (m := N) hN h12
  rw [h] at h1
  have hd := rd_deep_le _ _ _ _ h12
  obtain rfl := Option.some.inj h1
  dsimp only at hd ⊢
  cases t with
  | nil => dsimp only; rw [if_pos ⟨rfl, hd⟩]
  | cons c t => dsimp only; rw [if_neg (fun h => by cases h.1)]
theorem valOf_no {ts : List Ty} {k s : List UInt8} {N : Nat} (hN : 12 ≤ N) (hl : s.length ≤ 400) (h : rd ts N k s = none) : valOf ts k s = none := by
 unfold valOf
 rw [if_pos hl]
 cases h12 : rd ts 12 k s with
 | none => rfl
 | some x => rw [rd_le (m := N) hN h12] at h; cases h
theorem c_readI {b : Nat} {qs : List TyP} {k s : List UInt8} (hS : ScI G b qs) (hw : SchW (tyq qs)) (hk : kindIn (tyq qs) k = true) (hs : s.length ≤ 10000000) :
  FnS Tryz.prog 61 [Pt b 0, Ag (kdF k), S s] G (fun v G' => (valOf (tyq qs) k s = none ∧ v = Tu [zP, Bo false]) ∨ ∃ u c, valOf (tyq qs) k s = some u ∧ v = Tu [Ag (vcF c), Bo true] ∧ V.rep G' u c) := by
 unfold kdF
 by_cases hl : s.length ≤ 400
 case neg =>
  have hno : valOf (tyq qs) k s = none := by unfold valOf; rw [if_neg hl]
  refine jB [(0, _), (1, _), (2, _)] Tryz.func61 Tryz.ntmps61 fun B hok hB hW => ?_
  repeat' (first | (refine jR ?_) | (refine k_op rfl ?_; first | refine c_bx rfl rfl rfl fun _ => ?_ | refine c_al rfl rfl fun _ => ?_ | refine jV (g_bld rfl rfl) ?_ | refine c_stA rfl rfl rfl rfl rfl rfl ?_) | (refine k_tt rfl (dTt (by omega)) ?_))
  all_goals refine jZ (vs := [_, _]) rfl ⟨rc_A rfl rfl rfl rfl, rfl, trivial⟩ rfl ⟨Gh.le.refl _, rfl, ?_⟩
  all_goals exact .inl ⟨hno, rfl⟩
 obtain ⟨N, hN⟩ : ∃ N, s.length + 12 ≤ N := ⟨_, Nat.le_refl _⟩
 have hN2 : 12 ≤ N := by omega
 have hV := valC_all (sc := b) hw N
 have cy_vl : ∀ {r : Nat}, FnM Tryz.prog 100 [Pt r 0, Ag (kdF k)] G [scO r b s false] (ValP (rd (tyq qs) N k) r b s false) := fun {r} => hV G r k s false hS hk (by omega) (by omega)
 refine jB [(0, _), (1, _), (2, _)] Tryz.func61 Tryz.ntmps61 fun B hok hB hW => ?_
 repeat' (first | (refine jR ?_) | (refine k_op rfl ?_; first | refine c_bx rfl rfl rfl fun _ => ?_ | refine c_al rfl rfl fun _ => ?_ | refine jV (g_bld rfl rfl) ?_ | refine jV (g_ldA rfl rfl rfl rfl) ?_) | (refine k_ff rfl (dFf (by omega)) ?_))
 refine k_op rfl ?_
 rename_i r
 refine c_m1s rfl rfl rfl (cy_vl (r := r)) rfl ?_
 rintro _ G1 _ hle ⟨u1, c1, t1, b1, rfl, hrep, rfl, hP⟩
 dsimp only [zA, fA]
 obtain ⟨hPl, hP0, hP1⟩ := hP
 cases b1 with
 | true =>
  have hno : valOf (tyq qs) k s = none := valOf_no hN2 hl (by rcases (hP1 rfl).1 with h | h; cases h; exact h)
  repeat' (first | (refine jR ?_) | (refine k_op rfl ?_; first | refine c_al rfl rfl fun _ => ?_ | refine jV (g_bld rfl rfl) ?_ | refine c_stA rfl rfl rfl rfl rfl rfl ?_ | refine jV (g_ld rfl rfl rfl) ?_ | (refine jV (g_pickT rfl rfl rfl) ?_)) | (refine k_gt rfl rfl rfl ?_) | (refine k_tt rfl rfl ?_))
  all_goals refine jZ (vs := [_, _]) rfl ⟨rc_A rfl rfl rfl rfl, rfl, trivial⟩ rfl ⟨hle, rfl, ?_⟩
  all_goals exact .inl ⟨hno, rfl⟩
 | false =>
  have hrd := (hP0 rfl).2
  have hof := valOf_of hN2 hl hrd
  have htt := rd_tot _ _ _ _ hrd
  dsimp only at htt
  by_cases ht : t1 = []
  case neg =>
   have hno : valOf (tyq qs) k s = none := by rw [hof, if_neg (fun h => ht h.1)]
   repeat' (first | (refine jR ?_) | (refine k_op rfl ?_; first | refine c_al rfl rfl fun _ => ?_ | refine jV (g_bld rfl rfl) ?_ | refine c_stA rfl rfl rfl rfl rfl rfl ?_ | refine jV (g_ld rfl rfl rfl) ?_ | (refine jV (g_pickT rfl rfl rfl) ?_) | (refine jV (g_pickF rfl rfl rfl) ?_)) | (refine k_gt rfl rfl (dTt ‹_›) ?_) | (refine k_gf rfl rfl rfl ?_) | (refine k_tt rfl rfl ?_))
   all_goals refine jZ (vs := [_, _]) rfl ⟨rc_A rfl rfl rfl rfl, rfl, trivial⟩ rfl ⟨hle, rfl, ?_⟩
   all_goals exact .inl ⟨hno, rfl⟩
  have hnn : ¬ t1 ≠ [] := fun h => h ht
  have cx_dp := c_deep (G := G1) u1.tot (Nat.le_refl _) (by omega) hrep
  have hdt := deep_tot u1
  by_cases hd : V.deep u1 ≤ 12
  ·have hyes : valOf (tyq qs) k s = some u1 := by rw [hof, if_pos ⟨ht, hd⟩]
   repeat' (first | (refine jR ?_) | (refine k_op rfl ?_; first | refine c_al rfl rfl fun _ => ?_ | refine c_stA rfl rfl rfl rfl rfl rfl ?_ | refine jV (g_ld rfl rfl rfl) ?_ | refine jV (g_ldA rfl rfl rfl rfl) ?_ | (refine jV (g_pickF rfl rfl rfl) ?_) | (refine c_rt rfl rfl rfl cx_dp rfl ?_)) | (refine k_gf rfl rfl (by first | rfl | (refine decide_eq_false ?_; (assumption))) ?_) | (refine k_ff rfl (dFf (by omega)) ?_))
   all_goals refine jZ (vs := [_, _]) rfl ⟨rc_A rfl rfl rfl rfl, rfl, trivial⟩ rfl ⟨hle, rfl, ?_⟩
   all_goals exact .inr ⟨u1, c1, hyes, rfl, hrep⟩
  ·have hno : valOf (tyq qs) k s = none := by rw [hof, if_neg (fun h => hd h.2)]
   repeat' (first | (refine jR ?_) | (refine k_op rfl ?_; first | refine c_al rfl rfl fun _ => ?_ | refine jV (g_bld rfl rfl) ?_ | refine c_stA rfl rfl rfl rfl rfl rfl ?_ | refine jV (g_ld rfl rfl rfl) ?_ | refine jV (g_ldA rfl rfl rfl rfl) ?_ | (refine jV (g_pickF rfl rfl rfl) ?_) | (refine c_rt rfl rfl rfl cx_dp rfl ?_)) | (refine k_gf rfl rfl (by first | rfl | (refine decide_eq_false ?_; (assumption))) ?_) | (refine k_tt rfl (dTt (by omega)) ?_))
   all_goals refine jZ (vs := [_, _]) rfl ⟨rc_A rfl rfl rfl rfl, rfl, trivial⟩ rfl ⟨hle, rfl, ?_⟩
   all_goals exact .inl ⟨hno, rfl⟩
theorem kindS_some2 {s k : List UInt8} (h : kindS s k = true) : ∃ ts, schemaOf s = some ts ∧ kindIn ts k = true ∧ SchW ts := by
 unfold kindS at h
 cases h1 : schemaOf s with
 | none => rw [h1] at h; cases h
 | some ts => rw [h1] at h; exact ⟨ts, rfl, h, schemaOf_w h1⟩
def givenV (s k v : List UInt8) : Option V := match schemaOf s with
 | some ts => if kindIn ts k = true then valOf ts k v else none
 | none => none
theorem c_given0 {s k w : List UInt8} (h : s.length ≤ 1048576 ∧ k.length ≤ 1048576 ∧ w.length ≤ 1048576) (hno : givenV s k w = none) : FnS Tryz.prog 33 [S s, S k, S w] G (fun v _ => ∃ p a b c, v = Tu [p, Ag [S a, S b, S c], zP, Bo false]) := by
 by_cases hk : kindS s k = true
 case neg =>
  have cx_bo1 : ∀ G, FnS Tryz.prog 35 [S s, S k] G (fun v _ => ∃ p a b c, v = Tu [p, Ag [S a, S b, S c], Bo false]) := fun G => by
   refine (c_both (G := G) (s := s) (k := k) (by omega) (by omega)).mono ?_
   rintro v G' L' ⟨h1, h2, ⟨_, p, a, b, c, rfl⟩ | ⟨b, qs, rfl, h4, h5, _⟩⟩
   ·exact ⟨h1, h2, p, a, b, c, rfl⟩
   ·exact absurd (by unfold kindS; rw [h4]; exact h5) hk
  refine jB [(0, _), (1, _), (2, _)] Tryz.func33 Tryz.ntmps33 fun B hok hB hW => ?_
  repeat' (first | (refine jR ?_) | (refine k_op rfl ?_; first | refine c_al rfl rfl fun _ => ?_ | refine c_stA rfl rfl rfl rfl rfl rfl ?_ | refine jV (g_bld rfl rfl) ?_ | (refine c_fns rfl rfl rfl (cx_bo1 _) rfl ?_; rintro _ G hle ⟨p1, a1, b1, c1, rfl⟩; skip)) | (refine k_tt rfl rfl ?_))
  all_goals refine jZ (vs := [_, _, _, _]) rfl ⟨rfl, rc_A rfl rfl rfl rfl, rc_A rfl rfl rfl rfl, rfl, trivial⟩ rfl ⟨hle, rfl, ?_⟩
  all_goals exact ⟨_, _, _, _, rfl⟩
 obtain ⟨ts, hs, hki, hw⟩ := kindS_some2 hk
 have hvo : valOf ts k w = none := by unfold givenV at hno; rw [hs] at hno; dsimp only at hno; rwa [if_pos hki] at hno
 have cx_boa : ∀ G, FnS Tryz.prog 35 [S s, S k] G (fun v G' => ∃ b qs, v = Tu [Pt b 0, Ag [S (sg k), S (bs k), S (nm k)], Bo true] ∧ tyq qs = ts ∧ ScI G' b qs) := fun G => by
  refine (c_both (G := G) (s := s) (k := k) (by omega) (by omega)).mono ?_
  rintro v G' L' ⟨h1, h2, ⟨h4, _⟩ | ⟨b, qs, rfl, h4, h5, h6⟩⟩
  ·rw [h4] at hk; cases hk
  ·rw [hs] at h4; exact ⟨h1, h2, b, qs, rfl, (Option.some.inj h4).symm, h6⟩
 have cx_ri0 : ∀ G b qs, tyq qs = ts → ScI G b qs → FnS Tryz.prog 61 [Pt b 0, Ag [S (sg k), S (bs k), S (nm k)], S w] G (fun v _ => v = Tu [zP, Bo false]) := fun G b qs hq hS => by
  subst hq
  refine (c_readI (G := G) (b := b) (s := w) hS hw hki (by omega)).mono ?_
  rintro v G' L' ⟨h1, h2, ⟨_, rfl⟩ | ⟨u, c, h4, _⟩⟩
  ·exact ⟨h1, h2, rfl⟩
  ·rw [hvo] at h4; cases h4
 refine jB [(0, _), (1, _), (2, _)] Tryz.func33 Tryz.ntmps33 fun B hok hB hW => ?_
 repeat' (first | (refine jR ?_) | (refine k_op rfl ?_; first | refine c_al rfl rfl fun _ => ?_ | refine c_stA rfl rfl rfl rfl rfl rfl ?_ | refine jV (g_ldA rfl rfl rfl rfl) ?_ | (refine c_fns rfl rfl rfl (cx_boa _) rfl ?_; rintro _ G hle ⟨ba, qa, rfl, hT1, hR1⟩; skip) | (refine c_fns rfl rfl rfl ((cx_ri0 _ _ _) (by (repeat (assumption)); done) (by (repeat (assumption)); done)) rfl ?_; rintro _ G hle rfl; skip)) | (refine k_ff rfl rfl ?_) | (refine k_any (s_anyD (id := 5) (tt := 7) rfl mixed ?_); refine jU 5 [0, 3, 4] (bts 8 25) ?_ ?_; (focus (repeat' (exact trivial))); (refine jG (bts 8 27) 1 rfl (g_ldA rfl rfl rfl rfl) ?_); (refine jG (bts 8 31) 2 rfl (g_ldA rfl rfl rfl rfl) ?_); refine jA 5 rfl ?_; (refine c_stA rfl rfl rfl rfl rfl rfl ?_); refine jK (bts 8 63) ?_; refine jA 6 rfl ?_; (refine c_stA rfl rfl rfl rfl rfl rfl ?_); refine jK (bts 8 127) ?_; refine jU 0 [7] (bts 8 255) ?_ ?_; (focus (repeat' (exact trivial))); refine x_done (by kernel_rfl) (k_bk ?_)))
 all_goals refine jZ (vs := [_, _, _, _]) rfl ⟨rfl, rc_A rfl rfl rfl rfl, rc_A rfl rfl rfl rfl, rfl, trivial⟩ rfl ⟨(Gh.le.trans (by assumption) hle), rfl, ?_⟩
 all_goals exact ⟨_, _, _, _, rfl⟩
theorem c_given1 {s k w : List UInt8} {u : V} {ts : List Ty} (h : s.length ≤ 1048576 ∧ k.length ≤ 1048576 ∧ w.length ≤ 1048576) (hs : schemaOf s = some ts) (hki : kindIn ts k = true) (hvo : valOf ts k w = some u) :
  FnS Tryz.prog 33 [S s, S k, S w] G (fun v G' => ∃ b qs cv, v = Tu [Pt b 0, Ag [S (sg k), S (bs k), S (nm k)], Ag (vcF cv), Bo true] ∧ tyq qs = ts ∧ ScI G' b qs ∧ V.rep G' u cv) := by
 have hw := schemaOf_w hs
 have hk : kindS s k = true := by unfold kindS; rw [hs]; exact hki
 have cx_boa : ∀ G, FnS Tryz.prog 35 [S s, S k] G (fun v G' => ∃ b qs, v = Tu [Pt b 0, Ag [S (sg k), S (bs k), S (nm k)], Bo true] ∧ tyq qs = ts ∧ ScI G' b qs) := fun G => by
  refine (c_both (G := G) (s := s) (k := k) (by omega) (by omega)).mono ?_
  rintro v G' L' ⟨h1, h2, ⟨h4, _⟩ | ⟨b, qs, rfl, h4, h5, h6⟩⟩
  ·rw [h4] at hk; cases hk
  ·rw [hs] at h4; exact ⟨h1, h2, b, qs, rfl, (Option.some.inj h4).symm, h6⟩
 have cx_ri1 : ∀ G b qs, tyq qs = ts → ScI G b qs → FnS Tryz.prog 61 [Pt b 0, Ag [S (sg k), S (bs k), S (nm k)], S w] G (fun v G' => ∃ cv, v = Tu [Ag (vcF cv), Bo true] ∧ V.rep G' u cv) := fun G b qs hq hS => by
  subst hq
  refine (c_readI (G := G) (b := b) (s := w) hS hw hki (by omega)).mono ?_
  rintro v G' L' ⟨h1, h2, ⟨h4, _⟩ | ⟨u', c, h4, rfl, h5⟩⟩
  ·rw [hvo] at h4; cases h4
  ·rw [hvo] at h4; obtain rfl := Option.some.inj h4; exact ⟨h1, h2, c, rfl, h5⟩
 refine jB [(0, _), (1, _), (2, _)] Tryz.func33 Tryz.ntmps33 fun B hok hB hW => ?_
 repeat' (first | (refine jR ?_) | (refine k_op rfl ?_; first | refine c_al rfl rfl fun _ => ?_ | refine c_stA rfl rfl rfl rfl rfl rfl ?_ | refine jV (g_ldA rfl rfl rfl rfl) ?_ | (refine c_fns rfl rfl rfl (cx_boa _) rfl ?_; rintro _ G hle ⟨ba, qa, rfl, hT1, hR1⟩; skip) | (refine c_fns rfl rfl rfl ((cx_ri1 _ _ _) (by (repeat (assumption)); done) (by (repeat (assumption)); done)) rfl ?_; rintro _ G hle ⟨cv, rfl, hrv⟩; skip)) | (refine k_ff rfl rfl ?_))
 rename_i x7 x8 Ga hla x11 x13
 dsimp only [vcF, VC.sl]
 (refine k_any (s_any (id := 5) [.blk x13 (.cells (List.toArray [U8 (cv.what : Nat), S cv.text, I cv.tag, .slice cv.a cv.n cv.c]) tVal (0, 0)), .blk x11 (.cells (List.toArray [S (sg k), S (bs k), S (nm k)]) tKnd (0, 0))] (by intro y hy; simp only [List.mem_cons, List.not_mem_nil, or_false] at hy ⊢; rcases hy with hy | hy <;> simp [hy]) mixed ?_); refine jU 5 [0, 3, 4] (bts 8 25) ?_ ?_; (focus (repeat' (exact trivial))); (refine jG (bts 8 27) 1 rfl (g_ldA rfl rfl rfl rfl) ?_); (refine jG (bts 8 31) 2 rfl (g_ldA rfl rfl rfl rfl) ?_); refine jA 5 rfl ?_; (refine c_stA rfl rfl rfl rfl rfl rfl ?_); refine jK (bts 8 63) ?_; refine jA 6 rfl ?_; (refine c_stA rfl rfl rfl rfl rfl rfl ?_); refine jK (bts 8 127) ?_; refine jU 0 [7] (bts 8 255) ?_ ?_; (focus (repeat' (exact trivial))); refine x_done (by kernel_rfl) (k_bk ?_))
 all_goals repeat' (refine jR ?_)
 all_goals refine jZ (vs := [_, _, _, _]) rfl ⟨rfl, rc_A rfl rfl rfl rfl, rc_A rfl rfl rfl rfl, rfl, trivial⟩ rfl ⟨(Gh.le.trans (by assumption) hle), rfl, ?_⟩
 all_goals exact ⟨ba, qa, cv, rfl, hT1, hR1.mono hle, hrv⟩
def ptR (b : Nat) : List Value := [Pt b 0]
instance : RowF ptR 1 := ⟨fun _ => rfl⟩
def inR (n : Int) : List Value := [I n]
instance : RowF inR 1 := ⟨fun _ => rfl⟩
abbrev tSt2 : TypeId := 9
abbrev tLv : TypeId := 78
inductive RepR (G : Gh) (ts : List Ty) : V → List UInt8 → Nat → Prop
 | leaf (w : Nat) (x k tx : List UInt8) (b : Nat) : Seg G b 0 [S k, S tx, nilS, nilS] → ((w = 110 ∧ k = [110] ∧ tx = x ∧ ∀ c ∈ x, isDg c = true) ∨ (w = 116 ∧ k = [116] ∧ tx = 39 :: (x ++ [39])) ∨ (w = 102 ∧ k = [102] ∧ tx = x ∧ (x = [121, 101, 115] ∨ x = [110, 111]))) → RepR G ts (.nd w x 0 []) k b
 | lst (k : List UInt8) (b : Nat) (ks : List V) (bs : List Nat) (a : Option Addr) (c : Nat) : Seg G b 0 [S (91 :: k), S [], nilS, .slice a ks.length c] → SlV G (.slice a ks.length c) 1 ks.length (rows ptR bs) → bs.length = ks.length → (∀ i, i < ks.length → RepR G ts (nth ks i) k (nth bs i)) → RepR G ts (.nd 91 [] 0 ks) (91 :: k) b
 | non (k : List UInt8) (b : Nat) : Seg G b 0 [S (63 :: k), S [], nilS, nilS] → RepR G ts (.nd 63 [] 0 []) (63 :: k) b
 | opt (k : List UInt8) (b kb b' cc : Nat) (v : V) : 1 ≤ cc → Seg G b 0 [S (63 :: k), S [], nilS, .slice (some ⟨kb, 0, none⟩) 1 cc] → Seg G kb 0 [Pt b' 0] → RepR G ts v k b' → RepR G ts (.nd 63 [] 0 [v]) (63 :: k) b
 | recd (k : List UInt8) (b : Nat) (t : Ty) (fs : List (Fld × V)) (bs : List Nat) (a a2 : Option Addr) (c c2 : Nat) : refT ts k = some t ∧ t.sort = 82 → Seg G b 0 [S k, S [82], .slice a fs.length c, .slice a2 fs.length c2] → SlV G (.slice a fs.length c) 1 fs.length (rows inR (fs.map fun p => p.1.tag)) → SlV G (.slice a2 fs.length c2) 1 fs.length (rows ptR bs) → bs.length = fs.length → (∀ i, i < fs.length → (nth fs i).1 ∈ t.fields) → (∀ i, i < fs.length → RepR G ts (nth fs i).2 (nth fs i).1.kind (nth bs i)) → RepR G ts (.nd 82 [] 0 (fs.map fun p => .nd 61 [] p.1.tag [p.2])) k b
 | enm (k : List UInt8) (b tb : Nat) (t : Ty) (d : Fld) : refT ts k = some t ∧ t.sort = 69 → d ∈ t.fields → Seg G b 0 [S k, S [69], .slice (some ⟨tb, 0, none⟩) 1 1, nilS] → Seg G tb 0 [I d.tag] → RepR G ts (.nd 69 [] d.tag []) k b
 | uni (k : List UInt8) (b tb kb b' cc : Nat) (t : Ty) (d : Fld) (v : V) : 1 ≤ cc → refT ts k = some t ∧ t.sort = 85 → d ∈ t.fields → Seg G b 0 [S k, S [85], .slice (some ⟨tb, 0, none⟩) 1 1, .slice (some ⟨kb, 0, none⟩) 1 cc] → Seg G tb 0 [I d.tag] → Seg G kb 0 [Pt b' 0] → RepR G ts v d.kind b' → RepR G ts (.nd 85 [] d.tag [v]) k b
theorem RepR.mono {G G' : Gh} {ts : List Ty} (hl : Gh.le G G') {v : V} {k : List UInt8} {b : Nat} (h : RepR G ts v k b) : RepR G' ts v k b := by
 induction h with
 | leaf w x k tx b h1 h2 => exact .leaf w x k tx b (h1.mono hl) h2
 | lst k b ks bs a c h1 h2 h3 _ ih => exact .lst k b ks bs a c (h1.mono hl) (h2.mono hl) h3 ih
 | non k b h1 => exact .non k b (h1.mono hl)
 | opt k b kb b' cc v h0 h1 h2 _ ih => exact .opt k b kb b' cc v h0 (h1.mono hl) (h2.mono hl) ih
 | recd k b t fs bs a a2 c c2 h0 h1 h2 h3 h4 h5 _ ih => exact .recd k b t fs bs a a2 c c2 h0 (h1.mono hl) (h2.mono hl) (h3.mono hl) h4 h5 ih
 | enm k b tb t d h0 h1 h2 h3 => exact .enm k b tb t d h0 h1 (h2.mono hl) (h3.mono hl)
 | uni k b tb kb b' cc t d v hcc h0 h1 h2 h3 h4 _ ih => exact .uni k b tb kb b' cc t d v hcc h0 h1 (h2.mono hl) (h3.mono hl) (h4.mono hl) ih
def ReadP (ts : List Ty) (f : Option (V × List UInt8)) (k : List UInt8) (v : Value) (G' : Gh) : Prop :=
 ∃ q rest ok, v = Tu [.pointer q, S rest, Bo ok] ∧ (ok = true → ∃ w b, q = some ⟨b, 0, none⟩ ∧ f = some (w, rest) ∧ RepR G' ts w k b) ∧ (ok = false → f = none)
theorem c_digits {s : List UInt8} (hs : s.length ≤ 100000000) : PuG Tryz.prog 135 [S s] G (· = I ((s.takeWhile isDg).length : Nat)) := by
 refine jE [(0, _)] Tryz.func135 Tryz.ntmps135 fun B hB => ?_
 repeat' (refine jR ?_)
 refine k_loop (ι := Nat) (fun i => i ≤ s.length ∧ i + ((s.drop i).takeWhile isDg).length = (s.takeWhile isDg).length) (fun i => [(0, S s), (3, I i)]) (fun _ => G) (fun i => []) (fun i => s.length - i) 0 ?_ (by repeat' constructor) rfl sRr (fun i Hi => ?_)
 ·exact ⟨Nat.zero_le _, by simp⟩
 obtain ⟨hi0, hi1⟩ := Hi
 by_cases hi : i < s.length
 ·obtain ⟨c, hc1, hc2⟩ := drop_bt hi
  have hc3 : bt s ((i : Int).toNat) = c.toNat := hc2
  rw [hc1, List.takeWhile_cons] at hi1
  by_cases hd : isDg c = true
  ·rw [if_pos hd] at hi1
   have hd2 := hd
   unfold isDg at hd2
   rw [decide_eq_true_eq] at hd2
   simp only [List.length_cons] at hi1
   repeat' (first | refine jM ?_ | (refine k_op rfl ?_; (refine jV (g_pickT rfl rfl rfl) ?_)) | (refine k_gt rfl rfl (dTt (by omega)) ?_) | (refine k_tt rfl (dTt (by omega)) ?_))
   exact k_rd (i + 1) ⟨by omega, by omega⟩ (by omega) (by repeat' constructor) rfl sRr
  ·rw [if_neg hd] at hi1
   have hd2 : ¬ (48 ≤ c.toNat ∧ c.toNat ≤ 57) := fun h => hd (by unfold isDg; rw [decide_eq_true_eq]; exact h)
   simp only [List.length_nil] at hi1
   repeat' (first | refine jM ?_ | (refine k_op rfl ?_; first | (refine jV (g_pickT rfl rfl rfl) ?_) | (refine jV (g_pickF rfl rfl rfl) ?_)) | (refine k_gt rfl rfl (dTt (by omega)) ?_) | refine k_g rfl rfl (fun _ => ?_) (fun _ => ?_) | (refine k_ff rfl (by first | rfl | (refine decide_eq_false ?_; (omega))) ?_))
   all_goals refine jZ (vs := [_]) rfl ⟨rfl, trivial⟩ rfl ⟨rfl, rfl, ?_⟩
   all_goals (rw [oneOf_one, ← hi1]; rfl)
 ·have : i = s.length := by omega
  rw [this, List.drop_length] at hi1
  simp only [List.takeWhile_nil, List.length_nil] at hi1
  repeat' (first | (refine jR ?_) | (refine k_op rfl ?_; (refine jV (g_pickF rfl rfl rfl) ?_)) | (refine k_gf rfl rfl (by first | rfl | (refine decide_eq_false ?_; (omega))) ?_) | (refine k_ff rfl rfl ?_))
  all_goals refine jZ (vs := [_]) rfl ⟨rfl, trivial⟩ rfl ⟨rfl, rfl, ?_⟩
  all_goals (rw [oneOf_one, ← hi1, this]; rfl)
theorem take_while (q : UInt8 → Bool) (s : List UInt8) : s.take ((((s.takeWhile q).length : Nat) : Int)).toNat = s.takeWhile q ∧ s.drop ((((s.takeWhile q).length : Nat) : Int)).toNat = s.dropWhile q := by
 have h := List.takeWhile_append_dropWhile (p := q) (l := s)
 have e : ((((s.takeWhile q).length : Nat) : Int)).toNat = (s.takeWhile q).length := by omega
 rw [e]
 constructor
 ·have h2 : (s.takeWhile q ++ s.dropWhile q).take (s.takeWhile q).length = s.takeWhile q := List.take_left
  rwa [h] at h2
 ·have h2 : (s.takeWhile q ++ s.dropWhile q).drop (s.takeWhile q).length = s.dropWhile q := List.drop_left
  rwa [h] at h2
theorem c_plainN {u : Value} {ts : List Ty} {s : List UInt8} (hu : u.oneCell' = true) (hs : s.length ≤ 100000000) : FnS Tryz.prog 96 [Ag [u], S s, S [110]] G (ReadP ts ((rdNum 999999 s).map fun x => (.nd 110 (decI x.1) 0 [], x.2)) [110]) := by
 have cx_dg := c_digits (G := G) hs
 obtain ⟨e1, e2⟩ := take_while isDg s
 have hwl := while_len isDg s
 have hlen : (s.take ((((s.takeWhile isDg).length : Nat) : Int)).toNat).length ≤ 100000000 := by rw [e1]; omega
 refine jB [(0, _), (1, _), (2, _)] Tryz.func96 Tryz.ntmps96 fun B hok hB hW => ?_
 repeat' (first | refine jM ?_ | (refine k_op rfl ?_; first | refine c_bx rfl rfl rfl fun _ => ?_ | (refine c_rt rfl rfl rfl cx_dg rfl ?_) | (refine c_pu rfl rfl rfl (c_l3Num (by omega)) rfl ?_; rintro _ ⟨n, rfl, hnum⟩)) | (refine k_tt rfl rfl ?_) | (refine k_any (s_any (id := 6) _ (fun _ h => h) mixed ?_); refine jU 5 [0, 1, 2, 3, 6, 7, 8, 9] (bts 13 975) ?_ ?_; (focus (repeat' (first | exact trivial | apply And.intro | omega))); (refine jG (bts 13 991) 4 rfl (g_bld rfl rfl) ?_); refine jA 5 rfl ?_; (refine c_bx rfl rfl rfl fun _ => ?_); refine jS (bts 13 1023) ?_; refine jT 0 [10, 11, 12] (bts 13 8191) ?_; refine x_done (by kernel_rfl) (k_bk ?_)))
 rename_i x3 x4
 refine Nx.sealC (b := x4) fun G2 hG2 hsy => ?_
 refine jZ (vs := [_, _, _]) rfl ⟨rfl, rfl, rfl, trivial⟩ rfl ⟨hG2, rfl, ?_⟩
 rw [oneOf_three]
 rw [e1] at hnum hsy
 rw [e1, e2]
 refine ⟨_, _, _, rfl, fun h => ?_, fun h => ?_⟩
 ·cases hm : numOf (s.takeWhile isDg) 999999 with
  | none => rw [hm] at h; cases h
  | some m =>
   have hmd := (numOf_le hm).2.1
   refine ⟨.nd 110 (decI m) 0 [], x4, rfl, by unfold rdNum; rw [hm]; rfl, .leaf 110 _ _ _ _ hsy (.inl ⟨rfl, rfl, hmd, fun c hc => List.all_eq_true.1 (List.all_takeWhile (l := s) (p := isDg)) c (by rw [hmd]; exact hc)⟩)⟩
 ·cases hm : numOf (s.takeWhile isDg) 999999 with
  | none => unfold rdNum; rw [hm]; rfl
  | some m => rw [hm] at h; cases h
theorem quote_take {c : UInt8} {r : List UInt8} {i : Nat} (hc : i ≤ r.length) (hn : ∀ j, j < i → bt r j ≠ 39) (hi : i = r.length ∨ bt r i = 39 ∧ i < r.length) :
  (rdQuote (c :: r) = if isTx ((c :: r).take (min (i + 2) (r.length + 1))) = true then some (.nd 116 (r.take i) 0 [], r.drop (i + 1)) else none) ∧ (isTx ((c :: r).take (min (i + 2) (r.length + 1))) = true → (c :: r).take (min (i + 2) (r.length + 1)) = 39 :: (r.take i ++ [39])) := by
 unfold rdQuote
 dsimp only
 rcases hi with hi | ⟨h39, hlt⟩
 ·have hcut : cut1 39 r = (r, [], false) := cut1_no fun j hj => hn j (by omega)
  have htk : (c :: r).take (min (i + 2) (r.length + 1)) = c :: r := List.take_of_length_le (by simp; omega)
  have hno : isTx (c :: r) = false := by
   unfold isTx
   refine decide_eq_false fun h => ?_
   obtain ⟨⟨h2, _⟩, _, h3, _⟩ := h
   simp only [List.length_cons] at h2
   rw [show (c :: r).length - 1 = (r.length - 1) + 1 by simp; omega, bt_succ] at h3
   exact hn (r.length - 1) (by omega) h3
  rw [hcut, htk, hno]
  exact ⟨by simp, fun h => (by cases h)⟩
 ·have hcut := cut1_at (k := 39) hlt hn h39
  have htk : (c :: r).take (min (i + 2) (r.length + 1)) = c :: (r.take i ++ [39]) := by
   rw [show min (i + 2) (r.length + 1) = (i + 1) + 1 by omega, List.take_succ_cons, take_nth hlt]
   congr 1; congr 1; congr 1
   rw [nth_eq hlt]
   have : bt r i = (r[i]).toNat := by simp [bt, List.getD, List.getElem?_eq_getElem hlt]
   exact UInt8.toNat_inj.1 (by rw [← this, h39]; rfl)
  rw [hcut, htk]
  dsimp only
  by_cases h : c.toNat = 39
  ·rw [if_pos h, show c = 39 from UInt8.toNat_inj.1 h]
   exact ⟨rfl, fun _ => rfl⟩
  ·have hno : ¬ isTx (c :: (r.take i ++ [39])) = true := fun ht => by
    unfold isTx at ht
    rw [decide_eq_true_eq] at ht
    exact h (by have := ht.2.1; rwa [bt_zero] at this)
   rw [if_neg h, if_neg hno]
   exact ⟨rfl, fun h2 => absurd h2 hno⟩
theorem c_plainT {u : Value} {ts : List Ty} {s : List UInt8} (hu : u.oneCell' = true) (hs : s.length ≤ 100000000) (hne : s ≠ []) : FnS Tryz.prog 96 [Ag [u], S s, S [116]] G (ReadP ts (rdQuote s) [116]) := by
 match s, hne with
 | c :: r, _ =>
 simp only [List.length_cons] at hs
 have hcl : (c :: r).length = r.length + 1 := rfl
 refine jB [(0, _), (1, _), (2, _)] Tryz.func96 Tryz.ntmps96 fun B hok hB hW => ?_
 repeat' (first | (refine jR ?_) | (refine k_op rfl ?_; (refine c_bx rfl rfl rfl fun _ => ?_)) | (refine k_tt rfl rfl ?_) | (refine k_ff rfl rfl ?_))
 rename_i x3
 refine k_loop (ι := Nat) (fun i => i ≤ r.length ∧ ∀ j, j < i → bt r j ≠ 39) (fun i => [(1, S (c :: r)), (2, S [116]), (9, I (i + 1 : Nat))]) (fun _ => G) (fun i => []) (fun i => r.length - i) 0 ?_ (by repeat' constructor) rfl (by repeat (exact List.nil_sublist _)) (fun i Hi => ?_)
 ·exact ⟨Nat.zero_le _, fun j hj => absurd hj (by omega)⟩
 obtain ⟨hi0, hi1⟩ := Hi
 have hb : bt (c :: r) ((i + 1 : Nat) : Int).toNat = bt r i := bt_succ c r i
 by_cases hi : i < r.length
 ·by_cases h39 : bt r i = 39
  ·have h39' : bt (c :: r) ((i + 1 : Nat) : Int).toNat = 39 := by rw [hb]; exact h39
   have hq := quote_take (c := c) hi0 hi1 (.inr ⟨h39, hi⟩)
   have e3 : (min (((i + 1 : Nat) : Int) + 1) ((((c :: r).length : Nat) : Int))).toNat = min (i + 2) (r.length + 1) := by omega
   have cx_tx := c_l3Text (G := G) (s := (c :: r).take (min (((i + 1 : Nat) : Int) + 1) ((((c :: r).length : Nat) : Int))).toNat) (by rw [List.length_take]; omega)
   repeat' (first | refine jM ?_ | (refine k_op rfl ?_; first | (refine jV (g_pickT rfl rfl rfl) ?_) | refine jV (g_min rfl rfl) ?_) | (refine k_gt rfl rfl (dTt (by omega)) ?_) | (refine k_ff rfl (dFf (by omega)) ?_) | (refine k_any (s_any (id := 12) _ (fun _ h => h) mixed ?_); refine jU 6 [0, 1, 2, 3, 6, 7, 8, 9, 10, 11] (bts 16 4047) ?_ ?_; (focus (repeat' (first | exact trivial | apply And.intro | omega))); (refine jG (bts 16 4063) 4 rfl (g_bld rfl rfl) ?_); refine x_all [5, 12] (by kernel_rfl) (by decide) ⟨?_, ?_, trivial⟩; (focus (refine x_opg rfl rfl ?_; (refine c_bx rfl rfl rfl fun _ => ?_); refine jS (bts 16 4095) ?_; refine jA 12 rfl ?_; ((refine c_rt rfl rfl rfl (c_l3Text ?_) rfl ?_; (focus ((simp; omega); done)))); refine jS (bts 16 8191) ?_; refine jU 0 [13, 14, 15] (bts 16 65535) ?_ ?_; (focus (repeat' (exact trivial))); refine x_done (by kernel_rfl) (k_bk ?_))); rotate_left 1; (focus (refine x_opg rfl rfl ?_; ((refine c_rt rfl rfl rfl (c_l3Text ?_) rfl ?_; (focus ((simp; omega); done)))); refine jS (bts 16 8159) ?_; refine jA 5 rfl ?_; (refine c_bx rfl rfl rfl fun _ => ?_); refine jS (bts 16 8191) ?_; refine jU 0 [13, 14, 15] (bts 16 65535) ?_ ?_; (focus (repeat' (exact trivial))); refine x_done (by kernel_rfl) (k_bk ?_))); rotate_left 1))
   all_goals
    rename_i x4
    refine Nx.sealC (b := x4) fun G2 hG2 hsy => ?_
    refine jZ (vs := [_, _, _]) rfl ⟨rfl, rfl, rfl, trivial⟩ rfl ⟨hG2, rfl, ?_⟩
    rw [oneOf_three]
    rw [e3] at hsy
    rw [e3]
    refine ⟨_, _, _, rfl, fun h => ?_, fun h => ?_⟩
    ·have htk := hq.2 h
     rw [htk] at hsy
     have hdr : (c :: r).drop (min (i + 2) (r.length + 1)) = r.drop (i + 1) := by
      rcases Nat.lt_or_ge i r.length with h2 | h2
      ·rw [show min (i + 2) (r.length + 1) = (i + 1) + 1 by omega]; rfl
      ·rw [List.drop_eq_nil_of_le (by simp; omega), List.drop_eq_nil_of_le (by omega)]
     exact ⟨_, x4, rfl, by rw [hq.1, if_pos h, hdr], .leaf 116 _ _ _ _ hsy (.inr (.inl ⟨rfl, rfl, rfl⟩))⟩
    ·rw [hq.1, if_neg (by rw [h]; decide)]
  ·have h39' : ¬ bt (c :: r) ((i + 1 : Nat) : Int).toNat = 39 := by rw [hb]; exact h39
   repeat' (first | refine jM ?_ | (refine k_op rfl ?_; (refine jV (g_pickT rfl rfl rfl) ?_)) | (refine k_gt rfl rfl (dTt (by omega)) ?_) | (refine k_tt rfl (dTt (by omega)) ?_))
   refine Nx.re (d := 9) (v' := I (i + 1 + 1 : Nat)) rfl (congrArg (Value.int .i64) (by omega)) ?_
   exact k_rd (i + 1) ⟨by omega, fun j hj => (by
    rcases Nat.lt_or_ge j i with h | h
    ·exact hi1 j h
    ·have : j = i := by omega
     subst this; exact h39)⟩ (by omega) (by repeat' constructor) rfl sRr
 ·have hq := quote_take (c := c) hi0 hi1 (.inl (by omega))
  have e3 : (min (((i + 1 : Nat) : Int) + 1) ((((c :: r).length : Nat) : Int))).toNat = min (i + 2) (r.length + 1) := by omega
  have cx_tx := c_l3Text (G := G) (s := (c :: r).take (min (((i + 1 : Nat) : Int) + 1) ((((c :: r).length : Nat) : Int))).toNat) (by rw [List.length_take]; omega)
  repeat' (first | refine jM ?_ | (refine k_op rfl ?_; first | (refine jV (g_pickF rfl rfl rfl) ?_) | refine jV (g_min rfl rfl) ?_) | (refine k_gf rfl rfl (dFf (by omega)) ?_) | (refine k_ff rfl rfl ?_) | (refine k_any (s_any (id := 12) _ (fun _ h => h) mixed ?_); refine jU 6 [0, 1, 2, 3, 6, 7, 8, 9, 10, 11] (bts 16 4047) ?_ ?_; (focus (repeat' (first | exact trivial | apply And.intro | omega))); (refine jG (bts 16 4063) 4 rfl (g_bld rfl rfl) ?_); refine x_all [5, 12] (by kernel_rfl) (by decide) ⟨?_, ?_, trivial⟩; (focus (refine x_opg rfl rfl ?_; (refine c_bx rfl rfl rfl fun _ => ?_); refine jS (bts 16 4095) ?_; refine jA 12 rfl ?_; ((refine c_rt rfl rfl rfl (c_l3Text ?_) rfl ?_; (focus ((simp; omega); done)))); refine jS (bts 16 8191) ?_; refine jU 0 [13, 14, 15] (bts 16 65535) ?_ ?_; (focus (repeat' (exact trivial))); refine x_done (by kernel_rfl) (k_bk ?_))); rotate_left 1; (focus (refine x_opg rfl rfl ?_; ((refine c_rt rfl rfl rfl (c_l3Text ?_) rfl ?_; (focus ((simp; omega); done)))); refine jS (bts 16 8159) ?_; refine jA 5 rfl ?_; (refine c_bx rfl rfl rfl fun _ => ?_); refine jS (bts 16 8191) ?_; refine jU 0 [13, 14, 15] (bts 16 65535) ?_ ?_; (focus (repeat' (exact trivial))); refine x_done (by kernel_rfl) (k_bk ?_))); rotate_left 1))
  all_goals
   rename_i x4
   refine Nx.sealC (b := x4) fun G2 hG2 hsy => ?_
   refine jZ (vs := [_, _, _]) rfl ⟨rfl, rfl, rfl, trivial⟩ rfl ⟨hG2, rfl, ?_⟩
   rw [oneOf_three]
   rw [e3] at hsy
   rw [e3]
   refine ⟨_, _, _, rfl, fun h => ?_, fun h => ?_⟩
   ·have htk := hq.2 h
    rw [htk] at hsy
    have hdr : (c :: r).drop (min (i + 2) (r.length + 1)) = r.drop (i + 1) := by
     rcases Nat.lt_or_ge i r.length with h2 | h2
     ·rw [show min (i + 2) (r.length + 1) = (i + 1) + 1 by omega]; rfl
     ·rw [List.drop_eq_nil_of_le (by simp; omega), List.drop_eq_nil_of_le (by omega)]
    exact ⟨_, x4, rfl, by rw [hq.1, if_pos h, hdr], .leaf 116 _ _ _ _ hsy (.inr (.inl ⟨rfl, rfl, rfl⟩))⟩
   ·rw [hq.1, if_neg (by rw [h]; decide)]
theorem c_plainF {u : Value} {ts : List Ty} {s : List UInt8} (hu : u.oneCell' = true) (hs : s.length ≤ 100000000) : FnS Tryz.prog 96 [Ag [u], S s, S [102]] G (ReadP ts (rdFlag s) [102]) := by
 have hpf : ∀ l : List UInt8, l.isPrefixOf s = true ↔ l.length ≤ s.length ∧ s.take l.length = l := fun l => by
  rw [List.isPrefixOf_iff_prefix]
  constructor
  ·rintro ⟨t, rfl⟩; simp
  ·rintro ⟨h1, h2⟩; exact ⟨s.drop l.length, by rw [show l ++ s.drop l.length = s.take l.length ++ s.drop l.length from by rw [h2]]; exact List.take_append_drop _ _⟩
 refine jB [(0, _), (1, _), (2, _)] Tryz.func96 Tryz.ntmps96 fun B hok hB hW => ?_
 repeat' (first | (refine jR ?_) | (refine k_op rfl ?_; first | refine c_bx rfl rfl rfl fun _ => ?_ | refine c_bsl rfl rfl rfl rfl rfl rfl fun _ => ?_ | refine jV (g_lenL rfl) ?_) | (refine k_ff rfl rfl ?_))
 rename_i x3 x4
 refine k_loop (ι := Nat) (fun i => i ≤ 2 ∧ (1 ≤ i → ([121, 101, 115] : List UInt8).isPrefixOf s = false) ∧ (2 ≤ i → ([110, 111] : List UInt8).isPrefixOf s = false)) (fun i => [(1, S s), (2, S [102]), (68, .slice (some ⟨x4, 0, none⟩) 2 2), (69, I (2 : Nat)), (70, I i)]) (fun _ => G) (fun i => [.blk x4 (.cells (List.toArray [S [121, 101, 115], S [110, 111]]) tSt2 (0, 0))]) (fun i => 2 - i) 0 ?_ (by repeat' constructor) rfl (by repeat (first | exact List.nil_sublist _ | apply List.Sublist.cons_cons)) (fun i Hi => ?_)
 ·exact ⟨Nat.zero_le _, fun h => absurd h (by omega), fun h => absurd h (by omega)⟩
 obtain ⟨hi0, hi1, hi2⟩ := Hi
 have h3 : i = 0 ∨ i = 1 ∨ i = 2 := by omega
 rcases h3 with rfl | rfl | rfl
 ·cases hp : ([121, 101, 115] : List UInt8).isPrefixOf s with
  | true =>
   obtain ⟨h1, h2⟩ := (hpf _).1 hp
   have h1' : (((([121, 101, 115] : List UInt8).length : Nat) : Int)) ≤ s.length := by omega
   have h2' : s.take (((([121, 101, 115] : List UInt8).length : Nat) : Int)).toNat = [121, 101, 115] := h2
   repeat' (first | refine jM ?_ | (refine k_op rfl ?_; first | (refine jV (g_pickT rfl rfl rfl) ?_) | (refine jV (g_iaddrN rfl rfl (by omega)) ?_) | refine jV (g_ld rfl rfl rfl) ?_) | (refine k_gt rfl rfl (dTt ‹_›) ?_) | (refine k_tt rfl (by first | rfl | (refine decide_eq_true ?_; (assumption))) ?_) | (refine k_any (s_any (id := 17) _ (fun _ h => h) mixed ?_); refine jU 5 [0, 1, 4, 5, 6, 7] (bts 11 243) ?_ ?_; (focus (repeat' (first | exact trivial | apply And.intro | omega))); (refine jG (bts 11 247) 2 rfl (g_bld rfl rfl) ?_); refine jA 3 rfl ?_; (refine c_bx rfl rfl rfl fun _ => ?_); refine jS (bts 11 255) ?_; refine jT 0 [8, 9, 10] (bts 11 2047) ?_; refine x_done (by kernel_rfl) (k_bk ?_)))
   all_goals
    rename_i y
    refine Nx.sealC (b := y) fun G2 hG2 hsy => ?_
    refine jZ (vs := [_, _, _]) rfl ⟨rfl, rfl, rfl, trivial⟩ rfl ⟨hG2, rfl, ?_⟩
    rw [oneOf_three]
    exact ⟨_, _, _, rfl, fun _ => ⟨.nd 102 [121, 101, 115] 0 [], y, rfl, by unfold rdFlag; rw [hp, if_pos rfl]; rfl, .leaf 102 _ _ _ _ hsy (.inr (.inr ⟨rfl, rfl, rfl, .inl rfl⟩))⟩, fun h => (by cases h)⟩
  | false =>
   have hn : ¬ ((([121, 101, 115] : List UInt8).length : Nat) ≤ s.length ∧ s.take ([121, 101, 115] : List UInt8).length = [121, 101, 115]) := fun h => by rw [(hpf _).2 h] at hp; cases hp
   have hn' : ¬ ((((([121, 101, 115] : List UInt8).length : Nat) : Int)) ≤ s.length ∧ s.take (((([121, 101, 115] : List UInt8).length : Nat) : Int)).toNat = [121, 101, 115]) := fun h => hn ⟨by omega, h.2⟩
   by_cases h1' : (((([121, 101, 115] : List UInt8).length : Nat) : Int)) ≤ s.length
   ·have h2' : ¬ s.take (((([121, 101, 115] : List UInt8).length : Nat) : Int)).toNat = [121, 101, 115] := fun h => hn' ⟨h1', h⟩
    repeat' (first | refine jM ?_ | (refine k_op rfl ?_; first | (refine jV (g_pickT rfl rfl rfl) ?_) | (refine jV (g_iaddrN rfl rfl (by omega)) ?_) | refine jV (g_ld rfl rfl rfl) ?_) | (refine k_gt rfl rfl (dTt ‹_›) ?_) | (refine k_tt rfl rfl ?_) | (refine k_ff rfl (dFf ‹_›) ?_))
    exact k_rd 1 ⟨by omega, fun _ => rfl, fun h => absurd h (by omega)⟩ (by omega) (by repeat' constructor) rfl sRr
   ·repeat' (first | refine jM ?_ | (refine k_op rfl ?_; first | (refine jV (g_pickF rfl rfl rfl) ?_) | (refine jV (g_iaddrN rfl rfl (by omega)) ?_) | refine jV (g_ld rfl rfl rfl) ?_) | (refine k_gf rfl rfl (dFf ‹_›) ?_) | (refine k_tt rfl rfl ?_) | (refine k_ff rfl rfl ?_))
    exact k_rd 1 ⟨by omega, fun _ => rfl, fun h => absurd h (by omega)⟩ (by omega) (by repeat' constructor) rfl sRr
 ·have hy := hi1 (Nat.le_refl _)
  cases hp : ([110, 111] : List UInt8).isPrefixOf s with
  | true =>
   obtain ⟨h1, h2⟩ := (hpf _).1 hp
   have h1' : (((([110, 111] : List UInt8).length : Nat) : Int)) ≤ s.length := by omega
   have h2' : s.take (((([110, 111] : List UInt8).length : Nat) : Int)).toNat = [110, 111] := h2
   repeat' (first | refine jM ?_ | (refine k_op rfl ?_; first | (refine jV (g_pickT rfl rfl rfl) ?_) | (refine jV (g_iaddrN rfl rfl (by omega)) ?_) | refine jV (g_ld rfl rfl rfl) ?_) | (refine k_gt rfl rfl (dTt ‹_›) ?_) | (refine k_tt rfl (by first | rfl | (refine decide_eq_true ?_; (assumption))) ?_) | (refine k_any (s_any (id := 17) _ (fun _ h => h) mixed ?_); refine jU 5 [0, 1, 4, 5, 6, 7] (bts 11 243) ?_ ?_; (focus (repeat' (first | exact trivial | apply And.intro | omega))); (refine jG (bts 11 247) 2 rfl (g_bld rfl rfl) ?_); refine jA 3 rfl ?_; (refine c_bx rfl rfl rfl fun _ => ?_); refine jS (bts 11 255) ?_; refine jT 0 [8, 9, 10] (bts 11 2047) ?_; refine x_done (by kernel_rfl) (k_bk ?_)))
   all_goals
    rename_i y
    refine Nx.sealC (b := y) fun G2 hG2 hsy => ?_
    refine jZ (vs := [_, _, _]) rfl ⟨rfl, rfl, rfl, trivial⟩ rfl ⟨hG2, rfl, ?_⟩
    rw [oneOf_three]
    exact ⟨_, _, _, rfl, fun _ => ⟨.nd 102 [110, 111] 0 [], y, rfl, by unfold rdFlag; rw [hy, if_neg (by decide), hp, if_pos rfl]; rfl, .leaf 102 _ _ _ _ hsy (.inr (.inr ⟨rfl, rfl, rfl, .inr rfl⟩))⟩, fun h => (by cases h)⟩
  | false =>
   have hn : ¬ ((([110, 111] : List UInt8).length : Nat) ≤ s.length ∧ s.take ([110, 111] : List UInt8).length = [110, 111]) := fun h => by rw [(hpf _).2 h] at hp; cases hp
   have hn' : ¬ ((((([110, 111] : List UInt8).length : Nat) : Int)) ≤ s.length ∧ s.take (((([110, 111] : List UInt8).length : Nat) : Int)).toNat = [110, 111]) := fun h => hn ⟨by omega, h.2⟩
   by_cases h1' : (((([110, 111] : List UInt8).length : Nat) : Int)) ≤ s.length
   ·have h2' : ¬ s.take (((([110, 111] : List UInt8).length : Nat) : Int)).toNat = [110, 111] := fun h => hn' ⟨h1', h⟩
    repeat' (first | refine jM ?_ | (refine k_op rfl ?_; first | (refine jV (g_pickT rfl rfl rfl) ?_) | (refine jV (g_iaddrN rfl rfl (by omega)) ?_) | refine jV (g_ld rfl rfl rfl) ?_) | (refine k_gt rfl rfl (dTt ‹_›) ?_) | (refine k_tt rfl rfl ?_) | (refine k_ff rfl (dFf ‹_›) ?_))
    exact k_rd 2 ⟨by omega, fun _ => hy, fun _ => rfl⟩ (by omega) (by repeat' constructor) rfl sRr
   ·repeat' (first | refine jM ?_ | (refine k_op rfl ?_; first | (refine jV (g_pickF rfl rfl rfl) ?_) | (refine jV (g_iaddrN rfl rfl (by omega)) ?_) | refine jV (g_ld rfl rfl rfl) ?_) | (refine k_gf rfl rfl (dFf ‹_›) ?_) | (refine k_tt rfl rfl ?_) | (refine k_ff rfl rfl ?_))
    exact k_rd 2 ⟨by omega, fun _ => hy, fun _ => rfl⟩ (by omega) (by repeat' constructor) rfl sRr
 ·repeat' (first | (refine jR ?_) | (refine k_ff rfl rfl ?_))
  refine jZ (vs := [_, _, _]) rfl ⟨rfl, rfl, rfl, trivial⟩ rfl ⟨Gh.le.refl _, rfl, ?_⟩
  rw [oneOf_three]
  exact ⟨_, _, _, rfl, fun h => (by cases h), fun _ => by unfold rdFlag; rw [hi1 (by omega), if_neg (by decide), hi2 (by omega), if_neg (by decide)]⟩
theorem c_tag {u : Value} {x : TyX} {s : List UInt8} (hs : s.length ≤ 100000000) (hu : u.oneCell' = true) (hf : SlV G (slX x) 4 x.2.fields.length (rows fldF x.2.fields)) (hl : x.2.fields.length ≤ 1000) :
  PuG Tryz.prog 134 [Ag [u], S s, Ag (tyF x)] G (fun v => ∃ n, v = Tu [Ag (fldF ((fldT x.2.fields n).getD zF)), S (s.dropWhile isDg), Bo ((numOf (s.takeWhile isDg) 200).isSome && (fldT x.2.fields n).isSome)] ∧ ∀ m, numOf (s.takeWhile isDg) 200 = some m → n = m) := by
 have cx_dg := c_digits (G := G) hs
 obtain ⟨e1, e2⟩ := take_while isDg s
 have hwl := while_len isDg s
 have hlen : (s.take ((((s.takeWhile isDg).length : Nat) : Int)).toNat).length ≤ 100000000 := by rw [e1]; omega
 simp only [tyF]
 refine jE [(0, _), (1, _), (2, _)] Tryz.func134 Tryz.ntmps134 fun B hB => ?_
 repeat' (first | refine jM ?_ | (refine k_op rfl ?_; first | refine c_bx rfl rfl rfl fun _ => ?_ | refine c_al rfl rfl fun _ => ?_ | refine jV (g_ldA rfl rfl rfl rfl) ?_ | (refine c_rt rfl rfl rfl cx_dg rfl ?_) | (refine c_pu rfl rfl rfl (c_l3Num (by omega)) rfl ?_; rintro _ ⟨n, rfl, hnum⟩)))
 rename_i n
 have cx_fld := c_fieldS (G := G) (tag := n) hf hl
 rw [e1] at hnum
 cases hm : (numOf (s.take ((((s.takeWhile isDg).length : Nat) : Int)).toNat) 200).isSome with
 | false =>
  repeat' (first | (refine jR ?_) | (refine k_op rfl ?_; first | refine c_al rfl rfl fun _ => ?_ | refine c_stA rfl rfl rfl rfl rfl rfl ?_ | (refine c_rt rfl rfl rfl cx_fld rfl ?_)) | (refine k_any (s_anyD (id := 4) (tt := 6) rfl mixed ?_); refine jU 6 [1, 2, 3, 4, 5] (bts 11 62) ?_ ?_; (focus (repeat' (first | exact trivial | apply And.intro | omega))); (try (refine Nx.re (d := 34) (v' := Bo false) rfl (congrArg Value.bool rfl) ?_)); refine jU 5 [6] (bts 11 126) ?_ ?_; (focus (repeat' (exact trivial))); (refine jG (bts 11 127) 0 rfl (g_ldA rfl rfl rfl rfl) ?_); ((refine jG (bts 11 255) 7 rfl (g_pickF rfl rfl ?_) ?_; (focus ((rfl); done)))); refine jA 8 rfl ?_; (refine c_stA rfl rfl rfl rfl rfl rfl ?_); refine jK (bts 11 511) ?_; refine jU 0 [9, 10] (bts 11 2047) ?_ ?_; (focus (repeat' (exact trivial))); refine x_done (by kernel_rfl) (k_bk ?_)))
  all_goals refine jZ (vs := [_, _, _]) rfl ⟨rc_A rfl rfl rfl rfl, rfl, rfl, trivial⟩ rfl ⟨rfl, rfl, ?_⟩
  all_goals (rw [oneOf_three]; exact ⟨n, by rw [e1] at hm; rw [hm, e2]; rfl, hnum⟩)
 | true =>
  repeat' (first | (refine jR ?_) | (refine k_op rfl ?_; first | refine c_al rfl rfl fun _ => ?_ | refine c_stA rfl rfl rfl rfl rfl rfl ?_ | (refine c_rt rfl rfl rfl cx_fld rfl ?_)) | (refine k_any (s_anyD (id := 4) (tt := 6) rfl mixed ?_); refine jU 6 [1, 2, 3, 4, 5] (bts 11 62) ?_ ?_; (focus (repeat' (first | exact trivial | apply And.intro | omega))); (try (refine Nx.re (d := 34) (v' := Bo true) rfl (congrArg Value.bool rfl) ?_)); refine jU 5 [6] (bts 11 126) ?_ ?_; (focus (repeat' (exact trivial))); (refine jG (bts 11 127) 0 rfl (g_ldA rfl rfl rfl rfl) ?_); ((refine jG (bts 11 255) 7 rfl (g_pickT rfl rfl ?_) ?_; (focus ((rfl); done)))); refine jA 8 rfl ?_; (refine c_stA rfl rfl rfl rfl rfl rfl ?_); refine jK (bts 11 511) ?_; refine jU 0 [9, 10] (bts 11 2047) ?_ ?_; (focus (repeat' (exact trivial))); refine x_done (by kernel_rfl) (k_bk ?_)))
  all_goals refine jZ (vs := [_, _, _]) rfl ⟨rc_A rfl rfl rfl rfl, rfl, rfl, trivial⟩ rfl ⟨rfl, rfl, ?_⟩
  all_goals (rw [oneOf_three]; exact ⟨n, by rw [e1] at hm; rw [hm, e2]; rfl, hnum⟩)
end Go.E
namespace Go.E
set_option maxRecDepth 20000
set_option maxHeartbeats 2000000
open Go.Proofs
variable {G : Gh}
def OutB (v : V) : Prop := v.out.length + 1 ≤ 2 * v.tot
theorem outB_outs : ∀ {ks : List V}, (∀ v ∈ ks, OutB v) → lensT (V.outs ks) + ks.length ≤ 2 * V.tots ks
 | [], _ => by simp [V.outs, lensT]
 | v :: r, h => by
  have h1 := h v (.head _)
  have h2 := outB_outs fun u hu => h u (.tail _ hu)
  unfold OutB at h1
  simp only [V.outs, lensT, List.map_cons, List.sum_cons, V.tots, List.length_cons] at *
  omega
theorem outB_nd {w : Nat} {x : List UInt8} {t : Int} {ks : List V} (h : ∀ v ∈ ks, OutB v) (ht : t ≤ 999999) : OutB (.nd w x t ks) := by
 have h1 := outB_outs h
 have h2 := joinB_len 44 (V.outs ks)
 rw [outs_len] at h2
 have h4 := outW_len (w := w) (x := x) (e := ks.isEmpty) (j := joinB 44 (V.outs ks)) ht
 have h5 := tots_len ks
 unfold OutB
 rw [V.out, V.tot]
 omega
theorem mem_at {α : Type} [Inhabited α] {l : List α} {x : α} (h : x ∈ l) : ∃ i, i < l.length ∧ nth l i = x := by
 obtain ⟨i, hi, rfl⟩ := List.mem_iff_getElem.1 h
 exact ⟨i, hi, nth_eq hi⟩
theorem refT_W {ts : List Ty} (hw : SchW ts) {k : List UInt8} {t : Ty} (h : refT ts k = some t) {d : Fld} (hd : d ∈ t.fields) : d.tag ≤ 999999 ∧ 0 ≤ d.tag := by
 have := ((hw.ty t (refT_mem h)).fld d hd).tag
 omega
theorem refT_64 {ts : List Ty} {k : List UInt8} {t : Ty} (h : refT ts k = some t) : ∃ r, k = 64 :: r := by
 unfold refT at h
 cases k with
 | nil => cases h
 | cons c r =>
  unfold refN at h
  dsimp only at h
  by_cases h64 : c.toNat = 64
  ·exact ⟨r, by rw [show c = 64 from UInt8.toNat_inj.1 h64]⟩
  ·rw [if_neg h64] at h; cases h
theorem outR {ts : List Ty} (hw : SchW ts) {v : V} {k : List UInt8} {b : Nat} (h : RepR G ts v k b) : OutB v := by
 induction h with
 | leaf w x k tx b h1 h2 => exact outB_nd (by simp) (by decide)
 | lst k b ks bs a c h1 h2 h3 _ ih =>
  exact outB_nd (fun v hv => by obtain ⟨i, hi, rfl⟩ := mem_at hv; exact ih i hi) (by decide)
 | non k b h1 => exact outB_nd (by simp) (by decide)
 | opt k b kb b' cc v h0 h1 h2 _ ih => exact outB_nd (fun u hu => by simp only [List.mem_singleton] at hu; subst hu; exact ih) (by decide)
 | recd k b t fs bs a a2 c c2 h0 h1 h2 h3 h4 h5 _ ih =>
  refine outB_nd (fun v hv => ?_) (by decide)
  obtain ⟨p, hp, rfl⟩ := List.mem_map.1 hv
  obtain ⟨i, hi, rfl⟩ := mem_at hp
  exact outB_nd (fun u hu => by simp only [List.mem_singleton] at hu; subst hu; exact ih i hi) (refT_W hw h0.1 (h5 i hi)).1
 | enm k b tgb t d h0 h1 h2 h3 => exact outB_nd (by simp) (refT_W hw h0.1 h1).1
 | uni k b tgb kb b' cc t d v hcc h0 h1 h2 h3 h4 _ ih => exact outB_nd (fun u hu => by simp only [List.mem_singleton] at hu; subst hu; exact ih) (refT_W hw h0.1 h1).1
theorem joinB_step {c : UInt8} {xs : List (List UInt8)} {i : Nat} (h : i < xs.length) : joinB c (xs.take (i + 1)) = if 0 < i then joinB c (xs.take i) ++ c :: nth xs i else nth xs i := by
 rw [take_nth h]
 by_cases hi : 0 < i
 ·rw [if_pos hi, joinB_snoc]
  rw [ne_eq, List.take_eq_nil_iff]
  rintro (h0 | h0)
  ·omega
  ·subst h0; simp at h
 ·have : i = 0 := by omega
  subst this; rfl
theorem c_outS {ts : List Ty} (hw : SchW ts) {v : V} {k : List UInt8} {b : Nat} (h : RepR G ts v k b) : v.tot ≤ 1000000000000 → PuG Tryz.prog 53 [Pt b 0] G (· = S v.out) := by
 induction h with
 | leaf w x k tx b h1 h2 =>
  intro _
  rcases h2 with ⟨rfl, rfl, rfl, _⟩ | ⟨rfl, rfl, rfl⟩ | ⟨rfl, rfl, rfl, _⟩
  all_goals
   refine jE [(0, _)] Tryz.func53 Tryz.ntmps53 fun B hB => ?_
   repeat' (first | (refine run (t := tb) 400 rfl ?_ ?_; (focus (repeat' (first | exact trivial | apply And.intro | omega | (simp only [List.length_append, List.length_cons, List.length_nil, Int.toNat_natCast]; omega))))) | (refine k_op rfl ?_; (refine jV (g_ldS rfl rfl (by assumption) rfl rfl) ?_)) | (refine k_ff rfl rfl ?_))
   refine jZ (vs := [_]) rfl ⟨rfl, trivial⟩ rfl ⟨rfl, rfl, ?_⟩
   rw [oneOf_one, V.out]; rfl
 | lst k b ks bs a c h1 h2 h3 hk ih =>
  intro ht
  rw [nd_tot] at ht
  have hb := outB_outs (ks := ks) fun v hv => by obtain ⟨i, hi, rfl⟩ := mem_at hv; exact outR hw (hk i hi)
  have hol := outs_len ks
  refine jE [(0, _)] Tryz.func53 Tryz.ntmps53 fun B hB => ?_
  repeat' (first | (refine run (t := tb) 400 rfl ?_ ?_; (focus (repeat' (first | exact trivial | apply And.intro | omega | (simp only [List.length_append, List.length_cons, List.length_nil, Int.toNat_natCast]; omega))))) | (refine k_op rfl ?_; (refine jV (g_ldS rfl rfl (by assumption) rfl rfl) ?_)) | (refine k_tt rfl rfl ?_))
  refine k_loop (ι := Nat) (fun i => i ≤ ks.length) (fun i => [(0, Pt b 0), (3, S (91 :: joinB 44 ((V.outs ks).take i))), (4, I i)]) (fun _ => G) (fun i => []) (fun i => ks.length - i) 0 ?_ (by repeat' constructor) rfl sRr (fun i Hi => ?_)
  ·exact Nat.zero_le _
  have hj1 := joinB_len 44 ((V.outs ks).take i)
  have hj2 := lensT_take (V.outs ks) i
  have hj3 : ((V.outs ks).take i).length ≤ ks.length := by rw [List.length_take]; omega
  by_cases hi : i < ks.length
  ·have hti := tot_nth hi
   have cx_out := ih i hi (by omega)
   have hou := outs_get hi
   have hxi : nth bs i = nth bs i := rfl
   have hob := outR hw (hk i hi)
   unfold OutB at hob
   have hst := joinB_step (c := 44) (xs := V.outs ks) (i := i) (by omega)
   rw [hou] at hst
   obtain ⟨kb, ko, kc, e, hs⟩ := h2.expl (by omega)
   simp only [Value.slice.injEq] at e
   obtain ⟨rfl, -, rfl⟩ := e
   by_cases h0 : 0 < i
   ·rw [if_pos h0] at hst
    repeat' (first | (refine run (t := tb) 400 rfl ?_ ?_; (focus (repeat' (first | exact trivial | apply And.intro | omega | (simp only [List.length_append, List.length_cons, List.length_nil, Int.toNat_natCast]; omega))))) | (refine k_op rfl ?_; first | refine jV (g_ldS rfl rfl (by assumption) rfl rfl) ?_ | (refine jV (g_ldR1x rfl rfl (by assumption) ?_ (by assumption) rfl) ?_; (focus ((omega); done))) | refine jV (g_lenL rfl) ?_ | (refine jV (g_iaddrN rfl rfl (by omega)) ?_) | (refine c_rt rfl rfl rfl cx_out rfl ?_)) | (refine k_tt rfl (dTt (by omega)) ?_))
    refine Nx.re (d := 3) (v' := S (91 :: joinB 44 ((V.outs ks).take (i + 1)))) rfl (congrArg (fun l => S l) (by rw [hst]; simp)) ?_
    exact k_rd (i + 1) (by omega) (by omega) (by repeat' constructor) rfl sRr
   ·rw [if_neg h0] at hst
    have hi0 : i = 0 := by omega
    subst hi0
    repeat' (first | (refine run (t := tb) 400 rfl ?_ ?_; (focus (repeat' (first | exact trivial | apply And.intro | omega | (simp only [List.length_append, List.length_cons, List.length_nil, Int.toNat_natCast]; omega))))) | (refine k_op rfl ?_; first | (refine jV (g_ldRFx rfl rfl (by assumption) ?_ (by assumption) rfl rfl) ?_; (focus ((omega); done))) | refine jV (g_ldS rfl rfl (by assumption) rfl rfl) ?_ | refine jV (g_lenL rfl) ?_ | (refine jV (g_iaddrN rfl rfl (by omega)) ?_) | (refine c_rt rfl rfl rfl cx_out rfl ?_)) | (refine k_tt rfl (dTt (by omega)) ?_) | (refine k_ff rfl rfl ?_))
    refine Nx.re (d := 3) (v' := S (91 :: joinB 44 ((V.outs ks).take (0 + 1)))) rfl (congrArg (fun l => S l) (by rw [hst]; rfl)) ?_
    exact k_rd (0 + 1) (by omega) (by omega) (by repeat' constructor) rfl sRr
  ·have hin : i = ks.length := by omega
   subst hin
   repeat' (first | (refine run (t := tb) 400 rfl ?_ ?_; (focus (repeat' (first | exact trivial | apply And.intro | (simp only [List.length_append, List.length_cons, List.length_nil, Int.toNat_natCast]; omega))))) | (refine k_op rfl ?_; first | refine jV (g_ldS rfl rfl (by assumption) rfl rfl) ?_ | refine jV (g_lenL rfl) ?_) | (refine k_ff rfl (dFf (by omega)) ?_))
   refine jZ (vs := [_]) rfl ⟨rfl, trivial⟩ rfl ⟨rfl, rfl, ?_⟩
   rw [oneOf_one, V.out, ← hol, List.take_length]; rfl
 | non k b h1 =>
  intro _
  refine jE [(0, _)] Tryz.func53 Tryz.ntmps53 fun B hB => ?_
  repeat' (first | (refine run (t := tb) 400 rfl ?_ ?_; (focus (repeat' (first | exact trivial | apply And.intro | omega | (simp only [List.length_append, List.length_cons, List.length_nil, Int.toNat_natCast]; omega))))) | (refine k_op rfl ?_; first | refine jV (g_ldS rfl rfl (by assumption) rfl rfl) ?_ | refine jV (g_lenL rfl) ?_) | (refine k_tt rfl rfl ?_) | (refine k_ff rfl rfl ?_))
  refine jZ (vs := [_]) rfl ⟨rfl, trivial⟩ rfl ⟨rfl, rfl, ?_⟩
  rfl
 | opt k b kb b' cc v h0 h1 h2 h3 ih =>
  intro ht
  simp only [nd_tot, V.tots] at ht
  have cx_out := ih (by omega)
  have hob := outR hw h3
  unfold OutB at hob
  refine jE [(0, _)] Tryz.func53 Tryz.ntmps53 fun B hB => ?_
  repeat' (first | (refine run (t := tb) 400 rfl ?_ ?_; (focus (repeat' (first | exact trivial | apply And.intro | omega | (simp only [List.length_append, List.length_cons, List.length_nil, Int.toNat_natCast]; omega))))) | (refine k_op rfl ?_; first | refine jV (g_ldS rfl rfl (by assumption) rfl rfl) ?_ | refine jV (g_lenL rfl) ?_ | (refine jV (g_iaddr rfl rfl (by omega)) ?_) | (refine c_rt rfl rfl rfl cx_out rfl ?_)) | (refine k_tt rfl rfl ?_) | (refine k_ff rfl rfl ?_))
  refine jZ (vs := [_]) rfl ⟨rfl, trivial⟩ rfl ⟨rfl, rfl, ?_⟩
  rw [oneOf_one, V.out]; rfl
 | recd k b t fs bs a a2 c c2 h0 h1 h2 h3 h4 h5 hk ih =>
  intro ht
  obtain ⟨r, rfl⟩ := refT_64 h0.1
  rw [nd_tot] at ht
  have hB1 : ∀ v ∈ fs.map (fun p : Fld × V => V.nd 61 [] p.1.tag [p.2]), OutB v := fun v hv => by
   obtain ⟨p, hp, rfl⟩ := List.mem_map.1 hv
   obtain ⟨i, hi, rfl⟩ := mem_at hp
   exact outB_nd (fun u hu => by simp only [List.mem_singleton] at hu; subst hu; exact outR hw (hk i hi)) (refT_W hw h0.1 (h5 i hi)).1
  have hb := outB_outs hB1
  have hml : (fs.map (fun p : Fld × V => V.nd 61 [] p.1.tag [p.2])).length = fs.length := by simp
  have hol := outs_len (fs.map (fun p : Fld × V => V.nd 61 [] p.1.tag [p.2]))
  have hnt : ∀ i, i < fs.length → nth (fs.map (fun p : Fld × V => V.nd 61 [] p.1.tag [p.2])) i = V.nd 61 [] (nth fs i).1.tag [(nth fs i).2] := fun i hi => by rw [nth_eq (by simpa using hi), nth_eq hi]; simp
  generalize hKS : fs.map (fun p : Fld × V => V.nd 61 [] p.1.tag [p.2]) = KS at *
  have cx_nmd : PuG Tryz.prog 90 [Pt b 0] G (· = S (V.out (.nd 82 [] 0 KS))) := by
   refine jE [(0, _)] Tryz.func90 Tryz.ntmps90 fun B hB => ?_
   repeat' (first | (refine jR ?_) | (refine k_op rfl ?_; (refine jV (g_ldS rfl rfl (by assumption) rfl rfl) ?_)) | (refine k_ff rfl rfl ?_))
   refine k_loop (ι := Nat) (fun i => i ≤ fs.length) (fun i => [(0, Pt b 0), (3, S (123 :: joinB 44 ((V.outs KS).take i))), (4, I i)]) (fun _ => G) (fun i => []) (fun i => fs.length - i) 0 ?_ (by repeat' constructor) rfl sRr (fun i Hi => ?_)
   ·exact Nat.zero_le _
   have hj1 := joinB_len 44 ((V.outs KS).take i)
   have hj2 := lensT_take (V.outs KS) i
   have hj3 : ((V.outs KS).take i).length ≤ fs.length := by rw [List.length_take]; omega
   by_cases hi : i < fs.length
   ·have hti := tot_nth (ks := KS) (i := i) (by omega)
    rw [hnt i hi] at hti
    simp only [nd_tot, V.tots] at hti
    have cx_out := ih i hi (by omega)
    have hou := outs_get (ks := KS) (i := i) (by omega)
    rw [hnt i hi, out_fld] at hou
    have hxi : nth bs i = nth bs i := rfl
    have htg := refT_W hw h0.1 (h5 i hi)
    have hdl := decI_len6' htg.1
    have hob := outR hw (hk i hi)
    unfold OutB at hob
    have hst := joinB_step (c := 44) (xs := V.outs KS) (i := i) (by omega)
    rw [hou] at hst
    have htn : nth (fs.map fun p : Fld × V => p.1.tag) i = (nth fs i).1.tag := by rw [nth_eq (by simpa using hi), nth_eq hi]; simp
    have htl : (fs.map fun p : Fld × V => p.1.tag).length = fs.length := by simp
    obtain ⟨tgb, to, tc, e, hs1⟩ := h2.expl (by omega)
    simp only [Value.slice.injEq] at e
    obtain ⟨rfl, -, rfl⟩ := e
    obtain ⟨kb, ko, kc, e, hs2⟩ := h3.expl (by omega)
    simp only [Value.slice.injEq] at e
    obtain ⟨rfl, -, rfl⟩ := e
    by_cases hp0 : 0 < i
    ·rw [if_pos hp0] at hst
     repeat' (first | (refine run (t := tb) 400 rfl ?_ ?_; (focus (repeat' (first | exact trivial | apply And.intro | omega | (simp only [List.length_append, List.length_cons, List.length_nil, Int.toNat_natCast]; omega))))) | (refine k_op rfl ?_; first | refine jV (g_ldS rfl rfl (by assumption) rfl rfl) ?_ | refine jV (g_lenL rfl) ?_) | (refine k_tt rfl (dTt (by omega)) ?_) | (refine k_any (s_any (id := 12) _ (fun _ h => h) mixed ?_); refine jT 12 [0, 1, 2, 3, 5, 11, 12, 13, 15] (bts 21 47151) ?_; (refine jG (bts 21 47167) 4 rfl (g_ldS rfl rfl (by assumption) rfl rfl) ?_); (refine jG (bts 21 47231) 6 rfl (g_iaddrN rfl rfl (by omega)) ?_); ((refine jG (bts 21 47359) 7 rfl (g_ldR1x rfl rfl (by assumption) ?_ (by assumption) rfl) ?_; (focus ((omega); done)))); (refine jG (bts 21 63743) 14 rfl (g_ldS rfl rfl (by assumption) rfl rfl) ?_); (refine jG (bts 21 129279) 16 rfl (g_iaddrN rfl rfl (by omega)) ?_); ((refine jG (bts 21 260351) 17 rfl (g_ldR1x rfl rfl (by assumption) ?_ (by assumption) rfl) ?_; (focus ((omega); done)))); refine jA 8 rfl ?_; (refine c_rt rfl rfl rfl (c_l6Dec (by omega)) rfl ?_); refine jS (bts 21 260607) ?_; refine jU 3 [9, 10] (bts 21 262143) ?_ ?_; (focus (repeat' (first | exact trivial | apply And.intro | (simp only [List.length_append, List.length_cons, List.length_nil, Int.toNat_natCast]; omega)))); refine jA 18 rfl ?_; (refine c_rt rfl rfl rfl cx_out rfl ?_); refine jS (bts 21 524287) ?_; refine jU 0 [19, 20] (bts 21 2097151) ?_ ?_; (focus (repeat' (first | exact trivial | apply And.intro | (simp only [List.length_append, List.length_cons, List.length_nil, Int.toNat_natCast]; omega)))); refine x_done (by kernel_rfl) (k_bk ?_)))
     all_goals
      refine Nx.re (d := 3) (v' := S (123 :: joinB 44 ((V.outs KS).take (i + 1)))) rfl (congrArg (fun l => S l) (by rw [hst]; simp)) ?_
      exact k_rd (i + 1) (by omega) (by omega) (by repeat' constructor) rfl sRr
    ·rw [if_neg hp0] at hst
     have hi0 : i = 0 := by omega
     subst hi0
     repeat' (first | refine jM ?_ | (refine k_op rfl ?_; first | refine jV (g_ldS rfl rfl (by assumption) rfl rfl) ?_ | refine jV (g_lenL rfl) ?_) | (refine k_tt rfl (dTt (by omega)) ?_) | (refine k_ff rfl rfl ?_) | (refine k_any (s_any (id := 12) _ (fun _ h => h) mixed ?_); refine jT 12 [0, 1, 2, 3, 5, 11, 12, 13, 15] (bts 21 47151) ?_; (refine jG (bts 21 47167) 4 rfl (g_ldS rfl rfl (by assumption) rfl rfl) ?_); (refine jG (bts 21 47231) 6 rfl (g_iaddrN rfl rfl (by omega)) ?_); ((refine jG (bts 21 47359) 7 rfl (g_ldR1x rfl rfl (by assumption) ?_ (by assumption) rfl) ?_; (focus ((omega); done)))); (refine jG (bts 21 63743) 14 rfl (g_ldS rfl rfl (by assumption) rfl rfl) ?_); (refine jG (bts 21 129279) 16 rfl (g_iaddrN rfl rfl (by omega)) ?_); ((refine jG (bts 21 260351) 17 rfl (g_ldRFx rfl rfl (by assumption) ?_ (by assumption) rfl rfl) ?_; (focus ((omega); done)))); refine jA 8 rfl ?_; (refine c_rt rfl rfl rfl (c_l6Dec (by omega)) rfl ?_); refine jS (bts 21 260607) ?_; refine jU 3 [9, 10] (bts 21 262143) ?_ ?_; (focus (repeat' (first | exact trivial | apply And.intro | (simp only [List.length_append, List.length_cons, List.length_nil, Int.toNat_natCast]; omega)))); refine jA 18 rfl ?_; (refine c_rt rfl rfl rfl cx_out rfl ?_); refine jS (bts 21 524287) ?_; refine jU 0 [19, 20] (bts 21 2097151) ?_ ?_; (focus (repeat' (first | exact trivial | apply And.intro | (simp only [List.length_append, List.length_cons, List.length_nil, Int.toNat_natCast]; omega)))); refine x_done (by kernel_rfl) (k_bk ?_)))
     all_goals
      refine Nx.re (d := 3) (v' := S (123 :: joinB 44 ((V.outs KS).take (0 + 1)))) rfl (congrArg (fun l => S l) (by rw [hst]; simp [joinB])) ?_
      exact k_rd (0 + 1) (by omega) (by omega) (by repeat' constructor) rfl sRr
   ·have hin : i = fs.length := by omega
    repeat' (first | (refine run (t := tb) 400 rfl ?_ ?_; (focus (repeat' (first | exact trivial | apply And.intro | (simp only [List.length_append, List.length_cons, List.length_nil, Int.toNat_natCast]; omega))))) | (refine k_op rfl ?_; first | refine jV (g_ldS rfl rfl (by assumption) rfl rfl) ?_ | refine jV (g_lenL rfl) ?_) | (refine k_ff rfl (dFf (by omega)) ?_))
    refine jZ (vs := [_]) rfl ⟨rfl, trivial⟩ rfl ⟨rfl, rfl, ?_⟩
    rw [oneOf_one, V.out, hin, ← hml, ← hol, List.take_length]; rfl
  refine jE [(0, _)] Tryz.func53 Tryz.ntmps53 fun B hB => ?_
  repeat' (first | (refine run (t := tb) 400 rfl ?_ ?_; (focus (repeat' (first | exact trivial | apply And.intro | omega | (simp only [List.length_append, List.length_cons, List.length_nil, Int.toNat_natCast]; omega))))) | (refine k_op rfl ?_; first | refine jV (g_ldS rfl rfl (by assumption) rfl rfl) ?_ | (refine c_rt rfl rfl rfl cx_nmd rfl ?_)) | (refine k_tt rfl rfl ?_) | (refine k_ff rfl rfl ?_))
  refine jZ (vs := [_]) rfl ⟨rfl, trivial⟩ rfl ⟨rfl, rfl, ?_⟩
  rfl
 | enm k b tgb t d h0 h1 h2 h3 =>
  intro _
  obtain ⟨r, rfl⟩ := refT_64 h0.1
  have htg := refT_W hw h0.1 h1
  have hdl := decI_len6' htg.1
  have cx_nmd : PuG Tryz.prog 90 [Pt b 0] G (· = S (V.out (.nd 69 [] d.tag []))) := by
   refine jE [(0, _)] Tryz.func90 Tryz.ntmps90 fun B hB => ?_
   repeat' (first | (refine run (t := tb) 400 rfl ?_ ?_; (focus (repeat' (first | exact trivial | apply And.intro | (simp only [List.length_append, List.length_cons, List.length_nil, Int.toNat_natCast]; omega))))) | (refine k_op rfl ?_; first | refine jV (g_ldS rfl rfl (by assumption) rfl rfl) ?_ | (refine jV (g_iaddr rfl rfl (by omega)) ?_) | (refine c_rt rfl rfl rfl (c_l6Dec (by omega)) rfl ?_)) | (refine k_tt rfl rfl ?_) | (refine k_ff rfl rfl ?_))
   refine jZ (vs := [_]) rfl ⟨rfl, trivial⟩ rfl ⟨rfl, rfl, ?_⟩
   rw [oneOf_one, V.out]; rfl
  refine jE [(0, _)] Tryz.func53 Tryz.ntmps53 fun B hB => ?_
  repeat' (first | (refine run (t := tb) 400 rfl ?_ ?_; (focus (repeat' (first | exact trivial | apply And.intro | omega | (simp only [List.length_append, List.length_cons, List.length_nil, Int.toNat_natCast]; omega))))) | (refine k_op rfl ?_; first | refine jV (g_ldS rfl rfl (by assumption) rfl rfl) ?_ | (refine c_rt rfl rfl rfl cx_nmd rfl ?_)) | (refine k_tt rfl rfl ?_) | (refine k_ff rfl rfl ?_))
  refine jZ (vs := [_]) rfl ⟨rfl, trivial⟩ rfl ⟨rfl, rfl, ?_⟩
  rfl
 | uni k b tgb kb b' cc t d v hcc h0 h1 h2 h3 h4 hk ih =>
  intro ht
  obtain ⟨r, rfl⟩ := refT_64 h0.1
  have htg := refT_W hw h0.1 h1
  have hdl := decI_len6' htg.1
  simp only [nd_tot, V.tots] at ht
  have cx_out := ih (by omega)
  have hob := outR hw hk
  unfold OutB at hob
  have cx_nmd : PuG Tryz.prog 90 [Pt b 0] G (· = S (V.out (.nd 85 [] d.tag [v]))) := by
   refine jE [(0, _)] Tryz.func90 Tryz.ntmps90 fun B hB => ?_
   repeat' (first | (refine jR ?_) | (refine k_op rfl ?_; (refine jV (g_ldS rfl rfl (by assumption) rfl rfl) ?_)) | (refine k_tt rfl rfl ?_) | (refine k_any (s_any (id := 3) _ (fun _ h => h) mixed ?_); refine jT 13 [0, 1, 2, 9, 10, 11] (bts 19 3591) ?_; (refine jG (bts 19 3599) 3 rfl (g_ldS rfl rfl (by assumption) rfl rfl) ?_); (refine jG (bts 19 3615) 4 rfl (g_iaddr rfl rfl (by omega)) ?_); (refine jG (bts 19 3647) 5 rfl (g_ldS rfl rfl (by assumption) rfl rfl) ?_); (refine jG (bts 19 7743) 12 rfl (g_ldS rfl rfl (by assumption) rfl rfl) ?_); (refine jG (bts 19 15935) 13 rfl (g_iaddr rfl rfl (by omega)) ?_); (refine jG (bts 19 32319) 14 rfl (g_ldS rfl rfl (by assumption) rfl rfl) ?_); refine jA 6 rfl ?_; (refine c_rt rfl rfl rfl (c_l6Dec (by omega)) rfl ?_); refine jS (bts 19 32383) ?_; refine jU 4 [7, 8] (bts 19 32767) ?_ ?_; (focus (repeat' (first | exact trivial | apply And.intro | (simp only [List.length_append, List.length_cons, List.length_nil, Int.toNat_natCast]; omega)))); refine jA 15 rfl ?_; (refine c_rt rfl rfl rfl cx_out rfl ?_); refine jS (bts 19 65535) ?_; refine jU 0 [16, 17, 18] (bts 19 524287) ?_ ?_; (focus (repeat' (first | exact trivial | apply And.intro | (simp only [List.length_append, List.length_cons, List.length_nil, Int.toNat_natCast]; omega)))); refine x_done (by kernel_rfl) (k_bk ?_)))
   all_goals refine jZ (vs := [_]) rfl ⟨rfl, trivial⟩ rfl ⟨rfl, rfl, ?_⟩
   all_goals (rw [oneOf_one, V.out]; simp [V.outs, outW, joinB])
  clear cx_out
  refine jE [(0, _)] Tryz.func53 Tryz.ntmps53 fun B hB => ?_
  repeat' (first | (refine run (t := tb) 400 rfl ?_ ?_; (focus (repeat' (first | exact trivial | apply And.intro | omega | (simp only [List.length_append, List.length_cons, List.length_nil, Int.toNat_natCast]; omega))))) | (refine k_op rfl ?_; first | refine jV (g_ldS rfl rfl (by assumption) rfl rfl) ?_ | (refine c_rt rfl rfl rfl cx_nmd rfl ?_)) | (refine k_tt rfl rfl ?_) | (refine k_ff rfl rfl ?_))
  refine jZ (vs := [_]) rfl ⟨rfl, trivial⟩ rfl ⟨rfl, rfl, ?_⟩
  rfl
end Go.E
