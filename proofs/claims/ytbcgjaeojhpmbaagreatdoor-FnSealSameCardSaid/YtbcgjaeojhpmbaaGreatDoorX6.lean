/- Contracts and plain laws that the statement rests on, part 6. Conditions: as each says. -/
import Derived.Test.YtbcgjaeojhpmbaaGreatDoorX5
set_option linter.unusedVariables false
set_option linter.unusedSimpArgs false
namespace Go.E
set_option maxRecDepth 20000
set_option maxHeartbeats 2000000
theorem given_k {s k w : List UInt8} {u : V} (h : givenV s k w = some u) : ∃ ts, schemaOf s = some ts ∧ SchW ts ∧ kindIn ts k = true ∧ OfK ts k u ∧ u.out = w := by
 obtain ⟨ts, h1, h2, h3, _, _⟩ := given_some h
 exact ⟨ts, h1, schemaOf_w h1, h2, valOf_of_k h3, (valOf_out h3).1⟩
theorem given_ts {s k w w' : List UInt8} {u v : V} (h : givenV s k w = some u) (h' : givenV s k w' = some v) : ∃ ts, SchW ts ∧ OfK ts k u ∧ OfK ts k v ∧ u.out = w ∧ v.out = w' := by
 obtain ⟨ts, h1, h2, _, h4, h5⟩ := given_k h
 obtain ⟨ts', g1, _, _, g4, g5⟩ := given_k h'
 rw [h1] at g1
 obtain rfl := Option.some.inj g1
 exact ⟨ts, h2, h4, g4, h5, g5⟩
theorem num_inj : ∀ (k : Nat) {n m : Nat} {a b : List UInt8}, n ≤ k → num n ++ a = num m ++ b → n = m ∧ a = b := by
 intro k
 induction k with
 | zero =>
  intro n m a b hn e
  have : n = 0 := by omega
  subst this
  rw [num_lo (by decide)] at e
  by_cases hm : m < 128
  ·rw [num_lo hm] at e
   simp only [List.cons_append, List.nil_append, List.cons.injEq] at e
   have h1 := u8_val (a := ((0 : Nat) : Int)) (by omega)
   have h2 := u8_val (a := (m : Int)) (by omega)
   rw [e.1] at h1
   exact ⟨by omega, e.2⟩
  ·rw [num_hi hm] at e
   simp only [List.cons_append, List.nil_append, List.cons.injEq] at e
   have h1 := u8_val (a := ((0 : Nat) : Int)) (by omega)
   have h2 := u8_val (a := ((128 + m % 128 : Nat) : Int)) (by omega)
   rw [e.1] at h1
   omega
 | succ k ih =>
  intro n m a b hn e
  by_cases h : n < 128
  ·rw [num_lo h] at e
   have h1 := u8_val (a := (n : Int)) (by omega)
   by_cases hm : m < 128
   ·rw [num_lo hm] at e
    simp only [List.cons_append, List.nil_append, List.cons.injEq] at e
    have h2 := u8_val (a := (m : Int)) (by omega)
    rw [e.1] at h1
    exact ⟨by omega, e.2⟩
   ·rw [num_hi hm] at e
    simp only [List.cons_append, List.nil_append, List.cons.injEq] at e
    have h2 := u8_val (a := ((128 + m % 128 : Nat) : Int)) (by omega)
    rw [e.1] at h1
    omega
  ·rw [num_hi h] at e
   have h1 := u8_val (a := ((128 + n % 128 : Nat) : Int)) (by omega)
   by_cases hm : m < 128
   ·rw [num_lo hm] at e
    simp only [List.cons_append, List.nil_append, List.cons.injEq] at e
    have h2 := u8_val (a := (m : Int)) (by omega)
    rw [e.1] at h1
    omega
   ·rw [num_hi hm] at e
    simp only [List.cons_append, List.cons.injEq] at e
    have h2 := u8_val (a := ((128 + m % 128 : Nat) : Int)) (by omega)
    rw [e.1] at h1
    obtain ⟨h3, h4⟩ := ih (n := n / 128) (m := m / 128) (by omega) e.2
    exact ⟨by omega, h4⟩
theorem numI_inj {n m : Int} {a b : List UInt8} (hn : 0 ≤ n) (hm : 0 ≤ m) (e : numI n ++ a = numI m ++ b) : n = m ∧ a = b := by
 obtain ⟨h1, h2⟩ := num_inj _ (Nat.le_refl _) e
 exact ⟨by omega, h2⟩
theorem numI_head {n : Int} (h : 1 ≤ n) : ∃ c r, numI n = c :: r ∧ c ≠ 0 := by
 unfold numI
 by_cases h1 : n.toNat < 128
 ·rw [num_lo h1]
  refine ⟨_, [], rfl, fun e => ?_⟩
  have h2 := u8_val (a := ((n.toNat : Nat) : Int)) (by omega)
  rw [e] at h2
  have : ((0 : UInt8).toNat : Int) = 0 := rfl
  omega
 ·rw [num_hi h1]
  refine ⟨_, _, rfl, fun e => ?_⟩
  have h2 := u8_val (a := ((128 + n.toNat % 128 : Nat) : Int)) (by omega)
  rw [e] at h2
  have : ((0 : UInt8).toNat : Int) = 0 := rfl
  omega
def BysLaw (u v : V) : Prop := ∀ a b, u.bys ++ a = v.bys ++ b → u = v ∧ a = b
theorem bys_lst : ∀ {ks us : List V}, ks.length = us.length → (∀ v ∈ ks, ∀ u ∈ us, BysLaw v u) → ∀ a b, (V.byss ks).flatten ++ a = (V.byss us).flatten ++ b → ks = us ∧ a = b
 | [], [], _, _, a, b, e => ⟨rfl, by simpa [V.byss] using e⟩
 | v :: ks, u :: us, hl, h, a, b, e => by
  simp only [V.byss, List.flatten_cons, List.append_assoc] at e
  obtain ⟨h1, h2⟩ := h v (by simp) u (by simp) _ _ e
  obtain ⟨h3, h4⟩ := bys_lst (ks := ks) (us := us) (by simpa using hl) (fun x hx y hy => h x (by simp [hx]) y (by simp [hy])) a b h2
  exact ⟨by rw [h1, h3], h4⟩
theorem bys_fld {t : Int} {v : V} : V.bys (.nd 61 [] t [v]) = numI t ++ (numI (v.bys.length : Nat) ++ v.bys) := by rw [V.bys]; simp [bysW, V.byss]
theorem bys_tg {t t' : Int} {v u : V} (ht : 0 ≤ t) (ht' : 0 ≤ t') (h : t = t' → BysLaw v u) {a b : List UInt8} (e : (numI t ++ (numI (v.bys.length : Nat) ++ v.bys)) ++ a = (numI t' ++ (numI (u.bys.length : Nat) ++ u.bys)) ++ b) : t = t' ∧ v = u ∧ a = b := by
 simp only [List.append_assoc] at e
 obtain ⟨h1, h2⟩ := numI_inj ht ht' e
 obtain ⟨_, h3⟩ := numI_inj (by omega) (by omega) h2
 obtain ⟨h4, h5⟩ := h h1 _ _ h3
 exact ⟨h1, h4, h5⟩
theorem bys_rec : ∀ {ks us : List V}, (∀ v ∈ ks, ∀ u ∈ us, BysLaw v u) → (∀ v ∈ ks, ∃ c r, v.bys = c :: r ∧ c ≠ 0) → (∀ v ∈ us, ∃ c r, v.bys = c :: r ∧ c ≠ 0) → ∀ a b, (V.byss ks).flatten ++ 0 :: a = (V.byss us).flatten ++ 0 :: b → ks = us ∧ a = b
 | [], [], _, _, _, a, b, e => ⟨rfl, by simpa [V.byss] using e⟩
 | [], u :: us, _, _, h, a, b, e => by
  obtain ⟨c, r, h1, h2⟩ := h u (by simp)
  simp only [V.byss, List.flatten_nil, List.flatten_cons, List.nil_append, h1, List.cons_append, List.append_assoc, List.cons.injEq] at e
  exact absurd e.1.symm h2
 | v :: ks, [], _, h, _, a, b, e => by
  obtain ⟨c, r, h1, h2⟩ := h v (by simp)
  simp only [V.byss, List.flatten_nil, List.flatten_cons, List.nil_append, h1, List.cons_append, List.append_assoc, List.cons.injEq] at e
  exact absurd e.1 h2
 | v :: ks, u :: us, h, hk, hu, a, b, e => by
  simp only [V.byss, List.flatten_cons, List.append_assoc] at e
  obtain ⟨h1, h2⟩ := h v (by simp) u (by simp) _ _ e
  obtain ⟨h3, h4⟩ := bys_rec (ks := ks) (us := us) (fun x hx y hy => h x (by simp [hx]) y (by simp [hy])) (fun x hx => hk x (by simp [hx])) (fun x hx => hu x (by simp [hx])) a b h2
  exact ⟨by rw [h1, h3], h4⟩
theorem ofK_bys {ts : List Ty} (hw : SchW ts) {k : List UInt8} {u : V} (h : OfK ts k u) : ∀ {v : V}, OfK ts k v → BysLaw u v := by
 induction h with
 | num k n h1 h2 =>
  intro v hv
  rcases ofK_inv_c hv (by decide) with ⟨_, m, h3, h4, rfl⟩ | ⟨h, _⟩ | ⟨h, _⟩ | ⟨h, _⟩ | ⟨h, _⟩
  ·have ek : ∀ {n : Int}, 0 ≤ n → n ≤ 999999 → V.bys (.nd 110 (decI n) 0 []) = numI n := fun g1 g2 => by rw [V.bys]; simp [bysW, numOf_decI g1 g2 (by decide)]
   intro a b e
   rw [ek h1 h2, ek h3 h4] at e
   obtain ⟨g1, g2⟩ := numI_inj h1 h3 e
   exact ⟨by rw [g1], g2⟩
  all_goals cases h
 | txt k x h1 =>
  intro v hv
  rcases ofK_inv_c hv (by decide) with ⟨h, _⟩ | ⟨_, y, h2, rfl⟩ | ⟨h, _⟩ | ⟨h, _⟩ | ⟨h, _⟩
  ·cases h
  ·have ek : ∀ x : List UInt8, V.bys (.nd 116 x 0 []) = numI (x.length : Nat) ++ x := fun x => by rw [V.bys]; rfl
   intro a b e
   rw [ek, ek, List.append_assoc, List.append_assoc] at e
   obtain ⟨g1, g2⟩ := numI_inj (by omega) (by omega) e
   obtain ⟨g3, g4⟩ := List.append_inj g2 (by omega)
   exact ⟨by rw [g3], g4⟩
  all_goals cases h
 | flg k x h1 =>
  intro v hv
  rcases ofK_inv_c hv (by decide) with ⟨h, _⟩ | ⟨h, _⟩ | ⟨_, y, h2, rfl⟩ | ⟨h, _⟩ | ⟨h, _⟩
  ·cases h
  ·cases h
  ·have e1 : V.bys (.nd 102 [121, 101, 115] 0 []) = [1] := by rw [V.bys]; rfl
   have e2 : V.bys (.nd 102 [110, 111] 0 []) = [0] := by rw [V.bys]; rfl
   intro a b e
   rcases h1 with rfl | rfl <;> rcases h2 with rfl | rfl
   ·exact ⟨rfl, List.append_cancel_left e⟩
   ·rw [e1, e2] at e; simp at e
   ·rw [e1, e2] at e; simp at e
   ·exact ⟨rfl, List.append_cancel_left e⟩
  all_goals cases h
 | lst k ks h1 h2 ih =>
  intro v hv
  rcases ofK_inv_c hv (by decide) with ⟨h, _⟩ | ⟨h, _⟩ | ⟨h, _⟩ | ⟨_, us, _, h4, rfl⟩ | ⟨h, _⟩
  ·cases h
  ·cases h
  ·cases h
  ·have ek : ∀ ks : List V, V.bys (.nd 91 [] 0 ks) = numI (ks.length : Nat) ++ (V.byss ks).flatten := fun ks => by rw [V.bys]; rfl
   intro a b e
   rw [ek, ek, List.append_assoc, List.append_assoc] at e
   obtain ⟨g1, g2⟩ := numI_inj (by omega) (by omega) e
   obtain ⟨g3, g4⟩ := bys_lst (ks := ks) (us := us) (by omega) (fun x hx y hy => ih x hx (h4 y hy)) a b g2
   exact ⟨by rw [g3], g4⟩
  ·cases h
 | non k =>
  intro v hv
  have e0 : V.bys (.nd 63 [] 0 []) = [0] := by rw [V.bys]; rfl
  rcases ofK_inv_c hv (by decide) with ⟨h, _⟩ | ⟨h, _⟩ | ⟨h, _⟩ | ⟨h, _⟩ | ⟨_, rfl | ⟨v, _, rfl⟩⟩
  ·cases h
  ·cases h
  ·cases h
  ·cases h
  ·exact fun a b e => ⟨rfl, List.append_cancel_left e⟩
  ·intro a b e
   have e1 : V.bys (.nd 63 [] 0 [v]) = 1 :: v.bys := by rw [V.bys]; simp [bysW, V.byss]
   rw [e0, e1] at e; simp at e
 | opt k u h1 ih =>
  intro v hv
  have e0 : V.bys (.nd 63 [] 0 []) = [0] := by rw [V.bys]; rfl
  have e1 : ∀ v : V, V.bys (.nd 63 [] 0 [v]) = 1 :: v.bys := fun v => by rw [V.bys]; simp [bysW, V.byss]
  rcases ofK_inv_c hv (by decide) with ⟨h, _⟩ | ⟨h, _⟩ | ⟨h, _⟩ | ⟨h, _⟩ | ⟨_, rfl | ⟨v, h2, rfl⟩⟩
  ·cases h
  ·cases h
  ·cases h
  ·cases h
  ·intro a b e
   rw [e0, e1] at e; simp at e
  ·intro a b e
   rw [e1, e1] at e
   simp only [List.cons_append, List.cons.injEq, true_and] at e
   obtain ⟨g1, g2⟩ := ih h2 a b e
   exact ⟨by rw [g1], g2⟩
 | recd k t fs h1 h2 h3 h4 h5 h6 ih =>
  intro v hv
  rcases ofK_inv_t hv h1 with ⟨_, gs, rfl, g3, g4, _, _⟩ | ⟨h, _⟩ | ⟨h, _⟩
  ·have htw := hw.ty t (refT_mem h1)
   have hh : ∀ {fs : List (Fld × V)}, (∀ p ∈ fs, p.1 ∈ t.fields) → ∀ v ∈ fs.map fldV, ∃ c r, v.bys = c :: r ∧ c ≠ 0 := fun h v hv => by
    obtain ⟨p, hp, rfl⟩ := List.mem_map.1 hv
    obtain ⟨c, r, e1, e2⟩ := numI_head (htw.fld _ (h p hp)).tag.1
    exact ⟨c, _, by rw [bys_fld, e1]; rfl, e2⟩
   have ek : ∀ ks : List V, V.bys (.nd 82 [] 0 ks) = (V.byss ks).flatten ++ [0] := fun ks => by rw [V.bys]; rfl
   intro a b e
   rw [ek, ek, List.append_assoc, List.append_assoc] at e
   obtain ⟨g5, g6⟩ := bys_rec (ks := fs.map fldV) (us := gs.map fldV) (fun x hx y hy => by
    obtain ⟨p, hp, rfl⟩ := List.mem_map.1 hx
    obtain ⟨q, hq, rfl⟩ := List.mem_map.1 hy
    have i1 := (htw.fld _ (h3 p hp)).tag
    have i2 := (htw.fld _ (g3 q hq)).tag
    intro a b e
    rw [bys_fld, bys_fld] at e
    obtain ⟨j1, j2, j3⟩ := bys_tg (by omega) (by omega) (fun he => ih p hp (by rw [fld_tag htw (h3 p hp) (g3 q hq) he]; exact g4 q hq)) e
    exact ⟨by show V.nd 61 [] p.1.tag [p.2] = V.nd 61 [] q.1.tag [q.2]; rw [j1, j2], j3⟩) (hh h3) (hh g3) a b e
   exact ⟨by rw [g5], g6⟩
  ·omega
  ·omega
 | enm k t d h1 h2 h3 =>
  intro v hv
  rcases ofK_inv_t hv h1 with ⟨h, _⟩ | ⟨_, d', rfl, g3⟩ | ⟨_, h, _⟩
  ·omega
  ·have htw := hw.ty t (refT_mem h1)
   have i1 := (htw.fld _ h3).tag
   have i2 := (htw.fld _ g3).tag
   have ek : ∀ t : Int, V.bys (.nd 69 [] t []) = numI t := fun t => by rw [V.bys]; rfl
   intro a b e
   rw [ek, ek] at e
   obtain ⟨g1, g2⟩ := numI_inj (by omega) (by omega) e
   exact ⟨by rw [g1], g2⟩
  ·omega
 | uni k t d u h1 h2 h3 h4 h5 ih =>
  intro v hv
  rcases ofK_inv_t hv h1 with ⟨h, _⟩ | ⟨h, _⟩ | ⟨_, _, d', v', rfl, g4, g5⟩
  ·omega
  ·omega
  ·have htw := hw.ty t (refT_mem h1)
   have i1 := (htw.fld _ h4).tag
   have i2 := (htw.fld _ g4).tag
   have ek : ∀ (t : Int) (v : V), V.bys (.nd 85 [] t [v]) = numI t ++ (numI (v.bys.length : Nat) ++ v.bys) := fun t v => by rw [V.bys]; simp [bysW, V.byss]
   intro a b e
   rw [ek, ek] at e
   obtain ⟨j1, j2, j3⟩ := bys_tg (by omega) (by omega) (fun he => ih (by rw [fld_tag htw h4 g4 he]; exact g5)) e
   exact ⟨by rw [j1, j2], j3⟩
theorem bys_inj {ts : List Ty} (hw : SchW ts) {k : List UInt8} {u v : V} (hu : OfK ts k u) (hv : OfK ts k v) (e : u.bys = v.bys) : u = v := (ofK_bys hw hu hv [] [] (by rw [e])).1
theorem same_iff (s k w t : List UInt8) : sameB s k w t = ((bysPut s k w).isSome && (bysPut s k t).isSome && decide (w = t)) := by
 unfold sameB
 cases h1 : bysPut s k w with
 | none => rfl
 | some a =>
  cases h2 : bysPut s k t with
  | none => rfl
  | some b =>
   show decide (a = b) = decide (w = t)
   by_cases e : w = t
   ·subst e
    rw [h1] at h2
    rw [decide_eq_true (Option.some.inj h2), decide_eq_true rfl]
   ·rw [decide_eq_false e]
    refine decide_eq_false fun hab => e ?_
    subst hab
    unfold bysPut at h1 h2
    cases hu : givenV s k w with
    | none => rw [hu] at h1; cases h1
    | some u =>
     cases hv : givenV s k t with
     | none => rw [hv] at h2; cases h2
     | some v =>
      rw [hu] at h1; rw [hv] at h2
      dsimp only at h1 h2
      split at h1
      ·split at h2
       ·simp only [Option.some.injEq] at h1 h2
        obtain ⟨ts, g1, g2, g3, g4, g5⟩ := given_ts hu hv
        rw [← g4, ← g5, bys_inj g1 g2 g3 (by rw [h1, h2])]
       ·cases h2
      ·cases h1
end Go.E
namespace Go.E
set_option maxRecDepth 20000
set_option maxHeartbeats 2000000
open Go.Proofs
variable {G : Gh}
theorem c_DrawSealSame {v : Value} {l : List UInt8} (hs : SlV G v 1 l.length (u8s l)) : PuG Tryz.prog 20 [v] G (fun r => ∃ s k x y, r = Tu [S s, S k, S x, S y] ∧ s.length ≤ 1048576 ∧ k.length ≤ 1048576 ∧ x.length ≤ 1048576 ∧ y.length ≤ 1048576) := by
 refine jE [(0, _)] Tryz.func20 Tryz.ntmps20 fun B hB => ?_
 repeat' (first | (refine jR ?_) | (refine k_op rfl ?_; first | (refine c_fng rfl rfl rfl (c_l6Open (by (repeat (assumption)); done)) rfl ?_; rintro _ _ ⟨b, code, l, rfl, rfl, hcd, hcl⟩; dsimp only [zA, fA]) | (refine c_m1g rfl rfl rfl (c_l91Schema ?_ (by (repeat (assumption)); done)) rfl ?_; (focus ((omega); done)); rintro _ _ ⟨sc, q1, rfl, hsc, rfl, hq1, hq2⟩; dsimp only [zA, fA]) | (refine c_m1g rfl rfl rfl (c_l91Some ?_ (by (repeat (assumption)); done) ?_) rfl ?_; (focus ((omega); done)); (focus ((omega); done)); rintro _ _ ⟨kd, q1, rfl, hkd, rfl, hq1, hq2⟩; dsimp only [zA, fA]) | (refine c_m1g rfl rfl rfl (c_l91Of ?_ (by (repeat (assumption)); done) ?_ ?_) rfl ?_; (focus ((omega); done)); (focus ((omega); done)); (focus ((omega); done)); rintro _ _ ⟨tx, q1, rfl, htx, rfl, hq1, hq2⟩; dsimp only [zA, fA])))
 exact jZ (vs := [_, _, _, _]) rfl ⟨rfl, rfl, rfl, rfl, trivial⟩ rfl ⟨rfl, rfl, _, _, _, _, rfl, by omega, by omega, by omega, by omega⟩
theorem c_FnSealSame {v : Value} {l : List UInt8} (hs : SlV G v 1 l.length (u8s l)) : PuG Tryz.prog 7 [v] G (· = Bo true) := by
 obtain ⟨a, cap, rfl⟩ := hs.sl
 refine jE [(0, _)] Tryz.func7 Tryz.ntmps7 fun B hB => ?_
 repeat' (first | (refine jR ?_) | (refine k_op rfl ?_; first | refine jV (g_lenL rfl) ?_ | (refine c_pu rfl rfl rfl (c_DrawSealSame (by (repeat (assumption)); done)) rfl ?_; rintro _ ⟨s1, k1, x1, y1, rfl, hsz⟩)) | refine k_if rfl (fun _ => ?_) (fun _ => ?_))
 ·refine jZ (vs := [_]) rfl ⟨rfl, trivial⟩ rfl ⟨rfl, rfl, ?_⟩
  rfl
 have cx_ss1 := c_SealSameI (G := G) hsz
 have cx_ss2 := c_SealSameS (G := G) hsz
 have cx_bp1 := c_BytesPutI (G := G) (s := s1) (k := k1) (w := x1) ⟨hsz.1, hsz.2.1, hsz.2.2.1⟩
 have cx_bp2 := c_BytesPutI (G := G) (s := s1) (k := k1) (w := y1) ⟨hsz.1, hsz.2.1, hsz.2.2.2⟩
 rw [same_iff] at cx_ss1 cx_ss2
 by_cases he : x1 = y1
 ·subst he
  cases h1 : bysPut s1 k1 x1
  all_goals
   rw [h1] at cx_ss1 cx_ss2 cx_bp1 cx_bp2
   simp only [Option.getD_none, Option.getD_some, Option.isSome_none, Option.isSome_some, decide_true, Bool.and_true, Bool.and_false] at cx_ss1 cx_ss2 cx_bp1 cx_bp2
   repeat' (first | (refine jR ?_) | (refine k_op rfl ?_; first | (refine jV (g_pickT rfl rfl rfl) ?_) | (refine jV (g_pickF rfl rfl rfl) ?_) | (refine c_rt rfl rfl rfl cx_ss1 rfl ?_) | (refine c_rt rfl rfl rfl cx_ss2 rfl ?_) | (refine c_rt rfl rfl rfl cx_bp1 rfl ?_)) | (refine k_gt rfl rfl rfl ?_) | (refine k_gf rfl rfl rfl ?_) | (refine k_ff rfl rfl ?_))
   all_goals refine jZ (vs := [_]) rfl ⟨rfl, trivial⟩ rfl ⟨rfl, rfl, ?_⟩
   all_goals (first | rfl | exact congrArg Value.bool (decide_eq_true (decide_eq_true rfl).symm))
 ·rw [decide_eq_false he, Bool.and_false] at cx_ss1 cx_ss2
  cases h1 : bysPut s1 k1 x1 <;> cases h2 : bysPut s1 k1 y1
  all_goals
   rw [h1] at cx_bp1
   rw [h2] at cx_bp2
   simp only [Option.getD_none, Option.getD_some, Option.isSome_none, Option.isSome_some] at cx_bp1 cx_bp2
   repeat' (first | (refine jR ?_) | (refine k_op rfl ?_; first | (refine jV (g_pickT rfl rfl rfl) ?_) | (refine jV (g_pickF rfl rfl rfl) ?_) | (refine c_rt rfl rfl rfl cx_ss1 rfl ?_) | (refine c_rt rfl rfl rfl cx_ss2 rfl ?_) | (refine c_rt rfl rfl rfl cx_bp1 rfl ?_) | (refine c_rt rfl rfl rfl cx_bp2 rfl ?_)) | (refine k_gt rfl rfl rfl ?_) | (refine k_gf rfl rfl rfl ?_) | (refine k_ff rfl rfl ?_))
   all_goals refine jZ (vs := [_]) rfl ⟨rfl, trivial⟩ rfl ⟨rfl, rfl, ?_⟩
   all_goals (first | rfl | exact congrArg Value.bool (decide_eq_true (decide_eq_false he).symm))
end Go.E
