/- Contracts and plain laws that the statement rests on, part 4. Conditions: as each says. -/
import Derived.Test.YtaafndolbdancabDoorQ3
set_option linter.unusedVariables false
set_option linter.unusedSimpArgs false
namespace Go.E
set_option maxRecDepth 20000
set_option maxHeartbeats 2000000
open Go.Proofs
variable {G : Gh}
abbrev tKd : TypeId := 38
theorem bs_core {k : List UInt8} (hr : refN (core k) = none) : bs k = core k := by
 unfold bs
 cases hc : core k with
 | nil => rfl
 | cons c r =>
  rw [hc] at hr
  have h64 : ¬ c.toNat = 64 := by intro h64; simp [refN, h64] at hr
  simp [bsT, h64]
theorem refT_nm {ts : List Ty} {k : List UInt8} {t : Ty} (h : refT ts (core k) = some t) : findT ts (nm k) = some t := by
 unfold refT at h
 unfold nm
 cases hc : refN (core k) with
 | none => rw [hc] at h; cases h
 | some x => rw [hc] at h; exact h
theorem findQ_pt {qs : List TyP} {x : List UInt8} {t : Ty} (h : findT (tyq qs) x = some t) : ∃ p, (p, t) ∈ qs ∧ kvF (kvsOf qs) x = some (Pt p 0) := by
 have hkv := kvF_find qs x
 rw [← findQ_ty] at h
 rcases hq : findQ qs x with _ | ⟨p, t'⟩
 ·rw [hq] at h; cases h
 ·rw [hq] at h hkv
  obtain rfl := Option.some.inj h
  exact ⟨p, findQ_mem hq, hkv⟩
theorem c_kindsI {eb mb ba bb : Nat} {qs rs : List TyP} (hE : Seg G eb 0 [Pt ba 0, Pt bb 0, .map (some mb)]) (h1 : ScI G ba qs) (h2 : ScI G bb rs) (w1 : SchW (tyq qs)) (w2 : SchW (tyq rs)) : ∀ n, KindsI G eb mb (tyq qs) (tyq rs) n := by
 intro n
 induction n with
 | zero => intro k1 k2 m hm hf; have := hm.len; omega
 | succ n ih =>
  intro k1 k2 m hm hf hk1 hk2
  obtain ⟨ua, ma, ga1, ga2, ga3⟩ := h1.at'
  obtain ⟨ub, mb2, gb1, gb2, gb3⟩ := h2.at'
  have at1 := bs_at (kindIn_ok hk1)
  have at2 := bs_at (kindIn_ok hk2)
  unfold evoK
  by_cases hs : sg k1 = sg k2
  case neg =>
   rw [if_pos hs]
   refine jH [(0, _), (1, _), (2, _)] Tryd.func51 Tryd.ntmps51 fun B hB hW => ?_
   repeat' (first | (refine jR ?_) | (refine k_op rfl ?_; first | refine c_bx rfl rfl rfl fun _ => ?_ | refine jV (g_ld rfl rfl rfl) ?_ | (refine jV (g_pickT rfl rfl rfl) ?_)) | (refine k_gt rfl rfl (dTt ‹_›) ?_) | (refine k_tt rfl rfl ?_))
   all_goals exact k_rr (vs := [_]) (L' := [.blk mb (mapP m)]) rfl ⟨rfl, trivial⟩ rfl (by repeat (first | exact List.Sublist.refl _ | apply List.Sublist.cons)) ⟨rfl, rfl, rfl⟩
  rw [if_neg (by simp [hs])]
  have hs2 : ¬ sg k1 ≠ sg k2 := fun h => h hs
  have hno : ∀ {k : List UInt8} {ts : List Ty}, kindIn ts k = true → refT ts (core k) = none → bs k = core k ∧ ¬ bs k = [64] := fun hk hr => by
   have hn := kind_none hk hr
   refine ⟨bs_core hn, fun e => ?_⟩
   have := (bs_at (kindIn_ok hk)).1 e
   rw [hn] at this; cases this
  cases r1 : refT (tyq qs) (core k1) with
  | none =>
   obtain ⟨e1, e3⟩ := hno hk1 r1
   dsimp only
   by_cases hcc : core k1 = core k2
   ·have hn1 := kind_none hk1 r1
    have e2 : bs k2 = core k2 := bs_core (by rw [← hcc]; exact hn1)
    have hbb : ¬ bs k1 ≠ bs k2 := fun h => h (by rw [e1, e2, hcc])
    have hbb2 : bs k1 = bs k2 := by rw [e1, e2, hcc]
    rw [decide_eq_true hcc]
    clear e1 e2
    refine jH [(0, _), (1, _), (2, _)] Tryd.func51 Tryd.ntmps51 fun B hB hW => ?_
    repeat' (first | (refine jR ?_) | (refine k_op rfl ?_; first | refine c_bx rfl rfl rfl fun _ => ?_ | refine jV (g_ld rfl rfl rfl) ?_ | (refine jV (g_pickF rfl rfl rfl) ?_)) | (refine k_gf rfl rfl (dFf ‹_›) ?_) | (refine k_ff rfl (dFf ‹_›) ?_) | (refine k_any (s_any (id := 3) _ (fun _ h => h) mixed ?_); refine jT 27 [0] (bts 28 1) ?_; (refine jG (bts 28 3) 1 rfl (g_ld rfl rfl rfl) ?_); refine jT 24 [2, 3] (bts 28 15) ?_; (try (refine Nx.re (d := 22) (v' := Bo true) rfl (congrArg Value.bool (dTt ‹_›)) ?_)); refine jT 15 [4, 5, 6, 7, 12, 15, 16, 17, 22] (bts 28 4428031) ?_; (refine jN (bts 28 4428287) 8 rfl ?_); refine jT 12 [9, 10] (bts 28 4429823) ?_; (refine jN (bts 28 4431871) 11 rfl ?_); (refine jN (bts 28 4440063) 13 rfl ?_); (refine jN (bts 28 4456447) 14 rfl ?_); (refine jN (bts 28 4718591) 18 rfl ?_); refine jT 6 [19, 20] (bts 28 6291455) ?_; (refine jN (bts 28 8388607) 21 rfl ?_); (refine jN (bts 28 16777215) 23 rfl ?_); (refine jN (bts 28 33554431) 24 rfl ?_); (refine jN (bts 28 67108863) 25 rfl ?_); (refine jG (bts 28 134217727) 26 rfl (g_pickT rfl rfl rfl) ?_); refine jT 0 [27] (bts 28 268435455) ?_; refine x_done (by kernel_rfl) (k_bk ?_)))
    all_goals exact k_rr (vs := [_]) (L' := [.blk mb (mapP m)]) rfl ⟨rfl, trivial⟩ rfl (by repeat (first | exact List.Sublist.refl _ | apply List.Sublist.cons)) ⟨rfl, rfl, rfl⟩
   ·have hbb : bs k1 ≠ bs k2 := fun h => by
     cases r2 : refT (tyq rs) (core k2) with
     | none => have e4 := (hno hk2 r2).1; rw [e1, e4] at h; exact hcc h
     | some u => rw [at2.2 (refT_refN r2)] at h; exact e3 h
    rw [decide_eq_false hcc]
    clear e1
    refine jH [(0, _), (1, _), (2, _)] Tryd.func51 Tryd.ntmps51 fun B hB hW => ?_
    repeat' (first | (refine jR ?_) | (refine k_op rfl ?_; first | refine c_bx rfl rfl rfl fun _ => ?_ | refine jV (g_ld rfl rfl rfl) ?_ | (refine jV (g_pickF rfl rfl rfl) ?_)) | (refine k_gf rfl rfl (dFf ‹_›) ?_) | (refine k_tt rfl (dTt ‹_›) ?_))
    all_goals exact k_rr (vs := [_]) (L' := [.blk mb (mapP m)]) rfl ⟨rfl, trivial⟩ rfl (by repeat (first | exact List.Sublist.refl _ | apply List.Sublist.cons)) ⟨rfl, rfl, rfl⟩
  | some t =>
   have b1 : bs k1 = [64] := at1.2 (refT_refN r1)
   cases r2 : refT (tyq rs) (core k2) with
   | none =>
    obtain ⟨e1, e3⟩ := hno hk2 r2
    have hbb : bs k1 ≠ bs k2 := fun h => e3 (by rw [← h, b1])
    have hcc : ¬ core k1 = core k2 := fun e => by have := refT_refN r1; rw [e, kind_none hk2 r2] at this; cases this
    dsimp only
    rw [decide_eq_false hcc]
    clear e1 e3 b1
    refine jH [(0, _), (1, _), (2, _)] Tryd.func51 Tryd.ntmps51 fun B hB hW => ?_
    repeat' (first | (refine jR ?_) | (refine k_op rfl ?_; first | refine c_bx rfl rfl rfl fun _ => ?_ | refine jV (g_ld rfl rfl rfl) ?_ | (refine jV (g_pickF rfl rfl rfl) ?_)) | (refine k_gf rfl rfl (dFf ‹_›) ?_) | (refine k_tt rfl (dTt ‹_›) ?_))
    all_goals exact k_rr (vs := [_]) (L' := [.blk mb (mapP m)]) rfl ⟨rfl, trivial⟩ rfl (by repeat (first | exact List.Sublist.refl _ | apply List.Sublist.cons)) ⟨rfl, rfl, rfl⟩
   | some u =>
    have b2 : bs k2 = [64] := at2.2 (refT_refN r2)
    obtain ⟨p1, hq1, kv1⟩ := findQ_pt (refT_nm r1)
    obtain ⟨p2, hq2, kv2⟩ := findQ_pt (refT_nm r2)
    dsimp only
    have cx_t0 := c_typesI hE h1 h2 w1 w2 ih hq1 hq2 hm hf
    generalize evoP (tyq qs) (tyq rs) (evoK (tyq qs) (tyq rs) n) t u m = r at cx_t0
    have cx_ts : FnG Tryd.prog 65 [Pt eb 0, Pt p1 0, Pt p2 0] G [.blk mb (mapP m)] (fun v L' => v = Bo r.1 ∧ L' = [.blk mb (mapP r.2)]) := cx_t0
    rw [b1, b2]
    refine jH [(0, _), (1, _), (2, _)] Tryd.func51 Tryd.ntmps51 fun B hB hW => ?_
    repeat' (first | (refine jR ?_) | (refine k_op rfl ?_; first | refine c_bx rfl rfl rfl fun _ => ?_ | refine jV (g_ld rfl rfl rfl) ?_ | (refine jV (g_pickF rfl rfl rfl) ?_)) | (refine k_gf rfl rfl (dFf ‹_›) ?_) | (refine k_ff rfl rfl ?_))
    rename_i x4 x5
    (refine k_any (s_any (id := 3) [.blk x5 (.cells (List.toArray [S (sg k2), S [64], S (nm k2)]) tKd (0, 0)), .blk x4 (.cells (List.toArray [S (sg k1), S [64], S (nm k1)]) tKd (0, 0))] (by intro y hy; simp only [List.mem_cons, List.not_mem_nil, or_false] at hy ⊢; rcases hy with hy | hy <;> simp [hy]) mixed ?_); refine jU 27 [0] (bts 28 1) ?_ ?_; (focus (repeat' (exact trivial))); (refine jG (bts 28 3) 1 rfl (g_ld rfl rfl rfl) ?_); refine jU 24 [2, 3] (bts 28 15) ?_ ?_; (focus (repeat' (exact trivial))); (try (refine Nx.re (d := 22) (v' := Bo false) rfl (congrArg Value.bool rfl) ?_)); refine jU 15 [4, 5, 6, 7, 12, 15, 16, 17, 22] (bts 28 4428031) ?_ ?_; (focus (repeat' (exact trivial))); (refine jG (bts 28 4428287) 8 rfl (g_ldS rfl rfl (by assumption) rfl rfl) ?_); refine jU 12 [9, 10] (bts 28 4429823) ?_ ?_; (focus (repeat' (exact trivial))); (refine jG (bts 28 4431871) 11 rfl (g_ldS rfl rfl (by assumption) rfl rfl) ?_); (refine jG (bts 28 4440063) 13 rfl (g_ld rfl rfl rfl) ?_); ((refine jG (bts 28 4456447) 14 rfl (g_lookupX rfl rfl (map_G (by assumption)) (by assumption) rfl) ?_)); (refine jG (bts 28 4718591) 18 rfl (g_ldS rfl rfl (by assumption) rfl rfl) ?_); refine jU 6 [19, 20] (bts 28 6291455) ?_ ?_; (focus (repeat' (exact trivial))); (refine jG (bts 28 8388607) 21 rfl (g_ldS rfl rfl (by assumption) rfl rfl) ?_); (refine jG (bts 28 16777215) 23 rfl (g_ld rfl rfl rfl) ?_); ((refine jG (bts 28 33554431) 24 rfl (g_lookupX rfl rfl (map_G (by assumption)) (by assumption) rfl) ?_)); (refine jA 25 rfl ?_; (refine c_mapg rfl rfl rfl cx_ts rfl ?_; rintro _ _ ⟨rfl, rfl⟩; dsimp only [zA, fA]); refine jS (bts 28 67108863) ?_); (refine jG (bts 28 134217727) 26 rfl (g_pickF rfl rfl rfl) ?_); refine jT 0 [27] (bts 28 268435455) ?_; refine x_done (by kernel_rfl) (k_bk ?_))
    repeat' (refine jR ?_)
    all_goals exact k_rr (vs := [_]) (L' := [.blk mb (mapP r.2)]) rfl ⟨rfl, trivial⟩ rfl (by repeat (first | exact List.nil_sublist _ | apply List.Sublist.cons_cons)) ⟨rfl, rfl, rfl⟩
theorem evReads_no {s k r l : List UInt8} (h : kindS s k = false ∨ kindS r l = false) : evReads s k r l = false := by
 unfold evReads
 unfold kindS at h
 cases h1 : schemaOf s with
 | none => rfl
 | some ts =>
  cases h2 : schemaOf r with
  | none => rfl
  | some us =>
   rw [h1, h2] at h
   dsimp only at h ⊢
   rcases h with h | h <;> rw [h] <;> simp
theorem kindS_some {s k : List UInt8} (h : kindS s k = true) : ∃ ts, schemaOf s = some ts ∧ kindIn ts k = true ∧ SchW ts := by
 unfold kindS at h
 cases h1 : schemaOf s with
 | none => rw [h1] at h; cases h
 | some ts => rw [h1] at h; exact ⟨ts, rfl, h, schemaOf_w h1⟩
theorem evReads_yes {s k r l : List UInt8} {ts us : List Ty} (h1 : schemaOf s = some ts) (h2 : schemaOf r = some us) (k1 : kindIn ts k = true) (k2 : kindIn us l = true) : evReads s k r l = (evoK ts us (ts.length * us.length + 1) k l []).1 := by
 unfold evReads; rw [h1, h2]; dsimp only; rw [k1, k2]; rfl
abbrev tKv : TypeId := 38
theorem c_evolve {s k r l : List UInt8} (hs : s.length ≤ 1048576) (hk : k.length ≤ 1048576) (hr : r.length ≤ 1048576) (hl : l.length ≤ 1048576) :
  FnS Tryd.prog 32 [S s, S k, S r, S l] G (fun v _ => ∃ p a1 b1 c1 a2 b2 c2, v = Tu [p, Ag [S a1, S b1, S c1], Ag [S a2, S b2, S c2], Bo (evReads s k r l)]) := by
 have k0 : ∀ {s k : List UInt8}, s.length ≤ 1048576 → k.length ≤ 1048576 → ∀ G, FnS Tryd.prog 11 [S s, S k] G (fun v _ => ∃ p a' b c, v = Tu [p, Ag [S a', S b, S c], Bo (kindS s k)]) := fun hs hk G => by
  refine (c_both (G := G) (by omega) (by omega)).mono ?_
  rintro v G' L' ⟨h1, h2, ⟨h3, p, a', b, c, rfl⟩ | ⟨b, qs, rfl, h3, h4, _⟩⟩
  ·exact ⟨h1, h2, p, a', b, c, by rw [h3]⟩
  ·exact ⟨h1, h2, _, _, _, _, by unfold kindS; rw [h3]; dsimp only; rw [h4]; rfl⟩
 cases e1 : kindS s k with
 | false =>
  have cx_bo1 := k0 hs hk
  have cx_bo2 := k0 hr hl
  rw [e1] at cx_bo1
  rw [evReads_no (.inl e1)]
  refine jB [(0, _), (1, _), (2, _), (3, _)] Tryd.func32 Tryd.ntmps32 fun B hok hB hW => ?_
  repeat' (first | (refine jR ?_) | (refine k_op rfl ?_; first | refine c_al rfl rfl fun _ => ?_ | refine c_stA rfl rfl rfl rfl rfl rfl ?_ | (refine jV (g_pickT rfl rfl rfl) ?_) | refine jV (g_bld rfl rfl) ?_ | (refine c_fns rfl rfl rfl (cx_bo1 _) rfl ?_; rintro _ G hle ⟨p1, a1, b1, c1, rfl⟩; ((try have hR1 := SchR.mono hR1 hle); (try have hR1 := ScI.mono hR1 hle))) | (refine c_fns rfl rfl rfl (cx_bo2 _) rfl ?_; rintro _ G hle ⟨p2, a2, b2, c2, rfl⟩; ((try have hR1 := SchR.mono hR1 hle); (try have hR1 := ScI.mono hR1 hle)))) | (refine k_gt rfl rfl rfl ?_) | (refine k_tt rfl rfl ?_))
  all_goals refine jZ (vs := [_, _, _, _]) rfl ⟨rfl, rc_A rfl rfl rfl rfl, rc_A rfl rfl rfl rfl, rfl, trivial⟩ rfl ⟨(Gh.le.trans (by assumption) hle), rfl, ?_⟩
  all_goals exact ⟨_, _, _, _, _, _, _, rfl⟩
 | true =>
  cases e2 : kindS r l with
  | false =>
   have cx_bo1 := k0 hs hk
   have cx_bo2 := k0 hr hl
   rw [e1] at cx_bo1
   rw [e2] at cx_bo2
   rw [evReads_no (.inr e2)]
   refine jB [(0, _), (1, _), (2, _), (3, _)] Tryd.func32 Tryd.ntmps32 fun B hok hB hW => ?_
   repeat' (first | (refine jR ?_) | (refine k_op rfl ?_; first | refine c_al rfl rfl fun _ => ?_ | refine c_stA rfl rfl rfl rfl rfl rfl ?_ | (refine jV (g_pickF rfl rfl rfl) ?_) | refine jV (g_bld rfl rfl) ?_ | (refine c_fns rfl rfl rfl (cx_bo1 _) rfl ?_; rintro _ G hle ⟨p1, a1, b1, c1, rfl⟩; ((try have hR1 := SchR.mono hR1 hle); (try have hR1 := ScI.mono hR1 hle))) | (refine c_fns rfl rfl rfl (cx_bo2 _) rfl ?_; rintro _ G hle ⟨p2, a2, b2, c2, rfl⟩; ((try have hR1 := SchR.mono hR1 hle); (try have hR1 := ScI.mono hR1 hle)))) | (refine k_gf rfl rfl rfl ?_) | (refine k_tt rfl rfl ?_))
   all_goals refine jZ (vs := [_, _, _, _]) rfl ⟨rfl, rc_A rfl rfl rfl rfl, rc_A rfl rfl rfl rfl, rfl, trivial⟩ rfl ⟨(Gh.le.trans (by assumption) hle), rfl, ?_⟩
   all_goals exact ⟨_, _, _, _, _, _, _, rfl⟩
  | true =>
   obtain ⟨ts, t1, t2, t3⟩ := kindS_some e1
   obtain ⟨us, u1, u2, u3⟩ := kindS_some e2
   have k1 : ∀ {s k : List UInt8} {ts : List Ty}, s.length ≤ 1048576 → k.length ≤ 1048576 → schemaOf s = some ts → kindS s k = true → ∀ G, FnS Tryd.prog 11 [S s, S k] G (fun v G' => ∃ b qs, v = Tu [Pt b 0, Ag [S (sg k), S (bs k), S (nm k)], Bo true] ∧ tyq qs = ts ∧ ScI G' b qs) := fun hs hk h1 h3 G => by
    refine (c_both (G := G) (by omega) (by omega)).mono ?_
    rintro v G' L' ⟨g1, g2, ⟨g3, _⟩ | ⟨b, qs, rfl, g4, g5, g6⟩⟩
    ·rw [h3] at g3; cases g3
    ·rw [h1] at g4; exact ⟨g1, g2, b, qs, rfl, (Option.some.inj g4).symm, g6⟩
   have cx_boa := k1 hs hk t1 e1
   have cx_bob := k1 hr hl u1 e2
   rw [evReads_yes t1 u1 t2 u2]
   refine jB [(0, _), (1, _), (2, _), (3, _)] Tryd.func32 Tryd.ntmps32 fun B hok hB hW => ?_
   repeat' (first | (refine jR ?_) | (refine k_op rfl ?_; first | refine c_al rfl rfl fun _ => ?_ | refine c_stA rfl rfl rfl rfl rfl rfl ?_ | (refine jV (g_pickF rfl rfl rfl) ?_) | refine jV (g_bld rfl rfl) ?_ | refine c_mkp rfl fun _ => ?_ | refine c_bx rfl rfl rfl fun _ => ?_ | (refine c_fns rfl rfl rfl (cx_boa _) rfl ?_; rintro _ G hle ⟨ba, qa, rfl, hT1, hR1⟩; ((try have hR1 := SchR.mono hR1 hle); (try have hR1 := ScI.mono hR1 hle))) | (refine c_fns rfl rfl rfl (cx_bob _) rfl ?_; rintro _ G hle ⟨bb, qb, rfl, hT2, hR2⟩; ((try have hR1 := SchR.mono hR1 hle); (try have hR1 := ScI.mono hR1 hle)))) | (refine k_gf rfl rfl rfl ?_) | (refine k_ff rfl rfl ?_))
   rename_i x9 x10 G1 hle1 hR0 x13 x16 mb eb
   refine Nx.sealC (b := eb) fun G2 hle2 hE => ?_
   subst hT1
   subst hT2
   have cx_k0 := c_kindsI (mb := mb) hE (hR1.mono hle2) (hR2.mono hle2) t3 u3 ((tyq qa).length * (tyq qb).length + 1) k l [] AskW.nil (by simp) t2 u2
   generalize evoK (tyq qa) (tyq qb) ((tyq qa).length * (tyq qb).length + 1) k l [] = q at cx_k0 ⊢
   have cx_ks : FnG Tryd.prog 51 [Pt eb 0, Ag [S (sg k), S (bs k), S (nm k)], Ag [S (sg l), S (bs l), S (nm l)]] G2 [.blk mb (mapP [])] (fun v L' => v = Bo q.1 ∧ L' = [.blk mb (mapP q.2)]) := cx_k0
   (refine k_any (s_any (id := 6) [.blk x16 (.cells (List.toArray [S (sg l), S (bs l), S (nm l)]) tKv (0, 0)), .blk x13 (.cells (List.toArray [S (sg k), S (bs k), S (nm k)]) tKv (0, 0))] (by intro y hy; simp only [List.mem_cons, List.not_mem_nil, or_false] at hy ⊢; rcases hy with hy | hy <;> simp [hy]) mixed ?_); refine jU 9 [0, 3] (bts 11 9) ?_ ?_; (focus (repeat' (exact trivial))); (refine jG (bts 11 11) 1 rfl (g_ldA rfl rfl rfl rfl) ?_); (refine jG (bts 11 15) 2 rfl (g_ldA rfl rfl rfl rfl) ?_); (refine jG (bts 11 31) 4 rfl (g_ldA rfl rfl rfl rfl) ?_); (refine jG (bts 11 63) 5 rfl (g_ldA rfl rfl rfl rfl) ?_); refine jA 6 rfl ?_; (refine c_mapg rfl rfl rfl cx_ks rfl ?_; rintro _ _ ⟨rfl, rfl⟩; dsimp only [zA, fA]); refine jK (bts 11 127) ?_; refine jU 3 [7] (bts 11 255) ?_ ?_; (focus (repeat' (exact trivial))); refine jA 8 rfl ?_; (refine c_stA rfl rfl rfl rfl rfl rfl ?_); refine jK (bts 11 511) ?_; refine jA 9 rfl ?_; (refine c_stA rfl rfl rfl rfl rfl rfl ?_); refine jK (bts 11 1023) ?_; refine jU 0 [10] (bts 11 2047) ?_ ?_; (focus (repeat' (exact trivial))); refine x_done (by kernel_rfl) (k_bk ?_))
   repeat' (refine jR ?_)
   all_goals refine jZ (vs := [_, _, _, _]) rfl ⟨rfl, rc_A rfl rfl rfl rfl, rc_A rfl rfl rfl rfl, rfl, trivial⟩ rfl ⟨((Gh.le.trans hle1 hle).trans hle2), rfl, ?_⟩
   all_goals exact ⟨_, _, _, _, _, _, _, rfl⟩
theorem c_EvolveReadsI {s k r l : List UInt8} (hs : s.length ≤ 1048576) (hk : k.length ≤ 1048576) (hr : r.length ≤ 1048576) (hl : l.length ≤ 1048576) :
  PuG Tryd.prog 17 [S s, S k, S r, S l] G (· = Bo (evReads s k r l)) := by
 have cx_ev := fun G => c_evolve (G := G) hs hk hr hl
 refine jB (Post := fun v G' L' => G' = G ∧ L' = [] ∧ _) [(0, _), (1, _), (2, _), (3, _)] Tryd.func17 Tryd.ntmps17 fun B hok hB hW => ?_
 repeat' (first | (refine jR ?_) | (refine k_op rfl ?_; first | refine c_al rfl rfl fun _ => ?_ | refine c_stA rfl rfl rfl rfl rfl rfl ?_ | (refine c_fns rfl rfl rfl (cx_ev _) rfl ?_; rintro _ G hle ⟨x1, y1, y2, y3, y4, y5, y6, rfl⟩; ((try have hR1 := SchR.mono hR1 hle); (try have hR1 := ScI.mono hR1 hle)))))
 all_goals refine Nx.base hok hB ?_
 all_goals refine jZ (vs := [_]) rfl ⟨rfl, trivial⟩ rfl ⟨rfl, rfl, ?_⟩
 all_goals rfl
abbrev Mt := List UInt8 × List UInt8 × List UInt8
def mtF (m : Mt) : List Value := [S m.1, S m.2.1, S m.2.2]
instance : RowF mtF 3 := ⟨fun _ => rfl⟩
abbrev MtL (m : Mt) : Prop := m.1.length ≤ 1048576 ∧ m.2.1.length ≤ 1048576 ∧ m.2.2.length ≤ 1048576
def mtOk (ss : List UInt8) (m : Mt) : Bool := kindS ss m.2.1 && kindS ss m.2.2 && isNm m.1
def goodAt (s : List UInt8) (a : List Mt) (i : Nat) : Bool := mtOk s (nth a i) && (i == 0 || Op.bytesLess (nth a (i - 1)).1 (nth a i).1)
def svcOk (s : List UInt8) (a : List Mt) : Bool := (schemaOf s).isSome && decide (a.length ≤ 6) && (List.range a.length).all (goodAt s a)
theorem svc_no {s : List UInt8} {a : List Mt} {i : Nat} (hi : i < a.length) (h : goodAt s a i = false) : svcOk s a = false := by
 unfold svcOk
 rw [Bool.and_eq_false_iff]; right
 rw [List.all_eq_false]
 exact ⟨i, List.mem_range.2 hi, by rw [h]; simp⟩
theorem svc_yes {s : List UInt8} {a : List Mt} (hs : (schemaOf s).isSome = true) (h6 : a.length ≤ 6) (h : ∀ k, k < a.length → goodAt s a k = true) : svcOk s a = true := by
 unfold svcOk
 rw [hs, decide_eq_true h6]
 simp only [Bool.true_and, List.all_eq_true, List.mem_range]
 exact h
abbrev tSv : TypeId := 25
theorem c_ServiceOkS {s : List UInt8} {u : Value} {a : List Mt} (h : s.length ≤ 1048576) (hu : SlV G u 3 a.length (rows mtF a)) (hn : a.length ≤ 1048576) (ha : ∀ x ∈ a, MtL x) :
  PuG Tryd.prog 6 [Ag [S s, u]] G (· = Bo (svcOk s a)) := by
 have hs : s.length ≤ 10000000 := by omega
 refine jB (Post := fun v G' L' => G' = G ∧ L' = [] ∧ _) [(0, _)] Tryd.func6 Tryd.ntmps6 fun B hok hB hW => ?_
 repeat' (first | (refine jR ?_) | (refine k_op rfl ?_; first | refine c_bx rfl rfl rfl fun _ => ?_ | refine jV (g_ld rfl rfl rfl) ?_ | refine jV (g_lenV rfl (by assumption)) ?_ | (refine jV (g_pickT rfl rfl rfl) ?_) | (refine jV (g_pickF rfl rfl rfl) ?_) | (refine c_rt rfl rfl rfl (c_SchemaOkS ‹_›) rfl ?_)) | refine k_gb rfl rfl (fun _ => ?_) (fun _ => ?_) | (refine k_tt rfl rfl ?_) | refine k_if rfl (fun _ => ?_) (fun _ => ?_))
 ·rename_i h1
  refine Nx.base hok hB ?_
  refine jZ (vs := [_]) rfl ⟨rfl, trivial⟩ rfl ⟨rfl, rfl, ?_⟩
  have h2 : (schemaOf s).isSome = false := by simpa using h1
  unfold svcOk; rw [h2]; rfl
 ·rename_i h1
  refine Nx.base hok hB ?_
  refine jZ (vs := [_]) rfl ⟨rfl, trivial⟩ rfl ⟨rfl, rfl, ?_⟩
  have h2 : decide (a.length ≤ 6) = false := by simp; omega
  unfold svcOk; rw [h2]; simp
 rename_i x h1 h2
 refine k_loop (ι := Nat × Gh) (fun i => (i.1 ≤ a.length ∧ Gh.le G i.2) ∧ ∀ k, k < i.1 → goodAt s a k = true) (fun i => [(1, Pt x 0), (3, I i.1)]) (fun i => i.2) (fun i => [.blk x (.cells #[S s, u] tSv (0, 0))]) (fun i => a.length - i.1) (0, G) ?_ (by repeat' constructor) rfl sRr (fun i Hi => ?_)
 ·exact ⟨⟨Nat.zero_le _, Gh.le.refl _⟩, fun k hk => absurd hk (by simp)⟩
 obtain ⟨i, G1⟩ := i
 dsimp only at Hi ⊢
 obtain ⟨⟨hi1, hg⟩, hgood⟩ := Hi
 by_cases hi : i < a.length
 ·obtain ⟨ba, oa, ca, rfl, sa⟩ := (hu.mono hg).expl (by omega)
  have hx := ha _ (nth_mem hi)
  cases e1 : kindS s (nth a i).2.1 <;> cases e2 : kindS s (nth a i).2.2 <;> cases e3 : isNm (nth a i).1
  all_goals
   have cx_lk1 : ∀ G, FnS Tryd.prog 14 [S s, S (nth a i).2.1] G (fun v _ => ∃ u, v = Tu [u, Bo (kindS s (nth a i).2.1)]) := fun G => by
    refine (c_l3Kind (G := G) hs (by omega)).mono ?_
    rintro v G' L' ⟨h1, h2, u, vs, rfl, _⟩
    exact ⟨h1, h2, u, rfl⟩
   have cx_lk2 : ∀ G, FnS Tryd.prog 14 [S s, S (nth a i).2.2] G (fun v _ => ∃ u, v = Tu [u, Bo (kindS s (nth a i).2.2)]) := fun G => by
    refine (c_l3Kind (G := G) hs (by omega)).mono ?_
    rintro v G' L' ⟨h1, h2, u, vs, rfl, _⟩
    exact ⟨h1, h2, u, rfl⟩
   have cx_nm2 : ∀ G, PuG Tryd.prog 15 [S (nth a i).1] G (· = Bo (isNm (nth a i).1)) := fun G => c_l2Name (by omega)
   rw [e1] at cx_lk1
   rw [e2] at cx_lk2
   rw [e3] at cx_nm2
  case true.true.true =>
   rcases i with _ | j
   ·repeat' (first | refine jM ?_ | (refine k_op rfl ?_; first | refine jV (g_ld rfl rfl rfl) ?_ | (refine jV (g_ldR rfl rfl (by assumption) ?_) ?_; (focus ((omega); done))) | refine jV (g_lenL rfl) ?_ | (refine jV (g_iaddrN rfl rfl (by omega)) ?_) | refine c_al rfl rfl fun _ => ?_ | refine c_stA rfl rfl rfl rfl rfl rfl ?_ | (refine c_fns rfl rfl rfl (cx_lk1 _) rfl ?_; rintro _ G hle ⟨u1, rfl⟩; ((try have sa := Seg.mono sa hle); (try have hg := Gh.le.trans hg hle))) | (refine c_fns rfl rfl rfl (cx_lk2 _) rfl ?_; rintro _ G hle ⟨u2, rfl⟩; ((try have sa := Seg.mono sa hle); (try have hg := Gh.le.trans hg hle)))) | (refine k_tt rfl (dTt (by omega)) ?_) | (refine k_ff rfl rfl ?_) | (refine k_any (s_any (id := 9) _ (fun _ h => h) mixed ?_); refine jT 25 [0, 1, 2] (bts 28 7) ?_; (try (refine Nx.re (d := 49) (v' := Bo false) rfl (congrArg Value.bool rfl) ?_)); refine jT 23 [3, 4] (bts 28 31) ?_; (refine jG (bts 28 63) 5 rfl (g_pickF rfl rfl rfl) ?_); refine jT 21 [6] (bts 28 127) ?_; (try (refine Nx.re (d := 53) (v' := Bo false) rfl (congrArg Value.bool rfl) ?_)); refine jT 20 [7] (bts 28 255) ?_; (refine jG (bts 28 511) 8 rfl (g_ld rfl rfl rfl) ?_); (refine jA 9 rfl ?_; (refine c_rt rfl rfl rfl (cx_nm2 _) rfl ?_); refine jS (bts 28 1023) ?_); refine jT 17 [10] (bts 28 2047) ?_; (refine jG (bts 28 4095) 11 rfl (g_pickF rfl rfl rfl) ?_); refine jT 15 [12] (bts 28 8191) ?_; (try (refine Nx.re (d := 59) (v' := Bo false) rfl (congrArg Value.bool rfl) ?_)); refine jT 12 [13, 14, 15] (bts 28 65535) ?_; (try (refine Nx.re (d := 62) (v' := Bo false) rfl (congrArg Value.bool rfl) ?_)); refine jT 8 [16, 18, 19, 23] (bts 28 9306111) ?_; (refine jN (bts 28 9437183) 17 rfl ?_); (refine jN (bts 28 10485759) 20 rfl ?_); refine jT 5 [21] (bts 28 12582911) ?_; (refine jN (bts 28 16777215) 22 rfl ?_); (refine jN (bts 28 33554431) 24 rfl ?_); refine jT 2 [25] (bts 28 67108863) ?_; (refine jG (bts 28 134217727) 26 rfl (g_pickF rfl rfl rfl) ?_); (refine jG (bts 28 268435455) 27 rfl (g_pickF rfl rfl rfl) ?_); refine x_done (by kernel_rfl) (k_bk ?_)))
    refine k_rd (1, G) ⟨⟨by dsimp only; omega, hg⟩, fun k hk => ?_⟩ (by dsimp only; omega) (by repeat' constructor) rfl (by repeat (first | exact List.Sublist.refl _ | apply List.Sublist.cons))
    have : k = 0 := by dsimp only at hk; omega
    subst this
    simp [goodAt, mtOk, e1, e2, e3]
   ·have ej : ((((j + 1 : Nat) : Int) - 1).toNat) = j := by omega
    cases e5 : Op.bytesLess (nth a j).1 (nth a (j + 1)).1
    ·have hb : goodAt s a (j + 1) = false := by simp [goodAt, e5]
     have e6 : Op.bytesLess (nth a (((j + 1 : Nat) : Int) - 1).toNat).1 (nth a (j + 1)).1 = false := by rw [ej]; exact e5
     repeat' (first | (refine jR ?_) | (refine k_op rfl ?_; first | refine jV (g_ld rfl rfl rfl) ?_ | (refine jV (g_ldR rfl rfl (by assumption) ?_) ?_; (focus ((omega); done))) | refine jV (g_lenL rfl) ?_ | (refine jV (g_iaddrN rfl rfl (by omega)) ?_) | refine c_al rfl rfl fun _ => ?_ | refine c_stA rfl rfl rfl rfl rfl rfl ?_ | (refine c_fns rfl rfl rfl (cx_lk1 _) rfl ?_; rintro _ G hle ⟨u1, rfl⟩; ((try have sa := Seg.mono sa hle); (try have hg := Gh.le.trans hg hle))) | (refine c_fns rfl rfl rfl (cx_lk2 _) rfl ?_; rintro _ G hle ⟨u2, rfl⟩; ((try have sa := Seg.mono sa hle); (try have hg := Gh.le.trans hg hle)))) | (refine k_tt rfl ?_ ?_; (focus ((first | (refine decide_eq_true ?_; (omega)) | (simp [*]; done)); done))) | (refine k_any (s_any (id := 9) _ (fun _ h => h) mixed ?_); refine jT 25 [0, 1, 2] (bts 28 7) ?_; (try (refine Nx.re (d := 49) (v' := Bo false) rfl (congrArg Value.bool rfl) ?_)); refine jT 23 [3, 4] (bts 28 31) ?_; (refine jG (bts 28 63) 5 rfl (g_pickF rfl rfl rfl) ?_); refine jT 21 [6] (bts 28 127) ?_; (try (refine Nx.re (d := 53) (v' := Bo false) rfl (congrArg Value.bool rfl) ?_)); refine jT 20 [7] (bts 28 255) ?_; (refine jG (bts 28 511) 8 rfl (g_ld rfl rfl rfl) ?_); (refine jA 9 rfl ?_; (refine c_rt rfl rfl rfl (cx_nm2 _) rfl ?_); refine jS (bts 28 1023) ?_); refine jT 17 [10] (bts 28 2047) ?_; (refine jG (bts 28 4095) 11 rfl (g_pickF rfl rfl rfl) ?_); refine jT 15 [12] (bts 28 8191) ?_; (try (refine Nx.re (d := 59) (v' := Bo false) rfl (congrArg Value.bool rfl) ?_)); refine jT 12 [13, 14, 15] (bts 28 65535) ?_; (try ((refine Nx.re (d := 62) (v' := Bo true) rfl (congrArg Value.bool (dTt (by omega))) ?_))); refine jU 8 [16, 18, 19, 23] (bts 28 9306111) ?_ ?_; (focus (repeat' (first | exact trivial | apply And.intro | omega))); (refine jG (bts 28 9437183) 17 rfl (g_ld rfl rfl rfl) ?_); (refine jG (bts 28 10485759) 20 rfl (g_iaddr rfl rfl (by omega)) ?_); refine jT 5 [21] (bts 28 12582911) ?_; ((refine jG (bts 28 16777215) 22 rfl (g_ldRF rfl rfl (by assumption) ?_ rfl rfl) ?_; (focus ((omega); done)))); (refine jG (bts 28 33554431) 24 rfl (g_ld rfl rfl rfl) ?_); refine jT 2 [25] (bts 28 67108863) ?_; (refine jG (bts 28 134217727) 26 rfl (g_pickT rfl rfl rfl) ?_); (refine jG (bts 28 268435455) 27 rfl (g_pickF rfl rfl rfl) ?_); refine x_done (by kernel_rfl) (k_bk ?_)))
     all_goals refine Nx.base hok hB ?_
     all_goals refine jZ (vs := [_]) rfl ⟨rfl, trivial⟩ rfl ⟨rfl, rfl, ?_⟩
     all_goals rw [oneOf_one, svc_no hi hb]
    ·have hb : goodAt s a (j + 1) = true := by simp [goodAt, mtOk, e1, e2, e3, e5]
     have e6 : Op.bytesLess (nth a (((j + 1 : Nat) : Int) - 1).toNat).1 (nth a (j + 1)).1 = true := by rw [ej]; exact e5
     repeat' (first | refine jM ?_ | (refine k_op rfl ?_; first | refine jV (g_ld rfl rfl rfl) ?_ | (refine jV (g_ldR rfl rfl (by assumption) ?_) ?_; (focus ((omega); done))) | refine jV (g_lenL rfl) ?_ | (refine jV (g_iaddrN rfl rfl (by omega)) ?_) | refine c_al rfl rfl fun _ => ?_ | refine c_stA rfl rfl rfl rfl rfl rfl ?_ | (refine c_fns rfl rfl rfl (cx_lk1 _) rfl ?_; rintro _ G hle ⟨u1, rfl⟩; ((try have sa := Seg.mono sa hle); (try have hg := Gh.le.trans hg hle))) | (refine c_fns rfl rfl rfl (cx_lk2 _) rfl ?_; rintro _ G hle ⟨u2, rfl⟩; ((try have sa := Seg.mono sa hle); (try have hg := Gh.le.trans hg hle)))) | (refine k_tt rfl (dTt (by omega)) ?_) | (refine k_ff rfl ?_ ?_; (focus ((simp [*]; done); done))) | (refine k_any (s_any (id := 9) _ (fun _ h => h) mixed ?_); refine jT 25 [0, 1, 2] (bts 28 7) ?_; (try (refine Nx.re (d := 49) (v' := Bo false) rfl (congrArg Value.bool rfl) ?_)); refine jT 23 [3, 4] (bts 28 31) ?_; (refine jG (bts 28 63) 5 rfl (g_pickF rfl rfl rfl) ?_); refine jT 21 [6] (bts 28 127) ?_; (try (refine Nx.re (d := 53) (v' := Bo false) rfl (congrArg Value.bool rfl) ?_)); refine jT 20 [7] (bts 28 255) ?_; (refine jG (bts 28 511) 8 rfl (g_ld rfl rfl rfl) ?_); (refine jA 9 rfl ?_; (refine c_rt rfl rfl rfl (cx_nm2 _) rfl ?_); refine jS (bts 28 1023) ?_); refine jT 17 [10] (bts 28 2047) ?_; (refine jG (bts 28 4095) 11 rfl (g_pickF rfl rfl rfl) ?_); refine jT 15 [12] (bts 28 8191) ?_; (try (refine Nx.re (d := 59) (v' := Bo false) rfl (congrArg Value.bool rfl) ?_)); refine jT 12 [13, 14, 15] (bts 28 65535) ?_; (try ((refine Nx.re (d := 62) (v' := Bo true) rfl (congrArg Value.bool (dTt (by omega))) ?_))); refine jU 8 [16, 18, 19, 23] (bts 28 9306111) ?_ ?_; (focus (repeat' (first | exact trivial | apply And.intro | omega))); (refine jG (bts 28 9437183) 17 rfl (g_ld rfl rfl rfl) ?_); (refine jG (bts 28 10485759) 20 rfl (g_iaddr rfl rfl (by omega)) ?_); refine jT 5 [21] (bts 28 12582911) ?_; ((refine jG (bts 28 16777215) 22 rfl (g_ldRF rfl rfl (by assumption) ?_ rfl rfl) ?_; (focus ((omega); done)))); (refine jG (bts 28 33554431) 24 rfl (g_ld rfl rfl rfl) ?_); refine jT 2 [25] (bts 28 67108863) ?_; (refine jG (bts 28 134217727) 26 rfl (g_pickT rfl rfl rfl) ?_); (refine jG (bts 28 268435455) 27 rfl (g_pickF rfl rfl rfl) ?_); refine x_done (by kernel_rfl) (k_bk ?_)))
     all_goals
      refine k_rd (j + 1 + 1, G) ⟨⟨by dsimp only; omega, hg⟩, fun k hk => ?_⟩ (by dsimp only; omega) (by repeat' constructor) rfl (by repeat (first | exact List.Sublist.refl _ | apply List.Sublist.cons))
      rcases Nat.lt_or_ge k (j + 1) with h1 | h1
      ·exact hgood k h1
      ·have : k = j + 1 := by dsimp only at hk; omega
       subst this; exact hb
  all_goals
   have hb : goodAt s a i = false := by simp [goodAt, mtOk, e1, e2, e3]
   repeat' (first | (refine jR ?_) | (refine k_op rfl ?_; first | refine jV (g_ld rfl rfl rfl) ?_ | (refine jV (g_ldR rfl rfl (by assumption) ?_) ?_; (focus ((omega); done))) | refine jV (g_lenL rfl) ?_ | (refine jV (g_iaddrN rfl rfl (by omega)) ?_) | refine c_al rfl rfl fun _ => ?_ | refine c_stA rfl rfl rfl rfl rfl rfl ?_ | (refine c_fns rfl rfl rfl (cx_lk1 _) rfl ?_; rintro _ G hle ⟨u1, rfl⟩; ((try have sa := Seg.mono sa hle); (try have hg := Gh.le.trans hg hle))) | (refine c_fns rfl rfl rfl (cx_lk2 _) rfl ?_; rintro _ G hle ⟨u2, rfl⟩; ((try have sa := Seg.mono sa hle); (try have hg := Gh.le.trans hg hle)))) | (refine k_tt rfl (by first | rfl | (refine decide_eq_true ?_; (omega))) ?_) | (refine k_any (s_any (id := 9) _ (fun _ h => h) mixed ?_); refine jT 25 [0, 1, 2] (bts 28 7) ?_; (try (first | (refine Nx.re (d := 49) (v' := Bo true) rfl (congrArg Value.bool rfl) ?_) | (refine Nx.re (d := 49) (v' := Bo false) rfl (congrArg Value.bool rfl) ?_))); refine jT 23 [3, 4] (bts 28 31) ?_; (first | (refine jG (bts 28 63) 5 rfl (g_pickT rfl rfl rfl) ?_) | (refine jG (bts 28 63) 5 rfl (g_pickF rfl rfl rfl) ?_)); refine jT 21 [6] (bts 28 127) ?_; (try (first | (refine Nx.re (d := 53) (v' := Bo true) rfl (congrArg Value.bool rfl) ?_) | (refine Nx.re (d := 53) (v' := Bo false) rfl (congrArg Value.bool rfl) ?_))); refine jT 20 [7] (bts 28 255) ?_; (first | refine jG (bts 28 511) 8 rfl (g_ld rfl rfl rfl) ?_ | refine jN (bts 28 511) 8 rfl ?_); (first | refine jN (bts 28 1023) 9 rfl ?_ | (refine jA 9 rfl ?_; (refine c_rt rfl rfl rfl (cx_nm2 _) rfl ?_); refine jS (bts 28 1023) ?_)); refine jT 17 [10] (bts 28 2047) ?_; (first | (refine jG (bts 28 4095) 11 rfl (g_pickT rfl rfl rfl) ?_) | (refine jG (bts 28 4095) 11 rfl (g_pickF rfl rfl rfl) ?_)); refine jT 15 [12] (bts 28 8191) ?_; (try (refine Nx.re (d := 59) (v' := Bo true) rfl (congrArg Value.bool rfl) ?_)); refine jT 12 [13, 14, 15] (bts 28 65535) ?_; (try (fail)); refine jT 8 [16, 18, 19, 23] (bts 28 9306111) ?_; (refine jN (bts 28 9437183) 17 rfl ?_); (refine jN (bts 28 10485759) 20 rfl ?_); refine jT 5 [21] (bts 28 12582911) ?_; (refine jN (bts 28 16777215) 22 rfl ?_); (refine jN (bts 28 33554431) 24 rfl ?_); refine jT 2 [25] (bts 28 67108863) ?_; (refine jN (bts 28 134217727) 26 rfl ?_); (refine jG (bts 28 268435455) 27 rfl (g_pickT rfl rfl rfl) ?_); refine x_done (by kernel_rfl) (k_bk ?_)))
   refine Nx.base hok hB ?_
   refine jZ (vs := [_]) rfl ⟨rfl, trivial⟩ rfl ⟨rfl, rfl, ?_⟩
   rw [oneOf_one, svc_no hi hb]
 ·repeat' (first | (refine jR ?_) | (refine k_op rfl ?_; first | refine jV (g_ld rfl rfl rfl) ?_ | refine jV (g_lenV rfl (by assumption)) ?_) | (refine k_ff rfl (dFf (by omega)) ?_))
  refine Nx.base hok hB ?_
  refine jZ (vs := [_]) rfl ⟨rfl, trivial⟩ rfl ⟨rfl, rfl, ?_⟩
  rw [oneOf_one, svc_yes (by simpa using h1) (by omega) (fun k hk => hgood k (by omega))]
abbrev tSv2 : TypeId := 25
theorem c_ServiceOkI {s : List UInt8} {u : Value} {a : List Mt} (h : s.length ≤ 1048576) (hu : SlV G u 3 a.length (rows mtF a)) (hn : a.length ≤ 1048576) (ha : ∀ x ∈ a, MtL x) :
  PuG Tryd.prog 5 [Ag [S s, u]] G (· = Bo (svcOk s a)) := by
 have hs : s.length ≤ 10000000 := by omega
 refine jB (Post := fun v G' L' => G' = G ∧ L' = [] ∧ _) [(0, _)] Tryd.func5 Tryd.ntmps5 fun B hok hB hW => ?_
 repeat' (first | (refine jR ?_) | (refine k_op rfl ?_; first | refine c_bx rfl rfl rfl fun _ => ?_ | refine jV (g_ld rfl rfl rfl) ?_ | refine jV (g_lenV rfl (by assumption)) ?_ | (refine jV (g_pickT rfl rfl rfl) ?_) | (refine jV (g_pickF rfl rfl rfl) ?_) | (refine c_rt rfl rfl rfl (c_SchemaOkI (by omega)) rfl ?_)) | refine k_gb rfl rfl (fun _ => ?_) (fun _ => ?_) | (refine k_tt rfl rfl ?_) | refine k_if rfl (fun _ => ?_) (fun _ => ?_))
 ·rename_i h1
  refine Nx.base hok hB ?_
  refine jZ (vs := [_]) rfl ⟨rfl, trivial⟩ rfl ⟨rfl, rfl, ?_⟩
  have h2 : (schemaOf s).isSome = false := by simpa using h1
  unfold svcOk; rw [h2]; rfl
 ·rename_i h1
  refine Nx.base hok hB ?_
  refine jZ (vs := [_]) rfl ⟨rfl, trivial⟩ rfl ⟨rfl, rfl, ?_⟩
  have h2 : decide (a.length ≤ 6) = false := by simp; omega
  unfold svcOk; rw [h2]; simp
 rename_i x h1 h2
 refine k_loop (ι := Nat × Gh) (fun i => (i.1 ≤ a.length ∧ Gh.le G i.2) ∧ ∀ k, k < i.1 → goodAt s a k = true) (fun i => [(1, Pt x 0), (22, u), (23, I a.length), (24, I i.1)]) (fun i => i.2) (fun i => [.blk x (.cells #[S s, u] tSv2 (0, 0))]) (fun i => a.length - i.1) (0, G) ?_ (by repeat' constructor) rfl sRr (fun i Hi => ?_)
 ·exact ⟨⟨Nat.zero_le _, Gh.le.refl _⟩, fun k hk => absurd hk (by simp)⟩
 obtain ⟨i, G1⟩ := i
 dsimp only at Hi ⊢
 obtain ⟨⟨hi1, hg⟩, hgood⟩ := Hi
 by_cases hi : i < a.length
 ·obtain ⟨ba, oa, ca, rfl, sa⟩ := (hu.mono hg).expl (by omega)
  have hx := ha _ (nth_mem hi)
  cases e1 : kindS s (nth a i).2.1 <;> cases e2 : kindS s (nth a i).2.2 <;> cases e3 : isNm (nth a i).1
  all_goals
   have cx_bo1 : ∀ G, FnS Tryd.prog 11 [S s, S (nth a i).2.1] G (fun v _ => ∃ p a' b c, v = Tu [p, Ag [S a', S b, S c], Bo (kindS s (nth a i).2.1)]) := fun G => by
    refine (c_both (G := G) hs (by omega)).mono ?_
    rintro v G' L' ⟨h1, h2, ⟨h3, p, a', b, c, rfl⟩ | ⟨b, qs, rfl, h3, h4, _⟩⟩
    ·exact ⟨h1, h2, p, a', b, c, by rw [h3]⟩
    ·exact ⟨h1, h2, _, _, _, _, by unfold kindS; rw [h3]; dsimp only; rw [h4]; rfl⟩
   have cx_bo2 : ∀ G, FnS Tryd.prog 11 [S s, S (nth a i).2.2] G (fun v _ => ∃ p a' b c, v = Tu [p, Ag [S a', S b, S c], Bo (kindS s (nth a i).2.2)]) := fun G => by
    refine (c_both (G := G) hs (by omega)).mono ?_
    rintro v G' L' ⟨h1, h2, ⟨h3, p, a', b, c, rfl⟩ | ⟨b, qs, rfl, h3, h4, _⟩⟩
    ·exact ⟨h1, h2, p, a', b, c, by rw [h3]⟩
    ·exact ⟨h1, h2, _, _, _, _, by unfold kindS; rw [h3]; dsimp only; rw [h4]; rfl⟩
   have cx_nm2 : ∀ G, PuG Tryd.prog 12 [S (nth a i).1] G (· = Bo (isNm (nth a i).1)) := fun G => c_isName (by omega)
   rw [e1] at cx_bo1
   rw [e2] at cx_bo2
   rw [e3] at cx_nm2
  case true.true.true =>
   rcases i with _ | j
   ·repeat' (first | refine jM ?_ | (refine k_op rfl ?_; first | refine jV (g_ld rfl rfl rfl) ?_ | (refine jV (g_ldR rfl rfl (by assumption) ?_) ?_; (focus ((omega); done))) | (refine jV (g_iaddrN rfl rfl (by omega)) ?_) | refine c_al rfl rfl fun _ => ?_ | refine c_stA rfl rfl rfl rfl rfl rfl ?_ | (refine c_fns rfl rfl rfl (cx_bo1 _) rfl ?_; rintro _ G hle ⟨p1, a1, b1, c1, rfl⟩; ((try have sa := Seg.mono sa hle); (try have hg := Gh.le.trans hg hle))) | (refine c_fns rfl rfl rfl (cx_bo2 _) rfl ?_; rintro _ G hle ⟨p2, a2, b2, c2, rfl⟩; ((try have sa := Seg.mono sa hle); (try have hg := Gh.le.trans hg hle)))) | (refine k_tt rfl (dTt (by omega)) ?_) | (refine k_ff rfl rfl ?_) | (refine k_any (s_any (id := 8) _ (fun _ h => h) mixed ?_); refine jT 25 [0, 1, 2] (bts 28 7) ?_; (try (refine Nx.re (d := 49) (v' := Bo false) rfl (congrArg Value.bool rfl) ?_)); refine jT 23 [3, 4] (bts 28 31) ?_; (refine jG (bts 28 63) 5 rfl (g_pickF rfl rfl rfl) ?_); refine jT 21 [6] (bts 28 127) ?_; (try (refine Nx.re (d := 53) (v' := Bo false) rfl (congrArg Value.bool rfl) ?_)); refine jT 20 [7] (bts 28 255) ?_; (refine jG (bts 28 511) 8 rfl (g_ld rfl rfl rfl) ?_); (refine jA 9 rfl ?_; (refine c_rt rfl rfl rfl (cx_nm2 _) rfl ?_); refine jS (bts 28 1023) ?_); refine jT 17 [10] (bts 28 2047) ?_; (refine jG (bts 28 4095) 11 rfl (g_pickF rfl rfl rfl) ?_); refine jT 15 [12] (bts 28 8191) ?_; (try (refine Nx.re (d := 59) (v' := Bo false) rfl (congrArg Value.bool rfl) ?_)); refine jT 12 [13, 14, 15] (bts 28 65535) ?_; (try (refine Nx.re (d := 62) (v' := Bo false) rfl (congrArg Value.bool rfl) ?_)); refine jT 8 [16, 18, 19, 23] (bts 28 9306111) ?_; (refine jN (bts 28 9437183) 17 rfl ?_); (refine jN (bts 28 10485759) 20 rfl ?_); refine jT 5 [21] (bts 28 12582911) ?_; (refine jN (bts 28 16777215) 22 rfl ?_); (refine jN (bts 28 33554431) 24 rfl ?_); refine jT 2 [25] (bts 28 67108863) ?_; (refine jG (bts 28 134217727) 26 rfl (g_pickF rfl rfl rfl) ?_); (refine jG (bts 28 268435455) 27 rfl (g_pickF rfl rfl rfl) ?_); refine x_done (by kernel_rfl) (k_bk ?_)))
    refine k_rd (1, G) ⟨⟨by dsimp only; omega, hg⟩, fun k hk => ?_⟩ (by dsimp only; omega) (by repeat' constructor) rfl (by repeat (first | exact List.Sublist.refl _ | apply List.Sublist.cons))
    have : k = 0 := by dsimp only at hk; omega
    subst this
    simp [goodAt, mtOk, e1, e2, e3]
   ·have ej : ((((j + 1 : Nat) : Int) - 1).toNat) = j := by omega
    cases e5 : Op.bytesLess (nth a j).1 (nth a (j + 1)).1
    ·have hb : goodAt s a (j + 1) = false := by simp [goodAt, e5]
     have e6 : Op.bytesLess (nth a (((j + 1 : Nat) : Int) - 1).toNat).1 (nth a (j + 1)).1 = false := by rw [ej]; exact e5
     repeat' (first | (refine jR ?_) | (refine k_op rfl ?_; first | refine jV (g_ld rfl rfl rfl) ?_ | (refine jV (g_ldR rfl rfl (by assumption) ?_) ?_; (focus ((omega); done))) | (refine jV (g_iaddrN rfl rfl (by omega)) ?_) | refine c_al rfl rfl fun _ => ?_ | refine c_stA rfl rfl rfl rfl rfl rfl ?_ | (refine c_fns rfl rfl rfl (cx_bo1 _) rfl ?_; rintro _ G hle ⟨p1, a1, b1, c1, rfl⟩; ((try have sa := Seg.mono sa hle); (try have hg := Gh.le.trans hg hle))) | (refine c_fns rfl rfl rfl (cx_bo2 _) rfl ?_; rintro _ G hle ⟨p2, a2, b2, c2, rfl⟩; ((try have sa := Seg.mono sa hle); (try have hg := Gh.le.trans hg hle)))) | (refine k_tt rfl ?_ ?_; (focus ((first | (refine decide_eq_true ?_; (omega)) | (simp [*]; done)); done))) | (refine k_any (s_any (id := 8) _ (fun _ h => h) mixed ?_); refine jT 25 [0, 1, 2] (bts 28 7) ?_; (try (refine Nx.re (d := 49) (v' := Bo false) rfl (congrArg Value.bool rfl) ?_)); refine jT 23 [3, 4] (bts 28 31) ?_; (refine jG (bts 28 63) 5 rfl (g_pickF rfl rfl rfl) ?_); refine jT 21 [6] (bts 28 127) ?_; (try (refine Nx.re (d := 53) (v' := Bo false) rfl (congrArg Value.bool rfl) ?_)); refine jT 20 [7] (bts 28 255) ?_; (refine jG (bts 28 511) 8 rfl (g_ld rfl rfl rfl) ?_); (refine jA 9 rfl ?_; (refine c_rt rfl rfl rfl (cx_nm2 _) rfl ?_); refine jS (bts 28 1023) ?_); refine jT 17 [10] (bts 28 2047) ?_; (refine jG (bts 28 4095) 11 rfl (g_pickF rfl rfl rfl) ?_); refine jT 15 [12] (bts 28 8191) ?_; (try (refine Nx.re (d := 59) (v' := Bo false) rfl (congrArg Value.bool rfl) ?_)); refine jT 12 [13, 14, 15] (bts 28 65535) ?_; (try ((refine Nx.re (d := 62) (v' := Bo true) rfl (congrArg Value.bool (dTt (by omega))) ?_))); refine jU 8 [16, 18, 19, 23] (bts 28 9306111) ?_ ?_; (focus (repeat' (first | exact trivial | apply And.intro | omega))); (refine jG (bts 28 9437183) 17 rfl (g_ld rfl rfl rfl) ?_); (refine jG (bts 28 10485759) 20 rfl (g_iaddr rfl rfl (by omega)) ?_); refine jT 5 [21] (bts 28 12582911) ?_; ((refine jG (bts 28 16777215) 22 rfl (g_ldRF rfl rfl (by assumption) ?_ rfl rfl) ?_; (focus ((omega); done)))); (refine jG (bts 28 33554431) 24 rfl (g_ld rfl rfl rfl) ?_); refine jT 2 [25] (bts 28 67108863) ?_; (refine jG (bts 28 134217727) 26 rfl (g_pickT rfl rfl rfl) ?_); (refine jG (bts 28 268435455) 27 rfl (g_pickF rfl rfl rfl) ?_); refine x_done (by kernel_rfl) (k_bk ?_)))
     all_goals refine Nx.base hok hB ?_
     all_goals refine jZ (vs := [_]) rfl ⟨rfl, trivial⟩ rfl ⟨rfl, rfl, ?_⟩
     all_goals rw [oneOf_one, svc_no hi hb]
    ·have hb : goodAt s a (j + 1) = true := by simp [goodAt, mtOk, e1, e2, e3, e5]
     have e6 : Op.bytesLess (nth a (((j + 1 : Nat) : Int) - 1).toNat).1 (nth a (j + 1)).1 = true := by rw [ej]; exact e5
     repeat' (first | refine jM ?_ | (refine k_op rfl ?_; first | refine jV (g_ld rfl rfl rfl) ?_ | (refine jV (g_ldR rfl rfl (by assumption) ?_) ?_; (focus ((omega); done))) | (refine jV (g_iaddrN rfl rfl (by omega)) ?_) | refine c_al rfl rfl fun _ => ?_ | refine c_stA rfl rfl rfl rfl rfl rfl ?_ | (refine c_fns rfl rfl rfl (cx_bo1 _) rfl ?_; rintro _ G hle ⟨p1, a1, b1, c1, rfl⟩; ((try have sa := Seg.mono sa hle); (try have hg := Gh.le.trans hg hle))) | (refine c_fns rfl rfl rfl (cx_bo2 _) rfl ?_; rintro _ G hle ⟨p2, a2, b2, c2, rfl⟩; ((try have sa := Seg.mono sa hle); (try have hg := Gh.le.trans hg hle)))) | (refine k_tt rfl (dTt (by omega)) ?_) | (refine k_ff rfl ?_ ?_; (focus ((simp [*]; done); done))) | (refine k_any (s_any (id := 8) _ (fun _ h => h) mixed ?_); refine jT 25 [0, 1, 2] (bts 28 7) ?_; (try (refine Nx.re (d := 49) (v' := Bo false) rfl (congrArg Value.bool rfl) ?_)); refine jT 23 [3, 4] (bts 28 31) ?_; (refine jG (bts 28 63) 5 rfl (g_pickF rfl rfl rfl) ?_); refine jT 21 [6] (bts 28 127) ?_; (try (refine Nx.re (d := 53) (v' := Bo false) rfl (congrArg Value.bool rfl) ?_)); refine jT 20 [7] (bts 28 255) ?_; (refine jG (bts 28 511) 8 rfl (g_ld rfl rfl rfl) ?_); (refine jA 9 rfl ?_; (refine c_rt rfl rfl rfl (cx_nm2 _) rfl ?_); refine jS (bts 28 1023) ?_); refine jT 17 [10] (bts 28 2047) ?_; (refine jG (bts 28 4095) 11 rfl (g_pickF rfl rfl rfl) ?_); refine jT 15 [12] (bts 28 8191) ?_; (try (refine Nx.re (d := 59) (v' := Bo false) rfl (congrArg Value.bool rfl) ?_)); refine jT 12 [13, 14, 15] (bts 28 65535) ?_; (try ((refine Nx.re (d := 62) (v' := Bo true) rfl (congrArg Value.bool (dTt (by omega))) ?_))); refine jU 8 [16, 18, 19, 23] (bts 28 9306111) ?_ ?_; (focus (repeat' (first | exact trivial | apply And.intro | omega))); (refine jG (bts 28 9437183) 17 rfl (g_ld rfl rfl rfl) ?_); (refine jG (bts 28 10485759) 20 rfl (g_iaddr rfl rfl (by omega)) ?_); refine jT 5 [21] (bts 28 12582911) ?_; ((refine jG (bts 28 16777215) 22 rfl (g_ldRF rfl rfl (by assumption) ?_ rfl rfl) ?_; (focus ((omega); done)))); (refine jG (bts 28 33554431) 24 rfl (g_ld rfl rfl rfl) ?_); refine jT 2 [25] (bts 28 67108863) ?_; (refine jG (bts 28 134217727) 26 rfl (g_pickT rfl rfl rfl) ?_); (refine jG (bts 28 268435455) 27 rfl (g_pickF rfl rfl rfl) ?_); refine x_done (by kernel_rfl) (k_bk ?_)))
     all_goals
      refine k_rd (j + 1 + 1, G) ⟨⟨by dsimp only; omega, hg⟩, fun k hk => ?_⟩ (by dsimp only; omega) (by repeat' constructor) rfl (by repeat (first | exact List.Sublist.refl _ | apply List.Sublist.cons))
      rcases Nat.lt_or_ge k (j + 1) with h1 | h1
      ·exact hgood k h1
      ·have : k = j + 1 := by dsimp only at hk; omega
       subst this; exact hb
  all_goals
   have hb : goodAt s a i = false := by simp [goodAt, mtOk, e1, e2, e3]
   repeat' (first | (refine jR ?_) | (refine k_op rfl ?_; first | refine jV (g_ld rfl rfl rfl) ?_ | (refine jV (g_ldR rfl rfl (by assumption) ?_) ?_; (focus ((omega); done))) | (refine jV (g_iaddrN rfl rfl (by omega)) ?_) | refine c_al rfl rfl fun _ => ?_ | refine c_stA rfl rfl rfl rfl rfl rfl ?_ | (refine c_fns rfl rfl rfl (cx_bo1 _) rfl ?_; rintro _ G hle ⟨p1, a1, b1, c1, rfl⟩; ((try have sa := Seg.mono sa hle); (try have hg := Gh.le.trans hg hle))) | (refine c_fns rfl rfl rfl (cx_bo2 _) rfl ?_; rintro _ G hle ⟨p2, a2, b2, c2, rfl⟩; ((try have sa := Seg.mono sa hle); (try have hg := Gh.le.trans hg hle)))) | (refine k_tt rfl (by first | rfl | (refine decide_eq_true ?_; (omega))) ?_) | (refine k_any (s_any (id := 8) _ (fun _ h => h) mixed ?_); refine jT 25 [0, 1, 2] (bts 28 7) ?_; (try (first | (refine Nx.re (d := 49) (v' := Bo true) rfl (congrArg Value.bool rfl) ?_) | (refine Nx.re (d := 49) (v' := Bo false) rfl (congrArg Value.bool rfl) ?_))); refine jT 23 [3, 4] (bts 28 31) ?_; (first | (refine jG (bts 28 63) 5 rfl (g_pickT rfl rfl rfl) ?_) | (refine jG (bts 28 63) 5 rfl (g_pickF rfl rfl rfl) ?_)); refine jT 21 [6] (bts 28 127) ?_; (try (first | (refine Nx.re (d := 53) (v' := Bo true) rfl (congrArg Value.bool rfl) ?_) | (refine Nx.re (d := 53) (v' := Bo false) rfl (congrArg Value.bool rfl) ?_))); refine jT 20 [7] (bts 28 255) ?_; (first | refine jG (bts 28 511) 8 rfl (g_ld rfl rfl rfl) ?_ | refine jN (bts 28 511) 8 rfl ?_); (first | refine jN (bts 28 1023) 9 rfl ?_ | (refine jA 9 rfl ?_; (refine c_rt rfl rfl rfl (cx_nm2 _) rfl ?_); refine jS (bts 28 1023) ?_)); refine jT 17 [10] (bts 28 2047) ?_; (first | (refine jG (bts 28 4095) 11 rfl (g_pickT rfl rfl rfl) ?_) | (refine jG (bts 28 4095) 11 rfl (g_pickF rfl rfl rfl) ?_)); refine jT 15 [12] (bts 28 8191) ?_; (try (refine Nx.re (d := 59) (v' := Bo true) rfl (congrArg Value.bool rfl) ?_)); refine jT 12 [13, 14, 15] (bts 28 65535) ?_; (try (fail)); refine jT 8 [16, 18, 19, 23] (bts 28 9306111) ?_; (refine jN (bts 28 9437183) 17 rfl ?_); (refine jN (bts 28 10485759) 20 rfl ?_); refine jT 5 [21] (bts 28 12582911) ?_; (refine jN (bts 28 16777215) 22 rfl ?_); (refine jN (bts 28 33554431) 24 rfl ?_); refine jT 2 [25] (bts 28 67108863) ?_; (refine jN (bts 28 134217727) 26 rfl ?_); (refine jG (bts 28 268435455) 27 rfl (g_pickT rfl rfl rfl) ?_); refine x_done (by kernel_rfl) (k_bk ?_)))
   refine Nx.base hok hB ?_
   refine jZ (vs := [_]) rfl ⟨rfl, trivial⟩ rfl ⟨rfl, rfl, ?_⟩
   rw [oneOf_one, svc_no hi hb]
 ·repeat' (first | (refine jR ?_) | (refine k_ff rfl (dFf (by omega)) ?_))
  refine Nx.base hok hB ?_
  refine jZ (vs := [_]) rfl ⟨rfl, trivial⟩ rfl ⟨rfl, rfl, ?_⟩
  rw [oneOf_one, svc_yes (by simpa using h1) (by omega) (fun k hk => hgood k (by omega))]
def mFind (a : List Mt) (x : List UInt8) : Option Mt := a.find? fun m => decide (m.1 = x)
def rdAt (s : List UInt8) (a : List Mt) (r : List UInt8) (o : Mt) : Bool := match mFind a o.1 with
 | none => false
 | some m => evReads s m.2.1 r o.2.1 && evReads r o.2.2 s m.2.2
def svcReads (s : List UInt8) (a : List Mt) (r : List UInt8) (b : List Mt) : Bool := (svcOk s a && svcOk r b) && b.all (rdAt s a r)
theorem mFind_at {a : List Mt} {x : List UInt8} {i : Nat} (hi : i < a.length) (hno : ∀ k, k < i → (nth a k).1 ≠ x) (h : (nth a i).1 = x) : mFind a x = some (nth a i) :=
 find_at hi (fun k hk => by simpa using hno k hk) (by simpa using h)
theorem mFind_no {a : List Mt} {x : List UInt8} (hno : ∀ k, k < a.length → (nth a k).1 ≠ x) : mFind a x = none := find_no fun k hk => by simpa using hno k hk
abbrev zM : Mt := ([], [], [])
abbrev tMfI : TypeId := 35
abbrev tSfI : TypeId := 25
theorem c_method {s x : List UInt8} {u : Value} {a : List Mt} (hu : SlV G u 3 a.length (rows mtF a)) (hn : a.length ≤ 1048576) :
  PuG Tryd.prog 16 [Ag [S s, u], S x] G (· = Tu [Ag (mtF ((mFind a x).getD zM)), Bo (mFind a x).isSome]) := by
 refine jE [(0, _), (1, _)] Tryd.func16 Tryd.ntmps16 fun B hB => ?_
 repeat' (first | (refine jR ?_) | (refine k_op rfl ?_; first | refine c_bx rfl rfl rfl fun _ => ?_ | refine c_al rfl rfl fun _ => ?_ | refine jV (g_ld rfl rfl rfl) ?_ | refine jV (g_lenV rfl (by assumption)) ?_))
 rename_i x2 x4
 refine k_loop (ι := Nat) (fun i => i ≤ a.length ∧ ∀ k, k < i → (nth a k).1 ≠ x) (fun i => [(1, S x), (2, Pt x2 0), (4, Pt x4 0), (9, u), (10, I a.length), (11, I i)]) (fun _ => G) (fun i => [.blk x4 (.cells (List.toArray [S [], S [], S []]) tMfI (0, 0)), .blk x2 (.cells (List.toArray [S s, u]) tSfI (0, 0))]) (fun i => a.length - i) 0 ?_ (by repeat' constructor) rfl sRr (fun i Hi => ?_)
 ·exact ⟨Nat.zero_le _, fun k hk => absurd hk (by omega)⟩
 by_cases hi : i < a.length
 ·obtain ⟨ba, oa, ca, rfl, sa⟩ := hu.expl (by omega)
  repeat' (first | refine jM ?_ | (refine k_op rfl ?_; first | refine c_al rfl rfl fun _ => ?_ | refine jV (g_ld rfl rfl rfl) ?_ | (refine jV (g_ldR rfl rfl (by assumption) ?_) ?_; (focus ((omega); done))) | refine jV (g_ldA rfl rfl rfl rfl) ?_ | (refine jV (g_iaddrN rfl rfl (by omega)) ?_) | refine c_stA rfl rfl rfl rfl rfl rfl ?_) | (refine k_tt rfl (dTt (by omega)) ?_) | refine k_if rfl (fun _ => ?_) (fun _ => ?_))
  ·rename_i he
   refine jZ (vs := [_, _]) rfl ⟨rc_A rfl rfl rfl rfl, rfl, trivial⟩ rfl ⟨rfl, rfl, ?_⟩
   rw [mFind_at hi Hi.2 he]; rfl
  ·rename_i he
   refine k_rd (i + 1) ⟨by omega, fun k hk => ?_⟩ (by omega) (by repeat' constructor) rfl (by repeat (first | exact List.Sublist.refl _ | apply List.Sublist.cons))
   rcases Nat.lt_or_ge k i with h3 | h3
   ·exact Hi.2 k h3
   ·have : k = i := by omega
    subst this; exact he
 ·repeat' (first | (refine jR ?_) | (refine k_op rfl ?_; first | refine c_stA rfl rfl rfl rfl rfl rfl ?_ | refine jV (g_bld rfl rfl) ?_) | (refine k_ff rfl (dFf (by omega)) ?_))
  refine jZ (vs := [_, _]) rfl ⟨rc_A rfl rfl rfl rfl, rfl, trivial⟩ rfl ⟨rfl, rfl, ?_⟩
  rw [mFind_no fun k hk => Hi.2 k (by omega)]; rfl
theorem svcReads_no {s r : List UInt8} {a b : List Mt} (h : svcOk s a = false ∨ svcOk r b = false) : svcReads s a r b = false := by
 unfold svcReads
 rcases h with h | h <;> rw [h] <;> simp
theorem svcReads_at {s r : List UInt8} {a b : List Mt} {i : Nat} (hi : i < b.length) (h : rdAt s a r (nth b i) = false) : svcReads s a r b = false := by
 unfold svcReads
 have : b.all (rdAt s a r) = false := by
  rw [List.all_eq_false]
  exact ⟨_, nth_mem hi, by rw [h]; simp⟩
 rw [this, Bool.and_false]
theorem svcReads_yes {s r : List UInt8} {a b : List Mt} (h1 : svcOk s a = true) (h2 : svcOk r b = true) (h : ∀ k, k < b.length → rdAt s a r (nth b k) = true) : svcReads s a r b = true := by
 unfold svcReads
 have : b.all (rdAt s a r) = true := by
  rw [List.all_eq_true]
  intro x hx
  obtain ⟨k, hk, rfl⟩ := mem_nth hx
  exact h k hk
 rw [h1, h2, this]; rfl
abbrev tSrI : TypeId := 25
theorem c_ServiceReadsI {s r : List UInt8} {u v : Value} {a b : List Mt} (h : (s.length ≤ 1048576 ∧ a.length ≤ 1048576) ∧ (r.length ≤ 1048576 ∧ b.length ≤ 1048576) ∧ (∀ x ∈ a, MtL x) ∧ ∀ x ∈ b, MtL x) (hu : SlV G u 3 a.length (rows mtF a)) (hv : SlV G v 3 b.length (rows mtF b)) :
  PuG Tryd.prog 7 [Ag [S s, u], Ag [S r, v]] G (· = Bo (svcReads s a r b)) := by
 obtain ⟨⟨hs, ha⟩, ⟨hr, hb⟩, hma, hmb⟩ := h
 cases e1 : svcOk s a
 ·have cx_so1 : PuG Tryd.prog 5 [Ag [S s, u]] G (· = Bo false) := by rw [← e1]; exact c_ServiceOkI hs hu ha hma
  rw [svcReads_no (.inl e1)]
  refine jE [(0, _), (1, _)] Tryd.func7 Tryd.ntmps7 fun B hB => ?_
  repeat' (first | (refine jR ?_) | (refine k_op rfl ?_; first | refine c_bx rfl rfl rfl fun _ => ?_ | refine jV (g_ldA rfl rfl rfl rfl) ?_ | (refine jV (g_pickT rfl rfl rfl) ?_) | (refine c_rt rfl rfl rfl cx_so1 rfl ?_)) | (refine k_gt rfl rfl rfl ?_) | (refine k_tt rfl rfl ?_))
  all_goals refine jZ (vs := [_]) rfl ⟨rfl, trivial⟩ rfl ⟨rfl, rfl, ?_⟩
  all_goals rfl
 have cx_so1 : PuG Tryd.prog 5 [Ag [S s, u]] G (· = Bo true) := by rw [← e1]; exact c_ServiceOkI hs hu ha hma
 cases e2 : svcOk r b
 ·have cx_so2 : PuG Tryd.prog 5 [Ag [S r, v]] G (· = Bo false) := by rw [← e2]; exact c_ServiceOkI hr hv hb hmb
  rw [svcReads_no (.inr e2)]
  refine jE [(0, _), (1, _)] Tryd.func7 Tryd.ntmps7 fun B hB => ?_
  repeat' (first | (refine jR ?_) | (refine k_op rfl ?_; first | refine c_bx rfl rfl rfl fun _ => ?_ | refine jV (g_ldA rfl rfl rfl rfl) ?_ | (refine jV (g_pickF rfl rfl rfl) ?_) | (refine c_rt rfl rfl rfl cx_so1 rfl ?_) | (refine c_rt rfl rfl rfl cx_so2 rfl ?_)) | (refine k_gf rfl rfl rfl ?_) | (refine k_tt rfl rfl ?_))
  all_goals refine jZ (vs := [_]) rfl ⟨rfl, trivial⟩ rfl ⟨rfl, rfl, ?_⟩
  all_goals rfl
 have cx_so2 : PuG Tryd.prog 5 [Ag [S r, v]] G (· = Bo true) := by rw [← e2]; exact c_ServiceOkI hr hv hb hmb
 refine jE [(0, _), (1, _)] Tryd.func7 Tryd.ntmps7 fun B hB => ?_
 repeat' (first | (refine jR ?_) | (refine k_op rfl ?_; first | refine c_bx rfl rfl rfl fun _ => ?_ | refine jV (g_ld rfl rfl rfl) ?_ | refine jV (g_ldA rfl rfl rfl rfl) ?_ | (refine jV (g_pickF rfl rfl rfl) ?_) | refine jV (g_lenV rfl (by assumption)) ?_ | (refine c_rt rfl rfl rfl cx_so1 rfl ?_) | (refine c_rt rfl rfl rfl cx_so2 rfl ?_)) | (refine k_gf rfl rfl rfl ?_) | (refine k_ff rfl rfl ?_))
 rename_i x2 x3
 refine k_loop (ι := Nat) (fun i => i ≤ b.length ∧ ∀ k, k < i → rdAt s a r (nth b k) = true) (fun i => [(2, Pt x2 0), (3, Pt x3 0), (18, v), (19, I b.length), (20, I i)]) (fun _ => G) (fun i => [.blk x3 (.cells (List.toArray [S r, v]) tSrI (0, 0)), .blk x2 (.cells (List.toArray [S s, u]) tSrI (0, 0))]) (fun i => b.length - i) 0 ?_ (by repeat' constructor) rfl sRr (fun i Hi => ?_)
 ·exact ⟨Nat.zero_le _, fun k hk => absurd hk (by omega)⟩
 by_cases hi : i < b.length
 case neg =>
  repeat' (first | (refine jR ?_) | (refine k_ff rfl (dFf (by omega)) ?_))
  refine jZ (vs := [_]) rfl ⟨rfl, trivial⟩ rfl ⟨rfl, rfl, ?_⟩
  rw [oneOf_one, svcReads_yes e1 e2 (fun k hk => Hi.2 k (by omega))]
 obtain ⟨bb, ob, cb, rfl, sb⟩ := hv.expl (by omega)
 have hxo := hmb _ (nth_mem hi)
 have cx_f0 := c_method (s := s) (x := (nth b i).1) hu ha
 cases hf : mFind a (nth b i).1 with
 | none =>
  rw [hf] at cx_f0
  have cx_find : PuG Tryd.prog 16 [Ag [S s, u], S (nth b i).1] G (· = Tu [Ag [S [], S [], S []], Bo false]) := cx_f0
  have hb2 : rdAt s a r (nth b i) = false := by unfold rdAt; rw [hf]
  repeat' (first | (refine jR ?_) | (refine k_op rfl ?_; first | refine jV (g_ld rfl rfl rfl) ?_ | (refine jV (g_ldR rfl rfl (by assumption) ?_) ?_; (focus ((omega); done))) | refine jV (g_ldA rfl rfl rfl rfl) ?_ | (refine jV (g_pickT rfl rfl rfl) ?_) | (refine jV (g_iaddrN rfl rfl (by omega)) ?_) | refine c_al rfl rfl fun _ => ?_ | refine c_stA rfl rfl rfl rfl rfl rfl ?_ | (refine c_rt rfl rfl rfl cx_find rfl ?_)) | (refine k_gt rfl rfl rfl ?_) | (refine k_tt rfl (by first | rfl | (refine decide_eq_true ?_; (omega))) ?_))
  all_goals refine jZ (vs := [_]) rfl ⟨rfl, trivial⟩ rfl ⟨rfl, rfl, ?_⟩
  all_goals rw [oneOf_one, svcReads_at hi hb2]
 | some m =>
  rw [hf] at cx_f0
  have cx_find : PuG Tryd.prog 16 [Ag [S s, u], S (nth b i).1] G (· = Tu [Ag [S m.1, S m.2.1, S m.2.2], Bo true]) := cx_f0
  have hxm := hma _ (List.mem_of_find?_eq_some hf)
  have cx_eva := c_EvolveReadsI (G := G) (s := s) (k := m.2.1) (r := r) (l := (nth b i).2.1) (by omega) (by omega) (by omega) (by omega)
  have cx_evb := c_EvolveReadsI (G := G) (s := r) (k := (nth b i).2.2) (r := s) (l := m.2.2) (by omega) (by omega) (by omega) (by omega)
  have hrd : rdAt s a r (nth b i) = (evReads s m.2.1 r (nth b i).2.1 && evReads r (nth b i).2.2 s m.2.2) := by unfold rdAt; rw [hf]
  generalize evReads s m.2.1 r (nth b i).2.1 = qa at cx_eva hrd
  generalize evReads r (nth b i).2.2 s m.2.2 = qb at cx_evb hrd
  cases qa
  ·repeat' (first | (refine jR ?_) | (refine k_op rfl ?_; first | refine jV (g_ld rfl rfl rfl) ?_ | (refine jV (g_ldR rfl rfl (by assumption) ?_) ?_; (focus ((omega); done))) | refine jV (g_ldA rfl rfl rfl rfl) ?_ | (refine jV (g_pickT rfl rfl rfl) ?_) | (refine jV (g_pickF rfl rfl rfl) ?_) | (refine jV (g_iaddrN rfl rfl (by omega)) ?_) | refine c_al rfl rfl fun _ => ?_ | refine c_stA rfl rfl rfl rfl rfl rfl ?_ | (refine c_rt rfl rfl rfl cx_find rfl ?_) | (refine c_rt rfl rfl rfl cx_eva rfl ?_)) | (refine k_gt rfl rfl rfl ?_) | (refine k_gf rfl rfl rfl ?_) | (refine k_tt rfl (by first | rfl | (refine decide_eq_true ?_; (omega))) ?_))
   all_goals refine jZ (vs := [_]) rfl ⟨rfl, trivial⟩ rfl ⟨rfl, rfl, ?_⟩
   all_goals rw [oneOf_one, svcReads_at hi hrd]
  cases qb
  ·repeat' (first | (refine jR ?_) | (refine k_op rfl ?_; first | refine jV (g_ld rfl rfl rfl) ?_ | (refine jV (g_ldR rfl rfl (by assumption) ?_) ?_; (focus ((omega); done))) | refine jV (g_ldA rfl rfl rfl rfl) ?_ | (refine jV (g_pickF rfl rfl rfl) ?_) | (refine jV (g_iaddrN rfl rfl (by omega)) ?_) | refine c_al rfl rfl fun _ => ?_ | refine c_stA rfl rfl rfl rfl rfl rfl ?_ | (refine c_rt rfl rfl rfl cx_find rfl ?_) | (refine c_rt rfl rfl rfl cx_eva rfl ?_) | (refine c_rt rfl rfl rfl cx_evb rfl ?_)) | (refine k_gf rfl rfl rfl ?_) | (refine k_tt rfl (by first | rfl | (refine decide_eq_true ?_; (omega))) ?_))
   all_goals refine jZ (vs := [_]) rfl ⟨rfl, trivial⟩ rfl ⟨rfl, rfl, ?_⟩
   all_goals rw [oneOf_one, svcReads_at hi hrd]
  repeat' (first | refine jM ?_ | (refine k_op rfl ?_; first | refine jV (g_ld rfl rfl rfl) ?_ | (refine jV (g_ldR rfl rfl (by assumption) ?_) ?_; (focus ((omega); done))) | refine jV (g_ldA rfl rfl rfl rfl) ?_ | (refine jV (g_pickF rfl rfl rfl) ?_) | (refine jV (g_iaddrN rfl rfl (by omega)) ?_) | refine c_al rfl rfl fun _ => ?_ | refine c_stA rfl rfl rfl rfl rfl rfl ?_ | (refine c_rt rfl rfl rfl cx_find rfl ?_) | (refine c_rt rfl rfl rfl cx_eva rfl ?_) | (refine c_rt rfl rfl rfl cx_evb rfl ?_)) | (refine k_gf rfl rfl rfl ?_) | (refine k_tt rfl (dTt (by omega)) ?_) | (refine k_ff rfl rfl ?_))
  all_goals
   refine k_rd (i + 1) ⟨by omega, fun k hk => ?_⟩ (by omega) (by repeat' constructor) rfl (by repeat (first | exact List.Sublist.refl _ | apply List.Sublist.cons))
   rcases Nat.lt_or_ge k i with h3 | h3
   ·exact Hi.2 k h3
   ·have : k = i := by omega
    subst this; exact hrd
end Go.E
namespace Go.E
set_option maxRecDepth 20000
set_option maxHeartbeats 2000000
theorem fldT_self {fs : List Fld} (h : fs.Pairwise fun g f => g.tag < f.tag ∧ g.name ≠ f.name) : ∀ f ∈ fs, fldT fs f.tag = some f := by
 induction fs with
 | nil => intro f hf; cases hf
 | cons g fs ih =>
  intro f hf
  rw [List.pairwise_cons] at h
  unfold fldT
  rw [List.find?_cons]
  rcases List.mem_cons.1 hf with rfl | hf
  ·simp
  ·have := (h.1 f hf).1
   have hne : ¬ g.tag = f.tag := by omega
   simp only [hne, decide_false]
   exact ih h.2 f hf
theorem evoF_refl {ts : List Ty} {t : Ty} {kk : List UInt8 → List UInt8 → List Pr → Bool × List Pr} {m0 : Nat} (hw : SchW ts) (ht : t ∈ ts)
  (hk : ∀ (k : List UInt8) (m : List Pr), m0 ≤ m.length → AskW ts ts m → kindIn ts k = true → (kk k k m).1 = true ∧ Grows ts ts m (kk k k m).2) :
  ∀ (gs : List Fld) (m : List Pr), (∀ g ∈ gs, g ∈ t.fields) → m0 ≤ m.length → AskW ts ts m → (evoF ts ts kk t t gs m).1 = true
 | [], _, _, _, _ => rfl
 | g :: gs, m, hg, hm, ha => by
  have hgm := hg g (.head _)
  have hself := fldT_self (hw.ty t ht).asc g hgm
  have hrest := fun x hx => hg x (.tail _ hx)
  rw [evoF, hself]
  dsimp only
  by_cases h69 : t.sort = 69
  ·rw [if_pos h69]; exact evoF_refl hw ht hk gs m hrest hm ha
  ·rw [if_neg h69]
   obtain ⟨h1, h2⟩ := hk g.kind m hm ha (kind_in hw ht h69 hgm)
   rw [if_neg (by rw [h1]; simp), if_neg (fun h => h.2 rfl)]
   exact evoF_refl hw ht hk gs _ hrest (Nat.le_trans hm h2.2) h2.1
theorem evoK_refl {ts : List Ty} (hw : SchW ts) : ∀ (n : Nat) (k : List UInt8) (m : List Pr), AskW ts ts m → ts.length * ts.length < m.length + n → kindIn ts k = true → (evoK ts ts n k k m).1 = true
 | 0, k, m, ha, hf, _ => by have := ha.len; omega
 | n + 1, k, m, ha, hf, hk => by
  rw [evoK, if_neg (fun h => h rfl)]
  cases hr : refT ts (core k) with
  | none => simp
  | some t =>
   dsimp only
   have ht := refT_mem hr
   unfold evoP
   by_cases hm : (t.name, t.name) ∈ m
   ·rw [if_pos hm]
   ·rw [if_neg hm, evoT, if_neg (fun h => h rfl)]
    have ha' := ha.snoc ht ht hm
    have hl : (m ++ [(t.name, t.name)]).length = m.length + 1 := by simp
    exact evoF_refl (m0 := m.length + 1) hw ht (fun k' m' h1 h2 h3 => ⟨evoK_refl hw n k' m' h2 (by omega) h3, evoK_grows n k' k' m' h2⟩) t.fields _ (fun g hg => hg) (by omega) ha'
theorem evReads_refl {s k : List UInt8} {ts : List Ty} (hs : schemaOf s = some ts) (hk : kindIn ts k = true) : evReads s k s k = true := by
 unfold evReads
 rw [hs]
 dsimp only
 rw [hk, evoK_refl (schemaOf_w hs) _ k [] AskW.nil (by simp) hk]; rfl
theorem bl_irr : ∀ x : List UInt8, Op.bytesLess x x = false
 | [] => rfl
 | a :: x => by rw [Op.bytesLess, bl_irr x]; simp
theorem bl_trans : ∀ {x y z : List UInt8}, Op.bytesLess x y = true → Op.bytesLess y z = true → Op.bytesLess x z = true
 | _, [], _, h, _ => by simp [Op.bytesLess] at h
 | _, _ :: _, [], _, h => by simp [Op.bytesLess] at h
 | [], _ :: _, _ :: _, _, _ => rfl
 | a :: x, b :: y, c :: z, h1, h2 => by
  simp only [Op.bytesLess, Bool.or_eq_true, Bool.and_eq_true, decide_eq_true_eq, beq_iff_eq] at h1 h2 ⊢
  rcases h1 with h1 | ⟨rfl, h1⟩
  ·rcases h2 with h2 | ⟨rfl, h2⟩
   ·exact .inl (UInt8.lt_trans h1 h2)
   ·exact .inl h1
  ·rcases h2 with h2 | ⟨rfl, h2⟩
   ·exact .inl h2
   ·exact .inr ⟨rfl, bl_trans h1 h2⟩
theorem names_lt {s : List UInt8} {a : List Mt} (h : ∀ k, k < a.length → goodAt s a k = true) {i : Nat} : ∀ j, i < j → j < a.length → Op.bytesLess (nth a i).1 (nth a j).1 = true := by
 intro j
 induction j with
 | zero => intro h1; omega
 | succ j ih =>
  intro h1 h2
  have hg := h (j + 1) h2
  unfold goodAt at hg
  simp only [Bool.and_eq_true, Bool.or_eq_true, Nat.add_sub_cancel] at hg
  have h3 : Op.bytesLess (nth a j).1 (nth a (j + 1)).1 = true := by
   rcases hg.2 with h4 | h4
   ·simp at h4
   ·exact h4
  by_cases hij : i = j
  ·subst hij; exact h3
  ·exact bl_trans (ih (by omega) (by omega)) h3
theorem svcOk_good {s : List UInt8} {a : List Mt} (h : svcOk s a = true) : ∀ k, k < a.length → goodAt s a k = true := by
 unfold svcOk at h
 simp only [Bool.and_eq_true, List.all_eq_true, List.mem_range] at h
 exact h.2
theorem mFind_self {s : List UInt8} {a : List Mt} (h : svcOk s a = true) {i : Nat} (hi : i < a.length) : mFind a (nth a i).1 = some (nth a i) :=
 mFind_at hi (fun k hk e => by
  have := names_lt (svcOk_good h) (i := k) i hk hi
  rw [e, bl_irr] at this; cases this) rfl
theorem evReads_self {s k : List UInt8} (h : kindS s k = true) : evReads s k s k = true := by
 obtain ⟨ts, h1, h2, _⟩ := kindS_some h
 exact evReads_refl h1 h2
theorem svcReads_self {s : List UInt8} {a : List Mt} : svcReads s a s a = svcOk s a := by
 cases h : svcOk s a with
 | false => exact svcReads_no (.inl h)
 | true =>
  refine svcReads_yes h h fun k hk => ?_
  have hg := svcOk_good h k hk
  unfold goodAt mtOk at hg
  simp only [Bool.and_eq_true] at hg
  unfold rdAt
  rw [mFind_self h hk]
  dsimp only
  rw [evReads_self hg.1.1.1, evReads_self hg.1.1.2]; rfl
end Go.E
namespace Go.E
set_option maxRecDepth 20000
set_option maxHeartbeats 2000000
open Go.Proofs
variable {G : Gh}
abbrev tMtS : TypeId := 35
abbrev tSvS : TypeId := 25
abbrev tStS : TypeId := 9
theorem c_l91Name {r : Nat} {code : Value} {p : Int} {l : List UInt8} (hp : 0 ≤ p ∧ p ≤ 500000000000) (hs : SlV G code 1 l.length (u8s l)) :
  FnG Tryd.prog 21 [Pt r 0] G [rdO r code p tRdr] (fun v L' => ∃ x q, v = S x ∧ x.length ≤ 64 ∧ L' = [rdO r code q tRdr] ∧ p ≤ q ∧ q ≤ p + 10) := by
 refine jH [(0, _)] Tryd.func21 Tryd.ntmps21 fun B hB hW => ?_
 repeat' (first | (refine jR ?_) | (refine k_op rfl ?_; first | refine c_bsl rfl rfl rfl rfl rfl rfl fun _ => ?_ | (refine jV (g_iaddr rfl rfl (by omega)) ?_) | (refine c_ldMS 64 rfl rfl rfl ?_ rfl (fun xs hxs => ?_); (focus ((simp only [List.length_append, List.length_cons, List.length_nil, List.length_take]; omega); done))) | (refine c_m1g rfl rfl rfl (c_pick ?_ (by (repeat (assumption)); done)) rfl ?_; (focus ((omega); done)); rintro _ _ ⟨k, rfl, rfl, hk0, hk1⟩; dsimp only [zA, fA])) | refine k_if rfl (fun _ => ?_) (fun _ => ?_))
 all_goals exact k_rr (vs := [_]) rfl ⟨rfl, trivial⟩ rfl (by repeat (first | exact List.nil_sublist _ | apply List.Sublist.cons_cons)) ⟨rfl, _, _, rfl, by omega, rfl, by omega, by omega⟩
theorem mt_snoc {ms : List Mt} {a b c : List UInt8} : rows mtF ms ++ [S a, S b, S c] = rows mtF (ms ++ [(a, b, c)]) := (rows_snoc mtF ms (a, b, c)).symm
theorem mt_len {ms : List Mt} {x : Mt} : ms.length + 1 = (ms ++ [x]).length := by simp
theorem mt_all {ms : List Mt} {x : Mt} (h : ∀ y ∈ ms, MtL y) (hx : MtL x) : ∀ y ∈ ms ++ [x], MtL y := by
 intro y hy
 rcases List.mem_append.mp hy with hy | hy
 ·exact h y hy
 ·rw [List.mem_singleton.mp hy]; exact hx
theorem c_l91Service {r : Nat} {code : Value} {p : Int} {l : List UInt8} (hp : 0 ≤ p ∧ p ≤ 400000000000) (hs : SlV G code 1 l.length (u8s l)) :
  FnM Tryd.prog 9 [Pt r 0] G [rdO r code p tRdr] (fun v G' L' => ∃ s a ms c q, v = Ag [S s, .slice a (ms : List Mt).length c] ∧ SlV G' (.slice a ms.length c) 3 ms.length (rows mtF ms) ∧ (s.length ≤ 20000 ∧ ms.length ≤ 4 ∧ ∀ x ∈ ms, MtL x) ∧ L' = [rdO r code q tRdr] ∧ p ≤ q ∧ q ≤ p + 2000) := by
 refine m_enter [(0, _)] Tryd.func9 (by kernel_rfl) Tryd.ntmps9 rfl rfl (by repeat' constructor) fun B hB hW => ?_
 repeat' (first | (refine jR ?_) | (refine k_op rfl ?_; first | refine c_al rfl rfl fun _ => ?_ | refine jV (g_bld rfl rfl) ?_ | refine c_stA rfl rfl rfl rfl rfl rfl ?_ | refine c_bsl rfl rfl rfl rfl rfl rfl fun _ => ?_ | (refine c_m1g rfl rfl rfl (c_l91Schema ?_ (by (repeat (assumption)); done)) rfl ?_; (focus ((omega); done)); rintro _ _ ⟨sc, q1, rfl, hsc, rfl, hq1, hq2⟩; dsimp only [zA, fA])))
 rename_i y2 y4 yN
 refine Nx.addNil tMtS 3 (Nx.perm ((List.perm_middle (l₁ := [_, _])).cons _) ?_)
 dsimp only [zA, fA]
 refine k_loop (ι := List Mt × Option Addr × Nat × Nat × Int) (fun j => (j.1.length ≤ j.2.2.2.1 ∧ j.2.2.2.1 ≤ 3) ∧ (∀ x ∈ j.1, MtL x) ∧ p ≤ j.2.2.2.2 ∧ j.2.2.2.2 ≤ p + 701 + 100 * ((j.2.2.2.1 : Nat) : Int)) (fun j => [(0, Pt r 0), (2, Pt y2 0), (3, S sc), (4, Pt y4 0), (5, .slice (some ⟨yN, 0, none⟩) 3 3), (6, I ((j.2.2.2.1 : Nat) : Int))]) (fun _ => G) (fun j => [.acc (.slice j.2.1 j.1.length j.2.2.1) tMtS 3 j.1.length (rows mtF j.1), rdO r code j.2.2.2.2 tRdr, .blk yN (.cells (List.toArray [S [97, 100, 100], S [103, 101, 116], S [112, 117, 116]]) tStS (0, 0)), .blk y4 (.cells (List.toArray [S sc, .slice j.2.1 j.1.length j.2.2.1]) tSvS (0, 0)), .blk y2 (.cells (List.toArray [S [], nilS]) tSvS (0, 0))]) (fun j => 3 - j.2.2.2.1) ([], none, 0, 0, q1) ?_ (by repeat' constructor) rfl sRr (fun j Hj => ?_)
 ·exact ⟨⟨by dsimp only; exact Nat.le_refl _, by dsimp only; omega⟩, by simp, by dsimp only; omega, by dsimp only; omega⟩
 obtain ⟨ms, a, c, i, q⟩ := j
 dsimp only at Hj ⊢
 obtain ⟨hil, hms, hq3, hq4⟩ := Hj
 by_cases hi : i < 3
 ·rcases (show i = 0 ∨ i = 1 ∨ i = 2 by omega) with rfl | rfl | rfl
  all_goals
   repeat' (first | refine jM ?_ | (refine k_op rfl ?_; (refine c_m1g rfl rfl rfl (c_pick ?_ (by (repeat (assumption)); done)) rfl ?_; (focus ((omega); done)); rintro _ _ ⟨k, rfl, rfl, hk0, hk1⟩; dsimp only [zA, fA])) | (refine k_tt rfl rfl ?_) | refine k_if rfl (fun _ => ?_) (fun _ => ?_))
   ·(refine k_any (s_any (id := 8) [.blk yN (.cells (List.toArray [S [97, 100, 100], S [103, 101, 116], S [112, 117, 116]]) tStS (0, 0))] (by intro y hy; simp only [List.mem_cons, List.not_mem_nil, or_false] at hy ⊢; simp [hy]) mixed ?_); refine jU 10 [0, 2, 3, 6, 7, 9, 10] (bts 17 1741) ?_ ?_; (focus (repeat' (exact trivial))); ((refine jG (bts 17 1757) 4 rfl (g_iaddrN rfl rfl ?_) ?_; (focus ((omega); done)))); (refine jG (bts 17 1789) 5 rfl (g_ld rfl rfl rfl) ?_); refine x_all [1, 8] (by kernel_rfl) (by decide) ⟨?_, ?_, trivial⟩; (focus (refine x_opg rfl rfl ?_; (refine jV (g_ld rfl rfl rfl) ?_); refine jK (bts 17 1791) ?_; refine jA 8 rfl ?_; ((refine c_m1g rfl rfl rfl (c_l91Some ?_ (by (repeat (assumption)); done) ?_) rfl ?_; (focus ((omega); done)); (focus ((omega); done)); rintro _ _ ⟨kd, q1, rfl, hkd, rfl, hq1, hq2⟩; dsimp only [zA, fA])); refine jK (bts 17 2047) ?_; refine jA 11 rfl ?_; ((refine c_m1g rfl rfl rfl (c_l91Some ?_ (by (repeat (assumption)); done) ?_) rfl ?_; (focus ((omega); done)); (focus ((omega); done)); rintro _ _ ⟨kd, q1, rfl, hkd, rfl, hq1, hq2⟩; dsimp only [zA, fA])); refine jK (bts 17 4095) ?_; (refine jG (bts 17 8191) 12 rfl (g_bld rfl rfl) ?_); refine jA 13 rfl ?_; (refine c_bsl rfl rfl rfl rfl rfl rfl fun _ => ?_); refine jK (bts 17 16383) ?_; refine jA 14 rfl ?_; ((refine c_apX rfl rfl rfl rfl rfl rfl rfl rfl rfl ?_ fun _ _ => ?_; (focus ((omega); done)))); refine jK (bts 17 32767) ?_; refine jU 1 [15] (bts 17 65535) ?_ ?_; (focus (repeat' (exact trivial))); refine jA 16 rfl ?_; (refine c_st1 rfl rfl rfl rfl ?_); refine jK (bts 17 131071) ?_; refine x_done (by kernel_rfl) (k_bk ?_))); rotate_left 1; (focus (refine x_opg rfl rfl ?_; ((refine c_m1g rfl rfl rfl (c_l91Some ?_ (by (repeat (assumption)); done) ?_) rfl ?_; (focus ((omega); done)); (focus ((omega); done)); rintro _ _ ⟨kd, q1, rfl, hkd, rfl, hq1, hq2⟩; dsimp only [zA, fA])); refine jK (bts 17 2045) ?_; refine x_all [1, 11] (by kernel_rfl) (by decide) ⟨?_, ?_, trivial⟩; (focus (refine x_opg rfl rfl ?_; (refine jV (g_ld rfl rfl rfl) ?_); refine jK (bts 17 2047) ?_; refine jA 11 rfl ?_; ((refine c_m1g rfl rfl rfl (c_l91Some ?_ (by (repeat (assumption)); done) ?_) rfl ?_; (focus ((omega); done)); (focus ((omega); done)); rintro _ _ ⟨kd, q1, rfl, hkd, rfl, hq1, hq2⟩; dsimp only [zA, fA])); refine jK (bts 17 4095) ?_; (refine jG (bts 17 8191) 12 rfl (g_bld rfl rfl) ?_); refine jA 13 rfl ?_; (refine c_bsl rfl rfl rfl rfl rfl rfl fun _ => ?_); refine jK (bts 17 16383) ?_; refine jA 14 rfl ?_; ((refine c_apX rfl rfl rfl rfl rfl rfl rfl rfl rfl ?_ fun _ _ => ?_; (focus ((omega); done)))); refine jK (bts 17 32767) ?_; refine jU 1 [15] (bts 17 65535) ?_ ?_; (focus (repeat' (exact trivial))); refine jA 16 rfl ?_; (refine c_st1 rfl rfl rfl rfl ?_); refine jK (bts 17 131071) ?_; refine x_done (by kernel_rfl) (k_bk ?_))); rotate_left 1; (focus (refine x_opg rfl rfl ?_; ((refine c_m1g rfl rfl rfl (c_l91Some ?_ (by (repeat (assumption)); done) ?_) rfl ?_; (focus ((omega); done)); (focus ((omega); done)); rintro _ _ ⟨kd, q1, rfl, hkd, rfl, hq1, hq2⟩; dsimp only [zA, fA])); refine jK (bts 17 4093) ?_; (refine jG (bts 17 8189) 12 rfl (g_bld rfl rfl) ?_); refine x_all [1, 13] (by kernel_rfl) (by decide) ⟨?_, ?_, trivial⟩; (focus (refine x_opg rfl rfl ?_; (refine jV (g_ld rfl rfl rfl) ?_); refine jK (bts 17 8191) ?_; refine jA 13 rfl ?_; (refine c_bsl rfl rfl rfl rfl rfl rfl fun _ => ?_); refine jK (bts 17 16383) ?_; refine jA 14 rfl ?_; ((refine c_apX rfl rfl rfl rfl rfl rfl rfl rfl rfl ?_ fun _ _ => ?_; (focus ((omega); done)))); refine jK (bts 17 32767) ?_; refine jU 1 [15] (bts 17 65535) ?_ ?_; (focus (repeat' (exact trivial))); refine jA 16 rfl ?_; (refine c_st1 rfl rfl rfl rfl ?_); refine jK (bts 17 131071) ?_; refine x_done (by kernel_rfl) (k_bk ?_))); rotate_left 1; (focus (refine x_opg rfl rfl ?_; (refine c_bsl rfl rfl rfl rfl rfl rfl fun _ => ?_); refine jK (bts 17 16381) ?_; refine jA 1 rfl ?_; (refine jV (g_ld rfl rfl rfl) ?_); refine jK (bts 17 16383) ?_; refine jA 14 rfl ?_; ((refine c_apX rfl rfl rfl rfl rfl rfl rfl rfl rfl ?_ fun _ _ => ?_; (focus ((omega); done)))); refine jK (bts 17 32767) ?_; refine jU 1 [15] (bts 17 65535) ?_ ?_; (focus (repeat' (exact trivial))); refine jA 16 rfl ?_; (refine c_st1 rfl rfl rfl rfl ?_); refine jK (bts 17 131071) ?_; refine x_done (by kernel_rfl) (k_bk ?_))); rotate_left 1)); rotate_left 2)); rotate_left 3)
    all_goals repeat' (refine jM ?_)
    all_goals
     rename_i kd1 q0 hkd1 hqa hqb n1 n2 n3
     first | (rw [mt_snoc (ms := ms) (a := [97, 100, 100]) (b := kd1) (c := kd), mt_len (ms := ms) (x := ([97, 100, 100], kd1, kd))]; exact k_rd (ms ++ [([97, 100, 100], kd1, kd)], some ⟨n2, 0, none⟩, n3, 0 + 1, q1) ⟨⟨by dsimp only; rw [← mt_len]; omega, by dsimp only; omega⟩, mt_all hms ⟨by simp, by dsimp only; omega, by dsimp only; omega⟩, by dsimp only; omega, by dsimp only; omega⟩ (by dsimp only; omega) (by repeat' constructor) rfl (by repeat (first | exact List.Sublist.refl _ | apply List.Sublist.cons_cons | apply List.Sublist.cons))) | (rw [mt_snoc (ms := ms) (a := [103, 101, 116]) (b := kd1) (c := kd), mt_len (ms := ms) (x := ([103, 101, 116], kd1, kd))]; exact k_rd (ms ++ [([103, 101, 116], kd1, kd)], some ⟨n2, 0, none⟩, n3, 1 + 1, q1) ⟨⟨by dsimp only; rw [← mt_len]; omega, by dsimp only; omega⟩, mt_all hms ⟨by simp, by dsimp only; omega, by dsimp only; omega⟩, by dsimp only; omega, by dsimp only; omega⟩ (by dsimp only; omega) (by repeat' constructor) rfl (by repeat (first | exact List.Sublist.refl _ | apply List.Sublist.cons_cons | apply List.Sublist.cons))) | (rw [mt_snoc (ms := ms) (a := [112, 117, 116]) (b := kd1) (c := kd), mt_len (ms := ms) (x := ([112, 117, 116], kd1, kd))]; exact k_rd (ms ++ [([112, 117, 116], kd1, kd)], some ⟨n2, 0, none⟩, n3, 2 + 1, q1) ⟨⟨by dsimp only; rw [← mt_len]; omega, by dsimp only; omega⟩, mt_all hms ⟨by simp, by dsimp only; omega, by dsimp only; omega⟩, by dsimp only; omega, by dsimp only; omega⟩ (by dsimp only; omega) (by repeat' constructor) rfl (by repeat (first | exact List.Sublist.refl _ | apply List.Sublist.cons_cons | apply List.Sublist.cons)))
   ·refine Nx.perm (List.Perm.swap _ _ _) ?_
    first | (exact k_rd (ms, a, c, 0 + 1, q + 1) ⟨⟨by dsimp only; omega, by dsimp only; omega⟩, hms, by dsimp only; omega, by dsimp only; omega⟩ (by dsimp only; omega) (by repeat' constructor) rfl sRr) | (exact k_rd (ms, a, c, 1 + 1, q + 1) ⟨⟨by dsimp only; omega, by dsimp only; omega⟩, hms, by dsimp only; omega, by dsimp only; omega⟩ (by dsimp only; omega) (by repeat' constructor) rfl sRr) | (exact k_rd (ms, a, c, 2 + 1, q + 1) ⟨⟨by dsimp only; omega, by dsimp only; omega⟩, hms, by dsimp only; omega, by dsimp only; omega⟩ (by dsimp only; omega) (by repeat' constructor) rfl sRr)
 ·repeat' (first | (refine jR ?_) | (refine k_op rfl ?_; first | refine c_stA rfl rfl rfl rfl rfl rfl ?_ | refine jV (g_ldA rfl rfl rfl rfl) ?_ | (refine c_m1g rfl rfl rfl (c_pick ?_ (by (repeat (assumption)); done)) rfl ?_; (focus ((omega); done)); rintro _ _ ⟨k, rfl, rfl, hk0, hk1⟩; dsimp only [zA, fA])) | (refine k_ff rfl (dFf (by omega)) ?_) | refine k_if rfl (fun _ => ?_) (fun _ => ?_))
  ·(refine k_any (s_any (id := 10) [] (fun _ h => absurd h (by simp)) mixed ?_); refine jU 7 [0, 2] (bts 9 5) ?_ ?_; (focus (repeat' (exact trivial))); refine x_all [1, 3] (by kernel_rfl) (by decide) ⟨?_, ?_, trivial⟩; (focus (refine x_opg rfl rfl ?_; (refine jV (g_ld rfl rfl rfl) ?_); refine jK (bts 9 7) ?_; refine jA 3 rfl ?_; ((refine c_m1g rfl rfl rfl (c_l91Name ?_ (by (repeat (assumption)); done)) rfl ?_; (focus ((omega); done)); rintro _ _ ⟨nx, q1, rfl, hnx, rfl, hq1, hq2⟩; dsimp only [zA, fA])); refine jK (bts 9 15) ?_; (refine jG (bts 9 31) 4 rfl (g_bld rfl rfl) ?_); refine jA 5 rfl ?_; (refine c_bsl rfl rfl rfl rfl rfl rfl fun _ => ?_); refine jK (bts 9 63) ?_; refine jA 6 rfl ?_; ((refine c_apX rfl rfl rfl rfl rfl rfl rfl rfl rfl ?_ fun _ _ => ?_; (focus ((omega); done)))); refine jK (bts 9 127) ?_; refine jU 1 [7] (bts 9 255) ?_ ?_; (focus (repeat' (exact trivial))); refine jA 8 rfl ?_; (refine c_st1 rfl rfl rfl rfl ?_); refine jK (bts 9 511) ?_; refine x_done (by kernel_rfl) (k_bk ?_))); rotate_left 1; (focus (refine x_opg rfl rfl ?_; ((refine c_m1g rfl rfl rfl (c_l91Name ?_ (by (repeat (assumption)); done)) rfl ?_; (focus ((omega); done)); rintro _ _ ⟨nx, q1, rfl, hnx, rfl, hq1, hq2⟩; dsimp only [zA, fA])); refine jK (bts 9 13) ?_; (refine jG (bts 9 29) 4 rfl (g_bld rfl rfl) ?_); refine x_all [1, 5] (by kernel_rfl) (by decide) ⟨?_, ?_, trivial⟩; (focus (refine x_opg rfl rfl ?_; (refine jV (g_ld rfl rfl rfl) ?_); refine jK (bts 9 31) ?_; refine jA 5 rfl ?_; (refine c_bsl rfl rfl rfl rfl rfl rfl fun _ => ?_); refine jK (bts 9 63) ?_; refine jA 6 rfl ?_; ((refine c_apX rfl rfl rfl rfl rfl rfl rfl rfl rfl ?_ fun _ _ => ?_; (focus ((omega); done)))); refine jK (bts 9 127) ?_; refine jU 1 [7] (bts 9 255) ?_ ?_; (focus (repeat' (exact trivial))); refine jA 8 rfl ?_; (refine c_st1 rfl rfl rfl rfl ?_); refine jK (bts 9 511) ?_; refine x_done (by kernel_rfl) (k_bk ?_))); rotate_left 1; (focus (refine x_opg rfl rfl ?_; (refine c_bsl rfl rfl rfl rfl rfl rfl fun _ => ?_); refine jK (bts 9 61) ?_; refine jA 1 rfl ?_; (refine jV (g_ld rfl rfl rfl) ?_); refine jK (bts 9 63) ?_; refine jA 6 rfl ?_; ((refine c_apX rfl rfl rfl rfl rfl rfl rfl rfl rfl ?_ fun _ _ => ?_; (focus ((omega); done)))); refine jK (bts 9 127) ?_; refine jU 1 [7] (bts 9 255) ?_ ?_; (focus (repeat' (exact trivial))); refine jA 8 rfl ?_; (refine c_st1 rfl rfl rfl rfl ?_); refine jK (bts 9 511) ?_; refine x_done (by kernel_rfl) (k_bk ?_))); rotate_left 1)); rotate_left 2)
   all_goals repeat' (first | (refine jR ?_) | (refine k_op rfl ?_; first | refine c_stA rfl rfl rfl rfl rfl rfl ?_ | refine jV (g_ldA rfl rfl rfl rfl) ?_))
   all_goals
    rename_i n1 n2 n3
    rw [show rows mtF ms ++ [S nx, .string ⟨#[110]⟩, .string ⟨#[110]⟩] = rows mtF (ms ++ [(nx, [110], [110])]) from mt_snoc, mt_len (x := (nx, [110], [110]))]
    refine Nx.sealS (v := .slice (some ⟨n2, 0, none⟩) (ms ++ [(nx, [110], [110])]).length n3) fun G2 hG2 hsl => ?_
    exact k_rr (vs := [_]) rfl ⟨rc_A rfl rfl rfl rfl, trivial⟩ rfl (by repeat (first | exact List.nil_sublist _ | apply List.Sublist.cons_cons | apply List.Sublist.cons)) ⟨hG2, sc, some ⟨n2, 0, none⟩, ms ++ [(nx, [110], [110])], n3, _, rfl, hsl, ⟨by omega, by rw [← mt_len]; omega, mt_all hms ⟨by dsimp only; omega, by simp, by simp⟩⟩, rfl, by omega, by omega⟩
  ·refine Nx.sealS (v := .slice a ms.length c) fun G2 hG2 hsl => ?_
   exact k_rr (vs := [_]) rfl ⟨rc_A rfl rfl rfl rfl, trivial⟩ rfl (by repeat (first | exact List.nil_sublist _ | apply List.Sublist.cons_cons)) ⟨hG2, sc, a, ms, c, _, rfl, hsl, ⟨by omega, by omega, hms⟩, rfl, by omega, by omega⟩
theorem c_DrawServiceOk {v : Value} {l : List UInt8} (hs : SlV G v 1 l.length (u8s l)) : FnS Tryd.prog 4 [v] G (fun r G' => ∃ s a ms c, r = Ag [S s, .slice a (ms : List Mt).length c] ∧ SlV G' (.slice a ms.length c) 3 ms.length (rows mtF ms) ∧ s.length ≤ 20000 ∧ ms.length ≤ 4 ∧ (∀ x ∈ ms, MtL x) ∧ ((s.length ≤ 1048576 ∧ ms.length ≤ 1048576) ∧ (s.length ≤ 1048576 ∧ ms.length ≤ 1048576) ∧ (∀ x ∈ ms, MtL x) ∧ ∀ x ∈ ms, MtL x)) := by
 refine jB [(0, _)] Tryd.func4 Tryd.ntmps4 fun B hok hB hW => ?_
 repeat' (first | (refine jR ?_) | (refine k_op rfl ?_; first | refine c_al rfl rfl fun _ => ?_ | refine c_stA rfl rfl rfl rfl rfl rfl ?_ | (refine c_fng rfl rfl rfl (c_l6Open (by (repeat (assumption)); done)) rfl ?_; rintro _ _ ⟨b, code, l, rfl, rfl, hcd, hcl⟩; dsimp only [zA, fA]) | (refine c_m1s rfl rfl rfl (c_l91Service ?_ (by (repeat (assumption)); done)) rfl ?_; (focus ((omega); done)); rintro _ G1 _ hle ⟨sv, a1, ms, ca, q1, rfl, hsl1, hb1, rfl, hq1, hq2⟩; dsimp only [zA, fA]; skip)))
 all_goals exact jZ (vs := [_]) rfl ⟨rc_A rfl rfl rfl rfl, trivial⟩ rfl ⟨hle, rfl, _, _, _, _, rfl, hsl1, by omega, by omega, hb1.2.2, ⟨by omega, by omega⟩, ⟨by omega, by omega⟩, hb1.2.2, hb1.2.2⟩
theorem c_FnServiceOk {v : Value} {l : List UInt8} (hs : SlV G v 1 l.length (u8s l)) : PuG Tryd.prog 3 [v] G (· = Bo true) := by
 obtain ⟨a, cap, rfl⟩ := hs.sl
 refine jB (Post := fun v G' L' => G' = G ∧ L' = [] ∧ _) [(0, _)] Tryd.func3 Tryd.ntmps3 fun B hok hB hW => ?_
 repeat' (first | (refine jR ?_) | (refine k_op rfl ?_; first | refine jV (g_lenL rfl) ?_ | refine c_al rfl rfl fun _ => ?_ | refine c_stA rfl rfl rfl rfl rfl rfl ?_ | refine jV (g_ldA rfl rfl rfl rfl) ?_ | (refine c_fns rfl rfl rfl (c_DrawServiceOk (by (repeat (assumption)); done)) rfl ?_; rintro _ G hle ⟨sv, a1, ms, ca, rfl, hsl1, hb2, hb3, hb4, hb5⟩; skip) | (refine c_rt rfl rfl rfl (c_ServiceOkI (by omega) (by (repeat (assumption)); done) (by omega) (by (repeat (assumption)); done)) rfl ?_) | (refine c_rt rfl rfl rfl (c_ServiceOkS (by omega) (by (repeat (assumption)); done) (by omega) (by (repeat (assumption)); done)) rfl ?_) | (refine c_rt rfl rfl rfl (c_ServiceReadsI ?_ (by (repeat (assumption)); done) (by (repeat (assumption)); done)) rfl ?_; (focus ((assumption); done)))) | (refine k_ff rfl ?_ ?_; (focus ((simp [*]; done); done))) | refine k_if rfl (fun _ => ?_) (fun _ => ?_))
 ·refine Nx.base hok hB ?_
  refine jZ (vs := [_]) rfl ⟨rfl, trivial⟩ rfl ⟨rfl, rfl, ?_⟩
  rfl
 all_goals refine Nx.base hok hB ?_
 all_goals refine jZ (vs := [_]) rfl ⟨rfl, trivial⟩ rfl ⟨rfl, rfl, ?_⟩
 all_goals (rw [svcReads_self, oneOf_one]; simp; done)
end Go.E
