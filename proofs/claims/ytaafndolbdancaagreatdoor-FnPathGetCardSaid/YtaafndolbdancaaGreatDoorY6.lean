/- Contracts and plain laws that the statement rests on, part 6. Conditions: as each says. -/
import Derived.Test.YtaafndolbdancaaGreatDoorY5
set_option linter.unusedVariables false
set_option linter.unusedSimpArgs false
namespace Go.E
set_option maxRecDepth 20000
set_option maxHeartbeats 2000000
open Go.Proofs
variable {G : Gh}
theorem c_l91Kind {r : Nat} {code : Value} {p : Int} {l : List UInt8} (hp : 0 ≤ p ∧ p ≤ 900000000000) (hs : SlV G code 1 l.length (u8s l)) :
  FnG Tryz.prog 106 [Pt r 0] G [rdO r code p tRdr] (fun v L' => ∃ x q, v = S x ∧ x.length ≤ 400 ∧ L' = [rdO r code q tRdr] ∧ p ≤ q ∧ q ≤ p + 10) := by
 refine jH [(0, _)] Tryz.func106 Tryz.ntmps106 fun B hB hW => ?_
 repeat' (first | (refine jR ?_) | (refine jo ?_; first | refine jF fun _ => ?_ | (refine jV (g_iaddr rfl rfl oM) ?_) | (refine c_ldMS 64 rfl rfl rfl ?_ rfl (fun xs hxs => ?_); (focus ((simp only [List.length_append, List.length_cons, List.length_nil, List.length_take]; omega); done))) | (refine c_m1g rfl rfl rfl (c_pick ?_ (by (repeat (assumption)); done)) rfl ?_; (focus ((omega); done)); rintro _ _ ⟨k, rfl, rfl, hk0, hk1⟩; dsimp only [zA, fA])))
 refine k_loop (ι := List UInt8 × Int × Int) (fun j => (0 ≤ j.2.1 ∧ j.2.1 ≤ 3) ∧ ((j.1.length : Nat) : Int) ≤ 64 * (4 - j.2.1) ∧ p ≤ j.2.2 ∧ j.2.2 ≤ p + 5 - j.2.1) (fun j => [(0, Pt r 0), (3, S j.1), (4, I j.2.1)]) (fun _ => G) (fun j => [rdO r code j.2.2 tRdr]) (fun j => j.2.1.toNat) (xs, k, p + 1 + 1) ?_ tU rfl sB (fun j Hj => ?_)
 ·dsimp only; omega
 obtain ⟨s, kk, q⟩ := j
 dsimp only at Hj ⊢
 obtain ⟨hk, hsl, hq0, hq1⟩ := Hj
 by_cases h1 : 1 < kk
 ·repeat' (first | refine jM ?_ | (refine jo ?_; first | refine jF fun _ => ?_ | (refine jV (g_iaddr rfl rfl oM) ?_) | (refine c_ldMS 64 rfl rfl rfl ?_ rfl (fun xs hxs => ?_); (focus ((simp only [List.length_append, List.length_cons, List.length_nil, List.length_take]; omega); done))) | (refine c_m1g rfl rfl rfl (c_pick ?_ (by (repeat (assumption)); done)) rfl ?_; (focus ((omega); done)); rintro _ _ ⟨k, rfl, rfl, hk0, hk1⟩; dsimp only [zA, fA])) | (refine k_tt rfl (dTt ‹_›) ?_))
  exact k_rd (xs ++ s, kk - 1, q + 1) (by dsimp only; rw [List.length_append]; omega) (by dsimp only; omega) tU rfl sB
 ·repeat' (first | (refine jR ?_) | (refine jo ?_; first | refine jF fun _ => ?_ | (refine jV (g_iaddr rfl rfl oM) ?_) | (refine c_ldMS 64 rfl rfl rfl ?_ rfl (fun xs hxs => ?_); (focus ((simp only [List.length_append, List.length_cons, List.length_nil, List.length_take]; omega); done))) | (refine c_m1g rfl rfl rfl (c_pick ?_ (by (repeat (assumption)); done)) rfl ?_; (focus ((omega); done)); rintro _ _ ⟨k, rfl, rfl, hk0, hk1⟩; dsimp only [zA, fA])) | (refine k_ff rfl (dFf ‹_›) ?_) | refine k_if rfl (fun _ => ?_) (fun _ => ?_))
  all_goals exact k_rr (vs := [_]) rfl ⟨rfl, trivial⟩ rfl sB ⟨rfl, _, _, rfl, oM, rfl, oM, oM⟩
theorem c_l91Text {r : Nat} {code : Value} {p : Int} {l : List UInt8} (hp : 0 ≤ p ∧ p ≤ 900000000000) (hs : SlV G code 1 l.length (u8s l)) :
  FnG Tryz.prog 143 [Pt r 0] G [rdO r code p tRdr] (fun v L' => ∃ x q, v = S (39 :: (x ++ [39])) ∧ x.length ≤ 64 ∧ L' = [rdO r code q tRdr] ∧ p ≤ q ∧ q ≤ p + 10) := by
 refine jH [(0, _)] Tryz.func143 Tryz.ntmps143 fun B hB hW => ?_
 repeat' (first | (refine jX ?_) | (refine jo ?_; first | refine jF fun _ => ?_ | (refine jV (g_iaddr rfl rfl oM) ?_) | (refine c_ldMS 64 rfl rfl rfl ?_ rfl (fun xs hxs => ?_); (focus ((simp only [List.length_append, List.length_cons, List.length_nil, List.length_take]; omega); done))) | (refine c_m1g rfl rfl rfl (c_pick ?_ (by (repeat (assumption)); done)) rfl ?_; (focus ((omega); done)); rintro _ _ ⟨k, rfl, rfl, hk0, hk1⟩; dsimp only [zA, fA])))
 exact k_rr (vs := [_]) rfl ⟨rfl, trivial⟩ rfl sB ⟨rfl, xs, _, rfl, oM, rfl, oM, oM⟩
theorem c_l91Field {r : Nat} {code : Value} {p tag : Int} {l so nm : List UInt8} (hp : 0 ≤ p ∧ p ≤ 800000000000) (hs : SlV G code 1 l.length (u8s l)) (ht : 0 ≤ tag ∧ tag ≤ 1000000) (hnm : nm.length ≤ 100) :
  FnG Tryz.prog 142 [Pt r 0, S so, I tag, S nm] G [rdO r code p tRdr] (fun v L' => ∃ x q, v = S x ∧ x.length ≤ 1000 ∧ L' = [rdO r code q tRdr] ∧ p ≤ q ∧ q ≤ p + 20) := by
 have hdl := decI_len (n := tag) oM
 refine jH [(0, _), (1, _), (2, _), (3, _)] Tryz.func142 Tryz.ntmps142 fun B hB hW => ?_
 repeat' (first | (refine jX ?_) | (refine jo ?_; first | (refine jAt rfl ?_) | (refine jAf rfl ?_) | refine jF fun _ => ?_ | (refine jV (g_iaddr rfl rfl oM) ?_) | (refine c_ldMS 64 rfl rfl rfl ?_ rfl (fun xs hxs => ?_); (focus ((simp only [List.length_append, List.length_cons, List.length_nil, List.length_take]; omega); done))) | (refine c_rt rfl rfl rfl (c_l6Dec oM) rfl ?_) | (refine c_m1g rfl rfl rfl (c_l91Kind ?_ (by (repeat (assumption)); done)) rfl ?_; (focus ((omega); done)); rintro _ _ ⟨kd, q1, rfl, hkd, rfl, hq1, hq2⟩; dsimp only [zA, fA]) | (refine c_m1g rfl rfl rfl (c_pick ?_ (by (repeat (assumption)); done)) rfl ?_; (focus ((omega); done)); rintro _ _ ⟨k, rfl, rfl, hk0, hk1⟩; dsimp only [zA, fA])) | refine k_g rfl rfl (fun _ => ?_) (fun _ => ?_) | (refine k_ff rfl rfl ?_) | refine k_if rfl (fun _ => ?_) (fun _ => ?_))
 all_goals exact k_rr (vs := [_]) rfl ⟨rfl, trivial⟩ rfl sB ⟨rfl, _, _, rfl, by simp only [List.length_append, List.length_cons, List.length_nil]; omega, rfl, oM, oM⟩
theorem c_l91Type {r : Nat} {code : Value} {p : Int} {l so nm : List UInt8} (hp : 0 ≤ p ∧ p ≤ 700000000000) (hs : SlV G code 1 l.length (u8s l)) (hso : so.length ≤ 64) (hnm : nm.length ≤ 64) :
  FnG Tryz.prog 104 [Pt r 0, S so, S nm] G [rdO r code p tRdr] (fun v L' => ∃ x q, v = S x ∧ x.length ≤ 6000 ∧ 1 ≤ x.length ∧ L' = [rdO r code q tRdr] ∧ p ≤ q ∧ q ≤ p + 200) := by
 refine jH [(0, _), (1, _), (2, _)] Tryz.func104 Tryz.ntmps104 fun B hB hW => ?_
 repeat' (first | (refine jX ?_) | (refine jo ?_; first | (refine jAt rfl ?_) | (refine jAf rfl ?_) | (refine c_m1g rfl rfl rfl (c_pick ?_ (by (repeat (assumption)); done)) rfl ?_; (focus ((omega); done)); rintro _ _ ⟨k, rfl, rfl, hk0, hk1⟩; dsimp only [zA, fA])) | refine k_g rfl rfl (fun _ => ?_) (fun _ => ?_) | (refine k_ff rfl rfl ?_) | refine k_if rfl (fun _ => ?_) (fun _ => ?_))
 all_goals
  have cx_pk2 : ∀ {p : Int}, 0 ≤ p ∧ p ≤ 1000000000000 → FnG Tryz.prog 33 [Pt r 0, I 2] G [rdO r code p tRdr] (fun v L' => L' = [rdO r code (p + 1) tRdr] ∧ (v = I 0 ∨ v = I 1)) := fun {p} hp => (c_pick (b := r) (p := p) (n := 2) ⟨hp.1, hp.2, by decide⟩ hs).mono fun v G' L' ⟨h1, k, h2, h3, h4, h5⟩ => ⟨h1, h3, by subst h2; rcases (show k = 0 ∨ k = 1 by omega) with rfl | rfl; exact .inl rfl; exact .inr rfl⟩
  refine k_loop (ι := List UInt8 × Int × Int × Int × Int) (fun j => (0 ≤ j.2.2.1 ∧ j.2.2.1 ≤ j.2.2.2.1 ∧ j.2.2.2.1 ≤ 4) ∧ (0 ≤ j.2.1 ∧ j.2.1 ≤ 10 * j.2.2.1) ∧ (1 ≤ j.1.length ∧ ((j.1.length : Nat) : Int) ≤ 200 + 1001 * j.2.2.1) ∧ p ≤ j.2.2.2.2 ∧ j.2.2.2.2 ≤ p + 4 + 30 * j.2.2.1) (fun j => [(0, Pt r 0), (1, S so), (7, S j.1), (8, I j.2.1), (9, I j.2.2.2.1), (10, I j.2.2.1)]) (fun _ => G) (fun j => [rdO r code j.2.2.2.2 tRdr]) (fun j => (j.2.2.2.1 - j.2.2.1).toNat) (so ++ nm ++ [61], 0, 0, _, _) ?_ tU rfl sRr (fun j Hj => ?_)
  ·dsimp only; simp only [List.length_append, List.length_cons, List.length_nil]; omega
  obtain ⟨s, tag, kk, n, q⟩ := j
  dsimp only at Hj ⊢
  obtain ⟨hk, htg, hsl, hq0, hq1⟩ := Hj
  by_cases h1 : kk < n
  ·repeat' (first | (refine jX ?_) | (refine jo ?_; first | refine jF fun _ => ?_ | refine jV (g_bsB rfl rfl (by (repeat (first | exact BL.nil | apply BL.cons)); done)) ?_ | (refine c_m1g rfl rfl rfl (cx_pk2 oM) rfl ?_; rintro _ _ ⟨rfl, rfl | rfl⟩ <;> dsimp only [zA, fA]) | (refine c_m1g rfl rfl rfl (c_pick ?_ (by (repeat (assumption)); done)) rfl ?_; (focus ((omega); done)); rintro _ _ ⟨k, rfl, rfl, hk0, hk1⟩; dsimp only [zA, fA]) | (refine c_m1g rfl rfl rfl (c_l91Field ?_ (by (repeat (assumption)); done) ?_ ?_) rfl ?_; (focus ((omega); done)); (focus ((omega); done)); (focus ((simp; done); done)); rintro _ _ ⟨fd, q1, rfl, hfd, rfl, hq1, hq2⟩; dsimp only [zA, fA])) | (refine k_tt rfl (dTt ‹_›) ?_) | refine k_if rfl (fun _ => ?_) (fun _ => ?_))
   all_goals (refine k_rd (_, _, kk + 1, n, _) ?_ ?_ tU rfl sB)
   all_goals (first | (dsimp only; simp only [List.length_append, List.length_cons, List.length_nil]; omega) | (dsimp only; omega))
  ·repeat' (first | (refine jX ?_) | (refine k_ff rfl (dFf ‹_›) ?_))
   exact k_rr (vs := [_]) rfl ⟨rfl, trivial⟩ rfl sRr ⟨rfl, _, _, rfl, by simp only [List.length_append, List.length_cons, List.length_nil]; omega, by simp only [List.length_append, List.length_cons, List.length_nil]; omega, rfl, oM, oM⟩
def DrawC (u : Value) (vs : List TyX) (k : List UInt8) (deep cp : Int) (ct : Nat) : Prop := ∀ (G : Gh) (r : Nat) (code : Value) (p : Int) (l : List UInt8), SchR G u vs → SlV G code 1 l.length (u8s l) → 0 ≤ p ∧ p + cp ≤ 600000000000 →
 FnM Tryz.prog 107 [Pt r 0, u, S k, I deep] G [rdO r code p tRdr] (fun v G' L' => ∃ w b q, v = Pt b 0 ∧ RepR G' (tys vs) w k b ∧ w.tot ≤ ct ∧ 1 ≤ w.out.length ∧ L' = [rdO r code q tRdr] ∧ p ≤ q ∧ q ≤ p + cp)
theorem DrawC.le {u : Value} {vs : List TyX} {k : List UInt8} {deep cp cp' : Int} {ct ct' : Nat} (h : DrawC u vs k deep cp ct) (h1 : cp ≤ cp') (h2 : ct ≤ ct') : DrawC u vs k deep cp' ct' := fun G r code p l h3 h4 h5 =>
 (h G r code p l h3 h4 ⟨h5.1, oM⟩).mono fun _ _ _ ⟨h6, w, b, q, h7, h8, h9, h10, h11, h12, h13⟩ => ⟨h6, w, b, q, h7, h8, oM, h10, h11, h12, oM⟩
theorem dv_flag {u : Value} {vs : List TyX} {deep : Int} : DrawC u vs [102] deep 15 200 := by
 intro G r code p l hR hs hp
 have cx_pk2 : ∀ {p : Int}, 0 ≤ p ∧ p ≤ 1000000000000 → FnG Tryz.prog 33 [Pt r 0, I 2] G [rdO r code p tRdr] (fun v L' => L' = [rdO r code (p + 1) tRdr] ∧ (v = I 0 ∨ v = I 1)) := fun {p} hp => (c_pick (b := r) (p := p) (n := 2) ⟨hp.1, hp.2, by decide⟩ hs).mono fun v G' L' ⟨h1, k, h2, h3, h4, h5⟩ => ⟨h1, h3, by subst h2; rcases (show k = 0 ∨ k = 1 by omega) with rfl | rfl; exact .inl rfl; exact .inr rfl⟩
 refine m_enter [(0, _), (1, _), (2, _), (3, _)] Tryz.func107 kR Tryz.ntmps107 rfl rfl tU fun B hB hW => ?_
 repeat' (first | (refine jX ?_) | (refine jo ?_; first | refine jV (g_bld rfl rfl) ?_ | refine jO fun _ => ?_ | refine jF fun _ => ?_ | (refine jV (g_iaddr rfl rfl oM) ?_) | refine jAl rfl ?_ | refine jD rfl rfl rfl ?_ | (refine c_m1g rfl rfl rfl (cx_pk2 oM) rfl ?_; rintro _ _ ⟨rfl, rfl | rfl⟩ <;> dsimp only [zA, fA])) | (refine k_tt rfl rfl ?_) | (refine k_ff rfl rfl ?_))
 all_goals rename_i y _
 all_goals refine Nx.sealC (b := y) fun G2 hG2 hsy => ?_
 ·exact k_rr (vs := [_]) rfl ⟨rfl, trivial⟩ rfl sB ⟨hG2, .nd 102 [121, 101, 115] 0 [], y, _, rfl, .leaf 102 _ _ _ y hsy (.inr (.inr ⟨rfl, rfl, rfl, .inl rfl⟩)), by simp [nd_tot, V.tots], by rw [V.out]; simp [outW], rfl, oM, oM⟩
 ·exact k_rr (vs := [_]) rfl ⟨rfl, trivial⟩ rfl sB ⟨hG2, .nd 102 [110, 111] 0 [], y, _, rfl, .leaf 102 _ _ _ y hsy (.inr (.inr ⟨rfl, rfl, rfl, .inr rfl⟩)), by simp [nd_tot, V.tots], by rw [V.out]; simp [outW], rfl, oM, oM⟩
abbrev tPtr4 : TypeId := 38
theorem dec_dg {m : Int} (h : 0 ≤ m) : ∀ c ∈ decI m, isDg c = true := (digF_decI m.toNat (Nat.le_refl _) h).2
theorem dv_num {u : Value} {vs : List TyX} {deep : Int} : DrawC u vs [110] deep 15 200 := by
 intro G r code p l hR hs hp
 refine m_enter [(0, _), (1, _), (2, _), (3, _)] Tryz.func107 kR Tryz.ntmps107 rfl rfl tU fun B hB hW => ?_
 repeat' (first | (refine jX ?_) | (refine jo ?_; first | refine jV (g_bld rfl rfl) ?_ | refine jO fun _ => ?_ | refine jF fun _ => ?_ | (refine jV (g_iaddr rfl rfl oM) ?_) | (refine c_ldMI 999999 rfl rfl rfl ?_ ?_ (fun iz hz0 hz1 => ?_); (focus ((simp only [List.length_append, List.length_cons, List.length_nil, List.length_take]; omega); done)); (focus ((repeat' (first | exact intsIn_nil | (refine intsIn_cons ⟨oM, oM⟩ ?_))); done))) | refine jD rfl rfl rfl ?_ | (refine c_m1g rfl rfl rfl (c_pick ?_ (by (repeat (assumption)); done)) rfl ?_; (focus ((omega); done)); rintro _ _ ⟨k, rfl, rfl, hk0, hk1⟩; dsimp only [zA, fA]) | (refine c_rt rfl rfl rfl (c_l6Dec oM) rfl ?_)) | (refine k_tt rfl rfl ?_))
 rename_i y _ _ _ _
 have hdl := decI_len (n := iz) oM
 have hdp := decI_pos iz
 refine Nx.sealC (b := y) fun G2 hG2 hsy => ?_
 exact k_rr (vs := [_]) rfl ⟨rfl, trivial⟩ rfl sB ⟨hG2, .nd 110 (decI iz) 0 [], y, _, rfl, .leaf 110 _ _ _ y hsy (.inl ⟨rfl, rfl, rfl, dec_dg hz0⟩), by rw [nd_tot, V.tots]; omega, by rw [V.out]; exact hdp, rfl, oM, oM⟩
theorem dv_txt {u : Value} {vs : List TyX} {deep : Int} : DrawC u vs [116] deep 15 200 := by
 intro G r code p l hR hs hp
 refine m_enter [(0, _), (1, _), (2, _), (3, _)] Tryz.func107 kR Tryz.ntmps107 rfl rfl tU fun B hB hW => ?_
 repeat' (first | (refine jX ?_) | (refine jo ?_; first | refine jV (g_bld rfl rfl) ?_ | refine jO fun _ => ?_ | refine jD rfl rfl rfl ?_ | (refine c_m1g rfl rfl rfl (c_l91Text ?_ (by (repeat (assumption)); done)) rfl ?_; (focus ((omega); done)); rintro _ _ ⟨tx, q1, rfl, htx, rfl, hq1, hq2⟩; dsimp only [zA, fA])) | (refine k_tt rfl rfl ?_) | (refine k_ff rfl rfl ?_))
 rename_i y
 refine Nx.sealC (b := y) fun G2 hG2 hsy => ?_
 exact k_rr (vs := [_]) rfl ⟨rfl, trivial⟩ rfl sRr ⟨hG2, .nd 116 tx 0 [], y, _, rfl, .leaf 116 _ _ _ y hsy (.inr (.inl ⟨rfl, rfl, rfl⟩)), by rw [nd_tot, V.tots]; omega, by rw [V.out]; simp [outW], rfl, oM, oM⟩
theorem reps_snocR {ts : List Ty} {k : List UInt8} {ks : List V} {bs : List Nat} {w : V} {b : Nat} (hl : bs.length = ks.length) (h : ∀ i, i < ks.length → RepR G ts (nth ks i) k (nth bs i)) (hw : RepR G ts w k b) : ∀ i, i < (ks ++ [w]).length → RepR G ts (nth (ks ++ [w]) i) k (nth (bs ++ [b]) i) := fun i hi => by
 by_cases h1 : i < ks.length
 ·have e1 : nth (ks ++ [w]) i = nth ks i := by rw [nth_eq hi, nth_eq h1, List.getElem_append_left h1]
  have e2 : nth (bs ++ [b]) i = nth bs i := by rw [nth_eq (by simp; omega), nth_eq oM, List.getElem_append_left oM]
  rw [e1, e2]; exact h i h1
 ·have h2 : i = ks.length := by simp at hi; omega
  have e1 : nth (ks ++ [w]) i = w := by rw [nth_eq hi]; simp [h2]
  have e2 : nth (bs ++ [b]) i = b := by rw [nth_eq (by simp; omega)]; simp [h2, hl]
  rw [e1, e2]; exact hw
theorem dv_list {u : Value} {vs : List TyX} {kd : List UInt8} {deep cp : Int} {ct : Nat} (hcp : 0 ≤ cp ∧ cp ≤ 100000000) (hct : ct ≤ 100000000) (hD : 0 < deep → DrawC u vs kd (deep - 1) cp ct) (hu : u.oneCell' = true) (hkl : kd.length ≤ 1000) (hd : -1000 ≤ deep ∧ deep ≤ 1000) : DrawC u vs (91 :: kd) deep (3 * cp + 10) (3 * ct + 200) := by
 intro G r code p l hR hs hp
 have hkd0 : bt (91 :: kd) (Int.toNat 0) = 91 := bt_zero 91 kd
 have hkl2 : (91 :: kd).length = kd.length + 1 := rfl
 refine m_enter [(0, _), (1, _), (2, _), (3, _)] Tryz.func107 kR Tryz.ntmps107 rfl rfl tU fun B hB hW => ?_
 repeat' (first | refine jM ?_ | (refine jo ?_; first | refine jV (g_bld rfl rfl) ?_ | refine jO fun _ => ?_ | (refine c_m1g rfl rfl rfl (c_pick ?_ (by (repeat (assumption)); done)) rfl ?_; (focus ((omega); done)); rintro _ _ ⟨k, rfl, rfl, hk0, hk1⟩; dsimp only [zA, fA])) | (refine k_tt rfl rfl ?_) | (refine k_ff rfl rfl ?_))
 rename_i y
 refine Nx.addNil tPtr4 1 ?_
 refine k_loop (ι := List V × List Nat × Option Addr × Nat × Int × Int × Gh) (fun j => ((j.2.1.length = j.1.length ∧ ∀ i, i < j.1.length → RepR j.2.2.2.2.2.2 (tys vs) (nth j.1 i) kd (nth j.2.1 i)) ∧ Gh.le G j.2.2.2.2.2.2) ∧ (0 ≤ j.2.2.2.2.1 ∧ ((j.1.length : Nat) : Int) + j.2.2.2.2.1 ≤ 3) ∧ V.tots j.1 ≤ ct * j.1.length ∧ p ≤ j.2.2.2.2.2.1 ∧ j.2.2.2.2.2.1 ≤ p + 1 + cp * ((j.1.length : Nat) : Int)) (fun j => [(0, Pt r 0), (1, u), (2, S (91 :: kd)), (3, I deep), (9, Pt y 0), (10, I j.2.2.2.2.1)]) (fun j => j.2.2.2.2.2.2) (fun j => [.acc (.slice j.2.2.1 j.1.length j.2.2.2.1) tPtr4 1 j.1.length (rows ptR j.2.1), rdO r code j.2.2.2.2.2.1 tRdr, .blk y (.cells (List.toArray [S (91 :: kd), S [], nilS, .slice j.2.2.1 j.1.length j.2.2.2.1]) tLv (0, 0))]) (fun j => j.2.2.2.2.1.toNat) ([], [], none, 0, k, p + 1, G) ?_ tU rfl sRr (fun j Hj => ?_)
 ·refine ⟨⟨⟨rfl, fun i hi => absurd hi (by simp)⟩, Gh.le.refl _⟩, ?_, ?_, ?_, ?_⟩
  ·dsimp only; simp only [List.length_nil]; omega
  ·simp [V.tots]
  ·dsimp only; omega
  ·dsimp only; simp
 obtain ⟨ks, bs, a, c, kk, q, Gq⟩ := j
 dsimp only at Hj ⊢
 obtain ⟨⟨⟨hbl, hreps⟩, hgq⟩, hk, htt, hq0, hq1⟩ := Hj
 have hcl : cp * ((ks.length : Nat) : Int) ≤ cp * 3 := Int.mul_le_mul_of_nonneg_left oM hcp.1
 have hcl0 : 0 ≤ cp * ((ks.length : Nat) : Int) := Int.mul_nonneg hcp.1 oM
 have htl : ct * ks.length ≤ ct * 3 := Nat.mul_le_mul_left _ oM
 by_cases hgo : 0 < kk ∧ 0 < deep
 ·obtain ⟨hk0, hd0⟩ := hgo
  have hcl3 : cp * ((ks.length : Nat) : Int) + cp ≤ cp * 3 := by
   have := Int.mul_le_mul_of_nonneg_left (show ((ks.length : Nat) : Int) + 1 ≤ 3 by omega) hcp.1
   rwa [Int.mul_add, Int.mul_one] at this
  have cx_dv := fun {p : Int} (hp : 0 ≤ p ∧ p + cp ≤ 600000000000) => hD hd0 Gq r code p l (hR.mono hgq) (hs.mono hgq) hp
  repeat' (first | (refine jR ?_) | (refine jo ?_; (refine jAt rfl ?_)) | (refine k_gt rfl rfl (dTt ‹_›) ?_) | (refine k_tt rfl (dTt ‹_›) ?_))
  (refine k_any (s_any (id := 16) [] (fun _ h => absurd h (by simp)) mixed ?_); refine jW 7 [0, 1, 2, 3, 5, 6, 7, 8, 9, 10] (bts 17 2031) ?_; refine x_all [4, 11] kR dC ⟨?_, ?_, trivial⟩; (focus (refine x_opg rfl rfl ?_; (refine jAl rfl ?_); refine jK (bts 17 2047) ?_; refine jA 11 rfl ?_; ((refine c_m1s rfl rfl rfl (cx_dv ?_) rfl ?_; (focus ((omega); done)); rintro _ G1 _ hle ⟨w1, b1, q1, rfl, hrep, htot, hone, rfl, hq1, hq2⟩; dsimp only [zA, fA]; skip)); refine jK (bts 17 4095) ?_; refine jA 12 rfl ?_; (refine jF fun _ => ?_); refine jK (bts 17 8191) ?_; refine jA 13 rfl ?_; ((refine c_apX rfl rfl rfl rfl rfl rfl rfl rfl rfl ?_ fun _ _ => ?_; (focus ((omega); done)))); refine jK (bts 17 16383) ?_; refine jW 1 [14, 15] (bts 17 65535) ?_; refine jA 16 rfl ?_; (refine jD rfl rfl rfl ?_); refine jK (bts 17 131071) ?_; refine jQ ?_)); rotate_left 1; (focus (refine x_opg rfl rfl ?_; ((refine c_m1s rfl rfl rfl (cx_dv ?_) rfl ?_; (focus ((omega); done)); rintro _ G1 _ hle ⟨w1, b1, q1, rfl, hrep, htot, hone, rfl, hq1, hq2⟩; dsimp only [zA, fA]; skip)); refine jK (bts 17 4079) ?_; refine x_all [4, 12] kR dC ⟨?_, ?_, trivial⟩; (focus (refine x_opg rfl rfl ?_; (refine jAl rfl ?_); refine jK (bts 17 4095) ?_; refine jA 12 rfl ?_; (refine jF fun _ => ?_); refine jK (bts 17 8191) ?_; refine jA 13 rfl ?_; ((refine c_apX rfl rfl rfl rfl rfl rfl rfl rfl rfl ?_ fun _ _ => ?_; (focus ((omega); done)))); refine jK (bts 17 16383) ?_; refine jW 1 [14, 15] (bts 17 65535) ?_; refine jA 16 rfl ?_; (refine jD rfl rfl rfl ?_); refine jK (bts 17 131071) ?_; refine jQ ?_)); rotate_left 1; (focus (refine x_opg rfl rfl ?_; (refine jF fun _ => ?_); refine jK (bts 17 8175) ?_; refine jA 4 rfl ?_; (refine jAl rfl ?_); refine jK (bts 17 8191) ?_; refine jA 13 rfl ?_; ((refine c_apX rfl rfl rfl rfl rfl rfl rfl rfl rfl ?_ fun _ _ => ?_; (focus ((omega); done)))); refine jK (bts 17 16383) ?_; refine jW 1 [14, 15] (bts 17 65535) ?_; refine jA 16 rfl ?_; (refine jD rfl rfl rfl ?_); refine jK (bts 17 131071) ?_; refine jQ ?_)); rotate_left 1)); rotate_left 2)
  all_goals repeat' (refine jM ?_)
  all_goals
   rename_i _ y1 yc
   have hl1 : (ks ++ [w1]).length = ks.length + 1 := by simp
   have hms : ct * (ks.length + 1) = ct * ks.length + ct := Nat.mul_succ _ _
   have hts : V.tots (ks ++ [w1]) = V.tots ks + w1.tot := by simp [tots_app, V.tots]
   rw [show rows ptR bs ++ [Pt b1 0] = rows ptR (bs ++ [b1]) from (rows_snoc ptR bs b1).symm]
   exact k_rd (ks ++ [w1], bs ++ [b1], some ⟨y1, 0, none⟩, yc, kk - 1, q1, G1) ⟨⟨⟨by simp [hbl], reps_snocR hbl (fun i hi => (hreps i hi).mono hle) hrep⟩, hgq.trans hle⟩, by dsimp only; rw [hl1]; omega, by dsimp only; rw [hl1, hms, hts]; omega, by dsimp only; omega, by dsimp only; rw [hl1, Int.natCast_succ, Int.mul_add, Int.mul_one]; omega⟩ (by dsimp only; omega) tU rfl (by rw [hl1]; repeat (first | exact List.Sublist.refl _ | apply List.Sublist.cons_cons | apply List.Sublist.cons))
 ·have : kk = 0 ∨ deep ≤ 0 := oM
  repeat' (first | (refine jR ?_) | (refine jo ?_; first | (refine jAt rfl ?_) | (refine jAf rfl ?_)) | refine k_g rfl rfl (fun _ => ?_) (fun _ => ?_) | (refine k_ff rfl (by first | rfl | (refine decide_eq_false ?_; (omega))) ?_))
  all_goals
   refine Nx.sealS (v := .slice a ks.length c) fun G2 hG2 hsl => ?_
   refine Nx.sealC (b := y) fun G3 hG3 hsg => ?_
   exact k_rr (vs := [_]) rfl ⟨rfl, trivial⟩ rfl sRr ⟨hgq.trans (hG2.trans hG3), .nd 91 [] 0 ks, y, q, rfl, .lst kd y ks bs a c hsg (hsl.mono hG3) hbl (fun i hi => (hreps i hi).mono (hG2.trans hG3)), by rw [nd_tot]; simp only [List.length_nil]; omega, by rw [V.out]; simp [outW], rfl, oM, oM⟩
theorem dv_opt {u : Value} {vs : List TyX} {kd : List UInt8} {deep cp : Int} {ct : Nat} (hcp : 0 ≤ cp ∧ cp ≤ 100000000) (hct : ct ≤ 100000000) (hD : 0 < deep → DrawC u vs kd (deep - 1) cp ct) (hu : u.oneCell' = true) (hkl : kd.length ≤ 1000) (hd : -1000 ≤ deep ∧ deep ≤ 1000) : DrawC u vs (63 :: kd) deep (cp + 10) (ct + 200) := by
 intro G r code p l hR hs hp
 have hkd0 : bt (63 :: kd) (Int.toNat 0) = 63 := bt_zero 63 kd
 have hkl2 : (63 :: kd).length = kd.length + 1 := rfl
 by_cases h0 : 0 < deep
 ·have cx_dv := fun {p : Int} (hp : 0 ≤ p ∧ p + cp ≤ 600000000000) => hD h0 G r code p l hR hs hp
  refine m_enter [(0, _), (1, _), (2, _), (3, _)] Tryz.func107 kR Tryz.ntmps107 rfl rfl tU fun B hB hW => ?_
  repeat' (first | refine jM ?_ | (refine jo ?_; first | refine jV (g_bld rfl rfl) ?_ | refine jO fun _ => ?_ | (refine jAt rfl ?_) | (refine c_m1g rfl rfl rfl (c_pick ?_ (by (repeat (assumption)); done)) rfl ?_; (focus ((omega); done)); rintro _ _ ⟨k, rfl, rfl, hk0, hk1⟩; dsimp only [zA, fA])) | (refine k_gt rfl rfl (dTt ‹_›) ?_) | (refine k_tt rfl rfl ?_) | (refine k_ff rfl rfl ?_) | refine k_if rfl (fun _ => ?_) (fun _ => ?_))
  ·refine Nx.addNil tPtr4 1 ?_
   (refine k_any (s_any (id := 20) [] (fun _ h => absurd h (by simp)) mixed ?_); refine jW 7 [0, 1, 2, 3, 5, 6, 7, 8, 9, 10] (bts 17 2031) ?_; refine x_all [4, 11] kR dC ⟨?_, ?_, trivial⟩; (focus (refine x_opg rfl rfl ?_; (refine jAl rfl ?_); refine jK (bts 17 2047) ?_; refine jA 11 rfl ?_; ((refine c_m1s rfl rfl rfl (cx_dv ?_) rfl ?_; (focus ((omega); done)); rintro _ G1 _ hle ⟨w1, b1, q1, rfl, hrep, htot, hone, rfl, hq1, hq2⟩; dsimp only [zA, fA]; skip)); refine jK (bts 17 4095) ?_; refine jA 12 rfl ?_; (refine jF fun _ => ?_); refine jK (bts 17 8191) ?_; refine jA 13 rfl ?_; ((refine c_apX rfl rfl rfl rfl rfl rfl rfl rfl rfl ?_ fun _ _ => ?_; (focus ((omega); done)))); refine jK (bts 17 16383) ?_; refine jW 1 [14, 15] (bts 17 65535) ?_; refine jA 16 rfl ?_; (refine jD rfl rfl rfl ?_); refine jK (bts 17 131071) ?_; refine jQ ?_)); rotate_left 1; (focus (refine x_opg rfl rfl ?_; ((refine c_m1s rfl rfl rfl (cx_dv ?_) rfl ?_; (focus ((omega); done)); rintro _ G1 _ hle ⟨w1, b1, q1, rfl, hrep, htot, hone, rfl, hq1, hq2⟩; dsimp only [zA, fA]; skip)); refine jK (bts 17 4079) ?_; refine x_all [4, 12] kR dC ⟨?_, ?_, trivial⟩; (focus (refine x_opg rfl rfl ?_; (refine jAl rfl ?_); refine jK (bts 17 4095) ?_; refine jA 12 rfl ?_; (refine jF fun _ => ?_); refine jK (bts 17 8191) ?_; refine jA 13 rfl ?_; ((refine c_apX rfl rfl rfl rfl rfl rfl rfl rfl rfl ?_ fun _ _ => ?_; (focus ((omega); done)))); refine jK (bts 17 16383) ?_; refine jW 1 [14, 15] (bts 17 65535) ?_; refine jA 16 rfl ?_; (refine jD rfl rfl rfl ?_); refine jK (bts 17 131071) ?_; refine jQ ?_)); rotate_left 1; (focus (refine x_opg rfl rfl ?_; (refine jF fun _ => ?_); refine jK (bts 17 8175) ?_; refine jA 4 rfl ?_; (refine jAl rfl ?_); refine jK (bts 17 8191) ?_; refine jA 13 rfl ?_; ((refine c_apX rfl rfl rfl rfl rfl rfl rfl rfl rfl ?_ fun _ _ => ?_; (focus ((omega); done)))); refine jK (bts 17 16383) ?_; refine jW 1 [14, 15] (bts 17 65535) ?_; refine jA 16 rfl ?_; (refine jD rfl rfl rfl ?_); refine jK (bts 17 131071) ?_; refine jQ ?_)); rotate_left 1)); rotate_left 2)
   all_goals repeat' (refine jR ?_)
   all_goals
    rename_i y _ _ y1 yc
    refine Nx.sealS (v := .slice (some ⟨y1, 0, none⟩) (0 + 1) yc) fun G2 hG2 hsl => ?_
    refine Nx.sealC (b := y) fun G3 hG3 hsg => ?_
    obtain ⟨_, ⟨h, _⟩ | ⟨b2, o2, c2, e, hc2, hs2⟩⟩ := hsl
    ·cases h
    simp only [Value.slice.injEq, Option.some.injEq, Addr.mk.injEq, and_true] at e
    obtain ⟨⟨rfl, rfl⟩, -, rfl⟩ := e
    exact k_rr (vs := [_]) rfl ⟨rfl, trivial⟩ rfl sB ⟨hle.trans (hG2.trans hG3), .nd 63 [] 0 [w1], y, q1, rfl, .opt kd y y1 b1 yc w1 oM hsg (hs2.mono hG3) (hrep.mono (hG2.trans hG3)), by simp only [nd_tot, V.tots, List.length_nil]; omega, by rw [V.out]; simp [outW], rfl, oM, oM⟩
  ·rename_i y _
   refine Nx.sealC (b := y) fun G2 hG2 hsy => ?_
   exact k_rr (vs := [_]) rfl ⟨rfl, trivial⟩ rfl sRr ⟨hG2, .nd 63 [] 0 [], y, _, rfl, .non kd y hsy, by simp [nd_tot, V.tots], by rw [V.out]; simp [outW], rfl, oM, oM⟩
 ·refine m_enter [(0, _), (1, _), (2, _), (3, _)] Tryz.func107 kR Tryz.ntmps107 rfl rfl tU fun B hB hW => ?_
  repeat' (first | refine jM ?_ | (refine jo ?_; first | refine jV (g_bld rfl rfl) ?_ | refine jO fun _ => ?_ | (refine jAf rfl ?_)) | (refine k_gf rfl rfl (dFf ‹_›) ?_) | (refine k_tt rfl rfl ?_) | (refine k_ff rfl rfl ?_))
  rename_i y
  refine Nx.sealC (b := y) fun G2 hG2 hsy => ?_
  exact k_rr (vs := [_]) rfl ⟨rfl, trivial⟩ rfl sRr ⟨hG2, .nd 63 [] 0 [], y, _, rfl, .non kd y hsy, by simp [nd_tot, V.tots], by rw [V.out]; simp [outW], rfl, oM, oM⟩
abbrev tTyG : TypeId := 86
abbrev tPtr5 : TypeId := 38
abbrev tInt5 : TypeId := 3
def DrawT (u : Value) (vs : List TyX) (k : List UInt8) (deep cp : Int) (ct : Nat) : Prop := ∀ (G : Gh) (r : Nat) (code : Value) (p : Int) (l : List UInt8), SchR G u vs → SlV G code 1 l.length (u8s l) → 0 ≤ p ∧ p + cp ≤ 600000000000 →
 FnM Tryz.prog 144 [Pt r 0, u, S k, I deep] G [rdO r code p tRdr] (fun v G' L' => ∃ w b q, v = Pt b 0 ∧ RepR G' (tys vs) w k b ∧ w.tot ≤ ct ∧ 1 ≤ w.out.length ∧ L' = [rdO r code q tRdr] ∧ p ≤ q ∧ q ≤ p + cp)
theorem dv_typed {u : Value} {vs : List TyX} {k : List UInt8} {deep cp : Int} {ct : Nat} (hD : DrawT u vs (64 :: k) deep cp ct) (hkl : k.length ≤ 1000) : DrawC u vs (64 :: k) deep cp ct := by
 intro G r code p l hR hs hp
 have hkd0 : bt (64 :: k) (Int.toNat 0) = 64 := bt_zero 64 k
 have hkl2 : (64 :: k).length = k.length + 1 := rfl
 have cx_dt := fun {p : Int} (hp : 0 ≤ p ∧ p + cp ≤ 600000000000) => hD G r code p l hR hs hp
 refine m_enter [(0, _), (1, _), (2, _), (3, _)] Tryz.func107 kR Tryz.ntmps107 rfl rfl tU fun B hB hW => ?_
 repeat' (first | refine jM ?_ | (refine jo ?_; first | refine jV (g_bld rfl rfl) ?_ | refine jO fun _ => ?_ | (refine c_m1s rfl rfl rfl (cx_dt ‹_›) rfl ?_; rintro _ G1 _ hle ⟨w1, b1, q1, rfl, hrep, htot, hone, rfl, hq1, hq2⟩; dsimp only [zA, fA]; skip)) | (refine k_ff rfl rfl ?_))
 exact k_rr (vs := [_]) rfl ⟨rfl, trivial⟩ rfl sB ⟨hle, w1, b1, q1, rfl, hrep, htot, hone, rfl, hq1, hq2⟩
section
variable {u : Value} {vs : List TyX} {kd nm : List UInt8} {fs : List Fld} {a : Option Addr} {ca : Nat} {deep cp : Int} {ct : Nat}
theorem dt_enm (hr : refV vs kd = some ((a, ca), ⟨69, nm, fs⟩)) (hvl : vs.length ≤ 1000000) (hk : kOk kd = true) (hkl : kd.length ≤ 1000) (h0 : 0 < fs.length) (h8 : fs.length ≤ 8) (hw : SchW (tys vs)) : DrawT u vs kd deep 10 300 := by
 intro G r code p l hR hs hp
 have href := refV_ty vs kd
 rw [hr] at href
 have cx_rf := c_ref (G := G) (k := kd) hR hvl hk oM
 rw [hr] at cx_rf
 have htm := refT_mem href.symm
 obtain ⟨bf, of, cf, ef, hsf⟩ := (hR.fl _ (refV_mem hr)).expl h0
 simp only [slX, Value.slice.injEq] at ef
 obtain ⟨rfl, -, rfl⟩ := ef
 dsimp only at hsf
 have cx_rf : PuG Tryz.prog 88 [u, S kd] G (· = Tu [Ag [U8 (69 : Nat), S nm, .slice (some ⟨bf, of, none⟩) fs.length ca], Bo true]) := cx_rf
 refine m_enter [(0, _), (1, _), (2, _), (3, _)] Tryz.func144 kR Tryz.ntmps144 rfl rfl tU fun B hB hW => ?_
 repeat' (first | (refine jR ?_) | (refine jo ?_; first | refine jL fun _ => ?_ | refine jC rfl rfl rfl ?_ | refine jAl rfl ?_ | refine jF fun _ => ?_ | refine jV (g_bsB rfl rfl (by (repeat (first | exact BL.nil | apply BL.lit rfl)); done)) ?_ | refine jV (g_bld rfl rfl) ?_ | refine jO fun _ => ?_ | (refine c_rt rfl rfl rfl cx_rf rfl ?_)) | (refine k_tt rfl rfl ?_))
 rename_i y9 _ y11
 (refine k_any (s_any (id := 5) [.blk y9 (.cells (List.toArray [U8 (69 : Nat), S nm, .slice (some ⟨bf, of, none⟩) fs.length ca]) tTyG (0, 0))] (by intro y hy; simp only [List.mem_cons, List.not_mem_nil, or_false] at hy ⊢; simp [hy]) mixed ?_); refine jW 11 [0, 1, 3, 4] (bts 15 27) ?_; (refine jG (bts 15 31) 2 rfl (g_ld rfl rfl rfl) ?_); (refine jG (bts 15 63) 5 rfl (g_ld rfl rfl rfl) ?_); (refine jG (bts 15 127) 6 rfl (g_lenL rfl) ?_); refine jA 7 rfl ?_; ((refine c_m1g rfl rfl rfl (c_pick ?_ (by (repeat (assumption)); done)) rfl ?_; (focus ((omega); done)); rintro _ _ ⟨k, rfl, rfl, hk0, hk1⟩; dsimp only [zA, fA])); refine jK (bts 15 255) ?_; ((refine jG (bts 15 511) 8 rfl (g_iaddr rfl rfl ?_) ?_; (focus ((omega); done)))); refine jW 5 [9] (bts 15 1023) ?_; ((refine jG (bts 15 2047) 10 rfl (g_ldRF rfl rfl aS ?_ rfl rfl) ?_; (focus ((omega); done)))); refine jA 11 rfl ?_; (refine jF fun _ => ?_); refine jK (bts 15 4095) ?_; refine jW 1 [12, 13] (bts 15 16383) ?_; refine jA 14 rfl ?_; (refine jD rfl rfl rfl ?_); refine jK (bts 15 32767) ?_; refine jQ ?_)
 all_goals repeat' (refine jR ?_)
 all_goals
  rename_i y1
  refine Nx.sealC (b := y1) fun G2 hG2 hsy => ?_
  refine Nx.sealC (b := y11) fun G3 hG3 hsg => ?_
  have hdm : nth fs k.toNat ∈ fs := nth_mem oM
  exact k_rr (vs := [_]) rfl ⟨rfl, trivial⟩ rfl sB ⟨hG2.trans hG3, .nd 69 [] (nth fs k.toNat).tag [], y11, _, rfl, .enm kd y11 y1 ⟨69, nm, fs⟩ (nth fs k.toNat) ⟨href.symm, rfl⟩ hdm hsg (hsy.mono hG3), by simp [nd_tot, V.tots], by rw [V.out]; simp [outW], rfl, oM, oM⟩
theorem dt_uni (hr : refV vs kd = some ((a, ca), ⟨85, nm, fs⟩)) (hvl : vs.length ≤ 1000000) (hk : kOk kd = true) (hkl : kd.length ≤ 1000) (h0 : 0 < fs.length) (h8 : fs.length ≤ 8) (hw : SchW (tys vs)) (hcp : 0 ≤ cp ∧ cp ≤ 100000000) (hct : ct ≤ 100000000)
  (hD : ∀ d ∈ fs, (0 < deep ∨ d = nth fs 0) → DrawC u vs d.kind (deep - 1) cp ct) (hd : -1000 ≤ deep ∧ deep ≤ 1000) : DrawT u vs kd deep (cp + 10) (ct + 20) := by
 intro G r code p l hR hs hp
 have href := refV_ty vs kd
 rw [hr] at href
 have cx_rf := c_ref (G := G) (k := kd) hR hvl hk oM
 rw [hr] at cx_rf
 have htm := refT_mem href.symm
 obtain ⟨bf, of, cf, ef, hsf⟩ := (hR.fl _ (refV_mem hr)).expl h0
 simp only [slX, Value.slice.injEq] at ef
 obtain ⟨rfl, -, rfl⟩ := ef
 dsimp only at hsf
 have cx_rf : PuG Tryz.prog 88 [u, S kd] G (· = Tu [Ag [U8 (85 : Nat), S nm, .slice (some ⟨bf, of, none⟩) fs.length ca], Bo true]) := cx_rf
 refine m_enter [(0, _), (1, _), (2, _), (3, _)] Tryz.func144 kR Tryz.ntmps144 rfl rfl tU fun B hB hW => ?_
 repeat' (first | refine jM ?_ | (refine jo ?_; first | refine jL fun _ => ?_ | refine jD rfl rfl rfl ?_ | refine jC rfl rfl rfl ?_ | refine jAl rfl ?_ | (refine jV (g_ldR rfl rfl aS ?_) ?_; (focus ((omega); done))) | refine jF fun _ => ?_ | refine jV (g_bsB rfl rfl (by (repeat (first | exact BL.nil | apply BL.lit rfl)); done)) ?_ | refine jV (g_bld rfl rfl) ?_ | refine jO fun _ => ?_ | (refine jV (g_iaddrN rfl rfl oM) ?_) | (refine c_rt rfl rfl rfl cx_rf rfl ?_)) | (refine k_tt rfl rfl ?_) | (refine k_ff rfl rfl ?_) | refine k_if rfl (fun _ => ?_) (fun _ => ?_))
 ·rename_i y9 _ y11 y12 hd0
  (refine k_any (s_any (id := 10) [.blk y9 (.cells (List.toArray [U8 (85 : Nat), S nm, .slice (some ⟨bf, of, none⟩) fs.length ca]) tTyG (0, 0))] (by intro y hy; simp only [List.mem_cons, List.not_mem_nil, or_false] at hy ⊢; simp [hy]) mixed ?_); refine jW 7 [0, 2, 3] (bts 10 13) ?_; (refine jG (bts 10 15) 1 rfl (g_ld rfl rfl rfl) ?_); (refine jG (bts 10 31) 4 rfl (g_ld rfl rfl rfl) ?_); (refine jG (bts 10 63) 5 rfl (g_lenL rfl) ?_); refine jA 6 rfl ?_; ((refine c_m1g rfl rfl rfl (c_pick ?_ (by (repeat (assumption)); done)) rfl ?_; (focus ((omega); done)); rintro _ _ ⟨k, rfl, rfl, hk0, hk1⟩; dsimp only [zA, fA])); refine jK (bts 10 127) ?_; ((refine jG (bts 10 255) 7 rfl (g_iaddr rfl rfl ?_) ?_; (focus ((omega); done)))); ((refine jG (bts 10 511) 8 rfl (g_ldR rfl rfl aS ?_) ?_; (focus ((omega); done)))); refine jA 9 rfl ?_; (refine jC rfl rfl rfl ?_); refine jK (bts 10 1023) ?_; refine jQ ?_)
  all_goals have hdm : nth fs k.toNat ∈ fs := nth_mem oM
  all_goals have cx_dv := fun {p : Int} (hp : 0 ≤ p ∧ p + cp ≤ 600000000000) => hD (nth fs k.toNat) hdm (.inl hd0) G r code p l hR hs hp
  all_goals repeat' (first | refine jM ?_ | (refine jo ?_; first | refine jD rfl rfl rfl ?_ | refine jAl rfl ?_ | refine jF fun _ => ?_ | (refine c_m1s rfl rfl rfl (cx_dv oM) rfl ?_; rintro _ G1 _ hle ⟨w1, b1, q1, rfl, hrep, htot, hone, rfl, hq1, hq2⟩; dsimp only [zA, fA]; skip)))
  all_goals
   rename_i y1 y2
   refine Nx.sealC (b := y1) fun G2 hG2 hs1 => ?_
   refine Nx.sealC (b := y2) fun G3 hG3 hs2 => ?_
   refine Nx.sealC (b := y11) fun G4 hG4 hsg => ?_
   exact k_rr (vs := [_]) rfl ⟨rfl, trivial⟩ rfl sB ⟨((hle.trans hG2).trans hG3).trans hG4, .nd 85 [] (nth fs k.toNat).tag [w1], y11, _, rfl, .uni kd y11 y1 y2 b1 1 ⟨85, nm, fs⟩ (nth fs k.toNat) w1 (Nat.le_refl _) ⟨href.symm, rfl⟩ hdm hsg (hs1.mono (hG3.trans hG4)) (hs2.mono hG4) (hrep.mono ((hG2.trans hG3).trans hG4)), by simp only [nd_tot, V.tots, List.length_nil]; omega, by rw [V.out]; simp [outW], rfl, oM, oM⟩
 ·have cx_dv := fun {p : Int} (hp : 0 ≤ p ∧ p + cp ≤ 600000000000) => hD (nth fs 0) (nth_mem h0) (.inr rfl) G r code p l hR hs hp
  repeat' (first | (refine jR ?_) | (refine jo ?_; first | refine jD rfl rfl rfl ?_ | refine jF fun _ => ?_ | (refine c_m1s rfl rfl rfl (cx_dv oM) rfl ?_; rintro _ G1 _ hle ⟨w1, b1, q1, rfl, hrep, htot, hone, rfl, hq1, hq2⟩; dsimp only [zA, fA]; skip)))
  all_goals
   rename_i y9 _ y11 y12 _ y1 y2
   refine Nx.sealC (b := y1) fun G2 hG2 hs1 => ?_
   refine Nx.sealC (b := y2) fun G3 hG3 hs2 => ?_
   refine Nx.sealC (b := y11) fun G4 hG4 hsg => ?_
   exact k_rr (vs := [_]) rfl ⟨rfl, trivial⟩ rfl sB ⟨((hle.trans hG2).trans hG3).trans hG4, .nd 85 [] (nth fs 0).tag [w1], y11, _, rfl, .uni kd y11 y1 y2 b1 1 ⟨85, nm, fs⟩ (nth fs 0) w1 (Nat.le_refl _) ⟨href.symm, rfl⟩ (nth_mem h0) hsg (hs1.mono (hG3.trans hG4)) (hs2.mono hG4) (hrep.mono ((hG2.trans hG3).trans hG4)), by simp only [nd_tot, V.tots, List.length_nil]; omega, by rw [V.out]; simp [outW], rfl, oM, oM⟩
theorem dt_rec0 (hr : refV vs kd = some ((a, ca), ⟨82, nm, fs⟩)) (hvl : vs.length ≤ 1000000) (hk : kOk kd = true) (hkl : kd.length ≤ 1000) (h8 : fs.length ≤ 8) (hd : -1000 ≤ deep ∧ deep ≤ 0) : DrawT u vs kd deep 10 100 := by
 intro G r code p l hR hs hp
 have href := refV_ty vs kd
 rw [hr] at href
 have cx_rf := c_ref (G := G) (k := kd) hR hvl hk oM
 rw [hr] at cx_rf
 have cx_rf : PuG Tryz.prog 88 [u, S kd] G (· = Tu [Ag [U8 (82 : Nat), S nm, .slice a fs.length ca], Bo true]) := cx_rf
 refine m_enter [(0, _), (1, _), (2, _), (3, _)] Tryz.func144 kR Tryz.ntmps144 rfl rfl tU fun B hB hW => ?_
 repeat' (first | (refine jR ?_) | (refine jo ?_; first | refine jL fun _ => ?_ | refine jC rfl rfl rfl ?_ | refine jAl rfl ?_ | refine jF fun _ => ?_ | refine jV (g_bsB rfl rfl (by (repeat (first | exact BL.nil | apply BL.lit rfl)); done)) ?_ | refine jV (g_bld rfl rfl) ?_ | refine jO fun _ => ?_ | (refine c_rt rfl rfl rfl cx_rf rfl ?_)) | (refine k_ff rfl rfl ?_))
 rename_i y9 _ y11
 refine k_loop (ι := Unit) (fun i => True) (fun i => [(0, Pt r 0), (1, u), (2, S kd), (3, I deep), (9, Pt y9 0), (11, Pt y11 0), (13, I 0)]) (fun _ => G) (fun i => [.blk y11 (.cells (List.toArray [S kd, S [82], nilS, nilS]) tLv (0, 0)), .blk y9 (.cells (List.toArray [U8 (82 : Nat), S nm, .slice a fs.length ca]) tTyG (0, 0)), rdO r code p tRdr]) (fun i => 0) () ?_ tU rfl sB (fun i Hi => ?_)
 ·trivial
 by_cases h0 : 0 < fs.length
 all_goals repeat' (first | (refine jR ?_) | (refine jo ?_; first | refine jAl rfl ?_ | refine jV (g_lenL rfl) ?_ | (refine jAt rfl ?_) | (refine jAf rfl ?_)) | (refine k_gt rfl rfl (dTt oM) ?_) | (refine k_gf rfl rfl (dFf oM) ?_) | (refine k_ff rfl (by first | rfl | (refine decide_eq_false ?_; (omega))) ?_))
 all_goals
  refine Nx.sealC (b := y11) fun G2 hG2 hsg => ?_
  exact k_rr (vs := [_]) rfl ⟨rfl, trivial⟩ rfl sB ⟨hG2, .nd 82 [] 0 [], y11, p, rfl, .recd kd y11 ⟨82, nm, fs⟩ [] [] none none 0 0 ⟨href.symm, rfl⟩ hsg ⟨rfl, .inl ⟨rfl, rfl⟩⟩ ⟨rfl, .inl ⟨rfl, rfl⟩⟩ rfl (fun i hi => absurd hi (by simp)) (fun i hi => absurd hi (by simp)), by simp [nd_tot, V.tots], by rw [V.out]; simp [outW], rfl, oM, oM⟩
theorem dt_rec (hr : refV vs kd = some ((a, ca), ⟨82, nm, fs⟩)) (hvl : vs.length ≤ 1000000) (hk : kOk kd = true) (hkl : kd.length ≤ 1000) (h8 : fs.length ≤ 8) (hw : SchW (tys vs)) (hcp : 0 ≤ cp ∧ cp ≤ 100000000) (hct : ct ≤ 100000000)
  (hD : ∀ d ∈ fs, DrawC u vs d.kind (deep - 1) cp ct) (hd : 0 < deep ∧ deep ≤ 1000) : DrawT u vs kd deep (8 * cp + 20) (8 * ct + 200) := by
 intro G r code p l hR hs hp
 have href := refV_ty vs kd
 rw [hr] at href
 have cx_rf := c_ref (G := G) (k := kd) hR hvl hk oM
 rw [hr] at cx_rf
 have htm := refT_mem href.symm
 have cx_rf : PuG Tryz.prog 88 [u, S kd] G (· = Tu [Ag [U8 (82 : Nat), S nm, .slice a fs.length ca], Bo true]) := cx_rf
 refine m_enter [(0, _), (1, _), (2, _), (3, _)] Tryz.func144 kR Tryz.ntmps144 rfl rfl tU fun B hB hW => ?_
 repeat' (first | (refine jR ?_) | (refine jo ?_; first | refine jL fun _ => ?_ | refine jC rfl rfl rfl ?_ | refine jAl rfl ?_ | refine jF fun _ => ?_ | refine jV (g_bsB rfl rfl (by (repeat (first | exact BL.nil | apply BL.lit rfl)); done)) ?_ | refine jV (g_bld rfl rfl) ?_ | refine jO fun _ => ?_ | (refine c_rt rfl rfl rfl cx_rf rfl ?_)) | (refine k_ff rfl rfl ?_))
 rename_i y9 _ y11
 refine Nx.addNil tInt5 1 (Nx.addNil tPtr5 1 ?_)
 refine Nx.perm (((List.perm_append_comm (l₁ := [_, _, _]) (l₂ := [_])).cons _).cons _) ?_
 dsimp only [zA, fA]
 refine k_loop (ι := List (Fld × V) × List Nat × Option Addr × Nat × Option Addr × Nat × Nat × Int × Gh) (fun j => ((j.2.1.length = j.1.length ∧ (∀ i, i < j.1.length → (nth j.1 i).1 ∈ fs) ∧ ∀ i, i < j.1.length → RepR j.2.2.2.2.2.2.2.2 (tys vs) (nth j.1 i).2 (nth j.1 i).1.kind (nth j.2.1 i)) ∧ Gh.le G j.2.2.2.2.2.2.2.2) ∧ (j.1.length ≤ j.2.2.2.2.2.2.1 ∧ j.2.2.2.2.2.2.1 ≤ fs.length) ∧ V.tots (nd61 j.1) ≤ (ct + 20) * j.1.length ∧ p ≤ j.2.2.2.2.2.2.2.1 ∧ j.2.2.2.2.2.2.2.1 ≤ p + (cp + 1) * ((j.2.2.2.2.2.2.1 : Nat) : Int)) (fun j => [(0, Pt r 0), (1, u), (2, S kd), (3, I deep), (9, Pt y9 0), (11, Pt y11 0), (13, I ((j.2.2.2.2.2.2.1 : Nat) : Int))]) (fun j => j.2.2.2.2.2.2.2.2) (fun j => [.acc (.slice j.2.2.2.2.1 j.1.length j.2.2.2.2.2.1) tPtr5 1 j.1.length (rows ptR j.2.1), .acc (.slice j.2.2.1 j.1.length j.2.2.2.1) tInt5 1 j.1.length (rows inR (j.1.map fun p => p.1.tag)), rdO r code j.2.2.2.2.2.2.2.1 tRdr, .blk y11 (.cells (List.toArray [S kd, S [82], .slice j.2.2.1 j.1.length j.2.2.2.1, .slice j.2.2.2.2.1 j.1.length j.2.2.2.2.2.1]) tLv (0, 0)), .blk y9 (.cells (List.toArray [U8 (82 : Nat), S nm, .slice a fs.length ca]) tTyG (0, 0))]) (fun j => fs.length - j.2.2.2.2.2.2.1) ([], [], none, 0, none, 0, 0, p, G) ?_ tU rfl sB (fun j Hj => ?_)
 ·refine ⟨⟨⟨rfl, fun i hi => absurd hi (by simp), fun i hi => absurd hi (by simp)⟩, Gh.le.refl _⟩, ?_, ?_, ?_, ?_⟩
  ·exact ⟨Nat.le_refl _, Nat.zero_le _⟩
  ·simp [nd61, V.tots]
  ·dsimp only; omega
  ·dsimp only; simp
 obtain ⟨gs, bs, a1, c1, a2, c2, i, q, Gq⟩ := j
 dsimp only at Hj ⊢
 obtain ⟨⟨⟨hbl, hfm, hreps⟩, hgq⟩, hil, htt, hq0, hq1⟩ := Hj
 have hcl : (cp + 1) * ((i : Nat) : Int) ≤ (cp + 1) * 8 := Int.mul_le_mul_of_nonneg_left oM oM
 have hcl0 : 0 ≤ (cp + 1) * ((i : Nat) : Int) := Int.mul_nonneg oM oM
 have htl : (ct + 20) * gs.length ≤ (ct + 20) * 8 := Nat.mul_le_mul_left _ oM
 by_cases hgo : i < fs.length
 ·have hcl3 : (cp + 1) * ((i : Nat) : Int) + (cp + 1) ≤ (cp + 1) * 8 := by
   have := Int.mul_le_mul_of_nonneg_left (show ((i : Nat) : Int) + 1 ≤ 8 by omega) (show 0 ≤ cp + 1 by omega)
   rwa [Int.mul_add, Int.mul_one] at this
  obtain ⟨bf, of, cf, ef, hsf⟩ := (hR.fl _ (refV_mem hr)).expl (by dsimp only; omega)
  simp only [slX, Value.slice.injEq] at ef
  obtain ⟨rfl, -, rfl⟩ := ef
  dsimp only at hsf
  have hdm : nth fs i ∈ fs := nth_mem hgo
  have hdk : kindIn (tys vs) (nth fs i).kind = true := kind_in hw htm (by simp) hdm
  have cx_dv := fun {p : Int} (hp : 0 ≤ p ∧ p + cp ≤ 600000000000) => hD (nth fs i) hdm Gq r code p l (hR.mono hgq) (hs.mono hgq) hp
  have hsf := hsf.mono hgq
  repeat' (first | refine jM ?_ | (refine jo ?_; first | refine jAl rfl ?_ | (refine jV (g_ldRF rfl rfl aS ?_ rfl rfl) ?_; (focus ((omega); done))) | refine jV (g_lenL rfl) ?_ | (refine jV (g_iaddrN rfl rfl oM) ?_) | (refine jAt rfl ?_) | (refine c_m1s rfl rfl rfl (cx_dv oM) rfl ?_; rintro _ G1 _ hle ⟨w1, b1, q1, rfl, hrep, htot, hone, rfl, hq1, hq2⟩; dsimp only [zA, fA]; (try have hsf := hsf.mono hle))) | (refine k_gt rfl rfl (dTt oM) ?_) | (refine k_tt rfl (dTt oM) ?_))
  have hgl := hgq.trans hle
  have cx_pk3 : ∀ {p : Int}, 0 ≤ p ∧ p ≤ 1000000000000 → FnG Tryz.prog 33 [Pt r 0, I 3] G1 [rdO r code p tRdr] (fun v L' => L' = [rdO r code (p + 1) tRdr] ∧ (v = I 0 ∨ ∃ k, v = I k ∧ 0 < k)) := fun {p} hp => (c_pick (b := r) (p := p) (n := 3) ⟨hp.1, hp.2, by decide⟩ (hs.mono hgl)).mono fun v G' L' ⟨h1, k, h2, h3, h4, h5⟩ => ⟨h1, h3, by subst h2; rcases (show k = 0 ∨ 0 < k by omega) with rfl | h; exact .inl rfl; exact .inr ⟨k, rfl, h⟩⟩
  have cx_out := c_outS hw hrep oM
  have cx_sta := c_standS (f := nth fs i) (hR.mono hgl) hw hdk
  have hms : (cp + 1) * ((i + 1 : Nat) : Int) = (cp + 1) * ((i : Nat) : Int) + (cp + 1) := by rw [Int.natCast_succ, Int.mul_add, Int.mul_one]
  by_cases heq : w1.out = standF (tys vs) (nth fs i)
  ·(refine k_any (s_any (id := 18) [.blk y9 (.cells (List.toArray [U8 (82 : Nat), S nm, .slice (some ⟨bf, of, none⟩) fs.length ca]) tTyG (0, 0))] (by intro y hy; simp only [List.mem_cons, List.not_mem_nil, or_false] at hy ⊢; simp [hy]) mixed ?_); refine jW 14 [0] (bts 15 1) ?_; refine x_all [1] kR dC ⟨?_, trivial⟩; (refine x_opg rfl rfl ?_; (refine c_m1g rfl rfl rfl (cx_pk3 oM) rfl ?_; rintro _ _ ⟨rfl, rfl | ⟨k, rfl, hk0⟩⟩ <;> dsimp only [zA, fA])) <;> (refine jS (bts 15 3) ?_; refine jT 11 [2, 3] (bts 15 15) ?_; (try (first | (refine Nx.re (d := 107) (v' := Bo true) rfl (congrArg Value.bool (dTt ‹_›)) ?_) | (refine Nx.re (d := 107) (v' := Bo false) rfl (congrArg Value.bool rfl) ?_))); refine jT 7 [4, 6, 7, 9] (bts 15 735) ?_; (first | refine jG (bts 15 991) 8 rfl (g_ld rfl rfl rfl) ?_ | refine jN (bts 15 991) 8 rfl ?_); (first | (refine jG (bts 15 2015) 10 rfl (g_iaddrN rfl rfl oM) ?_) | refine jN (bts 15 2015) 10 rfl ?_); (first | (refine jG (bts 15 4063) 11 rfl (g_ldR rfl rfl aS ?_) ?_; (focus ((omega); done))) | refine jN (bts 15 4063) 11 rfl ?_); (first | refine jN (bts 15 4095) 5 rfl ?_ | (refine jA 5 rfl ?_; (refine c_rt rfl rfl rfl cx_out rfl ?_); refine jS (bts 15 4095) ?_)); (first | refine jN (bts 15 8191) 12 rfl ?_ | (refine jA 12 rfl ?_; (refine c_rt rfl rfl rfl cx_sta rfl ?_); refine jS (bts 15 8191) ?_)); refine jT 1 [13] (bts 15 16383) ?_; (first | (refine jG (bts 15 32767) 14 rfl (g_pickT rfl rfl rfl) ?_) | (refine jG (bts 15 32767) 14 rfl (g_pickF rfl rfl rfl) ?_)); refine jQ ?_))
   all_goals repeat' (first | refine jM ?_ | (refine k_ff rfl ?_ ?_; (focus ((first | rfl | (simp [*]; done)); done))))
   all_goals
    refine Nx.perm ((List.Perm.swap _ _ _).trans ((List.Perm.swap _ _ _).cons _)) ?_
    exact k_rd (gs, bs, a1, c1, a2, c2, i + 1, q1 + 1, G1) ⟨⟨⟨hbl, hfm, fun i hi => (hreps i hi).mono hle⟩, hgl⟩, ⟨by dsimp only; omega, by dsimp only; omega⟩, htt, by dsimp only; omega, by dsimp only; rw [hms]; omega⟩ (by dsimp only; omega) tU rfl sRr
  ·(refine k_any (s_any (id := 18) [.blk y9 (.cells (List.toArray [U8 (82 : Nat), S nm, .slice (some ⟨bf, of, none⟩) fs.length ca]) tTyG (0, 0))] (by intro y hy; simp only [List.mem_cons, List.not_mem_nil, or_false] at hy ⊢; simp [hy]) mixed ?_); refine jW 14 [0] (bts 15 1) ?_; refine x_all [1] kR dC ⟨?_, trivial⟩; (refine x_opg rfl rfl ?_; (refine c_m1g rfl rfl rfl (cx_pk3 oM) rfl ?_; rintro _ _ ⟨rfl, rfl | ⟨k, rfl, hk0⟩⟩ <;> dsimp only [zA, fA])) <;> (refine jS (bts 15 3) ?_; refine jT 11 [2, 3] (bts 15 15) ?_; (try (first | (refine Nx.re (d := 107) (v' := Bo true) rfl (congrArg Value.bool (dTt ‹_›)) ?_) | (refine Nx.re (d := 107) (v' := Bo false) rfl (congrArg Value.bool rfl) ?_))); refine jT 7 [4, 6, 7, 9] (bts 15 735) ?_; (first | refine jG (bts 15 991) 8 rfl (g_ld rfl rfl rfl) ?_ | refine jN (bts 15 991) 8 rfl ?_); (first | (refine jG (bts 15 2015) 10 rfl (g_iaddrN rfl rfl oM) ?_) | refine jN (bts 15 2015) 10 rfl ?_); (first | (refine jG (bts 15 4063) 11 rfl (g_ldR rfl rfl aS ?_) ?_; (focus ((omega); done))) | refine jN (bts 15 4063) 11 rfl ?_); (first | refine jN (bts 15 4095) 5 rfl ?_ | (refine jA 5 rfl ?_; (refine c_rt rfl rfl rfl cx_out rfl ?_); refine jS (bts 15 4095) ?_)); (first | refine jN (bts 15 8191) 12 rfl ?_ | (refine jA 12 rfl ?_; (refine c_rt rfl rfl rfl cx_sta rfl ?_); refine jS (bts 15 8191) ?_)); refine jT 1 [13] (bts 15 16383) ?_; (first | (refine jG (bts 15 32767) 14 rfl (g_pickT rfl rfl rfl) ?_) | (refine jG (bts 15 32767) 14 rfl (g_pickF rfl rfl rfl) ?_)); refine jQ ?_))
   ·repeat' (first | refine jM ?_ | (refine k_ff rfl rfl ?_))
    refine Nx.perm ((List.Perm.swap _ _ _).trans ((List.Perm.swap _ _ _).cons _)) ?_
    exact k_rd (gs, bs, a1, c1, a2, c2, i + 1, q1 + 1, G1) ⟨⟨⟨hbl, hfm, fun i hi => (hreps i hi).mono hle⟩, hgl⟩, ⟨by dsimp only; omega, by dsimp only; omega⟩, htt, by dsimp only; omega, by dsimp only; rw [hms]; omega⟩ (by dsimp only; omega) tU rfl sRr
   ·repeat' (first | (refine jR ?_) | (refine k_tt rfl (dTt ‹_›) ?_))
    have hl' : (gs ++ [(nth fs i, w1)]).length = gs.length + 1 := by simp
    have hbl' : (bs ++ [b1]).length = (gs ++ [(nth fs i, w1)]).length := by simp [hbl]
    have hnth : ∀ j, j < (gs ++ [(nth fs i, w1)]).length → (j < gs.length ∧ nth (gs ++ [(nth fs i, w1)]) j = nth gs j ∧ nth (bs ++ [b1]) j = nth bs j) ∨ (nth (gs ++ [(nth fs i, w1)]) j = (nth fs i, w1) ∧ nth (bs ++ [b1]) j = b1) := fun j hj => by
     by_cases h1 : j < gs.length
     ·exact .inl ⟨h1, by rw [nth_eq hj, nth_eq h1, List.getElem_append_left h1], by rw [nth_eq oM, nth_eq oM, List.getElem_append_left oM]⟩
     ·have h2 : j = gs.length := oM
      exact .inr ⟨by rw [nth_eq hj]; simp [h2], by rw [nth_eq oM]; simp [h2, hbl]⟩
    have hfm' : ∀ j, j < (gs ++ [(nth fs i, w1)]).length → (nth (gs ++ [(nth fs i, w1)]) j).1 ∈ fs := fun j hj => by
     rcases hnth j hj with ⟨h1, h2, _⟩ | ⟨h2, _⟩
     ·rw [h2]; exact hfm j h1
     ·rw [h2]; exact hdm
    have hreps' : ∀ j, j < (gs ++ [(nth fs i, w1)]).length → RepR G1 (tys vs) (nth (gs ++ [(nth fs i, w1)]) j).2 (nth (gs ++ [(nth fs i, w1)]) j).1.kind (nth (bs ++ [b1]) j) := fun j hj => by
     rcases hnth j hj with ⟨h1, h2, h3⟩ | ⟨h2, h3⟩
     ·rw [h2, h3]; exact (hreps j h1).mono hle
     ·rw [h2, h3]; exact hrep
    have hrow1 : rows inR (gs.map fun p => p.1.tag) ++ [I (nth fs i).tag] = rows inR ((gs ++ [(nth fs i, w1)]).map fun p => p.1.tag) := by rw [List.map_append]; exact (rows_snoc inR _ (nth fs i).tag).symm
    have hrow2 : rows ptR bs ++ [Pt b1 0] = rows ptR (bs ++ [b1]) := (rows_snoc ptR bs b1).symm
    have hnd : V.tots (nd61 (gs ++ [(nth fs i, w1)])) = V.tots (nd61 gs) + (20 + w1.tot) := by simp [nd61, tots_app, V.tots, nd_tot]
    have hmt : (ct + 20) * (gs.length + 1) = (ct + 20) * gs.length + (ct + 20) := Nat.mul_succ _ _
    (refine k_any (s_any (id := 19) [.blk y9 (.cells (List.toArray [U8 (82 : Nat), S nm, .slice (some ⟨bf, of, none⟩) fs.length ca]) tTyG (0, 0))] (by intro y hy; simp only [List.mem_cons, List.not_mem_nil, or_false] at hy ⊢; simp [hy]) mixed ?_); refine jW 10 [0, 1, 2, 3, 5, 7] (bts 16 175) ?_; (refine jG (bts 16 239) 6 rfl (g_ld rfl rfl rfl) ?_); ((refine jG (bts 16 495) 8 rfl (g_iaddrN rfl rfl ?_) ?_; (focus ((omega); done)))); refine jW 7 [9] (bts 16 1007) ?_; ((refine jG (bts 16 2031) 10 rfl (g_ldRF rfl rfl aS ?_ rfl rfl) ?_; (focus ((omega); done)))); refine x_all [4, 11] kR dC ⟨?_, ?_, trivial⟩; (focus (refine x_opg rfl rfl ?_; (refine jAl rfl ?_); refine jK (bts 16 2047) ?_; refine jA 11 rfl ?_; (refine jF fun _ => ?_); refine jK (bts 16 4095) ?_; refine jA 12 rfl ?_; ((refine c_apX rfl rfl rfl rfl rfl rfl rfl rfl rfl ?_ fun _ _ => ?_; (focus ((omega); done)))); refine jK (bts 16 8191) ?_; refine jW 1 [13, 14] (bts 16 32767) ?_; refine jA 15 rfl ?_; (refine jD rfl rfl rfl ?_); refine jK (bts 16 65535) ?_; refine jQ ?_)); rotate_left 1; (focus (refine x_opg rfl rfl ?_; (refine jF fun _ => ?_); refine jK (bts 16 4079) ?_; refine jA 4 rfl ?_; (refine jAl rfl ?_); refine jK (bts 16 4095) ?_; refine jA 12 rfl ?_; ((refine c_apX rfl rfl rfl rfl rfl rfl rfl rfl rfl ?_ fun _ _ => ?_; (focus ((omega); done)))); refine jK (bts 16 8191) ?_; refine jW 1 [13, 14] (bts 16 32767) ?_; refine jA 15 rfl ?_; (refine jD rfl rfl rfl ?_); refine jK (bts 16 65535) ?_; refine jQ ?_)); rotate_left 1)
    all_goals repeat' (first | refine jM ?_ | (refine jo ?_; first | refine jD rfl rfl rfl ?_ | refine jAl rfl ?_ | refine jF fun _ => ?_ | (refine c_apX rfl rfl rfl rfl rfl rfl rfl rfl rfl oM fun _ _ => ?_)))
    all_goals
     rename_i _ y1 yc1 _ y2 yc2
     rw [hrow1, hrow2]
     exact k_rd (gs ++ [(nth fs i, w1)], bs ++ [b1], some ⟨y1, 0, none⟩, yc1, some ⟨y2, 0, none⟩, yc2, i + 1, q1 + 1, G1) ⟨⟨⟨hbl', hfm', hreps'⟩, hgl⟩, ⟨by dsimp only; rw [hl']; omega, by dsimp only; omega⟩, by dsimp only; rw [hl', hmt, hnd]; omega, by dsimp only; omega, by dsimp only; rw [hms]; omega⟩ (by dsimp only; omega) tU rfl (by rw [hl']; repeat (first | exact List.Sublist.refl _ | apply List.Sublist.cons_cons | apply List.Sublist.cons))
 ·repeat' (first | (refine jR ?_) | (refine jo ?_; first | refine jAl rfl ?_ | refine jV (g_lenL rfl) ?_ | (refine jAf rfl ?_)) | (refine k_gf rfl rfl (dFf oM) ?_) | (refine k_ff rfl rfl ?_))
  refine Nx.sealS (v := .slice a2 gs.length c2) fun G2 hG2 hs1 => ?_
  refine Nx.sealS (v := .slice a1 gs.length c1) fun G3 hG3 hs2 => ?_
  refine Nx.sealC (b := y11) fun G4 hG4 hsg => ?_
  exact k_rr (vs := [_]) rfl ⟨rfl, trivial⟩ rfl sB ⟨hgq.trans ((hG2.trans hG3).trans hG4), .nd 82 [] 0 (nd61 gs), y11, q, rfl, .recd kd y11 ⟨82, nm, fs⟩ gs bs a1 a2 c1 c2 ⟨href.symm, rfl⟩ hsg (hs2.mono hG4) (hs1.mono (hG3.trans hG4)) hbl hfm (fun i hi => (hreps i hi).mono ((hG2.trans hG3).trans hG4)), by rw [nd_tot]; simp only [List.length_nil]; omega, by rw [V.out]; simp [outW], rfl, oM, oM⟩
end
theorem kind_ne' {ts : List Ty} {k : List UInt8} (h : kindIn ts k = true) : ∃ c r, k = c :: r := by
 cases k with
 | nil => unfold kindIn kindOk kOk at h; simp at h
 | cons c r => exact ⟨c, r, rfl⟩
def cpk : Nat → Int
 | 0 => 105
 | d + 1 => 8 * cpk d + 40
def ctt : Nat → Nat
 | 0 => 480
 | d + 1 => 8 * ctt d + 400
theorem cpk_le : ∀ d, d ≤ 4 → 0 ≤ cpk d ∧ cpk d ≤ 500000 ∧ ctt d ≤ 3000000 ∧ 105 ≤ cpk d ∧ 480 ≤ ctt d := by decide
theorem draw0 {u : Value} {vs : List TyX} (hw : SchW (tys vs)) (hu : u.oneCell' = true) : ∀ (n : Nat) {k : List UInt8} {deep : Int}, n ≤ 9 → deep ≤ 0 → (n : Int) - 900 ≤ deep → kindIn (tys vs) k = true → (∀ t, refT (tys vs) k = some t → endsN (tys vs) n t = true) → DrawC u vs k deep (15 + 10 * n) (300 + 20 * n) := by
 have hvl : vs.length ≤ 8 := by have := hw.len; unfold tys at this; simpa using this
 intro n
 induction n with
 | zero =>
  intro k deep _ hd hd2 hk he
  obtain ⟨c, r, rfl⟩ := kind_ne' hk
  have hkk := kindOk_kOk (kindIn_ok hk)
  simp only [List.length_cons] at hkk
  by_cases h1 : c.toNat = 91
  ·obtain rfl := u8_eq h1 dC
   exact (dv_list (cp := 0) (ct := 0) oM oM (fun h => absurd h oM) hu oM oM).le oM oM
  by_cases h2 : c.toNat = 63
  ·obtain rfl := u8_eq h2 dC
   exact (dv_opt (cp := 0) (ct := 0) oM oM (fun h => absurd h oM) hu oM oM).le oM oM
  have h91 : ¬ (c.toNat = 91 ∨ c.toNat = 63) := fun h => by rcases h with h | h <;> omega
  cases hr : refT (tys vs) (c :: r) with
  | some t => have := he t hr; simp [endsN] at this
  | none =>
   rcases plain_kinds hk h91 hr with e1 | e1 | e1
   ·rw [e1]; exact dv_num.le oM oM
   ·rw [e1]; exact dv_txt.le oM oM
   ·rw [e1]; exact dv_flag.le oM oM
 | succ n ih =>
  intro k deep hn hd hd2 hk he
  obtain ⟨c, r, rfl⟩ := kind_ne' hk
  have hkk := kindOk_kOk (kindIn_ok hk)
  have hkk1 := hkk.1
  simp only [List.length_cons] at hkk
  by_cases h1 : c.toNat = 91
  ·obtain rfl := u8_eq h1 dC
   exact (dv_list (cp := 0) (ct := 0) oM oM (fun h => absurd h oM) hu oM oM).le oM oM
  by_cases h2 : c.toNat = 63
  ·obtain rfl := u8_eq h2 dC
   exact (dv_opt (cp := 0) (ct := 0) oM oM (fun h => absurd h oM) hu oM oM).le oM oM
  have h91 : ¬ (c.toNat = 91 ∨ c.toNat = 63) := fun h => by rcases h with h | h <;> omega
  cases hr : refT (tys vs) (c :: r) with
  | none =>
   rcases plain_kinds hk h91 hr with e1 | e1 | e1
   ·rw [e1]; exact dv_num.le oM oM
   ·rw [e1]; exact dv_txt.le oM oM
   ·rw [e1]; exact dv_flag.le oM oM
  | some t =>
   obtain ⟨r', e⟩ := refT_64 hr
   simp only [List.cons.injEq] at e
   obtain ⟨rfl, rfl⟩ := e
   have href := refV_ty vs (64 :: r)
   rw [hr] at href
   rcases hrv : refV vs (64 :: r) with _ | ⟨⟨a, ca⟩, ⟨so, nm, fs⟩⟩
   ·rw [hrv] at href; cases href
   rw [hrv] at href
   obtain rfl := (Option.some.inj href).symm
   dsimp only at hr he
   have hTW := hw.ty _ (refT_mem hr)
   have h8 : fs.length ≤ 8 := hTW.len
   refine dv_typed ?_ oM
   rcases hTW.sort with h3 | h3 | h3 <;> dsimp only at h3 <;> subst h3
   ·exact fun G r code p l g1 g2 g3 => ((dt_rec0 hrv oM hkk1 (by simp only [List.length_cons]; omega) h8 oM) G r code p l g1 g2 ⟨g3.1, oM⟩).mono fun _ _ _ ⟨h6, w, b, q, h7, h8, h9, h10, h11, h12, h13⟩ => ⟨h6, w, b, q, h7, h8, oM, h10, h11, h12, oM⟩
   ·have h0 : 0 < fs.length := List.length_pos_iff.2 (hTW.ne (by simp))
    refine fun G r code p l g1 g2 g3 => ((dt_uni (cp := 15 + 10 * n) (ct := 300 + 20 * n) hrv oM hkk1 (by simp only [List.length_cons]; omega) h0 h8 hw oM oM (fun d hdm hc => ?_) oM) G r code p l g1 g2 ⟨g3.1, oM⟩).mono fun _ _ _ ⟨h6, w, b, q, h7, h8, h9, h10, h11, h12, h13⟩ => ⟨h6, w, b, q, h7, h8, oM, h10, h11, h12, oM⟩
    rcases hc with hc | rfl
    ·omega
    refine ih oM oM oM (kind_in hw (refT_mem hr) (by simp) hdm) fun t' ht' => ?_
    have := he _ hr
    rw [endsN, if_neg (by simp), kind0_nth] at this
    dsimp only at this
    rw [ht'] at this
    exact this
   ·have h0 : 0 < fs.length := List.length_pos_iff.2 (hTW.ne (by simp))
    exact fun G r code p l g1 g2 g3 => ((dt_enm hrv oM hkk1 (by simp only [List.length_cons]; omega) h0 h8 hw) G r code p l g1 g2 ⟨g3.1, oM⟩).mono fun _ _ _ ⟨h6, w, b, q, h7, h8, h9, h10, h11, h12, h13⟩ => ⟨h6, w, b, q, h7, h8, oM, h10, h11, h12, oM⟩
theorem draw_all {u : Value} {vs : List TyX} (hw : SchW (tys vs)) (hu : u.oneCell' = true) : ∀ (m : Nat) {k : List UInt8} {deep : Int}, m ≤ 4 → deep ≤ m → -800 ≤ deep → kindIn (tys vs) k = true → DrawC u vs k deep (cpk m) (ctt m) := by
 have hvl : vs.length ≤ 8 := by have := hw.len; unfold tys at this; simpa using this
 have hz : ∀ {k : List UInt8} {deep : Int}, deep ≤ 0 → -800 ≤ deep → kindIn (tys vs) k = true → DrawC u vs k deep 105 480 := fun {k deep} h1 h2 h3 => (draw0 hw hu ((tys vs).length + 1) (by have := hw.len; omega) h1 (by have := hw.len; omega) h3 (fun t ht => ends_of hw t ht)).le (by have := hw.len; omega) (by have := hw.len; omega)
 intro m
 induction m with
 | zero => intro k deep _ hd hd2 hk; exact hz hd hd2 hk
 | succ m ih =>
  intro k deep hm hd hd2 hk
  have hcm := cpk_le m oM
  have e1 : cpk (m + 1) = 8 * cpk m + 40 := rfl
  have e2 : ctt (m + 1) = 8 * ctt m + 400 := rfl
  by_cases hd0 : deep ≤ 0
  ·exact (hz hd0 hd2 hk).le oM oM
  have hD : ∀ {k : List UInt8}, kindIn (tys vs) k = true → DrawC u vs k (deep - 1) (cpk m) (ctt m) := fun {k} hk => ih oM oM oM hk
  obtain ⟨c, r, rfl⟩ := kind_ne' hk
  have hkk := kindOk_kOk (kindIn_ok hk)
  have hkk1 := hkk.1
  simp only [List.length_cons] at hkk
  by_cases h1 : c.toNat = 91
  ·obtain rfl := u8_eq h1 dC
   exact (dv_list oM oM (fun _ => hD (kindIn_tail (.inl rfl) hk)) hu oM oM).le oM oM
  by_cases h2 : c.toNat = 63
  ·obtain rfl := u8_eq h2 dC
   exact (dv_opt oM oM (fun _ => hD (kindIn_tail (.inr rfl) hk)) hu oM oM).le oM oM
  have h91 : ¬ (c.toNat = 91 ∨ c.toNat = 63) := fun h => by rcases h with h | h <;> omega
  cases hr : refT (tys vs) (c :: r) with
  | none =>
   rcases plain_kinds hk h91 hr with e1 | e1 | e1
   ·rw [e1]; exact dv_num.le oM oM
   ·rw [e1]; exact dv_txt.le oM oM
   ·rw [e1]; exact dv_flag.le oM oM
  | some t =>
   obtain ⟨r', e⟩ := refT_64 hr
   simp only [List.cons.injEq] at e
   obtain ⟨rfl, rfl⟩ := e
   have href := refV_ty vs (64 :: r)
   rw [hr] at href
   rcases hrv : refV vs (64 :: r) with _ | ⟨⟨a, ca⟩, ⟨so, nm, fs⟩⟩
   ·rw [hrv] at href; cases href
   rw [hrv] at href
   obtain rfl := (Option.some.inj href).symm
   dsimp only at hr
   have hTW := hw.ty _ (refT_mem hr)
   have h8 : fs.length ≤ 8 := hTW.len
   refine dv_typed ?_ oM
   rcases hTW.sort with h3 | h3 | h3 <;> dsimp only at h3 <;> subst h3
   ·exact fun G r code p l g1 g2 g3 => ((dt_rec hrv oM hkk1 (by simp only [List.length_cons]; omega) h8 hw oM oM (fun d hdm => hD (kind_in hw (refT_mem hr) (by simp) hdm)) oM) G r code p l g1 g2 ⟨g3.1, oM⟩).mono fun _ _ _ ⟨h6, w, b, q, h7, h8, h9, h10, h11, h12, h13⟩ => ⟨h6, w, b, q, h7, h8, oM, h10, h11, h12, oM⟩
   ·have h0 : 0 < fs.length := List.length_pos_iff.2 (hTW.ne (by simp))
    exact fun G r code p l g1 g2 g3 => ((dt_uni hrv oM hkk1 (by simp only [List.length_cons]; omega) h0 h8 hw oM oM (fun d hdm _ => hD (kind_in hw (refT_mem hr) (by simp) hdm)) oM) G r code p l g1 g2 ⟨g3.1, oM⟩).mono fun _ _ _ ⟨h6, w, b, q, h7, h8, h9, h10, h11, h12, h13⟩ => ⟨h6, w, b, q, h7, h8, oM, h10, h11, h12, oM⟩
   ·have h0 : 0 < fs.length := List.length_pos_iff.2 (hTW.ne (by simp))
    exact fun G r code p l g1 g2 g3 => ((dt_enm hrv oM hkk1 (by simp only [List.length_cons]; omega) h0 h8 hw) G r code p l g1 g2 ⟨g3.1, oM⟩).mono fun _ _ _ ⟨h6, w, b, q, h7, h8, h9, h10, h11, h12, h13⟩ => ⟨h6, w, b, q, h7, h8, oM, h10, h11, h12, oM⟩
end Go.E
namespace Go.E
set_option maxRecDepth 20000
set_option maxHeartbeats 2000000
open Go.Proofs
variable {G : Gh}
theorem c_l91Schema {r : Nat} {code : Value} {p : Int} {l : List UInt8} (hp : 0 ≤ p ∧ p ≤ 600000000000) (hs : SlV G code 1 l.length (u8s l)) :
  FnG Tryz.prog 69 [Pt r 0] G [rdO r code p tRdr] (fun v L' => ∃ x q, v = S x ∧ x.length ≤ 20000 ∧ L' = [rdO r code q tRdr] ∧ p ≤ q ∧ q ≤ p + 700) := by
 refine jH [(0, _)] Tryz.func69 Tryz.ntmps69 fun B hB hW => ?_
 repeat' (first | (refine jX ?_) | (refine jo ?_; first | refine jF fun _ => ?_ | (refine jV (g_iaddr rfl rfl oM) ?_) | (refine c_ldMS 64 rfl rfl rfl ?_ rfl (fun xs hxs => ?_); (focus ((simp only [List.length_append, List.length_cons, List.length_nil, List.length_take]; omega); done))) | (refine jAt rfl ?_) | (refine jAf rfl ?_) | (refine c_m1g rfl rfl rfl (c_l91Type ?_ (by (repeat (assumption)); done) ?_ ?_) rfl ?_; (focus ((omega); done)); (focus ((first | assumption | (simp; done)); done)); (focus ((simp; done); done)); rintro _ _ ⟨ty, q1, rfl, hty, hty1, rfl, hq1, hq2⟩; dsimp only [zA, fA]) | (refine c_m1g rfl rfl rfl (c_pick ?_ (by (repeat (assumption)); done)) rfl ?_; (focus ((first | omega | (simp; omega)); done)); rintro _ _ ⟨k, rfl, rfl, hk0, hk1⟩; dsimp only [zA, fA]) | (refine c_rt rfl rfl rfl (c_SchemaOkS ?_) rfl ?_; (focus ((simp; omega); done)))) | refine k_gb rfl rfl (fun _ => ?_) (fun _ => ?_) | (refine k_ff rfl rfl ?_) | refine k_if rfl (fun _ => ?_) (fun _ => ?_))
 all_goals (first | exact k_rr (vs := [_]) rfl ⟨rfl, trivial⟩ rfl sB ⟨rfl, _, _, rfl, by (simp only [List.length_append, List.length_cons, List.length_nil, List.length_take, List.length_drop]; omega), rfl, oM, oM⟩ | skip)
 all_goals simp only [List.length_append, List.length_cons, List.length_nil] at hk1
 all_goals (refine k_any (s_any (id := 6) [] (fun _ h => absurd h (by simp)) mixed ?_); refine jW 7 [0, 1, 2, 4, 9, 10, 11, 12] (bts 15 7703) ?_; refine x_all [3, 5] kR dC ⟨?_, ?_, trivial⟩; (focus (refine x_opg rfl rfl ?_; (refine jF fun _ => ?_); refine jK (bts 15 7711) ?_; refine jA 5 rfl ?_; ((refine c_m1g rfl rfl rfl (c_pick ?_ (by (repeat (assumption)); done)) rfl ?_; (focus ((omega); done)); rintro _ _ ⟨k, rfl, rfl, hk0, hk1⟩; dsimp only [zA, fA])); refine jK (bts 15 7743) ?_; ((refine jG (bts 15 7807) 6 rfl (g_iaddr rfl rfl ?_) ?_; (focus ((omega); done)))); refine jA 7 rfl ?_; ((refine c_ldMS 64 rfl rfl rfl ?_ rfl (fun xs hxs => ?_); (focus ((simp only [List.length_append, List.length_cons, List.length_nil, List.length_take]; omega); done)))); refine jK (bts 15 7935) ?_; refine jW 0 [8, 13, 14] (bts 15 32767) ?_; refine jQ ?_)); rotate_left 1; (focus (refine x_opg rfl rfl ?_; ((refine c_m1g rfl rfl rfl (c_pick ?_ (by (repeat (assumption)); done)) rfl ?_; (focus ((omega); done)); rintro _ _ ⟨k, rfl, rfl, hk0, hk1⟩; dsimp only [zA, fA])); refine jK (bts 15 7735) ?_; refine jA 3 rfl ?_; (refine jF fun _ => ?_); refine jK (bts 15 7743) ?_; ((refine jG (bts 15 7807) 6 rfl (g_iaddr rfl rfl ?_) ?_; (focus ((omega); done)))); refine jA 7 rfl ?_; ((refine c_ldMS 64 rfl rfl rfl ?_ rfl (fun xs hxs => ?_); (focus ((simp only [List.length_append, List.length_cons, List.length_nil, List.length_take]; omega); done)))); refine jK (bts 15 7935) ?_; refine jW 0 [8, 13, 14] (bts 15 32767) ?_; refine jQ ?_)); rotate_left 1)
 all_goals repeat' (refine jR ?_)
 all_goals exact k_rr (vs := [_]) rfl ⟨rfl, trivial⟩ rfl sB ⟨rfl, _, _, rfl, by (simp only [List.length_append, List.length_cons, List.length_nil, List.length_take, List.length_drop]; omega), rfl, oM, oM⟩
theorem c_l91Some {r : Nat} {code : Value} {p : Int} {l s : List UInt8} (hp : 0 ≤ p ∧ p ≤ 600000000000) (hs : SlV G code 1 l.length (u8s l)) (hsl : s.length ≤ 10000000) :
  FnG Tryz.prog 70 [Pt r 0, S s] G [rdO r code p tRdr] (fun v L' => ∃ x q, v = S x ∧ x.length ≤ 400 ∧ L' = [rdO r code q tRdr] ∧ p ≤ q ∧ q ≤ p + 20) := by
 have cx_lkg : ∀ {k : List UInt8} (G : Gh), k.length ≤ 1000 → FnS Tryz.prog 19 [S s, S k] G (fun v _ => ∃ u b, v = Tu [u, Bo b]) := fun {k} G h => (c_l3Kind (G := G) (s := s) (k := k) oM oM).mono fun v G' L' ⟨h1, h2, u, vs, h3, _⟩ => ⟨h1, h2, u, _, h3⟩
 refine jB (Post := fun v G' L' => G' = G ∧ _) [(0, _), (1, _)] Tryz.func70 Tryz.ntmps70 fun B hok hB hW => ?_
 repeat' (first | (refine jR ?_) | (refine jo ?_; first | refine jF fun _ => ?_ | (refine jV (g_iaddr rfl rfl oM) ?_) | (refine c_ldMS 64 rfl rfl rfl ?_ rfl (fun xs hxs => ?_); (focus ((simp only [List.length_append, List.length_cons, List.length_nil, List.length_take]; omega); done))) | (refine c_m1g rfl rfl rfl (c_pick ?_ (by (repeat (assumption)); done)) rfl ?_; (focus ((omega); done)); rintro _ _ ⟨k, rfl, rfl, hk0, hk1⟩; dsimp only [zA, fA]) | (refine c_m1g rfl rfl rfl (c_l91Kind ?_ (by (repeat (assumption)); done)) rfl ?_; (focus ((omega); done)); rintro _ _ ⟨kd, q1, rfl, hkd, rfl, hq1, hq2⟩; dsimp only [zA, fA]) | (refine c_fns rfl rfl rfl ((cx_lkg _) oM) rfl ?_; rintro _ G hle ⟨u1, b1, rfl⟩; skip)) | refine k_if rfl (fun _ => ?_) (fun _ => ?_) | refine k_cd rfl (fun _ => ?_) (fun _ => ?_))
 all_goals refine Nx.base hok hB ?_
 all_goals exact k_rr (vs := [_]) rfl ⟨rfl, trivial⟩ rfl sB ⟨rfl, _, _, rfl, by (first | omega | (simp only [List.length_append, List.length_cons, List.length_nil, List.length_take, List.length_drop]; omega)), rfl, oM, oM⟩
theorem c_l91Of {r : Nat} {code : Value} {p : Int} {l s k : List UInt8} (hp : 0 ≤ p ∧ p ≤ 500000000000) (hs : SlV G code 1 l.length (u8s l)) (hsl : s.length ≤ 10000000) (hkl : k.length ≤ 1000) :
  FnG Tryz.prog 71 [Pt r 0, S s, S k] G [rdO r code p tRdr] (fun v L' => ∃ x q, v = S x ∧ x.length ≤ 20000 ∧ L' = [rdO r code q tRdr] ∧ p ≤ q ∧ q ≤ p + 3000000) := by
 by_cases hk : kindS s k = true
 case neg =>
  have hk2 : kindS s k = false := by simpa using hk
  have cx_lk1 : ∀ G, FnS Tryz.prog 19 [S s, S k] G (fun v _ => ∃ u, v = Tu [u, Bo false]) := fun G => by
   refine (c_l3Kind (G := G) (s := s) (k := k) oM oM).mono ?_
   rintro v G' L' ⟨h1, h2, u, vs, rfl, _⟩
   exact ⟨h1, h2, u, by rw [hk2]⟩
  refine jB (Post := fun v G' L' => G' = G ∧ _) [(0, _), (1, _), (2, _)] Tryz.func71 Tryz.ntmps71 fun B hok hB hW => ?_
  repeat' (first | (refine jR ?_) | (refine jo ?_; (refine c_fns rfl rfl rfl (cx_lk1 _) rfl ?_; rintro _ G hle ⟨u1, rfl⟩; skip)) | (refine k_tt rfl rfl ?_))
  all_goals refine Nx.base hok hB ?_
  all_goals exact k_rr (vs := [_]) rfl ⟨rfl, trivial⟩ rfl sRr ⟨rfl, _, _, rfl, by (simp only [List.length_append, List.length_cons, List.length_nil, List.length_take, List.length_drop]; omega), rfl, oM, oM⟩
 obtain ⟨ts, hsc, hki, hw⟩ := kindS_some2 hk
 have cx_lka : ∀ G, FnS Tryz.prog 19 [S s, S k] G (fun v G' => ∃ a c vs, v = Tu [.slice a vs.length c, Bo true] ∧ SchR G' (.slice a vs.length c) vs ∧ tys vs = ts) := fun G => by
  refine (c_l3Kind (G := G) (s := s) (k := k) oM oM).mono ?_
  rintro v G' L' ⟨h1, h2, u, vs, rfl, h4, _, h6⟩
  obtain ⟨_, ⟨rfl, h0⟩ | ⟨b, o, cap, rfl, _, _⟩⟩ := h4.sl
  ·exact ⟨h1, h2, none, 0, vs, by rw [hk, h0], by rw [h0]; exact h4, h6 ts hsc hki⟩
  ·exact ⟨h1, h2, _, cap, vs, by rw [hk], h4, h6 ts hsc hki⟩
 refine jB (Post := fun v G' L' => G' = G ∧ _) [(0, _), (1, _), (2, _)] Tryz.func71 Tryz.ntmps71 fun B hok hB hW => ?_
 repeat' (first | (refine jR ?_) | (refine jo ?_; (refine c_fns rfl rfl rfl (cx_lka _) rfl ?_; rintro _ G hle ⟨av1, cv1, vs1, rfl, hR1, hT1⟩; skip)) | (refine k_ff rfl rfl ?_))
 subst hT1
 have hg0 := hle
 have hu1 := hR1.sl.one
 have cx_dv := fun {p : Int} (hp : 0 ≤ p ∧ p + cpk 4 ≤ 600000000000) => draw_all hw hu1 4 (k := k) (deep := 4) oM oM oM hki G r code p l hR1 (hs.mono hle) hp
 have hc4 : cpk 4 = 453480 := by decide
 have ht4 : ctt 4 = 2200080 := by decide
 rw [hc4, ht4] at cx_dv
 repeat' ((refine jo ?_; (refine c_m1s rfl rfl rfl (cx_dv oM) rfl ?_; rintro _ G1 _ hle ⟨w1, b1, q1, rfl, hrep, htot, hone, rfl, hq1, hq2⟩; dsimp only [zA, fA]; skip)))
 have hg1 := hle
 have hob := outR hw hrep
 unfold OutB at hob
 have cx_out := c_outS hw hrep oM
 repeat' (first | (refine jR ?_) | (refine jo ?_; (refine c_rt rfl rfl rfl cx_out rfl ?_)))
 refine k_loop (ι := List UInt8 × Int × Int × Gh) (fun j => Gh.le G1 j.2.2.2 ∧ (0 ≤ j.2.1 ∧ j.2.1 ≤ 3) ∧ (1 ≤ j.1.length ∧ j.1.length ≤ 2 * ctt (j.2.1.toNat + 1)) ∧ p ≤ j.2.2.1 ∧ j.2.2.1 ≤ p + 500000 * (4 - j.2.1)) (fun j => [(0, Pt r 0), (2, S k), (7, .slice av1 vs1.length cv1), (9, S j.1), (10, I j.2.1)]) (fun j => j.2.2.2) (fun j => [rdO r code j.2.2.1 tRdr]) (fun j => j.2.1.toNat) (w1.out, 3, q1, G1) ?_ tU rfl sRr (fun j Hj => ?_)
 ·refine ⟨Gh.le.refl _, by dsimp only; omega, ⟨hone, ?_⟩, by dsimp only; omega, by dsimp only; omega⟩
  show w1.out.length ≤ 2 * ctt 4
  omega
 obtain ⟨t, d, q, Gq⟩ := j
 dsimp only at Hj ⊢
 obtain ⟨hgq, hd, ⟨ht1, ht2⟩, hq3, hq4⟩ := Hj
 have hs2 := hs.mono ((hg0.trans hg1).trans hgq)
 clear cx_dv cx_out hrep
 by_cases hgo : 150 < t.length ∧ 0 < d
 ·obtain ⟨hgo1, hgo2⟩ := hgo
  have hcm := cpk_le d.toNat oM
  have cx_dv := fun {p : Int} (hp : 0 ≤ p ∧ p + 500000 ≤ 600000000000) => ((draw_all hw hu1 d.toNat (k := k) (deep := d) oM oM oM hki).le hcm.2.1 (Nat.le_refl _)) Gq r code p l (hR1.mono (hg1.trans hgq)) hs2 hp
  repeat' (first | (refine jR ?_) | (refine jo ?_; first | (refine jAt rfl ?_) | (refine c_m1s rfl rfl rfl (cx_dv oM) rfl ?_; rintro _ G1 _ hle ⟨w1, b1, q1, rfl, hrep, htot, hone, rfl, hq1, hq2⟩; dsimp only [zA, fA]; skip)) | (refine k_gt rfl rfl (dTt oM) ?_) | (refine k_tt rfl (dTt ‹_›) ?_))
  have hob := outR hw hrep
  unfold OutB at hob
  have cx_out := c_outS hw hrep oM
  have e : (d - 1).toNat + 1 = d.toNat := oM
  repeat' (first | refine jM ?_ | (refine jo ?_; (refine c_rt rfl rfl rfl cx_out rfl ?_)))
  exact k_rd (w1.out, d - 1, q1, G1) ⟨hgq.trans hle, by dsimp only; omega, ⟨hone, by dsimp only; rw [e]; omega⟩, by dsimp only; omega, by dsimp only; omega⟩ (by dsimp only; omega) tU rfl sRr
 ·have hx : t.length ≤ 150 ∨ d ≤ 0 := oM
  have hl : t.length ≤ 8480 := by
   rcases hx with hx | hx
   ·omega
   ·have e : d = 0 := oM
    subst e
    have : ctt (Int.toNat 0 + 1) = 4240 := by decide
    omega
  repeat' (first | (refine jR ?_) | (refine jo ?_; first | (refine jAt rfl ?_) | (refine jAf rfl ?_) | (refine c_m1g rfl rfl rfl (c_pick ?_ (by (repeat (assumption)); done)) rfl ?_; (focus ((omega); done)); rintro _ _ ⟨k, rfl, rfl, hk0, hk1⟩; dsimp only [zA, fA])) | refine k_g rfl rfl (fun _ => ?_) (fun _ => ?_) | (refine k_ff rfl (by first | rfl | (refine decide_eq_false ?_; (omega))) ?_) | refine k_if rfl (fun _ => ?_) (fun _ => ?_))
  all_goals refine Nx.base hok hB ?_
  all_goals (first | exact k_rr (vs := [_]) rfl ⟨rfl, trivial⟩ rfl sRr ⟨rfl, _, _, rfl, by (omega), rfl, oM, oM⟩ | skip)
  all_goals (refine k_any (s_any (id := 11) [] (fun _ h => absurd h (by simp)) mixed ?_); refine jW 7 [0, 1, 2, 4, 9, 10, 11, 12] (bts 15 7703) ?_; refine x_all [3, 5] kR dC ⟨?_, ?_, trivial⟩; (focus (refine x_opg rfl rfl ?_; (refine jF fun _ => ?_); refine jK (bts 15 7711) ?_; refine jA 5 rfl ?_; ((refine c_m1g rfl rfl rfl (c_pick ?_ (by (repeat (assumption)); done)) rfl ?_; (focus ((omega); done)); rintro _ _ ⟨k, rfl, rfl, hk0, hk1⟩; dsimp only [zA, fA])); refine jK (bts 15 7743) ?_; ((refine jG (bts 15 7807) 6 rfl (g_iaddr rfl rfl ?_) ?_; (focus ((omega); done)))); refine jA 7 rfl ?_; ((refine c_ldMS 64 rfl rfl rfl ?_ rfl (fun xs hxs => ?_); (focus ((simp only [List.length_append, List.length_cons, List.length_nil, List.length_take]; omega); done)))); refine jK (bts 15 7935) ?_; refine jW 0 [8, 13, 14] (bts 15 32767) ?_; refine jQ ?_)); rotate_left 1; (focus (refine x_opg rfl rfl ?_; ((refine c_m1g rfl rfl rfl (c_pick ?_ (by (repeat (assumption)); done)) rfl ?_; (focus ((omega); done)); rintro _ _ ⟨k, rfl, rfl, hk0, hk1⟩; dsimp only [zA, fA])); refine jK (bts 15 7735) ?_; refine jA 3 rfl ?_; (refine jF fun _ => ?_); refine jK (bts 15 7743) ?_; ((refine jG (bts 15 7807) 6 rfl (g_iaddr rfl rfl ?_) ?_; (focus ((omega); done)))); refine jA 7 rfl ?_; ((refine c_ldMS 64 rfl rfl rfl ?_ rfl (fun xs hxs => ?_); (focus ((simp only [List.length_append, List.length_cons, List.length_nil, List.length_take]; omega); done)))); refine jK (bts 15 7935) ?_; refine jW 0 [8, 13, 14] (bts 15 32767) ?_; refine jQ ?_)); rotate_left 1)
  all_goals repeat' (refine jR ?_)
  all_goals exact k_rr (vs := [_]) rfl ⟨rfl, trivial⟩ rfl sB ⟨rfl, _, _, rfl, by (simp only [List.length_append, List.length_cons, List.length_nil, List.length_take, List.length_drop]; omega), rfl, oM, oM⟩
theorem c_l91Three {r : Nat} {code : Value} {p : Int} {l : List UInt8} (hp : 0 ≤ p ∧ p ≤ 400000000000) (hs : SlV G code 1 l.length (u8s l)) :
  FnG Tryz.prog 28 [Pt r 0] G [rdO r code p tRdr] (fun v L' => ∃ s k x q, v = Tu [S s, S k, S x] ∧ (s.length ≤ 20000 ∧ k.length ≤ 400 ∧ x.length ≤ 20000) ∧ L' = [rdO r code q tRdr] ∧ p ≤ q ∧ q ≤ p + 4000000) := by
 refine jH [(0, _)] Tryz.func28 Tryz.ntmps28 fun B hB hW => ?_
 repeat' (first | (refine jR ?_) | (refine jo ?_; first | (refine c_m1g rfl rfl rfl (c_l91Schema ?_ (by (repeat (assumption)); done)) rfl ?_; (focus ((omega); done)); rintro _ _ ⟨sc, q1, rfl, hsc, rfl, hq1, hq2⟩; dsimp only [zA, fA]) | (refine c_m1g rfl rfl rfl (c_l91Some ?_ (by (repeat (assumption)); done) ?_) rfl ?_; (focus ((omega); done)); (focus ((omega); done)); rintro _ _ ⟨kd, q1, rfl, hkd, rfl, hq1, hq2⟩; dsimp only [zA, fA]) | (refine c_m1g rfl rfl rfl (c_l91Of ?_ (by (repeat (assumption)); done) ?_ ?_) rfl ?_; (focus ((omega); done)); (focus ((omega); done)); (focus ((omega); done)); rintro _ _ ⟨tx, q1, rfl, htx, rfl, hq1, hq2⟩; dsimp only [zA, fA])))
 exact k_rr (vs := [_, _, _]) rfl ⟨rfl, rfl, rfl, trivial⟩ rfl sRr ⟨rfl, _, _, _, _, rfl, ⟨oM, oM, oM⟩, rfl, oM, oM⟩
def leavesV (s k w : List UInt8) : Option (List (List UInt8)) := match givenV s k w with
 | some u => if (u.leaves.all fun r => decide (r.length ≤ 8)) = true then some (lvT [] u) else none
 | none => none
theorem leaves_deep : ∀ (n : Nat) (v : V), v.tot ≤ n → ∀ r ∈ v.leaves, r.length ≤ n
 | 0, v, h, _, _ => by have := tot_pos v; omega
 | n + 1, .nd w x t ks, h, r, hr => by
  rw [nd_tot] at h
  rw [V.leaves] at hr
  split at hr
  ·simp only [List.mem_singleton] at hr; subst hr; simp
  ·split at hr
   ·have : ∀ (ks : List V), V.tots ks ≤ n → r ∈ V.leavesF ks → r.length ≤ n := fun ks => by
     induction ks with
     | nil => intro _ hr; rw [V.leavesF] at hr; cases hr
     | cons v ks ih =>
      intro ht hr
      rw [V.tots] at ht
      rw [V.leavesF] at hr
      rcases List.mem_append.1 hr with hr | hr
      ·exact leaves_deep n v oM r hr
      ·exact ih oM hr
    have := this ks oM hr
    omega
   ·obtain ⟨j, q, h1, rfl, h3⟩ := leavesS_mem hr
    have := tot_nth h1
    have := leaves_deep n (nth ks j) oM q h3
    simp only [List.length_cons]; omega
theorem lvT_nth {u : V} {i : Nat} (h : i < u.leaves.length) : nth (lvT [] u) i = pathText (nth u.leaves i) := by
 unfold lvT
 rw [nth_eq (by simpa using h), nth_eq h]; simp
theorem c_PathLeavesS {s k w : List UInt8} (h : s.length ≤ 1048576 ∧ k.length ≤ 1048576 ∧ w.length ≤ 1048576) : FnS Tryz.prog 78 [S s, S k, S w] G (fun v G' => ∃ a c ls, v = Tu [.slice a ls.length c, Bo (leavesV s k w).isSome] ∧ SlV G' (.slice a ls.length c) 1 ls.length (rows strF ls) ∧ (∀ l, leavesV s k w = some l → ls = l) ∧ (leavesV s k w = none → ls = [])) := by
 unfold leavesV
 cases hg : givenV s k w with
 | none =>
  have cx_l40 := c_l4Of0 (G := G) h hg
  refine jB [(0, _), (1, _), (2, _)] Tryz.func78 Tryz.ntmps78 fun B hok hB hW => ?_
  repeat' (first | (refine jR ?_) | (refine jo ?_; first | refine jF fun _ => ?_ | (refine c_fns rfl rfl rfl cx_l40 rfl ?_; rintro _ G hle ⟨uu, q1, rfl⟩; skip)) | (refine k_tt rfl rfl ?_))
  rename_i x
  refine Nx.blkAcc (m := 0) (sz := 1) .here rfl ?_
  refine Nx.sealS (v := .slice (some ⟨x, 0, none⟩) 0 0) fun G2 hG2 hsl => ?_
  refine jZ (vs := [_, _]) rfl ⟨rfl, rfl, trivial⟩ rfl ⟨(Gh.le.trans aS hG2), rfl, ?_⟩
  exact ⟨_, _, [], rfl, hsl, fun l h => (by cases h), fun _ => rfl⟩
 | some u =>
  obtain ⟨ts, hs, hki, hvo, hto, hwf⟩ := given_some hg
  have hw := schemaOf_w hs
  have cx_l4x := c_l4OfX (G := G) (s := s) (k := k) (w := w) h hs hki hvo
  have hok := leaves_ok hw (valOf_of_k hvo)
  have hdp := leaves_deep u.tot u (Nat.le_refl _)
  have hll : (lvT [] u).length = u.size := lvT_len
  have hl2 : u.leaves.length = u.size := (size_leaves u).symm
  have hsz := size_totL u
  dsimp only
  refine jB [(0, _), (1, _), (2, _)] Tryz.func78 Tryz.ntmps78 fun B hok hB hW => ?_
  repeat' (first | (refine jR ?_) | (refine jo ?_; first | refine jF fun _ => ?_ | (refine c_fns rfl rfl rfl cx_l4x rfl ?_; rintro _ G hle ⟨av1, cv1, vs1, b1, rfl, hR1, hT1, hrep⟩; skip)) | (refine k_ff rfl rfl ?_))
  rename_i y
  subst hT1
  refine Nx.blkAcc (m := 0) (sz := 1) .here rfl ?_
  have cx_lv := c_leavesS hw hrep [] (some ⟨y, 0, none⟩) 0 0 [] rfl oM (by simp) (by simp only [List.length_nil]; omega)
  repeat' (first | (refine jR ?_) | (refine jo ?_; (refine c_accg rfl rfl rfl cx_lv rfl ?_; rintro _ _ ⟨av, cv, rfl, rfl⟩; dsimp only [zA, fA])))
  rw [Nat.zero_add]
  have hle0 := hle
  refine Nx.sealS (v := .slice av u.size cv) fun G2 hG2 hsl => ?_
  have hok8 : ∀ i, i < u.leaves.length → pathOf (nth (lvT [] u) i) = if (nth u.leaves i).length ≤ 8 then some (nth u.leaves i) else none := fun i hi => by
   rw [lvT_nth hi]; exact pathOf_in (hok _ (nth_mem hi)).1
  have hxl : ∀ i, i < u.leaves.length → (nth (lvT [] u) i).length ≤ 1048576 := fun i hi => by
   rw [lvT_nth hi]
   have h1 := pathText_len (hok _ (nth_mem hi)).1
   have h2 := hdp _ (nth_mem hi)
   omega
  have hall : (∀ i, i < u.leaves.length → (nth u.leaves i).length ≤ 8) → (u.leaves.all fun r => decide (r.length ≤ 8)) = true := fun h => by
   rw [List.all_eq_true]
   intro r hr
   obtain ⟨i, hi, rfl⟩ := List.mem_iff_getElem.1 hr
   have := h i hi
   rw [nth_eq hi] at this
   exact decide_eq_true this
  have hex : ∀ i, i < u.leaves.length → ¬ (nth u.leaves i).length ≤ 8 → (u.leaves.all fun r => decide (r.length ≤ 8)) = false := fun i hi h => by
   cases hb : u.leaves.all fun r => decide (r.length ≤ 8) with
   | false => rfl
   | true =>
    rw [List.all_eq_true] at hb
    exact absurd (of_decide_eq_true (hb _ (nth_mem hi))) h
  clear cx_lv hok hdp
  generalize lvT [] u = xs at *
  generalize u.leaves = ls at *
  obtain ⟨obv, hob⟩ : ∃ b, (ls.all fun r => decide (r.length ≤ 8)) = b := ⟨_, rfl⟩
  rw [hob]
  rw [hob] at hall
  rw [← hll] at hsl ⊢
  refine k_loop (ι := Nat × Gh) (fun i => (i.1 ≤ xs.length ∧ ∀ j, j < i.1 → (nth ls j).length ≤ 8) ∧ Gh.le G i.2 ∧ SlV i.2 (.slice av xs.length cv) 1 xs.length (rows strF xs)) (fun i => [(11, .slice av xs.length cv), (12, I i.1)]) (fun i => i.2) (fun i => []) (fun i => xs.length - i.1) (0, G2) ?_ tU rfl sRr (fun i Hi => ?_)
  ·exact ⟨⟨Nat.zero_le _, fun j hj => absurd hj (Nat.not_lt_zero _)⟩, hG2, hsl⟩
  obtain ⟨i, Gq⟩ := i
  dsimp only at Hi ⊢
  obtain ⟨⟨hi0, hj8⟩, hgq, hsq⟩ := Hi
  by_cases hi : i < xs.length
  ·obtain ⟨xb, xo, xc, e, hsx⟩ := hsq.expl oM
   simp only [Value.slice.injEq] at e
   obtain ⟨rfl, -, rfl⟩ := e
   have hxi : nth xs i = nth xs i := rfl
   have hpo := hok8 i oM
   by_cases h8 : (nth ls i).length ≤ 8
   ·rw [if_pos h8] at hpo
    have cx_sp := steps_yes (hxl i oM) hpo
    repeat' (first | refine jM ?_ | (refine jo ?_; first | refine jV (g_lenL rfl) ?_ | (refine jV (g_iaddrN rfl rfl oM) ?_) | (refine jV (g_ldRS rfl rfl aS ?_) ?_; (focus ((omega); done))) | (refine c_fns rfl rfl rfl (cx_sp _) rfl ?_; rintro _ G hle ⟨sa, sc, sn, rfl, hsp⟩; skip)) | (refine k_tt rfl (dTt oM) ?_) | (refine k_ff rfl rfl ?_))
    exact k_rd (i + 1, _) ⟨⟨by dsimp only; omega, fun j hj => by
     rcases Nat.lt_or_ge j i with h | h
     ·exact hj8 j h
     ·obtain rfl : j = i := by dsimp only at hj; omega
      exact h8⟩, Gh.le.trans hgq aS, hsq.mono aS⟩ (by dsimp only; omega) tU rfl sRr
   ·rw [if_neg h8] at hpo
    have cx_sp := steps_no (hxl i oM) hpo
    obtain rfl : obv = false := by rw [← hob]; exact hex i oM h8
    repeat' (first | (refine jR ?_) | (refine jo ?_; first | refine jF fun _ => ?_ | refine jV (g_lenL rfl) ?_ | (refine jV (g_iaddrN rfl rfl oM) ?_) | (refine jV (g_ldRS rfl rfl aS ?_) ?_; (focus ((omega); done))) | (refine c_fns rfl rfl rfl (cx_sp _) rfl ?_; rintro _ G hle ⟨sa, sc, sn, rfl, hsp⟩; skip)) | (refine k_tt rfl (by first | rfl | (refine decide_eq_true ?_; (omega))) ?_))
    rename_i z
    refine Nx.blkAcc (m := 0) (sz := 1) .here rfl ?_
    refine Nx.sealS (v := .slice (some ⟨z, 0, none⟩) 0 0) fun G3 hG3 hsl3 => ?_
    refine jZ (vs := [_, _]) rfl ⟨rfl, rfl, trivial⟩ rfl ⟨(hle0.trans (hgq.trans (hle.trans hG3))), rfl, ?_⟩
    exact ⟨_, _, [], rfl, hsl3, fun l h => (by cases h), fun _ => rfl⟩
  ·obtain rfl : i = xs.length := oM
   obtain rfl : obv = true := hall fun j hj => hj8 j oM
   repeat' (first | (refine jR ?_) | (refine jo ?_; (refine jV (g_lenL rfl) ?_)) | (refine k_ff rfl (dFf oM) ?_))
   refine jZ (vs := [_, _]) rfl ⟨rfl, rfl, trivial⟩ rfl ⟨(hle0.trans hgq), rfl, ?_⟩
   exact ⟨_, _, xs, rfl, hsq, fun l h => by simpa using h, fun h => (by cases h)⟩
end Go.E
namespace Go.E
set_option maxRecDepth 20000
set_option maxHeartbeats 2000000
open Go.Proofs
variable {ts : List Ty}
theorem tots_set : ∀ {ks : List V} {i : Nat} {y : V}, i < ks.length → V.tots (ks.set i y) + (nth ks i).tot = V.tots ks + y.tot
 | [], i, y, h => by simp at h
 | v :: ks, 0, y, _ => by rw [List.set_cons_zero, V.tots, V.tots, show nth (v :: ks) 0 = v from rfl]; omega
 | v :: ks, i + 1, y, h => by
  have := tots_set (ks := ks) (i := i) (y := y) (by simpa using h)
  rw [List.set_cons_succ, V.tots, V.tots, show nth (v :: ks) (i + 1) = nth ks i from rfl]; omega
theorem nf_tot {f : Fld} {y : V} : V.tots (nf ts f y) ≤ 20 + y.tot := by
 unfold nf
 split
 ·simp [V.tots]
 ·simp [V.tots, nd_tot]
theorem putF_tot {f : Fld} {y : V} : ∀ {vs : List V}, V.tots (putF ts f y vs) ≤ V.tots vs + 20 + y.tot
 | [] => by rw [putF_nil]; have := nf_tot (ts := ts) (f := f) (y := y); simp only [V.tots]; omega
 | v :: vs => by
  have h1 := nf_tot (ts := ts) (f := f) (y := y)
  have h2 := putF_tot (f := f) (y := y) (vs := vs)
  rw [putF_cons]
  split
  ·rw [V.tots, V.tots]; omega
  ·rw [tots_app]
   split
   ·rw [V.tots]; omega
   ·rw [V.tots]; omega
theorem kid0_tot (v : V) : (nth v.kids 0).tot ≤ v.tot := by
 obtain ⟨w, x, t, ks⟩ := v
 rw [nd_tot, V.kids]
 cases ks with
 | nil =>
  have : (nth ([] : List V) 0).tot = 20 := by show V.tot (.nd 0 [] 0 []) = 20; rw [nd_tot]; simp [V.tots]
  omega
 | cons u ks => rw [V.tots, show nth (u :: ks) 0 = u from rfl]; omega
theorem putF_tot2 {f : Fld} {y u : V} : ∀ {vs : List V}, Srt vs → toldV f vs = some u → V.tots (putF ts f y vs) + u.tot ≤ V.tots vs + 20 + y.tot
 | [], _, h => by cases h
 | v :: vs, hs, h => by
  replace hs := List.pairwise_cons.1 hs
  have h1 := nf_tot (ts := ts) (f := f) (y := y)
  rw [toldV] at h
  rw [putF_cons]
  by_cases he : v.tag = f.tag
  ·rw [if_pos he] at h
   simp only [Option.some.injEq] at h
   have h3 := kid0_tot v
   rw [h] at h3
   rw [if_neg oM, if_pos he, tots_app, V.tots]; omega
  ·rw [if_neg he] at h
   by_cases hl : v.tag < f.tag
   ·have h2 := putF_tot2 (y := y) hs.2 h
    rw [if_pos hl, V.tots, V.tots]; omega
   ·rw [toldV_gt fun z hz => by have := hs.1 z hz; omega] at h
    cases h
theorem setV_tot (hw : SchW ts) {k : List UInt8} {v : V} (h : OfK ts k v) (hk : kindIn ts k = true) {n : Int} (hn : 0 ≤ n) {k1 : List UInt8} {v1 : V} (e : stepV ts k v n = some (k1, v1)) (y : V) :
  (setV ts k v n y).tot + v1.tot ≤ v.tot + 40 + y.tot ∨ (v1.tot ≤ 40000 ∧ (setV ts k v n y).tot ≤ v.tot + 40 + y.tot) := by
 obtain ⟨c, r, rfl⟩ := kind_ne hk
 unfold stepV at e
 dsimp only at e
 split at e
 ·rename_i hc
  split at e
  ·rename_i hlt
   simp only [Option.some.injEq, Prod.mk.injEq] at e
   obtain ⟨rfl, rfl⟩ := e
   rcases ofK_inv_c h oM with ⟨g1, _⟩ | ⟨g1, _⟩ | ⟨g1, _⟩ | ⟨g1, ks, g2, g3, rfl⟩ | ⟨g1, rfl | ⟨u, g3, rfl⟩⟩
   ·omega
   ·omega
   ·omega
   ·rw [V.kids] at hlt ⊢
    have hs := tots_set (ks := ks) (i := n.toNat) (y := y) oM
    unfold setV
    rw [V.what, if_neg dC, if_pos rfl, V.kids, nd_tot, nd_tot]
    left; omega
   ·simp [V.kids] at hlt; omega
   ·simp [V.kids] at hlt
    obtain rfl : n = 0 := oM
    unfold setV
    rw [V.what, if_neg dC, if_neg dC, V.kids, nd_tot, nd_tot]
    left
    simp only [V.tots]
    show 20 + _ + (y.tot + 0) + u.tot ≤ _
    omega
  ·cases e
 ·split at e
  ·cases e
  ·rename_i t hr
   have ht := refT_mem hr
   split at e
   ·cases e
   ·rename_i f hf
    have hfm := List.mem_of_find?_eq_some hf
    split at e
    ·cases e
    ·rename_i h69
     split at e
     ·rename_i h82
      simp only [Option.some.injEq, Prod.mk.injEq] at e
      obtain ⟨rfl, rfl⟩ := e
      rcases ofK_inv_t h hr with ⟨_, fs, rfl, g3, g4, g5, g6⟩ | ⟨g1, _⟩ | ⟨g1, _⟩
      ·have e1 : setV ts (c :: r) (.nd 82 [] 0 (fs.map fldV)) n y = .nd 82 [] 0 (putF ts f y (fs.map fldV)) := by
        unfold setV; rw [V.what, if_pos rfl, hr]
        dsimp only
        rw [hf]; rfl
       rw [e1, nd_tot, nd_tot]
       unfold getV
       rw [V.kids]
       cases hto : toldV f (fs.map fldV) with
       | none =>
        have h1 := putF_tot (ts := ts) (f := f) (y := y) (vs := fs.map fldV)
        have h2 := standV_tot hw ht h69 hfm
        right
        refine ⟨h2, ?_⟩
        omega
       | some u =>
        have h1 := putF_tot2 (ts := ts) (y := y) (srt_fs g6) hto
        left
        show _ + u.tot ≤ _
        omega
      ·omega
      ·omega
     ·rename_i h82
      split at e
      ·simp only [Option.some.injEq, Prod.mk.injEq] at e
       obtain ⟨rfl, rfl⟩ := e
       rcases ofK_inv_t h hr with ⟨h1, _⟩ | ⟨h1, _⟩ | ⟨_, _, d, u, rfl, g4, g5⟩
       ·omega
       ·omega
       ·unfold setV
        rw [V.what, if_neg dC, if_neg dC, V.kids, nd_tot, nd_tot]
        left
        simp only [V.tots]
        show 20 + _ + (y.tot + 0) + u.tot ≤ _
        omega
      ·cases e
theorem changeV_tot (hw : SchW ts) : ∀ {p : List Int} {k : List UInt8} {v y : V} {k' : List UInt8} {v' : V}, OfK ts k v → kindIn ts k = true → (∀ n ∈ p, 0 ≤ n) → followV ts k v p = some (k', v') → (changeV ts k v p y).tot ≤ v.tot + 40040 * p.length + y.tot
 | [], k, v, y, k', v', h, hk, _, e => by rw [changeV]; omega
 | n :: p, k, v, y, k', v', h, hk, hp, e => by
  unfold followV at e
  cases hs : stepV ts k v n with
  | none => rw [hs] at e; cases e
  | some x =>
   rw [hs] at e
   obtain ⟨k1, v1⟩ := x
   have hn := hp n (by simp)
   obtain ⟨h1, h2⟩ := stepV_ok hw h hk hn hs
   have ih := changeV_tot hw (y := y) h1 h2 (fun m hm => hp m (by simp [hm])) e
   rw [changeV_cons hs, List.length_cons]
   rcases setV_tot hw h hk hn hs (changeV ts k1 v1 p y) with g | ⟨g1, g2⟩
   ·omega
   ·omega
end Go.E
namespace Go.E
set_option maxRecDepth 20000
set_option maxHeartbeats 2000000
open Go.Proofs
variable {G : Gh}
def pathSetV (s k w p x : List UInt8) : Option (List UInt8) := match schemaOf s, givenV s k w, pathOf p with
 | some ts, some u, some q => match followV ts k u q with
  | none => none
  | some (k', _) => match rd ts 12 k' x with
   | some (y, []) => if (changeV ts k u q y).out.length ≤ 400 ∧ (changeV ts k u q y).deep ≤ 12 then some (changeV ts k u q y).out else none
   | _ => none
 | _, _, _ => none
def psR (o : Option (List UInt8)) : Value := Tu [S (o.getD []), Bo o.isSome]
theorem psv_none {s k x : List UInt8} {o : Option (List Int)} : (match schemaOf s, (none : Option V), o with
 | some ts, some u, some q => match followV ts k u q with
  | none => none
  | some (k', _) => match rd ts 12 k' x with
   | some (y, []) => if (changeV ts k u q y).out.length ≤ 400 ∧ (changeV ts k u q y).deep ≤ 12 then some (changeV ts k u q y).out else none
   | _ => none
 | _, _, _ => none) = none := by cases schemaOf s <;> rfl
end Go.E
namespace Go.E
set_option maxRecDepth 20000
set_option maxHeartbeats 2000000
def keyW (w : Nat) (x : List UInt8) (t : Int) (js : List (List UInt8)) : List UInt8 :=
 if w = 110 then [u8 ((numOf x 999999).getD 0 / 65536), u8 ((numOf x 999999).getD 0 / 256), u8 ((numOf x 999999).getD 0)] else if w = 116 then x ++ [0] else if w = 102 then (if x = [121, 101, 115] then [1] else [0]) else if w = 69 then [u8 t]
 else if w = 63 ∧ js = [] then [0] else if w = 85 ∨ w = 61 then u8 t :: js.flatten else if w = 63 then (js.map (1 :: ·)).flatten else (js.map (1 :: ·)).flatten ++ [0]
mutual
def V.key : V → List UInt8
 | .nd w x t ks => keyW w x t (V.keys ks)
def V.keys : List V → List (List UInt8)
 | [] => []
 | v :: r => V.key v :: V.keys r
end
def okV (s k w : List UInt8) : Bool := (givenV s k w).isSome
end Go.E
namespace Go.E
set_option maxRecDepth 20000
set_option maxHeartbeats 2000000
open Go.Proofs
theorem pgv_some {s k w p k1 x1 : List UInt8} (h : pathGetV s k w p = some (k1, x1)) : ∃ ts u q v1, schemaOf s = some ts ∧ givenV s k w = some u ∧ pathOf p = some q ∧ followV ts k u q = some (k1, v1) ∧ x1 = v1.out := by
 unfold pathGetV at h
 split at h
 ·rename_i ts u q h1 h2 h3
  cases hf : followV ts k u q with
  | none => rw [hf] at h; cases h
  | some y =>
   rw [hf] at h
   obtain ⟨k', v'⟩ := y
   simp only [Option.map_some, Option.some.injEq, Prod.mk.injEq] at h
   obtain ⟨rfl, rfl⟩ := h
   exact ⟨ts, u, q, v', h1, h2, h3, hf, rfl⟩
 ·cases h
theorem psv_in {s k w p x k1 : List UInt8} {ts : List Ty} {u v1 y : V} {q : List Int} (h1 : schemaOf s = some ts) (h2 : givenV s k w = some u) (h3 : pathOf p = some q) (h4 : followV ts k u q = some (k1, v1)) (h5 : rd ts 12 k1 x = some (y, [])) (h6 : (changeV ts k u q y).out.length ≤ 400 ∧ (changeV ts k u q y).deep ≤ 12) : pathSetV s k w p x = some (changeV ts k u q y).out := by
 unfold pathSetV
 rw [h1, h2, h3]
 dsimp only
 rw [h4]
 dsimp only
 rw [h5]
 dsimp only
 rw [if_pos h6]
theorem given_in {s k w : List UInt8} {ts : List Ty} {u : V} (h1 : schemaOf s = some ts) (h2 : kindIn ts k = true) (h3 : valOf ts k w = some u) : givenV s k w = some u := by
 unfold givenV
 rw [h1]
 dsimp only
 rw [if_pos h2, h3]
theorem rd_in0 {ts : List Ty} (hw : SchW ts) {k : List UInt8} {v : V} (h : OfK ts k v) (hd : v.deep ≤ 12) : rd ts 12 k v.out = some (v, []) := by
 have := rd_in hw 12 h hd [] dl_nil
 rwa [List.append_nil] at this
theorem path_get {s k w p k1 x1 : List UInt8} (h : pathGetV s k w p = some (k1, x1)) : okV s k1 x1 = true ∧ pathSetV s k w p x1 = some w := by
 obtain ⟨ts, u, q, v1, h1, h2, h3, h4, rfl⟩ := pgv_some h
 obtain ⟨ts', g1, g2, g3, g4, g5⟩ := given_some h2
 obtain rfl : ts = ts' := Option.some.inj (h1.symm.trans g1)
 have hw := schemaOf_w h1
 have ho := valOf_of_k g3
 obtain ⟨a1, a2, a3⟩ := valOf_out g3
 obtain ⟨b1, b2, b3, b4⟩ := pathOf_text h3
 have hq0 : ∀ n ∈ q, 0 ≤ n := fun n hn => (b3 n hn).1
 obtain ⟨c1, c2⟩ := followV_ok hw ho g2 hq0 h4
 obtain ⟨d1, d2⟩ := followV_fits hw ho g2 hq0 h4 a3 (by rw [a1]; exact a2)
 have hv := valOf_in hw c1 d2 d1
 refine ⟨by unfold okV; rw [given_in h1 c2 hv]; rfl, ?_⟩
 have e := (change_follow hw (x := v1) (y := v1) ho g2 hq0 h4 c1).2.1
 have := psv_in h1 h2 h3 h4 (rd_in0 hw c1 d1) (by rw [e, a1]; exact ⟨a2, a3⟩)
 rwa [e, a1] at this
end Go.E
namespace Go.E
set_option maxRecDepth 20000
set_option maxHeartbeats 2000000
open Go.Proofs
variable {G : Gh}
theorem leavesV_len {s k w : List UInt8} {ls : List (List UInt8)} (h : leavesV s k w = some ls) : ∀ i, i < ls.length → (nth ls i).length ≤ 56 := fun i hi => by
 unfold leavesV at h
 cases hg : givenV s k w with
 | none => rw [hg] at h; cases h
 | some u =>
  rw [hg] at h
  dsimp only at h
  split at h
  ·rename_i hall
   simp only [Option.some.injEq] at h
   subst h
   obtain ⟨ts, hs, hki, hvo, hto, hwf⟩ := given_some hg
   have hok := leaves_ok (schemaOf_w hs) (valOf_of_k hvo)
   have hi2 : i < u.leaves.length := by simpa [lvT] using hi
   rw [lvT_nth hi2]
   have h1 := pathText_len (hok _ (nth_mem hi2)).1
   rw [List.all_eq_true] at hall
   have h2 := of_decide_eq_true (hall _ (nth_mem hi2))
   omega
  ·cases h
theorem cut_ne {k : Nat} {s : List UInt8} : 1 ≤ (cut k s).length := by
 rw [cut_cut1]
 split <;> simp
theorem leavesV_cnt {s k w : List UInt8} {ls : List (List UInt8)} (h : leavesV s k w = some ls) : ls.length ≤ 40000 := by
 unfold leavesV at h
 cases hg : givenV s k w with
 | none => rw [hg] at h; cases h
 | some u =>
  rw [hg] at h
  dsimp only at h
  split at h
  ·simp only [Option.some.injEq] at h
   subst h
   obtain ⟨ts, hs, hki, hvo, hto, hwf⟩ := given_some hg
   have := size_totL u
   rw [lvT_len]; omega
  ·cases h
theorem c_l91Path {r : Nat} {code : Value} {p : Int} {l s k w : List UInt8} (hp : 0 ≤ p ∧ p ≤ 500000000000) (hs : SlV G code 1 l.length (u8s l)) (hsz : s.length ≤ 1048576 ∧ k.length ≤ 1048576 ∧ w.length ≤ 1048576) :
  FnG Tryz.prog 34 [Pt r 0, S s, S k, S w] G [rdO r code p tRdr] (fun v L' => ∃ x q, v = S x ∧ x.length ≤ 400 ∧ L' = [rdO r code q tRdr] ∧ p ≤ q ∧ q ≤ p + 20) := by
 cases hl : leavesV s k w with
 | none =>
  have cx_pls : FnS Tryz.prog 78 [S s, S k, S w] G (fun v _ => ∃ a n c, v = Tu [.slice a n c, Bo false]) := (c_PathLeavesS hsz).mono fun v G' L' ⟨h1, h2, a, c, ls, h3, _⟩ => ⟨h1, h2, a, ls.length, c, by rw [h3, hl]; rfl⟩
  refine jB (Post := fun v G' L' => G' = G ∧ _) [(0, _), (1, _), (2, _), (3, _)] Tryz.func34 Tryz.ntmps34 fun B hok hB hW => ?_
  repeat' (first | (refine jR ?_) | (refine jo ?_; first | (refine jAt rfl ?_) | refine jF fun _ => ?_ | (refine jV (g_iaddr rfl rfl oM) ?_) | (refine c_ldMS 64 rfl rfl rfl ?_ rfl (fun xs hxs => ?_); (focus ((simp only [List.length_append, List.length_cons, List.length_nil, List.length_take]; omega); done))) | (refine c_fns rfl rfl rfl cx_pls rfl ?_; rintro _ G hle ⟨pa1, pn1, pc1, rfl⟩; skip) | (refine c_m1g rfl rfl rfl (c_pick ?_ (by (repeat (first | assumption | refine SlV.mono ?_ aS)); done)) rfl ?_; (focus ((omega); done)); rintro _ _ ⟨k, rfl, rfl, hk0, hk1⟩; dsimp only [zA, fA])) | (refine k_gt rfl rfl rfl ?_) | (refine k_tt rfl rfl ?_))
  all_goals refine Nx.base hok hB ?_
  all_goals exact k_rr (vs := [_]) rfl ⟨rfl, trivial⟩ rfl sB ⟨rfl, _, _, rfl, by (omega), rfl, oM, oM⟩
 | some ls =>
  have hlen := leavesV_len hl
  have hcnt := leavesV_cnt hl
  by_cases hne : ls.length = 0
  ·have cx_plt : FnS Tryz.prog 78 [S s, S k, S w] G (fun v _ => ∃ a n c, v = Tu [.slice a 0 c, Bo true] ∧ n = 0) := (c_PathLeavesS hsz).mono fun v G' L' ⟨h1, h2, a, c, ls', h3, h4, h5, _⟩ => by
    obtain rfl := h5 ls hl
    exact ⟨h1, h2, a, 0, c, by rw [h3, hl]; exact congrArg (fun n => Tu [.slice a n c, Bo true]) hne, rfl⟩
   refine jB (Post := fun v G' L' => G' = G ∧ _) [(0, _), (1, _), (2, _), (3, _)] Tryz.func34 Tryz.ntmps34 fun B hok hB hW => ?_
   repeat' (first | (refine jR ?_) | (refine jo ?_; first | refine jV (g_lenL rfl) ?_ | (refine jAt rfl ?_) | (refine jAf rfl ?_) | refine jF fun _ => ?_ | (refine jV (g_iaddr rfl rfl oM) ?_) | (refine c_ldMS 64 rfl rfl rfl ?_ rfl (fun xs hxs => ?_); (focus ((simp only [List.length_append, List.length_cons, List.length_nil, List.length_take]; omega); done))) | (refine c_fns rfl rfl rfl cx_plt rfl ?_; rintro _ G hle ⟨pa1, pn1, pc1, rfl, _⟩; skip) | (refine c_m1g rfl rfl rfl (c_pick ?_ (by (repeat (first | assumption | refine SlV.mono ?_ aS)); done)) rfl ?_; (focus ((omega); done)); rintro _ _ ⟨k, rfl, rfl, hk0, hk1⟩; dsimp only [zA, fA])) | (refine k_gt rfl rfl rfl ?_) | (refine k_gf rfl rfl rfl ?_) | (refine k_tt rfl rfl ?_))
   all_goals refine Nx.base hok hB ?_
   all_goals exact k_rr (vs := [_]) rfl ⟨rfl, trivial⟩ rfl sB ⟨rfl, _, _, rfl, by (omega), rfl, oM, oM⟩
  ·have cx_plu : FnS Tryz.prog 78 [S s, S k, S w] G (fun v G' => ∃ b o c, v = Tu [.slice (some ⟨b, o, none⟩) ls.length c, Bo true] ∧ Seg G' b o (rows strF ls)) := (c_PathLeavesS hsz).mono fun v G' L' ⟨h1, h2, a, c, ls', h3, h4, h5, _⟩ => by
    obtain rfl := h5 ls hl
    obtain ⟨b, o, c', e, hs⟩ := h4.expl oM
    simp only [Value.slice.injEq] at e
    obtain ⟨rfl, -, rfl⟩ := e
    exact ⟨h1, h2, b, o, c, by rw [h3, hl]; rfl, hs⟩
   have hcl : ∀ i, i < ls.length → (nth (cut 47 (nth ls i)) 0).length ≤ 56 := fun i hi => by
    have h1 := hlen i hi
    have h2 := cut_ne (k := 47) (s := nth ls i)
    have h3 := cut_len (nth_mem (show 0 < (cut 47 (nth ls i)).length by omega))
    omega
   have cx_cutg : ∀ {G : Gh} (i : Nat), i < ls.length → FnS Tryz.prog 79 [S (nth ls i), U8 47] G (fun v G' => ∃ b o c, v = .slice (some ⟨b, o, none⟩) (cut 47 (nth ls i)).length c ∧ 1 ≤ (cut 47 (nth ls i)).length ∧ Seg G' b o (rows strF (cut 47 (nth ls i)))) := fun {G} i hi => (c_l3CutS (G := G) (k := 47) (by have := hlen i hi; omega)).mono fun v G' L' ⟨h1, h2, h3⟩ => by
    have h5 := cut_ne (k := 47) (s := nth ls i)
    obtain ⟨la, lc, rfl⟩ := h3.sl
    obtain ⟨b, o, c, e, hsg⟩ := h3.expl oM
    exact ⟨h1, h2, b, o, c, e, h5, hsg⟩
   clear hl
   refine jB (Post := fun v G' L' => G' = G ∧ _) [(0, _), (1, _), (2, _), (3, _)] Tryz.func34 Tryz.ntmps34 fun B hok hB hW => ?_
   repeat' (first | (refine jR ?_) | (refine jo ?_; first | refine jV (g_lenL rfl) ?_ | (refine jAf rfl ?_) | refine jF fun _ => ?_ | (refine jV (g_iaddr rfl rfl oM) ?_) | (refine c_ldMS 64 rfl rfl rfl ?_ rfl (fun xs hxs => ?_); (focus ((simp only [List.length_append, List.length_cons, List.length_nil, List.length_take]; omega); done))) | (refine jV (g_ldRS rfl rfl aS ?_) ?_; (focus ((omega); done))) | (refine c_fns rfl rfl rfl cx_plu rfl ?_; rintro _ G hle ⟨pb1, po1, pc1, rfl, hlvs⟩; skip) | (refine c_m1g rfl rfl rfl (c_pick ?_ (by (repeat (first | assumption | refine SlV.mono ?_ aS)); done)) rfl ?_; (focus ((omega); done)); rintro _ _ ⟨k, rfl, rfl, hk0, hk1⟩; dsimp only [zA, fA]) | (refine c_fns rfl rfl rfl ((cx_cutg _) oM) rfl ?_; rintro _ G hle ⟨b1, o1, cap1, rfl, hcc, hseg⟩; skip)) | (refine k_gf rfl rfl (by first | rfl | (refine decide_eq_false ?_; (omega))) ?_) | refine k_if rfl (fun _ => ?_) (fun _ => ?_))
   all_goals (first | (refine Nx.base hok hB ?_; exact k_rr (vs := [_]) rfl ⟨rfl, trivial⟩ rfl sB ⟨rfl, _, _, rfl, by (omega), rfl, oM, oM⟩) | skip)
   all_goals refine Nx.base hok hB ?_
   ·exact k_rr (vs := [_]) rfl ⟨rfl, trivial⟩ rfl sRr ⟨rfl, _, _, rfl, Nat.le_trans (hcl _ oM) dC, rfl, oM, oM⟩
   ·exact k_rr (vs := [_]) rfl ⟨rfl, trivial⟩ rfl sRr ⟨rfl, _, _, rfl, Nat.le_trans (hlen _ oM) dC, rfl, oM, oM⟩
abbrev tIntQ : TypeId := 3
theorem c_readPath {s : List UInt8} (h : s.length ≤ 1048576) : FnS Tryz.prog 35 [S s] G (StepsP s) := by
 by_cases h0 : s = []
 ·subst h0
  refine jB [(0, _)] Tryz.func35 Tryz.ntmps35 fun B hok hB hW => ?_
  repeat' (first | (refine jR ?_) | (refine k_tt rfl rfl ?_))
  refine jZ (vs := [_, _]) rfl ⟨rfl, rfl, trivial⟩ rfl ⟨Gh.le.refl _, rfl, ?_⟩
  exact ⟨_, _, _, rfl, fun p hp => by
   obtain rfl : p = [] := by unfold pathOf at hp; simpa using hp.symm
   exact ⟨rfl, SlV.nil0⟩⟩
 have cx_split : FnS Tryz.prog 80 [S s, S [47]] G (fun v G' => ∃ b o cap, v = .slice (some ⟨b, o, none⟩) (cut 47 s).length cap ∧ Seg G' b o (rows strF (cut 47 s))) := by
  refine (c_Split (c := 47) oM).mono ?_
  rintro v G' L' ⟨h1, h2, h3⟩
  have hp : 0 < (cut 47 s).length := cut_pos
  exact ⟨h1, h2, h3.expl hp⟩
 have hcl := cut_count (k := 47) (s := s)
 have hbad := fun {i : Nat} => pathOf_bad h0 (i := i)
 have hpo := pathOf_ne h0
 have hxl : ∀ i, i < (cut 47 s).length → (nth (cut 47 s) i).length ≤ 100000000 := fun i hi => by
  have := cut_len (nth_mem hi)
  omega
 generalize cut 47 s = xs at *
 refine jB [(0, _)] Tryz.func35 Tryz.ntmps35 fun B hok hB hW => ?_
 repeat' (first | (refine jR ?_) | (refine jo ?_; first | refine jV (g_lenL rfl) ?_ | (refine c_fns rfl rfl rfl cx_split rfl ?_; rintro _ G hle ⟨b1, o1, cap1, rfl, hseg⟩; skip)) | (refine k_ff rfl (dFf ‹_›) ?_))
 refine Nx.addNil tIntQ 1 ?_
 refine k_loop (ι := List Int × Option Addr × Nat × Nat) (fun j => (j.1.length = j.2.2.2 ∧ j.2.2.2 ≤ xs.length ∧ j.2.2.2 ≤ 8) ∧ stepsOf (xs.take j.2.2.2) = some j.1) (fun j => [(4, .slice j.2.1 j.1.length j.2.2.1), (12, .slice (some ⟨b1, o1, none⟩) xs.length cap1), (13, I xs.length), (14, I j.2.2.2)]) (fun _ => G) (fun j => [.acc (.slice j.2.1 j.1.length j.2.2.1) tIntQ 1 j.1.length (rows inR j.1)]) (fun j => xs.length - j.2.2.2) ([], none, 0, 0) ?_ tU rfl sRr (fun j Hj => ?_)
 ·exact ⟨⟨rfl, Nat.zero_le _, Nat.zero_le _⟩, rfl⟩
 obtain ⟨ps, a, c, i⟩ := j
 dsimp only at Hj ⊢
 obtain ⟨⟨hpl, hi0, hi8⟩, hst⟩ := Hj
 by_cases hi : i < xs.length
 ·have hxl1 := hxl i hi
  cases hn : numOf (nth xs i) 999999 with
  | none =>
   have hno := hbad hi hn
   have hns : (!(numOf (nth xs i) 999999).isSome) = true := by rw [hn]; rfl
   repeat' (first | (refine jR ?_) | (refine jo ?_; first | (refine jV (g_iaddrN rfl rfl oM) ?_) | (refine jV (g_ldRS rfl rfl aS ?_) ?_; (focus ((omega); done))) | (refine jAt rfl ?_) | (refine c_pu rfl rfl rfl (c_plainNumber oM) rfl ?_; rintro _ ⟨n, rfl, hnum⟩)) | (refine k_gt rfl rfl ‹_› ?_) | (refine k_tt rfl (by first | rfl | (refine decide_eq_true ?_; (omega))) ?_))
   all_goals refine jZ (vs := [_, _]) rfl ⟨rfl, rfl, trivial⟩ rfl ⟨hle, rfl, ?_⟩
   all_goals exact ⟨_, _, _, by rw [hno]; rfl, fun p hp => by rw [hno] at hp; cases hp⟩
  | some m =>
   have hns : (!(numOf (nth xs i) 999999).isSome) = false := by rw [hn]; rfl
   by_cases h8 : i = 8
   ·subst h8
    have hno : pathOf s = none := by
     rw [hpo]
     cases hso : stepsOf xs with
     | none => rfl
     | some q =>
      have := (stepsOf_len hso).1
      dsimp only
      rw [if_neg oM]
    have h88 : ((ps.length : Nat) : Int) = 8 := oM
    repeat' (first | (refine jR ?_) | (refine jo ?_; first | refine jV (g_lenL rfl) ?_ | (refine jV (g_iaddrN rfl rfl oM) ?_) | (refine jV (g_ldRS rfl rfl aS ?_) ?_; (focus ((omega); done))) | (refine jAf rfl ?_) | (refine c_pu rfl rfl rfl (c_plainNumber oM) rfl ?_; rintro _ ⟨n, rfl, hnum⟩)) | (refine k_gf rfl rfl ‹_› ?_) | (refine k_tt rfl (by refine decide_eq_true ?_; first | assumption | omega) ?_))
    all_goals refine jZ (vs := [_, _]) rfl ⟨rfl, rfl, trivial⟩ rfl ⟨hle, rfl, ?_⟩
    all_goals exact ⟨_, _, _, by rw [hno]; rfl, fun p hp => by rw [hno] at hp; cases hp⟩
   ·have h88 : ¬ ((ps.length : Nat) : Int) = 8 := oM
    repeat' (first | refine jM ?_ | (refine jo ?_; first | refine jV (g_lenL rfl) ?_ | (refine jV (g_iaddrN rfl rfl oM) ?_) | (refine jV (g_ldRS rfl rfl aS ?_) ?_; (focus ((omega); done))) | (refine jAf rfl ?_) | refine jF fun _ => ?_ | (refine c_apX rfl rfl rfl rfl rfl rfl rfl rfl rfl oM fun _ _ => ?_) | (refine c_pu rfl rfl rfl (c_plainNumber oM) rfl ?_; rintro _ ⟨n, rfl, hnum⟩)) | (refine k_gf rfl rfl ‹_› ?_) | (refine k_tt rfl (dTt oM) ?_) | (refine k_ff rfl (dFf ‹_›) ?_))
    rename_i y1 yc
    have hmn := hnum m hn
    subst hmn
    have hst2 : stepsOf (xs.take (i + 1)) = some (ps ++ [n]) := by rw [take_nth hi, stepsOf_snoc hst, hn]; rfl
    have hl1 : (ps ++ [n]).length = ps.length + 1 := by simp
    rw [show rows inR ps ++ [I n] = rows inR (ps ++ [n]) from (rows_snoc inR ps n).symm]
    exact k_rd (ps ++ [n], some ⟨y1, 0, none⟩, yc, i + 1) ⟨⟨by dsimp only; omega, by dsimp only; omega, by dsimp only; omega⟩, hst2⟩ (by dsimp only; omega) (by rw [hl1]; repeat (first | exact trivial | refine ⟨rfl, ?_⟩)) rfl (by rw [hl1]; repeat (first | exact List.nil_sublist _ | apply List.Sublist.cons_cons))
 ·rw [List.take_of_length_le oM] at hst
  rw [hst] at hpo
  dsimp only at hpo
  rw [if_pos oM] at hpo
  repeat' (first | (refine jR ?_) | (refine k_ff rfl (dFf oM) ?_))
  refine Nx.sealS (v := .slice a ps.length c) fun G2 hG2 hsl => ?_
  refine jZ (vs := [_, _]) rfl ⟨rfl, rfl, trivial⟩ rfl ⟨hle.trans hG2, rfl, ?_⟩
  refine ⟨_, _, _, by rw [hpo]; rfl, fun p hp => ?_⟩
  rw [hpo] at hp
  simp only [Option.some.injEq] at hp; subst hp; exact ⟨rfl, hsl⟩
theorem sg_core : ∀ k : List UInt8, sg k ++ core k = k
 | [] => rfl
 | c :: r => by
  by_cases h : c.toNat = 91 ∨ c.toNat = 63
  ·rw [sg_cons h, core, if_pos h, List.cons_append, sg_core r]
  ·rw [sg_none h, core_self h]; rfl
theorem kind_text {k : List UInt8} (h : kindOk k = true) : (bs k = [64] → sg k ++ [64] ++ nm k ++ [59] = k) ∧ (bs k ≠ [64] → sg k ++ bs k = k) := by
 have hk := core_kOk (kindOk_kOk h).1
 have hsc := sg_core k
 refine ⟨fun h64 => ?_, fun hne => ?_⟩
 ·have hr := (bs_at h).1 h64
  cases hc : core k with
  | nil => rw [hc] at hk; cases hk
  | cons c r =>
   rw [hc] at hr hk hsc
   have h64' : c.toNat = 64 := by
    by_cases h64' : c.toNat = 64
    ·exact h64'
    ·simp [refN, h64'] at hr
   have hn : nm k = r.take (r.length - 1) := by unfold nm; rw [hc]; simp [refN, h64']
   rw [kOk, if_neg oM, if_pos h64'] at hk
   simp only [Bool.and_eq_true, decide_eq_true_eq] at hk
   obtain ⟨h59, hnm⟩ := hk
   have hrl : 1 ≤ r.length := by
    cases r with
    | nil => simp [isNm] at hnm
    | cons => simp
   obtain ⟨m, hm⟩ : ∃ m, r.length = m + 1 := ⟨r.length - 1, oM⟩
   rw [hm, bt_succ] at h59
   have e3 : r = r.take m ++ [59] := by
    have e1 : r.take (m + 1) = r := List.take_of_length_le oM
    have e2 := take_nth (cs := r) (i := m) oM
    rw [e1] at e2
    have e4 : nth r m = 59 := by
     rw [nth_eq oM]
     have : bt r m = (r[m]'oM).toNat := by simp [bt, List.getD, List.getElem?_eq_getElem (show m < r.length by omega)]
     exact UInt8.toNat_inj.1 (by rw [← this]; show bt r m = 59; omega)
    rw [e4] at e2; exact e2
   have hc64 : c = 64 := UInt8.toNat_inj.1 h64'
   have e5 : sg k ++ 64 :: (r.take m ++ [59]) = k := by rw [← e3, ← hc64]; exact hsc
   rw [hn, hm, Nat.add_sub_cancel]
   refine Eq.trans ?_ e5
   simp
 ·have hr : refN (core k) = none := by
   cases hr : refN (core k) with
   | none => rfl
   | some x => exact absurd ((bs_at h).2 (by rw [hr]; rfl)) hne
  have e : bs k = core k := by
   unfold bs
   cases hc : core k with
   | nil => rfl
   | cons c r =>
    rw [hc] at hr
    have h64 : ¬ c.toNat = 64 := by intro h64; simp [refN, h64] at hr
    simp [bsT, h64]
  rw [e]; exact hsc
theorem c_textI {k : List UInt8} (h : kindOk k = true) : PuG Tryz.prog 37 [Ag (kdF k)] G (· = S k) := by
 obtain ⟨h1, h2⟩ := kind_text h
 have hl := (kindOk_kOk h).2
 have hsl : (sg k).length ≤ 12 := by
  have := congrArg List.length (sg_core k)
  simp only [List.length_append] at this
  omega
 unfold kdF
 by_cases h64 : bs k = [64]
 ·have e := h1 h64
  have hnl := congrArg List.length e
  simp only [List.length_append, List.length_cons, List.length_nil] at hnl
  rw [h64]
  refine jE [(0, _)] Tryz.func37 Tryz.ntmps37 fun B hB => ?_
  repeat' (first | (refine jX ?_) | (refine jo ?_; first | refine jO fun _ => ?_ | refine jAl rfl ?_) | (refine k_tt rfl rfl ?_))
  all_goals refine jY (vs := [_]) ?_
  all_goals (rw [oneOf_one, e])
 ·have e := h2 h64
  have hnl := congrArg List.length e
  simp only [List.length_append] at hnl
  refine jE [(0, _)] Tryz.func37 Tryz.ntmps37 fun B hB => ?_
  repeat' (first | refine jM ?_ | (refine jo ?_; first | refine jO fun _ => ?_ | refine jAl rfl ?_) | (refine k_ff rfl (dFf ‹_›) ?_))
  all_goals refine jY (vs := [_]) ?_
  all_goals (rw [oneOf_one, e])
theorem c_must {b : Nat} {qs : List TyP} {k s : List UInt8} {u : V} (hS : ScI G b qs) (hw : SchW (tyq qs)) (hk : kindIn (tyq qs) k = true) (hvo : valOf (tyq qs) k s = some u) :
  FnS Tryz.prog 149 [Pt b 0, Ag (kdF k), S s] G (fun r G' => ∃ c, r = Ag (vcF c) ∧ V.rep G' u c) := by
 have hl := (valOf_rd hvo).2
 have cx_ris : FnS Tryz.prog 40 [Pt b 0, Ag [S (sg k), S (bs k), S (nm k)], S s] G (fun v G' => ∃ cv, v = Tu [Ag (vcF cv), Bo true] ∧ V.rep G' u cv) := by
  refine (c_readI (G := G) (b := b) (s := s) hS hw hk oM).mono ?_
  rintro v G' L' ⟨h1, h2, ⟨h4, _⟩ | ⟨u', c, h4, rfl, h5⟩⟩
  ·rw [hvo] at h4; cases h4
  ·rw [hvo] at h4; obtain rfl := Option.some.inj h4; exact ⟨h1, h2, c, rfl, h5⟩
 unfold kdF
 refine jB [(0, _), (1, _), (2, _)] Tryz.func149 Tryz.ntmps149 fun B hok hB hW => ?_
 repeat' (first | (refine jR ?_) | (refine jo ?_; first | refine jO fun _ => ?_ | refine jL fun _ => ?_ | refine jAm rfl ?_ | refine jC rfl rfl rfl ?_ | (refine c_fns rfl rfl rfl cx_ris rfl ?_; rintro _ G hle ⟨cv, rfl, hrv⟩; skip)))
 all_goals refine jZ (vs := [_]) rfl ⟨rc_A rfl rfl rfl rfl, trivial⟩ rfl ⟨hle, rfl, ?_⟩
 all_goals exact ⟨cv, rfl, hrv⟩
theorem getV_told {ts : List Ty} {f : Fld} {fs : List (Fld × V)} {j : Nat} (hj : j < fs.length) (hjn : (nth fs j).1.tag = f.tag) (hno : ∀ i, i < j → (nth fs i).1.tag ≠ f.tag) : getV ts (.nd 82 [] 0 (fs.map fldV)) f = (nth fs j).2 := by
 unfold getV
 rw [V.kids, toldV_at hj hjn hno]; rfl
theorem getV_untold {ts : List Ty} {f : Fld} {fs : List (Fld × V)} (hno : ∀ i, i < fs.length → (nth fs i).1.tag ≠ f.tag) : getV ts (.nd 82 [] 0 (fs.map fldV)) f = standV ts f := by
 unfold getV
 rw [V.kids, toldV_no hno]; rfl
theorem c_getI {b bf of j : Nat} {qs : List TyP} {t : Ty} {fs : List (Fld × V)} {c : VC} (hS : ScI G b qs) (hw : SchW (tyq qs)) (ht : t ∈ tyq qs) (hso : t.sort = 82) (hsf : Seg G bf of (rows fiF t.fields)) (hj : j < t.fields.length) (hrep : V.rep G (.nd 82 [] 0 (fs.map fldV)) c) (h9 : fs.length ≤ 1000000) :
  FnS Tryz.prog 111 [Pt b 0, Ag (vcF c), Pt bf (of + j * 6)] G (fun r G' => ∃ c', r = Ag (vcF c') ∧ V.rep G' (getV (tyq qs) (.nd 82 [] 0 (fs.map fldV)) (nth t.fields j)) c') := by
 obtain ⟨a, k, cs, rfl, _, _, _, hcl, hsl, hrs⟩ := rep_inv hrep
 have hml : (fs.map fldV).length = fs.length := by simp
 rw [hml] at hcl hsl
 have hfm : nth t.fields j ∈ t.fields := nth_mem hj
 have hdk : kindIn (tyq qs) (nth t.fields j).kind = true := kind_in hw ht oM hfm
 obtain ⟨g1, g2, g3⟩ := standV_ok hw ht oM hfm
 have cx_of := c_ofI hS hw hsf hj hdk
 have hnt : ∀ i, i < fs.length → nth (fs.map fldV) i = fldV (nth fs i) := fun i hi => by rw [nth_eq (by simpa using hi), nth_eq hi]; simp
 have hrn : ∀ i, i < fs.length → V.rep G (fldV (nth fs i)) (nth cs i) := fun i hi => by
  have := reps_nth hrs i oM
  rwa [hnt i hi] at this
 have e0 : vcF ⟨82, [], 0, a, (fs.map fldV).length, k⟩ = [U8 (82 : Nat), S [], I 0, .slice a fs.length k] := by rw [← hml]; rfl
 rw [e0]
 refine jB [(0, _), (1, _), (2, _)] Tryz.func111 Tryz.ntmps111 fun B hok hB hW => ?_
 repeat' (first | (refine jR ?_) | (refine jo ?_; first | refine jO fun _ => ?_ | refine jL fun _ => ?_ | refine jAl rfl ?_ | refine jV (g_lenL rfl) ?_))
 rename_i y4 y6
 refine k_loop (ι := Nat) (fun i => i ≤ fs.length ∧ ∀ l, l < i → (nth fs l).1.tag ≠ (nth t.fields j).tag) (fun i => [(0, Pt b 0), (2, Pt bf (of + j * 6)), (6, Pt y6 0), (10, .slice a fs.length k), (11, I fs.length), (12, I i)]) (fun _ => G) (fun i => [.blk y6 (.cells (List.toArray [U8 0, S [], I 0, nilS]) tVal (0, 0))]) (fun i => fs.length - i) 0 ?_ tU rfl sB (fun i Hi => ?_)
 ·exact ⟨Nat.zero_le _, fun l hl => absurd hl oM⟩
 obtain ⟨hi0, hno⟩ := Hi
 by_cases hi : i < fs.length
 ·obtain ⟨xb, xo, xc, e, hsx⟩ := hsl.expl oM
  simp only [Value.slice.injEq] at e
  obtain ⟨rfl, -, rfl⟩ := e
  obtain ⟨a1, k1, cs1, hci, _, _, _, hcl1, hsl1, hrs1⟩ := rep_inv (hrn i hi)
  rw [V.reps] at hrs1
  obtain ⟨c1, cs2, rfl, hr1, hr2⟩ := hrs1
  rw [V.reps] at hr2
  subst hr2
  have hci : nth cs i = ⟨61, [], (nth fs i).1.tag, a1, 1, k1⟩ := hci
  have hsl1 : SlV G (.slice a1 1 k1) 4 ([c1] : List VC).length (rows vcF [c1]) := hsl1
  obtain ⟨zb, zo, zc, e, hsz⟩ := hsl1.expl oM
  simp only [Value.slice.injEq] at e
  obtain ⟨rfl, -, rfl⟩ := e
  by_cases ht2 : (nth fs i).1.tag = (nth t.fields j).tag
  ·have hget := getV_told (ts := tyq qs) hi ht2 hno
   rw [hget]
   repeat' (first | (refine jR ?_) | (refine jo ?_; first | refine jL fun _ => ?_ | refine jAl rfl ?_ | (refine jV (g_ldRx rfl rfl aS ?_ aS) ?_; (focus ((omega); done))) | (refine jV (g_iaddrN rfl rfl oM) ?_) | refine jC rfl rfl rfl ?_) | (refine k_tt rfl (by refine decide_eq_true ?_; first | assumption | omega) ?_) | (refine k_any (s_any (id := 4) _ (fun _ h => h) mixed ?_); refine jT 3 [0, 2, 3, 4] (bts 7 29) ?_; (refine jG (bts 7 31) 1 rfl (g_ld rfl rfl rfl) ?_); ((refine jG (bts 7 63) 5 rfl (g_ldRF rfl rfl aS ?_ rfl rfl) ?_; (focus ((omega); done)))); refine jT 0 [6] (bts 7 127) ?_; refine jQ ?_))
   dsimp only [vcF, VC.sl]
   repeat' (first | (refine jR ?_) | (refine jo ?_; first | (refine jV (g_ldR rfl rfl aS ?_) ?_; (focus ((omega); done))) | (refine jV (g_iaddr rfl rfl oM) ?_) | refine jC rfl rfl rfl ?_))
   all_goals refine jZ (vs := [_]) rfl ⟨rc_A rfl rfl rfl rfl, trivial⟩ rfl ⟨Gh.le.refl _, rfl, ?_⟩
   all_goals exact ⟨c1, rfl, hr1⟩
  ·repeat' (first | refine jM ?_ | (refine jo ?_; first | refine jL fun _ => ?_ | (refine jV (g_ldRx rfl rfl aS ?_ aS) ?_; (focus ((omega); done))) | (refine jV (g_iaddrN rfl rfl oM) ?_) | refine jC rfl rfl rfl ?_) | (refine k_tt rfl (dTt oM) ?_) | (refine k_ff rfl (dFf ‹_›) ?_) | (refine k_any (s_any (id := 4) _ (fun _ h => h) mixed ?_); refine jT 3 [0, 2, 3, 4] (bts 7 29) ?_; (refine jG (bts 7 31) 1 rfl (g_ld rfl rfl rfl) ?_); ((refine jG (bts 7 63) 5 rfl (g_ldRF rfl rfl aS ?_ rfl rfl) ?_; (focus ((omega); done)))); refine jT 0 [6] (bts 7 127) ?_; refine jQ ?_))
   exact k_rd (i + 1) ⟨oM, fun l hl => (by
    rcases Nat.lt_or_ge l i with h | h
    ·exact hno l h
    ·have : l = i := oM
     subst this; exact ht2)⟩ oM tU rfl sB
 ·have hget := getV_untold (ts := tyq qs) (f := nth t.fields j) (fs := fs) fun l hl => hno l oM
  rw [hget]
  have cx_mu := c_must hS hw hdk g2
  unfold kdF at cx_mu
  repeat' (first | (refine jR ?_) | (refine k_ff rfl (dFf oM) ?_) | (refine k_any (s_anyD (id := 7) (tt := 6) rfl mixed ?_); refine jW 4 [0, 1, 2, 3, 5, 6] (bts 10 111) ?_; ((refine jG (bts 10 127) 4 rfl (g_ldRA rfl rfl aS ?_ rfl rfl) ?_; (focus ((omega); done)))); refine jA 7 rfl ?_; (refine c_rt rfl rfl rfl cx_of rfl ?_); refine jK (bts 10 255) ?_; refine jA 8 rfl ?_; (refine c_fns rfl rfl rfl cx_mu rfl ?_; rintro _ G hle ⟨cv, rfl, hrv⟩; skip); refine jK (bts 10 511) ?_; refine jA 9 rfl ?_; (refine jC rfl rfl rfl ?_); refine jK (bts 10 1023) ?_; refine jQ ?_))
  all_goals refine jZ (vs := [_]) rfl ⟨rc_A rfl rfl rfl rfl, trivial⟩ rfl ⟨hle, rfl, ?_⟩
  all_goals exact ⟨cv, rfl, hrv⟩
def StepPI (ts : List Ty) (o : Option (List UInt8 × V)) (r : Value) (G' : Gh) : Prop := (o = none ∧ r = Tu [Ag [S [], S [], S []], zP, Bo false]) ∨ ∃ k' v' c', o = some (k', v') ∧ r = Tu [Ag (kdF k'), Ag (vcF c'), Bo true] ∧ V.rep G' v' c'
theorem StepPI.no {f : FuncId} {args : List Value} {ts : List Ty} {o : Option (List UInt8 × V)} (h : FnS Tryz.prog f args G (StepPI ts o)) (e : o = none) : FnS Tryz.prog f args G (fun r _ => r = Tu [Ag [S [], S [], S []], zP, Bo false]) := by
 refine h.mono ?_
 rintro v G' L' ⟨h1, h2, ⟨_, h3⟩ | ⟨k', v', b', h3, _⟩⟩
 ·exact ⟨h1, h2, h3⟩
 ·rw [e] at h3; cases h3
theorem StepPI.yes {f : FuncId} {args : List Value} {ts : List Ty} {o : Option (List UInt8 × V)} {k' : List UInt8} {v' : V} (h : FnS Tryz.prog f args G (StepPI ts o)) (e : o = some (k', v')) : FnS Tryz.prog f args G (fun r G' => ∃ c', r = Tu [Ag [S (sg k'), S (bs k'), S (nm k')], Ag (vcF c'), Bo true] ∧ V.rep G' v' c') := by
 refine h.mono ?_
 rintro v G' L' ⟨h1, h2, ⟨h3, _⟩ | ⟨k2, v2, b', h3, h4, h5⟩⟩
 ·rw [e] at h3; cases h3
 ·rw [e] at h3
  simp only [Option.some.injEq, Prod.mk.injEq] at h3
  obtain ⟨rfl, rfl⟩ := h3
  exact ⟨h1, h2, b', h4, h5⟩
theorem c_stepL {b : Nat} {k : List UInt8} {ts : List Ty} {ks : List V} {c : VC} {n : Int} (hr : V.rep G (.nd 91 [] 0 ks) c) (hn : 0 ≤ n ∧ n ≤ 999999) (hkl : ks.length ≤ 1000000) :
  FnS Tryz.prog 81 [Pt b 0, Ag (kdF (91 :: k)), Ag (vcF c), I n] G (StepPI ts (stepV ts (91 :: k) (.nd 91 [] 0 ks) n)) := by
 obtain ⟨e1, e2, e3, _⟩ := kdF_cons (c := 91) (k := k) (.inl rfl)
 have cx_sign := @c_sign1 G 91 (sg k) (bs k) (nm k)
 have cx_pt := @c_part G 91 (sg k) (bs k) (nm k)
 obtain ⟨a, kc, cs, rfl, _, _, _, hcl, hsl, hrs⟩ := rep_inv hr
 have hst := stepV_kid (ts := ts) (c := 91) (r := k) (v := .nd 91 [] 0 ks) (n := n) (.inl rfl)
 rw [V.kids] at hst
 rw [hst]
 unfold kdF
 rw [e1, e2, e3]
 have e0 : vcF ⟨91, [], 0, a, ks.length, kc⟩ = [U8 (91 : Nat), S [], I 0, .slice a ks.length kc] := rfl
 rw [e0]
 by_cases hn2 : n < ((ks.length : Nat) : Int)
 ·obtain ⟨i, rfl⟩ : ∃ i : Nat, n = i := ⟨n.toNat, oM⟩
  obtain ⟨xb, xo, xc, e, hsx⟩ := hsl.expl oM
  simp only [Value.slice.injEq] at e
  obtain ⟨rfl, -, rfl⟩ := e
  have hri := reps_nth hrs i oM
  obtain ⟨d, hxi⟩ : ∃ d, nth cs i = d := ⟨_, rfl⟩
  rw [hxi] at hri
  rw [if_pos hn2]
  refine jB [(0, _), (1, _), (2, _), (3, _)] Tryz.func81 Tryz.ntmps81 fun B hok hB hW => ?_
  repeat' (first | (refine jR ?_) | (refine jo ?_; first | refine jO fun _ => ?_ | refine jL fun _ => ?_ | refine jAl rfl ?_ | refine jAm rfl ?_ | refine jV (g_lenL rfl) ?_ | (refine c_rt rfl rfl rfl cx_sign rfl ?_)) | (refine k_tt rfl rfl ?_) | (refine k_ff rfl (dFf oM) ?_))
  rename_i y5 y6 y8 y9
  (refine k_any (s_any (id := 5) [.blk y6 (.cells (List.toArray [U8 (91 : Nat), S [], I 0, .slice (some ⟨xb, xo, none⟩) ks.length kc]) tVal (0, 0)), .blk y5 (.cells (List.toArray [S (91 :: sg k), S (bs k), S (nm k)]) tKnd (0, 0))] (by intro y hy; simp only [List.mem_cons, List.not_mem_nil, or_false] at hy ⊢; rcases hy with hy | hy <;> simp [hy]) mixed ?_); refine jW 8 [2, 4] (bts 10 20) ?_; (refine jG (bts 10 21) 0 rfl (g_ldA rfl rfl rfl rfl) ?_); (refine jG (bts 10 29) 3 rfl (g_ld rfl rfl rfl) ?_); ((refine jG (bts 10 61) 5 rfl (g_iaddrN rfl rfl ?_) ?_; (focus ((omega); done)))); ((refine jG (bts 10 125) 6 rfl (g_ldRx rfl rfl aS ?_ aS) ?_; (focus ((omega); done)))); refine jA 1 rfl ?_; (refine c_rt rfl rfl rfl cx_pt rfl ?_); refine jK (bts 10 127) ?_; refine jA 7 rfl ?_; (refine jC rfl rfl rfl ?_); refine jK (bts 10 255) ?_; refine jA 8 rfl ?_; (refine jC rfl rfl rfl ?_); refine jK (bts 10 511) ?_; refine jW 0 [9] (bts 10 1023) ?_; refine jQ ?_)
  all_goals repeat' (refine jR ?_)
  all_goals refine jZ (vs := [_, _, _]) rfl ⟨rc_A rfl rfl rfl rfl, rc_A rfl rfl rfl rfl, rfl, trivial⟩ rfl ⟨Gh.le.refl _, rfl, ?_⟩
  all_goals exact .inr ⟨k, nth ks i, d, rfl, rfl, hri⟩
 ·rw [if_neg hn2]
  refine jB [(0, _), (1, _), (2, _), (3, _)] Tryz.func81 Tryz.ntmps81 fun B hok hB hW => ?_
  repeat' (first | (refine jR ?_) | (refine jo ?_; first | refine jO fun _ => ?_ | refine jL fun _ => ?_ | refine jAl rfl ?_ | refine jAm rfl ?_ | refine jV (g_lenL rfl) ?_ | refine jV (g_bld rfl rfl) ?_ | refine jC rfl rfl rfl ?_ | (refine c_rt rfl rfl rfl cx_sign rfl ?_)) | (refine k_tt rfl (by first | rfl | (refine decide_eq_true ?_; (omega))) ?_))
  all_goals refine jZ (vs := [_, _, _]) rfl ⟨rc_A rfl rfl rfl rfl, rc_A rfl rfl rfl rfl, rfl, trivial⟩ rfl ⟨Gh.le.refl _, rfl, ?_⟩
  all_goals exact .inl ⟨rfl, rfl⟩
theorem c_stepO {b : Nat} {k : List UInt8} {ts : List Ty} {ks : List V} {c : VC} {n : Int} (hks : ks = [] ∨ ∃ w, ks = [w]) (hr : V.rep G (.nd 63 [] 0 ks) c) (hn : 0 ≤ n ∧ n ≤ 999999) :
  FnS Tryz.prog 81 [Pt b 0, Ag (kdF (63 :: k)), Ag (vcF c), I n] G (StepPI ts (stepV ts (63 :: k) (.nd 63 [] 0 ks) n)) := by
 obtain ⟨e1, e2, e3, _⟩ := kdF_cons (c := 63) (k := k) (.inr rfl)
 have cx_sign := @c_sign1 G 63 (sg k) (bs k) (nm k)
 have cx_pt := @c_part G 63 (sg k) (bs k) (nm k)
 obtain ⟨a, kc, cs, rfl, _, _, _, hcl, hsl, hrs⟩ := rep_inv hr
 have hst := stepV_kid (ts := ts) (c := 63) (r := k) (v := .nd 63 [] 0 ks) (n := n) (.inr rfl)
 rw [V.kids] at hst
 rw [hst]
 unfold kdF
 rw [e1, e2, e3]
 have e0 : vcF ⟨63, [], 0, a, ks.length, kc⟩ = [U8 (63 : Nat), S [], I 0, .slice a ks.length kc] := rfl
 rw [e0]
 rcases hks with rfl | ⟨w, rfl⟩
 ·rw [if_neg (by simp; omega)]
  by_cases hn0 : n = 0
  all_goals
   refine jB [(0, _), (1, _), (2, _), (3, _)] Tryz.func81 Tryz.ntmps81 fun B hok hB hW => ?_
   repeat' (first | (refine jR ?_) | (refine jo ?_; first | refine jO fun _ => ?_ | refine jL fun _ => ?_ | refine jAl rfl ?_ | refine jAm rfl ?_ | refine jV (g_lenL rfl) ?_ | refine jV (g_bld rfl rfl) ?_ | refine jC rfl rfl rfl ?_ | (refine jAt rfl ?_) | (refine jAf rfl ?_) | (refine c_rt rfl rfl rfl cx_sign rfl ?_)) | (refine k_gt rfl rfl (dTt ‹_›) ?_) | (refine k_gf rfl rfl (dFf oM) ?_) | (refine k_tt rfl rfl ?_) | (refine k_ff rfl rfl ?_))
   all_goals refine jZ (vs := [_, _, _]) rfl ⟨rc_A rfl rfl rfl rfl, rc_A rfl rfl rfl rfl, rfl, trivial⟩ rfl ⟨Gh.le.refl _, rfl, ?_⟩
   all_goals exact .inl ⟨rfl, rfl⟩
 ·rw [V.reps] at hrs
  obtain ⟨d, cs2, rfl, hri, hr2⟩ := hrs
  rw [V.reps] at hr2
  subst hr2
  have hsl : SlV G (.slice a 1 kc) 4 ([d] : List VC).length (rows vcF [d]) := hsl
  obtain ⟨xb, xo, xc, e, hsx⟩ := hsl.expl (by simp)
  simp only [Value.slice.injEq] at e
  obtain ⟨rfl, -, rfl⟩ := e
  have hxi : nth [d] (Int.toNat 0) = d := rfl
  show FnS _ _ [Pt b 0, Ag [S (63 :: sg k), S (bs k), S (nm k)], Ag [U8 (63 : Nat), S [], I 0, .slice (some ⟨xb, xo, none⟩) 1 kc], I n] G _
  by_cases hn0 : n = 0
  ·subst hn0
   rw [if_pos (by simp)]
   refine jB [(0, _), (1, _), (2, _), (3, _)] Tryz.func81 Tryz.ntmps81 fun B hok hB hW => ?_
   repeat' (first | (refine jR ?_) | (refine jo ?_; first | refine jO fun _ => ?_ | refine jL fun _ => ?_ | refine jAl rfl ?_ | refine jAm rfl ?_ | refine jV (g_lenL rfl) ?_ | (refine jAf rfl ?_) | (refine c_rt rfl rfl rfl cx_sign rfl ?_)) | (refine k_gf rfl rfl rfl ?_) | (refine k_tt rfl rfl ?_) | (refine k_ff rfl rfl ?_))
   rename_i y5 y6 y8 y9
   (refine k_any (s_any (id := 9) [.blk y6 (.cells (List.toArray [U8 (63 : Nat), S [], I 0, .slice (some ⟨xb, xo, none⟩) 1 kc]) tVal (0, 0)), .blk y5 (.cells (List.toArray [S (63 :: sg k), S (bs k), S (nm k)]) tKnd (0, 0))] (by intro y hy; simp only [List.mem_cons, List.not_mem_nil, or_false] at hy ⊢; rcases hy with hy | hy <;> simp [hy]) mixed ?_); refine jW 8 [2] (bts 9 4) ?_; (refine jG (bts 9 5) 0 rfl (g_ldA rfl rfl rfl rfl) ?_); (refine jG (bts 9 13) 3 rfl (g_ld rfl rfl rfl) ?_); ((refine jG (bts 9 29) 4 rfl (g_iaddr rfl rfl ?_) ?_; (focus ((omega); done)))); ((refine jG (bts 9 61) 5 rfl (g_ldRx rfl rfl aS ?_ aS) ?_; (focus ((simp only [List.length_append, List.length_cons, List.length_nil, List.length_take]; omega); done)))); refine jA 1 rfl ?_; (refine c_rt rfl rfl rfl cx_pt rfl ?_); refine jK (bts 9 63) ?_; refine jA 6 rfl ?_; (refine jC rfl rfl rfl ?_); refine jK (bts 9 127) ?_; refine jA 7 rfl ?_; (refine jC rfl rfl rfl ?_); refine jK (bts 9 255) ?_; refine jW 0 [8] (bts 9 511) ?_; refine jQ ?_)
   all_goals repeat' (refine jR ?_)
   all_goals refine jZ (vs := [_, _, _]) rfl ⟨rc_A rfl rfl rfl rfl, rc_A rfl rfl rfl rfl, rfl, trivial⟩ rfl ⟨Gh.le.refl _, rfl, ?_⟩
   all_goals exact .inr ⟨k, w, d, rfl, rfl, hri⟩
  ·rw [if_neg (show ¬ n < (([w].length : Nat) : Int) by show ¬ n < ((1 : Nat) : Int); omega)]
   refine jB [(0, _), (1, _), (2, _), (3, _)] Tryz.func81 Tryz.ntmps81 fun B hok hB hW => ?_
   repeat' (first | (refine jR ?_) | (refine jo ?_; first | refine jO fun _ => ?_ | refine jL fun _ => ?_ | refine jAm rfl ?_ | refine jV (g_bld rfl rfl) ?_ | refine jC rfl rfl rfl ?_ | (refine jAt rfl ?_) | (refine c_rt rfl rfl rfl cx_sign rfl ?_)) | (refine k_gt rfl rfl (dTt ‹_›) ?_) | (refine k_tt rfl rfl ?_) | (refine k_ff rfl rfl ?_))
   all_goals refine jZ (vs := [_, _, _]) rfl ⟨rc_A rfl rfl rfl rfl, rc_A rfl rfl rfl rfl, rfl, trivial⟩ rfl ⟨Gh.le.refl _, rfl, ?_⟩
   all_goals exact .inl ⟨rfl, rfl⟩
theorem c_stepP {b : Nat} {x : List UInt8} {ts : List Ty} {v : V} {c : VC} {n : Int} (hx : x = [110] ∨ x = [116] ∨ x = [102]) :
  FnS Tryz.prog 81 [Pt b 0, Ag (kdF x), Ag (vcF c), I n] G (StepPI ts (stepV ts x v n)) := by
 have hno : stepV ts x v n = none := by
  rcases hx with rfl | rfl | rfl
  all_goals exact stepV_plain dC dC dC
 rw [hno]
 obtain ⟨w, tx, tg, a, m, kc⟩ := c
 have e0 : vcF ⟨w, tx, tg, a, m, kc⟩ = [U8 (w : Nat), S tx, I tg, .slice a m kc] := rfl
 rw [e0]
 have e1 : kdF x = [S [], S x, S []] := by rcases hx with rfl | rfl | rfl <;> rfl
 rw [e1]
 have cx_sign := @c_sign0 G x []
 have hx64 : ¬ x = [64] := by rcases hx with rfl | rfl | rfl <;> decide
 refine jB [(0, _), (1, _), (2, _), (3, _)] Tryz.func81 Tryz.ntmps81 fun B hok hB hW => ?_
 repeat' (first | (refine jR ?_) | (refine jo ?_; first | refine jO fun _ => ?_ | refine jL fun _ => ?_ | refine jAl rfl ?_ | refine jAm rfl ?_ | refine jV (g_bld rfl rfl) ?_ | refine jC rfl rfl rfl ?_ | (refine c_rt rfl rfl rfl cx_sign rfl ?_)) | (refine k_tt rfl (dTt ‹_›) ?_) | (refine k_ff rfl rfl ?_))
 all_goals refine jZ (vs := [_, _, _]) rfl ⟨rc_A rfl rfl rfl rfl, rc_A rfl rfl rfl rfl, rfl, trivial⟩ rfl ⟨Gh.le.refl _, rfl, ?_⟩
 all_goals exact .inl ⟨rfl, rfl⟩
theorem kind_typ {qs : List TyP} {k : List UInt8} {t : Ty} (hki : kindIn (tyq qs) k = true) (hrf : refT (tyq qs) k = some t) : kdF k = [S [], S [64], S (nm k)] ∧ ∃ p, findQ qs (nm k) = some (p, t) ∧ (p, t) ∈ qs := by
 obtain ⟨r, rfl⟩ := refT_64 hrf
 have h91 : ¬ ((64 : UInt8).toNat = 91 ∨ (64 : UInt8).toNat = 63) := by decide
 have hsg := sg_none (r := r) h91
 have hcs := core_self (r := r) h91
 have hrn : (refN (core (64 :: r))).isSome = true := by rw [hcs]; rfl
 have hbs : bs (64 :: r) = [64] := (bs_at (kindIn_ok hki)).2 hrn
 have hnm : refN (64 :: r) = some (nm (64 :: r)) := by unfold nm; rw [hcs]; rfl
 have hft : findT (tyq qs) (nm (64 :: r)) = some t := by unfold refT at hrf; rw [hnm] at hrf; exact hrf
 rw [← findQ_ty] at hft
 rcases hfq : findQ qs (nm (64 :: r)) with _ | ⟨p, t'⟩
 ·rw [hfq] at hft; cases hft
 rw [hfq] at hft
 obtain rfl : t' = t := Option.some.inj hft
 exact ⟨by unfold kdF; rw [hsg, hbs], p, rfl, findQ_mem hfq⟩
theorem c_stepT {b : Nat} {qs : List TyP} {k : List UInt8} {t : Ty} {v : V} {c : VC} {n : Int} (hS : ScI G b qs) (hw : SchW (tyq qs)) (hki : kindIn (tyq qs) k = true) (hrf : refT (tyq qs) k = some t) (ho : OfK (tyq qs) k v) (hr : V.rep G v c) (hn : 0 ≤ n ∧ n ≤ 999999) (htt : v.tot ≤ 1000000) :
  FnS Tryz.prog 81 [Pt b 0, Ag (kdF k), Ag (vcF c), I n] G (StepPI (tyq qs) (stepV (tyq qs) k v n)) := by
 obtain ⟨hkd, p, hfq, hqm⟩ := kind_typ hki hrf
 have hst := stepV_typ (v := v) (n := n) hrf
 have htm := refT_mem hrf
 have hW := hw.ty t htm
 obtain ⟨fv, ln, hsg, hfv⟩ := hS.ty _ hqm
 dsimp only at hsg hfv
 have hkv := kvF_find qs (nm k)
 rw [hfq] at hkv
 dsimp only [Option.map_some] at hkv
 obtain ⟨u, m, g1, g2, g3⟩ := hS.at'
 have hfl := hW.len
 have cx_sign := @c_sign0 G [64] (nm k)
 rw [hkd]
 cases hg : fldT t.fields n with
 | none =>
  rw [hg] at hst
  dsimp only at hst
  rw [hst]
  have cx_fld := c_fieldI0 (tag := n) hsg hfv oM hg
  obtain ⟨w, tx, tg, a, mm, kc⟩ := c
  have e0 : vcF ⟨w, tx, tg, a, mm, kc⟩ = [U8 (w : Nat), S tx, I tg, .slice a mm kc] := rfl
  rw [e0]
  refine jB [(0, _), (1, _), (2, _), (3, _)] Tryz.func81 Tryz.ntmps81 fun B hok hB hW => ?_
  repeat' (first | (refine jR ?_) | (refine jo ?_; first | refine jO fun _ => ?_ | refine jL fun _ => ?_ | refine jAl rfl ?_ | refine jAm rfl ?_ | (refine c_rt rfl rfl rfl cx_sign rfl ?_)) | (refine k_ff rfl rfl ?_))
  rename_i y5 y6 y8 y9
  (refine k_any (s_any (id := 12) [.blk y9 (.cells (List.toArray [U8 0, S [], I 0, nilS]) tVal (0, 0)), .blk y8 (.cells (List.toArray [S [], S [], S []]) tKnd (0, 0)), .blk y6 (.cells (List.toArray [U8 (w : Nat), S tx, I tg, .slice a mm kc]) tVal (0, 0)), .blk y5 (.cells (List.toArray [S [], S [64], S (nm k)]) tKnd (0, 0))] (by intro y hy; simp only [List.mem_cons, List.not_mem_nil, or_false] at hy ⊢; rcases hy with hy | hy | hy | hy <;> simp [hy]) mixed ?_); refine jT 4 [0, 1, 2, 4] (bts 8 23) ?_; (refine jG (bts 8 31) 3 rfl (g_ldS rfl rfl aS rfl rfl) ?_); (refine jG (bts 8 63) 5 rfl (g_ld rfl rfl rfl) ?_); ((refine jG (bts 8 127) 6 rfl (g_lookupX rfl rfl (map_G aS) aS rfl) ?_)); refine jT 0 [7] (bts 8 255) ?_; refine jQ ?_)
  all_goals repeat' (first | (refine jR ?_) | (refine jo ?_; first | refine jV (g_bld rfl rfl) ?_ | refine jC rfl rfl rfl ?_ | (refine jAt rfl ?_) | refine jV (g_peq0 rfl rfl) ?_ | (refine c_rt rfl rfl rfl cx_fld rfl ?_)) | (refine k_gt rfl rfl rfl ?_) | (refine k_tt rfl rfl ?_))
  all_goals refine jZ (vs := [_, _, _]) rfl ⟨rc_A rfl rfl rfl rfl, rc_A rfl rfl rfl rfl, rfl, trivial⟩ rfl ⟨Gh.le.refl _, rfl, ?_⟩
  all_goals exact .inl ⟨rfl, rfl⟩
 | some f =>
  rw [hg] at hst
  dsimp only at hst
  obtain ⟨j, hj, hjf, hjn, hjx⟩ := fldT_some hg
  obtain ⟨bf, of, cf, rfl, hsf⟩ := hfv.expl oM
  have cx_fld := c_fieldI1 hsg hsf oM hj hjf hjn
  subst hjx
  rcases hW.sort with hso | hso | hso
  ·rw [if_neg oM, if_pos hso] at hst
   rw [hst]
   rcases ofK_inv_t ho hrf with ⟨_, fs, rfl, g4, g5, _, _⟩ | ⟨h1, _⟩ | ⟨h1, _⟩
   ·have h9 : fs.length ≤ 1000000 := by
     have h7 := tots_len (fs.map fldV)
     rw [nd_tot] at htt
     have e1 : (fs.map fldV).length = fs.length := by simp
     omega
    have cx_ge := c_getI hS hw htm hso hsf hj hr h9
    obtain ⟨a, kc, cs, rfl, _, _, _, hcl, hsl, hrs⟩ := rep_inv hr
    have hml : (fs.map fldV).length = fs.length := by simp
    have e0 : vcF ⟨82, [], 0, a, (fs.map fldV).length, kc⟩ = [U8 (82 : Nat), S [], I 0, .slice a fs.length kc] := by rw [← hml]; rfl
    rw [e0] at cx_ge ⊢
    refine jB [(0, _), (1, _), (2, _), (3, _)] Tryz.func81 Tryz.ntmps81 fun B hok hB hW => ?_
    repeat' (first | (refine jR ?_) | (refine jo ?_; first | refine jO fun _ => ?_ | refine jL fun _ => ?_ | refine jAl rfl ?_ | refine jAm rfl ?_ | (refine c_rt rfl rfl rfl cx_sign rfl ?_)) | (refine k_ff rfl rfl ?_))
    rename_i y5 y6 y8 y9
    (refine k_any (s_any (id := 12) [.blk y9 (.cells (List.toArray [U8 0, S [], I 0, nilS]) tVal (0, 0)), .blk y8 (.cells (List.toArray [S [], S [], S []]) tKnd (0, 0)), .blk y6 (.cells (List.toArray [U8 (82 : Nat), S [], I 0, .slice a fs.length kc]) tVal (0, 0)), .blk y5 (.cells (List.toArray [S [], S [64], S (nm k)]) tKnd (0, 0))] (by intro y hy; simp only [List.mem_cons, List.not_mem_nil, or_false] at hy ⊢; rcases hy with hy | hy | hy | hy <;> simp [hy]) mixed ?_); refine jT 4 [0, 1, 2, 4] (bts 8 23) ?_; (refine jG (bts 8 31) 3 rfl (g_ldS rfl rfl aS rfl rfl) ?_); (refine jG (bts 8 63) 5 rfl (g_ld rfl rfl rfl) ?_); ((refine jG (bts 8 127) 6 rfl (g_lookupX rfl rfl (map_G aS) aS rfl) ?_)); refine jT 0 [7] (bts 8 255) ?_; refine jQ ?_)
    all_goals repeat' (first | (refine jR ?_) | (refine jo ?_; first | refine jV (g_ldS rfl rfl aS rfl rfl) ?_ | (refine jAf rfl ?_) | refine jV (g_peq0 rfl rfl) ?_ | (refine c_rt rfl rfl rfl cx_fld rfl ?_)) | (refine k_gf rfl rfl (by first | rfl | (refine decide_eq_false ?_; (omega))) ?_) | (refine k_ff rfl (by first | rfl | (refine decide_eq_false ?_; (omega))) ?_))
    all_goals (refine k_any (s_any (id := 18) [.blk y6 (.cells (List.toArray [U8 (82 : Nat), S [], I 0, .slice a fs.length kc]) tVal (0, 0)), .blk y5 (.cells (List.toArray [S [], S [64], S (nm k)]) tKnd (0, 0))] (by intro y hy; simp only [List.mem_cons, List.not_mem_nil, or_false] at hy ⊢; rcases hy with hy | hy <;> simp [hy]) mixed ?_); refine jW 6 [0, 1, 2, 4, 6] (bts 11 87) ?_; ((refine jG (bts 11 95) 3 rfl (g_ldRA rfl rfl aS ?_ rfl rfl) ?_; (focus ((omega); done)))); (refine jG (bts 11 127) 5 rfl (g_ldA rfl rfl rfl rfl) ?_); refine jA 7 rfl ?_; (refine c_fns rfl rfl rfl cx_ge rfl ?_; rintro _ G hle ⟨cv, rfl, hrv⟩; skip); refine jK (bts 11 255) ?_; refine jA 8 rfl ?_; (refine jC rfl rfl rfl ?_); refine jK (bts 11 511) ?_; refine jA 9 rfl ?_; (refine jC rfl rfl rfl ?_); refine jK (bts 11 1023) ?_; refine jW 0 [10] (bts 11 2047) ?_; refine jQ ?_)
    all_goals repeat' (refine jR ?_)
    all_goals refine jZ (vs := [_, _, _]) rfl ⟨rc_A rfl rfl rfl rfl, rc_A rfl rfl rfl rfl, rfl, trivial⟩ rfl ⟨hle, rfl, ?_⟩
    all_goals exact .inr ⟨_, _, cv, rfl, rfl, hrv⟩
   ·omega
   ·omega
  ·rw [if_neg oM, if_neg oM] at hst
   rcases ofK_inv_t ho hrf with ⟨h1, _⟩ | ⟨h1, _⟩ | ⟨_, _, d, w, rfl, g4, g5⟩
   ·omega
   ·omega
   ·obtain ⟨a, kc, cs, rfl, _, _, _, hcl, hsl, hrs⟩ := rep_inv hr
    rw [V.reps] at hrs
    obtain ⟨c1, cs2, rfl, hri, hr2⟩ := hrs
    rw [V.reps] at hr2
    subst hr2
    have hsl : SlV G (.slice a 1 kc) 4 ([c1] : List VC).length (rows vcF [c1]) := hsl
    obtain ⟨xb, xo, xc, e, hsx⟩ := hsl.expl (by simp)
    simp only [Value.slice.injEq] at e
    obtain ⟨rfl, -, rfl⟩ := e
    have hxi : nth [c1] (Int.toNat 0) = c1 := rfl
    show FnS _ _ [Pt b 0, Ag [S [], S [64], S (nm k)], Ag [U8 (85 : Nat), S [], I d.tag, .slice (some ⟨xb, xo, none⟩) 1 kc], I n] G _
    by_cases hdn : d.tag = n
    ·rw [if_pos (show V.tag (.nd 85 [] d.tag [w]) = n from hdn)] at hst
     rw [hst]
     refine jB [(0, _), (1, _), (2, _), (3, _)] Tryz.func81 Tryz.ntmps81 fun B hok hB hW => ?_
     repeat' (first | (refine jR ?_) | (refine jo ?_; first | refine jO fun _ => ?_ | refine jL fun _ => ?_ | refine jAl rfl ?_ | refine jAm rfl ?_ | (refine c_rt rfl rfl rfl cx_sign rfl ?_)) | (refine k_ff rfl rfl ?_))
     rename_i y5 y6 y8 y9
     (refine k_any (s_any (id := 12) [.blk y9 (.cells (List.toArray [U8 0, S [], I 0, nilS]) tVal (0, 0)), .blk y8 (.cells (List.toArray [S [], S [], S []]) tKnd (0, 0)), .blk y6 (.cells (List.toArray [U8 (85 : Nat), S [], I d.tag, .slice (some ⟨xb, xo, none⟩) 1 kc]) tVal (0, 0)), .blk y5 (.cells (List.toArray [S [], S [64], S (nm k)]) tKnd (0, 0))] (by intro y hy; simp only [List.mem_cons, List.not_mem_nil, or_false] at hy ⊢; rcases hy with hy | hy | hy | hy <;> simp [hy]) mixed ?_); refine jT 4 [0, 1, 2, 4] (bts 8 23) ?_; (refine jG (bts 8 31) 3 rfl (g_ldS rfl rfl aS rfl rfl) ?_); (refine jG (bts 8 63) 5 rfl (g_ld rfl rfl rfl) ?_); ((refine jG (bts 8 127) 6 rfl (g_lookupX rfl rfl (map_G aS) aS rfl) ?_)); refine jT 0 [7] (bts 8 255) ?_; refine jQ ?_)
     all_goals repeat' (first | (refine jR ?_) | (refine jo ?_; first | refine jAl rfl ?_ | refine jV (g_ldS rfl rfl aS rfl rfl) ?_ | (refine jAt rfl ?_) | (refine jAf rfl ?_) | refine jV (g_peq0 rfl rfl) ?_ | (refine c_rt rfl rfl rfl cx_fld rfl ?_)) | (refine k_gt rfl rfl (dTt oM) ?_) | (refine k_gf rfl rfl (by first | rfl | (refine decide_eq_false ?_; (omega))) ?_) | (refine k_tt rfl (dTt oM) ?_) | (refine k_ff rfl (dFf oM) ?_))
     all_goals (refine k_any (s_any (id := 17) [.blk y6 (.cells (List.toArray [U8 (85 : Nat), S [], I d.tag, .slice (some ⟨xb, xo, none⟩) 1 kc]) tVal (0, 0)), .blk y5 (.cells (List.toArray [S [], S [64], S (nm k)]) tKnd (0, 0))] (by intro y hy; simp only [List.mem_cons, List.not_mem_nil, or_false] at hy ⊢; rcases hy with hy | hy <;> simp [hy]) mixed ?_); refine jW 7 [0, 1, 2, 4] (bts 11 23) ?_; ((refine jG (bts 11 31) 3 rfl (g_ldRA rfl rfl aS ?_ rfl rfl) ?_; (focus ((omega); done)))); (refine jG (bts 11 63) 5 rfl (g_ld rfl rfl rfl) ?_); ((refine jG (bts 11 127) 6 rfl (g_iaddr rfl rfl ?_) ?_; (focus ((omega); done)))); ((refine jG (bts 11 255) 7 rfl (g_ldRx rfl rfl aS ?_ aS) ?_; (focus ((simp only [List.length_append, List.length_cons, List.length_nil, List.length_take]; omega); done)))); refine jA 8 rfl ?_; (refine jC rfl rfl rfl ?_); refine jK (bts 11 511) ?_; refine jA 9 rfl ?_; (refine jC rfl rfl rfl ?_); refine jK (bts 11 1023) ?_; refine jW 0 [10] (bts 11 2047) ?_; refine jQ ?_)
     all_goals repeat' (refine jR ?_)
     all_goals refine jZ (vs := [_, _, _]) rfl ⟨rc_A rfl rfl rfl rfl, rc_A rfl rfl rfl rfl, rfl, trivial⟩ rfl ⟨Gh.le.refl _, rfl, ?_⟩
     all_goals exact .inr ⟨_, w, c1, rfl, rfl, hri⟩
    ·rw [if_neg (show ¬ V.tag (.nd 85 [] d.tag [w]) = n from hdn)] at hst
     rw [hst]
     refine jB [(0, _), (1, _), (2, _), (3, _)] Tryz.func81 Tryz.ntmps81 fun B hok hB hW => ?_
     repeat' (first | (refine jR ?_) | (refine jo ?_; first | refine jO fun _ => ?_ | refine jL fun _ => ?_ | refine jAl rfl ?_ | refine jAm rfl ?_ | (refine c_rt rfl rfl rfl cx_sign rfl ?_)) | (refine k_ff rfl rfl ?_))
     rename_i y5 y6 y8 y9
     (refine k_any (s_any (id := 12) [.blk y9 (.cells (List.toArray [U8 0, S [], I 0, nilS]) tVal (0, 0)), .blk y8 (.cells (List.toArray [S [], S [], S []]) tKnd (0, 0)), .blk y6 (.cells (List.toArray [U8 (85 : Nat), S [], I d.tag, .slice (some ⟨xb, xo, none⟩) 1 kc]) tVal (0, 0)), .blk y5 (.cells (List.toArray [S [], S [64], S (nm k)]) tKnd (0, 0))] (by intro y hy; simp only [List.mem_cons, List.not_mem_nil, or_false] at hy ⊢; rcases hy with hy | hy | hy | hy <;> simp [hy]) mixed ?_); refine jT 4 [0, 1, 2, 4] (bts 8 23) ?_; (refine jG (bts 8 31) 3 rfl (g_ldS rfl rfl aS rfl rfl) ?_); (refine jG (bts 8 63) 5 rfl (g_ld rfl rfl rfl) ?_); ((refine jG (bts 8 127) 6 rfl (g_lookupX rfl rfl (map_G aS) aS rfl) ?_)); refine jT 0 [7] (bts 8 255) ?_; refine jQ ?_)
     all_goals repeat' (first | (refine jR ?_) | (refine jo ?_; first | refine jAl rfl ?_ | refine jV (g_ldS rfl rfl aS rfl rfl) ?_ | refine jV (g_bld rfl rfl) ?_ | refine jC rfl rfl rfl ?_ | (refine jAt rfl ?_) | (refine jAf rfl ?_) | refine jV (g_peq0 rfl rfl) ?_ | (refine c_rt rfl rfl rfl cx_fld rfl ?_)) | (refine k_gt rfl rfl (dTt oM) ?_) | (refine k_gf rfl rfl (by first | rfl | (refine decide_eq_false ?_; (omega))) ?_) | (refine k_tt rfl (dTt ‹_›) ?_))
     all_goals refine jZ (vs := [_, _, _]) rfl ⟨rc_A rfl rfl rfl rfl, rc_A rfl rfl rfl rfl, rfl, trivial⟩ rfl ⟨Gh.le.refl _, rfl, ?_⟩
     all_goals exact .inl ⟨rfl, rfl⟩
  ·rw [if_pos hso] at hst
   rw [hst]
   obtain ⟨w, tx, tg, a, mm, kc⟩ := c
   have e0 : vcF ⟨w, tx, tg, a, mm, kc⟩ = [U8 (w : Nat), S tx, I tg, .slice a mm kc] := rfl
   rw [e0]
   refine jB [(0, _), (1, _), (2, _), (3, _)] Tryz.func81 Tryz.ntmps81 fun B hok hB hW => ?_
   repeat' (first | (refine jR ?_) | (refine jo ?_; first | refine jO fun _ => ?_ | refine jL fun _ => ?_ | refine jAl rfl ?_ | refine jAm rfl ?_ | (refine c_rt rfl rfl rfl cx_sign rfl ?_)) | (refine k_ff rfl rfl ?_))
   rename_i y5 y6 y8 y9
   (refine k_any (s_any (id := 12) [.blk y9 (.cells (List.toArray [U8 0, S [], I 0, nilS]) tVal (0, 0)), .blk y8 (.cells (List.toArray [S [], S [], S []]) tKnd (0, 0)), .blk y6 (.cells (List.toArray [U8 (w : Nat), S tx, I tg, .slice a mm kc]) tVal (0, 0)), .blk y5 (.cells (List.toArray [S [], S [64], S (nm k)]) tKnd (0, 0))] (by intro y hy; simp only [List.mem_cons, List.not_mem_nil, or_false] at hy ⊢; rcases hy with hy | hy | hy | hy <;> simp [hy]) mixed ?_); refine jT 4 [0, 1, 2, 4] (bts 8 23) ?_; (refine jG (bts 8 31) 3 rfl (g_ldS rfl rfl aS rfl rfl) ?_); (refine jG (bts 8 63) 5 rfl (g_ld rfl rfl rfl) ?_); ((refine jG (bts 8 127) 6 rfl (g_lookupX rfl rfl (map_G aS) aS rfl) ?_)); refine jT 0 [7] (bts 8 255) ?_; refine jQ ?_)
   all_goals repeat' (first | (refine jR ?_) | (refine jo ?_; first | refine jV (g_ldS rfl rfl aS rfl rfl) ?_ | refine jV (g_bld rfl rfl) ?_ | refine jC rfl rfl rfl ?_ | (refine jAt rfl ?_) | (refine jAf rfl ?_) | refine jV (g_peq0 rfl rfl) ?_ | (refine c_rt rfl rfl rfl cx_fld rfl ?_)) | (refine k_gt rfl rfl (dTt oM) ?_) | (refine k_gf rfl rfl rfl ?_) | (refine k_tt rfl rfl ?_))
   all_goals refine jZ (vs := [_, _, _]) rfl ⟨rc_A rfl rfl rfl rfl, rc_A rfl rfl rfl rfl, rfl, trivial⟩ rfl ⟨Gh.le.refl _, rfl, ?_⟩
   all_goals exact .inl ⟨rfl, rfl⟩
theorem c_stepI {b : Nat} {qs : List TyP} {k : List UInt8} {v : V} {c : VC} {n : Int} (hS : ScI G b qs) (hw : SchW (tyq qs)) (hki : kindIn (tyq qs) k = true) (ho : OfK (tyq qs) k v) (hr : V.rep G v c) (hn : 0 ≤ n ∧ n ≤ 999999) (htt : v.tot ≤ 1000000) :
  FnS Tryz.prog 81 [Pt b 0, Ag (kdF k), Ag (vcF c), I n] G (StepPI (tyq qs) (stepV (tyq qs) k v n)) := by
 cases hrf : refT (tyq qs) k with
 | some t => exact c_stepT hS hw hki hrf ho hr hn htt
 | none =>
  obtain ⟨ch, r, rfl⟩ := kind_ne hki
  by_cases h91 : ch.toNat = 91 ∨ ch.toNat = 63
  ·rcases ofK_inv_c ho oM with ⟨h1, _⟩ | ⟨h1, _⟩ | ⟨h1, _⟩ | ⟨h1, ks, _, _, rfl⟩ | ⟨h1, h2⟩
   ·omega
   ·omega
   ·omega
   ·obtain rfl := u8_eq h1 dC
    have := tots_len ks
    rw [nd_tot] at htt
    exact c_stepL hr hn oM
   ·obtain rfl := u8_eq h1 dC
    rcases h2 with rfl | ⟨w, _, rfl⟩
    ·exact c_stepO (.inl rfl) hr hn
    ·exact c_stepO (.inr ⟨w, rfl⟩) hr hn
  ·exact c_stepP (plain_kinds hki h91 hrf)
end Go.E
namespace Go.E
set_option maxRecDepth 20000
set_option maxHeartbeats 2000000
open Go.Proofs
variable {G : Gh}
theorem c_followI {b : Nat} {qs : List TyP} (hS : ScI G b qs) (hw : SchW (tyq qs)) {p : List Int} {pv : Value} (hp : SlV G pv 1 p.length (rows inR p)) (hpn : ∀ n ∈ p, 0 ≤ n ∧ n ≤ 999999) (hpl : p.length ≤ 1000) {k : List UInt8} {v : V} {c : VC} (hr : V.rep G v c) (ho : OfK (tyq qs) k v) (hki : kindIn (tyq qs) k = true) (htt : v.tot ≤ 1000000) :
  FnS Tryz.prog 36 [Pt b 0, Ag (kdF k), Ag (vcF c), pv] G (StepPI (tyq qs) (followV (tyq qs) k v p)) := by
 obtain ⟨pa, pc, rfl⟩ := hp.sl
 unfold kdF
 have e0 : vcF c = [U8 (c.what : Nat), S c.text, I c.tag, .slice c.a c.n c.c] := rfl
 rw [e0]
 refine jB [(0, _), (1, _), (2, _), (3, _)] Tryz.func36 Tryz.ntmps36 fun B hok hB hW => ?_
 repeat' (first | (refine jR ?_) | (refine jo ?_; first | refine jO fun _ => ?_ | refine jL fun _ => ?_ | refine jV (g_lenL rfl) ?_))
 rename_i y5 y6 y8 y9
 refine k_loop (ι := List UInt8 × V × VC × Nat × Gh) (fun j => ((V.rep j.2.2.2.2 j.2.1 j.2.2.1 ∧ OfK (tyq qs) j.1 j.2.1) ∧ (kindIn (tyq qs) j.1 = true ∧ j.2.1.tot ≤ 1000000)) ∧ (Gh.le G j.2.2.2.2 ∧ j.2.2.2.1 ≤ p.length) ∧ followV (tyq qs) k v p = followV (tyq qs) j.1 j.2.1 (p.drop j.2.2.2.1)) (fun j => [(0, Pt b 0), (5, Pt y5 0), (6, Pt y6 0), (8, Pt y8 0), (9, Pt y9 0), (14, .slice pa p.length pc), (15, I p.length), (16, I j.2.2.2.1)]) (fun j => j.2.2.2.2) (fun j => [.blk y9 (.cells (List.toArray [U8 0, S [], I 0, nilS]) tVal (0, 0)), .blk y8 (.cells (List.toArray [S [], S [], S []]) tKnd (0, 0)), .blk y6 (.cells (List.toArray [U8 (j.2.2.1.what : Nat), S j.2.2.1.text, I j.2.2.1.tag, .slice j.2.2.1.a j.2.2.1.n j.2.2.1.c]) tVal (0, 0)), .blk y5 (.cells (List.toArray [S (sg j.1), S (bs j.1), S (nm j.1)]) tKnd (0, 0))]) (fun j => p.length - j.2.2.2.1) (k, v, c, 0, G) ?_ tU rfl sRr (fun j Hj => ?_)
 ·exact ⟨⟨⟨hr, ho⟩, hki, htt⟩, ⟨Gh.le.refl _, Nat.zero_le _⟩, rfl⟩
 obtain ⟨k0, v0, c0, i, Gq⟩ := j
 dsimp only at Hj ⊢
 obtain ⟨⟨⟨hr0, ho0⟩, hk0, ht0⟩, ⟨hgq, hi0⟩, he⟩ := Hj
 by_cases hi : i < p.length
 ·obtain ⟨xb, xo, xc, e, hs1⟩ := (hp.mono hgq).expl oM
  simp only [Value.slice.injEq] at e
  obtain ⟨rfl, -, rfl⟩ := e
  have hni := hpn _ (nth_mem hi)
  have hti : nth p i = nth p i := rfl
  have hstp := c_stepI (hS.mono hgq) hw hk0 ho0 hr0 hni ht0
  unfold kdF at hstp
  rw [show vcF c0 = [U8 (c0.what : Nat), S c0.text, I c0.tag, .slice c0.a c0.n c0.c] from rfl] at hstp
  rw [followV_drop hi] at he
  cases hsv : stepV (tyq qs) k0 v0 (nth p i) with
  | none =>
   have cx_stn := StepPI.no hstp hsv
   rw [hsv] at he
   repeat' (first | (refine jR ?_) | (refine jo ?_; first | (refine jV (g_iaddrN rfl rfl oM) ?_) | refine jAm rfl ?_ | (refine jV (g_ldR1x rfl rfl aS ?_ aS rfl) ?_; (focus ((omega); done))) | refine jC rfl rfl rfl ?_ | refine jV (g_bld rfl rfl) ?_ | (refine c_fns rfl rfl rfl cx_stn rfl ?_; rintro _ G hle rfl; skip)) | (refine k_tt rfl (by first | rfl | (refine decide_eq_true ?_; (omega))) ?_))
   all_goals refine jZ (vs := [_, _, _]) rfl ⟨rc_A rfl rfl rfl rfl, rc_A rfl rfl rfl rfl, rfl, trivial⟩ rfl ⟨hgq.trans hle, rfl, ?_⟩
   all_goals exact .inl ⟨he, rfl⟩
  | some y =>
   obtain ⟨k1, v1⟩ := y
   have cx_sty := StepPI.yes hstp hsv
   rw [hsv] at he
   obtain ⟨g1, g2⟩ := stepV_ok hw ho0 hk0 hni.1 hsv
   have g3 := stepV_tot hw ho0 hk0 hni.1 hsv ht0 oM
   repeat' (first | refine jM ?_ | (refine jo ?_; first | (refine jV (g_iaddrN rfl rfl oM) ?_) | refine jAm rfl ?_ | (refine jV (g_ldR1x rfl rfl aS ?_ aS rfl) ?_; (focus ((omega); done))) | refine jC rfl rfl rfl ?_ | (refine c_fns rfl rfl rfl cx_sty rfl ?_; rintro _ G hle ⟨cv, rfl, hrv⟩; skip)) | (refine k_tt rfl (dTt oM) ?_) | (refine k_ff rfl rfl ?_))
   exact k_rd (k1, v1, cv, i + 1, G) ⟨⟨⟨hrv, g1⟩, g2, g3⟩, ⟨hgq.trans hle, by dsimp only; omega⟩, he⟩ (by dsimp only; omega) tU rfl sRr
 ·have hd : p.drop i = [] := List.drop_eq_nil_of_le oM
  rw [hd] at he
  repeat' (first | (refine jR ?_) | (refine k_ff rfl (dFf oM) ?_))
  (refine k_any (s_any (id := 9) [.blk y6 (.cells (List.toArray [U8 (c0.what : Nat), S c0.text, I c0.tag, .slice c0.a c0.n c0.c]) tVal (0, 0)), .blk y5 (.cells (List.toArray [S (sg k0), S (bs k0), S (nm k0)]) tKnd (0, 0))] (by intro y hy; simp only [List.mem_cons, List.not_mem_nil, or_false] at hy ⊢; rcases hy with hy | hy <;> simp [hy]) mixed ?_); (refine jG (bts 5 1) 0 rfl (g_ldA rfl rfl rfl rfl) ?_); (refine jG (bts 5 3) 1 rfl (g_ldA rfl rfl rfl rfl) ?_); refine jA 2 rfl ?_; (refine jC rfl rfl rfl ?_); refine jK (bts 5 7) ?_; refine jA 3 rfl ?_; (refine jC rfl rfl rfl ?_); refine jK (bts 5 15) ?_; refine jW 0 [4] (bts 5 31) ?_; refine jQ ?_)
  all_goals repeat' (refine jR ?_)
  all_goals refine jZ (vs := [_, _, _]) rfl ⟨rc_A rfl rfl rfl rfl, rc_A rfl rfl rfl rfl, rfl, trivial⟩ rfl ⟨hgq, rfl, ?_⟩
  all_goals exact .inr ⟨_, _, c0, he, rfl, hr0⟩
theorem readPath_no {s : List UInt8} (h : s.length ≤ 1048576) (hp : pathOf s = none) : ∀ G, FnS Tryz.prog 35 [S s] G (fun v _ => ∃ a c n, v = Tu [.slice a n c, Bo false] ∧ True) := fun G => by
 refine (c_readPath (G := G) h).mono ?_
 rintro v G' L' ⟨h1, h2, a, c, n, rfl, _⟩
 exact ⟨h1, h2, a, c, n, by rw [hp]; rfl, trivial⟩
theorem readPath_yes {s : List UInt8} {p : List Int} (h : s.length ≤ 1048576) (hp : pathOf s = some p) : ∀ G, FnS Tryz.prog 35 [S s] G (fun v G' => ∃ a c n, v = Tu [.slice a n c, Bo true] ∧ n = p.length ∧ SlV G' (.slice a n c) 1 p.length (rows inR p)) := fun G => by
 refine (c_readPath (G := G) h).mono ?_
 rintro v G' L' ⟨h1, h2, a, c, n, rfl, h3⟩
 exact ⟨h1, h2, a, c, n, by rw [hp]; rfl, h3 p hp⟩
theorem c_PathGetI {s k w p : List UInt8} (h1 : s.length ≤ 1048576 ∧ k.length ≤ 1048576 ∧ w.length ≤ 1048576 ∧ p.length ≤ 1048576) : PuG Tryz.prog 15 [S s, S k, S w, S p] G (· = pgR (pathGetV s k w p)) := by
 unfold pathGetV
 cases hg : givenV s k w with
 | none =>
  rw [pgv_none]
  have cx_gi0 := c_given0 (G := G) (s := s) (k := k) (w := w) oM hg
  cases hpo : pathOf p with
  | none =>
   have cx_sp := readPath_no h1.2.2.2 hpo
   refine jB (Post := fun v G' L' => G' = G ∧ L' = [] ∧ _) [(0, _), (1, _), (2, _), (3, _)] Tryz.func15 Tryz.ntmps15 fun B hok hB hW => ?_
   repeat' (first | (refine jR ?_) | (refine jo ?_; first | refine jL fun _ => ?_ | refine jC rfl rfl rfl ?_ | (refine jAt rfl ?_) | (refine c_fns rfl rfl rfl cx_gi0 rfl ?_; rintro _ G hle ⟨p1, a1, b1, c1, rfl⟩; skip) | (refine c_fns rfl rfl rfl (cx_sp _) rfl ?_; rintro _ G hle ⟨sa, sc, sn, rfl, hsp⟩; skip)) | (refine k_gt rfl rfl rfl ?_) | (refine k_tt rfl rfl ?_))
   all_goals refine Nx.base hok hB ?_
   all_goals refine jY (vs := [_, _, _]) ?_
   all_goals rfl
  | some q =>
   have cx_sp := readPath_yes h1.2.2.2 hpo
   refine jB (Post := fun v G' L' => G' = G ∧ L' = [] ∧ _) [(0, _), (1, _), (2, _), (3, _)] Tryz.func15 Tryz.ntmps15 fun B hok hB hW => ?_
   repeat' (first | (refine jR ?_) | (refine jo ?_; first | refine jL fun _ => ?_ | refine jC rfl rfl rfl ?_ | (refine jAt rfl ?_) | (refine c_fns rfl rfl rfl cx_gi0 rfl ?_; rintro _ G hle ⟨p1, a1, b1, c1, rfl⟩; skip) | (refine c_fns rfl rfl rfl (cx_sp _) rfl ?_; rintro _ G hle ⟨sa, sc, sn, rfl, hsp⟩; skip)) | (refine k_gt rfl rfl rfl ?_) | (refine k_tt rfl rfl ?_))
   all_goals refine Nx.base hok hB ?_
   all_goals refine jY (vs := [_, _, _]) ?_
   all_goals rfl
 | some u =>
  obtain ⟨ts, hs, hki, hvo, hto, hwf⟩ := given_some hg
  have cx_gi1 := c_given1 (G := G) (s := s) (k := k) (w := w) oM hs hki hvo
  rw [hs]
  cases hpo : pathOf p with
  | none =>
   have cx_sp := readPath_no h1.2.2.2 hpo
   refine jB (Post := fun v G' L' => G' = G ∧ L' = [] ∧ _) [(0, _), (1, _), (2, _), (3, _)] Tryz.func15 Tryz.ntmps15 fun B hok hB hW => ?_
   repeat' (first | (refine jR ?_) | (refine jo ?_; first | refine jL fun _ => ?_ | refine jC rfl rfl rfl ?_ | (refine jAf rfl ?_) | (refine c_fns rfl rfl rfl cx_gi1 rfl ?_; rintro _ G hle ⟨bg, qg, cv, rfl, hTg, hRg, hrv⟩; skip) | (refine c_fns rfl rfl rfl (cx_sp _) rfl ?_; rintro _ G hle ⟨sa, sc, sn, rfl, hsp⟩; skip)) | (refine k_gf rfl rfl rfl ?_) | (refine k_tt rfl rfl ?_))
   all_goals refine Nx.base hok hB ?_
   all_goals refine jY (vs := [_, _, _]) ?_
   all_goals rfl
  | some q =>
   have cx_sp := readPath_yes h1.2.2.2 hpo
   obtain ⟨hq8, hqn⟩ := pathOf_le hpo
   have hof := valOf_of_k hvo
   have hw := schemaOf_w hs
   dsimp only
   refine jB (Post := fun v G' L' => G' = G ∧ L' = [] ∧ _) [(0, _), (1, _), (2, _), (3, _)] Tryz.func15 Tryz.ntmps15 fun B hok hB hW => ?_
   repeat' (first | (refine jR ?_) | (refine jo ?_; first | refine jL fun _ => ?_ | refine jC rfl rfl rfl ?_ | (refine jAf rfl ?_) | refine jAm rfl ?_ | (refine c_fns rfl rfl rfl cx_gi1 rfl ?_; rintro _ G hle ⟨bg, qg, cv, rfl, hTg, hRg, hrv⟩; (try have hrv := rep_mono hle hrv); (try have hRg := ScI.mono hRg hle)) | (refine c_fns rfl rfl rfl (cx_sp _) rfl ?_; rintro _ G hle ⟨sa, sc, sn, rfl, hsp⟩; (try have hrv := rep_mono hle hrv); (try have hRg := ScI.mono hRg hle))) | (refine k_gf rfl rfl rfl ?_) | (refine k_ff rfl rfl ?_))
   obtain ⟨rfl, hsp⟩ := hsp
   subst hTg
   have hfl := c_followI hRg hw hsp hqn oM hrv hof hki oM
   unfold kdF at hfl
   rw [show vcF cv = [U8 (cv.what : Nat), S cv.text, I cv.tag, .slice cv.a cv.n cv.c] from rfl] at hfl
   cases hfo : followV (tyq qg) k u q with
   | none =>
    have cx_fon := StepPI.no hfl hfo
    repeat' (first | (refine jR ?_) | (refine jo ?_; first | refine jC rfl rfl rfl ?_ | (refine c_fns rfl rfl rfl cx_fon rfl ?_; rintro _ G hle rfl; skip)) | (refine k_tt rfl rfl ?_))
    all_goals refine Nx.base hok hB ?_
    all_goals refine jY (vs := [_, _, _]) ?_
    all_goals rfl
   | some y =>
    obtain ⟨k1, v1⟩ := y
    have cx_foy := StepPI.yes hfl hfo
    have g3 := followV_tot hw hof hki (fun n hn => (hqn n hn).1) hfo (N := 1000000) oM oM
    obtain ⟨_, hk1⟩ := followV_ok hw hof hki (fun n hn => (hqn n hn).1) hfo
    repeat' (first | (refine jR ?_) | (refine jo ?_; first | refine jC rfl rfl rfl ?_ | (refine c_fns rfl rfl rfl cx_foy rfl ?_; rintro _ G hle ⟨cv, rfl, hrv⟩; skip)) | (refine k_ff rfl rfl ?_))
    have cx_txt := c_textI (G := G) (kindIn_ok hk1)
    have cx_pr := c_print (G := G) (c := cv) v1.tot (Nat.le_refl _) g3 hrv
    unfold kdF at cx_txt
    rw [show vcF cv = [U8 (cv.what : Nat), S cv.text, I cv.tag, .slice cv.a cv.n cv.c] from rfl] at cx_pr
    rename_i y12 y13 _ _ _ _
    (refine k_any (s_any (id := 8) _ (fun _ h => h) mixed ?_); (refine jG (bts 7 1) 0 rfl (g_ldA rfl rfl rfl rfl) ?_); (refine jG (bts 7 5) 2 rfl (g_ldA rfl rfl rfl rfl) ?_); refine jA 1 rfl ?_; (refine c_rt rfl rfl rfl cx_txt rfl ?_); refine jS (bts 7 7) ?_; refine jA 3 rfl ?_; (refine c_rt rfl rfl rfl cx_pr rfl ?_); refine jS (bts 7 15) ?_; refine jT 0 [4, 5, 6] (bts 7 127) ?_; refine jQ ?_)
    all_goals repeat' (refine jR ?_)
    all_goals refine Nx.base hok hB ?_
    all_goals refine jY (vs := [_, _, _]) ?_
    all_goals rfl
abbrev tBoP : TypeId := 4
abbrev tPfP : TypeId := 108
theorem c_fits {v : V} {c : VC} (h : V.rep G v c) (ht : v.tot ≤ 1000000) : PuG Tryz.prog 25 [Ag (vcF c)] G (· = Bo (decide (v.out.length ≤ 400 ∧ v.deep ≤ 12))) := by
 have cx_pr := c_print (G := G) v.tot (Nat.le_refl _) ht h
 have cx_dp := c_deep (G := G) v.tot (Nat.le_refl _) ht h
 have hdl := deep_tot v
 obtain ⟨w, tx, tg, a, m, kc⟩ := c
 have e0 : vcF ⟨w, tx, tg, a, m, kc⟩ = [U8 (w : Nat), S tx, I tg, .slice a m kc] := rfl
 rw [e0] at cx_pr cx_dp ⊢
 by_cases h1 : v.out.length ≤ 400
 ·by_cases h2 : v.deep ≤ 12
  ·rw [decide_eq_true (p := v.out.length ≤ 400 ∧ v.deep ≤ 12) ⟨h1, h2⟩]
   refine jE [(0, _)] Tryz.func25 Tryz.ntmps25 fun B hB => ?_
   repeat' (first | (refine jR ?_) | (refine jo ?_; first | refine jO fun _ => ?_ | refine jAm rfl ?_ | (refine jAt rfl ?_) | (refine c_rt rfl rfl rfl cx_pr rfl ?_) | (refine c_rt rfl rfl rfl cx_dp rfl ?_)) | (refine k_gt rfl rfl (dTt oM) ?_))
   all_goals refine jY (vs := [_]) ?_
   all_goals (rw [oneOf_one, decide_eq_true oM])
  ·rw [decide_eq_false (p := v.out.length ≤ 400 ∧ v.deep ≤ 12) (fun h => h2 h.2)]
   refine jE [(0, _)] Tryz.func25 Tryz.ntmps25 fun B hB => ?_
   repeat' (first | (refine jR ?_) | (refine jo ?_; first | refine jO fun _ => ?_ | refine jAm rfl ?_ | (refine jAt rfl ?_) | (refine c_rt rfl rfl rfl cx_pr rfl ?_) | (refine c_rt rfl rfl rfl cx_dp rfl ?_)) | (refine k_gt rfl rfl (dTt oM) ?_))
   all_goals refine jY (vs := [_]) ?_
   all_goals (rw [oneOf_one, decide_eq_false oM])
 ·rw [decide_eq_false (p := v.out.length ≤ 400 ∧ v.deep ≤ 12) (fun h => h1 h.1)]
  refine jE [(0, _)] Tryz.func25 Tryz.ntmps25 fun B hB => ?_
  repeat' (first | (refine jR ?_) | (refine jo ?_; first | refine jO fun _ => ?_ | refine jAm rfl ?_ | (refine jAf rfl ?_) | (refine c_rt rfl rfl rfl cx_pr rfl ?_)) | (refine k_gf rfl rfl (dFf oM) ?_))
  all_goals refine jY (vs := [_]) ?_
  all_goals rfl
def putO (bo bd bt bq bx : Nat) (told d : Bool) (pf : Value) (xc : List Value) (a : Option Addr) (k : Nat) (cs : List VC) : List Own :=
 [.acc (.slice a cs.length k) tVal 4 cs.length (rows vcF cs), .blk bd (.cells (List.toArray [Bo d]) tBoP (0, 0)), .blk bt (.cells (List.toArray [Bo told]) tBoP (0, 0)), .blk bo (.cells (List.toArray [U8 82, S [], I 0, .slice a cs.length k]) tVal (0, 0)), .blk bx (.cells xc.toArray tVal (0, 0)), .blk bq (.cells (List.toArray [pf]) tPfP (0, 0))]
theorem perm_in {a : Own} {l r : List Own} : (a :: (l ++ r)).Perm (l ++ a :: r) := List.perm_middle.symm
theorem add_node {G2 : Gh} {y : Nat} {t : Int} {x : V} {dx : VC} {gs : List V} {cs : List VC} (hG2 : Gh.le G G2) (htg : 0 ≤ t ∧ t ≤ 999999) (hx : V.rep G x dx) (hreps : V.reps G gs cs) (hsg : Seg G2 y 0 [U8 (dx.what : Nat), S dx.text, I dx.tag, .slice dx.a dx.n dx.c]) : V.reps G2 (gs ++ [.nd 61 [] t [x]]) (cs ++ [⟨61, [], t, some ⟨y, 0, none⟩, 1, 1⟩]) :=
 reps_snoc (rep_mk dC htg (fun _ => rfl) rfl (cs := [dx]) ⟨rfl, .inr ⟨y, 0, 1, rfl, Nat.le_refl _, hsg⟩⟩ (by rw [V.reps]; exact ⟨dx, [], rfl, rep_mono hG2 hx, by rw [V.reps]⟩)) (reps_mono hG2 hreps)
theorem c_add {bo bd bt bq bx bf of j : Nat} {told d : Bool} {t : Ty} {x : V} {dx : VC} {gs : List V} {cs : List VC} {a : Option Addr} {k : Nat} (hreps : V.reps G gs cs) (hx : V.rep G x dx) (hsf : Seg G bf of (rows fiF t.fields)) (hj : j < t.fields.length) (hgl : gs.length ≤ 1000000) (htg : 0 ≤ (nth t.fields j).tag ∧ (nth t.fields j).tag ≤ 999999) :
  Fn Tryz.prog 121 [Pt bt 0, Pt bd 0, Pt bo 0, Pt bq 0, Pt bx 0] G (putO bo bd bt bq bx told d (Pt bf (of + j * 6)) [U8 (dx.what : Nat), S dx.text, I dx.tag, .slice dx.a dx.n dx.c] a k cs)
   (fun _ G' L' => ∃ cs2 a2 k2, Gh.le G G' ∧ V.reps G' (gs ++ (if told && !d then [.nd 61 [] (nth t.fields j).tag [x]] else [])) cs2 ∧ L' = putO bo bd bt bq bx told true (Pt bf (of + j * 6)) [U8 (dx.what : Nat), S dx.text, I dx.tag, .slice dx.a dx.n dx.c] a2 k2 cs2) := by
 have hcl := reps_len hreps
 unfold putO
 cases told with
 | false =>
  rw [if_neg (by simp), List.append_nil]
  refine jB [(0, _), (1, _), (2, _), (3, _), (4, _)] Tryz.func121 Tryz.ntmps121 fun B hok hB hW => ?_
  repeat' (first | (refine jR ?_) | (refine jo ?_; first | refine jAl rfl ?_ | (refine jAf rfl ?_) | refine jD rfl rfl rfl ?_) | (refine k_gf rfl rfl rfl ?_) | (refine k_ff rfl rfl ?_))
  exact k_re (vs := []) rfl trivial rfl (List.Sublist.refl _) ⟨cs, a, k, Gh.le.refl _, hreps, rfl⟩
 | true =>
  cases d with
  | true =>
   rw [if_neg (by simp), List.append_nil]
   refine jB [(0, _), (1, _), (2, _), (3, _), (4, _)] Tryz.func121 Tryz.ntmps121 fun B hok hB hW => ?_
   repeat' (first | (refine jR ?_) | (refine jo ?_; first | refine jAl rfl ?_ | (refine jAt rfl ?_) | refine jD rfl rfl rfl ?_) | (refine k_gt rfl rfl rfl ?_) | (refine k_ff rfl rfl ?_))
   exact k_re (vs := []) rfl trivial rfl (List.Sublist.refl _) ⟨cs, a, k, Gh.le.refl _, hreps, rfl⟩
  | false =>
   rw [if_pos (by simp)]
   refine jB [(0, _), (1, _), (2, _), (3, _), (4, _)] Tryz.func121 Tryz.ntmps121 fun B hok hB hW => ?_
   repeat' (first | (refine jR ?_) | (refine jo ?_; first | refine jAl rfl ?_ | (refine jAt rfl ?_)) | (refine k_gt rfl rfl rfl ?_) | (refine k_tt rfl rfl ?_))
   (refine k_any (s_any (id := 1) [.blk bx (.cells (List.toArray [U8 (dx.what : Nat), S dx.text, I dx.tag, .slice dx.a dx.n dx.c]) tVal (0, 0)), .blk bq (.cells (List.toArray [Pt bf (of + j * 6)]) tPfP (0, 0))] (by intro y hy; simp only [List.mem_cons, List.not_mem_nil, or_false] at hy ⊢; rcases hy with hy | hy <;> simp [hy]) mixed ?_); refine jW 15 [0] (bts 16 1) ?_; (refine jG (bts 16 5) 2 rfl (g_ld rfl rfl rfl) ?_); refine jW 12 [3, 4] (bts 16 29) ?_; ((refine jG (bts 16 61) 5 rfl (g_ldRF rfl rfl aS ?_ rfl rfl) ?_; (focus ((omega); done)))); (refine jG (bts 16 125) 6 rfl (g_ldA rfl rfl rfl rfl) ?_); refine x_all [1, 7, 10] kR dC ⟨?_, ?_, ?_, trivial⟩; (focus (refine x_opg rfl rfl ?_; (refine jAl rfl ?_); refine jK (bts 16 127) ?_; (refine jG (bts 16 639) 9 rfl (g_lenL rfl) ?_); refine x_all [7, 10] kR dC ⟨?_, ?_, trivial⟩; (focus (refine x_opg rfl rfl ?_; (refine jF fun _ => ?_); refine jK (bts 16 767) ?_; (refine jG (bts 16 1023) 8 rfl (g_bld rfl rfl) ?_); refine jA 10 rfl ?_; (refine jF fun _ => ?_); refine jK (bts 16 2047) ?_; refine jA 11 rfl ?_; ((refine c_apX rfl rfl rfl rfl rfl rfl rfl rfl rfl ?_ fun _ _ => ?_; (focus ((omega); done)))); refine jK (bts 16 4095) ?_; refine jW 3 [14] (bts 16 20479) ?_; ((refine jG (bts 16 24575) 12 rfl (g_iaddrN rfl rfl ?_) ?_; (focus ((omega); done)))); refine x_all [13, 15] kR dC ⟨?_, ?_, trivial⟩; (focus (refine x_opg rfl rfl ?_; ((refine c_stAL rfl rfl rfl rfl rfl rfl rfl rfl inferInstance ?_ ?_; (focus ((rw [rows_len]; omega); done)))); refine jK (bts 16 32767) ?_; refine jA 15 rfl ?_; (refine jD rfl rfl rfl ?_); refine jK (bts 16 65535) ?_; refine jQ ?_)); rotate_left 1; (focus (refine x_opg rfl rfl ?_; (refine jD rfl rfl rfl ?_); refine jK (bts 16 57343) ?_; refine jA 13 rfl ?_; ((refine c_stAL rfl rfl rfl rfl rfl rfl rfl rfl inferInstance ?_ ?_; (focus ((rw [rows_len]; omega); done)))); refine jK (bts 16 65535) ?_; refine jQ ?_)); rotate_left 1)); rotate_left 2; (focus (refine x_opg rfl rfl ?_; (refine jF fun _ => ?_); refine jK (bts 16 1663) ?_; refine jA 7 rfl ?_; (refine jF fun _ => ?_); refine jK (bts 16 1791) ?_; (refine jG (bts 16 2047) 8 rfl (g_bld rfl rfl) ?_); refine jA 11 rfl ?_; ((refine c_apX rfl rfl rfl rfl rfl rfl rfl rfl rfl ?_ fun _ _ => ?_; (focus ((omega); done)))); refine jK (bts 16 4095) ?_; refine jW 3 [14] (bts 16 20479) ?_; ((refine jG (bts 16 24575) 12 rfl (g_iaddrN rfl rfl ?_) ?_; (focus ((omega); done)))); refine x_all [13, 15] kR dC ⟨?_, ?_, trivial⟩; (focus (refine x_opg rfl rfl ?_; ((refine c_stAL rfl rfl rfl rfl rfl rfl rfl rfl inferInstance ?_ ?_; (focus ((rw [rows_len]; omega); done)))); refine jK (bts 16 32767) ?_; refine jA 15 rfl ?_; (refine jD rfl rfl rfl ?_); refine jK (bts 16 65535) ?_; refine jQ ?_)); rotate_left 1; (focus (refine x_opg rfl rfl ?_; (refine jD rfl rfl rfl ?_); refine jK (bts 16 57343) ?_; refine jA 13 rfl ?_; ((refine c_stAL rfl rfl rfl rfl rfl rfl rfl rfl inferInstance ?_ ?_; (focus ((rw [rows_len]; omega); done)))); refine jK (bts 16 65535) ?_; refine jQ ?_)); rotate_left 1)); rotate_left 2)); rotate_left 4; (focus (refine x_opg rfl rfl ?_; (refine jF fun _ => ?_); refine jK (bts 16 253) ?_; (refine jG (bts 16 509) 8 rfl (g_bld rfl rfl) ?_); refine x_all [1, 10] kR dC ⟨?_, ?_, trivial⟩; (focus (refine x_opg rfl rfl ?_; (refine jAl rfl ?_); refine jK (bts 16 511) ?_; (refine jG (bts 16 1023) 9 rfl (g_lenL rfl) ?_); refine jA 10 rfl ?_; (refine jF fun _ => ?_); refine jK (bts 16 2047) ?_; refine jA 11 rfl ?_; ((refine c_apX rfl rfl rfl rfl rfl rfl rfl rfl rfl ?_ fun _ _ => ?_; (focus ((omega); done)))); refine jK (bts 16 4095) ?_; refine jW 3 [14] (bts 16 20479) ?_; ((refine jG (bts 16 24575) 12 rfl (g_iaddrN rfl rfl ?_) ?_; (focus ((omega); done)))); refine x_all [13, 15] kR dC ⟨?_, ?_, trivial⟩; (focus (refine x_opg rfl rfl ?_; ((refine c_stAL rfl rfl rfl rfl rfl rfl rfl rfl inferInstance ?_ ?_; (focus ((rw [rows_len]; omega); done)))); refine jK (bts 16 32767) ?_; refine jA 15 rfl ?_; (refine jD rfl rfl rfl ?_); refine jK (bts 16 65535) ?_; refine jQ ?_)); rotate_left 1; (focus (refine x_opg rfl rfl ?_; (refine jD rfl rfl rfl ?_); refine jK (bts 16 57343) ?_; refine jA 13 rfl ?_; ((refine c_stAL rfl rfl rfl rfl rfl rfl rfl rfl inferInstance ?_ ?_; (focus ((rw [rows_len]; omega); done)))); refine jK (bts 16 65535) ?_; refine jQ ?_)); rotate_left 1)); rotate_left 2; (focus (refine x_opg rfl rfl ?_; (refine jF fun _ => ?_); refine jK (bts 16 1533) ?_; refine jA 1 rfl ?_; (refine jAl rfl ?_); refine jK (bts 16 1535) ?_; (refine jG (bts 16 2047) 9 rfl (g_lenL rfl) ?_); refine jA 11 rfl ?_; ((refine c_apX rfl rfl rfl rfl rfl rfl rfl rfl rfl ?_ fun _ _ => ?_; (focus ((omega); done)))); refine jK (bts 16 4095) ?_; refine jW 3 [14] (bts 16 20479) ?_; ((refine jG (bts 16 24575) 12 rfl (g_iaddrN rfl rfl ?_) ?_; (focus ((omega); done)))); refine x_all [13, 15] kR dC ⟨?_, ?_, trivial⟩; (focus (refine x_opg rfl rfl ?_; ((refine c_stAL rfl rfl rfl rfl rfl rfl rfl rfl inferInstance ?_ ?_; (focus ((rw [rows_len]; omega); done)))); refine jK (bts 16 32767) ?_; refine jA 15 rfl ?_; (refine jD rfl rfl rfl ?_); refine jK (bts 16 65535) ?_; refine jQ ?_)); rotate_left 1; (focus (refine x_opg rfl rfl ?_; (refine jD rfl rfl rfl ?_); refine jK (bts 16 57343) ?_; refine jA 13 rfl ?_; ((refine c_stAL rfl rfl rfl rfl rfl rfl rfl rfl inferInstance ?_ ?_; (focus ((rw [rows_len]; omega); done)))); refine jK (bts 16 65535) ?_; refine jQ ?_)); rotate_left 1)); rotate_left 2)); rotate_left 4; (focus (refine x_opg rfl rfl ?_; (refine jF fun _ => ?_); refine jK (bts 16 1149) ?_; refine x_all [1, 7] kR dC ⟨?_, ?_, trivial⟩; (focus (refine x_opg rfl rfl ?_; (refine jAl rfl ?_); refine jK (bts 16 1151) ?_; (refine jG (bts 16 1663) 9 rfl (g_lenL rfl) ?_); refine jA 7 rfl ?_; (refine jF fun _ => ?_); refine jK (bts 16 1791) ?_; (refine jG (bts 16 2047) 8 rfl (g_bld rfl rfl) ?_); refine jA 11 rfl ?_; ((refine c_apX rfl rfl rfl rfl rfl rfl rfl rfl rfl ?_ fun _ _ => ?_; (focus ((omega); done)))); refine jK (bts 16 4095) ?_; refine jW 3 [14] (bts 16 20479) ?_; ((refine jG (bts 16 24575) 12 rfl (g_iaddrN rfl rfl ?_) ?_; (focus ((omega); done)))); refine x_all [13, 15] kR dC ⟨?_, ?_, trivial⟩; (focus (refine x_opg rfl rfl ?_; ((refine c_stAL rfl rfl rfl rfl rfl rfl rfl rfl inferInstance ?_ ?_; (focus ((rw [rows_len]; omega); done)))); refine jK (bts 16 32767) ?_; refine jA 15 rfl ?_; (refine jD rfl rfl rfl ?_); refine jK (bts 16 65535) ?_; refine jQ ?_)); rotate_left 1; (focus (refine x_opg rfl rfl ?_; (refine jD rfl rfl rfl ?_); refine jK (bts 16 57343) ?_; refine jA 13 rfl ?_; ((refine c_stAL rfl rfl rfl rfl rfl rfl rfl rfl inferInstance ?_ ?_; (focus ((rw [rows_len]; omega); done)))); refine jK (bts 16 65535) ?_; refine jQ ?_)); rotate_left 1)); rotate_left 2; (focus (refine x_opg rfl rfl ?_; (refine jF fun _ => ?_); refine jK (bts 16 1277) ?_; (refine jG (bts 16 1533) 8 rfl (g_bld rfl rfl) ?_); refine jA 1 rfl ?_; (refine jAl rfl ?_); refine jK (bts 16 1535) ?_; (refine jG (bts 16 2047) 9 rfl (g_lenL rfl) ?_); refine jA 11 rfl ?_; ((refine c_apX rfl rfl rfl rfl rfl rfl rfl rfl rfl ?_ fun _ _ => ?_; (focus ((omega); done)))); refine jK (bts 16 4095) ?_; refine jW 3 [14] (bts 16 20479) ?_; ((refine jG (bts 16 24575) 12 rfl (g_iaddrN rfl rfl ?_) ?_; (focus ((omega); done)))); refine x_all [13, 15] kR dC ⟨?_, ?_, trivial⟩; (focus (refine x_opg rfl rfl ?_; ((refine c_stAL rfl rfl rfl rfl rfl rfl rfl rfl inferInstance ?_ ?_; (focus ((rw [rows_len]; omega); done)))); refine jK (bts 16 32767) ?_; refine jA 15 rfl ?_; (refine jD rfl rfl rfl ?_); refine jK (bts 16 65535) ?_; refine jQ ?_)); rotate_left 1; (focus (refine x_opg rfl rfl ?_; (refine jD rfl rfl rfl ?_); refine jK (bts 16 57343) ?_; refine jA 13 rfl ?_; ((refine c_stAL rfl rfl rfl rfl rfl rfl rfl rfl inferInstance ?_ ?_; (focus ((rw [rows_len]; omega); done)))); refine jK (bts 16 65535) ?_; refine jQ ?_)); rotate_left 1)); rotate_left 2)); rotate_left 4)
   all_goals repeat' (first | (refine jR ?_) | (refine jo ?_; (refine jD rfl rfl rfl ?_)))
   all_goals
    rename_i x3 x2 x1 k1
    have hlen : ∀ y : Nat, (cs ++ [(⟨61, [], (nth t.fields j).tag, some ⟨y, 0, none⟩, 1, 1⟩ : VC)]).length = cs.length + 1 := fun y => by simp
    first | (refine Nx.sealC (b := x3) fun G2 hG2 hsg => ?_; refine k_re (vs := []) rfl trivial rfl ?_ ⟨_, some ⟨x1, 0, none⟩, k1, hG2, add_node (y := x3) hG2 htg hx hreps hsg, rfl⟩; rw [hlen, ← (show rows vcF cs ++ [U8 ((61 : Nat) : Int), S [], I (nth t.fields j).tag, .slice (some ⟨x3, 0, none⟩) 1 1] = _ from (rows_snoc vcF cs (⟨61, [], (nth t.fields j).tag, some ⟨x3, 0, none⟩, 1, 1⟩ : VC)).symm)]; repeat (first | exact List.Sublist.refl _ | apply List.Sublist.cons_cons | apply List.Sublist.cons)) | (refine Nx.sealC (b := x2) fun G2 hG2 hsg => ?_; refine k_re (vs := []) rfl trivial rfl ?_ ⟨_, some ⟨x1, 0, none⟩, k1, hG2, add_node (y := x2) hG2 htg hx hreps hsg, rfl⟩; rw [hlen, ← (show rows vcF cs ++ [U8 ((61 : Nat) : Int), S [], I (nth t.fields j).tag, .slice (some ⟨x2, 0, none⟩) 1 1] = _ from (rows_snoc vcF cs (⟨61, [], (nth t.fields j).tag, some ⟨x2, 0, none⟩, 1, 1⟩ : VC)).symm)]; repeat (first | exact List.Sublist.refl _ | apply List.Sublist.cons_cons | apply List.Sublist.cons))
theorem putA_at {α : Type} [Inhabited α] {tg : α → Int} {told : Bool} {node : α} {tag : Int} {l : List α} {i : Nat} (hi : i < l.length) {d : Bool} : putA tg told node tag (l.drop i) d = (if tag ≤ tg (nth l i) ∧ (told && !d) = true then [node] else []) ++ ((if tg (nth l i) = tag then [] else [nth l i]) ++ putA tg told node tag (l.drop (i + 1)) (d || decide (tag ≤ tg (nth l i)))) := by
 rw [List.drop_eq_getElem_cons hi, nth_eq hi, putA]
theorem c_put {b bf of j : Nat} {qs : List TyP} {t : Ty} {fs : List (Fld × V)} {c dx : VC} {x : V} (hS : ScI G b qs) (hw : SchW (tyq qs)) (ht : t ∈ tyq qs) (hso : t.sort = 82) (hsf : Seg G bf of (rows fiF t.fields)) (hj : j < t.fields.length) (hrep : V.rep G (.nd 82 [] 0 (fs.map fldV)) c) (hx : V.rep G x dx) (h9 : fs.length ≤ 90000) (hxt : x.tot ≤ 1000000) (hsr : Srt (fs.map fldV)) :
  FnS Tryz.prog 84 [Pt b 0, Ag (vcF c), Pt bf (of + j * 6), Ag (vcF dx)] G (fun r G' => ∃ c', r = Ag (vcF c') ∧ V.rep G' (.nd 82 [] 0 (putF (tyq qs) (nth t.fields j) x (fs.map fldV))) c') := by
 have hTW := hw.ty t ht
 have hfm : nth t.fields j ∈ t.fields := nth_mem hj
 have htg := (hTW.fld _ hfm).tag
 have hdk : kindIn (tyq qs) (nth t.fields j).kind = true := kind_in hw ht oM hfm
 have cx_of := c_ofI hS hw hsf hj hdk
 have cx_pr := c_print (G := G) (c := dx) x.tot (Nat.le_refl _) hxt hx
 obtain ⟨a, k, cs, rfl, _, _, _, hcl, hsl, hrs⟩ := rep_inv hrep
 have e0 : vcF ⟨82, [], 0, a, (fs.map fldV).length, k⟩ = [U8 (82 : Nat), S [], I 0, .slice a (fs.map fldV).length k] := rfl
 have e1 : vcF dx = [U8 (dx.what : Nat), S dx.text, I dx.tag, .slice dx.a dx.n dx.c] := rfl
 rw [e0]
 rw [e1] at cx_pr ⊢
 have hml : (fs.map fldV).length = fs.length := by simp
 have hnt : ∀ i, i < fs.length → nth (fs.map fldV) i = fldV (nth fs i) := fun i hi => by rw [nth_eq (by simpa using hi), nth_eq hi]; simp
 have hrn : ∀ i, i < fs.length → V.rep G (fldV (nth fs i)) (nth cs i) := fun i hi => by
  have := reps_nth hrs i oM
  rwa [hnt i hi] at this
 obtain ⟨told, htold⟩ : ∃ told, decide (x.out ≠ standF (tyq qs) (nth t.fields j)) = told := ⟨_, rfl⟩
 have hput : putA V.tag told (.nd 61 [] (nth t.fields j).tag [x]) (nth t.fields j).tag (fs.map fldV) false = putF (tyq qs) (nth t.fields j) x (fs.map fldV) := by rw [← htold]; exact putA_eq hsr
 refine jB [(0, _), (1, _), (2, _), (3, _)] Tryz.func84 Tryz.ntmps84 fun B hok hB hW => ?_
 repeat' (first | (refine jR ?_) | (refine jo ?_; first | refine jO fun _ => ?_ | refine jL fun _ => ?_ | refine jV (g_bld rfl rfl) ?_ | refine jD rfl rfl rfl ?_ | refine jC rfl rfl rfl ?_ | refine jAl rfl ?_ | refine jV (g_mkf rfl rfl) ?_ | refine jV (g_lenL rfl) ?_) | (refine k_any (s_any (id := 2) _ (fun _ h => h) mixed ?_); refine jT 7 [2] (bts 8 4) ?_; (refine jG (bts 8 5) 0 rfl (g_ldA rfl rfl rfl rfl) ?_); (refine jG (bts 8 13) 3 rfl (g_ld rfl rfl rfl) ?_); refine x_all [1, 6] kR dC ⟨?_, ?_, trivial⟩; (focus (refine x_opg rfl rfl ?_; (refine c_rt rfl rfl rfl cx_pr rfl ?_); refine jK (bts 8 15) ?_; refine x_all [4, 6] kR dC ⟨?_, ?_, trivial⟩; (focus (refine x_opg rfl rfl ?_; (refine c_rt rfl rfl rfl cx_of rfl ?_); refine jK (bts 8 31) ?_; refine jW 2 [5] (bts 8 63) ?_; refine jA 6 rfl ?_; (refine jL fun _ => ?_); refine jK (bts 8 127) ?_; refine jA 7 rfl ?_; (refine jD rfl rfl rfl ?_); refine jK (bts 8 255) ?_; refine jQ ?_)); rotate_left 1; (focus (refine x_opg rfl rfl ?_; (refine jL fun _ => ?_); refine jK (bts 8 79) ?_; refine jA 4 rfl ?_; (refine c_rt rfl rfl rfl cx_of rfl ?_); refine jK (bts 8 95) ?_; refine jW 1 [5] (bts 8 127) ?_; refine jA 7 rfl ?_; (refine jD rfl rfl rfl ?_); refine jK (bts 8 255) ?_; refine jQ ?_)); rotate_left 1)); rotate_left 2; (focus (refine x_opg rfl rfl ?_; (refine jL fun _ => ?_); refine jK (bts 8 77) ?_; refine jA 1 rfl ?_; (refine c_rt rfl rfl rfl cx_pr rfl ?_); refine jK (bts 8 79) ?_; refine jA 4 rfl ?_; (refine c_rt rfl rfl rfl cx_of rfl ?_); refine jK (bts 8 95) ?_; refine jW 1 [5] (bts 8 127) ?_; refine jA 7 rfl ?_; (refine jD rfl rfl rfl ?_); refine jK (bts 8 255) ?_; refine jQ ?_)); rotate_left 1))
 all_goals
  rw [← hput]
  rename_i y6 y5 y4 y3 y2 y1 y0
  rw [htold]
  refine Nx.addNil tVal 4 (Nx.perm (.cons _ (.cons _ (.cons _ (.cons _ ((List.Perm.swap _ _ _).trans (.cons _ (List.Perm.swap _ _ _))))))) ?_)
  refine k_loop (ι := List V × List VC × Option Addr × Nat × Bool × Nat × Gh) (fun q => (V.reps q.2.2.2.2.2.2 q.1 q.2.1 ∧ Gh.le G q.2.2.2.2.2.2) ∧ (q.2.2.2.2.2.1 ≤ fs.length ∧ q.1.length ≤ 2 * q.2.2.2.2.2.1 + 1) ∧ putA V.tag told (.nd 61 [] (nth t.fields j).tag [x]) (nth t.fields j).tag (fs.map fldV) false = q.1 ++ putA V.tag told (.nd 61 [] (nth t.fields j).tag [x]) (nth t.fields j).tag ((fs.map fldV).drop q.2.2.2.2.2.1) q.2.2.2.2.1) (fun q => [(9, Pt y2 0), (12, .func (.func 121) #[] #[Pt y1 0, Pt y0 0, Pt y2 0, Pt y5 0, Pt y4 0]), (6, Pt y5 0), (24, .slice a (fs.map fldV).length k), (25, I (fs.map fldV).length), (26, I q.2.2.2.2.2.1), (8, Pt y3 0)]) (fun q => q.2.2.2.2.2.2) (fun q => [.acc (.slice q.2.2.1 q.2.1.length q.2.2.2.1) tVal 4 q.2.1.length (rows vcF q.2.1), .blk y0 (.cells (List.toArray [Bo q.2.2.2.2.1]) tBoP (0, 0)), .blk y1 (.cells (List.toArray [Bo told]) tBoP (0, 0)), .blk y2 (.cells (List.toArray [U8 82, S [], I 0, .slice q.2.2.1 q.2.1.length q.2.2.2.1]) tVal (0, 0)), .blk y4 (.cells (List.toArray [U8 (dx.what : Nat), S dx.text, I dx.tag, .slice dx.a dx.n dx.c]) tVal (0, 0)), .blk y5 (.cells (List.toArray [Pt bf (of + j * 6)]) tPfP (0, 0)), .blk y3 (.cells (List.toArray [U8 0, S [], I 0, nilS]) tVal (0, 0))]) (fun q => fs.length - q.2.2.2.2.2.1) ([], [], none, 0, false, 0, G) ?_ tU rfl sB (fun q Hq => ?_)
  ·exact ⟨⟨by rw [V.reps], Gh.le.refl _⟩, ⟨Nat.zero_le _, Nat.zero_le _⟩, rfl⟩
  obtain ⟨gs, cs1, a1, k1, d, i, Gq⟩ := q
  dsimp only at Hq ⊢
  obtain ⟨⟨hreps, hgq⟩, ⟨hi0, hgl⟩, hinv⟩ := Hq
  have hcl1 := reps_len hreps
  have hsf2 := hsf.mono hgq
  by_cases hi : i < fs.length
  ·have hpa := putA_at (tg := V.tag) (told := told) (node := .nd 61 [] (nth t.fields j).tag [x]) (tag := (nth t.fields j).tag) (l := fs.map fldV) (i := i) oM (d := d)
   rw [hnt i hi, show (fldV (nth fs i)).tag = (nth fs i).1.tag from rfl] at hpa
   rw [hpa] at hinv
   clear hpa
   obtain ⟨xb, xo, xc, e, hsx⟩ := (hsl.mono hgq).expl oM
   simp only [Value.slice.injEq] at e
   obtain ⟨rfl, -, rfl⟩ := e
   have hri := rep_mono hgq (hrn i hi)
   obtain ⟨ai, ki, csi, hci, _, _, _, hcli, hsli, hrsi⟩ := rep_inv hri
   have hci : nth cs i = ⟨61, [], (nth fs i).1.tag, ai, 1, ki⟩ := hci
   by_cases hge : (nth t.fields j).tag ≤ (nth fs i).1.tag
   ·rw [decide_eq_true hge] at hinv
    simp only [hge, true_and, Bool.or_true] at hinv
    repeat' (first | (refine jR ?_) | (refine jo ?_; first | refine jL fun _ => ?_ | refine jC rfl rfl rfl ?_ | (refine jV (g_ldRx rfl rfl aS ?_ aS) ?_; (focus ((omega); done))) | (refine jV (g_iaddrN rfl rfl oM) ?_)) | (refine k_tt rfl (dTt oM) ?_))
    dsimp only [VC.sl]
    rename_i yz
    (refine k_any (s_any (id := 8) _ (fun _ h => h) mixed ?_); refine jT 6 [0] (bts 7 1) ?_; (refine jG (bts 7 3) 1 rfl (g_ld rfl rfl rfl) ?_); (refine jG (bts 7 7) 2 rfl (g_ld rfl rfl rfl) ?_); refine jT 2 [3, 4] (bts 7 31) ?_; ((refine jG (bts 7 63) 5 rfl (g_ldRF rfl rfl aS ?_ rfl rfl) ?_; (focus ((omega); done)))); refine jT 0 [6] (bts 7 127) ?_; refine jQ ?_)
    repeat' (first | (refine jR ?_) | (refine k_tt rfl (dTt ‹_›) ?_))
    refine jo ?_
    refine c_call (vs := [Pt y1 0, Pt y0 0, Pt y2 0, Pt y5 0, Pt y4 0]) (Lp := putO y2 y0 y1 y5 y4 told d (Pt bf (of + j * 6)) [U8 (dx.what : Nat), S dx.text, I dx.tag, .slice dx.a dx.n dx.c] a1 k1 cs1) (R := [_, _]) rfl rfl rfl (c_add hreps (rep_mono hgq hx) hsf2 hj oM ⟨oM, oM⟩) (perm_in (l := putO y2 y0 y1 y5 y4 told d (Pt bf (of + j * 6)) [U8 (dx.what : Nat), S dx.text, I dx.tag, .slice dx.a dx.n dx.c] a1 k1 cs1) (r := [_])) rfl ?_
    rintro r3 G3 L3 ⟨cs2, a2, k2, hle, hr2, rfl⟩
    simp only [putO, List.cons_append, List.nil_append]
    have hcl2 := reps_len hr2
    have hl2 : cs2.length ≤ cs1.length + 1 := by rw [hcl2, hcl1, List.length_append]; split <;> simp
    have hsf3 := hsf2.mono hle
    by_cases heq : (nth fs i).1.tag = (nth t.fields j).tag
    ·rw [if_pos heq, List.nil_append, ← List.append_assoc] at hinv
     repeat' (refine jR ?_)
     (refine k_any (s_any (id := 10) _ (fun _ h => h) mixed ?_); refine jT 6 [0] (bts 7 1) ?_; (refine jG (bts 7 3) 1 rfl (g_ld rfl rfl rfl) ?_); (refine jG (bts 7 7) 2 rfl (g_ld rfl rfl rfl) ?_); refine jT 2 [3, 4] (bts 7 31) ?_; ((refine jG (bts 7 63) 5 rfl (g_ldRF rfl rfl aS ?_ rfl rfl) ?_; (focus ((omega); done)))); refine jT 0 [6] (bts 7 127) ?_; refine jQ ?_)
     repeat' (first | refine jM ?_ | (refine k_ff rfl (dFf oM) ?_))
     exact k_rd (_, cs2, a2, k2, true, i + 1, G3) ⟨⟨hr2, hgq.trans hle⟩, ⟨by dsimp only; omega, by dsimp only; split <;> simp <;> omega⟩, hinv⟩ (by dsimp only; omega) tU rfl sB
    ·rw [if_neg heq, ← List.append_assoc, ← List.append_assoc] at hinv
     repeat' (refine jR ?_)
     (refine k_any (s_any (id := 10) _ (fun _ h => h) mixed ?_); refine jT 6 [0] (bts 7 1) ?_; (refine jG (bts 7 3) 1 rfl (g_ld rfl rfl rfl) ?_); (refine jG (bts 7 7) 2 rfl (g_ld rfl rfl rfl) ?_); refine jT 2 [3, 4] (bts 7 31) ?_; ((refine jG (bts 7 63) 5 rfl (g_ldRF rfl rfl aS ?_ rfl rfl) ?_; (focus ((omega); done)))); refine jT 0 [6] (bts 7 127) ?_; refine jQ ?_)
     repeat' (first | (refine jR ?_) | (refine k_tt rfl (dTt ‹_›) ?_))
     (refine k_any (s_any (id := 11) [.blk yz (.cells (List.toArray [U8 (61 : Nat), S [], I (nth fs i).1.tag, .slice ai 1 ki]) tVal (0, 0))] (by intro y hy; simp only [List.mem_cons, List.not_mem_nil, or_false] at hy ⊢; simp [hy]) mixed ?_); refine jW 9 [0] (bts 10 1) ?_; (refine jG (bts 10 5) 2 rfl (g_ldA rfl rfl rfl rfl) ?_); refine x_all [1, 4] kR dC ⟨?_, ?_, trivial⟩; (focus (refine x_opg rfl rfl ?_; (refine jAl rfl ?_); refine jK (bts 10 7) ?_; (refine jG (bts 10 15) 3 rfl (g_lenL rfl) ?_); refine jA 4 rfl ?_; (refine jF fun _ => ?_); refine jK (bts 10 31) ?_; refine jA 5 rfl ?_; ((refine c_apX rfl rfl rfl rfl rfl rfl rfl rfl rfl ?_ fun _ _ => ?_; (focus ((omega); done)))); refine jK (bts 10 63) ?_; refine jW 3 [8] (bts 10 319) ?_; ((refine jG (bts 10 383) 6 rfl (g_iaddrN rfl rfl ?_) ?_; (focus ((omega); done)))); refine x_all [7, 9] kR dC ⟨?_, ?_, trivial⟩; (focus (refine x_opg rfl rfl ?_; ((refine c_stAL rfl rfl rfl rfl rfl rfl rfl rfl inferInstance ?_ ?_; (focus ((rw [rows_len]; omega); done)))); refine jK (bts 10 511) ?_; refine jA 9 rfl ?_; (refine jD rfl rfl rfl ?_); refine jK (bts 10 1023) ?_; refine jQ ?_)); rotate_left 1; (focus (refine x_opg rfl rfl ?_; (refine jD rfl rfl rfl ?_); refine jK (bts 10 895) ?_; refine jA 7 rfl ?_; ((refine c_stAL rfl rfl rfl rfl rfl rfl rfl rfl inferInstance ?_ ?_; (focus ((rw [rows_len]; omega); done)))); refine jK (bts 10 1023) ?_; refine jQ ?_)); rotate_left 1)); rotate_left 2; (focus (refine x_opg rfl rfl ?_; (refine jF fun _ => ?_); refine jK (bts 10 21) ?_; refine jA 1 rfl ?_; (refine jAl rfl ?_); refine jK (bts 10 23) ?_; (refine jG (bts 10 31) 3 rfl (g_lenL rfl) ?_); refine jA 5 rfl ?_; ((refine c_apX rfl rfl rfl rfl rfl rfl rfl rfl rfl ?_ fun _ _ => ?_; (focus ((omega); done)))); refine jK (bts 10 63) ?_; refine jW 3 [8] (bts 10 319) ?_; ((refine jG (bts 10 383) 6 rfl (g_iaddrN rfl rfl ?_) ?_; (focus ((omega); done)))); refine x_all [7, 9] kR dC ⟨?_, ?_, trivial⟩; (focus (refine x_opg rfl rfl ?_; ((refine c_stAL rfl rfl rfl rfl rfl rfl rfl rfl inferInstance ?_ ?_; (focus ((rw [rows_len]; omega); done)))); refine jK (bts 10 511) ?_; refine jA 9 rfl ?_; (refine jD rfl rfl rfl ?_); refine jK (bts 10 1023) ?_; refine jQ ?_)); rotate_left 1; (focus (refine x_opg rfl rfl ?_; (refine jD rfl rfl rfl ?_); refine jK (bts 10 895) ?_; refine jA 7 rfl ?_; ((refine c_stAL rfl rfl rfl rfl rfl rfl rfl rfl inferInstance ?_ ?_; (focus ((rw [rows_len]; omega); done)))); refine jK (bts 10 1023) ?_; refine jQ ?_)); rotate_left 1)); rotate_left 2)
     all_goals repeat' (refine jM ?_)
     all_goals
      rename_i _ z1 zc
      rw [show rows vcF cs2 ++ [U8 (61 : Nat), S [], I (nth fs i).1.tag, .slice ai 1 ki] = rows vcF (cs2 ++ [⟨61, [], (nth fs i).1.tag, ai, 1, ki⟩]) from (rows_snoc vcF cs2 (⟨61, [], (nth fs i).1.tag, ai, 1, ki⟩ : VC)).symm, ← show (cs2 ++ [(⟨61, [], (nth fs i).1.tag, ai, 1, ki⟩ : VC)]).length = cs2.length + 1 by simp]
      exact k_rd (_, cs2 ++ [⟨61, [], (nth fs i).1.tag, ai, 1, ki⟩], some ⟨z1, 0, none⟩, zc, true, i + 1, G3) ⟨⟨reps_snoc (hci ▸ rep_mono hle hri) hr2, hgq.trans hle⟩, ⟨by dsimp only; omega, by dsimp only; simp only [List.length_append, List.length_cons, List.length_nil]; split <;> simp <;> omega⟩, hinv⟩ (by dsimp only; omega) tU rfl sB
   ·have heq : ¬ (nth fs i).1.tag = (nth t.fields j).tag := oM
    rw [decide_eq_false hge, if_neg (fun h => hge h.1), if_neg heq, Bool.or_false, List.nil_append, ← List.append_assoc] at hinv
    repeat' (first | (refine jR ?_) | (refine jo ?_; first | refine jL fun _ => ?_ | refine jC rfl rfl rfl ?_ | (refine jV (g_ldRx rfl rfl aS ?_ aS) ?_; (focus ((omega); done))) | (refine jV (g_iaddrN rfl rfl oM) ?_)) | (refine k_tt rfl (dTt oM) ?_))
    dsimp only [VC.sl]
    rename_i yz
    (refine k_any (s_any (id := 8) _ (fun _ h => h) mixed ?_); refine jT 6 [0] (bts 7 1) ?_; (refine jG (bts 7 3) 1 rfl (g_ld rfl rfl rfl) ?_); (refine jG (bts 7 7) 2 rfl (g_ld rfl rfl rfl) ?_); refine jT 2 [3, 4] (bts 7 31) ?_; ((refine jG (bts 7 63) 5 rfl (g_ldRF rfl rfl aS ?_ rfl rfl) ?_; (focus ((omega); done)))); refine jT 0 [6] (bts 7 127) ?_; refine jQ ?_)
    repeat' (first | (refine jR ?_) | (refine k_ff rfl (dFf ‹_›) ?_))
    (refine k_any (s_any (id := 10) _ (fun _ h => h) mixed ?_); refine jT 6 [0] (bts 7 1) ?_; (refine jG (bts 7 3) 1 rfl (g_ld rfl rfl rfl) ?_); (refine jG (bts 7 7) 2 rfl (g_ld rfl rfl rfl) ?_); refine jT 2 [3, 4] (bts 7 31) ?_; ((refine jG (bts 7 63) 5 rfl (g_ldRF rfl rfl aS ?_ rfl rfl) ?_; (focus ((omega); done)))); refine jT 0 [6] (bts 7 127) ?_; refine jQ ?_)
    repeat' (first | (refine jR ?_) | (refine k_tt rfl (dTt ‹_›) ?_))
    (refine k_any (s_any (id := 11) [.blk yz (.cells (List.toArray [U8 (61 : Nat), S [], I (nth fs i).1.tag, .slice ai 1 ki]) tVal (0, 0))] (by intro y hy; simp only [List.mem_cons, List.not_mem_nil, or_false] at hy ⊢; simp [hy]) mixed ?_); refine jW 9 [0] (bts 10 1) ?_; (refine jG (bts 10 5) 2 rfl (g_ldA rfl rfl rfl rfl) ?_); refine x_all [1, 4] kR dC ⟨?_, ?_, trivial⟩; (focus (refine x_opg rfl rfl ?_; (refine jAl rfl ?_); refine jK (bts 10 7) ?_; (refine jG (bts 10 15) 3 rfl (g_lenL rfl) ?_); refine jA 4 rfl ?_; (refine jF fun _ => ?_); refine jK (bts 10 31) ?_; refine jA 5 rfl ?_; ((refine c_apX rfl rfl rfl rfl rfl rfl rfl rfl rfl ?_ fun _ _ => ?_; (focus ((omega); done)))); refine jK (bts 10 63) ?_; refine jW 3 [8] (bts 10 319) ?_; ((refine jG (bts 10 383) 6 rfl (g_iaddrN rfl rfl ?_) ?_; (focus ((omega); done)))); refine x_all [7, 9] kR dC ⟨?_, ?_, trivial⟩; (focus (refine x_opg rfl rfl ?_; ((refine c_stAL rfl rfl rfl rfl rfl rfl rfl rfl inferInstance ?_ ?_; (focus ((rw [rows_len]; omega); done)))); refine jK (bts 10 511) ?_; refine jA 9 rfl ?_; (refine jD rfl rfl rfl ?_); refine jK (bts 10 1023) ?_; refine jQ ?_)); rotate_left 1; (focus (refine x_opg rfl rfl ?_; (refine jD rfl rfl rfl ?_); refine jK (bts 10 895) ?_; refine jA 7 rfl ?_; ((refine c_stAL rfl rfl rfl rfl rfl rfl rfl rfl inferInstance ?_ ?_; (focus ((rw [rows_len]; omega); done)))); refine jK (bts 10 1023) ?_; refine jQ ?_)); rotate_left 1)); rotate_left 2; (focus (refine x_opg rfl rfl ?_; (refine jF fun _ => ?_); refine jK (bts 10 21) ?_; refine jA 1 rfl ?_; (refine jAl rfl ?_); refine jK (bts 10 23) ?_; (refine jG (bts 10 31) 3 rfl (g_lenL rfl) ?_); refine jA 5 rfl ?_; ((refine c_apX rfl rfl rfl rfl rfl rfl rfl rfl rfl ?_ fun _ _ => ?_; (focus ((omega); done)))); refine jK (bts 10 63) ?_; refine jW 3 [8] (bts 10 319) ?_; ((refine jG (bts 10 383) 6 rfl (g_iaddrN rfl rfl ?_) ?_; (focus ((omega); done)))); refine x_all [7, 9] kR dC ⟨?_, ?_, trivial⟩; (focus (refine x_opg rfl rfl ?_; ((refine c_stAL rfl rfl rfl rfl rfl rfl rfl rfl inferInstance ?_ ?_; (focus ((rw [rows_len]; omega); done)))); refine jK (bts 10 511) ?_; refine jA 9 rfl ?_; (refine jD rfl rfl rfl ?_); refine jK (bts 10 1023) ?_; refine jQ ?_)); rotate_left 1; (focus (refine x_opg rfl rfl ?_; (refine jD rfl rfl rfl ?_); refine jK (bts 10 895) ?_; refine jA 7 rfl ?_; ((refine c_stAL rfl rfl rfl rfl rfl rfl rfl rfl inferInstance ?_ ?_; (focus ((rw [rows_len]; omega); done)))); refine jK (bts 10 1023) ?_; refine jQ ?_)); rotate_left 1)); rotate_left 2)
    all_goals repeat' (refine jM ?_)
    all_goals
     rename_i _ z1 zc
     rw [show rows vcF cs1 ++ [U8 (61 : Nat), S [], I (nth fs i).1.tag, .slice ai 1 ki] = rows vcF (cs1 ++ [⟨61, [], (nth fs i).1.tag, ai, 1, ki⟩]) from (rows_snoc vcF cs1 (⟨61, [], (nth fs i).1.tag, ai, 1, ki⟩ : VC)).symm, ← show (cs1 ++ [(⟨61, [], (nth fs i).1.tag, ai, 1, ki⟩ : VC)]).length = cs1.length + 1 by simp]
     exact k_rd (_, cs1 ++ [⟨61, [], (nth fs i).1.tag, ai, 1, ki⟩], some ⟨z1, 0, none⟩, zc, d, i + 1, Gq) ⟨⟨reps_snoc (hci ▸ hri) hreps, hgq⟩, ⟨by dsimp only; omega, by dsimp only; simp only [List.length_append, List.length_cons, List.length_nil]; omega⟩, hinv⟩ (by dsimp only; omega) tU rfl sB
  ·rw [List.drop_eq_nil_of_le oM, putA] at hinv
   repeat' (first | (refine jR ?_) | (refine k_ff rfl (dFf oM) ?_))
   refine jo ?_
   refine c_call (vs := [Pt y1 0, Pt y0 0, Pt y2 0, Pt y5 0, Pt y4 0]) (Lp := putO y2 y0 y1 y5 y4 told d (Pt bf (of + j * 6)) [U8 (dx.what : Nat), S dx.text, I dx.tag, .slice dx.a dx.n dx.c] a1 k1 cs1) (R := [_]) rfl rfl rfl (c_add hreps (rep_mono hgq hx) hsf2 hj oM ⟨oM, oM⟩) (List.Perm.refl _) rfl ?_
   rintro r3 G3 L3 ⟨cs2, a2, k2, hle, hr2, rfl⟩
   simp only [putO, List.cons_append, List.nil_append]
   have hcl2 := reps_len hr2
   repeat' (first | (refine jR ?_) | (refine jo ?_; first | refine jC rfl rfl rfl ?_ | refine jAm rfl ?_))
   refine Nx.sealS (v := .slice a2 cs2.length k2) fun G5 hG5 hsl5 => ?_
   refine jZ (vs := [_]) rfl ⟨rc_A rfl rfl rfl rfl, trivial⟩ rfl ⟨((hgq.trans hle).trans hG5), rfl, ?_⟩
   exact ⟨⟨82, [], 0, a2, cs2.length, k2⟩, rfl, by rw [hinv]; exact rep_mk dC dC (fun h => absurd h dC) hcl2 hsl5 (reps_mono hG5 hr2)⟩
end Go.E
namespace Go.E
set_option maxRecDepth 20000
set_option maxHeartbeats 2000000
open Go.Proofs
variable {G : Gh}
theorem cut_intsI {b o c : Nat} {n : Int} {p : List Int} (h : SlV G (.slice (some ⟨b, o, none⟩) (n :: p).length c) 1 (n :: p).length (rows inR (n :: p))) : SlV G (.slice (some ⟨b, slO o c (Int.toNat 1) 1, none⟩) ((n :: p).length - Int.toNat 1) (c - Int.toNat 1)) 1 p.length (rows inR p) := by
 have h1 := h.cutAt (m := Int.toNat 1) (by show 1 ≤ p.length + 1; omega)
 exact h1
section
variable {qs : List TyP} {k k1 : List UInt8} {v1 z : V} {n : Int} {p : List Int} {b pb po pc : Nat} {c dy : VC}
theorem c_chRec {fs : List (Fld × V)} {t : Ty} {f : Fld} (hS : ScI G b qs) (hw : SchW (tyq qs)) (hki : kindIn (tyq qs) k = true) (hrf : refT (tyq qs) k = some t) (hso : t.sort = 82) (hg : fldT t.fields n = some f) (hk1 : k1 = f.kind) (hsr : Srt (fs.map fldV)) (hfs : fs.length ≤ 90000) (hn : 0 ≤ n ∧ n ≤ 999999) (hp : SlV G (.slice (some ⟨pb, po, none⟩) (n :: p).length pc) 1 (n :: p).length (rows inR (n :: p)))
  (hr : V.rep G (.nd 82 [] 0 (fs.map fldV)) c) (hpl : p.length ≤ 100) (hzt : z.tot ≤ 1000000)
  (cx_sty : FnS Tryz.prog 81 [Pt b 0, Ag (kdF k), Ag (vcF c), I n] G (fun r G' => ∃ c', r = Tu [Ag [S (sg k1), S (bs k1), S (nm k1)], Ag (vcF c'), Bo true] ∧ V.rep G' v1 c'))
  (ihz : ∀ {G2 : Gh} {c1 : VC}, Gh.le G G2 → V.rep G2 v1 c1 → FnS Tryz.prog 41 [Pt b 0, Ag (kdF k1), Ag (vcF c1), .slice (some ⟨pb, slO po pc (Int.toNat 1) 1, none⟩) ((n :: p).length - Int.toNat 1) (pc - Int.toNat 1), Ag (vcF dy)] G2 (fun r G' => ∃ c', r = Ag (vcF c') ∧ V.rep G' z c')) :
  FnS Tryz.prog 41 [Pt b 0, Ag (kdF k), Ag (vcF c), .slice (some ⟨pb, po, none⟩) (n :: p).length pc, Ag (vcF dy)] G (fun r G' => ∃ c', r = Ag (vcF c') ∧ V.rep G' (.nd 82 [] 0 (putF (tyq qs) f z (fs.map fldV))) c') := by
 obtain ⟨G0, rfl⟩ : ∃ G0, G0 = G := ⟨G, rfl⟩
 have hg0 : Gh.le G0 G0 := Gh.le.refl _
 obtain ⟨a, kc, cs, rfl, _, _, _, hcl, hsl, hrs⟩ := rep_inv hr
 have e0 : vcF ⟨82, [], 0, a, (fs.map fldV).length, kc⟩ = [U8 (82 : Nat), S [], I 0, .slice a (fs.map fldV).length kc] := rfl
 have e1 : vcF dy = [U8 (dy.what : Nat), S dy.text, I dy.tag, .slice dy.a dy.n dy.c] := rfl
 have hpl0 : (n :: p).length = p.length + 1 := rfl
 have hti : nth (n :: p) (Int.toNat 0) = n := rfl
 have hsx : Seg G0 pb po (rows inR (n :: p)) := by
  obtain ⟨b', o', c', e', hs'⟩ := hp.expl (by simp)
  simp only [Value.slice.injEq, Option.some.injEq, Addr.mk.injEq] at e'
  obtain ⟨⟨rfl, rfl, _⟩, _, rfl⟩ := e'
  exact hs'
 obtain ⟨hkd, p0, hfq, hqm⟩ := kind_typ hki hrf
 have htm := refT_mem hrf
 have hTW := hw.ty t htm
 have hfl := hTW.len
 obtain ⟨j, hj, hjf, hjn, hjx⟩ := fldT_some hg
 subst hjx
 rw [hkd, e0] at cx_sty ⊢
 rw [e1]
 refine jB [(0, _), (1, _), (2, _), (3, _), (4, _)] Tryz.func41 Tryz.ntmps41 fun B hok hB hW => ?_
 repeat' (first | (refine jR ?_) | (refine jo ?_; first | refine jO fun _ => ?_ | refine jL fun _ => ?_ | refine jV (g_lenL rfl) ?_ | (refine jV (g_ldRFx rfl rfl aS ?_ aS rfl rfl) ?_; (focus ((omega); done))) | refine jAm rfl ?_ | refine jC rfl rfl rfl ?_ | (refine jV (g_iaddr rfl rfl oM) ?_) | (refine c_fns rfl rfl rfl cx_sty rfl ?_; rintro _ G hle ⟨cv, rfl, hrv⟩; (have hg0 := hg0.trans hle); (have hS := hS.mono hle); (have hr := rep_mono hle hr); (try have hrv := rep_mono hle hrv); (try have hrz := rep_mono hle hrz))) | (refine k_ff rfl rfl ?_))
 rename_i y6 y7 y9 y10 y12 y13
 dsimp only [VC.sl]
 have cx_ch := ihz hg0 hrv
 unfold kdF at cx_ch
 rw [show vcF cv = [U8 (cv.what : Nat), S cv.text, I cv.tag, .slice cv.a cv.n cv.c] from rfl, e1] at cx_ch
 (refine k_any (s_any (id := 5) _ (fun _ h => h) mixed ?_); refine jT 7 [0, 3] (bts 9 9) ?_; (refine jG (bts 9 11) 1 rfl (g_ldA rfl rfl rfl rfl) ?_); (refine jG (bts 9 15) 2 rfl (g_ldA rfl rfl rfl rfl) ?_); (refine jG (bts 9 31) 4 rfl (g_slV rfl rfl oM) ?_); (refine jG (bts 9 63) 5 rfl (g_ldA rfl rfl rfl rfl) ?_); refine x_all [6, 7] kR dC ⟨?_, ?_, trivial⟩; (focus (refine x_opg rfl rfl ?_; (refine c_fns rfl rfl rfl cx_ch rfl ?_; rintro _ G hle ⟨cz, rfl, hrz⟩; (have hg0 := hg0.trans hle); (have hS := hS.mono hle); (have hr := rep_mono hle hr); (try have hrv := rep_mono hle hrv); (try have hrz := rep_mono hle hrz)); refine jK (bts 9 127) ?_; refine jA 7 rfl ?_; (refine jL fun _ => ?_); refine jK (bts 9 255) ?_; refine jA 8 rfl ?_; (refine jC rfl rfl rfl ?_); refine jK (bts 9 511) ?_; refine jQ ?_)); rotate_left 1; (focus (refine x_opg rfl rfl ?_; (refine jL fun _ => ?_); refine jK (bts 9 191) ?_; refine jA 6 rfl ?_; (refine c_fns rfl rfl rfl cx_ch rfl ?_; rintro _ G hle ⟨cz, rfl, hrz⟩; (have hg0 := hg0.trans hle); (have hS := hS.mono hle); (have hr := rep_mono hle hr); (try have hrv := rep_mono hle hrv); (try have hrz := rep_mono hle hrz)); refine jK (bts 9 255) ?_; refine jA 8 rfl ?_; (refine jC rfl rfl rfl ?_); refine jK (bts 9 511) ?_; refine jQ ?_)); rotate_left 1)
 all_goals
  dsimp only [VC.sl]
  obtain ⟨fv, ln, hsg, hfv⟩ := hS.ty _ hqm
  dsimp only at hsg hfv
  have hkv := kvF_find qs (nm k)
  rw [hfq] at hkv
  dsimp only [Option.map_some] at hkv
  obtain ⟨u, m, g1, g2, g3⟩ := hS.at'
  obtain ⟨bf, of, cf, rfl, hsf⟩ := hfv.expl oM
  have cx_fld := c_fieldI1 hsg hsf oM hj hjf hjn
  have cx_put := c_put hS hw htm hso hsf hj hr hrz hfs oM hsr
  rw [e0, show vcF cz = [U8 (cz.what : Nat), S cz.text, I cz.tag, .slice cz.a cz.n cz.c] from rfl] at cx_put
  repeat' (first | (refine jR ?_) | (refine jo ?_; (refine jAl rfl ?_)) | (refine k_tt rfl rfl ?_))
  (refine k_any (s_anyD (id := 7) (tt := 10) rfl mixed ?_); refine jW 8 [0, 2, 3, 4, 6, 9] (bts 14 605) ?_; (refine jG (bts 14 607) 1 rfl (g_ldA rfl rfl rfl rfl) ?_); (refine jG (bts 14 639) 5 rfl (g_ldS rfl rfl aS rfl rfl) ?_); (refine jG (bts 14 767) 7 rfl (g_ld rfl rfl rfl) ?_); ((refine jG (bts 14 1023) 8 rfl (g_lookupX rfl rfl (map_G aS) aS rfl) ?_)); (refine jG (bts 14 3071) 11 rfl (g_ldA rfl rfl rfl rfl) ?_); refine jA 10 rfl ?_; (refine c_rt rfl rfl rfl cx_fld rfl ?_); refine jK (bts 14 4095) ?_; refine jA 12 rfl ?_; (refine c_fns rfl rfl rfl cx_put rfl ?_; rintro _ G hle ⟨cz, rfl, hrz⟩; (have hg0 := hg0.trans hle); (have hS := hS.mono hle); (have hr := rep_mono hle hr); (try have hrv := rep_mono hle hrv); (try have hrz := rep_mono hle hrz)); refine jK (bts 14 8191) ?_; refine jA 13 rfl ?_; (refine jC rfl rfl rfl ?_); refine jK (bts 14 16383) ?_; refine jQ ?_)
  all_goals repeat' (refine jR ?_)
  all_goals refine jZ (vs := [_]) rfl ⟨rc_A rfl rfl rfl rfl, trivial⟩ rfl ⟨hg0, rfl, ?_⟩
  all_goals exact ⟨cz, rfl, hrz⟩
theorem reps_set {i : Nat} : ∀ {ks : List V} {cs : List VC} {j : Nat}, V.reps G ks cs → ∀ {z : V} {cz : VC}, V.rep G z cz → V.reps G (ks.set j z) (cs.set j cz)
 | [], cs, j, h, z, cz, hz => by rw [V.reps] at h; subst h; exact (by rw [List.set_nil, List.set_nil, V.reps])
 | v :: r, cs, 0, h, z, cz, hz => by
  rw [V.reps] at h
  obtain ⟨c, cs', rfl, h1, h2⟩ := h
  rw [List.set_cons_zero, List.set_cons_zero, V.reps]
  exact ⟨cz, cs', rfl, hz, h2⟩
 | v :: r, cs, j + 1, h, z, cz, hz => by
  rw [V.reps] at h
  obtain ⟨c, cs', rfl, h1, h2⟩ := h
  rw [List.set_cons_succ, List.set_cons_succ, V.reps]
  exact ⟨c, _, rfl, h1, reps_set (i := i) h2 hz⟩
theorem all1_vcF : ∀ cs : List VC, all1 (rows vcF cs) = true
 | [] => rfl
 | c :: cs => by rw [rows_cons, all1_append, all1_vcF cs]; rfl
theorem c_chKid {w0 i : Nat} {tg : Int} {ks : List V} (hw0 : (w0 = 91 ∧ i = n.toNat) ∨ ((w0 = 63 ∨ w0 = 85) ∧ i = 0)) (hi : i < ks.length) (hkl : ks.length ≤ 1000000) (hn : 0 ≤ n ∧ n ≤ 999999) (hp : SlV G (.slice (some ⟨pb, po, none⟩) (n :: p).length pc) 1 (n :: p).length (rows inR (n :: p)))
  (hr : V.rep G (.nd w0 [] tg ks) c) (hpl : p.length ≤ 100)
  (cx_sty : FnS Tryz.prog 81 [Pt b 0, Ag (kdF k), Ag (vcF c), I n] G (fun r G' => ∃ c', r = Tu [Ag [S (sg k1), S (bs k1), S (nm k1)], Ag (vcF c'), Bo true] ∧ V.rep G' v1 c'))
  (ihz : ∀ {G2 : Gh} {c1 : VC}, Gh.le G G2 → V.rep G2 v1 c1 → FnS Tryz.prog 41 [Pt b 0, Ag (kdF k1), Ag (vcF c1), .slice (some ⟨pb, slO po pc (Int.toNat 1) 1, none⟩) ((n :: p).length - Int.toNat 1) (pc - Int.toNat 1), Ag (vcF dy)] G2 (fun r G' => ∃ c', r = Ag (vcF c') ∧ V.rep G' z c')) :
  FnS Tryz.prog 41 [Pt b 0, Ag (kdF k), Ag (vcF c), .slice (some ⟨pb, po, none⟩) (n :: p).length pc, Ag (vcF dy)] G (fun r G' => ∃ c', r = Ag (vcF c') ∧ V.rep G' (.nd w0 [] tg (ks.set i z)) c') := by
 obtain ⟨G0, rfl⟩ : ∃ G0, G0 = G := ⟨G, rfl⟩
 have hg0 : Gh.le G0 G0 := Gh.le.refl _
 obtain ⟨a, kc, cs, rfl, hw255, htg, h61, hcl, hsl, hrs⟩ := rep_inv hr
 have e0 : vcF ⟨w0, [], tg, a, ks.length, kc⟩ = [U8 (w0 : Nat), S [], I tg, .slice a ks.length kc] := rfl
 have e1 : vcF dy = [U8 (dy.what : Nat), S dy.text, I dy.tag, .slice dy.a dy.n dy.c] := rfl
 have hpl0 : (n :: p).length = p.length + 1 := rfl
 have hti : nth (n :: p) (Int.toNat 0) = n := rfl
 have hsx : Seg G0 pb po (rows inR (n :: p)) := by
  obtain ⟨b', o', c', e', hs'⟩ := hp.expl (by simp)
  simp only [Value.slice.injEq, Option.some.injEq, Addr.mk.injEq] at e'
  obtain ⟨⟨rfl, rfl, _⟩, _, rfl⟩ := e'
  exact hs'
 rw [hcl] at hsl
 have hal := all1_vcF cs
 have e2 : kdF k = [S (sg k), S (bs k), S (nm k)] := rfl
 rw [e0, e2] at cx_sty ⊢
 rw [e1]
 rcases hw0 with ⟨rfl, hie⟩ | ⟨rfl | rfl, hie⟩
 all_goals
  refine jB [(0, _), (1, _), (2, _), (3, _), (4, _)] Tryz.func41 Tryz.ntmps41 fun B hok hB hW => ?_
  repeat' (first | (refine jR ?_) | (refine jo ?_; first | refine jO fun _ => ?_ | refine jL fun _ => ?_ | refine jV (g_lenL rfl) ?_ | (refine jV (g_ldRFx rfl rfl aS ?_ aS rfl rfl) ?_; (focus ((omega); done))) | refine jAm rfl ?_ | refine jC rfl rfl rfl ?_ | (refine jV (g_iaddr rfl rfl oM) ?_) | (refine c_fns rfl rfl rfl cx_sty rfl ?_; rintro _ G hle ⟨cv, rfl, hrv⟩; (have hg0 := hg0.trans hle); (have hsl := hsl.mono hle); (try have hrv := rep_mono hle hrv); (try have hrz := rep_mono hle hrz))) | (refine k_ff rfl rfl ?_))
  rename_i y6 y7 y9 y10 y12 y13
  dsimp only [VC.sl]
  have cx_ch := ihz hg0 hrv
  unfold kdF at cx_ch
  rw [show vcF cv = [U8 (cv.what : Nat), S cv.text, I cv.tag, .slice cv.a cv.n cv.c] from rfl, e1] at cx_ch
  (refine k_any (s_any (id := 5) _ (fun _ h => h) mixed ?_); refine jT 7 [0, 3] (bts 9 9) ?_; (refine jG (bts 9 11) 1 rfl (g_ldA rfl rfl rfl rfl) ?_); (refine jG (bts 9 15) 2 rfl (g_ldA rfl rfl rfl rfl) ?_); (refine jG (bts 9 31) 4 rfl (g_slV rfl rfl oM) ?_); (refine jG (bts 9 63) 5 rfl (g_ldA rfl rfl rfl rfl) ?_); refine x_all [6, 7] kR dC ⟨?_, ?_, trivial⟩; (focus (refine x_opg rfl rfl ?_; (refine c_fns rfl rfl rfl cx_ch rfl ?_; rintro _ G hle ⟨cz, rfl, hrz⟩; (have hg0 := hg0.trans hle); (have hsl := hsl.mono hle); (try have hrv := rep_mono hle hrv); (try have hrz := rep_mono hle hrz)); refine jK (bts 9 127) ?_; refine jA 7 rfl ?_; (refine jL fun _ => ?_); refine jK (bts 9 255) ?_; refine jA 8 rfl ?_; (refine jC rfl rfl rfl ?_); refine jK (bts 9 511) ?_; refine jQ ?_)); rotate_left 1; (focus (refine x_opg rfl rfl ?_; (refine jL fun _ => ?_); refine jK (bts 9 191) ?_; refine jA 6 rfl ?_; (refine c_fns rfl rfl rfl cx_ch rfl ?_; rintro _ G hle ⟨cz, rfl, hrz⟩; (have hg0 := hg0.trans hle); (have hsl := hsl.mono hle); (try have hrv := rep_mono hle hrv); (try have hrz := rep_mono hle hrz)); refine jK (bts 9 255) ?_; refine jA 8 rfl ?_; (refine jC rfl rfl rfl ?_); refine jK (bts 9 511) ?_; refine jQ ?_)); rotate_left 1)
  all_goals
   dsimp only [VC.sl]
   repeat' (first | (refine jR ?_) | (refine jo ?_; (refine jAl rfl ?_)) | (refine k_ff rfl rfl ?_))
   (refine k_any (s_any (id := 8) _ (fun _ h => h) mixed ?_); refine jT 7 [0, 2, 4] (bts 10 21) ?_; (refine jG (bts 10 23) 1 rfl (g_ld rfl rfl rfl) ?_); (refine jG (bts 10 31) 3 rfl (g_ld rfl rfl rfl) ?_); (refine jG (bts 10 63) 5 rfl (g_ld rfl rfl rfl) ?_); refine x_all [6, 8] kR dC ⟨?_, ?_, trivial⟩; (focus (refine x_opg rfl rfl ?_; ((refine c_ap0V rfl rfl aS rfl aS rfl rfl rfl rfl ?_ ?_ fun _ _ => ?_; (focus ((omega); done)); (focus ((omega); done)))); refine jK (bts 10 127) ?_; (refine jG (bts 10 255) 7 rfl (g_bld rfl rfl) ?_); refine jA 8 rfl ?_; (refine jL fun _ => ?_); refine jK (bts 10 511) ?_; refine jA 9 rfl ?_; (refine jC rfl rfl rfl ?_); refine jK (bts 10 1023) ?_; refine jQ ?_)); rotate_left 1; (focus (refine x_opg rfl rfl ?_; (refine jL fun _ => ?_); refine jK (bts 10 319) ?_; refine jA 6 rfl ?_; ((refine c_ap0V rfl rfl aS rfl aS rfl rfl rfl rfl ?_ ?_ fun _ _ => ?_; (focus ((omega); done)); (focus ((omega); done)))); refine jK (bts 10 383) ?_; (refine jG (bts 10 511) 7 rfl (g_bld rfl rfl) ?_); refine jA 9 rfl ?_; (refine jC rfl rfl rfl ?_); refine jK (bts 10 1023) ?_; refine jQ ?_)); rotate_left 1)
   all_goals repeat' (first | (refine jR ?_) | (refine jo ?_; first | refine jAl rfl ?_ | refine jAm rfl ?_ | (refine jV (g_iaddr rfl rfl oM) ?_)) | (refine k_tt rfl rfl ?_) | (refine k_ff rfl rfl ?_))
   all_goals refine jo ?_
   all_goals refine c_stAR (f := vcF) (c := cz) (cs := cs) (i := i) rfl rfl rfl rfl rfl oM oM ?_
   all_goals repeat' (first | (refine jR ?_) | (refine jo ?_; first | refine jAm rfl ?_ | refine jC rfl rfl rfl ?_))
   all_goals
    rename_i u1 u2 u3 u4
    first | (refine Nx.sealS (v := .slice (some ⟨u2, 0, none⟩) ks.length u3) fun G5 hG5 hsl5 => ?_; refine jZ (vs := [_]) rfl ⟨rc_A rfl rfl rfl rfl, trivial⟩ rfl ⟨(hg0.trans hG5), rfl, ?_⟩; exact ⟨⟨_, [], tg, some ⟨u2, 0, none⟩, ks.length, u3⟩, rfl, rep_mk hw255 htg (fun h => by rw [List.length_set]; exact h61 h) (by rw [List.length_set]) (by rw [List.length_set, hcl]; exact hsl5) (reps_mono hG5 (reps_set (i := 0) (reps_mono hg0 hrs) hrz))⟩) | (refine Nx.sealS (v := .slice (some ⟨u3, 0, none⟩) ks.length u4) fun G5 hG5 hsl5 => ?_; refine jZ (vs := [_]) rfl ⟨rc_A rfl rfl rfl rfl, trivial⟩ rfl ⟨(hg0.trans hG5), rfl, ?_⟩; exact ⟨⟨_, [], tg, some ⟨u3, 0, none⟩, ks.length, u4⟩, rfl, rep_mk hw255 htg (fun h => by rw [List.length_set]; exact h61 h) (by rw [List.length_set]) (by rw [List.length_set, hcl]; exact hsl5) (reps_mono hG5 (reps_set (i := 0) (reps_mono hg0 hrs) hrz))⟩)
theorem c_changeI (hw : SchW (tyq qs)) : ∀ (p : List Int) {G : Gh} {pv : Value} {k : List UInt8} {v y : V} {c dy : VC} {k' : List UInt8} {v' : V}, ScI G b qs → SlV G pv 1 p.length (rows inR p) → (∀ n ∈ p, 0 ≤ n ∧ n ≤ 999999) → p.length ≤ 8 → V.rep G v c → OfK (tyq qs) k v → kindIn (tyq qs) k = true → v.tot ≤ 400000 → followV (tyq qs) k v p = some (k', v') → V.rep G y dy → OfK (tyq qs) k' y → y.tot ≤ 40000 →
  FnS Tryz.prog 41 [Pt b 0, Ag (kdF k), Ag (vcF c), pv, Ag (vcF dy)] G (fun r G' => ∃ c', r = Ag (vcF c') ∧ V.rep G' (changeV (tyq qs) k v p y) c')
 | [], G, pv, k, v, y, c, dy, k', v', hS, hp, hpn, hpl, hr, ho, hki, htt, hf, hy, hoy, hyt => by
  simp only [followV, Option.some.injEq, Prod.mk.injEq] at hf
  obtain ⟨rfl, rfl⟩ := hf
  obtain ⟨pa, pc, rfl⟩ := hp.sl
  have hl0 : ([] : List Int).length = 0 := rfl
  have e1 : vcF dy = [U8 (dy.what : Nat), S dy.text, I dy.tag, .slice dy.a dy.n dy.c] := rfl
  have e3 : vcF c = [U8 (c.what : Nat), S c.text, I c.tag, .slice c.a c.n c.c] := rfl
  have e2 : kdF k = [S (sg k), S (bs k), S (nm k)] := rfl
  rw [changeV, e1, e2, e3]
  refine jB [(0, _), (1, _), (2, _), (3, _), (4, _)] Tryz.func41 Tryz.ntmps41 fun B hok hB hW => ?_
  repeat' (first | (refine jR ?_) | (refine jo ?_; first | refine jO fun _ => ?_ | refine jL fun _ => ?_ | refine jV (g_lenL rfl) ?_ | refine jAm rfl ?_ | refine jC rfl rfl rfl ?_) | (refine k_tt rfl rfl ?_))
  all_goals refine jZ (vs := [_]) rfl ⟨rc_A rfl rfl rfl rfl, trivial⟩ rfl ⟨Gh.le.refl _, rfl, ?_⟩
  all_goals exact ⟨dy, rfl, hy⟩
 | n :: p, G, pv, k, v, y, c, dy, k', v', hS, hp, hpn, hpl, hr, ho, hki, htt, hf, hy, hoy, hyt => by
  obtain ⟨pb, po, pc, rfl, _⟩ := hp.expl (by simp)
  have hn := hpn n (by simp)
  have hpn2 : ∀ m ∈ p, 0 ≤ m ∧ m ≤ 999999 := fun m hm => hpn m (by simp [hm])
  have hpl2 : p.length ≤ 8 := by simp at hpl; omega
  unfold followV at hf
  cases hs : stepV (tyq qs) k v n with
  | none => rw [hs] at hf; cases hf
  | some x =>
   rw [hs] at hf
   obtain ⟨k1, v1⟩ := x
   dsimp only at hf
   obtain ⟨g1, g2⟩ := stepV_ok hw ho hki hn.1 hs
   have g3 := stepV_tot hw ho hki hn.1 hs (N := 400000) htt oM
   have g4 := changeV_tot hw (y := y) g1 g2 (fun m hm => (hpn2 m hm).1) hf
   have cx_sty := StepPI.yes (c_stepI hS hw hki ho hr hn oM) hs
   have hcut := cut_intsI hp
   have ihz : ∀ {G2 : Gh} {c1 : VC}, Gh.le G G2 → V.rep G2 v1 c1 → FnS Tryz.prog 41 [Pt b 0, Ag (kdF k1), Ag (vcF c1), .slice (some ⟨pb, slO po pc (Int.toNat 1) 1, none⟩) ((n :: p).length - Int.toNat 1) (pc - Int.toNat 1), Ag (vcF dy)] G2 (fun r G' => ∃ c', r = Ag (vcF c') ∧ V.rep G' (changeV (tyq qs) k1 v1 p y) c') := fun hle hr1 =>
    c_changeI hw p (hS.mono hle) (hcut.mono hle) hpn2 hpl2 hr1 g1 g2 g3 hf (rep_mono hle hy) hoy hyt
   rw [changeV_cons hs]
   cases hrf : refT (tyq qs) k with
   | none =>
    obtain ⟨ch, kr, rfl⟩ := kind_ne hki
    by_cases hc : ch.toNat = 91 ∨ ch.toNat = 63
    ·have hst := stepV_kid (ts := tyq qs) (c := ch) (r := kr) (v := v) (n := n) hc
     rw [hs] at hst
     by_cases hlt : n < ((v.kids.length : Nat) : Int)
     ·have htl := tots_len v.kids
      rcases ofK_inv_c ho oM with ⟨a1, _⟩ | ⟨a1, _⟩ | ⟨a1, _⟩ | ⟨a1, ks, a2, a3, rfl⟩ | ⟨a1, rfl | ⟨w, a3, rfl⟩⟩
      ·omega
      ·omega
      ·omega
      ·rw [V.kids] at hlt
       have e1 : ∀ z, setV (tyq qs) (ch :: kr) (.nd 91 [] 0 ks) n z = .nd 91 [] 0 (ks.set n.toNat z) := fun z => by
        unfold setV; rw [V.what, if_neg dC, if_pos rfl]; rfl
       rw [e1]
       exact c_chKid (.inl ⟨rfl, rfl⟩) oM oM hn hp hr oM cx_sty ihz
      ·simp [V.kids] at hlt; omega
      ·simp [V.kids] at hlt
       obtain rfl : n = 0 := oM
       have e1 : ∀ z, setV (tyq qs) (ch :: kr) (.nd 63 [] 0 [w]) 0 z = .nd 63 [] 0 ([w].set 0 z) := fun z => by
        unfold setV; rw [V.what, if_neg dC, if_neg dC]; rfl
       rw [e1]
       exact c_chKid (.inr ⟨.inl rfl, rfl⟩) (by simp) (by simp) hn hp hr oM cx_sty ihz
     ·rw [if_neg hlt] at hst; cases hst
    ·have hno : stepV (tyq qs) (ch :: kr) v n = none := by
      rcases plain_kinds hki hc hrf with e | e | e
      all_goals (rw [e]; exact stepV_plain dC dC dC)
     rw [hno] at hs; cases hs
   | some t =>
    have hst := stepV_typ (v := v) (n := n) hrf
    rw [hs] at hst
    cases hg : fldT t.fields n with
    | none => rw [hg] at hst; cases hst
    | some f =>
     rw [hg] at hst
     dsimp only at hst
     by_cases h69 : t.sort = 69
     ·rw [if_pos h69] at hst; cases hst
     ·rw [if_neg h69] at hst
      by_cases h82 : t.sort = 82
      ·rw [if_pos h82] at hst
       simp only [Option.some.injEq, Prod.mk.injEq] at hst
       obtain ⟨rfl, rfl⟩ := hst
       rcases ofK_inv_t ho hrf with ⟨_, fs, rfl, a3, a4, a5, a6⟩ | ⟨a1, _⟩ | ⟨a1, _⟩
       ·have hfs9 : fs.length ≤ 90000 := by
         have h7 := tots_len (fs.map fldV)
         rw [nd_tot] at htt
         have e1 : (fs.map fldV).length = fs.length := by simp
         omega
        have e1 : ∀ z, setV (tyq qs) k (.nd 82 [] 0 (fs.map fldV)) n z = .nd 82 [] 0 (putF (tyq qs) f z (fs.map fldV)) := fun z => by
         unfold setV; rw [V.what, if_pos rfl, hrf]
         dsimp only
         rw [hg]; rfl
        rw [e1]
        exact c_chRec hS hw hki hrf h82 hg rfl (srt_fs a6) hfs9 hn hp hr oM oM cx_sty ihz
       ·omega
       ·omega
      ·rw [if_neg h82] at hst
       by_cases htg : v.tag = n
       ·rw [if_pos htg] at hst
        rcases ofK_inv_t ho hrf with ⟨a1, _⟩ | ⟨a1, _⟩ | ⟨_, _, d, w, rfl, g4, g5⟩
        ·omega
        ·omega
        ·have e1 : ∀ z, setV (tyq qs) k (.nd 85 [] d.tag [w]) n z = .nd 85 [] d.tag ([w].set 0 z) := fun z => by
          unfold setV; rw [V.what, if_neg dC, if_neg dC]; rfl
         rw [e1]
         exact c_chKid (.inr ⟨.inr rfl, rfl⟩) (by simp) (by simp) hn hp hr oM cx_sty ihz
       ·rw [if_neg htg] at hst; cases hst
end
theorem putF_mem {ts : List Ty} {f : Fld} {y : V} (h : y.out ≠ standF ts f) : ∀ {vs : List V}, .nd 61 [] f.tag [y] ∈ putF ts f y vs
 | [] => by rw [putF_nil]; unfold nf; rw [if_neg h]; simp
 | v :: vs => by
  rw [putF_cons]
  split
  ·exact List.mem_cons_of_mem _ (putF_mem h)
  ·unfold nf; rw [if_neg h]; simp
theorem setV_big {ts : List Ty} (hw : SchW ts) {k : List UInt8} {v : V} (h : OfK ts k v) (hk : kindIn ts k = true) {n : Int} (hn : 0 ≤ n) {k1 : List UInt8} {v1 : V} (e : stepV ts k v n = some (k1, v1)) {y : V} (hy : 400 < y.out.length) : 400 < (setV ts k v n y).out.length := by
 obtain ⟨c, r, rfl⟩ := kind_ne hk
 unfold stepV at e
 dsimp only at e
 split at e
 ·rename_i hc
  split at e
  ·rename_i hlt
   rcases ofK_inv_c h oM with ⟨g1, _⟩ | ⟨g1, _⟩ | ⟨g1, _⟩ | ⟨g1, ks, g2, g3, rfl⟩ | ⟨g1, rfl | ⟨u, g3, rfl⟩⟩
   ·omega
   ·omega
   ·omega
   ·rw [V.kids] at hlt
    unfold setV
    rw [V.what, if_neg dC, if_pos rfl, V.kids]
    show 400 < (V.nd 91 [] 0 (ks.set n.toNat y)).out.length
    rw [out_list']
    have hm : y ∈ ks.set n.toNat y := List.mem_iff_getElem.2 ⟨n.toNat, by rw [List.length_set]; omega, by simp⟩
    have := joinB_mem (xs := (ks.set n.toNat y).map V.out) (List.mem_map_of_mem (f := V.out) hm)
    simp only [List.length_cons, List.length_append]
    omega
   ·simp [V.kids] at hlt; omega
   ·unfold setV
    rw [V.what, if_neg dC, if_neg dC]
    have e1 : V.out (.nd 63 [] 0 [y]) = 43 :: y.out := by rw [V.out]; simp [V.outs, joinB, outW]
    show 400 < (V.nd 63 [] 0 [y]).out.length
    rw [e1, List.length_cons]; omega
  ·cases e
 ·split at e
  ·cases e
  ·rename_i t hr
   have ht := refT_mem hr
   split at e
   ·cases e
   ·rename_i f hf
    have hfm := List.mem_of_find?_eq_some hf
    split at e
    ·cases e
    ·rename_i h69
     split at e
     ·rename_i h82
      rcases ofK_inv_t h hr with ⟨_, fs, rfl, g3, g4, _, _⟩ | ⟨g1, _⟩ | ⟨g1, _⟩
      ·have e1 : setV ts (c :: r) (.nd 82 [] 0 (fs.map fldV)) n y = .nd 82 [] 0 (putF ts f y (fs.map fldV)) := by
        unfold setV; rw [V.what, if_pos rfl, hr]
        dsimp only
        rw [hf]; rfl
       have hst := (valOf_rd (standV_ok hw ht h69 hfm).2.1).2
       have hne : y.out ≠ standF ts f := fun e => by rw [e] at hy; omega
       have := joinB_mem (xs := (putF ts f y (fs.map fldV)).map V.out) (List.mem_map_of_mem (f := V.out) (putF_mem hne))
       rw [out_fld] at this
       rw [e1, out_rec']
       simp only [List.length_cons, List.length_append] at this ⊢
       omega
      ·omega
      ·omega
     ·rename_i h82
      split at e
      ·rcases ofK_inv_t h hr with ⟨h1, _⟩ | ⟨h1, _⟩ | ⟨_, _, d, u, rfl, g4, g5⟩
       ·omega
       ·omega
       ·unfold setV
        rw [V.what, if_neg dC, if_neg dC]
        have e1 : V.out (.nd 85 [] d.tag [y]) = 60 :: (decI d.tag ++ 61 :: (y.out ++ [62])) := by rw [V.out]; simp [V.outs, joinB, outW]
        show 400 < (V.nd 85 [] d.tag [y]).out.length
        rw [e1]
        simp only [List.length_cons, List.length_append]
        omega
      ·cases e
theorem changeV_big {ts : List Ty} (hw : SchW ts) : ∀ {p : List Int} {k : List UInt8} {v y : V} {k' : List UInt8} {v' : V}, OfK ts k v → kindIn ts k = true → (∀ n ∈ p, 0 ≤ n) → followV ts k v p = some (k', v') → 400 < y.out.length → 400 < (changeV ts k v p y).out.length
 | [], k, v, y, k', v', h, hk, _, e, hy => by rw [changeV]; exact hy
 | n :: p, k, v, y, k', v', h, hk, hp, e, hy => by
  unfold followV at e
  cases hs : stepV ts k v n with
  | none => rw [hs] at e; cases e
  | some x =>
   rw [hs] at e
   obtain ⟨k1, v1⟩ := x
   have hn := hp n (by simp)
   obtain ⟨h1, h2⟩ := stepV_ok hw h hk hn hs
   rw [changeV_cons hs]
   exact setV_big hw h hk hn hs (changeV_big hw h1 h2 (fun m hm => hp m (by simp [hm])) e hy)
theorem c_PathSetI {s k w p x : List UInt8} (h1 : s.length ≤ 1048576 ∧ k.length ≤ 1048576 ∧ w.length ≤ 1048576 ∧ p.length ≤ 1048576) (hx : x.length ≤ 1048576) : PuG Tryz.prog 17 [S s, S k, S w, S p, S x] G (· = psR (pathSetV s k w p x)) := by
 unfold pathSetV
 cases hg : givenV s k w with
 | none =>
  rw [psv_none]
  have cx_gi0 := c_given0 (G := G) (s := s) (k := k) (w := w) oM hg
  cases hpo : pathOf p with
  | none =>
   have cx_sp := readPath_no h1.2.2.2 hpo
   refine jB (Post := fun v G' L' => G' = G ∧ L' = [] ∧ _) [(0, _), (1, _), (2, _), (3, _), (4, _)] Tryz.func17 Tryz.ntmps17 fun B hok hB hW => ?_
   repeat' (first | (refine jR ?_) | (refine jo ?_; first | refine jL fun _ => ?_ | refine jC rfl rfl rfl ?_ | (refine jAt rfl ?_) | (refine c_fns rfl rfl rfl cx_gi0 rfl ?_; rintro _ G hle ⟨p1, a1, b1, c1, rfl⟩; skip) | (refine c_fns rfl rfl rfl (cx_sp _) rfl ?_; rintro _ G hle ⟨sa, sc, sn, rfl, hsp⟩; skip)) | (refine k_gt rfl rfl rfl ?_) | (refine k_tt rfl rfl ?_))
   all_goals refine Nx.base hok hB ?_
   all_goals refine jY (vs := [_, _]) ?_
   all_goals rfl
  | some q =>
   have cx_sp := readPath_yes h1.2.2.2 hpo
   refine jB (Post := fun v G' L' => G' = G ∧ L' = [] ∧ _) [(0, _), (1, _), (2, _), (3, _), (4, _)] Tryz.func17 Tryz.ntmps17 fun B hok hB hW => ?_
   repeat' (first | (refine jR ?_) | (refine jo ?_; first | refine jL fun _ => ?_ | refine jC rfl rfl rfl ?_ | (refine jAt rfl ?_) | (refine c_fns rfl rfl rfl cx_gi0 rfl ?_; rintro _ G hle ⟨p1, a1, b1, c1, rfl⟩; skip) | (refine c_fns rfl rfl rfl (cx_sp _) rfl ?_; rintro _ G hle ⟨sa, sc, sn, rfl, hsp⟩; skip)) | (refine k_gt rfl rfl rfl ?_) | (refine k_tt rfl rfl ?_))
   all_goals refine Nx.base hok hB ?_
   all_goals refine jY (vs := [_, _]) ?_
   all_goals rfl
 | some u =>
  obtain ⟨ts, hs, hki, hvo, hto, hwf⟩ := given_some hg
  have cx_gi1 := c_given1 (G := G) (s := s) (k := k) (w := w) oM hs hki hvo
  rw [hs]
  cases hpo : pathOf p with
  | none =>
   have cx_sp := readPath_no h1.2.2.2 hpo
   refine jB (Post := fun v G' L' => G' = G ∧ L' = [] ∧ _) [(0, _), (1, _), (2, _), (3, _), (4, _)] Tryz.func17 Tryz.ntmps17 fun B hok hB hW => ?_
   repeat' (first | (refine jR ?_) | (refine jo ?_; first | refine jL fun _ => ?_ | refine jC rfl rfl rfl ?_ | (refine jAf rfl ?_) | (refine c_fns rfl rfl rfl cx_gi1 rfl ?_; rintro _ G hle ⟨bg, qg, cv, rfl, hTg, hRg, hrv⟩; skip) | (refine c_fns rfl rfl rfl (cx_sp _) rfl ?_; rintro _ G hle ⟨sa, sc, sn, rfl, hsp⟩; skip)) | (refine k_gf rfl rfl rfl ?_) | (refine k_tt rfl rfl ?_))
   all_goals refine Nx.base hok hB ?_
   all_goals refine jY (vs := [_, _]) ?_
   all_goals rfl
  | some q =>
   have cx_sp := readPath_yes h1.2.2.2 hpo
   obtain ⟨hq8, hqn⟩ := pathOf_le hpo
   have hof := valOf_of_k hvo
   have hw := schemaOf_w hs
   have hqn0 : ∀ n ∈ q, 0 ≤ n := fun n hn => (hqn n hn).1
   dsimp only
   cases hfo : followV ts k u q with
   | none =>
    dsimp only
    refine jB (Post := fun v G' L' => G' = G ∧ L' = [] ∧ _) [(0, _), (1, _), (2, _), (3, _), (4, _)] Tryz.func17 Tryz.ntmps17 fun B hok hB hW => ?_
    repeat' (first | (refine jR ?_) | (refine jo ?_; first | refine jL fun _ => ?_ | refine jC rfl rfl rfl ?_ | (refine jAf rfl ?_) | refine jAm rfl ?_ | (refine c_fns rfl rfl rfl cx_gi1 rfl ?_; rintro _ G hle ⟨bg, qg, cv, rfl, hTg, hRg, hrv⟩; (try have hru := rep_mono hle hru); (try have hRg := ScI.mono hRg hle); (try have hsp := SlV.mono hsp hle)) | (refine c_fns rfl rfl rfl (cx_sp _) rfl ?_; rintro _ G hle ⟨sa, sc, sn, rfl, hsp⟩; (try have hru := rep_mono hle hru); (try have hRg := ScI.mono hRg hle); (try have hsp := SlV.mono hsp hle))) | (refine k_gf rfl rfl rfl ?_) | (refine k_ff rfl rfl ?_))
    obtain ⟨rfl, hsp⟩ := hsp
    subst hTg
    have hru := rep_mono hle hrv
    have hfl := c_followI hRg hw hsp hqn oM hru hof hki oM
    unfold kdF at hfl
    rw [show vcF cv = [U8 (cv.what : Nat), S cv.text, I cv.tag, .slice cv.a cv.n cv.c] from rfl] at hfl
    have cx_fon := StepPI.no hfl hfo
    repeat' (first | (refine jR ?_) | (refine jo ?_; first | refine jL fun _ => ?_ | refine jC rfl rfl rfl ?_ | (refine c_fns rfl rfl rfl cx_fon rfl ?_; rintro _ G hle rfl; (try have hru := rep_mono hle hru); (try have hRg := ScI.mono hRg hle); (try have hsp := SlV.mono hsp hle))) | (refine k_tt rfl rfl ?_))
    all_goals refine Nx.base hok hB ?_
    all_goals refine jY (vs := [_, _]) ?_
    all_goals rfl
   | some y =>
    obtain ⟨k1, v1⟩ := y
    obtain ⟨_, hk1⟩ := followV_ok hw hof hki hqn0 hfo
    dsimp only
    cases hvx : valOf ts k1 x with
    | none =>
     suffices key : PuG Tryz.prog 17 [S s, S k, S w, S p, S x] G (· = psR none) by
      rcases hrd : rd ts 12 k1 x with _ | ⟨y, _ | _⟩
      ·exact key
      ·have hxl : ¬ x.length ≤ 400 := fun hl => by
        unfold valOf at hvx
        rw [if_pos hl, hrd] at hvx
        cases hvx
       have hyo := rd_out _ _ _ _ hrd
       dsimp only at hyo
       rw [List.append_nil] at hyo
       have := changeV_big hw (y := y) hof hki hqn0 hfo (by rw [← hyo]; omega)
       dsimp only
       rw [if_neg (fun h => by omega)]
       exact key
      ·exact key
     refine jB (Post := fun v G' L' => G' = G ∧ L' = [] ∧ _) [(0, _), (1, _), (2, _), (3, _), (4, _)] Tryz.func17 Tryz.ntmps17 fun B hok hB hW => ?_
     repeat' (first | (refine jR ?_) | (refine jo ?_; first | refine jL fun _ => ?_ | refine jC rfl rfl rfl ?_ | (refine jAf rfl ?_) | refine jAm rfl ?_ | (refine c_fns rfl rfl rfl cx_gi1 rfl ?_; rintro _ G hle ⟨bg, qg, cv, rfl, hTg, hRg, hrv⟩; (try have hru := rep_mono hle hru); (try have hRg := ScI.mono hRg hle); (try have hsp := SlV.mono hsp hle)) | (refine c_fns rfl rfl rfl (cx_sp _) rfl ?_; rintro _ G hle ⟨sa, sc, sn, rfl, hsp⟩; (try have hru := rep_mono hle hru); (try have hRg := ScI.mono hRg hle); (try have hsp := SlV.mono hsp hle))) | (refine k_gf rfl rfl rfl ?_) | (refine k_ff rfl rfl ?_))
     obtain ⟨rfl, hsp⟩ := hsp
     subst hTg
     have hru := rep_mono hle hrv
     have hfl := c_followI hRg hw hsp hqn oM hru hof hki oM
     unfold kdF at hfl
     rw [show vcF cv = [U8 (cv.what : Nat), S cv.text, I cv.tag, .slice cv.a cv.n cv.c] from rfl] at hfl
     have cx_foy := StepPI.yes hfl hfo
     repeat' (first | (refine jR ?_) | (refine jo ?_; first | refine jL fun _ => ?_ | refine jC rfl rfl rfl ?_ | refine jAm rfl ?_ | (refine c_fns rfl rfl rfl cx_foy rfl ?_; rintro _ G hle ⟨cv, rfl, hrv⟩; (try have hru := rep_mono hle hru); (try have hRg := ScI.mono hRg hle); (try have hsp := SlV.mono hsp hle))) | (refine k_ff rfl rfl ?_))
     have cx_rin : FnS Tryz.prog 40 [Pt bg 0, Ag [S (sg k1), S (bs k1), S (nm k1)], S x] G (fun v _ => v = Tu [zP, Bo false]) := by
      refine (c_readI (G := G) (b := bg) (s := x) hRg hw hk1 oM).mono ?_
      rintro v G' L' ⟨a1, a2, ⟨_, a3⟩ | ⟨u', c', a4, _⟩⟩
      ·exact ⟨a1, a2, a3⟩
      ·rw [hvx] at a4; cases a4
     repeat' (first | (refine jR ?_) | (refine jo ?_; first | refine jL fun _ => ?_ | refine jC rfl rfl rfl ?_ | (refine c_fns rfl rfl rfl cx_rin rfl ?_; rintro _ G hle rfl; (try have hru := rep_mono hle hru); (try have hRg := ScI.mono hRg hle); (try have hsp := SlV.mono hsp hle))) | (refine k_tt rfl rfl ?_))
     all_goals refine Nx.base hok hB ?_
     all_goals refine jY (vs := [_, _]) ?_
     all_goals rfl
    | some y =>
     obtain ⟨hrd, hxl⟩ := valOf_rd hvx
     rw [hrd]
     dsimp only
     have hoy := valOf_of_k hvx
     have hyt := rd_tot _ _ _ _ hrd
     dsimp only at hyt
     have hcg := changeV_ok hw hof hki hqn0 hfo hoy
     have hct := changeV_tot hw (y := y) hof hki hqn0 hfo
     obtain ⟨o, ho⟩ : ∃ o, (if (changeV ts k u q y).out.length ≤ 400 ∧ (changeV ts k u q y).deep ≤ 12 then some (changeV ts k u q y).out else none) = o := ⟨_, rfl⟩
     rw [ho]
     refine jB (Post := fun v G' L' => G' = G ∧ L' = [] ∧ _) [(0, _), (1, _), (2, _), (3, _), (4, _)] Tryz.func17 Tryz.ntmps17 fun B hok hB hW => ?_
     repeat' (first | (refine jR ?_) | (refine jo ?_; first | refine jL fun _ => ?_ | refine jC rfl rfl rfl ?_ | (refine jAf rfl ?_) | refine jAm rfl ?_ | (refine c_fns rfl rfl rfl cx_gi1 rfl ?_; rintro _ G hle ⟨bg, qg, cv, rfl, hTg, hRg, hrv⟩; (try have hru := rep_mono hle hru); (try have hRg := ScI.mono hRg hle); (try have hsp := SlV.mono hsp hle)) | (refine c_fns rfl rfl rfl (cx_sp _) rfl ?_; rintro _ G hle ⟨sa, sc, sn, rfl, hsp⟩; (try have hru := rep_mono hle hru); (try have hRg := ScI.mono hRg hle); (try have hsp := SlV.mono hsp hle))) | (refine k_gf rfl rfl rfl ?_) | (refine k_ff rfl rfl ?_))
     obtain ⟨rfl, hsp⟩ := hsp
     subst hTg
     have hru := rep_mono hle hrv
     have hfl := c_followI hRg hw hsp hqn oM hru hof hki oM
     unfold kdF at hfl
     rw [show vcF cv = [U8 (cv.what : Nat), S cv.text, I cv.tag, .slice cv.a cv.n cv.c] from rfl] at hfl
     have cx_foy := StepPI.yes hfl hfo
     repeat' (first | (refine jR ?_) | (refine jo ?_; first | refine jL fun _ => ?_ | refine jC rfl rfl rfl ?_ | refine jAm rfl ?_ | (refine c_fns rfl rfl rfl cx_foy rfl ?_; rintro _ G hle ⟨cv, rfl, hrv⟩; (try have hru := rep_mono hle hru); (try have hRg := ScI.mono hRg hle); (try have hsp := SlV.mono hsp hle))) | (refine k_ff rfl rfl ?_))
     have cx_ris : FnS Tryz.prog 40 [Pt bg 0, Ag [S (sg k1), S (bs k1), S (nm k1)], S x] G (fun v G' => ∃ cv, v = Tu [Ag (vcF cv), Bo true] ∧ V.rep G' y cv) := by
      refine (c_readI (G := G) (b := bg) (s := x) hRg hw hk1 oM).mono ?_
      rintro v G' L' ⟨a1, a2, ⟨a4, _⟩ | ⟨u', c', a4, rfl, a5⟩⟩
      ·rw [hvx] at a4; cases a4
      ·rw [hvx] at a4; obtain rfl := Option.some.inj a4; exact ⟨a1, a2, c', rfl, a5⟩
     repeat' (first | (refine jR ?_) | (refine jo ?_; first | refine jL fun _ => ?_ | refine jC rfl rfl rfl ?_ | refine jAm rfl ?_ | (refine c_fns rfl rfl rfl cx_ris rfl ?_; rintro _ G hle ⟨cv, rfl, hrv⟩; (try have hru := rep_mono hle hru); (try have hRg := ScI.mono hRg hle); (try have hsp := SlV.mono hsp hle))) | (refine k_ff rfl rfl ?_))
     have cx_ch := c_changeI hw q hRg hsp hqn hq8 hru hof hki oM hfo hrv hoy oM
     simp only [kdF, vcF, VC.sl] at cx_ch
     dsimp only [vcF, VC.sl]
     repeat' (first | (refine jR ?_) | (refine jo ?_; first | refine jL fun _ => ?_ | refine jC rfl rfl rfl ?_ | refine jAm rfl ?_ | (refine c_fns rfl rfl rfl cx_ch rfl ?_; rintro _ G hle ⟨cz, rfl, hrz⟩; (try have hru := rep_mono hle hru); (try have hRg := ScI.mono hRg hle); (try have hsp := SlV.mono hsp hle))))
     have cx_fit := c_fits hrz oM
     have cx_pr := c_print (G := G) (c := cz) _ (Nat.le_refl _) oM hrz
     simp only [vcF, VC.sl] at cx_fit cx_pr
     by_cases hfit : (changeV (tyq qg) k u q y).out.length ≤ 400 ∧ (changeV (tyq qg) k u q y).deep ≤ 12
     ·rw [if_pos hfit] at ho
      subst ho
      rw [decide_eq_true hfit] at cx_fit
      repeat' (first | (refine jR ?_) | (refine jo ?_; first | refine jAm rfl ?_ | (refine c_rt rfl rfl rfl cx_fit rfl ?_) | (refine c_rt rfl rfl rfl cx_pr rfl ?_)) | (refine k_ff rfl rfl ?_))
      all_goals refine Nx.base hok hB ?_
      all_goals refine jY (vs := [_, _]) ?_
      all_goals rfl
     ·rw [if_neg hfit] at ho
      subst ho
      rw [decide_eq_false hfit] at cx_fit
      repeat' (first | (refine jR ?_) | (refine jo ?_; (refine c_rt rfl rfl rfl cx_fit rfl ?_)) | (refine k_tt rfl rfl ?_))
      all_goals refine Nx.base hok hB ?_
      all_goals refine jY (vs := [_, _]) ?_
      all_goals rfl
theorem c_ValueOkI {s k w : List UInt8} (h : s.length ≤ 1048576 ∧ k.length ≤ 1048576 ∧ w.length ≤ 1048576) : PuG Tryz.prog 18 [S s, S k, S w] G (· = Bo (okV s k w)) := by
 unfold okV
 cases hg : givenV s k w with
 | none =>
  have cx_gi0 := c_given0 (G := G) h hg
  refine jB (Post := fun v G' L' => G' = G ∧ L' = [] ∧ _) [(0, _), (1, _), (2, _)] Tryz.func18 Tryz.ntmps18 fun B hok hB hW => ?_
  repeat' (first | (refine jR ?_) | (refine jo ?_; first | refine jL fun _ => ?_ | refine jC rfl rfl rfl ?_ | (refine c_fns rfl rfl rfl cx_gi0 rfl ?_; rintro _ G hle ⟨p1, a1, b1, c1, rfl⟩; skip)))
  all_goals refine Nx.base hok hB ?_
  all_goals refine jY (vs := [_]) ?_
  all_goals rfl
 | some u =>
  obtain ⟨ts, hs, hki, hvo, hto, hwf⟩ := given_some hg
  have cx_gi1 := c_given1 (G := G) h hs hki hvo
  refine jB (Post := fun v G' L' => G' = G ∧ L' = [] ∧ _) [(0, _), (1, _), (2, _)] Tryz.func18 Tryz.ntmps18 fun B hok hB hW => ?_
  repeat' (first | (refine jR ?_) | (refine jo ?_; first | refine jL fun _ => ?_ | refine jC rfl rfl rfl ?_ | (refine c_fns rfl rfl rfl cx_gi1 rfl ?_; rintro _ G hle ⟨bg, qg, cv, rfl, hTg, hRg, hrv⟩; skip)))
  all_goals refine Nx.base hok hB ?_
  all_goals refine jY (vs := [_]) ?_
  all_goals rfl
theorem pgv_len {s k w p : List UInt8} : (((pathGetV s k w p).map (·.1)).getD []).length ≤ 400 ∧ (((pathGetV s k w p).map (·.2)).getD []).length ≤ 400 := by
 cases h : pathGetV s k w p with
 | none => simp
 | some y =>
  obtain ⟨k1, x1⟩ := y
  obtain ⟨ts, u, q, v1, h1, h2, h3, h4, rfl⟩ := pgv_some h
  obtain ⟨ts', g1, g2, g3, g4, g5⟩ := given_some h2
  obtain rfl : ts = ts' := Option.some.inj (h1.symm.trans g1)
  have hw := schemaOf_w h1
  obtain ⟨b1, b2, b3, b4⟩ := pathOf_text h3
  have hq0 : ∀ n ∈ q, 0 ≤ n := fun n hn => (b3 n hn).1
  have ho := valOf_of_k g3
  obtain ⟨c1, c2⟩ := followV_ok hw ho g2 hq0 h4
  obtain ⟨d1, d2, d3⟩ := valOf_out g3
  obtain ⟨e1, e2⟩ := followV_fits hw ho g2 hq0 h4 d3 (by rw [d1]; exact d2)
  have := (kindOk_kOk (kindIn_ok c2)).2
  exact ⟨by simpa using (by omega : k1.length ≤ 400), by simpa using e2⟩
theorem c_DrawPathGet {v : Value} {l : List UInt8} (hs : SlV G v 1 l.length (u8s l)) : PuG Tryz.prog 14 [v] G (fun r => ∃ s k x p, r = Tu [S s, S k, S x, S p] ∧ s.length ≤ 1048576 ∧ k.length ≤ 1048576 ∧ x.length ≤ 1048576 ∧ p.length ≤ 1048576) := by
 refine jE [(0, _)] Tryz.func14 Tryz.ntmps14 fun B hB => ?_
 repeat' (first | (refine jR ?_) | (refine jo ?_; first | (refine c_fng rfl rfl rfl (c_l6Open (by (repeat (assumption)); done)) rfl ?_; rintro _ _ ⟨b, code, l, rfl, rfl, hcd, hcl⟩; dsimp only [zA, fA]) | (refine c_m1g rfl rfl rfl (c_l91Three ?_ (by (repeat (assumption)); done)) rfl ?_; (focus ((omega); done)); rintro _ _ ⟨sc, kd, tx, q1, rfl, ⟨hsc, hkd, htx⟩, rfl, hq1, hq2⟩; dsimp only [zA, fA]) | (refine c_m1g rfl rfl rfl (c_l91Path ?_ (by (repeat (assumption)); done) ?_) rfl ?_; (focus ((omega); done)); (focus ((omega); done)); rintro _ _ ⟨pth, q1, rfl, hpth, rfl, hq1, hq2⟩; dsimp only [zA, fA])))
 exact jZ (vs := [_, _, _, _]) rfl ⟨rfl, rfl, rfl, rfl, trivial⟩ rfl ⟨rfl, rfl, _, _, _, _, rfl, oM, oM, oM, oM⟩
theorem c_FnPathGet {v : Value} {l : List UInt8} (hs : SlV G v 1 l.length (u8s l)) : PuG Tryz.prog 6 [v] G (· = Bo true) := by
 obtain ⟨a, cap, rfl⟩ := hs.sl
 refine jE [(0, _)] Tryz.func6 Tryz.ntmps6 fun B hB => ?_
 repeat' (first | (refine jR ?_) | (refine jo ?_; first | refine jV (g_lenL rfl) ?_ | (refine c_pu rfl rfl rfl (c_DrawPathGet (by (repeat (assumption)); done)) rfl ?_; rintro _ ⟨s1, k1, x1, p1, rfl, hsz⟩)) | refine k_if rfl (fun _ => ?_) (fun _ => ?_))
 ·refine jY (vs := [_]) ?_
  rfl
 have cx_ss1 := c_PathGetI (G := G) hsz
 have cx_ss2 := c_PathGetS (G := G) hsz
 have hpl := pgv_len (s := s1) (k := k1) (w := x1) (p := p1)
 cases h : pathGetV s1 k1 x1 p1 with
 | none =>
  rw [h] at cx_ss1 cx_ss2
  unfold pgR at cx_ss1 cx_ss2
  simp only [Option.map_none, Option.getD_none, Option.isSome_none] at cx_ss1 cx_ss2
  repeat' (first | (refine jR ?_) | (refine jo ?_; first | (refine jAt rfl ?_) | (refine jAf rfl ?_) | (refine c_rt rfl rfl rfl cx_ss1 rfl ?_) | (refine c_rt rfl rfl rfl cx_ss2 rfl ?_)) | (refine k_gt rfl rfl rfl ?_) | (refine k_gf rfl rfl rfl ?_) | (refine k_tt rfl rfl ?_))
  all_goals refine jY (vs := [_]) ?_
  all_goals rfl
 | some y =>
  obtain ⟨kk, xx⟩ := y
  obtain ⟨h1, h2⟩ := path_get h
  rw [h] at cx_ss1 cx_ss2 hpl
  unfold pgR at cx_ss1 cx_ss2
  simp only [Option.map_some, Option.getD_some, Option.isSome_some] at cx_ss1 cx_ss2 hpl
  have cx_ps3 := c_PathSetI (G := G) (x := xx) hsz oM
  have cx_o1 := c_ValueOkI (G := G) (s := s1) (k := kk) (w := xx) ⟨hsz.1, oM, oM⟩
  rw [h1] at cx_o1
  rw [h2] at cx_ps3
  unfold psR at cx_ps3
  simp only [Option.getD_some, Option.isSome_some] at cx_ps3
  repeat' (first | (refine jR ?_) | (refine jo ?_; first | (refine jAt rfl ?_) | (refine jAf rfl ?_) | (refine c_rt rfl rfl rfl cx_ss1 rfl ?_) | (refine c_rt rfl rfl rfl cx_ss2 rfl ?_) | (refine c_rt rfl rfl rfl cx_ps3 rfl ?_) | (refine c_rt rfl rfl rfl cx_o1 rfl ?_)) | (refine k_gt rfl rfl (by first | rfl | (refine decide_eq_true ?_; (rfl))) ?_) | (refine k_gf rfl rfl rfl ?_) | (refine k_ff rfl rfl ?_))
  all_goals refine jY (vs := [_]) ?_
  all_goals (exact congrArg Value.bool (decide_eq_true rfl))
end Go.E
