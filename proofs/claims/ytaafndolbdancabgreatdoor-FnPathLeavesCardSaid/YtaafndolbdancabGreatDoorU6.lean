/- Contracts and plain laws that the statement rests on, part 6. Conditions: as each says. -/
import Derived.Test.YtaafndolbdancabGreatDoorU5
set_option linter.unusedVariables false
set_option linter.unusedSimpArgs false
namespace Go.E
set_option maxRecDepth 20000
set_option maxHeartbeats 2000000
open Go.Proofs
variable {G : Gh}
theorem c_l91Kind {r : Nat} {code : Value} {p : Int} {l : List UInt8} (hp : 0 ≤ p ∧ p ≤ 900000000000) (hs : SlV G code 1 l.length (u8s l)) :
  FnG Tryz.prog 74 [Pt r 0] G [rdO r code p tRdr] (fun v L' => ∃ x q, v = S x ∧ x.length ≤ 400 ∧ L' = [rdO r code q tRdr] ∧ p ≤ q ∧ q ≤ p + 10) := by
 refine jH [(0, _)] Tryz.func74 Tryz.ntmps74 fun B hB hW => ?_
 repeat' (first | (refine jR ?_) | (refine k_op rfl ?_; first | refine c_bsl rfl rfl rfl rfl rfl rfl fun _ => ?_ | (refine jV (g_iaddr rfl rfl (by omega)) ?_) | (refine c_ldMS 64 rfl rfl rfl ?_ rfl (fun xs hxs => ?_); (focus ((simp only [List.length_append, List.length_cons, List.length_nil, List.length_take]; omega); done))) | (refine c_m1g rfl rfl rfl (c_pick ?_ (by (repeat (assumption)); done)) rfl ?_; (focus ((omega); done)); rintro _ _ ⟨k, rfl, rfl, hk0, hk1⟩; dsimp only [zA, fA])))
 refine k_loop (ι := List UInt8 × Int × Int) (fun j => (0 ≤ j.2.1 ∧ j.2.1 ≤ 3) ∧ ((j.1.length : Nat) : Int) ≤ 64 * (4 - j.2.1) ∧ p ≤ j.2.2 ∧ j.2.2 ≤ p + 5 - j.2.1) (fun j => [(0, Pt r 0), (3, S j.1), (4, I j.2.1)]) (fun _ => G) (fun j => [rdO r code j.2.2 tRdr]) (fun j => j.2.1.toNat) (xs, k, p + 1 + 1) ?_ (by repeat' constructor) rfl (by repeat (first | exact List.nil_sublist _ | apply List.Sublist.cons_cons)) (fun j Hj => ?_)
 ·dsimp only; omega
 obtain ⟨s, kk, q⟩ := j
 dsimp only at Hj ⊢
 obtain ⟨hk, hsl, hq0, hq1⟩ := Hj
 by_cases h1 : 1 < kk
 ·repeat' (first | refine jM ?_ | (refine k_op rfl ?_; first | refine c_bsl rfl rfl rfl rfl rfl rfl fun _ => ?_ | (refine jV (g_iaddr rfl rfl (by omega)) ?_) | (refine c_ldMS 64 rfl rfl rfl ?_ rfl (fun xs hxs => ?_); (focus ((simp only [List.length_append, List.length_cons, List.length_nil, List.length_take]; omega); done))) | (refine c_m1g rfl rfl rfl (c_pick ?_ (by (repeat (assumption)); done)) rfl ?_; (focus ((omega); done)); rintro _ _ ⟨k, rfl, rfl, hk0, hk1⟩; dsimp only [zA, fA])) | (refine k_tt rfl (dTt ‹_›) ?_))
  exact k_rd (xs ++ s, kk - 1, q + 1) (by dsimp only; rw [List.length_append]; omega) (by dsimp only; omega) (by repeat' constructor) rfl (by repeat (first | exact List.nil_sublist _ | apply List.Sublist.cons_cons))
 ·repeat' (first | (refine jR ?_) | (refine k_op rfl ?_; first | refine c_bsl rfl rfl rfl rfl rfl rfl fun _ => ?_ | (refine jV (g_iaddr rfl rfl (by omega)) ?_) | (refine c_ldMS 64 rfl rfl rfl ?_ rfl (fun xs hxs => ?_); (focus ((simp only [List.length_append, List.length_cons, List.length_nil, List.length_take]; omega); done))) | (refine c_m1g rfl rfl rfl (c_pick ?_ (by (repeat (assumption)); done)) rfl ?_; (focus ((omega); done)); rintro _ _ ⟨k, rfl, rfl, hk0, hk1⟩; dsimp only [zA, fA])) | (refine k_ff rfl (dFf ‹_›) ?_) | refine k_if rfl (fun _ => ?_) (fun _ => ?_))
  all_goals exact k_rr (vs := [_]) rfl ⟨rfl, trivial⟩ rfl (by repeat (first | exact List.Sublist.refl _ | exact List.nil_sublist _ | apply List.Sublist.cons_cons)) ⟨rfl, _, _, rfl, by omega, rfl, by omega, by omega⟩
theorem c_l91Text {r : Nat} {code : Value} {p : Int} {l : List UInt8} (hp : 0 ≤ p ∧ p ≤ 900000000000) (hs : SlV G code 1 l.length (u8s l)) :
  FnG Tryz.prog 80 [Pt r 0] G [rdO r code p tRdr] (fun v L' => ∃ x q, v = S (39 :: (x ++ [39])) ∧ x.length ≤ 64 ∧ L' = [rdO r code q tRdr] ∧ p ≤ q ∧ q ≤ p + 10) := by
 refine jH [(0, _)] Tryz.func80 Tryz.ntmps80 fun B hB hW => ?_
 repeat' (first | (refine run (t := tb) 400 rfl ?_ ?_; (focus (repeat' (first | exact trivial | apply And.intro | (simp only [List.length_append, List.length_cons, List.length_nil, Int.toNat_natCast]; omega))))) | (refine k_op rfl ?_; first | refine c_bsl rfl rfl rfl rfl rfl rfl fun _ => ?_ | (refine jV (g_iaddr rfl rfl (by omega)) ?_) | (refine c_ldMS 64 rfl rfl rfl ?_ rfl (fun xs hxs => ?_); (focus ((simp only [List.length_append, List.length_cons, List.length_nil, List.length_take]; omega); done))) | (refine c_m1g rfl rfl rfl (c_pick ?_ (by (repeat (assumption)); done)) rfl ?_; (focus ((omega); done)); rintro _ _ ⟨k, rfl, rfl, hk0, hk1⟩; dsimp only [zA, fA])))
 exact k_rr (vs := [_]) rfl ⟨rfl, trivial⟩ rfl (by repeat (first | exact List.nil_sublist _ | apply List.Sublist.cons_cons)) ⟨rfl, xs, _, rfl, by omega, rfl, by omega, by omega⟩
theorem c_l91Field {r : Nat} {code : Value} {p tag : Int} {l so nm : List UInt8} (hp : 0 ≤ p ∧ p ≤ 800000000000) (hs : SlV G code 1 l.length (u8s l)) (ht : 0 ≤ tag ∧ tag ≤ 1000000) (hnm : nm.length ≤ 100) :
  FnG Tryz.prog 107 [Pt r 0, S so, I tag, S nm] G [rdO r code p tRdr] (fun v L' => ∃ x q, v = S x ∧ x.length ≤ 1000 ∧ L' = [rdO r code q tRdr] ∧ p ≤ q ∧ q ≤ p + 20) := by
 have hdl := decI_len (n := tag) (by omega)
 refine jH [(0, _), (1, _), (2, _), (3, _)] Tryz.func107 Tryz.ntmps107 fun B hB hW => ?_
 repeat' (first | (refine run (t := tb) 400 rfl ?_ ?_; (focus (repeat' (first | exact trivial | apply And.intro | omega | (simp only [List.length_append, List.length_cons, List.length_nil, Int.toNat_natCast]; omega))))) | (refine k_op rfl ?_; first | (refine jV (g_pickT rfl rfl rfl) ?_) | (refine jV (g_pickF rfl rfl rfl) ?_) | refine c_bsl rfl rfl rfl rfl rfl rfl fun _ => ?_ | (refine jV (g_iaddr rfl rfl (by omega)) ?_) | (refine c_ldMS 64 rfl rfl rfl ?_ rfl (fun xs hxs => ?_); (focus ((simp only [List.length_append, List.length_cons, List.length_nil, List.length_take]; omega); done))) | (refine c_rt rfl rfl rfl (c_l6Dec (by omega)) rfl ?_) | (refine c_m1g rfl rfl rfl (c_l91Kind ?_ (by (repeat (assumption)); done)) rfl ?_; (focus ((omega); done)); rintro _ _ ⟨kd, q1, rfl, hkd, rfl, hq1, hq2⟩; dsimp only [zA, fA]) | (refine c_m1g rfl rfl rfl (c_pick ?_ (by (repeat (assumption)); done)) rfl ?_; (focus ((omega); done)); rintro _ _ ⟨k, rfl, rfl, hk0, hk1⟩; dsimp only [zA, fA])) | refine k_g rfl rfl (fun _ => ?_) (fun _ => ?_) | (refine k_ff rfl rfl ?_) | refine k_if rfl (fun _ => ?_) (fun _ => ?_))
 all_goals exact k_rr (vs := [_]) rfl ⟨rfl, trivial⟩ rfl (by repeat (first | exact List.Sublist.refl _ | exact List.nil_sublist _ | apply List.Sublist.cons_cons)) ⟨rfl, _, _, rfl, by simp only [List.length_append, List.length_cons, List.length_nil]; omega, rfl, by omega, by omega⟩
theorem c_l91Type {r : Nat} {code : Value} {p : Int} {l so nm : List UInt8} (hp : 0 ≤ p ∧ p ≤ 700000000000) (hs : SlV G code 1 l.length (u8s l)) (hso : so.length ≤ 64) (hnm : nm.length ≤ 64) :
  FnG Tryz.prog 72 [Pt r 0, S so, S nm] G [rdO r code p tRdr] (fun v L' => ∃ x q, v = S x ∧ x.length ≤ 6000 ∧ 1 ≤ x.length ∧ L' = [rdO r code q tRdr] ∧ p ≤ q ∧ q ≤ p + 200) := by
 refine jH [(0, _), (1, _), (2, _)] Tryz.func72 Tryz.ntmps72 fun B hB hW => ?_
 repeat' (first | (refine run (t := tb) 400 rfl ?_ ?_; (focus (repeat' (first | exact trivial | apply And.intro | omega | (simp only [List.length_append, List.length_cons, List.length_nil, Int.toNat_natCast]; omega))))) | (refine k_op rfl ?_; first | (refine jV (g_pickT rfl rfl rfl) ?_) | (refine jV (g_pickF rfl rfl rfl) ?_) | (refine c_m1g rfl rfl rfl (c_pick ?_ (by (repeat (assumption)); done)) rfl ?_; (focus ((omega); done)); rintro _ _ ⟨k, rfl, rfl, hk0, hk1⟩; dsimp only [zA, fA])) | refine k_g rfl rfl (fun _ => ?_) (fun _ => ?_) | (refine k_ff rfl rfl ?_) | refine k_if rfl (fun _ => ?_) (fun _ => ?_))
 all_goals
  have cx_pk2 : ∀ {p : Int}, 0 ≤ p ∧ p ≤ 1000000000000 → FnG Tryz.prog 21 [Pt r 0, I 2] G [rdO r code p tRdr] (fun v L' => L' = [rdO r code (p + 1) tRdr] ∧ (v = I 0 ∨ v = I 1)) := fun {p} hp => (c_pick (b := r) (p := p) (n := 2) ⟨hp.1, hp.2, by decide⟩ hs).mono fun v G' L' ⟨h1, k, h2, h3, h4, h5⟩ => ⟨h1, h3, by subst h2; rcases (show k = 0 ∨ k = 1 by omega) with rfl | rfl; exact .inl rfl; exact .inr rfl⟩
  refine k_loop (ι := List UInt8 × Int × Int × Int × Int) (fun j => (0 ≤ j.2.2.1 ∧ j.2.2.1 ≤ j.2.2.2.1 ∧ j.2.2.2.1 ≤ 4) ∧ (0 ≤ j.2.1 ∧ j.2.1 ≤ 10 * j.2.2.1) ∧ (1 ≤ j.1.length ∧ ((j.1.length : Nat) : Int) ≤ 200 + 1001 * j.2.2.1) ∧ p ≤ j.2.2.2.2 ∧ j.2.2.2.2 ≤ p + 4 + 30 * j.2.2.1) (fun j => [(0, Pt r 0), (1, S so), (7, S j.1), (8, I j.2.1), (9, I j.2.2.2.1), (10, I j.2.2.1)]) (fun _ => G) (fun j => [rdO r code j.2.2.2.2 tRdr]) (fun j => (j.2.2.2.1 - j.2.2.1).toNat) (so ++ nm ++ [61], 0, 0, _, _) ?_ (by repeat' constructor) rfl sRr (fun j Hj => ?_)
  ·dsimp only; simp only [List.length_append, List.length_cons, List.length_nil]; omega
  obtain ⟨s, tag, kk, n, q⟩ := j
  dsimp only at Hj ⊢
  obtain ⟨hk, htg, hsl, hq0, hq1⟩ := Hj
  by_cases h1 : kk < n
  ·repeat' (first | (refine run (t := tb) 400 rfl ?_ ?_; (focus (repeat' (first | exact trivial | apply And.intro | omega | (simp only [List.length_append, List.length_cons, List.length_nil, Int.toNat_natCast]; omega))))) | (refine k_op rfl ?_; first | refine c_bsl rfl rfl rfl rfl rfl rfl fun _ => ?_ | refine jV (g_bsB rfl rfl (by (repeat (first | exact BL.nil | apply BL.cons)); done)) ?_ | (refine c_m1g rfl rfl rfl (cx_pk2 (by omega)) rfl ?_; rintro _ _ ⟨rfl, rfl | rfl⟩ <;> dsimp only [zA, fA]) | (refine c_m1g rfl rfl rfl (c_pick ?_ (by (repeat (assumption)); done)) rfl ?_; (focus ((omega); done)); rintro _ _ ⟨k, rfl, rfl, hk0, hk1⟩; dsimp only [zA, fA]) | (refine c_m1g rfl rfl rfl (c_l91Field ?_ (by (repeat (assumption)); done) ?_ ?_) rfl ?_; (focus ((omega); done)); (focus ((omega); done)); (focus ((simp; done); done)); rintro _ _ ⟨fd, q1, rfl, hfd, rfl, hq1, hq2⟩; dsimp only [zA, fA])) | (refine k_tt rfl (dTt ‹_›) ?_) | refine k_if rfl (fun _ => ?_) (fun _ => ?_))
   all_goals (refine k_rd (_, _, kk + 1, n, _) ?_ ?_ (by repeat' constructor) rfl (by repeat (first | exact List.nil_sublist _ | apply List.Sublist.cons_cons)))
   all_goals (first | (dsimp only; simp only [List.length_append, List.length_cons, List.length_nil]; omega) | (dsimp only; omega))
  ·repeat' (first | (refine run (t := tb) 400 rfl ?_ ?_; (focus (repeat' (first | exact trivial | apply And.intro | (simp only [List.length_append, List.length_cons, List.length_nil, Int.toNat_natCast]; omega))))) | (refine k_ff rfl (dFf ‹_›) ?_))
   exact k_rr (vs := [_]) rfl ⟨rfl, trivial⟩ rfl sRr ⟨rfl, _, _, rfl, by simp only [List.length_append, List.length_cons, List.length_nil]; omega, by simp only [List.length_append, List.length_cons, List.length_nil]; omega, rfl, by omega, by omega⟩
def DrawC (u : Value) (vs : List TyX) (k : List UInt8) (deep cp : Int) (ct : Nat) : Prop := ∀ (G : Gh) (r : Nat) (code : Value) (p : Int) (l : List UInt8), SchR G u vs → SlV G code 1 l.length (u8s l) → 0 ≤ p ∧ p + cp ≤ 600000000000 →
 FnM Tryz.prog 49 [Pt r 0, u, S k, I deep] G [rdO r code p tRdr] (fun v G' L' => ∃ w b q, v = Pt b 0 ∧ RepR G' (tys vs) w k b ∧ w.tot ≤ ct ∧ 1 ≤ w.out.length ∧ L' = [rdO r code q tRdr] ∧ p ≤ q ∧ q ≤ p + cp)
theorem DrawC.le {u : Value} {vs : List TyX} {k : List UInt8} {deep cp cp' : Int} {ct ct' : Nat} (h : DrawC u vs k deep cp ct) (h1 : cp ≤ cp') (h2 : ct ≤ ct') : DrawC u vs k deep cp' ct' := fun G r code p l h3 h4 h5 =>
 (h G r code p l h3 h4 ⟨h5.1, by omega⟩).mono fun _ _ _ ⟨h6, w, b, q, h7, h8, h9, h10, h11, h12, h13⟩ => ⟨h6, w, b, q, h7, h8, by omega, h10, h11, h12, by omega⟩
theorem dv_flag {u : Value} {vs : List TyX} {deep : Int} : DrawC u vs [102] deep 15 200 := by
 intro G r code p l hR hs hp
 have cx_pk2 : ∀ {p : Int}, 0 ≤ p ∧ p ≤ 1000000000000 → FnG Tryz.prog 21 [Pt r 0, I 2] G [rdO r code p tRdr] (fun v L' => L' = [rdO r code (p + 1) tRdr] ∧ (v = I 0 ∨ v = I 1)) := fun {p} hp => (c_pick (b := r) (p := p) (n := 2) ⟨hp.1, hp.2, by decide⟩ hs).mono fun v G' L' ⟨h1, k, h2, h3, h4, h5⟩ => ⟨h1, h3, by subst h2; rcases (show k = 0 ∨ k = 1 by omega) with rfl | rfl; exact .inl rfl; exact .inr rfl⟩
 refine m_enter [(0, _), (1, _), (2, _), (3, _)] Tryz.func49 (by kernel_rfl) Tryz.ntmps49 rfl rfl (by repeat' constructor) fun B hB hW => ?_
 repeat' (first | (refine run (t := tb) 400 rfl ?_ ?_; (focus (repeat' (first | exact trivial | apply And.intro | omega | (simp only [List.length_append, List.length_cons, List.length_nil, Int.toNat_natCast]; omega))))) | (refine k_op rfl ?_; first | refine jV (g_bld rfl rfl) ?_ | refine c_bx rfl rfl rfl fun _ => ?_ | refine c_bsl rfl rfl rfl rfl rfl rfl fun _ => ?_ | (refine jV (g_iaddr rfl rfl (by omega)) ?_) | refine jV (g_ld rfl rfl rfl) ?_ | refine c_st1 rfl rfl rfl rfl ?_ | (refine c_m1g rfl rfl rfl (cx_pk2 (by omega)) rfl ?_; rintro _ _ ⟨rfl, rfl | rfl⟩ <;> dsimp only [zA, fA])) | (refine k_tt rfl rfl ?_) | (refine k_ff rfl rfl ?_))
 all_goals rename_i y _
 all_goals refine Nx.sealC (b := y) fun G2 hG2 hsy => ?_
 ·exact k_rr (vs := [_]) rfl ⟨rfl, trivial⟩ rfl (by repeat (first | exact List.nil_sublist _ | apply List.Sublist.cons_cons)) ⟨hG2, .nd 102 [121, 101, 115] 0 [], y, _, rfl, .leaf 102 _ _ _ y hsy (.inr (.inr ⟨rfl, rfl, rfl, .inl rfl⟩)), by simp [nd_tot, V.tots], by rw [V.out]; simp [outW], rfl, by omega, by omega⟩
 ·exact k_rr (vs := [_]) rfl ⟨rfl, trivial⟩ rfl (by repeat (first | exact List.nil_sublist _ | apply List.Sublist.cons_cons)) ⟨hG2, .nd 102 [110, 111] 0 [], y, _, rfl, .leaf 102 _ _ _ y hsy (.inr (.inr ⟨rfl, rfl, rfl, .inr rfl⟩)), by simp [nd_tot, V.tots], by rw [V.out]; simp [outW], rfl, by omega, by omega⟩
abbrev tPtr4 : TypeId := 63
theorem dec_dg {m : Int} (h : 0 ≤ m) : ∀ c ∈ decI m, isDg c = true := (digF_decI m.toNat (Nat.le_refl _) h).2
theorem dv_num {u : Value} {vs : List TyX} {deep : Int} : DrawC u vs [110] deep 15 200 := by
 intro G r code p l hR hs hp
 refine m_enter [(0, _), (1, _), (2, _), (3, _)] Tryz.func49 (by kernel_rfl) Tryz.ntmps49 rfl rfl (by repeat' constructor) fun B hB hW => ?_
 repeat' (first | (refine run (t := tb) 400 rfl ?_ ?_; (focus (repeat' (first | exact trivial | apply And.intro | omega | (simp only [List.length_append, List.length_cons, List.length_nil, Int.toNat_natCast]; omega))))) | (refine k_op rfl ?_; first | refine jV (g_bld rfl rfl) ?_ | refine c_bx rfl rfl rfl fun _ => ?_ | refine c_bsl rfl rfl rfl rfl rfl rfl fun _ => ?_ | (refine jV (g_iaddr rfl rfl (by omega)) ?_) | (refine c_ldMI 999999 rfl rfl rfl ?_ ?_ (fun iz hz0 hz1 => ?_); (focus ((simp only [List.length_append, List.length_cons, List.length_nil, List.length_take]; omega); done)); (focus ((repeat' (first | exact intsIn_nil | (refine intsIn_cons ⟨by omega, by omega⟩ ?_))); done))) | refine c_st1 rfl rfl rfl rfl ?_ | (refine c_m1g rfl rfl rfl (c_pick ?_ (by (repeat (assumption)); done)) rfl ?_; (focus ((omega); done)); rintro _ _ ⟨k, rfl, rfl, hk0, hk1⟩; dsimp only [zA, fA]) | (refine c_rt rfl rfl rfl (c_l6Dec (by omega)) rfl ?_)) | (refine k_tt rfl rfl ?_))
 rename_i y _ _ _ _
 have hdl := decI_len (n := iz) (by omega)
 have hdp := decI_pos iz
 refine Nx.sealC (b := y) fun G2 hG2 hsy => ?_
 exact k_rr (vs := [_]) rfl ⟨rfl, trivial⟩ rfl (by repeat (first | exact List.nil_sublist _ | apply List.Sublist.cons_cons)) ⟨hG2, .nd 110 (decI iz) 0 [], y, _, rfl, .leaf 110 _ _ _ y hsy (.inl ⟨rfl, rfl, rfl, dec_dg hz0⟩), by rw [nd_tot, V.tots]; omega, by rw [V.out]; exact hdp, rfl, by omega, by omega⟩
theorem dv_txt {u : Value} {vs : List TyX} {deep : Int} : DrawC u vs [116] deep 15 200 := by
 intro G r code p l hR hs hp
 refine m_enter [(0, _), (1, _), (2, _), (3, _)] Tryz.func49 (by kernel_rfl) Tryz.ntmps49 rfl rfl (by repeat' constructor) fun B hB hW => ?_
 repeat' (first | (refine run (t := tb) 400 rfl ?_ ?_; (focus (repeat' (first | exact trivial | apply And.intro | omega | (simp only [List.length_append, List.length_cons, List.length_nil, Int.toNat_natCast]; omega))))) | (refine k_op rfl ?_; first | refine jV (g_bld rfl rfl) ?_ | refine c_bx rfl rfl rfl fun _ => ?_ | refine c_st1 rfl rfl rfl rfl ?_ | (refine c_m1g rfl rfl rfl (c_l91Text ?_ (by (repeat (assumption)); done)) rfl ?_; (focus ((omega); done)); rintro _ _ ⟨tx, q1, rfl, htx, rfl, hq1, hq2⟩; dsimp only [zA, fA])) | (refine k_tt rfl rfl ?_) | (refine k_ff rfl rfl ?_))
 rename_i y
 refine Nx.sealC (b := y) fun G2 hG2 hsy => ?_
 exact k_rr (vs := [_]) rfl ⟨rfl, trivial⟩ rfl sRr ⟨hG2, .nd 116 tx 0 [], y, _, rfl, .leaf 116 _ _ _ y hsy (.inr (.inl ⟨rfl, rfl, rfl⟩)), by rw [nd_tot, V.tots]; omega, by rw [V.out]; simp [outW], rfl, by omega, by omega⟩
theorem reps_snocR {ts : List Ty} {k : List UInt8} {ks : List V} {bs : List Nat} {w : V} {b : Nat} (hl : bs.length = ks.length) (h : ∀ i, i < ks.length → RepR G ts (nth ks i) k (nth bs i)) (hw : RepR G ts w k b) : ∀ i, i < (ks ++ [w]).length → RepR G ts (nth (ks ++ [w]) i) k (nth (bs ++ [b]) i) := fun i hi => by
 by_cases h1 : i < ks.length
 ·have e1 : nth (ks ++ [w]) i = nth ks i := by rw [nth_eq hi, nth_eq h1, List.getElem_append_left h1]
  have e2 : nth (bs ++ [b]) i = nth bs i := by rw [nth_eq (by simp; omega), nth_eq (by omega), List.getElem_append_left (by omega)]
  rw [e1, e2]; exact h i h1
 ·have h2 : i = ks.length := by simp at hi; omega
  have e1 : nth (ks ++ [w]) i = w := by rw [nth_eq hi]; simp [h2]
  have e2 : nth (bs ++ [b]) i = b := by rw [nth_eq (by simp; omega)]; simp [h2, hl]
  rw [e1, e2]; exact hw
theorem dv_list {u : Value} {vs : List TyX} {kd : List UInt8} {deep cp : Int} {ct : Nat} (hcp : 0 ≤ cp ∧ cp ≤ 100000000) (hct : ct ≤ 100000000) (hD : 0 < deep → DrawC u vs kd (deep - 1) cp ct) (hu : u.oneCell' = true) (hkl : kd.length ≤ 1000) (hd : -1000 ≤ deep ∧ deep ≤ 1000) : DrawC u vs (91 :: kd) deep (3 * cp + 10) (3 * ct + 200) := by
 intro G r code p l hR hs hp
 have hkd0 : bt (91 :: kd) (Int.toNat 0) = 91 := bt_zero 91 kd
 have hkl2 : (91 :: kd).length = kd.length + 1 := rfl
 refine m_enter [(0, _), (1, _), (2, _), (3, _)] Tryz.func49 (by kernel_rfl) Tryz.ntmps49 rfl rfl (by repeat' constructor) fun B hB hW => ?_
 repeat' (first | refine jM ?_ | (refine k_op rfl ?_; first | refine jV (g_bld rfl rfl) ?_ | refine c_bx rfl rfl rfl fun _ => ?_ | (refine c_m1g rfl rfl rfl (c_pick ?_ (by (repeat (assumption)); done)) rfl ?_; (focus ((omega); done)); rintro _ _ ⟨k, rfl, rfl, hk0, hk1⟩; dsimp only [zA, fA])) | (refine k_tt rfl rfl ?_) | (refine k_ff rfl rfl ?_))
 rename_i y
 refine Nx.addNil tPtr4 1 ?_
 refine k_loop (ι := List V × List Nat × Option Addr × Nat × Int × Int × Gh) (fun j => ((j.2.1.length = j.1.length ∧ ∀ i, i < j.1.length → RepR j.2.2.2.2.2.2 (tys vs) (nth j.1 i) kd (nth j.2.1 i)) ∧ Gh.le G j.2.2.2.2.2.2) ∧ (0 ≤ j.2.2.2.2.1 ∧ ((j.1.length : Nat) : Int) + j.2.2.2.2.1 ≤ 3) ∧ V.tots j.1 ≤ ct * j.1.length ∧ p ≤ j.2.2.2.2.2.1 ∧ j.2.2.2.2.2.1 ≤ p + 1 + cp * ((j.1.length : Nat) : Int)) (fun j => [(0, Pt r 0), (1, u), (2, S (91 :: kd)), (3, I deep), (9, Pt y 0), (10, I j.2.2.2.2.1)]) (fun j => j.2.2.2.2.2.2) (fun j => [.acc (.slice j.2.2.1 j.1.length j.2.2.2.1) tPtr4 1 j.1.length (rows ptR j.2.1), rdO r code j.2.2.2.2.2.1 tRdr, .blk y (.cells (List.toArray [S (91 :: kd), S [], nilS, .slice j.2.2.1 j.1.length j.2.2.2.1]) tLv (0, 0))]) (fun j => j.2.2.2.2.1.toNat) ([], [], none, 0, k, p + 1, G) ?_ (by repeat' constructor) rfl sRr (fun j Hj => ?_)
 ·refine ⟨⟨⟨rfl, fun i hi => absurd hi (by simp)⟩, Gh.le.refl _⟩, ?_, ?_, ?_, ?_⟩
  ·dsimp only; simp only [List.length_nil]; omega
  ·simp [V.tots]
  ·dsimp only; omega
  ·dsimp only; simp
 obtain ⟨ks, bs, a, c, kk, q, Gq⟩ := j
 dsimp only at Hj ⊢
 obtain ⟨⟨⟨hbl, hreps⟩, hgq⟩, hk, htt, hq0, hq1⟩ := Hj
 have hcl : cp * ((ks.length : Nat) : Int) ≤ cp * 3 := Int.mul_le_mul_of_nonneg_left (by omega) hcp.1
 have hcl0 : 0 ≤ cp * ((ks.length : Nat) : Int) := Int.mul_nonneg hcp.1 (by omega)
 have htl : ct * ks.length ≤ ct * 3 := Nat.mul_le_mul_left _ (by omega)
 by_cases hgo : 0 < kk ∧ 0 < deep
 ·obtain ⟨hk0, hd0⟩ := hgo
  have hcl3 : cp * ((ks.length : Nat) : Int) + cp ≤ cp * 3 := by
   have := Int.mul_le_mul_of_nonneg_left (show ((ks.length : Nat) : Int) + 1 ≤ 3 by omega) hcp.1
   rwa [Int.mul_add, Int.mul_one] at this
  have cx_dv := fun {p : Int} (hp : 0 ≤ p ∧ p + cp ≤ 600000000000) => hD hd0 Gq r code p l (hR.mono hgq) (hs.mono hgq) hp
  repeat' (first | (refine jR ?_) | (refine k_op rfl ?_; (refine jV (g_pickT rfl rfl rfl) ?_)) | (refine k_gt rfl rfl (dTt ‹_›) ?_) | (refine k_tt rfl (dTt ‹_›) ?_))
  (refine k_any (s_any (id := 16) [] (fun _ h => absurd h (by simp)) mixed ?_); refine jU 7 [0, 1, 2, 3, 5, 6, 7, 8, 9, 10] (bts 17 2031) ?_ ?_; (focus (repeat' (first | exact trivial | apply And.intro | omega))); refine x_all [4, 11] (by kernel_rfl) (by decide) ⟨?_, ?_, trivial⟩; (focus (refine x_opg rfl rfl ?_; (refine jV (g_ld rfl rfl rfl) ?_); refine jK (bts 17 2047) ?_; refine jA 11 rfl ?_; ((refine c_m1s rfl rfl rfl (cx_dv ?_) rfl ?_; (focus ((omega); done)); rintro _ G1 _ hle ⟨w1, b1, q1, rfl, hrep, htot, hone, rfl, hq1, hq2⟩; dsimp only [zA, fA]; skip)); refine jK (bts 17 4095) ?_; refine jA 12 rfl ?_; (refine c_bsl rfl rfl rfl rfl rfl rfl fun _ => ?_); refine jK (bts 17 8191) ?_; refine jA 13 rfl ?_; ((refine c_apX rfl rfl rfl rfl rfl rfl rfl rfl rfl ?_ fun _ _ => ?_; (focus ((omega); done)))); refine jK (bts 17 16383) ?_; refine jU 1 [14, 15] (bts 17 65535) ?_ ?_; (focus (repeat' (exact trivial))); refine jA 16 rfl ?_; (refine c_st1 rfl rfl rfl rfl ?_); refine jK (bts 17 131071) ?_; refine x_done (by kernel_rfl) (k_bk ?_))); rotate_left 1; (focus (refine x_opg rfl rfl ?_; ((refine c_m1s rfl rfl rfl (cx_dv ?_) rfl ?_; (focus ((omega); done)); rintro _ G1 _ hle ⟨w1, b1, q1, rfl, hrep, htot, hone, rfl, hq1, hq2⟩; dsimp only [zA, fA]; skip)); refine jK (bts 17 4079) ?_; refine x_all [4, 12] (by kernel_rfl) (by decide) ⟨?_, ?_, trivial⟩; (focus (refine x_opg rfl rfl ?_; (refine jV (g_ld rfl rfl rfl) ?_); refine jK (bts 17 4095) ?_; refine jA 12 rfl ?_; (refine c_bsl rfl rfl rfl rfl rfl rfl fun _ => ?_); refine jK (bts 17 8191) ?_; refine jA 13 rfl ?_; ((refine c_apX rfl rfl rfl rfl rfl rfl rfl rfl rfl ?_ fun _ _ => ?_; (focus ((omega); done)))); refine jK (bts 17 16383) ?_; refine jU 1 [14, 15] (bts 17 65535) ?_ ?_; (focus (repeat' (exact trivial))); refine jA 16 rfl ?_; (refine c_st1 rfl rfl rfl rfl ?_); refine jK (bts 17 131071) ?_; refine x_done (by kernel_rfl) (k_bk ?_))); rotate_left 1; (focus (refine x_opg rfl rfl ?_; (refine c_bsl rfl rfl rfl rfl rfl rfl fun _ => ?_); refine jK (bts 17 8175) ?_; refine jA 4 rfl ?_; (refine jV (g_ld rfl rfl rfl) ?_); refine jK (bts 17 8191) ?_; refine jA 13 rfl ?_; ((refine c_apX rfl rfl rfl rfl rfl rfl rfl rfl rfl ?_ fun _ _ => ?_; (focus ((omega); done)))); refine jK (bts 17 16383) ?_; refine jU 1 [14, 15] (bts 17 65535) ?_ ?_; (focus (repeat' (exact trivial))); refine jA 16 rfl ?_; (refine c_st1 rfl rfl rfl rfl ?_); refine jK (bts 17 131071) ?_; refine x_done (by kernel_rfl) (k_bk ?_))); rotate_left 1)); rotate_left 2)
  all_goals repeat' (refine jM ?_)
  all_goals
   rename_i _ y1 yc
   have hl1 : (ks ++ [w1]).length = ks.length + 1 := by simp
   have hms : ct * (ks.length + 1) = ct * ks.length + ct := Nat.mul_succ _ _
   have hts : V.tots (ks ++ [w1]) = V.tots ks + w1.tot := by simp [tots_app, V.tots]
   rw [show rows ptR bs ++ [Pt b1 0] = rows ptR (bs ++ [b1]) from (rows_snoc ptR bs b1).symm]
   exact k_rd (ks ++ [w1], bs ++ [b1], some ⟨y1, 0, none⟩, yc, kk - 1, q1, G1) ⟨⟨⟨by simp [hbl], reps_snocR hbl (fun i hi => (hreps i hi).mono hle) hrep⟩, hgq.trans hle⟩, by dsimp only; rw [hl1]; omega, by dsimp only; rw [hl1, hms, hts]; omega, by dsimp only; omega, by dsimp only; rw [hl1, Int.natCast_succ, Int.mul_add, Int.mul_one]; omega⟩ (by dsimp only; omega) (by repeat' constructor) rfl (by rw [hl1]; repeat (first | exact List.Sublist.refl _ | apply List.Sublist.cons_cons | apply List.Sublist.cons))
 ·have : kk = 0 ∨ deep ≤ 0 := by omega
  repeat' (first | (refine jR ?_) | (refine k_op rfl ?_; first | (refine jV (g_pickT rfl rfl rfl) ?_) | (refine jV (g_pickF rfl rfl rfl) ?_)) | refine k_g rfl rfl (fun _ => ?_) (fun _ => ?_) | (refine k_ff rfl (by first | rfl | (refine decide_eq_false ?_; (omega))) ?_))
  all_goals
   refine Nx.sealS (v := .slice a ks.length c) fun G2 hG2 hsl => ?_
   refine Nx.sealC (b := y) fun G3 hG3 hsg => ?_
   exact k_rr (vs := [_]) rfl ⟨rfl, trivial⟩ rfl sRr ⟨hgq.trans (hG2.trans hG3), .nd 91 [] 0 ks, y, q, rfl, .lst kd y ks bs a c hsg (hsl.mono hG3) hbl (fun i hi => (hreps i hi).mono (hG2.trans hG3)), by rw [nd_tot]; simp only [List.length_nil]; omega, by rw [V.out]; simp [outW], rfl, by omega, by omega⟩
theorem dv_opt {u : Value} {vs : List TyX} {kd : List UInt8} {deep cp : Int} {ct : Nat} (hcp : 0 ≤ cp ∧ cp ≤ 100000000) (hct : ct ≤ 100000000) (hD : 0 < deep → DrawC u vs kd (deep - 1) cp ct) (hu : u.oneCell' = true) (hkl : kd.length ≤ 1000) (hd : -1000 ≤ deep ∧ deep ≤ 1000) : DrawC u vs (63 :: kd) deep (cp + 10) (ct + 200) := by
 intro G r code p l hR hs hp
 have hkd0 : bt (63 :: kd) (Int.toNat 0) = 63 := bt_zero 63 kd
 have hkl2 : (63 :: kd).length = kd.length + 1 := rfl
 by_cases h0 : 0 < deep
 ·have cx_dv := fun {p : Int} (hp : 0 ≤ p ∧ p + cp ≤ 600000000000) => hD h0 G r code p l hR hs hp
  refine m_enter [(0, _), (1, _), (2, _), (3, _)] Tryz.func49 (by kernel_rfl) Tryz.ntmps49 rfl rfl (by repeat' constructor) fun B hB hW => ?_
  repeat' (first | refine jM ?_ | (refine k_op rfl ?_; first | refine jV (g_bld rfl rfl) ?_ | refine c_bx rfl rfl rfl fun _ => ?_ | (refine jV (g_pickT rfl rfl rfl) ?_) | (refine c_m1g rfl rfl rfl (c_pick ?_ (by (repeat (assumption)); done)) rfl ?_; (focus ((omega); done)); rintro _ _ ⟨k, rfl, rfl, hk0, hk1⟩; dsimp only [zA, fA])) | (refine k_gt rfl rfl (dTt ‹_›) ?_) | (refine k_tt rfl rfl ?_) | (refine k_ff rfl rfl ?_) | refine k_if rfl (fun _ => ?_) (fun _ => ?_))
  ·refine Nx.addNil tPtr4 1 ?_
   (refine k_any (s_any (id := 20) [] (fun _ h => absurd h (by simp)) mixed ?_); refine jU 7 [0, 1, 2, 3, 5, 6, 7, 8, 9, 10] (bts 17 2031) ?_ ?_; (focus (repeat' (first | exact trivial | apply And.intro | omega))); refine x_all [4, 11] (by kernel_rfl) (by decide) ⟨?_, ?_, trivial⟩; (focus (refine x_opg rfl rfl ?_; (refine jV (g_ld rfl rfl rfl) ?_); refine jK (bts 17 2047) ?_; refine jA 11 rfl ?_; ((refine c_m1s rfl rfl rfl (cx_dv ?_) rfl ?_; (focus ((omega); done)); rintro _ G1 _ hle ⟨w1, b1, q1, rfl, hrep, htot, hone, rfl, hq1, hq2⟩; dsimp only [zA, fA]; skip)); refine jK (bts 17 4095) ?_; refine jA 12 rfl ?_; (refine c_bsl rfl rfl rfl rfl rfl rfl fun _ => ?_); refine jK (bts 17 8191) ?_; refine jA 13 rfl ?_; ((refine c_apX rfl rfl rfl rfl rfl rfl rfl rfl rfl ?_ fun _ _ => ?_; (focus ((omega); done)))); refine jK (bts 17 16383) ?_; refine jU 1 [14, 15] (bts 17 65535) ?_ ?_; (focus (repeat' (exact trivial))); refine jA 16 rfl ?_; (refine c_st1 rfl rfl rfl rfl ?_); refine jK (bts 17 131071) ?_; refine x_done (by kernel_rfl) (k_bk ?_))); rotate_left 1; (focus (refine x_opg rfl rfl ?_; ((refine c_m1s rfl rfl rfl (cx_dv ?_) rfl ?_; (focus ((omega); done)); rintro _ G1 _ hle ⟨w1, b1, q1, rfl, hrep, htot, hone, rfl, hq1, hq2⟩; dsimp only [zA, fA]; skip)); refine jK (bts 17 4079) ?_; refine x_all [4, 12] (by kernel_rfl) (by decide) ⟨?_, ?_, trivial⟩; (focus (refine x_opg rfl rfl ?_; (refine jV (g_ld rfl rfl rfl) ?_); refine jK (bts 17 4095) ?_; refine jA 12 rfl ?_; (refine c_bsl rfl rfl rfl rfl rfl rfl fun _ => ?_); refine jK (bts 17 8191) ?_; refine jA 13 rfl ?_; ((refine c_apX rfl rfl rfl rfl rfl rfl rfl rfl rfl ?_ fun _ _ => ?_; (focus ((omega); done)))); refine jK (bts 17 16383) ?_; refine jU 1 [14, 15] (bts 17 65535) ?_ ?_; (focus (repeat' (exact trivial))); refine jA 16 rfl ?_; (refine c_st1 rfl rfl rfl rfl ?_); refine jK (bts 17 131071) ?_; refine x_done (by kernel_rfl) (k_bk ?_))); rotate_left 1; (focus (refine x_opg rfl rfl ?_; (refine c_bsl rfl rfl rfl rfl rfl rfl fun _ => ?_); refine jK (bts 17 8175) ?_; refine jA 4 rfl ?_; (refine jV (g_ld rfl rfl rfl) ?_); refine jK (bts 17 8191) ?_; refine jA 13 rfl ?_; ((refine c_apX rfl rfl rfl rfl rfl rfl rfl rfl rfl ?_ fun _ _ => ?_; (focus ((omega); done)))); refine jK (bts 17 16383) ?_; refine jU 1 [14, 15] (bts 17 65535) ?_ ?_; (focus (repeat' (exact trivial))); refine jA 16 rfl ?_; (refine c_st1 rfl rfl rfl rfl ?_); refine jK (bts 17 131071) ?_; refine x_done (by kernel_rfl) (k_bk ?_))); rotate_left 1)); rotate_left 2)
   all_goals repeat' (refine jR ?_)
   all_goals
    rename_i y _ _ y1 yc
    refine Nx.sealS (v := .slice (some ⟨y1, 0, none⟩) (0 + 1) yc) fun G2 hG2 hsl => ?_
    refine Nx.sealC (b := y) fun G3 hG3 hsg => ?_
    obtain ⟨_, ⟨h, _⟩ | ⟨b2, o2, c2, e, hc2, hs2⟩⟩ := hsl
    ·cases h
    simp only [Value.slice.injEq, Option.some.injEq, Addr.mk.injEq, and_true] at e
    obtain ⟨⟨rfl, rfl⟩, -, rfl⟩ := e
    exact k_rr (vs := [_]) rfl ⟨rfl, trivial⟩ rfl (by repeat (first | exact List.Sublist.refl _ | apply List.Sublist.cons)) ⟨hle.trans (hG2.trans hG3), .nd 63 [] 0 [w1], y, q1, rfl, .opt kd y y1 b1 yc w1 (by omega) hsg (hs2.mono hG3) (hrep.mono (hG2.trans hG3)), by simp only [nd_tot, V.tots, List.length_nil]; omega, by rw [V.out]; simp [outW], rfl, by omega, by omega⟩
  ·rename_i y _
   refine Nx.sealC (b := y) fun G2 hG2 hsy => ?_
   exact k_rr (vs := [_]) rfl ⟨rfl, trivial⟩ rfl sRr ⟨hG2, .nd 63 [] 0 [], y, _, rfl, .non kd y hsy, by simp [nd_tot, V.tots], by rw [V.out]; simp [outW], rfl, by omega, by omega⟩
 ·refine m_enter [(0, _), (1, _), (2, _), (3, _)] Tryz.func49 (by kernel_rfl) Tryz.ntmps49 rfl rfl (by repeat' constructor) fun B hB hW => ?_
  repeat' (first | refine jM ?_ | (refine k_op rfl ?_; first | refine jV (g_bld rfl rfl) ?_ | refine c_bx rfl rfl rfl fun _ => ?_ | (refine jV (g_pickF rfl rfl rfl) ?_)) | (refine k_gf rfl rfl (dFf ‹_›) ?_) | (refine k_tt rfl rfl ?_) | (refine k_ff rfl rfl ?_))
  rename_i y
  refine Nx.sealC (b := y) fun G2 hG2 hsy => ?_
  exact k_rr (vs := [_]) rfl ⟨rfl, trivial⟩ rfl sRr ⟨hG2, .nd 63 [] 0 [], y, _, rfl, .non kd y hsy, by simp [nd_tot, V.tots], by rw [V.out]; simp [outW], rfl, by omega, by omega⟩
abbrev tTyG : TypeId := 131
abbrev tPtr5 : TypeId := 63
abbrev tInt5 : TypeId := 3
def DrawT (u : Value) (vs : List TyX) (k : List UInt8) (deep cp : Int) (ct : Nat) : Prop := ∀ (G : Gh) (r : Nat) (code : Value) (p : Int) (l : List UInt8), SchR G u vs → SlV G code 1 l.length (u8s l) → 0 ≤ p ∧ p + cp ≤ 600000000000 →
 FnM Tryz.prog 81 [Pt r 0, u, S k, I deep] G [rdO r code p tRdr] (fun v G' L' => ∃ w b q, v = Pt b 0 ∧ RepR G' (tys vs) w k b ∧ w.tot ≤ ct ∧ 1 ≤ w.out.length ∧ L' = [rdO r code q tRdr] ∧ p ≤ q ∧ q ≤ p + cp)
theorem dv_typed {u : Value} {vs : List TyX} {k : List UInt8} {deep cp : Int} {ct : Nat} (hD : DrawT u vs (64 :: k) deep cp ct) (hkl : k.length ≤ 1000) : DrawC u vs (64 :: k) deep cp ct := by
 intro G r code p l hR hs hp
 have hkd0 : bt (64 :: k) (Int.toNat 0) = 64 := bt_zero 64 k
 have hkl2 : (64 :: k).length = k.length + 1 := rfl
 have cx_dt := fun {p : Int} (hp : 0 ≤ p ∧ p + cp ≤ 600000000000) => hD G r code p l hR hs hp
 refine m_enter [(0, _), (1, _), (2, _), (3, _)] Tryz.func49 (by kernel_rfl) Tryz.ntmps49 rfl rfl (by repeat' constructor) fun B hB hW => ?_
 repeat' (first | refine jM ?_ | (refine k_op rfl ?_; first | refine jV (g_bld rfl rfl) ?_ | refine c_bx rfl rfl rfl fun _ => ?_ | (refine c_m1s rfl rfl rfl (cx_dt ‹_›) rfl ?_; rintro _ G1 _ hle ⟨w1, b1, q1, rfl, hrep, htot, hone, rfl, hq1, hq2⟩; dsimp only [zA, fA]; skip)) | (refine k_ff rfl rfl ?_))
 exact k_rr (vs := [_]) rfl ⟨rfl, trivial⟩ rfl (by repeat (first | exact List.nil_sublist _ | apply List.Sublist.cons_cons)) ⟨hle, w1, b1, q1, rfl, hrep, htot, hone, rfl, hq1, hq2⟩
section
variable {u : Value} {vs : List TyX} {kd nm : List UInt8} {fs : List Fld} {a : Option Addr} {ca : Nat} {deep cp : Int} {ct : Nat}
theorem dt_enm (hr : refV vs kd = some ((a, ca), ⟨69, nm, fs⟩)) (hvl : vs.length ≤ 1000000) (hk : kOk kd = true) (hkl : kd.length ≤ 1000) (h0 : 0 < fs.length) (h8 : fs.length ≤ 8) (hw : SchW (tys vs)) : DrawT u vs kd deep 10 300 := by
 intro G r code p l hR hs hp
 have href := refV_ty vs kd
 rw [hr] at href
 have cx_rf := c_ref (G := G) (k := kd) hR hvl hk (by omega)
 rw [hr] at cx_rf
 have htm := refT_mem href.symm
 obtain ⟨bf, of, cf, ef, hsf⟩ := (hR.fl _ (refV_mem hr)).expl h0
 simp only [slX, Value.slice.injEq] at ef
 obtain ⟨rfl, -, rfl⟩ := ef
 dsimp only at hsf
 have cx_rf : PuG Tryz.prog 98 [u, S kd] G (· = Tu [Ag [U8 (69 : Nat), S nm, .slice (some ⟨bf, of, none⟩) fs.length ca], Bo true]) := cx_rf
 refine m_enter [(0, _), (1, _), (2, _), (3, _)] Tryz.func81 (by kernel_rfl) Tryz.ntmps81 rfl rfl (by repeat' constructor) fun B hB hW => ?_
 repeat' (first | (refine jR ?_) | (refine k_op rfl ?_; first | refine c_al rfl rfl fun _ => ?_ | refine c_stA rfl rfl rfl rfl rfl rfl ?_ | refine jV (g_ld rfl rfl rfl) ?_ | refine c_bsl rfl rfl rfl rfl rfl rfl fun _ => ?_ | refine jV (g_bsB rfl rfl (by (repeat (first | exact BL.nil | apply BL.lit rfl)); done)) ?_ | refine jV (g_bld rfl rfl) ?_ | refine c_bx rfl rfl rfl fun _ => ?_ | (refine c_rt rfl rfl rfl cx_rf rfl ?_)) | (refine k_tt rfl rfl ?_))
 rename_i y9 _ y11
 (refine k_any (s_any (id := 5) [.blk y9 (.cells (List.toArray [U8 (69 : Nat), S nm, .slice (some ⟨bf, of, none⟩) fs.length ca]) tTyG (0, 0))] (by intro y hy; simp only [List.mem_cons, List.not_mem_nil, or_false] at hy ⊢; simp [hy]) mixed ?_); refine jU 11 [0, 1, 3, 4] (bts 15 27) ?_ ?_; (focus (repeat' (exact trivial))); (refine jG (bts 15 31) 2 rfl (g_ld rfl rfl rfl) ?_); (refine jG (bts 15 63) 5 rfl (g_ld rfl rfl rfl) ?_); (refine jG (bts 15 127) 6 rfl (g_lenL rfl) ?_); refine jA 7 rfl ?_; ((refine c_m1g rfl rfl rfl (c_pick ?_ (by (repeat (assumption)); done)) rfl ?_; (focus ((omega); done)); rintro _ _ ⟨k, rfl, rfl, hk0, hk1⟩; dsimp only [zA, fA])); refine jK (bts 15 255) ?_; ((refine jG (bts 15 511) 8 rfl (g_iaddr rfl rfl ?_) ?_; (focus ((omega); done)))); refine jU 5 [9] (bts 15 1023) ?_ ?_; (focus (repeat' (exact trivial))); ((refine jG (bts 15 2047) 10 rfl (g_ldRF rfl rfl (by assumption) ?_ rfl rfl) ?_; (focus ((omega); done)))); refine jA 11 rfl ?_; (refine c_bsl rfl rfl rfl rfl rfl rfl fun _ => ?_); refine jK (bts 15 4095) ?_; refine jU 1 [12, 13] (bts 15 16383) ?_ ?_; (focus (repeat' (exact trivial))); refine jA 14 rfl ?_; (refine c_st1 rfl rfl rfl rfl ?_); refine jK (bts 15 32767) ?_; refine x_done (by kernel_rfl) (k_bk ?_))
 all_goals repeat' (refine jR ?_)
 all_goals
  rename_i y1
  refine Nx.sealC (b := y1) fun G2 hG2 hsy => ?_
  refine Nx.sealC (b := y11) fun G3 hG3 hsg => ?_
  have hdm : nth fs k.toNat ∈ fs := nth_mem (by omega)
  exact k_rr (vs := [_]) rfl ⟨rfl, trivial⟩ rfl (by repeat (first | exact List.nil_sublist _ | apply List.Sublist.cons_cons)) ⟨hG2.trans hG3, .nd 69 [] (nth fs k.toNat).tag [], y11, _, rfl, .enm kd y11 y1 ⟨69, nm, fs⟩ (nth fs k.toNat) ⟨href.symm, rfl⟩ hdm hsg (hsy.mono hG3), by simp [nd_tot, V.tots], by rw [V.out]; simp [outW], rfl, by omega, by omega⟩
theorem dt_uni (hr : refV vs kd = some ((a, ca), ⟨85, nm, fs⟩)) (hvl : vs.length ≤ 1000000) (hk : kOk kd = true) (hkl : kd.length ≤ 1000) (h0 : 0 < fs.length) (h8 : fs.length ≤ 8) (hw : SchW (tys vs)) (hcp : 0 ≤ cp ∧ cp ≤ 100000000) (hct : ct ≤ 100000000)
  (hD : ∀ d ∈ fs, (0 < deep ∨ d = nth fs 0) → DrawC u vs d.kind (deep - 1) cp ct) (hd : -1000 ≤ deep ∧ deep ≤ 1000) : DrawT u vs kd deep (cp + 10) (ct + 20) := by
 intro G r code p l hR hs hp
 have href := refV_ty vs kd
 rw [hr] at href
 have cx_rf := c_ref (G := G) (k := kd) hR hvl hk (by omega)
 rw [hr] at cx_rf
 have htm := refT_mem href.symm
 obtain ⟨bf, of, cf, ef, hsf⟩ := (hR.fl _ (refV_mem hr)).expl h0
 simp only [slX, Value.slice.injEq] at ef
 obtain ⟨rfl, -, rfl⟩ := ef
 dsimp only at hsf
 have cx_rf : PuG Tryz.prog 98 [u, S kd] G (· = Tu [Ag [U8 (85 : Nat), S nm, .slice (some ⟨bf, of, none⟩) fs.length ca], Bo true]) := cx_rf
 refine m_enter [(0, _), (1, _), (2, _), (3, _)] Tryz.func81 (by kernel_rfl) Tryz.ntmps81 rfl rfl (by repeat' constructor) fun B hB hW => ?_
 repeat' (first | refine jM ?_ | (refine k_op rfl ?_; first | refine c_al rfl rfl fun _ => ?_ | refine c_st1 rfl rfl rfl rfl ?_ | refine c_stA rfl rfl rfl rfl rfl rfl ?_ | refine jV (g_ld rfl rfl rfl) ?_ | (refine jV (g_ldR rfl rfl (by assumption) ?_) ?_; (focus ((omega); done))) | refine c_bsl rfl rfl rfl rfl rfl rfl fun _ => ?_ | refine jV (g_bsB rfl rfl (by (repeat (first | exact BL.nil | apply BL.lit rfl)); done)) ?_ | refine jV (g_bld rfl rfl) ?_ | refine c_bx rfl rfl rfl fun _ => ?_ | (refine jV (g_iaddrN rfl rfl (by omega)) ?_) | (refine c_rt rfl rfl rfl cx_rf rfl ?_)) | (refine k_tt rfl rfl ?_) | (refine k_ff rfl rfl ?_) | refine k_if rfl (fun _ => ?_) (fun _ => ?_))
 ·rename_i y9 _ y11 y12 hd0
  (refine k_any (s_any (id := 10) [.blk y9 (.cells (List.toArray [U8 (85 : Nat), S nm, .slice (some ⟨bf, of, none⟩) fs.length ca]) tTyG (0, 0))] (by intro y hy; simp only [List.mem_cons, List.not_mem_nil, or_false] at hy ⊢; simp [hy]) mixed ?_); refine jU 7 [0, 2, 3] (bts 10 13) ?_ ?_; (focus (repeat' (exact trivial))); (refine jG (bts 10 15) 1 rfl (g_ld rfl rfl rfl) ?_); (refine jG (bts 10 31) 4 rfl (g_ld rfl rfl rfl) ?_); (refine jG (bts 10 63) 5 rfl (g_lenL rfl) ?_); refine jA 6 rfl ?_; ((refine c_m1g rfl rfl rfl (c_pick ?_ (by (repeat (assumption)); done)) rfl ?_; (focus ((omega); done)); rintro _ _ ⟨k, rfl, rfl, hk0, hk1⟩; dsimp only [zA, fA])); refine jK (bts 10 127) ?_; ((refine jG (bts 10 255) 7 rfl (g_iaddr rfl rfl ?_) ?_; (focus ((omega); done)))); ((refine jG (bts 10 511) 8 rfl (g_ldR rfl rfl (by assumption) ?_) ?_; (focus ((omega); done)))); refine jA 9 rfl ?_; (refine c_stA rfl rfl rfl rfl rfl rfl ?_); refine jK (bts 10 1023) ?_; refine x_done (by kernel_rfl) (k_bk ?_))
  all_goals have hdm : nth fs k.toNat ∈ fs := nth_mem (by omega)
  all_goals have cx_dv := fun {p : Int} (hp : 0 ≤ p ∧ p + cp ≤ 600000000000) => hD (nth fs k.toNat) hdm (.inl hd0) G r code p l hR hs hp
  all_goals repeat' (first | refine jM ?_ | (refine k_op rfl ?_; first | refine c_st1 rfl rfl rfl rfl ?_ | refine jV (g_ld rfl rfl rfl) ?_ | refine c_bsl rfl rfl rfl rfl rfl rfl fun _ => ?_ | (refine c_m1s rfl rfl rfl (cx_dv (by omega)) rfl ?_; rintro _ G1 _ hle ⟨w1, b1, q1, rfl, hrep, htot, hone, rfl, hq1, hq2⟩; dsimp only [zA, fA]; skip)))
  all_goals
   rename_i y1 y2
   refine Nx.sealC (b := y1) fun G2 hG2 hs1 => ?_
   refine Nx.sealC (b := y2) fun G3 hG3 hs2 => ?_
   refine Nx.sealC (b := y11) fun G4 hG4 hsg => ?_
   exact k_rr (vs := [_]) rfl ⟨rfl, trivial⟩ rfl (by repeat (first | exact List.nil_sublist _ | apply List.Sublist.cons_cons)) ⟨((hle.trans hG2).trans hG3).trans hG4, .nd 85 [] (nth fs k.toNat).tag [w1], y11, _, rfl, .uni kd y11 y1 y2 b1 1 ⟨85, nm, fs⟩ (nth fs k.toNat) w1 (Nat.le_refl _) ⟨href.symm, rfl⟩ hdm hsg (hs1.mono (hG3.trans hG4)) (hs2.mono hG4) (hrep.mono ((hG2.trans hG3).trans hG4)), by simp only [nd_tot, V.tots, List.length_nil]; omega, by rw [V.out]; simp [outW], rfl, by omega, by omega⟩
 ·have cx_dv := fun {p : Int} (hp : 0 ≤ p ∧ p + cp ≤ 600000000000) => hD (nth fs 0) (nth_mem h0) (.inr rfl) G r code p l hR hs hp
  repeat' (first | (refine jR ?_) | (refine k_op rfl ?_; first | refine c_st1 rfl rfl rfl rfl ?_ | refine c_bsl rfl rfl rfl rfl rfl rfl fun _ => ?_ | (refine c_m1s rfl rfl rfl (cx_dv (by omega)) rfl ?_; rintro _ G1 _ hle ⟨w1, b1, q1, rfl, hrep, htot, hone, rfl, hq1, hq2⟩; dsimp only [zA, fA]; skip)))
  all_goals
   rename_i y9 _ y11 y12 _ y1 y2
   refine Nx.sealC (b := y1) fun G2 hG2 hs1 => ?_
   refine Nx.sealC (b := y2) fun G3 hG3 hs2 => ?_
   refine Nx.sealC (b := y11) fun G4 hG4 hsg => ?_
   exact k_rr (vs := [_]) rfl ⟨rfl, trivial⟩ rfl (by repeat (first | exact List.nil_sublist _ | apply List.Sublist.cons_cons)) ⟨((hle.trans hG2).trans hG3).trans hG4, .nd 85 [] (nth fs 0).tag [w1], y11, _, rfl, .uni kd y11 y1 y2 b1 1 ⟨85, nm, fs⟩ (nth fs 0) w1 (Nat.le_refl _) ⟨href.symm, rfl⟩ (nth_mem h0) hsg (hs1.mono (hG3.trans hG4)) (hs2.mono hG4) (hrep.mono ((hG2.trans hG3).trans hG4)), by simp only [nd_tot, V.tots, List.length_nil]; omega, by rw [V.out]; simp [outW], rfl, by omega, by omega⟩
theorem dt_rec0 (hr : refV vs kd = some ((a, ca), ⟨82, nm, fs⟩)) (hvl : vs.length ≤ 1000000) (hk : kOk kd = true) (hkl : kd.length ≤ 1000) (h8 : fs.length ≤ 8) (hd : -1000 ≤ deep ∧ deep ≤ 0) : DrawT u vs kd deep 10 100 := by
 intro G r code p l hR hs hp
 have href := refV_ty vs kd
 rw [hr] at href
 have cx_rf := c_ref (G := G) (k := kd) hR hvl hk (by omega)
 rw [hr] at cx_rf
 have cx_rf : PuG Tryz.prog 98 [u, S kd] G (· = Tu [Ag [U8 (82 : Nat), S nm, .slice a fs.length ca], Bo true]) := cx_rf
 refine m_enter [(0, _), (1, _), (2, _), (3, _)] Tryz.func81 (by kernel_rfl) Tryz.ntmps81 rfl rfl (by repeat' constructor) fun B hB hW => ?_
 repeat' (first | (refine jR ?_) | (refine k_op rfl ?_; first | refine c_al rfl rfl fun _ => ?_ | refine c_stA rfl rfl rfl rfl rfl rfl ?_ | refine jV (g_ld rfl rfl rfl) ?_ | refine c_bsl rfl rfl rfl rfl rfl rfl fun _ => ?_ | refine jV (g_bsB rfl rfl (by (repeat (first | exact BL.nil | apply BL.lit rfl)); done)) ?_ | refine jV (g_bld rfl rfl) ?_ | refine c_bx rfl rfl rfl fun _ => ?_ | (refine c_rt rfl rfl rfl cx_rf rfl ?_)) | (refine k_ff rfl rfl ?_))
 rename_i y9 _ y11
 refine k_loop (ι := Unit) (fun i => True) (fun i => [(0, Pt r 0), (1, u), (2, S kd), (3, I deep), (9, Pt y9 0), (11, Pt y11 0), (13, I 0)]) (fun _ => G) (fun i => [.blk y11 (.cells (List.toArray [S kd, S [82], nilS, nilS]) tLv (0, 0)), .blk y9 (.cells (List.toArray [U8 (82 : Nat), S nm, .slice a fs.length ca]) tTyG (0, 0)), rdO r code p tRdr]) (fun i => 0) () ?_ (by repeat' constructor) rfl (by repeat (first | exact List.Sublist.refl _ | apply List.Sublist.cons_cons | apply List.Sublist.cons)) (fun i Hi => ?_)
 ·trivial
 by_cases h0 : 0 < fs.length
 all_goals repeat' (first | (refine jR ?_) | (refine k_op rfl ?_; first | refine jV (g_ld rfl rfl rfl) ?_ | refine jV (g_lenL rfl) ?_ | (refine jV (g_pickT rfl rfl rfl) ?_) | (refine jV (g_pickF rfl rfl rfl) ?_)) | (refine k_gt rfl rfl (dTt (by omega)) ?_) | (refine k_gf rfl rfl (dFf (by omega)) ?_) | (refine k_ff rfl (by first | rfl | (refine decide_eq_false ?_; (omega))) ?_))
 all_goals
  refine Nx.sealC (b := y11) fun G2 hG2 hsg => ?_
  exact k_rr (vs := [_]) rfl ⟨rfl, trivial⟩ rfl (by repeat (first | exact List.Sublist.refl _ | apply List.Sublist.cons)) ⟨hG2, .nd 82 [] 0 [], y11, p, rfl, .recd kd y11 ⟨82, nm, fs⟩ [] [] none none 0 0 ⟨href.symm, rfl⟩ hsg ⟨rfl, .inl ⟨rfl, rfl⟩⟩ ⟨rfl, .inl ⟨rfl, rfl⟩⟩ rfl (fun i hi => absurd hi (by simp)) (fun i hi => absurd hi (by simp)), by simp [nd_tot, V.tots], by rw [V.out]; simp [outW], rfl, by omega, by omega⟩
theorem dt_rec (hr : refV vs kd = some ((a, ca), ⟨82, nm, fs⟩)) (hvl : vs.length ≤ 1000000) (hk : kOk kd = true) (hkl : kd.length ≤ 1000) (h8 : fs.length ≤ 8) (hw : SchW (tys vs)) (hcp : 0 ≤ cp ∧ cp ≤ 100000000) (hct : ct ≤ 100000000)
  (hD : ∀ d ∈ fs, DrawC u vs d.kind (deep - 1) cp ct) (hd : 0 < deep ∧ deep ≤ 1000) : DrawT u vs kd deep (8 * cp + 20) (8 * ct + 200) := by
 intro G r code p l hR hs hp
 have href := refV_ty vs kd
 rw [hr] at href
 have cx_rf := c_ref (G := G) (k := kd) hR hvl hk (by omega)
 rw [hr] at cx_rf
 have htm := refT_mem href.symm
 have cx_rf : PuG Tryz.prog 98 [u, S kd] G (· = Tu [Ag [U8 (82 : Nat), S nm, .slice a fs.length ca], Bo true]) := cx_rf
 refine m_enter [(0, _), (1, _), (2, _), (3, _)] Tryz.func81 (by kernel_rfl) Tryz.ntmps81 rfl rfl (by repeat' constructor) fun B hB hW => ?_
 repeat' (first | (refine jR ?_) | (refine k_op rfl ?_; first | refine c_al rfl rfl fun _ => ?_ | refine c_stA rfl rfl rfl rfl rfl rfl ?_ | refine jV (g_ld rfl rfl rfl) ?_ | refine c_bsl rfl rfl rfl rfl rfl rfl fun _ => ?_ | refine jV (g_bsB rfl rfl (by (repeat (first | exact BL.nil | apply BL.lit rfl)); done)) ?_ | refine jV (g_bld rfl rfl) ?_ | refine c_bx rfl rfl rfl fun _ => ?_ | (refine c_rt rfl rfl rfl cx_rf rfl ?_)) | (refine k_ff rfl rfl ?_))
 rename_i y9 _ y11
 refine Nx.addNil tInt5 1 (Nx.addNil tPtr5 1 ?_)
 refine Nx.perm (((List.perm_append_comm (l₁ := [_, _, _]) (l₂ := [_])).cons _).cons _) ?_
 dsimp only [zA, fA]
 refine k_loop (ι := List (Fld × V) × List Nat × Option Addr × Nat × Option Addr × Nat × Nat × Int × Gh) (fun j => ((j.2.1.length = j.1.length ∧ (∀ i, i < j.1.length → (nth j.1 i).1 ∈ fs) ∧ ∀ i, i < j.1.length → RepR j.2.2.2.2.2.2.2.2 (tys vs) (nth j.1 i).2 (nth j.1 i).1.kind (nth j.2.1 i)) ∧ Gh.le G j.2.2.2.2.2.2.2.2) ∧ (j.1.length ≤ j.2.2.2.2.2.2.1 ∧ j.2.2.2.2.2.2.1 ≤ fs.length) ∧ V.tots (nd61 j.1) ≤ (ct + 20) * j.1.length ∧ p ≤ j.2.2.2.2.2.2.2.1 ∧ j.2.2.2.2.2.2.2.1 ≤ p + (cp + 1) * ((j.2.2.2.2.2.2.1 : Nat) : Int)) (fun j => [(0, Pt r 0), (1, u), (2, S kd), (3, I deep), (9, Pt y9 0), (11, Pt y11 0), (13, I ((j.2.2.2.2.2.2.1 : Nat) : Int))]) (fun j => j.2.2.2.2.2.2.2.2) (fun j => [.acc (.slice j.2.2.2.2.1 j.1.length j.2.2.2.2.2.1) tPtr5 1 j.1.length (rows ptR j.2.1), .acc (.slice j.2.2.1 j.1.length j.2.2.2.1) tInt5 1 j.1.length (rows inR (j.1.map fun p => p.1.tag)), rdO r code j.2.2.2.2.2.2.2.1 tRdr, .blk y11 (.cells (List.toArray [S kd, S [82], .slice j.2.2.1 j.1.length j.2.2.2.1, .slice j.2.2.2.2.1 j.1.length j.2.2.2.2.2.1]) tLv (0, 0)), .blk y9 (.cells (List.toArray [U8 (82 : Nat), S nm, .slice a fs.length ca]) tTyG (0, 0))]) (fun j => fs.length - j.2.2.2.2.2.2.1) ([], [], none, 0, none, 0, 0, p, G) ?_ (by repeat' constructor) rfl (by repeat (first | exact List.Sublist.refl _ | apply List.Sublist.cons_cons | apply List.Sublist.cons)) (fun j Hj => ?_)
 ·refine ⟨⟨⟨rfl, fun i hi => absurd hi (by simp), fun i hi => absurd hi (by simp)⟩, Gh.le.refl _⟩, ?_, ?_, ?_, ?_⟩
  ·exact ⟨Nat.le_refl _, Nat.zero_le _⟩
  ·simp [nd61, V.tots]
  ·dsimp only; omega
  ·dsimp only; simp
 obtain ⟨gs, bs, a1, c1, a2, c2, i, q, Gq⟩ := j
 dsimp only at Hj ⊢
 obtain ⟨⟨⟨hbl, hfm, hreps⟩, hgq⟩, hil, htt, hq0, hq1⟩ := Hj
 have hcl : (cp + 1) * ((i : Nat) : Int) ≤ (cp + 1) * 8 := Int.mul_le_mul_of_nonneg_left (by omega) (by omega)
 have hcl0 : 0 ≤ (cp + 1) * ((i : Nat) : Int) := Int.mul_nonneg (by omega) (by omega)
 have htl : (ct + 20) * gs.length ≤ (ct + 20) * 8 := Nat.mul_le_mul_left _ (by omega)
 by_cases hgo : i < fs.length
 ·have hcl3 : (cp + 1) * ((i : Nat) : Int) + (cp + 1) ≤ (cp + 1) * 8 := by
   have := Int.mul_le_mul_of_nonneg_left (show ((i : Nat) : Int) + 1 ≤ 8 by omega) (show 0 ≤ cp + 1 by omega)
   rwa [Int.mul_add, Int.mul_one] at this
  obtain ⟨bf, of, cf, ef, hsf⟩ := (hR.fl _ (refV_mem hr)).expl (by dsimp only; omega)
  simp only [slX, Value.slice.injEq] at ef
  obtain ⟨rfl, -, rfl⟩ := ef
  dsimp only at hsf
  have hdm : nth fs i ∈ fs := nth_mem hgo
  have hdk : kindIn (tys vs) (nth fs i).kind = true := kind_in hw htm (by simp) hdm
  have cx_dv := fun {p : Int} (hp : 0 ≤ p ∧ p + cp ≤ 600000000000) => hD (nth fs i) hdm Gq r code p l (hR.mono hgq) (hs.mono hgq) hp
  have hsf := hsf.mono hgq
  repeat' (first | refine jM ?_ | (refine k_op rfl ?_; first | refine jV (g_ld rfl rfl rfl) ?_ | (refine jV (g_ldRF rfl rfl (by assumption) ?_ rfl rfl) ?_; (focus ((omega); done))) | refine jV (g_lenL rfl) ?_ | (refine jV (g_iaddrN rfl rfl (by omega)) ?_) | (refine jV (g_pickT rfl rfl rfl) ?_) | (refine c_m1s rfl rfl rfl (cx_dv (by omega)) rfl ?_; rintro _ G1 _ hle ⟨w1, b1, q1, rfl, hrep, htot, hone, rfl, hq1, hq2⟩; dsimp only [zA, fA]; (try have hsf := hsf.mono hle))) | (refine k_gt rfl rfl (dTt (by omega)) ?_) | (refine k_tt rfl (dTt (by omega)) ?_))
  have hgl := hgq.trans hle
  have cx_pk3 : ∀ {p : Int}, 0 ≤ p ∧ p ≤ 1000000000000 → FnG Tryz.prog 21 [Pt r 0, I 3] G1 [rdO r code p tRdr] (fun v L' => L' = [rdO r code (p + 1) tRdr] ∧ (v = I 0 ∨ ∃ k, v = I k ∧ 0 < k)) := fun {p} hp => (c_pick (b := r) (p := p) (n := 3) ⟨hp.1, hp.2, by decide⟩ (hs.mono hgl)).mono fun v G' L' ⟨h1, k, h2, h3, h4, h5⟩ => ⟨h1, h3, by subst h2; rcases (show k = 0 ∨ 0 < k by omega) with rfl | h; exact .inl rfl; exact .inr ⟨k, rfl, h⟩⟩
  have cx_out := c_outS hw hrep (by omega)
  have cx_sta := c_standS (f := nth fs i) (hR.mono hgl) hw hdk
  have hms : (cp + 1) * ((i + 1 : Nat) : Int) = (cp + 1) * ((i : Nat) : Int) + (cp + 1) := by rw [Int.natCast_succ, Int.mul_add, Int.mul_one]
  by_cases heq : w1.out = standF (tys vs) (nth fs i)
  ·(refine k_any (s_any (id := 18) [.blk y9 (.cells (List.toArray [U8 (82 : Nat), S nm, .slice (some ⟨bf, of, none⟩) fs.length ca]) tTyG (0, 0))] (by intro y hy; simp only [List.mem_cons, List.not_mem_nil, or_false] at hy ⊢; simp [hy]) mixed ?_); refine jU 14 [0] (bts 15 1) ?_ ?_; (focus (repeat' (exact trivial))); refine x_all [1] (by kernel_rfl) (by decide) ⟨?_, trivial⟩; (refine x_opg rfl rfl ?_; (refine c_m1g rfl rfl rfl (cx_pk3 (by omega)) rfl ?_; rintro _ _ ⟨rfl, rfl | ⟨k, rfl, hk0⟩⟩ <;> dsimp only [zA, fA])) <;> (refine jS (bts 15 3) ?_; refine jT 11 [2, 3] (bts 15 15) ?_; (try (first | (refine Nx.re (d := 107) (v' := Bo true) rfl (congrArg Value.bool (dTt ‹_›)) ?_) | (refine Nx.re (d := 107) (v' := Bo false) rfl (congrArg Value.bool rfl) ?_))); refine jT 7 [4, 6, 7, 9] (bts 15 735) ?_; (first | refine jG (bts 15 991) 8 rfl (g_ld rfl rfl rfl) ?_ | refine jN (bts 15 991) 8 rfl ?_); (first | (refine jG (bts 15 2015) 10 rfl (g_iaddrN rfl rfl (by omega)) ?_) | refine jN (bts 15 2015) 10 rfl ?_); (first | (refine jG (bts 15 4063) 11 rfl (g_ldR rfl rfl (by assumption) ?_) ?_; (focus ((omega); done))) | refine jN (bts 15 4063) 11 rfl ?_); (first | refine jN (bts 15 4095) 5 rfl ?_ | (refine jA 5 rfl ?_; (refine c_rt rfl rfl rfl cx_out rfl ?_); refine jS (bts 15 4095) ?_)); (first | refine jN (bts 15 8191) 12 rfl ?_ | (refine jA 12 rfl ?_; (refine c_rt rfl rfl rfl cx_sta rfl ?_); refine jS (bts 15 8191) ?_)); refine jT 1 [13] (bts 15 16383) ?_; (first | (refine jG (bts 15 32767) 14 rfl (g_pickT rfl rfl rfl) ?_) | (refine jG (bts 15 32767) 14 rfl (g_pickF rfl rfl rfl) ?_)); refine x_done (by kernel_rfl) (k_bk ?_)))
   all_goals repeat' (first | refine jM ?_ | (refine k_ff rfl ?_ ?_; (focus ((first | rfl | (simp [*]; done)); done))))
   all_goals
    refine Nx.perm ((List.Perm.swap _ _ _).trans ((List.Perm.swap _ _ _).cons _)) ?_
    exact k_rd (gs, bs, a1, c1, a2, c2, i + 1, q1 + 1, G1) ⟨⟨⟨hbl, hfm, fun i hi => (hreps i hi).mono hle⟩, hgl⟩, ⟨by dsimp only; omega, by dsimp only; omega⟩, htt, by dsimp only; omega, by dsimp only; rw [hms]; omega⟩ (by dsimp only; omega) (by repeat' constructor) rfl sRr
  ·(refine k_any (s_any (id := 18) [.blk y9 (.cells (List.toArray [U8 (82 : Nat), S nm, .slice (some ⟨bf, of, none⟩) fs.length ca]) tTyG (0, 0))] (by intro y hy; simp only [List.mem_cons, List.not_mem_nil, or_false] at hy ⊢; simp [hy]) mixed ?_); refine jU 14 [0] (bts 15 1) ?_ ?_; (focus (repeat' (exact trivial))); refine x_all [1] (by kernel_rfl) (by decide) ⟨?_, trivial⟩; (refine x_opg rfl rfl ?_; (refine c_m1g rfl rfl rfl (cx_pk3 (by omega)) rfl ?_; rintro _ _ ⟨rfl, rfl | ⟨k, rfl, hk0⟩⟩ <;> dsimp only [zA, fA])) <;> (refine jS (bts 15 3) ?_; refine jT 11 [2, 3] (bts 15 15) ?_; (try (first | (refine Nx.re (d := 107) (v' := Bo true) rfl (congrArg Value.bool (dTt ‹_›)) ?_) | (refine Nx.re (d := 107) (v' := Bo false) rfl (congrArg Value.bool rfl) ?_))); refine jT 7 [4, 6, 7, 9] (bts 15 735) ?_; (first | refine jG (bts 15 991) 8 rfl (g_ld rfl rfl rfl) ?_ | refine jN (bts 15 991) 8 rfl ?_); (first | (refine jG (bts 15 2015) 10 rfl (g_iaddrN rfl rfl (by omega)) ?_) | refine jN (bts 15 2015) 10 rfl ?_); (first | (refine jG (bts 15 4063) 11 rfl (g_ldR rfl rfl (by assumption) ?_) ?_; (focus ((omega); done))) | refine jN (bts 15 4063) 11 rfl ?_); (first | refine jN (bts 15 4095) 5 rfl ?_ | (refine jA 5 rfl ?_; (refine c_rt rfl rfl rfl cx_out rfl ?_); refine jS (bts 15 4095) ?_)); (first | refine jN (bts 15 8191) 12 rfl ?_ | (refine jA 12 rfl ?_; (refine c_rt rfl rfl rfl cx_sta rfl ?_); refine jS (bts 15 8191) ?_)); refine jT 1 [13] (bts 15 16383) ?_; (first | (refine jG (bts 15 32767) 14 rfl (g_pickT rfl rfl rfl) ?_) | (refine jG (bts 15 32767) 14 rfl (g_pickF rfl rfl rfl) ?_)); refine x_done (by kernel_rfl) (k_bk ?_)))
   ·repeat' (first | refine jM ?_ | (refine k_ff rfl rfl ?_))
    refine Nx.perm ((List.Perm.swap _ _ _).trans ((List.Perm.swap _ _ _).cons _)) ?_
    exact k_rd (gs, bs, a1, c1, a2, c2, i + 1, q1 + 1, G1) ⟨⟨⟨hbl, hfm, fun i hi => (hreps i hi).mono hle⟩, hgl⟩, ⟨by dsimp only; omega, by dsimp only; omega⟩, htt, by dsimp only; omega, by dsimp only; rw [hms]; omega⟩ (by dsimp only; omega) (by repeat' constructor) rfl sRr
   ·repeat' (first | (refine jR ?_) | (refine k_tt rfl (dTt ‹_›) ?_))
    have hl' : (gs ++ [(nth fs i, w1)]).length = gs.length + 1 := by simp
    have hbl' : (bs ++ [b1]).length = (gs ++ [(nth fs i, w1)]).length := by simp [hbl]
    have hnth : ∀ j, j < (gs ++ [(nth fs i, w1)]).length → (j < gs.length ∧ nth (gs ++ [(nth fs i, w1)]) j = nth gs j ∧ nth (bs ++ [b1]) j = nth bs j) ∨ (nth (gs ++ [(nth fs i, w1)]) j = (nth fs i, w1) ∧ nth (bs ++ [b1]) j = b1) := fun j hj => by
     by_cases h1 : j < gs.length
     ·exact .inl ⟨h1, by rw [nth_eq hj, nth_eq h1, List.getElem_append_left h1], by rw [nth_eq (by omega), nth_eq (by omega), List.getElem_append_left (by omega)]⟩
     ·have h2 : j = gs.length := by omega
      exact .inr ⟨by rw [nth_eq hj]; simp [h2], by rw [nth_eq (by omega)]; simp [h2, hbl]⟩
    have hfm' : ∀ j, j < (gs ++ [(nth fs i, w1)]).length → (nth (gs ++ [(nth fs i, w1)]) j).1 ∈ fs := fun j hj => by
     rcases hnth j hj with ⟨h1, h2, _⟩ | ⟨h2, _⟩
     ·rw [h2]; exact hfm j h1
     ·rw [h2]; exact hdm
    have hreps' : ∀ j, j < (gs ++ [(nth fs i, w1)]).length → RepR G1 (tys vs) (nth (gs ++ [(nth fs i, w1)]) j).2 (nth (gs ++ [(nth fs i, w1)]) j).1.kind (nth (bs ++ [b1]) j) := fun j hj => by
     rcases hnth j hj with ⟨h1, h2, h3⟩ | ⟨h2, h3⟩
     ·rw [h2, h3]; exact (hreps j h1).mono hle
     ·rw [h2, h3]; exact hrep
    have hrow1 : rows inR (gs.map fun p => p.1.tag) ++ [I (nth fs i).tag] = rows inR ((gs ++ [(nth fs i, w1)]).map fun p => p.1.tag) := by rw [List.map_append]; exact (rows_snoc inR _ (nth fs i).tag).symm
    have hrow2 : rows ptR bs ++ [Pt b1 0] = rows ptR (bs ++ [b1]) := (rows_snoc ptR bs b1).symm
    have hnd : V.tots (nd61 (gs ++ [(nth fs i, w1)])) = V.tots (nd61 gs) + (20 + w1.tot) := by simp [nd61, tots_app, V.tots, nd_tot]
    have hmt : (ct + 20) * (gs.length + 1) = (ct + 20) * gs.length + (ct + 20) := Nat.mul_succ _ _
    (refine k_any (s_any (id := 19) [.blk y9 (.cells (List.toArray [U8 (82 : Nat), S nm, .slice (some ⟨bf, of, none⟩) fs.length ca]) tTyG (0, 0))] (by intro y hy; simp only [List.mem_cons, List.not_mem_nil, or_false] at hy ⊢; simp [hy]) mixed ?_); refine jU 10 [0, 1, 2, 3, 5, 7] (bts 16 175) ?_ ?_; (focus (repeat' (exact trivial))); (refine jG (bts 16 239) 6 rfl (g_ld rfl rfl rfl) ?_); ((refine jG (bts 16 495) 8 rfl (g_iaddrN rfl rfl ?_) ?_; (focus ((omega); done)))); refine jU 7 [9] (bts 16 1007) ?_ ?_; (focus (repeat' (exact trivial))); ((refine jG (bts 16 2031) 10 rfl (g_ldRF rfl rfl (by assumption) ?_ rfl rfl) ?_; (focus ((omega); done)))); refine x_all [4, 11] (by kernel_rfl) (by decide) ⟨?_, ?_, trivial⟩; (focus (refine x_opg rfl rfl ?_; (refine jV (g_ld rfl rfl rfl) ?_); refine jK (bts 16 2047) ?_; refine jA 11 rfl ?_; (refine c_bsl rfl rfl rfl rfl rfl rfl fun _ => ?_); refine jK (bts 16 4095) ?_; refine jA 12 rfl ?_; ((refine c_apX rfl rfl rfl rfl rfl rfl rfl rfl rfl ?_ fun _ _ => ?_; (focus ((omega); done)))); refine jK (bts 16 8191) ?_; refine jU 1 [13, 14] (bts 16 32767) ?_ ?_; (focus (repeat' (exact trivial))); refine jA 15 rfl ?_; (refine c_st1 rfl rfl rfl rfl ?_); refine jK (bts 16 65535) ?_; refine x_done (by kernel_rfl) (k_bk ?_))); rotate_left 1; (focus (refine x_opg rfl rfl ?_; (refine c_bsl rfl rfl rfl rfl rfl rfl fun _ => ?_); refine jK (bts 16 4079) ?_; refine jA 4 rfl ?_; (refine jV (g_ld rfl rfl rfl) ?_); refine jK (bts 16 4095) ?_; refine jA 12 rfl ?_; ((refine c_apX rfl rfl rfl rfl rfl rfl rfl rfl rfl ?_ fun _ _ => ?_; (focus ((omega); done)))); refine jK (bts 16 8191) ?_; refine jU 1 [13, 14] (bts 16 32767) ?_ ?_; (focus (repeat' (exact trivial))); refine jA 15 rfl ?_; (refine c_st1 rfl rfl rfl rfl ?_); refine jK (bts 16 65535) ?_; refine x_done (by kernel_rfl) (k_bk ?_))); rotate_left 1)
    all_goals repeat' (first | refine jM ?_ | (refine k_op rfl ?_; first | refine c_st1 rfl rfl rfl rfl ?_ | refine jV (g_ld rfl rfl rfl) ?_ | refine c_bsl rfl rfl rfl rfl rfl rfl fun _ => ?_ | (refine c_apX rfl rfl rfl rfl rfl rfl rfl rfl rfl (by omega) fun _ _ => ?_)))
    all_goals
     rename_i _ y1 yc1 _ y2 yc2
     rw [hrow1, hrow2]
     exact k_rd (gs ++ [(nth fs i, w1)], bs ++ [b1], some ⟨y1, 0, none⟩, yc1, some ⟨y2, 0, none⟩, yc2, i + 1, q1 + 1, G1) ⟨⟨⟨hbl', hfm', hreps'⟩, hgl⟩, ⟨by dsimp only; rw [hl']; omega, by dsimp only; omega⟩, by dsimp only; rw [hl', hmt, hnd]; omega, by dsimp only; omega, by dsimp only; rw [hms]; omega⟩ (by dsimp only; omega) (by repeat' constructor) rfl (by rw [hl']; repeat (first | exact List.Sublist.refl _ | apply List.Sublist.cons_cons | apply List.Sublist.cons))
 ·repeat' (first | (refine jR ?_) | (refine k_op rfl ?_; first | refine jV (g_ld rfl rfl rfl) ?_ | refine jV (g_lenL rfl) ?_ | (refine jV (g_pickF rfl rfl rfl) ?_)) | (refine k_gf rfl rfl (dFf (by omega)) ?_) | (refine k_ff rfl rfl ?_))
  refine Nx.sealS (v := .slice a2 gs.length c2) fun G2 hG2 hs1 => ?_
  refine Nx.sealS (v := .slice a1 gs.length c1) fun G3 hG3 hs2 => ?_
  refine Nx.sealC (b := y11) fun G4 hG4 hsg => ?_
  exact k_rr (vs := [_]) rfl ⟨rfl, trivial⟩ rfl (by repeat (first | exact List.nil_sublist _ | apply List.Sublist.cons_cons)) ⟨hgq.trans ((hG2.trans hG3).trans hG4), .nd 82 [] 0 (nd61 gs), y11, q, rfl, .recd kd y11 ⟨82, nm, fs⟩ gs bs a1 a2 c1 c2 ⟨href.symm, rfl⟩ hsg (hs2.mono hG4) (hs1.mono (hG3.trans hG4)) hbl hfm (fun i hi => (hreps i hi).mono ((hG2.trans hG3).trans hG4)), by rw [nd_tot]; simp only [List.length_nil]; omega, by rw [V.out]; simp [outW], rfl, by omega, by omega⟩
end
end Go.E
namespace Go.E
set_option maxRecDepth 20000
set_option maxHeartbeats 2000000
open Go.Proofs
variable {G : Gh}
theorem kind_ne' {ts : List Ty} {k : List UInt8} (h : kindIn ts k = true) : ∃ c r, k = c :: r := by
 cases k with
 | nil => unfold kindIn kindOk kOk at h; simp at h
 | cons c r => exact ⟨c, r, rfl⟩
def cpk : Nat → Int
 | 0 => 105
 | d + 1 => 8 * cpk d + 40
def ctt : Nat → Nat
 | 0 => 480
 | d + 1 => 8 * ctt d + 400
theorem cpk_le : ∀ d, d ≤ 4 → 0 ≤ cpk d ∧ cpk d ≤ 500000 ∧ ctt d ≤ 3000000 ∧ 105 ≤ cpk d ∧ 480 ≤ ctt d := by decide
theorem draw0 {u : Value} {vs : List TyX} (hw : SchW (tys vs)) (hu : u.oneCell' = true) : ∀ (n : Nat) {k : List UInt8} {deep : Int}, n ≤ 9 → deep ≤ 0 → (n : Int) - 900 ≤ deep → kindIn (tys vs) k = true → (∀ t, refT (tys vs) k = some t → endsN (tys vs) n t = true) → DrawC u vs k deep (15 + 10 * n) (300 + 20 * n) := by
 have hvl : vs.length ≤ 8 := by have := hw.len; unfold tys at this; simpa using this
 intro n
 induction n with
 | zero =>
  intro k deep _ hd hd2 hk he
  obtain ⟨c, r, rfl⟩ := kind_ne' hk
  have hkk := kindOk_kOk (kindIn_ok hk)
  simp only [List.length_cons] at hkk
  by_cases h1 : c.toNat = 91
  ·obtain rfl := u8_eq h1 (by decide)
   exact (dv_list (cp := 0) (ct := 0) (by omega) (by omega) (fun h => absurd h (by omega)) hu (by omega) (by omega)).le (by omega) (by omega)
  by_cases h2 : c.toNat = 63
  ·obtain rfl := u8_eq h2 (by decide)
   exact (dv_opt (cp := 0) (ct := 0) (by omega) (by omega) (fun h => absurd h (by omega)) hu (by omega) (by omega)).le (by omega) (by omega)
  have h91 : ¬ (c.toNat = 91 ∨ c.toNat = 63) := fun h => by rcases h with h | h <;> omega
  cases hr : refT (tys vs) (c :: r) with
  | some t => have := he t hr; simp [endsN] at this
  | none =>
   rcases plain_kinds hk h91 hr with e1 | e1 | e1
   ·rw [e1]; exact dv_num.le (by omega) (by omega)
   ·rw [e1]; exact dv_txt.le (by omega) (by omega)
   ·rw [e1]; exact dv_flag.le (by omega) (by omega)
 | succ n ih =>
  intro k deep hn hd hd2 hk he
  obtain ⟨c, r, rfl⟩ := kind_ne' hk
  have hkk := kindOk_kOk (kindIn_ok hk)
  have hkk1 := hkk.1
  simp only [List.length_cons] at hkk
  by_cases h1 : c.toNat = 91
  ·obtain rfl := u8_eq h1 (by decide)
   exact (dv_list (cp := 0) (ct := 0) (by omega) (by omega) (fun h => absurd h (by omega)) hu (by omega) (by omega)).le (by omega) (by omega)
  by_cases h2 : c.toNat = 63
  ·obtain rfl := u8_eq h2 (by decide)
   exact (dv_opt (cp := 0) (ct := 0) (by omega) (by omega) (fun h => absurd h (by omega)) hu (by omega) (by omega)).le (by omega) (by omega)
  have h91 : ¬ (c.toNat = 91 ∨ c.toNat = 63) := fun h => by rcases h with h | h <;> omega
  cases hr : refT (tys vs) (c :: r) with
  | none =>
   rcases plain_kinds hk h91 hr with e1 | e1 | e1
   ·rw [e1]; exact dv_num.le (by omega) (by omega)
   ·rw [e1]; exact dv_txt.le (by omega) (by omega)
   ·rw [e1]; exact dv_flag.le (by omega) (by omega)
  | some t =>
   obtain ⟨r', e⟩ := refT_64 hr
   simp only [List.cons.injEq] at e
   obtain ⟨rfl, rfl⟩ := e
   have href := refV_ty vs (64 :: r)
   rw [hr] at href
   rcases hrv : refV vs (64 :: r) with _ | ⟨⟨a, ca⟩, ⟨so, nm, fs⟩⟩
   ·rw [hrv] at href; cases href
   rw [hrv] at href
   obtain rfl := (Option.some.inj href).symm
   dsimp only at hr he
   have hTW := hw.ty _ (refT_mem hr)
   have h8 : fs.length ≤ 8 := hTW.len
   refine dv_typed ?_ (by omega)
   rcases hTW.sort with h3 | h3 | h3 <;> dsimp only at h3 <;> subst h3
   ·exact fun G r code p l g1 g2 g3 => ((dt_rec0 hrv (by omega) hkk1 (by simp only [List.length_cons]; omega) h8 (by omega)) G r code p l g1 g2 ⟨g3.1, by omega⟩).mono fun _ _ _ ⟨h6, w, b, q, h7, h8, h9, h10, h11, h12, h13⟩ => ⟨h6, w, b, q, h7, h8, by omega, h10, h11, h12, by omega⟩
   ·have h0 : 0 < fs.length := List.length_pos_iff.2 (hTW.ne (by simp))
    refine fun G r code p l g1 g2 g3 => ((dt_uni (cp := 15 + 10 * n) (ct := 300 + 20 * n) hrv (by omega) hkk1 (by simp only [List.length_cons]; omega) h0 h8 hw (by omega) (by omega) (fun d hdm hc => ?_) (by omega)) G r code p l g1 g2 ⟨g3.1, by omega⟩).mono fun _ _ _ ⟨h6, w, b, q, h7, h8, h9, h10, h11, h12, h13⟩ => ⟨h6, w, b, q, h7, h8, by omega, h10, h11, h12, by omega⟩
    rcases hc with hc | rfl
    ·omega
    refine ih (by omega) (by omega) (by omega) (kind_in hw (refT_mem hr) (by simp) hdm) fun t' ht' => ?_
    have := he _ hr
    rw [endsN, if_neg (by simp), kind0_nth] at this
    dsimp only at this
    rw [ht'] at this
    exact this
   ·have h0 : 0 < fs.length := List.length_pos_iff.2 (hTW.ne (by simp))
    exact fun G r code p l g1 g2 g3 => ((dt_enm hrv (by omega) hkk1 (by simp only [List.length_cons]; omega) h0 h8 hw) G r code p l g1 g2 ⟨g3.1, by omega⟩).mono fun _ _ _ ⟨h6, w, b, q, h7, h8, h9, h10, h11, h12, h13⟩ => ⟨h6, w, b, q, h7, h8, by omega, h10, h11, h12, by omega⟩
theorem draw_all {u : Value} {vs : List TyX} (hw : SchW (tys vs)) (hu : u.oneCell' = true) : ∀ (m : Nat) {k : List UInt8} {deep : Int}, m ≤ 4 → deep ≤ m → -800 ≤ deep → kindIn (tys vs) k = true → DrawC u vs k deep (cpk m) (ctt m) := by
 have hvl : vs.length ≤ 8 := by have := hw.len; unfold tys at this; simpa using this
 have hz : ∀ {k : List UInt8} {deep : Int}, deep ≤ 0 → -800 ≤ deep → kindIn (tys vs) k = true → DrawC u vs k deep 105 480 := fun {k deep} h1 h2 h3 => (draw0 hw hu ((tys vs).length + 1) (by have := hw.len; omega) h1 (by have := hw.len; omega) h3 (fun t ht => ends_of hw t ht)).le (by have := hw.len; omega) (by have := hw.len; omega)
 intro m
 induction m with
 | zero => intro k deep _ hd hd2 hk; exact hz hd hd2 hk
 | succ m ih =>
  intro k deep hm hd hd2 hk
  have hcm := cpk_le m (by omega)
  have e1 : cpk (m + 1) = 8 * cpk m + 40 := rfl
  have e2 : ctt (m + 1) = 8 * ctt m + 400 := rfl
  by_cases hd0 : deep ≤ 0
  ·exact (hz hd0 hd2 hk).le (by omega) (by omega)
  have hD : ∀ {k : List UInt8}, kindIn (tys vs) k = true → DrawC u vs k (deep - 1) (cpk m) (ctt m) := fun {k} hk => ih (by omega) (by omega) (by omega) hk
  obtain ⟨c, r, rfl⟩ := kind_ne' hk
  have hkk := kindOk_kOk (kindIn_ok hk)
  have hkk1 := hkk.1
  simp only [List.length_cons] at hkk
  by_cases h1 : c.toNat = 91
  ·obtain rfl := u8_eq h1 (by decide)
   exact (dv_list (by omega) (by omega) (fun _ => hD (kindIn_tail (.inl rfl) hk)) hu (by omega) (by omega)).le (by omega) (by omega)
  by_cases h2 : c.toNat = 63
  ·obtain rfl := u8_eq h2 (by decide)
   exact (dv_opt (by omega) (by omega) (fun _ => hD (kindIn_tail (.inr rfl) hk)) hu (by omega) (by omega)).le (by omega) (by omega)
  have h91 : ¬ (c.toNat = 91 ∨ c.toNat = 63) := fun h => by rcases h with h | h <;> omega
  cases hr : refT (tys vs) (c :: r) with
  | none =>
   rcases plain_kinds hk h91 hr with e1 | e1 | e1
   ·rw [e1]; exact dv_num.le (by omega) (by omega)
   ·rw [e1]; exact dv_txt.le (by omega) (by omega)
   ·rw [e1]; exact dv_flag.le (by omega) (by omega)
  | some t =>
   obtain ⟨r', e⟩ := refT_64 hr
   simp only [List.cons.injEq] at e
   obtain ⟨rfl, rfl⟩ := e
   have href := refV_ty vs (64 :: r)
   rw [hr] at href
   rcases hrv : refV vs (64 :: r) with _ | ⟨⟨a, ca⟩, ⟨so, nm, fs⟩⟩
   ·rw [hrv] at href; cases href
   rw [hrv] at href
   obtain rfl := (Option.some.inj href).symm
   dsimp only at hr
   have hTW := hw.ty _ (refT_mem hr)
   have h8 : fs.length ≤ 8 := hTW.len
   refine dv_typed ?_ (by omega)
   rcases hTW.sort with h3 | h3 | h3 <;> dsimp only at h3 <;> subst h3
   ·exact fun G r code p l g1 g2 g3 => ((dt_rec hrv (by omega) hkk1 (by simp only [List.length_cons]; omega) h8 hw (by omega) (by omega) (fun d hdm => hD (kind_in hw (refT_mem hr) (by simp) hdm)) (by omega)) G r code p l g1 g2 ⟨g3.1, by omega⟩).mono fun _ _ _ ⟨h6, w, b, q, h7, h8, h9, h10, h11, h12, h13⟩ => ⟨h6, w, b, q, h7, h8, by omega, h10, h11, h12, by omega⟩
   ·have h0 : 0 < fs.length := List.length_pos_iff.2 (hTW.ne (by simp))
    exact fun G r code p l g1 g2 g3 => ((dt_uni hrv (by omega) hkk1 (by simp only [List.length_cons]; omega) h0 h8 hw (by omega) (by omega) (fun d hdm _ => hD (kind_in hw (refT_mem hr) (by simp) hdm)) (by omega)) G r code p l g1 g2 ⟨g3.1, by omega⟩).mono fun _ _ _ ⟨h6, w, b, q, h7, h8, h9, h10, h11, h12, h13⟩ => ⟨h6, w, b, q, h7, h8, by omega, h10, h11, h12, by omega⟩
   ·have h0 : 0 < fs.length := List.length_pos_iff.2 (hTW.ne (by simp))
    exact fun G r code p l g1 g2 g3 => ((dt_enm hrv (by omega) hkk1 (by simp only [List.length_cons]; omega) h0 h8 hw) G r code p l g1 g2 ⟨g3.1, by omega⟩).mono fun _ _ _ ⟨h6, w, b, q, h7, h8, h9, h10, h11, h12, h13⟩ => ⟨h6, w, b, q, h7, h8, by omega, h10, h11, h12, by omega⟩
theorem c_l91Schema {r : Nat} {code : Value} {p : Int} {l : List UInt8} (hp : 0 ≤ p ∧ p ≤ 600000000000) (hs : SlV G code 1 l.length (u8s l)) :
  FnG Tryz.prog 45 [Pt r 0] G [rdO r code p tRdr] (fun v L' => ∃ x q, v = S x ∧ x.length ≤ 20000 ∧ L' = [rdO r code q tRdr] ∧ p ≤ q ∧ q ≤ p + 700) := by
 refine jH [(0, _)] Tryz.func45 Tryz.ntmps45 fun B hB hW => ?_
 repeat' (first | (refine run (t := tb) 400 rfl ?_ ?_; (focus (repeat' (first | exact trivial | apply And.intro | omega | (simp only [List.length_append, List.length_cons, List.length_nil, Int.toNat_natCast]; omega))))) | (refine k_op rfl ?_; first | refine c_bsl rfl rfl rfl rfl rfl rfl fun _ => ?_ | (refine jV (g_iaddr rfl rfl (by omega)) ?_) | (refine c_ldMS 64 rfl rfl rfl ?_ rfl (fun xs hxs => ?_); (focus ((simp only [List.length_append, List.length_cons, List.length_nil, List.length_take]; omega); done))) | (refine jV (g_pickT rfl rfl rfl) ?_) | (refine jV (g_pickF rfl rfl rfl) ?_) | (refine c_m1g rfl rfl rfl (c_l91Type ?_ (by (repeat (assumption)); done) ?_ ?_) rfl ?_; (focus ((omega); done)); (focus ((first | assumption | (simp; done)); done)); (focus ((simp; done); done)); rintro _ _ ⟨ty, q1, rfl, hty, hty1, rfl, hq1, hq2⟩; dsimp only [zA, fA]) | (refine c_m1g rfl rfl rfl (c_pick ?_ (by (repeat (assumption)); done)) rfl ?_; (focus ((first | omega | (simp; omega)); done)); rintro _ _ ⟨k, rfl, rfl, hk0, hk1⟩; dsimp only [zA, fA]) | (refine c_rt rfl rfl rfl (c_SchemaOkS ?_) rfl ?_; (focus ((simp; omega); done)))) | refine k_gb rfl rfl (fun _ => ?_) (fun _ => ?_) | (refine k_ff rfl rfl ?_) | refine k_if rfl (fun _ => ?_) (fun _ => ?_))
 all_goals (first | exact k_rr (vs := [_]) rfl ⟨rfl, trivial⟩ rfl (by repeat (first | exact List.nil_sublist _ | apply List.Sublist.cons_cons)) ⟨rfl, _, _, rfl, by (simp only [List.length_append, List.length_cons, List.length_nil, List.length_take, List.length_drop]; omega), rfl, by omega, by omega⟩ | skip)
 all_goals simp only [List.length_append, List.length_cons, List.length_nil] at hk1
 all_goals (refine k_any (s_any (id := 6) [] (fun _ h => absurd h (by simp)) mixed ?_); refine jU 7 [0, 1, 2, 4, 9, 10, 11, 12] (bts 15 7703) ?_ ?_; (focus (repeat' (first | exact trivial | apply And.intro | omega | (simp only [List.length_append, List.length_cons, List.length_nil, Int.toNat_natCast]; omega)))); refine x_all [3, 5] (by kernel_rfl) (by decide) ⟨?_, ?_, trivial⟩; (focus (refine x_opg rfl rfl ?_; (refine c_bsl rfl rfl rfl rfl rfl rfl fun _ => ?_); refine jK (bts 15 7711) ?_; refine jA 5 rfl ?_; ((refine c_m1g rfl rfl rfl (c_pick ?_ (by (repeat (assumption)); done)) rfl ?_; (focus ((omega); done)); rintro _ _ ⟨k, rfl, rfl, hk0, hk1⟩; dsimp only [zA, fA])); refine jK (bts 15 7743) ?_; ((refine jG (bts 15 7807) 6 rfl (g_iaddr rfl rfl ?_) ?_; (focus ((omega); done)))); refine jA 7 rfl ?_; ((refine c_ldMS 64 rfl rfl rfl ?_ rfl (fun xs hxs => ?_); (focus ((simp only [List.length_append, List.length_cons, List.length_nil, List.length_take]; omega); done)))); refine jK (bts 15 7935) ?_; refine jU 0 [8, 13, 14] (bts 15 32767) ?_ ?_; (focus (repeat' (first | exact trivial | apply And.intro | (simp only [List.length_append, List.length_cons, List.length_nil, List.length_take, List.length_drop]; omega)))); refine x_done (by kernel_rfl) (k_bk ?_))); rotate_left 1; (focus (refine x_opg rfl rfl ?_; ((refine c_m1g rfl rfl rfl (c_pick ?_ (by (repeat (assumption)); done)) rfl ?_; (focus ((omega); done)); rintro _ _ ⟨k, rfl, rfl, hk0, hk1⟩; dsimp only [zA, fA])); refine jK (bts 15 7735) ?_; refine jA 3 rfl ?_; (refine c_bsl rfl rfl rfl rfl rfl rfl fun _ => ?_); refine jK (bts 15 7743) ?_; ((refine jG (bts 15 7807) 6 rfl (g_iaddr rfl rfl ?_) ?_; (focus ((omega); done)))); refine jA 7 rfl ?_; ((refine c_ldMS 64 rfl rfl rfl ?_ rfl (fun xs hxs => ?_); (focus ((simp only [List.length_append, List.length_cons, List.length_nil, List.length_take]; omega); done)))); refine jK (bts 15 7935) ?_; refine jU 0 [8, 13, 14] (bts 15 32767) ?_ ?_; (focus (repeat' (first | exact trivial | apply And.intro | (simp only [List.length_append, List.length_cons, List.length_nil, List.length_take, List.length_drop]; omega)))); refine x_done (by kernel_rfl) (k_bk ?_))); rotate_left 1)
 all_goals repeat' (refine jR ?_)
 all_goals exact k_rr (vs := [_]) rfl ⟨rfl, trivial⟩ rfl (by repeat (first | exact List.nil_sublist _ | apply List.Sublist.cons_cons | apply List.Sublist.cons)) ⟨rfl, _, _, rfl, by (simp only [List.length_append, List.length_cons, List.length_nil, List.length_take, List.length_drop]; omega), rfl, by omega, by omega⟩
theorem c_l91Some {r : Nat} {code : Value} {p : Int} {l s : List UInt8} (hp : 0 ≤ p ∧ p ≤ 600000000000) (hs : SlV G code 1 l.length (u8s l)) (hsl : s.length ≤ 10000000) :
  FnG Tryz.prog 46 [Pt r 0, S s] G [rdO r code p tRdr] (fun v L' => ∃ x q, v = S x ∧ x.length ≤ 400 ∧ L' = [rdO r code q tRdr] ∧ p ≤ q ∧ q ≤ p + 20) := by
 have cx_lkg : ∀ {k : List UInt8} (G : Gh), k.length ≤ 1000 → FnS Tryz.prog 48 [S s, S k] G (fun v _ => ∃ u b, v = Tu [u, Bo b]) := fun {k} G h => (c_l3Kind (G := G) (s := s) (k := k) (by omega) (by omega)).mono fun v G' L' ⟨h1, h2, u, vs, h3, _⟩ => ⟨h1, h2, u, _, h3⟩
 refine jB (Post := fun v G' L' => G' = G ∧ _) [(0, _), (1, _)] Tryz.func46 Tryz.ntmps46 fun B hok hB hW => ?_
 repeat' (first | (refine jR ?_) | (refine k_op rfl ?_; first | refine c_bsl rfl rfl rfl rfl rfl rfl fun _ => ?_ | (refine jV (g_iaddr rfl rfl (by omega)) ?_) | (refine c_ldMS 64 rfl rfl rfl ?_ rfl (fun xs hxs => ?_); (focus ((simp only [List.length_append, List.length_cons, List.length_nil, List.length_take]; omega); done))) | (refine c_m1g rfl rfl rfl (c_pick ?_ (by (repeat (assumption)); done)) rfl ?_; (focus ((omega); done)); rintro _ _ ⟨k, rfl, rfl, hk0, hk1⟩; dsimp only [zA, fA]) | (refine c_m1g rfl rfl rfl (c_l91Kind ?_ (by (repeat (assumption)); done)) rfl ?_; (focus ((omega); done)); rintro _ _ ⟨kd, q1, rfl, hkd, rfl, hq1, hq2⟩; dsimp only [zA, fA]) | (refine c_fns rfl rfl rfl ((cx_lkg _) (by omega)) rfl ?_; rintro _ G hle ⟨u1, b1, rfl⟩; skip)) | refine k_if rfl (fun _ => ?_) (fun _ => ?_) | refine k_cd rfl (fun _ => ?_) (fun _ => ?_))
 all_goals refine Nx.base hok hB ?_
 all_goals exact k_rr (vs := [_]) rfl ⟨rfl, trivial⟩ rfl (by repeat (first | exact List.Sublist.refl _ | exact List.nil_sublist _ | apply List.Sublist.cons_cons)) ⟨rfl, _, _, rfl, by (first | omega | (simp only [List.length_append, List.length_cons, List.length_nil, List.length_take, List.length_drop]; omega)), rfl, by omega, by omega⟩
theorem c_l91Of {r : Nat} {code : Value} {p : Int} {l s k : List UInt8} (hp : 0 ≤ p ∧ p ≤ 500000000000) (hs : SlV G code 1 l.length (u8s l)) (hsl : s.length ≤ 10000000) (hkl : k.length ≤ 1000) :
  FnG Tryz.prog 23 [Pt r 0, S s, S k] G [rdO r code p tRdr] (fun v L' => ∃ x q, v = S x ∧ x.length ≤ 20000 ∧ L' = [rdO r code q tRdr] ∧ p ≤ q ∧ q ≤ p + 3000000) := by
 by_cases hk : kindS s k = true
 case neg =>
  have hk2 : kindS s k = false := by simpa using hk
  have cx_lk1 : ∀ G, FnS Tryz.prog 48 [S s, S k] G (fun v _ => ∃ u, v = Tu [u, Bo false]) := fun G => by
   refine (c_l3Kind (G := G) (s := s) (k := k) (by omega) (by omega)).mono ?_
   rintro v G' L' ⟨h1, h2, u, vs, rfl, _⟩
   exact ⟨h1, h2, u, by rw [hk2]⟩
  refine jB (Post := fun v G' L' => G' = G ∧ _) [(0, _), (1, _), (2, _)] Tryz.func23 Tryz.ntmps23 fun B hok hB hW => ?_
  repeat' (first | (refine jR ?_) | (refine k_op rfl ?_; (refine c_fns rfl rfl rfl (cx_lk1 _) rfl ?_; rintro _ G hle ⟨u1, rfl⟩; skip)) | (refine k_tt rfl rfl ?_))
  all_goals refine Nx.base hok hB ?_
  all_goals exact k_rr (vs := [_]) rfl ⟨rfl, trivial⟩ rfl sRr ⟨rfl, _, _, rfl, by (simp only [List.length_append, List.length_cons, List.length_nil, List.length_take, List.length_drop]; omega), rfl, by omega, by omega⟩
 obtain ⟨ts, hsc, hki, hw⟩ := kindS_some2 hk
 have cx_lka : ∀ G, FnS Tryz.prog 48 [S s, S k] G (fun v G' => ∃ a c vs, v = Tu [.slice a vs.length c, Bo true] ∧ SchR G' (.slice a vs.length c) vs ∧ tys vs = ts) := fun G => by
  refine (c_l3Kind (G := G) (s := s) (k := k) (by omega) (by omega)).mono ?_
  rintro v G' L' ⟨h1, h2, u, vs, rfl, h4, _, h6⟩
  obtain ⟨_, ⟨rfl, h0⟩ | ⟨b, o, cap, rfl, _, _⟩⟩ := h4.sl
  ·exact ⟨h1, h2, none, 0, vs, by rw [hk, h0], by rw [h0]; exact h4, h6 ts hsc hki⟩
  ·exact ⟨h1, h2, _, cap, vs, by rw [hk], h4, h6 ts hsc hki⟩
 refine jB (Post := fun v G' L' => G' = G ∧ _) [(0, _), (1, _), (2, _)] Tryz.func23 Tryz.ntmps23 fun B hok hB hW => ?_
 repeat' (first | (refine jR ?_) | (refine k_op rfl ?_; (refine c_fns rfl rfl rfl (cx_lka _) rfl ?_; rintro _ G hle ⟨av1, cv1, vs1, rfl, hR1, hT1⟩; skip)) | (refine k_ff rfl rfl ?_))
 subst hT1
 have hg0 := hle
 have hu1 := hR1.sl.one
 have cx_dv := fun {p : Int} (hp : 0 ≤ p ∧ p + cpk 4 ≤ 600000000000) => draw_all hw hu1 4 (k := k) (deep := 4) (by omega) (by omega) (by omega) hki G r code p l hR1 (hs.mono hle) hp
 have hc4 : cpk 4 = 453480 := by decide
 have ht4 : ctt 4 = 2200080 := by decide
 rw [hc4, ht4] at cx_dv
 repeat' ((refine k_op rfl ?_; (refine c_m1s rfl rfl rfl (cx_dv (by omega)) rfl ?_; rintro _ G1 _ hle ⟨w1, b1, q1, rfl, hrep, htot, hone, rfl, hq1, hq2⟩; dsimp only [zA, fA]; skip)))
 have hg1 := hle
 have hob := outR hw hrep
 unfold OutB at hob
 have cx_out := c_outS hw hrep (by omega)
 repeat' (first | (refine jR ?_) | (refine k_op rfl ?_; (refine c_rt rfl rfl rfl cx_out rfl ?_)))
 refine k_loop (ι := List UInt8 × Int × Int × Gh) (fun j => Gh.le G1 j.2.2.2 ∧ (0 ≤ j.2.1 ∧ j.2.1 ≤ 3) ∧ (1 ≤ j.1.length ∧ j.1.length ≤ 2 * ctt (j.2.1.toNat + 1)) ∧ p ≤ j.2.2.1 ∧ j.2.2.1 ≤ p + 500000 * (4 - j.2.1)) (fun j => [(0, Pt r 0), (2, S k), (7, .slice av1 vs1.length cv1), (9, S j.1), (10, I j.2.1)]) (fun j => j.2.2.2) (fun j => [rdO r code j.2.2.1 tRdr]) (fun j => j.2.1.toNat) (w1.out, 3, q1, G1) ?_ (by repeat' constructor) rfl sRr (fun j Hj => ?_)
 ·refine ⟨Gh.le.refl _, by dsimp only; omega, ⟨hone, ?_⟩, by dsimp only; omega, by dsimp only; omega⟩
  show w1.out.length ≤ 2 * ctt 4
  omega
 obtain ⟨t, d, q, Gq⟩ := j
 dsimp only at Hj ⊢
 obtain ⟨hgq, hd, ⟨ht1, ht2⟩, hq3, hq4⟩ := Hj
 have hs2 := hs.mono ((hg0.trans hg1).trans hgq)
 clear cx_dv cx_out hrep
 by_cases hgo : 150 < t.length ∧ 0 < d
 ·obtain ⟨hgo1, hgo2⟩ := hgo
  have hcm := cpk_le d.toNat (by omega)
  have cx_dv := fun {p : Int} (hp : 0 ≤ p ∧ p + 500000 ≤ 600000000000) => ((draw_all hw hu1 d.toNat (k := k) (deep := d) (by omega) (by omega) (by omega) hki).le hcm.2.1 (Nat.le_refl _)) Gq r code p l (hR1.mono (hg1.trans hgq)) hs2 hp
  repeat' (first | (refine jR ?_) | (refine k_op rfl ?_; first | (refine jV (g_pickT rfl rfl rfl) ?_) | (refine c_m1s rfl rfl rfl (cx_dv (by omega)) rfl ?_; rintro _ G1 _ hle ⟨w1, b1, q1, rfl, hrep, htot, hone, rfl, hq1, hq2⟩; dsimp only [zA, fA]; skip)) | (refine k_gt rfl rfl (dTt (by omega)) ?_) | (refine k_tt rfl (dTt ‹_›) ?_))
  have hob := outR hw hrep
  unfold OutB at hob
  have cx_out := c_outS hw hrep (by omega)
  have e : (d - 1).toNat + 1 = d.toNat := by omega
  repeat' (first | refine jM ?_ | (refine k_op rfl ?_; (refine c_rt rfl rfl rfl cx_out rfl ?_)))
  exact k_rd (w1.out, d - 1, q1, G1) ⟨hgq.trans hle, by dsimp only; omega, ⟨hone, by dsimp only; rw [e]; omega⟩, by dsimp only; omega, by dsimp only; omega⟩ (by dsimp only; omega) (by repeat' constructor) rfl sRr
 ·have hx : t.length ≤ 150 ∨ d ≤ 0 := by omega
  have hl : t.length ≤ 8480 := by
   rcases hx with hx | hx
   ·omega
   ·have e : d = 0 := by omega
    subst e
    have : ctt (Int.toNat 0 + 1) = 4240 := by decide
    omega
  repeat' (first | (refine jR ?_) | (refine k_op rfl ?_; first | (refine jV (g_pickT rfl rfl rfl) ?_) | (refine jV (g_pickF rfl rfl rfl) ?_) | (refine c_m1g rfl rfl rfl (c_pick ?_ (by (repeat (assumption)); done)) rfl ?_; (focus ((omega); done)); rintro _ _ ⟨k, rfl, rfl, hk0, hk1⟩; dsimp only [zA, fA])) | refine k_g rfl rfl (fun _ => ?_) (fun _ => ?_) | (refine k_ff rfl (by first | rfl | (refine decide_eq_false ?_; (omega))) ?_) | refine k_if rfl (fun _ => ?_) (fun _ => ?_))
  all_goals refine Nx.base hok hB ?_
  all_goals (first | exact k_rr (vs := [_]) rfl ⟨rfl, trivial⟩ rfl sRr ⟨rfl, _, _, rfl, by (omega), rfl, by omega, by omega⟩ | skip)
  all_goals (refine k_any (s_any (id := 11) [] (fun _ h => absurd h (by simp)) mixed ?_); refine jU 7 [0, 1, 2, 4, 9, 10, 11, 12] (bts 15 7703) ?_ ?_; (focus (repeat' (first | exact trivial | apply And.intro | omega))); refine x_all [3, 5] (by kernel_rfl) (by decide) ⟨?_, ?_, trivial⟩; (focus (refine x_opg rfl rfl ?_; (refine c_bsl rfl rfl rfl rfl rfl rfl fun _ => ?_); refine jK (bts 15 7711) ?_; refine jA 5 rfl ?_; ((refine c_m1g rfl rfl rfl (c_pick ?_ (by (repeat (assumption)); done)) rfl ?_; (focus ((omega); done)); rintro _ _ ⟨k, rfl, rfl, hk0, hk1⟩; dsimp only [zA, fA])); refine jK (bts 15 7743) ?_; ((refine jG (bts 15 7807) 6 rfl (g_iaddr rfl rfl ?_) ?_; (focus ((omega); done)))); refine jA 7 rfl ?_; ((refine c_ldMS 64 rfl rfl rfl ?_ rfl (fun xs hxs => ?_); (focus ((simp only [List.length_append, List.length_cons, List.length_nil, List.length_take]; omega); done)))); refine jK (bts 15 7935) ?_; refine jU 0 [8, 13, 14] (bts 15 32767) ?_ ?_; (focus (repeat' (first | exact trivial | apply And.intro | (simp only [List.length_append, List.length_cons, List.length_nil, List.length_take, List.length_drop]; omega)))); refine x_done (by kernel_rfl) (k_bk ?_))); rotate_left 1; (focus (refine x_opg rfl rfl ?_; ((refine c_m1g rfl rfl rfl (c_pick ?_ (by (repeat (assumption)); done)) rfl ?_; (focus ((omega); done)); rintro _ _ ⟨k, rfl, rfl, hk0, hk1⟩; dsimp only [zA, fA])); refine jK (bts 15 7735) ?_; refine jA 3 rfl ?_; (refine c_bsl rfl rfl rfl rfl rfl rfl fun _ => ?_); refine jK (bts 15 7743) ?_; ((refine jG (bts 15 7807) 6 rfl (g_iaddr rfl rfl ?_) ?_; (focus ((omega); done)))); refine jA 7 rfl ?_; ((refine c_ldMS 64 rfl rfl rfl ?_ rfl (fun xs hxs => ?_); (focus ((simp only [List.length_append, List.length_cons, List.length_nil, List.length_take]; omega); done)))); refine jK (bts 15 7935) ?_; refine jU 0 [8, 13, 14] (bts 15 32767) ?_ ?_; (focus (repeat' (first | exact trivial | apply And.intro | (simp only [List.length_append, List.length_cons, List.length_nil, List.length_take, List.length_drop]; omega)))); refine x_done (by kernel_rfl) (k_bk ?_))); rotate_left 1)
  all_goals repeat' (refine jR ?_)
  all_goals exact k_rr (vs := [_]) rfl ⟨rfl, trivial⟩ rfl (by repeat (first | exact List.Sublist.refl _ | exact List.nil_sublist _ | apply List.Sublist.cons_cons | apply List.Sublist.cons)) ⟨rfl, _, _, rfl, by (simp only [List.length_append, List.length_cons, List.length_nil, List.length_take, List.length_drop]; omega), rfl, by omega, by omega⟩
theorem c_l91Three {r : Nat} {code : Value} {p : Int} {l : List UInt8} (hp : 0 ≤ p ∧ p ≤ 400000000000) (hs : SlV G code 1 l.length (u8s l)) :
  FnG Tryz.prog 19 [Pt r 0] G [rdO r code p tRdr] (fun v L' => ∃ s k x q, v = Tu [S s, S k, S x] ∧ (s.length ≤ 20000 ∧ k.length ≤ 400 ∧ x.length ≤ 20000) ∧ L' = [rdO r code q tRdr] ∧ p ≤ q ∧ q ≤ p + 4000000) := by
 refine jH [(0, _)] Tryz.func19 Tryz.ntmps19 fun B hB hW => ?_
 repeat' (first | (refine jR ?_) | (refine k_op rfl ?_; first | (refine c_m1g rfl rfl rfl (c_l91Schema ?_ (by (repeat (assumption)); done)) rfl ?_; (focus ((omega); done)); rintro _ _ ⟨sc, q1, rfl, hsc, rfl, hq1, hq2⟩; dsimp only [zA, fA]) | (refine c_m1g rfl rfl rfl (c_l91Some ?_ (by (repeat (assumption)); done) ?_) rfl ?_; (focus ((omega); done)); (focus ((omega); done)); rintro _ _ ⟨kd, q1, rfl, hkd, rfl, hq1, hq2⟩; dsimp only [zA, fA]) | (refine c_m1g rfl rfl rfl (c_l91Of ?_ (by (repeat (assumption)); done) ?_ ?_) rfl ?_; (focus ((omega); done)); (focus ((omega); done)); (focus ((omega); done)); rintro _ _ ⟨tx, q1, rfl, htx, rfl, hq1, hq2⟩; dsimp only [zA, fA])))
 exact k_rr (vs := [_, _, _]) rfl ⟨rfl, rfl, rfl, trivial⟩ rfl sRr ⟨rfl, _, _, _, _, rfl, ⟨by omega, by omega, by omega⟩, rfl, by omega, by omega⟩
def leavesV (s k w : List UInt8) : Option (List (List UInt8)) := match givenV s k w with
 | some u => if (u.leaves.all fun r => decide (r.length ≤ 8)) = true then some (lvT [] u) else none
 | none => none
theorem leaves_deep : ∀ (n : Nat) (v : V), v.tot ≤ n → ∀ r ∈ v.leaves, r.length ≤ n
 | 0, v, h, _, _ => by have := tot_pos v; omega
 | n + 1, .nd w x t ks, h, r, hr => by
  rw [nd_tot] at h
  rw [V.leaves] at hr
  split at hr
  ·simp only [List.mem_singleton] at hr; subst hr; simp
  ·split at hr
   ·have : ∀ (ks : List V), V.tots ks ≤ n → r ∈ V.leavesF ks → r.length ≤ n := fun ks => by
     induction ks with
     | nil => intro _ hr; rw [V.leavesF] at hr; cases hr
     | cons v ks ih =>
      intro ht hr
      rw [V.tots] at ht
      rw [V.leavesF] at hr
      rcases List.mem_append.1 hr with hr | hr
      ·exact leaves_deep n v (by omega) r hr
      ·exact ih (by omega) hr
    have := this ks (by omega) hr
    omega
   ·obtain ⟨j, q, h1, rfl, h3⟩ := leavesS_mem hr
    have := tot_nth h1
    have := leaves_deep n (nth ks j) (by omega) q h3
    simp only [List.length_cons]; omega
theorem lvT_nth {u : V} {i : Nat} (h : i < u.leaves.length) : nth (lvT [] u) i = pathText (nth u.leaves i) := by
 unfold lvT
 rw [nth_eq (by simpa using h), nth_eq h]; simp
theorem c_PathLeavesS {s k w : List UInt8} (h : s.length ≤ 1048576 ∧ k.length ≤ 1048576 ∧ w.length ≤ 1048576) : FnS Tryz.prog 16 [S s, S k, S w] G (fun v G' => ∃ a c ls, v = Tu [.slice a ls.length c, Bo (leavesV s k w).isSome] ∧ SlV G' (.slice a ls.length c) 1 ls.length (rows strF ls) ∧ (∀ l, leavesV s k w = some l → ls = l) ∧ (leavesV s k w = none → ls = [])) := by
 unfold leavesV
 cases hg : givenV s k w with
 | none =>
  have cx_l40 := c_l4Of0 (G := G) h hg
  refine jB [(0, _), (1, _), (2, _)] Tryz.func16 Tryz.ntmps16 fun B hok hB hW => ?_
  repeat' (first | (refine jR ?_) | (refine k_op rfl ?_; first | refine c_bsl rfl rfl rfl rfl rfl rfl fun _ => ?_ | (refine c_fns rfl rfl rfl cx_l40 rfl ?_; rintro _ G hle ⟨uu, q1, rfl⟩; skip)) | (refine k_tt rfl rfl ?_))
  rename_i x
  refine Nx.blkAcc (m := 0) (sz := 1) .here rfl ?_
  refine Nx.sealS (v := .slice (some ⟨x, 0, none⟩) 0 0) fun G2 hG2 hsl => ?_
  refine jZ (vs := [_, _]) rfl ⟨rfl, rfl, trivial⟩ rfl ⟨(Gh.le.trans (by assumption) hG2), rfl, ?_⟩
  exact ⟨_, _, [], rfl, hsl, fun l h => (by cases h), fun _ => rfl⟩
 | some u =>
  obtain ⟨ts, hs, hki, hvo, hto, hwf⟩ := given_some hg
  have hw := schemaOf_w hs
  have cx_l4x := c_l4OfX (G := G) (s := s) (k := k) (w := w) h hs hki hvo
  have hok := leaves_ok hw (valOf_of_k hvo)
  have hdp := leaves_deep u.tot u (Nat.le_refl _)
  have hll : (lvT [] u).length = u.size := lvT_len
  have hl2 : u.leaves.length = u.size := (size_leaves u).symm
  have hsz := size_totL u
  dsimp only
  refine jB [(0, _), (1, _), (2, _)] Tryz.func16 Tryz.ntmps16 fun B hok hB hW => ?_
  repeat' (first | (refine jR ?_) | (refine k_op rfl ?_; first | refine c_bsl rfl rfl rfl rfl rfl rfl fun _ => ?_ | (refine c_fns rfl rfl rfl cx_l4x rfl ?_; rintro _ G hle ⟨av1, cv1, vs1, b1, rfl, hR1, hT1, hrep⟩; skip)) | (refine k_ff rfl rfl ?_))
  rename_i y
  subst hT1
  refine Nx.blkAcc (m := 0) (sz := 1) .here rfl ?_
  have cx_lv := c_leavesS hw hrep [] (some ⟨y, 0, none⟩) 0 0 [] rfl (by omega) (by simp) (by simp only [List.length_nil]; omega)
  repeat' (first | (refine jR ?_) | (refine k_op rfl ?_; (refine c_accg rfl rfl rfl cx_lv rfl ?_; rintro _ _ ⟨av, cv, rfl, rfl⟩; dsimp only [zA, fA])))
  rw [Nat.zero_add]
  have hle0 := hle
  refine Nx.sealS (v := .slice av u.size cv) fun G2 hG2 hsl => ?_
  have hok8 : ∀ i, i < u.leaves.length → pathOf (nth (lvT [] u) i) = if (nth u.leaves i).length ≤ 8 then some (nth u.leaves i) else none := fun i hi => by
   rw [lvT_nth hi]; exact pathOf_in (hok _ (nth_mem hi)).1
  have hxl : ∀ i, i < u.leaves.length → (nth (lvT [] u) i).length ≤ 1048576 := fun i hi => by
   rw [lvT_nth hi]
   have h1 := pathText_len (hok _ (nth_mem hi)).1
   have h2 := hdp _ (nth_mem hi)
   omega
  have hall : (∀ i, i < u.leaves.length → (nth u.leaves i).length ≤ 8) → (u.leaves.all fun r => decide (r.length ≤ 8)) = true := fun h => by
   rw [List.all_eq_true]
   intro r hr
   obtain ⟨i, hi, rfl⟩ := List.mem_iff_getElem.1 hr
   have := h i hi
   rw [nth_eq hi] at this
   exact decide_eq_true this
  have hex : ∀ i, i < u.leaves.length → ¬ (nth u.leaves i).length ≤ 8 → (u.leaves.all fun r => decide (r.length ≤ 8)) = false := fun i hi h => by
   cases hb : u.leaves.all fun r => decide (r.length ≤ 8) with
   | false => rfl
   | true =>
    rw [List.all_eq_true] at hb
    exact absurd (of_decide_eq_true (hb _ (nth_mem hi))) h
  clear cx_lv hok hdp
  generalize lvT [] u = xs at *
  generalize u.leaves = ls at *
  obtain ⟨obv, hob⟩ : ∃ b, (ls.all fun r => decide (r.length ≤ 8)) = b := ⟨_, rfl⟩
  rw [hob]
  rw [hob] at hall
  rw [← hll] at hsl ⊢
  refine k_loop (ι := Nat × Gh) (fun i => (i.1 ≤ xs.length ∧ ∀ j, j < i.1 → (nth ls j).length ≤ 8) ∧ Gh.le G i.2 ∧ SlV i.2 (.slice av xs.length cv) 1 xs.length (rows strF xs)) (fun i => [(11, .slice av xs.length cv), (12, I i.1)]) (fun i => i.2) (fun i => []) (fun i => xs.length - i.1) (0, G2) ?_ (by repeat' constructor) rfl sRr (fun i Hi => ?_)
  ·exact ⟨⟨Nat.zero_le _, fun j hj => absurd hj (Nat.not_lt_zero _)⟩, hG2, hsl⟩
  obtain ⟨i, Gq⟩ := i
  dsimp only at Hi ⊢
  obtain ⟨⟨hi0, hj8⟩, hgq, hsq⟩ := Hi
  by_cases hi : i < xs.length
  ·obtain ⟨xb, xo, xc, e, hsx⟩ := hsq.expl (by omega)
   simp only [Value.slice.injEq] at e
   obtain ⟨rfl, -, rfl⟩ := e
   have hxi : nth xs i = nth xs i := rfl
   have hpo := hok8 i (by omega)
   by_cases h8 : (nth ls i).length ≤ 8
   ·rw [if_pos h8] at hpo
    have cx_sp := steps_yes (hxl i (by omega)) hpo
    repeat' (first | refine jM ?_ | (refine k_op rfl ?_; first | refine jV (g_lenL rfl) ?_ | (refine jV (g_iaddrN rfl rfl (by omega)) ?_) | (refine jV (g_ldRS rfl rfl (by assumption) ?_) ?_; (focus ((omega); done))) | (refine c_fns rfl rfl rfl (cx_sp _) rfl ?_; rintro _ G hle ⟨sa, sc, sn, rfl, hsp⟩; skip)) | (refine k_tt rfl (dTt (by omega)) ?_) | (refine k_ff rfl rfl ?_))
    exact k_rd (i + 1, _) ⟨⟨by dsimp only; omega, fun j hj => by
     rcases Nat.lt_or_ge j i with h | h
     ·exact hj8 j h
     ·obtain rfl : j = i := by dsimp only at hj; omega
      exact h8⟩, Gh.le.trans hgq (by assumption), hsq.mono (by assumption)⟩ (by dsimp only; omega) (by repeat' constructor) rfl sRr
   ·rw [if_neg h8] at hpo
    have cx_sp := steps_no (hxl i (by omega)) hpo
    obtain rfl : obv = false := by rw [← hob]; exact hex i (by omega) h8
    repeat' (first | (refine jR ?_) | (refine k_op rfl ?_; first | refine c_bsl rfl rfl rfl rfl rfl rfl fun _ => ?_ | refine jV (g_lenL rfl) ?_ | (refine jV (g_iaddrN rfl rfl (by omega)) ?_) | (refine jV (g_ldRS rfl rfl (by assumption) ?_) ?_; (focus ((omega); done))) | (refine c_fns rfl rfl rfl (cx_sp _) rfl ?_; rintro _ G hle ⟨sa, sc, sn, rfl, hsp⟩; skip)) | (refine k_tt rfl (by first | rfl | (refine decide_eq_true ?_; (omega))) ?_))
    rename_i z
    refine Nx.blkAcc (m := 0) (sz := 1) .here rfl ?_
    refine Nx.sealS (v := .slice (some ⟨z, 0, none⟩) 0 0) fun G3 hG3 hsl3 => ?_
    refine jZ (vs := [_, _]) rfl ⟨rfl, rfl, trivial⟩ rfl ⟨(hle0.trans (hgq.trans (hle.trans hG3))), rfl, ?_⟩
    exact ⟨_, _, [], rfl, hsl3, fun l h => (by cases h), fun _ => rfl⟩
  ·obtain rfl : i = xs.length := by omega
   obtain rfl : obv = true := hall fun j hj => hj8 j (by omega)
   repeat' (first | (refine jR ?_) | (refine k_op rfl ?_; (refine jV (g_lenL rfl) ?_)) | (refine k_ff rfl (dFf (by omega)) ?_))
   refine jZ (vs := [_, _]) rfl ⟨rfl, rfl, trivial⟩ rfl ⟨(hle0.trans hgq), rfl, ?_⟩
   exact ⟨_, _, xs, rfl, hsq, fun l h => by simpa using h, fun h => (by cases h)⟩
end Go.E
namespace Go.E
set_option maxRecDepth 20000
set_option maxHeartbeats 2000000
open Go.Proofs
theorem pgv_some {s k w p k1 x1 : List UInt8} (h : pathGetV s k w p = some (k1, x1)) : ∃ ts u q v1, schemaOf s = some ts ∧ givenV s k w = some u ∧ pathOf p = some q ∧ followV ts k u q = some (k1, v1) ∧ x1 = v1.out := by
 unfold pathGetV at h
 split at h
 ·rename_i ts u q h1 h2 h3
  cases hf : followV ts k u q with
  | none => rw [hf] at h; cases h
  | some y =>
   rw [hf] at h
   obtain ⟨k', v'⟩ := y
   simp only [Option.map_some, Option.some.injEq, Prod.mk.injEq] at h
   obtain ⟨rfl, rfl⟩ := h
   exact ⟨ts, u, q, v', h1, h2, h3, hf, rfl⟩
 ·cases h
theorem pgv_in {s k w p k1 : List UInt8} {ts : List Ty} {u v1 : V} {q : List Int} (h1 : schemaOf s = some ts) (h2 : givenV s k w = some u) (h3 : pathOf p = some q) (h4 : followV ts k u q = some (k1, v1)) : pathGetV s k w p = some (k1, v1.out) := by
 unfold pathGetV
 rw [h1, h2, h3]
 dsimp only
 rw [h4]; rfl
theorem given_in {s k w : List UInt8} {ts : List Ty} {u : V} (h1 : schemaOf s = some ts) (h2 : kindIn ts k = true) (h3 : valOf ts k w = some u) : givenV s k w = some u := by
 unfold givenV
 rw [h1]
 dsimp only
 rw [if_pos h2, h3]
end Go.E
namespace Go.E
set_option maxRecDepth 20000
set_option maxHeartbeats 2000000
open Go.Proofs
variable {G : Gh}
theorem leavesV_len {s k w : List UInt8} {ls : List (List UInt8)} (h : leavesV s k w = some ls) : ∀ i, i < ls.length → (nth ls i).length ≤ 56 := fun i hi => by
 unfold leavesV at h
 cases hg : givenV s k w with
 | none => rw [hg] at h; cases h
 | some u =>
  rw [hg] at h
  dsimp only at h
  split at h
  ·rename_i hall
   simp only [Option.some.injEq] at h
   subst h
   obtain ⟨ts, hs, hki, hvo, hto, hwf⟩ := given_some hg
   have hok := leaves_ok (schemaOf_w hs) (valOf_of_k hvo)
   have hi2 : i < u.leaves.length := by simpa [lvT] using hi
   rw [lvT_nth hi2]
   have h1 := pathText_len (hok _ (nth_mem hi2)).1
   rw [List.all_eq_true] at hall
   have h2 := of_decide_eq_true (hall _ (nth_mem hi2))
   omega
  ·cases h
theorem leavesV_cnt {s k w : List UInt8} {ls : List (List UInt8)} (h : leavesV s k w = some ls) : ls.length ≤ 40000 := by
 unfold leavesV at h
 cases hg : givenV s k w with
 | none => rw [hg] at h; cases h
 | some u =>
  rw [hg] at h
  dsimp only at h
  split at h
  ·simp only [Option.some.injEq] at h
   subst h
   obtain ⟨ts, hs, hki, hvo, hto, hwf⟩ := given_some hg
   have := size_totL u
   rw [lvT_len]; omega
  ·cases h
abbrev tIntQ : TypeId := 3
theorem c_readPath {s : List UInt8} (h : s.length ≤ 1048576) : FnS Tryz.prog 25 [S s] G (StepsP s) := by
 by_cases h0 : s = []
 ·subst h0
  refine jB [(0, _)] Tryz.func25 Tryz.ntmps25 fun B hok hB hW => ?_
  repeat' (first | (refine jR ?_) | (refine k_tt rfl rfl ?_))
  refine jZ (vs := [_, _]) rfl ⟨rfl, rfl, trivial⟩ rfl ⟨Gh.le.refl _, rfl, ?_⟩
  exact ⟨_, _, _, rfl, fun p hp => by
   obtain rfl : p = [] := by unfold pathOf at hp; simpa using hp.symm
   exact ⟨rfl, SlV.nil0⟩⟩
 have cx_split : FnS Tryz.prog 51 [S s, S [47]] G (fun v G' => ∃ b o cap, v = .slice (some ⟨b, o, none⟩) (cut 47 s).length cap ∧ Seg G' b o (rows strF (cut 47 s))) := by
  refine (c_Split (c := 47) (by omega)).mono ?_
  rintro v G' L' ⟨h1, h2, h3⟩
  have hp : 0 < (cut 47 s).length := cut_pos
  exact ⟨h1, h2, h3.expl hp⟩
 have hcl := cut_count (k := 47) (s := s)
 have hbad := fun {i : Nat} => pathOf_bad h0 (i := i)
 have hpo := pathOf_ne h0
 have hxl : ∀ i, i < (cut 47 s).length → (nth (cut 47 s) i).length ≤ 100000000 := fun i hi => by
  have := cut_len (nth_mem hi)
  omega
 generalize cut 47 s = xs at *
 refine jB [(0, _)] Tryz.func25 Tryz.ntmps25 fun B hok hB hW => ?_
 repeat' (first | (refine jR ?_) | (refine k_op rfl ?_; first | refine jV (g_lenL rfl) ?_ | (refine c_fns rfl rfl rfl cx_split rfl ?_; rintro _ G hle ⟨b1, o1, cap1, rfl, hseg⟩; skip)) | (refine k_ff rfl (dFf ‹_›) ?_))
 refine Nx.addNil tIntQ 1 ?_
 refine k_loop (ι := List Int × Option Addr × Nat × Nat) (fun j => (j.1.length = j.2.2.2 ∧ j.2.2.2 ≤ xs.length ∧ j.2.2.2 ≤ 8) ∧ stepsOf (xs.take j.2.2.2) = some j.1) (fun j => [(4, .slice j.2.1 j.1.length j.2.2.1), (12, .slice (some ⟨b1, o1, none⟩) xs.length cap1), (13, I xs.length), (14, I j.2.2.2)]) (fun _ => G) (fun j => [.acc (.slice j.2.1 j.1.length j.2.2.1) tIntQ 1 j.1.length (rows inR j.1)]) (fun j => xs.length - j.2.2.2) ([], none, 0, 0) ?_ (by repeat' constructor) rfl sRr (fun j Hj => ?_)
 ·exact ⟨⟨rfl, Nat.zero_le _, Nat.zero_le _⟩, rfl⟩
 obtain ⟨ps, a, c, i⟩ := j
 dsimp only at Hj ⊢
 obtain ⟨⟨hpl, hi0, hi8⟩, hst⟩ := Hj
 by_cases hi : i < xs.length
 ·have hxl1 := hxl i hi
  cases hn : numOf (nth xs i) 999999 with
  | none =>
   have hno := hbad hi hn
   have hns : (!(numOf (nth xs i) 999999).isSome) = true := by rw [hn]; rfl
   repeat' (first | (refine jR ?_) | (refine k_op rfl ?_; first | (refine jV (g_iaddrN rfl rfl (by omega)) ?_) | (refine jV (g_ldRS rfl rfl (by assumption) ?_) ?_; (focus ((omega); done))) | (refine jV (g_pickT rfl rfl rfl) ?_) | (refine c_pu rfl rfl rfl (c_plainNumber (by omega)) rfl ?_; rintro _ ⟨n, rfl, hnum⟩)) | (refine k_gt rfl rfl ‹_› ?_) | (refine k_tt rfl (by first | rfl | (refine decide_eq_true ?_; (omega))) ?_))
   all_goals refine jZ (vs := [_, _]) rfl ⟨rfl, rfl, trivial⟩ rfl ⟨hle, rfl, ?_⟩
   all_goals exact ⟨_, _, _, by rw [hno]; rfl, fun p hp => by rw [hno] at hp; cases hp⟩
  | some m =>
   have hns : (!(numOf (nth xs i) 999999).isSome) = false := by rw [hn]; rfl
   by_cases h8 : i = 8
   ·subst h8
    have hno : pathOf s = none := by
     rw [hpo]
     cases hso : stepsOf xs with
     | none => rfl
     | some q =>
      have := (stepsOf_len hso).1
      dsimp only
      rw [if_neg (by omega)]
    have h88 : ((ps.length : Nat) : Int) = 8 := by omega
    repeat' (first | (refine jR ?_) | (refine k_op rfl ?_; first | refine jV (g_lenL rfl) ?_ | (refine jV (g_iaddrN rfl rfl (by omega)) ?_) | (refine jV (g_ldRS rfl rfl (by assumption) ?_) ?_; (focus ((omega); done))) | (refine jV (g_pickF rfl rfl rfl) ?_) | (refine c_pu rfl rfl rfl (c_plainNumber (by omega)) rfl ?_; rintro _ ⟨n, rfl, hnum⟩)) | (refine k_gf rfl rfl ‹_› ?_) | (refine k_tt rfl (by refine decide_eq_true ?_; first | assumption | omega) ?_))
    all_goals refine jZ (vs := [_, _]) rfl ⟨rfl, rfl, trivial⟩ rfl ⟨hle, rfl, ?_⟩
    all_goals exact ⟨_, _, _, by rw [hno]; rfl, fun p hp => by rw [hno] at hp; cases hp⟩
   ·have h88 : ¬ ((ps.length : Nat) : Int) = 8 := by omega
    repeat' (first | refine jM ?_ | (refine k_op rfl ?_; first | refine jV (g_lenL rfl) ?_ | (refine jV (g_iaddrN rfl rfl (by omega)) ?_) | (refine jV (g_ldRS rfl rfl (by assumption) ?_) ?_; (focus ((omega); done))) | (refine jV (g_pickF rfl rfl rfl) ?_) | refine c_bsl rfl rfl rfl rfl rfl rfl fun _ => ?_ | (refine c_apX rfl rfl rfl rfl rfl rfl rfl rfl rfl (by omega) fun _ _ => ?_) | (refine c_pu rfl rfl rfl (c_plainNumber (by omega)) rfl ?_; rintro _ ⟨n, rfl, hnum⟩)) | (refine k_gf rfl rfl ‹_› ?_) | (refine k_tt rfl (dTt (by omega)) ?_) | (refine k_ff rfl (dFf ‹_›) ?_))
    rename_i y1 yc
    have hmn := hnum m hn
    subst hmn
    have hst2 : stepsOf (xs.take (i + 1)) = some (ps ++ [n]) := by rw [take_nth hi, stepsOf_snoc hst, hn]; rfl
    have hl1 : (ps ++ [n]).length = ps.length + 1 := by simp
    rw [show rows inR ps ++ [I n] = rows inR (ps ++ [n]) from (rows_snoc inR ps n).symm]
    exact k_rd (ps ++ [n], some ⟨y1, 0, none⟩, yc, i + 1) ⟨⟨by dsimp only; omega, by dsimp only; omega, by dsimp only; omega⟩, hst2⟩ (by dsimp only; omega) (by rw [hl1]; repeat (first | exact trivial | refine ⟨rfl, ?_⟩)) rfl (by rw [hl1]; repeat (first | exact List.nil_sublist _ | apply List.Sublist.cons_cons))
 ·rw [List.take_of_length_le (by omega)] at hst
  rw [hst] at hpo
  dsimp only at hpo
  rw [if_pos (by omega)] at hpo
  repeat' (first | (refine jR ?_) | (refine k_ff rfl (dFf (by omega)) ?_))
  refine Nx.sealS (v := .slice a ps.length c) fun G2 hG2 hsl => ?_
  refine jZ (vs := [_, _]) rfl ⟨rfl, rfl, trivial⟩ rfl ⟨hle.trans hG2, rfl, ?_⟩
  refine ⟨_, _, _, by rw [hpo]; rfl, fun p hp => ?_⟩
  rw [hpo] at hp
  simp only [Option.some.injEq] at hp; subst hp; exact ⟨rfl, hsl⟩
theorem sg_core : ∀ k : List UInt8, sg k ++ core k = k
 | [] => rfl
 | c :: r => by
  by_cases h : c.toNat = 91 ∨ c.toNat = 63
  ·rw [sg_cons h, core, if_pos h, List.cons_append, sg_core r]
  ·rw [sg_none h, core_self h]; rfl
theorem kind_text {k : List UInt8} (h : kindOk k = true) : (bs k = [64] → sg k ++ [64] ++ nm k ++ [59] = k) ∧ (bs k ≠ [64] → sg k ++ bs k = k) := by
 have hk := core_kOk (kindOk_kOk h).1
 have hsc := sg_core k
 refine ⟨fun h64 => ?_, fun hne => ?_⟩
 ·have hr := (bs_at h).1 h64
  cases hc : core k with
  | nil => rw [hc] at hk; cases hk
  | cons c r =>
   rw [hc] at hr hk hsc
   have h64' : c.toNat = 64 := by
    by_cases h64' : c.toNat = 64
    ·exact h64'
    ·simp [refN, h64'] at hr
   have hn : nm k = r.take (r.length - 1) := by unfold nm; rw [hc]; simp [refN, h64']
   rw [kOk, if_neg (by omega), if_pos h64'] at hk
   simp only [Bool.and_eq_true, decide_eq_true_eq] at hk
   obtain ⟨h59, hnm⟩ := hk
   have hrl : 1 ≤ r.length := by
    cases r with
    | nil => simp [isNm] at hnm
    | cons => simp
   obtain ⟨m, hm⟩ : ∃ m, r.length = m + 1 := ⟨r.length - 1, by omega⟩
   rw [hm, bt_succ] at h59
   have e3 : r = r.take m ++ [59] := by
    have e1 : r.take (m + 1) = r := List.take_of_length_le (by omega)
    have e2 := take_nth (cs := r) (i := m) (by omega)
    rw [e1] at e2
    have e4 : nth r m = 59 := by
     rw [nth_eq (by omega)]
     have : bt r m = (r[m]'(by omega)).toNat := by simp [bt, List.getD, List.getElem?_eq_getElem (show m < r.length by omega)]
     exact UInt8.toNat_inj.1 (by rw [← this]; show bt r m = 59; omega)
    rw [e4] at e2; exact e2
   have hc64 : c = 64 := UInt8.toNat_inj.1 h64'
   have e5 : sg k ++ 64 :: (r.take m ++ [59]) = k := by rw [← e3, ← hc64]; exact hsc
   rw [hn, hm, Nat.add_sub_cancel]
   refine Eq.trans ?_ e5
   simp
 ·have hr : refN (core k) = none := by
   cases hr : refN (core k) with
   | none => rfl
   | some x => exact absurd ((bs_at h).2 (by rw [hr]; rfl)) hne
  have e : bs k = core k := by
   unfold bs
   cases hc : core k with
   | nil => rfl
   | cons c r =>
    rw [hc] at hr
    have h64 : ¬ c.toNat = 64 := by intro h64; simp [refN, h64] at hr
    simp [bsT, h64]
  rw [e]; exact hsc
theorem c_textI {k : List UInt8} (h : kindOk k = true) : PuG Tryz.prog 38 [Ag (kdF k)] G (· = S k) := by
 obtain ⟨h1, h2⟩ := kind_text h
 have hl := (kindOk_kOk h).2
 have hsl : (sg k).length ≤ 12 := by
  have := congrArg List.length (sg_core k)
  simp only [List.length_append] at this
  omega
 unfold kdF
 by_cases h64 : bs k = [64]
 ·have e := h1 h64
  have hnl := congrArg List.length e
  simp only [List.length_append, List.length_cons, List.length_nil] at hnl
  rw [h64]
  refine jE [(0, _)] Tryz.func38 Tryz.ntmps38 fun B hB => ?_
  repeat' (first | (refine run (t := tb) 400 rfl ?_ ?_; (focus (repeat' (first | exact trivial | apply And.intro | (simp only [List.length_append, List.length_cons, List.length_nil, Int.toNat_natCast]; omega))))) | (refine k_op rfl ?_; first | refine c_bx rfl rfl rfl fun _ => ?_ | refine jV (g_ld rfl rfl rfl) ?_) | (refine k_tt rfl rfl ?_))
  all_goals refine jZ (vs := [_]) rfl ⟨rfl, trivial⟩ rfl ⟨rfl, rfl, ?_⟩
  all_goals (rw [oneOf_one, e])
 ·have e := h2 h64
  have hnl := congrArg List.length e
  simp only [List.length_append] at hnl
  refine jE [(0, _)] Tryz.func38 Tryz.ntmps38 fun B hB => ?_
  repeat' (first | refine jM ?_ | (refine k_op rfl ?_; first | refine c_bx rfl rfl rfl fun _ => ?_ | refine jV (g_ld rfl rfl rfl) ?_) | (refine k_ff rfl (dFf ‹_›) ?_))
  all_goals refine jZ (vs := [_]) rfl ⟨rfl, trivial⟩ rfl ⟨rfl, rfl, ?_⟩
  all_goals (rw [oneOf_one, e])
theorem c_must {b : Nat} {qs : List TyP} {k s : List UInt8} {u : V} (hS : ScI G b qs) (hw : SchW (tyq qs)) (hk : kindIn (tyq qs) k = true) (hvo : valOf (tyq qs) k s = some u) :
  FnS Tryz.prog 121 [Pt b 0, Ag (kdF k), S s] G (fun r G' => ∃ c, r = Ag (vcF c) ∧ V.rep G' u c) := by
 have hl := (valOf_rd hvo).2
 have cx_ris : FnS Tryz.prog 27 [Pt b 0, Ag [S (sg k), S (bs k), S (nm k)], S s] G (fun v G' => ∃ cv, v = Tu [Ag (vcF cv), Bo true] ∧ V.rep G' u cv) := by
  refine (c_readI (G := G) (b := b) (s := s) hS hw hk (by omega)).mono ?_
  rintro v G' L' ⟨h1, h2, ⟨h4, _⟩ | ⟨u', c, h4, rfl, h5⟩⟩
  ·rw [hvo] at h4; cases h4
  ·rw [hvo] at h4; obtain rfl := Option.some.inj h4; exact ⟨h1, h2, c, rfl, h5⟩
 unfold kdF
 refine jB [(0, _), (1, _), (2, _)] Tryz.func121 Tryz.ntmps121 fun B hok hB hW => ?_
 repeat' (first | (refine jR ?_) | (refine k_op rfl ?_; first | refine c_bx rfl rfl rfl fun _ => ?_ | refine c_al rfl rfl fun _ => ?_ | refine jV (g_ldA rfl rfl rfl rfl) ?_ | refine c_stA rfl rfl rfl rfl rfl rfl ?_ | (refine c_fns rfl rfl rfl cx_ris rfl ?_; rintro _ G hle ⟨cv, rfl, hrv⟩; skip)))
 all_goals refine jZ (vs := [_]) rfl ⟨rc_A rfl rfl rfl rfl, trivial⟩ rfl ⟨hle, rfl, ?_⟩
 all_goals exact ⟨cv, rfl, hrv⟩
theorem getV_told {ts : List Ty} {f : Fld} {fs : List (Fld × V)} {j : Nat} (hj : j < fs.length) (hjn : (nth fs j).1.tag = f.tag) (hno : ∀ i, i < j → (nth fs i).1.tag ≠ f.tag) : getV ts (.nd 82 [] 0 (fs.map fldV)) f = (nth fs j).2 := by
 unfold getV
 rw [V.kids, toldV_at hj hjn hno]; rfl
theorem getV_untold {ts : List Ty} {f : Fld} {fs : List (Fld × V)} (hno : ∀ i, i < fs.length → (nth fs i).1.tag ≠ f.tag) : getV ts (.nd 82 [] 0 (fs.map fldV)) f = standV ts f := by
 unfold getV
 rw [V.kids, toldV_no hno]; rfl
theorem c_getI {b bf of j : Nat} {qs : List TyP} {t : Ty} {fs : List (Fld × V)} {c : VC} (hS : ScI G b qs) (hw : SchW (tyq qs)) (ht : t ∈ tyq qs) (hso : t.sort = 82) (hsf : Seg G bf of (rows fiF t.fields)) (hj : j < t.fields.length) (hrep : V.rep G (.nd 82 [] 0 (fs.map fldV)) c) (h9 : fs.length ≤ 1000000) :
  FnS Tryz.prog 88 [Pt b 0, Ag (vcF c), Pt bf (of + j * 6)] G (fun r G' => ∃ c', r = Ag (vcF c') ∧ V.rep G' (getV (tyq qs) (.nd 82 [] 0 (fs.map fldV)) (nth t.fields j)) c') := by
 obtain ⟨a, k, cs, rfl, _, _, _, hcl, hsl, hrs⟩ := rep_inv hrep
 have hml : (fs.map fldV).length = fs.length := by simp
 rw [hml] at hcl hsl
 have hfm : nth t.fields j ∈ t.fields := nth_mem hj
 have hdk : kindIn (tyq qs) (nth t.fields j).kind = true := kind_in hw ht (by omega) hfm
 obtain ⟨g1, g2, g3⟩ := standV_ok hw ht (by omega) hfm
 have cx_of := c_ofI hS hw hsf hj hdk
 have hnt : ∀ i, i < fs.length → nth (fs.map fldV) i = fldV (nth fs i) := fun i hi => by rw [nth_eq (by simpa using hi), nth_eq hi]; simp
 have hrn : ∀ i, i < fs.length → V.rep G (fldV (nth fs i)) (nth cs i) := fun i hi => by
  have := reps_nth hrs i (by omega)
  rwa [hnt i hi] at this
 have e0 : vcF ⟨82, [], 0, a, (fs.map fldV).length, k⟩ = [U8 (82 : Nat), S [], I 0, .slice a fs.length k] := by rw [← hml]; rfl
 rw [e0]
 refine jB [(0, _), (1, _), (2, _)] Tryz.func88 Tryz.ntmps88 fun B hok hB hW => ?_
 repeat' (first | (refine jR ?_) | (refine k_op rfl ?_; first | refine c_bx rfl rfl rfl fun _ => ?_ | refine c_al rfl rfl fun _ => ?_ | refine jV (g_ld rfl rfl rfl) ?_ | refine jV (g_lenL rfl) ?_))
 rename_i y4 y6
 refine k_loop (ι := Nat) (fun i => i ≤ fs.length ∧ ∀ l, l < i → (nth fs l).1.tag ≠ (nth t.fields j).tag) (fun i => [(0, Pt b 0), (2, Pt bf (of + j * 6)), (6, Pt y6 0), (10, .slice a fs.length k), (11, I fs.length), (12, I i)]) (fun _ => G) (fun i => [.blk y6 (.cells (List.toArray [U8 0, S [], I 0, nilS]) tVal (0, 0))]) (fun i => fs.length - i) 0 ?_ (by repeat' constructor) rfl (by repeat (first | exact List.nil_sublist _ | apply List.Sublist.cons_cons)) (fun i Hi => ?_)
 ·exact ⟨Nat.zero_le _, fun l hl => absurd hl (by omega)⟩
 obtain ⟨hi0, hno⟩ := Hi
 by_cases hi : i < fs.length
 ·obtain ⟨xb, xo, xc, e, hsx⟩ := hsl.expl (by omega)
  simp only [Value.slice.injEq] at e
  obtain ⟨rfl, -, rfl⟩ := e
  obtain ⟨a1, k1, cs1, hci, _, _, _, hcl1, hsl1, hrs1⟩ := rep_inv (hrn i hi)
  rw [V.reps] at hrs1
  obtain ⟨c1, cs2, rfl, hr1, hr2⟩ := hrs1
  rw [V.reps] at hr2
  subst hr2
  have hci : nth cs i = ⟨61, [], (nth fs i).1.tag, a1, 1, k1⟩ := hci
  have hsl1 : SlV G (.slice a1 1 k1) 4 ([c1] : List VC).length (rows vcF [c1]) := hsl1
  obtain ⟨zb, zo, zc, e, hsz⟩ := hsl1.expl (by omega)
  simp only [Value.slice.injEq] at e
  obtain ⟨rfl, -, rfl⟩ := e
  by_cases ht2 : (nth fs i).1.tag = (nth t.fields j).tag
  ·have hget := getV_told (ts := tyq qs) hi ht2 hno
   rw [hget]
   repeat' (first | (refine jR ?_) | (refine k_op rfl ?_; first | refine c_al rfl rfl fun _ => ?_ | refine jV (g_ld rfl rfl rfl) ?_ | (refine jV (g_ldRx rfl rfl (by assumption) ?_ (by assumption)) ?_; (focus ((omega); done))) | (refine jV (g_iaddrN rfl rfl (by omega)) ?_) | refine c_stA rfl rfl rfl rfl rfl rfl ?_) | (refine k_tt rfl (by refine decide_eq_true ?_; first | assumption | omega) ?_) | (refine k_any (s_any (id := 4) _ (fun _ h => h) mixed ?_); refine jT 3 [0, 2, 3, 4] (bts 7 29) ?_; (refine jG (bts 7 31) 1 rfl (g_ld rfl rfl rfl) ?_); ((refine jG (bts 7 63) 5 rfl (g_ldRF rfl rfl (by assumption) ?_ rfl rfl) ?_; (focus ((omega); done)))); refine jT 0 [6] (bts 7 127) ?_; refine x_done (by kernel_rfl) (k_bk ?_)))
   dsimp only [vcF, VC.sl]
   repeat' (first | (refine jR ?_) | (refine k_op rfl ?_; first | (refine jV (g_ldR rfl rfl (by assumption) ?_) ?_; (focus ((omega); done))) | (refine jV (g_iaddr rfl rfl (by omega)) ?_) | refine c_stA rfl rfl rfl rfl rfl rfl ?_))
   all_goals refine jZ (vs := [_]) rfl ⟨rc_A rfl rfl rfl rfl, trivial⟩ rfl ⟨Gh.le.refl _, rfl, ?_⟩
   all_goals exact ⟨c1, rfl, hr1⟩
  ·repeat' (first | refine jM ?_ | (refine k_op rfl ?_; first | refine c_al rfl rfl fun _ => ?_ | (refine jV (g_ldRx rfl rfl (by assumption) ?_ (by assumption)) ?_; (focus ((omega); done))) | (refine jV (g_iaddrN rfl rfl (by omega)) ?_) | refine c_stA rfl rfl rfl rfl rfl rfl ?_) | (refine k_tt rfl (dTt (by omega)) ?_) | (refine k_ff rfl (dFf ‹_›) ?_) | (refine k_any (s_any (id := 4) _ (fun _ h => h) mixed ?_); refine jT 3 [0, 2, 3, 4] (bts 7 29) ?_; (refine jG (bts 7 31) 1 rfl (g_ld rfl rfl rfl) ?_); ((refine jG (bts 7 63) 5 rfl (g_ldRF rfl rfl (by assumption) ?_ rfl rfl) ?_; (focus ((omega); done)))); refine jT 0 [6] (bts 7 127) ?_; refine x_done (by kernel_rfl) (k_bk ?_)))
   exact k_rd (i + 1) ⟨by omega, fun l hl => (by
    rcases Nat.lt_or_ge l i with h | h
    ·exact hno l h
    ·have : l = i := by omega
     subst this; exact ht2)⟩ (by omega) (by repeat' constructor) rfl (by repeat (first | exact List.Sublist.refl _ | apply List.Sublist.cons))
 ·have hget := getV_untold (ts := tyq qs) (f := nth t.fields j) (fs := fs) fun l hl => hno l (by omega)
  rw [hget]
  have cx_mu := c_must hS hw hdk g2
  unfold kdF at cx_mu
  repeat' (first | (refine jR ?_) | (refine k_ff rfl (dFf (by omega)) ?_) | (refine k_any (s_anyD (id := 7) (tt := 6) rfl mixed ?_); refine jU 4 [0, 1, 2, 3, 5, 6] (bts 10 111) ?_ ?_; (focus (repeat' (exact trivial))); ((refine jG (bts 10 127) 4 rfl (g_ldRA rfl rfl (by assumption) ?_ rfl rfl) ?_; (focus ((omega); done)))); refine jA 7 rfl ?_; (refine c_rt rfl rfl rfl cx_of rfl ?_); refine jK (bts 10 255) ?_; refine jA 8 rfl ?_; (refine c_fns rfl rfl rfl cx_mu rfl ?_; rintro _ G hle ⟨cv, rfl, hrv⟩; skip); refine jK (bts 10 511) ?_; refine jA 9 rfl ?_; (refine c_stA rfl rfl rfl rfl rfl rfl ?_); refine jK (bts 10 1023) ?_; refine x_done (by kernel_rfl) (k_bk ?_)))
  all_goals refine jZ (vs := [_]) rfl ⟨rc_A rfl rfl rfl rfl, trivial⟩ rfl ⟨hle, rfl, ?_⟩
  all_goals exact ⟨cv, rfl, hrv⟩
def StepPI (ts : List Ty) (o : Option (List UInt8 × V)) (r : Value) (G' : Gh) : Prop := (o = none ∧ r = Tu [Ag [S [], S [], S []], zP, Bo false]) ∨ ∃ k' v' c', o = some (k', v') ∧ r = Tu [Ag (kdF k'), Ag (vcF c'), Bo true] ∧ V.rep G' v' c'
theorem StepPI.no {f : FuncId} {args : List Value} {ts : List Ty} {o : Option (List UInt8 × V)} (h : FnS Tryz.prog f args G (StepPI ts o)) (e : o = none) : FnS Tryz.prog f args G (fun r _ => r = Tu [Ag [S [], S [], S []], zP, Bo false]) := by
 refine h.mono ?_
 rintro v G' L' ⟨h1, h2, ⟨_, h3⟩ | ⟨k', v', b', h3, _⟩⟩
 ·exact ⟨h1, h2, h3⟩
 ·rw [e] at h3; cases h3
theorem StepPI.yes {f : FuncId} {args : List Value} {ts : List Ty} {o : Option (List UInt8 × V)} {k' : List UInt8} {v' : V} (h : FnS Tryz.prog f args G (StepPI ts o)) (e : o = some (k', v')) : FnS Tryz.prog f args G (fun r G' => ∃ c', r = Tu [Ag [S (sg k'), S (bs k'), S (nm k')], Ag (vcF c'), Bo true] ∧ V.rep G' v' c') := by
 refine h.mono ?_
 rintro v G' L' ⟨h1, h2, ⟨h3, _⟩ | ⟨k2, v2, b', h3, h4, h5⟩⟩
 ·rw [e] at h3; cases h3
 ·rw [e] at h3
  simp only [Option.some.injEq, Prod.mk.injEq] at h3
  obtain ⟨rfl, rfl⟩ := h3
  exact ⟨h1, h2, b', h4, h5⟩
theorem c_stepL {b : Nat} {k : List UInt8} {ts : List Ty} {ks : List V} {c : VC} {n : Int} (hr : V.rep G (.nd 91 [] 0 ks) c) (hn : 0 ≤ n ∧ n ≤ 999999) (hkl : ks.length ≤ 1000000) :
  FnS Tryz.prog 53 [Pt b 0, Ag (kdF (91 :: k)), Ag (vcF c), I n] G (StepPI ts (stepV ts (91 :: k) (.nd 91 [] 0 ks) n)) := by
 obtain ⟨e1, e2, e3, _⟩ := kdF_cons (c := 91) (k := k) (.inl rfl)
 have cx_sign := @c_sign1 G 91 (sg k) (bs k) (nm k)
 have cx_pt := @c_part G 91 (sg k) (bs k) (nm k)
 obtain ⟨a, kc, cs, rfl, _, _, _, hcl, hsl, hrs⟩ := rep_inv hr
 have hst := stepV_kid (ts := ts) (c := 91) (r := k) (v := .nd 91 [] 0 ks) (n := n) (.inl rfl)
 rw [V.kids] at hst
 rw [hst]
 unfold kdF
 rw [e1, e2, e3]
 have e0 : vcF ⟨91, [], 0, a, ks.length, kc⟩ = [U8 (91 : Nat), S [], I 0, .slice a ks.length kc] := rfl
 rw [e0]
 by_cases hn2 : n < ((ks.length : Nat) : Int)
 ·obtain ⟨i, rfl⟩ : ∃ i : Nat, n = i := ⟨n.toNat, by omega⟩
  obtain ⟨xb, xo, xc, e, hsx⟩ := hsl.expl (by omega)
  simp only [Value.slice.injEq] at e
  obtain ⟨rfl, -, rfl⟩ := e
  have hri := reps_nth hrs i (by omega)
  obtain ⟨d, hxi⟩ : ∃ d, nth cs i = d := ⟨_, rfl⟩
  rw [hxi] at hri
  rw [if_pos hn2]
  refine jB [(0, _), (1, _), (2, _), (3, _)] Tryz.func53 Tryz.ntmps53 fun B hok hB hW => ?_
  repeat' (first | (refine jR ?_) | (refine k_op rfl ?_; first | refine c_bx rfl rfl rfl fun _ => ?_ | refine c_al rfl rfl fun _ => ?_ | refine jV (g_ld rfl rfl rfl) ?_ | refine jV (g_ldA rfl rfl rfl rfl) ?_ | refine jV (g_lenL rfl) ?_ | (refine c_rt rfl rfl rfl cx_sign rfl ?_)) | (refine k_tt rfl rfl ?_) | (refine k_ff rfl (dFf (by omega)) ?_))
  rename_i y5 y6 y8 y9
  (refine k_any (s_any (id := 5) [.blk y6 (.cells (List.toArray [U8 (91 : Nat), S [], I 0, .slice (some ⟨xb, xo, none⟩) ks.length kc]) tVal (0, 0)), .blk y5 (.cells (List.toArray [S (91 :: sg k), S (bs k), S (nm k)]) tKnd (0, 0))] (by intro y hy; simp only [List.mem_cons, List.not_mem_nil, or_false] at hy ⊢; rcases hy with hy | hy <;> simp [hy]) mixed ?_); refine jU 8 [2, 4] (bts 10 20) ?_ ?_; (focus (repeat' (exact trivial))); (refine jG (bts 10 21) 0 rfl (g_ldA rfl rfl rfl rfl) ?_); (refine jG (bts 10 29) 3 rfl (g_ld rfl rfl rfl) ?_); ((refine jG (bts 10 61) 5 rfl (g_iaddrN rfl rfl ?_) ?_; (focus ((omega); done)))); ((refine jG (bts 10 125) 6 rfl (g_ldRx rfl rfl (by assumption) ?_ (by assumption)) ?_; (focus ((omega); done)))); refine jA 1 rfl ?_; (refine c_rt rfl rfl rfl cx_pt rfl ?_); refine jK (bts 10 127) ?_; refine jA 7 rfl ?_; (refine c_stA rfl rfl rfl rfl rfl rfl ?_); refine jK (bts 10 255) ?_; refine jA 8 rfl ?_; (refine c_stA rfl rfl rfl rfl rfl rfl ?_); refine jK (bts 10 511) ?_; refine jU 0 [9] (bts 10 1023) ?_ ?_; (focus (repeat' (exact trivial))); refine x_done (by kernel_rfl) (k_bk ?_))
  all_goals repeat' (refine jR ?_)
  all_goals refine jZ (vs := [_, _, _]) rfl ⟨rc_A rfl rfl rfl rfl, rc_A rfl rfl rfl rfl, rfl, trivial⟩ rfl ⟨Gh.le.refl _, rfl, ?_⟩
  all_goals exact .inr ⟨k, nth ks i, d, rfl, rfl, hri⟩
 ·rw [if_neg hn2]
  refine jB [(0, _), (1, _), (2, _), (3, _)] Tryz.func53 Tryz.ntmps53 fun B hok hB hW => ?_
  repeat' (first | (refine jR ?_) | (refine k_op rfl ?_; first | refine c_bx rfl rfl rfl fun _ => ?_ | refine c_al rfl rfl fun _ => ?_ | refine jV (g_ld rfl rfl rfl) ?_ | refine jV (g_ldA rfl rfl rfl rfl) ?_ | refine jV (g_lenL rfl) ?_ | refine jV (g_bld rfl rfl) ?_ | refine c_stA rfl rfl rfl rfl rfl rfl ?_ | (refine c_rt rfl rfl rfl cx_sign rfl ?_)) | (refine k_tt rfl (by first | rfl | (refine decide_eq_true ?_; (omega))) ?_))
  all_goals refine jZ (vs := [_, _, _]) rfl ⟨rc_A rfl rfl rfl rfl, rc_A rfl rfl rfl rfl, rfl, trivial⟩ rfl ⟨Gh.le.refl _, rfl, ?_⟩
  all_goals exact .inl ⟨rfl, rfl⟩
theorem c_stepO {b : Nat} {k : List UInt8} {ts : List Ty} {ks : List V} {c : VC} {n : Int} (hks : ks = [] ∨ ∃ w, ks = [w]) (hr : V.rep G (.nd 63 [] 0 ks) c) (hn : 0 ≤ n ∧ n ≤ 999999) :
  FnS Tryz.prog 53 [Pt b 0, Ag (kdF (63 :: k)), Ag (vcF c), I n] G (StepPI ts (stepV ts (63 :: k) (.nd 63 [] 0 ks) n)) := by
 obtain ⟨e1, e2, e3, _⟩ := kdF_cons (c := 63) (k := k) (.inr rfl)
 have cx_sign := @c_sign1 G 63 (sg k) (bs k) (nm k)
 have cx_pt := @c_part G 63 (sg k) (bs k) (nm k)
 obtain ⟨a, kc, cs, rfl, _, _, _, hcl, hsl, hrs⟩ := rep_inv hr
 have hst := stepV_kid (ts := ts) (c := 63) (r := k) (v := .nd 63 [] 0 ks) (n := n) (.inr rfl)
 rw [V.kids] at hst
 rw [hst]
 unfold kdF
 rw [e1, e2, e3]
 have e0 : vcF ⟨63, [], 0, a, ks.length, kc⟩ = [U8 (63 : Nat), S [], I 0, .slice a ks.length kc] := rfl
 rw [e0]
 rcases hks with rfl | ⟨w, rfl⟩
 ·rw [if_neg (by simp; omega)]
  by_cases hn0 : n = 0
  all_goals
   refine jB [(0, _), (1, _), (2, _), (3, _)] Tryz.func53 Tryz.ntmps53 fun B hok hB hW => ?_
   repeat' (first | (refine jR ?_) | (refine k_op rfl ?_; first | refine c_bx rfl rfl rfl fun _ => ?_ | refine c_al rfl rfl fun _ => ?_ | refine jV (g_ld rfl rfl rfl) ?_ | refine jV (g_ldA rfl rfl rfl rfl) ?_ | refine jV (g_lenL rfl) ?_ | refine jV (g_bld rfl rfl) ?_ | refine c_stA rfl rfl rfl rfl rfl rfl ?_ | (refine jV (g_pickT rfl rfl rfl) ?_) | (refine jV (g_pickF rfl rfl rfl) ?_) | (refine c_rt rfl rfl rfl cx_sign rfl ?_)) | (refine k_gt rfl rfl (dTt ‹_›) ?_) | (refine k_gf rfl rfl (dFf (by omega)) ?_) | (refine k_tt rfl rfl ?_) | (refine k_ff rfl rfl ?_))
   all_goals refine jZ (vs := [_, _, _]) rfl ⟨rc_A rfl rfl rfl rfl, rc_A rfl rfl rfl rfl, rfl, trivial⟩ rfl ⟨Gh.le.refl _, rfl, ?_⟩
   all_goals exact .inl ⟨rfl, rfl⟩
 ·rw [V.reps] at hrs
  obtain ⟨d, cs2, rfl, hri, hr2⟩ := hrs
  rw [V.reps] at hr2
  subst hr2
  have hsl : SlV G (.slice a 1 kc) 4 ([d] : List VC).length (rows vcF [d]) := hsl
  obtain ⟨xb, xo, xc, e, hsx⟩ := hsl.expl (by simp)
  simp only [Value.slice.injEq] at e
  obtain ⟨rfl, -, rfl⟩ := e
  have hxi : nth [d] (Int.toNat 0) = d := rfl
  show FnS _ _ [Pt b 0, Ag [S (63 :: sg k), S (bs k), S (nm k)], Ag [U8 (63 : Nat), S [], I 0, .slice (some ⟨xb, xo, none⟩) 1 kc], I n] G _
  by_cases hn0 : n = 0
  ·subst hn0
   rw [if_pos (by simp)]
   refine jB [(0, _), (1, _), (2, _), (3, _)] Tryz.func53 Tryz.ntmps53 fun B hok hB hW => ?_
   repeat' (first | (refine jR ?_) | (refine k_op rfl ?_; first | refine c_bx rfl rfl rfl fun _ => ?_ | refine c_al rfl rfl fun _ => ?_ | refine jV (g_ld rfl rfl rfl) ?_ | refine jV (g_ldA rfl rfl rfl rfl) ?_ | refine jV (g_lenL rfl) ?_ | (refine jV (g_pickF rfl rfl rfl) ?_) | (refine c_rt rfl rfl rfl cx_sign rfl ?_)) | (refine k_gf rfl rfl rfl ?_) | (refine k_tt rfl rfl ?_) | (refine k_ff rfl rfl ?_))
   rename_i y5 y6 y8 y9
   (refine k_any (s_any (id := 9) [.blk y6 (.cells (List.toArray [U8 (63 : Nat), S [], I 0, .slice (some ⟨xb, xo, none⟩) 1 kc]) tVal (0, 0)), .blk y5 (.cells (List.toArray [S (63 :: sg k), S (bs k), S (nm k)]) tKnd (0, 0))] (by intro y hy; simp only [List.mem_cons, List.not_mem_nil, or_false] at hy ⊢; rcases hy with hy | hy <;> simp [hy]) mixed ?_); refine jU 8 [2] (bts 9 4) ?_ ?_; (focus (repeat' (exact trivial))); (refine jG (bts 9 5) 0 rfl (g_ldA rfl rfl rfl rfl) ?_); (refine jG (bts 9 13) 3 rfl (g_ld rfl rfl rfl) ?_); ((refine jG (bts 9 29) 4 rfl (g_iaddr rfl rfl ?_) ?_; (focus ((omega); done)))); ((refine jG (bts 9 61) 5 rfl (g_ldRx rfl rfl (by assumption) ?_ (by assumption)) ?_; (focus ((simp only [List.length_append, List.length_cons, List.length_nil, List.length_take]; omega); done)))); refine jA 1 rfl ?_; (refine c_rt rfl rfl rfl cx_pt rfl ?_); refine jK (bts 9 63) ?_; refine jA 6 rfl ?_; (refine c_stA rfl rfl rfl rfl rfl rfl ?_); refine jK (bts 9 127) ?_; refine jA 7 rfl ?_; (refine c_stA rfl rfl rfl rfl rfl rfl ?_); refine jK (bts 9 255) ?_; refine jU 0 [8] (bts 9 511) ?_ ?_; (focus (repeat' (exact trivial))); refine x_done (by kernel_rfl) (k_bk ?_))
   all_goals repeat' (refine jR ?_)
   all_goals refine jZ (vs := [_, _, _]) rfl ⟨rc_A rfl rfl rfl rfl, rc_A rfl rfl rfl rfl, rfl, trivial⟩ rfl ⟨Gh.le.refl _, rfl, ?_⟩
   all_goals exact .inr ⟨k, w, d, rfl, rfl, hri⟩
  ·rw [if_neg (show ¬ n < (([w].length : Nat) : Int) by show ¬ n < ((1 : Nat) : Int); omega)]
   refine jB [(0, _), (1, _), (2, _), (3, _)] Tryz.func53 Tryz.ntmps53 fun B hok hB hW => ?_
   repeat' (first | (refine jR ?_) | (refine k_op rfl ?_; first | refine c_bx rfl rfl rfl fun _ => ?_ | refine c_al rfl rfl fun _ => ?_ | refine jV (g_ldA rfl rfl rfl rfl) ?_ | refine jV (g_bld rfl rfl) ?_ | refine c_stA rfl rfl rfl rfl rfl rfl ?_ | (refine jV (g_pickT rfl rfl rfl) ?_) | (refine c_rt rfl rfl rfl cx_sign rfl ?_)) | (refine k_gt rfl rfl (dTt ‹_›) ?_) | (refine k_tt rfl rfl ?_) | (refine k_ff rfl rfl ?_))
   all_goals refine jZ (vs := [_, _, _]) rfl ⟨rc_A rfl rfl rfl rfl, rc_A rfl rfl rfl rfl, rfl, trivial⟩ rfl ⟨Gh.le.refl _, rfl, ?_⟩
   all_goals exact .inl ⟨rfl, rfl⟩
theorem c_stepP {b : Nat} {x : List UInt8} {ts : List Ty} {v : V} {c : VC} {n : Int} (hx : x = [110] ∨ x = [116] ∨ x = [102]) :
  FnS Tryz.prog 53 [Pt b 0, Ag (kdF x), Ag (vcF c), I n] G (StepPI ts (stepV ts x v n)) := by
 have hno : stepV ts x v n = none := by
  rcases hx with rfl | rfl | rfl
  all_goals exact stepV_plain (by decide) (by decide) (by decide)
 rw [hno]
 obtain ⟨w, tx, tg, a, m, kc⟩ := c
 have e0 : vcF ⟨w, tx, tg, a, m, kc⟩ = [U8 (w : Nat), S tx, I tg, .slice a m kc] := rfl
 rw [e0]
 have e1 : kdF x = [S [], S x, S []] := by rcases hx with rfl | rfl | rfl <;> rfl
 rw [e1]
 have cx_sign := @c_sign0 G x []
 have hx64 : ¬ x = [64] := by rcases hx with rfl | rfl | rfl <;> decide
 refine jB [(0, _), (1, _), (2, _), (3, _)] Tryz.func53 Tryz.ntmps53 fun B hok hB hW => ?_
 repeat' (first | (refine jR ?_) | (refine k_op rfl ?_; first | refine c_bx rfl rfl rfl fun _ => ?_ | refine c_al rfl rfl fun _ => ?_ | refine jV (g_ld rfl rfl rfl) ?_ | refine jV (g_ldA rfl rfl rfl rfl) ?_ | refine jV (g_bld rfl rfl) ?_ | refine c_stA rfl rfl rfl rfl rfl rfl ?_ | (refine c_rt rfl rfl rfl cx_sign rfl ?_)) | (refine k_tt rfl (dTt ‹_›) ?_) | (refine k_ff rfl rfl ?_))
 all_goals refine jZ (vs := [_, _, _]) rfl ⟨rc_A rfl rfl rfl rfl, rc_A rfl rfl rfl rfl, rfl, trivial⟩ rfl ⟨Gh.le.refl _, rfl, ?_⟩
 all_goals exact .inl ⟨rfl, rfl⟩
theorem kind_typ {qs : List TyP} {k : List UInt8} {t : Ty} (hki : kindIn (tyq qs) k = true) (hrf : refT (tyq qs) k = some t) : kdF k = [S [], S [64], S (nm k)] ∧ ∃ p, findQ qs (nm k) = some (p, t) ∧ (p, t) ∈ qs := by
 obtain ⟨r, rfl⟩ := refT_64 hrf
 have h91 : ¬ ((64 : UInt8).toNat = 91 ∨ (64 : UInt8).toNat = 63) := by decide
 have hsg := sg_none (r := r) h91
 have hcs := core_self (r := r) h91
 have hrn : (refN (core (64 :: r))).isSome = true := by rw [hcs]; rfl
 have hbs : bs (64 :: r) = [64] := (bs_at (kindIn_ok hki)).2 hrn
 have hnm : refN (64 :: r) = some (nm (64 :: r)) := by unfold nm; rw [hcs]; rfl
 have hft : findT (tyq qs) (nm (64 :: r)) = some t := by unfold refT at hrf; rw [hnm] at hrf; exact hrf
 rw [← findQ_ty] at hft
 rcases hfq : findQ qs (nm (64 :: r)) with _ | ⟨p, t'⟩
 ·rw [hfq] at hft; cases hft
 rw [hfq] at hft
 obtain rfl : t' = t := Option.some.inj hft
 exact ⟨by unfold kdF; rw [hsg, hbs], p, rfl, findQ_mem hfq⟩
theorem c_stepT {b : Nat} {qs : List TyP} {k : List UInt8} {t : Ty} {v : V} {c : VC} {n : Int} (hS : ScI G b qs) (hw : SchW (tyq qs)) (hki : kindIn (tyq qs) k = true) (hrf : refT (tyq qs) k = some t) (ho : OfK (tyq qs) k v) (hr : V.rep G v c) (hn : 0 ≤ n ∧ n ≤ 999999) (htt : v.tot ≤ 1000000) :
  FnS Tryz.prog 53 [Pt b 0, Ag (kdF k), Ag (vcF c), I n] G (StepPI (tyq qs) (stepV (tyq qs) k v n)) := by
 obtain ⟨hkd, p, hfq, hqm⟩ := kind_typ hki hrf
 have hst := stepV_typ (v := v) (n := n) hrf
 have htm := refT_mem hrf
 have hW := hw.ty t htm
 obtain ⟨fv, ln, hsg, hfv⟩ := hS.ty _ hqm
 dsimp only at hsg hfv
 have hkv := kvF_find qs (nm k)
 rw [hfq] at hkv
 dsimp only [Option.map_some] at hkv
 obtain ⟨u, m, g1, g2, g3⟩ := hS.at'
 have hfl := hW.len
 have cx_sign := @c_sign0 G [64] (nm k)
 rw [hkd]
 cases hg : fldT t.fields n with
 | none =>
  rw [hg] at hst
  dsimp only at hst
  rw [hst]
  have cx_fld := c_fieldI0 (tag := n) hsg hfv (by omega) hg
  obtain ⟨w, tx, tg, a, mm, kc⟩ := c
  have e0 : vcF ⟨w, tx, tg, a, mm, kc⟩ = [U8 (w : Nat), S tx, I tg, .slice a mm kc] := rfl
  rw [e0]
  refine jB [(0, _), (1, _), (2, _), (3, _)] Tryz.func53 Tryz.ntmps53 fun B hok hB hW => ?_
  repeat' (first | (refine jR ?_) | (refine k_op rfl ?_; first | refine c_bx rfl rfl rfl fun _ => ?_ | refine c_al rfl rfl fun _ => ?_ | refine jV (g_ld rfl rfl rfl) ?_ | refine jV (g_ldA rfl rfl rfl rfl) ?_ | (refine c_rt rfl rfl rfl cx_sign rfl ?_)) | (refine k_ff rfl rfl ?_))
  rename_i y5 y6 y8 y9
  (refine k_any (s_any (id := 12) [.blk y9 (.cells (List.toArray [U8 0, S [], I 0, nilS]) tVal (0, 0)), .blk y8 (.cells (List.toArray [S [], S [], S []]) tKnd (0, 0)), .blk y6 (.cells (List.toArray [U8 (w : Nat), S tx, I tg, .slice a mm kc]) tVal (0, 0)), .blk y5 (.cells (List.toArray [S [], S [64], S (nm k)]) tKnd (0, 0))] (by intro y hy; simp only [List.mem_cons, List.not_mem_nil, or_false] at hy ⊢; rcases hy with hy | hy | hy | hy <;> simp [hy]) mixed ?_); refine jT 4 [0, 1, 2, 4] (bts 8 23) ?_; (refine jG (bts 8 31) 3 rfl (g_ldS rfl rfl (by assumption) rfl rfl) ?_); (refine jG (bts 8 63) 5 rfl (g_ld rfl rfl rfl) ?_); ((refine jG (bts 8 127) 6 rfl (g_lookupX rfl rfl (map_G (by assumption)) (by assumption) rfl) ?_)); refine jT 0 [7] (bts 8 255) ?_; refine x_done (by kernel_rfl) (k_bk ?_))
  all_goals repeat' (first | (refine jR ?_) | (refine k_op rfl ?_; first | refine jV (g_bld rfl rfl) ?_ | refine c_stA rfl rfl rfl rfl rfl rfl ?_ | (refine jV (g_pickT rfl rfl rfl) ?_) | refine jV (g_peq0 rfl rfl) ?_ | (refine c_rt rfl rfl rfl cx_fld rfl ?_)) | (refine k_gt rfl rfl rfl ?_) | (refine k_tt rfl rfl ?_))
  all_goals refine jZ (vs := [_, _, _]) rfl ⟨rc_A rfl rfl rfl rfl, rc_A rfl rfl rfl rfl, rfl, trivial⟩ rfl ⟨Gh.le.refl _, rfl, ?_⟩
  all_goals exact .inl ⟨rfl, rfl⟩
 | some f =>
  rw [hg] at hst
  dsimp only at hst
  obtain ⟨j, hj, hjf, hjn, hjx⟩ := fldT_some hg
  obtain ⟨bf, of, cf, rfl, hsf⟩ := hfv.expl (by omega)
  have cx_fld := c_fieldI1 hsg hsf (by omega) hj hjf hjn
  subst hjx
  rcases hW.sort with hso | hso | hso
  ·rw [if_neg (by omega), if_pos hso] at hst
   rw [hst]
   rcases ofK_inv_t ho hrf with ⟨_, fs, rfl, g4, g5, _, _⟩ | ⟨h1, _⟩ | ⟨h1, _⟩
   ·have h9 : fs.length ≤ 1000000 := by
     have h7 := tots_len (fs.map fldV)
     rw [nd_tot] at htt
     have e1 : (fs.map fldV).length = fs.length := by simp
     omega
    have cx_ge := c_getI hS hw htm hso hsf hj hr h9
    obtain ⟨a, kc, cs, rfl, _, _, _, hcl, hsl, hrs⟩ := rep_inv hr
    have hml : (fs.map fldV).length = fs.length := by simp
    have e0 : vcF ⟨82, [], 0, a, (fs.map fldV).length, kc⟩ = [U8 (82 : Nat), S [], I 0, .slice a fs.length kc] := by rw [← hml]; rfl
    rw [e0] at cx_ge ⊢
    refine jB [(0, _), (1, _), (2, _), (3, _)] Tryz.func53 Tryz.ntmps53 fun B hok hB hW => ?_
    repeat' (first | (refine jR ?_) | (refine k_op rfl ?_; first | refine c_bx rfl rfl rfl fun _ => ?_ | refine c_al rfl rfl fun _ => ?_ | refine jV (g_ld rfl rfl rfl) ?_ | refine jV (g_ldA rfl rfl rfl rfl) ?_ | (refine c_rt rfl rfl rfl cx_sign rfl ?_)) | (refine k_ff rfl rfl ?_))
    rename_i y5 y6 y8 y9
    (refine k_any (s_any (id := 12) [.blk y9 (.cells (List.toArray [U8 0, S [], I 0, nilS]) tVal (0, 0)), .blk y8 (.cells (List.toArray [S [], S [], S []]) tKnd (0, 0)), .blk y6 (.cells (List.toArray [U8 (82 : Nat), S [], I 0, .slice a fs.length kc]) tVal (0, 0)), .blk y5 (.cells (List.toArray [S [], S [64], S (nm k)]) tKnd (0, 0))] (by intro y hy; simp only [List.mem_cons, List.not_mem_nil, or_false] at hy ⊢; rcases hy with hy | hy | hy | hy <;> simp [hy]) mixed ?_); refine jT 4 [0, 1, 2, 4] (bts 8 23) ?_; (refine jG (bts 8 31) 3 rfl (g_ldS rfl rfl (by assumption) rfl rfl) ?_); (refine jG (bts 8 63) 5 rfl (g_ld rfl rfl rfl) ?_); ((refine jG (bts 8 127) 6 rfl (g_lookupX rfl rfl (map_G (by assumption)) (by assumption) rfl) ?_)); refine jT 0 [7] (bts 8 255) ?_; refine x_done (by kernel_rfl) (k_bk ?_))
    all_goals repeat' (first | (refine jR ?_) | (refine k_op rfl ?_; first | refine jV (g_ldS rfl rfl (by assumption) rfl rfl) ?_ | (refine jV (g_pickF rfl rfl rfl) ?_) | refine jV (g_peq0 rfl rfl) ?_ | (refine c_rt rfl rfl rfl cx_fld rfl ?_)) | (refine k_gf rfl rfl (by first | rfl | (refine decide_eq_false ?_; (omega))) ?_) | (refine k_ff rfl (by first | rfl | (refine decide_eq_false ?_; (omega))) ?_))
    all_goals (refine k_any (s_any (id := 18) [.blk y6 (.cells (List.toArray [U8 (82 : Nat), S [], I 0, .slice a fs.length kc]) tVal (0, 0)), .blk y5 (.cells (List.toArray [S [], S [64], S (nm k)]) tKnd (0, 0))] (by intro y hy; simp only [List.mem_cons, List.not_mem_nil, or_false] at hy ⊢; rcases hy with hy | hy <;> simp [hy]) mixed ?_); refine jU 6 [0, 1, 2, 4, 6] (bts 11 87) ?_ ?_; (focus (repeat' (exact trivial))); ((refine jG (bts 11 95) 3 rfl (g_ldRA rfl rfl (by assumption) ?_ rfl rfl) ?_; (focus ((omega); done)))); (refine jG (bts 11 127) 5 rfl (g_ldA rfl rfl rfl rfl) ?_); refine jA 7 rfl ?_; (refine c_fns rfl rfl rfl cx_ge rfl ?_; rintro _ G hle ⟨cv, rfl, hrv⟩; skip); refine jK (bts 11 255) ?_; refine jA 8 rfl ?_; (refine c_stA rfl rfl rfl rfl rfl rfl ?_); refine jK (bts 11 511) ?_; refine jA 9 rfl ?_; (refine c_stA rfl rfl rfl rfl rfl rfl ?_); refine jK (bts 11 1023) ?_; refine jU 0 [10] (bts 11 2047) ?_ ?_; (focus (repeat' (exact trivial))); refine x_done (by kernel_rfl) (k_bk ?_))
    all_goals repeat' (refine jR ?_)
    all_goals refine jZ (vs := [_, _, _]) rfl ⟨rc_A rfl rfl rfl rfl, rc_A rfl rfl rfl rfl, rfl, trivial⟩ rfl ⟨hle, rfl, ?_⟩
    all_goals exact .inr ⟨_, _, cv, rfl, rfl, hrv⟩
   ·omega
   ·omega
  ·rw [if_neg (by omega), if_neg (by omega)] at hst
   rcases ofK_inv_t ho hrf with ⟨h1, _⟩ | ⟨h1, _⟩ | ⟨_, _, d, w, rfl, g4, g5⟩
   ·omega
   ·omega
   ·obtain ⟨a, kc, cs, rfl, _, _, _, hcl, hsl, hrs⟩ := rep_inv hr
    rw [V.reps] at hrs
    obtain ⟨c1, cs2, rfl, hri, hr2⟩ := hrs
    rw [V.reps] at hr2
    subst hr2
    have hsl : SlV G (.slice a 1 kc) 4 ([c1] : List VC).length (rows vcF [c1]) := hsl
    obtain ⟨xb, xo, xc, e, hsx⟩ := hsl.expl (by simp)
    simp only [Value.slice.injEq] at e
    obtain ⟨rfl, -, rfl⟩ := e
    have hxi : nth [c1] (Int.toNat 0) = c1 := rfl
    show FnS _ _ [Pt b 0, Ag [S [], S [64], S (nm k)], Ag [U8 (85 : Nat), S [], I d.tag, .slice (some ⟨xb, xo, none⟩) 1 kc], I n] G _
    by_cases hdn : d.tag = n
    ·rw [if_pos (show V.tag (.nd 85 [] d.tag [w]) = n from hdn)] at hst
     rw [hst]
     refine jB [(0, _), (1, _), (2, _), (3, _)] Tryz.func53 Tryz.ntmps53 fun B hok hB hW => ?_
     repeat' (first | (refine jR ?_) | (refine k_op rfl ?_; first | refine c_bx rfl rfl rfl fun _ => ?_ | refine c_al rfl rfl fun _ => ?_ | refine jV (g_ld rfl rfl rfl) ?_ | refine jV (g_ldA rfl rfl rfl rfl) ?_ | (refine c_rt rfl rfl rfl cx_sign rfl ?_)) | (refine k_ff rfl rfl ?_))
     rename_i y5 y6 y8 y9
     (refine k_any (s_any (id := 12) [.blk y9 (.cells (List.toArray [U8 0, S [], I 0, nilS]) tVal (0, 0)), .blk y8 (.cells (List.toArray [S [], S [], S []]) tKnd (0, 0)), .blk y6 (.cells (List.toArray [U8 (85 : Nat), S [], I d.tag, .slice (some ⟨xb, xo, none⟩) 1 kc]) tVal (0, 0)), .blk y5 (.cells (List.toArray [S [], S [64], S (nm k)]) tKnd (0, 0))] (by intro y hy; simp only [List.mem_cons, List.not_mem_nil, or_false] at hy ⊢; rcases hy with hy | hy | hy | hy <;> simp [hy]) mixed ?_); refine jT 4 [0, 1, 2, 4] (bts 8 23) ?_; (refine jG (bts 8 31) 3 rfl (g_ldS rfl rfl (by assumption) rfl rfl) ?_); (refine jG (bts 8 63) 5 rfl (g_ld rfl rfl rfl) ?_); ((refine jG (bts 8 127) 6 rfl (g_lookupX rfl rfl (map_G (by assumption)) (by assumption) rfl) ?_)); refine jT 0 [7] (bts 8 255) ?_; refine x_done (by kernel_rfl) (k_bk ?_))
     all_goals repeat' (first | (refine jR ?_) | (refine k_op rfl ?_; first | refine jV (g_ld rfl rfl rfl) ?_ | refine jV (g_ldS rfl rfl (by assumption) rfl rfl) ?_ | (refine jV (g_pickT rfl rfl rfl) ?_) | (refine jV (g_pickF rfl rfl rfl) ?_) | refine jV (g_peq0 rfl rfl) ?_ | (refine c_rt rfl rfl rfl cx_fld rfl ?_)) | (refine k_gt rfl rfl (dTt (by omega)) ?_) | (refine k_gf rfl rfl (by first | rfl | (refine decide_eq_false ?_; (omega))) ?_) | (refine k_tt rfl (dTt (by omega)) ?_) | (refine k_ff rfl (dFf (by omega)) ?_))
     all_goals (refine k_any (s_any (id := 17) [.blk y6 (.cells (List.toArray [U8 (85 : Nat), S [], I d.tag, .slice (some ⟨xb, xo, none⟩) 1 kc]) tVal (0, 0)), .blk y5 (.cells (List.toArray [S [], S [64], S (nm k)]) tKnd (0, 0))] (by intro y hy; simp only [List.mem_cons, List.not_mem_nil, or_false] at hy ⊢; rcases hy with hy | hy <;> simp [hy]) mixed ?_); refine jU 7 [0, 1, 2, 4] (bts 11 23) ?_ ?_; (focus (repeat' (exact trivial))); ((refine jG (bts 11 31) 3 rfl (g_ldRA rfl rfl (by assumption) ?_ rfl rfl) ?_; (focus ((omega); done)))); (refine jG (bts 11 63) 5 rfl (g_ld rfl rfl rfl) ?_); ((refine jG (bts 11 127) 6 rfl (g_iaddr rfl rfl ?_) ?_; (focus ((omega); done)))); ((refine jG (bts 11 255) 7 rfl (g_ldRx rfl rfl (by assumption) ?_ (by assumption)) ?_; (focus ((simp only [List.length_append, List.length_cons, List.length_nil, List.length_take]; omega); done)))); refine jA 8 rfl ?_; (refine c_stA rfl rfl rfl rfl rfl rfl ?_); refine jK (bts 11 511) ?_; refine jA 9 rfl ?_; (refine c_stA rfl rfl rfl rfl rfl rfl ?_); refine jK (bts 11 1023) ?_; refine jU 0 [10] (bts 11 2047) ?_ ?_; (focus (repeat' (exact trivial))); refine x_done (by kernel_rfl) (k_bk ?_))
     all_goals repeat' (refine jR ?_)
     all_goals refine jZ (vs := [_, _, _]) rfl ⟨rc_A rfl rfl rfl rfl, rc_A rfl rfl rfl rfl, rfl, trivial⟩ rfl ⟨Gh.le.refl _, rfl, ?_⟩
     all_goals exact .inr ⟨_, w, c1, rfl, rfl, hri⟩
    ·rw [if_neg (show ¬ V.tag (.nd 85 [] d.tag [w]) = n from hdn)] at hst
     rw [hst]
     refine jB [(0, _), (1, _), (2, _), (3, _)] Tryz.func53 Tryz.ntmps53 fun B hok hB hW => ?_
     repeat' (first | (refine jR ?_) | (refine k_op rfl ?_; first | refine c_bx rfl rfl rfl fun _ => ?_ | refine c_al rfl rfl fun _ => ?_ | refine jV (g_ld rfl rfl rfl) ?_ | refine jV (g_ldA rfl rfl rfl rfl) ?_ | (refine c_rt rfl rfl rfl cx_sign rfl ?_)) | (refine k_ff rfl rfl ?_))
     rename_i y5 y6 y8 y9
     (refine k_any (s_any (id := 12) [.blk y9 (.cells (List.toArray [U8 0, S [], I 0, nilS]) tVal (0, 0)), .blk y8 (.cells (List.toArray [S [], S [], S []]) tKnd (0, 0)), .blk y6 (.cells (List.toArray [U8 (85 : Nat), S [], I d.tag, .slice (some ⟨xb, xo, none⟩) 1 kc]) tVal (0, 0)), .blk y5 (.cells (List.toArray [S [], S [64], S (nm k)]) tKnd (0, 0))] (by intro y hy; simp only [List.mem_cons, List.not_mem_nil, or_false] at hy ⊢; rcases hy with hy | hy | hy | hy <;> simp [hy]) mixed ?_); refine jT 4 [0, 1, 2, 4] (bts 8 23) ?_; (refine jG (bts 8 31) 3 rfl (g_ldS rfl rfl (by assumption) rfl rfl) ?_); (refine jG (bts 8 63) 5 rfl (g_ld rfl rfl rfl) ?_); ((refine jG (bts 8 127) 6 rfl (g_lookupX rfl rfl (map_G (by assumption)) (by assumption) rfl) ?_)); refine jT 0 [7] (bts 8 255) ?_; refine x_done (by kernel_rfl) (k_bk ?_))
     all_goals repeat' (first | (refine jR ?_) | (refine k_op rfl ?_; first | refine jV (g_ld rfl rfl rfl) ?_ | refine jV (g_ldS rfl rfl (by assumption) rfl rfl) ?_ | refine jV (g_bld rfl rfl) ?_ | refine c_stA rfl rfl rfl rfl rfl rfl ?_ | (refine jV (g_pickT rfl rfl rfl) ?_) | (refine jV (g_pickF rfl rfl rfl) ?_) | refine jV (g_peq0 rfl rfl) ?_ | (refine c_rt rfl rfl rfl cx_fld rfl ?_)) | (refine k_gt rfl rfl (dTt (by omega)) ?_) | (refine k_gf rfl rfl (by first | rfl | (refine decide_eq_false ?_; (omega))) ?_) | (refine k_tt rfl (dTt ‹_›) ?_))
     all_goals refine jZ (vs := [_, _, _]) rfl ⟨rc_A rfl rfl rfl rfl, rc_A rfl rfl rfl rfl, rfl, trivial⟩ rfl ⟨Gh.le.refl _, rfl, ?_⟩
     all_goals exact .inl ⟨rfl, rfl⟩
  ·rw [if_pos hso] at hst
   rw [hst]
   obtain ⟨w, tx, tg, a, mm, kc⟩ := c
   have e0 : vcF ⟨w, tx, tg, a, mm, kc⟩ = [U8 (w : Nat), S tx, I tg, .slice a mm kc] := rfl
   rw [e0]
   refine jB [(0, _), (1, _), (2, _), (3, _)] Tryz.func53 Tryz.ntmps53 fun B hok hB hW => ?_
   repeat' (first | (refine jR ?_) | (refine k_op rfl ?_; first | refine c_bx rfl rfl rfl fun _ => ?_ | refine c_al rfl rfl fun _ => ?_ | refine jV (g_ld rfl rfl rfl) ?_ | refine jV (g_ldA rfl rfl rfl rfl) ?_ | (refine c_rt rfl rfl rfl cx_sign rfl ?_)) | (refine k_ff rfl rfl ?_))
   rename_i y5 y6 y8 y9
   (refine k_any (s_any (id := 12) [.blk y9 (.cells (List.toArray [U8 0, S [], I 0, nilS]) tVal (0, 0)), .blk y8 (.cells (List.toArray [S [], S [], S []]) tKnd (0, 0)), .blk y6 (.cells (List.toArray [U8 (w : Nat), S tx, I tg, .slice a mm kc]) tVal (0, 0)), .blk y5 (.cells (List.toArray [S [], S [64], S (nm k)]) tKnd (0, 0))] (by intro y hy; simp only [List.mem_cons, List.not_mem_nil, or_false] at hy ⊢; rcases hy with hy | hy | hy | hy <;> simp [hy]) mixed ?_); refine jT 4 [0, 1, 2, 4] (bts 8 23) ?_; (refine jG (bts 8 31) 3 rfl (g_ldS rfl rfl (by assumption) rfl rfl) ?_); (refine jG (bts 8 63) 5 rfl (g_ld rfl rfl rfl) ?_); ((refine jG (bts 8 127) 6 rfl (g_lookupX rfl rfl (map_G (by assumption)) (by assumption) rfl) ?_)); refine jT 0 [7] (bts 8 255) ?_; refine x_done (by kernel_rfl) (k_bk ?_))
   all_goals repeat' (first | (refine jR ?_) | (refine k_op rfl ?_; first | refine jV (g_ldS rfl rfl (by assumption) rfl rfl) ?_ | refine jV (g_bld rfl rfl) ?_ | refine c_stA rfl rfl rfl rfl rfl rfl ?_ | (refine jV (g_pickT rfl rfl rfl) ?_) | (refine jV (g_pickF rfl rfl rfl) ?_) | refine jV (g_peq0 rfl rfl) ?_ | (refine c_rt rfl rfl rfl cx_fld rfl ?_)) | (refine k_gt rfl rfl (dTt (by omega)) ?_) | (refine k_gf rfl rfl rfl ?_) | (refine k_tt rfl rfl ?_))
   all_goals refine jZ (vs := [_, _, _]) rfl ⟨rc_A rfl rfl rfl rfl, rc_A rfl rfl rfl rfl, rfl, trivial⟩ rfl ⟨Gh.le.refl _, rfl, ?_⟩
   all_goals exact .inl ⟨rfl, rfl⟩
theorem c_stepI {b : Nat} {qs : List TyP} {k : List UInt8} {v : V} {c : VC} {n : Int} (hS : ScI G b qs) (hw : SchW (tyq qs)) (hki : kindIn (tyq qs) k = true) (ho : OfK (tyq qs) k v) (hr : V.rep G v c) (hn : 0 ≤ n ∧ n ≤ 999999) (htt : v.tot ≤ 1000000) :
  FnS Tryz.prog 53 [Pt b 0, Ag (kdF k), Ag (vcF c), I n] G (StepPI (tyq qs) (stepV (tyq qs) k v n)) := by
 cases hrf : refT (tyq qs) k with
 | some t => exact c_stepT hS hw hki hrf ho hr hn htt
 | none =>
  obtain ⟨ch, r, rfl⟩ := kind_ne hki
  by_cases h91 : ch.toNat = 91 ∨ ch.toNat = 63
  ·rcases ofK_inv_c ho (by omega) with ⟨h1, _⟩ | ⟨h1, _⟩ | ⟨h1, _⟩ | ⟨h1, ks, _, _, rfl⟩ | ⟨h1, h2⟩
   ·omega
   ·omega
   ·omega
   ·obtain rfl := u8_eq h1 (by decide)
    have := tots_len ks
    rw [nd_tot] at htt
    exact c_stepL hr hn (by omega)
   ·obtain rfl := u8_eq h1 (by decide)
    rcases h2 with rfl | ⟨w, _, rfl⟩
    ·exact c_stepO (.inl rfl) hr hn
    ·exact c_stepO (.inr ⟨w, rfl⟩) hr hn
  ·exact c_stepP (plain_kinds hki h91 hrf)
theorem c_followI {b : Nat} {qs : List TyP} (hS : ScI G b qs) (hw : SchW (tyq qs)) {p : List Int} {pv : Value} (hp : SlV G pv 1 p.length (rows inR p)) (hpn : ∀ n ∈ p, 0 ≤ n ∧ n ≤ 999999) (hpl : p.length ≤ 1000) {k : List UInt8} {v : V} {c : VC} (hr : V.rep G v c) (ho : OfK (tyq qs) k v) (hki : kindIn (tyq qs) k = true) (htt : v.tot ≤ 1000000) :
  FnS Tryz.prog 26 [Pt b 0, Ag (kdF k), Ag (vcF c), pv] G (StepPI (tyq qs) (followV (tyq qs) k v p)) := by
 obtain ⟨pa, pc, rfl⟩ := hp.sl
 unfold kdF
 have e0 : vcF c = [U8 (c.what : Nat), S c.text, I c.tag, .slice c.a c.n c.c] := rfl
 rw [e0]
 refine jB [(0, _), (1, _), (2, _), (3, _)] Tryz.func26 Tryz.ntmps26 fun B hok hB hW => ?_
 repeat' (first | (refine jR ?_) | (refine k_op rfl ?_; first | refine c_bx rfl rfl rfl fun _ => ?_ | refine c_al rfl rfl fun _ => ?_ | refine jV (g_lenL rfl) ?_))
 rename_i y5 y6 y8 y9
 refine k_loop (ι := List UInt8 × V × VC × Nat × Gh) (fun j => ((V.rep j.2.2.2.2 j.2.1 j.2.2.1 ∧ OfK (tyq qs) j.1 j.2.1) ∧ (kindIn (tyq qs) j.1 = true ∧ j.2.1.tot ≤ 1000000)) ∧ (Gh.le G j.2.2.2.2 ∧ j.2.2.2.1 ≤ p.length) ∧ followV (tyq qs) k v p = followV (tyq qs) j.1 j.2.1 (p.drop j.2.2.2.1)) (fun j => [(0, Pt b 0), (5, Pt y5 0), (6, Pt y6 0), (8, Pt y8 0), (9, Pt y9 0), (14, .slice pa p.length pc), (15, I p.length), (16, I j.2.2.2.1)]) (fun j => j.2.2.2.2) (fun j => [.blk y9 (.cells (List.toArray [U8 0, S [], I 0, nilS]) tVal (0, 0)), .blk y8 (.cells (List.toArray [S [], S [], S []]) tKnd (0, 0)), .blk y6 (.cells (List.toArray [U8 (j.2.2.1.what : Nat), S j.2.2.1.text, I j.2.2.1.tag, .slice j.2.2.1.a j.2.2.1.n j.2.2.1.c]) tVal (0, 0)), .blk y5 (.cells (List.toArray [S (sg j.1), S (bs j.1), S (nm j.1)]) tKnd (0, 0))]) (fun j => p.length - j.2.2.2.1) (k, v, c, 0, G) ?_ (by repeat' constructor) rfl sRr (fun j Hj => ?_)
 ·exact ⟨⟨⟨hr, ho⟩, hki, htt⟩, ⟨Gh.le.refl _, Nat.zero_le _⟩, rfl⟩
 obtain ⟨k0, v0, c0, i, Gq⟩ := j
 dsimp only at Hj ⊢
 obtain ⟨⟨⟨hr0, ho0⟩, hk0, ht0⟩, ⟨hgq, hi0⟩, he⟩ := Hj
 by_cases hi : i < p.length
 ·obtain ⟨xb, xo, xc, e, hs1⟩ := (hp.mono hgq).expl (by omega)
  simp only [Value.slice.injEq] at e
  obtain ⟨rfl, -, rfl⟩ := e
  have hni := hpn _ (nth_mem hi)
  have hti : nth p i = nth p i := rfl
  have hstp := c_stepI (hS.mono hgq) hw hk0 ho0 hr0 hni ht0
  unfold kdF at hstp
  rw [show vcF c0 = [U8 (c0.what : Nat), S c0.text, I c0.tag, .slice c0.a c0.n c0.c] from rfl] at hstp
  rw [followV_drop hi] at he
  cases hsv : stepV (tyq qs) k0 v0 (nth p i) with
  | none =>
   have cx_stn := StepPI.no hstp hsv
   rw [hsv] at he
   repeat' (first | (refine jR ?_) | (refine k_op rfl ?_; first | (refine jV (g_iaddrN rfl rfl (by omega)) ?_) | refine jV (g_ldA rfl rfl rfl rfl) ?_ | (refine jV (g_ldR1x rfl rfl (by assumption) ?_ (by assumption) rfl) ?_; (focus ((omega); done))) | refine c_stA rfl rfl rfl rfl rfl rfl ?_ | refine jV (g_bld rfl rfl) ?_ | (refine c_fns rfl rfl rfl cx_stn rfl ?_; rintro _ G hle rfl; skip)) | (refine k_tt rfl (by first | rfl | (refine decide_eq_true ?_; (omega))) ?_))
   all_goals refine jZ (vs := [_, _, _]) rfl ⟨rc_A rfl rfl rfl rfl, rc_A rfl rfl rfl rfl, rfl, trivial⟩ rfl ⟨hgq.trans hle, rfl, ?_⟩
   all_goals exact .inl ⟨he, rfl⟩
  | some y =>
   obtain ⟨k1, v1⟩ := y
   have cx_sty := StepPI.yes hstp hsv
   rw [hsv] at he
   obtain ⟨g1, g2⟩ := stepV_ok hw ho0 hk0 hni.1 hsv
   have g3 := stepV_tot hw ho0 hk0 hni.1 hsv ht0 (by omega)
   repeat' (first | refine jM ?_ | (refine k_op rfl ?_; first | (refine jV (g_iaddrN rfl rfl (by omega)) ?_) | refine jV (g_ldA rfl rfl rfl rfl) ?_ | (refine jV (g_ldR1x rfl rfl (by assumption) ?_ (by assumption) rfl) ?_; (focus ((omega); done))) | refine c_stA rfl rfl rfl rfl rfl rfl ?_ | (refine c_fns rfl rfl rfl cx_sty rfl ?_; rintro _ G hle ⟨cv, rfl, hrv⟩; skip)) | (refine k_tt rfl (dTt (by omega)) ?_) | (refine k_ff rfl rfl ?_))
   exact k_rd (k1, v1, cv, i + 1, G) ⟨⟨⟨hrv, g1⟩, g2, g3⟩, ⟨hgq.trans hle, by dsimp only; omega⟩, he⟩ (by dsimp only; omega) (by repeat' constructor) rfl sRr
 ·have hd : p.drop i = [] := List.drop_eq_nil_of_le (by omega)
  rw [hd] at he
  repeat' (first | (refine jR ?_) | (refine k_ff rfl (dFf (by omega)) ?_))
  (refine k_any (s_any (id := 9) [.blk y6 (.cells (List.toArray [U8 (c0.what : Nat), S c0.text, I c0.tag, .slice c0.a c0.n c0.c]) tVal (0, 0)), .blk y5 (.cells (List.toArray [S (sg k0), S (bs k0), S (nm k0)]) tKnd (0, 0))] (by intro y hy; simp only [List.mem_cons, List.not_mem_nil, or_false] at hy ⊢; rcases hy with hy | hy <;> simp [hy]) mixed ?_); (refine jG (bts 5 1) 0 rfl (g_ldA rfl rfl rfl rfl) ?_); (refine jG (bts 5 3) 1 rfl (g_ldA rfl rfl rfl rfl) ?_); refine jA 2 rfl ?_; (refine c_stA rfl rfl rfl rfl rfl rfl ?_); refine jK (bts 5 7) ?_; refine jA 3 rfl ?_; (refine c_stA rfl rfl rfl rfl rfl rfl ?_); refine jK (bts 5 15) ?_; refine jU 0 [4] (bts 5 31) ?_ ?_; (focus (repeat' (exact trivial))); refine x_done (by kernel_rfl) (k_bk ?_))
  all_goals repeat' (refine jR ?_)
  all_goals refine jZ (vs := [_, _, _]) rfl ⟨rc_A rfl rfl rfl rfl, rc_A rfl rfl rfl rfl, rfl, trivial⟩ rfl ⟨hgq, rfl, ?_⟩
  all_goals exact .inr ⟨_, _, c0, he, rfl, hr0⟩
theorem readPath_no {s : List UInt8} (h : s.length ≤ 1048576) (hp : pathOf s = none) : ∀ G, FnS Tryz.prog 25 [S s] G (fun v _ => ∃ a c n, v = Tu [.slice a n c, Bo false] ∧ True) := fun G => by
 refine (c_readPath (G := G) h).mono ?_
 rintro v G' L' ⟨h1, h2, a, c, n, rfl, _⟩
 exact ⟨h1, h2, a, c, n, by rw [hp]; rfl, trivial⟩
theorem readPath_yes {s : List UInt8} {p : List Int} (h : s.length ≤ 1048576) (hp : pathOf s = some p) : ∀ G, FnS Tryz.prog 25 [S s] G (fun v G' => ∃ a c n, v = Tu [.slice a n c, Bo true] ∧ n = p.length ∧ SlV G' (.slice a n c) 1 p.length (rows inR p)) := fun G => by
 refine (c_readPath (G := G) h).mono ?_
 rintro v G' L' ⟨h1, h2, a, c, n, rfl, h3⟩
 exact ⟨h1, h2, a, c, n, by rw [hp]; rfl, h3 p hp⟩
theorem c_PathGetI {s k w p : List UInt8} (h1 : s.length ≤ 1048576 ∧ k.length ≤ 1048576 ∧ w.length ≤ 1048576 ∧ p.length ≤ 1048576) : PuG Tryz.prog 10 [S s, S k, S w, S p] G (· = pgR (pathGetV s k w p)) := by
 unfold pathGetV
 cases hg : givenV s k w with
 | none =>
  rw [pgv_none]
  have cx_gi0 := c_given0 (G := G) (s := s) (k := k) (w := w) (by omega) hg
  cases hpo : pathOf p with
  | none =>
   have cx_sp := readPath_no h1.2.2.2 hpo
   refine jB (Post := fun v G' L' => G' = G ∧ L' = [] ∧ _) [(0, _), (1, _), (2, _), (3, _)] Tryz.func10 Tryz.ntmps10 fun B hok hB hW => ?_
   repeat' (first | (refine jR ?_) | (refine k_op rfl ?_; first | refine c_al rfl rfl fun _ => ?_ | refine c_stA rfl rfl rfl rfl rfl rfl ?_ | (refine jV (g_pickT rfl rfl rfl) ?_) | (refine c_fns rfl rfl rfl cx_gi0 rfl ?_; rintro _ G hle ⟨p1, a1, b1, c1, rfl⟩; skip) | (refine c_fns rfl rfl rfl (cx_sp _) rfl ?_; rintro _ G hle ⟨sa, sc, sn, rfl, hsp⟩; skip)) | (refine k_gt rfl rfl rfl ?_) | (refine k_tt rfl rfl ?_))
   all_goals refine Nx.base hok hB ?_
   all_goals refine jZ (vs := [_, _, _]) rfl ⟨rfl, rfl, rfl, trivial⟩ rfl ⟨rfl, rfl, ?_⟩
   all_goals rfl
  | some q =>
   have cx_sp := readPath_yes h1.2.2.2 hpo
   refine jB (Post := fun v G' L' => G' = G ∧ L' = [] ∧ _) [(0, _), (1, _), (2, _), (3, _)] Tryz.func10 Tryz.ntmps10 fun B hok hB hW => ?_
   repeat' (first | (refine jR ?_) | (refine k_op rfl ?_; first | refine c_al rfl rfl fun _ => ?_ | refine c_stA rfl rfl rfl rfl rfl rfl ?_ | (refine jV (g_pickT rfl rfl rfl) ?_) | (refine c_fns rfl rfl rfl cx_gi0 rfl ?_; rintro _ G hle ⟨p1, a1, b1, c1, rfl⟩; skip) | (refine c_fns rfl rfl rfl (cx_sp _) rfl ?_; rintro _ G hle ⟨sa, sc, sn, rfl, hsp⟩; skip)) | (refine k_gt rfl rfl rfl ?_) | (refine k_tt rfl rfl ?_))
   all_goals refine Nx.base hok hB ?_
   all_goals refine jZ (vs := [_, _, _]) rfl ⟨rfl, rfl, rfl, trivial⟩ rfl ⟨rfl, rfl, ?_⟩
   all_goals rfl
 | some u =>
  obtain ⟨ts, hs, hki, hvo, hto, hwf⟩ := given_some hg
  have cx_gi1 := c_given1 (G := G) (s := s) (k := k) (w := w) (by omega) hs hki hvo
  rw [hs]
  cases hpo : pathOf p with
  | none =>
   have cx_sp := readPath_no h1.2.2.2 hpo
   refine jB (Post := fun v G' L' => G' = G ∧ L' = [] ∧ _) [(0, _), (1, _), (2, _), (3, _)] Tryz.func10 Tryz.ntmps10 fun B hok hB hW => ?_
   repeat' (first | (refine jR ?_) | (refine k_op rfl ?_; first | refine c_al rfl rfl fun _ => ?_ | refine c_stA rfl rfl rfl rfl rfl rfl ?_ | (refine jV (g_pickF rfl rfl rfl) ?_) | (refine c_fns rfl rfl rfl cx_gi1 rfl ?_; rintro _ G hle ⟨bg, qg, cv, rfl, hTg, hRg, hrv⟩; skip) | (refine c_fns rfl rfl rfl (cx_sp _) rfl ?_; rintro _ G hle ⟨sa, sc, sn, rfl, hsp⟩; skip)) | (refine k_gf rfl rfl rfl ?_) | (refine k_tt rfl rfl ?_))
   all_goals refine Nx.base hok hB ?_
   all_goals refine jZ (vs := [_, _, _]) rfl ⟨rfl, rfl, rfl, trivial⟩ rfl ⟨rfl, rfl, ?_⟩
   all_goals rfl
  | some q =>
   have cx_sp := readPath_yes h1.2.2.2 hpo
   obtain ⟨hq8, hqn⟩ := pathOf_le hpo
   have hof := valOf_of_k hvo
   have hw := schemaOf_w hs
   dsimp only
   refine jB (Post := fun v G' L' => G' = G ∧ L' = [] ∧ _) [(0, _), (1, _), (2, _), (3, _)] Tryz.func10 Tryz.ntmps10 fun B hok hB hW => ?_
   repeat' (first | (refine jR ?_) | (refine k_op rfl ?_; first | refine c_al rfl rfl fun _ => ?_ | refine c_stA rfl rfl rfl rfl rfl rfl ?_ | (refine jV (g_pickF rfl rfl rfl) ?_) | refine jV (g_ldA rfl rfl rfl rfl) ?_ | (refine c_fns rfl rfl rfl cx_gi1 rfl ?_; rintro _ G hle ⟨bg, qg, cv, rfl, hTg, hRg, hrv⟩; (try have hrv := rep_mono hle hrv); (try have hRg := ScI.mono hRg hle)) | (refine c_fns rfl rfl rfl (cx_sp _) rfl ?_; rintro _ G hle ⟨sa, sc, sn, rfl, hsp⟩; (try have hrv := rep_mono hle hrv); (try have hRg := ScI.mono hRg hle))) | (refine k_gf rfl rfl rfl ?_) | (refine k_ff rfl rfl ?_))
   obtain ⟨rfl, hsp⟩ := hsp
   subst hTg
   have hfl := c_followI hRg hw hsp hqn (by omega) hrv hof hki (by omega)
   unfold kdF at hfl
   rw [show vcF cv = [U8 (cv.what : Nat), S cv.text, I cv.tag, .slice cv.a cv.n cv.c] from rfl] at hfl
   cases hfo : followV (tyq qg) k u q with
   | none =>
    have cx_fon := StepPI.no hfl hfo
    repeat' (first | (refine jR ?_) | (refine k_op rfl ?_; first | refine c_stA rfl rfl rfl rfl rfl rfl ?_ | (refine c_fns rfl rfl rfl cx_fon rfl ?_; rintro _ G hle rfl; skip)) | (refine k_tt rfl rfl ?_))
    all_goals refine Nx.base hok hB ?_
    all_goals refine jZ (vs := [_, _, _]) rfl ⟨rfl, rfl, rfl, trivial⟩ rfl ⟨rfl, rfl, ?_⟩
    all_goals rfl
   | some y =>
    obtain ⟨k1, v1⟩ := y
    have cx_foy := StepPI.yes hfl hfo
    have g3 := followV_tot hw hof hki (fun n hn => (hqn n hn).1) hfo (N := 1000000) (by omega) (by omega)
    obtain ⟨_, hk1⟩ := followV_ok hw hof hki (fun n hn => (hqn n hn).1) hfo
    repeat' (first | (refine jR ?_) | (refine k_op rfl ?_; first | refine c_stA rfl rfl rfl rfl rfl rfl ?_ | (refine c_fns rfl rfl rfl cx_foy rfl ?_; rintro _ G hle ⟨cv, rfl, hrv⟩; skip)) | (refine k_ff rfl rfl ?_))
    have cx_txt := c_textI (G := G) (kindIn_ok hk1)
    have cx_pr := c_print (G := G) (c := cv) v1.tot (Nat.le_refl _) g3 hrv
    unfold kdF at cx_txt
    rw [show vcF cv = [U8 (cv.what : Nat), S cv.text, I cv.tag, .slice cv.a cv.n cv.c] from rfl] at cx_pr
    rename_i y12 y13 _ _ _ _
    (refine k_any (s_any (id := 8) _ (fun _ h => h) mixed ?_); (refine jG (bts 7 1) 0 rfl (g_ldA rfl rfl rfl rfl) ?_); (refine jG (bts 7 5) 2 rfl (g_ldA rfl rfl rfl rfl) ?_); refine jA 1 rfl ?_; (refine c_rt rfl rfl rfl cx_txt rfl ?_); refine jS (bts 7 7) ?_; refine jA 3 rfl ?_; (refine c_rt rfl rfl rfl cx_pr rfl ?_); refine jS (bts 7 15) ?_; refine jT 0 [4, 5, 6] (bts 7 127) ?_; refine x_done (by kernel_rfl) (k_bk ?_))
    all_goals repeat' (refine jR ?_)
    all_goals refine Nx.base hok hB ?_
    all_goals refine jZ (vs := [_, _, _]) rfl ⟨rfl, rfl, rfl, trivial⟩ rfl ⟨rfl, rfl, ?_⟩
    all_goals rfl
theorem pgv_len {s k w p : List UInt8} : (((pathGetV s k w p).map (·.1)).getD []).length ≤ 400 ∧ (((pathGetV s k w p).map (·.2)).getD []).length ≤ 400 := by
 cases h : pathGetV s k w p with
 | none => simp
 | some y =>
  obtain ⟨k1, x1⟩ := y
  obtain ⟨ts, u, q, v1, h1, h2, h3, h4, rfl⟩ := pgv_some h
  obtain ⟨ts', g1, g2, g3, g4, g5⟩ := given_some h2
  obtain rfl : ts = ts' := Option.some.inj (h1.symm.trans g1)
  have hw := schemaOf_w h1
  obtain ⟨b1, b2, b3, b4⟩ := pathOf_text h3
  have hq0 : ∀ n ∈ q, 0 ≤ n := fun n hn => (b3 n hn).1
  have ho := valOf_of_k g3
  obtain ⟨c1, c2⟩ := followV_ok hw ho g2 hq0 h4
  obtain ⟨d1, d2, d3⟩ := valOf_out g3
  obtain ⟨e1, e2⟩ := followV_fits hw ho g2 hq0 h4 d3 (by rw [d1]; exact d2)
  have := (kindOk_kOk (kindIn_ok c2)).2
  exact ⟨by simpa using (by omega : k1.length ≤ 400), by simpa using e2⟩
end Go.E
namespace Go.E
set_option maxRecDepth 20000
set_option maxHeartbeats 2000000
open Go.Proofs
variable {G : Gh}
def okL (q : List Int) (v : V) : Bool := v.leaves.all fun r => decide ((q ++ r).length ≤ 8)
def okLs (q : List Int) (ks : List V) (w : Nat) (t : Int) : Bool := (V.leavesS ks w t 0).all fun r => decide ((q ++ r).length ≤ 8)
theorem okLs_snoc {q : List Int} {ks : List V} {v : V} {w : Nat} {t : Int} : okLs q (ks ++ [v]) w t = (okLs q ks w t && okL (q ++ [stepNo w t ks.length v]) v) := by
 unfold okLs okL
 rw [leavesS_snoc, List.all_append, List.all_map, Nat.zero_add]
 congr 1
 congr 1
 funext r
 simp
theorem okLs_nil {q : List Int} {w : Nat} {t : Int} : okLs q [] w t = true := by unfold okLs; rw [V.leavesS]; rfl
theorem okL_leaf {q : List Int} {w : Nat} {x : List UInt8} {t : Int} (h : leafW w true = true) : okL q (.nd w x t []) = decide (q.length ≤ 8) := by
 unfold okL
 rw [V.leaves, if_pos (c := leafW w ([] : List V).isEmpty = true) h]
 simp
theorem okL_nd {q : List Int} {w : Nat} {x : List UInt8} {t : Int} {ks : List V} (h : leafW w ks.isEmpty = false) (h61 : w ≠ 61) : okL q (.nd w x t ks) = okLs q ks w t := by
 unfold okL okLs
 rw [V.leaves, if_neg (by rw [h]; simp), if_neg h61]
theorem okL_fld {q : List Int} {t : Int} {v : V} : okL q (.nd 61 [] t [v]) = okL q v := by
 unfold okL
 rw [V.leaves, if_neg (by simp [leafW]), if_pos rfl, V.leavesF, V.leavesF, List.append_nil]
theorem lensT_dec : ∀ {q : List Int}, (∀ n ∈ q, 0 ≤ n ∧ n ≤ 999999) → lensT (q.map decI) ≤ 6 * q.length
 | [], _ => by simp [lensT]
 | n :: q, h => by
  have h1 := decI_6 (h n (by simp)).2
  have h2 := lensT_dec (q := q) fun x hx => h x (by simp [hx])
  simp only [List.map_cons, lensT, List.length_cons, List.sum_cons] at h2 ⊢
  omega
abbrev tTxI : TypeId := 9
abbrev tOkI : TypeId := 4
abbrev tOuI : TypeId := 33
abbrev okO (b : Nat) (o : Bool) : Own := .blk b (.cells (List.toArray [Bo o]) tOkI (0, 0))
abbrev ouO (b : Nat) (v : Value) : Own := .blk b (.cells (List.toArray [v]) tOuI (0, 0))
theorem c_see {n : Nat} {pa : Option Addr} {pc bo bu m cap : Nat} {q : List Int} {ok : Bool} {a : Option Addr} {out : List (List UInt8)} (hn : n = q.length) (hs : SlV G (.slice pa n pc) 1 n (rows strF (q.map decI))) (hq : ∀ n ∈ q, 0 ≤ n ∧ n ≤ 999999) (hm : m = out.length ∧ m ≤ 100000 ∧ n ≤ 100000) :
  FnM Tryz.prog 42 [.slice pa n pc, Pt bo 0, Pt bu 0] G [.acc (.slice a m cap) tTxI 1 m (rows strF out), okO bo ok, ouO bu (.slice a m cap)]
   (fun _ _ L' => ∃ a' cap', L' = [.acc (.slice a' (m + 1) cap') tTxI 1 (m + 1) (rows strF (out ++ [pathText q])), okO bo (ok && decide (q.length ≤ 8)), ouO bu (.slice a' (m + 1) cap')]) := by
 have hle := lensT_dec hq
 have hml : n = (q.map decI).length := by simp [hn]
 have cx_join : PuG Tryz.prog 43 [.slice pa n pc, S [47]] G (· = S (pathText q)) := by
  have hs2 : SlV G (.slice pa n pc) 1 (q.map decI).length (rows strF (q.map decI)) := by rw [← hml]; exact hs
  exact c_Join (c := 47) hs2 (by omega)
 have hrow : rows strF out ++ [S (pathText q)] = rows strF (out ++ [pathText q]) := (rows_snoc strF out (pathText q)).symm
 rw [← hn]
 clear hle
 cases ok
 ·
  refine m_enter [(0, _), (1, _), (2, _)] Tryz.func42 (by kernel_rfl) Tryz.ntmps42 rfl rfl (by repeat' constructor) fun B hB hW => ?_
  repeat' (first | (refine jR ?_) | (refine k_op rfl ?_; first | refine jV (g_ld rfl rfl rfl) ?_ | (refine jV (g_pickF rfl rfl rfl) ?_) | refine c_st1 rfl rfl rfl rfl ?_) | (refine k_gf rfl rfl rfl ?_))
  all_goals (refine k_any (s_any (id := 1) [] (fun _ h => absurd h (by simp)) mixed ?_); refine jU 5 [1] (bts 6 2) ?_ ?_; (focus (repeat' (exact trivial))); refine x_all [0, 2] (by kernel_rfl) (by decide) ⟨?_, ?_, trivial⟩; (focus (refine x_opg rfl rfl ?_; (refine jV (g_ld rfl rfl rfl) ?_); refine jK (bts 6 3) ?_; refine jA 2 rfl ?_; (refine c_rt rfl rfl rfl cx_join rfl ?_); refine jK (bts 6 7) ?_; refine jA 3 rfl ?_; (refine c_bsl rfl rfl rfl rfl rfl rfl fun _ => ?_); refine jK (bts 6 15) ?_; refine jA 4 rfl ?_; ((refine c_apX rfl rfl rfl rfl rfl rfl rfl rfl rfl ?_ fun _ _ => ?_; (focus ((omega); done)))); refine jK (bts 6 31) ?_; refine jA 5 rfl ?_; (refine c_st1 rfl rfl rfl rfl ?_); refine jK (bts 6 63) ?_; refine x_done (by kernel_rfl) (k_bk ?_))); rotate_left 1; (focus (refine x_opg rfl rfl ?_; (refine c_rt rfl rfl rfl cx_join rfl ?_); refine jK (bts 6 6) ?_; refine x_all [0, 3] (by kernel_rfl) (by decide) ⟨?_, ?_, trivial⟩; (focus (refine x_opg rfl rfl ?_; (refine jV (g_ld rfl rfl rfl) ?_); refine jK (bts 6 7) ?_; refine jA 3 rfl ?_; (refine c_bsl rfl rfl rfl rfl rfl rfl fun _ => ?_); refine jK (bts 6 15) ?_; refine jA 4 rfl ?_; ((refine c_apX rfl rfl rfl rfl rfl rfl rfl rfl rfl ?_ fun _ _ => ?_; (focus ((omega); done)))); refine jK (bts 6 31) ?_; refine jA 5 rfl ?_; (refine c_st1 rfl rfl rfl rfl ?_); refine jK (bts 6 63) ?_; refine x_done (by kernel_rfl) (k_bk ?_))); rotate_left 1; (focus (refine x_opg rfl rfl ?_; (refine c_bsl rfl rfl rfl rfl rfl rfl fun _ => ?_); refine jK (bts 6 14) ?_; refine jA 0 rfl ?_; (refine jV (g_ld rfl rfl rfl) ?_); refine jK (bts 6 15) ?_; refine jA 4 rfl ?_; ((refine c_apX rfl rfl rfl rfl rfl rfl rfl rfl rfl ?_ fun _ _ => ?_; (focus ((omega); done)))); refine jK (bts 6 31) ?_; refine jA 5 rfl ?_; (refine c_st1 rfl rfl rfl rfl ?_); refine jK (bts 6 63) ?_; refine x_done (by kernel_rfl) (k_bk ?_))); rotate_left 1)); rotate_left 2)
  all_goals repeat' (fail)
  all_goals rw [hrow]
  all_goals exact k_re (vs := []) rfl trivial rfl (by repeat (first | exact List.Sublist.refl _ | apply List.Sublist.cons_cons | apply List.Sublist.cons)) ⟨Gh.le.refl _, _, _, rfl⟩
 ·rw [show (true && decide (n ≤ 8)) = decide ((n : Int) ≤ 8) by rw [Bool.true_and]; exact decide_eq_decide.2 (by omega)]
  refine m_enter [(0, _), (1, _), (2, _)] Tryz.func42 (by kernel_rfl) Tryz.ntmps42 rfl rfl (by repeat' constructor) fun B hB hW => ?_
  repeat' (first | (refine jR ?_) | (refine k_op rfl ?_; first | refine jV (g_ld rfl rfl rfl) ?_ | refine jV (g_lenL rfl) ?_ | (refine jV (g_pickT rfl rfl rfl) ?_) | refine c_st1 rfl rfl rfl rfl ?_) | (refine k_gt rfl rfl rfl ?_))
  all_goals (refine k_any (s_any (id := 1) [] (fun _ h => absurd h (by simp)) mixed ?_); refine jU 5 [1] (bts 6 2) ?_ ?_; (focus (repeat' (exact trivial))); refine x_all [0, 2] (by kernel_rfl) (by decide) ⟨?_, ?_, trivial⟩; (focus (refine x_opg rfl rfl ?_; (refine jV (g_ld rfl rfl rfl) ?_); refine jK (bts 6 3) ?_; refine jA 2 rfl ?_; (refine c_rt rfl rfl rfl cx_join rfl ?_); refine jK (bts 6 7) ?_; refine jA 3 rfl ?_; (refine c_bsl rfl rfl rfl rfl rfl rfl fun _ => ?_); refine jK (bts 6 15) ?_; refine jA 4 rfl ?_; ((refine c_apX rfl rfl rfl rfl rfl rfl rfl rfl rfl ?_ fun _ _ => ?_; (focus ((omega); done)))); refine jK (bts 6 31) ?_; refine jA 5 rfl ?_; (refine c_st1 rfl rfl rfl rfl ?_); refine jK (bts 6 63) ?_; refine x_done (by kernel_rfl) (k_bk ?_))); rotate_left 1; (focus (refine x_opg rfl rfl ?_; (refine c_rt rfl rfl rfl cx_join rfl ?_); refine jK (bts 6 6) ?_; refine x_all [0, 3] (by kernel_rfl) (by decide) ⟨?_, ?_, trivial⟩; (focus (refine x_opg rfl rfl ?_; (refine jV (g_ld rfl rfl rfl) ?_); refine jK (bts 6 7) ?_; refine jA 3 rfl ?_; (refine c_bsl rfl rfl rfl rfl rfl rfl fun _ => ?_); refine jK (bts 6 15) ?_; refine jA 4 rfl ?_; ((refine c_apX rfl rfl rfl rfl rfl rfl rfl rfl rfl ?_ fun _ _ => ?_; (focus ((omega); done)))); refine jK (bts 6 31) ?_; refine jA 5 rfl ?_; (refine c_st1 rfl rfl rfl rfl ?_); refine jK (bts 6 63) ?_; refine x_done (by kernel_rfl) (k_bk ?_))); rotate_left 1; (focus (refine x_opg rfl rfl ?_; (refine c_bsl rfl rfl rfl rfl rfl rfl fun _ => ?_); refine jK (bts 6 14) ?_; refine jA 0 rfl ?_; (refine jV (g_ld rfl rfl rfl) ?_); refine jK (bts 6 15) ?_; refine jA 4 rfl ?_; ((refine c_apX rfl rfl rfl rfl rfl rfl rfl rfl rfl ?_ fun _ _ => ?_; (focus ((omega); done)))); refine jK (bts 6 31) ?_; refine jA 5 rfl ?_; (refine c_st1 rfl rfl rfl rfl ?_); refine jK (bts 6 63) ?_; refine x_done (by kernel_rfl) (k_bk ?_))); rotate_left 1)); rotate_left 2)
  all_goals repeat' (fail)
  all_goals rw [hrow]
  all_goals exact k_re (vs := []) rfl trivial rfl (by repeat (first | exact List.Sublist.refl _ | apply List.Sublist.cons_cons | apply List.Sublist.cons)) ⟨Gh.le.refl _, _, _, rfl⟩
def LvI (v : V) : Prop := ∀ (G : Gh) (c : VC) (q : List Int) (n : Nat) (pa : Option Addr) (pc bo bu : Nat) (ok : Bool) (a : Option Addr) (m cap : Nat) (out : List (List UInt8)), V.rep G v c → n = q.length → SlV G (.slice pa n pc) 1 n (rows strF (q.map decI)) → (∀ n ∈ q, 0 ≤ n ∧ n ≤ 999999) → m = out.length → m + v.tot ≤ 100000 ∧ n + v.tot ≤ 100000 →
 FnM Tryz.prog 41 [Ag (vcF c), .slice pa n pc, .func (.func 42) (List.toArray []) (List.toArray [Pt bo 0, Pt bu 0])] G [.acc (.slice a m cap) tTxI 1 m (rows strF out), okO bo ok, ouO bu (.slice a m cap)]
  (fun _ _ L' => ∃ a' cap', L' = [.acc (.slice a' (m + v.size) cap') tTxI 1 (m + v.size) (rows strF (out ++ lvT q v)), okO bo (ok && okL q v), ouO bu (.slice a' (m + v.size) cap')])
abbrev tValL : TypeId := 48
theorem rows_q {q : List Int} {s : Int} : rows strF ((q ++ [s]).map decI) = rows strF (q.map decI) ++ [S (decI s)] := by rw [List.map_append]; exact rows_snoc strF (q.map decI) (decI s)
theorem slv_capL {G : Gh} {pa : Option Addr} {n pc sz : Nat} {xs : List Value} (h : SlV G (.slice pa n pc) sz n xs) : n ≤ pc := by
 obtain ⟨_, ⟨e, _⟩ | ⟨b, o, c, e, hc, _⟩⟩ := h
 ·simp only [Value.slice.injEq] at e; omega
 ·simp only [Value.slice.injEq] at e; omega
theorem c_lvLeaf {w : Nat} {x : List UInt8} {t : Int} (hl : w = 110 ∨ w = 116 ∨ w = 102 ∨ w = 69 ∨ w = 63) : LvI (.nd w x t []) := by
 intro G c q n pa pc bo bu ok a m cap out hrep hn hs hq hm hto
 obtain ⟨ka, kc, cs, rfl, hw, ht, h61, hcl, hsl, hks⟩ := rep_inv hrep
 rw [nd_tot] at hto
 have hee : ([] : List V).length = 0 := rfl
 have hsee := c_see (G := G) (bo := bo) (bu := bu) (cap := cap) (ok := ok) (a := a) hn hs hq ⟨hm, by omega, by omega⟩
 simp only [vcF, VC.sl]
 rcases hl with rfl | rfl | rfl | rfl | rfl
 all_goals
  rw [size_leaf rfl, lvT_leaf rfl, okL_leaf rfl]
  refine m_enter [(0, _), (1, _), (2, _)] Tryz.func41 (by kernel_rfl) Tryz.ntmps41 rfl rfl (by repeat' constructor) fun B hB hW => ?_
  repeat' (first | (refine jR ?_) | (refine k_op rfl ?_; first | refine c_bx rfl rfl rfl fun _ => ?_ | refine jV (g_ld rfl rfl rfl) ?_ | (refine jV (g_pickT rfl rfl rfl) ?_) | (refine jV (g_pickF rfl rfl rfl) ?_) | refine jV (g_lenL rfl) ?_) | (refine k_gt rfl rfl rfl ?_) | (refine k_gf rfl rfl rfl ?_) | (refine k_tt rfl rfl ?_))
  refine k_op rfl ?_
  refine c_m3s rfl rfl rfl hsee rfl ?_
  rintro _ G1 _ hle ⟨av, cv, rfl⟩
  dsimp only [zA, fA]
  repeat' (refine jR ?_)
  exact k_rr (vs := []) rfl trivial rfl (by repeat (first | exact List.nil_sublist _ | apply List.Sublist.cons_cons)) ⟨hle, _, _, rfl⟩
theorem lv_next {q : List Int} {w : Nat} {t st : Int} {ks : List V} {v : V} {i m : Nat} {out : List (List UInt8)} {ok : Bool} (hi : i < ks.length) (hv : lvT (q ++ [st]) (nth ks i) = lvT (q ++ [st]) v ∧ okL (q ++ [st]) (nth ks i) = okL (q ++ [st]) v ∧ (nth ks i).size = v.size) (hst : stepNo w t (ks.take i).length (nth ks i) = st) :
  m + V.sizes (ks.take (i + 1)) = m + V.sizes (ks.take i) + v.size ∧ out ++ lvS q (ks.take (i + 1)) w t = out ++ lvS q (ks.take i) w t ++ lvT (q ++ [st]) v ∧ (ok && okLs q (ks.take (i + 1)) w t) = (ok && okLs q (ks.take i) w t && okL (q ++ [st]) v) := by
 refine ⟨by rw [take_nth hi, sizes_snocL, hv.2.2, Nat.add_assoc], by rw [take_nth hi, lvS_snoc, hst, hv.1, List.append_assoc], by rw [take_nth hi, okLs_snoc, hst, hv.2.1, Bool.and_assoc]⟩
theorem c_lvKids {w : Nat} {x : List UInt8} {t : Int} {ks : List V} (hw : w = 91 ∨ (w = 63 ∧ ks.length ≠ 0) ∨ w = 85) (hlk : ks.length ≤ 1000) (ih : ∀ v ∈ ks, LvI v) : LvI (.nd w x t ks) := by
 intro G c q n pa pc bo bu ok a m cap out hrep hn hs hq hm hto
 obtain ⟨ka, kc, cs, rfl, hw2, ht, h61, hcl, hsl, hks⟩ := rep_inv hrep
 rw [nd_tot] at hto
 have hpc := slv_capL hs
 have hst := sizes_totL ks
 have hkl := tots_len ks
 have hsz : V.size (.nd w x t ks) = V.sizes ks := by
  rw [V.size, if_neg]
  rcases hw with rfl | ⟨rfl, h⟩ | rfl
  ·simp [leafW]
  ·have : ks.isEmpty = false := by cases ks with | nil => simp at h | cons => rfl
   simp [leafW, this]
  ·simp [leafW]
 have hlf : leafW w ks.isEmpty = false := by
  rcases hw with rfl | ⟨rfl, h⟩ | rfl
  ·exact leafW_91
  ·have : ks.isEmpty = false := by cases ks with | nil => simp at h | cons => rfl
   simp [leafW, this]
  ·exact leafW_85
 have h61' : w ≠ 61 := by omega
 rw [hsz, lvT_nd hlf h61', okL_nd hlf h61']
 simp only [vcF, VC.sl]
 rw [show rows strF out = rows strF (out ++ lvS q (ks.take 0) w t) by rw [List.take_zero, lvS_nil, List.append_nil], show okO bo ok = okO bo (ok && okLs q (ks.take 0) w t) by rw [List.take_zero, okLs_nil, Bool.and_true]]
 clear h61 hlf hsz h61'
 rcases hw with rfl | ⟨rfl, hne⟩ | rfl
 ·
  refine m_enter [(0, _), (1, _), (2, _)] Tryz.func41 (by kernel_rfl) Tryz.ntmps41 rfl rfl (by repeat' constructor) fun B hB hW => ?_
  repeat' (first | (refine jR ?_) | (refine k_op rfl ?_; first | refine c_bx rfl rfl rfl fun _ => ?_ | refine jV (g_ld rfl rfl rfl) ?_ | (refine jV (g_pickF rfl rfl rfl) ?_) | refine jV (g_lenL rfl) ?_) | (refine k_gf rfl rfl rfl ?_) | (refine k_ff rfl rfl ?_))
  rename_i x3
  refine Nx.perm (List.perm_append_comm (l₁ := [_]) (l₂ := [_, _, _])) ?_
  dsimp only [zA, fA]
  refine k_loop (ι := Nat × Option Addr × Nat × Gh) (fun i => i.1 ≤ ks.length ∧ Gh.le G i.2.2.2) (fun i => [(1, .slice pa n pc), (2, .func (.func 42) (List.toArray []) (List.toArray [Pt bo 0, Pt bu 0])), (3, Pt x3 0), (42, .slice ka ks.length kc), (43, I ks.length), (44, I i.1)]) (fun i => i.2.2.2) (fun i => [.acc (.slice i.2.1 (m + V.sizes (ks.take i.1)) i.2.2.1) tTxI 1 (m + V.sizes (ks.take i.1)) (rows strF (out ++ lvS q (ks.take i.1) 91 t)), okO bo (ok && okLs q (ks.take i.1) 91 t), ouO bu (.slice i.2.1 (m + V.sizes (ks.take i.1)) i.2.2.1), .blk x3 (.cells (List.toArray [U8 ((91 : Nat) : Int), S x, I t, .slice ka ks.length kc]) tValL (0, 0))]) (fun i => ks.length - i.1) (0, a, cap, G) ?_ (by repeat' constructor) rfl sRr (fun i Hi => ?_)
  ·exact ⟨Nat.zero_le _, Gh.le.refl _⟩
  obtain ⟨i, a, cap, Gq⟩ := i
  dsimp only at Hi ⊢
  obtain ⟨hi0, hgq⟩ := Hi
  by_cases hi : i < ks.length
  ·have hsq := hs.mono hgq
   have hslq := hsl.mono hgq
   have hstp : stepNo 91 t (ks.take i).length (nth ks i) = (i : Int) := by rw [List.length_take, Nat.min_eq_left (by omega)]; rfl
   obtain ⟨hN1, hN2, hN3⟩ := lv_next (q := q) (m := m) (out := out) (ok := ok) (st := (i : Int)) hi ⟨rfl, rfl, rfl⟩ hstp
   have htn := tot_nth hi
   have htk1 := tots_take ks (i + 1)
   rw [take_nth hi, tots_app] at htk1
   simp only [V.tots] at htk1
   have hs1 := sizes_totL (ks.take i)
   have hlen : m + V.sizes (ks.take i) = (out ++ lvS q (ks.take i) 91 t).length := by rw [List.length_append, lvS_len, hm]
   have cx_lvi : ∀ G', Gh.le Gq G' → ∀ pa' pc', SlV G' (.slice pa' (n + 1) pc') 1 (n + 1) (rows strF (q.map decI) ++ [S (decI (i : Int))]) → FnM Tryz.prog 41 [Ag (vcF (nth cs i)), .slice pa' (n + 1) pc', .func (.func 42) (List.toArray []) (List.toArray [Pt bo 0, Pt bu 0])] G' [.acc (.slice a (m + V.sizes (ks.take i)) cap) tTxI 1 (m + V.sizes (ks.take i)) (rows strF (out ++ lvS q (ks.take i) 91 t)), okO bo (ok && okLs q (ks.take i) 91 t), ouO bu (.slice a (m + V.sizes (ks.take i)) cap)]
     (fun _ _ L' => ∃ a' cap', L' = [.acc (.slice a' (m + V.sizes (ks.take i) + (nth ks i).size) cap') tTxI 1 (m + V.sizes (ks.take i) + (nth ks i).size) (rows strF (out ++ lvS q (ks.take i) 91 t ++ lvT (q ++ [(i : Int)]) (nth ks i))), okO bo (ok && okLs q (ks.take i) 91 t && okL (q ++ [(i : Int)]) (nth ks i)), ouO bu (.slice a' (m + V.sizes (ks.take i) + (nth ks i).size) cap')]) := fun G' hG' pa' pc' hs' => ih _ (nth_mem hi) G' (nth cs i) (q ++ [(i : Int)]) (n + 1) pa' pc' bo bu _ a _ cap _ (reps_nth (reps_mono (hgq.trans hG') hks) i hi) (by simp [hn]) (by rw [rows_q]; exact hs') (snoc_in hq ⟨by omega, by omega⟩) hlen ⟨by omega, by omega⟩
   obtain ⟨kb, ko, kcc, e, hsx⟩ := hslq.expl (by omega)
   simp only [Value.slice.injEq] at e
   obtain ⟨rfl, -, rfl⟩ := e
   have hxi : nth cs i = nth cs i := rfl
   repeat' (first | (refine jR ?_) | (refine k_op rfl ?_; first | refine jV (g_ld rfl rfl rfl) ?_ | (refine jV (g_ldRx rfl rfl (by assumption) ?_ (by assumption)) ?_; (focus ((omega); done))) | (refine jV (g_iaddrN rfl rfl (by omega)) ?_) | refine c_al rfl rfl fun _ => ?_ | refine c_stA rfl rfl rfl rfl rfl rfl ?_) | (refine k_tt rfl (dTt (by omega)) ?_) | (refine k_ff rfl rfl ?_))
   rename_i x7
   simp only [vcF, VC.sl] at cx_lvi
   (refine k_any (s_any (id := 12) [.blk x7 (.cells (List.toArray [U8 ((nth cs i).what : Int), S (nth cs i).text, I (nth cs i).tag, .slice (nth cs i).a (nth cs i).n (nth cs i).c]) tValL (0, 0))] (by intro y hy; simp only [List.mem_cons, List.not_mem_nil, or_false] at hy ⊢; simp [hy]) mixed ?_); refine jU 8 [1, 2, 4, 7, 11] (bts 13 2198) ?_ ?_; (focus (repeat' (exact trivial))); (refine jG (bts 13 2199) 0 rfl (g_ldA rfl rfl rfl rfl) ?_); (refine jG (bts 13 2207) 3 rfl (g_lenL rfl) ?_); (refine jG (bts 13 2239) 5 rfl (g_lenL rfl) ?_); ((refine jG (bts 13 2303) 6 rfl (g_sl3 rfl rfl rfl ?_) ?_; (focus ((omega); done)))); refine jA 8 rfl ?_; (refine c_rt rfl rfl rfl (c_decimalN (by omega)) rfl ?_); refine jK (bts 13 2559) ?_; refine jA 9 rfl ?_; (refine c_bsl rfl rfl rfl rfl rfl rfl fun _ => ?_); refine jK (bts 13 3071) ?_; refine jA 10 rfl ?_; ((refine c_apC rfl rfl (by assumption) rfl rfl rfl rfl rfl rfl rfl rfl ?_ fun _ _ G2 hG2 hpth => ?_; (focus ((omega); done)))); refine jK (bts 13 4095) ?_; refine jA 12 rfl ?_; ((refine c_m3s rfl rfl rfl ((cx_lvi _) (by (repeat (assumption)); done) _ _ (by (repeat (assumption)); done)) rfl ?_; rintro _ G1 _ hle ⟨av, cv, rfl⟩; dsimp only [zA, fA]; (have hle := Gh.le.trans hG2 hle))); refine jK (bts 13 8191) ?_; refine x_done (by kernel_rfl) (k_bk ?_))
   all_goals repeat' (refine jM ?_)
   all_goals exact k_rd (i + 1, av, cv, _) ⟨by dsimp only; omega, hgq.trans hle⟩ (by dsimp only; omega) (by repeat' constructor) rfl (by dsimp only; rw [hN1, hN2, hN3]; repeat (first | exact List.Sublist.refl _ | apply List.Sublist.cons_cons | apply List.Sublist.cons))
  ·obtain rfl : i = ks.length := by omega
   rw [List.take_length]
   repeat' (first | (refine jR ?_) | (refine k_ff rfl (dFf (by omega)) ?_))
   exact k_re (vs := []) rfl trivial rfl (by repeat (first | exact List.nil_sublist _ | apply List.Sublist.cons_cons)) ⟨hgq, _, _, rfl⟩
 ·
  refine m_enter [(0, _), (1, _), (2, _)] Tryz.func41 (by kernel_rfl) Tryz.ntmps41 rfl rfl (by repeat' constructor) fun B hB hW => ?_
  repeat' (first | (refine jR ?_) | (refine k_op rfl ?_; first | refine c_bx rfl rfl rfl fun _ => ?_ | refine jV (g_ld rfl rfl rfl) ?_ | (refine jV (g_pickT rfl rfl rfl) ?_) | (refine jV (g_pickF rfl rfl rfl) ?_) | refine jV (g_lenL rfl) ?_) | (refine k_gt rfl rfl rfl ?_) | (refine k_gf rfl rfl rfl ?_) | (refine k_ff rfl (dFf (by omega)) ?_))
  rename_i x3
  refine Nx.perm (List.perm_append_comm (l₁ := [_]) (l₂ := [_, _, _])) ?_
  dsimp only [zA, fA]
  refine k_loop (ι := Nat × Option Addr × Nat × Gh) (fun i => i.1 ≤ ks.length ∧ Gh.le G i.2.2.2) (fun i => [(1, .slice pa n pc), (2, .func (.func 42) (List.toArray []) (List.toArray [Pt bo 0, Pt bu 0])), (3, Pt x3 0), (42, .slice ka ks.length kc), (43, I ks.length), (44, I i.1)]) (fun i => i.2.2.2) (fun i => [.acc (.slice i.2.1 (m + V.sizes (ks.take i.1)) i.2.2.1) tTxI 1 (m + V.sizes (ks.take i.1)) (rows strF (out ++ lvS q (ks.take i.1) 63 t)), okO bo (ok && okLs q (ks.take i.1) 63 t), ouO bu (.slice i.2.1 (m + V.sizes (ks.take i.1)) i.2.2.1), .blk x3 (.cells (List.toArray [U8 ((63 : Nat) : Int), S x, I t, .slice ka ks.length kc]) tValL (0, 0))]) (fun i => ks.length - i.1) (0, a, cap, G) ?_ (by repeat' constructor) rfl sRr (fun i Hi => ?_)
  ·exact ⟨Nat.zero_le _, Gh.le.refl _⟩
  obtain ⟨i, a, cap, Gq⟩ := i
  dsimp only at Hi ⊢
  obtain ⟨hi0, hgq⟩ := Hi
  by_cases hi : i < ks.length
  ·have hsq := hs.mono hgq
   have hslq := hsl.mono hgq
   have hstp : stepNo 63 t (ks.take i).length (nth ks i) = (i : Int) := by rw [List.length_take, Nat.min_eq_left (by omega)]; rfl
   obtain ⟨hN1, hN2, hN3⟩ := lv_next (q := q) (m := m) (out := out) (ok := ok) (st := (i : Int)) hi ⟨rfl, rfl, rfl⟩ hstp
   have htn := tot_nth hi
   have htk1 := tots_take ks (i + 1)
   rw [take_nth hi, tots_app] at htk1
   simp only [V.tots] at htk1
   have hs1 := sizes_totL (ks.take i)
   have hlen : m + V.sizes (ks.take i) = (out ++ lvS q (ks.take i) 63 t).length := by rw [List.length_append, lvS_len, hm]
   have cx_lvi : ∀ G', Gh.le Gq G' → ∀ pa' pc', SlV G' (.slice pa' (n + 1) pc') 1 (n + 1) (rows strF (q.map decI) ++ [S (decI (i : Int))]) → FnM Tryz.prog 41 [Ag (vcF (nth cs i)), .slice pa' (n + 1) pc', .func (.func 42) (List.toArray []) (List.toArray [Pt bo 0, Pt bu 0])] G' [.acc (.slice a (m + V.sizes (ks.take i)) cap) tTxI 1 (m + V.sizes (ks.take i)) (rows strF (out ++ lvS q (ks.take i) 63 t)), okO bo (ok && okLs q (ks.take i) 63 t), ouO bu (.slice a (m + V.sizes (ks.take i)) cap)]
     (fun _ _ L' => ∃ a' cap', L' = [.acc (.slice a' (m + V.sizes (ks.take i) + (nth ks i).size) cap') tTxI 1 (m + V.sizes (ks.take i) + (nth ks i).size) (rows strF (out ++ lvS q (ks.take i) 63 t ++ lvT (q ++ [(i : Int)]) (nth ks i))), okO bo (ok && okLs q (ks.take i) 63 t && okL (q ++ [(i : Int)]) (nth ks i)), ouO bu (.slice a' (m + V.sizes (ks.take i) + (nth ks i).size) cap')]) := fun G' hG' pa' pc' hs' => ih _ (nth_mem hi) G' (nth cs i) (q ++ [(i : Int)]) (n + 1) pa' pc' bo bu _ a _ cap _ (reps_nth (reps_mono (hgq.trans hG') hks) i hi) (by simp [hn]) (by rw [rows_q]; exact hs') (snoc_in hq ⟨by omega, by omega⟩) hlen ⟨by omega, by omega⟩
   obtain ⟨kb, ko, kcc, e, hsx⟩ := hslq.expl (by omega)
   simp only [Value.slice.injEq] at e
   obtain ⟨rfl, -, rfl⟩ := e
   have hxi : nth cs i = nth cs i := rfl
   repeat' (first | (refine jR ?_) | (refine k_op rfl ?_; first | refine jV (g_ld rfl rfl rfl) ?_ | (refine jV (g_ldRx rfl rfl (by assumption) ?_ (by assumption)) ?_; (focus ((omega); done))) | (refine jV (g_iaddrN rfl rfl (by omega)) ?_) | refine c_al rfl rfl fun _ => ?_ | refine c_stA rfl rfl rfl rfl rfl rfl ?_) | (refine k_tt rfl (dTt (by omega)) ?_) | (refine k_ff rfl rfl ?_))
   rename_i x7
   simp only [vcF, VC.sl] at cx_lvi
   (refine k_any (s_any (id := 12) [.blk x7 (.cells (List.toArray [U8 ((nth cs i).what : Int), S (nth cs i).text, I (nth cs i).tag, .slice (nth cs i).a (nth cs i).n (nth cs i).c]) tValL (0, 0))] (by intro y hy; simp only [List.mem_cons, List.not_mem_nil, or_false] at hy ⊢; simp [hy]) mixed ?_); refine jU 8 [1, 2, 4, 7, 11] (bts 13 2198) ?_ ?_; (focus (repeat' (exact trivial))); (refine jG (bts 13 2199) 0 rfl (g_ldA rfl rfl rfl rfl) ?_); (refine jG (bts 13 2207) 3 rfl (g_lenL rfl) ?_); (refine jG (bts 13 2239) 5 rfl (g_lenL rfl) ?_); ((refine jG (bts 13 2303) 6 rfl (g_sl3 rfl rfl rfl ?_) ?_; (focus ((omega); done)))); refine jA 8 rfl ?_; (refine c_rt rfl rfl rfl (c_decimalN (by omega)) rfl ?_); refine jK (bts 13 2559) ?_; refine jA 9 rfl ?_; (refine c_bsl rfl rfl rfl rfl rfl rfl fun _ => ?_); refine jK (bts 13 3071) ?_; refine jA 10 rfl ?_; ((refine c_apC rfl rfl (by assumption) rfl rfl rfl rfl rfl rfl rfl rfl ?_ fun _ _ G2 hG2 hpth => ?_; (focus ((omega); done)))); refine jK (bts 13 4095) ?_; refine jA 12 rfl ?_; ((refine c_m3s rfl rfl rfl ((cx_lvi _) (by (repeat (assumption)); done) _ _ (by (repeat (assumption)); done)) rfl ?_; rintro _ G1 _ hle ⟨av, cv, rfl⟩; dsimp only [zA, fA]; (have hle := Gh.le.trans hG2 hle))); refine jK (bts 13 8191) ?_; refine x_done (by kernel_rfl) (k_bk ?_))
   all_goals repeat' (refine jM ?_)
   all_goals exact k_rd (i + 1, av, cv, _) ⟨by dsimp only; omega, hgq.trans hle⟩ (by dsimp only; omega) (by repeat' constructor) rfl (by dsimp only; rw [hN1, hN2, hN3]; repeat (first | exact List.Sublist.refl _ | apply List.Sublist.cons_cons | apply List.Sublist.cons))
  ·obtain rfl : i = ks.length := by omega
   rw [List.take_length]
   repeat' (first | (refine jR ?_) | (refine k_ff rfl (dFf (by omega)) ?_))
   exact k_re (vs := []) rfl trivial rfl (by repeat (first | exact List.nil_sublist _ | apply List.Sublist.cons_cons)) ⟨hgq, _, _, rfl⟩
 ·
  refine m_enter [(0, _), (1, _), (2, _)] Tryz.func41 (by kernel_rfl) Tryz.ntmps41 rfl rfl (by repeat' constructor) fun B hB hW => ?_
  repeat' (first | (refine jR ?_) | (refine k_op rfl ?_; first | refine c_bx rfl rfl rfl fun _ => ?_ | refine jV (g_ld rfl rfl rfl) ?_ | (refine jV (g_pickF rfl rfl rfl) ?_) | refine jV (g_lenL rfl) ?_) | (refine k_gf rfl rfl rfl ?_) | (refine k_ff rfl rfl ?_))
  rename_i x3
  refine Nx.perm (List.perm_append_comm (l₁ := [_]) (l₂ := [_, _, _])) ?_
  dsimp only [zA, fA]
  refine k_loop (ι := Nat × Option Addr × Nat × Gh) (fun i => i.1 ≤ ks.length ∧ Gh.le G i.2.2.2) (fun i => [(1, .slice pa n pc), (2, .func (.func 42) (List.toArray []) (List.toArray [Pt bo 0, Pt bu 0])), (3, Pt x3 0), (42, .slice ka ks.length kc), (43, I ks.length), (44, I i.1)]) (fun i => i.2.2.2) (fun i => [.acc (.slice i.2.1 (m + V.sizes (ks.take i.1)) i.2.2.1) tTxI 1 (m + V.sizes (ks.take i.1)) (rows strF (out ++ lvS q (ks.take i.1) 85 t)), okO bo (ok && okLs q (ks.take i.1) 85 t), ouO bu (.slice i.2.1 (m + V.sizes (ks.take i.1)) i.2.2.1), .blk x3 (.cells (List.toArray [U8 ((85 : Nat) : Int), S x, I t, .slice ka ks.length kc]) tValL (0, 0))]) (fun i => ks.length - i.1) (0, a, cap, G) ?_ (by repeat' constructor) rfl sRr (fun i Hi => ?_)
  ·exact ⟨Nat.zero_le _, Gh.le.refl _⟩
  obtain ⟨i, a, cap, Gq⟩ := i
  dsimp only at Hi ⊢
  obtain ⟨hi0, hgq⟩ := Hi
  by_cases hi : i < ks.length
  ·have hsq := hs.mono hgq
   have hslq := hsl.mono hgq
   have hstp : stepNo 85 t (ks.take i).length (nth ks i) = t := by rfl
   obtain ⟨hN1, hN2, hN3⟩ := lv_next (q := q) (m := m) (out := out) (ok := ok) (st := t) hi ⟨rfl, rfl, rfl⟩ hstp
   have htn := tot_nth hi
   have htk1 := tots_take ks (i + 1)
   rw [take_nth hi, tots_app] at htk1
   simp only [V.tots] at htk1
   have hs1 := sizes_totL (ks.take i)
   have hlen : m + V.sizes (ks.take i) = (out ++ lvS q (ks.take i) 85 t).length := by rw [List.length_append, lvS_len, hm]
   have cx_lvi : ∀ G', Gh.le Gq G' → ∀ pa' pc', SlV G' (.slice pa' (n + 1) pc') 1 (n + 1) (rows strF (q.map decI) ++ [S (decI (t))]) → FnM Tryz.prog 41 [Ag (vcF (nth cs i)), .slice pa' (n + 1) pc', .func (.func 42) (List.toArray []) (List.toArray [Pt bo 0, Pt bu 0])] G' [.acc (.slice a (m + V.sizes (ks.take i)) cap) tTxI 1 (m + V.sizes (ks.take i)) (rows strF (out ++ lvS q (ks.take i) 85 t)), okO bo (ok && okLs q (ks.take i) 85 t), ouO bu (.slice a (m + V.sizes (ks.take i)) cap)]
     (fun _ _ L' => ∃ a' cap', L' = [.acc (.slice a' (m + V.sizes (ks.take i) + (nth ks i).size) cap') tTxI 1 (m + V.sizes (ks.take i) + (nth ks i).size) (rows strF (out ++ lvS q (ks.take i) 85 t ++ lvT (q ++ [t]) (nth ks i))), okO bo (ok && okLs q (ks.take i) 85 t && okL (q ++ [t]) (nth ks i)), ouO bu (.slice a' (m + V.sizes (ks.take i) + (nth ks i).size) cap')]) := fun G' hG' pa' pc' hs' => ih _ (nth_mem hi) G' (nth cs i) (q ++ [t]) (n + 1) pa' pc' bo bu _ a _ cap _ (reps_nth (reps_mono (hgq.trans hG') hks) i hi) (by simp [hn]) (by rw [rows_q]; exact hs') (snoc_in hq ⟨by omega, by omega⟩) hlen ⟨by omega, by omega⟩
   obtain ⟨kb, ko, kcc, e, hsx⟩ := hslq.expl (by omega)
   simp only [Value.slice.injEq] at e
   obtain ⟨rfl, -, rfl⟩ := e
   have hxi : nth cs i = nth cs i := rfl
   repeat' (first | (refine jR ?_) | (refine k_op rfl ?_; first | refine jV (g_ld rfl rfl rfl) ?_ | (refine jV (g_ldRx rfl rfl (by assumption) ?_ (by assumption)) ?_; (focus ((omega); done))) | (refine jV (g_iaddrN rfl rfl (by omega)) ?_) | refine c_al rfl rfl fun _ => ?_ | refine c_stA rfl rfl rfl rfl rfl rfl ?_) | (refine k_tt rfl (by first | rfl | (refine decide_eq_true ?_; (omega))) ?_))
   rename_i x7
   simp only [vcF, VC.sl] at cx_lvi
   (refine k_any (s_any (id := 12) [.blk x7 (.cells (List.toArray [U8 ((nth cs i).what : Int), S (nth cs i).text, I (nth cs i).tag, .slice (nth cs i).a (nth cs i).n (nth cs i).c]) tValL (0, 0))] (by intro y hy; simp only [List.mem_cons, List.not_mem_nil, or_false] at hy ⊢; simp [hy]) mixed ?_); refine jU 8 [1, 2, 4, 7, 11] (bts 13 2198) ?_ ?_; (focus (repeat' (exact trivial))); (refine jG (bts 13 2199) 0 rfl (g_ldA rfl rfl rfl rfl) ?_); (refine jG (bts 13 2207) 3 rfl (g_lenL rfl) ?_); (refine jG (bts 13 2239) 5 rfl (g_lenL rfl) ?_); ((refine jG (bts 13 2303) 6 rfl (g_sl3 rfl rfl rfl ?_) ?_; (focus ((omega); done)))); refine jA 8 rfl ?_; (refine c_rt rfl rfl rfl (c_decimalN (by omega)) rfl ?_); refine jK (bts 13 2559) ?_; refine jA 9 rfl ?_; (refine c_bsl rfl rfl rfl rfl rfl rfl fun _ => ?_); refine jK (bts 13 3071) ?_; refine jA 10 rfl ?_; ((refine c_apC rfl rfl (by assumption) rfl rfl rfl rfl rfl rfl rfl rfl ?_ fun _ _ G2 hG2 hpth => ?_; (focus ((omega); done)))); refine jK (bts 13 4095) ?_; refine jA 12 rfl ?_; ((refine c_m3s rfl rfl rfl ((cx_lvi _) (by (repeat (assumption)); done) _ _ (by (repeat (assumption)); done)) rfl ?_; rintro _ G1 _ hle ⟨av, cv, rfl⟩; dsimp only [zA, fA]; (have hle := Gh.le.trans hG2 hle))); refine jK (bts 13 8191) ?_; refine x_done (by kernel_rfl) (k_bk ?_))
   all_goals repeat' (refine jM ?_)
   all_goals exact k_rd (i + 1, av, cv, _) ⟨by dsimp only; omega, hgq.trans hle⟩ (by dsimp only; omega) (by repeat' constructor) rfl (by dsimp only; rw [hN1, hN2, hN3]; repeat (first | exact List.Sublist.refl _ | apply List.Sublist.cons_cons | apply List.Sublist.cons))
  ·obtain rfl : i = ks.length := by omega
   rw [List.take_length]
   repeat' (first | (refine jR ?_) | (refine k_ff rfl (dFf (by omega)) ?_))
   exact k_re (vs := []) rfl trivial rfl (by repeat (first | exact List.nil_sublist _ | apply List.Sublist.cons_cons)) ⟨hgq, _, _, rfl⟩
theorem c_lvRec {fs : List (Fld × V)} (htg : ∀ p ∈ fs, 0 ≤ p.1.tag ∧ p.1.tag ≤ 999999) (ih : ∀ p ∈ fs, LvI p.2) : LvI (.nd 82 [] 0 (fs.map fldV)) := by
 intro G c q n pa pc bo bu ok a m cap out hrep hn hs hq hm hto
 have hml : (fs.map fldV).length = fs.length := by simp
 have hnt : ∀ i, i < fs.length → nth (fs.map fldV) i = fldV (nth fs i) := fun i hi => by rw [nth_eq (by simpa using hi), nth_eq hi]; simp
 generalize fs.map fldV = ks at *
 obtain ⟨ka, kc, cs, rfl, hw2, ht, h61, hcl, hsl, hks⟩ := rep_inv hrep
 rw [nd_tot] at hto
 have hpc := slv_capL hs
 have hst := sizes_totL ks
 have hkl := tots_len ks
 have hsz : V.size (.nd 82 [] 0 ks) = V.sizes ks := by rw [V.size, if_neg (by simp [leafW])]
 rw [hsz, lvT_nd leafW_82 (by decide), okL_nd leafW_82 (by decide)]
 simp only [vcF, VC.sl]
 rw [show rows strF out = rows strF (out ++ lvS q (ks.take 0) 82 0) by rw [List.take_zero, lvS_nil, List.append_nil], show okO bo ok = okO bo (ok && okLs q (ks.take 0) 82 0) by rw [List.take_zero, okLs_nil, Bool.and_true]]
 clear h61 hsz
 refine m_enter [(0, _), (1, _), (2, _)] Tryz.func41 (by kernel_rfl) Tryz.ntmps41 rfl rfl (by repeat' constructor) fun B hB hW => ?_
 repeat' (first | (refine jR ?_) | (refine k_op rfl ?_; first | refine c_bx rfl rfl rfl fun _ => ?_ | refine jV (g_ld rfl rfl rfl) ?_ | (refine jV (g_pickF rfl rfl rfl) ?_) | refine jV (g_lenL rfl) ?_) | (refine k_gf rfl rfl rfl ?_) | (refine k_ff rfl rfl ?_))
 rename_i x3
 refine Nx.perm (List.perm_append_comm (l₁ := [_]) (l₂ := [_, _, _])) ?_
 dsimp only [zA, fA]
 refine k_loop (ι := Nat × Option Addr × Nat × Gh) (fun i => i.1 ≤ ks.length ∧ Gh.le G i.2.2.2) (fun i => [(1, .slice pa n pc), (2, .func (.func 42) (List.toArray []) (List.toArray [Pt bo 0, Pt bu 0])), (3, Pt x3 0), (42, .slice ka ks.length kc), (43, I ks.length), (44, I i.1)]) (fun i => i.2.2.2) (fun i => [.acc (.slice i.2.1 (m + V.sizes (ks.take i.1)) i.2.2.1) tTxI 1 (m + V.sizes (ks.take i.1)) (rows strF (out ++ lvS q (ks.take i.1) 82 0)), okO bo (ok && okLs q (ks.take i.1) 82 0), ouO bu (.slice i.2.1 (m + V.sizes (ks.take i.1)) i.2.2.1), .blk x3 (.cells (List.toArray [U8 ((82 : Nat) : Int), S [], I 0, .slice ka ks.length kc]) tValL (0, 0))]) (fun i => ks.length - i.1) (0, a, cap, G) ?_ (by repeat' constructor) rfl sRr (fun i Hi => ?_)
 ·exact ⟨Nat.zero_le _, Gh.le.refl _⟩
 obtain ⟨i, a, cap, Gq⟩ := i
 dsimp only at Hi ⊢
 obtain ⟨hi0, hgq⟩ := Hi
 by_cases hi : i < ks.length
 ·have hsq := hs.mono hgq
  have hslq := hsl.mono hgq
  have hki := hnt i (by omega)
  have hstp : stepNo 82 0 (ks.take i).length (nth ks i) = (nth fs i).1.tag := by rw [hki]; rfl
  have hsi : (nth ks i).size = (nth fs i).2.size := by rw [hki, V.size, if_neg (by simp [leafW]), V.sizes, V.sizes]; rfl
  obtain ⟨hN1, hN2, hN3⟩ := lv_next (q := q) (m := m) (out := out) (ok := ok) (st := (nth fs i).1.tag) (v := (nth fs i).2) hi ⟨by rw [hki]; exact lvT_fld, by rw [hki]; exact okL_fld, hsi⟩ hstp
  have htn : (nth fs i).2.tot + 20 ≤ V.tots ks := by
   have := tot_nth hi
   rw [hki] at this
   simp only [nd_tot, V.tots, List.length_nil] at this
   omega
  have htk1 := tots_take ks (i + 1)
  rw [take_nth hi, tots_app, hki] at htk1
  simp only [V.tots, nd_tot, List.length_nil] at htk1
  have hs1 := sizes_totL (ks.take i)
  have hlen : m + V.sizes (ks.take i) = (out ++ lvS q (ks.take i) 82 0).length := by rw [List.length_append, lvS_len, hm]
  have htag := htg _ (nth_mem (show i < fs.length by omega))
  have hrk := reps_nth (reps_mono hgq hks) i hi
  rw [hki] at hrk
  obtain ⟨kb2, ko2, kc2, dd, hxi, _, hsd, hrd, _⟩ := rep_uni hrk
  have hxd : nth [dd] 0 = dd := rfl
  have cx_lvi : ∀ G', Gh.le Gq G' → ∀ pa' pc', SlV G' (.slice pa' (n + 1) pc') 1 (n + 1) (rows strF (q.map decI) ++ [S (decI (nth fs i).1.tag)]) → FnM Tryz.prog 41 [Ag (vcF dd), .slice pa' (n + 1) pc', .func (.func 42) (List.toArray []) (List.toArray [Pt bo 0, Pt bu 0])] G' [.acc (.slice a (m + V.sizes (ks.take i)) cap) tTxI 1 (m + V.sizes (ks.take i)) (rows strF (out ++ lvS q (ks.take i) 82 0)), okO bo (ok && okLs q (ks.take i) 82 0), ouO bu (.slice a (m + V.sizes (ks.take i)) cap)]
    (fun _ _ L' => ∃ a' cap', L' = [.acc (.slice a' (m + V.sizes (ks.take i) + (nth fs i).2.size) cap') tTxI 1 (m + V.sizes (ks.take i) + (nth fs i).2.size) (rows strF (out ++ lvS q (ks.take i) 82 0 ++ lvT (q ++ [(nth fs i).1.tag]) (nth fs i).2)), okO bo (ok && okLs q (ks.take i) 82 0 && okL (q ++ [(nth fs i).1.tag]) (nth fs i).2), ouO bu (.slice a' (m + V.sizes (ks.take i) + (nth fs i).2.size) cap')]) := fun G' hG' pa' pc' hs' => ih _ (nth_mem (by omega)) G' dd (q ++ [(nth fs i).1.tag]) (n + 1) pa' pc' bo bu _ a _ cap _ (rep_mono hG' hrd) (by simp [hn]) (by rw [rows_q]; exact hs') (snoc_in hq htag) hlen ⟨by omega, by omega⟩
  obtain ⟨kb, ko, kcc, e, hsx⟩ := hslq.expl (by omega)
  simp only [Value.slice.injEq] at e
  obtain ⟨rfl, -, rfl⟩ := e
  repeat' (first | (refine jR ?_) | (refine k_op rfl ?_; first | refine jV (g_ld rfl rfl rfl) ?_ | (refine jV (g_ldRx rfl rfl (by assumption) ?_ (by assumption)) ?_; (focus ((omega); done))) | (refine jV (g_iaddrN rfl rfl (by omega)) ?_) | refine c_al rfl rfl fun _ => ?_ | refine c_stA rfl rfl rfl rfl rfl rfl ?_) | (refine k_tt rfl (by first | rfl | (refine decide_eq_true ?_; (omega))) ?_) | (refine k_ff rfl rfl ?_))
  rename_i x7
  simp only [vcF, VC.sl] at cx_lvi
  dsimp only [vcF, VC.sl]
  (refine k_any (s_any (id := 11) [] (fun _ h => absurd h (by simp)) mixed ?_); refine jU 6 [0, 2] (bts 8 5) ?_ ?_; (focus (repeat' (exact trivial))); refine x_all [1, 3] (by kernel_rfl) (by decide) ⟨?_, ?_, trivial⟩; (focus (refine x_opg rfl rfl ?_; (refine jV (g_ld rfl rfl rfl) ?_); refine jK (bts 8 7) ?_; refine jU 4 [6] (bts 8 71) ?_ ?_; (focus (repeat' (exact trivial))); refine jA 3 rfl ?_; (refine jV (g_ld rfl rfl rfl) ?_); refine jK (bts 8 79) ?_; ((refine jG (bts 8 95) 4 rfl (g_iaddr rfl rfl ?_) ?_; (focus ((omega); done)))); ((refine jG (bts 8 127) 5 rfl (g_ldRx rfl rfl (by assumption) ?_ (by assumption)) ?_; (focus ((simp only [List.length_append, List.length_cons, List.length_nil, List.length_take]; omega); done)))); refine jA 7 rfl ?_; (refine c_stA rfl rfl rfl rfl rfl rfl ?_); refine jK (bts 8 255) ?_; refine x_done (by kernel_rfl) (k_bk ?_))); rotate_left 1; (focus (refine x_opg rfl rfl ?_; (refine jV (g_ld rfl rfl rfl) ?_); refine jK (bts 8 13) ?_; ((refine jG (bts 8 29) 4 rfl (g_iaddr rfl rfl ?_) ?_; (focus ((omega); done)))); ((refine jG (bts 8 61) 5 rfl (g_ldRx rfl rfl (by assumption) ?_ (by assumption)) ?_; (focus ((simp only [List.length_append, List.length_cons, List.length_nil, List.length_take]; omega); done)))); refine jA 1 rfl ?_; (refine jV (g_ld rfl rfl rfl) ?_); refine jK (bts 8 63) ?_; refine jU 1 [6] (bts 8 127) ?_ ?_; (focus (repeat' (exact trivial))); refine jA 7 rfl ?_; (refine c_stA rfl rfl rfl rfl rfl rfl ?_); refine jK (bts 8 255) ?_; refine x_done (by kernel_rfl) (k_bk ?_))); rotate_left 1)
  all_goals repeat' (refine jR ?_)
  all_goals dsimp only [vcF, VC.sl]
  all_goals (refine k_any (s_any (id := 12) [.blk x7 (.cells (List.toArray [U8 (dd.what : Int), S dd.text, I dd.tag, .slice dd.a dd.n dd.c]) tValL (0, 0))] (by intro y hy; simp only [List.mem_cons, List.not_mem_nil, or_false] at hy ⊢; simp [hy]) mixed ?_); refine jU 8 [1, 2, 4, 7, 11] (bts 13 2198) ?_ ?_; (focus (repeat' (exact trivial))); (refine jG (bts 13 2199) 0 rfl (g_ldA rfl rfl rfl rfl) ?_); (refine jG (bts 13 2207) 3 rfl (g_lenL rfl) ?_); (refine jG (bts 13 2239) 5 rfl (g_lenL rfl) ?_); ((refine jG (bts 13 2303) 6 rfl (g_sl3 rfl rfl rfl ?_) ?_; (focus ((omega); done)))); refine jA 8 rfl ?_; (refine c_rt rfl rfl rfl (c_decimalN (by omega)) rfl ?_); refine jK (bts 13 2559) ?_; refine jA 9 rfl ?_; (refine c_bsl rfl rfl rfl rfl rfl rfl fun _ => ?_); refine jK (bts 13 3071) ?_; refine jA 10 rfl ?_; ((refine c_apC rfl rfl (by assumption) rfl rfl rfl rfl rfl rfl rfl rfl ?_ fun _ _ G2 hG2 hpth => ?_; (focus ((omega); done)))); refine jK (bts 13 4095) ?_; refine jA 12 rfl ?_; ((refine c_m3s rfl rfl rfl ((cx_lvi _) (by (repeat (assumption)); done) _ _ (by (repeat (assumption)); done)) rfl ?_; rintro _ G1 _ hle ⟨av, cv, rfl⟩; dsimp only [zA, fA]; (have hle := Gh.le.trans hG2 hle))); refine jK (bts 13 8191) ?_; refine x_done (by kernel_rfl) (k_bk ?_))
  all_goals repeat' (refine jM ?_)
  all_goals exact k_rd (i + 1, av, cv, _) ⟨by dsimp only; omega, hgq.trans hle⟩ (by dsimp only; omega) (by repeat' constructor) rfl (by dsimp only; rw [hN1, hN2, hN3]; repeat (first | exact List.Sublist.refl _ | apply List.Sublist.cons_cons | apply List.Sublist.cons))
 ·obtain rfl : i = ks.length := by omega
  rw [List.take_length]
  repeat' (first | (refine jR ?_) | (refine k_ff rfl (dFf (by omega)) ?_))
  exact k_re (vs := []) rfl trivial rfl (by repeat (first | exact List.nil_sublist _ | apply List.Sublist.cons_cons)) ⟨hgq, _, _, rfl⟩
theorem c_leavesI {ts : List Ty} (hw : SchW ts) {k : List UInt8} {v : V} (h : OfK ts k v) : LvI v := by
 induction h with
 | num k m h1 h2 => exact c_lvLeaf (.inl rfl)
 | txt k x h1 => exact c_lvLeaf (.inr (.inl rfl))
 | flg k x h1 => exact c_lvLeaf (.inr (.inr (.inl rfl)))
 | lst k ks h1 h2 ih => exact c_lvKids (.inl rfl) (by omega) ih
 | non k => exact c_lvLeaf (.inr (.inr (.inr (.inr rfl))))
 | opt k v h1 ih => exact c_lvKids (.inr (.inl ⟨rfl, by simp⟩)) (by simp) (fun u hu => by simp only [List.mem_singleton] at hu; subst hu; exact ih)
 | recd k t fs h1 h2 h3 h4 h5 h6 ih =>
  have hTW := hw.ty t (refT_mem h1)
  refine c_lvRec (fun p hp => ?_) ih
  have := (hTW.fld _ (h3 p hp)).tag
  omega
 | enm k t d h1 h2 h3 => exact c_lvLeaf (.inr (.inr (.inr (.inl rfl))))
 | uni k t d v h1 h2 h3 h4 h5 ih => exact c_lvKids (.inr (.inr rfl)) (by simp) (fun u hu => by simp only [List.mem_singleton] at hu; subst hu; exact ih)
theorem c_PathLeavesI {s k w : List UInt8} (h : s.length ≤ 1048576 ∧ k.length ≤ 1048576 ∧ w.length ≤ 1048576) : FnS Tryz.prog 14 [S s, S k, S w] G (fun v G' => ∃ a c ls, v = Tu [.slice a ls.length c, Bo (leavesV s k w).isSome] ∧ SlV G' (.slice a ls.length c) 1 ls.length (rows strF ls) ∧ (∀ l, leavesV s k w = some l → ls = l) ∧ (leavesV s k w = none → ls = [])) := by
 unfold leavesV
 cases hg : givenV s k w with
 | none =>
  have cx_gi0 := c_given0 (G := G) h hg
  refine jB [(0, _), (1, _), (2, _)] Tryz.func14 Tryz.ntmps14 fun B hok hB hW => ?_
  repeat' (first | (refine jR ?_) | (refine k_op rfl ?_; first | refine c_al rfl rfl fun _ => ?_ | refine c_st1 rfl rfl rfl rfl ?_ | refine c_stA rfl rfl rfl rfl rfl rfl ?_ | refine jV (g_ld rfl rfl rfl) ?_ | (refine c_fns rfl rfl rfl cx_gi0 rfl ?_; rintro _ G hle ⟨p1, a1, b1, c1, rfl⟩; skip)) | (refine k_tt rfl rfl ?_))
  refine jZ (vs := [_, _]) rfl ⟨rfl, rfl, trivial⟩ rfl ⟨hle, rfl, ?_⟩
  exact ⟨_, _, [], rfl, SlV.nil0, fun l h => (by cases h), fun _ => rfl⟩
 | some u =>
  obtain ⟨ts, hs, hki, hvo, hto, hwf⟩ := given_some hg
  have hw := schemaOf_w hs
  have hof := valOf_of_k hvo
  have cx_gi1 := c_given1 (G := G) h hs hki hvo
  have hsz := size_totL u
  dsimp only
  refine jB [(0, _), (1, _), (2, _)] Tryz.func14 Tryz.ntmps14 fun B hok hB hW => ?_
  repeat' (first | (refine jR ?_) | (refine k_op rfl ?_; first | refine c_al rfl rfl fun _ => ?_ | refine c_st1 rfl rfl rfl rfl ?_ | refine c_stA rfl rfl rfl rfl rfl rfl ?_ | refine jV (g_ld rfl rfl rfl) ?_ | refine jV (g_ldA rfl rfl rfl rfl) ?_ | refine jV (g_mkf rfl rfl) ?_ | (refine c_fns rfl rfl rfl cx_gi1 rfl ?_; rintro _ G hle ⟨bg, qg, cv, rfl, hTg, hRg, hrv⟩; skip)) | (refine k_ff rfl rfl ?_))
  rename_i x9 x10 x11 x12
  refine Nx.addNil tTxI 1 ?_
  have hlv := c_leavesI hw hof G cv [] 0 none 0 x11 x12 true none 0 0 [] hrv rfl SlV.nil0 (by simp) rfl ⟨by omega, by omega⟩
  have hle0 := hle
  refine k_op rfl ?_
  refine c_m3s rfl rfl rfl hlv rfl ?_
  rintro _ G1 _ hle1 ⟨av, cv2, rfl⟩
  dsimp only [zA, fA]
  rw [Nat.zero_add]
  have hoL : okL [] u = u.leaves.all fun r => decide (r.length ≤ 8) := rfl
  rw [← hoL]
  have hll : (lvT [] u).length = u.size := lvT_len
  clear hlv
  cases hok8 : okL [] u with
  | false =>
   rw [Bool.and_false]
   repeat' (first | (refine jR ?_) | (refine k_op rfl ?_; (refine jV (g_ld rfl rfl rfl) ?_)) | (refine k_tt rfl rfl ?_))
   refine jZ (vs := [_, _]) rfl ⟨rfl, rfl, trivial⟩ rfl ⟨(hle0.trans hle1), rfl, ?_⟩
   exact ⟨_, _, [], rfl, SlV.nil0, fun l h => (by cases h), fun _ => rfl⟩
  | true =>
   rw [Bool.and_true]
   repeat' (first | (refine jR ?_) | (refine k_op rfl ?_; (refine jV (g_ld rfl rfl rfl) ?_)) | (refine k_ff rfl rfl ?_))
   refine Nx.sealS (v := .slice av u.size cv2) fun G2 hG2 hsl => ?_
   refine jZ (vs := [_, _]) rfl ⟨rfl, rfl, trivial⟩ rfl ⟨(hle0.trans (hle1.trans hG2)), rfl, ?_⟩
   rw [← hll] at hsl ⊢
   exact ⟨_, _, lvT [] u, rfl, hsl, fun l h => by simpa using h, fun h => (by cases h)⟩
theorem c_DrawPathLeaves {v : Value} {l : List UInt8} (hs : SlV G v 1 l.length (u8s l)) : PuG Tryz.prog 15 [v] G (fun r => ∃ s k x, r = Tu [S s, S k, S x] ∧ s.length ≤ 1048576 ∧ k.length ≤ 1048576 ∧ x.length ≤ 1048576) := by
 refine jE [(0, _)] Tryz.func15 Tryz.ntmps15 fun B hB => ?_
 repeat' (first | (refine jR ?_) | (refine k_op rfl ?_; first | (refine c_fng rfl rfl rfl (c_l6Open (by (repeat (assumption)); done)) rfl ?_; rintro _ _ ⟨b, code, l, rfl, rfl, hcd, hcl⟩; dsimp only [zA, fA]) | (refine c_m1g rfl rfl rfl (c_l91Three ?_ (by (repeat (assumption)); done)) rfl ?_; (focus ((omega); done)); rintro _ _ ⟨sc, kd, tx, q1, rfl, ⟨hsc, hkd, htx⟩, rfl, hq1, hq2⟩; dsimp only [zA, fA])))
 exact jZ (vs := [_, _, _]) rfl ⟨rfl, rfl, rfl, trivial⟩ rfl ⟨rfl, rfl, _, _, _, rfl, by omega, by omega, by omega⟩
theorem leaf_law {s k w : List UInt8} {ls : List (List UInt8)} (h : leavesV s k w = some ls) : ∀ i, i < ls.length → ∃ k1 x1, pathGetV s k w (nth ls i) = some (k1, x1) ∧ sizeV s k1 x1 = 1 := fun i hi => by
 unfold leavesV at h
 cases hg : givenV s k w with
 | none => rw [hg] at h; cases h
 | some u =>
  rw [hg] at h
  dsimp only at h
  split at h
  ·rename_i hall
   simp only [Option.some.injEq] at h
   subst h
   obtain ⟨ts, hs, hki, hvo, hto, hwf⟩ := given_some hg
   have hw := schemaOf_w hs
   have ho := valOf_of_k hvo
   have hi2 : i < u.leaves.length := by simpa [lvT] using hi
   obtain ⟨hn, k', u1, hf, hsz⟩ := leaves_ok hw ho _ (nth_mem hi2)
   rw [List.all_eq_true] at hall
   have h8 := of_decide_eq_true (hall _ (nth_mem hi2))
   have hq0 : ∀ n ∈ nth u.leaves i, 0 ≤ n := fun n hn' => (hn n hn').1
   obtain ⟨c1, c2⟩ := followV_ok hw ho hki hq0 hf
   obtain ⟨d1, d2, d3⟩ := valOf_out hvo
   obtain ⟨e1, e2⟩ := followV_fits hw ho hki hq0 hf d3 (by rw [d1]; exact d2)
   have hp : pathOf (nth (lvT [] u) i) = some (nth u.leaves i) := by rw [lvT_nth hi2, pathOf_in hn, if_pos h8]
   refine ⟨k', u1.out, pgv_in hs hg hp hf, ?_⟩
   unfold sizeV
   rw [given_in hs c2 (valOf_in hw c1 e2 e1)]
   dsimp only
   rw [hsz]; rfl
  ·cases h
theorem c_wfTexts {a1 a2 : Option Addr} {c1 c2 : Nat} {ls : List (List UInt8)} (h1 : SlV G (.slice a1 ls.length c1) 1 ls.length (rows strF ls)) (h2 : SlV G (.slice a2 ls.length c2) 1 ls.length (rows strF ls)) (hl : ls.length ≤ 1000000) : PuG Tryz.prog 17 [.slice a1 ls.length c1, .slice a2 ls.length c2] G (· = Bo true) := by
 by_cases hne : ls.length = 0
 ·refine jE [(0, _), (1, _)] Tryz.func17 Tryz.ntmps17 fun B hB => ?_
  repeat' (first | (refine jR ?_) | (refine k_op rfl ?_; (refine jV (g_lenL rfl) ?_)) | (refine k_ff rfl (dFf (by omega)) ?_))
  refine k_loop (ι := Unit) (fun i => True) (fun i => [(0, .slice a1 ls.length c1), (1, .slice a2 ls.length c2), (5, I 0)]) (fun _ => G) (fun i => []) (fun i => 0) () ?_ (by repeat' constructor) rfl sRr (fun i Hi => ?_)
  ·trivial
  repeat' (first | (refine jR ?_) | (refine k_op rfl ?_; (refine jV (g_lenL rfl) ?_)) | (refine k_ff rfl (dFf (by omega)) ?_))
  refine jZ (vs := [_]) rfl ⟨rfl, trivial⟩ rfl ⟨rfl, rfl, ?_⟩
  rfl
 obtain ⟨b1, o1, d1, e1, hs1⟩ := h1.expl (by omega)
 simp only [Value.slice.injEq] at e1
 obtain ⟨rfl, -, rfl⟩ := e1
 obtain ⟨b2, o2, d2, e2, hs2⟩ := h2.expl (by omega)
 simp only [Value.slice.injEq] at e2
 obtain ⟨rfl, -, rfl⟩ := e2
 refine jE [(0, _), (1, _)] Tryz.func17 Tryz.ntmps17 fun B hB => ?_
 repeat' (first | (refine jR ?_) | (refine k_op rfl ?_; (refine jV (g_lenL rfl) ?_)) | (refine k_ff rfl (dFf (by omega)) ?_))
 refine k_loop (ι := Nat) (fun i => i ≤ ls.length) (fun i => [(0, .slice (some ⟨b1, o1, none⟩) ls.length c1), (1, .slice (some ⟨b2, o2, none⟩) ls.length c2), (5, I i)]) (fun _ => G) (fun i => []) (fun i => ls.length - i) 0 ?_ (by repeat' constructor) rfl sRr (fun i Hi => ?_)
 ·exact Nat.zero_le _
 by_cases hi : i < ls.length
 ·repeat' (first | refine jM ?_ | (refine k_op rfl ?_; (refine jV (g_lenL rfl) ?_)) | (refine k_tt rfl (dTt (by omega)) ?_) | (refine k_ff rfl ?_ ?_; (focus ((simp [*]; done); done))) | (refine k_any (s_any (id := 6) _ (fun _ h => h) mixed ?_); refine jT 5 [0, 1, 4, 5] (bts 9 51) ?_; (refine jG (bts 9 55) 2 rfl (g_iaddrN rfl rfl (by omega)) ?_); ((refine jG (bts 9 63) 3 rfl (g_ldRS rfl rfl (by assumption) ?_) ?_; (focus ((omega); done)))); (refine jG (bts 9 127) 6 rfl (g_iaddrN rfl rfl (by omega)) ?_); ((refine jG (bts 9 255) 7 rfl (g_ldRS rfl rfl (by assumption) ?_) ?_; (focus ((omega); done)))); refine jT 0 [8] (bts 9 511) ?_; refine x_done (by kernel_rfl) (k_bk ?_)))
  exact k_rd (i + 1) (by omega) (by omega) (by repeat' constructor) rfl sRr
 ·repeat' (first | (refine jR ?_) | (refine k_op rfl ?_; (refine jV (g_lenL rfl) ?_)) | (refine k_ff rfl (dFf (by omega)) ?_))
  refine jZ (vs := [_]) rfl ⟨rfl, trivial⟩ rfl ⟨rfl, rfl, ?_⟩
  rfl
theorem c_FnPathLeaves {v : Value} {l : List UInt8} (hs : SlV G v 1 l.length (u8s l)) : PuG Tryz.prog 5 [v] G (· = Bo true) := by
 obtain ⟨a, cap, rfl⟩ := hs.sl
 refine jB (Post := fun v G' L' => G' = G ∧ L' = [] ∧ _) [(0, _)] Tryz.func5 Tryz.ntmps5 fun B hok hB hW => ?_
 repeat' (first | (refine jR ?_) | (refine k_op rfl ?_; first | refine jV (g_lenL rfl) ?_ | (refine c_pu rfl rfl rfl (c_DrawPathLeaves (by (repeat (assumption)); done)) rfl ?_; rintro _ ⟨s1, k1, x1, rfl, hsz⟩)) | refine k_if rfl (fun _ => ?_) (fun _ => ?_))
 ·refine Nx.base hok hB ?_
  refine jZ (vs := [_]) rfl ⟨rfl, trivial⟩ rfl ⟨rfl, rfl, ?_⟩
  rfl
 cases h : leavesV s1 k1 x1 with
 | none =>
  have cx_pli1 : FnS Tryz.prog 14 [S s1, S k1, S x1] G (fun v G' => ∃ a c, v = Tu [.slice a ([] : List (List UInt8)).length c, Bo false] ∧ SlV G' (.slice a ([] : List (List UInt8)).length c) 1 ([] : List (List UInt8)).length (rows strF [])) := (c_PathLeavesI hsz).mono fun v G' L' ⟨g1, g2, a, c, ls', g3, g4, g5, g6⟩ => by
   obtain rfl := g6 h
   exact ⟨g1, g2, a, c, by rw [g3, h]; rfl, g4⟩
  repeat' (first | (refine jR ?_) | (refine k_op rfl ?_; (refine c_fns rfl rfl rfl cx_pli1 rfl ?_; rintro _ G hle ⟨pa1, pc1, rfl, hlvs⟩; skip)))
  have hA := hlvs
  have hle0 := hle
  have cx_plu2 : FnS Tryz.prog 16 [S s1, S k1, S x1] G (fun v G' => ∃ a c, v = Tu [.slice a ([] : List (List UInt8)).length c, Bo false] ∧ SlV G' (.slice a ([] : List (List UInt8)).length c) 1 ([] : List (List UInt8)).length (rows strF [])) := (c_PathLeavesS hsz).mono fun v G' L' ⟨g1, g2, a, c, ls', g3, g4, g5, g6⟩ => by
   obtain rfl := g6 h
   exact ⟨g1, g2, a, c, by rw [g3, h]; rfl, g4⟩
  repeat' (first | (refine jR ?_) | (refine k_op rfl ?_; (refine c_fns rfl rfl rfl cx_plu2 rfl ?_; rintro _ G hle ⟨pa2, pc2, rfl, hlv2⟩; skip)))
  have cx_wft := c_wfTexts (hA.mono hle) hlv2 (by simp)
  repeat' (first | (refine jR ?_) | (refine k_op rfl ?_; first | (refine jV (g_pickT rfl rfl rfl) ?_) | (refine jV (g_pickF rfl rfl rfl) ?_) | (refine c_rt rfl rfl rfl cx_wft rfl ?_)) | (refine k_gt rfl rfl rfl ?_) | (refine k_gf rfl rfl rfl ?_) | (refine k_tt rfl rfl ?_))
  all_goals refine Nx.base hok hB ?_
  all_goals refine jZ (vs := [_]) rfl ⟨rfl, trivial⟩ rfl ⟨rfl, rfl, ?_⟩
  all_goals (rfl)
 | some ls =>
  have hcnt := leavesV_cnt h
  have hlen := leavesV_len h
  have hlaw := leaf_law h
  have cx_pli1 : FnS Tryz.prog 14 [S s1, S k1, S x1] G (fun v G' => ∃ a c, v = Tu [.slice a ls.length c, Bo true] ∧ SlV G' (.slice a ls.length c) 1 ls.length (rows strF ls)) := (c_PathLeavesI hsz).mono fun v G' L' ⟨g1, g2, a, c, ls', g3, g4, g5, g6⟩ => by
   obtain rfl := g5 ls h
   exact ⟨g1, g2, a, c, by rw [g3, h]; rfl, g4⟩
  repeat' (first | (refine jR ?_) | (refine k_op rfl ?_; (refine c_fns rfl rfl rfl cx_pli1 rfl ?_; rintro _ G hle ⟨pa1, pc1, rfl, hlvs⟩; skip)))
  have hA := hlvs
  have cx_plu2 : FnS Tryz.prog 16 [S s1, S k1, S x1] G (fun v G' => ∃ a c, v = Tu [.slice a ls.length c, Bo true] ∧ SlV G' (.slice a ls.length c) 1 ls.length (rows strF ls)) := (c_PathLeavesS hsz).mono fun v G' L' ⟨g1, g2, a, c, ls', g3, g4, g5, g6⟩ => by
   obtain rfl := g5 ls h
   exact ⟨g1, g2, a, c, by rw [g3, h]; rfl, g4⟩
  repeat' (first | (refine jR ?_) | (refine k_op rfl ?_; (refine c_fns rfl rfl rfl cx_plu2 rfl ?_; rintro _ G hle ⟨pa2, pc2, rfl, hlv2⟩; skip)))
  have cx_wft := c_wfTexts (hA.mono hle) hlv2 (by omega)
  have hA1 := hA.mono hle
  repeat' (first | (refine jR ?_) | (refine k_op rfl ?_; first | (refine jV (g_pickT rfl rfl rfl) ?_) | (refine jV (g_pickF rfl rfl rfl) ?_) | (refine c_rt rfl rfl rfl cx_wft rfl ?_)) | (refine k_gt rfl rfl rfl ?_) | (refine k_gf rfl rfl rfl ?_) | (refine k_ff rfl rfl ?_))
  refine k_loop (ι := Nat) (fun i => i ≤ ls.length) (fun i => [(3, S s1), (4, S k1), (5, S x1), (6, .slice pa1 ls.length pc1), (11, I i)]) (fun _ => G) (fun i => []) (fun i => ls.length - i) 0 ?_ (by repeat' constructor) rfl sRr (fun i Hi => ?_)
  ·exact Nat.zero_le _
  by_cases hi : i < ls.length
  ·obtain ⟨xb, xo, xc, e, hsx⟩ := hA1.expl (by omega)
   simp only [Value.slice.injEq] at e
   obtain ⟨rfl, -, rfl⟩ := e
   have hxi : nth ls i = nth ls i := rfl
   have hli := hlen i hi
   obtain ⟨kk, xx, hl1, hl2⟩ := hlaw i hi
   have cx_pg1 := c_PathGetI (G := G) (s := s1) (k := k1) (w := x1) (p := nth ls i) ⟨hsz.1, hsz.2.1, hsz.2.2, by omega⟩
   have hpl := pgv_len (s := s1) (k := k1) (w := x1) (p := nth ls i)
   rw [hl1] at cx_pg1 hpl
   unfold pgR at cx_pg1
   simp only [Option.map_some, Option.getD_some, Option.isSome_some] at cx_pg1 hpl
   have cx_vs2 := c_ValueSizeI (G := G) (s := s1) (k := kk) (w := xx) ⟨hsz.1, by omega, by omega⟩
   rw [hl2] at cx_vs2
   repeat' (first | refine jM ?_ | (refine k_op rfl ?_; first | refine jV (g_lenL rfl) ?_ | (refine jV (g_pickF rfl rfl rfl) ?_) | (refine jV (g_iaddrN rfl rfl (by omega)) ?_) | (refine jV (g_ldRS rfl rfl (by assumption) ?_) ?_; (focus ((omega); done))) | (refine c_rt rfl rfl rfl cx_pg1 rfl ?_) | (refine c_rt rfl rfl rfl cx_vs2 rfl ?_)) | (refine k_gf rfl rfl rfl ?_) | (refine k_tt rfl (dTt (by omega)) ?_) | (refine k_ff rfl rfl ?_))
   exact k_rd (i + 1) (by omega) (by omega) (by repeat' constructor) rfl sRr
  ·repeat' (first | (refine jR ?_) | (refine k_op rfl ?_; (refine jV (g_lenL rfl) ?_)) | (refine k_ff rfl (dFf (by omega)) ?_))
   all_goals refine Nx.base hok hB ?_
   all_goals refine jZ (vs := [_]) rfl ⟨rfl, trivial⟩ rfl ⟨rfl, rfl, ?_⟩
   all_goals rfl
end Go.E
