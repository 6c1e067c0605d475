/- Contracts and plain laws that the statement rests on, part 6. Conditions: as each says. -/
import Derived.Test.YtifffndbgheghaaGreatDoorZ5
import Derived.Test.YtifffndbgheghaaGreatDoorZ2
import Derived.OpenShut
import Derived.ChangeArms
import Derived.DataReads
set_option linter.unusedVariables false
set_option linter.unusedSimpArgs false
/-! Og -/
namespace Go.E
set_option maxRecDepth 20000
set_option maxHeartbeats 2000000
open Go.Proofs
variable {G : Gh}
abbrev tPi : TypeId := 130
instance : PK Tryz.prog tPi := PK.mk' (N := Tryz.prog.types.size - 1) (st := 9) (fs := flds Tryz.prog tPi) (by kernel_rfl) (by kernel_rfl) (by kernel_rfl) (by kernel_rfl) (by kernel_rfl) (by kernel_rfl) (by kernel_rfl) (by kernel_rfl) (by kernel_rfl) (by kernel_rfl) (by kernel_rfl) (by kernel_rfl)
def AskI (mb : Nat) (r : Bool × List Pr) (v : Value) (L' : List Own) : Prop := v = Bo r.1 ∧ L' = [.blk mb (mapP r.2)]
abbrev KindsI (G : Gh) (eb mb : Nat) (ts us : List Ty) (n : Nat) : Prop := ∀ (k1 k2 : List UInt8) (m : List Pr), AskW ts us m → ts.length * us.length < m.length + n → kindIn ts k1 = true → kindIn us k2 = true →
  FnG Tryz.prog 40 [Pt eb 0, Ag [S (sg k1), S (bs k1), S (nm k1)], Ag [S (sg k2), S (bs k2), S (nm k2)]] G [.blk mb (mapP m)] (AskI mb (evoK ts us n k1 k2 m))
abbrev LoopI (t u : Ty) (ts us : List Ty) (kk : List UInt8 → List UInt8 → List Pr → Bool × List Pr) (m : List Pr) (i : Nat × List Pr) : Prop :=
  (i.1 ≤ u.fields.length ∧ m.length ≤ i.2.length) ∧ AskW ts us i.2 ∧ evoF ts us kk t u (u.fields.drop i.1) i.2 = evoF ts us kk t u u.fields m
theorem c_typesI {eb mb ba bb n : Nat} {qs rs : List TyP} (hE : Seg G eb 0 [Pt ba 0, Pt bb 0, .map (some mb)]) (h1 : ScI G ba qs) (h2 : ScI G bb rs) (w1 : SchW (tyq qs)) (w2 : SchW (tyq rs)) (ih : KindsI G eb mb (tyq qs) (tyq rs) n)
    {x y : TyP} (hx : x ∈ qs) (hy : y ∈ rs) {m : List Pr} (hm : AskW (tyq qs) (tyq rs) m) (hf : (tyq qs).length * (tyq rs).length < m.length + (n + 1)) :
    FnG Tryz.prog 59 [Pt eb 0, Pt x.1 0, Pt y.1 0] G [.blk mb (mapP m)] (AskI mb (evoP (tyq qs) (tyq rs) (evoK (tyq qs) (tyq rs) n) x.2 y.2 m)) := by
  have hxt : x.2 ∈ tyq qs := List.mem_map_of_mem hx
  have hyt : y.2 ∈ tyq rs := List.mem_map_of_mem hy
  have hfx := h1.ty _ hx
  have hfy := h2.ty _ hy
  have W1 := w1.ty _ hxt
  have W2 := w2.ty _ hyt
  have hps := hm.names w1 w2
  obtain ⟨p1, t⟩ := x
  obtain ⟨p2, u⟩ := y
  dsimp only at hxt hyt hfx hfy W1 W2 ⊢
  obtain ⟨fv1, ln1, s1, f1⟩ := hfx
  obtain ⟨fv2, ln2, s2, f2⟩ := hfy
  have fl1 := W1.len
  have fl2 := W2.len
  have nl1 := isNm_len W1.name
  have nl2 := isNm_len W2.name
  have hb : (t.name.length ≤ 1000000 ∧ u.name.length ≤ 1000000) ∧ PsW m := ⟨⟨by omega, by omega⟩, hps⟩
  unfold evoP
  by_cases hmem : (t.name, u.name) ∈ m
  · rw [if_pos hmem]
    refine g_enter [(0, _), (1, _), (2, _)] Tryz.func59 (by kernel_rfl) Tryz.ntmps59 rfl rfl (by repeat (first | exact trivial | refine ⟨rfl, ?_⟩)) fun B hB hW => ?_
    repeat' (first | (refine run (t := tb) 400 rfl ?_ ?_; (focus (repeat' ((exact trivial))))) | (refine k_tt rfl ?_ ?_; (focus (((refine decide_eq_true ?_; (assumption))); done))) | (refine k_any (s_any (id := 1) _ (fun _ h => h) mixed ?_); refine x_tks (t := tb) (fuel := 5) [0, 1, 2, 4, 5, 6] (bts 11 119) (by kernel_rfl) (by kernel_rfl) rfl rfl (Gh.le.refl _) (by repeat ((exact List.Sublist.refl _))) ?_ ?_; (focus (repeat' ((exact trivial)))); ((refine (x_tkg (bts 11 127) 3 rfl (by kernel_rfl) rfl (Gh.le.refl _) (by repeat ((exact List.Sublist.refl _)))) (g_ldS rfl rfl (by assumption) rfl rfl) rfl rfl ?_)); ((refine (x_tkg (bts 11 255) 7 rfl (by kernel_rfl) rfl (Gh.le.refl _) (by repeat ((exact List.Sublist.refl _)))) (g_ldS rfl rfl (by assumption) rfl rfl) rfl rfl ?_)); ((refine (x_tkg (bts 11 511) 8 rfl (by kernel_rfl) rfl (Gh.le.refl _) (by repeat ((exact List.Sublist.refl _)))) (g_bld rfl rfl) rfl rfl ?_)); refine x_all [9] (by kernel_rfl) (by decide) ⟨?_, trivial⟩; refine x_opg rfl rfl ?_; ((refine c_al rfl rfl fun _ => ?_)); refine x_kk (by (exact Gh.le.refl _)) (by repeat (first | exact List.Sublist.refl _ | apply List.Sublist.cons)) (listed' := (bts 11 1023)) (by kernel_rfl) ?_; refine x_all [10] (by kernel_rfl) (by decide) ⟨?_, trivial⟩; refine x_opg rfl rfl ?_; ((refine c_stA rfl rfl rfl rfl rfl rfl ?_)); refine x_kk (by (exact Gh.le.refl _)) (by repeat (first | exact List.Sublist.refl _ | apply List.Sublist.cons)) (listed' := (bts 11 2047)) (by kernel_rfl) ?_; refine x_done (by kernel_rfl) (k_bk ?_)) | (refine k_any (s_any (id := 2) _ (fun _ h => h) mixed ?_); refine x_tks (t := tb) (fuel := 3) [0, 1, 2] (bts 6 7) (by kernel_rfl) (by kernel_rfl) rfl rfl (Gh.le.refl _) (by repeat ((exact List.Sublist.refl _))) ?_ ?_; (focus (repeat' ((exact trivial)))); ((refine (x_tkg (bts 6 15) 3 rfl (by kernel_rfl) rfl (Gh.le.refl _) (by repeat ((exact List.Sublist.refl _)))) (g_ldS rfl rfl (by assumption) rfl rfl) rfl rfl ?_)); ((refine (x_tkg (bts 6 31) 4 rfl (by kernel_rfl) rfl (Gh.le.refl _) (by repeat ((exact List.Sublist.refl _)))) (g_ldA rfl rfl rfl rfl) rfl rfl ?_)); ((refine (x_tkg (bts 6 63) 5 rfl (by kernel_rfl) rfl (Gh.le.refl _) (by repeat ((exact List.Sublist.refl _)))) (g_lookP rfl rfl MapIP.mem ?_) rfl rfl ?_; (focus ((assumption); done)))); refine x_done (by kernel_rfl) (k_bk ?_)))
    all_goals exact k_rr (vs := [_]) (L' := [.blk mb (mapP m)]) rfl ⟨rfl, trivial⟩ rfl (by repeat (first | exact List.Sublist.refl _ | apply List.Sublist.cons)) ⟨rfl, rfl, rfl⟩
  rw [if_neg hmem]
  unfold evoT
  have hm' := hm.snoc hxt hyt hmem
  have hf' : (tyq qs).length * (tyq rs).length < (m ++ [(t.name, u.name)]).length + n := by simp only [List.length_append, List.length_cons, List.length_nil]; omega
  by_cases hs : t.sort = u.sort
  case neg =>
    rw [if_pos hs]
    
    refine g_enter [(0, _), (1, _), (2, _)] Tryz.func59 (by kernel_rfl) Tryz.ntmps59 rfl rfl (by repeat (first | exact trivial | refine ⟨rfl, ?_⟩)) fun B hB hW => ?_
    repeat' ((refine run (t := tb) 400 rfl ?_ ?_; (focus (repeat' ((exact trivial))))))
    (refine k_any (s_any (id := 1) _ (fun _ h => h) mixed ?_); refine x_tks (t := tb) (fuel := 5) [0, 1, 2, 4, 5, 6] (bts 11 119) (by kernel_rfl) (by kernel_rfl) rfl rfl (Gh.le.refl _) (by repeat ((exact List.Sublist.refl _))) ?_ ?_; (focus (repeat' ((exact trivial)))); ((refine (x_tkg (bts 11 127) 3 rfl (by kernel_rfl) rfl (Gh.le.refl _) (by repeat ((exact List.Sublist.refl _)))) (g_ldS rfl rfl (by assumption) rfl rfl) rfl rfl ?_)); ((refine (x_tkg (bts 11 255) 7 rfl (by kernel_rfl) rfl (Gh.le.refl _) (by repeat ((exact List.Sublist.refl _)))) (g_ldS rfl rfl (by assumption) rfl rfl) rfl rfl ?_)); ((refine (x_tkg (bts 11 511) 8 rfl (by kernel_rfl) rfl (Gh.le.refl _) (by repeat ((exact List.Sublist.refl _)))) (g_bld rfl rfl) rfl rfl ?_)); refine x_all [9] (by kernel_rfl) (by decide) ⟨?_, trivial⟩; refine x_opg rfl rfl ?_; ((refine c_al rfl rfl fun _ => ?_)); refine x_kk (by (exact Gh.le.refl _)) (by repeat (first | exact List.Sublist.refl _ | apply List.Sublist.cons)) (listed' := (bts 11 1023)) (by kernel_rfl) ?_; refine x_all [10] (by kernel_rfl) (by decide) ⟨?_, trivial⟩; refine x_opg rfl rfl ?_; ((refine c_stA rfl rfl rfl rfl rfl rfl ?_)); refine x_kk (by (exact Gh.le.refl _)) (by repeat (first | exact List.Sublist.refl _ | apply List.Sublist.cons)) (listed' := (bts 11 2047)) (by kernel_rfl) ?_; refine x_done (by kernel_rfl) (k_bk ?_))
    repeat' ((refine run (t := tb) 400 rfl ?_ ?_; (focus (repeat' ((exact trivial))))))
    (refine k_any (s_any (id := 2) _ (fun _ h => h) mixed ?_); refine x_tks (t := tb) (fuel := 3) [0, 1, 2] (bts 6 7) (by kernel_rfl) (by kernel_rfl) rfl rfl (Gh.le.refl _) (by repeat ((exact List.Sublist.refl _))) ?_ ?_; (focus (repeat' ((exact trivial)))); ((refine (x_tkg (bts 6 15) 3 rfl (by kernel_rfl) rfl (Gh.le.refl _) (by repeat ((exact List.Sublist.refl _)))) (g_ldS rfl rfl (by assumption) rfl rfl) rfl rfl ?_)); ((refine (x_tkg (bts 6 31) 4 rfl (by kernel_rfl) rfl (Gh.le.refl _) (by repeat ((exact List.Sublist.refl _)))) (g_ldA rfl rfl rfl rfl) rfl rfl ?_)); ((refine (x_tkg (bts 6 63) 5 rfl (by kernel_rfl) rfl (Gh.le.refl _) (by repeat ((exact List.Sublist.refl _)))) (g_lookP rfl rfl MapIP.mem ?_) rfl rfl ?_; (focus ((assumption); done)))); refine x_done (by kernel_rfl) (k_bk ?_))
    repeat' (first | (refine run (t := tb) 400 rfl ?_ ?_; (focus (repeat' ((exact trivial))))) | (refine k_ff rfl ?_ ?_; (focus (((refine decide_eq_false ?_; (assumption))); done))))
    rename_i x7
    (refine k_any (s_any (id := 4) [.blk x7 (.cells (List.toArray [S t.name, S u.name]) tPi (0, 0))] (by intro y hy; simp only [List.mem_cons, List.not_mem_nil, or_false] at hy ⊢; simp [hy]) mixed ?_); refine x_tks (t := tb) (fuel := 3) [0, 1, 2] (bts 6 7) (by kernel_rfl) (by kernel_rfl) rfl rfl (Gh.le.refl _) (by repeat (first | exact List.nil_sublist _ | apply List.Sublist.cons_cons)) ?_ ?_; (focus (repeat' ((exact trivial)))); ((refine (x_tkg (bts 6 15) 3 rfl (by kernel_rfl) rfl (Gh.le.refl _) (by repeat (first | exact List.nil_sublist _ | apply List.Sublist.cons_cons))) (g_ldS rfl rfl (by assumption) rfl rfl) rfl rfl ?_)); ((refine (x_tkg (bts 6 31) 4 rfl (by kernel_rfl) rfl (Gh.le.refl _) (by repeat (first | exact List.nil_sublist _ | apply List.Sublist.cons_cons))) (g_ldA rfl rfl rfl rfl) rfl rfl ?_)); refine x_all [5] (by kernel_rfl) (by decide) ⟨?_, trivial⟩; refine x_opg rfl rfl ?_; ((refine c_mupP rfl rfl rfl rfl ?_ ?_ ?_; (focus ((assumption); done)); (focus ((assumption); done)))); refine x_ks (by (exact Gh.le.refl _)) (by repeat (first | exact List.nil_sublist _ | apply List.Sublist.cons_cons)) (listed' := (bts 6 63)) (by kernel_rfl) ?_; refine x_done (by kernel_rfl) (k_bk ?_))
    repeat' ((refine run (t := tb) 400 rfl ?_ ?_; (focus (repeat' ((exact trivial))))))
    (refine k_any (s_any (id := 5) _ (fun _ h => h) mixed ?_); refine x_tks (t := tb) (fuel := 3) [0, 1, 2, 4, 5, 6] (bts 9 119) (by kernel_rfl) (by kernel_rfl) rfl rfl (Gh.le.refl _) (by repeat ((exact List.Sublist.refl _))) ?_ ?_; (focus (repeat' ((exact trivial)))); ((refine (x_tkg (bts 9 127) 3 rfl (by kernel_rfl) rfl (Gh.le.refl _) (by repeat ((exact List.Sublist.refl _)))) (g_ldS rfl rfl (by assumption) rfl rfl) rfl rfl ?_)); ((refine (x_tkg (bts 9 255) 7 rfl (by kernel_rfl) rfl (Gh.le.refl _) (by repeat ((exact List.Sublist.refl _)))) (g_ldS rfl rfl (by assumption) rfl rfl) rfl rfl ?_)); refine x_tks (t := tb) (fuel := 0) [8] (bts 9 511) (by kernel_rfl) (by kernel_rfl) rfl rfl (Gh.le.refl _) (by repeat ((exact List.Sublist.refl _))) ?_ ?_; (focus (repeat' ((exact trivial)))); refine x_done (by kernel_rfl) (k_bk ?_))
    repeat' (first | (refine run (t := tb) 400 rfl ?_ ?_; (focus (repeat' ((exact trivial))))) | (refine k_tt rfl ?_ ?_; (focus (((refine decide_eq_true ?_; (omega))); done))))
    
    all_goals exact k_rr (vs := [_]) (L' := [.blk mb (mapP (m ++ [(t.name, u.name)]))]) rfl ⟨rfl, trivial⟩ rfl (by repeat (first | exact List.Sublist.refl _ | apply List.Sublist.cons)) ⟨rfl, rfl, rfl⟩
  rw [if_neg (by simp [hs])]
  
  refine g_enter [(0, _), (1, _), (2, _)] Tryz.func59 (by kernel_rfl) Tryz.ntmps59 rfl rfl (by repeat (first | exact trivial | refine ⟨rfl, ?_⟩)) fun B hB hW => ?_
  repeat' ((refine run (t := tb) 400 rfl ?_ ?_; (focus (repeat' ((exact trivial))))))
  (refine k_any (s_any (id := 1) _ (fun _ h => h) mixed ?_); refine x_tks (t := tb) (fuel := 5) [0, 1, 2, 4, 5, 6] (bts 11 119) (by kernel_rfl) (by kernel_rfl) rfl rfl (Gh.le.refl _) (by repeat ((exact List.Sublist.refl _))) ?_ ?_; (focus (repeat' ((exact trivial)))); ((refine (x_tkg (bts 11 127) 3 rfl (by kernel_rfl) rfl (Gh.le.refl _) (by repeat ((exact List.Sublist.refl _)))) (g_ldS rfl rfl (by assumption) rfl rfl) rfl rfl ?_)); ((refine (x_tkg (bts 11 255) 7 rfl (by kernel_rfl) rfl (Gh.le.refl _) (by repeat ((exact List.Sublist.refl _)))) (g_ldS rfl rfl (by assumption) rfl rfl) rfl rfl ?_)); ((refine (x_tkg (bts 11 511) 8 rfl (by kernel_rfl) rfl (Gh.le.refl _) (by repeat ((exact List.Sublist.refl _)))) (g_bld rfl rfl) rfl rfl ?_)); refine x_all [9] (by kernel_rfl) (by decide) ⟨?_, trivial⟩; refine x_opg rfl rfl ?_; ((refine c_al rfl rfl fun _ => ?_)); refine x_kk (by (exact Gh.le.refl _)) (by repeat (first | exact List.Sublist.refl _ | apply List.Sublist.cons)) (listed' := (bts 11 1023)) (by kernel_rfl) ?_; refine x_all [10] (by kernel_rfl) (by decide) ⟨?_, trivial⟩; refine x_opg rfl rfl ?_; ((refine c_stA rfl rfl rfl rfl rfl rfl ?_)); refine x_kk (by (exact Gh.le.refl _)) (by repeat (first | exact List.Sublist.refl _ | apply List.Sublist.cons)) (listed' := (bts 11 2047)) (by kernel_rfl) ?_; refine x_done (by kernel_rfl) (k_bk ?_))
  repeat' ((refine run (t := tb) 400 rfl ?_ ?_; (focus (repeat' ((exact trivial))))))
  (refine k_any (s_any (id := 2) _ (fun _ h => h) mixed ?_); refine x_tks (t := tb) (fuel := 3) [0, 1, 2] (bts 6 7) (by kernel_rfl) (by kernel_rfl) rfl rfl (Gh.le.refl _) (by repeat ((exact List.Sublist.refl _))) ?_ ?_; (focus (repeat' ((exact trivial)))); ((refine (x_tkg (bts 6 15) 3 rfl (by kernel_rfl) rfl (Gh.le.refl _) (by repeat ((exact List.Sublist.refl _)))) (g_ldS rfl rfl (by assumption) rfl rfl) rfl rfl ?_)); ((refine (x_tkg (bts 6 31) 4 rfl (by kernel_rfl) rfl (Gh.le.refl _) (by repeat ((exact List.Sublist.refl _)))) (g_ldA rfl rfl rfl rfl) rfl rfl ?_)); ((refine (x_tkg (bts 6 63) 5 rfl (by kernel_rfl) rfl (Gh.le.refl _) (by repeat ((exact List.Sublist.refl _)))) (g_lookP rfl rfl MapIP.mem ?_) rfl rfl ?_; (focus ((assumption); done)))); refine x_done (by kernel_rfl) (k_bk ?_))
  repeat' (first | (refine run (t := tb) 400 rfl ?_ ?_; (focus (repeat' ((exact trivial))))) | (refine k_ff rfl ?_ ?_; (focus (((refine decide_eq_false ?_; (assumption))); done))))
  rename_i x7
  (refine k_any (s_any (id := 4) [.blk x7 (.cells (List.toArray [S t.name, S u.name]) tPi (0, 0))] (by intro y hy; simp only [List.mem_cons, List.not_mem_nil, or_false] at hy ⊢; simp [hy]) mixed ?_); refine x_tks (t := tb) (fuel := 3) [0, 1, 2] (bts 6 7) (by kernel_rfl) (by kernel_rfl) rfl rfl (Gh.le.refl _) (by repeat (first | exact List.nil_sublist _ | apply List.Sublist.cons_cons)) ?_ ?_; (focus (repeat' ((exact trivial)))); ((refine (x_tkg (bts 6 15) 3 rfl (by kernel_rfl) rfl (Gh.le.refl _) (by repeat (first | exact List.nil_sublist _ | apply List.Sublist.cons_cons))) (g_ldS rfl rfl (by assumption) rfl rfl) rfl rfl ?_)); ((refine (x_tkg (bts 6 31) 4 rfl (by kernel_rfl) rfl (Gh.le.refl _) (by repeat (first | exact List.nil_sublist _ | apply List.Sublist.cons_cons))) (g_ldA rfl rfl rfl rfl) rfl rfl ?_)); refine x_all [5] (by kernel_rfl) (by decide) ⟨?_, trivial⟩; refine x_opg rfl rfl ?_; ((refine c_mupP rfl rfl rfl rfl ?_ ?_ ?_; (focus ((assumption); done)); (focus ((assumption); done)))); refine x_ks (by (exact Gh.le.refl _)) (by repeat (first | exact List.nil_sublist _ | apply List.Sublist.cons_cons)) (listed' := (bts 6 63)) (by kernel_rfl) ?_; refine x_done (by kernel_rfl) (k_bk ?_))
  repeat' ((refine run (t := tb) 400 rfl ?_ ?_; (focus (repeat' ((exact trivial))))))
  (refine k_any (s_any (id := 5) _ (fun _ h => h) mixed ?_); refine x_tks (t := tb) (fuel := 3) [0, 1, 2, 4, 5, 6] (bts 9 119) (by kernel_rfl) (by kernel_rfl) rfl rfl (Gh.le.refl _) (by repeat ((exact List.Sublist.refl _))) ?_ ?_; (focus (repeat' ((exact trivial)))); ((refine (x_tkg (bts 9 127) 3 rfl (by kernel_rfl) rfl (Gh.le.refl _) (by repeat ((exact List.Sublist.refl _)))) (g_ldS rfl rfl (by assumption) rfl rfl) rfl rfl ?_)); ((refine (x_tkg (bts 9 255) 7 rfl (by kernel_rfl) rfl (Gh.le.refl _) (by repeat ((exact List.Sublist.refl _)))) (g_ldS rfl rfl (by assumption) rfl rfl) rfl rfl ?_)); refine x_tks (t := tb) (fuel := 0) [8] (bts 9 511) (by kernel_rfl) (by kernel_rfl) rfl rfl (Gh.le.refl _) (by repeat ((exact List.Sublist.refl _))) ?_ ?_; (focus (repeat' ((exact trivial)))); refine x_done (by kernel_rfl) (k_bk ?_))
  repeat' (first | (refine run (t := tb) 400 rfl ?_ ?_; (focus (repeat' ((exact trivial))))) | (refine k_op rfl ?_; first | refine v_op (g_ldS rfl rfl (by assumption) rfl rfl) rfl rfl ?_ | refine v_op (g_lenV rfl (by assumption)) rfl rfl ?_) | (refine k_ff rfl ?_ ?_; (focus (((refine decide_eq_false ?_; (omega))); done))))
  
  refine Nx.perm (L' := [.blk mb (mapP (m ++ [(t.name, u.name)])), .blk x7 (.cells (List.toArray [S t.name, S u.name]) tPi (0, 0))]) (List.Perm.swap _ _ []) ?_
  refine k_loop (ι := Nat × List Pr) (fun i => LoopI t u (tyq qs) (tyq rs) (evoK (tyq qs) (tyq rs) n) (m ++ [(t.name, u.name)]) i) (fun i => [(0, Pt eb 0), (1, Pt p1 0), (2, Pt p2 0), (44, I u.fields.length), (45, I i.1)]) (fun _ => G) (fun i => [.blk mb (mapP i.2), .blk x7 (.cells (List.toArray [S t.name, S u.name]) tPi (0, 0))]) (fun i => u.fields.length - i.1) (0, (m ++ [(t.name, u.name)])) ?_ (by repeat (first | exact trivial | refine ⟨rfl, ?_⟩)) rfl (by repeat ((exact List.Sublist.refl _))) (fun i Hi => ?_)
  · exact ⟨⟨Nat.zero_le _, Nat.le_refl _⟩, hm', rfl⟩
  clear hmem hb
  obtain ⟨i, mi⟩ := i
  dsimp only at Hi ⊢
  obtain ⟨⟨hi1, hml⟩, hask, hev⟩ := Hi
  dsimp only at hi1 hml hask hev
  by_cases hi : i < u.fields.length
  case neg =>
    repeat' (first | (refine run (t := tb) 400 rfl ?_ ?_; (focus (repeat' ((exact trivial))))) | (refine k_ff rfl ?_ ?_; (focus (((refine decide_eq_false ?_; (omega))); done))))
    refine k_rr (vs := [_]) (L' := [.blk mb (mapP mi)]) rfl ⟨rfl, trivial⟩ rfl (by repeat (first | exact List.nil_sublist _ | apply List.Sublist.cons_cons)) ⟨rfl, ?_, ?_⟩
    · rw [← hev, List.drop_eq_nil_of_le (by omega)]; rfl
    · rw [← hev, List.drop_eq_nil_of_le (by omega)]; rfl
  rw [drop_cons_nth hi, evoF] at hev
  obtain ⟨bu, ou, cu', rfl, hsu⟩ := f2.expl (by omega)
  cases hft : fldT t.fields (nth u.fields i).tag with
  | none =>
    rw [hft] at hev
    dsimp only at hev
    have cx_fld := c_fieldI0 s1 f1 (by omega) hft
    by_cases hR : u.sort = 82
    · rw [if_pos hR] at hev
      have hR2 : t.sort = 82 := by omega
      repeat' (first | (refine run (t := tb) 400 rfl ?_ ?_; (focus (repeat' (first | exact trivial | apply And.intro | omega)))) | (refine k_op rfl ?_; first | (refine v_op (g_ldRF rfl rfl (by assumption) ?_ rfl rfl) rfl rfl ?_; (focus (((omega)); done))) | refine v_op (g_ldS rfl rfl (by assumption) rfl rfl) rfl rfl ?_ | (refine v_op (g_iaddrN rfl rfl ?_) rfl rfl ?_; (focus ((omega); done))) | refine v_op (g_peq0 rfl rfl) rfl rfl ?_ | (refine v_op (g_pickT rfl rfl ?_) rfl rfl ?_; (focus (((rfl)); done))) | (refine c_rt rfl rfl rfl cx_fld rfl ?_)) | (refine k_gt rfl rfl ?_ ?_; (focus ((first | rfl | (refine decide_eq_true ?_; (omega))); done))) | (refine k_tt rfl ?_ ?_; (focus ((first | rfl | (refine decide_eq_true ?_; (omega))); done))))
      exact k_rd (i + 1, mi) ⟨⟨by dsimp only; omega, hml⟩, hask, hev⟩ (by dsimp only; omega) (by repeat (first | exact trivial | refine ⟨rfl, ?_⟩)) rfl (by repeat ((exact List.Sublist.refl _)))
    · rw [if_neg hR] at hev
      have hR2 : ¬ t.sort = 82 := by omega
      repeat' (first | (refine run (t := tb) 400 rfl ?_ ?_; (focus (repeat' ((exact trivial))))) | (refine k_op rfl ?_; first | (refine v_op (g_ldRF rfl rfl (by assumption) ?_ rfl rfl) rfl rfl ?_; (focus (((omega)); done))) | refine v_op (g_ldS rfl rfl (by assumption) rfl rfl) rfl rfl ?_ | (refine v_op (g_iaddrN rfl rfl ?_) rfl rfl ?_; (focus ((omega); done))) | refine v_op (g_peq0 rfl rfl) rfl rfl ?_ | (refine v_op (g_pickT rfl rfl ?_) rfl rfl ?_; (focus (((rfl)); done))) | (refine v_op (g_pickF rfl rfl ?_) rfl rfl ?_; (focus (((rfl)); done))) | refine v_op (g_pne0 rfl rfl) rfl rfl ?_ | (refine c_rt rfl rfl rfl cx_fld rfl ?_)) | (refine k_gt rfl rfl ?_ ?_; (focus (((rfl)); done))) | (refine k_gf rfl rfl ?_ ?_; (focus ((first | rfl | (refine decide_eq_false ?_; (omega))); done))) | (refine k_tt rfl ?_ ?_; (focus ((first | rfl | (refine decide_eq_true ?_; (omega))); done))) | (refine k_ff rfl ?_ ?_; (focus (((rfl)); done))) | (refine k_any (s_any (id := 13) _ (fun _ h => h) mixed ?_); refine x_tks (t := tb) (fuel := 15) [0] (bts 16 1) (by kernel_rfl) (by kernel_rfl) rfl rfl (Gh.le.refl _) (by repeat ((exact List.Sublist.refl _))) ?_ ?_; (focus (repeat' ((exact trivial)))); ((refine (x_tkg (bts 16 3) 1 rfl (by kernel_rfl) rfl (Gh.le.refl _) (by repeat ((exact List.Sublist.refl _)))) (g_peq0 rfl rfl) rfl rfl ?_)); refine x_tks (t := tb) (fuel := 13) [2] (bts 16 7) (by kernel_rfl) (by kernel_rfl) rfl rfl (Gh.le.refl _) (by repeat ((exact List.Sublist.refl _))) ?_ ?_; (focus (repeat' ((exact trivial)))); (try ((refine Nx.re (d := 84) (v' := Bo true) rfl (congrArg Value.bool ?_) ?_; (focus (((rfl)); done))))); refine x_tks (t := tb) (fuel := 6) [3, 4, 5, 6, 8, 9, 10] (bts 16 1919) (by kernel_rfl) (by kernel_rfl) rfl rfl (Gh.le.refl _) (by repeat ((exact List.Sublist.refl _))) ?_ ?_; (focus (repeat' ((exact trivial)))); ((refine x_tkn (bts 16 2047) 7 rfl (by kernel_rfl) rfl (Gh.le.refl _) (by repeat ((exact List.Sublist.refl _))) rfl rfl ?_)); ((refine x_tkn (bts 16 4095) 11 rfl (by kernel_rfl) rfl (Gh.le.refl _) (by repeat ((exact List.Sublist.refl _))) rfl rfl ?_)); ((refine x_tkn (bts 16 8191) 12 rfl (by kernel_rfl) rfl (Gh.le.refl _) (by repeat ((exact List.Sublist.refl _))) rfl rfl ?_)); refine x_tks (t := tb) (fuel := 2) [13] (bts 16 16383) (by kernel_rfl) (by kernel_rfl) rfl rfl (Gh.le.refl _) (by repeat ((exact List.Sublist.refl _))) ?_ ?_; (focus (repeat' ((exact trivial)))); ((refine (x_tkg (bts 16 32767) 14 rfl (by kernel_rfl) rfl (Gh.le.refl _) (by repeat ((exact List.Sublist.refl _)))) (g_pickT rfl rfl ?_) rfl rfl ?_; (focus (((rfl)); done)))); refine x_tks (t := tb) (fuel := 0) [15] (bts 16 65535) (by kernel_rfl) (by kernel_rfl) rfl rfl (Gh.le.refl _) (by repeat ((exact List.Sublist.refl _))) ?_ ?_; (focus (repeat' ((exact trivial)))); refine x_done (by kernel_rfl) (k_bk ?_)))
      all_goals refine k_rr (vs := [_]) (L' := [.blk mb (mapP mi)]) rfl ⟨rfl, trivial⟩ rfl (by repeat (first | exact List.nil_sublist _ | apply List.Sublist.cons_cons)) ⟨rfl, ?_, ?_⟩
      all_goals (rw [← hev]; first | done | rfl)
  | some f =>
    rw [hft] at hev
    dsimp only at hev
    obtain ⟨j, hj, hno, hat, rfl⟩ := fldT_some hft
    obtain ⟨bf, of, cf, rfl, hsf⟩ := f1.expl (by omega)
    have cx_fld := c_fieldI1 s1 hsf (by omega) hj hno hat
    by_cases hE : u.sort = 69
    · rw [if_pos hE] at hev
      have hE2 : t.sort = 69 := by omega
      repeat' (first | (refine run (t := tb) 400 rfl ?_ ?_; (focus (repeat' (first | exact trivial | apply And.intro | omega)))) | (refine k_op rfl ?_; first | (refine v_op (g_ldRF rfl rfl (by assumption) ?_ rfl rfl) rfl rfl ?_; (focus (((omega)); done))) | refine v_op (g_ldS rfl rfl (by assumption) rfl rfl) rfl rfl ?_ | (refine v_op (g_iaddrN rfl rfl ?_) rfl rfl ?_; (focus ((omega); done))) | refine v_op (g_peq0 rfl rfl) rfl rfl ?_ | (refine v_op (g_pickT rfl rfl ?_) rfl rfl ?_; (focus (((rfl)); done))) | (refine v_op (g_pickF rfl rfl ?_) rfl rfl ?_; (focus (((rfl)); done))) | refine v_op (g_pne0 rfl rfl) rfl rfl ?_ | (refine c_rt rfl rfl rfl cx_fld rfl ?_)) | (refine k_gt rfl rfl ?_ ?_; (focus (((rfl)); done))) | (refine k_gf rfl rfl ?_ ?_; (focus (((rfl)); done))) | (refine k_tt rfl ?_ ?_; (focus (((refine decide_eq_true ?_; (omega))); done))))
      exact k_rd (i + 1, mi) ⟨⟨by dsimp only; omega, hml⟩, hask, hev⟩ (by dsimp only; omega) (by repeat (first | exact trivial | refine ⟨rfl, ?_⟩)) rfl (by repeat ((exact List.Sublist.refl _)))
    rw [if_neg hE] at hev
    have hE2 : ¬ t.sort = 69 := by omega
    have hin1 := kind_in w1 hxt hE2 (nth_mem hj)
    have hin2 := kind_in w2 hyt hE (nth_mem hi)
    have cx_sta := c_ofI h1 w1 hsf hj hin1
    have cx_stb := c_ofI h2 w2 hsu hi hin2
    have cx_k0 := ih (nth t.fields j).kind (nth u.fields i).kind mi hask (by omega) hin1 hin2
    have hgr := evoK_grows (ts := tyq qs) (us := tyq rs) n (nth t.fields j).kind (nth u.fields i).kind mi hask
    generalize evoK (tyq qs) (tyq rs) n (nth t.fields j).kind (nth u.fields i).kind mi = r at hev cx_k0 hgr
    obtain ⟨rb, mj⟩ := r
    dsimp only at hev hgr
    cases rb
    · rw [if_pos rfl] at hev
      have cx_ks : FnG Tryz.prog 40 [Pt eb 0, Ag [S (sg (nth t.fields j).kind), S (bs (nth t.fields j).kind), S (nm (nth t.fields j).kind)], Ag [S (sg (nth u.fields i).kind), S (bs (nth u.fields i).kind), S (nm (nth u.fields i).kind)]] G [.blk mb (mapP mi)] (fun v L' => v = Bo false ∧ L' = [.blk mb (mapP mj)]) := cx_k0
      
      repeat' (first | (refine run (t := tb) 400 rfl ?_ ?_; (focus (repeat' ((exact trivial))))) | (refine k_op rfl ?_; first | (refine v_op (g_ldRF rfl rfl (by assumption) ?_ rfl rfl) rfl rfl ?_; (focus (((omega)); done))) | refine v_op (g_ldS rfl rfl (by assumption) rfl rfl) rfl rfl ?_ | (refine v_op (g_iaddrN rfl rfl ?_) rfl rfl ?_; (focus ((omega); done))) | refine v_op (g_peq0 rfl rfl) rfl rfl ?_ | (refine v_op (g_pickT rfl rfl ?_) rfl rfl ?_; (focus (((rfl)); done))) | (refine v_op (g_pickF rfl rfl ?_) rfl rfl ?_; (focus (((rfl)); done))) | refine v_op (g_pne0 rfl rfl) rfl rfl ?_ | (refine c_rt rfl rfl rfl cx_fld rfl ?_)) | (refine k_gt rfl rfl ?_ ?_; (focus (((rfl)); done))) | (refine k_gf rfl rfl ?_ ?_; (focus (((rfl)); done))) | (refine k_tt rfl ?_ ?_; (focus (((refine decide_eq_true ?_; (omega))); done))) | (refine k_ff rfl ?_ ?_; (focus (((refine decide_eq_false ?_; (omega))); done))))
      (refine k_any (s_any (id := 13) [.blk x7 (.cells (List.toArray [S t.name, S u.name]) tPi (0, 0))] (by intro y hy; simp only [List.mem_cons, List.not_mem_nil, or_false] at hy ⊢; simp [hy]) mixed ?_); refine x_tks (t := tb) (fuel := 15) [0] (bts 16 1) (by kernel_rfl) (by kernel_rfl) rfl rfl (Gh.le.refl _) (by repeat (first | exact List.Sublist.refl _ | apply List.Sublist.cons)) ?_ ?_; (focus (repeat' ((exact trivial)))); ((refine (x_tkg (bts 16 3) 1 rfl (by kernel_rfl) rfl (Gh.le.refl _) (by repeat (first | exact List.Sublist.refl _ | apply List.Sublist.cons))) (g_peq0 rfl rfl) rfl rfl ?_)); refine x_tks (t := tb) (fuel := 13) [2] (bts 16 7) (by kernel_rfl) (by kernel_rfl) rfl rfl (Gh.le.refl _) (by repeat (first | exact List.Sublist.refl _ | apply List.Sublist.cons)) ?_ ?_; (focus (repeat' ((exact trivial)))); (try ((refine Nx.re (d := 84) (v' := Bo false) rfl (congrArg Value.bool ?_) ?_; (focus (((rfl)); done))))); refine x_tks (t := tb) (fuel := 6) [3, 4, 5, 6, 8, 9, 10] (bts 16 1919) (by kernel_rfl) (by kernel_rfl) rfl rfl (Gh.le.refl _) (by repeat (first | exact List.Sublist.refl _ | apply List.Sublist.cons)) ?_ ?_; (focus (repeat' ((exact trivial)))); ((refine (x_tkg (bts 16 2047) 7 rfl (by kernel_rfl) rfl (Gh.le.refl _) (by repeat (first | exact List.Sublist.refl _ | apply List.Sublist.cons))) (g_ldRA rfl rfl (by assumption) ?_ rfl rfl) rfl rfl ?_; (focus (((omega)); done)))); ((refine (x_tkg (bts 16 4095) 11 rfl (by kernel_rfl) rfl (Gh.le.refl _) (by repeat (first | exact List.Sublist.refl _ | apply List.Sublist.cons))) (g_ldRA rfl rfl (by assumption) ?_ rfl rfl) rfl rfl ?_; (focus (((omega)); done)))); ((refine x_all [12] (by kernel_rfl) (by decide) ⟨?_, trivial⟩; refine x_opg rfl rfl ?_; ((refine c_mapg rfl rfl rfl cx_ks rfl ?_; rintro _ _ ⟨rfl, rfl⟩; dsimp only [List.cons_append, List.nil_append])); refine x_ks (by (exact Gh.le.refl _)) (by repeat (first | exact List.Sublist.refl _ | apply List.Sublist.cons)) (listed' := (bts 16 8191)) (by kernel_rfl) ?_)); refine x_tks (t := tb) (fuel := 2) [13] (bts 16 16383) (by kernel_rfl) (by kernel_rfl) rfl rfl (Gh.le.refl _) (by repeat ((exact List.Sublist.refl _))) ?_ ?_; (focus (repeat' ((exact trivial)))); ((refine (x_tkg (bts 16 32767) 14 rfl (by kernel_rfl) rfl (Gh.le.refl _) (by repeat ((exact List.Sublist.refl _)))) (g_pickF rfl rfl ?_) rfl rfl ?_; (focus (((rfl)); done)))); refine x_tks (t := tb) (fuel := 0) [15] (bts 16 65535) (by kernel_rfl) (by kernel_rfl) rfl rfl (Gh.le.refl _) (by repeat ((exact List.Sublist.refl _))) ?_ ?_; (focus (repeat' ((exact trivial)))); refine x_done (by kernel_rfl) (k_bk ?_))
      
      repeat' (first | (refine run (t := tb) 400 rfl ?_ ?_; (focus (repeat' ((exact trivial))))) | (refine k_tt rfl ?_ ?_; (focus (((rfl)); done))))
      all_goals refine k_rr (vs := [_]) (L' := [.blk mb (mapP mj)]) rfl ⟨rfl, trivial⟩ rfl (by repeat (first | exact List.nil_sublist _ | apply List.Sublist.cons_cons)) ⟨rfl, ?_, ?_⟩
      all_goals (rw [← hev]; first | done | rfl)
    · rw [if_neg (by simp)] at hev
      have cx_ks : FnG Tryz.prog 40 [Pt eb 0, Ag [S (sg (nth t.fields j).kind), S (bs (nth t.fields j).kind), S (nm (nth t.fields j).kind)], Ag [S (sg (nth u.fields i).kind), S (bs (nth u.fields i).kind), S (nm (nth u.fields i).kind)]] G [.blk mb (mapP mi)] (fun v L' => v = Bo true ∧ L' = [.blk mb (mapP mj)]) := cx_k0
      generalize standF (tyq qs) (nth t.fields j) = sa at hev cx_sta
      generalize standF (tyq rs) (nth u.fields i) = sb at hev cx_stb
      by_cases hR : u.sort = 82
      · have hR2 : t.sort = 82 := by omega
        by_cases hsab : sa = sb
        · rw [if_neg (by simp [hsab])] at hev
          
          repeat' (first | (refine run (t := tb) 400 rfl ?_ ?_; (focus (repeat' ((exact trivial))))) | (refine k_op rfl ?_; first | (refine v_op (g_ldRF rfl rfl (by assumption) ?_ rfl rfl) rfl rfl ?_; (focus (((omega)); done))) | refine v_op (g_ldS rfl rfl (by assumption) rfl rfl) rfl rfl ?_ | (refine v_op (g_iaddrN rfl rfl ?_) rfl rfl ?_; (focus ((omega); done))) | refine v_op (g_peq0 rfl rfl) rfl rfl ?_ | (refine v_op (g_pickT rfl rfl ?_) rfl rfl ?_; (focus (((rfl)); done))) | (refine v_op (g_pickF rfl rfl ?_) rfl rfl ?_; (focus (((rfl)); done))) | refine v_op (g_pne0 rfl rfl) rfl rfl ?_ | (refine c_rt rfl rfl rfl cx_fld rfl ?_)) | (refine k_gt rfl rfl ?_ ?_; (focus (((rfl)); done))) | (refine k_gf rfl rfl ?_ ?_; (focus (((rfl)); done))) | (refine k_tt rfl ?_ ?_; (focus (((refine decide_eq_true ?_; (omega))); done))) | (refine k_ff rfl ?_ ?_; (focus (((refine decide_eq_false ?_; (omega))); done))))
          (refine k_any (s_any (id := 13) [.blk x7 (.cells (List.toArray [S t.name, S u.name]) tPi (0, 0))] (by intro y hy; simp only [List.mem_cons, List.not_mem_nil, or_false] at hy ⊢; simp [hy]) mixed ?_); refine x_tks (t := tb) (fuel := 15) [0] (bts 16 1) (by kernel_rfl) (by kernel_rfl) rfl rfl (Gh.le.refl _) (by repeat (first | exact List.Sublist.refl _ | apply List.Sublist.cons)) ?_ ?_; (focus (repeat' ((exact trivial)))); ((refine (x_tkg (bts 16 3) 1 rfl (by kernel_rfl) rfl (Gh.le.refl _) (by repeat (first | exact List.Sublist.refl _ | apply List.Sublist.cons))) (g_peq0 rfl rfl) rfl rfl ?_)); refine x_tks (t := tb) (fuel := 13) [2] (bts 16 7) (by kernel_rfl) (by kernel_rfl) rfl rfl (Gh.le.refl _) (by repeat (first | exact List.Sublist.refl _ | apply List.Sublist.cons)) ?_ ?_; (focus (repeat' ((exact trivial)))); (try ((refine Nx.re (d := 84) (v' := Bo false) rfl (congrArg Value.bool ?_) ?_; (focus (((rfl)); done))))); refine x_tks (t := tb) (fuel := 6) [3, 4, 5, 6, 8, 9, 10] (bts 16 1919) (by kernel_rfl) (by kernel_rfl) rfl rfl (Gh.le.refl _) (by repeat (first | exact List.Sublist.refl _ | apply List.Sublist.cons)) ?_ ?_; (focus (repeat' ((exact trivial)))); ((refine (x_tkg (bts 16 2047) 7 rfl (by kernel_rfl) rfl (Gh.le.refl _) (by repeat (first | exact List.Sublist.refl _ | apply List.Sublist.cons))) (g_ldRA rfl rfl (by assumption) ?_ rfl rfl) rfl rfl ?_; (focus (((omega)); done)))); ((refine (x_tkg (bts 16 4095) 11 rfl (by kernel_rfl) rfl (Gh.le.refl _) (by repeat (first | exact List.Sublist.refl _ | apply List.Sublist.cons))) (g_ldRA rfl rfl (by assumption) ?_ rfl rfl) rfl rfl ?_; (focus (((omega)); done)))); ((refine x_all [12] (by kernel_rfl) (by decide) ⟨?_, trivial⟩; refine x_opg rfl rfl ?_; ((refine c_mapg rfl rfl rfl cx_ks rfl ?_; rintro _ _ ⟨rfl, rfl⟩; dsimp only [List.cons_append, List.nil_append])); refine x_ks (by (exact Gh.le.refl _)) (by repeat (first | exact List.Sublist.refl _ | apply List.Sublist.cons)) (listed' := (bts 16 8191)) (by kernel_rfl) ?_)); refine x_tks (t := tb) (fuel := 2) [13] (bts 16 16383) (by kernel_rfl) (by kernel_rfl) rfl rfl (Gh.le.refl _) (by repeat ((exact List.Sublist.refl _))) ?_ ?_; (focus (repeat' ((exact trivial)))); ((refine (x_tkg (bts 16 32767) 14 rfl (by kernel_rfl) rfl (Gh.le.refl _) (by repeat ((exact List.Sublist.refl _)))) (g_pickF rfl rfl ?_) rfl rfl ?_; (focus (((rfl)); done)))); refine x_tks (t := tb) (fuel := 0) [15] (bts 16 65535) (by kernel_rfl) (by kernel_rfl) rfl rfl (Gh.le.refl _) (by repeat ((exact List.Sublist.refl _))) ?_ ?_; (focus (repeat' ((exact trivial)))); refine x_done (by kernel_rfl) (k_bk ?_))
          
          repeat' (first | (refine run (t := tb) 400 rfl ?_ ?_; (focus (repeat' (first | exact trivial | apply And.intro | omega)))) | (refine k_ff rfl ?_ ?_; (focus ((first | rfl | (simp [*]; done)); done))) | (refine k_any (s_any (id := 15) _ (fun _ h => h) mixed ?_); refine x_tks (t := tb) (fuel := 18) [0, 1, 2] (bts 21 7) (by kernel_rfl) (by kernel_rfl) rfl rfl (Gh.le.refl _) (by repeat ((exact List.Sublist.refl _))) ?_ ?_; (focus (repeat' ((exact trivial)))); ((refine (x_tkg (bts 21 15) 3 rfl (by kernel_rfl) rfl (Gh.le.refl _) (by repeat ((exact List.Sublist.refl _)))) (g_ldS rfl rfl (by assumption) rfl rfl) rfl rfl ?_)); refine x_tks (t := tb) (fuel := 15) [4, 5] (bts 21 63) (by kernel_rfl) (by kernel_rfl) rfl rfl (Gh.le.refl _) (by repeat ((exact List.Sublist.refl _))) ?_ ?_; (focus (repeat' ((exact trivial)))); (try ((refine Nx.re (d := 103) (v' := Bo true) rfl (congrArg Value.bool ?_) ?_; (focus (((refine decide_eq_true ?_; (omega))); done))))); refine x_tks (t := tb) (fuel := 7) [6, 7, 8, 10, 12, 13, 14, 16] (bts 21 95743) (by kernel_rfl) (by kernel_rfl) rfl rfl (Gh.le.refl _) (by repeat ((exact List.Sublist.refl _))) ?_ ?_; (focus (repeat' ((exact trivial)))); ((refine (x_tkg (bts 21 96255) 9 rfl (by kernel_rfl) rfl (Gh.le.refl _) (by repeat ((exact List.Sublist.refl _)))) (g_ldS rfl rfl (by assumption) rfl rfl) rfl rfl ?_)); ((refine (x_tkg (bts 21 129023) 15 rfl (by kernel_rfl) rfl (Gh.le.refl _) (by repeat ((exact List.Sublist.refl _)))) (g_ldS rfl rfl (by assumption) rfl rfl) rfl rfl ?_)); ((refine x_all [11] (by kernel_rfl) (by decide) ⟨?_, trivial⟩; refine x_opg rfl rfl ?_; ((refine c_rt rfl rfl rfl cx_sta rfl ?_)); refine x_ks (by (exact Gh.le.refl _)) (by repeat ((exact List.Sublist.refl _))) (listed' := (bts 21 131071)) (by kernel_rfl) ?_)); ((refine x_all [17] (by kernel_rfl) (by decide) ⟨?_, trivial⟩; refine x_opg rfl rfl ?_; ((refine c_rt rfl rfl rfl cx_stb rfl ?_)); refine x_ks (by (exact Gh.le.refl _)) (by repeat ((exact List.Sublist.refl _))) (listed' := (bts 21 262143)) (by kernel_rfl) ?_)); refine x_tks (t := tb) (fuel := 2) [18] (bts 21 524287) (by kernel_rfl) (by kernel_rfl) rfl rfl (Gh.le.refl _) (by repeat ((exact List.Sublist.refl _))) ?_ ?_; (focus (repeat' ((exact trivial)))); ((refine (x_tkg (bts 21 1048575) 19 rfl (by kernel_rfl) rfl (Gh.le.refl _) (by repeat ((exact List.Sublist.refl _)))) (g_pickT rfl rfl ?_) rfl rfl ?_; (focus (((rfl)); done)))); refine x_tks (t := tb) (fuel := 0) [20] (bts 21 2097151) (by kernel_rfl) (by kernel_rfl) rfl rfl (Gh.le.refl _) (by repeat ((exact List.Sublist.refl _))) ?_ ?_; (focus (repeat' ((exact trivial)))); refine x_done (by kernel_rfl) (k_bk ?_)))
          all_goals exact k_rd (i + 1, mj) ⟨⟨by dsimp only; omega, Nat.le_trans hml hgr.2⟩, hgr.1, hev⟩ (by dsimp only; omega) (by repeat (first | exact trivial | refine ⟨rfl, ?_⟩)) rfl (by repeat ((exact List.Sublist.refl _)))
        · rw [if_pos ⟨hR, hsab⟩] at hev
          
          repeat' (first | (refine run (t := tb) 400 rfl ?_ ?_; (focus (repeat' ((exact trivial))))) | (refine k_op rfl ?_; first | (refine v_op (g_ldRF rfl rfl (by assumption) ?_ rfl rfl) rfl rfl ?_; (focus (((omega)); done))) | refine v_op (g_ldS rfl rfl (by assumption) rfl rfl) rfl rfl ?_ | (refine v_op (g_iaddrN rfl rfl ?_) rfl rfl ?_; (focus ((omega); done))) | refine v_op (g_peq0 rfl rfl) rfl rfl ?_ | (refine v_op (g_pickT rfl rfl ?_) rfl rfl ?_; (focus (((rfl)); done))) | (refine v_op (g_pickF rfl rfl ?_) rfl rfl ?_; (focus (((rfl)); done))) | refine v_op (g_pne0 rfl rfl) rfl rfl ?_ | (refine c_rt rfl rfl rfl cx_fld rfl ?_)) | (refine k_gt rfl rfl ?_ ?_; (focus (((rfl)); done))) | (refine k_gf rfl rfl ?_ ?_; (focus (((rfl)); done))) | (refine k_tt rfl ?_ ?_; (focus (((refine decide_eq_true ?_; (omega))); done))) | (refine k_ff rfl ?_ ?_; (focus (((refine decide_eq_false ?_; (omega))); done))))
          (refine k_any (s_any (id := 13) [.blk x7 (.cells (List.toArray [S t.name, S u.name]) tPi (0, 0))] (by intro y hy; simp only [List.mem_cons, List.not_mem_nil, or_false] at hy ⊢; simp [hy]) mixed ?_); refine x_tks (t := tb) (fuel := 15) [0] (bts 16 1) (by kernel_rfl) (by kernel_rfl) rfl rfl (Gh.le.refl _) (by repeat (first | exact List.Sublist.refl _ | apply List.Sublist.cons)) ?_ ?_; (focus (repeat' ((exact trivial)))); ((refine (x_tkg (bts 16 3) 1 rfl (by kernel_rfl) rfl (Gh.le.refl _) (by repeat (first | exact List.Sublist.refl _ | apply List.Sublist.cons))) (g_peq0 rfl rfl) rfl rfl ?_)); refine x_tks (t := tb) (fuel := 13) [2] (bts 16 7) (by kernel_rfl) (by kernel_rfl) rfl rfl (Gh.le.refl _) (by repeat (first | exact List.Sublist.refl _ | apply List.Sublist.cons)) ?_ ?_; (focus (repeat' ((exact trivial)))); (try ((refine Nx.re (d := 84) (v' := Bo false) rfl (congrArg Value.bool ?_) ?_; (focus (((rfl)); done))))); refine x_tks (t := tb) (fuel := 6) [3, 4, 5, 6, 8, 9, 10] (bts 16 1919) (by kernel_rfl) (by kernel_rfl) rfl rfl (Gh.le.refl _) (by repeat (first | exact List.Sublist.refl _ | apply List.Sublist.cons)) ?_ ?_; (focus (repeat' ((exact trivial)))); ((refine (x_tkg (bts 16 2047) 7 rfl (by kernel_rfl) rfl (Gh.le.refl _) (by repeat (first | exact List.Sublist.refl _ | apply List.Sublist.cons))) (g_ldRA rfl rfl (by assumption) ?_ rfl rfl) rfl rfl ?_; (focus (((omega)); done)))); ((refine (x_tkg (bts 16 4095) 11 rfl (by kernel_rfl) rfl (Gh.le.refl _) (by repeat (first | exact List.Sublist.refl _ | apply List.Sublist.cons))) (g_ldRA rfl rfl (by assumption) ?_ rfl rfl) rfl rfl ?_; (focus (((omega)); done)))); ((refine x_all [12] (by kernel_rfl) (by decide) ⟨?_, trivial⟩; refine x_opg rfl rfl ?_; ((refine c_mapg rfl rfl rfl cx_ks rfl ?_; rintro _ _ ⟨rfl, rfl⟩; dsimp only [List.cons_append, List.nil_append])); refine x_ks (by (exact Gh.le.refl _)) (by repeat (first | exact List.Sublist.refl _ | apply List.Sublist.cons)) (listed' := (bts 16 8191)) (by kernel_rfl) ?_)); refine x_tks (t := tb) (fuel := 2) [13] (bts 16 16383) (by kernel_rfl) (by kernel_rfl) rfl rfl (Gh.le.refl _) (by repeat ((exact List.Sublist.refl _))) ?_ ?_; (focus (repeat' ((exact trivial)))); ((refine (x_tkg (bts 16 32767) 14 rfl (by kernel_rfl) rfl (Gh.le.refl _) (by repeat ((exact List.Sublist.refl _)))) (g_pickF rfl rfl ?_) rfl rfl ?_; (focus (((rfl)); done)))); refine x_tks (t := tb) (fuel := 0) [15] (bts 16 65535) (by kernel_rfl) (by kernel_rfl) rfl rfl (Gh.le.refl _) (by repeat ((exact List.Sublist.refl _))) ?_ ?_; (focus (repeat' ((exact trivial)))); refine x_done (by kernel_rfl) (k_bk ?_))
          
          repeat' (first | (refine run (t := tb) 400 rfl ?_ ?_; (focus (repeat' ((exact trivial))))) | (refine k_tt rfl ?_ ?_; (focus (((refine decide_eq_true ?_; (assumption))); done))) | (refine k_ff rfl ?_ ?_; (focus (((rfl)); done))) | (refine k_any (s_any (id := 15) _ (fun _ h => h) mixed ?_); refine x_tks (t := tb) (fuel := 18) [0, 1, 2] (bts 21 7) (by kernel_rfl) (by kernel_rfl) rfl rfl (Gh.le.refl _) (by repeat ((exact List.Sublist.refl _))) ?_ ?_; (focus (repeat' ((exact trivial)))); ((refine (x_tkg (bts 21 15) 3 rfl (by kernel_rfl) rfl (Gh.le.refl _) (by repeat ((exact List.Sublist.refl _)))) (g_ldS rfl rfl (by assumption) rfl rfl) rfl rfl ?_)); refine x_tks (t := tb) (fuel := 15) [4, 5] (bts 21 63) (by kernel_rfl) (by kernel_rfl) rfl rfl (Gh.le.refl _) (by repeat ((exact List.Sublist.refl _))) ?_ ?_; (focus (repeat' ((exact trivial)))); (try ((refine Nx.re (d := 103) (v' := Bo true) rfl (congrArg Value.bool ?_) ?_; (focus (((refine decide_eq_true ?_; (omega))); done))))); refine x_tks (t := tb) (fuel := 7) [6, 7, 8, 10, 12, 13, 14, 16] (bts 21 95743) (by kernel_rfl) (by kernel_rfl) rfl rfl (Gh.le.refl _) (by repeat ((exact List.Sublist.refl _))) ?_ ?_; (focus (repeat' ((exact trivial)))); ((refine (x_tkg (bts 21 96255) 9 rfl (by kernel_rfl) rfl (Gh.le.refl _) (by repeat ((exact List.Sublist.refl _)))) (g_ldS rfl rfl (by assumption) rfl rfl) rfl rfl ?_)); ((refine (x_tkg (bts 21 129023) 15 rfl (by kernel_rfl) rfl (Gh.le.refl _) (by repeat ((exact List.Sublist.refl _)))) (g_ldS rfl rfl (by assumption) rfl rfl) rfl rfl ?_)); ((refine x_all [11] (by kernel_rfl) (by decide) ⟨?_, trivial⟩; refine x_opg rfl rfl ?_; ((refine c_rt rfl rfl rfl cx_sta rfl ?_)); refine x_ks (by (exact Gh.le.refl _)) (by repeat ((exact List.Sublist.refl _))) (listed' := (bts 21 131071)) (by kernel_rfl) ?_)); ((refine x_all [17] (by kernel_rfl) (by decide) ⟨?_, trivial⟩; refine x_opg rfl rfl ?_; ((refine c_rt rfl rfl rfl cx_stb rfl ?_)); refine x_ks (by (exact Gh.le.refl _)) (by repeat ((exact List.Sublist.refl _))) (listed' := (bts 21 262143)) (by kernel_rfl) ?_)); refine x_tks (t := tb) (fuel := 2) [18] (bts 21 524287) (by kernel_rfl) (by kernel_rfl) rfl rfl (Gh.le.refl _) (by repeat ((exact List.Sublist.refl _))) ?_ ?_; (focus (repeat' ((exact trivial)))); ((refine (x_tkg (bts 21 1048575) 19 rfl (by kernel_rfl) rfl (Gh.le.refl _) (by repeat ((exact List.Sublist.refl _)))) (g_pickT rfl rfl ?_) rfl rfl ?_; (focus (((rfl)); done)))); refine x_tks (t := tb) (fuel := 0) [20] (bts 21 2097151) (by kernel_rfl) (by kernel_rfl) rfl rfl (Gh.le.refl _) (by repeat ((exact List.Sublist.refl _))) ?_ ?_; (focus (repeat' ((exact trivial)))); refine x_done (by kernel_rfl) (k_bk ?_)))
          all_goals refine k_rr (vs := [_]) (L' := [.blk mb (mapP mj)]) rfl ⟨rfl, trivial⟩ rfl (by repeat (first | exact List.nil_sublist _ | apply List.Sublist.cons_cons)) ⟨rfl, ?_, ?_⟩
          all_goals (rw [← hev]; first | done | rfl)
      · have hR2 : ¬ t.sort = 82 := by omega
        rw [if_neg (by simp [hR])] at hev
        
        repeat' (first | (refine run (t := tb) 400 rfl ?_ ?_; (focus (repeat' ((exact trivial))))) | (refine k_op rfl ?_; first | (refine v_op (g_ldRF rfl rfl (by assumption) ?_ rfl rfl) rfl rfl ?_; (focus (((omega)); done))) | refine v_op (g_ldS rfl rfl (by assumption) rfl rfl) rfl rfl ?_ | (refine v_op (g_iaddrN rfl rfl ?_) rfl rfl ?_; (focus ((omega); done))) | refine v_op (g_peq0 rfl rfl) rfl rfl ?_ | (refine v_op (g_pickT rfl rfl ?_) rfl rfl ?_; (focus (((rfl)); done))) | (refine v_op (g_pickF rfl rfl ?_) rfl rfl ?_; (focus (((rfl)); done))) | refine v_op (g_pne0 rfl rfl) rfl rfl ?_ | (refine c_rt rfl rfl rfl cx_fld rfl ?_)) | (refine k_gt rfl rfl ?_ ?_; (focus (((rfl)); done))) | (refine k_gf rfl rfl ?_ ?_; (focus (((rfl)); done))) | (refine k_tt rfl ?_ ?_; (focus (((refine decide_eq_true ?_; (omega))); done))) | (refine k_ff rfl ?_ ?_; (focus (((refine decide_eq_false ?_; (omega))); done))))
        (refine k_any (s_any (id := 13) [.blk x7 (.cells (List.toArray [S t.name, S u.name]) tPi (0, 0))] (by intro y hy; simp only [List.mem_cons, List.not_mem_nil, or_false] at hy ⊢; simp [hy]) mixed ?_); refine x_tks (t := tb) (fuel := 15) [0] (bts 16 1) (by kernel_rfl) (by kernel_rfl) rfl rfl (Gh.le.refl _) (by repeat (first | exact List.Sublist.refl _ | apply List.Sublist.cons)) ?_ ?_; (focus (repeat' ((exact trivial)))); ((refine (x_tkg (bts 16 3) 1 rfl (by kernel_rfl) rfl (Gh.le.refl _) (by repeat (first | exact List.Sublist.refl _ | apply List.Sublist.cons))) (g_peq0 rfl rfl) rfl rfl ?_)); refine x_tks (t := tb) (fuel := 13) [2] (bts 16 7) (by kernel_rfl) (by kernel_rfl) rfl rfl (Gh.le.refl _) (by repeat (first | exact List.Sublist.refl _ | apply List.Sublist.cons)) ?_ ?_; (focus (repeat' ((exact trivial)))); (try ((refine Nx.re (d := 84) (v' := Bo false) rfl (congrArg Value.bool ?_) ?_; (focus (((rfl)); done))))); refine x_tks (t := tb) (fuel := 6) [3, 4, 5, 6, 8, 9, 10] (bts 16 1919) (by kernel_rfl) (by kernel_rfl) rfl rfl (Gh.le.refl _) (by repeat (first | exact List.Sublist.refl _ | apply List.Sublist.cons)) ?_ ?_; (focus (repeat' ((exact trivial)))); ((refine (x_tkg (bts 16 2047) 7 rfl (by kernel_rfl) rfl (Gh.le.refl _) (by repeat (first | exact List.Sublist.refl _ | apply List.Sublist.cons))) (g_ldRA rfl rfl (by assumption) ?_ rfl rfl) rfl rfl ?_; (focus (((omega)); done)))); ((refine (x_tkg (bts 16 4095) 11 rfl (by kernel_rfl) rfl (Gh.le.refl _) (by repeat (first | exact List.Sublist.refl _ | apply List.Sublist.cons))) (g_ldRA rfl rfl (by assumption) ?_ rfl rfl) rfl rfl ?_; (focus (((omega)); done)))); ((refine x_all [12] (by kernel_rfl) (by decide) ⟨?_, trivial⟩; refine x_opg rfl rfl ?_; ((refine c_mapg rfl rfl rfl cx_ks rfl ?_; rintro _ _ ⟨rfl, rfl⟩; dsimp only [List.cons_append, List.nil_append])); refine x_ks (by (exact Gh.le.refl _)) (by repeat (first | exact List.Sublist.refl _ | apply List.Sublist.cons)) (listed' := (bts 16 8191)) (by kernel_rfl) ?_)); refine x_tks (t := tb) (fuel := 2) [13] (bts 16 16383) (by kernel_rfl) (by kernel_rfl) rfl rfl (Gh.le.refl _) (by repeat ((exact List.Sublist.refl _))) ?_ ?_; (focus (repeat' ((exact trivial)))); ((refine (x_tkg (bts 16 32767) 14 rfl (by kernel_rfl) rfl (Gh.le.refl _) (by repeat ((exact List.Sublist.refl _)))) (g_pickF rfl rfl ?_) rfl rfl ?_; (focus (((rfl)); done)))); refine x_tks (t := tb) (fuel := 0) [15] (bts 16 65535) (by kernel_rfl) (by kernel_rfl) rfl rfl (Gh.le.refl _) (by repeat ((exact List.Sublist.refl _))) ?_ ?_; (focus (repeat' ((exact trivial)))); refine x_done (by kernel_rfl) (k_bk ?_))
        
        repeat' (first | (refine run (t := tb) 400 rfl ?_ ?_; (focus (repeat' (first | exact trivial | apply And.intro | omega)))) | (refine k_ff rfl ?_ ?_; (focus (((rfl)); done))) | (refine k_any (s_any (id := 15) _ (fun _ h => h) mixed ?_); refine x_tks (t := tb) (fuel := 18) [0, 1, 2] (bts 21 7) (by kernel_rfl) (by kernel_rfl) rfl rfl (Gh.le.refl _) (by repeat ((exact List.Sublist.refl _))) ?_ ?_; (focus (repeat' ((exact trivial)))); ((refine (x_tkg (bts 21 15) 3 rfl (by kernel_rfl) rfl (Gh.le.refl _) (by repeat ((exact List.Sublist.refl _)))) (g_ldS rfl rfl (by assumption) rfl rfl) rfl rfl ?_)); refine x_tks (t := tb) (fuel := 15) [4, 5] (bts 21 63) (by kernel_rfl) (by kernel_rfl) rfl rfl (Gh.le.refl _) (by repeat ((exact List.Sublist.refl _))) ?_ ?_; (focus (repeat' ((exact trivial)))); (try ((refine Nx.re (d := 103) (v' := Bo false) rfl (congrArg Value.bool ?_) ?_; (focus (((refine decide_eq_false ?_; (omega))); done))))); refine x_tks (t := tb) (fuel := 7) [6, 7, 8, 10, 12, 13, 14, 16] (bts 21 95743) (by kernel_rfl) (by kernel_rfl) rfl rfl (Gh.le.refl _) (by repeat ((exact List.Sublist.refl _))) ?_ ?_; (focus (repeat' ((exact trivial)))); ((refine x_tkn (bts 21 96255) 9 rfl (by kernel_rfl) rfl (Gh.le.refl _) (by repeat ((exact List.Sublist.refl _))) rfl rfl ?_)); ((refine x_tkn (bts 21 129023) 15 rfl (by kernel_rfl) rfl (Gh.le.refl _) (by repeat ((exact List.Sublist.refl _))) rfl rfl ?_)); ((refine x_tkn (bts 21 131071) 11 rfl (by kernel_rfl) rfl (Gh.le.refl _) (by repeat ((exact List.Sublist.refl _))) rfl rfl ?_)); ((refine x_tkn (bts 21 262143) 17 rfl (by kernel_rfl) rfl (Gh.le.refl _) (by repeat ((exact List.Sublist.refl _))) rfl rfl ?_)); refine x_tks (t := tb) (fuel := 2) [18] (bts 21 524287) (by kernel_rfl) (by kernel_rfl) rfl rfl (Gh.le.refl _) (by repeat ((exact List.Sublist.refl _))) ?_ ?_; (focus (repeat' ((exact trivial)))); ((refine (x_tkg (bts 21 1048575) 19 rfl (by kernel_rfl) rfl (Gh.le.refl _) (by repeat ((exact List.Sublist.refl _)))) (g_pickF rfl rfl ?_) rfl rfl ?_; (focus (((rfl)); done)))); refine x_tks (t := tb) (fuel := 0) [20] (bts 21 2097151) (by kernel_rfl) (by kernel_rfl) rfl rfl (Gh.le.refl _) (by repeat ((exact List.Sublist.refl _))) ?_ ?_; (focus (repeat' ((exact trivial)))); refine x_done (by kernel_rfl) (k_bk ?_)))
        all_goals exact k_rd (i + 1, mj) ⟨⟨by dsimp only; omega, Nat.le_trans hml hgr.2⟩, hgr.1, hev⟩ (by dsimp only; omega) (by repeat (first | exact trivial | refine ⟨rfl, ?_⟩)) rfl (by repeat ((exact List.Sublist.refl _)))
end Go.E
/-! Oh -/
namespace Go.E
set_option maxRecDepth 20000
set_option maxHeartbeats 2000000
open Go.Proofs
variable {G : Gh}
abbrev tKd : TypeId := 54
theorem bs_core {k : List UInt8} (hr : refN (core k) = none) : bs k = core k := by
  unfold bs
  cases hc : core k with
  | nil => rfl
  | cons c r =>
    rw [hc] at hr
    have h64 : ¬ c.toNat = 64 := by intro h64; simp [refN, h64] at hr
    simp [bsT, h64]
theorem refT_nm {ts : List Ty} {k : List UInt8} {t : Ty} (h : refT ts (core k) = some t) : findT ts (nm k) = some t := by
  unfold refT at h
  unfold nm
  cases hc : refN (core k) with
  | none => rw [hc] at h; cases h
  | some x => rw [hc] at h; exact h
theorem findQ_pt {qs : List TyP} {x : List UInt8} {t : Ty} (h : findT (tyq qs) x = some t) : ∃ p, (p, t) ∈ qs ∧ kvF (kvsOf qs) x = some (Pt p 0) := by
  have hkv := kvF_find qs x
  rw [← findQ_ty] at h
  rcases hq : findQ qs x with _ | ⟨p, t'⟩
  · rw [hq] at h; cases h
  · rw [hq] at h hkv
    obtain rfl := Option.some.inj h
    exact ⟨p, findQ_mem hq, hkv⟩
theorem c_kindsI {eb mb ba bb : Nat} {qs rs : List TyP} (hE : Seg G eb 0 [Pt ba 0, Pt bb 0, .map (some mb)]) (h1 : ScI G ba qs) (h2 : ScI G bb rs) (w1 : SchW (tyq qs)) (w2 : SchW (tyq rs)) : ∀ n, KindsI G eb mb (tyq qs) (tyq rs) n := by
  intro n
  induction n with
  | zero => intro k1 k2 m hm hf; have := hm.len; omega
  | succ n ih =>
    intro k1 k2 m hm hf hk1 hk2
    obtain ⟨ua, ma, ga1, ga2, ga3⟩ := h1.at'
    obtain ⟨ub, mb2, gb1, gb2, gb3⟩ := h2.at'
    have at1 := bs_at (kindIn_ok hk1)
    have at2 := bs_at (kindIn_ok hk2)
    unfold evoK
    by_cases hs : sg k1 = sg k2
    case neg =>
      rw [if_pos hs]
      refine g_enter [(0, _), (1, _), (2, _)] Tryz.func40 (by kernel_rfl) Tryz.ntmps40 rfl rfl (by repeat (first | exact trivial | refine ⟨rfl, ?_⟩)) fun B hB hW => ?_
      repeat' (first | (refine run (t := tb) 400 rfl ?_ ?_; (focus (repeat' ((exact trivial))))) | (refine k_op rfl ?_; first | refine c_bx rfl rfl rfl fun _ => ?_ | refine v_op (g_ld rfl rfl rfl) rfl rfl ?_ | (refine v_op (g_pickT rfl rfl ?_) rfl rfl ?_; (focus (((rfl)); done)))) | (refine k_gt rfl rfl ?_ ?_; (focus (((refine decide_eq_true ?_; (assumption))); done))) | (refine k_tt rfl ?_ ?_; (focus (((rfl)); done))))
      all_goals exact k_rr (vs := [_]) (L' := [.blk mb (mapP m)]) rfl ⟨rfl, trivial⟩ rfl (by repeat (first | exact List.Sublist.refl _ | apply List.Sublist.cons)) ⟨rfl, rfl, rfl⟩
    rw [if_neg (by simp [hs])]
    have hs2 : ¬ sg k1 ≠ sg k2 := fun h => h hs
    have hno : ∀ {k : List UInt8} {ts : List Ty}, kindIn ts k = true → refT ts (core k) = none → bs k = core k ∧ ¬ bs k = [64] := fun hk hr => by
      have hn := kind_none hk hr
      refine ⟨bs_core hn, fun e => ?_⟩
      have := (bs_at (kindIn_ok hk)).1 e
      rw [hn] at this; cases this
    cases r1 : refT (tyq qs) (core k1) with
    | none =>
      obtain ⟨e1, e3⟩ := hno hk1 r1
      dsimp only
      by_cases hcc : core k1 = core k2
      · have hn1 := kind_none hk1 r1
        have e2 : bs k2 = core k2 := bs_core (by rw [← hcc]; exact hn1)
        have hbb : ¬ bs k1 ≠ bs k2 := fun h => h (by rw [e1, e2, hcc])
        have hbb2 : bs k1 = bs k2 := by rw [e1, e2, hcc]
        rw [decide_eq_true hcc]
        clear e1 e2
        refine g_enter [(0, _), (1, _), (2, _)] Tryz.func40 (by kernel_rfl) Tryz.ntmps40 rfl rfl (by repeat (first | exact trivial | refine ⟨rfl, ?_⟩)) fun B hB hW => ?_
        repeat' (first | (refine run (t := tb) 400 rfl ?_ ?_; (focus (repeat' ((exact trivial))))) | (refine k_op rfl ?_; first | refine c_bx rfl rfl rfl fun _ => ?_ | refine v_op (g_ld rfl rfl rfl) rfl rfl ?_ | (refine v_op (g_pickF rfl rfl ?_) rfl rfl ?_; (focus (((rfl)); done)))) | (refine k_gf rfl rfl ?_ ?_; (focus (((refine decide_eq_false ?_; (assumption))); done))) | (refine k_ff rfl ?_ ?_; (focus (((refine decide_eq_false ?_; (assumption))); done))) | (refine k_any (s_any (id := 3) _ (fun _ h => h) mixed ?_); refine x_tks (t := tb) (fuel := 27) [0] (bts 28 1) (by kernel_rfl) (by kernel_rfl) rfl rfl (Gh.le.refl _) (by repeat ((exact List.Sublist.refl _))) ?_ ?_; (focus (repeat' ((exact trivial)))); ((refine (x_tkg (bts 28 3) 1 rfl (by kernel_rfl) rfl (Gh.le.refl _) (by repeat ((exact List.Sublist.refl _)))) (g_ld rfl rfl rfl) rfl rfl ?_)); refine x_tks (t := tb) (fuel := 24) [2, 3] (bts 28 15) (by kernel_rfl) (by kernel_rfl) rfl rfl (Gh.le.refl _) (by repeat ((exact List.Sublist.refl _))) ?_ ?_; (focus (repeat' ((exact trivial)))); (try ((refine Nx.re (d := 22) (v' := Bo true) rfl (congrArg Value.bool ?_) ?_; (focus (((refine decide_eq_true ?_; (assumption))); done))))); refine x_tks (t := tb) (fuel := 15) [4, 5, 6, 7, 12, 15, 16, 17, 22] (bts 28 4428031) (by kernel_rfl) (by kernel_rfl) rfl rfl (Gh.le.refl _) (by repeat ((exact List.Sublist.refl _))) ?_ ?_; (focus (repeat' ((exact trivial)))); ((refine x_tkn (bts 28 4428287) 8 rfl (by kernel_rfl) rfl (Gh.le.refl _) (by repeat ((exact List.Sublist.refl _))) rfl rfl ?_)); refine x_tks (t := tb) (fuel := 12) [9, 10] (bts 28 4429823) (by kernel_rfl) (by kernel_rfl) rfl rfl (Gh.le.refl _) (by repeat ((exact List.Sublist.refl _))) ?_ ?_; (focus (repeat' ((exact trivial)))); ((refine x_tkn (bts 28 4431871) 11 rfl (by kernel_rfl) rfl (Gh.le.refl _) (by repeat ((exact List.Sublist.refl _))) rfl rfl ?_)); ((refine x_tkn (bts 28 4440063) 13 rfl (by kernel_rfl) rfl (Gh.le.refl _) (by repeat ((exact List.Sublist.refl _))) rfl rfl ?_)); ((refine x_tkn (bts 28 4456447) 14 rfl (by kernel_rfl) rfl (Gh.le.refl _) (by repeat ((exact List.Sublist.refl _))) rfl rfl ?_)); ((refine x_tkn (bts 28 4718591) 18 rfl (by kernel_rfl) rfl (Gh.le.refl _) (by repeat ((exact List.Sublist.refl _))) rfl rfl ?_)); refine x_tks (t := tb) (fuel := 6) [19, 20] (bts 28 6291455) (by kernel_rfl) (by kernel_rfl) rfl rfl (Gh.le.refl _) (by repeat ((exact List.Sublist.refl _))) ?_ ?_; (focus (repeat' ((exact trivial)))); ((refine x_tkn (bts 28 8388607) 21 rfl (by kernel_rfl) rfl (Gh.le.refl _) (by repeat ((exact List.Sublist.refl _))) rfl rfl ?_)); ((refine x_tkn (bts 28 16777215) 23 rfl (by kernel_rfl) rfl (Gh.le.refl _) (by repeat ((exact List.Sublist.refl _))) rfl rfl ?_)); ((refine x_tkn (bts 28 33554431) 24 rfl (by kernel_rfl) rfl (Gh.le.refl _) (by repeat ((exact List.Sublist.refl _))) rfl rfl ?_)); ((refine x_tkn (bts 28 67108863) 25 rfl (by kernel_rfl) rfl (Gh.le.refl _) (by repeat ((exact List.Sublist.refl _))) rfl rfl ?_)); ((refine (x_tkg (bts 28 134217727) 26 rfl (by kernel_rfl) rfl (Gh.le.refl _) (by repeat ((exact List.Sublist.refl _)))) (g_pickT rfl rfl ?_) rfl rfl ?_; (focus (((rfl)); done)))); refine x_tks (t := tb) (fuel := 0) [27] (bts 28 268435455) (by kernel_rfl) (by kernel_rfl) rfl rfl (Gh.le.refl _) (by repeat ((exact List.Sublist.refl _))) ?_ ?_; (focus (repeat' ((exact trivial)))); refine x_done (by kernel_rfl) (k_bk ?_)))
        all_goals exact k_rr (vs := [_]) (L' := [.blk mb (mapP m)]) rfl ⟨rfl, trivial⟩ rfl (by repeat (first | exact List.Sublist.refl _ | apply List.Sublist.cons)) ⟨rfl, rfl, rfl⟩
      · have hbb : bs k1 ≠ bs k2 := fun h => by
          cases r2 : refT (tyq rs) (core k2) with
          | none => have e4 := (hno hk2 r2).1; rw [e1, e4] at h; exact hcc h
          | some u => rw [at2.2 (refT_refN r2)] at h; exact e3 h
        rw [decide_eq_false hcc]
        clear e1
        refine g_enter [(0, _), (1, _), (2, _)] Tryz.func40 (by kernel_rfl) Tryz.ntmps40 rfl rfl (by repeat (first | exact trivial | refine ⟨rfl, ?_⟩)) fun B hB hW => ?_
        repeat' (first | (refine run (t := tb) 400 rfl ?_ ?_; (focus (repeat' ((exact trivial))))) | (refine k_op rfl ?_; first | refine c_bx rfl rfl rfl fun _ => ?_ | refine v_op (g_ld rfl rfl rfl) rfl rfl ?_ | (refine v_op (g_pickF rfl rfl ?_) rfl rfl ?_; (focus (((rfl)); done)))) | (refine k_gf rfl rfl ?_ ?_; (focus (((refine decide_eq_false ?_; (assumption))); done))) | (refine k_tt rfl ?_ ?_; (focus (((refine decide_eq_true ?_; (assumption))); done))))
        all_goals exact k_rr (vs := [_]) (L' := [.blk mb (mapP m)]) rfl ⟨rfl, trivial⟩ rfl (by repeat (first | exact List.Sublist.refl _ | apply List.Sublist.cons)) ⟨rfl, rfl, rfl⟩
    | some t =>
      have b1 : bs k1 = [64] := at1.2 (refT_refN r1)
      cases r2 : refT (tyq rs) (core k2) with
      | none =>
        obtain ⟨e1, e3⟩ := hno hk2 r2
        have hbb : bs k1 ≠ bs k2 := fun h => e3 (by rw [← h, b1])
        have hcc : ¬ core k1 = core k2 := fun e => by have := refT_refN r1; rw [e, kind_none hk2 r2] at this; cases this
        dsimp only
        rw [decide_eq_false hcc]
        clear e1 e3 b1
        refine g_enter [(0, _), (1, _), (2, _)] Tryz.func40 (by kernel_rfl) Tryz.ntmps40 rfl rfl (by repeat (first | exact trivial | refine ⟨rfl, ?_⟩)) fun B hB hW => ?_
        repeat' (first | (refine run (t := tb) 400 rfl ?_ ?_; (focus (repeat' ((exact trivial))))) | (refine k_op rfl ?_; first | refine c_bx rfl rfl rfl fun _ => ?_ | refine v_op (g_ld rfl rfl rfl) rfl rfl ?_ | (refine v_op (g_pickF rfl rfl ?_) rfl rfl ?_; (focus (((rfl)); done)))) | (refine k_gf rfl rfl ?_ ?_; (focus (((refine decide_eq_false ?_; (assumption))); done))) | (refine k_tt rfl ?_ ?_; (focus (((refine decide_eq_true ?_; (assumption))); done))))
        all_goals exact k_rr (vs := [_]) (L' := [.blk mb (mapP m)]) rfl ⟨rfl, trivial⟩ rfl (by repeat (first | exact List.Sublist.refl _ | apply List.Sublist.cons)) ⟨rfl, rfl, rfl⟩
      | some u =>
        have b2 : bs k2 = [64] := at2.2 (refT_refN r2)
        obtain ⟨p1, hq1, kv1⟩ := findQ_pt (refT_nm r1)
        obtain ⟨p2, hq2, kv2⟩ := findQ_pt (refT_nm r2)
        dsimp only
        have cx_t0 := c_typesI hE h1 h2 w1 w2 ih hq1 hq2 hm hf
        generalize evoP (tyq qs) (tyq rs) (evoK (tyq qs) (tyq rs) n) t u m = r at cx_t0
        have cx_ts : FnG Tryz.prog 59 [Pt eb 0, Pt p1 0, Pt p2 0] G [.blk mb (mapP m)] (fun v L' => v = Bo r.1 ∧ L' = [.blk mb (mapP r.2)]) := cx_t0
        rw [b1, b2]
        
        refine g_enter [(0, _), (1, _), (2, _)] Tryz.func40 (by kernel_rfl) Tryz.ntmps40 rfl rfl (by repeat (first | exact trivial | refine ⟨rfl, ?_⟩)) fun B hB hW => ?_
        repeat' (first | (refine run (t := tb) 400 rfl ?_ ?_; (focus (repeat' ((exact trivial))))) | (refine k_op rfl ?_; first | refine c_bx rfl rfl rfl fun _ => ?_ | refine v_op (g_ld rfl rfl rfl) rfl rfl ?_ | (refine v_op (g_pickF rfl rfl ?_) rfl rfl ?_; (focus (((rfl)); done)))) | (refine k_gf rfl rfl ?_ ?_; (focus (((refine decide_eq_false ?_; (assumption))); done))) | (refine k_ff rfl ?_ ?_; (focus (((rfl)); done))))
        rename_i x4 x5
        (refine k_any (s_any (id := 3) [.blk x5 (.cells (List.toArray [S (sg k2), S [64], S (nm k2)]) tKd (0, 0)), .blk x4 (.cells (List.toArray [S (sg k1), S [64], S (nm k1)]) tKd (0, 0))] (by intro y hy; simp only [List.mem_cons, List.not_mem_nil, or_false] at hy ⊢; rcases hy with hy | hy <;> simp [hy]) mixed ?_); refine x_tks (t := tb) (fuel := 27) [0] (bts 28 1) (by kernel_rfl) (by kernel_rfl) rfl rfl (Gh.le.refl _) (by repeat (first | exact List.nil_sublist _ | apply List.Sublist.cons_cons)) ?_ ?_; (focus (repeat' ((exact trivial)))); ((refine (x_tkg (bts 28 3) 1 rfl (by kernel_rfl) rfl (Gh.le.refl _) (by repeat (first | exact List.nil_sublist _ | apply List.Sublist.cons_cons))) (g_ld rfl rfl rfl) rfl rfl ?_)); refine x_tks (t := tb) (fuel := 24) [2, 3] (bts 28 15) (by kernel_rfl) (by kernel_rfl) rfl rfl (Gh.le.refl _) (by repeat (first | exact List.nil_sublist _ | apply List.Sublist.cons_cons)) ?_ ?_; (focus (repeat' ((exact trivial)))); (try ((refine Nx.re (d := 22) (v' := Bo false) rfl (congrArg Value.bool ?_) ?_; (focus (((rfl)); done))))); refine x_tks (t := tb) (fuel := 15) [4, 5, 6, 7, 12, 15, 16, 17, 22] (bts 28 4428031) (by kernel_rfl) (by kernel_rfl) rfl rfl (Gh.le.refl _) (by repeat (first | exact List.nil_sublist _ | apply List.Sublist.cons_cons)) ?_ ?_; (focus (repeat' ((exact trivial)))); ((refine (x_tkg (bts 28 4428287) 8 rfl (by kernel_rfl) rfl (Gh.le.refl _) (by repeat (first | exact List.nil_sublist _ | apply List.Sublist.cons_cons))) (g_ldS rfl rfl (by assumption) rfl rfl) rfl rfl ?_)); refine x_tks (t := tb) (fuel := 12) [9, 10] (bts 28 4429823) (by kernel_rfl) (by kernel_rfl) rfl rfl (Gh.le.refl _) (by repeat (first | exact List.nil_sublist _ | apply List.Sublist.cons_cons)) ?_ ?_; (focus (repeat' ((exact trivial)))); ((refine (x_tkg (bts 28 4431871) 11 rfl (by kernel_rfl) rfl (Gh.le.refl _) (by repeat (first | exact List.nil_sublist _ | apply List.Sublist.cons_cons))) (g_ldS rfl rfl (by assumption) rfl rfl) rfl rfl ?_)); ((refine (x_tkg (bts 28 4440063) 13 rfl (by kernel_rfl) rfl (Gh.le.refl _) (by repeat (first | exact List.nil_sublist _ | apply List.Sublist.cons_cons))) (g_ld rfl rfl rfl) rfl rfl ?_)); ((refine (x_tkg (bts 28 4456447) 14 rfl (by kernel_rfl) rfl (Gh.le.refl _) (by repeat (first | exact List.nil_sublist _ | apply List.Sublist.cons_cons))) (g_lookupX rfl rfl (map_G (by assumption)) (by assumption) rfl) rfl rfl ?_)); ((refine (x_tkg (bts 28 4718591) 18 rfl (by kernel_rfl) rfl (Gh.le.refl _) (by repeat (first | exact List.nil_sublist _ | apply List.Sublist.cons_cons))) (g_ldS rfl rfl (by assumption) rfl rfl) rfl rfl ?_)); refine x_tks (t := tb) (fuel := 6) [19, 20] (bts 28 6291455) (by kernel_rfl) (by kernel_rfl) rfl rfl (Gh.le.refl _) (by repeat (first | exact List.nil_sublist _ | apply List.Sublist.cons_cons)) ?_ ?_; (focus (repeat' ((exact trivial)))); ((refine (x_tkg (bts 28 8388607) 21 rfl (by kernel_rfl) rfl (Gh.le.refl _) (by repeat (first | exact List.nil_sublist _ | apply List.Sublist.cons_cons))) (g_ldS rfl rfl (by assumption) rfl rfl) rfl rfl ?_)); ((refine (x_tkg (bts 28 16777215) 23 rfl (by kernel_rfl) rfl (Gh.le.refl _) (by repeat (first | exact List.nil_sublist _ | apply List.Sublist.cons_cons))) (g_ld rfl rfl rfl) rfl rfl ?_)); ((refine (x_tkg (bts 28 33554431) 24 rfl (by kernel_rfl) rfl (Gh.le.refl _) (by repeat (first | exact List.nil_sublist _ | apply List.Sublist.cons_cons))) (g_lookupX rfl rfl (map_G (by assumption)) (by assumption) rfl) rfl rfl ?_)); ((refine x_all [25] (by kernel_rfl) (by decide) ⟨?_, trivial⟩; refine x_opg rfl rfl ?_; ((refine c_mapg rfl rfl rfl cx_ts rfl ?_; rintro _ _ ⟨rfl, rfl⟩; dsimp only [List.cons_append, List.nil_append])); refine x_ks (by (exact Gh.le.refl _)) (by repeat (first | exact List.Sublist.refl _ | apply List.Sublist.cons)) (listed' := (bts 28 67108863)) (by kernel_rfl) ?_)); ((refine (x_tkg (bts 28 134217727) 26 rfl (by kernel_rfl) rfl (Gh.le.refl _) (by repeat ((exact List.Sublist.refl _)))) (g_pickF rfl rfl ?_) rfl rfl ?_; (focus (((rfl)); done)))); refine x_tks (t := tb) (fuel := 0) [27] (bts 28 268435455) (by kernel_rfl) (by kernel_rfl) rfl rfl (Gh.le.refl _) (by repeat ((exact List.Sublist.refl _))) ?_ ?_; (focus (repeat' ((exact trivial)))); refine x_done (by kernel_rfl) (k_bk ?_))
        repeat' ((refine run (t := tb) 400 rfl ?_ ?_; (focus (repeat' ((exact trivial))))))
        
        all_goals exact k_rr (vs := [_]) (L' := [.blk mb (mapP r.2)]) rfl ⟨rfl, trivial⟩ rfl (by repeat (first | exact List.nil_sublist _ | apply List.Sublist.cons_cons)) ⟨rfl, rfl, rfl⟩
end Go.E
/-! Oi -/
namespace Go.E
set_option maxRecDepth 20000
set_option maxHeartbeats 2000000

open Go.Proofs
variable {G : Gh}
theorem Nx.addNilP {n : Nat} {D : List Deferred} {E : Env} {B : Base} {L : List Own} {K : Act → World → Prop} (h : Nx n D E B G (.acc nilS tPr 2 ([] : List Pr).length (rows prF []) :: L) K) : Nx n D E B G L K := Nx.mk fun a w hs hw => h.go a w hs (hw.addNil tPr 2)
theorem evReads_no {s k r l : List UInt8} (h : kindS s k = false ∨ kindS r l = false) : evReads s k r l = false := by
  unfold evReads
  unfold kindS at h
  cases h1 : schemaOf s with
  | none => rfl
  | some ts =>
    cases h2 : schemaOf r with
    | none => rfl
    | some us =>
      rw [h1, h2] at h
      dsimp only at h ⊢
      rcases h with h | h <;> rw [h] <;> simp
theorem kindS_some {s k : List UInt8} (h : kindS s k = true) : ∃ ts, schemaOf s = some ts ∧ kindIn ts k = true ∧ SchW ts := by
  unfold kindS at h
  cases h1 : schemaOf s with
  | none => rw [h1] at h; cases h
  | some ts => rw [h1] at h; exact ⟨ts, rfl, h, schemaOf_w h1⟩
theorem evReads_yes {s k r l : List UInt8} {ts us : List Ty} (h1 : schemaOf s = some ts) (h2 : schemaOf r = some us) (k1 : kindIn ts k = true) (k2 : kindIn us l = true) : evReads s k r l = (evoK ts us (ts.length * us.length + 1) k l []).1 := by
  unfold evReads; rw [h1, h2]; dsimp only; rw [k1, k2]; rfl
theorem c_l8Read {s k r l : List UInt8} (hs : s.length ≤ 1048576) (hk : k.length ≤ 1048576) (hr : r.length ≤ 1048576) (hl : l.length ≤ 1048576) :
    FnS Tryz.prog 22 [S s, S k, S r, S l] G (fun v _ => ∃ a b, v = Tu [a, b, Bo (evReads s k r l)]) := by
  have k0 : ∀ {s k : List UInt8}, s.length ≤ 1048576 → k.length ≤ 1048576 → ∀ G, FnS Tryz.prog 20 [S s, S k] G (fun v _ => ∃ u, v = Tu [u, Bo (kindS s k)]) := fun hs hk G => by
    refine (c_l3Kind (G := G) (by omega) (by omega)).mono ?_
    rintro v G' L' ⟨h1, h2, u, vs, rfl, _⟩
    exact ⟨h1, h2, u, rfl⟩
  cases e1 : kindS s k with
  | false =>
    have cx_lk1 := k0 hs hk
    have cx_lk2 := k0 hr hl
    rw [e1] at cx_lk1
    rw [evReads_no (.inl e1)]
    refine b_enter [(0, _), (1, _), (2, _), (3, _)] Tryz.func22 (by kernel_rfl) Tryz.ntmps22 rfl rfl (by repeat (first | exact trivial | refine ⟨rfl, ?_⟩)) fun B hok hB hW => ?_
    repeat' (first | (refine run (t := tb) 400 rfl ?_ ?_; (focus (repeat' ((exact trivial))))) | (refine k_op rfl ?_; first | (refine v_op (g_pickT rfl rfl ?_) rfl rfl ?_; (focus (((rfl)); done))) | (refine c_fns rfl rfl rfl (cx_lk1 _) rfl ?_; rintro _ G hle ⟨u1, rfl⟩; ((try have hR1 := SchR.mono hR1 hle); (try have hR1 := ScI.mono hR1 hle))) | (refine c_fns rfl rfl rfl (cx_lk2 _) rfl ?_; rintro _ G hle ⟨u2, rfl⟩; ((try have hR1 := SchR.mono hR1 hle); (try have hR1 := ScI.mono hR1 hle)))) | (refine k_gt rfl rfl ?_ ?_; (focus (((rfl)); done))) | (refine k_tt rfl ?_ ?_; (focus (((rfl)); done))))
    all_goals refine k_rr (vs := [_, _, _]) rfl ⟨rfl, rfl, rfl, trivial⟩ rfl (List.nil_sublist _) ⟨(Gh.le.trans (by assumption) hle), rfl, ?_⟩
    all_goals exact ⟨_, _, rfl⟩
  | true =>
    cases e2 : kindS r l with
    | false =>
      have cx_lk1 := k0 hs hk
      have cx_lk2 := k0 hr hl
      rw [e1] at cx_lk1
      rw [e2] at cx_lk2
      rw [evReads_no (.inr e2)]
      refine b_enter [(0, _), (1, _), (2, _), (3, _)] Tryz.func22 (by kernel_rfl) Tryz.ntmps22 rfl rfl (by repeat (first | exact trivial | refine ⟨rfl, ?_⟩)) fun B hok hB hW => ?_
      repeat' (first | (refine run (t := tb) 400 rfl ?_ ?_; (focus (repeat' ((exact trivial))))) | (refine k_op rfl ?_; first | (refine v_op (g_pickF rfl rfl ?_) rfl rfl ?_; (focus (((rfl)); done))) | (refine c_fns rfl rfl rfl (cx_lk1 _) rfl ?_; rintro _ G hle ⟨u1, rfl⟩; ((try have hR1 := SchR.mono hR1 hle); (try have hR1 := ScI.mono hR1 hle))) | (refine c_fns rfl rfl rfl (cx_lk2 _) rfl ?_; rintro _ G hle ⟨u2, rfl⟩; ((try have hR1 := SchR.mono hR1 hle); (try have hR1 := ScI.mono hR1 hle)))) | (refine k_gf rfl rfl ?_ ?_; (focus (((rfl)); done))) | (refine k_tt rfl ?_ ?_; (focus (((rfl)); done))))
      all_goals refine k_rr (vs := [_, _, _]) rfl ⟨rfl, rfl, rfl, trivial⟩ rfl (List.nil_sublist _) ⟨(Gh.le.trans (by assumption) hle), rfl, ?_⟩
      all_goals exact ⟨_, _, rfl⟩
    | true =>
      obtain ⟨ts, t1, t2, t3⟩ := kindS_some e1
      obtain ⟨us, u1, u2, u3⟩ := kindS_some e2
      have k1 : ∀ {s k : List UInt8} {ts : List Ty}, s.length ≤ 1048576 → k.length ≤ 1048576 → schemaOf s = some ts → kindIn ts k = true → kindS s k = true → ∀ G, FnS Tryz.prog 20 [S s, S k] G (fun v G' => ∃ a c vs, v = Tu [.slice a (vs : List TyX).length c, Bo true] ∧ SchR G' (.slice a (vs : List TyX).length c) vs ∧ tys vs = ts) := fun hs hk h1 h2 h3 G => by
        refine (c_l3Kind (G := G) (by omega) (by omega)).mono ?_
        rintro v G' L' ⟨g1, g2, u, vs, rfl, g3, _, g4⟩
        obtain ⟨a, c, rfl⟩ := g3.sl.sl
        exact ⟨g1, g2, a, c, vs, by rw [h3], g3, g4 _ h1 h2⟩
      have cx_lka := k1 hs hk t1 t2 e1
      have cx_lkb := k1 hr hl u1 u2 e2
      rw [evReads_yes t1 u1 t2 u2]
      refine b_enter [(0, _), (1, _), (2, _), (3, _)] Tryz.func22 (by kernel_rfl) Tryz.ntmps22 rfl rfl (by repeat (first | exact trivial | refine ⟨rfl, ?_⟩)) fun B hok hB hW => ?_
      repeat' (first | (refine run (t := tb) 400 rfl ?_ ?_; (focus (repeat' ((exact trivial))))) | (refine k_op rfl ?_; first | (refine v_op (g_pickF rfl rfl ?_) rfl rfl ?_; (focus (((rfl)); done))) | refine v_op (g_bld rfl rfl) rfl rfl ?_ | refine c_bx rfl rfl rfl fun _ => ?_ | (refine c_fns rfl rfl rfl (cx_lka _) rfl ?_; rintro _ G hle ⟨av1, cv1, vs1, rfl, hR1, hT1⟩; ((try have hR1 := SchR.mono hR1 hle); (try have hR1 := ScI.mono hR1 hle))) | (refine c_fns rfl rfl rfl (cx_lkb _) rfl ?_; rintro _ G hle ⟨av2, cv2, vs2, rfl, hR2, hT2⟩; ((try have hR1 := SchR.mono hR1 hle); (try have hR1 := ScI.mono hR1 hle)))) | (refine k_gf rfl rfl ?_ ?_; (focus (((rfl)); done))) | (refine k_ff rfl ?_ ?_; (focus (((rfl)); done))))
      rename_i ab
      subst hT1
      subst hT2
      have cx_k0 := c_kindsS (ab := ab) hR1 hR2 t3 u3 ((tys vs1).length * (tys vs2).length + 1) k l [] nilS AskW.nil (by simp) t2 u2
      generalize evoK (tys vs1) (tys vs2) ((tys vs1).length * (tys vs2).length + 1) k l [] = q at cx_k0 ⊢
      have cx_ks : FnG Tryz.prog 35 [Pt ab 0, S k, S l] G [.blk ab (.cells (List.toArray [.slice av1 vs1.length cv1, .slice av2 vs2.length cv2, nilS]) tAsk (0, 0)), .acc nilS tPr 2 ([] : List Pr).length (rows prF [])] (fun v L' => ∃ v', v = Bo q.1 ∧ L' = [.blk ab (.cells (List.toArray [.slice av1 vs1.length cv1, .slice av2 vs2.length cv2, v']) tAsk (0, 0)), .acc v' tPr 2 q.2.length (rows prF q.2)]) := cx_k0
      refine Nx.addNilP ?_
      repeat' (first | (refine run (t := tb) 400 rfl ?_ ?_; (focus (repeat' ((exact trivial))))) | (refine k_op rfl ?_; (refine c_m2g rfl rfl rfl cx_ks rfl ?_; rintro _ _ ⟨v2, rfl, rfl⟩; dsimp only [List.cons_append, List.nil_append])))
      all_goals refine k_rr (vs := [_, _, _]) rfl ⟨rfl, rfl, rfl, trivial⟩ rfl (List.nil_sublist _) ⟨(Gh.le.trans (by assumption) hle), rfl, ?_⟩
      all_goals exact ⟨_, _, rfl⟩
theorem c_EvolveReadsS {s k r l : List UInt8} (hs : s.length ≤ 1048576) (hk : k.length ≤ 1048576) (hr : r.length ≤ 1048576) (hl : l.length ≤ 1048576) :
    PuG Tryz.prog 12 [S s, S k, S r, S l] G (· = Bo (evReads s k r l)) := by
  have cx_l8 := fun G => c_l8Read (G := G) hs hk hr hl
  refine b_enter (Post := fun v G' L' => G' = G ∧ L' = [] ∧ _) [(0, _), (1, _), (2, _), (3, _)] Tryz.func12 (by kernel_rfl) Tryz.ntmps12 rfl rfl (by repeat (first | exact trivial | refine ⟨rfl, ?_⟩)) fun B hok hB hW => ?_
  repeat' (first | (refine run (t := tb) 400 rfl ?_ ?_; (focus (repeat' ((exact trivial))))) | (refine k_op rfl ?_; (refine c_fns rfl rfl rfl (cx_l8 _) rfl ?_; rintro _ G hle ⟨x1, x2, rfl⟩; ((try have hR1 := SchR.mono hR1 hle); (try have hR1 := ScI.mono hR1 hle)))))
  all_goals refine Nx.base hok hB ?_
  all_goals refine k_rr (vs := [_]) rfl ⟨rfl, trivial⟩ rfl (List.nil_sublist _) ⟨rfl, rfl, ?_⟩
  all_goals rfl
abbrev tKv : TypeId := 54
theorem c_evolve {s k r l : List UInt8} (hs : s.length ≤ 1048576) (hk : k.length ≤ 1048576) (hr : r.length ≤ 1048576) (hl : l.length ≤ 1048576) :
    FnS Tryz.prog 27 [S s, S k, S r, S l] G (fun v _ => ∃ p a1 b1 c1 a2 b2 c2, v = Tu [p, Ag [S a1, S b1, S c1], Ag [S a2, S b2, S c2], Bo (evReads s k r l)]) := by
  have k0 : ∀ {s k : List UInt8}, s.length ≤ 1048576 → k.length ≤ 1048576 → ∀ G, FnS Tryz.prog 25 [S s, S k] G (fun v _ => ∃ p a' b c, v = Tu [p, Ag [S a', S b, S c], Bo (kindS s k)]) := fun hs hk G => by
    refine (c_both (G := G) (by omega) (by omega)).mono ?_
    rintro v G' L' ⟨h1, h2, ⟨h3, p, a', b, c, rfl⟩ | ⟨b, qs, rfl, h3, h4, _⟩⟩
    · exact ⟨h1, h2, p, a', b, c, by rw [h3]⟩
    · exact ⟨h1, h2, _, _, _, _, by unfold kindS; rw [h3]; dsimp only; rw [h4]; rfl⟩
  cases e1 : kindS s k with
  | false =>
    have cx_bo1 := k0 hs hk
    have cx_bo2 := k0 hr hl
    rw [e1] at cx_bo1
    rw [evReads_no (.inl e1)]
    refine b_enter [(0, _), (1, _), (2, _), (3, _)] Tryz.func27 (by kernel_rfl) Tryz.ntmps27 rfl rfl (by repeat (first | exact trivial | refine ⟨rfl, ?_⟩)) fun B hok hB hW => ?_
    repeat' (first | (refine run (t := tb) 400 rfl ?_ ?_; (focus (repeat' ((exact trivial))))) | (refine k_op rfl ?_; first | refine c_al rfl rfl fun _ => ?_ | refine c_stA rfl rfl rfl rfl rfl rfl ?_ | (refine v_op (g_pickT rfl rfl ?_) rfl rfl ?_; (focus (((rfl)); done))) | refine v_op (g_bld rfl rfl) rfl rfl ?_ | (refine c_fns rfl rfl rfl (cx_bo1 _) rfl ?_; rintro _ G hle ⟨p1, a1, b1, c1, rfl⟩; ((try have hR1 := SchR.mono hR1 hle); (try have hR1 := ScI.mono hR1 hle))) | (refine c_fns rfl rfl rfl (cx_bo2 _) rfl ?_; rintro _ G hle ⟨p2, a2, b2, c2, rfl⟩; ((try have hR1 := SchR.mono hR1 hle); (try have hR1 := ScI.mono hR1 hle)))) | (refine k_gt rfl rfl ?_ ?_; (focus (((rfl)); done))) | (refine k_tt rfl ?_ ?_; (focus (((rfl)); done))))
    all_goals refine k_rr (vs := [_, _, _, _]) rfl ⟨rfl, rc_A rfl rfl rfl rfl, rc_A rfl rfl rfl rfl, rfl, trivial⟩ rfl (List.nil_sublist _) ⟨(Gh.le.trans (by assumption) hle), rfl, ?_⟩
    all_goals exact ⟨_, _, _, _, _, _, _, rfl⟩
  | true =>
    cases e2 : kindS r l with
    | false =>
      have cx_bo1 := k0 hs hk
      have cx_bo2 := k0 hr hl
      rw [e1] at cx_bo1
      rw [e2] at cx_bo2
      rw [evReads_no (.inr e2)]
      refine b_enter [(0, _), (1, _), (2, _), (3, _)] Tryz.func27 (by kernel_rfl) Tryz.ntmps27 rfl rfl (by repeat (first | exact trivial | refine ⟨rfl, ?_⟩)) fun B hok hB hW => ?_
      repeat' (first | (refine run (t := tb) 400 rfl ?_ ?_; (focus (repeat' ((exact trivial))))) | (refine k_op rfl ?_; first | refine c_al rfl rfl fun _ => ?_ | refine c_stA rfl rfl rfl rfl rfl rfl ?_ | (refine v_op (g_pickF rfl rfl ?_) rfl rfl ?_; (focus (((rfl)); done))) | refine v_op (g_bld rfl rfl) rfl rfl ?_ | (refine c_fns rfl rfl rfl (cx_bo1 _) rfl ?_; rintro _ G hle ⟨p1, a1, b1, c1, rfl⟩; ((try have hR1 := SchR.mono hR1 hle); (try have hR1 := ScI.mono hR1 hle))) | (refine c_fns rfl rfl rfl (cx_bo2 _) rfl ?_; rintro _ G hle ⟨p2, a2, b2, c2, rfl⟩; ((try have hR1 := SchR.mono hR1 hle); (try have hR1 := ScI.mono hR1 hle)))) | (refine k_gf rfl rfl ?_ ?_; (focus (((rfl)); done))) | (refine k_tt rfl ?_ ?_; (focus (((rfl)); done))))
      all_goals refine k_rr (vs := [_, _, _, _]) rfl ⟨rfl, rc_A rfl rfl rfl rfl, rc_A rfl rfl rfl rfl, rfl, trivial⟩ rfl (List.nil_sublist _) ⟨(Gh.le.trans (by assumption) hle), rfl, ?_⟩
      all_goals exact ⟨_, _, _, _, _, _, _, rfl⟩
    | true =>
      obtain ⟨ts, t1, t2, t3⟩ := kindS_some e1
      obtain ⟨us, u1, u2, u3⟩ := kindS_some e2
      have k1 : ∀ {s k : List UInt8} {ts : List Ty}, s.length ≤ 1048576 → k.length ≤ 1048576 → schemaOf s = some ts → kindS s k = true → ∀ G, FnS Tryz.prog 25 [S s, S k] G (fun v G' => ∃ b qs, v = Tu [Pt b 0, Ag [S (sg k), S (bs k), S (nm k)], Bo true] ∧ tyq qs = ts ∧ ScI G' b qs) := fun hs hk h1 h3 G => by
        refine (c_both (G := G) (by omega) (by omega)).mono ?_
        rintro v G' L' ⟨g1, g2, ⟨g3, _⟩ | ⟨b, qs, rfl, g4, g5, g6⟩⟩
        · rw [h3] at g3; cases g3
        · rw [h1] at g4; exact ⟨g1, g2, b, qs, rfl, (Option.some.inj g4).symm, g6⟩
      have cx_boa := k1 hs hk t1 e1
      have cx_bob := k1 hr hl u1 e2
      rw [evReads_yes t1 u1 t2 u2]
      
      refine b_enter [(0, _), (1, _), (2, _), (3, _)] Tryz.func27 (by kernel_rfl) Tryz.ntmps27 rfl rfl (by repeat (first | exact trivial | refine ⟨rfl, ?_⟩)) fun B hok hB hW => ?_
      repeat' (first | (refine run (t := tb) 400 rfl ?_ ?_; (focus (repeat' ((exact trivial))))) | (refine k_op rfl ?_; first | refine c_al rfl rfl fun _ => ?_ | refine c_stA rfl rfl rfl rfl rfl rfl ?_ | (refine v_op (g_pickF rfl rfl ?_) rfl rfl ?_; (focus (((rfl)); done))) | refine v_op (g_bld rfl rfl) rfl rfl ?_ | refine c_mkp rfl fun _ => ?_ | refine c_bx rfl rfl rfl fun _ => ?_ | (refine c_fns rfl rfl rfl (cx_boa _) rfl ?_; rintro _ G hle ⟨ba, qa, rfl, hT1, hR1⟩; ((try have hR1 := SchR.mono hR1 hle); (try have hR1 := ScI.mono hR1 hle))) | (refine c_fns rfl rfl rfl (cx_bob _) rfl ?_; rintro _ G hle ⟨bb, qb, rfl, hT2, hR2⟩; ((try have hR1 := SchR.mono hR1 hle); (try have hR1 := ScI.mono hR1 hle)))) | (refine k_gf rfl rfl ?_ ?_; (focus (((rfl)); done))) | (refine k_ff rfl ?_ ?_; (focus (((rfl)); done))))
      rename_i x9 x10 G1 hle1 hR0 x13 x16 mb eb
      refine Nx.sealC (b := eb) fun G2 hle2 hE => ?_
      subst hT1
      subst hT2
      have cx_k0 := c_kindsI (mb := mb) hE (hR1.mono hle2) (hR2.mono hle2) t3 u3 ((tyq qa).length * (tyq qb).length + 1) k l [] AskW.nil (by simp) t2 u2
      generalize evoK (tyq qa) (tyq qb) ((tyq qa).length * (tyq qb).length + 1) k l [] = q at cx_k0 ⊢
      have cx_ks : FnG Tryz.prog 40 [Pt eb 0, Ag [S (sg k), S (bs k), S (nm k)], Ag [S (sg l), S (bs l), S (nm l)]] G2 [.blk mb (mapP [])] (fun v L' => v = Bo q.1 ∧ L' = [.blk mb (mapP q.2)]) := cx_k0
      (refine k_any (s_any (id := 6) [.blk x16 (.cells (List.toArray [S (sg l), S (bs l), S (nm l)]) tKv (0, 0)), .blk x13 (.cells (List.toArray [S (sg k), S (bs k), S (nm k)]) tKv (0, 0))] (by intro y hy; simp only [List.mem_cons, List.not_mem_nil, or_false] at hy ⊢; rcases hy with hy | hy <;> simp [hy]) mixed ?_); refine x_tks (t := tb) (fuel := 9) [0, 3] (bts 11 9) (by kernel_rfl) (by kernel_rfl) rfl rfl (Gh.le.refl _) (by repeat (first | exact List.nil_sublist _ | apply List.Sublist.cons_cons | apply List.Sublist.cons)) ?_ ?_; (focus (repeat' ((exact trivial)))); ((refine (x_tkg (bts 11 11) 1 rfl (by kernel_rfl) rfl (Gh.le.refl _) (by repeat (first | exact List.nil_sublist _ | apply List.Sublist.cons_cons | apply List.Sublist.cons))) (g_ldA rfl rfl rfl rfl) rfl rfl ?_)); ((refine (x_tkg (bts 11 15) 2 rfl (by kernel_rfl) rfl (Gh.le.refl _) (by repeat (first | exact List.nil_sublist _ | apply List.Sublist.cons_cons | apply List.Sublist.cons))) (g_ldA rfl rfl rfl rfl) rfl rfl ?_)); ((refine (x_tkg (bts 11 31) 4 rfl (by kernel_rfl) rfl (Gh.le.refl _) (by repeat (first | exact List.nil_sublist _ | apply List.Sublist.cons_cons | apply List.Sublist.cons))) (g_ldA rfl rfl rfl rfl) rfl rfl ?_)); ((refine (x_tkg (bts 11 63) 5 rfl (by kernel_rfl) rfl (Gh.le.refl _) (by repeat (first | exact List.nil_sublist _ | apply List.Sublist.cons_cons | apply List.Sublist.cons))) (g_ldA rfl rfl rfl rfl) rfl rfl ?_)); refine x_all [6] (by kernel_rfl) (by decide) ⟨?_, trivial⟩; refine x_opg rfl rfl ?_; ((refine c_mapg rfl rfl rfl cx_ks rfl ?_; rintro _ _ ⟨rfl, rfl⟩; dsimp only [List.cons_append, List.nil_append])); refine x_kk (by (exact Gh.le.refl _)) (by repeat (first | exact List.nil_sublist _ | apply List.Sublist.cons_cons | apply List.Sublist.cons)) (listed' := (bts 11 127)) (by kernel_rfl) ?_; refine x_tks (t := tb) (fuel := 3) [7] (bts 11 255) (by kernel_rfl) (by kernel_rfl) rfl rfl (Gh.le.refl _) (by repeat (first | exact List.nil_sublist _ | apply List.Sublist.cons_cons | apply List.Sublist.cons)) ?_ ?_; (focus (repeat' ((exact trivial)))); refine x_all [8] (by kernel_rfl) (by decide) ⟨?_, trivial⟩; refine x_opg rfl rfl ?_; ((refine c_stA rfl rfl rfl rfl rfl rfl ?_)); refine x_kk (by (exact Gh.le.refl _)) (by repeat (first | exact List.nil_sublist _ | apply List.Sublist.cons_cons | apply List.Sublist.cons)) (listed' := (bts 11 511)) (by kernel_rfl) ?_; refine x_all [9] (by kernel_rfl) (by decide) ⟨?_, trivial⟩; refine x_opg rfl rfl ?_; ((refine c_stA rfl rfl rfl rfl rfl rfl ?_)); refine x_kk (by (exact Gh.le.refl _)) (by repeat (first | exact List.nil_sublist _ | apply List.Sublist.cons_cons | apply List.Sublist.cons)) (listed' := (bts 11 1023)) (by kernel_rfl) ?_; refine x_tks (t := tb) (fuel := 0) [10] (bts 11 2047) (by kernel_rfl) (by kernel_rfl) rfl rfl (Gh.le.refl _) (by repeat (first | exact List.nil_sublist _ | apply List.Sublist.cons_cons | apply List.Sublist.cons)) ?_ ?_; (focus (repeat' ((exact trivial)))); refine x_done (by kernel_rfl) (k_bk ?_))
      repeat' ((refine run (t := tb) 400 rfl ?_ ?_; (focus (repeat' ((exact trivial))))))
      
      all_goals refine k_rr (vs := [_, _, _, _]) rfl ⟨rfl, rc_A rfl rfl rfl rfl, rc_A rfl rfl rfl rfl, rfl, trivial⟩ rfl (List.nil_sublist _) ⟨((Gh.le.trans hle1 hle).trans hle2), rfl, ?_⟩
      all_goals exact ⟨_, _, _, _, _, _, _, rfl⟩
theorem c_EvolveReadsI {s k r l : List UInt8} (hs : s.length ≤ 1048576) (hk : k.length ≤ 1048576) (hr : r.length ≤ 1048576) (hl : l.length ≤ 1048576) :
    PuG Tryz.prog 16 [S s, S k, S r, S l] G (· = Bo (evReads s k r l)) := by
  have cx_ev := fun G => c_evolve (G := G) hs hk hr hl
  refine b_enter (Post := fun v G' L' => G' = G ∧ L' = [] ∧ _) [(0, _), (1, _), (2, _), (3, _)] Tryz.func16 (by kernel_rfl) Tryz.ntmps16 rfl rfl (by repeat (first | exact trivial | refine ⟨rfl, ?_⟩)) fun B hok hB hW => ?_
  repeat' (first | (refine run (t := tb) 400 rfl ?_ ?_; (focus (repeat' ((exact trivial))))) | (refine k_op rfl ?_; first | refine c_al rfl rfl fun _ => ?_ | refine c_stA rfl rfl rfl rfl rfl rfl ?_ | (refine c_fns rfl rfl rfl (cx_ev _) rfl ?_; rintro _ G hle ⟨x1, y1, y2, y3, y4, y5, y6, rfl⟩; ((try have hR1 := SchR.mono hR1 hle); (try have hR1 := ScI.mono hR1 hle)))))
  all_goals refine Nx.base hok hB ?_
  all_goals refine k_rr (vs := [_]) rfl ⟨rfl, trivial⟩ rfl (List.nil_sublist _) ⟨rfl, rfl, ?_⟩
  all_goals rfl
end Go.E
/-! Mr -/
namespace Go.E
set_option maxRecDepth 20000
set_option maxHeartbeats 2000000
open Go.Proofs
variable {G : Gh}
abbrev Mt := List UInt8 × List UInt8 × List UInt8
def mtF (m : Mt) : List Value := [S m.1, S m.2.1, S m.2.2]
instance : RowF mtF 3 := ⟨fun _ => rfl⟩
abbrev MtW (m : Mt) : Prop := m.1.length ≤ 9223372036854775807 ∧ m.2.1.length ≤ 9223372036854775807 ∧ m.2.2.length ≤ 9223372036854775807
abbrev MtL (m : Mt) : Prop := m.1.length ≤ 1048576 ∧ m.2.1.length ≤ 1048576 ∧ m.2.2.length ≤ 1048576
theorem c_toMethod {c : Mt} : PuG Tryz.prog 23 [Ag (mtF c)] G (· = Ag (mtF c)) := by
  refine p_enter [(0, _)] Tryz.func23 (by kernel_rfl) Tryz.ntmps23 rfl rfl (by repeat (first | exact trivial | refine ⟨rfl, ?_⟩)) fun B hB => ?_
  repeat' (first | (refine run (t := tb) 400 rfl ?_ ?_; (focus (repeat' ((exact trivial))))) | (refine k_op rfl ?_; first | refine c_bx rfl rfl rfl fun _ => ?_ | refine c_al rfl rfl fun _ => ?_ | refine v_op (g_ld rfl rfl rfl) rfl rfl ?_ | refine v_op (g_ldA rfl rfl rfl rfl) rfl rfl ?_ | refine c_st1 rfl rfl rfl rfl ?_ | refine c_stA rfl rfl rfl rfl rfl rfl ?_))
  refine k_rr (vs := [_]) rfl ⟨rc_A rfl rfl rfl rfl, trivial⟩ rfl (List.nil_sublist _) ⟨rfl, rfl, ?_⟩
  rfl
theorem c_eqMethod {c e : Mt} : PuG Tryz.prog 28 [Ag (mtF c), Ag (mtF e)] G (· = Bo (decide (c = e))) := by
  obtain ⟨c1, c2, c3⟩ := c
  obtain ⟨e1, e2, e3⟩ := e
  refine p_enter [(0, _), (1, _)] Tryz.func28 (by kernel_rfl) Tryz.ntmps28 rfl rfl (by repeat (first | exact trivial | refine ⟨rfl, ?_⟩)) fun B hB => ?_
  repeat' (first | (refine run (t := tb) 400 rfl ?_ ?_; (focus (repeat' ((exact trivial))))) | (refine k_op rfl ?_; first | refine c_bx rfl rfl rfl fun _ => ?_ | refine v_op (g_ld rfl rfl rfl) rfl rfl ?_) | refine k_if rfl (fun _ => ?_) (fun _ => ?_))
  all_goals refine k_rr (vs := [_]) rfl ⟨rfl, trivial⟩ rfl (List.nil_sublist _) ⟨rfl, rfl, ?_⟩
  all_goals (rw [oneOf_one]; simp_all)
theorem c_szMethod {c : Mt} {z : Int} (h : (0 ≤ z ∧ z ≤ 1048576) ∧ MtW c) :
    PuG Tryz.prog 18 [Ag (mtF c), I z] G (fun v => ∃ z', v = I z' ∧ (0 ≤ z' → z' = z - c.1.length - c.2.1.length - c.2.2.length) ∧ -1 ≤ z') := by
  obtain ⟨⟨h1, h2⟩, h3, h4, h5⟩ := h
  refine p_enter [(0, _), (1, _)] Tryz.func18 (by kernel_rfl) Tryz.ntmps18 rfl rfl (by repeat (first | exact trivial | refine ⟨rfl, ?_⟩)) fun B hB => ?_
  repeat' (first | (refine run (t := tb) 400 rfl ?_ ?_; (focus (repeat' (first | exact trivial | apply And.intro | omega)))) | (refine k_op rfl ?_; first | refine c_bx rfl rfl rfl fun _ => ?_ | refine v_op (g_ld rfl rfl rfl) rfl rfl ?_) | refine k_if rfl (fun _ => ?_) (fun _ => ?_))
  all_goals refine k_rr (vs := [_]) rfl ⟨rfl, trivial⟩ rfl (List.nil_sublist _) ⟨rfl, rfl, ?_⟩
  all_goals exact ⟨_, rfl, by omega, by omega⟩
theorem c_szMethodS {u : Value} {a : List Mt} {z : Int} (h : (0 ≤ z ∧ z ≤ 1048576) ∧ a.length ≤ 9223372036854775807) (hu : SlV G u 3 a.length (rows mtF a)) (ha : ∀ x ∈ a, MtW x) :
    PuG Tryz.prog 9 [u, I z] G (fun v => v = I (-1) ∨ ∃ z', v = I z' ∧ (0 ≤ z' ∧ z' ≤ z ∧ a.length ≤ 1048576) ∧ ∀ x ∈ a, MtL x) := by
  refine p_enter [(0, _), (1, _)] Tryz.func9 (by kernel_rfl) Tryz.ntmps9 rfl rfl (by repeat (first | exact trivial | refine ⟨rfl, ?_⟩)) fun B hB => ?_
  repeat' (first | (refine run (t := tb) 400 rfl ?_ ?_; (focus (repeat' (first | exact trivial | apply And.intro | omega)))) | (refine k_op rfl ?_; (refine v_op (g_lenV rfl (by assumption)) rfl rfl ?_)) | refine k_if rfl (fun _ => ?_) (fun _ => ?_))
  · refine k_rr (vs := [_]) rfl ⟨rfl, trivial⟩ rfl (List.nil_sublist _) ⟨rfl, rfl, ?_⟩
    exact .inl rfl
  · refine k_loop (ι := Nat × Int) (fun i => i.1 ≤ a.length ∧ 0 ≤ i.2 ∧ i.2 ≤ z - a.length ∧ ∀ k, k < i.1 → MtL (nth a k)) (fun i => [(0, u), (1, I i.2), (5, I i.1)]) (fun _ => G) (fun i => []) (fun i => a.length - i.1) (0, z - a.length) ?_ (by repeat (first | exact trivial | refine ⟨rfl, ?_⟩)) rfl (by repeat ((exact List.Sublist.refl _))) (fun i Hi => ?_)
    · refine ⟨by omega, by dsimp only; omega, by dsimp only; omega, fun k hk => absurd hk (by simp)⟩
    obtain ⟨i, m⟩ := i
    dsimp only at Hi ⊢
    by_cases hi : i < a.length
    · obtain ⟨ba, oa, ca, rfl, sa⟩ := hu.expl (by omega)
      have hx := ha _ (nth_mem hi)
      repeat' (first | (refine run (t := tb) 400 rfl ?_ ?_; (focus (repeat' (first | exact trivial | apply And.intro | omega)))) | (refine k_op rfl ?_; first | refine v_op (g_lenL rfl) rfl rfl ?_ | (refine v_op (g_iaddrN rfl rfl ?_) rfl rfl ?_; (focus ((omega); done))) | (refine v_op (g_ldR rfl rfl (by assumption) ?_) rfl rfl ?_; (focus (((omega)); done))) | (refine c_pu rfl rfl rfl (c_szMethod ?_) rfl ?_; (focus (((omega)); done)); rintro _ ⟨z, rfl, hz1, hz2⟩)) | (refine k_tt rfl ?_ ?_; (focus (((refine decide_eq_true ?_; (omega))); done))) | refine k_if rfl (fun _ => ?_) (fun _ => ?_))
      · refine k_rr (vs := [_]) rfl ⟨rfl, trivial⟩ rfl (List.nil_sublist _) ⟨rfl, rfl, ?_⟩
        exact .inl rfl
      · rename_i hz3
        have hz4 := hz1 (by omega)
        refine k_rd (i + 1, z) ?_ ?_ (by repeat (first | exact trivial | refine ⟨rfl, ?_⟩)) rfl (by repeat ((exact List.Sublist.refl _)))
        · refine ⟨by dsimp only; omega, by dsimp only; omega, by dsimp only; omega, fun k hk => ?_⟩
          rcases Nat.lt_or_ge k i with h1 | h1
          · exact Hi.2.2.2 k h1
          · have : k = i := by dsimp only at hk; omega
            subst this; unfold MtL; omega
        · dsimp only; omega
    · repeat' (first | (refine run (t := tb) 400 rfl ?_ ?_; (focus (repeat' ((exact trivial))))) | (refine k_op rfl ?_; (refine v_op (g_lenV rfl (by assumption)) rfl rfl ?_)) | (refine k_ff rfl ?_ ?_; (focus (((refine decide_eq_false ?_; (omega))); done))))
      refine k_rr (vs := [_]) rfl ⟨rfl, trivial⟩ rfl (List.nil_sublist _) ⟨rfl, rfl, ?_⟩
      refine .inr ⟨_, rfl, by omega, fun x hx => ?_⟩
      obtain ⟨k, hk, rfl⟩ := mem_nth hx
      exact Hi.2.2.2 k (by omega)
theorem c_eqMethodS {u v : Value} {a b : List Mt} (hu : SlV G u 3 a.length (rows mtF a)) (hv : SlV G v 3 b.length (rows mtF b)) (hn : a.length ≤ 1048576) :
    PuG Tryz.prog 17 [u, v] G (· = Bo (decide (a = b))) := by
  refine p_enter [(0, _), (1, _)] Tryz.func17 (by kernel_rfl) Tryz.ntmps17 rfl rfl (by repeat (first | exact trivial | refine ⟨rfl, ?_⟩)) fun B hB => ?_
  repeat' (first | (refine run (t := tb) 400 rfl ?_ ?_; (focus (repeat' ((exact trivial))))) | (refine k_op rfl ?_; (refine v_op (g_lenV rfl (by assumption)) rfl rfl ?_)) | refine k_if rfl (fun _ => ?_) (fun _ => ?_))
  · refine k_rr (vs := [_]) rfl ⟨rfl, trivial⟩ rfl (List.nil_sublist _) ⟨rfl, rfl, ?_⟩
    rw [oneOf_one]
    exact congrArg Bo (decide_eq_false (fun h => by subst h; simp_all)).symm
  · have hl : a.length = b.length := by simp_all; omega
    refine k_loop (ι := Nat) (fun i => i ≤ a.length ∧ a.take i = b.take i) (fun i => [(0, u), (1, v), (5, I i)]) (fun _ => G) (fun i => []) (fun i => a.length - i) 0 ?_ (by repeat (first | exact trivial | refine ⟨rfl, ?_⟩)) rfl (by repeat ((exact List.Sublist.refl _))) (fun i Hi => ?_)
    · exact ⟨by omega, rfl⟩
    by_cases hi : i < a.length
    · obtain ⟨ba, oa, ca, rfl, sa⟩ := hu.expl (by omega)
      obtain ⟨bb, ob, cb, rfl, sb⟩ := hv.expl (by omega)
      repeat' (first | (refine run (t := tb) 400 rfl ?_ ?_; (focus (repeat' (first | exact trivial | apply And.intro | omega)))) | (refine k_op rfl ?_; (refine v_op (g_lenL rfl) rfl rfl ?_)) | (refine k_tt rfl ?_ ?_; (focus (((refine decide_eq_true ?_; (omega))); done))) | refine k_cd rfl (fun _ => ?_) (fun _ => ?_) | (refine k_any (s_any (id := 6) _ (fun _ h => h) mixed ?_); refine x_tks (t := tb) (fuel := 6) [0, 1, 4, 5] (bts 10 51) (by kernel_rfl) (by kernel_rfl) rfl rfl (Gh.le.refl _) (by repeat ((exact List.Sublist.refl _))) ?_ ?_; (focus (repeat' ((exact trivial)))); ((refine (x_tkg (bts 10 55) 2 rfl (by kernel_rfl) rfl (Gh.le.refl _) (by repeat ((exact List.Sublist.refl _)))) (g_iaddrN rfl rfl ?_) rfl rfl ?_; (focus ((omega); done)))); ((refine (x_tkg (bts 10 63) 3 rfl (by kernel_rfl) rfl (Gh.le.refl _) (by repeat ((exact List.Sublist.refl _)))) (g_ldR rfl rfl (by assumption) ?_) rfl rfl ?_; (focus (((omega)); done)))); ((refine (x_tkg (bts 10 127) 6 rfl (by kernel_rfl) rfl (Gh.le.refl _) (by repeat ((exact List.Sublist.refl _)))) (g_iaddrN rfl rfl ?_) rfl rfl ?_; (focus ((omega); done)))); ((refine (x_tkg (bts 10 255) 7 rfl (by kernel_rfl) rfl (Gh.le.refl _) (by repeat ((exact List.Sublist.refl _)))) (g_ldR rfl rfl (by assumption) ?_) rfl rfl ?_; (focus (((omega)); done)))); refine x_all [8] (by kernel_rfl) (by decide) ⟨?_, trivial⟩; refine x_opg rfl rfl ?_; ((refine c_rt rfl rfl rfl c_eqMethod rfl ?_)); refine x_ks (by (exact Gh.le.refl _)) (by repeat ((exact List.Sublist.refl _))) (listed' := (bts 10 511)) (by kernel_rfl) ?_; refine x_tks (t := tb) (fuel := 0) [9] (bts 10 1023) (by kernel_rfl) (by kernel_rfl) rfl rfl (Gh.le.refl _) (by repeat ((exact List.Sublist.refl _))) ?_ ?_; (focus (repeat' ((exact trivial)))); refine x_done (by kernel_rfl) (k_bk ?_)))
      · rename_i hne
        refine k_rr (vs := [_]) rfl ⟨rfl, trivial⟩ rfl (List.nil_sublist _) ⟨rfl, rfl, ?_⟩
        rw [oneOf_one]
        refine congrArg Bo (decide_eq_false fun h => ?_).symm
        subst h
        simp at hne
      · rename_i hne
        have he : nth a i = nth b i := by simpa using hne
        refine k_rd (i + 1) ?_ ?_ (by repeat (first | exact trivial | refine ⟨rfl, ?_⟩)) rfl (by repeat ((exact List.Sublist.refl _)))
        · refine ⟨by omega, ?_⟩
          rw [take_nth hi, take_nth (by omega), Hi.2, he]
        · omega
    · repeat' (first | (refine run (t := tb) 400 rfl ?_ ?_; (focus (repeat' ((exact trivial))))) | (refine k_op rfl ?_; (refine v_op (g_lenV rfl (by assumption)) rfl rfl ?_)) | (refine k_ff rfl ?_ ?_; (focus (((refine decide_eq_false ?_; (omega))); done))))
      refine k_rr (vs := [_]) rfl ⟨rfl, trivial⟩ rfl (List.nil_sublist _) ⟨rfl, rfl, ?_⟩
      have ei : i = a.length := by omega
      rw [oneOf_one]
      refine congrArg Bo (decide_eq_true ?_).symm
      have := Hi.2
      rw [ei, List.take_length, hl, List.take_length] at this
      exact this
abbrev tMt2 : TypeId := 35
theorem c_toMethodS {u : Value} {a : List Mt} (hu : SlV G u 3 a.length (rows mtF a)) (hn : a.length ≤ 1048576) :
    FnS Tryz.prog 13 [u] G (fun v G' => ∃ u', v = u' ∧ SlV G' u' 3 a.length (rows mtF a)) := by
  refine b_enter [(0, _)] Tryz.func13 (by kernel_rfl) Tryz.ntmps13 rfl rfl (by repeat (first | exact trivial | refine ⟨rfl, ?_⟩)) fun B hok hB hW => ?_
  repeat' (first | (refine run (t := tb) 400 rfl ?_ ?_; (focus (repeat' ((exact trivial))))) | (refine k_op rfl ?_; first | refine v_op (g_lenV rfl (by assumption)) rfl rfl ?_ | (refine c_mk rfl rfl rfl rfl ?_ (fun _ => ?_); (focus (((omega)); done)))))
  rename_i x
  refine k_loop (ι := Nat) (fun i => i ≤ a.length) (fun i => [(0, u), (3, .slice (some ⟨x, 0, none⟩) a.length a.length), (4, I i)]) (fun _ => G) (fun i => [.blk x (.cells (rows mtF (a.take i) ++ zerosL [S [], S [], S []] (a.length - i)).toArray tMt2 (0, 0))]) (fun i => a.length - i) 0 ?_ (by repeat (first | exact trivial | refine ⟨rfl, ?_⟩)) rfl (by repeat ((exact List.Sublist.refl _))) (fun i Hi => ?_)
  · exact Nat.zero_le _
  by_cases hi : i < a.length
  · obtain ⟨ba, oa, ca, rfl, sa⟩ := hu.expl (by omega)
    repeat' (first | (refine run (t := tb) 400 rfl ?_ ?_; (focus (repeat' (first | exact trivial | apply And.intro | omega)))) | (refine k_op rfl ?_; first | refine v_op (g_lenL rfl) rfl rfl ?_ | (refine v_op (g_iaddrN rfl rfl ?_) rfl rfl ?_; (focus ((omega); done))) | (refine v_op (g_ldR rfl rfl (by assumption) ?_) rfl rfl ?_; (focus (((omega)); done))) | (refine c_stR rfl rfl rfl rfl rfl rfl ?_ ?_ ?_; (focus (((simp only [List.length_append, List.length_cons, List.length_nil, List.length_take]; omega)); done)); (focus (((omega)); done))) | (refine c_rt rfl rfl rfl c_toMethod rfl ?_)) | (refine k_tt rfl ?_ ?_; (focus (((refine decide_eq_true ?_; (omega))); done))))
    refine k_rd (i + 1) (by omega) (by omega) (by repeat (first | exact trivial | refine ⟨rfl, ?_⟩)) rfl (by rw [take_nth hi]; exact List.Sublist.refl _)
  · repeat' (first | (refine run (t := tb) 400 rfl ?_ ?_; (focus (repeat' ((exact trivial))))) | (refine k_op rfl ?_; (refine v_op (g_lenV rfl (by assumption)) rfl rfl ?_)) | (refine k_ff rfl ?_ ?_; (focus (((refine decide_eq_false ?_; (omega))); done))))
    have ei : i = a.length := by omega
    subst ei
    refine Nx.sealB .here fun G' hle hseg => ?_
    simp only [List.take_length, Nat.sub_self, zerosL, List.append_nil] at hseg
    exact k_rr (vs := [_]) rfl ⟨rfl, trivial⟩ rfl (List.nil_sublist _) ⟨hle, rfl, _, rfl, ⟨rows_len a, .inr ⟨_, _, _, rfl, Nat.le_refl _, hseg⟩⟩⟩
end Go.E
/-! Ms -/
namespace Go.E
set_option maxRecDepth 20000
set_option maxHeartbeats 2000000
open Go.Proofs
variable {G : Gh}
theorem c_eqService {s r : List UInt8} {u v : Value} {a b : List Mt} (hu : SlV G u 3 a.length (rows mtF a)) (hv : SlV G v 3 b.length (rows mtF b)) (hn : a.length ≤ 1048576) :
    PuG Tryz.prog 8 [Ag [S s, u], Ag [S r, v]] G (· = Bo (decide (s = r ∧ a = b))) := by
  refine p_enter [(0, _), (1, _)] Tryz.func8 (by kernel_rfl) Tryz.ntmps8 rfl rfl (by repeat (first | exact trivial | refine ⟨rfl, ?_⟩)) fun B hB => ?_
  repeat' (first | (refine run (t := tb) 400 rfl ?_ ?_; (focus (repeat' ((exact trivial))))) | (refine k_op rfl ?_; first | refine c_bx rfl rfl rfl fun _ => ?_ | refine v_op (g_ld rfl rfl rfl) rfl rfl ?_ | (refine c_rt rfl rfl rfl (c_eqMethodS (by (repeat ((assumption))); done) (by (repeat ((assumption))); done) ?_) rfl ?_; (focus (((assumption)); done)))) | refine k_if rfl (fun _ => ?_) (fun _ => ?_) | refine k_cd rfl (fun _ => ?_) (fun _ => ?_))
  all_goals refine k_rr (vs := [_]) rfl ⟨rfl, trivial⟩ rfl (List.nil_sublist _) ⟨rfl, rfl, ?_⟩
  all_goals (rw [oneOf_one]; simp_all)
theorem c_szService {s : List UInt8} {u : Value} {a : List Mt} {z : Int} (h : (0 ≤ z ∧ z ≤ 1048576) ∧ s.length ≤ 9223372036854775807 ∧ a.length ≤ 9223372036854775807) (hu : SlV G u 3 a.length (rows mtF a)) (ha : ∀ x ∈ a, MtW x) :
    PuG Tryz.prog 4 [Ag [S s, u], I z] G (fun v => v = I (-1) ∨ ∃ z', v = I z' ∧ ((0 ≤ z' ∧ z' ≤ z) ∧ s.length ≤ 1048576 ∧ a.length ≤ 1048576) ∧ ∀ x ∈ a, MtL x) := by
  refine p_enter [(0, _), (1, _)] Tryz.func4 (by kernel_rfl) Tryz.ntmps4 rfl rfl (by repeat (first | exact trivial | refine ⟨rfl, ?_⟩)) fun B hB => ?_
  repeat' (first | (refine run (t := tb) 400 rfl ?_ ?_; (focus (repeat' (first | exact trivial | apply And.intro | omega)))) | (refine k_op rfl ?_; first | refine c_bx rfl rfl rfl fun _ => ?_ | refine v_op (g_ld rfl rfl rfl) rfl rfl ?_ | (refine c_pu rfl rfl rfl (c_szMethodS ?_ (by (repeat ((assumption))); done) (by (repeat ((assumption))); done)) rfl ?_; (focus (((omega)); done)); rintro _ (rfl | ⟨z, rfl, hz1, hz2⟩))) | (refine k_tt rfl ?_ ?_; (focus (((rfl)); done))) | (refine k_ff rfl ?_ ?_; (focus (((refine decide_eq_false ?_; (omega))); done))) | refine k_if rfl (fun _ => ?_) (fun _ => ?_))
  all_goals refine k_rr (vs := [_]) rfl ⟨rfl, trivial⟩ rfl (List.nil_sublist _) ⟨rfl, rfl, ?_⟩
  all_goals first | exact .inl rfl | exact .inr ⟨_, rfl, by omega, by assumption⟩
theorem c_toService {s : List UInt8} {u : Value} {a : List Mt} (hu : SlV G u 3 a.length (rows mtF a)) (hn : a.length ≤ 1048576) :
    FnS Tryz.prog 6 [Ag [S s, u]] G (fun v G' => ∃ u', v = Ag [S s, u'] ∧ SlV G' u' 3 a.length (rows mtF a)) := by
  refine b_enter [(0, _)] Tryz.func6 (by kernel_rfl) Tryz.ntmps6 rfl rfl (by repeat (first | exact trivial | refine ⟨rfl, ?_⟩)) fun B hok hB hW => ?_
  repeat' (first | (refine run (t := tb) 400 rfl ?_ ?_; (focus (repeat' ((exact trivial))))) | (refine k_op rfl ?_; first | refine c_bx rfl rfl rfl fun _ => ?_ | refine c_al rfl rfl fun _ => ?_ | refine v_op (g_ld rfl rfl rfl) rfl rfl ?_ | refine c_st1 rfl rfl rfl rfl ?_ | (refine c_fns rfl rfl rfl (c_toMethodS (by (repeat ((assumption))); done) ?_) rfl ?_; (focus (((assumption)); done)); rintro _ G hle ⟨u, rfl, hsl⟩; ((try have hR1 := SchR.mono hR1 hle); (try have hR1 := ScI.mono hR1 hle)))))
  obtain ⟨x, c, rfl⟩ := hsl.sl
  repeat' (first | (refine run (t := tb) 400 rfl ?_ ?_; (focus (repeat' ((exact trivial))))) | (refine k_op rfl ?_; first | refine v_op (g_ldA rfl rfl rfl rfl) rfl rfl ?_ | refine c_st1 rfl rfl rfl rfl ?_ | refine c_stA rfl rfl rfl rfl rfl rfl ?_))
  refine k_rr (vs := [_]) rfl ⟨rc_A rfl rfl rfl rfl, trivial⟩ rfl (List.nil_sublist _) ⟨hle, rfl, ?_⟩
  exact ⟨_, rfl, hsl⟩
def mtOk (ss : List UInt8) (m : Mt) : Bool := kindS ss m.2.1 && kindS ss m.2.2 && isNm m.1
end Go.E
/-! Mt -/
namespace Go.E
set_option maxRecDepth 20000
set_option maxHeartbeats 2000000

open Go.Proofs
variable {G : Gh}
def goodAt (s : List UInt8) (a : List Mt) (i : Nat) : Bool := mtOk s (nth a i) && (i == 0 || Op.bytesLess (nth a (i - 1)).1 (nth a i).1)
def svcOk (s : List UInt8) (a : List Mt) : Bool := (schemaOf s).isSome && decide (a.length ≤ 6) && (List.range a.length).all (goodAt s a)
theorem svc_no {s : List UInt8} {a : List Mt} {i : Nat} (hi : i < a.length) (h : goodAt s a i = false) : svcOk s a = false := by
  unfold svcOk
  rw [Bool.and_eq_false_iff]; right
  rw [List.all_eq_false]
  exact ⟨i, List.mem_range.2 hi, by rw [h]; simp⟩
theorem svc_yes {s : List UInt8} {a : List Mt} (hs : (schemaOf s).isSome = true) (h6 : a.length ≤ 6) (h : ∀ k, k < a.length → goodAt s a k = true) : svcOk s a = true := by
  unfold svcOk
  rw [hs, decide_eq_true h6]
  simp only [Bool.true_and, List.all_eq_true, List.mem_range]
  exact h
abbrev tSv : TypeId := 29
theorem c_ServiceOkS {s : List UInt8} {u : Value} {a : List Mt} (h : s.length ≤ 1048576) (hu : SlV G u 3 a.length (rows mtF a)) (hn : a.length ≤ 1048576) (ha : ∀ x ∈ a, MtL x) :
    PuG Tryz.prog 10 [Ag [S s, u]] G (· = Bo (svcOk s a)) := by
  have hs : s.length ≤ 10000000 := by omega
  refine b_enter (Post := fun v G' L' => G' = G ∧ L' = [] ∧ _) [(0, _)] Tryz.func10 (by kernel_rfl) Tryz.ntmps10 rfl rfl (by repeat (first | exact trivial | refine ⟨rfl, ?_⟩)) fun B hok hB hW => ?_
  repeat' (first | (refine run (t := tb) 400 rfl ?_ ?_; (focus (repeat' ((exact trivial))))) | (refine k_op rfl ?_; first | refine c_bx rfl rfl rfl fun _ => ?_ | refine v_op (g_ld rfl rfl rfl) rfl rfl ?_ | refine v_op (g_lenV rfl (by assumption)) rfl rfl ?_ | (refine v_op (g_pickT rfl rfl ?_) rfl rfl ?_; (focus (((rfl)); done))) | (refine v_op (g_pickF rfl rfl ?_) rfl rfl ?_; (focus (((rfl)); done))) | (refine c_rt rfl rfl rfl (c_SchemaOkS (by omega)) rfl ?_)) | refine k_gb rfl rfl (fun _ => ?_) (fun _ => ?_) | (refine k_tt rfl ?_ ?_; (focus (((rfl)); done))) | refine k_if rfl (fun _ => ?_) (fun _ => ?_))
  · rename_i h1
    refine Nx.base hok hB ?_
    refine k_rr (vs := [_]) rfl ⟨rfl, trivial⟩ rfl (List.nil_sublist _) ⟨rfl, rfl, ?_⟩
    have h2 : (schemaOf s).isSome = false := by simpa using h1
    unfold svcOk; rw [h2]; rfl
  · rename_i h1
    refine Nx.base hok hB ?_
    refine k_rr (vs := [_]) rfl ⟨rfl, trivial⟩ rfl (List.nil_sublist _) ⟨rfl, rfl, ?_⟩
    have h2 : decide (a.length ≤ 6) = false := by simp; omega
    unfold svcOk; rw [h2]; simp
  rename_i x h1 h2
  refine k_loop (ι := Nat × Gh) (fun i => (i.1 ≤ a.length ∧ Gh.le G i.2) ∧ ∀ k, k < i.1 → goodAt s a k = true) (fun i => [(1, Pt x 0), (3, I i.1)]) (fun i => i.2) (fun i => [.blk x (.cells #[S s, u] tSv (0, 0))]) (fun i => a.length - i.1) (0, G) ?_ (by repeat (first | exact trivial | refine ⟨rfl, ?_⟩)) rfl (by repeat ((exact List.Sublist.refl _))) (fun i Hi => ?_)
  · exact ⟨⟨Nat.zero_le _, Gh.le.refl _⟩, fun k hk => absurd hk (by simp)⟩
  obtain ⟨i, G1⟩ := i
  dsimp only at Hi ⊢
  obtain ⟨⟨hi1, hg⟩, hgood⟩ := Hi
  by_cases hi : i < a.length
  · obtain ⟨ba, oa, ca, rfl, sa⟩ := (hu.mono hg).expl (by omega)
    have hx := ha _ (nth_mem hi)
    cases e1 : kindS s (nth a i).2.1 <;> cases e2 : kindS s (nth a i).2.2 <;> cases e3 : isNm (nth a i).1
    all_goals
      have cx_lk1 : ∀ G, FnS Tryz.prog 20 [S s, S (nth a i).2.1] G (fun v _ => ∃ u, v = Tu [u, Bo (kindS s (nth a i).2.1)]) := fun G => by
        refine (c_l3Kind (G := G) hs (by omega)).mono ?_
        rintro v G' L' ⟨h1, h2, u, vs, rfl, _⟩
        exact ⟨h1, h2, u, rfl⟩
      have cx_lk2 : ∀ G, FnS Tryz.prog 20 [S s, S (nth a i).2.2] G (fun v _ => ∃ u, v = Tu [u, Bo (kindS s (nth a i).2.2)]) := fun G => by
        refine (c_l3Kind (G := G) hs (by omega)).mono ?_
        rintro v G' L' ⟨h1, h2, u, vs, rfl, _⟩
        exact ⟨h1, h2, u, rfl⟩
      have cx_nm2 : ∀ G, PuG Tryz.prog 21 [S (nth a i).1] G (· = Bo (isNm (nth a i).1)) := fun G => c_l2Name (by omega)
      rw [e1] at cx_lk1
      rw [e2] at cx_lk2
      rw [e3] at cx_nm2
    case true.true.true =>
      rcases i with _ | j
      · repeat' (first | (refine run (t := tb) 400 rfl ?_ ?_; (focus (repeat' (first | exact trivial | apply And.intro | omega)))) | (refine k_op rfl ?_; first | refine v_op (g_ld rfl rfl rfl) rfl rfl ?_ | (refine v_op (g_ldR rfl rfl (by assumption) ?_) rfl rfl ?_; (focus (((omega)); done))) | refine v_op (g_lenL rfl) rfl rfl ?_ | (refine v_op (g_iaddrN rfl rfl ?_) rfl rfl ?_; (focus ((omega); done))) | refine c_al rfl rfl fun _ => ?_ | refine c_stA rfl rfl rfl rfl rfl rfl ?_ | (refine c_fns rfl rfl rfl (cx_lk1 _) rfl ?_; rintro _ G hle ⟨u1, rfl⟩; ((try have sa := Seg.mono sa hle); (try have hg := Gh.le.trans hg hle))) | (refine c_fns rfl rfl rfl (cx_lk2 _) rfl ?_; rintro _ G hle ⟨u2, rfl⟩; ((try have sa := Seg.mono sa hle); (try have hg := Gh.le.trans hg hle)))) | (refine k_tt rfl ?_ ?_; (focus (((refine decide_eq_true ?_; (omega))); done))) | (refine k_ff rfl ?_ ?_; (focus (((rfl)); done))) | (refine k_any (s_any (id := 9) _ (fun _ h => h) mixed ?_); refine x_tks (t := tb) (fuel := 25) [0, 1, 2] (bts 28 7) (by kernel_rfl) (by kernel_rfl) rfl rfl (Gh.le.refl _) (by repeat ((exact List.Sublist.refl _))) ?_ ?_; (focus (repeat' ((exact trivial)))); (try ((refine Nx.re (d := 49) (v' := Bo false) rfl (congrArg Value.bool ?_) ?_; (focus (((rfl)); done))))); refine x_tks (t := tb) (fuel := 23) [3, 4] (bts 28 31) (by kernel_rfl) (by kernel_rfl) rfl rfl (Gh.le.refl _) (by repeat ((exact List.Sublist.refl _))) ?_ ?_; (focus (repeat' ((exact trivial)))); ((refine (x_tkg (bts 28 63) 5 rfl (by kernel_rfl) rfl (Gh.le.refl _) (by repeat ((exact List.Sublist.refl _)))) (g_pickF rfl rfl ?_) rfl rfl ?_; (focus (((rfl)); done)))); refine x_tks (t := tb) (fuel := 21) [6] (bts 28 127) (by kernel_rfl) (by kernel_rfl) rfl rfl (Gh.le.refl _) (by repeat ((exact List.Sublist.refl _))) ?_ ?_; (focus (repeat' ((exact trivial)))); (try ((refine Nx.re (d := 53) (v' := Bo false) rfl (congrArg Value.bool ?_) ?_; (focus (((rfl)); done))))); refine x_tks (t := tb) (fuel := 20) [7] (bts 28 255) (by kernel_rfl) (by kernel_rfl) rfl rfl (Gh.le.refl _) (by repeat ((exact List.Sublist.refl _))) ?_ ?_; (focus (repeat' ((exact trivial)))); ((refine (x_tkg (bts 28 511) 8 rfl (by kernel_rfl) rfl (Gh.le.refl _) (by repeat ((exact List.Sublist.refl _)))) (g_ld rfl rfl rfl) rfl rfl ?_)); ((refine x_all [9] (by kernel_rfl) (by decide) ⟨?_, trivial⟩; refine x_opg rfl rfl ?_; ((refine c_rt rfl rfl rfl (cx_nm2 _) rfl ?_)); refine x_ks (by (exact Gh.le.refl _)) (by repeat ((exact List.Sublist.refl _))) (listed' := (bts 28 1023)) (by kernel_rfl) ?_)); refine x_tks (t := tb) (fuel := 17) [10] (bts 28 2047) (by kernel_rfl) (by kernel_rfl) rfl rfl (Gh.le.refl _) (by repeat ((exact List.Sublist.refl _))) ?_ ?_; (focus (repeat' ((exact trivial)))); ((refine (x_tkg (bts 28 4095) 11 rfl (by kernel_rfl) rfl (Gh.le.refl _) (by repeat ((exact List.Sublist.refl _)))) (g_pickF rfl rfl ?_) rfl rfl ?_; (focus (((rfl)); done)))); refine x_tks (t := tb) (fuel := 15) [12] (bts 28 8191) (by kernel_rfl) (by kernel_rfl) rfl rfl (Gh.le.refl _) (by repeat ((exact List.Sublist.refl _))) ?_ ?_; (focus (repeat' ((exact trivial)))); (try ((refine Nx.re (d := 59) (v' := Bo false) rfl (congrArg Value.bool ?_) ?_; (focus (((rfl)); done))))); refine x_tks (t := tb) (fuel := 12) [13, 14, 15] (bts 28 65535) (by kernel_rfl) (by kernel_rfl) rfl rfl (Gh.le.refl _) (by repeat ((exact List.Sublist.refl _))) ?_ ?_; (focus (repeat' ((exact trivial)))); (try ((refine Nx.re (d := 62) (v' := Bo false) rfl (congrArg Value.bool ?_) ?_; (focus (((rfl)); done))))); refine x_tks (t := tb) (fuel := 8) [16, 18, 19, 23] (bts 28 9306111) (by kernel_rfl) (by kernel_rfl) rfl rfl (Gh.le.refl _) (by repeat ((exact List.Sublist.refl _))) ?_ ?_; (focus (repeat' ((exact trivial)))); ((refine x_tkn (bts 28 9437183) 17 rfl (by kernel_rfl) rfl (Gh.le.refl _) (by repeat ((exact List.Sublist.refl _))) rfl rfl ?_)); ((refine x_tkn (bts 28 10485759) 20 rfl (by kernel_rfl) rfl (Gh.le.refl _) (by repeat ((exact List.Sublist.refl _))) rfl rfl ?_)); refine x_tks (t := tb) (fuel := 5) [21] (bts 28 12582911) (by kernel_rfl) (by kernel_rfl) rfl rfl (Gh.le.refl _) (by repeat ((exact List.Sublist.refl _))) ?_ ?_; (focus (repeat' ((exact trivial)))); ((refine x_tkn (bts 28 16777215) 22 rfl (by kernel_rfl) rfl (Gh.le.refl _) (by repeat ((exact List.Sublist.refl _))) rfl rfl ?_)); ((refine x_tkn (bts 28 33554431) 24 rfl (by kernel_rfl) rfl (Gh.le.refl _) (by repeat ((exact List.Sublist.refl _))) rfl rfl ?_)); refine x_tks (t := tb) (fuel := 2) [25] (bts 28 67108863) (by kernel_rfl) (by kernel_rfl) rfl rfl (Gh.le.refl _) (by repeat ((exact List.Sublist.refl _))) ?_ ?_; (focus (repeat' ((exact trivial)))); ((refine (x_tkg (bts 28 134217727) 26 rfl (by kernel_rfl) rfl (Gh.le.refl _) (by repeat ((exact List.Sublist.refl _)))) (g_pickF rfl rfl ?_) rfl rfl ?_; (focus (((rfl)); done)))); ((refine (x_tkg (bts 28 268435455) 27 rfl (by kernel_rfl) rfl (Gh.le.refl _) (by repeat ((exact List.Sublist.refl _)))) (g_pickF rfl rfl ?_) rfl rfl ?_; (focus (((rfl)); done)))); refine x_done (by kernel_rfl) (k_bk ?_)))
        refine k_rd (1, G) ⟨⟨by dsimp only; omega, hg⟩, fun k hk => ?_⟩ (by dsimp only; omega) (by repeat (first | exact trivial | refine ⟨rfl, ?_⟩)) rfl (by repeat (first | exact List.Sublist.refl _ | apply List.Sublist.cons))
        have : k = 0 := by dsimp only at hk; omega
        subst this
        simp [goodAt, mtOk, e1, e2, e3]
      · have ej : ((((j + 1 : Nat) : Int) - 1).toNat) = j := by omega
        cases e5 : Op.bytesLess (nth a j).1 (nth a (j + 1)).1
        · have hb : goodAt s a (j + 1) = false := by simp [goodAt, e5]
          have e6 : Op.bytesLess (nth a (((j + 1 : Nat) : Int) - 1).toNat).1 (nth a (j + 1)).1 = false := by rw [ej]; exact e5
          repeat' (first | (refine run (t := tb) 400 rfl ?_ ?_; (focus (repeat' ((exact trivial))))) | (refine k_op rfl ?_; first | refine v_op (g_ld rfl rfl rfl) rfl rfl ?_ | (refine v_op (g_ldR rfl rfl (by assumption) ?_) rfl rfl ?_; (focus (((omega)); done))) | refine v_op (g_lenL rfl) rfl rfl ?_ | (refine v_op (g_iaddrN rfl rfl ?_) rfl rfl ?_; (focus ((omega); done))) | refine c_al rfl rfl fun _ => ?_ | refine c_stA rfl rfl rfl rfl rfl rfl ?_ | (refine c_fns rfl rfl rfl (cx_lk1 _) rfl ?_; rintro _ G hle ⟨u1, rfl⟩; ((try have sa := Seg.mono sa hle); (try have hg := Gh.le.trans hg hle))) | (refine c_fns rfl rfl rfl (cx_lk2 _) rfl ?_; rintro _ G hle ⟨u2, rfl⟩; ((try have sa := Seg.mono sa hle); (try have hg := Gh.le.trans hg hle)))) | (refine k_tt rfl ?_ ?_; (focus ((first | (refine decide_eq_true ?_; (omega)) | (simp [*]; done)); done))) | (refine k_any (s_any (id := 9) _ (fun _ h => h) mixed ?_); refine x_tks (t := tb) (fuel := 25) [0, 1, 2] (bts 28 7) (by kernel_rfl) (by kernel_rfl) rfl rfl (Gh.le.refl _) (by repeat ((exact List.Sublist.refl _))) ?_ ?_; (focus (repeat' ((exact trivial)))); (try ((refine Nx.re (d := 49) (v' := Bo false) rfl (congrArg Value.bool ?_) ?_; (focus (((rfl)); done))))); refine x_tks (t := tb) (fuel := 23) [3, 4] (bts 28 31) (by kernel_rfl) (by kernel_rfl) rfl rfl (Gh.le.refl _) (by repeat ((exact List.Sublist.refl _))) ?_ ?_; (focus (repeat' ((exact trivial)))); ((refine (x_tkg (bts 28 63) 5 rfl (by kernel_rfl) rfl (Gh.le.refl _) (by repeat ((exact List.Sublist.refl _)))) (g_pickF rfl rfl ?_) rfl rfl ?_; (focus (((rfl)); done)))); refine x_tks (t := tb) (fuel := 21) [6] (bts 28 127) (by kernel_rfl) (by kernel_rfl) rfl rfl (Gh.le.refl _) (by repeat ((exact List.Sublist.refl _))) ?_ ?_; (focus (repeat' ((exact trivial)))); (try ((refine Nx.re (d := 53) (v' := Bo false) rfl (congrArg Value.bool ?_) ?_; (focus (((rfl)); done))))); refine x_tks (t := tb) (fuel := 20) [7] (bts 28 255) (by kernel_rfl) (by kernel_rfl) rfl rfl (Gh.le.refl _) (by repeat ((exact List.Sublist.refl _))) ?_ ?_; (focus (repeat' ((exact trivial)))); ((refine (x_tkg (bts 28 511) 8 rfl (by kernel_rfl) rfl (Gh.le.refl _) (by repeat ((exact List.Sublist.refl _)))) (g_ld rfl rfl rfl) rfl rfl ?_)); ((refine x_all [9] (by kernel_rfl) (by decide) ⟨?_, trivial⟩; refine x_opg rfl rfl ?_; ((refine c_rt rfl rfl rfl (cx_nm2 _) rfl ?_)); refine x_ks (by (exact Gh.le.refl _)) (by repeat ((exact List.Sublist.refl _))) (listed' := (bts 28 1023)) (by kernel_rfl) ?_)); refine x_tks (t := tb) (fuel := 17) [10] (bts 28 2047) (by kernel_rfl) (by kernel_rfl) rfl rfl (Gh.le.refl _) (by repeat ((exact List.Sublist.refl _))) ?_ ?_; (focus (repeat' ((exact trivial)))); ((refine (x_tkg (bts 28 4095) 11 rfl (by kernel_rfl) rfl (Gh.le.refl _) (by repeat ((exact List.Sublist.refl _)))) (g_pickF rfl rfl ?_) rfl rfl ?_; (focus (((rfl)); done)))); refine x_tks (t := tb) (fuel := 15) [12] (bts 28 8191) (by kernel_rfl) (by kernel_rfl) rfl rfl (Gh.le.refl _) (by repeat ((exact List.Sublist.refl _))) ?_ ?_; (focus (repeat' ((exact trivial)))); (try ((refine Nx.re (d := 59) (v' := Bo false) rfl (congrArg Value.bool ?_) ?_; (focus (((rfl)); done))))); refine x_tks (t := tb) (fuel := 12) [13, 14, 15] (bts 28 65535) (by kernel_rfl) (by kernel_rfl) rfl rfl (Gh.le.refl _) (by repeat ((exact List.Sublist.refl _))) ?_ ?_; (focus (repeat' ((exact trivial)))); (try ((refine Nx.re (d := 62) (v' := Bo true) rfl (congrArg Value.bool ?_) ?_; (focus (((refine decide_eq_true ?_; (omega))); done))))); refine x_tks (t := tb) (fuel := 8) [16, 18, 19, 23] (bts 28 9306111) (by kernel_rfl) (by kernel_rfl) rfl rfl (Gh.le.refl _) (by repeat ((exact List.Sublist.refl _))) ?_ ?_; (focus (repeat' (first | exact trivial | apply And.intro | omega))); ((refine (x_tkg (bts 28 9437183) 17 rfl (by kernel_rfl) rfl (Gh.le.refl _) (by repeat ((exact List.Sublist.refl _)))) (g_ld rfl rfl rfl) rfl rfl ?_)); ((refine (x_tkg (bts 28 10485759) 20 rfl (by kernel_rfl) rfl (Gh.le.refl _) (by repeat ((exact List.Sublist.refl _)))) (g_iaddr rfl rfl ?_) rfl rfl ?_; (focus ((omega); done)))); refine x_tks (t := tb) (fuel := 5) [21] (bts 28 12582911) (by kernel_rfl) (by kernel_rfl) rfl rfl (Gh.le.refl _) (by repeat ((exact List.Sublist.refl _))) ?_ ?_; (focus (repeat' ((exact trivial)))); ((refine (x_tkg (bts 28 16777215) 22 rfl (by kernel_rfl) rfl (Gh.le.refl _) (by repeat ((exact List.Sublist.refl _)))) (g_ldRF rfl rfl (by assumption) ?_ rfl rfl) rfl rfl ?_; (focus (((omega)); done)))); ((refine (x_tkg (bts 28 33554431) 24 rfl (by kernel_rfl) rfl (Gh.le.refl _) (by repeat ((exact List.Sublist.refl _)))) (g_ld rfl rfl rfl) rfl rfl ?_)); refine x_tks (t := tb) (fuel := 2) [25] (bts 28 67108863) (by kernel_rfl) (by kernel_rfl) rfl rfl (Gh.le.refl _) (by repeat ((exact List.Sublist.refl _))) ?_ ?_; (focus (repeat' ((exact trivial)))); ((refine (x_tkg (bts 28 134217727) 26 rfl (by kernel_rfl) rfl (Gh.le.refl _) (by repeat ((exact List.Sublist.refl _)))) (g_pickT rfl rfl ?_) rfl rfl ?_; (focus (((rfl)); done)))); ((refine (x_tkg (bts 28 268435455) 27 rfl (by kernel_rfl) rfl (Gh.le.refl _) (by repeat ((exact List.Sublist.refl _)))) (g_pickF rfl rfl ?_) rfl rfl ?_; (focus (((rfl)); done)))); refine x_done (by kernel_rfl) (k_bk ?_)))
          all_goals refine Nx.base hok hB ?_
          all_goals refine k_rr (vs := [_]) rfl ⟨rfl, trivial⟩ rfl (List.nil_sublist _) ⟨rfl, rfl, ?_⟩
          all_goals rw [oneOf_one, svc_no hi hb]
        · have hb : goodAt s a (j + 1) = true := by simp [goodAt, mtOk, e1, e2, e3, e5]
          have e6 : Op.bytesLess (nth a (((j + 1 : Nat) : Int) - 1).toNat).1 (nth a (j + 1)).1 = true := by rw [ej]; exact e5
          repeat' (first | (refine run (t := tb) 400 rfl ?_ ?_; (focus (repeat' (first | exact trivial | apply And.intro | omega)))) | (refine k_op rfl ?_; first | refine v_op (g_ld rfl rfl rfl) rfl rfl ?_ | (refine v_op (g_ldR rfl rfl (by assumption) ?_) rfl rfl ?_; (focus (((omega)); done))) | refine v_op (g_lenL rfl) rfl rfl ?_ | (refine v_op (g_iaddrN rfl rfl ?_) rfl rfl ?_; (focus ((omega); done))) | refine c_al rfl rfl fun _ => ?_ | refine c_stA rfl rfl rfl rfl rfl rfl ?_ | (refine c_fns rfl rfl rfl (cx_lk1 _) rfl ?_; rintro _ G hle ⟨u1, rfl⟩; ((try have sa := Seg.mono sa hle); (try have hg := Gh.le.trans hg hle))) | (refine c_fns rfl rfl rfl (cx_lk2 _) rfl ?_; rintro _ G hle ⟨u2, rfl⟩; ((try have sa := Seg.mono sa hle); (try have hg := Gh.le.trans hg hle)))) | (refine k_tt rfl ?_ ?_; (focus (((refine decide_eq_true ?_; (omega))); done))) | (refine k_ff rfl ?_ ?_; (focus (((simp [*]; done)); done))) | (refine k_any (s_any (id := 9) _ (fun _ h => h) mixed ?_); refine x_tks (t := tb) (fuel := 25) [0, 1, 2] (bts 28 7) (by kernel_rfl) (by kernel_rfl) rfl rfl (Gh.le.refl _) (by repeat ((exact List.Sublist.refl _))) ?_ ?_; (focus (repeat' ((exact trivial)))); (try ((refine Nx.re (d := 49) (v' := Bo false) rfl (congrArg Value.bool ?_) ?_; (focus (((rfl)); done))))); refine x_tks (t := tb) (fuel := 23) [3, 4] (bts 28 31) (by kernel_rfl) (by kernel_rfl) rfl rfl (Gh.le.refl _) (by repeat ((exact List.Sublist.refl _))) ?_ ?_; (focus (repeat' ((exact trivial)))); ((refine (x_tkg (bts 28 63) 5 rfl (by kernel_rfl) rfl (Gh.le.refl _) (by repeat ((exact List.Sublist.refl _)))) (g_pickF rfl rfl ?_) rfl rfl ?_; (focus (((rfl)); done)))); refine x_tks (t := tb) (fuel := 21) [6] (bts 28 127) (by kernel_rfl) (by kernel_rfl) rfl rfl (Gh.le.refl _) (by repeat ((exact List.Sublist.refl _))) ?_ ?_; (focus (repeat' ((exact trivial)))); (try ((refine Nx.re (d := 53) (v' := Bo false) rfl (congrArg Value.bool ?_) ?_; (focus (((rfl)); done))))); refine x_tks (t := tb) (fuel := 20) [7] (bts 28 255) (by kernel_rfl) (by kernel_rfl) rfl rfl (Gh.le.refl _) (by repeat ((exact List.Sublist.refl _))) ?_ ?_; (focus (repeat' ((exact trivial)))); ((refine (x_tkg (bts 28 511) 8 rfl (by kernel_rfl) rfl (Gh.le.refl _) (by repeat ((exact List.Sublist.refl _)))) (g_ld rfl rfl rfl) rfl rfl ?_)); ((refine x_all [9] (by kernel_rfl) (by decide) ⟨?_, trivial⟩; refine x_opg rfl rfl ?_; ((refine c_rt rfl rfl rfl (cx_nm2 _) rfl ?_)); refine x_ks (by (exact Gh.le.refl _)) (by repeat ((exact List.Sublist.refl _))) (listed' := (bts 28 1023)) (by kernel_rfl) ?_)); refine x_tks (t := tb) (fuel := 17) [10] (bts 28 2047) (by kernel_rfl) (by kernel_rfl) rfl rfl (Gh.le.refl _) (by repeat ((exact List.Sublist.refl _))) ?_ ?_; (focus (repeat' ((exact trivial)))); ((refine (x_tkg (bts 28 4095) 11 rfl (by kernel_rfl) rfl (Gh.le.refl _) (by repeat ((exact List.Sublist.refl _)))) (g_pickF rfl rfl ?_) rfl rfl ?_; (focus (((rfl)); done)))); refine x_tks (t := tb) (fuel := 15) [12] (bts 28 8191) (by kernel_rfl) (by kernel_rfl) rfl rfl (Gh.le.refl _) (by repeat ((exact List.Sublist.refl _))) ?_ ?_; (focus (repeat' ((exact trivial)))); (try ((refine Nx.re (d := 59) (v' := Bo false) rfl (congrArg Value.bool ?_) ?_; (focus (((rfl)); done))))); refine x_tks (t := tb) (fuel := 12) [13, 14, 15] (bts 28 65535) (by kernel_rfl) (by kernel_rfl) rfl rfl (Gh.le.refl _) (by repeat ((exact List.Sublist.refl _))) ?_ ?_; (focus (repeat' ((exact trivial)))); (try ((refine Nx.re (d := 62) (v' := Bo true) rfl (congrArg Value.bool ?_) ?_; (focus (((refine decide_eq_true ?_; (omega))); done))))); refine x_tks (t := tb) (fuel := 8) [16, 18, 19, 23] (bts 28 9306111) (by kernel_rfl) (by kernel_rfl) rfl rfl (Gh.le.refl _) (by repeat ((exact List.Sublist.refl _))) ?_ ?_; (focus (repeat' (first | exact trivial | apply And.intro | omega))); ((refine (x_tkg (bts 28 9437183) 17 rfl (by kernel_rfl) rfl (Gh.le.refl _) (by repeat ((exact List.Sublist.refl _)))) (g_ld rfl rfl rfl) rfl rfl ?_)); ((refine (x_tkg (bts 28 10485759) 20 rfl (by kernel_rfl) rfl (Gh.le.refl _) (by repeat ((exact List.Sublist.refl _)))) (g_iaddr rfl rfl ?_) rfl rfl ?_; (focus ((omega); done)))); refine x_tks (t := tb) (fuel := 5) [21] (bts 28 12582911) (by kernel_rfl) (by kernel_rfl) rfl rfl (Gh.le.refl _) (by repeat ((exact List.Sublist.refl _))) ?_ ?_; (focus (repeat' ((exact trivial)))); ((refine (x_tkg (bts 28 16777215) 22 rfl (by kernel_rfl) rfl (Gh.le.refl _) (by repeat ((exact List.Sublist.refl _)))) (g_ldRF rfl rfl (by assumption) ?_ rfl rfl) rfl rfl ?_; (focus (((omega)); done)))); ((refine (x_tkg (bts 28 33554431) 24 rfl (by kernel_rfl) rfl (Gh.le.refl _) (by repeat ((exact List.Sublist.refl _)))) (g_ld rfl rfl rfl) rfl rfl ?_)); refine x_tks (t := tb) (fuel := 2) [25] (bts 28 67108863) (by kernel_rfl) (by kernel_rfl) rfl rfl (Gh.le.refl _) (by repeat ((exact List.Sublist.refl _))) ?_ ?_; (focus (repeat' ((exact trivial)))); ((refine (x_tkg (bts 28 134217727) 26 rfl (by kernel_rfl) rfl (Gh.le.refl _) (by repeat ((exact List.Sublist.refl _)))) (g_pickT rfl rfl ?_) rfl rfl ?_; (focus (((rfl)); done)))); ((refine (x_tkg (bts 28 268435455) 27 rfl (by kernel_rfl) rfl (Gh.le.refl _) (by repeat ((exact List.Sublist.refl _)))) (g_pickF rfl rfl ?_) rfl rfl ?_; (focus (((rfl)); done)))); refine x_done (by kernel_rfl) (k_bk ?_)))
          all_goals
            refine k_rd (j + 1 + 1, G) ⟨⟨by dsimp only; omega, hg⟩, fun k hk => ?_⟩ (by dsimp only; omega) (by repeat (first | exact trivial | refine ⟨rfl, ?_⟩)) rfl (by repeat (first | exact List.Sublist.refl _ | apply List.Sublist.cons))
            rcases Nat.lt_or_ge k (j + 1) with h1 | h1
            · exact hgood k h1
            · have : k = j + 1 := by dsimp only at hk; omega
              subst this; exact hb
    all_goals
      have hb : goodAt s a i = false := by simp [goodAt, mtOk, e1, e2, e3]
      repeat' (first | (refine run (t := tb) 400 rfl ?_ ?_; (focus (repeat' ((exact trivial))))) | (refine k_op rfl ?_; first | refine v_op (g_ld rfl rfl rfl) rfl rfl ?_ | (refine v_op (g_ldR rfl rfl (by assumption) ?_) rfl rfl ?_; (focus (((omega)); done))) | refine v_op (g_lenL rfl) rfl rfl ?_ | (refine v_op (g_iaddrN rfl rfl ?_) rfl rfl ?_; (focus ((omega); done))) | refine c_al rfl rfl fun _ => ?_ | refine c_stA rfl rfl rfl rfl rfl rfl ?_ | (refine c_fns rfl rfl rfl (cx_lk1 _) rfl ?_; rintro _ G hle ⟨u1, rfl⟩; ((try have sa := Seg.mono sa hle); (try have hg := Gh.le.trans hg hle))) | (refine c_fns rfl rfl rfl (cx_lk2 _) rfl ?_; rintro _ G hle ⟨u2, rfl⟩; ((try have sa := Seg.mono sa hle); (try have hg := Gh.le.trans hg hle)))) | (refine k_tt rfl ?_ ?_; (focus ((first | rfl | (refine decide_eq_true ?_; (omega))); done))) | (refine k_any (s_any (id := 9) _ (fun _ h => h) mixed ?_); refine x_tks (t := tb) (fuel := 25) [0, 1, 2] (bts 28 7) (by kernel_rfl) (by kernel_rfl) rfl rfl (Gh.le.refl _) (by repeat ((exact List.Sublist.refl _))) ?_ ?_; (focus (repeat' ((exact trivial)))); (try (first | (refine Nx.re (d := 49) (v' := Bo true) rfl (congrArg Value.bool ?_) ?_; (focus (((rfl)); done))) | (refine Nx.re (d := 49) (v' := Bo false) rfl (congrArg Value.bool ?_) ?_; (focus (((rfl)); done))))); refine x_tks (t := tb) (fuel := 23) [3, 4] (bts 28 31) (by kernel_rfl) (by kernel_rfl) rfl rfl (Gh.le.refl _) (by repeat ((exact List.Sublist.refl _))) ?_ ?_; (focus (repeat' ((exact trivial)))); (first | (refine (x_tkg (bts 28 63) 5 rfl (by kernel_rfl) rfl (Gh.le.refl _) (by repeat ((exact List.Sublist.refl _)))) (g_pickT rfl rfl ?_) rfl rfl ?_; (focus (((rfl)); done))) | (refine (x_tkg (bts 28 63) 5 rfl (by kernel_rfl) rfl (Gh.le.refl _) (by repeat ((exact List.Sublist.refl _)))) (g_pickF rfl rfl ?_) rfl rfl ?_; (focus (((rfl)); done)))); refine x_tks (t := tb) (fuel := 21) [6] (bts 28 127) (by kernel_rfl) (by kernel_rfl) rfl rfl (Gh.le.refl _) (by repeat ((exact List.Sublist.refl _))) ?_ ?_; (focus (repeat' ((exact trivial)))); (try (first | (refine Nx.re (d := 53) (v' := Bo true) rfl (congrArg Value.bool ?_) ?_; (focus (((rfl)); done))) | (refine Nx.re (d := 53) (v' := Bo false) rfl (congrArg Value.bool ?_) ?_; (focus (((rfl)); done))))); refine x_tks (t := tb) (fuel := 20) [7] (bts 28 255) (by kernel_rfl) (by kernel_rfl) rfl rfl (Gh.le.refl _) (by repeat ((exact List.Sublist.refl _))) ?_ ?_; (focus (repeat' ((exact trivial)))); (first | refine (x_tkg (bts 28 511) 8 rfl (by kernel_rfl) rfl (Gh.le.refl _) (by repeat ((exact List.Sublist.refl _)))) (g_ld rfl rfl rfl) rfl rfl ?_ | refine x_tkn (bts 28 511) 8 rfl (by kernel_rfl) rfl (Gh.le.refl _) (by repeat ((exact List.Sublist.refl _))) rfl rfl ?_); (first | refine x_tkn (bts 28 1023) 9 rfl (by kernel_rfl) rfl (Gh.le.refl _) (by repeat ((exact List.Sublist.refl _))) rfl rfl ?_ | (refine x_all [9] (by kernel_rfl) (by decide) ⟨?_, trivial⟩; refine x_opg rfl rfl ?_; ((refine c_rt rfl rfl rfl (cx_nm2 _) rfl ?_)); refine x_ks (by (exact Gh.le.refl _)) (by repeat ((exact List.Sublist.refl _))) (listed' := (bts 28 1023)) (by kernel_rfl) ?_)); refine x_tks (t := tb) (fuel := 17) [10] (bts 28 2047) (by kernel_rfl) (by kernel_rfl) rfl rfl (Gh.le.refl _) (by repeat ((exact List.Sublist.refl _))) ?_ ?_; (focus (repeat' ((exact trivial)))); (first | (refine (x_tkg (bts 28 4095) 11 rfl (by kernel_rfl) rfl (Gh.le.refl _) (by repeat ((exact List.Sublist.refl _)))) (g_pickT rfl rfl ?_) rfl rfl ?_; (focus (((rfl)); done))) | (refine (x_tkg (bts 28 4095) 11 rfl (by kernel_rfl) rfl (Gh.le.refl _) (by repeat ((exact List.Sublist.refl _)))) (g_pickF rfl rfl ?_) rfl rfl ?_; (focus (((rfl)); done)))); refine x_tks (t := tb) (fuel := 15) [12] (bts 28 8191) (by kernel_rfl) (by kernel_rfl) rfl rfl (Gh.le.refl _) (by repeat ((exact List.Sublist.refl _))) ?_ ?_; (focus (repeat' ((exact trivial)))); (try ((refine Nx.re (d := 59) (v' := Bo true) rfl (congrArg Value.bool ?_) ?_; (focus (((rfl)); done))))); refine x_tks (t := tb) (fuel := 12) [13, 14, 15] (bts 28 65535) (by kernel_rfl) (by kernel_rfl) rfl rfl (Gh.le.refl _) (by repeat ((exact List.Sublist.refl _))) ?_ ?_; (focus (repeat' ((exact trivial)))); (try (fail)); refine x_tks (t := tb) (fuel := 8) [16, 18, 19, 23] (bts 28 9306111) (by kernel_rfl) (by kernel_rfl) rfl rfl (Gh.le.refl _) (by repeat ((exact List.Sublist.refl _))) ?_ ?_; (focus (repeat' ((exact trivial)))); ((refine x_tkn (bts 28 9437183) 17 rfl (by kernel_rfl) rfl (Gh.le.refl _) (by repeat ((exact List.Sublist.refl _))) rfl rfl ?_)); ((refine x_tkn (bts 28 10485759) 20 rfl (by kernel_rfl) rfl (Gh.le.refl _) (by repeat ((exact List.Sublist.refl _))) rfl rfl ?_)); refine x_tks (t := tb) (fuel := 5) [21] (bts 28 12582911) (by kernel_rfl) (by kernel_rfl) rfl rfl (Gh.le.refl _) (by repeat ((exact List.Sublist.refl _))) ?_ ?_; (focus (repeat' ((exact trivial)))); ((refine x_tkn (bts 28 16777215) 22 rfl (by kernel_rfl) rfl (Gh.le.refl _) (by repeat ((exact List.Sublist.refl _))) rfl rfl ?_)); ((refine x_tkn (bts 28 33554431) 24 rfl (by kernel_rfl) rfl (Gh.le.refl _) (by repeat ((exact List.Sublist.refl _))) rfl rfl ?_)); refine x_tks (t := tb) (fuel := 2) [25] (bts 28 67108863) (by kernel_rfl) (by kernel_rfl) rfl rfl (Gh.le.refl _) (by repeat ((exact List.Sublist.refl _))) ?_ ?_; (focus (repeat' ((exact trivial)))); ((refine x_tkn (bts 28 134217727) 26 rfl (by kernel_rfl) rfl (Gh.le.refl _) (by repeat ((exact List.Sublist.refl _))) rfl rfl ?_)); ((refine (x_tkg (bts 28 268435455) 27 rfl (by kernel_rfl) rfl (Gh.le.refl _) (by repeat ((exact List.Sublist.refl _)))) (g_pickT rfl rfl ?_) rfl rfl ?_; (focus (((rfl)); done)))); refine x_done (by kernel_rfl) (k_bk ?_)))
      refine Nx.base hok hB ?_
      refine k_rr (vs := [_]) rfl ⟨rfl, trivial⟩ rfl (List.nil_sublist _) ⟨rfl, rfl, ?_⟩
      rw [oneOf_one, svc_no hi hb]
  · repeat' (first | (refine run (t := tb) 400 rfl ?_ ?_; (focus (repeat' ((exact trivial))))) | (refine k_op rfl ?_; first | refine v_op (g_ld rfl rfl rfl) rfl rfl ?_ | refine v_op (g_lenV rfl (by assumption)) rfl rfl ?_) | (refine k_ff rfl ?_ ?_; (focus (((refine decide_eq_false ?_; (omega))); done))))
    refine Nx.base hok hB ?_
    refine k_rr (vs := [_]) rfl ⟨rfl, trivial⟩ rfl (List.nil_sublist _) ⟨rfl, rfl, ?_⟩
    rw [oneOf_one, svc_yes (by simpa using h1) (by omega) (fun k hk => hgood k (by omega))]
end Go.E
/-! Mu -/
namespace Go.E
set_option maxRecDepth 20000
set_option maxHeartbeats 2000000

open Go.Proofs
variable {G : Gh}
abbrev tSv2 : TypeId := 29
theorem c_ServiceOkI {s : List UInt8} {u : Value} {a : List Mt} (h : s.length ≤ 1048576) (hu : SlV G u 3 a.length (rows mtF a)) (hn : a.length ≤ 1048576) (ha : ∀ x ∈ a, MtL x) :
    PuG Tryz.prog 14 [Ag [S s, u]] G (· = Bo (svcOk s a)) := by
  have hs : s.length ≤ 10000000 := by omega
  refine b_enter (Post := fun v G' L' => G' = G ∧ L' = [] ∧ _) [(0, _)] Tryz.func14 (by kernel_rfl) Tryz.ntmps14 rfl rfl (by repeat (first | exact trivial | refine ⟨rfl, ?_⟩)) fun B hok hB hW => ?_
  repeat' (first | (refine run (t := tb) 400 rfl ?_ ?_; (focus (repeat' ((exact trivial))))) | (refine k_op rfl ?_; first | refine c_bx rfl rfl rfl fun _ => ?_ | refine v_op (g_ld rfl rfl rfl) rfl rfl ?_ | refine v_op (g_lenV rfl (by assumption)) rfl rfl ?_ | (refine v_op (g_pickT rfl rfl ?_) rfl rfl ?_; (focus (((rfl)); done))) | (refine v_op (g_pickF rfl rfl ?_) rfl rfl ?_; (focus (((rfl)); done))) | (refine c_rt rfl rfl rfl (c_SchemaOkI (by omega)) rfl ?_)) | refine k_gb rfl rfl (fun _ => ?_) (fun _ => ?_) | (refine k_tt rfl ?_ ?_; (focus (((rfl)); done))) | refine k_if rfl (fun _ => ?_) (fun _ => ?_))
  · rename_i h1
    refine Nx.base hok hB ?_
    refine k_rr (vs := [_]) rfl ⟨rfl, trivial⟩ rfl (List.nil_sublist _) ⟨rfl, rfl, ?_⟩
    have h2 : (schemaOf s).isSome = false := by simpa using h1
    unfold svcOk; rw [h2]; rfl
  · rename_i h1
    refine Nx.base hok hB ?_
    refine k_rr (vs := [_]) rfl ⟨rfl, trivial⟩ rfl (List.nil_sublist _) ⟨rfl, rfl, ?_⟩
    have h2 : decide (a.length ≤ 6) = false := by simp; omega
    unfold svcOk; rw [h2]; simp
  rename_i x h1 h2
  refine k_loop (ι := Nat × Gh) (fun i => (i.1 ≤ a.length ∧ Gh.le G i.2) ∧ ∀ k, k < i.1 → goodAt s a k = true) (fun i => [(1, Pt x 0), (22, u), (23, I a.length), (24, I i.1)]) (fun i => i.2) (fun i => [.blk x (.cells #[S s, u] tSv2 (0, 0))]) (fun i => a.length - i.1) (0, G) ?_ (by repeat (first | exact trivial | refine ⟨rfl, ?_⟩)) rfl (by repeat ((exact List.Sublist.refl _))) (fun i Hi => ?_)
  · exact ⟨⟨Nat.zero_le _, Gh.le.refl _⟩, fun k hk => absurd hk (by simp)⟩
  obtain ⟨i, G1⟩ := i
  dsimp only at Hi ⊢
  obtain ⟨⟨hi1, hg⟩, hgood⟩ := Hi
  by_cases hi : i < a.length
  · obtain ⟨ba, oa, ca, rfl, sa⟩ := (hu.mono hg).expl (by omega)
    have hx := ha _ (nth_mem hi)
    cases e1 : kindS s (nth a i).2.1 <;> cases e2 : kindS s (nth a i).2.2 <;> cases e3 : isNm (nth a i).1
    all_goals
      have cx_bo1 : ∀ G, FnS Tryz.prog 25 [S s, S (nth a i).2.1] G (fun v _ => ∃ p a' b c, v = Tu [p, Ag [S a', S b, S c], Bo (kindS s (nth a i).2.1)]) := fun G => by
        refine (c_both (G := G) hs (by omega)).mono ?_
        rintro v G' L' ⟨h1, h2, ⟨h3, p, a', b, c, rfl⟩ | ⟨b, qs, rfl, h3, h4, _⟩⟩
        · exact ⟨h1, h2, p, a', b, c, by rw [h3]⟩
        · exact ⟨h1, h2, _, _, _, _, by unfold kindS; rw [h3]; dsimp only; rw [h4]; rfl⟩
      have cx_bo2 : ∀ G, FnS Tryz.prog 25 [S s, S (nth a i).2.2] G (fun v _ => ∃ p a' b c, v = Tu [p, Ag [S a', S b, S c], Bo (kindS s (nth a i).2.2)]) := fun G => by
        refine (c_both (G := G) hs (by omega)).mono ?_
        rintro v G' L' ⟨h1, h2, ⟨h3, p, a', b, c, rfl⟩ | ⟨b, qs, rfl, h3, h4, _⟩⟩
        · exact ⟨h1, h2, p, a', b, c, by rw [h3]⟩
        · exact ⟨h1, h2, _, _, _, _, by unfold kindS; rw [h3]; dsimp only; rw [h4]; rfl⟩
      have cx_nm2 : ∀ G, PuG Tryz.prog 26 [S (nth a i).1] G (· = Bo (isNm (nth a i).1)) := fun G => c_isName (by omega)
      rw [e1] at cx_bo1
      rw [e2] at cx_bo2
      rw [e3] at cx_nm2
    case true.true.true =>
      rcases i with _ | j
      · repeat' (first | (refine run (t := tb) 400 rfl ?_ ?_; (focus (repeat' (first | exact trivial | apply And.intro | omega)))) | (refine k_op rfl ?_; first | refine v_op (g_ld rfl rfl rfl) rfl rfl ?_ | (refine v_op (g_ldR rfl rfl (by assumption) ?_) rfl rfl ?_; (focus (((omega)); done))) | (refine v_op (g_iaddrN rfl rfl ?_) rfl rfl ?_; (focus ((omega); done))) | refine c_al rfl rfl fun _ => ?_ | refine c_stA rfl rfl rfl rfl rfl rfl ?_ | (refine c_fns rfl rfl rfl (cx_bo1 _) rfl ?_; rintro _ G hle ⟨p1, a1, b1, c1, rfl⟩; ((try have sa := Seg.mono sa hle); (try have hg := Gh.le.trans hg hle))) | (refine c_fns rfl rfl rfl (cx_bo2 _) rfl ?_; rintro _ G hle ⟨p2, a2, b2, c2, rfl⟩; ((try have sa := Seg.mono sa hle); (try have hg := Gh.le.trans hg hle)))) | (refine k_tt rfl ?_ ?_; (focus (((refine decide_eq_true ?_; (omega))); done))) | (refine k_ff rfl ?_ ?_; (focus (((rfl)); done))) | (refine k_any (s_any (id := 8) _ (fun _ h => h) mixed ?_); refine x_tks (t := tb) (fuel := 25) [0, 1, 2] (bts 28 7) (by kernel_rfl) (by kernel_rfl) rfl rfl (Gh.le.refl _) (by repeat ((exact List.Sublist.refl _))) ?_ ?_; (focus (repeat' ((exact trivial)))); (try ((refine Nx.re (d := 49) (v' := Bo false) rfl (congrArg Value.bool ?_) ?_; (focus (((rfl)); done))))); refine x_tks (t := tb) (fuel := 23) [3, 4] (bts 28 31) (by kernel_rfl) (by kernel_rfl) rfl rfl (Gh.le.refl _) (by repeat ((exact List.Sublist.refl _))) ?_ ?_; (focus (repeat' ((exact trivial)))); ((refine (x_tkg (bts 28 63) 5 rfl (by kernel_rfl) rfl (Gh.le.refl _) (by repeat ((exact List.Sublist.refl _)))) (g_pickF rfl rfl ?_) rfl rfl ?_; (focus (((rfl)); done)))); refine x_tks (t := tb) (fuel := 21) [6] (bts 28 127) (by kernel_rfl) (by kernel_rfl) rfl rfl (Gh.le.refl _) (by repeat ((exact List.Sublist.refl _))) ?_ ?_; (focus (repeat' ((exact trivial)))); (try ((refine Nx.re (d := 53) (v' := Bo false) rfl (congrArg Value.bool ?_) ?_; (focus (((rfl)); done))))); refine x_tks (t := tb) (fuel := 20) [7] (bts 28 255) (by kernel_rfl) (by kernel_rfl) rfl rfl (Gh.le.refl _) (by repeat ((exact List.Sublist.refl _))) ?_ ?_; (focus (repeat' ((exact trivial)))); ((refine (x_tkg (bts 28 511) 8 rfl (by kernel_rfl) rfl (Gh.le.refl _) (by repeat ((exact List.Sublist.refl _)))) (g_ld rfl rfl rfl) rfl rfl ?_)); ((refine x_all [9] (by kernel_rfl) (by decide) ⟨?_, trivial⟩; refine x_opg rfl rfl ?_; ((refine c_rt rfl rfl rfl (cx_nm2 _) rfl ?_)); refine x_ks (by (exact Gh.le.refl _)) (by repeat ((exact List.Sublist.refl _))) (listed' := (bts 28 1023)) (by kernel_rfl) ?_)); refine x_tks (t := tb) (fuel := 17) [10] (bts 28 2047) (by kernel_rfl) (by kernel_rfl) rfl rfl (Gh.le.refl _) (by repeat ((exact List.Sublist.refl _))) ?_ ?_; (focus (repeat' ((exact trivial)))); ((refine (x_tkg (bts 28 4095) 11 rfl (by kernel_rfl) rfl (Gh.le.refl _) (by repeat ((exact List.Sublist.refl _)))) (g_pickF rfl rfl ?_) rfl rfl ?_; (focus (((rfl)); done)))); refine x_tks (t := tb) (fuel := 15) [12] (bts 28 8191) (by kernel_rfl) (by kernel_rfl) rfl rfl (Gh.le.refl _) (by repeat ((exact List.Sublist.refl _))) ?_ ?_; (focus (repeat' ((exact trivial)))); (try ((refine Nx.re (d := 59) (v' := Bo false) rfl (congrArg Value.bool ?_) ?_; (focus (((rfl)); done))))); refine x_tks (t := tb) (fuel := 12) [13, 14, 15] (bts 28 65535) (by kernel_rfl) (by kernel_rfl) rfl rfl (Gh.le.refl _) (by repeat ((exact List.Sublist.refl _))) ?_ ?_; (focus (repeat' ((exact trivial)))); (try ((refine Nx.re (d := 62) (v' := Bo false) rfl (congrArg Value.bool ?_) ?_; (focus (((rfl)); done))))); refine x_tks (t := tb) (fuel := 8) [16, 18, 19, 23] (bts 28 9306111) (by kernel_rfl) (by kernel_rfl) rfl rfl (Gh.le.refl _) (by repeat ((exact List.Sublist.refl _))) ?_ ?_; (focus (repeat' ((exact trivial)))); ((refine x_tkn (bts 28 9437183) 17 rfl (by kernel_rfl) rfl (Gh.le.refl _) (by repeat ((exact List.Sublist.refl _))) rfl rfl ?_)); ((refine x_tkn (bts 28 10485759) 20 rfl (by kernel_rfl) rfl (Gh.le.refl _) (by repeat ((exact List.Sublist.refl _))) rfl rfl ?_)); refine x_tks (t := tb) (fuel := 5) [21] (bts 28 12582911) (by kernel_rfl) (by kernel_rfl) rfl rfl (Gh.le.refl _) (by repeat ((exact List.Sublist.refl _))) ?_ ?_; (focus (repeat' ((exact trivial)))); ((refine x_tkn (bts 28 16777215) 22 rfl (by kernel_rfl) rfl (Gh.le.refl _) (by repeat ((exact List.Sublist.refl _))) rfl rfl ?_)); ((refine x_tkn (bts 28 33554431) 24 rfl (by kernel_rfl) rfl (Gh.le.refl _) (by repeat ((exact List.Sublist.refl _))) rfl rfl ?_)); refine x_tks (t := tb) (fuel := 2) [25] (bts 28 67108863) (by kernel_rfl) (by kernel_rfl) rfl rfl (Gh.le.refl _) (by repeat ((exact List.Sublist.refl _))) ?_ ?_; (focus (repeat' ((exact trivial)))); ((refine (x_tkg (bts 28 134217727) 26 rfl (by kernel_rfl) rfl (Gh.le.refl _) (by repeat ((exact List.Sublist.refl _)))) (g_pickF rfl rfl ?_) rfl rfl ?_; (focus (((rfl)); done)))); ((refine (x_tkg (bts 28 268435455) 27 rfl (by kernel_rfl) rfl (Gh.le.refl _) (by repeat ((exact List.Sublist.refl _)))) (g_pickF rfl rfl ?_) rfl rfl ?_; (focus (((rfl)); done)))); refine x_done (by kernel_rfl) (k_bk ?_)))
        refine k_rd (1, G) ⟨⟨by dsimp only; omega, hg⟩, fun k hk => ?_⟩ (by dsimp only; omega) (by repeat (first | exact trivial | refine ⟨rfl, ?_⟩)) rfl (by repeat (first | exact List.Sublist.refl _ | apply List.Sublist.cons))
        have : k = 0 := by dsimp only at hk; omega
        subst this
        simp [goodAt, mtOk, e1, e2, e3]
      · have ej : ((((j + 1 : Nat) : Int) - 1).toNat) = j := by omega
        cases e5 : Op.bytesLess (nth a j).1 (nth a (j + 1)).1
        · have hb : goodAt s a (j + 1) = false := by simp [goodAt, e5]
          have e6 : Op.bytesLess (nth a (((j + 1 : Nat) : Int) - 1).toNat).1 (nth a (j + 1)).1 = false := by rw [ej]; exact e5
          repeat' (first | (refine run (t := tb) 400 rfl ?_ ?_; (focus (repeat' ((exact trivial))))) | (refine k_op rfl ?_; first | refine v_op (g_ld rfl rfl rfl) rfl rfl ?_ | (refine v_op (g_ldR rfl rfl (by assumption) ?_) rfl rfl ?_; (focus (((omega)); done))) | (refine v_op (g_iaddrN rfl rfl ?_) rfl rfl ?_; (focus ((omega); done))) | refine c_al rfl rfl fun _ => ?_ | refine c_stA rfl rfl rfl rfl rfl rfl ?_ | (refine c_fns rfl rfl rfl (cx_bo1 _) rfl ?_; rintro _ G hle ⟨p1, a1, b1, c1, rfl⟩; ((try have sa := Seg.mono sa hle); (try have hg := Gh.le.trans hg hle))) | (refine c_fns rfl rfl rfl (cx_bo2 _) rfl ?_; rintro _ G hle ⟨p2, a2, b2, c2, rfl⟩; ((try have sa := Seg.mono sa hle); (try have hg := Gh.le.trans hg hle)))) | (refine k_tt rfl ?_ ?_; (focus ((first | (refine decide_eq_true ?_; (omega)) | (simp [*]; done)); done))) | (refine k_any (s_any (id := 8) _ (fun _ h => h) mixed ?_); refine x_tks (t := tb) (fuel := 25) [0, 1, 2] (bts 28 7) (by kernel_rfl) (by kernel_rfl) rfl rfl (Gh.le.refl _) (by repeat ((exact List.Sublist.refl _))) ?_ ?_; (focus (repeat' ((exact trivial)))); (try ((refine Nx.re (d := 49) (v' := Bo false) rfl (congrArg Value.bool ?_) ?_; (focus (((rfl)); done))))); refine x_tks (t := tb) (fuel := 23) [3, 4] (bts 28 31) (by kernel_rfl) (by kernel_rfl) rfl rfl (Gh.le.refl _) (by repeat ((exact List.Sublist.refl _))) ?_ ?_; (focus (repeat' ((exact trivial)))); ((refine (x_tkg (bts 28 63) 5 rfl (by kernel_rfl) rfl (Gh.le.refl _) (by repeat ((exact List.Sublist.refl _)))) (g_pickF rfl rfl ?_) rfl rfl ?_; (focus (((rfl)); done)))); refine x_tks (t := tb) (fuel := 21) [6] (bts 28 127) (by kernel_rfl) (by kernel_rfl) rfl rfl (Gh.le.refl _) (by repeat ((exact List.Sublist.refl _))) ?_ ?_; (focus (repeat' ((exact trivial)))); (try ((refine Nx.re (d := 53) (v' := Bo false) rfl (congrArg Value.bool ?_) ?_; (focus (((rfl)); done))))); refine x_tks (t := tb) (fuel := 20) [7] (bts 28 255) (by kernel_rfl) (by kernel_rfl) rfl rfl (Gh.le.refl _) (by repeat ((exact List.Sublist.refl _))) ?_ ?_; (focus (repeat' ((exact trivial)))); ((refine (x_tkg (bts 28 511) 8 rfl (by kernel_rfl) rfl (Gh.le.refl _) (by repeat ((exact List.Sublist.refl _)))) (g_ld rfl rfl rfl) rfl rfl ?_)); ((refine x_all [9] (by kernel_rfl) (by decide) ⟨?_, trivial⟩; refine x_opg rfl rfl ?_; ((refine c_rt rfl rfl rfl (cx_nm2 _) rfl ?_)); refine x_ks (by (exact Gh.le.refl _)) (by repeat ((exact List.Sublist.refl _))) (listed' := (bts 28 1023)) (by kernel_rfl) ?_)); refine x_tks (t := tb) (fuel := 17) [10] (bts 28 2047) (by kernel_rfl) (by kernel_rfl) rfl rfl (Gh.le.refl _) (by repeat ((exact List.Sublist.refl _))) ?_ ?_; (focus (repeat' ((exact trivial)))); ((refine (x_tkg (bts 28 4095) 11 rfl (by kernel_rfl) rfl (Gh.le.refl _) (by repeat ((exact List.Sublist.refl _)))) (g_pickF rfl rfl ?_) rfl rfl ?_; (focus (((rfl)); done)))); refine x_tks (t := tb) (fuel := 15) [12] (bts 28 8191) (by kernel_rfl) (by kernel_rfl) rfl rfl (Gh.le.refl _) (by repeat ((exact List.Sublist.refl _))) ?_ ?_; (focus (repeat' ((exact trivial)))); (try ((refine Nx.re (d := 59) (v' := Bo false) rfl (congrArg Value.bool ?_) ?_; (focus (((rfl)); done))))); refine x_tks (t := tb) (fuel := 12) [13, 14, 15] (bts 28 65535) (by kernel_rfl) (by kernel_rfl) rfl rfl (Gh.le.refl _) (by repeat ((exact List.Sublist.refl _))) ?_ ?_; (focus (repeat' ((exact trivial)))); (try ((refine Nx.re (d := 62) (v' := Bo true) rfl (congrArg Value.bool ?_) ?_; (focus (((refine decide_eq_true ?_; (omega))); done))))); refine x_tks (t := tb) (fuel := 8) [16, 18, 19, 23] (bts 28 9306111) (by kernel_rfl) (by kernel_rfl) rfl rfl (Gh.le.refl _) (by repeat ((exact List.Sublist.refl _))) ?_ ?_; (focus (repeat' (first | exact trivial | apply And.intro | omega))); ((refine (x_tkg (bts 28 9437183) 17 rfl (by kernel_rfl) rfl (Gh.le.refl _) (by repeat ((exact List.Sublist.refl _)))) (g_ld rfl rfl rfl) rfl rfl ?_)); ((refine (x_tkg (bts 28 10485759) 20 rfl (by kernel_rfl) rfl (Gh.le.refl _) (by repeat ((exact List.Sublist.refl _)))) (g_iaddr rfl rfl ?_) rfl rfl ?_; (focus ((omega); done)))); refine x_tks (t := tb) (fuel := 5) [21] (bts 28 12582911) (by kernel_rfl) (by kernel_rfl) rfl rfl (Gh.le.refl _) (by repeat ((exact List.Sublist.refl _))) ?_ ?_; (focus (repeat' ((exact trivial)))); ((refine (x_tkg (bts 28 16777215) 22 rfl (by kernel_rfl) rfl (Gh.le.refl _) (by repeat ((exact List.Sublist.refl _)))) (g_ldRF rfl rfl (by assumption) ?_ rfl rfl) rfl rfl ?_; (focus (((omega)); done)))); ((refine (x_tkg (bts 28 33554431) 24 rfl (by kernel_rfl) rfl (Gh.le.refl _) (by repeat ((exact List.Sublist.refl _)))) (g_ld rfl rfl rfl) rfl rfl ?_)); refine x_tks (t := tb) (fuel := 2) [25] (bts 28 67108863) (by kernel_rfl) (by kernel_rfl) rfl rfl (Gh.le.refl _) (by repeat ((exact List.Sublist.refl _))) ?_ ?_; (focus (repeat' ((exact trivial)))); ((refine (x_tkg (bts 28 134217727) 26 rfl (by kernel_rfl) rfl (Gh.le.refl _) (by repeat ((exact List.Sublist.refl _)))) (g_pickT rfl rfl ?_) rfl rfl ?_; (focus (((rfl)); done)))); ((refine (x_tkg (bts 28 268435455) 27 rfl (by kernel_rfl) rfl (Gh.le.refl _) (by repeat ((exact List.Sublist.refl _)))) (g_pickF rfl rfl ?_) rfl rfl ?_; (focus (((rfl)); done)))); refine x_done (by kernel_rfl) (k_bk ?_)))
          all_goals refine Nx.base hok hB ?_
          all_goals refine k_rr (vs := [_]) rfl ⟨rfl, trivial⟩ rfl (List.nil_sublist _) ⟨rfl, rfl, ?_⟩
          all_goals rw [oneOf_one, svc_no hi hb]
        · have hb : goodAt s a (j + 1) = true := by simp [goodAt, mtOk, e1, e2, e3, e5]
          have e6 : Op.bytesLess (nth a (((j + 1 : Nat) : Int) - 1).toNat).1 (nth a (j + 1)).1 = true := by rw [ej]; exact e5
          repeat' (first | (refine run (t := tb) 400 rfl ?_ ?_; (focus (repeat' (first | exact trivial | apply And.intro | omega)))) | (refine k_op rfl ?_; first | refine v_op (g_ld rfl rfl rfl) rfl rfl ?_ | (refine v_op (g_ldR rfl rfl (by assumption) ?_) rfl rfl ?_; (focus (((omega)); done))) | (refine v_op (g_iaddrN rfl rfl ?_) rfl rfl ?_; (focus ((omega); done))) | refine c_al rfl rfl fun _ => ?_ | refine c_stA rfl rfl rfl rfl rfl rfl ?_ | (refine c_fns rfl rfl rfl (cx_bo1 _) rfl ?_; rintro _ G hle ⟨p1, a1, b1, c1, rfl⟩; ((try have sa := Seg.mono sa hle); (try have hg := Gh.le.trans hg hle))) | (refine c_fns rfl rfl rfl (cx_bo2 _) rfl ?_; rintro _ G hle ⟨p2, a2, b2, c2, rfl⟩; ((try have sa := Seg.mono sa hle); (try have hg := Gh.le.trans hg hle)))) | (refine k_tt rfl ?_ ?_; (focus (((refine decide_eq_true ?_; (omega))); done))) | (refine k_ff rfl ?_ ?_; (focus (((simp [*]; done)); done))) | (refine k_any (s_any (id := 8) _ (fun _ h => h) mixed ?_); refine x_tks (t := tb) (fuel := 25) [0, 1, 2] (bts 28 7) (by kernel_rfl) (by kernel_rfl) rfl rfl (Gh.le.refl _) (by repeat ((exact List.Sublist.refl _))) ?_ ?_; (focus (repeat' ((exact trivial)))); (try ((refine Nx.re (d := 49) (v' := Bo false) rfl (congrArg Value.bool ?_) ?_; (focus (((rfl)); done))))); refine x_tks (t := tb) (fuel := 23) [3, 4] (bts 28 31) (by kernel_rfl) (by kernel_rfl) rfl rfl (Gh.le.refl _) (by repeat ((exact List.Sublist.refl _))) ?_ ?_; (focus (repeat' ((exact trivial)))); ((refine (x_tkg (bts 28 63) 5 rfl (by kernel_rfl) rfl (Gh.le.refl _) (by repeat ((exact List.Sublist.refl _)))) (g_pickF rfl rfl ?_) rfl rfl ?_; (focus (((rfl)); done)))); refine x_tks (t := tb) (fuel := 21) [6] (bts 28 127) (by kernel_rfl) (by kernel_rfl) rfl rfl (Gh.le.refl _) (by repeat ((exact List.Sublist.refl _))) ?_ ?_; (focus (repeat' ((exact trivial)))); (try ((refine Nx.re (d := 53) (v' := Bo false) rfl (congrArg Value.bool ?_) ?_; (focus (((rfl)); done))))); refine x_tks (t := tb) (fuel := 20) [7] (bts 28 255) (by kernel_rfl) (by kernel_rfl) rfl rfl (Gh.le.refl _) (by repeat ((exact List.Sublist.refl _))) ?_ ?_; (focus (repeat' ((exact trivial)))); ((refine (x_tkg (bts 28 511) 8 rfl (by kernel_rfl) rfl (Gh.le.refl _) (by repeat ((exact List.Sublist.refl _)))) (g_ld rfl rfl rfl) rfl rfl ?_)); ((refine x_all [9] (by kernel_rfl) (by decide) ⟨?_, trivial⟩; refine x_opg rfl rfl ?_; ((refine c_rt rfl rfl rfl (cx_nm2 _) rfl ?_)); refine x_ks (by (exact Gh.le.refl _)) (by repeat ((exact List.Sublist.refl _))) (listed' := (bts 28 1023)) (by kernel_rfl) ?_)); refine x_tks (t := tb) (fuel := 17) [10] (bts 28 2047) (by kernel_rfl) (by kernel_rfl) rfl rfl (Gh.le.refl _) (by repeat ((exact List.Sublist.refl _))) ?_ ?_; (focus (repeat' ((exact trivial)))); ((refine (x_tkg (bts 28 4095) 11 rfl (by kernel_rfl) rfl (Gh.le.refl _) (by repeat ((exact List.Sublist.refl _)))) (g_pickF rfl rfl ?_) rfl rfl ?_; (focus (((rfl)); done)))); refine x_tks (t := tb) (fuel := 15) [12] (bts 28 8191) (by kernel_rfl) (by kernel_rfl) rfl rfl (Gh.le.refl _) (by repeat ((exact List.Sublist.refl _))) ?_ ?_; (focus (repeat' ((exact trivial)))); (try ((refine Nx.re (d := 59) (v' := Bo false) rfl (congrArg Value.bool ?_) ?_; (focus (((rfl)); done))))); refine x_tks (t := tb) (fuel := 12) [13, 14, 15] (bts 28 65535) (by kernel_rfl) (by kernel_rfl) rfl rfl (Gh.le.refl _) (by repeat ((exact List.Sublist.refl _))) ?_ ?_; (focus (repeat' ((exact trivial)))); (try ((refine Nx.re (d := 62) (v' := Bo true) rfl (congrArg Value.bool ?_) ?_; (focus (((refine decide_eq_true ?_; (omega))); done))))); refine x_tks (t := tb) (fuel := 8) [16, 18, 19, 23] (bts 28 9306111) (by kernel_rfl) (by kernel_rfl) rfl rfl (Gh.le.refl _) (by repeat ((exact List.Sublist.refl _))) ?_ ?_; (focus (repeat' (first | exact trivial | apply And.intro | omega))); ((refine (x_tkg (bts 28 9437183) 17 rfl (by kernel_rfl) rfl (Gh.le.refl _) (by repeat ((exact List.Sublist.refl _)))) (g_ld rfl rfl rfl) rfl rfl ?_)); ((refine (x_tkg (bts 28 10485759) 20 rfl (by kernel_rfl) rfl (Gh.le.refl _) (by repeat ((exact List.Sublist.refl _)))) (g_iaddr rfl rfl ?_) rfl rfl ?_; (focus ((omega); done)))); refine x_tks (t := tb) (fuel := 5) [21] (bts 28 12582911) (by kernel_rfl) (by kernel_rfl) rfl rfl (Gh.le.refl _) (by repeat ((exact List.Sublist.refl _))) ?_ ?_; (focus (repeat' ((exact trivial)))); ((refine (x_tkg (bts 28 16777215) 22 rfl (by kernel_rfl) rfl (Gh.le.refl _) (by repeat ((exact List.Sublist.refl _)))) (g_ldRF rfl rfl (by assumption) ?_ rfl rfl) rfl rfl ?_; (focus (((omega)); done)))); ((refine (x_tkg (bts 28 33554431) 24 rfl (by kernel_rfl) rfl (Gh.le.refl _) (by repeat ((exact List.Sublist.refl _)))) (g_ld rfl rfl rfl) rfl rfl ?_)); refine x_tks (t := tb) (fuel := 2) [25] (bts 28 67108863) (by kernel_rfl) (by kernel_rfl) rfl rfl (Gh.le.refl _) (by repeat ((exact List.Sublist.refl _))) ?_ ?_; (focus (repeat' ((exact trivial)))); ((refine (x_tkg (bts 28 134217727) 26 rfl (by kernel_rfl) rfl (Gh.le.refl _) (by repeat ((exact List.Sublist.refl _)))) (g_pickT rfl rfl ?_) rfl rfl ?_; (focus (((rfl)); done)))); ((refine (x_tkg (bts 28 268435455) 27 rfl (by kernel_rfl) rfl (Gh.le.refl _) (by repeat ((exact List.Sublist.refl _)))) (g_pickF rfl rfl ?_) rfl rfl ?_; (focus (((rfl)); done)))); refine x_done (by kernel_rfl) (k_bk ?_)))
          all_goals
            refine k_rd (j + 1 + 1, G) ⟨⟨by dsimp only; omega, hg⟩, fun k hk => ?_⟩ (by dsimp only; omega) (by repeat (first | exact trivial | refine ⟨rfl, ?_⟩)) rfl (by repeat (first | exact List.Sublist.refl _ | apply List.Sublist.cons))
            rcases Nat.lt_or_ge k (j + 1) with h1 | h1
            · exact hgood k h1
            · have : k = j + 1 := by dsimp only at hk; omega
              subst this; exact hb
    all_goals
      have hb : goodAt s a i = false := by simp [goodAt, mtOk, e1, e2, e3]
      repeat' (first | (refine run (t := tb) 400 rfl ?_ ?_; (focus (repeat' ((exact trivial))))) | (refine k_op rfl ?_; first | refine v_op (g_ld rfl rfl rfl) rfl rfl ?_ | (refine v_op (g_ldR rfl rfl (by assumption) ?_) rfl rfl ?_; (focus (((omega)); done))) | (refine v_op (g_iaddrN rfl rfl ?_) rfl rfl ?_; (focus ((omega); done))) | refine c_al rfl rfl fun _ => ?_ | refine c_stA rfl rfl rfl rfl rfl rfl ?_ | (refine c_fns rfl rfl rfl (cx_bo1 _) rfl ?_; rintro _ G hle ⟨p1, a1, b1, c1, rfl⟩; ((try have sa := Seg.mono sa hle); (try have hg := Gh.le.trans hg hle))) | (refine c_fns rfl rfl rfl (cx_bo2 _) rfl ?_; rintro _ G hle ⟨p2, a2, b2, c2, rfl⟩; ((try have sa := Seg.mono sa hle); (try have hg := Gh.le.trans hg hle)))) | (refine k_tt rfl ?_ ?_; (focus ((first | rfl | (refine decide_eq_true ?_; (omega))); done))) | (refine k_any (s_any (id := 8) _ (fun _ h => h) mixed ?_); refine x_tks (t := tb) (fuel := 25) [0, 1, 2] (bts 28 7) (by kernel_rfl) (by kernel_rfl) rfl rfl (Gh.le.refl _) (by repeat ((exact List.Sublist.refl _))) ?_ ?_; (focus (repeat' ((exact trivial)))); (try (first | (refine Nx.re (d := 49) (v' := Bo true) rfl (congrArg Value.bool ?_) ?_; (focus (((rfl)); done))) | (refine Nx.re (d := 49) (v' := Bo false) rfl (congrArg Value.bool ?_) ?_; (focus (((rfl)); done))))); refine x_tks (t := tb) (fuel := 23) [3, 4] (bts 28 31) (by kernel_rfl) (by kernel_rfl) rfl rfl (Gh.le.refl _) (by repeat ((exact List.Sublist.refl _))) ?_ ?_; (focus (repeat' ((exact trivial)))); (first | (refine (x_tkg (bts 28 63) 5 rfl (by kernel_rfl) rfl (Gh.le.refl _) (by repeat ((exact List.Sublist.refl _)))) (g_pickT rfl rfl ?_) rfl rfl ?_; (focus (((rfl)); done))) | (refine (x_tkg (bts 28 63) 5 rfl (by kernel_rfl) rfl (Gh.le.refl _) (by repeat ((exact List.Sublist.refl _)))) (g_pickF rfl rfl ?_) rfl rfl ?_; (focus (((rfl)); done)))); refine x_tks (t := tb) (fuel := 21) [6] (bts 28 127) (by kernel_rfl) (by kernel_rfl) rfl rfl (Gh.le.refl _) (by repeat ((exact List.Sublist.refl _))) ?_ ?_; (focus (repeat' ((exact trivial)))); (try (first | (refine Nx.re (d := 53) (v' := Bo true) rfl (congrArg Value.bool ?_) ?_; (focus (((rfl)); done))) | (refine Nx.re (d := 53) (v' := Bo false) rfl (congrArg Value.bool ?_) ?_; (focus (((rfl)); done))))); refine x_tks (t := tb) (fuel := 20) [7] (bts 28 255) (by kernel_rfl) (by kernel_rfl) rfl rfl (Gh.le.refl _) (by repeat ((exact List.Sublist.refl _))) ?_ ?_; (focus (repeat' ((exact trivial)))); (first | refine (x_tkg (bts 28 511) 8 rfl (by kernel_rfl) rfl (Gh.le.refl _) (by repeat ((exact List.Sublist.refl _)))) (g_ld rfl rfl rfl) rfl rfl ?_ | refine x_tkn (bts 28 511) 8 rfl (by kernel_rfl) rfl (Gh.le.refl _) (by repeat ((exact List.Sublist.refl _))) rfl rfl ?_); (first | refine x_tkn (bts 28 1023) 9 rfl (by kernel_rfl) rfl (Gh.le.refl _) (by repeat ((exact List.Sublist.refl _))) rfl rfl ?_ | (refine x_all [9] (by kernel_rfl) (by decide) ⟨?_, trivial⟩; refine x_opg rfl rfl ?_; ((refine c_rt rfl rfl rfl (cx_nm2 _) rfl ?_)); refine x_ks (by (exact Gh.le.refl _)) (by repeat ((exact List.Sublist.refl _))) (listed' := (bts 28 1023)) (by kernel_rfl) ?_)); refine x_tks (t := tb) (fuel := 17) [10] (bts 28 2047) (by kernel_rfl) (by kernel_rfl) rfl rfl (Gh.le.refl _) (by repeat ((exact List.Sublist.refl _))) ?_ ?_; (focus (repeat' ((exact trivial)))); (first | (refine (x_tkg (bts 28 4095) 11 rfl (by kernel_rfl) rfl (Gh.le.refl _) (by repeat ((exact List.Sublist.refl _)))) (g_pickT rfl rfl ?_) rfl rfl ?_; (focus (((rfl)); done))) | (refine (x_tkg (bts 28 4095) 11 rfl (by kernel_rfl) rfl (Gh.le.refl _) (by repeat ((exact List.Sublist.refl _)))) (g_pickF rfl rfl ?_) rfl rfl ?_; (focus (((rfl)); done)))); refine x_tks (t := tb) (fuel := 15) [12] (bts 28 8191) (by kernel_rfl) (by kernel_rfl) rfl rfl (Gh.le.refl _) (by repeat ((exact List.Sublist.refl _))) ?_ ?_; (focus (repeat' ((exact trivial)))); (try ((refine Nx.re (d := 59) (v' := Bo true) rfl (congrArg Value.bool ?_) ?_; (focus (((rfl)); done))))); refine x_tks (t := tb) (fuel := 12) [13, 14, 15] (bts 28 65535) (by kernel_rfl) (by kernel_rfl) rfl rfl (Gh.le.refl _) (by repeat ((exact List.Sublist.refl _))) ?_ ?_; (focus (repeat' ((exact trivial)))); (try (fail)); refine x_tks (t := tb) (fuel := 8) [16, 18, 19, 23] (bts 28 9306111) (by kernel_rfl) (by kernel_rfl) rfl rfl (Gh.le.refl _) (by repeat ((exact List.Sublist.refl _))) ?_ ?_; (focus (repeat' ((exact trivial)))); ((refine x_tkn (bts 28 9437183) 17 rfl (by kernel_rfl) rfl (Gh.le.refl _) (by repeat ((exact List.Sublist.refl _))) rfl rfl ?_)); ((refine x_tkn (bts 28 10485759) 20 rfl (by kernel_rfl) rfl (Gh.le.refl _) (by repeat ((exact List.Sublist.refl _))) rfl rfl ?_)); refine x_tks (t := tb) (fuel := 5) [21] (bts 28 12582911) (by kernel_rfl) (by kernel_rfl) rfl rfl (Gh.le.refl _) (by repeat ((exact List.Sublist.refl _))) ?_ ?_; (focus (repeat' ((exact trivial)))); ((refine x_tkn (bts 28 16777215) 22 rfl (by kernel_rfl) rfl (Gh.le.refl _) (by repeat ((exact List.Sublist.refl _))) rfl rfl ?_)); ((refine x_tkn (bts 28 33554431) 24 rfl (by kernel_rfl) rfl (Gh.le.refl _) (by repeat ((exact List.Sublist.refl _))) rfl rfl ?_)); refine x_tks (t := tb) (fuel := 2) [25] (bts 28 67108863) (by kernel_rfl) (by kernel_rfl) rfl rfl (Gh.le.refl _) (by repeat ((exact List.Sublist.refl _))) ?_ ?_; (focus (repeat' ((exact trivial)))); ((refine x_tkn (bts 28 134217727) 26 rfl (by kernel_rfl) rfl (Gh.le.refl _) (by repeat ((exact List.Sublist.refl _))) rfl rfl ?_)); ((refine (x_tkg (bts 28 268435455) 27 rfl (by kernel_rfl) rfl (Gh.le.refl _) (by repeat ((exact List.Sublist.refl _)))) (g_pickT rfl rfl ?_) rfl rfl ?_; (focus (((rfl)); done)))); refine x_done (by kernel_rfl) (k_bk ?_)))
      refine Nx.base hok hB ?_
      refine k_rr (vs := [_]) rfl ⟨rfl, trivial⟩ rfl (List.nil_sublist _) ⟨rfl, rfl, ?_⟩
      rw [oneOf_one, svc_no hi hb]
  · repeat' (first | (refine run (t := tb) 400 rfl ?_ ?_; (focus (repeat' ((exact trivial))))) | (refine k_ff rfl ?_ ?_; (focus (((refine decide_eq_false ?_; (omega))); done))))
    refine Nx.base hok hB ?_
    refine k_rr (vs := [_]) rfl ⟨rfl, trivial⟩ rfl (List.nil_sublist _) ⟨rfl, rfl, ?_⟩
    rw [oneOf_one, svc_yes (by simpa using h1) (by omega) (fun k hk => hgood k (by omega))]
end Go.E
/-! Oj -/
namespace Go.E
set_option maxRecDepth 20000
set_option maxHeartbeats 2000000
open Go.Proofs
variable {G : Gh}
def mFind (a : List Mt) (x : List UInt8) : Option Mt := a.find? fun m => decide (m.1 = x)
def rdAt (s : List UInt8) (a : List Mt) (r : List UInt8) (o : Mt) : Bool := match mFind a o.1 with
  | none => false
  | some m => evReads s m.2.1 r o.2.1 && evReads r o.2.2 s m.2.2
def svcReads (s : List UInt8) (a : List Mt) (r : List UInt8) (b : List Mt) : Bool := (svcOk s a && svcOk r b) && b.all (rdAt s a r)
theorem mFind_at {a : List Mt} {x : List UInt8} {i : Nat} (hi : i < a.length) (hno : ∀ k, k < i → (nth a k).1 ≠ x) (h : (nth a i).1 = x) : mFind a x = some (nth a i) :=
  find_at hi (fun k hk => by simpa using hno k hk) (by simpa using h)
theorem mFind_no {a : List Mt} {x : List UInt8} (hno : ∀ k, k < a.length → (nth a k).1 ≠ x) : mFind a x = none := find_no fun k hk => by simpa using hno k hk
abbrev zM : Mt := ([], [], [])
abbrev tMfS : TypeId := 35
abbrev tSfS : TypeId := 29
theorem c_findS {s x : List UInt8} {u : Value} {a : List Mt} (hu : SlV G u 3 a.length (rows mtF a)) (hn : a.length ≤ 1048576) :
    PuG Tryz.prog 11 [Ag [S s, u], S x] G (· = Tu [Ag (mtF ((mFind a x).getD zM)), Bo (mFind a x).isSome]) := by
  refine p_enter [(0, _), (1, _)] Tryz.func11 (by kernel_rfl) Tryz.ntmps11 rfl rfl (by repeat (first | exact trivial | refine ⟨rfl, ?_⟩)) fun B hB => ?_
  repeat' (first | (refine run (t := tb) 400 rfl ?_ ?_; (focus (repeat' ((exact trivial))))) | (refine k_op rfl ?_; first | refine c_bx rfl rfl rfl fun _ => ?_ | refine c_al rfl rfl fun _ => ?_))
  rename_i x2 x4
  refine k_loop (ι := Nat) (fun i => i ≤ a.length ∧ ∀ k, k < i → (nth a k).1 ≠ x) (fun i => [(1, S x), (2, Pt x2 0), (4, Pt x4 0), (6, I i)]) (fun _ => G) (fun i => [.blk x4 (.cells (List.toArray [S [], S [], S []]) tMfS (0, 0)), .blk x2 (.cells (List.toArray [S s, u]) tSfS (0, 0))]) (fun i => a.length - i) 0 ?_ (by repeat (first | exact trivial | refine ⟨rfl, ?_⟩)) rfl (by repeat ((exact List.Sublist.refl _))) (fun i Hi => ?_)
  · exact ⟨Nat.zero_le _, fun k hk => absurd hk (by omega)⟩
  by_cases hi : i < a.length
  · obtain ⟨ba, oa, ca, rfl, sa⟩ := hu.expl (by omega)
    repeat' (first | (refine run (t := tb) 400 rfl ?_ ?_; (focus (repeat' (first | exact trivial | apply And.intro | omega)))) | (refine k_op rfl ?_; first | refine v_op (g_ld rfl rfl rfl) rfl rfl ?_ | (refine v_op (g_ldR rfl rfl (by assumption) ?_) rfl rfl ?_; (focus (((omega)); done))) | (refine v_op (g_ldRF rfl rfl (by assumption) ?_ rfl rfl) rfl rfl ?_; (focus (((omega)); done))) | refine v_op (g_lenL rfl) rfl rfl ?_ | (refine v_op (g_iaddrN rfl rfl ?_) rfl rfl ?_; (focus ((omega); done))) | refine c_stA rfl rfl rfl rfl rfl rfl ?_) | (refine k_tt rfl ?_ ?_; (focus (((refine decide_eq_true ?_; (omega))); done))) | refine k_if rfl (fun _ => ?_) (fun _ => ?_))
    · rename_i he
      refine k_rr (vs := [_, _]) rfl ⟨rc_A rfl rfl rfl rfl, rfl, trivial⟩ rfl (List.nil_sublist _) ⟨rfl, rfl, ?_⟩
      rw [mFind_at hi Hi.2 he]; rfl
    · rename_i he
      refine k_rd (i + 1) ⟨by omega, fun k hk => ?_⟩ (by omega) (by repeat (first | exact trivial | refine ⟨rfl, ?_⟩)) rfl (by repeat ((exact List.Sublist.refl _)))
      rcases Nat.lt_or_ge k i with h3 | h3
      · exact Hi.2 k h3
      · have : k = i := by omega
        subst this; exact he
  · repeat' (first | (refine run (t := tb) 400 rfl ?_ ?_; (focus (repeat' ((exact trivial))))) | (refine k_op rfl ?_; first | refine v_op (g_ld rfl rfl rfl) rfl rfl ?_ | refine v_op (g_lenV rfl (by assumption)) rfl rfl ?_ | refine c_stA rfl rfl rfl rfl rfl rfl ?_ | refine v_op (g_bld rfl rfl) rfl rfl ?_) | (refine k_ff rfl ?_ ?_; (focus (((refine decide_eq_false ?_; (omega))); done))))
    refine k_rr (vs := [_, _]) rfl ⟨rc_A rfl rfl rfl rfl, rfl, trivial⟩ rfl (List.nil_sublist _) ⟨rfl, rfl, ?_⟩
    rw [mFind_no fun k hk => Hi.2 k (by omega)]; rfl
abbrev tMfI : TypeId := 35
abbrev tSfI : TypeId := 29
theorem c_method {s x : List UInt8} {u : Value} {a : List Mt} (hu : SlV G u 3 a.length (rows mtF a)) (hn : a.length ≤ 1048576) :
    PuG Tryz.prog 15 [Ag [S s, u], S x] G (· = Tu [Ag (mtF ((mFind a x).getD zM)), Bo (mFind a x).isSome]) := by
  refine p_enter [(0, _), (1, _)] Tryz.func15 (by kernel_rfl) Tryz.ntmps15 rfl rfl (by repeat (first | exact trivial | refine ⟨rfl, ?_⟩)) fun B hB => ?_
  repeat' (first | (refine run (t := tb) 400 rfl ?_ ?_; (focus (repeat' ((exact trivial))))) | (refine k_op rfl ?_; first | refine c_bx rfl rfl rfl fun _ => ?_ | refine c_al rfl rfl fun _ => ?_ | refine v_op (g_ld rfl rfl rfl) rfl rfl ?_ | refine v_op (g_lenV rfl (by assumption)) rfl rfl ?_))
  rename_i x2 x4
  refine k_loop (ι := Nat) (fun i => i ≤ a.length ∧ ∀ k, k < i → (nth a k).1 ≠ x) (fun i => [(1, S x), (2, Pt x2 0), (4, Pt x4 0), (9, u), (10, I a.length), (11, I i)]) (fun _ => G) (fun i => [.blk x4 (.cells (List.toArray [S [], S [], S []]) tMfI (0, 0)), .blk x2 (.cells (List.toArray [S s, u]) tSfI (0, 0))]) (fun i => a.length - i) 0 ?_ (by repeat (first | exact trivial | refine ⟨rfl, ?_⟩)) rfl (by repeat ((exact List.Sublist.refl _))) (fun i Hi => ?_)
  · exact ⟨Nat.zero_le _, fun k hk => absurd hk (by omega)⟩
  by_cases hi : i < a.length
  · obtain ⟨ba, oa, ca, rfl, sa⟩ := hu.expl (by omega)
    repeat' (first | (refine run (t := tb) 400 rfl ?_ ?_; (focus (repeat' (first | exact trivial | apply And.intro | omega)))) | (refine k_op rfl ?_; first | refine c_al rfl rfl fun _ => ?_ | refine v_op (g_ld rfl rfl rfl) rfl rfl ?_ | (refine v_op (g_ldR rfl rfl (by assumption) ?_) rfl rfl ?_; (focus (((omega)); done))) | refine v_op (g_ldA rfl rfl rfl rfl) rfl rfl ?_ | (refine v_op (g_iaddrN rfl rfl ?_) rfl rfl ?_; (focus ((omega); done))) | refine c_stA rfl rfl rfl rfl rfl rfl ?_) | (refine k_tt rfl ?_ ?_; (focus (((refine decide_eq_true ?_; (omega))); done))) | refine k_if rfl (fun _ => ?_) (fun _ => ?_))
    · rename_i he
      refine k_rr (vs := [_, _]) rfl ⟨rc_A rfl rfl rfl rfl, rfl, trivial⟩ rfl (List.nil_sublist _) ⟨rfl, rfl, ?_⟩
      rw [mFind_at hi Hi.2 he]; rfl
    · rename_i he
      refine k_rd (i + 1) ⟨by omega, fun k hk => ?_⟩ (by omega) (by repeat (first | exact trivial | refine ⟨rfl, ?_⟩)) rfl (by repeat (first | exact List.Sublist.refl _ | apply List.Sublist.cons))
      rcases Nat.lt_or_ge k i with h3 | h3
      · exact Hi.2 k h3
      · have : k = i := by omega
        subst this; exact he
  · repeat' (first | (refine run (t := tb) 400 rfl ?_ ?_; (focus (repeat' ((exact trivial))))) | (refine k_op rfl ?_; first | refine c_stA rfl rfl rfl rfl rfl rfl ?_ | refine v_op (g_bld rfl rfl) rfl rfl ?_) | (refine k_ff rfl ?_ ?_; (focus (((refine decide_eq_false ?_; (omega))); done))))
    refine k_rr (vs := [_, _]) rfl ⟨rc_A rfl rfl rfl rfl, rfl, trivial⟩ rfl (List.nil_sublist _) ⟨rfl, rfl, ?_⟩
    rw [mFind_no fun k hk => Hi.2 k (by omega)]; rfl
theorem svcReads_no {s r : List UInt8} {a b : List Mt} (h : svcOk s a = false ∨ svcOk r b = false) : svcReads s a r b = false := by
  unfold svcReads
  rcases h with h | h <;> rw [h] <;> simp
theorem svcReads_at {s r : List UInt8} {a b : List Mt} {i : Nat} (hi : i < b.length) (h : rdAt s a r (nth b i) = false) : svcReads s a r b = false := by
  unfold svcReads
  have : b.all (rdAt s a r) = false := by
    rw [List.all_eq_false]
    exact ⟨_, nth_mem hi, by rw [h]; simp⟩
  rw [this, Bool.and_false]
theorem svcReads_yes {s r : List UInt8} {a b : List Mt} (h1 : svcOk s a = true) (h2 : svcOk r b = true) (h : ∀ k, k < b.length → rdAt s a r (nth b k) = true) : svcReads s a r b = true := by
  unfold svcReads
  have : b.all (rdAt s a r) = true := by
    rw [List.all_eq_true]
    intro x hx
    obtain ⟨k, hk, rfl⟩ := mem_nth hx
    exact h k hk
  rw [h1, h2, this]; rfl
abbrev tSrS : TypeId := 29
theorem c_ServiceReadsS {s r : List UInt8} {u v : Value} {a b : List Mt} (h : (s.length ≤ 1048576 ∧ a.length ≤ 1048576) ∧ (r.length ≤ 1048576 ∧ b.length ≤ 1048576) ∧ (∀ x ∈ a, MtL x) ∧ ∀ x ∈ b, MtL x) (hu : SlV G u 3 a.length (rows mtF a)) (hv : SlV G v 3 b.length (rows mtF b)) :
    PuG Tryz.prog 5 [Ag [S s, u], Ag [S r, v]] G (· = Bo (svcReads s a r b)) := by
  obtain ⟨⟨hs, ha⟩, ⟨hr, hb⟩, hma, hmb⟩ := h
  cases e1 : svcOk s a
  · have cx_so1 : PuG Tryz.prog 10 [Ag [S s, u]] G (· = Bo false) := by rw [← e1]; exact c_ServiceOkS hs hu ha hma
    rw [svcReads_no (.inl e1)]
    refine p_enter [(0, _), (1, _)] Tryz.func5 (by kernel_rfl) Tryz.ntmps5 rfl rfl (by repeat (first | exact trivial | refine ⟨rfl, ?_⟩)) fun B hB => ?_
    repeat' (first | (refine run (t := tb) 400 rfl ?_ ?_; (focus (repeat' ((exact trivial))))) | (refine k_op rfl ?_; first | refine c_bx rfl rfl rfl fun _ => ?_ | refine v_op (g_ldA rfl rfl rfl rfl) rfl rfl ?_ | (refine v_op (g_pickT rfl rfl ?_) rfl rfl ?_; (focus (((rfl)); done))) | (refine c_rt rfl rfl rfl cx_so1 rfl ?_)) | (refine k_gt rfl rfl ?_ ?_; (focus (((rfl)); done))) | (refine k_tt rfl ?_ ?_; (focus (((rfl)); done))))
    all_goals refine k_rr (vs := [_]) rfl ⟨rfl, trivial⟩ rfl (List.nil_sublist _) ⟨rfl, rfl, ?_⟩
    all_goals rfl
  have cx_so1 : PuG Tryz.prog 10 [Ag [S s, u]] G (· = Bo true) := by rw [← e1]; exact c_ServiceOkS hs hu ha hma
  cases e2 : svcOk r b
  · have cx_so2 : PuG Tryz.prog 10 [Ag [S r, v]] G (· = Bo false) := by rw [← e2]; exact c_ServiceOkS hr hv hb hmb
    rw [svcReads_no (.inr e2)]
    refine p_enter [(0, _), (1, _)] Tryz.func5 (by kernel_rfl) Tryz.ntmps5 rfl rfl (by repeat (first | exact trivial | refine ⟨rfl, ?_⟩)) fun B hB => ?_
    repeat' (first | (refine run (t := tb) 400 rfl ?_ ?_; (focus (repeat' ((exact trivial))))) | (refine k_op rfl ?_; first | refine c_bx rfl rfl rfl fun _ => ?_ | refine v_op (g_ldA rfl rfl rfl rfl) rfl rfl ?_ | (refine v_op (g_pickF rfl rfl ?_) rfl rfl ?_; (focus (((rfl)); done))) | (refine c_rt rfl rfl rfl cx_so1 rfl ?_) | (refine c_rt rfl rfl rfl cx_so2 rfl ?_)) | (refine k_gf rfl rfl ?_ ?_; (focus (((rfl)); done))) | (refine k_tt rfl ?_ ?_; (focus (((rfl)); done))))
    all_goals refine k_rr (vs := [_]) rfl ⟨rfl, trivial⟩ rfl (List.nil_sublist _) ⟨rfl, rfl, ?_⟩
    all_goals rfl
  have cx_so2 : PuG Tryz.prog 10 [Ag [S r, v]] G (· = Bo true) := by rw [← e2]; exact c_ServiceOkS hr hv hb hmb
  refine p_enter [(0, _), (1, _)] Tryz.func5 (by kernel_rfl) Tryz.ntmps5 rfl rfl (by repeat (first | exact trivial | refine ⟨rfl, ?_⟩)) fun B hB => ?_
  repeat' (first | (refine run (t := tb) 400 rfl ?_ ?_; (focus (repeat' ((exact trivial))))) | (refine k_op rfl ?_; first | refine c_bx rfl rfl rfl fun _ => ?_ | refine v_op (g_ldA rfl rfl rfl rfl) rfl rfl ?_ | (refine v_op (g_pickF rfl rfl ?_) rfl rfl ?_; (focus (((rfl)); done))) | (refine c_rt rfl rfl rfl cx_so1 rfl ?_) | (refine c_rt rfl rfl rfl cx_so2 rfl ?_)) | (refine k_gf rfl rfl ?_ ?_; (focus (((rfl)); done))) | (refine k_ff rfl ?_ ?_; (focus (((rfl)); done))))
  rename_i x2 x3
  refine k_loop (ι := Nat) (fun i => i ≤ b.length ∧ ∀ k, k < i → rdAt s a r (nth b k) = true) (fun i => [(2, Pt x2 0), (3, Pt x3 0), (5, I i)]) (fun _ => G) (fun i => [.blk x3 (.cells (List.toArray [S r, v]) tSrS (0, 0)), .blk x2 (.cells (List.toArray [S s, u]) tSrS (0, 0))]) (fun i => b.length - i) 0 ?_ (by repeat (first | exact trivial | refine ⟨rfl, ?_⟩)) rfl (by repeat ((exact List.Sublist.refl _))) (fun i Hi => ?_)
  · exact ⟨Nat.zero_le _, fun k hk => absurd hk (by omega)⟩
  by_cases hi : i < b.length
  case neg =>
    repeat' (first | (refine run (t := tb) 400 rfl ?_ ?_; (focus (repeat' ((exact trivial))))) | (refine k_op rfl ?_; first | refine v_op (g_ld rfl rfl rfl) rfl rfl ?_ | refine v_op (g_lenV rfl (by assumption)) rfl rfl ?_) | (refine k_ff rfl ?_ ?_; (focus (((refine decide_eq_false ?_; (omega))); done))))
    refine k_rr (vs := [_]) rfl ⟨rfl, trivial⟩ rfl (List.nil_sublist _) ⟨rfl, rfl, ?_⟩
    rw [oneOf_one, svcReads_yes e1 e2 (fun k hk => Hi.2 k (by omega))]
  obtain ⟨bb, ob, cb, rfl, sb⟩ := hv.expl (by omega)
  have hxo := hmb _ (nth_mem hi)
  have cx_f0 := c_findS (s := s) (x := (nth b i).1) hu ha
  cases hf : mFind a (nth b i).1 with
  | none =>
    rw [hf] at cx_f0
    have cx_find : PuG Tryz.prog 11 [Ag [S s, u], S (nth b i).1] G (· = Tu [Ag [S [], S [], S []], Bo false]) := cx_f0
    have hb2 : rdAt s a r (nth b i) = false := by unfold rdAt; rw [hf]
    repeat' (first | (refine run (t := tb) 400 rfl ?_ ?_; (focus (repeat' ((exact trivial))))) | (refine k_op rfl ?_; first | refine v_op (g_ld rfl rfl rfl) rfl rfl ?_ | (refine v_op (g_ldR rfl rfl (by assumption) ?_) rfl rfl ?_; (focus (((omega)); done))) | refine v_op (g_ldA rfl rfl rfl rfl) rfl rfl ?_ | (refine v_op (g_pickT rfl rfl ?_) rfl rfl ?_; (focus (((rfl)); done))) | refine v_op (g_lenL rfl) rfl rfl ?_ | (refine v_op (g_iaddrN rfl rfl ?_) rfl rfl ?_; (focus ((omega); done))) | refine c_al rfl rfl fun _ => ?_ | refine c_stA rfl rfl rfl rfl rfl rfl ?_ | (refine c_rt rfl rfl rfl cx_find rfl ?_)) | (refine k_gt rfl rfl ?_ ?_; (focus (((rfl)); done))) | (refine k_tt rfl ?_ ?_; (focus ((first | rfl | (refine decide_eq_true ?_; (omega))); done))))
    all_goals refine k_rr (vs := [_]) rfl ⟨rfl, trivial⟩ rfl (List.nil_sublist _) ⟨rfl, rfl, ?_⟩
    all_goals rw [oneOf_one, svcReads_at hi hb2]
  | some m =>
    rw [hf] at cx_f0
    have cx_find : PuG Tryz.prog 11 [Ag [S s, u], S (nth b i).1] G (· = Tu [Ag [S m.1, S m.2.1, S m.2.2], Bo true]) := cx_f0
    have hxm := hma _ (List.mem_of_find?_eq_some hf)
    have cx_eva := c_EvolveReadsS (G := G) (s := s) (k := m.2.1) (r := r) (l := (nth b i).2.1) (by omega) (by omega) (by omega) (by omega)
    have cx_evb := c_EvolveReadsS (G := G) (s := r) (k := (nth b i).2.2) (r := s) (l := m.2.2) (by omega) (by omega) (by omega) (by omega)
    have hrd : rdAt s a r (nth b i) = (evReads s m.2.1 r (nth b i).2.1 && evReads r (nth b i).2.2 s m.2.2) := by unfold rdAt; rw [hf]
    generalize evReads s m.2.1 r (nth b i).2.1 = qa at cx_eva hrd
    generalize evReads r (nth b i).2.2 s m.2.2 = qb at cx_evb hrd
    cases qa
    · repeat' (first | (refine run (t := tb) 400 rfl ?_ ?_; (focus (repeat' ((exact trivial))))) | (refine k_op rfl ?_; first | refine v_op (g_ld rfl rfl rfl) rfl rfl ?_ | (refine v_op (g_ldR rfl rfl (by assumption) ?_) rfl rfl ?_; (focus (((omega)); done))) | refine v_op (g_ldA rfl rfl rfl rfl) rfl rfl ?_ | (refine v_op (g_pickT rfl rfl ?_) rfl rfl ?_; (focus (((rfl)); done))) | (refine v_op (g_pickF rfl rfl ?_) rfl rfl ?_; (focus (((rfl)); done))) | refine v_op (g_lenL rfl) rfl rfl ?_ | (refine v_op (g_iaddrN rfl rfl ?_) rfl rfl ?_; (focus ((omega); done))) | refine c_al rfl rfl fun _ => ?_ | refine c_stA rfl rfl rfl rfl rfl rfl ?_ | (refine c_rt rfl rfl rfl cx_find rfl ?_) | (refine c_rt rfl rfl rfl cx_eva rfl ?_)) | (refine k_gt rfl rfl ?_ ?_; (focus (((rfl)); done))) | (refine k_gf rfl rfl ?_ ?_; (focus (((rfl)); done))) | (refine k_tt rfl ?_ ?_; (focus ((first | rfl | (refine decide_eq_true ?_; (omega))); done))))
      all_goals refine k_rr (vs := [_]) rfl ⟨rfl, trivial⟩ rfl (List.nil_sublist _) ⟨rfl, rfl, ?_⟩
      all_goals rw [oneOf_one, svcReads_at hi hrd]
    cases qb
    · repeat' (first | (refine run (t := tb) 400 rfl ?_ ?_; (focus (repeat' ((exact trivial))))) | (refine k_op rfl ?_; first | refine v_op (g_ld rfl rfl rfl) rfl rfl ?_ | (refine v_op (g_ldR rfl rfl (by assumption) ?_) rfl rfl ?_; (focus (((omega)); done))) | refine v_op (g_ldA rfl rfl rfl rfl) rfl rfl ?_ | (refine v_op (g_pickF rfl rfl ?_) rfl rfl ?_; (focus (((rfl)); done))) | refine v_op (g_lenL rfl) rfl rfl ?_ | (refine v_op (g_iaddrN rfl rfl ?_) rfl rfl ?_; (focus ((omega); done))) | refine c_al rfl rfl fun _ => ?_ | refine c_stA rfl rfl rfl rfl rfl rfl ?_ | (refine c_rt rfl rfl rfl cx_find rfl ?_) | (refine c_rt rfl rfl rfl cx_eva rfl ?_) | (refine c_rt rfl rfl rfl cx_evb rfl ?_)) | (refine k_gf rfl rfl ?_ ?_; (focus (((rfl)); done))) | (refine k_tt rfl ?_ ?_; (focus ((first | rfl | (refine decide_eq_true ?_; (omega))); done))))
      all_goals refine k_rr (vs := [_]) rfl ⟨rfl, trivial⟩ rfl (List.nil_sublist _) ⟨rfl, rfl, ?_⟩
      all_goals rw [oneOf_one, svcReads_at hi hrd]
    repeat' (first | (refine run (t := tb) 400 rfl ?_ ?_; (focus (repeat' (first | exact trivial | apply And.intro | omega)))) | (refine k_op rfl ?_; first | refine v_op (g_ld rfl rfl rfl) rfl rfl ?_ | (refine v_op (g_ldR rfl rfl (by assumption) ?_) rfl rfl ?_; (focus (((omega)); done))) | refine v_op (g_ldA rfl rfl rfl rfl) rfl rfl ?_ | (refine v_op (g_pickF rfl rfl ?_) rfl rfl ?_; (focus (((rfl)); done))) | refine v_op (g_lenL rfl) rfl rfl ?_ | (refine v_op (g_iaddrN rfl rfl ?_) rfl rfl ?_; (focus ((omega); done))) | refine c_al rfl rfl fun _ => ?_ | refine c_stA rfl rfl rfl rfl rfl rfl ?_ | (refine c_rt rfl rfl rfl cx_find rfl ?_) | (refine c_rt rfl rfl rfl cx_eva rfl ?_) | (refine c_rt rfl rfl rfl cx_evb rfl ?_)) | (refine k_gf rfl rfl ?_ ?_; (focus (((rfl)); done))) | (refine k_tt rfl ?_ ?_; (focus (((refine decide_eq_true ?_; (omega))); done))) | (refine k_ff rfl ?_ ?_; (focus (((rfl)); done))))
    all_goals
      refine k_rd (i + 1) ⟨by omega, fun k hk => ?_⟩ (by omega) (by repeat (first | exact trivial | refine ⟨rfl, ?_⟩)) rfl (by repeat (first | exact List.Sublist.refl _ | apply List.Sublist.cons))
      rcases Nat.lt_or_ge k i with h3 | h3
      · exact Hi.2 k h3
      · have : k = i := by omega
        subst this; exact hrd
end Go.E
/-! Ok -/
namespace Go.E
set_option maxRecDepth 20000
set_option maxHeartbeats 2000000

open Go.Proofs
variable {G : Gh}
abbrev tSrI : TypeId := 29
theorem c_ServiceReadsI {s r : List UInt8} {u v : Value} {a b : List Mt} (h : (s.length ≤ 1048576 ∧ a.length ≤ 1048576) ∧ (r.length ≤ 1048576 ∧ b.length ≤ 1048576) ∧ (∀ x ∈ a, MtL x) ∧ ∀ x ∈ b, MtL x) (hu : SlV G u 3 a.length (rows mtF a)) (hv : SlV G v 3 b.length (rows mtF b)) :
    PuG Tryz.prog 7 [Ag [S s, u], Ag [S r, v]] G (· = Bo (svcReads s a r b)) := by
  obtain ⟨⟨hs, ha⟩, ⟨hr, hb⟩, hma, hmb⟩ := h
  cases e1 : svcOk s a
  · have cx_so1 : PuG Tryz.prog 14 [Ag [S s, u]] G (· = Bo false) := by rw [← e1]; exact c_ServiceOkI hs hu ha hma
    rw [svcReads_no (.inl e1)]
    refine p_enter [(0, _), (1, _)] Tryz.func7 (by kernel_rfl) Tryz.ntmps7 rfl rfl (by repeat (first | exact trivial | refine ⟨rfl, ?_⟩)) fun B hB => ?_
    repeat' (first | (refine run (t := tb) 400 rfl ?_ ?_; (focus (repeat' ((exact trivial))))) | (refine k_op rfl ?_; first | refine c_bx rfl rfl rfl fun _ => ?_ | refine v_op (g_ldA rfl rfl rfl rfl) rfl rfl ?_ | (refine v_op (g_pickT rfl rfl ?_) rfl rfl ?_; (focus (((rfl)); done))) | (refine c_rt rfl rfl rfl cx_so1 rfl ?_)) | (refine k_gt rfl rfl ?_ ?_; (focus (((rfl)); done))) | (refine k_tt rfl ?_ ?_; (focus (((rfl)); done))))
    all_goals refine k_rr (vs := [_]) rfl ⟨rfl, trivial⟩ rfl (List.nil_sublist _) ⟨rfl, rfl, ?_⟩
    all_goals rfl
  have cx_so1 : PuG Tryz.prog 14 [Ag [S s, u]] G (· = Bo true) := by rw [← e1]; exact c_ServiceOkI hs hu ha hma
  cases e2 : svcOk r b
  · have cx_so2 : PuG Tryz.prog 14 [Ag [S r, v]] G (· = Bo false) := by rw [← e2]; exact c_ServiceOkI hr hv hb hmb
    rw [svcReads_no (.inr e2)]
    refine p_enter [(0, _), (1, _)] Tryz.func7 (by kernel_rfl) Tryz.ntmps7 rfl rfl (by repeat (first | exact trivial | refine ⟨rfl, ?_⟩)) fun B hB => ?_
    repeat' (first | (refine run (t := tb) 400 rfl ?_ ?_; (focus (repeat' ((exact trivial))))) | (refine k_op rfl ?_; first | refine c_bx rfl rfl rfl fun _ => ?_ | refine v_op (g_ldA rfl rfl rfl rfl) rfl rfl ?_ | (refine v_op (g_pickF rfl rfl ?_) rfl rfl ?_; (focus (((rfl)); done))) | (refine c_rt rfl rfl rfl cx_so1 rfl ?_) | (refine c_rt rfl rfl rfl cx_so2 rfl ?_)) | (refine k_gf rfl rfl ?_ ?_; (focus (((rfl)); done))) | (refine k_tt rfl ?_ ?_; (focus (((rfl)); done))))
    all_goals refine k_rr (vs := [_]) rfl ⟨rfl, trivial⟩ rfl (List.nil_sublist _) ⟨rfl, rfl, ?_⟩
    all_goals rfl
  have cx_so2 : PuG Tryz.prog 14 [Ag [S r, v]] G (· = Bo true) := by rw [← e2]; exact c_ServiceOkI hr hv hb hmb
  refine p_enter [(0, _), (1, _)] Tryz.func7 (by kernel_rfl) Tryz.ntmps7 rfl rfl (by repeat (first | exact trivial | refine ⟨rfl, ?_⟩)) fun B hB => ?_
  repeat' (first | (refine run (t := tb) 400 rfl ?_ ?_; (focus (repeat' ((exact trivial))))) | (refine k_op rfl ?_; first | refine c_bx rfl rfl rfl fun _ => ?_ | refine v_op (g_ld rfl rfl rfl) rfl rfl ?_ | refine v_op (g_ldA rfl rfl rfl rfl) rfl rfl ?_ | (refine v_op (g_pickF rfl rfl ?_) rfl rfl ?_; (focus (((rfl)); done))) | refine v_op (g_lenV rfl (by assumption)) rfl rfl ?_ | (refine c_rt rfl rfl rfl cx_so1 rfl ?_) | (refine c_rt rfl rfl rfl cx_so2 rfl ?_)) | (refine k_gf rfl rfl ?_ ?_; (focus (((rfl)); done))) | (refine k_ff rfl ?_ ?_; (focus (((rfl)); done))))
  rename_i x2 x3
  refine k_loop (ι := Nat) (fun i => i ≤ b.length ∧ ∀ k, k < i → rdAt s a r (nth b k) = true) (fun i => [(2, Pt x2 0), (3, Pt x3 0), (18, v), (19, I b.length), (20, I i)]) (fun _ => G) (fun i => [.blk x3 (.cells (List.toArray [S r, v]) tSrI (0, 0)), .blk x2 (.cells (List.toArray [S s, u]) tSrI (0, 0))]) (fun i => b.length - i) 0 ?_ (by repeat (first | exact trivial | refine ⟨rfl, ?_⟩)) rfl (by repeat ((exact List.Sublist.refl _))) (fun i Hi => ?_)
  · exact ⟨Nat.zero_le _, fun k hk => absurd hk (by omega)⟩
  by_cases hi : i < b.length
  case neg =>
    repeat' (first | (refine run (t := tb) 400 rfl ?_ ?_; (focus (repeat' ((exact trivial))))) | (refine k_ff rfl ?_ ?_; (focus (((refine decide_eq_false ?_; (omega))); done))))
    refine k_rr (vs := [_]) rfl ⟨rfl, trivial⟩ rfl (List.nil_sublist _) ⟨rfl, rfl, ?_⟩
    rw [oneOf_one, svcReads_yes e1 e2 (fun k hk => Hi.2 k (by omega))]
  obtain ⟨bb, ob, cb, rfl, sb⟩ := hv.expl (by omega)
  have hxo := hmb _ (nth_mem hi)
  have cx_f0 := c_method (s := s) (x := (nth b i).1) hu ha
  cases hf : mFind a (nth b i).1 with
  | none =>
    rw [hf] at cx_f0
    have cx_find : PuG Tryz.prog 15 [Ag [S s, u], S (nth b i).1] G (· = Tu [Ag [S [], S [], S []], Bo false]) := cx_f0
    have hb2 : rdAt s a r (nth b i) = false := by unfold rdAt; rw [hf]
    repeat' (first | (refine run (t := tb) 400 rfl ?_ ?_; (focus (repeat' ((exact trivial))))) | (refine k_op rfl ?_; first | refine v_op (g_ld rfl rfl rfl) rfl rfl ?_ | (refine v_op (g_ldR rfl rfl (by assumption) ?_) rfl rfl ?_; (focus (((omega)); done))) | refine v_op (g_ldA rfl rfl rfl rfl) rfl rfl ?_ | (refine v_op (g_pickT rfl rfl ?_) rfl rfl ?_; (focus (((rfl)); done))) | (refine v_op (g_iaddrN rfl rfl ?_) rfl rfl ?_; (focus ((omega); done))) | refine c_al rfl rfl fun _ => ?_ | refine c_stA rfl rfl rfl rfl rfl rfl ?_ | (refine c_rt rfl rfl rfl cx_find rfl ?_)) | (refine k_gt rfl rfl ?_ ?_; (focus (((rfl)); done))) | (refine k_tt rfl ?_ ?_; (focus ((first | rfl | (refine decide_eq_true ?_; (omega))); done))))
    all_goals refine k_rr (vs := [_]) rfl ⟨rfl, trivial⟩ rfl (List.nil_sublist _) ⟨rfl, rfl, ?_⟩
    all_goals rw [oneOf_one, svcReads_at hi hb2]
  | some m =>
    rw [hf] at cx_f0
    have cx_find : PuG Tryz.prog 15 [Ag [S s, u], S (nth b i).1] G (· = Tu [Ag [S m.1, S m.2.1, S m.2.2], Bo true]) := cx_f0
    have hxm := hma _ (List.mem_of_find?_eq_some hf)
    have cx_eva := c_EvolveReadsI (G := G) (s := s) (k := m.2.1) (r := r) (l := (nth b i).2.1) (by omega) (by omega) (by omega) (by omega)
    have cx_evb := c_EvolveReadsI (G := G) (s := r) (k := (nth b i).2.2) (r := s) (l := m.2.2) (by omega) (by omega) (by omega) (by omega)
    have hrd : rdAt s a r (nth b i) = (evReads s m.2.1 r (nth b i).2.1 && evReads r (nth b i).2.2 s m.2.2) := by unfold rdAt; rw [hf]
    generalize evReads s m.2.1 r (nth b i).2.1 = qa at cx_eva hrd
    generalize evReads r (nth b i).2.2 s m.2.2 = qb at cx_evb hrd
    cases qa
    · repeat' (first | (refine run (t := tb) 400 rfl ?_ ?_; (focus (repeat' ((exact trivial))))) | (refine k_op rfl ?_; first | refine v_op (g_ld rfl rfl rfl) rfl rfl ?_ | (refine v_op (g_ldR rfl rfl (by assumption) ?_) rfl rfl ?_; (focus (((omega)); done))) | refine v_op (g_ldA rfl rfl rfl rfl) rfl rfl ?_ | (refine v_op (g_pickT rfl rfl ?_) rfl rfl ?_; (focus (((rfl)); done))) | (refine v_op (g_pickF rfl rfl ?_) rfl rfl ?_; (focus (((rfl)); done))) | (refine v_op (g_iaddrN rfl rfl ?_) rfl rfl ?_; (focus ((omega); done))) | refine c_al rfl rfl fun _ => ?_ | refine c_stA rfl rfl rfl rfl rfl rfl ?_ | (refine c_rt rfl rfl rfl cx_find rfl ?_) | (refine c_rt rfl rfl rfl cx_eva rfl ?_)) | (refine k_gt rfl rfl ?_ ?_; (focus (((rfl)); done))) | (refine k_gf rfl rfl ?_ ?_; (focus (((rfl)); done))) | (refine k_tt rfl ?_ ?_; (focus ((first | rfl | (refine decide_eq_true ?_; (omega))); done))))
      all_goals refine k_rr (vs := [_]) rfl ⟨rfl, trivial⟩ rfl (List.nil_sublist _) ⟨rfl, rfl, ?_⟩
      all_goals rw [oneOf_one, svcReads_at hi hrd]
    cases qb
    · repeat' (first | (refine run (t := tb) 400 rfl ?_ ?_; (focus (repeat' ((exact trivial))))) | (refine k_op rfl ?_; first | refine v_op (g_ld rfl rfl rfl) rfl rfl ?_ | (refine v_op (g_ldR rfl rfl (by assumption) ?_) rfl rfl ?_; (focus (((omega)); done))) | refine v_op (g_ldA rfl rfl rfl rfl) rfl rfl ?_ | (refine v_op (g_pickF rfl rfl ?_) rfl rfl ?_; (focus (((rfl)); done))) | (refine v_op (g_iaddrN rfl rfl ?_) rfl rfl ?_; (focus ((omega); done))) | refine c_al rfl rfl fun _ => ?_ | refine c_stA rfl rfl rfl rfl rfl rfl ?_ | (refine c_rt rfl rfl rfl cx_find rfl ?_) | (refine c_rt rfl rfl rfl cx_eva rfl ?_) | (refine c_rt rfl rfl rfl cx_evb rfl ?_)) | (refine k_gf rfl rfl ?_ ?_; (focus (((rfl)); done))) | (refine k_tt rfl ?_ ?_; (focus ((first | rfl | (refine decide_eq_true ?_; (omega))); done))))
      all_goals refine k_rr (vs := [_]) rfl ⟨rfl, trivial⟩ rfl (List.nil_sublist _) ⟨rfl, rfl, ?_⟩
      all_goals rw [oneOf_one, svcReads_at hi hrd]
    repeat' (first | (refine run (t := tb) 400 rfl ?_ ?_; (focus (repeat' (first | exact trivial | apply And.intro | omega)))) | (refine k_op rfl ?_; first | refine v_op (g_ld rfl rfl rfl) rfl rfl ?_ | (refine v_op (g_ldR rfl rfl (by assumption) ?_) rfl rfl ?_; (focus (((omega)); done))) | refine v_op (g_ldA rfl rfl rfl rfl) rfl rfl ?_ | (refine v_op (g_pickF rfl rfl ?_) rfl rfl ?_; (focus (((rfl)); done))) | (refine v_op (g_iaddrN rfl rfl ?_) rfl rfl ?_; (focus ((omega); done))) | refine c_al rfl rfl fun _ => ?_ | refine c_stA rfl rfl rfl rfl rfl rfl ?_ | (refine c_rt rfl rfl rfl cx_find rfl ?_) | (refine c_rt rfl rfl rfl cx_eva rfl ?_) | (refine c_rt rfl rfl rfl cx_evb rfl ?_)) | (refine k_gf rfl rfl ?_ ?_; (focus (((rfl)); done))) | (refine k_tt rfl ?_ ?_; (focus (((refine decide_eq_true ?_; (omega))); done))) | (refine k_ff rfl ?_ ?_; (focus (((rfl)); done))))
    all_goals
      refine k_rd (i + 1) ⟨by omega, fun k hk => ?_⟩ (by omega) (by repeat (first | exact trivial | refine ⟨rfl, ?_⟩)) rfl (by repeat (first | exact List.Sublist.refl _ | apply List.Sublist.cons))
      rcases Nat.lt_or_ge k i with h3 | h3
      · exact Hi.2 k h3
      · have : k = i := by omega
        subst this; exact hrd
theorem c_FnExactServiceReads {s r : List UInt8} {u v : Value} {a b : List Mt} (hu : SlV G u 3 a.length (rows mtF a)) (h : s.length ≤ 9223372036854775807 ∧ a.length ≤ 9223372036854775807) (ha : ∀ x ∈ a, MtW x) (hv : SlV G v 3 b.length (rows mtF b)) (h' : r.length ≤ 9223372036854775807 ∧ b.length ≤ 9223372036854775807) (hb : ∀ x ∈ b, MtW x) :
    PuG Tryz.prog 3 [Ag [S s, u], Ag [S r, v]] G (· = Bo true) := by
  
  refine b_enter (Post := fun v G' L' => G' = G ∧ L' = [] ∧ _) [(0, _), (1, _)] Tryz.func3 (by kernel_rfl) Tryz.ntmps3 rfl rfl (by repeat (first | exact trivial | refine ⟨rfl, ?_⟩)) fun B hok hB hW => ?_
  repeat' (first | (refine run (t := tb) 400 rfl ?_ ?_; (focus (repeat' ((exact trivial))))) | (refine k_op rfl ?_; first | refine c_bx rfl rfl rfl fun _ => ?_ | refine v_op (g_ldA rfl rfl rfl rfl) rfl rfl ?_ | (refine c_pu rfl rfl rfl (c_szService ?_ (by (repeat ((assumption))); done) (by (repeat ((assumption))); done)) rfl ?_; (focus (((omega)); done)); rintro _ (rfl | ⟨z, rfl, hz1, hz2⟩))) | (refine k_tt rfl ?_ ?_; (focus (((rfl)); done))) | (refine k_ff rfl ?_ ?_; (focus (((refine decide_eq_false ?_; (omega))); done))))
  
  · refine Nx.base hok hB ?_
    refine k_rr (vs := [_]) rfl ⟨rfl, trivial⟩ rfl (List.nil_sublist _) ⟨rfl, rfl, ?_⟩
    rfl
  · refine Nx.base hok hB ?_
    refine k_rr (vs := [_]) rfl ⟨rfl, trivial⟩ rfl (List.nil_sublist _) ⟨rfl, rfl, ?_⟩
    rfl
  have hall : (s.length ≤ 1048576 ∧ a.length ≤ 1048576) ∧ (r.length ≤ 1048576 ∧ b.length ≤ 1048576) ∧ (∀ x ∈ a, MtL x) ∧ ∀ x ∈ b, MtL x := ⟨⟨by omega, by omega⟩, ⟨by omega, by omega⟩, by assumption, by assumption⟩
  have hn1 := hall.1
  have hn2 := hall.2.1
  repeat' (first | (refine run (t := tb) 400 rfl ?_ ?_; (focus (repeat' ((exact trivial))))) | (refine k_op rfl ?_; first | refine v_op (g_ldA rfl rfl rfl rfl) rfl rfl ?_ | refine c_al rfl rfl fun _ => ?_ | refine c_stA rfl rfl rfl rfl rfl rfl ?_ | (refine c_fns rfl rfl rfl (c_toService (by (repeat (first | assumption | refine SlV.mono ?_ (by assumption))); done) (by omega)) rfl ?_; rintro _ G hle ⟨u, rfl, hsl⟩; (try obtain ⟨_, _, rfl⟩ := hsl.sl)) | (refine c_rt rfl rfl rfl (c_ServiceReadsI ?_ (by (repeat (first | assumption | refine SlV.mono ?_ (by assumption))); done) (by (repeat ((assumption))); done)) rfl ?_; (focus (((assumption)); done)))) | (refine k_ff rfl ?_ ?_; (focus (((simp [*]; done)); done))) | (refine k_any (s_any (id := 8) _ (fun _ h => h) mixed ?_); ((refine (x_tkg (bts 6 1) 0 rfl (by kernel_rfl) rfl (Gh.le.refl _) (by repeat ((exact List.Sublist.refl _)))) (g_ldA rfl rfl rfl rfl) rfl rfl ?_)); ((refine (x_tkg (bts 6 5) 2 rfl (by kernel_rfl) rfl (Gh.le.refl _) (by repeat ((exact List.Sublist.refl _)))) (g_ldA rfl rfl rfl rfl) rfl rfl ?_)); refine x_all [1] (by kernel_rfl) (by decide) ⟨?_, trivial⟩; refine x_opg rfl rfl ?_; ((refine c_fns rfl rfl rfl (c_toService (by (repeat ((assumption))); done) (by omega)) rfl ?_; rintro _ G hle ⟨u, rfl, hsl⟩; (try obtain ⟨_, _, rfl⟩ := hsl.sl))); refine x_ks (by (assumption)) (by repeat ((exact List.Sublist.refl _))) (listed' := (bts 6 7)) (by kernel_rfl) ?_; refine x_all [3] (by kernel_rfl) (by decide) ⟨?_, trivial⟩; refine x_opg rfl rfl ?_; ((refine c_fns rfl rfl rfl (c_toService (by (repeat (first | assumption | refine SlV.mono ?_ (by assumption))); done) (by omega)) rfl ?_; rintro _ G hle ⟨u, rfl, hsl⟩; (try obtain ⟨_, _, rfl⟩ := hsl.sl))); refine x_ks (by (assumption)) (by repeat ((exact List.Sublist.refl _))) (listed' := (bts 6 15)) (by kernel_rfl) ?_; refine x_all [4] (by kernel_rfl) (by decide) ⟨?_, trivial⟩; refine x_opg rfl rfl ?_; ((refine c_rt rfl rfl rfl (c_ServiceReadsS ?_ (by (repeat (first | assumption | refine SlV.mono ?_ (by assumption))); done) (by (repeat ((assumption))); done)) rfl ?_; (focus (((assumption)); done)))); refine x_ks (by (exact Gh.le.refl _)) (by repeat ((exact List.Sublist.refl _))) (listed' := (bts 6 31)) (by kernel_rfl) ?_; refine x_tks (t := tb) (fuel := 0) [5] (bts 6 63) (by kernel_rfl) (by kernel_rfl) rfl rfl (Gh.le.refl _) (by repeat ((exact List.Sublist.refl _))) ?_ ?_; (focus (repeat' ((exact trivial)))); refine x_done (by kernel_rfl) (k_bk ?_)) | (refine k_any (s_any (id := 14) _ (fun _ h => h) mixed ?_); ((refine (x_tkg (bts 5 1) 0 rfl (by kernel_rfl) rfl (Gh.le.refl _) (by repeat ((exact List.Sublist.refl _)))) (g_ldA rfl rfl rfl rfl) rfl rfl ?_)); ((refine (x_tkg (bts 5 3) 1 rfl (by kernel_rfl) rfl (Gh.le.refl _) (by repeat ((exact List.Sublist.refl _)))) (g_ldA rfl rfl rfl rfl) rfl rfl ?_)); refine x_all [2] (by kernel_rfl) (by decide) ⟨?_, trivial⟩; refine x_opg rfl rfl ?_; ((refine c_fns rfl rfl rfl (c_toService (by (repeat (first | assumption | refine SlV.mono ?_ (by assumption))); done) (by omega)) rfl ?_; rintro _ G hle ⟨u, rfl, hsl⟩; (try obtain ⟨_, _, rfl⟩ := hsl.sl))); refine x_ks (by (assumption)) (by repeat ((exact List.Sublist.refl _))) (listed' := (bts 5 7)) (by kernel_rfl) ?_; refine x_all [3] (by kernel_rfl) (by decide) ⟨?_, trivial⟩; refine x_opg rfl rfl ?_; ((refine c_rt rfl rfl rfl (c_eqService (by (repeat (first | assumption | refine SlV.mono ?_ (by assumption))); done) (by (repeat ((assumption))); done) (by omega)) rfl ?_)); refine x_ks (by (exact Gh.le.refl _)) (by repeat ((exact List.Sublist.refl _))) (listed' := (bts 5 15)) (by kernel_rfl) ?_; refine x_tks (t := tb) (fuel := 0) [4] (bts 5 31) (by kernel_rfl) (by kernel_rfl) rfl rfl (Gh.le.refl _) (by repeat ((exact List.Sublist.refl _))) ?_ ?_; (focus (repeat' ((exact trivial)))); refine x_done (by kernel_rfl) (k_bk ?_)) | (refine k_any (s_any (id := 16) _ (fun _ h => h) mixed ?_); ((refine (x_tkg (bts 5 1) 0 rfl (by kernel_rfl) rfl (Gh.le.refl _) (by repeat ((exact List.Sublist.refl _)))) (g_ldA rfl rfl rfl rfl) rfl rfl ?_)); ((refine (x_tkg (bts 5 3) 1 rfl (by kernel_rfl) rfl (Gh.le.refl _) (by repeat ((exact List.Sublist.refl _)))) (g_ldA rfl rfl rfl rfl) rfl rfl ?_)); refine x_all [2] (by kernel_rfl) (by decide) ⟨?_, trivial⟩; refine x_opg rfl rfl ?_; ((refine c_fns rfl rfl rfl (c_toService (by (repeat (first | assumption | refine SlV.mono ?_ (by assumption))); done) (by omega)) rfl ?_; rintro _ G hle ⟨u, rfl, hsl⟩; (try obtain ⟨_, _, rfl⟩ := hsl.sl))); refine x_ks (by (assumption)) (by repeat ((exact List.Sublist.refl _))) (listed' := (bts 5 7)) (by kernel_rfl) ?_; refine x_all [3] (by kernel_rfl) (by decide) ⟨?_, trivial⟩; refine x_opg rfl rfl ?_; ((refine c_rt rfl rfl rfl (c_eqService (by (repeat (first | assumption | refine SlV.mono ?_ (by assumption))); done) (by (repeat ((assumption))); done) (by omega)) rfl ?_)); refine x_ks (by (exact Gh.le.refl _)) (by repeat ((exact List.Sublist.refl _))) (listed' := (bts 5 15)) (by kernel_rfl) ?_; refine x_tks (t := tb) (fuel := 0) [4] (bts 5 31) (by kernel_rfl) (by kernel_rfl) rfl rfl (Gh.le.refl _) (by repeat ((exact List.Sublist.refl _))) ?_ ?_; (focus (repeat' ((exact trivial)))); refine x_done (by kernel_rfl) (k_bk ?_)))
  all_goals refine Nx.base hok hB ?_
  all_goals refine k_rr (vs := [_]) rfl ⟨rfl, trivial⟩ rfl (List.nil_sublist _) ⟨rfl, rfl, ?_⟩
  all_goals rfl
end Go.E
/-! EngM -/
namespace Go.E
open Go.ChangeShapes Go.WideShapes Go.ChangeAt Go.RowKit
theorem list_of {α : Type} (p : Nat → α → Prop) : ∀ n, (∀ i, i < n → ∃ c, p i c) → ∃ az : List α, az.length = n ∧ ∀ i (h : i < az.length), p i az[i]
  | 0, _ => ⟨[], rfl, fun i h => by simp at h⟩
  | n + 1, h => by
    obtain ⟨az, h1, h2⟩ := list_of p n fun i hi => h i (by omega)
    obtain ⟨c, hc⟩ := h n (by omega)
    refine ⟨az ++ [c], by simp [h1], fun i hi => ?_⟩
    by_cases h3 : i < az.length
    · rw [List.getElem_append_left h3]; exact h2 i h3
    · have : i = az.length := by simp at hi; omega
      subst this
      simp only [List.getElem_concat_length]
      rw [h1]; exact hc
theorem open_rows {P : Program} {H : Type} {enc : TypeId × Value → H} {w : World} {base base' : Nat} {spare : Nat → Bool} {held : Bool} {α : Type} [Inhabited α] (f : α → List Value) {sz : Nat} [RowF f sz] (hsz : 0 < sz) (Q : α → Prop) {T e : TypeId} (hT : P.underlying T = some (.slice e)) (hc : P.cellsOf e = sz)
    (dec : ∀ (n : Nat) (cs : List Value) (x : DataW H × List MemPlace), cs.length = sz → DataW.trod enc P w base spare held n e cs = some x → ∃ c : α, cs = f c ∧ Q c)
    {v : Value} {d : DataW H} {ps : List MemPlace} (hd : DataW.Trod enc P w base spare held T v d ps) (hok : Value.okWide P w .any base' T v) :
    ∃ az : List α, SlV (GA w) v sz az.length (rows f az) ∧ (∀ c ∈ az, Q c) ∧ az.length ≤ 9223372036854775807 := by
  obtain ⟨a, len, cap, rfl⟩ := okWide_slice hT hok
  obtain ⟨fuel, hf⟩ := hd
  rcases DataW.trod_slice hT hf with ⟨h0, _⟩ | ⟨x, l, c, elems, rest, n, _, hcs, _, _, hl, hm, hlen, hel, _, _⟩
  · simp [Value.cells] at h0
    obtain ⟨rfl, rfl, rfl⟩ := h0
    exact ⟨[], ⟨by simp [rows], .inl ⟨rfl, rfl⟩⟩, by simp, by simp⟩
  · simp [Value.cells] at hcs
    obtain ⟨rfl, rfl, rfl⟩ := hcs
    obtain ⟨hs, c, el, fr, hb⟩ := okW_slice hT hok
    obtain ⟨b, o, sp⟩ := x
    simp only at hs hb; subst hs
    have each : ∀ i, i < len → ∃ y : α, (∀ k, k < sz → c[o + (i * sz + k)]? = (f y)[k]?) ∧ Q y := by
      intro i hi
      have h1 := hel i hi
      rw [List.getElem?_eq_getElem (by omega), hc, Option.bind_eq_some_iff] at h1
      obtain ⟨cs, h2, h3⟩ := h1
      have h4 := World.cells?_some h2
      obtain ⟨y, rfl, hq⟩ := dec n cs _ h4.2.1 h3
      refine ⟨y, fun k hk => ?_, hq⟩
      have h5 := h4.2.2 k hk
      rw [← h5]
      have e1 : ((⟨b, o, none⟩ : Addr).add (i * sz)).add k = ⟨b, o + (i * sz + k), none⟩ := by
        by_cases h6 : i * sz = 0 <;> by_cases h7 : k = 0 <;> simp [Addr.add, h6, h7, Nat.add_assoc]
      rw [e1]
      simp [World.cell?, hb]
    obtain ⟨az, h1, h2⟩ := list_of (fun i y => (∀ k, k < sz → c[o + (i * sz + k)]? = (f y)[k]?) ∧ Q y) len each
    have hlen2 := rows_len (f := f) az
    have hm2 : maxLen = 9223372036854775807 := rfl
    refine ⟨az, ⟨hlen2, .inr ⟨b, o, cap, by rw [h1], by omega, seg_GA hb fun j v hv => ?_⟩⟩, fun y hy => ?_, by omega⟩
    · have hj : j < az.length * sz := by rw [← hlen2]; exact (List.getElem?_eq_some_iff.1 hv).1
      have hi : j / sz < az.length := Nat.div_lt_of_lt_mul (by rw [Nat.mul_comm]; exact hj)
      have hk : j % sz < sz := Nat.mod_lt _ hsz
      have e : j = j / sz * sz + j % sz := by rw [Nat.mul_comm]; exact (Nat.div_add_mod j sz).symm
      have h3 := (h2 _ hi).1 _ hk
      have h4 := rows_get (f := f) (cs := az) hi hk
      rw [← e] at h3 h4
      rw [h3, ← nth_eq hi, ← h4]; exact hv
    · obtain ⟨i, hi, rfl⟩ := List.mem_iff_getElem.1 hy
      exact (h2 i hi).2
theorem one_string {s : ByteArray} {cs : List Value} {k : Nat} (hk : k < cs.length) (h : (cs.drop k).take 1 = [.string s]) : cs[k]? = some (S s.data.toList) := by
  have h1 : ((cs.drop k).take 1)[0]? = some (.string s) := by rw [h]; rfl
  rw [List.getElem?_take_of_lt (by omega), List.getElem?_drop] at h1
  simpa using h1
theorem dec_str {P : Program} {H : Type} {enc : TypeId × Value → H} {w : World} {base : Nat} {spare : Nat → Bool} {held : Bool} {fs : Array Field} {e : TypeId} {cs : List Value} {n : Nat} {x : DataW H × List MemPlace} (hT : P.underlying e = some (.struct fs)) (h : DataW.trod enc P w base spare held n e cs = some x)
    (k ft off : Nat) (hf : (fs[k]?).map (fun fd => (fd.type, fd.offset)) = some (ft, off)) (hs : P.underlying ft = some .string) (hc : P.cellsOf ft = 1) (hl : off < cs.length) : ∃ l : List UInt8, cs[off]? = some (S l) ∧ l.length ≤ 9223372036854775807 := by
  obtain ⟨xs, m, _, _, _, hxs, hi⟩ := DataW.trod_struct hT h
  cases hfd : fs[k]? with
  | none => simp [hfd] at hf
  | some fd =>
    simp only [hfd, Option.map_some, Option.some.injEq, Prod.mk.injEq] at hf
    obtain ⟨rfl, rfl⟩ := hf
    have h1 := hi k fd hfd
    have hk : k < xs.length := by rw [hxs]; exact (Array.getElem?_eq_some_iff.1 hfd).1
    rw [List.getElem?_eq_getElem hk, hc] at h1
    obtain ⟨s, h2, _, h3⟩ := DataW.trod_string hs h1
    refine ⟨s.data.toList, one_string hl h2, ?_⟩
    have hm2 : maxLen = 9223372036854775807 := rfl
    have : s.data.toList.length = s.size := by rw [Array.length_toList]; rfl
    omega
end Go.E
