/- Contracts of the functions on streams of frames. Conditions: as each says. -/
import Derived.Test.YtcnkkjdnnajkbaaCb
import Derived.Test.YtcnkkjdnnajkbaaPb
import Derived.Test.YtcnkkjdnnajkbaaEngK
namespace Go.E
open Go.Proofs
variable {G : Gh}
theorem isPrefixOf_take (p s : List UInt8) : p.isPrefixOf s = decide (p.length ≤ s.length ∧ s.take p.length = p) := by
  by_cases h : p <+: s
  · have h1 := List.isPrefixOf_iff_prefix.2 h
    rw [h1]; obtain ⟨r, rfl⟩ := h; simp
  · have h1 : p.isPrefixOf s = false := by
      cases hb : p.isPrefixOf s with
      | false => rfl
      | true => exact absurd (List.isPrefixOf_iff_prefix.1 hb) h
    rw [h1]; symm; refine decide_eq_false fun ⟨_, h3⟩ => h ?_
    rw [← h3]; exact List.take_prefix _ _
theorem c_HasPrefix0 {s p : List UInt8} : PuG Try.prog 51 [S s, S p] G (· = Bo (p.isPrefixOf s)) := by
  rw [isPrefixOf_take]
  refine p_enter [(0, _), (1, _)] Try.func51 (by kernel_rfl) Try.ntmps51 rfl rfl (by repeat (first | exact trivial | refine ⟨rfl, ?_⟩)) fun B hB => ?_
  repeat' (first | (refine run (t := tb) 400 rfl ?_ ?_; (focus (repeat' (first | exact trivial | apply And.intro | omega | exact (bt_le _ _).1 | exact (bt_le _ _).2 | assumption | (simp only [List.length_append, List.length_cons, List.length_nil, Int.toNat_natCast]; omega))))) | (refine k_op rfl ?_; first | (refine v_op (g_pickT rfl rfl ?_) rfl rfl ?_; (focus ((first | rfl | assumption | (refine decide_eq_true ?_; first | rfl | assumption | omega) | (refine decide_eq_false ?_; first | assumption | omega) | (simp [*]; done) | (simp; omega)); done))) | (refine v_op (g_pickF rfl rfl ?_) rfl rfl ?_; (focus ((first | rfl | assumption | (refine decide_eq_true ?_; first | rfl | assumption | omega) | (refine decide_eq_false ?_; first | assumption | omega) | (simp [*]; done) | (simp; omega)); done)))) | (refine k_gt rfl rfl ?_ ?_; (focus ((first | rfl | assumption | (refine decide_eq_true ?_; first | rfl | assumption | omega) | (refine decide_eq_false ?_; first | assumption | omega) | (simp [*]; done) | (simp; omega)); done))) | (refine k_gf rfl rfl ?_ ?_; (focus ((first | rfl | assumption | (refine decide_eq_true ?_; first | rfl | assumption | omega) | (refine decide_eq_false ?_; first | assumption | omega) | (simp [*]; done) | (simp; omega)); done))) | refine k_g rfl rfl (fun _ => ?_) (fun _ => ?_) | refine k_gb rfl rfl (fun _ => ?_) (fun _ => ?_) | (refine k_tt rfl ?_ ?_; (focus ((first | rfl | assumption | (refine decide_eq_true ?_; first | rfl | assumption | omega) | (refine decide_eq_false ?_; first | assumption | omega) | (simp [*]; done) | (simp; omega)); done))) | (refine k_ff rfl ?_ ?_; (focus ((first | rfl | assumption | (refine decide_eq_true ?_; first | rfl | assumption | omega) | (refine decide_eq_false ?_; first | assumption | omega) | (simp [*]; done) | (simp; omega)); done))) | refine k_if rfl (fun _ => ?_) (fun _ => ?_) | refine k_cd rfl (fun _ => ?_) (fun _ => ?_) | fail)
  all_goals refine k_rr (vs := [_]) rfl ⟨rfl, trivial⟩ rfl (List.nil_sublist _) ⟨rfl, rfl, ?_⟩
  all_goals (rw [oneOf_one]; simp; omega)
theorem c_HasPrefix {s p : List UInt8} : PuG Try.prog 39 [S s, S p] G (· = Bo (p.isPrefixOf s)) := by
  refine p_enter [(0, _), (1, _)] Try.func39 (by kernel_rfl) Try.ntmps39 rfl rfl (by repeat (first | exact trivial | refine ⟨rfl, ?_⟩)) fun B hB => ?_
  repeat' (first | (refine run (t := tb) 400 rfl ?_ ?_; (focus (repeat' (first | exact trivial | apply And.intro | omega | exact (bt_le _ _).1 | exact (bt_le _ _).2 | assumption | (simp only [List.length_append, List.length_cons, List.length_nil, Int.toNat_natCast]; omega))))) | (refine k_op rfl ?_; first | (refine c_rt rfl rfl rfl c_HasPrefix0 rfl ?_)) | fail | (refine k_tt rfl ?_ ?_; (focus ((first | rfl | assumption | (refine decide_eq_true ?_; first | rfl | assumption | omega) | (refine decide_eq_false ?_; first | assumption | omega) | (simp [*]; done) | (simp; omega)); done))) | (refine k_ff rfl ?_ ?_; (focus ((first | rfl | assumption | (refine decide_eq_true ?_; first | rfl | assumption | omega) | (refine decide_eq_false ?_; first | assumption | omega) | (simp [*]; done) | (simp; omega)); done))) | refine k_if rfl (fun _ => ?_) (fun _ => ?_) | refine k_cd rfl (fun _ => ?_) (fun _ => ?_) | fail)
  all_goals refine k_rr (vs := [_]) rfl ⟨rfl, trivial⟩ rfl (List.nil_sublist _) ⟨rfl, rfl, ?_⟩
  all_goals rfl
theorem c_frameAt {s : List UInt8} (hs : s ≠ []) (hs2 : s.length ≤ 9000000000000000000) : PuG Try.prog 31 [S s] G (· = Tu [S (frAt s).1, I (frAt s).2.1, Bo (frAt s).2.2]) := by
  have h0 := List.length_pos_iff.2 hs
  refine p_enter [(0, _)] Try.func31 (by kernel_rfl) Try.ntmps31 rfl rfl (by repeat (first | exact trivial | refine ⟨rfl, ?_⟩)) fun B hB => ?_
  repeat' (first | (refine run (t := tb) 400 rfl ?_ ?_; (focus (repeat' (first | exact trivial | apply And.intro | omega | exact (bt_le _ _).1 | exact (bt_le _ _).2 | assumption | (simp only [List.length_append, List.length_cons, List.length_nil, Int.toNat_natCast]; omega))))) | (refine k_op rfl ?_; first | (refine c_rt rfl rfl rfl (c_FramePutI ?_) rfl ?_; (focus ((first | assumption | omega | (simp; done) | (simp; omega)); done))) | (refine c_rt rfl rfl rfl c_HasPrefix rfl ?_)) | fail | (refine k_tt rfl ?_ ?_; (focus ((first | rfl | assumption | (refine decide_eq_true ?_; first | rfl | assumption | omega) | (refine decide_eq_false ?_; first | assumption | omega) | (simp [*]; done) | (simp; omega)); done))) | (refine k_ff rfl ?_ ?_; (focus ((first | rfl | assumption | (refine decide_eq_true ?_; first | rfl | assumption | omega) | (refine decide_eq_false ?_; first | assumption | omega) | (simp [*]; done) | (simp; omega)); done))) | refine k_if rfl (fun _ => ?_) (fun _ => ?_) | refine k_cd rfl (fun _ => ?_) (fun _ => ?_) | fail)
  all_goals refine k_rr (vs := [_, _, _]) rfl ⟨rfl, rfl, rfl, trivial⟩ rfl (List.nil_sublist _) ⟨rfl, rfl, ?_⟩
  all_goals rw [oneOf_three]
  · rw [frAt_c1 (by assumption)]; rfl
  · rw [frAt_c2 (by assumption) (by assumption)]; rfl
  · rw [frAt_c3 (by assumption) (by assumption) (by assumption)]; rfl
  · rw [frAt_c4 (by assumption) (by assumption) (by assumption) (by assumption)]; rfl
  · rw [frAt_c5 (by assumption) (by assumption) (by assumption) (by assumption) (by assumption)]; rfl
  · rw [frAt_c6 (by assumption) (by assumption) (by assumption) (by assumption) (by assumption) (by assumption)]; rfl
  · rw [frAt_c7 (by assumption) (by assumption) (by assumption) (by assumption) (by assumption) (by assumption)]; rfl
def strs (xs : List (List UInt8)) : List Value := xs.map fun x => S x
theorem strs_snoc (xs : List (List UInt8)) (x : List UInt8) : strs (xs ++ [x]) = strs xs ++ [S x] := by simp [strs]
abbrev tStr : TypeId := 9
theorem c_FramesGetI {s : List UInt8} (hs : s.length ≤ 9000000000000000000) : FnG Try.prog 15 [S s] G [] (fun v L' => ∃ u, v = Tu [u, I (framesGet s).2.1, S (framesGet s).2.2, Bo (decide (s.length ≤ 2000))] ∧ L' = [.acc u tStr 1 (framesGet s).1.length (strs (framesGet s).1)] ∧ Shp u (framesGet s).1.length) := by
  by_cases h : s.length ≤ 2000
  · have e : framesGet s = fg s := by rw [framesGet, if_pos h]
    rw [e, decide_eq_true h]
    refine g_enter [(0, _)] Try.func15 (by kernel_rfl) Try.ntmps15 rfl rfl (by repeat (first | exact trivial | refine ⟨rfl, ?_⟩)) fun B hB hW => ?_
    repeat' (first | (refine run (t := tb) 400 rfl ?_ ?_; (focus (repeat' (first | exact trivial | apply And.intro | omega | exact (bt_le _ _).1 | exact (bt_le _ _).2 | assumption | (simp only [List.length_append, List.length_cons, List.length_nil, Int.toNat_natCast]; omega))))) | (refine k_op rfl ?_; first | refine c_bsl rfl rfl rfl rfl rfl rfl fun _ => ?_ | (refine c_ap0B rfl rfl rfl rfl rfl rfl rfl rfl ?_ fun _ => ?_; (focus ((omega); done))) | (refine c_apB rfl rfl rfl rfl rfl rfl rfl rfl ?_ fun _ => ?_; (focus ((omega); done))) | (refine c_rt rfl rfl rfl (c_frameAt (by assumption) (by omega)) rfl ?_)) | fail | (refine k_tt rfl ?_ ?_; (focus ((first | rfl | assumption | (refine decide_eq_true ?_; first | rfl | assumption | omega) | (refine decide_eq_false ?_; first | assumption | omega) | (simp [*]; done) | (simp; omega)); done))) | (refine k_ff rfl ?_ ?_; (focus ((first | rfl | assumption | (refine decide_eq_true ?_; first | rfl | assumption | omega) | (refine decide_eq_false ?_; first | assumption | omega) | (simp [*]; done) | (simp; omega)); done))) | refine k_if rfl (fun _ => ?_) (fun _ => ?_) | refine k_cd rfl (fun _ => ?_) (fun _ => ?_) | fail)
    refine Nx.addNil tStr 1 ?_
    refine k_loop (ι := Value × List (List UInt8) × Nat × List UInt8) (fun i => i.2.1.length + i.2.2.1 + i.2.2.2.length ≤ 2000 ∧ (i.2.1 ++ (fg i.2.2.2).1, i.2.2.1 + (fg i.2.2.2).2.1, (fg i.2.2.2).2.2) = fg s) (fun i => [(0, S i.2.2.2), (6, i.1), (7, I i.2.2.1)]) (fun _ => G) (fun i => [.acc i.1 tStr 1 i.2.1.length (strs i.2.1)]) (fun i => i.2.2.2.length) (nilS, [], 0, s) ?_ (by repeat (first | exact trivial | refine ⟨rfl, ?_⟩)) rfl (by repeat (first | exact List.Sublist.refl _ | exact List.nil_sublist _ | apply List.Sublist.cons_cons | apply List.Sublist.cons)) (fun i hI => ?_)
    · dsimp only; refine ⟨by simp; omega, by simp⟩
    · obtain ⟨u, xs, j, t⟩ := i
      dsimp only at hI ⊢
      have hle := frAt_le t
      by_cases ht : t = []
      · subst ht
        have e2 : fg s = (xs, j, []) := by rw [← hI.2, fg_nil]; simp
        repeat' (first | (refine run (t := tb) 400 rfl ?_ ?_; (focus (repeat' (first | exact trivial | apply And.intro | omega | exact (bt_le _ _).1 | exact (bt_le _ _).2 | assumption | (simp only [List.length_append, List.length_cons, List.length_nil, Int.toNat_natCast]; omega))))) | (refine k_op rfl ?_; first | refine c_bsl rfl rfl rfl rfl rfl rfl fun _ => ?_ | (refine c_ap0B rfl rfl rfl rfl rfl rfl rfl rfl ?_ fun _ => ?_; (focus ((omega); done))) | (refine c_apB rfl rfl rfl rfl rfl rfl rfl rfl ?_ fun _ => ?_; (focus ((omega); done))) | (refine c_rt rfl rfl rfl (c_frameAt (by assumption) (by omega)) rfl ?_)) | fail | (refine k_tt rfl ?_ ?_; (focus ((first | rfl | assumption | (refine decide_eq_true ?_; first | rfl | assumption | omega) | (refine decide_eq_false ?_; first | assumption | omega) | (simp [*]; done) | (simp; omega)); done))) | (refine k_ff rfl ?_ ?_; (focus ((first | rfl | assumption | (refine decide_eq_true ?_; first | rfl | assumption | omega) | (refine decide_eq_false ?_; first | assumption | omega) | (simp [*]; done) | (simp; omega)); done))) | refine k_if rfl (fun _ => ?_) (fun _ => ?_) | refine k_cd rfl (fun _ => ?_) (fun _ => ?_) | fail)
        exact Nx.shp (.head _) fun hsh => k_rr (vs := [_, _, _, _]) rfl ⟨rfl, rfl, rfl, rfl, trivial⟩ rfl (List.Sublist.refl _) ⟨rfl, u, by rw [e2]; rfl, by rw [e2], by rw [e2]; exact hsh⟩
      · have hpos := List.length_pos_iff.2 ht
        repeat' (first | (refine run (t := tb) 400 rfl ?_ ?_; (focus (repeat' (first | exact trivial | apply And.intro | omega | exact (bt_le _ _).1 | exact (bt_le _ _).2 | assumption | (simp only [List.length_append, List.length_cons, List.length_nil, Int.toNat_natCast]; omega))))) | (refine k_op rfl ?_; first | refine c_bsl rfl rfl rfl rfl rfl rfl fun _ => ?_ | (refine c_ap0B rfl rfl rfl rfl rfl rfl rfl rfl ?_ fun _ => ?_; (focus ((omega); done))) | (refine c_apB rfl rfl rfl rfl rfl rfl rfl rfl ?_ fun _ => ?_; (focus ((omega); done))) | (refine c_rt rfl rfl rfl (c_frameAt (by assumption) (by omega)) rfl ?_)) | fail | (refine k_tt rfl ?_ ?_; (focus ((first | rfl | assumption | (refine decide_eq_true ?_; first | rfl | assumption | omega) | (refine decide_eq_false ?_; first | assumption | omega) | (simp [*]; done) | (simp; omega)); done))) | (refine k_ff rfl ?_ ?_; (focus ((first | rfl | assumption | (refine decide_eq_true ?_; first | rfl | assumption | omega) | (refine decide_eq_false ?_; first | assumption | omega) | (simp [*]; done) | (simp; omega)); done))) | refine k_if rfl (fun _ => ?_) (fun _ => ?_) | refine k_cd rfl (fun _ => ?_) (fun _ => ?_) | fail)
        · rename_i hh _ _
          have e2 := fg_hit ht (by omega)
          refine k_rd (_, xs ++ [(frAt t).1], j, t.drop (frAt t).2.1) ?_ ?_ (by repeat (first | exact trivial | refine ⟨rfl, ?_⟩)) rfl (by dsimp only; simp only [strs_snoc, List.length_append, List.length_cons, List.length_nil, Nat.zero_add]; repeat (first | exact List.Sublist.refl _ | exact List.nil_sublist _ | apply List.Sublist.cons_cons | apply List.Sublist.cons))
          · dsimp only
            refine ⟨by simp; omega, ?_⟩
            rw [← hI.2, e2]; simp
          · dsimp only; simp; omega
        · rename_i hh hm
          have e2 : fg s = (xs, j, t) := by rw [← hI.2, fg_may ht (by omega) hm]; simp
          exact Nx.shp (.head _) fun hsh => k_rr (vs := [_, _, _, _]) rfl ⟨rfl, rfl, rfl, rfl, trivial⟩ rfl (List.Sublist.refl _) ⟨rfl, u, by rw [e2]; rfl, by rw [e2], by rw [e2]; exact hsh⟩
        · rename_i hh hm
          have e2 := fg_junk ht (by omega) hm
          refine k_rd (u, xs, j + 1, t.drop 1) ?_ ?_ (by repeat (first | exact trivial | refine ⟨rfl, ?_⟩)) rfl (by repeat (first | exact List.Sublist.refl _ | exact List.nil_sublist _ | apply List.Sublist.cons_cons | apply List.Sublist.cons))
          · dsimp only
            refine ⟨by simp; omega, ?_⟩
            rw [← hI.2, e2]; simp; omega
          · dsimp only; simp; omega
  · have e : framesGet s = ([], 0, []) := by rw [framesGet, if_neg h]
    rw [e, decide_eq_false h]
    refine g_enter [(0, _)] Try.func15 (by kernel_rfl) Try.ntmps15 rfl rfl (by repeat (first | exact trivial | refine ⟨rfl, ?_⟩)) fun B hB hW => ?_
    repeat' (first | (refine run (t := tb) 400 rfl ?_ ?_; (focus (repeat' (first | exact trivial | apply And.intro | omega | exact (bt_le _ _).1 | exact (bt_le _ _).2 | assumption | (simp only [List.length_append, List.length_cons, List.length_nil, Int.toNat_natCast]; omega))))) | (refine k_op rfl ?_; first | refine c_bsl rfl rfl rfl rfl rfl rfl fun _ => ?_ | (refine c_ap0B rfl rfl rfl rfl rfl rfl rfl rfl ?_ fun _ => ?_; (focus ((omega); done))) | (refine c_apB rfl rfl rfl rfl rfl rfl rfl rfl ?_ fun _ => ?_; (focus ((omega); done))) | (refine c_rt rfl rfl rfl (c_frameAt (by assumption) (by omega)) rfl ?_)) | fail | (refine k_tt rfl ?_ ?_; (focus ((first | rfl | assumption | (refine decide_eq_true ?_; first | rfl | assumption | omega) | (refine decide_eq_false ?_; first | assumption | omega) | (simp [*]; done) | (simp; omega)); done))) | (refine k_ff rfl ?_ ?_; (focus ((first | rfl | assumption | (refine decide_eq_true ?_; first | rfl | assumption | omega) | (refine decide_eq_false ?_; first | assumption | omega) | (simp [*]; done) | (simp; omega)); done))) | refine k_if rfl (fun _ => ?_) (fun _ => ?_) | refine k_cd rfl (fun _ => ?_) (fun _ => ?_) | fail)
    refine Nx.addNil tStr 1 ?_
    exact k_rr (vs := [_, _, _, _]) rfl ⟨rfl, rfl, rfl, rfl, trivial⟩ rfl (List.Sublist.refl _) ⟨rfl, _, rfl, rfl, .inl ⟨rfl, rfl⟩⟩
end Go.E
