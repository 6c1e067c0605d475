/- Contracts and plain laws that the statement rests on, part 5. Conditions: as each says. -/
import Derived.Test.YtifffndbgheghaaDoorZ4
import Derived.Test.YtifffndbgheghaaDoorZ2
import Derived.OpenShut
import Derived.ChangeArms
import Derived.DataReads
set_option linter.unusedVariables false
set_option linter.unusedSimpArgs false
/-! Mr -/
namespace Go.E
set_option maxRecDepth 20000
set_option maxHeartbeats 2000000
open Go.Proofs
variable {G : Gh}
abbrev Mt := List UInt8 × List UInt8 × List UInt8
def mtF (m : Mt) : List Value := [S m.1, S m.2.1, S m.2.2]
instance : RowF mtF 3 := ⟨fun _ => rfl⟩
abbrev MtW (m : Mt) : Prop := m.1.length ≤ 9223372036854775807 ∧ m.2.1.length ≤ 9223372036854775807 ∧ m.2.2.length ≤ 9223372036854775807
abbrev MtL (m : Mt) : Prop := m.1.length ≤ 1048576 ∧ m.2.1.length ≤ 1048576 ∧ m.2.2.length ≤ 1048576
theorem c_toMethod {c : Mt} : PuG Tryd.prog 25 [Ag (mtF c)] G (· = Ag (mtF c)) := by
  refine p_enter [(0, _)] Tryd.func25 (by kernel_rfl) Tryd.ntmps25 rfl rfl (by repeat (first | exact trivial | refine ⟨rfl, ?_⟩)) fun B hB => ?_
  repeat' (first | (refine run (t := tb) 400 rfl ?_ ?_; (focus (repeat' ((exact trivial))))) | (refine k_op rfl ?_; first | refine c_bx rfl rfl rfl fun _ => ?_ | refine c_al rfl rfl fun _ => ?_ | refine v_op (g_ld rfl rfl rfl) rfl rfl ?_ | refine v_op (g_ldA rfl rfl rfl rfl) rfl rfl ?_ | refine c_st1 rfl rfl rfl rfl ?_ | refine c_stA rfl rfl rfl rfl rfl rfl ?_))
  refine k_rr (vs := [_]) rfl ⟨rc_A rfl rfl rfl rfl, trivial⟩ rfl (List.nil_sublist _) ⟨rfl, rfl, ?_⟩
  rfl
theorem c_eqMethod {c e : Mt} : PuG Tryd.prog 30 [Ag (mtF c), Ag (mtF e)] G (· = Bo (decide (c = e))) := by
  obtain ⟨c1, c2, c3⟩ := c
  obtain ⟨e1, e2, e3⟩ := e
  refine p_enter [(0, _), (1, _)] Tryd.func30 (by kernel_rfl) Tryd.ntmps30 rfl rfl (by repeat (first | exact trivial | refine ⟨rfl, ?_⟩)) fun B hB => ?_
  repeat' (first | (refine run (t := tb) 400 rfl ?_ ?_; (focus (repeat' ((exact trivial))))) | (refine k_op rfl ?_; first | refine c_bx rfl rfl rfl fun _ => ?_ | refine v_op (g_ld rfl rfl rfl) rfl rfl ?_) | refine k_if rfl (fun _ => ?_) (fun _ => ?_))
  all_goals refine k_rr (vs := [_]) rfl ⟨rfl, trivial⟩ rfl (List.nil_sublist _) ⟨rfl, rfl, ?_⟩
  all_goals (rw [oneOf_one]; simp_all)
theorem c_szMethod {c : Mt} {z : Int} (h : (0 ≤ z ∧ z ≤ 1048576) ∧ MtW c) :
    PuG Tryd.prog 18 [Ag (mtF c), I z] G (fun v => ∃ z', v = I z' ∧ (0 ≤ z' → z' = z - c.1.length - c.2.1.length - c.2.2.length) ∧ -1 ≤ z') := by
  obtain ⟨⟨h1, h2⟩, h3, h4, h5⟩ := h
  refine p_enter [(0, _), (1, _)] Tryd.func18 (by kernel_rfl) Tryd.ntmps18 rfl rfl (by repeat (first | exact trivial | refine ⟨rfl, ?_⟩)) fun B hB => ?_
  repeat' (first | (refine run (t := tb) 400 rfl ?_ ?_; (focus (repeat' (first | exact trivial | apply And.intro | omega)))) | (refine k_op rfl ?_; first | refine c_bx rfl rfl rfl fun _ => ?_ | refine v_op (g_ld rfl rfl rfl) rfl rfl ?_) | refine k_if rfl (fun _ => ?_) (fun _ => ?_))
  all_goals refine k_rr (vs := [_]) rfl ⟨rfl, trivial⟩ rfl (List.nil_sublist _) ⟨rfl, rfl, ?_⟩
  all_goals exact ⟨_, rfl, by omega, by omega⟩
theorem c_szMethodS {u : Value} {a : List Mt} {z : Int} (h : (0 ≤ z ∧ z ≤ 1048576) ∧ a.length ≤ 9223372036854775807) (hu : SlV G u 3 a.length (rows mtF a)) (ha : ∀ x ∈ a, MtW x) :
    PuG Tryd.prog 9 [u, I z] G (fun v => v = I (-1) ∨ ∃ z', v = I z' ∧ (0 ≤ z' ∧ z' ≤ z ∧ a.length ≤ 1048576) ∧ ∀ x ∈ a, MtL x) := by
  refine p_enter [(0, _), (1, _)] Tryd.func9 (by kernel_rfl) Tryd.ntmps9 rfl rfl (by repeat (first | exact trivial | refine ⟨rfl, ?_⟩)) fun B hB => ?_
  repeat' (first | (refine run (t := tb) 400 rfl ?_ ?_; (focus (repeat' (first | exact trivial | apply And.intro | omega)))) | (refine k_op rfl ?_; (refine v_op (g_lenV rfl (by assumption)) rfl rfl ?_)) | refine k_if rfl (fun _ => ?_) (fun _ => ?_))
  · refine k_rr (vs := [_]) rfl ⟨rfl, trivial⟩ rfl (List.nil_sublist _) ⟨rfl, rfl, ?_⟩
    exact .inl rfl
  · refine k_loop (ι := Nat × Int) (fun i => i.1 ≤ a.length ∧ 0 ≤ i.2 ∧ i.2 ≤ z - a.length ∧ ∀ k, k < i.1 → MtL (nth a k)) (fun i => [(0, u), (1, I i.2), (5, I i.1)]) (fun _ => G) (fun i => []) (fun i => a.length - i.1) (0, z - a.length) ?_ (by repeat (first | exact trivial | refine ⟨rfl, ?_⟩)) rfl (by repeat ((exact List.Sublist.refl _))) (fun i Hi => ?_)
    · refine ⟨by omega, by dsimp only; omega, by dsimp only; omega, fun k hk => absurd hk (by simp)⟩
    obtain ⟨i, m⟩ := i
    dsimp only at Hi ⊢
    by_cases hi : i < a.length
    · obtain ⟨ba, oa, ca, rfl, sa⟩ := hu.expl (by omega)
      have hx := ha _ (nth_mem hi)
      repeat' (first | (refine run (t := tb) 400 rfl ?_ ?_; (focus (repeat' (first | exact trivial | apply And.intro | omega)))) | (refine k_op rfl ?_; first | refine v_op (g_lenL rfl) rfl rfl ?_ | (refine v_op (g_iaddrN rfl rfl ?_) rfl rfl ?_; (focus ((omega); done))) | (refine v_op (g_ldR rfl rfl (by assumption) ?_) rfl rfl ?_; (focus (((omega)); done))) | (refine c_pu rfl rfl rfl (c_szMethod ?_) rfl ?_; (focus (((omega)); done)); rintro _ ⟨z, rfl, hz1, hz2⟩)) | (refine k_tt rfl ?_ ?_; (focus (((refine decide_eq_true ?_; (omega))); done))) | refine k_if rfl (fun _ => ?_) (fun _ => ?_))
      · refine k_rr (vs := [_]) rfl ⟨rfl, trivial⟩ rfl (List.nil_sublist _) ⟨rfl, rfl, ?_⟩
        exact .inl rfl
      · rename_i hz3
        have hz4 := hz1 (by omega)
        refine k_rd (i + 1, z) ?_ ?_ (by repeat (first | exact trivial | refine ⟨rfl, ?_⟩)) rfl (by repeat ((exact List.Sublist.refl _)))
        · refine ⟨by dsimp only; omega, by dsimp only; omega, by dsimp only; omega, fun k hk => ?_⟩
          rcases Nat.lt_or_ge k i with h1 | h1
          · exact Hi.2.2.2 k h1
          · have : k = i := by dsimp only at hk; omega
            subst this; unfold MtL; omega
        · dsimp only; omega
    · repeat' (first | (refine run (t := tb) 400 rfl ?_ ?_; (focus (repeat' ((exact trivial))))) | (refine k_op rfl ?_; (refine v_op (g_lenV rfl (by assumption)) rfl rfl ?_)) | (refine k_ff rfl ?_ ?_; (focus (((refine decide_eq_false ?_; (omega))); done))))
      refine k_rr (vs := [_]) rfl ⟨rfl, trivial⟩ rfl (List.nil_sublist _) ⟨rfl, rfl, ?_⟩
      refine .inr ⟨_, rfl, by omega, fun x hx => ?_⟩
      obtain ⟨k, hk, rfl⟩ := mem_nth hx
      exact Hi.2.2.2 k (by omega)
theorem c_eqMethodS {u v : Value} {a b : List Mt} (hu : SlV G u 3 a.length (rows mtF a)) (hv : SlV G v 3 b.length (rows mtF b)) (hn : a.length ≤ 1048576) :
    PuG Tryd.prog 17 [u, v] G (· = Bo (decide (a = b))) := by
  refine p_enter [(0, _), (1, _)] Tryd.func17 (by kernel_rfl) Tryd.ntmps17 rfl rfl (by repeat (first | exact trivial | refine ⟨rfl, ?_⟩)) fun B hB => ?_
  repeat' (first | (refine run (t := tb) 400 rfl ?_ ?_; (focus (repeat' ((exact trivial))))) | (refine k_op rfl ?_; (refine v_op (g_lenV rfl (by assumption)) rfl rfl ?_)) | refine k_if rfl (fun _ => ?_) (fun _ => ?_))
  · refine k_rr (vs := [_]) rfl ⟨rfl, trivial⟩ rfl (List.nil_sublist _) ⟨rfl, rfl, ?_⟩
    rw [oneOf_one]
    exact congrArg Bo (decide_eq_false (fun h => by subst h; simp_all)).symm
  · have hl : a.length = b.length := by simp_all; omega
    refine k_loop (ι := Nat) (fun i => i ≤ a.length ∧ a.take i = b.take i) (fun i => [(0, u), (1, v), (5, I i)]) (fun _ => G) (fun i => []) (fun i => a.length - i) 0 ?_ (by repeat (first | exact trivial | refine ⟨rfl, ?_⟩)) rfl (by repeat ((exact List.Sublist.refl _))) (fun i Hi => ?_)
    · exact ⟨by omega, rfl⟩
    by_cases hi : i < a.length
    · obtain ⟨ba, oa, ca, rfl, sa⟩ := hu.expl (by omega)
      obtain ⟨bb, ob, cb, rfl, sb⟩ := hv.expl (by omega)
      repeat' (first | (refine run (t := tb) 400 rfl ?_ ?_; (focus (repeat' (first | exact trivial | apply And.intro | omega)))) | (refine k_op rfl ?_; (refine v_op (g_lenL rfl) rfl rfl ?_)) | (refine k_tt rfl ?_ ?_; (focus (((refine decide_eq_true ?_; (omega))); done))) | refine k_cd rfl (fun _ => ?_) (fun _ => ?_) | (refine k_any (s_any (id := 6) _ (fun _ h => h) mixed ?_); refine x_tks (t := tb) (fuel := 6) [0, 1, 4, 5] (bts 10 51) (by kernel_rfl) (by kernel_rfl) rfl rfl (Gh.le.refl _) (by repeat ((exact List.Sublist.refl _))) ?_ ?_; (focus (repeat' ((exact trivial)))); ((refine (x_tkg (bts 10 55) 2 rfl (by kernel_rfl) rfl (Gh.le.refl _) (by repeat ((exact List.Sublist.refl _)))) (g_iaddrN rfl rfl ?_) rfl rfl ?_; (focus ((omega); done)))); ((refine (x_tkg (bts 10 63) 3 rfl (by kernel_rfl) rfl (Gh.le.refl _) (by repeat ((exact List.Sublist.refl _)))) (g_ldR rfl rfl (by assumption) ?_) rfl rfl ?_; (focus (((omega)); done)))); ((refine (x_tkg (bts 10 127) 6 rfl (by kernel_rfl) rfl (Gh.le.refl _) (by repeat ((exact List.Sublist.refl _)))) (g_iaddrN rfl rfl ?_) rfl rfl ?_; (focus ((omega); done)))); ((refine (x_tkg (bts 10 255) 7 rfl (by kernel_rfl) rfl (Gh.le.refl _) (by repeat ((exact List.Sublist.refl _)))) (g_ldR rfl rfl (by assumption) ?_) rfl rfl ?_; (focus (((omega)); done)))); refine x_all [8] (by kernel_rfl) (by decide) ⟨?_, trivial⟩; refine x_opg rfl rfl ?_; ((refine c_rt rfl rfl rfl c_eqMethod rfl ?_)); refine x_ks (by (exact Gh.le.refl _)) (by repeat ((exact List.Sublist.refl _))) (listed' := (bts 10 511)) (by kernel_rfl) ?_; refine x_tks (t := tb) (fuel := 0) [9] (bts 10 1023) (by kernel_rfl) (by kernel_rfl) rfl rfl (Gh.le.refl _) (by repeat ((exact List.Sublist.refl _))) ?_ ?_; (focus (repeat' ((exact trivial)))); refine x_done (by kernel_rfl) (k_bk ?_)))
      · rename_i hne
        refine k_rr (vs := [_]) rfl ⟨rfl, trivial⟩ rfl (List.nil_sublist _) ⟨rfl, rfl, ?_⟩
        rw [oneOf_one]
        refine congrArg Bo (decide_eq_false fun h => ?_).symm
        subst h
        simp at hne
      · rename_i hne
        have he : nth a i = nth b i := by simpa using hne
        refine k_rd (i + 1) ?_ ?_ (by repeat (first | exact trivial | refine ⟨rfl, ?_⟩)) rfl (by repeat ((exact List.Sublist.refl _)))
        · refine ⟨by omega, ?_⟩
          rw [take_nth hi, take_nth (by omega), Hi.2, he]
        · omega
    · repeat' (first | (refine run (t := tb) 400 rfl ?_ ?_; (focus (repeat' ((exact trivial))))) | (refine k_op rfl ?_; (refine v_op (g_lenV rfl (by assumption)) rfl rfl ?_)) | (refine k_ff rfl ?_ ?_; (focus (((refine decide_eq_false ?_; (omega))); done))))
      refine k_rr (vs := [_]) rfl ⟨rfl, trivial⟩ rfl (List.nil_sublist _) ⟨rfl, rfl, ?_⟩
      have ei : i = a.length := by omega
      rw [oneOf_one]
      refine congrArg Bo (decide_eq_true ?_).symm
      have := Hi.2
      rw [ei, List.take_length, hl, List.take_length] at this
      exact this
abbrev tMt2 : TypeId := 36
theorem c_toMethodS {u : Value} {a : List Mt} (hu : SlV G u 3 a.length (rows mtF a)) (hn : a.length ≤ 1048576) :
    FnS Tryd.prog 13 [u] G (fun v G' => ∃ u', v = u' ∧ SlV G' u' 3 a.length (rows mtF a)) := by
  refine b_enter [(0, _)] Tryd.func13 (by kernel_rfl) Tryd.ntmps13 rfl rfl (by repeat (first | exact trivial | refine ⟨rfl, ?_⟩)) fun B hok hB hW => ?_
  repeat' (first | (refine run (t := tb) 400 rfl ?_ ?_; (focus (repeat' ((exact trivial))))) | (refine k_op rfl ?_; first | refine v_op (g_lenV rfl (by assumption)) rfl rfl ?_ | (refine c_mk rfl rfl rfl rfl ?_ (fun _ => ?_); (focus (((omega)); done)))))
  rename_i x
  refine k_loop (ι := Nat) (fun i => i ≤ a.length) (fun i => [(0, u), (3, .slice (some ⟨x, 0, none⟩) a.length a.length), (4, I i)]) (fun _ => G) (fun i => [.blk x (.cells (rows mtF (a.take i) ++ zerosL [S [], S [], S []] (a.length - i)).toArray tMt2 (0, 0))]) (fun i => a.length - i) 0 ?_ (by repeat (first | exact trivial | refine ⟨rfl, ?_⟩)) rfl (by repeat ((exact List.Sublist.refl _))) (fun i Hi => ?_)
  · exact Nat.zero_le _
  by_cases hi : i < a.length
  · obtain ⟨ba, oa, ca, rfl, sa⟩ := hu.expl (by omega)
    repeat' (first | (refine run (t := tb) 400 rfl ?_ ?_; (focus (repeat' (first | exact trivial | apply And.intro | omega)))) | (refine k_op rfl ?_; first | refine v_op (g_lenL rfl) rfl rfl ?_ | (refine v_op (g_iaddrN rfl rfl ?_) rfl rfl ?_; (focus ((omega); done))) | (refine v_op (g_ldR rfl rfl (by assumption) ?_) rfl rfl ?_; (focus (((omega)); done))) | (refine c_stR rfl rfl rfl rfl rfl rfl ?_ ?_ ?_; (focus (((simp only [List.length_append, List.length_cons, List.length_nil, List.length_take]; omega)); done)); (focus (((omega)); done))) | (refine c_rt rfl rfl rfl c_toMethod rfl ?_)) | (refine k_tt rfl ?_ ?_; (focus (((refine decide_eq_true ?_; (omega))); done))))
    refine k_rd (i + 1) (by omega) (by omega) (by repeat (first | exact trivial | refine ⟨rfl, ?_⟩)) rfl (by rw [take_nth hi]; exact List.Sublist.refl _)
  · repeat' (first | (refine run (t := tb) 400 rfl ?_ ?_; (focus (repeat' ((exact trivial))))) | (refine k_op rfl ?_; (refine v_op (g_lenV rfl (by assumption)) rfl rfl ?_)) | (refine k_ff rfl ?_ ?_; (focus (((refine decide_eq_false ?_; (omega))); done))))
    have ei : i = a.length := by omega
    subst ei
    refine Nx.sealB .here fun G' hle hseg => ?_
    simp only [List.take_length, Nat.sub_self, zerosL, List.append_nil] at hseg
    exact k_rr (vs := [_]) rfl ⟨rfl, trivial⟩ rfl (List.nil_sublist _) ⟨hle, rfl, _, rfl, ⟨rows_len a, .inr ⟨_, _, _, rfl, Nat.le_refl _, hseg⟩⟩⟩
end Go.E
/-! Ms -/
namespace Go.E
set_option maxRecDepth 20000
set_option maxHeartbeats 2000000
open Go.Proofs
variable {G : Gh}
theorem c_eqService {s r : List UInt8} {u v : Value} {a b : List Mt} (hu : SlV G u 3 a.length (rows mtF a)) (hv : SlV G v 3 b.length (rows mtF b)) (hn : a.length ≤ 1048576) :
    PuG Tryd.prog 8 [Ag [S s, u], Ag [S r, v]] G (· = Bo (decide (s = r ∧ a = b))) := by
  refine p_enter [(0, _), (1, _)] Tryd.func8 (by kernel_rfl) Tryd.ntmps8 rfl rfl (by repeat (first | exact trivial | refine ⟨rfl, ?_⟩)) fun B hB => ?_
  repeat' (first | (refine run (t := tb) 400 rfl ?_ ?_; (focus (repeat' ((exact trivial))))) | (refine k_op rfl ?_; first | refine c_bx rfl rfl rfl fun _ => ?_ | refine v_op (g_ld rfl rfl rfl) rfl rfl ?_ | (refine c_rt rfl rfl rfl (c_eqMethodS (by (repeat ((assumption))); done) (by (repeat ((assumption))); done) ?_) rfl ?_; (focus (((assumption)); done)))) | refine k_if rfl (fun _ => ?_) (fun _ => ?_) | refine k_cd rfl (fun _ => ?_) (fun _ => ?_))
  all_goals refine k_rr (vs := [_]) rfl ⟨rfl, trivial⟩ rfl (List.nil_sublist _) ⟨rfl, rfl, ?_⟩
  all_goals (rw [oneOf_one]; simp_all)
theorem c_szService {s : List UInt8} {u : Value} {a : List Mt} {z : Int} (h : (0 ≤ z ∧ z ≤ 1048576) ∧ s.length ≤ 9223372036854775807 ∧ a.length ≤ 9223372036854775807) (hu : SlV G u 3 a.length (rows mtF a)) (ha : ∀ x ∈ a, MtW x) :
    PuG Tryd.prog 4 [Ag [S s, u], I z] G (fun v => v = I (-1) ∨ ∃ z', v = I z' ∧ (0 ≤ z' ∧ s.length ≤ 1048576 ∧ a.length ≤ 1048576) ∧ ∀ x ∈ a, MtL x) := by
  refine p_enter [(0, _), (1, _)] Tryd.func4 (by kernel_rfl) Tryd.ntmps4 rfl rfl (by repeat (first | exact trivial | refine ⟨rfl, ?_⟩)) fun B hB => ?_
  repeat' (first | (refine run (t := tb) 400 rfl ?_ ?_; (focus (repeat' (first | exact trivial | apply And.intro | omega)))) | (refine k_op rfl ?_; first | refine c_bx rfl rfl rfl fun _ => ?_ | refine v_op (g_ld rfl rfl rfl) rfl rfl ?_ | (refine c_pu rfl rfl rfl (c_szMethodS ?_ (by (repeat ((assumption))); done) (by (repeat ((assumption))); done)) rfl ?_; (focus (((omega)); done)); rintro _ (rfl | ⟨z, rfl, hz1, hz2⟩))) | (refine k_tt rfl ?_ ?_; (focus (((rfl)); done))) | (refine k_ff rfl ?_ ?_; (focus (((refine decide_eq_false ?_; (omega))); done))) | refine k_if rfl (fun _ => ?_) (fun _ => ?_))
  all_goals refine k_rr (vs := [_]) rfl ⟨rfl, trivial⟩ rfl (List.nil_sublist _) ⟨rfl, rfl, ?_⟩
  all_goals first | exact .inl rfl | exact .inr ⟨_, rfl, by omega, by assumption⟩
theorem c_toService {s : List UInt8} {u : Value} {a : List Mt} (hu : SlV G u 3 a.length (rows mtF a)) (hn : a.length ≤ 1048576) :
    FnS Tryd.prog 6 [Ag [S s, u]] G (fun v G' => ∃ u', v = Ag [S s, u'] ∧ SlV G' u' 3 a.length (rows mtF a)) := by
  refine b_enter [(0, _)] Tryd.func6 (by kernel_rfl) Tryd.ntmps6 rfl rfl (by repeat (first | exact trivial | refine ⟨rfl, ?_⟩)) fun B hok hB hW => ?_
  repeat' (first | (refine run (t := tb) 400 rfl ?_ ?_; (focus (repeat' ((exact trivial))))) | (refine k_op rfl ?_; first | refine c_bx rfl rfl rfl fun _ => ?_ | refine c_al rfl rfl fun _ => ?_ | refine v_op (g_ld rfl rfl rfl) rfl rfl ?_ | refine c_st1 rfl rfl rfl rfl ?_ | (refine c_fns rfl rfl rfl (c_toMethodS (by (repeat ((assumption))); done) ?_) rfl ?_; (focus (((assumption)); done)); rintro _ G hle ⟨u, rfl, hsl⟩; skip)))
  obtain ⟨x, c, rfl⟩ := hsl.sl
  repeat' (first | (refine run (t := tb) 400 rfl ?_ ?_; (focus (repeat' ((exact trivial))))) | (refine k_op rfl ?_; first | refine v_op (g_ldA rfl rfl rfl rfl) rfl rfl ?_ | refine c_st1 rfl rfl rfl rfl ?_ | refine c_stA rfl rfl rfl rfl rfl rfl ?_))
  refine k_rr (vs := [_]) rfl ⟨rc_A rfl rfl rfl rfl, trivial⟩ rfl (List.nil_sublist _) ⟨hle, rfl, ?_⟩
  exact ⟨_, rfl, hsl⟩
def mtOk (ss : List UInt8) (m : Mt) : Bool := kindS ss m.2.1 && kindS ss m.2.2 && isNm m.1
end Go.E
/-! Mt -/
namespace Go.E
set_option maxRecDepth 20000
set_option maxHeartbeats 2000000

open Go.Proofs
variable {G : Gh}
def goodAt (s : List UInt8) (a : List Mt) (i : Nat) : Bool := mtOk s (nth a i) && (i == 0 || Op.bytesLess (nth a (i - 1)).1 (nth a i).1)
def svcOk (s : List UInt8) (a : List Mt) : Bool := (schemaOf s).isSome && decide (a.length ≤ 6) && (List.range a.length).all (goodAt s a)
theorem svc_no {s : List UInt8} {a : List Mt} {i : Nat} (hi : i < a.length) (h : goodAt s a i = false) : svcOk s a = false := by
  unfold svcOk
  rw [Bool.and_eq_false_iff]; right
  rw [List.all_eq_false]
  exact ⟨i, List.mem_range.2 hi, by rw [h]; simp⟩
theorem svc_yes {s : List UInt8} {a : List Mt} (hs : (schemaOf s).isSome = true) (h6 : a.length ≤ 6) (h : ∀ k, k < a.length → goodAt s a k = true) : svcOk s a = true := by
  unfold svcOk
  rw [hs, decide_eq_true h6]
  simp only [Bool.true_and, List.all_eq_true, List.mem_range]
  exact h
abbrev tSv : TypeId := 29
theorem c_ServiceOkS {s : List UInt8} {u : Value} {a : List Mt} (h : s.length ≤ 1048576) (hu : SlV G u 3 a.length (rows mtF a)) (hn : a.length ≤ 1048576) (ha : ∀ x ∈ a, MtL x) :
    PuG Tryd.prog 5 [Ag [S s, u]] G (· = Bo (svcOk s a)) := by
  have hs : s.length ≤ 10000000 := by omega
  refine b_enter (Post := fun v G' L' => G' = G ∧ L' = [] ∧ _) [(0, _)] Tryd.func5 (by kernel_rfl) Tryd.ntmps5 rfl rfl (by repeat (first | exact trivial | refine ⟨rfl, ?_⟩)) fun B hok hB hW => ?_
  repeat' (first | (refine run (t := tb) 400 rfl ?_ ?_; (focus (repeat' ((exact trivial))))) | (refine k_op rfl ?_; first | refine c_bx rfl rfl rfl fun _ => ?_ | refine v_op (g_ld rfl rfl rfl) rfl rfl ?_ | refine v_op (g_lenV rfl (by assumption)) rfl rfl ?_ | (refine v_op (g_pickT rfl rfl ?_) rfl rfl ?_; (focus (((rfl)); done))) | (refine v_op (g_pickF rfl rfl ?_) rfl rfl ?_; (focus (((rfl)); done))) | (refine c_rt rfl rfl rfl (c_SchemaOkS (by omega)) rfl ?_)) | refine k_gb rfl rfl (fun _ => ?_) (fun _ => ?_) | (refine k_tt rfl ?_ ?_; (focus (((rfl)); done))) | refine k_if rfl (fun _ => ?_) (fun _ => ?_))
  · rename_i h1
    refine Nx.base hok hB ?_
    refine k_rr (vs := [_]) rfl ⟨rfl, trivial⟩ rfl (List.nil_sublist _) ⟨rfl, rfl, ?_⟩
    have h2 : (schemaOf s).isSome = false := by simpa using h1
    unfold svcOk; rw [h2]; rfl
  · rename_i h1
    refine Nx.base hok hB ?_
    refine k_rr (vs := [_]) rfl ⟨rfl, trivial⟩ rfl (List.nil_sublist _) ⟨rfl, rfl, ?_⟩
    have h2 : decide (a.length ≤ 6) = false := by simp; omega
    unfold svcOk; rw [h2]; simp
  rename_i x h1 h2
  refine k_loop (ι := Nat × Gh) (fun i => (i.1 ≤ a.length ∧ Gh.le G i.2) ∧ ∀ k, k < i.1 → goodAt s a k = true) (fun i => [(1, Pt x 0), (3, I i.1)]) (fun i => i.2) (fun i => [.blk x (.cells #[S s, u] tSv (0, 0))]) (fun i => a.length - i.1) (0, G) ?_ (by repeat (first | exact trivial | refine ⟨rfl, ?_⟩)) rfl (by repeat ((exact List.Sublist.refl _))) (fun i Hi => ?_)
  · exact ⟨⟨Nat.zero_le _, Gh.le.refl _⟩, fun k hk => absurd hk (by simp)⟩
  obtain ⟨i, G1⟩ := i
  dsimp only at Hi ⊢
  obtain ⟨⟨hi1, hg⟩, hgood⟩ := Hi
  by_cases hi : i < a.length
  · obtain ⟨ba, oa, ca, rfl, sa⟩ := (hu.mono hg).expl (by omega)
    have hx := ha _ (nth_mem hi)
    cases e1 : kindS s (nth a i).2.1 <;> cases e2 : kindS s (nth a i).2.2 <;> cases e3 : isNm (nth a i).1
    all_goals
      have cx_lk1 : ∀ G, FnS Tryd.prog 11 [S s, S (nth a i).2.1] G (fun v _ => ∃ u, v = Tu [u, Bo (kindS s (nth a i).2.1)]) := fun G => by
        refine (c_l3Kind (G := G) hs (by omega)).mono ?_
        rintro v G' L' ⟨h1, h2, u, vs, rfl, _⟩
        exact ⟨h1, h2, u, rfl⟩
      have cx_lk2 : ∀ G, FnS Tryd.prog 11 [S s, S (nth a i).2.2] G (fun v _ => ∃ u, v = Tu [u, Bo (kindS s (nth a i).2.2)]) := fun G => by
        refine (c_l3Kind (G := G) hs (by omega)).mono ?_
        rintro v G' L' ⟨h1, h2, u, vs, rfl, _⟩
        exact ⟨h1, h2, u, rfl⟩
      have cx_nm2 : ∀ G, PuG Tryd.prog 12 [S (nth a i).1] G (· = Bo (isNm (nth a i).1)) := fun G => c_l2Name (by omega)
      rw [e1] at cx_lk1
      rw [e2] at cx_lk2
      rw [e3] at cx_nm2
    case true.true.true =>
      rcases i with _ | j
      · repeat' (first | (refine run (t := tb) 400 rfl ?_ ?_; (focus (repeat' (first | exact trivial | apply And.intro | omega)))) | (refine k_op rfl ?_; first | refine v_op (g_ld rfl rfl rfl) rfl rfl ?_ | (refine v_op (g_ldR rfl rfl (by assumption) ?_) rfl rfl ?_; (focus (((omega)); done))) | refine v_op (g_lenL rfl) rfl rfl ?_ | (refine v_op (g_iaddrN rfl rfl ?_) rfl rfl ?_; (focus ((omega); done))) | refine c_al rfl rfl fun _ => ?_ | refine c_stA rfl rfl rfl rfl rfl rfl ?_ | (refine c_fns rfl rfl rfl (cx_lk1 _) rfl ?_; rintro _ G hle ⟨u1, rfl⟩; ((try have sa := Seg.mono sa hle); (try have hg := Gh.le.trans hg hle))) | (refine c_fns rfl rfl rfl (cx_lk2 _) rfl ?_; rintro _ G hle ⟨u2, rfl⟩; ((try have sa := Seg.mono sa hle); (try have hg := Gh.le.trans hg hle)))) | (refine k_tt rfl ?_ ?_; (focus (((refine decide_eq_true ?_; (omega))); done))) | (refine k_ff rfl ?_ ?_; (focus (((rfl)); done))) | (refine k_any (s_any (id := 9) _ (fun _ h => h) mixed ?_); refine x_tks (t := tb) (fuel := 25) [0, 1, 2] (bts 28 7) (by kernel_rfl) (by kernel_rfl) rfl rfl (Gh.le.refl _) (by repeat ((exact List.Sublist.refl _))) ?_ ?_; (focus (repeat' ((exact trivial)))); (try ((refine Nx.re (d := 49) (v' := Bo false) rfl (congrArg Value.bool ?_) ?_; (focus (((rfl)); done))))); refine x_tks (t := tb) (fuel := 23) [3, 4] (bts 28 31) (by kernel_rfl) (by kernel_rfl) rfl rfl (Gh.le.refl _) (by repeat ((exact List.Sublist.refl _))) ?_ ?_; (focus (repeat' ((exact trivial)))); ((refine (x_tkg (bts 28 63) 5 rfl (by kernel_rfl) rfl (Gh.le.refl _) (by repeat ((exact List.Sublist.refl _)))) (g_pickF rfl rfl ?_) rfl rfl ?_; (focus (((rfl)); done)))); refine x_tks (t := tb) (fuel := 21) [6] (bts 28 127) (by kernel_rfl) (by kernel_rfl) rfl rfl (Gh.le.refl _) (by repeat ((exact List.Sublist.refl _))) ?_ ?_; (focus (repeat' ((exact trivial)))); (try ((refine Nx.re (d := 53) (v' := Bo false) rfl (congrArg Value.bool ?_) ?_; (focus (((rfl)); done))))); refine x_tks (t := tb) (fuel := 20) [7] (bts 28 255) (by kernel_rfl) (by kernel_rfl) rfl rfl (Gh.le.refl _) (by repeat ((exact List.Sublist.refl _))) ?_ ?_; (focus (repeat' ((exact trivial)))); ((refine (x_tkg (bts 28 511) 8 rfl (by kernel_rfl) rfl (Gh.le.refl _) (by repeat ((exact List.Sublist.refl _)))) (g_ld rfl rfl rfl) rfl rfl ?_)); ((refine x_all [9] (by kernel_rfl) (by decide) ⟨?_, trivial⟩; refine x_opg rfl rfl ?_; ((refine c_rt rfl rfl rfl (cx_nm2 _) rfl ?_)); refine x_ks (by (exact Gh.le.refl _)) (by repeat ((exact List.Sublist.refl _))) (listed' := (bts 28 1023)) (by kernel_rfl) ?_)); refine x_tks (t := tb) (fuel := 17) [10] (bts 28 2047) (by kernel_rfl) (by kernel_rfl) rfl rfl (Gh.le.refl _) (by repeat ((exact List.Sublist.refl _))) ?_ ?_; (focus (repeat' ((exact trivial)))); ((refine (x_tkg (bts 28 4095) 11 rfl (by kernel_rfl) rfl (Gh.le.refl _) (by repeat ((exact List.Sublist.refl _)))) (g_pickF rfl rfl ?_) rfl rfl ?_; (focus (((rfl)); done)))); refine x_tks (t := tb) (fuel := 15) [12] (bts 28 8191) (by kernel_rfl) (by kernel_rfl) rfl rfl (Gh.le.refl _) (by repeat ((exact List.Sublist.refl _))) ?_ ?_; (focus (repeat' ((exact trivial)))); (try ((refine Nx.re (d := 59) (v' := Bo false) rfl (congrArg Value.bool ?_) ?_; (focus (((rfl)); done))))); refine x_tks (t := tb) (fuel := 12) [13, 14, 15] (bts 28 65535) (by kernel_rfl) (by kernel_rfl) rfl rfl (Gh.le.refl _) (by repeat ((exact List.Sublist.refl _))) ?_ ?_; (focus (repeat' ((exact trivial)))); (try ((refine Nx.re (d := 62) (v' := Bo false) rfl (congrArg Value.bool ?_) ?_; (focus (((rfl)); done))))); refine x_tks (t := tb) (fuel := 8) [16, 18, 19, 23] (bts 28 9306111) (by kernel_rfl) (by kernel_rfl) rfl rfl (Gh.le.refl _) (by repeat ((exact List.Sublist.refl _))) ?_ ?_; (focus (repeat' ((exact trivial)))); ((refine x_tkn (bts 28 9437183) 17 rfl (by kernel_rfl) rfl (Gh.le.refl _) (by repeat ((exact List.Sublist.refl _))) rfl rfl ?_)); ((refine x_tkn (bts 28 10485759) 20 rfl (by kernel_rfl) rfl (Gh.le.refl _) (by repeat ((exact List.Sublist.refl _))) rfl rfl ?_)); refine x_tks (t := tb) (fuel := 5) [21] (bts 28 12582911) (by kernel_rfl) (by kernel_rfl) rfl rfl (Gh.le.refl _) (by repeat ((exact List.Sublist.refl _))) ?_ ?_; (focus (repeat' ((exact trivial)))); ((refine x_tkn (bts 28 16777215) 22 rfl (by kernel_rfl) rfl (Gh.le.refl _) (by repeat ((exact List.Sublist.refl _))) rfl rfl ?_)); ((refine x_tkn (bts 28 33554431) 24 rfl (by kernel_rfl) rfl (Gh.le.refl _) (by repeat ((exact List.Sublist.refl _))) rfl rfl ?_)); refine x_tks (t := tb) (fuel := 2) [25] (bts 28 67108863) (by kernel_rfl) (by kernel_rfl) rfl rfl (Gh.le.refl _) (by repeat ((exact List.Sublist.refl _))) ?_ ?_; (focus (repeat' ((exact trivial)))); ((refine (x_tkg (bts 28 134217727) 26 rfl (by kernel_rfl) rfl (Gh.le.refl _) (by repeat ((exact List.Sublist.refl _)))) (g_pickF rfl rfl ?_) rfl rfl ?_; (focus (((rfl)); done)))); ((refine (x_tkg (bts 28 268435455) 27 rfl (by kernel_rfl) rfl (Gh.le.refl _) (by repeat ((exact List.Sublist.refl _)))) (g_pickF rfl rfl ?_) rfl rfl ?_; (focus (((rfl)); done)))); refine x_done (by kernel_rfl) (k_bk ?_)))
        refine k_rd (1, G) ⟨⟨by dsimp only; omega, hg⟩, fun k hk => ?_⟩ (by dsimp only; omega) (by repeat (first | exact trivial | refine ⟨rfl, ?_⟩)) rfl (by repeat (first | exact List.Sublist.refl _ | apply List.Sublist.cons))
        have : k = 0 := by dsimp only at hk; omega
        subst this
        simp [goodAt, mtOk, e1, e2, e3]
      · have ej : ((((j + 1 : Nat) : Int) - 1).toNat) = j := by omega
        cases e5 : Op.bytesLess (nth a j).1 (nth a (j + 1)).1
        · have hb : goodAt s a (j + 1) = false := by simp [goodAt, e5]
          have e6 : Op.bytesLess (nth a (((j + 1 : Nat) : Int) - 1).toNat).1 (nth a (j + 1)).1 = false := by rw [ej]; exact e5
          repeat' (first | (refine run (t := tb) 400 rfl ?_ ?_; (focus (repeat' ((exact trivial))))) | (refine k_op rfl ?_; first | refine v_op (g_ld rfl rfl rfl) rfl rfl ?_ | (refine v_op (g_ldR rfl rfl (by assumption) ?_) rfl rfl ?_; (focus (((omega)); done))) | refine v_op (g_lenL rfl) rfl rfl ?_ | (refine v_op (g_iaddrN rfl rfl ?_) rfl rfl ?_; (focus ((omega); done))) | refine c_al rfl rfl fun _ => ?_ | refine c_stA rfl rfl rfl rfl rfl rfl ?_ | (refine c_fns rfl rfl rfl (cx_lk1 _) rfl ?_; rintro _ G hle ⟨u1, rfl⟩; ((try have sa := Seg.mono sa hle); (try have hg := Gh.le.trans hg hle))) | (refine c_fns rfl rfl rfl (cx_lk2 _) rfl ?_; rintro _ G hle ⟨u2, rfl⟩; ((try have sa := Seg.mono sa hle); (try have hg := Gh.le.trans hg hle)))) | (refine k_tt rfl ?_ ?_; (focus ((first | (refine decide_eq_true ?_; (omega)) | (simp [*]; done)); done))) | (refine k_any (s_any (id := 9) _ (fun _ h => h) mixed ?_); refine x_tks (t := tb) (fuel := 25) [0, 1, 2] (bts 28 7) (by kernel_rfl) (by kernel_rfl) rfl rfl (Gh.le.refl _) (by repeat ((exact List.Sublist.refl _))) ?_ ?_; (focus (repeat' ((exact trivial)))); (try ((refine Nx.re (d := 49) (v' := Bo false) rfl (congrArg Value.bool ?_) ?_; (focus (((rfl)); done))))); refine x_tks (t := tb) (fuel := 23) [3, 4] (bts 28 31) (by kernel_rfl) (by kernel_rfl) rfl rfl (Gh.le.refl _) (by repeat ((exact List.Sublist.refl _))) ?_ ?_; (focus (repeat' ((exact trivial)))); ((refine (x_tkg (bts 28 63) 5 rfl (by kernel_rfl) rfl (Gh.le.refl _) (by repeat ((exact List.Sublist.refl _)))) (g_pickF rfl rfl ?_) rfl rfl ?_; (focus (((rfl)); done)))); refine x_tks (t := tb) (fuel := 21) [6] (bts 28 127) (by kernel_rfl) (by kernel_rfl) rfl rfl (Gh.le.refl _) (by repeat ((exact List.Sublist.refl _))) ?_ ?_; (focus (repeat' ((exact trivial)))); (try ((refine Nx.re (d := 53) (v' := Bo false) rfl (congrArg Value.bool ?_) ?_; (focus (((rfl)); done))))); refine x_tks (t := tb) (fuel := 20) [7] (bts 28 255) (by kernel_rfl) (by kernel_rfl) rfl rfl (Gh.le.refl _) (by repeat ((exact List.Sublist.refl _))) ?_ ?_; (focus (repeat' ((exact trivial)))); ((refine (x_tkg (bts 28 511) 8 rfl (by kernel_rfl) rfl (Gh.le.refl _) (by repeat ((exact List.Sublist.refl _)))) (g_ld rfl rfl rfl) rfl rfl ?_)); ((refine x_all [9] (by kernel_rfl) (by decide) ⟨?_, trivial⟩; refine x_opg rfl rfl ?_; ((refine c_rt rfl rfl rfl (cx_nm2 _) rfl ?_)); refine x_ks (by (exact Gh.le.refl _)) (by repeat ((exact List.Sublist.refl _))) (listed' := (bts 28 1023)) (by kernel_rfl) ?_)); refine x_tks (t := tb) (fuel := 17) [10] (bts 28 2047) (by kernel_rfl) (by kernel_rfl) rfl rfl (Gh.le.refl _) (by repeat ((exact List.Sublist.refl _))) ?_ ?_; (focus (repeat' ((exact trivial)))); ((refine (x_tkg (bts 28 4095) 11 rfl (by kernel_rfl) rfl (Gh.le.refl _) (by repeat ((exact List.Sublist.refl _)))) (g_pickF rfl rfl ?_) rfl rfl ?_; (focus (((rfl)); done)))); refine x_tks (t := tb) (fuel := 15) [12] (bts 28 8191) (by kernel_rfl) (by kernel_rfl) rfl rfl (Gh.le.refl _) (by repeat ((exact List.Sublist.refl _))) ?_ ?_; (focus (repeat' ((exact trivial)))); (try ((refine Nx.re (d := 59) (v' := Bo false) rfl (congrArg Value.bool ?_) ?_; (focus (((rfl)); done))))); refine x_tks (t := tb) (fuel := 12) [13, 14, 15] (bts 28 65535) (by kernel_rfl) (by kernel_rfl) rfl rfl (Gh.le.refl _) (by repeat ((exact List.Sublist.refl _))) ?_ ?_; (focus (repeat' ((exact trivial)))); (try ((refine Nx.re (d := 62) (v' := Bo true) rfl (congrArg Value.bool ?_) ?_; (focus (((refine decide_eq_true ?_; (omega))); done))))); refine x_tks (t := tb) (fuel := 8) [16, 18, 19, 23] (bts 28 9306111) (by kernel_rfl) (by kernel_rfl) rfl rfl (Gh.le.refl _) (by repeat ((exact List.Sublist.refl _))) ?_ ?_; (focus (repeat' (first | exact trivial | apply And.intro | omega))); ((refine (x_tkg (bts 28 9437183) 17 rfl (by kernel_rfl) rfl (Gh.le.refl _) (by repeat ((exact List.Sublist.refl _)))) (g_ld rfl rfl rfl) rfl rfl ?_)); ((refine (x_tkg (bts 28 10485759) 20 rfl (by kernel_rfl) rfl (Gh.le.refl _) (by repeat ((exact List.Sublist.refl _)))) (g_iaddr rfl rfl ?_) rfl rfl ?_; (focus ((omega); done)))); refine x_tks (t := tb) (fuel := 5) [21] (bts 28 12582911) (by kernel_rfl) (by kernel_rfl) rfl rfl (Gh.le.refl _) (by repeat ((exact List.Sublist.refl _))) ?_ ?_; (focus (repeat' ((exact trivial)))); ((refine (x_tkg (bts 28 16777215) 22 rfl (by kernel_rfl) rfl (Gh.le.refl _) (by repeat ((exact List.Sublist.refl _)))) (g_ldRF rfl rfl (by assumption) ?_ rfl rfl) rfl rfl ?_; (focus (((omega)); done)))); ((refine (x_tkg (bts 28 33554431) 24 rfl (by kernel_rfl) rfl (Gh.le.refl _) (by repeat ((exact List.Sublist.refl _)))) (g_ld rfl rfl rfl) rfl rfl ?_)); refine x_tks (t := tb) (fuel := 2) [25] (bts 28 67108863) (by kernel_rfl) (by kernel_rfl) rfl rfl (Gh.le.refl _) (by repeat ((exact List.Sublist.refl _))) ?_ ?_; (focus (repeat' ((exact trivial)))); ((refine (x_tkg (bts 28 134217727) 26 rfl (by kernel_rfl) rfl (Gh.le.refl _) (by repeat ((exact List.Sublist.refl _)))) (g_pickT rfl rfl ?_) rfl rfl ?_; (focus (((rfl)); done)))); ((refine (x_tkg (bts 28 268435455) 27 rfl (by kernel_rfl) rfl (Gh.le.refl _) (by repeat ((exact List.Sublist.refl _)))) (g_pickF rfl rfl ?_) rfl rfl ?_; (focus (((rfl)); done)))); refine x_done (by kernel_rfl) (k_bk ?_)))
          all_goals refine Nx.base hok hB ?_
          all_goals refine k_rr (vs := [_]) rfl ⟨rfl, trivial⟩ rfl (List.nil_sublist _) ⟨rfl, rfl, ?_⟩
          all_goals rw [oneOf_one, svc_no hi hb]
        · have hb : goodAt s a (j + 1) = true := by simp [goodAt, mtOk, e1, e2, e3, e5]
          have e6 : Op.bytesLess (nth a (((j + 1 : Nat) : Int) - 1).toNat).1 (nth a (j + 1)).1 = true := by rw [ej]; exact e5
          repeat' (first | (refine run (t := tb) 400 rfl ?_ ?_; (focus (repeat' (first | exact trivial | apply And.intro | omega)))) | (refine k_op rfl ?_; first | refine v_op (g_ld rfl rfl rfl) rfl rfl ?_ | (refine v_op (g_ldR rfl rfl (by assumption) ?_) rfl rfl ?_; (focus (((omega)); done))) | refine v_op (g_lenL rfl) rfl rfl ?_ | (refine v_op (g_iaddrN rfl rfl ?_) rfl rfl ?_; (focus ((omega); done))) | refine c_al rfl rfl fun _ => ?_ | refine c_stA rfl rfl rfl rfl rfl rfl ?_ | (refine c_fns rfl rfl rfl (cx_lk1 _) rfl ?_; rintro _ G hle ⟨u1, rfl⟩; ((try have sa := Seg.mono sa hle); (try have hg := Gh.le.trans hg hle))) | (refine c_fns rfl rfl rfl (cx_lk2 _) rfl ?_; rintro _ G hle ⟨u2, rfl⟩; ((try have sa := Seg.mono sa hle); (try have hg := Gh.le.trans hg hle)))) | (refine k_tt rfl ?_ ?_; (focus (((refine decide_eq_true ?_; (omega))); done))) | (refine k_ff rfl ?_ ?_; (focus (((simp [*]; done)); done))) | (refine k_any (s_any (id := 9) _ (fun _ h => h) mixed ?_); refine x_tks (t := tb) (fuel := 25) [0, 1, 2] (bts 28 7) (by kernel_rfl) (by kernel_rfl) rfl rfl (Gh.le.refl _) (by repeat ((exact List.Sublist.refl _))) ?_ ?_; (focus (repeat' ((exact trivial)))); (try ((refine Nx.re (d := 49) (v' := Bo false) rfl (congrArg Value.bool ?_) ?_; (focus (((rfl)); done))))); refine x_tks (t := tb) (fuel := 23) [3, 4] (bts 28 31) (by kernel_rfl) (by kernel_rfl) rfl rfl (Gh.le.refl _) (by repeat ((exact List.Sublist.refl _))) ?_ ?_; (focus (repeat' ((exact trivial)))); ((refine (x_tkg (bts 28 63) 5 rfl (by kernel_rfl) rfl (Gh.le.refl _) (by repeat ((exact List.Sublist.refl _)))) (g_pickF rfl rfl ?_) rfl rfl ?_; (focus (((rfl)); done)))); refine x_tks (t := tb) (fuel := 21) [6] (bts 28 127) (by kernel_rfl) (by kernel_rfl) rfl rfl (Gh.le.refl _) (by repeat ((exact List.Sublist.refl _))) ?_ ?_; (focus (repeat' ((exact trivial)))); (try ((refine Nx.re (d := 53) (v' := Bo false) rfl (congrArg Value.bool ?_) ?_; (focus (((rfl)); done))))); refine x_tks (t := tb) (fuel := 20) [7] (bts 28 255) (by kernel_rfl) (by kernel_rfl) rfl rfl (Gh.le.refl _) (by repeat ((exact List.Sublist.refl _))) ?_ ?_; (focus (repeat' ((exact trivial)))); ((refine (x_tkg (bts 28 511) 8 rfl (by kernel_rfl) rfl (Gh.le.refl _) (by repeat ((exact List.Sublist.refl _)))) (g_ld rfl rfl rfl) rfl rfl ?_)); ((refine x_all [9] (by kernel_rfl) (by decide) ⟨?_, trivial⟩; refine x_opg rfl rfl ?_; ((refine c_rt rfl rfl rfl (cx_nm2 _) rfl ?_)); refine x_ks (by (exact Gh.le.refl _)) (by repeat ((exact List.Sublist.refl _))) (listed' := (bts 28 1023)) (by kernel_rfl) ?_)); refine x_tks (t := tb) (fuel := 17) [10] (bts 28 2047) (by kernel_rfl) (by kernel_rfl) rfl rfl (Gh.le.refl _) (by repeat ((exact List.Sublist.refl _))) ?_ ?_; (focus (repeat' ((exact trivial)))); ((refine (x_tkg (bts 28 4095) 11 rfl (by kernel_rfl) rfl (Gh.le.refl _) (by repeat ((exact List.Sublist.refl _)))) (g_pickF rfl rfl ?_) rfl rfl ?_; (focus (((rfl)); done)))); refine x_tks (t := tb) (fuel := 15) [12] (bts 28 8191) (by kernel_rfl) (by kernel_rfl) rfl rfl (Gh.le.refl _) (by repeat ((exact List.Sublist.refl _))) ?_ ?_; (focus (repeat' ((exact trivial)))); (try ((refine Nx.re (d := 59) (v' := Bo false) rfl (congrArg Value.bool ?_) ?_; (focus (((rfl)); done))))); refine x_tks (t := tb) (fuel := 12) [13, 14, 15] (bts 28 65535) (by kernel_rfl) (by kernel_rfl) rfl rfl (Gh.le.refl _) (by repeat ((exact List.Sublist.refl _))) ?_ ?_; (focus (repeat' ((exact trivial)))); (try ((refine Nx.re (d := 62) (v' := Bo true) rfl (congrArg Value.bool ?_) ?_; (focus (((refine decide_eq_true ?_; (omega))); done))))); refine x_tks (t := tb) (fuel := 8) [16, 18, 19, 23] (bts 28 9306111) (by kernel_rfl) (by kernel_rfl) rfl rfl (Gh.le.refl _) (by repeat ((exact List.Sublist.refl _))) ?_ ?_; (focus (repeat' (first | exact trivial | apply And.intro | omega))); ((refine (x_tkg (bts 28 9437183) 17 rfl (by kernel_rfl) rfl (Gh.le.refl _) (by repeat ((exact List.Sublist.refl _)))) (g_ld rfl rfl rfl) rfl rfl ?_)); ((refine (x_tkg (bts 28 10485759) 20 rfl (by kernel_rfl) rfl (Gh.le.refl _) (by repeat ((exact List.Sublist.refl _)))) (g_iaddr rfl rfl ?_) rfl rfl ?_; (focus ((omega); done)))); refine x_tks (t := tb) (fuel := 5) [21] (bts 28 12582911) (by kernel_rfl) (by kernel_rfl) rfl rfl (Gh.le.refl _) (by repeat ((exact List.Sublist.refl _))) ?_ ?_; (focus (repeat' ((exact trivial)))); ((refine (x_tkg (bts 28 16777215) 22 rfl (by kernel_rfl) rfl (Gh.le.refl _) (by repeat ((exact List.Sublist.refl _)))) (g_ldRF rfl rfl (by assumption) ?_ rfl rfl) rfl rfl ?_; (focus (((omega)); done)))); ((refine (x_tkg (bts 28 33554431) 24 rfl (by kernel_rfl) rfl (Gh.le.refl _) (by repeat ((exact List.Sublist.refl _)))) (g_ld rfl rfl rfl) rfl rfl ?_)); refine x_tks (t := tb) (fuel := 2) [25] (bts 28 67108863) (by kernel_rfl) (by kernel_rfl) rfl rfl (Gh.le.refl _) (by repeat ((exact List.Sublist.refl _))) ?_ ?_; (focus (repeat' ((exact trivial)))); ((refine (x_tkg (bts 28 134217727) 26 rfl (by kernel_rfl) rfl (Gh.le.refl _) (by repeat ((exact List.Sublist.refl _)))) (g_pickT rfl rfl ?_) rfl rfl ?_; (focus (((rfl)); done)))); ((refine (x_tkg (bts 28 268435455) 27 rfl (by kernel_rfl) rfl (Gh.le.refl _) (by repeat ((exact List.Sublist.refl _)))) (g_pickF rfl rfl ?_) rfl rfl ?_; (focus (((rfl)); done)))); refine x_done (by kernel_rfl) (k_bk ?_)))
          all_goals
            refine k_rd (j + 1 + 1, G) ⟨⟨by dsimp only; omega, hg⟩, fun k hk => ?_⟩ (by dsimp only; omega) (by repeat (first | exact trivial | refine ⟨rfl, ?_⟩)) rfl (by repeat (first | exact List.Sublist.refl _ | apply List.Sublist.cons))
            rcases Nat.lt_or_ge k (j + 1) with h1 | h1
            · exact hgood k h1
            · have : k = j + 1 := by dsimp only at hk; omega
              subst this; exact hb
    all_goals
      have hb : goodAt s a i = false := by simp [goodAt, mtOk, e1, e2, e3]
      repeat' (first | (refine run (t := tb) 400 rfl ?_ ?_; (focus (repeat' ((exact trivial))))) | (refine k_op rfl ?_; first | refine v_op (g_ld rfl rfl rfl) rfl rfl ?_ | (refine v_op (g_ldR rfl rfl (by assumption) ?_) rfl rfl ?_; (focus (((omega)); done))) | refine v_op (g_lenL rfl) rfl rfl ?_ | (refine v_op (g_iaddrN rfl rfl ?_) rfl rfl ?_; (focus ((omega); done))) | refine c_al rfl rfl fun _ => ?_ | refine c_stA rfl rfl rfl rfl rfl rfl ?_ | (refine c_fns rfl rfl rfl (cx_lk1 _) rfl ?_; rintro _ G hle ⟨u1, rfl⟩; ((try have sa := Seg.mono sa hle); (try have hg := Gh.le.trans hg hle))) | (refine c_fns rfl rfl rfl (cx_lk2 _) rfl ?_; rintro _ G hle ⟨u2, rfl⟩; ((try have sa := Seg.mono sa hle); (try have hg := Gh.le.trans hg hle)))) | (refine k_tt rfl ?_ ?_; (focus ((first | rfl | (refine decide_eq_true ?_; (omega))); done))) | (refine k_any (s_any (id := 9) _ (fun _ h => h) mixed ?_); refine x_tks (t := tb) (fuel := 25) [0, 1, 2] (bts 28 7) (by kernel_rfl) (by kernel_rfl) rfl rfl (Gh.le.refl _) (by repeat ((exact List.Sublist.refl _))) ?_ ?_; (focus (repeat' ((exact trivial)))); (try (first | (refine Nx.re (d := 49) (v' := Bo true) rfl (congrArg Value.bool ?_) ?_; (focus (((rfl)); done))) | (refine Nx.re (d := 49) (v' := Bo false) rfl (congrArg Value.bool ?_) ?_; (focus (((rfl)); done))))); refine x_tks (t := tb) (fuel := 23) [3, 4] (bts 28 31) (by kernel_rfl) (by kernel_rfl) rfl rfl (Gh.le.refl _) (by repeat ((exact List.Sublist.refl _))) ?_ ?_; (focus (repeat' ((exact trivial)))); (first | (refine (x_tkg (bts 28 63) 5 rfl (by kernel_rfl) rfl (Gh.le.refl _) (by repeat ((exact List.Sublist.refl _)))) (g_pickT rfl rfl ?_) rfl rfl ?_; (focus (((rfl)); done))) | (refine (x_tkg (bts 28 63) 5 rfl (by kernel_rfl) rfl (Gh.le.refl _) (by repeat ((exact List.Sublist.refl _)))) (g_pickF rfl rfl ?_) rfl rfl ?_; (focus (((rfl)); done)))); refine x_tks (t := tb) (fuel := 21) [6] (bts 28 127) (by kernel_rfl) (by kernel_rfl) rfl rfl (Gh.le.refl _) (by repeat ((exact List.Sublist.refl _))) ?_ ?_; (focus (repeat' ((exact trivial)))); (try (first | (refine Nx.re (d := 53) (v' := Bo true) rfl (congrArg Value.bool ?_) ?_; (focus (((rfl)); done))) | (refine Nx.re (d := 53) (v' := Bo false) rfl (congrArg Value.bool ?_) ?_; (focus (((rfl)); done))))); refine x_tks (t := tb) (fuel := 20) [7] (bts 28 255) (by kernel_rfl) (by kernel_rfl) rfl rfl (Gh.le.refl _) (by repeat ((exact List.Sublist.refl _))) ?_ ?_; (focus (repeat' ((exact trivial)))); (first | refine (x_tkg (bts 28 511) 8 rfl (by kernel_rfl) rfl (Gh.le.refl _) (by repeat ((exact List.Sublist.refl _)))) (g_ld rfl rfl rfl) rfl rfl ?_ | refine x_tkn (bts 28 511) 8 rfl (by kernel_rfl) rfl (Gh.le.refl _) (by repeat ((exact List.Sublist.refl _))) rfl rfl ?_); (first | refine x_tkn (bts 28 1023) 9 rfl (by kernel_rfl) rfl (Gh.le.refl _) (by repeat ((exact List.Sublist.refl _))) rfl rfl ?_ | (refine x_all [9] (by kernel_rfl) (by decide) ⟨?_, trivial⟩; refine x_opg rfl rfl ?_; ((refine c_rt rfl rfl rfl (cx_nm2 _) rfl ?_)); refine x_ks (by (exact Gh.le.refl _)) (by repeat ((exact List.Sublist.refl _))) (listed' := (bts 28 1023)) (by kernel_rfl) ?_)); refine x_tks (t := tb) (fuel := 17) [10] (bts 28 2047) (by kernel_rfl) (by kernel_rfl) rfl rfl (Gh.le.refl _) (by repeat ((exact List.Sublist.refl _))) ?_ ?_; (focus (repeat' ((exact trivial)))); (first | (refine (x_tkg (bts 28 4095) 11 rfl (by kernel_rfl) rfl (Gh.le.refl _) (by repeat ((exact List.Sublist.refl _)))) (g_pickT rfl rfl ?_) rfl rfl ?_; (focus (((rfl)); done))) | (refine (x_tkg (bts 28 4095) 11 rfl (by kernel_rfl) rfl (Gh.le.refl _) (by repeat ((exact List.Sublist.refl _)))) (g_pickF rfl rfl ?_) rfl rfl ?_; (focus (((rfl)); done)))); refine x_tks (t := tb) (fuel := 15) [12] (bts 28 8191) (by kernel_rfl) (by kernel_rfl) rfl rfl (Gh.le.refl _) (by repeat ((exact List.Sublist.refl _))) ?_ ?_; (focus (repeat' ((exact trivial)))); (try ((refine Nx.re (d := 59) (v' := Bo true) rfl (congrArg Value.bool ?_) ?_; (focus (((rfl)); done))))); refine x_tks (t := tb) (fuel := 12) [13, 14, 15] (bts 28 65535) (by kernel_rfl) (by kernel_rfl) rfl rfl (Gh.le.refl _) (by repeat ((exact List.Sublist.refl _))) ?_ ?_; (focus (repeat' ((exact trivial)))); (try (fail)); refine x_tks (t := tb) (fuel := 8) [16, 18, 19, 23] (bts 28 9306111) (by kernel_rfl) (by kernel_rfl) rfl rfl (Gh.le.refl _) (by repeat ((exact List.Sublist.refl _))) ?_ ?_; (focus (repeat' ((exact trivial)))); ((refine x_tkn (bts 28 9437183) 17 rfl (by kernel_rfl) rfl (Gh.le.refl _) (by repeat ((exact List.Sublist.refl _))) rfl rfl ?_)); ((refine x_tkn (bts 28 10485759) 20 rfl (by kernel_rfl) rfl (Gh.le.refl _) (by repeat ((exact List.Sublist.refl _))) rfl rfl ?_)); refine x_tks (t := tb) (fuel := 5) [21] (bts 28 12582911) (by kernel_rfl) (by kernel_rfl) rfl rfl (Gh.le.refl _) (by repeat ((exact List.Sublist.refl _))) ?_ ?_; (focus (repeat' ((exact trivial)))); ((refine x_tkn (bts 28 16777215) 22 rfl (by kernel_rfl) rfl (Gh.le.refl _) (by repeat ((exact List.Sublist.refl _))) rfl rfl ?_)); ((refine x_tkn (bts 28 33554431) 24 rfl (by kernel_rfl) rfl (Gh.le.refl _) (by repeat ((exact List.Sublist.refl _))) rfl rfl ?_)); refine x_tks (t := tb) (fuel := 2) [25] (bts 28 67108863) (by kernel_rfl) (by kernel_rfl) rfl rfl (Gh.le.refl _) (by repeat ((exact List.Sublist.refl _))) ?_ ?_; (focus (repeat' ((exact trivial)))); ((refine x_tkn (bts 28 134217727) 26 rfl (by kernel_rfl) rfl (Gh.le.refl _) (by repeat ((exact List.Sublist.refl _))) rfl rfl ?_)); ((refine (x_tkg (bts 28 268435455) 27 rfl (by kernel_rfl) rfl (Gh.le.refl _) (by repeat ((exact List.Sublist.refl _)))) (g_pickT rfl rfl ?_) rfl rfl ?_; (focus (((rfl)); done)))); refine x_done (by kernel_rfl) (k_bk ?_)))
      refine Nx.base hok hB ?_
      refine k_rr (vs := [_]) rfl ⟨rfl, trivial⟩ rfl (List.nil_sublist _) ⟨rfl, rfl, ?_⟩
      rw [oneOf_one, svc_no hi hb]
  · repeat' (first | (refine run (t := tb) 400 rfl ?_ ?_; (focus (repeat' ((exact trivial))))) | (refine k_op rfl ?_; first | refine v_op (g_ld rfl rfl rfl) rfl rfl ?_ | refine v_op (g_lenV rfl (by assumption)) rfl rfl ?_) | (refine k_ff rfl ?_ ?_; (focus (((refine decide_eq_false ?_; (omega))); done))))
    refine Nx.base hok hB ?_
    refine k_rr (vs := [_]) rfl ⟨rfl, trivial⟩ rfl (List.nil_sublist _) ⟨rfl, rfl, ?_⟩
    rw [oneOf_one, svc_yes (by simpa using h1) (by omega) (fun k hk => hgood k (by omega))]
end Go.E
/-! Mu -/
namespace Go.E
set_option maxRecDepth 20000
set_option maxHeartbeats 2000000

open Go.Proofs
variable {G : Gh}
abbrev tSv2 : TypeId := 29
theorem c_ServiceOkI {s : List UInt8} {u : Value} {a : List Mt} (h : s.length ≤ 1048576) (hu : SlV G u 3 a.length (rows mtF a)) (hn : a.length ≤ 1048576) (ha : ∀ x ∈ a, MtL x) :
    PuG Tryd.prog 7 [Ag [S s, u]] G (· = Bo (svcOk s a)) := by
  have hs : s.length ≤ 10000000 := by omega
  refine b_enter (Post := fun v G' L' => G' = G ∧ L' = [] ∧ _) [(0, _)] Tryd.func7 (by kernel_rfl) Tryd.ntmps7 rfl rfl (by repeat (first | exact trivial | refine ⟨rfl, ?_⟩)) fun B hok hB hW => ?_
  repeat' (first | (refine run (t := tb) 400 rfl ?_ ?_; (focus (repeat' ((exact trivial))))) | (refine k_op rfl ?_; first | refine c_bx rfl rfl rfl fun _ => ?_ | refine v_op (g_ld rfl rfl rfl) rfl rfl ?_ | refine v_op (g_lenV rfl (by assumption)) rfl rfl ?_ | (refine v_op (g_pickT rfl rfl ?_) rfl rfl ?_; (focus (((rfl)); done))) | (refine v_op (g_pickF rfl rfl ?_) rfl rfl ?_; (focus (((rfl)); done))) | (refine c_rt rfl rfl rfl (c_SchemaOkI (by omega)) rfl ?_)) | refine k_gb rfl rfl (fun _ => ?_) (fun _ => ?_) | (refine k_tt rfl ?_ ?_; (focus (((rfl)); done))) | refine k_if rfl (fun _ => ?_) (fun _ => ?_))
  · rename_i h1
    refine Nx.base hok hB ?_
    refine k_rr (vs := [_]) rfl ⟨rfl, trivial⟩ rfl (List.nil_sublist _) ⟨rfl, rfl, ?_⟩
    have h2 : (schemaOf s).isSome = false := by simpa using h1
    unfold svcOk; rw [h2]; rfl
  · rename_i h1
    refine Nx.base hok hB ?_
    refine k_rr (vs := [_]) rfl ⟨rfl, trivial⟩ rfl (List.nil_sublist _) ⟨rfl, rfl, ?_⟩
    have h2 : decide (a.length ≤ 6) = false := by simp; omega
    unfold svcOk; rw [h2]; simp
  rename_i x h1 h2
  refine k_loop (ι := Nat × Gh) (fun i => (i.1 ≤ a.length ∧ Gh.le G i.2) ∧ ∀ k, k < i.1 → goodAt s a k = true) (fun i => [(1, Pt x 0), (22, u), (23, I a.length), (24, I i.1)]) (fun i => i.2) (fun i => [.blk x (.cells #[S s, u] tSv2 (0, 0))]) (fun i => a.length - i.1) (0, G) ?_ (by repeat (first | exact trivial | refine ⟨rfl, ?_⟩)) rfl (by repeat ((exact List.Sublist.refl _))) (fun i Hi => ?_)
  · exact ⟨⟨Nat.zero_le _, Gh.le.refl _⟩, fun k hk => absurd hk (by simp)⟩
  obtain ⟨i, G1⟩ := i
  dsimp only at Hi ⊢
  obtain ⟨⟨hi1, hg⟩, hgood⟩ := Hi
  by_cases hi : i < a.length
  · obtain ⟨ba, oa, ca, rfl, sa⟩ := (hu.mono hg).expl (by omega)
    have hx := ha _ (nth_mem hi)
    cases e1 : kindS s (nth a i).2.1 <;> cases e2 : kindS s (nth a i).2.2 <;> cases e3 : isNm (nth a i).1
    all_goals
      have cx_bo1 : ∀ G, FnS Tryd.prog 15 [S s, S (nth a i).2.1] G (fun v _ => ∃ p a' b c, v = Tu [p, Ag [S a', S b, S c], Bo (kindS s (nth a i).2.1)]) := fun G => by
        refine (c_both (G := G) hs (by omega)).mono ?_
        rintro v G' L' ⟨h1, h2, ⟨h3, p, a', b, c, rfl⟩ | ⟨b, qs, rfl, h3, h4, _⟩⟩
        · exact ⟨h1, h2, p, a', b, c, by rw [h3]⟩
        · exact ⟨h1, h2, _, _, _, _, by unfold kindS; rw [h3]; dsimp only; rw [h4]; rfl⟩
      have cx_bo2 : ∀ G, FnS Tryd.prog 15 [S s, S (nth a i).2.2] G (fun v _ => ∃ p a' b c, v = Tu [p, Ag [S a', S b, S c], Bo (kindS s (nth a i).2.2)]) := fun G => by
        refine (c_both (G := G) hs (by omega)).mono ?_
        rintro v G' L' ⟨h1, h2, ⟨h3, p, a', b, c, rfl⟩ | ⟨b, qs, rfl, h3, h4, _⟩⟩
        · exact ⟨h1, h2, p, a', b, c, by rw [h3]⟩
        · exact ⟨h1, h2, _, _, _, _, by unfold kindS; rw [h3]; dsimp only; rw [h4]; rfl⟩
      have cx_nm2 : ∀ G, PuG Tryd.prog 16 [S (nth a i).1] G (· = Bo (isNm (nth a i).1)) := fun G => c_isName (by omega)
      rw [e1] at cx_bo1
      rw [e2] at cx_bo2
      rw [e3] at cx_nm2
    case true.true.true =>
      rcases i with _ | j
      · repeat' (first | (refine run (t := tb) 400 rfl ?_ ?_; (focus (repeat' (first | exact trivial | apply And.intro | omega)))) | (refine k_op rfl ?_; first | refine v_op (g_ld rfl rfl rfl) rfl rfl ?_ | (refine v_op (g_ldR rfl rfl (by assumption) ?_) rfl rfl ?_; (focus (((omega)); done))) | (refine v_op (g_iaddrN rfl rfl ?_) rfl rfl ?_; (focus ((omega); done))) | refine c_al rfl rfl fun _ => ?_ | refine c_stA rfl rfl rfl rfl rfl rfl ?_ | (refine c_fns rfl rfl rfl (cx_bo1 _) rfl ?_; rintro _ G hle ⟨p1, a1, b1, c1, rfl⟩; ((try have sa := Seg.mono sa hle); (try have hg := Gh.le.trans hg hle))) | (refine c_fns rfl rfl rfl (cx_bo2 _) rfl ?_; rintro _ G hle ⟨p2, a2, b2, c2, rfl⟩; ((try have sa := Seg.mono sa hle); (try have hg := Gh.le.trans hg hle)))) | (refine k_tt rfl ?_ ?_; (focus (((refine decide_eq_true ?_; (omega))); done))) | (refine k_ff rfl ?_ ?_; (focus (((rfl)); done))) | (refine k_any (s_any (id := 8) _ (fun _ h => h) mixed ?_); refine x_tks (t := tb) (fuel := 25) [0, 1, 2] (bts 28 7) (by kernel_rfl) (by kernel_rfl) rfl rfl (Gh.le.refl _) (by repeat ((exact List.Sublist.refl _))) ?_ ?_; (focus (repeat' ((exact trivial)))); (try ((refine Nx.re (d := 49) (v' := Bo false) rfl (congrArg Value.bool ?_) ?_; (focus (((rfl)); done))))); refine x_tks (t := tb) (fuel := 23) [3, 4] (bts 28 31) (by kernel_rfl) (by kernel_rfl) rfl rfl (Gh.le.refl _) (by repeat ((exact List.Sublist.refl _))) ?_ ?_; (focus (repeat' ((exact trivial)))); ((refine (x_tkg (bts 28 63) 5 rfl (by kernel_rfl) rfl (Gh.le.refl _) (by repeat ((exact List.Sublist.refl _)))) (g_pickF rfl rfl ?_) rfl rfl ?_; (focus (((rfl)); done)))); refine x_tks (t := tb) (fuel := 21) [6] (bts 28 127) (by kernel_rfl) (by kernel_rfl) rfl rfl (Gh.le.refl _) (by repeat ((exact List.Sublist.refl _))) ?_ ?_; (focus (repeat' ((exact trivial)))); (try ((refine Nx.re (d := 53) (v' := Bo false) rfl (congrArg Value.bool ?_) ?_; (focus (((rfl)); done))))); refine x_tks (t := tb) (fuel := 20) [7] (bts 28 255) (by kernel_rfl) (by kernel_rfl) rfl rfl (Gh.le.refl _) (by repeat ((exact List.Sublist.refl _))) ?_ ?_; (focus (repeat' ((exact trivial)))); ((refine (x_tkg (bts 28 511) 8 rfl (by kernel_rfl) rfl (Gh.le.refl _) (by repeat ((exact List.Sublist.refl _)))) (g_ld rfl rfl rfl) rfl rfl ?_)); ((refine x_all [9] (by kernel_rfl) (by decide) ⟨?_, trivial⟩; refine x_opg rfl rfl ?_; ((refine c_rt rfl rfl rfl (cx_nm2 _) rfl ?_)); refine x_ks (by (exact Gh.le.refl _)) (by repeat ((exact List.Sublist.refl _))) (listed' := (bts 28 1023)) (by kernel_rfl) ?_)); refine x_tks (t := tb) (fuel := 17) [10] (bts 28 2047) (by kernel_rfl) (by kernel_rfl) rfl rfl (Gh.le.refl _) (by repeat ((exact List.Sublist.refl _))) ?_ ?_; (focus (repeat' ((exact trivial)))); ((refine (x_tkg (bts 28 4095) 11 rfl (by kernel_rfl) rfl (Gh.le.refl _) (by repeat ((exact List.Sublist.refl _)))) (g_pickF rfl rfl ?_) rfl rfl ?_; (focus (((rfl)); done)))); refine x_tks (t := tb) (fuel := 15) [12] (bts 28 8191) (by kernel_rfl) (by kernel_rfl) rfl rfl (Gh.le.refl _) (by repeat ((exact List.Sublist.refl _))) ?_ ?_; (focus (repeat' ((exact trivial)))); (try ((refine Nx.re (d := 59) (v' := Bo false) rfl (congrArg Value.bool ?_) ?_; (focus (((rfl)); done))))); refine x_tks (t := tb) (fuel := 12) [13, 14, 15] (bts 28 65535) (by kernel_rfl) (by kernel_rfl) rfl rfl (Gh.le.refl _) (by repeat ((exact List.Sublist.refl _))) ?_ ?_; (focus (repeat' ((exact trivial)))); (try ((refine Nx.re (d := 62) (v' := Bo false) rfl (congrArg Value.bool ?_) ?_; (focus (((rfl)); done))))); refine x_tks (t := tb) (fuel := 8) [16, 18, 19, 23] (bts 28 9306111) (by kernel_rfl) (by kernel_rfl) rfl rfl (Gh.le.refl _) (by repeat ((exact List.Sublist.refl _))) ?_ ?_; (focus (repeat' ((exact trivial)))); ((refine x_tkn (bts 28 9437183) 17 rfl (by kernel_rfl) rfl (Gh.le.refl _) (by repeat ((exact List.Sublist.refl _))) rfl rfl ?_)); ((refine x_tkn (bts 28 10485759) 20 rfl (by kernel_rfl) rfl (Gh.le.refl _) (by repeat ((exact List.Sublist.refl _))) rfl rfl ?_)); refine x_tks (t := tb) (fuel := 5) [21] (bts 28 12582911) (by kernel_rfl) (by kernel_rfl) rfl rfl (Gh.le.refl _) (by repeat ((exact List.Sublist.refl _))) ?_ ?_; (focus (repeat' ((exact trivial)))); ((refine x_tkn (bts 28 16777215) 22 rfl (by kernel_rfl) rfl (Gh.le.refl _) (by repeat ((exact List.Sublist.refl _))) rfl rfl ?_)); ((refine x_tkn (bts 28 33554431) 24 rfl (by kernel_rfl) rfl (Gh.le.refl _) (by repeat ((exact List.Sublist.refl _))) rfl rfl ?_)); refine x_tks (t := tb) (fuel := 2) [25] (bts 28 67108863) (by kernel_rfl) (by kernel_rfl) rfl rfl (Gh.le.refl _) (by repeat ((exact List.Sublist.refl _))) ?_ ?_; (focus (repeat' ((exact trivial)))); ((refine (x_tkg (bts 28 134217727) 26 rfl (by kernel_rfl) rfl (Gh.le.refl _) (by repeat ((exact List.Sublist.refl _)))) (g_pickF rfl rfl ?_) rfl rfl ?_; (focus (((rfl)); done)))); ((refine (x_tkg (bts 28 268435455) 27 rfl (by kernel_rfl) rfl (Gh.le.refl _) (by repeat ((exact List.Sublist.refl _)))) (g_pickF rfl rfl ?_) rfl rfl ?_; (focus (((rfl)); done)))); refine x_done (by kernel_rfl) (k_bk ?_)))
        refine k_rd (1, G) ⟨⟨by dsimp only; omega, hg⟩, fun k hk => ?_⟩ (by dsimp only; omega) (by repeat (first | exact trivial | refine ⟨rfl, ?_⟩)) rfl (by repeat (first | exact List.Sublist.refl _ | apply List.Sublist.cons))
        have : k = 0 := by dsimp only at hk; omega
        subst this
        simp [goodAt, mtOk, e1, e2, e3]
      · have ej : ((((j + 1 : Nat) : Int) - 1).toNat) = j := by omega
        cases e5 : Op.bytesLess (nth a j).1 (nth a (j + 1)).1
        · have hb : goodAt s a (j + 1) = false := by simp [goodAt, e5]
          have e6 : Op.bytesLess (nth a (((j + 1 : Nat) : Int) - 1).toNat).1 (nth a (j + 1)).1 = false := by rw [ej]; exact e5
          repeat' (first | (refine run (t := tb) 400 rfl ?_ ?_; (focus (repeat' ((exact trivial))))) | (refine k_op rfl ?_; first | refine v_op (g_ld rfl rfl rfl) rfl rfl ?_ | (refine v_op (g_ldR rfl rfl (by assumption) ?_) rfl rfl ?_; (focus (((omega)); done))) | (refine v_op (g_iaddrN rfl rfl ?_) rfl rfl ?_; (focus ((omega); done))) | refine c_al rfl rfl fun _ => ?_ | refine c_stA rfl rfl rfl rfl rfl rfl ?_ | (refine c_fns rfl rfl rfl (cx_bo1 _) rfl ?_; rintro _ G hle ⟨p1, a1, b1, c1, rfl⟩; ((try have sa := Seg.mono sa hle); (try have hg := Gh.le.trans hg hle))) | (refine c_fns rfl rfl rfl (cx_bo2 _) rfl ?_; rintro _ G hle ⟨p2, a2, b2, c2, rfl⟩; ((try have sa := Seg.mono sa hle); (try have hg := Gh.le.trans hg hle)))) | (refine k_tt rfl ?_ ?_; (focus ((first | (refine decide_eq_true ?_; (omega)) | (simp [*]; done)); done))) | (refine k_any (s_any (id := 8) _ (fun _ h => h) mixed ?_); refine x_tks (t := tb) (fuel := 25) [0, 1, 2] (bts 28 7) (by kernel_rfl) (by kernel_rfl) rfl rfl (Gh.le.refl _) (by repeat ((exact List.Sublist.refl _))) ?_ ?_; (focus (repeat' ((exact trivial)))); (try ((refine Nx.re (d := 49) (v' := Bo false) rfl (congrArg Value.bool ?_) ?_; (focus (((rfl)); done))))); refine x_tks (t := tb) (fuel := 23) [3, 4] (bts 28 31) (by kernel_rfl) (by kernel_rfl) rfl rfl (Gh.le.refl _) (by repeat ((exact List.Sublist.refl _))) ?_ ?_; (focus (repeat' ((exact trivial)))); ((refine (x_tkg (bts 28 63) 5 rfl (by kernel_rfl) rfl (Gh.le.refl _) (by repeat ((exact List.Sublist.refl _)))) (g_pickF rfl rfl ?_) rfl rfl ?_; (focus (((rfl)); done)))); refine x_tks (t := tb) (fuel := 21) [6] (bts 28 127) (by kernel_rfl) (by kernel_rfl) rfl rfl (Gh.le.refl _) (by repeat ((exact List.Sublist.refl _))) ?_ ?_; (focus (repeat' ((exact trivial)))); (try ((refine Nx.re (d := 53) (v' := Bo false) rfl (congrArg Value.bool ?_) ?_; (focus (((rfl)); done))))); refine x_tks (t := tb) (fuel := 20) [7] (bts 28 255) (by kernel_rfl) (by kernel_rfl) rfl rfl (Gh.le.refl _) (by repeat ((exact List.Sublist.refl _))) ?_ ?_; (focus (repeat' ((exact trivial)))); ((refine (x_tkg (bts 28 511) 8 rfl (by kernel_rfl) rfl (Gh.le.refl _) (by repeat ((exact List.Sublist.refl _)))) (g_ld rfl rfl rfl) rfl rfl ?_)); ((refine x_all [9] (by kernel_rfl) (by decide) ⟨?_, trivial⟩; refine x_opg rfl rfl ?_; ((refine c_rt rfl rfl rfl (cx_nm2 _) rfl ?_)); refine x_ks (by (exact Gh.le.refl _)) (by repeat ((exact List.Sublist.refl _))) (listed' := (bts 28 1023)) (by kernel_rfl) ?_)); refine x_tks (t := tb) (fuel := 17) [10] (bts 28 2047) (by kernel_rfl) (by kernel_rfl) rfl rfl (Gh.le.refl _) (by repeat ((exact List.Sublist.refl _))) ?_ ?_; (focus (repeat' ((exact trivial)))); ((refine (x_tkg (bts 28 4095) 11 rfl (by kernel_rfl) rfl (Gh.le.refl _) (by repeat ((exact List.Sublist.refl _)))) (g_pickF rfl rfl ?_) rfl rfl ?_; (focus (((rfl)); done)))); refine x_tks (t := tb) (fuel := 15) [12] (bts 28 8191) (by kernel_rfl) (by kernel_rfl) rfl rfl (Gh.le.refl _) (by repeat ((exact List.Sublist.refl _))) ?_ ?_; (focus (repeat' ((exact trivial)))); (try ((refine Nx.re (d := 59) (v' := Bo false) rfl (congrArg Value.bool ?_) ?_; (focus (((rfl)); done))))); refine x_tks (t := tb) (fuel := 12) [13, 14, 15] (bts 28 65535) (by kernel_rfl) (by kernel_rfl) rfl rfl (Gh.le.refl _) (by repeat ((exact List.Sublist.refl _))) ?_ ?_; (focus (repeat' ((exact trivial)))); (try ((refine Nx.re (d := 62) (v' := Bo true) rfl (congrArg Value.bool ?_) ?_; (focus (((refine decide_eq_true ?_; (omega))); done))))); refine x_tks (t := tb) (fuel := 8) [16, 18, 19, 23] (bts 28 9306111) (by kernel_rfl) (by kernel_rfl) rfl rfl (Gh.le.refl _) (by repeat ((exact List.Sublist.refl _))) ?_ ?_; (focus (repeat' (first | exact trivial | apply And.intro | omega))); ((refine (x_tkg (bts 28 9437183) 17 rfl (by kernel_rfl) rfl (Gh.le.refl _) (by repeat ((exact List.Sublist.refl _)))) (g_ld rfl rfl rfl) rfl rfl ?_)); ((refine (x_tkg (bts 28 10485759) 20 rfl (by kernel_rfl) rfl (Gh.le.refl _) (by repeat ((exact List.Sublist.refl _)))) (g_iaddr rfl rfl ?_) rfl rfl ?_; (focus ((omega); done)))); refine x_tks (t := tb) (fuel := 5) [21] (bts 28 12582911) (by kernel_rfl) (by kernel_rfl) rfl rfl (Gh.le.refl _) (by repeat ((exact List.Sublist.refl _))) ?_ ?_; (focus (repeat' ((exact trivial)))); ((refine (x_tkg (bts 28 16777215) 22 rfl (by kernel_rfl) rfl (Gh.le.refl _) (by repeat ((exact List.Sublist.refl _)))) (g_ldRF rfl rfl (by assumption) ?_ rfl rfl) rfl rfl ?_; (focus (((omega)); done)))); ((refine (x_tkg (bts 28 33554431) 24 rfl (by kernel_rfl) rfl (Gh.le.refl _) (by repeat ((exact List.Sublist.refl _)))) (g_ld rfl rfl rfl) rfl rfl ?_)); refine x_tks (t := tb) (fuel := 2) [25] (bts 28 67108863) (by kernel_rfl) (by kernel_rfl) rfl rfl (Gh.le.refl _) (by repeat ((exact List.Sublist.refl _))) ?_ ?_; (focus (repeat' ((exact trivial)))); ((refine (x_tkg (bts 28 134217727) 26 rfl (by kernel_rfl) rfl (Gh.le.refl _) (by repeat ((exact List.Sublist.refl _)))) (g_pickT rfl rfl ?_) rfl rfl ?_; (focus (((rfl)); done)))); ((refine (x_tkg (bts 28 268435455) 27 rfl (by kernel_rfl) rfl (Gh.le.refl _) (by repeat ((exact List.Sublist.refl _)))) (g_pickF rfl rfl ?_) rfl rfl ?_; (focus (((rfl)); done)))); refine x_done (by kernel_rfl) (k_bk ?_)))
          all_goals refine Nx.base hok hB ?_
          all_goals refine k_rr (vs := [_]) rfl ⟨rfl, trivial⟩ rfl (List.nil_sublist _) ⟨rfl, rfl, ?_⟩
          all_goals rw [oneOf_one, svc_no hi hb]
        · have hb : goodAt s a (j + 1) = true := by simp [goodAt, mtOk, e1, e2, e3, e5]
          have e6 : Op.bytesLess (nth a (((j + 1 : Nat) : Int) - 1).toNat).1 (nth a (j + 1)).1 = true := by rw [ej]; exact e5
          repeat' (first | (refine run (t := tb) 400 rfl ?_ ?_; (focus (repeat' (first | exact trivial | apply And.intro | omega)))) | (refine k_op rfl ?_; first | refine v_op (g_ld rfl rfl rfl) rfl rfl ?_ | (refine v_op (g_ldR rfl rfl (by assumption) ?_) rfl rfl ?_; (focus (((omega)); done))) | (refine v_op (g_iaddrN rfl rfl ?_) rfl rfl ?_; (focus ((omega); done))) | refine c_al rfl rfl fun _ => ?_ | refine c_stA rfl rfl rfl rfl rfl rfl ?_ | (refine c_fns rfl rfl rfl (cx_bo1 _) rfl ?_; rintro _ G hle ⟨p1, a1, b1, c1, rfl⟩; ((try have sa := Seg.mono sa hle); (try have hg := Gh.le.trans hg hle))) | (refine c_fns rfl rfl rfl (cx_bo2 _) rfl ?_; rintro _ G hle ⟨p2, a2, b2, c2, rfl⟩; ((try have sa := Seg.mono sa hle); (try have hg := Gh.le.trans hg hle)))) | (refine k_tt rfl ?_ ?_; (focus (((refine decide_eq_true ?_; (omega))); done))) | (refine k_ff rfl ?_ ?_; (focus (((simp [*]; done)); done))) | (refine k_any (s_any (id := 8) _ (fun _ h => h) mixed ?_); refine x_tks (t := tb) (fuel := 25) [0, 1, 2] (bts 28 7) (by kernel_rfl) (by kernel_rfl) rfl rfl (Gh.le.refl _) (by repeat ((exact List.Sublist.refl _))) ?_ ?_; (focus (repeat' ((exact trivial)))); (try ((refine Nx.re (d := 49) (v' := Bo false) rfl (congrArg Value.bool ?_) ?_; (focus (((rfl)); done))))); refine x_tks (t := tb) (fuel := 23) [3, 4] (bts 28 31) (by kernel_rfl) (by kernel_rfl) rfl rfl (Gh.le.refl _) (by repeat ((exact List.Sublist.refl _))) ?_ ?_; (focus (repeat' ((exact trivial)))); ((refine (x_tkg (bts 28 63) 5 rfl (by kernel_rfl) rfl (Gh.le.refl _) (by repeat ((exact List.Sublist.refl _)))) (g_pickF rfl rfl ?_) rfl rfl ?_; (focus (((rfl)); done)))); refine x_tks (t := tb) (fuel := 21) [6] (bts 28 127) (by kernel_rfl) (by kernel_rfl) rfl rfl (Gh.le.refl _) (by repeat ((exact List.Sublist.refl _))) ?_ ?_; (focus (repeat' ((exact trivial)))); (try ((refine Nx.re (d := 53) (v' := Bo false) rfl (congrArg Value.bool ?_) ?_; (focus (((rfl)); done))))); refine x_tks (t := tb) (fuel := 20) [7] (bts 28 255) (by kernel_rfl) (by kernel_rfl) rfl rfl (Gh.le.refl _) (by repeat ((exact List.Sublist.refl _))) ?_ ?_; (focus (repeat' ((exact trivial)))); ((refine (x_tkg (bts 28 511) 8 rfl (by kernel_rfl) rfl (Gh.le.refl _) (by repeat ((exact List.Sublist.refl _)))) (g_ld rfl rfl rfl) rfl rfl ?_)); ((refine x_all [9] (by kernel_rfl) (by decide) ⟨?_, trivial⟩; refine x_opg rfl rfl ?_; ((refine c_rt rfl rfl rfl (cx_nm2 _) rfl ?_)); refine x_ks (by (exact Gh.le.refl _)) (by repeat ((exact List.Sublist.refl _))) (listed' := (bts 28 1023)) (by kernel_rfl) ?_)); refine x_tks (t := tb) (fuel := 17) [10] (bts 28 2047) (by kernel_rfl) (by kernel_rfl) rfl rfl (Gh.le.refl _) (by repeat ((exact List.Sublist.refl _))) ?_ ?_; (focus (repeat' ((exact trivial)))); ((refine (x_tkg (bts 28 4095) 11 rfl (by kernel_rfl) rfl (Gh.le.refl _) (by repeat ((exact List.Sublist.refl _)))) (g_pickF rfl rfl ?_) rfl rfl ?_; (focus (((rfl)); done)))); refine x_tks (t := tb) (fuel := 15) [12] (bts 28 8191) (by kernel_rfl) (by kernel_rfl) rfl rfl (Gh.le.refl _) (by repeat ((exact List.Sublist.refl _))) ?_ ?_; (focus (repeat' ((exact trivial)))); (try ((refine Nx.re (d := 59) (v' := Bo false) rfl (congrArg Value.bool ?_) ?_; (focus (((rfl)); done))))); refine x_tks (t := tb) (fuel := 12) [13, 14, 15] (bts 28 65535) (by kernel_rfl) (by kernel_rfl) rfl rfl (Gh.le.refl _) (by repeat ((exact List.Sublist.refl _))) ?_ ?_; (focus (repeat' ((exact trivial)))); (try ((refine Nx.re (d := 62) (v' := Bo true) rfl (congrArg Value.bool ?_) ?_; (focus (((refine decide_eq_true ?_; (omega))); done))))); refine x_tks (t := tb) (fuel := 8) [16, 18, 19, 23] (bts 28 9306111) (by kernel_rfl) (by kernel_rfl) rfl rfl (Gh.le.refl _) (by repeat ((exact List.Sublist.refl _))) ?_ ?_; (focus (repeat' (first | exact trivial | apply And.intro | omega))); ((refine (x_tkg (bts 28 9437183) 17 rfl (by kernel_rfl) rfl (Gh.le.refl _) (by repeat ((exact List.Sublist.refl _)))) (g_ld rfl rfl rfl) rfl rfl ?_)); ((refine (x_tkg (bts 28 10485759) 20 rfl (by kernel_rfl) rfl (Gh.le.refl _) (by repeat ((exact List.Sublist.refl _)))) (g_iaddr rfl rfl ?_) rfl rfl ?_; (focus ((omega); done)))); refine x_tks (t := tb) (fuel := 5) [21] (bts 28 12582911) (by kernel_rfl) (by kernel_rfl) rfl rfl (Gh.le.refl _) (by repeat ((exact List.Sublist.refl _))) ?_ ?_; (focus (repeat' ((exact trivial)))); ((refine (x_tkg (bts 28 16777215) 22 rfl (by kernel_rfl) rfl (Gh.le.refl _) (by repeat ((exact List.Sublist.refl _)))) (g_ldRF rfl rfl (by assumption) ?_ rfl rfl) rfl rfl ?_; (focus (((omega)); done)))); ((refine (x_tkg (bts 28 33554431) 24 rfl (by kernel_rfl) rfl (Gh.le.refl _) (by repeat ((exact List.Sublist.refl _)))) (g_ld rfl rfl rfl) rfl rfl ?_)); refine x_tks (t := tb) (fuel := 2) [25] (bts 28 67108863) (by kernel_rfl) (by kernel_rfl) rfl rfl (Gh.le.refl _) (by repeat ((exact List.Sublist.refl _))) ?_ ?_; (focus (repeat' ((exact trivial)))); ((refine (x_tkg (bts 28 134217727) 26 rfl (by kernel_rfl) rfl (Gh.le.refl _) (by repeat ((exact List.Sublist.refl _)))) (g_pickT rfl rfl ?_) rfl rfl ?_; (focus (((rfl)); done)))); ((refine (x_tkg (bts 28 268435455) 27 rfl (by kernel_rfl) rfl (Gh.le.refl _) (by repeat ((exact List.Sublist.refl _)))) (g_pickF rfl rfl ?_) rfl rfl ?_; (focus (((rfl)); done)))); refine x_done (by kernel_rfl) (k_bk ?_)))
          all_goals
            refine k_rd (j + 1 + 1, G) ⟨⟨by dsimp only; omega, hg⟩, fun k hk => ?_⟩ (by dsimp only; omega) (by repeat (first | exact trivial | refine ⟨rfl, ?_⟩)) rfl (by repeat (first | exact List.Sublist.refl _ | apply List.Sublist.cons))
            rcases Nat.lt_or_ge k (j + 1) with h1 | h1
            · exact hgood k h1
            · have : k = j + 1 := by dsimp only at hk; omega
              subst this; exact hb
    all_goals
      have hb : goodAt s a i = false := by simp [goodAt, mtOk, e1, e2, e3]
      repeat' (first | (refine run (t := tb) 400 rfl ?_ ?_; (focus (repeat' ((exact trivial))))) | (refine k_op rfl ?_; first | refine v_op (g_ld rfl rfl rfl) rfl rfl ?_ | (refine v_op (g_ldR rfl rfl (by assumption) ?_) rfl rfl ?_; (focus (((omega)); done))) | (refine v_op (g_iaddrN rfl rfl ?_) rfl rfl ?_; (focus ((omega); done))) | refine c_al rfl rfl fun _ => ?_ | refine c_stA rfl rfl rfl rfl rfl rfl ?_ | (refine c_fns rfl rfl rfl (cx_bo1 _) rfl ?_; rintro _ G hle ⟨p1, a1, b1, c1, rfl⟩; ((try have sa := Seg.mono sa hle); (try have hg := Gh.le.trans hg hle))) | (refine c_fns rfl rfl rfl (cx_bo2 _) rfl ?_; rintro _ G hle ⟨p2, a2, b2, c2, rfl⟩; ((try have sa := Seg.mono sa hle); (try have hg := Gh.le.trans hg hle)))) | (refine k_tt rfl ?_ ?_; (focus ((first | rfl | (refine decide_eq_true ?_; (omega))); done))) | (refine k_any (s_any (id := 8) _ (fun _ h => h) mixed ?_); refine x_tks (t := tb) (fuel := 25) [0, 1, 2] (bts 28 7) (by kernel_rfl) (by kernel_rfl) rfl rfl (Gh.le.refl _) (by repeat ((exact List.Sublist.refl _))) ?_ ?_; (focus (repeat' ((exact trivial)))); (try (first | (refine Nx.re (d := 49) (v' := Bo true) rfl (congrArg Value.bool ?_) ?_; (focus (((rfl)); done))) | (refine Nx.re (d := 49) (v' := Bo false) rfl (congrArg Value.bool ?_) ?_; (focus (((rfl)); done))))); refine x_tks (t := tb) (fuel := 23) [3, 4] (bts 28 31) (by kernel_rfl) (by kernel_rfl) rfl rfl (Gh.le.refl _) (by repeat ((exact List.Sublist.refl _))) ?_ ?_; (focus (repeat' ((exact trivial)))); (first | (refine (x_tkg (bts 28 63) 5 rfl (by kernel_rfl) rfl (Gh.le.refl _) (by repeat ((exact List.Sublist.refl _)))) (g_pickT rfl rfl ?_) rfl rfl ?_; (focus (((rfl)); done))) | (refine (x_tkg (bts 28 63) 5 rfl (by kernel_rfl) rfl (Gh.le.refl _) (by repeat ((exact List.Sublist.refl _)))) (g_pickF rfl rfl ?_) rfl rfl ?_; (focus (((rfl)); done)))); refine x_tks (t := tb) (fuel := 21) [6] (bts 28 127) (by kernel_rfl) (by kernel_rfl) rfl rfl (Gh.le.refl _) (by repeat ((exact List.Sublist.refl _))) ?_ ?_; (focus (repeat' ((exact trivial)))); (try (first | (refine Nx.re (d := 53) (v' := Bo true) rfl (congrArg Value.bool ?_) ?_; (focus (((rfl)); done))) | (refine Nx.re (d := 53) (v' := Bo false) rfl (congrArg Value.bool ?_) ?_; (focus (((rfl)); done))))); refine x_tks (t := tb) (fuel := 20) [7] (bts 28 255) (by kernel_rfl) (by kernel_rfl) rfl rfl (Gh.le.refl _) (by repeat ((exact List.Sublist.refl _))) ?_ ?_; (focus (repeat' ((exact trivial)))); (first | refine (x_tkg (bts 28 511) 8 rfl (by kernel_rfl) rfl (Gh.le.refl _) (by repeat ((exact List.Sublist.refl _)))) (g_ld rfl rfl rfl) rfl rfl ?_ | refine x_tkn (bts 28 511) 8 rfl (by kernel_rfl) rfl (Gh.le.refl _) (by repeat ((exact List.Sublist.refl _))) rfl rfl ?_); (first | refine x_tkn (bts 28 1023) 9 rfl (by kernel_rfl) rfl (Gh.le.refl _) (by repeat ((exact List.Sublist.refl _))) rfl rfl ?_ | (refine x_all [9] (by kernel_rfl) (by decide) ⟨?_, trivial⟩; refine x_opg rfl rfl ?_; ((refine c_rt rfl rfl rfl (cx_nm2 _) rfl ?_)); refine x_ks (by (exact Gh.le.refl _)) (by repeat ((exact List.Sublist.refl _))) (listed' := (bts 28 1023)) (by kernel_rfl) ?_)); refine x_tks (t := tb) (fuel := 17) [10] (bts 28 2047) (by kernel_rfl) (by kernel_rfl) rfl rfl (Gh.le.refl _) (by repeat ((exact List.Sublist.refl _))) ?_ ?_; (focus (repeat' ((exact trivial)))); (first | (refine (x_tkg (bts 28 4095) 11 rfl (by kernel_rfl) rfl (Gh.le.refl _) (by repeat ((exact List.Sublist.refl _)))) (g_pickT rfl rfl ?_) rfl rfl ?_; (focus (((rfl)); done))) | (refine (x_tkg (bts 28 4095) 11 rfl (by kernel_rfl) rfl (Gh.le.refl _) (by repeat ((exact List.Sublist.refl _)))) (g_pickF rfl rfl ?_) rfl rfl ?_; (focus (((rfl)); done)))); refine x_tks (t := tb) (fuel := 15) [12] (bts 28 8191) (by kernel_rfl) (by kernel_rfl) rfl rfl (Gh.le.refl _) (by repeat ((exact List.Sublist.refl _))) ?_ ?_; (focus (repeat' ((exact trivial)))); (try ((refine Nx.re (d := 59) (v' := Bo true) rfl (congrArg Value.bool ?_) ?_; (focus (((rfl)); done))))); refine x_tks (t := tb) (fuel := 12) [13, 14, 15] (bts 28 65535) (by kernel_rfl) (by kernel_rfl) rfl rfl (Gh.le.refl _) (by repeat ((exact List.Sublist.refl _))) ?_ ?_; (focus (repeat' ((exact trivial)))); (try (fail)); refine x_tks (t := tb) (fuel := 8) [16, 18, 19, 23] (bts 28 9306111) (by kernel_rfl) (by kernel_rfl) rfl rfl (Gh.le.refl _) (by repeat ((exact List.Sublist.refl _))) ?_ ?_; (focus (repeat' ((exact trivial)))); ((refine x_tkn (bts 28 9437183) 17 rfl (by kernel_rfl) rfl (Gh.le.refl _) (by repeat ((exact List.Sublist.refl _))) rfl rfl ?_)); ((refine x_tkn (bts 28 10485759) 20 rfl (by kernel_rfl) rfl (Gh.le.refl _) (by repeat ((exact List.Sublist.refl _))) rfl rfl ?_)); refine x_tks (t := tb) (fuel := 5) [21] (bts 28 12582911) (by kernel_rfl) (by kernel_rfl) rfl rfl (Gh.le.refl _) (by repeat ((exact List.Sublist.refl _))) ?_ ?_; (focus (repeat' ((exact trivial)))); ((refine x_tkn (bts 28 16777215) 22 rfl (by kernel_rfl) rfl (Gh.le.refl _) (by repeat ((exact List.Sublist.refl _))) rfl rfl ?_)); ((refine x_tkn (bts 28 33554431) 24 rfl (by kernel_rfl) rfl (Gh.le.refl _) (by repeat ((exact List.Sublist.refl _))) rfl rfl ?_)); refine x_tks (t := tb) (fuel := 2) [25] (bts 28 67108863) (by kernel_rfl) (by kernel_rfl) rfl rfl (Gh.le.refl _) (by repeat ((exact List.Sublist.refl _))) ?_ ?_; (focus (repeat' ((exact trivial)))); ((refine x_tkn (bts 28 134217727) 26 rfl (by kernel_rfl) rfl (Gh.le.refl _) (by repeat ((exact List.Sublist.refl _))) rfl rfl ?_)); ((refine (x_tkg (bts 28 268435455) 27 rfl (by kernel_rfl) rfl (Gh.le.refl _) (by repeat ((exact List.Sublist.refl _)))) (g_pickT rfl rfl ?_) rfl rfl ?_; (focus (((rfl)); done)))); refine x_done (by kernel_rfl) (k_bk ?_)))
      refine Nx.base hok hB ?_
      refine k_rr (vs := [_]) rfl ⟨rfl, trivial⟩ rfl (List.nil_sublist _) ⟨rfl, rfl, ?_⟩
      rw [oneOf_one, svc_no hi hb]
  · repeat' (first | (refine run (t := tb) 400 rfl ?_ ?_; (focus (repeat' ((exact trivial))))) | (refine k_ff rfl ?_ ?_; (focus (((refine decide_eq_false ?_; (omega))); done))))
    refine Nx.base hok hB ?_
    refine k_rr (vs := [_]) rfl ⟨rfl, trivial⟩ rfl (List.nil_sublist _) ⟨rfl, rfl, ?_⟩
    rw [oneOf_one, svc_yes (by simpa using h1) (by omega) (fun k hk => hgood k (by omega))]
end Go.E
/-! Mv -/
namespace Go.E
set_option maxRecDepth 20000
set_option maxHeartbeats 2000000

open Go.Proofs
variable {G : Gh}
theorem c_FnExactServiceOk {s : List UInt8} {u : Value} {a : List Mt} (hu : SlV G u 3 a.length (rows mtF a)) (h : s.length ≤ 9223372036854775807 ∧ a.length ≤ 9223372036854775807) (ha : ∀ x ∈ a, MtW x) :
    PuG Tryd.prog 3 [Ag [S s, u]] G (· = Bo true) := by
  have hsz := c_szService (G := G) (z := 1048576) ⟨⟨by omega, by omega⟩, h.1, h.2⟩ hu ha
  refine b_enter (Post := fun v G' L' => G' = G ∧ L' = [] ∧ _) [(0, _)] Tryd.func3 (by kernel_rfl) Tryd.ntmps3 rfl rfl (by repeat (first | exact trivial | refine ⟨rfl, ?_⟩)) fun B hok hB hW => ?_
  repeat' (first | (refine run (t := tb) 400 rfl ?_ ?_; (focus (repeat' ((exact trivial))))) | (refine k_op rfl ?_; first | refine c_bx rfl rfl rfl fun _ => ?_ | refine v_op (g_ldA rfl rfl rfl rfl) rfl rfl ?_ | refine c_al rfl rfl fun _ => ?_ | refine c_stA rfl rfl rfl rfl rfl rfl ?_ | (refine c_pu rfl rfl rfl (c_szService ?_ (by (repeat ((assumption))); done) (by (repeat ((assumption))); done)) rfl ?_; (focus (((omega)); done)); rintro _ (rfl | ⟨z, rfl, hz1, hz2⟩)) | (refine c_fns rfl rfl rfl (c_toService (by (repeat (first | assumption | refine SlV.mono ?_ (by assumption))); done) (by omega)) rfl ?_; rintro _ G hle ⟨u, rfl, hsl⟩; (try obtain ⟨_, _, rfl⟩ := hsl.sl)) | (refine c_rt rfl rfl rfl (c_ServiceOkS (by omega) (by (repeat ((assumption))); done) (by omega) (by (repeat ((assumption))); done)) rfl ?_) | (refine c_rt rfl rfl rfl (c_ServiceOkI (by omega) (by (repeat ((assumption))); done) (by omega) (by (repeat ((assumption))); done)) rfl ?_)) | (refine k_tt rfl ?_ ?_; (focus (((rfl)); done))) | (refine k_ff rfl ?_ ?_; (focus ((first | (refine decide_eq_false ?_; (omega)) | (simp [*]; done)); done))) | (refine k_any (s_any (id := 10) _ (fun _ h => h) mixed ?_); ((refine (x_tkg (bts 5 1) 0 rfl (by kernel_rfl) rfl (Gh.le.refl _) (by repeat ((exact List.Sublist.refl _)))) (g_ldA rfl rfl rfl rfl) rfl rfl ?_)); ((refine (x_tkg (bts 5 3) 1 rfl (by kernel_rfl) rfl (Gh.le.refl _) (by repeat ((exact List.Sublist.refl _)))) (g_ldA rfl rfl rfl rfl) rfl rfl ?_)); refine x_all [2] (by kernel_rfl) (by decide) ⟨?_, trivial⟩; refine x_opg rfl rfl ?_; ((refine c_fns rfl rfl rfl (c_toService (by (repeat (first | assumption | refine SlV.mono ?_ (by assumption))); done) (by omega)) rfl ?_; rintro _ G hle ⟨u, rfl, hsl⟩; (try obtain ⟨_, _, rfl⟩ := hsl.sl))); refine x_ks (by (assumption)) (by repeat ((exact List.Sublist.refl _))) (listed' := (bts 5 7)) (by kernel_rfl) ?_; refine x_all [3] (by kernel_rfl) (by decide) ⟨?_, trivial⟩; refine x_opg rfl rfl ?_; ((refine c_rt rfl rfl rfl (c_eqService (by (repeat (first | assumption | refine SlV.mono ?_ (by assumption))); done) (by (repeat ((assumption))); done) (by omega)) rfl ?_)); refine x_ks (by (exact Gh.le.refl _)) (by repeat ((exact List.Sublist.refl _))) (listed' := (bts 5 15)) (by kernel_rfl) ?_; refine x_tks (t := tb) (fuel := 0) [4] (bts 5 31) (by kernel_rfl) (by kernel_rfl) rfl rfl (Gh.le.refl _) (by repeat ((exact List.Sublist.refl _))) ?_ ?_; (focus (repeat' ((exact trivial)))); refine x_done (by kernel_rfl) (k_bk ?_)))
  all_goals refine Nx.base hok hB ?_
  all_goals refine k_rr (vs := [_]) rfl ⟨rfl, trivial⟩ rfl (List.nil_sublist _) ⟨rfl, rfl, ?_⟩
  all_goals rfl
end Go.E
/-! EngM -/
namespace Go.E
open Go.ChangeShapes Go.WideShapes Go.ChangeAt Go.RowKit
theorem list_of {α : Type} (p : Nat → α → Prop) : ∀ n, (∀ i, i < n → ∃ c, p i c) → ∃ az : List α, az.length = n ∧ ∀ i (h : i < az.length), p i az[i]
  | 0, _ => ⟨[], rfl, fun i h => by simp at h⟩
  | n + 1, h => by
    obtain ⟨az, h1, h2⟩ := list_of p n fun i hi => h i (by omega)
    obtain ⟨c, hc⟩ := h n (by omega)
    refine ⟨az ++ [c], by simp [h1], fun i hi => ?_⟩
    by_cases h3 : i < az.length
    · rw [List.getElem_append_left h3]; exact h2 i h3
    · have : i = az.length := by simp at hi; omega
      subst this
      simp only [List.getElem_concat_length]
      rw [h1]; exact hc
theorem open_rows {P : Program} {H : Type} {enc : TypeId × Value → H} {w : World} {base base' : Nat} {spare : Nat → Bool} {held : Bool} {α : Type} [Inhabited α] (f : α → List Value) {sz : Nat} [RowF f sz] (hsz : 0 < sz) (Q : α → Prop) {T e : TypeId} (hT : P.underlying T = some (.slice e)) (hc : P.cellsOf e = sz)
    (dec : ∀ (n : Nat) (cs : List Value) (x : DataW H × List MemPlace), cs.length = sz → DataW.trod enc P w base spare held n e cs = some x → ∃ c : α, cs = f c ∧ Q c)
    {v : Value} {d : DataW H} {ps : List MemPlace} (hd : DataW.Trod enc P w base spare held T v d ps) (hok : Value.okWide P w .any base' T v) :
    ∃ az : List α, SlV (GA w) v sz az.length (rows f az) ∧ (∀ c ∈ az, Q c) ∧ az.length ≤ 9223372036854775807 := by
  obtain ⟨a, len, cap, rfl⟩ := okWide_slice hT hok
  obtain ⟨fuel, hf⟩ := hd
  rcases DataW.trod_slice hT hf with ⟨h0, _⟩ | ⟨x, l, c, elems, rest, n, _, hcs, _, _, hl, hm, hlen, hel, _, _⟩
  · simp [Value.cells] at h0
    obtain ⟨rfl, rfl, rfl⟩ := h0
    exact ⟨[], ⟨by simp [rows], .inl ⟨rfl, rfl⟩⟩, by simp, by simp⟩
  · simp [Value.cells] at hcs
    obtain ⟨rfl, rfl, rfl⟩ := hcs
    obtain ⟨hs, c, el, fr, hb⟩ := okW_slice hT hok
    obtain ⟨b, o, sp⟩ := x
    simp only at hs hb; subst hs
    have each : ∀ i, i < len → ∃ y : α, (∀ k, k < sz → c[o + (i * sz + k)]? = (f y)[k]?) ∧ Q y := by
      intro i hi
      have h1 := hel i hi
      rw [List.getElem?_eq_getElem (by omega), hc, Option.bind_eq_some_iff] at h1
      obtain ⟨cs, h2, h3⟩ := h1
      have h4 := World.cells?_some h2
      obtain ⟨y, rfl, hq⟩ := dec n cs _ h4.2.1 h3
      refine ⟨y, fun k hk => ?_, hq⟩
      have h5 := h4.2.2 k hk
      rw [← h5]
      have e1 : ((⟨b, o, none⟩ : Addr).add (i * sz)).add k = ⟨b, o + (i * sz + k), none⟩ := by
        by_cases h6 : i * sz = 0 <;> by_cases h7 : k = 0 <;> simp [Addr.add, h6, h7, Nat.add_assoc]
      rw [e1]
      simp [World.cell?, hb]
    obtain ⟨az, h1, h2⟩ := list_of (fun i y => (∀ k, k < sz → c[o + (i * sz + k)]? = (f y)[k]?) ∧ Q y) len each
    have hlen2 := rows_len (f := f) az
    have hm2 : maxLen = 9223372036854775807 := rfl
    refine ⟨az, ⟨hlen2, .inr ⟨b, o, cap, by rw [h1], by omega, seg_GA hb fun j v hv => ?_⟩⟩, fun y hy => ?_, by omega⟩
    · have hj : j < az.length * sz := by rw [← hlen2]; exact (List.getElem?_eq_some_iff.1 hv).1
      have hi : j / sz < az.length := Nat.div_lt_of_lt_mul (by rw [Nat.mul_comm]; exact hj)
      have hk : j % sz < sz := Nat.mod_lt _ hsz
      have e : j = j / sz * sz + j % sz := by rw [Nat.mul_comm]; exact (Nat.div_add_mod j sz).symm
      have h3 := (h2 _ hi).1 _ hk
      have h4 := rows_get (f := f) (cs := az) hi hk
      rw [← e] at h3 h4
      rw [h3, ← nth_eq hi, ← h4]; exact hv
    · obtain ⟨i, hi, rfl⟩ := List.mem_iff_getElem.1 hy
      exact (h2 i hi).2
theorem one_string {s : ByteArray} {cs : List Value} {k : Nat} (hk : k < cs.length) (h : (cs.drop k).take 1 = [.string s]) : cs[k]? = some (S s.data.toList) := by
  have h1 : ((cs.drop k).take 1)[0]? = some (.string s) := by rw [h]; rfl
  rw [List.getElem?_take_of_lt (by omega), List.getElem?_drop] at h1
  simpa using h1
theorem dec_str {P : Program} {H : Type} {enc : TypeId × Value → H} {w : World} {base : Nat} {spare : Nat → Bool} {held : Bool} {fs : Array Field} {e : TypeId} {cs : List Value} {n : Nat} {x : DataW H × List MemPlace} (hT : P.underlying e = some (.struct fs)) (h : DataW.trod enc P w base spare held n e cs = some x)
    (k ft off : Nat) (hf : (fs[k]?).map (fun fd => (fd.type, fd.offset)) = some (ft, off)) (hs : P.underlying ft = some .string) (hc : P.cellsOf ft = 1) (hl : off < cs.length) : ∃ l : List UInt8, cs[off]? = some (S l) ∧ l.length ≤ 9223372036854775807 := by
  obtain ⟨xs, m, _, _, _, hxs, hi⟩ := DataW.trod_struct hT h
  cases hfd : fs[k]? with
  | none => simp [hfd] at hf
  | some fd =>
    simp only [hfd, Option.map_some, Option.some.injEq, Prod.mk.injEq] at hf
    obtain ⟨rfl, rfl⟩ := hf
    have h1 := hi k fd hfd
    have hk : k < xs.length := by rw [hxs]; exact (Array.getElem?_eq_some_iff.1 hfd).1
    rw [List.getElem?_eq_getElem hk, hc] at h1
    obtain ⟨s, h2, _, h3⟩ := DataW.trod_string hs h1
    refine ⟨s.data.toList, one_string hl h2, ?_⟩
    have hm2 : maxLen = 9223372036854775807 := rfl
    have : s.data.toList.length = s.size := by rw [Array.length_toList]; rfl
    omega
end Go.E
/-! Mw -/
namespace Go.E
set_option maxRecDepth 20000
set_option maxHeartbeats 2000000
open Go.Proofs
open Go.ChangeShapes Go.WideShapes Go.ChangeAt Go.RowKit
theorem okWide_cell {P : Program} {w : World} {base : Nat} {T t e : TypeId} {fs : Array Field} {cs : Array Value} {ts : List TypeId} {i : Nat} {v : Value} (hT : P.underlying T = some (.struct fs)) (hok : Value.okWide P w .any base T (.agg cs)) (hts : P.cellTypes P.depth T = some ts) (hn : cs.size = ts.length) (hi : cs[i]? = some v) (ht : ts[i]? = some t) (hs : P.underlying t = some (.slice e)) : Value.okWide P w .any base t v := by
  simp only [Value.okWide, hT] at hok
  obtain ⟨cs', he, _, ts', h2, _, h3⟩ := hok
  have he2 : cs = cs' := by simpa using he
  subst he2
  have h4 : ts = ts' := Option.some.inj (hts.symm.trans h2)
  subst h4
  obtain ⟨u, hu, hc⟩ := h3 i v hi
  have hlt : i < ts.length := by rw [← hn]; exact (Array.getElem?_eq_some_iff.1 hi).1
  rw [Nat.mod_eq_of_lt hlt, ht] at hu
  obtain rfl := Option.some.inj hu
  simp only [Value.okWide, hs]
  exact hc
theorem dec_slice {P : Program} {H : Type} {enc : TypeId × Value → H} {w : World} {base : Nat} {spare : Nat → Bool} {held : Bool} {fs : Array Field} {T : TypeId} {cs : List Value} {n : Nat} {x : DataW H × List MemPlace} (hT : P.underlying T = some (.struct fs)) (h : DataW.trod enc P w base spare held n T cs = some x)
    (k ft e off : Nat) (hf : (fs[k]?).map (fun fd => (fd.type, fd.offset)) = some (ft, off)) (hs : P.underlying ft = some (.slice e)) (hc : P.cellsOf ft = 1) (hl : off < cs.length) : ∃ v d ps, cs[off]? = some v ∧ DataW.Trod enc P w base spare held ft v d ps := by
  obtain ⟨xs, m, _, _, _, hxs, hi⟩ := DataW.trod_struct hT h
  cases hfd : fs[k]? with
  | none => simp [hfd] at hf
  | some fd =>
    simp only [hfd, Option.map_some, Option.some.injEq, Prod.mk.injEq] at hf
    obtain ⟨rfl, rfl⟩ := hf
    have h1 := hi k fd hfd
    have hk : k < xs.length := by rw [hxs]; exact (Array.getElem?_eq_some_iff.1 hfd).1
    rw [List.getElem?_eq_getElem hk, hc] at h1
    have h2 : (cs.drop fd.offset).take 1 = [cs[fd.offset]] := by rw [List.drop_eq_getElem_cons hl]; rfl
    rw [h2] at h1
    refine ⟨cs[fd.offset], xs[k].1, xs[k].2, List.getElem?_eq_getElem hl, m, ?_⟩
    rcases DataW.trod_slice hs h1 with ⟨h3, _⟩ | ⟨a, l, c, _, _, _, _, h3, _⟩
    · have h4 : cs[fd.offset] = .slice none 0 0 := by simpa using h3
      rw [h4] at h1 ⊢; simpa [Value.cells] using h1
    · have h4 : cs[fd.offset] = .slice (some a) l c := by simpa using h3
      rw [h4] at h1 ⊢; simpa [Value.cells] using h1
abbrev tMsW : TypeId := 22
abbrev tMtW : TypeId := 49
abbrev tStrW : TypeId := 9
abbrev tSvcW : TypeId := 24
set_option maxRecDepth 100000 in
theorem open_mts {H : Type} {enc : TypeId × Value → H} {w : World} {base base' : Nat} {spare : Nat → Bool} {held : Bool} {v : Value} {d : DataW H} {ps : List MemPlace}
    (hd : DataW.Trod enc Tryd.prog w base spare held tMsW v d ps) (hok : Value.okWide Tryd.prog w .any base' tMsW v) :
    ∃ cl : List Mt, SlV (GA w) v 3 cl.length (rows mtF cl) ∧ (∀ c ∈ cl, MtW c) ∧ cl.length ≤ 9223372036854775807 := by
  refine open_rows mtF (by decide) MtW (T := tMsW) (e := tMtW) (by kernel_rfl) (by kernel_rfl) (fun n cs x hl h => ?_) hd hok
  obtain ⟨l0, h0, b0⟩ := dec_str (fs := flds Tryd.prog tMtW) (by kernel_rfl) h 0 tStrW 0 (by kernel_rfl) (by kernel_rfl) (by kernel_rfl) (by omega)
  obtain ⟨l1, h1, b1⟩ := dec_str (fs := flds Tryd.prog tMtW) (by kernel_rfl) h 1 tStrW 1 (by kernel_rfl) (by kernel_rfl) (by kernel_rfl) (by omega)
  obtain ⟨l2, h2, b2⟩ := dec_str (fs := flds Tryd.prog tMtW) (by kernel_rfl) h 2 tStrW 2 (by kernel_rfl) (by kernel_rfl) (by kernel_rfl) (by omega)
  refine ⟨(l0, l1, l2), ?_, b0, b1, b2⟩
  match cs, hl with
  | [a, b, c], _ => simp at h0 h1 h2; simp [mtF, h0, h1, h2]
set_option maxRecDepth 100000 in
theorem open_svc {H : Type} {enc : TypeId × Value → H} {w : World} {base base' : Nat} {spare : Nat → Bool} {held : Bool} {v : Value} {d : DataW H} {ps : List MemPlace}
    (hd : DataW.Trod enc Tryd.prog w base spare held tSvcW v d ps) (hok : Value.okWide Tryd.prog w .any base' tSvcW v) :
    ∃ (s : List UInt8) (u : Value) (a : List Mt), v = Ag [S s, u] ∧ SlV (GA w) u 3 a.length (rows mtF a) ∧ (s.length ≤ 9223372036854775807 ∧ a.length ≤ 9223372036854775807) ∧ ∀ x ∈ a, MtW x := by
  have hT : Tryd.prog.underlying tSvcW = some (.struct (flds Tryd.prog tSvcW)) := by kernel_rfl
  obtain ⟨cs, rfl, hsz⟩ := okWide_struct hT hok
  have h2 : Tryd.prog.cellsOf tSvcW = 2 := by kernel_rfl
  rw [h2] at hsz
  obtain ⟨n, hf⟩ := hd
  have hf : DataW.trod enc Tryd.prog w base spare held n tSvcW cs.toList = some (d, ps) := hf
  obtain ⟨s, e0, b0⟩ := dec_str hT hf 0 tStrW 0 (by kernel_rfl) (by kernel_rfl) (by kernel_rfl) (by simp; omega)
  obtain ⟨u, d1, ps1, e1, h1⟩ := dec_slice hT hf 1 tMsW tMtW 1 (by kernel_rfl) (by kernel_rfl) (by kernel_rfl) (by simp; omega)
  have ok1 := okWide_cell (ts := [tStrW, tMsW]) (t := tMsW) (e := tMtW) (i := 1) hT hok (by kernel_rfl) hsz (by simpa using e1) rfl (by kernel_rfl)
  obtain ⟨a, ha, hm, hn⟩ := open_mts h1 ok1
  refine ⟨s, u, a, ?_, ha, ⟨b0, hn⟩, hm⟩
  obtain ⟨l⟩ := cs
  match l, hsz with
  | [x, y], _ => simp at e0 e1; rw [e0, e1]
end Go.E
