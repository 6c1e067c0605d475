/- Contracts and plain laws that the statement rests on, part 6. Conditions: as each says. -/
import Derived.Test.YtlgcolngamnfiaaGreatDoorU5
set_option linter.unusedVariables false
set_option linter.unusedSimpArgs false
namespace Go.E
set_option maxRecDepth 20000
set_option maxHeartbeats 2000000
open Go.Proofs
variable {G : Gh}
abbrev Mt := List UInt8 × List UInt8 × List UInt8
def mtF (m : Mt) : List Value := [S m.1, S m.2.1, S m.2.2]
instance : RowF mtF 3 := ⟨fun _ => rfl⟩
abbrev MtW (m : Mt) : Prop := m.1.length ≤ 9223372036854775807 ∧ m.2.1.length ≤ 9223372036854775807 ∧ m.2.2.length ≤ 9223372036854775807
abbrev MtL (m : Mt) : Prop := m.1.length ≤ 1048576 ∧ m.2.1.length ≤ 1048576 ∧ m.2.2.length ≤ 1048576
theorem c_toMethod {c : Mt} : PuG Tryz.prog 66 [Ag (mtF c)] G (· = Ag (mtF c)) := by
 refine jE [(0, _)] Tryz.func66 Tryz.ntmps66 fun B hB => ?_
 repeat' (first | (refine jR ?_) | (refine k_op rfl ?_; first | refine c_bx rfl rfl rfl fun _ => ?_ | refine c_al rfl rfl fun _ => ?_ | refine jV (g_ld rfl rfl rfl) ?_ | refine jV (g_ldA rfl rfl rfl rfl) ?_ | refine c_st1 rfl rfl rfl rfl ?_ | refine c_stA rfl rfl rfl rfl rfl rfl ?_))
 refine jZ (vs := [_]) rfl ⟨rc_A rfl rfl rfl rfl, trivial⟩ rfl ⟨rfl, rfl, ?_⟩
 rfl
theorem c_eqMethod {c e : Mt} : PuG Tryz.prog 73 [Ag (mtF c), Ag (mtF e)] G (· = Bo (decide (c = e))) := by
 obtain ⟨c1, c2, c3⟩ := c
 obtain ⟨e1, e2, e3⟩ := e
 refine jE [(0, _), (1, _)] Tryz.func73 Tryz.ntmps73 fun B hB => ?_
 repeat' (first | (refine jR ?_) | (refine k_op rfl ?_; first | refine c_bx rfl rfl rfl fun _ => ?_ | refine jV (g_ld rfl rfl rfl) ?_) | refine k_if rfl (fun _ => ?_) (fun _ => ?_))
 all_goals refine jZ (vs := [_]) rfl ⟨rfl, trivial⟩ rfl ⟨rfl, rfl, ?_⟩
 all_goals (rw [oneOf_one]; simp_all)
theorem c_szMethod {c : Mt} {z : Int} (h : (0 ≤ z ∧ z ≤ 1048576) ∧ MtW c) :
  PuG Tryz.prog 59 [Ag (mtF c), I z] G (fun v => ∃ z', v = I z' ∧ (0 ≤ z' → z' = z - c.1.length - c.2.1.length - c.2.2.length) ∧ -1 ≤ z') := by
 obtain ⟨⟨h1, h2⟩, h3, h4, h5⟩ := h
 refine jE [(0, _), (1, _)] Tryz.func59 Tryz.ntmps59 fun B hB => ?_
 repeat' (first | refine jM ?_ | (refine k_op rfl ?_; first | refine c_bx rfl rfl rfl fun _ => ?_ | refine jV (g_ld rfl rfl rfl) ?_) | refine k_if rfl (fun _ => ?_) (fun _ => ?_))
 all_goals refine jZ (vs := [_]) rfl ⟨rfl, trivial⟩ rfl ⟨rfl, rfl, ?_⟩
 all_goals exact ⟨_, rfl, by omega, by omega⟩
theorem c_szMethodS {u : Value} {a : List Mt} {z : Int} (h : (0 ≤ z ∧ z ≤ 1048576) ∧ a.length ≤ 9223372036854775807) (hu : SlV G u 3 a.length (rows mtF a)) (ha : ∀ x ∈ a, MtW x) :
  PuG Tryz.prog 26 [u, I z] G (fun v => v = I (-1) ∨ ∃ z', v = I z' ∧ (0 ≤ z' ∧ z' ≤ z ∧ a.length ≤ 1048576) ∧ ∀ x ∈ a, MtL x) := by
 refine jE [(0, _), (1, _)] Tryz.func26 Tryz.ntmps26 fun B hB => ?_
 repeat' (first | refine jM ?_ | (refine k_op rfl ?_; (refine jV (g_lenV rfl (by assumption)) ?_)) | refine k_if rfl (fun _ => ?_) (fun _ => ?_))
 ·refine jZ (vs := [_]) rfl ⟨rfl, trivial⟩ rfl ⟨rfl, rfl, ?_⟩
  exact .inl rfl
 ·refine k_loop (ι := Nat × Int) (fun i => i.1 ≤ a.length ∧ 0 ≤ i.2 ∧ i.2 ≤ z - a.length ∧ ∀ k, k < i.1 → MtL (nth a k)) (fun i => [(0, u), (1, I i.2), (5, I i.1)]) (fun _ => G) (fun i => []) (fun i => a.length - i.1) (0, z - a.length) ?_ (by repeat' constructor) rfl sRr (fun i Hi => ?_)
  ·refine ⟨by omega, by dsimp only; omega, by dsimp only; omega, fun k hk => absurd hk (by simp)⟩
  obtain ⟨i, m⟩ := i
  dsimp only at Hi ⊢
  by_cases hi : i < a.length
  ·obtain ⟨ba, oa, ca, rfl, sa⟩ := hu.expl (by omega)
   have hx := ha _ (nth_mem hi)
   repeat' (first | refine jM ?_ | (refine k_op rfl ?_; first | refine jV (g_lenL rfl) ?_ | (refine jV (g_iaddrN rfl rfl (by omega)) ?_) | (refine jV (g_ldR rfl rfl (by assumption) ?_) ?_; (focus ((omega); done))) | (refine c_pu rfl rfl rfl (c_szMethod (by omega)) rfl ?_; rintro _ ⟨z, rfl, hz1, hz2⟩)) | (refine k_tt rfl (dTt (by omega)) ?_) | refine k_if rfl (fun _ => ?_) (fun _ => ?_))
   ·refine jZ (vs := [_]) rfl ⟨rfl, trivial⟩ rfl ⟨rfl, rfl, ?_⟩
    exact .inl rfl
   ·rename_i hz3
    have hz4 := hz1 (by omega)
    refine k_rd (i + 1, z) ?_ ?_ (by repeat' constructor) rfl sRr
    ·refine ⟨by dsimp only; omega, by dsimp only; omega, by dsimp only; omega, fun k hk => ?_⟩
     rcases Nat.lt_or_ge k i with h1 | h1
     ·exact Hi.2.2.2 k h1
     ·have : k = i := by dsimp only at hk; omega
      subst this; unfold MtL; omega
    ·dsimp only; omega
  ·repeat' (first | (refine jR ?_) | (refine k_op rfl ?_; (refine jV (g_lenV rfl (by assumption)) ?_)) | (refine k_ff rfl (dFf (by omega)) ?_))
   refine jZ (vs := [_]) rfl ⟨rfl, trivial⟩ rfl ⟨rfl, rfl, ?_⟩
   refine .inr ⟨_, rfl, by omega, fun x hx => ?_⟩
   obtain ⟨k, hk, rfl⟩ := mem_nth hx
   exact Hi.2.2.2 k (by omega)
theorem c_eqMethodS {u v : Value} {a b : List Mt} (hu : SlV G u 3 a.length (rows mtF a)) (hv : SlV G v 3 b.length (rows mtF b)) (hn : a.length ≤ 1048576) :
  PuG Tryz.prog 39 [u, v] G (· = Bo (decide (a = b))) := by
 refine jE [(0, _), (1, _)] Tryz.func39 Tryz.ntmps39 fun B hB => ?_
 repeat' (first | (refine jR ?_) | (refine k_op rfl ?_; (refine jV (g_lenV rfl (by assumption)) ?_)) | refine k_if rfl (fun _ => ?_) (fun _ => ?_))
 ·refine jZ (vs := [_]) rfl ⟨rfl, trivial⟩ rfl ⟨rfl, rfl, ?_⟩
  rw [oneOf_one]
  exact congrArg Bo (decide_eq_false (fun h => by subst h; simp_all)).symm
 ·have hl : a.length = b.length := by simp_all; omega
  refine k_loop (ι := Nat) (fun i => i ≤ a.length ∧ a.take i = b.take i) (fun i => [(0, u), (1, v), (5, I i)]) (fun _ => G) (fun i => []) (fun i => a.length - i) 0 ?_ (by repeat' constructor) rfl sRr (fun i Hi => ?_)
  ·exact ⟨by omega, rfl⟩
  by_cases hi : i < a.length
  ·obtain ⟨ba, oa, ca, rfl, sa⟩ := hu.expl (by omega)
   obtain ⟨bb, ob, cb, rfl, sb⟩ := hv.expl (by omega)
   repeat' (first | refine jM ?_ | (refine k_op rfl ?_; (refine jV (g_lenL rfl) ?_)) | (refine k_tt rfl (dTt (by omega)) ?_) | refine k_cd rfl (fun _ => ?_) (fun _ => ?_) | (refine k_any (s_any (id := 6) _ (fun _ h => h) mixed ?_); refine jT 6 [0, 1, 4, 5] (bts 10 51) ?_; (refine jG (bts 10 55) 2 rfl (g_iaddrN rfl rfl (by omega)) ?_); ((refine jG (bts 10 63) 3 rfl (g_ldR rfl rfl (by assumption) ?_) ?_; (focus ((omega); done)))); (refine jG (bts 10 127) 6 rfl (g_iaddrN rfl rfl (by omega)) ?_); ((refine jG (bts 10 255) 7 rfl (g_ldR rfl rfl (by assumption) ?_) ?_; (focus ((omega); done)))); refine jA 8 rfl ?_; (refine c_rt rfl rfl rfl c_eqMethod rfl ?_); refine jS (bts 10 511) ?_; refine jT 0 [9] (bts 10 1023) ?_; refine x_done (by kernel_rfl) (k_bk ?_)))
   ·rename_i hne
    refine jZ (vs := [_]) rfl ⟨rfl, trivial⟩ rfl ⟨rfl, rfl, ?_⟩
    rw [oneOf_one]
    refine congrArg Bo (decide_eq_false fun h => ?_).symm
    subst h
    simp at hne
   ·rename_i hne
    have he : nth a i = nth b i := by simpa using hne
    refine k_rd (i + 1) ?_ ?_ (by repeat' constructor) rfl sRr
    ·refine ⟨by omega, ?_⟩
     rw [take_nth hi, take_nth (by omega), Hi.2, he]
    ·omega
  ·repeat' (first | (refine jR ?_) | (refine k_op rfl ?_; (refine jV (g_lenV rfl (by assumption)) ?_)) | (refine k_ff rfl (dFf (by omega)) ?_))
   refine jZ (vs := [_]) rfl ⟨rfl, trivial⟩ rfl ⟨rfl, rfl, ?_⟩
   have ei : i = a.length := by omega
   rw [oneOf_one]
   refine congrArg Bo (decide_eq_true ?_).symm
   have := Hi.2
   rw [ei, List.take_length, hl, List.take_length] at this
   exact this
abbrev tMt2 : TypeId := 48
theorem c_toMethodS {u : Value} {a : List Mt} (hu : SlV G u 3 a.length (rows mtF a)) (hn : a.length ≤ 1048576) :
  FnS Tryz.prog 31 [u] G (fun v G' => ∃ u', v = u' ∧ SlV G' u' 3 a.length (rows mtF a)) := by
 refine jB [(0, _)] Tryz.func31 Tryz.ntmps31 fun B hok hB hW => ?_
 repeat' (first | (refine jR ?_) | (refine k_op rfl ?_; first | refine jV (g_lenV rfl (by assumption)) ?_ | (refine c_mk rfl rfl rfl rfl (by omega) (fun _ => ?_))))
 rename_i x
 refine k_loop (ι := Nat) (fun i => i ≤ a.length) (fun i => [(0, u), (3, .slice (some ⟨x, 0, none⟩) a.length a.length), (4, I i)]) (fun _ => G) (fun i => [.blk x (.cells (rows mtF (a.take i) ++ zerosL [S [], S [], S []] (a.length - i)).toArray tMt2 (0, 0))]) (fun i => a.length - i) 0 ?_ (by repeat' constructor) rfl sRr (fun i Hi => ?_)
 ·exact Nat.zero_le _
 by_cases hi : i < a.length
 ·obtain ⟨ba, oa, ca, rfl, sa⟩ := hu.expl (by omega)
  repeat' (first | refine jM ?_ | (refine k_op rfl ?_; first | refine jV (g_lenL rfl) ?_ | (refine jV (g_iaddrN rfl rfl (by omega)) ?_) | (refine jV (g_ldR rfl rfl (by assumption) ?_) ?_; (focus ((omega); done))) | (refine c_stR rfl rfl rfl rfl rfl rfl ?_ ?_ ?_; (focus ((simp only [List.length_append, List.length_cons, List.length_nil, List.length_take]; omega); done)); (focus ((omega); done))) | (refine c_rt rfl rfl rfl c_toMethod rfl ?_)) | (refine k_tt rfl (dTt (by omega)) ?_))
  refine k_rd (i + 1) (by omega) (by omega) (by repeat' constructor) rfl (by rw [take_nth hi]; exact List.Sublist.refl _)
 ·repeat' (first | (refine jR ?_) | (refine k_op rfl ?_; (refine jV (g_lenV rfl (by assumption)) ?_)) | (refine k_ff rfl (dFf (by omega)) ?_))
  have ei : i = a.length := by omega
  subst ei
  refine Nx.sealB .here fun G' hle hseg => ?_
  simp only [List.take_length, Nat.sub_self, zerosL, List.append_nil] at hseg
  exact jZ (vs := [_]) rfl ⟨rfl, trivial⟩ rfl ⟨hle, rfl, _, rfl, ⟨rows_len a, .inr ⟨_, _, _, rfl, Nat.le_refl _, hseg⟩⟩⟩
theorem c_eqService {s r : List UInt8} {u v : Value} {a b : List Mt} (hu : SlV G u 3 a.length (rows mtF a)) (hv : SlV G v 3 b.length (rows mtF b)) (hn : a.length ≤ 1048576) :
  PuG Tryz.prog 12 [Ag [S s, u], Ag [S r, v]] G (· = Bo (decide (s = r ∧ a = b))) := by
 refine jE [(0, _), (1, _)] Tryz.func12 Tryz.ntmps12 fun B hB => ?_
 repeat' (first | (refine jR ?_) | (refine k_op rfl ?_; first | refine c_bx rfl rfl rfl fun _ => ?_ | refine jV (g_ld rfl rfl rfl) ?_ | (refine c_rt rfl rfl rfl (c_eqMethodS (by (repeat (assumption)); done) (by (repeat (assumption)); done) ?_) rfl ?_; (focus ((assumption); done)))) | refine k_if rfl (fun _ => ?_) (fun _ => ?_) | refine k_cd rfl (fun _ => ?_) (fun _ => ?_))
 all_goals refine jZ (vs := [_]) rfl ⟨rfl, trivial⟩ rfl ⟨rfl, rfl, ?_⟩
 all_goals (rw [oneOf_one]; simp_all)
theorem c_szService {s : List UInt8} {u : Value} {a : List Mt} {z : Int} (h : (0 ≤ z ∧ z ≤ 1048576) ∧ s.length ≤ 9223372036854775807 ∧ a.length ≤ 9223372036854775807) (hu : SlV G u 3 a.length (rows mtF a)) (ha : ∀ x ∈ a, MtW x) :
  PuG Tryz.prog 8 [Ag [S s, u], I z] G (fun v => v = I (-1) ∨ ∃ z', v = I z' ∧ ((0 ≤ z' ∧ z' ≤ z) ∧ s.length ≤ 1048576 ∧ a.length ≤ 1048576) ∧ ∀ x ∈ a, MtL x) := by
 refine jE [(0, _), (1, _)] Tryz.func8 Tryz.ntmps8 fun B hB => ?_
 repeat' (first | refine jM ?_ | (refine k_op rfl ?_; first | refine c_bx rfl rfl rfl fun _ => ?_ | refine jV (g_ld rfl rfl rfl) ?_ | (refine c_pu rfl rfl rfl (c_szMethodS ?_ (by (repeat (assumption)); done) (by (repeat (assumption)); done)) rfl ?_; (focus ((omega); done)); rintro _ (rfl | ⟨z, rfl, hz1, hz2⟩))) | (refine k_tt rfl rfl ?_) | (refine k_ff rfl (dFf (by omega)) ?_) | refine k_if rfl (fun _ => ?_) (fun _ => ?_))
 all_goals refine jZ (vs := [_]) rfl ⟨rfl, trivial⟩ rfl ⟨rfl, rfl, ?_⟩
 all_goals first | exact .inl rfl | exact .inr ⟨_, rfl, by omega, by assumption⟩
theorem c_toService {s : List UInt8} {u : Value} {a : List Mt} (hu : SlV G u 3 a.length (rows mtF a)) (hn : a.length ≤ 1048576) :
  FnS Tryz.prog 10 [Ag [S s, u]] G (fun v G' => ∃ u', v = Ag [S s, u'] ∧ SlV G' u' 3 a.length (rows mtF a)) := by
 refine jB [(0, _)] Tryz.func10 Tryz.ntmps10 fun B hok hB hW => ?_
 repeat' (first | (refine jR ?_) | (refine k_op rfl ?_; first | refine c_bx rfl rfl rfl fun _ => ?_ | refine c_al rfl rfl fun _ => ?_ | refine jV (g_ld rfl rfl rfl) ?_ | refine c_st1 rfl rfl rfl rfl ?_ | (refine c_fns rfl rfl rfl (c_toMethodS (by (repeat (assumption)); done) ?_) rfl ?_; (focus ((assumption); done)); rintro _ G hle ⟨u, rfl, hsl⟩; ((try have hR1 := SchR.mono hR1 hle); (try have hR1 := ScI.mono hR1 hle)))))
 obtain ⟨x, c, rfl⟩ := hsl.sl
 repeat' (first | (refine jR ?_) | (refine k_op rfl ?_; first | refine jV (g_ldA rfl rfl rfl rfl) ?_ | refine c_st1 rfl rfl rfl rfl ?_ | refine c_stA rfl rfl rfl rfl rfl rfl ?_))
 refine jZ (vs := [_]) rfl ⟨rc_A rfl rfl rfl rfl, trivial⟩ rfl ⟨hle, rfl, ?_⟩
 exact ⟨_, rfl, hsl⟩
def mtOk (ss : List UInt8) (m : Mt) : Bool := kindS ss m.2.1 && kindS ss m.2.2 && isNm m.1
def goodAt (s : List UInt8) (a : List Mt) (i : Nat) : Bool := mtOk s (nth a i) && (i == 0 || Op.bytesLess (nth a (i - 1)).1 (nth a i).1)
def svcOk (s : List UInt8) (a : List Mt) : Bool := (schemaOf s).isSome && decide (a.length ≤ 6) && (List.range a.length).all (goodAt s a)
theorem svc_no {s : List UInt8} {a : List Mt} {i : Nat} (hi : i < a.length) (h : goodAt s a i = false) : svcOk s a = false := by
 unfold svcOk
 rw [Bool.and_eq_false_iff]; right
 rw [List.all_eq_false]
 exact ⟨i, List.mem_range.2 hi, by rw [h]; simp⟩
theorem svc_yes {s : List UInt8} {a : List Mt} (hs : (schemaOf s).isSome = true) (h6 : a.length ≤ 6) (h : ∀ k, k < a.length → goodAt s a k = true) : svcOk s a = true := by
 unfold svcOk
 rw [hs, decide_eq_true h6]
 simp only [Bool.true_and, List.all_eq_true, List.mem_range]
 exact h
abbrev tSv : TypeId := 30
theorem c_ServiceOkS {s : List UInt8} {u : Value} {a : List Mt} (h : s.length ≤ 1048576) (hu : SlV G u 3 a.length (rows mtF a)) (hn : a.length ≤ 1048576) (ha : ∀ x ∈ a, MtL x) :
  PuG Tryz.prog 28 [Ag [S s, u]] G (· = Bo (svcOk s a)) := by
 have hs : s.length ≤ 10000000 := by omega
 refine jB (Post := fun v G' L' => G' = G ∧ L' = [] ∧ _) [(0, _)] Tryz.func28 Tryz.ntmps28 fun B hok hB hW => ?_
 repeat' (first | (refine jR ?_) | (refine k_op rfl ?_; first | refine c_bx rfl rfl rfl fun _ => ?_ | refine jV (g_ld rfl rfl rfl) ?_ | refine jV (g_lenV rfl (by assumption)) ?_ | (refine jV (g_pickT rfl rfl rfl) ?_) | (refine jV (g_pickF rfl rfl rfl) ?_) | (refine c_rt rfl rfl rfl (c_SchemaOkS ‹_›) rfl ?_)) | refine k_gb rfl rfl (fun _ => ?_) (fun _ => ?_) | (refine k_tt rfl rfl ?_) | refine k_if rfl (fun _ => ?_) (fun _ => ?_))
 ·rename_i h1
  refine Nx.base hok hB ?_
  refine jZ (vs := [_]) rfl ⟨rfl, trivial⟩ rfl ⟨rfl, rfl, ?_⟩
  have h2 : (schemaOf s).isSome = false := by simpa using h1
  unfold svcOk; rw [h2]; rfl
 ·rename_i h1
  refine Nx.base hok hB ?_
  refine jZ (vs := [_]) rfl ⟨rfl, trivial⟩ rfl ⟨rfl, rfl, ?_⟩
  have h2 : decide (a.length ≤ 6) = false := by simp; omega
  unfold svcOk; rw [h2]; simp
 rename_i x h1 h2
 refine k_loop (ι := Nat × Gh) (fun i => (i.1 ≤ a.length ∧ Gh.le G i.2) ∧ ∀ k, k < i.1 → goodAt s a k = true) (fun i => [(1, Pt x 0), (3, I i.1)]) (fun i => i.2) (fun i => [.blk x (.cells #[S s, u] tSv (0, 0))]) (fun i => a.length - i.1) (0, G) ?_ (by repeat' constructor) rfl sRr (fun i Hi => ?_)
 ·exact ⟨⟨Nat.zero_le _, Gh.le.refl _⟩, fun k hk => absurd hk (by simp)⟩
 obtain ⟨i, G1⟩ := i
 dsimp only at Hi ⊢
 obtain ⟨⟨hi1, hg⟩, hgood⟩ := Hi
 by_cases hi : i < a.length
 ·obtain ⟨ba, oa, ca, rfl, sa⟩ := (hu.mono hg).expl (by omega)
  have hx := ha _ (nth_mem hi)
  cases e1 : kindS s (nth a i).2.1 <;> cases e2 : kindS s (nth a i).2.2 <;> cases e3 : isNm (nth a i).1
  all_goals
   have cx_lk1 : ∀ G, FnS Tryz.prog 51 [S s, S (nth a i).2.1] G (fun v _ => ∃ u, v = Tu [u, Bo (kindS s (nth a i).2.1)]) := fun G => by
    refine (c_l3Kind (G := G) hs (by omega)).mono ?_
    rintro v G' L' ⟨h1, h2, u, vs, rfl, _⟩
    exact ⟨h1, h2, u, rfl⟩
   have cx_lk2 : ∀ G, FnS Tryz.prog 51 [S s, S (nth a i).2.2] G (fun v _ => ∃ u, v = Tu [u, Bo (kindS s (nth a i).2.2)]) := fun G => by
    refine (c_l3Kind (G := G) hs (by omega)).mono ?_
    rintro v G' L' ⟨h1, h2, u, vs, rfl, _⟩
    exact ⟨h1, h2, u, rfl⟩
   have cx_nm2 : ∀ G, PuG Tryz.prog 61 [S (nth a i).1] G (· = Bo (isNm (nth a i).1)) := fun G => c_l2Name (by omega)
   rw [e1] at cx_lk1
   rw [e2] at cx_lk2
   rw [e3] at cx_nm2
  case true.true.true =>
   rcases i with _ | j
   ·repeat' (first | refine jM ?_ | (refine k_op rfl ?_; first | refine jV (g_ld rfl rfl rfl) ?_ | (refine jV (g_ldR rfl rfl (by assumption) ?_) ?_; (focus ((omega); done))) | refine jV (g_lenL rfl) ?_ | (refine jV (g_iaddrN rfl rfl (by omega)) ?_) | refine c_al rfl rfl fun _ => ?_ | refine c_stA rfl rfl rfl rfl rfl rfl ?_ | (refine c_fns rfl rfl rfl (cx_lk1 _) rfl ?_; rintro _ G hle ⟨u1, rfl⟩; ((try have sa := Seg.mono sa hle); (try have hg := Gh.le.trans hg hle))) | (refine c_fns rfl rfl rfl (cx_lk2 _) rfl ?_; rintro _ G hle ⟨u2, rfl⟩; ((try have sa := Seg.mono sa hle); (try have hg := Gh.le.trans hg hle)))) | (refine k_tt rfl (dTt (by omega)) ?_) | (refine k_ff rfl rfl ?_) | (refine k_any (s_any (id := 9) _ (fun _ h => h) mixed ?_); refine jT 25 [0, 1, 2] (bts 28 7) ?_; (try (refine Nx.re (d := 49) (v' := Bo false) rfl (congrArg Value.bool rfl) ?_)); refine jT 23 [3, 4] (bts 28 31) ?_; (refine jG (bts 28 63) 5 rfl (g_pickF rfl rfl rfl) ?_); refine jT 21 [6] (bts 28 127) ?_; (try (refine Nx.re (d := 53) (v' := Bo false) rfl (congrArg Value.bool rfl) ?_)); refine jT 20 [7] (bts 28 255) ?_; (refine jG (bts 28 511) 8 rfl (g_ld rfl rfl rfl) ?_); (refine jA 9 rfl ?_; (refine c_rt rfl rfl rfl (cx_nm2 _) rfl ?_); refine jS (bts 28 1023) ?_); refine jT 17 [10] (bts 28 2047) ?_; (refine jG (bts 28 4095) 11 rfl (g_pickF rfl rfl rfl) ?_); refine jT 15 [12] (bts 28 8191) ?_; (try (refine Nx.re (d := 59) (v' := Bo false) rfl (congrArg Value.bool rfl) ?_)); refine jT 12 [13, 14, 15] (bts 28 65535) ?_; (try (refine Nx.re (d := 62) (v' := Bo false) rfl (congrArg Value.bool rfl) ?_)); refine jT 8 [16, 18, 19, 23] (bts 28 9306111) ?_; (refine jN (bts 28 9437183) 17 rfl ?_); (refine jN (bts 28 10485759) 20 rfl ?_); refine jT 5 [21] (bts 28 12582911) ?_; (refine jN (bts 28 16777215) 22 rfl ?_); (refine jN (bts 28 33554431) 24 rfl ?_); refine jT 2 [25] (bts 28 67108863) ?_; (refine jG (bts 28 134217727) 26 rfl (g_pickF rfl rfl rfl) ?_); (refine jG (bts 28 268435455) 27 rfl (g_pickF rfl rfl rfl) ?_); refine x_done (by kernel_rfl) (k_bk ?_)))
    refine k_rd (1, G) ⟨⟨by dsimp only; omega, hg⟩, fun k hk => ?_⟩ (by dsimp only; omega) (by repeat' constructor) rfl (by repeat (first | exact List.Sublist.refl _ | apply List.Sublist.cons))
    have : k = 0 := by dsimp only at hk; omega
    subst this
    simp [goodAt, mtOk, e1, e2, e3]
   ·have ej : ((((j + 1 : Nat) : Int) - 1).toNat) = j := by omega
    cases e5 : Op.bytesLess (nth a j).1 (nth a (j + 1)).1
    ·have hb : goodAt s a (j + 1) = false := by simp [goodAt, e5]
     have e6 : Op.bytesLess (nth a (((j + 1 : Nat) : Int) - 1).toNat).1 (nth a (j + 1)).1 = false := by rw [ej]; exact e5
     repeat' (first | (refine jR ?_) | (refine k_op rfl ?_; first | refine jV (g_ld rfl rfl rfl) ?_ | (refine jV (g_ldR rfl rfl (by assumption) ?_) ?_; (focus ((omega); done))) | refine jV (g_lenL rfl) ?_ | (refine jV (g_iaddrN rfl rfl (by omega)) ?_) | refine c_al rfl rfl fun _ => ?_ | refine c_stA rfl rfl rfl rfl rfl rfl ?_ | (refine c_fns rfl rfl rfl (cx_lk1 _) rfl ?_; rintro _ G hle ⟨u1, rfl⟩; ((try have sa := Seg.mono sa hle); (try have hg := Gh.le.trans hg hle))) | (refine c_fns rfl rfl rfl (cx_lk2 _) rfl ?_; rintro _ G hle ⟨u2, rfl⟩; ((try have sa := Seg.mono sa hle); (try have hg := Gh.le.trans hg hle)))) | (refine k_tt rfl ?_ ?_; (focus ((first | (refine decide_eq_true ?_; (omega)) | (simp [*]; done)); done))) | (refine k_any (s_any (id := 9) _ (fun _ h => h) mixed ?_); refine jT 25 [0, 1, 2] (bts 28 7) ?_; (try (refine Nx.re (d := 49) (v' := Bo false) rfl (congrArg Value.bool rfl) ?_)); refine jT 23 [3, 4] (bts 28 31) ?_; (refine jG (bts 28 63) 5 rfl (g_pickF rfl rfl rfl) ?_); refine jT 21 [6] (bts 28 127) ?_; (try (refine Nx.re (d := 53) (v' := Bo false) rfl (congrArg Value.bool rfl) ?_)); refine jT 20 [7] (bts 28 255) ?_; (refine jG (bts 28 511) 8 rfl (g_ld rfl rfl rfl) ?_); (refine jA 9 rfl ?_; (refine c_rt rfl rfl rfl (cx_nm2 _) rfl ?_); refine jS (bts 28 1023) ?_); refine jT 17 [10] (bts 28 2047) ?_; (refine jG (bts 28 4095) 11 rfl (g_pickF rfl rfl rfl) ?_); refine jT 15 [12] (bts 28 8191) ?_; (try (refine Nx.re (d := 59) (v' := Bo false) rfl (congrArg Value.bool rfl) ?_)); refine jT 12 [13, 14, 15] (bts 28 65535) ?_; (try ((refine Nx.re (d := 62) (v' := Bo true) rfl (congrArg Value.bool (dTt (by omega))) ?_))); refine jU 8 [16, 18, 19, 23] (bts 28 9306111) ?_ ?_; (focus (repeat' (first | exact trivial | apply And.intro | omega))); (refine jG (bts 28 9437183) 17 rfl (g_ld rfl rfl rfl) ?_); (refine jG (bts 28 10485759) 20 rfl (g_iaddr rfl rfl (by omega)) ?_); refine jT 5 [21] (bts 28 12582911) ?_; ((refine jG (bts 28 16777215) 22 rfl (g_ldRF rfl rfl (by assumption) ?_ rfl rfl) ?_; (focus ((omega); done)))); (refine jG (bts 28 33554431) 24 rfl (g_ld rfl rfl rfl) ?_); refine jT 2 [25] (bts 28 67108863) ?_; (refine jG (bts 28 134217727) 26 rfl (g_pickT rfl rfl rfl) ?_); (refine jG (bts 28 268435455) 27 rfl (g_pickF rfl rfl rfl) ?_); refine x_done (by kernel_rfl) (k_bk ?_)))
     all_goals refine Nx.base hok hB ?_
     all_goals refine jZ (vs := [_]) rfl ⟨rfl, trivial⟩ rfl ⟨rfl, rfl, ?_⟩
     all_goals rw [oneOf_one, svc_no hi hb]
    ·have hb : goodAt s a (j + 1) = true := by simp [goodAt, mtOk, e1, e2, e3, e5]
     have e6 : Op.bytesLess (nth a (((j + 1 : Nat) : Int) - 1).toNat).1 (nth a (j + 1)).1 = true := by rw [ej]; exact e5
     repeat' (first | refine jM ?_ | (refine k_op rfl ?_; first | refine jV (g_ld rfl rfl rfl) ?_ | (refine jV (g_ldR rfl rfl (by assumption) ?_) ?_; (focus ((omega); done))) | refine jV (g_lenL rfl) ?_ | (refine jV (g_iaddrN rfl rfl (by omega)) ?_) | refine c_al rfl rfl fun _ => ?_ | refine c_stA rfl rfl rfl rfl rfl rfl ?_ | (refine c_fns rfl rfl rfl (cx_lk1 _) rfl ?_; rintro _ G hle ⟨u1, rfl⟩; ((try have sa := Seg.mono sa hle); (try have hg := Gh.le.trans hg hle))) | (refine c_fns rfl rfl rfl (cx_lk2 _) rfl ?_; rintro _ G hle ⟨u2, rfl⟩; ((try have sa := Seg.mono sa hle); (try have hg := Gh.le.trans hg hle)))) | (refine k_tt rfl (dTt (by omega)) ?_) | (refine k_ff rfl ?_ ?_; (focus ((simp [*]; done); done))) | (refine k_any (s_any (id := 9) _ (fun _ h => h) mixed ?_); refine jT 25 [0, 1, 2] (bts 28 7) ?_; (try (refine Nx.re (d := 49) (v' := Bo false) rfl (congrArg Value.bool rfl) ?_)); refine jT 23 [3, 4] (bts 28 31) ?_; (refine jG (bts 28 63) 5 rfl (g_pickF rfl rfl rfl) ?_); refine jT 21 [6] (bts 28 127) ?_; (try (refine Nx.re (d := 53) (v' := Bo false) rfl (congrArg Value.bool rfl) ?_)); refine jT 20 [7] (bts 28 255) ?_; (refine jG (bts 28 511) 8 rfl (g_ld rfl rfl rfl) ?_); (refine jA 9 rfl ?_; (refine c_rt rfl rfl rfl (cx_nm2 _) rfl ?_); refine jS (bts 28 1023) ?_); refine jT 17 [10] (bts 28 2047) ?_; (refine jG (bts 28 4095) 11 rfl (g_pickF rfl rfl rfl) ?_); refine jT 15 [12] (bts 28 8191) ?_; (try (refine Nx.re (d := 59) (v' := Bo false) rfl (congrArg Value.bool rfl) ?_)); refine jT 12 [13, 14, 15] (bts 28 65535) ?_; (try ((refine Nx.re (d := 62) (v' := Bo true) rfl (congrArg Value.bool (dTt (by omega))) ?_))); refine jU 8 [16, 18, 19, 23] (bts 28 9306111) ?_ ?_; (focus (repeat' (first | exact trivial | apply And.intro | omega))); (refine jG (bts 28 9437183) 17 rfl (g_ld rfl rfl rfl) ?_); (refine jG (bts 28 10485759) 20 rfl (g_iaddr rfl rfl (by omega)) ?_); refine jT 5 [21] (bts 28 12582911) ?_; ((refine jG (bts 28 16777215) 22 rfl (g_ldRF rfl rfl (by assumption) ?_ rfl rfl) ?_; (focus ((omega); done)))); (refine jG (bts 28 33554431) 24 rfl (g_ld rfl rfl rfl) ?_); refine jT 2 [25] (bts 28 67108863) ?_; (refine jG (bts 28 134217727) 26 rfl (g_pickT rfl rfl rfl) ?_); (refine jG (bts 28 268435455) 27 rfl (g_pickF rfl rfl rfl) ?_); refine x_done (by kernel_rfl) (k_bk ?_)))
     all_goals
      refine k_rd (j + 1 + 1, G) ⟨⟨by dsimp only; omega, hg⟩, fun k hk => ?_⟩ (by dsimp only; omega) (by repeat' constructor) rfl (by repeat (first | exact List.Sublist.refl _ | apply List.Sublist.cons))
      rcases Nat.lt_or_ge k (j + 1) with h1 | h1
      ·exact hgood k h1
      ·have : k = j + 1 := by dsimp only at hk; omega
       subst this; exact hb
  all_goals
   have hb : goodAt s a i = false := by simp [goodAt, mtOk, e1, e2, e3]
   repeat' (first | (refine jR ?_) | (refine k_op rfl ?_; first | refine jV (g_ld rfl rfl rfl) ?_ | (refine jV (g_ldR rfl rfl (by assumption) ?_) ?_; (focus ((omega); done))) | refine jV (g_lenL rfl) ?_ | (refine jV (g_iaddrN rfl rfl (by omega)) ?_) | refine c_al rfl rfl fun _ => ?_ | refine c_stA rfl rfl rfl rfl rfl rfl ?_ | (refine c_fns rfl rfl rfl (cx_lk1 _) rfl ?_; rintro _ G hle ⟨u1, rfl⟩; ((try have sa := Seg.mono sa hle); (try have hg := Gh.le.trans hg hle))) | (refine c_fns rfl rfl rfl (cx_lk2 _) rfl ?_; rintro _ G hle ⟨u2, rfl⟩; ((try have sa := Seg.mono sa hle); (try have hg := Gh.le.trans hg hle)))) | (refine k_tt rfl (by first | rfl | (refine decide_eq_true ?_; (omega))) ?_) | (refine k_any (s_any (id := 9) _ (fun _ h => h) mixed ?_); refine jT 25 [0, 1, 2] (bts 28 7) ?_; (try (first | (refine Nx.re (d := 49) (v' := Bo true) rfl (congrArg Value.bool rfl) ?_) | (refine Nx.re (d := 49) (v' := Bo false) rfl (congrArg Value.bool rfl) ?_))); refine jT 23 [3, 4] (bts 28 31) ?_; (first | (refine jG (bts 28 63) 5 rfl (g_pickT rfl rfl rfl) ?_) | (refine jG (bts 28 63) 5 rfl (g_pickF rfl rfl rfl) ?_)); refine jT 21 [6] (bts 28 127) ?_; (try (first | (refine Nx.re (d := 53) (v' := Bo true) rfl (congrArg Value.bool rfl) ?_) | (refine Nx.re (d := 53) (v' := Bo false) rfl (congrArg Value.bool rfl) ?_))); refine jT 20 [7] (bts 28 255) ?_; (first | refine jG (bts 28 511) 8 rfl (g_ld rfl rfl rfl) ?_ | refine jN (bts 28 511) 8 rfl ?_); (first | refine jN (bts 28 1023) 9 rfl ?_ | (refine jA 9 rfl ?_; (refine c_rt rfl rfl rfl (cx_nm2 _) rfl ?_); refine jS (bts 28 1023) ?_)); refine jT 17 [10] (bts 28 2047) ?_; (first | (refine jG (bts 28 4095) 11 rfl (g_pickT rfl rfl rfl) ?_) | (refine jG (bts 28 4095) 11 rfl (g_pickF rfl rfl rfl) ?_)); refine jT 15 [12] (bts 28 8191) ?_; (try (refine Nx.re (d := 59) (v' := Bo true) rfl (congrArg Value.bool rfl) ?_)); refine jT 12 [13, 14, 15] (bts 28 65535) ?_; (try (fail)); refine jT 8 [16, 18, 19, 23] (bts 28 9306111) ?_; (refine jN (bts 28 9437183) 17 rfl ?_); (refine jN (bts 28 10485759) 20 rfl ?_); refine jT 5 [21] (bts 28 12582911) ?_; (refine jN (bts 28 16777215) 22 rfl ?_); (refine jN (bts 28 33554431) 24 rfl ?_); refine jT 2 [25] (bts 28 67108863) ?_; (refine jN (bts 28 134217727) 26 rfl ?_); (refine jG (bts 28 268435455) 27 rfl (g_pickT rfl rfl rfl) ?_); refine x_done (by kernel_rfl) (k_bk ?_)))
   refine Nx.base hok hB ?_
   refine jZ (vs := [_]) rfl ⟨rfl, trivial⟩ rfl ⟨rfl, rfl, ?_⟩
   rw [oneOf_one, svc_no hi hb]
 ·repeat' (first | (refine jR ?_) | (refine k_op rfl ?_; first | refine jV (g_ld rfl rfl rfl) ?_ | refine jV (g_lenV rfl (by assumption)) ?_) | (refine k_ff rfl (dFf (by omega)) ?_))
  refine Nx.base hok hB ?_
  refine jZ (vs := [_]) rfl ⟨rfl, trivial⟩ rfl ⟨rfl, rfl, ?_⟩
  rw [oneOf_one, svc_yes (by simpa using h1) (by omega) (fun k hk => hgood k (by omega))]
abbrev tSv2 : TypeId := 30
theorem c_ServiceOkI {s : List UInt8} {u : Value} {a : List Mt} (h : s.length ≤ 1048576) (hu : SlV G u 3 a.length (rows mtF a)) (hn : a.length ≤ 1048576) (ha : ∀ x ∈ a, MtL x) :
  PuG Tryz.prog 33 [Ag [S s, u]] G (· = Bo (svcOk s a)) := by
 have hs : s.length ≤ 10000000 := by omega
 refine jB (Post := fun v G' L' => G' = G ∧ L' = [] ∧ _) [(0, _)] Tryz.func33 Tryz.ntmps33 fun B hok hB hW => ?_
 repeat' (first | (refine jR ?_) | (refine k_op rfl ?_; first | refine c_bx rfl rfl rfl fun _ => ?_ | refine jV (g_ld rfl rfl rfl) ?_ | refine jV (g_lenV rfl (by assumption)) ?_ | (refine jV (g_pickT rfl rfl rfl) ?_) | (refine jV (g_pickF rfl rfl rfl) ?_) | (refine c_rt rfl rfl rfl (c_SchemaOkI (by omega)) rfl ?_)) | refine k_gb rfl rfl (fun _ => ?_) (fun _ => ?_) | (refine k_tt rfl rfl ?_) | refine k_if rfl (fun _ => ?_) (fun _ => ?_))
 ·rename_i h1
  refine Nx.base hok hB ?_
  refine jZ (vs := [_]) rfl ⟨rfl, trivial⟩ rfl ⟨rfl, rfl, ?_⟩
  have h2 : (schemaOf s).isSome = false := by simpa using h1
  unfold svcOk; rw [h2]; rfl
 ·rename_i h1
  refine Nx.base hok hB ?_
  refine jZ (vs := [_]) rfl ⟨rfl, trivial⟩ rfl ⟨rfl, rfl, ?_⟩
  have h2 : decide (a.length ≤ 6) = false := by simp; omega
  unfold svcOk; rw [h2]; simp
 rename_i x h1 h2
 refine k_loop (ι := Nat × Gh) (fun i => (i.1 ≤ a.length ∧ Gh.le G i.2) ∧ ∀ k, k < i.1 → goodAt s a k = true) (fun i => [(1, Pt x 0), (22, u), (23, I a.length), (24, I i.1)]) (fun i => i.2) (fun i => [.blk x (.cells #[S s, u] tSv2 (0, 0))]) (fun i => a.length - i.1) (0, G) ?_ (by repeat' constructor) rfl sRr (fun i Hi => ?_)
 ·exact ⟨⟨Nat.zero_le _, Gh.le.refl _⟩, fun k hk => absurd hk (by simp)⟩
 obtain ⟨i, G1⟩ := i
 dsimp only at Hi ⊢
 obtain ⟨⟨hi1, hg⟩, hgood⟩ := Hi
 by_cases hi : i < a.length
 ·obtain ⟨ba, oa, ca, rfl, sa⟩ := (hu.mono hg).expl (by omega)
  have hx := ha _ (nth_mem hi)
  cases e1 : kindS s (nth a i).2.1 <;> cases e2 : kindS s (nth a i).2.2 <;> cases e3 : isNm (nth a i).1
  all_goals
   have cx_bo1 : ∀ G, FnS Tryz.prog 55 [S s, S (nth a i).2.1] G (fun v _ => ∃ p a' b c, v = Tu [p, Ag [S a', S b, S c], Bo (kindS s (nth a i).2.1)]) := fun G => by
    refine (c_both (G := G) hs (by omega)).mono ?_
    rintro v G' L' ⟨h1, h2, ⟨h3, p, a', b, c, rfl⟩ | ⟨b, qs, rfl, h3, h4, _⟩⟩
    ·exact ⟨h1, h2, p, a', b, c, by rw [h3]⟩
    ·exact ⟨h1, h2, _, _, _, _, by unfold kindS; rw [h3]; dsimp only; rw [h4]; rfl⟩
   have cx_bo2 : ∀ G, FnS Tryz.prog 55 [S s, S (nth a i).2.2] G (fun v _ => ∃ p a' b c, v = Tu [p, Ag [S a', S b, S c], Bo (kindS s (nth a i).2.2)]) := fun G => by
    refine (c_both (G := G) hs (by omega)).mono ?_
    rintro v G' L' ⟨h1, h2, ⟨h3, p, a', b, c, rfl⟩ | ⟨b, qs, rfl, h3, h4, _⟩⟩
    ·exact ⟨h1, h2, p, a', b, c, by rw [h3]⟩
    ·exact ⟨h1, h2, _, _, _, _, by unfold kindS; rw [h3]; dsimp only; rw [h4]; rfl⟩
   have cx_nm2 : ∀ G, PuG Tryz.prog 68 [S (nth a i).1] G (· = Bo (isNm (nth a i).1)) := fun G => c_isName (by omega)
   rw [e1] at cx_bo1
   rw [e2] at cx_bo2
   rw [e3] at cx_nm2
  case true.true.true =>
   rcases i with _ | j
   ·repeat' (first | refine jM ?_ | (refine k_op rfl ?_; first | refine jV (g_ld rfl rfl rfl) ?_ | (refine jV (g_ldR rfl rfl (by assumption) ?_) ?_; (focus ((omega); done))) | (refine jV (g_iaddrN rfl rfl (by omega)) ?_) | refine c_al rfl rfl fun _ => ?_ | refine c_stA rfl rfl rfl rfl rfl rfl ?_ | (refine c_fns rfl rfl rfl (cx_bo1 _) rfl ?_; rintro _ G hle ⟨p1, a1, b1, c1, rfl⟩; ((try have sa := Seg.mono sa hle); (try have hg := Gh.le.trans hg hle))) | (refine c_fns rfl rfl rfl (cx_bo2 _) rfl ?_; rintro _ G hle ⟨p2, a2, b2, c2, rfl⟩; ((try have sa := Seg.mono sa hle); (try have hg := Gh.le.trans hg hle)))) | (refine k_tt rfl (dTt (by omega)) ?_) | (refine k_ff rfl rfl ?_) | (refine k_any (s_any (id := 8) _ (fun _ h => h) mixed ?_); refine jT 25 [0, 1, 2] (bts 28 7) ?_; (try (refine Nx.re (d := 49) (v' := Bo false) rfl (congrArg Value.bool rfl) ?_)); refine jT 23 [3, 4] (bts 28 31) ?_; (refine jG (bts 28 63) 5 rfl (g_pickF rfl rfl rfl) ?_); refine jT 21 [6] (bts 28 127) ?_; (try (refine Nx.re (d := 53) (v' := Bo false) rfl (congrArg Value.bool rfl) ?_)); refine jT 20 [7] (bts 28 255) ?_; (refine jG (bts 28 511) 8 rfl (g_ld rfl rfl rfl) ?_); (refine jA 9 rfl ?_; (refine c_rt rfl rfl rfl (cx_nm2 _) rfl ?_); refine jS (bts 28 1023) ?_); refine jT 17 [10] (bts 28 2047) ?_; (refine jG (bts 28 4095) 11 rfl (g_pickF rfl rfl rfl) ?_); refine jT 15 [12] (bts 28 8191) ?_; (try (refine Nx.re (d := 59) (v' := Bo false) rfl (congrArg Value.bool rfl) ?_)); refine jT 12 [13, 14, 15] (bts 28 65535) ?_; (try (refine Nx.re (d := 62) (v' := Bo false) rfl (congrArg Value.bool rfl) ?_)); refine jT 8 [16, 18, 19, 23] (bts 28 9306111) ?_; (refine jN (bts 28 9437183) 17 rfl ?_); (refine jN (bts 28 10485759) 20 rfl ?_); refine jT 5 [21] (bts 28 12582911) ?_; (refine jN (bts 28 16777215) 22 rfl ?_); (refine jN (bts 28 33554431) 24 rfl ?_); refine jT 2 [25] (bts 28 67108863) ?_; (refine jG (bts 28 134217727) 26 rfl (g_pickF rfl rfl rfl) ?_); (refine jG (bts 28 268435455) 27 rfl (g_pickF rfl rfl rfl) ?_); refine x_done (by kernel_rfl) (k_bk ?_)))
    refine k_rd (1, G) ⟨⟨by dsimp only; omega, hg⟩, fun k hk => ?_⟩ (by dsimp only; omega) (by repeat' constructor) rfl (by repeat (first | exact List.Sublist.refl _ | apply List.Sublist.cons))
    have : k = 0 := by dsimp only at hk; omega
    subst this
    simp [goodAt, mtOk, e1, e2, e3]
   ·have ej : ((((j + 1 : Nat) : Int) - 1).toNat) = j := by omega
    cases e5 : Op.bytesLess (nth a j).1 (nth a (j + 1)).1
    ·have hb : goodAt s a (j + 1) = false := by simp [goodAt, e5]
     have e6 : Op.bytesLess (nth a (((j + 1 : Nat) : Int) - 1).toNat).1 (nth a (j + 1)).1 = false := by rw [ej]; exact e5
     repeat' (first | (refine jR ?_) | (refine k_op rfl ?_; first | refine jV (g_ld rfl rfl rfl) ?_ | (refine jV (g_ldR rfl rfl (by assumption) ?_) ?_; (focus ((omega); done))) | (refine jV (g_iaddrN rfl rfl (by omega)) ?_) | refine c_al rfl rfl fun _ => ?_ | refine c_stA rfl rfl rfl rfl rfl rfl ?_ | (refine c_fns rfl rfl rfl (cx_bo1 _) rfl ?_; rintro _ G hle ⟨p1, a1, b1, c1, rfl⟩; ((try have sa := Seg.mono sa hle); (try have hg := Gh.le.trans hg hle))) | (refine c_fns rfl rfl rfl (cx_bo2 _) rfl ?_; rintro _ G hle ⟨p2, a2, b2, c2, rfl⟩; ((try have sa := Seg.mono sa hle); (try have hg := Gh.le.trans hg hle)))) | (refine k_tt rfl ?_ ?_; (focus ((first | (refine decide_eq_true ?_; (omega)) | (simp [*]; done)); done))) | (refine k_any (s_any (id := 8) _ (fun _ h => h) mixed ?_); refine jT 25 [0, 1, 2] (bts 28 7) ?_; (try (refine Nx.re (d := 49) (v' := Bo false) rfl (congrArg Value.bool rfl) ?_)); refine jT 23 [3, 4] (bts 28 31) ?_; (refine jG (bts 28 63) 5 rfl (g_pickF rfl rfl rfl) ?_); refine jT 21 [6] (bts 28 127) ?_; (try (refine Nx.re (d := 53) (v' := Bo false) rfl (congrArg Value.bool rfl) ?_)); refine jT 20 [7] (bts 28 255) ?_; (refine jG (bts 28 511) 8 rfl (g_ld rfl rfl rfl) ?_); (refine jA 9 rfl ?_; (refine c_rt rfl rfl rfl (cx_nm2 _) rfl ?_); refine jS (bts 28 1023) ?_); refine jT 17 [10] (bts 28 2047) ?_; (refine jG (bts 28 4095) 11 rfl (g_pickF rfl rfl rfl) ?_); refine jT 15 [12] (bts 28 8191) ?_; (try (refine Nx.re (d := 59) (v' := Bo false) rfl (congrArg Value.bool rfl) ?_)); refine jT 12 [13, 14, 15] (bts 28 65535) ?_; (try ((refine Nx.re (d := 62) (v' := Bo true) rfl (congrArg Value.bool (dTt (by omega))) ?_))); refine jU 8 [16, 18, 19, 23] (bts 28 9306111) ?_ ?_; (focus (repeat' (first | exact trivial | apply And.intro | omega))); (refine jG (bts 28 9437183) 17 rfl (g_ld rfl rfl rfl) ?_); (refine jG (bts 28 10485759) 20 rfl (g_iaddr rfl rfl (by omega)) ?_); refine jT 5 [21] (bts 28 12582911) ?_; ((refine jG (bts 28 16777215) 22 rfl (g_ldRF rfl rfl (by assumption) ?_ rfl rfl) ?_; (focus ((omega); done)))); (refine jG (bts 28 33554431) 24 rfl (g_ld rfl rfl rfl) ?_); refine jT 2 [25] (bts 28 67108863) ?_; (refine jG (bts 28 134217727) 26 rfl (g_pickT rfl rfl rfl) ?_); (refine jG (bts 28 268435455) 27 rfl (g_pickF rfl rfl rfl) ?_); refine x_done (by kernel_rfl) (k_bk ?_)))
     all_goals refine Nx.base hok hB ?_
     all_goals refine jZ (vs := [_]) rfl ⟨rfl, trivial⟩ rfl ⟨rfl, rfl, ?_⟩
     all_goals rw [oneOf_one, svc_no hi hb]
    ·have hb : goodAt s a (j + 1) = true := by simp [goodAt, mtOk, e1, e2, e3, e5]
     have e6 : Op.bytesLess (nth a (((j + 1 : Nat) : Int) - 1).toNat).1 (nth a (j + 1)).1 = true := by rw [ej]; exact e5
     repeat' (first | refine jM ?_ | (refine k_op rfl ?_; first | refine jV (g_ld rfl rfl rfl) ?_ | (refine jV (g_ldR rfl rfl (by assumption) ?_) ?_; (focus ((omega); done))) | (refine jV (g_iaddrN rfl rfl (by omega)) ?_) | refine c_al rfl rfl fun _ => ?_ | refine c_stA rfl rfl rfl rfl rfl rfl ?_ | (refine c_fns rfl rfl rfl (cx_bo1 _) rfl ?_; rintro _ G hle ⟨p1, a1, b1, c1, rfl⟩; ((try have sa := Seg.mono sa hle); (try have hg := Gh.le.trans hg hle))) | (refine c_fns rfl rfl rfl (cx_bo2 _) rfl ?_; rintro _ G hle ⟨p2, a2, b2, c2, rfl⟩; ((try have sa := Seg.mono sa hle); (try have hg := Gh.le.trans hg hle)))) | (refine k_tt rfl (dTt (by omega)) ?_) | (refine k_ff rfl ?_ ?_; (focus ((simp [*]; done); done))) | (refine k_any (s_any (id := 8) _ (fun _ h => h) mixed ?_); refine jT 25 [0, 1, 2] (bts 28 7) ?_; (try (refine Nx.re (d := 49) (v' := Bo false) rfl (congrArg Value.bool rfl) ?_)); refine jT 23 [3, 4] (bts 28 31) ?_; (refine jG (bts 28 63) 5 rfl (g_pickF rfl rfl rfl) ?_); refine jT 21 [6] (bts 28 127) ?_; (try (refine Nx.re (d := 53) (v' := Bo false) rfl (congrArg Value.bool rfl) ?_)); refine jT 20 [7] (bts 28 255) ?_; (refine jG (bts 28 511) 8 rfl (g_ld rfl rfl rfl) ?_); (refine jA 9 rfl ?_; (refine c_rt rfl rfl rfl (cx_nm2 _) rfl ?_); refine jS (bts 28 1023) ?_); refine jT 17 [10] (bts 28 2047) ?_; (refine jG (bts 28 4095) 11 rfl (g_pickF rfl rfl rfl) ?_); refine jT 15 [12] (bts 28 8191) ?_; (try (refine Nx.re (d := 59) (v' := Bo false) rfl (congrArg Value.bool rfl) ?_)); refine jT 12 [13, 14, 15] (bts 28 65535) ?_; (try ((refine Nx.re (d := 62) (v' := Bo true) rfl (congrArg Value.bool (dTt (by omega))) ?_))); refine jU 8 [16, 18, 19, 23] (bts 28 9306111) ?_ ?_; (focus (repeat' (first | exact trivial | apply And.intro | omega))); (refine jG (bts 28 9437183) 17 rfl (g_ld rfl rfl rfl) ?_); (refine jG (bts 28 10485759) 20 rfl (g_iaddr rfl rfl (by omega)) ?_); refine jT 5 [21] (bts 28 12582911) ?_; ((refine jG (bts 28 16777215) 22 rfl (g_ldRF rfl rfl (by assumption) ?_ rfl rfl) ?_; (focus ((omega); done)))); (refine jG (bts 28 33554431) 24 rfl (g_ld rfl rfl rfl) ?_); refine jT 2 [25] (bts 28 67108863) ?_; (refine jG (bts 28 134217727) 26 rfl (g_pickT rfl rfl rfl) ?_); (refine jG (bts 28 268435455) 27 rfl (g_pickF rfl rfl rfl) ?_); refine x_done (by kernel_rfl) (k_bk ?_)))
     all_goals
      refine k_rd (j + 1 + 1, G) ⟨⟨by dsimp only; omega, hg⟩, fun k hk => ?_⟩ (by dsimp only; omega) (by repeat' constructor) rfl (by repeat (first | exact List.Sublist.refl _ | apply List.Sublist.cons))
      rcases Nat.lt_or_ge k (j + 1) with h1 | h1
      ·exact hgood k h1
      ·have : k = j + 1 := by dsimp only at hk; omega
       subst this; exact hb
  all_goals
   have hb : goodAt s a i = false := by simp [goodAt, mtOk, e1, e2, e3]
   repeat' (first | (refine jR ?_) | (refine k_op rfl ?_; first | refine jV (g_ld rfl rfl rfl) ?_ | (refine jV (g_ldR rfl rfl (by assumption) ?_) ?_; (focus ((omega); done))) | (refine jV (g_iaddrN rfl rfl (by omega)) ?_) | refine c_al rfl rfl fun _ => ?_ | refine c_stA rfl rfl rfl rfl rfl rfl ?_ | (refine c_fns rfl rfl rfl (cx_bo1 _) rfl ?_; rintro _ G hle ⟨p1, a1, b1, c1, rfl⟩; ((try have sa := Seg.mono sa hle); (try have hg := Gh.le.trans hg hle))) | (refine c_fns rfl rfl rfl (cx_bo2 _) rfl ?_; rintro _ G hle ⟨p2, a2, b2, c2, rfl⟩; ((try have sa := Seg.mono sa hle); (try have hg := Gh.le.trans hg hle)))) | (refine k_tt rfl (by first | rfl | (refine decide_eq_true ?_; (omega))) ?_) | (refine k_any (s_any (id := 8) _ (fun _ h => h) mixed ?_); refine jT 25 [0, 1, 2] (bts 28 7) ?_; (try (first | (refine Nx.re (d := 49) (v' := Bo true) rfl (congrArg Value.bool rfl) ?_) | (refine Nx.re (d := 49) (v' := Bo false) rfl (congrArg Value.bool rfl) ?_))); refine jT 23 [3, 4] (bts 28 31) ?_; (first | (refine jG (bts 28 63) 5 rfl (g_pickT rfl rfl rfl) ?_) | (refine jG (bts 28 63) 5 rfl (g_pickF rfl rfl rfl) ?_)); refine jT 21 [6] (bts 28 127) ?_; (try (first | (refine Nx.re (d := 53) (v' := Bo true) rfl (congrArg Value.bool rfl) ?_) | (refine Nx.re (d := 53) (v' := Bo false) rfl (congrArg Value.bool rfl) ?_))); refine jT 20 [7] (bts 28 255) ?_; (first | refine jG (bts 28 511) 8 rfl (g_ld rfl rfl rfl) ?_ | refine jN (bts 28 511) 8 rfl ?_); (first | refine jN (bts 28 1023) 9 rfl ?_ | (refine jA 9 rfl ?_; (refine c_rt rfl rfl rfl (cx_nm2 _) rfl ?_); refine jS (bts 28 1023) ?_)); refine jT 17 [10] (bts 28 2047) ?_; (first | (refine jG (bts 28 4095) 11 rfl (g_pickT rfl rfl rfl) ?_) | (refine jG (bts 28 4095) 11 rfl (g_pickF rfl rfl rfl) ?_)); refine jT 15 [12] (bts 28 8191) ?_; (try (refine Nx.re (d := 59) (v' := Bo true) rfl (congrArg Value.bool rfl) ?_)); refine jT 12 [13, 14, 15] (bts 28 65535) ?_; (try (fail)); refine jT 8 [16, 18, 19, 23] (bts 28 9306111) ?_; (refine jN (bts 28 9437183) 17 rfl ?_); (refine jN (bts 28 10485759) 20 rfl ?_); refine jT 5 [21] (bts 28 12582911) ?_; (refine jN (bts 28 16777215) 22 rfl ?_); (refine jN (bts 28 33554431) 24 rfl ?_); refine jT 2 [25] (bts 28 67108863) ?_; (refine jN (bts 28 134217727) 26 rfl ?_); (refine jG (bts 28 268435455) 27 rfl (g_pickT rfl rfl rfl) ?_); refine x_done (by kernel_rfl) (k_bk ?_)))
   refine Nx.base hok hB ?_
   refine jZ (vs := [_]) rfl ⟨rfl, trivial⟩ rfl ⟨rfl, rfl, ?_⟩
   rw [oneOf_one, svc_no hi hb]
 ·repeat' (first | (refine jR ?_) | (refine k_ff rfl (dFf (by omega)) ?_))
  refine Nx.base hok hB ?_
  refine jZ (vs := [_]) rfl ⟨rfl, trivial⟩ rfl ⟨rfl, rfl, ?_⟩
  rw [oneOf_one, svc_yes (by simpa using h1) (by omega) (fun k hk => hgood k (by omega))]
def mFind (a : List Mt) (x : List UInt8) : Option Mt := a.find? fun m => decide (m.1 = x)
theorem mFind_at {a : List Mt} {x : List UInt8} {i : Nat} (hi : i < a.length) (hno : ∀ k, k < i → (nth a k).1 ≠ x) (h : (nth a i).1 = x) : mFind a x = some (nth a i) :=
 find_at hi (fun k hk => by simpa using hno k hk) (by simpa using h)
theorem mFind_no {a : List Mt} {x : List UInt8} (hno : ∀ k, k < a.length → (nth a k).1 ≠ x) : mFind a x = none := find_no fun k hk => by simpa using hno k hk
abbrev zM : Mt := ([], [], [])
abbrev tMfS : TypeId := 48
abbrev tSfS : TypeId := 30
theorem c_findS {s x : List UInt8} {u : Value} {a : List Mt} (hu : SlV G u 3 a.length (rows mtF a)) (hn : a.length ≤ 1048576) :
  PuG Tryz.prog 27 [Ag [S s, u], S x] G (· = Tu [Ag (mtF ((mFind a x).getD zM)), Bo (mFind a x).isSome]) := by
 refine jE [(0, _), (1, _)] Tryz.func27 Tryz.ntmps27 fun B hB => ?_
 repeat' (first | (refine jR ?_) | (refine k_op rfl ?_; first | refine c_bx rfl rfl rfl fun _ => ?_ | refine c_al rfl rfl fun _ => ?_))
 rename_i x2 x4
 refine k_loop (ι := Nat) (fun i => i ≤ a.length ∧ ∀ k, k < i → (nth a k).1 ≠ x) (fun i => [(1, S x), (2, Pt x2 0), (4, Pt x4 0), (6, I i)]) (fun _ => G) (fun i => [.blk x4 (.cells (List.toArray [S [], S [], S []]) tMfS (0, 0)), .blk x2 (.cells (List.toArray [S s, u]) tSfS (0, 0))]) (fun i => a.length - i) 0 ?_ (by repeat' constructor) rfl sRr (fun i Hi => ?_)
 ·exact ⟨Nat.zero_le _, fun k hk => absurd hk (by omega)⟩
 by_cases hi : i < a.length
 ·obtain ⟨ba, oa, ca, rfl, sa⟩ := hu.expl (by omega)
  repeat' (first | refine jM ?_ | (refine k_op rfl ?_; first | refine jV (g_ld rfl rfl rfl) ?_ | (refine jV (g_ldR rfl rfl (by assumption) ?_) ?_; (focus ((omega); done))) | (refine jV (g_ldRF rfl rfl (by assumption) ?_ rfl rfl) ?_; (focus ((omega); done))) | refine jV (g_lenL rfl) ?_ | (refine jV (g_iaddrN rfl rfl (by omega)) ?_) | refine c_stA rfl rfl rfl rfl rfl rfl ?_) | (refine k_tt rfl (dTt (by omega)) ?_) | refine k_if rfl (fun _ => ?_) (fun _ => ?_))
  ·rename_i he
   refine jZ (vs := [_, _]) rfl ⟨rc_A rfl rfl rfl rfl, rfl, trivial⟩ rfl ⟨rfl, rfl, ?_⟩
   rw [mFind_at hi Hi.2 he]; rfl
  ·rename_i he
   refine k_rd (i + 1) ⟨by omega, fun k hk => ?_⟩ (by omega) (by repeat' constructor) rfl sRr
   rcases Nat.lt_or_ge k i with h3 | h3
   ·exact Hi.2 k h3
   ·have : k = i := by omega
    subst this; exact he
 ·repeat' (first | (refine jR ?_) | (refine k_op rfl ?_; first | refine jV (g_ld rfl rfl rfl) ?_ | refine jV (g_lenV rfl (by assumption)) ?_ | refine c_stA rfl rfl rfl rfl rfl rfl ?_ | refine jV (g_bld rfl rfl) ?_) | (refine k_ff rfl (dFf (by omega)) ?_))
  refine jZ (vs := [_, _]) rfl ⟨rc_A rfl rfl rfl rfl, rfl, trivial⟩ rfl ⟨rfl, rfl, ?_⟩
  rw [mFind_no fun k hk => Hi.2 k (by omega)]; rfl
abbrev tMfI : TypeId := 48
abbrev tSfI : TypeId := 30
theorem c_method {s x : List UInt8} {u : Value} {a : List Mt} (hu : SlV G u 3 a.length (rows mtF a)) (hn : a.length ≤ 1048576) :
  PuG Tryz.prog 32 [Ag [S s, u], S x] G (· = Tu [Ag (mtF ((mFind a x).getD zM)), Bo (mFind a x).isSome]) := by
 refine jE [(0, _), (1, _)] Tryz.func32 Tryz.ntmps32 fun B hB => ?_
 repeat' (first | (refine jR ?_) | (refine k_op rfl ?_; first | refine c_bx rfl rfl rfl fun _ => ?_ | refine c_al rfl rfl fun _ => ?_ | refine jV (g_ld rfl rfl rfl) ?_ | refine jV (g_lenV rfl (by assumption)) ?_))
 rename_i x2 x4
 refine k_loop (ι := Nat) (fun i => i ≤ a.length ∧ ∀ k, k < i → (nth a k).1 ≠ x) (fun i => [(1, S x), (2, Pt x2 0), (4, Pt x4 0), (9, u), (10, I a.length), (11, I i)]) (fun _ => G) (fun i => [.blk x4 (.cells (List.toArray [S [], S [], S []]) tMfI (0, 0)), .blk x2 (.cells (List.toArray [S s, u]) tSfI (0, 0))]) (fun i => a.length - i) 0 ?_ (by repeat' constructor) rfl sRr (fun i Hi => ?_)
 ·exact ⟨Nat.zero_le _, fun k hk => absurd hk (by omega)⟩
 by_cases hi : i < a.length
 ·obtain ⟨ba, oa, ca, rfl, sa⟩ := hu.expl (by omega)
  repeat' (first | refine jM ?_ | (refine k_op rfl ?_; first | refine c_al rfl rfl fun _ => ?_ | refine jV (g_ld rfl rfl rfl) ?_ | (refine jV (g_ldR rfl rfl (by assumption) ?_) ?_; (focus ((omega); done))) | refine jV (g_ldA rfl rfl rfl rfl) ?_ | (refine jV (g_iaddrN rfl rfl (by omega)) ?_) | refine c_stA rfl rfl rfl rfl rfl rfl ?_) | (refine k_tt rfl (dTt (by omega)) ?_) | refine k_if rfl (fun _ => ?_) (fun _ => ?_))
  ·rename_i he
   refine jZ (vs := [_, _]) rfl ⟨rc_A rfl rfl rfl rfl, rfl, trivial⟩ rfl ⟨rfl, rfl, ?_⟩
   rw [mFind_at hi Hi.2 he]; rfl
  ·rename_i he
   refine k_rd (i + 1) ⟨by omega, fun k hk => ?_⟩ (by omega) (by repeat' constructor) rfl (by repeat (first | exact List.Sublist.refl _ | apply List.Sublist.cons))
   rcases Nat.lt_or_ge k i with h3 | h3
   ·exact Hi.2 k h3
   ·have : k = i := by omega
    subst this; exact he
 ·repeat' (first | (refine jR ?_) | (refine k_op rfl ?_; first | refine c_stA rfl rfl rfl rfl rfl rfl ?_ | refine jV (g_bld rfl rfl) ?_) | (refine k_ff rfl (dFf (by omega)) ?_))
  refine jZ (vs := [_, _]) rfl ⟨rc_A rfl rfl rfl rfl, rfl, trivial⟩ rfl ⟨rfl, rfl, ?_⟩
  rw [mFind_no fun k hk => Hi.2 k (by omega)]; rfl
end Go.E
namespace Go.E
set_option maxRecDepth 20000
set_option maxHeartbeats 2000000
open Go.Proofs
variable {G : Gh}
def sndPut (s : List UInt8) (a : List Mt) (n : Int) (x : List UInt8) (out : Bool) (w : List UInt8) : List UInt8 × Bool := match mFind a x with
 | some m => if svcOk s a = true ∧ 0 ≤ n ∧ n ≤ 999 then (match bysPut s (bif out then m.2.2 else m.2.1) w with
  | some b => (fpS (numI n ++ (bif out then [0] else numI x.length ++ x) ++ b), fpB (numI n ++ (bif out then [0] else numI x.length ++ x) ++ b))
  | none => ([], false)) else ([], false)
 | none => ([], false)
theorem mFind_nm {s x : List UInt8} {a : List Mt} {m : Mt} (h : svcOk s a = true) (hf : mFind a x = some m) : x.length ≤ 3 := by
 have hm := List.mem_of_find?_eq_some hf
 have he : m.1 = x := by have := List.find?_some hf; simpa using this
 obtain ⟨i, hi, e⟩ := List.getElem_of_mem hm
 unfold svcOk at h
 simp only [Bool.and_eq_true, List.all_eq_true, List.mem_range] at h
 have h1 := h.2 i hi
 unfold goodAt mtOk at h1
 simp only [Bool.and_eq_true] at h1
 have h2 := h1.1.2
 rw [nth_eq hi, e, he] at h2
 unfold isNm at h2
 simp only [Bool.and_eq_true, decide_eq_true_eq] at h2
 exact h2.2.2
theorem numOk_eq {n : Int} {b : Bool} (h : decide (0 ≤ n ∧ n ≤ 999) = b) : (decide (0 ≤ n) && decide (n ≤ 999)) = b := by
 rw [← h]; simp
theorem c_l16Make {s k w hd : List UInt8} {u : Value} {n : Int} (h : (s.length ≤ 1048576 ∧ k.length ≤ 1048576 ∧ w.length ≤ 1048576) ∧ hd.length ≤ 1000) :
  PuG Tryz.prog 29 [Ag [S s, u], I n, S hd, S k, S w] G (· = match bysPut s k w with
   | some b => if 0 ≤ n ∧ n ≤ 999 then Tu [S (fpS (numI n ++ hd ++ b)), Bo (fpB (numI n ++ hd ++ b))] else Tu [S [], Bo false]
   | none => Tu [S [], Bo false]) := by
 obtain ⟨h, hh⟩ := h
 have cx_bp1 := c_BytesPutS (G := G) h
 cases e1 : bysPut s k w with
 | none =>
  rw [e1] at cx_bp1
  dsimp only [Option.getD, Option.isSome] at cx_bp1 ⊢
  refine jE [(0, _), (1, _), (2, _), (3, _), (4, _)] Tryz.func29 Tryz.ntmps29 fun B hB => ?_
  repeat' (first | (refine jR ?_) | (refine k_op rfl ?_; first | refine c_bx rfl rfl rfl fun _ => ?_ | refine jV (g_ld rfl rfl rfl) ?_ | (refine jV (g_pickT rfl rfl rfl) ?_) | (refine c_rt rfl rfl rfl cx_bp1 rfl ?_)) | (refine k_gt rfl rfl rfl ?_) | (refine k_tt rfl rfl ?_))
  all_goals refine jZ (vs := [_, _]) rfl ⟨rfl, rfl, trivial⟩ rfl ⟨rfl, rfl, ?_⟩
  all_goals rfl
 | some b =>
  have hbl := bysPut_len e1
  rw [e1] at cx_bp1
  dsimp only [Option.getD, Option.isSome] at cx_bp1 ⊢
  by_cases hn : 0 ≤ n ∧ n ≤ 999
  ·have cx_nin : PuG Tryz.prog 63 [I n, I 0, I 999] G (· = Bo true) := by
    rw [← numOk_eq (decide_eq_true hn)]; exact c_l6In
   have hl3 := numI_len3 (n := n) (by omega)
   rw [if_pos hn]
   have hl4 : (numI n ++ hd ++ b).length ≤ 9000000000000000000 := by simp; omega
   refine jE [(0, _), (1, _), (2, _), (3, _), (4, _)] Tryz.func29 Tryz.ntmps29 fun B hB => ?_
   repeat' (first | (refine run (t := tb) 400 rfl ?_ ?_; (focus (repeat' (first | exact trivial | apply And.intro | omega | (simp only [List.length_append, List.length_cons, List.length_nil, Int.toNat_natCast]; omega))))) | (refine k_op rfl ?_; first | refine c_bx rfl rfl rfl fun _ => ?_ | refine jV (g_ld rfl rfl rfl) ?_ | (refine jV (g_pickF rfl rfl rfl) ?_) | (refine c_rt rfl rfl rfl cx_bp1 rfl ?_) | (refine c_rt rfl rfl rfl cx_nin rfl ?_) | (refine c_rt rfl rfl rfl (c_l1Put (by omega)) rfl ?_) | (refine c_rt rfl rfl rfl (c_FramePutS ‹_›) rfl ?_)) | (refine k_gf rfl rfl rfl ?_) | (refine k_ff rfl rfl ?_))
   all_goals refine jZ (vs := [_, _]) rfl ⟨rfl, rfl, trivial⟩ rfl ⟨rfl, rfl, ?_⟩
   all_goals rfl
  ·have cx_nin : PuG Tryz.prog 63 [I n, I 0, I 999] G (· = Bo false) := by
    rw [← numOk_eq (decide_eq_false hn)]; exact c_l6In
   rw [if_neg hn]
   refine jE [(0, _), (1, _), (2, _), (3, _), (4, _)] Tryz.func29 Tryz.ntmps29 fun B hB => ?_
   repeat' (first | (refine jR ?_) | (refine k_op rfl ?_; first | refine c_bx rfl rfl rfl fun _ => ?_ | refine jV (g_ld rfl rfl rfl) ?_ | (refine jV (g_pickF rfl rfl rfl) ?_) | (refine c_rt rfl rfl rfl cx_bp1 rfl ?_) | (refine c_rt rfl rfl rfl cx_nin rfl ?_)) | (refine k_gf rfl rfl rfl ?_) | (refine k_tt rfl rfl ?_))
   all_goals refine jZ (vs := [_, _]) rfl ⟨rfl, rfl, trivial⟩ rfl ⟨rfl, rfl, ?_⟩
   all_goals rfl
theorem c_AnswerPutS {s x w : List UInt8} {u : Value} {a : List Mt} {n : Int} (h : s.length ≤ 1048576) (hu : SlV G u 3 a.length (rows mtF a)) (hn : a.length ≤ 1048576) (ha : ∀ x ∈ a, MtL x) (hw : x.length ≤ 1048576 ∧ w.length ≤ 1048576) :
  PuG Tryz.prog 13 [Ag [S s, u], I n, S x, S w] G (· = Tu [S (sndPut s a n x true w).1, Bo (sndPut s a n x true w).2]) := by
 have cx_f0 := c_findS (s := s) (x := x) hu hn
 unfold sndPut
 cases hf : mFind a x with
 | none =>
  rw [hf] at cx_f0
  have cx_find : PuG Tryz.prog 27 [Ag [S s, u], S x] G (· = Tu [Ag [S [], S [], S []], Bo false]) := cx_f0
  refine jE [(0, _), (1, _), (2, _), (3, _)] Tryz.func13 Tryz.ntmps13 fun B hB => ?_
  repeat' (first | (refine jR ?_) | (refine k_op rfl ?_; first | refine c_bx rfl rfl rfl fun _ => ?_ | refine jV (g_ldA rfl rfl rfl rfl) ?_ | refine c_al rfl rfl fun _ => ?_ | refine c_stA rfl rfl rfl rfl rfl rfl ?_ | (refine jV (g_pickT rfl rfl rfl) ?_) | (refine c_rt rfl rfl rfl cx_find rfl ?_)) | (refine k_gt rfl rfl rfl ?_) | (refine k_tt rfl rfl ?_))
  all_goals refine jZ (vs := [_, _]) rfl ⟨rfl, rfl, trivial⟩ rfl ⟨rfl, rfl, ?_⟩
  all_goals rfl
 | some m =>
  rw [hf] at cx_f0
  have cx_find : PuG Tryz.prog 27 [Ag [S s, u], S x] G (· = Tu [Ag [S m.1, S m.2.1, S m.2.2], Bo true]) := cx_f0
  have hxm := ha _ (List.mem_of_find?_eq_some hf)
  have cx_so := c_ServiceOkS h hu hn ha
  dsimp only
  cases e1 : svcOk s a with
  | false =>
   have cx_so1 : PuG Tryz.prog 28 [Ag [S s, u]] G (· = Bo false) := by rw [← e1]; exact cx_so
   clear cx_so
   rw [if_neg (by simp)]
   refine jE [(0, _), (1, _), (2, _), (3, _)] Tryz.func13 Tryz.ntmps13 fun B hB => ?_
   repeat' (first | (refine jR ?_) | (refine k_op rfl ?_; first | refine c_bx rfl rfl rfl fun _ => ?_ | refine jV (g_ldA rfl rfl rfl rfl) ?_ | refine c_al rfl rfl fun _ => ?_ | refine c_stA rfl rfl rfl rfl rfl rfl ?_ | (refine jV (g_pickF rfl rfl rfl) ?_) | (refine c_rt rfl rfl rfl cx_find rfl ?_) | (refine c_rt rfl rfl rfl cx_so1 rfl ?_)) | (refine k_gf rfl rfl rfl ?_) | (refine k_tt rfl rfl ?_))
   all_goals refine jZ (vs := [_, _]) rfl ⟨rfl, rfl, trivial⟩ rfl ⟨rfl, rfl, ?_⟩
   all_goals rfl
  | true =>
   have cx_so1 : PuG Tryz.prog 28 [Ag [S s, u]] G (· = Bo true) := by rw [← e1]; exact cx_so
   clear cx_so
   have cx_mk := c_l16Make (G := G) (s := s) (k := m.2.2) (w := w) (hd := [0]) (u := u) (n := n) ⟨⟨h, by omega, hw.2⟩, by simp⟩
   dsimp only [cond]
   cases e2 : bysPut s m.2.2 w with
   | none =>
    rw [e2] at cx_mk
    dsimp only at cx_mk
    refine jE [(0, _), (1, _), (2, _), (3, _)] Tryz.func13 Tryz.ntmps13 fun B hB => ?_
    repeat' (first | (refine jR ?_) | (refine k_op rfl ?_; first | refine c_bx rfl rfl rfl fun _ => ?_ | refine jV (g_ld rfl rfl rfl) ?_ | refine jV (g_ldA rfl rfl rfl rfl) ?_ | refine c_al rfl rfl fun _ => ?_ | refine c_stA rfl rfl rfl rfl rfl rfl ?_ | (refine jV (g_pickF rfl rfl rfl) ?_) | refine c_bsl rfl rfl rfl rfl rfl rfl fun _ => ?_ | refine jV (g_bsB rfl rfl (by (repeat (first | exact BL.nil | apply BL.lit rfl)); done)) ?_ | (refine c_rt rfl rfl rfl cx_find rfl ?_) | (refine c_rt rfl rfl rfl cx_so1 rfl ?_) | (refine c_rt rfl rfl rfl cx_mk rfl ?_)) | (refine k_gf rfl rfl rfl ?_) | (refine k_ff rfl rfl ?_))
    all_goals refine jZ (vs := [_, _]) rfl ⟨rfl, rfl, trivial⟩ rfl ⟨rfl, rfl, ?_⟩
    all_goals (split <;> rfl)
   | some b =>
    rw [e2] at cx_mk
    dsimp only at cx_mk
    by_cases hno : 0 ≤ n ∧ n ≤ 999
    ·rw [if_pos hno] at cx_mk
     rw [if_pos ⟨rfl, hno⟩]
     refine jE [(0, _), (1, _), (2, _), (3, _)] Tryz.func13 Tryz.ntmps13 fun B hB => ?_
     repeat' (first | (refine jR ?_) | (refine k_op rfl ?_; first | refine c_bx rfl rfl rfl fun _ => ?_ | refine jV (g_ld rfl rfl rfl) ?_ | refine jV (g_ldA rfl rfl rfl rfl) ?_ | refine c_al rfl rfl fun _ => ?_ | refine c_stA rfl rfl rfl rfl rfl rfl ?_ | (refine jV (g_pickF rfl rfl rfl) ?_) | refine c_bsl rfl rfl rfl rfl rfl rfl fun _ => ?_ | refine jV (g_bsB rfl rfl (by (repeat (first | exact BL.nil | apply BL.lit rfl)); done)) ?_ | (refine c_rt rfl rfl rfl cx_find rfl ?_) | (refine c_rt rfl rfl rfl cx_so1 rfl ?_) | (refine c_rt rfl rfl rfl cx_mk rfl ?_)) | (refine k_gf rfl rfl rfl ?_) | (refine k_ff rfl rfl ?_))
     all_goals refine jZ (vs := [_, _]) rfl ⟨rfl, rfl, trivial⟩ rfl ⟨rfl, rfl, ?_⟩
     all_goals rfl
    ·rw [if_neg hno] at cx_mk
     rw [if_neg fun h => hno h.2]
     refine jE [(0, _), (1, _), (2, _), (3, _)] Tryz.func13 Tryz.ntmps13 fun B hB => ?_
     repeat' (first | (refine jR ?_) | (refine k_op rfl ?_; first | refine c_bx rfl rfl rfl fun _ => ?_ | refine jV (g_ld rfl rfl rfl) ?_ | refine jV (g_ldA rfl rfl rfl rfl) ?_ | refine c_al rfl rfl fun _ => ?_ | refine c_stA rfl rfl rfl rfl rfl rfl ?_ | (refine jV (g_pickF rfl rfl rfl) ?_) | refine c_bsl rfl rfl rfl rfl rfl rfl fun _ => ?_ | refine jV (g_bsB rfl rfl (by (repeat (first | exact BL.nil | apply BL.lit rfl)); done)) ?_ | (refine c_rt rfl rfl rfl cx_find rfl ?_) | (refine c_rt rfl rfl rfl cx_so1 rfl ?_) | (refine c_rt rfl rfl rfl cx_mk rfl ?_)) | (refine k_gf rfl rfl rfl ?_) | (refine k_ff rfl rfl ?_))
     all_goals refine jZ (vs := [_, _]) rfl ⟨rfl, rfl, trivial⟩ rfl ⟨rfl, rfl, ?_⟩
     all_goals rfl
theorem c_AnswerPutI {s x w : List UInt8} {u : Value} {a : List Mt} {n : Int} (h : s.length ≤ 1048576) (hu : SlV G u 3 a.length (rows mtF a)) (hn : a.length ≤ 1048576) (ha : ∀ x ∈ a, MtL x) (hw : x.length ≤ 1048576 ∧ w.length ≤ 1048576) :
  PuG Tryz.prog 14 [Ag [S s, u], I n, S x, S w] G (· = Tu [S (sndPut s a n x true w).1, Bo (sndPut s a n x true w).2]) := by
 have cx_f0 := c_method (s := s) (x := x) hu hn
 unfold sndPut
 cases hf : mFind a x with
 | none =>
  rw [hf] at cx_f0
  have cx_find : PuG Tryz.prog 32 [Ag [S s, u], S x] G (· = Tu [Ag [S [], S [], S []], Bo false]) := cx_f0
  refine jE [(0, _), (1, _), (2, _), (3, _)] Tryz.func14 Tryz.ntmps14 fun B hB => ?_
  repeat' (first | (refine jR ?_) | (refine k_op rfl ?_; first | refine c_bx rfl rfl rfl fun _ => ?_ | refine jV (g_ldA rfl rfl rfl rfl) ?_ | refine c_al rfl rfl fun _ => ?_ | refine c_stA rfl rfl rfl rfl rfl rfl ?_ | (refine jV (g_pickT rfl rfl rfl) ?_) | (refine c_rt rfl rfl rfl cx_find rfl ?_)) | (refine k_gt rfl rfl rfl ?_) | (refine k_tt rfl rfl ?_))
  all_goals refine jZ (vs := [_, _]) rfl ⟨rfl, rfl, trivial⟩ rfl ⟨rfl, rfl, ?_⟩
  all_goals rfl
 | some m =>
  rw [hf] at cx_f0
  have cx_find : PuG Tryz.prog 32 [Ag [S s, u], S x] G (· = Tu [Ag [S m.1, S m.2.1, S m.2.2], Bo true]) := cx_f0
  have hxm := ha _ (List.mem_of_find?_eq_some hf)
  have cx_so := c_ServiceOkI h hu hn ha
  dsimp only
  cases e1 : svcOk s a with
  | false =>
   have cx_so1 : PuG Tryz.prog 33 [Ag [S s, u]] G (· = Bo false) := by rw [← e1]; exact cx_so
   clear cx_so
   rw [if_neg (by simp)]
   refine jE [(0, _), (1, _), (2, _), (3, _)] Tryz.func14 Tryz.ntmps14 fun B hB => ?_
   repeat' (first | (refine jR ?_) | (refine k_op rfl ?_; first | refine c_bx rfl rfl rfl fun _ => ?_ | refine jV (g_ldA rfl rfl rfl rfl) ?_ | refine c_al rfl rfl fun _ => ?_ | refine c_stA rfl rfl rfl rfl rfl rfl ?_ | (refine jV (g_pickT rfl rfl rfl) ?_) | (refine jV (g_pickF rfl rfl rfl) ?_) | (refine c_rt rfl rfl rfl cx_find rfl ?_) | (refine c_rt rfl rfl rfl cx_so1 rfl ?_)) | (refine k_gt rfl rfl rfl ?_) | (refine k_gf rfl rfl rfl ?_) | (refine k_tt rfl rfl ?_))
   all_goals refine jZ (vs := [_, _]) rfl ⟨rfl, rfl, trivial⟩ rfl ⟨rfl, rfl, ?_⟩
   all_goals rfl
  | true =>
   have cx_so1 : PuG Tryz.prog 33 [Ag [S s, u]] G (· = Bo true) := by rw [← e1]; exact cx_so
   clear cx_so
   have hx3 := mFind_nm e1 hf
   by_cases hno : 0 ≤ n ∧ n ≤ 999
   ·have cx_nok : PuG Tryz.prog 34 [I n] G (· = Bo true) := by
     rw [← numOk_eq (decide_eq_true hno)]; exact c_numberOk
    rw [if_pos ⟨rfl, hno⟩]
    have cx_bp1 := c_BytesPutI (G := G) (s := s) (k := m.2.2) (w := w) ⟨h, by omega, hw.2⟩
    dsimp only [cond]
    cases e2 : bysPut s m.2.2 w with
    | none =>
     rw [e2] at cx_bp1
     dsimp only [Option.getD, Option.isSome] at cx_bp1 ⊢
     refine jE [(0, _), (1, _), (2, _), (3, _)] Tryz.func14 Tryz.ntmps14 fun B hB => ?_
     repeat' (first | (refine jR ?_) | (refine k_op rfl ?_; first | refine c_bx rfl rfl rfl fun _ => ?_ | refine jV (g_ld rfl rfl rfl) ?_ | refine jV (g_ldA rfl rfl rfl rfl) ?_ | refine c_al rfl rfl fun _ => ?_ | refine c_stA rfl rfl rfl rfl rfl rfl ?_ | (refine jV (g_pickF rfl rfl rfl) ?_) | (refine c_rt rfl rfl rfl cx_find rfl ?_) | (refine c_rt rfl rfl rfl cx_so1 rfl ?_) | (refine c_rt rfl rfl rfl cx_nok rfl ?_) | (refine c_rt rfl rfl rfl cx_bp1 rfl ?_)) | (refine k_gf rfl rfl rfl ?_) | (refine k_tt rfl rfl ?_) | (refine k_ff rfl rfl ?_))
     all_goals refine jZ (vs := [_, _]) rfl ⟨rfl, rfl, trivial⟩ rfl ⟨rfl, rfl, ?_⟩
     all_goals rfl
    | some b =>
     have hbl := bysPut_len e2
     rw [e2] at cx_bp1
     dsimp only [Option.getD, Option.isSome] at cx_bp1 ⊢
     have hl3 := numI_len3 (n := n) (by omega)
     skip
     have hl4 : (numI n ++ ([0]) ++ b).length ≤ 9000000000000000000 := by simp; omega
     refine jE [(0, _), (1, _), (2, _), (3, _)] Tryz.func14 Tryz.ntmps14 fun B hB => ?_
     repeat' (first | (refine run (t := tb) 400 rfl ?_ ?_; (focus (repeat' (first | exact trivial | apply And.intro | (simp only [List.length_append, List.length_cons, List.length_nil, Int.toNat_natCast]; omega))))) | (refine k_op rfl ?_; first | refine c_bx rfl rfl rfl fun _ => ?_ | refine jV (g_ld rfl rfl rfl) ?_ | refine jV (g_ldA rfl rfl rfl rfl) ?_ | refine c_al rfl rfl fun _ => ?_ | refine c_stA rfl rfl rfl rfl rfl rfl ?_ | (refine jV (g_pickF rfl rfl rfl) ?_) | (refine c_rt rfl rfl rfl cx_find rfl ?_) | (refine c_rt rfl rfl rfl cx_so1 rfl ?_) | (refine c_rt rfl rfl rfl cx_nok rfl ?_) | (refine c_rt rfl rfl rfl cx_bp1 rfl ?_) | (refine c_rt rfl rfl rfl (c_numText (by omega)) rfl ?_) | (refine c_rt rfl rfl rfl (c_FramePutI ‹_›) rfl ?_)) | (refine k_gf rfl rfl rfl ?_) | (refine k_ff rfl rfl ?_))
     all_goals refine jZ (vs := [_, _]) rfl ⟨rfl, rfl, trivial⟩ rfl ⟨rfl, rfl, ?_⟩
     all_goals rfl
   ·have cx_nok : PuG Tryz.prog 34 [I n] G (· = Bo false) := by
     rw [← numOk_eq (decide_eq_false hno)]; exact c_numberOk
    rw [if_neg fun h => hno h.2]
    refine jE [(0, _), (1, _), (2, _), (3, _)] Tryz.func14 Tryz.ntmps14 fun B hB => ?_
    repeat' (first | (refine jR ?_) | (refine k_op rfl ?_; first | refine c_bx rfl rfl rfl fun _ => ?_ | refine jV (g_ldA rfl rfl rfl rfl) ?_ | refine c_al rfl rfl fun _ => ?_ | refine c_stA rfl rfl rfl rfl rfl rfl ?_ | (refine jV (g_pickF rfl rfl rfl) ?_) | (refine c_rt rfl rfl rfl cx_find rfl ?_) | (refine c_rt rfl rfl rfl cx_so1 rfl ?_) | (refine c_rt rfl rfl rfl cx_nok rfl ?_)) | (refine k_gf rfl rfl rfl ?_) | (refine k_tt rfl rfl ?_))
    all_goals refine jZ (vs := [_, _]) rfl ⟨rfl, rfl, trivial⟩ rfl ⟨rfl, rfl, ?_⟩
    all_goals rfl
theorem c_FnExactAnswerPut {s x w : List UInt8} {u : Value} {a : List Mt} {n : Int} (hu : SlV G u 3 a.length (rows mtF a)) (h : s.length ≤ 9223372036854775807 ∧ a.length ≤ 9223372036854775807) (ha : ∀ x ∈ a, MtW x) (hx : x.length ≤ 9223372036854775807 ∧ w.length ≤ 9223372036854775807) :
  PuG Tryz.prog 4 [Ag [S s, u], I n, S x, S w] G (· = Bo true) := by
 have hsz := c_szService (G := G) (z := 1048576) ⟨⟨by omega, by omega⟩, h.1, h.2⟩ hu ha
 refine jB (Post := fun v G' L' => G' = G ∧ L' = [] ∧ _) [(0, _), (1, _), (2, _), (3, _)] Tryz.func4 Tryz.ntmps4 fun B hok hB hW => ?_
 repeat' (first | (refine jR ?_) | (refine k_op rfl ?_; first | refine c_bx rfl rfl rfl fun _ => ?_ | refine jV (g_ldA rfl rfl rfl rfl) ?_ | refine c_al rfl rfl fun _ => ?_ | refine c_stA rfl rfl rfl rfl rfl rfl ?_ | (refine jV (g_pickF rfl rfl rfl) ?_) | (refine c_pu rfl rfl rfl (c_szService ?_ (by (repeat (assumption)); done) (by (repeat (assumption)); done)) rfl ?_; (focus ((omega); done)); rintro _ (rfl | ⟨z, rfl, hz1, hz2⟩)) | (refine c_fns rfl rfl rfl (c_toService (by (repeat (first | assumption | refine SlV.mono ?_ (by assumption))); done) (by omega)) rfl ?_; rintro _ G hle ⟨u, rfl, hsl⟩; (try obtain ⟨_, _, rfl⟩ := hsl.sl)) | (refine c_rt rfl rfl rfl (c_AnswerPutS (by omega) (by (repeat (assumption)); done) (by omega) (by (repeat (assumption)); done) ?_) rfl ?_; (focus ((omega); done))) | (refine c_rt rfl rfl rfl (c_AnswerPutI (by omega) (by (repeat (assumption)); done) (by omega) (by (repeat (assumption)); done) ?_) rfl ?_; (focus ((omega); done)))) | (refine k_gf rfl rfl ?_ ?_; (focus ((simp [*]; done); done))) | (refine k_tt rfl rfl ?_) | (refine k_ff rfl ?_ ?_; (focus ((first | (refine decide_eq_false ?_; (omega)) | (simp [*]; done)); done))) | refine k_if rfl (fun _ => ?_) (fun _ => ?_))
 ·refine Nx.base hok hB ?_
  refine jZ (vs := [_]) rfl ⟨rfl, trivial⟩ rfl ⟨rfl, rfl, ?_⟩
  rfl
 ·refine Nx.base hok hB ?_
  refine jZ (vs := [_]) rfl ⟨rfl, trivial⟩ rfl ⟨rfl, rfl, ?_⟩
  rfl
 ·refine Nx.base hok hB ?_
  refine jZ (vs := [_]) rfl ⟨rfl, trivial⟩ rfl ⟨rfl, rfl, ?_⟩
  rfl
 have hall : s.length ≤ 1048576 ∧ a.length ≤ 1048576 := ⟨by omega, by omega⟩
 repeat' (first | (refine jR ?_) | (refine k_ff rfl ?_ ?_; (focus ((simp [*]; done); done))) | (refine k_any (s_any (id := 14) _ (fun _ h => h) mixed ?_); (refine jG (bts 5 1) 0 rfl (g_ldA rfl rfl rfl rfl) ?_); (refine jG (bts 5 3) 1 rfl (g_ldA rfl rfl rfl rfl) ?_); refine jA 2 rfl ?_; ((refine c_fns rfl rfl rfl (c_toService (by (repeat (first | assumption | refine SlV.mono ?_ (by assumption))); done) (by omega)) rfl ?_; rintro _ G hle ⟨u, rfl, hsl⟩; (try obtain ⟨_, _, rfl⟩ := hsl.sl))); refine jS (bts 5 7) ?_; refine jA 3 rfl ?_; ((refine c_rt rfl rfl rfl (c_eqService (by (repeat (first | assumption | refine SlV.mono ?_ (by assumption))); done) (by (repeat (assumption)); done) (by omega)) rfl ?_)); refine jS (bts 5 15) ?_; refine jT 0 [4] (bts 5 31) ?_; refine x_done (by kernel_rfl) (k_bk ?_)))
 all_goals refine Nx.base hok hB ?_
 all_goals refine jZ (vs := [_]) rfl ⟨rfl, trivial⟩ rfl ⟨rfl, rfl, ?_⟩
 all_goals rfl
end Go.E
namespace Go.E
set_option maxRecDepth 20000
set_option maxHeartbeats 2000000
open Go.Proofs
open Go.ChangeShapes Go.WideShapes Go.ChangeAt Go.RowKit
theorem okWide_cell {P : Program} {w : World} {base : Nat} {T t e : TypeId} {fs : Array Field} {cs : Array Value} {ts : List TypeId} {i : Nat} {v : Value} (hT : P.underlying T = some (.struct fs)) (hok : Value.okWide P w .any base T (.agg cs)) (hts : P.cellTypes P.depth T = some ts) (hn : cs.size = ts.length) (hi : cs[i]? = some v) (ht : ts[i]? = some t) (hs : P.underlying t = some (.slice e)) : Value.okWide P w .any base t v := by
 simp only [Value.okWide, hT] at hok
 obtain ⟨cs', he, _, ts', h2, _, h3⟩ := hok
 have he2 : cs = cs' := by simpa using he
 subst he2
 have h4 : ts = ts' := Option.some.inj (hts.symm.trans h2)
 subst h4
 obtain ⟨u, hu, hc⟩ := h3 i v hi
 have hlt : i < ts.length := by rw [← hn]; exact (Array.getElem?_eq_some_iff.1 hi).1
 rw [Nat.mod_eq_of_lt hlt, ht] at hu
 obtain rfl := Option.some.inj hu
 simp only [Value.okWide, hs]
 exact hc
theorem dec_slice {P : Program} {H : Type} {enc : TypeId × Value → H} {w : World} {base : Nat} {spare : Nat → Bool} {held : Bool} {fs : Array Field} {T : TypeId} {cs : List Value} {n : Nat} {x : DataW H × List MemPlace} (hT : P.underlying T = some (.struct fs)) (h : DataW.trod enc P w base spare held n T cs = some x)
  (k ft e off : Nat) (hf : (fs[k]?).map (fun fd => (fd.type, fd.offset)) = some (ft, off)) (hs : P.underlying ft = some (.slice e)) (hc : P.cellsOf ft = 1) (hl : off < cs.length) : ∃ v d ps, cs[off]? = some v ∧ DataW.Trod enc P w base spare held ft v d ps := by
 obtain ⟨xs, m, _, _, _, hxs, hi⟩ := DataW.trod_struct hT h
 cases hfd : fs[k]? with
 | none => simp [hfd] at hf
 | some fd =>
  simp only [hfd, Option.map_some, Option.some.injEq, Prod.mk.injEq] at hf
  obtain ⟨rfl, rfl⟩ := hf
  have h1 := hi k fd hfd
  have hk : k < xs.length := by rw [hxs]; exact (Array.getElem?_eq_some_iff.1 hfd).1
  rw [List.getElem?_eq_getElem hk, hc] at h1
  have h2 : (cs.drop fd.offset).take 1 = [cs[fd.offset]] := by rw [List.drop_eq_getElem_cons hl]; rfl
  rw [h2] at h1
  refine ⟨cs[fd.offset], xs[k].1, xs[k].2, List.getElem?_eq_getElem hl, m, ?_⟩
  rcases DataW.trod_slice hs h1 with ⟨h3, _⟩ | ⟨a, l, c, _, _, _, _, h3, _⟩
  ·have h4 : cs[fd.offset] = .slice none 0 0 := by simpa using h3
   rw [h4] at h1 ⊢; simpa [Value.cells] using h1
  ·have h4 : cs[fd.offset] = .slice (some a) l c := by simpa using h3
   rw [h4] at h1 ⊢; simpa [Value.cells] using h1
abbrev tMsW : TypeId := 22
abbrev tMtW : TypeId := 97
abbrev tStrW : TypeId := 9
abbrev tSvcW : TypeId := 24
set_option maxRecDepth 100000 in
theorem open_mts {H : Type} {enc : TypeId × Value → H} {w : World} {base base' : Nat} {spare : Nat → Bool} {held : Bool} {v : Value} {d : DataW H} {ps : List MemPlace}
  (hd : DataW.Trod enc Tryz.prog w base spare held tMsW v d ps) (hok : Value.okWide Tryz.prog w .any base' tMsW v) :
  ∃ cl : List Mt, SlV (GA w) v 3 cl.length (rows mtF cl) ∧ (∀ c ∈ cl, MtW c) ∧ cl.length ≤ 9223372036854775807 := by
 refine open_rows mtF (by decide) MtW (T := tMsW) (e := tMtW) (by kernel_rfl) (by kernel_rfl) (fun n cs x hl h => ?_) hd hok
 obtain ⟨l0, h0, b0⟩ := dec_str (fs := flds Tryz.prog tMtW) (by kernel_rfl) h 0 tStrW 0 (by kernel_rfl) (by kernel_rfl) (by kernel_rfl) (by omega)
 obtain ⟨l1, h1, b1⟩ := dec_str (fs := flds Tryz.prog tMtW) (by kernel_rfl) h 1 tStrW 1 (by kernel_rfl) (by kernel_rfl) (by kernel_rfl) (by omega)
 obtain ⟨l2, h2, b2⟩ := dec_str (fs := flds Tryz.prog tMtW) (by kernel_rfl) h 2 tStrW 2 (by kernel_rfl) (by kernel_rfl) (by kernel_rfl) (by omega)
 refine ⟨(l0, l1, l2), ?_, b0, b1, b2⟩
 match cs, hl with
 | [a, b, c], _ => simp at h0 h1 h2; simp [mtF, h0, h1, h2]
set_option maxRecDepth 100000 in
theorem open_svc {H : Type} {enc : TypeId × Value → H} {w : World} {base base' : Nat} {spare : Nat → Bool} {held : Bool} {v : Value} {d : DataW H} {ps : List MemPlace}
  (hd : DataW.Trod enc Tryz.prog w base spare held tSvcW v d ps) (hok : Value.okWide Tryz.prog w .any base' tSvcW v) :
  ∃ (s : List UInt8) (u : Value) (a : List Mt), v = Ag [S s, u] ∧ SlV (GA w) u 3 a.length (rows mtF a) ∧ (s.length ≤ 9223372036854775807 ∧ a.length ≤ 9223372036854775807) ∧ ∀ x ∈ a, MtW x := by
 have hT : Tryz.prog.underlying tSvcW = some (.struct (flds Tryz.prog tSvcW)) := by kernel_rfl
 obtain ⟨cs, rfl, hsz⟩ := okWide_struct hT hok
 have h2 : Tryz.prog.cellsOf tSvcW = 2 := by kernel_rfl
 rw [h2] at hsz
 obtain ⟨n, hf⟩ := hd
 have hf : DataW.trod enc Tryz.prog w base spare held n tSvcW cs.toList = some (d, ps) := hf
 obtain ⟨s, e0, b0⟩ := dec_str hT hf 0 tStrW 0 (by kernel_rfl) (by kernel_rfl) (by kernel_rfl) (by simp; omega)
 obtain ⟨u, d1, ps1, e1, h1⟩ := dec_slice hT hf 1 tMsW tMtW 1 (by kernel_rfl) (by kernel_rfl) (by kernel_rfl) (by simp; omega)
 have ok1 := okWide_cell (ts := [tStrW, tMsW]) (t := tMsW) (e := tMtW) (i := 1) hT hok (by kernel_rfl) hsz (by simpa using e1) rfl (by kernel_rfl)
 obtain ⟨a, ha, hm, hn⟩ := open_mts h1 ok1
 refine ⟨s, u, a, ?_, ha, ⟨b0, hn⟩, hm⟩
 obtain ⟨l⟩ := cs
 match l, hsz with
 | [x, y], _ => simp at e0 e1; rw [e0, e1]
end Go.E
