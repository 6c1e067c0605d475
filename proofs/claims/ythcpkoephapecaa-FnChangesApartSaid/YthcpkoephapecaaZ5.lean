/- Contracts and plain laws that the statement rests on, part 5. Conditions: as each says. -/
import Derived.Test.YthcpkoephapecaaZ4
set_option linter.unusedVariables false
set_option linter.unusedSimpArgs false
namespace Go.E
set_option maxRecDepth 20000
set_option maxHeartbeats 2000000
open Go.Proofs
variable {G : Gh}
def upF (p : Int → Bool) (m : Nat) : List Int := ((List.range m).map fun i : Nat => (i : Int) + 1).filter p
theorem upF_succ (p : Int → Bool) (m : Nat) : upF p (m + 1) = upF p m ++ if p ((m : Int) + 1) = true then [(m : Int) + 1] else [] := by
 unfold upF
 rw [List.range_succ, List.map_append, List.filter_append]
 congr 1
 simp only [List.map_cons, List.map_nil]
 by_cases h : p ((m : Int) + 1) = true
 ·rw [if_pos h, List.filter_cons_of_pos h, List.filter_nil]
 ·rw [if_neg h, List.filter_cons_of_neg h, List.filter_nil]
theorem upF_len (p : Int → Bool) (m : Nat) : (upF p m).length ≤ m := by
 unfold upF
 refine Nat.le_trans (List.length_filter_le _ _) ?_
 simp
def upN (m : Nat) : List Int := (List.range m).map fun i : Nat => (i : Int)
theorem upN_succ (m : Nat) : upN (m + 1) = upN m ++ [(m : Int)] := by unfold upN; rw [List.range_succ, List.map_append]; rfl
theorem upN_len (m : Nat) : (upN m).length = m := by unfold upN; simp
theorem has_app {a b : List Int} {n : Int} : (a ++ b).contains n = true ↔ (∃ i, i < a.length ∧ nth a i = n) ∨ ∃ i, i < b.length ∧ nth b i = n := by
 rw [List.contains_iff_mem, List.mem_append]
 constructor
 ·rintro (h | h)
  ·obtain ⟨i, hi, e⟩ := List.mem_iff_getElem.1 h
   exact .inl ⟨i, hi, by rw [nth_eq hi]; exact e⟩
  ·obtain ⟨i, hi, e⟩ := List.mem_iff_getElem.1 h
   exact .inr ⟨i, hi, by rw [nth_eq hi]; exact e⟩
 ·rintro (⟨i, hi, e⟩ | ⟨i, hi, e⟩)
  ·exact .inl (by rw [← e]; exact nth_mem hi)
  ·exact .inr (by rw [← e]; exact nth_mem hi)
abbrev tIntSt : TypeId := 3
theorem c_l14Steps {ts : List Ty} {k : List UInt8} {a b : V} {ba bb : Nat} (ha : RepR G ts a k ba) (hb : RepR G ts b k bb) (oa : OfK ts k a) (ob : OfK ts k b) (ht : a.tot ≤ 100000 ∧ b.tot ≤ 100000) (hd : deepB a b = true) :
  FnS Try.prog 38 [Pt ba 0, Pt bb 0] G (fun v G' => ∃ p c, v = .slice p (stepsV a b).length c ∧ SlV G' (.slice p (stepsV a b).length c) 1 (stepsV a b).length (rows inR (stepsV a b))) := by
 have hwh := what_k oa ob
 obtain ⟨tx, a1, c1, a2, c2, hsa, hta, hca⟩ := repR_gen ha
 obtain ⟨ty, b1, d1, b2, d2, hsb, htb, hcb⟩ := repR_gen hb
 have kid : (a.what = 91 ∨ a.what = 63) → ∀ c r, k = c :: r → c.toNat ≠ 64 → FnS Try.prog 38 [Pt ba 0, Pt bb 0] G (fun v G' => ∃ p c, v = .slice p (stepsV a b).length c ∧ SlV G' (.slice p (stepsV a b).length c) 1 (stepsV a b).length (rows inR (stepsV a b))) := fun hw c r hk hc => by
  subst hk
  have hk0 : bt (c :: r) (Int.toNat 0) = c.toNat := bt_zero c r
  have hkl : (c :: r).length = r.length + 1 := rfl
  have hlk : 20 * a.kids.length ≤ a.tot := by
   obtain ⟨w1, x, t, ks⟩ := a
   rw [nd_tot, V.kids]
   have := tots_len ks
   omega
  have e : stepsV a b = upN a.kids.length := by unfold stepsV; rw [if_pos hw]; rfl
  rw [e, upN_len]
  refine jB [(0, _), (1, _)] Try.func38 Try.ntmps38 fun B hok hB hW => ?_
  repeat' (first | refine jM ?_ | (refine k_op rfl ?_; first | refine c_bsl rfl rfl rfl rfl rfl rfl fun _ => ?_ | refine jV (g_ldS rfl rfl (by assumption) rfl rfl) ?_) | (refine k_tt rfl (dTt (by omega)) ?_))
  rename_i y
  refine Nx.blkAcc (m := 0) (sz := 1) .here rfl ?_
  refine k_loop (ι := Nat × Option Addr × Nat) (fun i => i.1 ≤ a.kids.length) (fun i => [(0, Pt ba 0), (5, .slice i.2.1 i.1 i.2.2), (6, I i.1)]) (fun _ => G) (fun i => [.acc (.slice i.2.1 i.1 i.2.2) tIntSt 1 i.1 (rows inR (upN i.1))]) (fun i => a.kids.length - i.1) (0, some ⟨y, 0, none⟩, 0) ?_ (by repeat' constructor) rfl sRr (fun i Hi => ?_)
  ·exact Nat.zero_le _
  obtain ⟨i, p, cap⟩ := i
  dsimp only at Hi ⊢
  have hrow : rows inR (upN (i + 1)) = rows inR (upN i) ++ [I (i : Nat)] := by rw [upN_succ]; exact rows_snoc inR (upN i) _
  by_cases hi : i < a.kids.length
  ·repeat' (first | refine jM ?_ | (refine k_op rfl ?_; first | refine c_bsl rfl rfl rfl rfl rfl rfl fun _ => ?_ | refine jV (g_ldS rfl rfl (by assumption) rfl rfl) ?_ | refine jV (g_lenL rfl) ?_ | (refine c_apX rfl rfl rfl rfl rfl rfl rfl rfl rfl (by omega) fun _ _ => ?_)) | (refine k_tt rfl (dTt (by omega)) ?_))
   rename_i y1 av cv
   exact k_rd (i + 1, some ⟨av, 0, none⟩, cv) (by dsimp only; omega) (by dsimp only; omega) (by repeat' constructor) rfl (by dsimp only; rw [hrow]; repeat (first | exact List.nil_sublist _ | apply List.Sublist.cons_cons))
  ·obtain rfl : i = a.kids.length := by omega
   repeat' (first | (refine jR ?_) | (refine k_op rfl ?_; first | refine jV (g_ldS rfl rfl (by assumption) rfl rfl) ?_ | refine jV (g_lenL rfl) ?_) | (refine k_ff rfl (dFf (by omega)) ?_))
   refine Nx.sealS (v := .slice p a.kids.length cap) fun G2 hG2 hsl => ?_
   refine jZ (vs := [_]) rfl ⟨rfl, trivial⟩ rfl ⟨hG2, rfl, ?_⟩
   exact ⟨_, _, rfl, hsl⟩
 rcases hca with ⟨⟨r, rfl⟩, h⟩ | ⟨⟨r, rfl⟩, h⟩ | ⟨⟨r, rfl⟩, h⟩ | ⟨hk, h⟩
 ·have hk0 : bt (64 :: r) (Int.toNat 0) = 64 := bt_zero 64 r
  have hkl : (64 :: r).length = r.length + 1 := rfl
  have ta : tgsR a = tagsV a := by
   unfold deepB at hd
   unfold tgsR tagsV
   by_cases h1 : a.what = 82
   ·rw [if_pos h1, if_pos h1]
   ·by_cases h2 : a.what = 85
    ·rw [if_neg h1, if_neg h1, if_pos (.inl h2)]
    ·rw [if_neg h1, if_neg h2, if_neg (by omega)] at hd; cases hd
  have tb2 : tgsR b = tagsV b := by
   unfold deepB at hd
   unfold tgsR tagsV
   by_cases h1 : a.what = 82
   ·have h1b := hwh.symm.trans h1
    rw [if_pos h1b, if_pos h1b]
   ·by_cases h2 : a.what = 85
    ·have h2b := hwh.symm.trans h2
     have h1b : ¬ b.what = 82 := by omega
     rw [if_neg h1b, if_neg h1b, if_pos (.inl h2b)]
    ·rw [if_neg h1, if_neg h2, if_neg (by omega)] at hd; cases hd
  have e : stepsV a b = upF (fun n => (tagsV a ++ tagsV b).contains n) 200 := by unfold stepsV; rw [if_neg (by omega)]; rfl
  rw [e]
  have hla : (tagsV a).length ≤ 100000 := by
   obtain ⟨w1, x, t, ks⟩ := a
   rw [nd_tot] at ht
   have := tots_len ks
   unfold tagsV
   rw [V.what, V.kids, V.tag]
   split
   ·rw [List.length_map]; omega
   ·simp
  have hlb : (tagsV b).length ≤ 100000 := by
   obtain ⟨w1, x, t, ks⟩ := b
   rw [nd_tot] at ht
   have := tots_len ks
   unfold tagsV
   rw [V.what, V.kids, V.tag]
   split
   ·rw [List.length_map]; omega
   ·simp
  rw [ta] at hsa hta
  rw [tb2] at hsb htb
  clear ta tb2 kid e hd
  generalize hTa : tagsV a = ta at *
  generalize hTb : tagsV b = tb2 at *
  generalize hP : (fun n => (ta ++ tb2).contains n) = pp
  have hpy : ∀ n, pp n = true ↔ (∃ i, i < ta.length ∧ nth ta i = n) ∨ ∃ i, i < tb2.length ∧ nth tb2 i = n := fun n => by rw [← hP]; exact has_app
  refine jB [(0, _), (1, _)] Try.func38 Try.ntmps38 fun B hok hB hW => ?_
  repeat' (first | refine jM ?_ | (refine k_op rfl ?_; first | refine c_bsl rfl rfl rfl rfl rfl rfl fun _ => ?_ | refine jV (g_ldS rfl rfl (by assumption) rfl rfl) ?_) | (refine k_ff rfl rfl ?_))
  rename_i y
  refine Nx.blkAcc (m := 0) (sz := 1) .here rfl ?_
  refine k_loop (ι := Nat × Option Addr × Nat) (fun i => i.1 ≤ 200) (fun i => [(0, Pt ba 0), (1, Pt bb 0), (5, .slice i.2.1 (upF pp i.1).length i.2.2), (7, I ((i.1 : Nat) + 1))]) (fun _ => G) (fun i => [.acc (.slice i.2.1 (upF pp i.1).length i.2.2) tIntSt 1 (upF pp i.1).length (rows inR (upF pp i.1))]) (fun i => 200 - i.1) (0, some ⟨y, 0, none⟩, 0) ?_ (by repeat' constructor) rfl sRr (fun i Hi => ?_)
  ·exact Nat.zero_le _
  obtain ⟨m, p, cap⟩ := i
  dsimp only at Hi ⊢
  have hml := upF_len pp m
  by_cases hm : m < 200
  ·repeat' (first | (refine jR ?_) | (refine k_tt rfl (dTt (by omega)) ?_))
   refine k_loop (ι := Nat) (fun j => j ≤ ta.length + tb2.length ∧ (∀ i, i < j → i < ta.length → nth ta i ≠ (m : Int) + 1) ∧ ∀ i, ta.length + i < j → nth tb2 i ≠ (m : Int) + 1) (fun j => [(0, Pt ba 0), (1, Pt bb 0), (5, .slice p (upF pp m).length cap), (7, I ((m : Nat) + 1)), (8, I j)]) (fun _ => G) (fun j => [.acc (.slice p (upF pp m).length cap) tIntSt 1 (upF pp m).length (rows inR (upF pp m))]) (fun j => ta.length + tb2.length - j) 0 ?_ (by repeat' constructor) rfl sRr (fun j Hj => ?_)
   ·exact ⟨Nat.zero_le _, fun i h => absurd h (Nat.not_lt_zero _), fun i h => absurd h (Nat.not_lt_zero _)⟩
   obtain ⟨hj0, hj1, hj2⟩ := Hj
   have hrow1 : pp ((m : Int) + 1) = true → rows inR (upF pp (m + 1)) = rows inR (upF pp m) ++ [I ((m : Nat) + 1)] ∧ (upF pp (m + 1)).length = (upF pp m).length + 1 := fun h => by
    rw [upF_succ, if_pos h]
    exact ⟨rows_snoc inR (upF pp m) _, by rw [List.length_append]; rfl⟩
   have hrow0 : ¬ pp ((m : Int) + 1) = true → upF pp (m + 1) = upF pp m := fun h => by rw [upF_succ, if_neg h, List.append_nil]
   by_cases hj : j < ta.length + tb2.length
   ·by_cases h1 : j < ta.length
    ·obtain ⟨xb, xo, xc, e1, hxa⟩ := hta.expl (by omega)
     simp only [Value.slice.injEq] at e1
     obtain ⟨rfl, -, rfl⟩ := e1
     have hti : nth ta j = nth ta j := rfl
     by_cases h2 : nth ta j = (m : Int) + 1
     ·obtain ⟨f1, f2⟩ := hrow1 ((hpy _).2 (.inl ⟨j, h1, h2⟩))
      repeat' (first | refine jM ?_ | (refine k_op rfl ?_; first | refine c_bsl rfl rfl rfl rfl rfl rfl fun _ => ?_ | (refine c_apX rfl rfl rfl rfl rfl rfl rfl rfl rfl (by omega) fun _ _ => ?_)) | (refine k_tt rfl (by first | rfl | (refine decide_eq_true ?_; (omega))) ?_) | (refine k_any (s_any (id := 12) _ (fun _ h => h) mixed ?_); refine jT 6 [0, 1, 2, 3, 6, 7, 8] (bts 13 463) ?_; (refine jG (bts 13 479) 4 rfl (g_ldS rfl rfl (by assumption) rfl rfl) ?_); (refine jG (bts 13 511) 5 rfl (g_lenL rfl) ?_); (refine jG (bts 13 1023) 9 rfl (g_ldS rfl rfl (by assumption) rfl rfl) ?_); (refine jG (bts 13 2047) 10 rfl (g_lenL rfl) ?_); refine jU 0 [11, 12] (bts 13 8191) ?_ ?_; (focus (repeat' (first | exact trivial | apply And.intro | omega))); refine x_done (by kernel_rfl) (k_bk ?_)) | (refine k_any (s_any (id := 14) _ (fun _ h => h) mixed ?_); refine jT 40 [0, 1, 2, 3] (bts 44 15) ?_; (refine jG (bts 44 31) 4 rfl (g_ldS rfl rfl (by assumption) rfl rfl) ?_); (refine jG (bts 44 63) 5 rfl (g_lenL rfl) ?_); refine jT 36 [6, 7] (bts 44 255) ?_; (try ((refine Nx.re (d := 56) (v' := Bo true) rfl (congrArg Value.bool (dTt (by omega))) ?_))); refine jT 31 [8, 9, 10, 12, 15] (bts 44 38911) ?_; (refine jG (bts 44 40959) 11 rfl (g_ldS rfl rfl (by assumption) rfl rfl) ?_); (refine jG (bts 44 49151) 13 rfl (g_iaddrN rfl rfl (by omega)) ?_); ((refine jG (bts 44 65535) 14 rfl (g_ldR1x rfl rfl (by assumption) ?_ (by assumption) rfl) ?_; (focus ((omega); done)))); refine jT 27 [16] (bts 44 131071) ?_; (refine jG (bts 44 262143) 17 rfl (g_pickT rfl rfl rfl) ?_); refine jT 25 [18] (bts 44 524287) ?_; (try (refine Nx.re (d := 67) (v' := Bo true) rfl (congrArg Value.bool (dTt rfl)) ?_)); refine jT 21 [19, 20, 21, 22] (bts 44 8388607) ?_; (refine jN (bts 44 16777215) 23 rfl ?_); (refine jN (bts 44 33554431) 24 rfl ?_); refine jT 17 [25, 26] (bts 44 134217727) ?_; (try (fail)); refine jT 9 [27, 28, 29, 31, 32, 33, 34, 40] (bts 44 1132797624319) ?_; (refine jN (bts 44 1133871366143) 30 rfl ?_); (refine jN (bts 44 1168231104511) 35 rfl ?_); (refine jN (bts 44 1236950581247) 36 rfl ?_); refine jT 5 [37] (bts 44 1374389534719) ?_; (refine jN (bts 44 1649267441663) 38 rfl ?_); (refine jN (bts 44 2199023255551) 39 rfl ?_); refine jT 2 [41] (bts 44 4398046511103) ?_; (refine jN (bts 44 8796093022207) 42 rfl ?_); (refine jG (bts 44 17592186044415) 43 rfl (g_pickT rfl rfl rfl) ?_); refine x_done (by kernel_rfl) (k_bk ?_)))
      rename_i y1 b' c'
      exact k_rd (m + 1, some ⟨b', 0, none⟩, c') (by dsimp only; omega) (by dsimp only; omega) (by dsimp only; rw [f2]; repeat (first | exact trivial | refine ⟨rfl, ?_⟩)) rfl (by dsimp only; rw [f1, f2]; repeat (first | exact List.nil_sublist _ | apply List.Sublist.cons_cons))
     ·repeat' (first | refine jM ?_ | (refine k_tt rfl (dTt (by omega)) ?_) | (refine k_ff rfl rfl ?_) | (refine k_any (s_any (id := 12) _ (fun _ h => h) mixed ?_); refine jT 6 [0, 1, 2, 3, 6, 7, 8] (bts 13 463) ?_; (refine jG (bts 13 479) 4 rfl (g_ldS rfl rfl (by assumption) rfl rfl) ?_); (refine jG (bts 13 511) 5 rfl (g_lenL rfl) ?_); (refine jG (bts 13 1023) 9 rfl (g_ldS rfl rfl (by assumption) rfl rfl) ?_); (refine jG (bts 13 2047) 10 rfl (g_lenL rfl) ?_); refine jU 0 [11, 12] (bts 13 8191) ?_ ?_; (focus (repeat' (first | exact trivial | apply And.intro | omega))); refine x_done (by kernel_rfl) (k_bk ?_)) | (refine k_any (s_any (id := 14) _ (fun _ h => h) mixed ?_); refine jT 40 [0, 1, 2, 3] (bts 44 15) ?_; (refine jG (bts 44 31) 4 rfl (g_ldS rfl rfl (by assumption) rfl rfl) ?_); (refine jG (bts 44 63) 5 rfl (g_lenL rfl) ?_); refine jT 36 [6, 7] (bts 44 255) ?_; (try ((refine Nx.re (d := 56) (v' := Bo true) rfl (congrArg Value.bool (dTt (by omega))) ?_))); refine jT 31 [8, 9, 10, 12, 15] (bts 44 38911) ?_; (refine jG (bts 44 40959) 11 rfl (g_ldS rfl rfl (by assumption) rfl rfl) ?_); (refine jG (bts 44 49151) 13 rfl (g_iaddrN rfl rfl (by omega)) ?_); ((refine jG (bts 44 65535) 14 rfl (g_ldR1x rfl rfl (by assumption) ?_ (by assumption) rfl) ?_; (focus ((omega); done)))); refine jT 27 [16] (bts 44 131071) ?_; (refine jG (bts 44 262143) 17 rfl (g_pickT rfl rfl rfl) ?_); refine jT 25 [18] (bts 44 524287) ?_; (try (refine Nx.re (d := 67) (v' := Bo false) rfl (congrArg Value.bool (dFf ‹_›)) ?_)); refine jT 21 [19, 20, 21, 22] (bts 44 8388607) ?_; (refine jG (bts 44 16777215) 23 rfl (g_ldS rfl rfl (by assumption) rfl rfl) ?_); (refine jG (bts 44 33554431) 24 rfl (g_lenL rfl) ?_); refine jT 17 [25, 26] (bts 44 134217727) ?_; (try ((refine Nx.re (d := 75) (v' := Bo false) rfl (congrArg Value.bool (dFf (by omega))) ?_))); refine jT 9 [27, 28, 29, 31, 32, 33, 34, 40] (bts 44 1132797624319) ?_; (refine jN (bts 44 1133871366143) 30 rfl ?_); (refine jN (bts 44 1168231104511) 35 rfl ?_); (refine jN (bts 44 1236950581247) 36 rfl ?_); refine jT 5 [37] (bts 44 1374389534719) ?_; (refine jN (bts 44 1649267441663) 38 rfl ?_); (refine jN (bts 44 2199023255551) 39 rfl ?_); refine jT 2 [41] (bts 44 4398046511103) ?_; (refine jG (bts 44 8796093022207) 42 rfl (g_pickF rfl rfl rfl) ?_); (refine jG (bts 44 17592186044415) 43 rfl (g_pickF rfl rfl rfl) ?_); refine x_done (by kernel_rfl) (k_bk ?_)))
      exact k_rd (j + 1) ⟨by omega, fun i hi hi2 => by
       rcases Nat.lt_or_ge i j with h | h
       ·exact hj1 i h hi2
       ·obtain rfl : i = j := by omega
        exact h2, fun i hi => by omega⟩ (by omega) (by repeat' constructor) rfl sRr
    ·obtain ⟨i, rfl⟩ : ∃ i, j = ta.length + i := ⟨j - ta.length, by omega⟩
     obtain ⟨xb, xo, xc, e1, hxb⟩ := htb.expl (by omega)
     simp only [Value.slice.injEq] at e1
     obtain ⟨rfl, -, rfl⟩ := e1
     have hix : (((ta.length + i : Nat) : Int) - (ta.length : Nat)).toNat = i := by omega
     by_cases h2 : nth tb2 (((ta.length + i : Nat) : Int) - ((ta.length : Nat) : Int)).toNat = (m : Int) + 1
     ·obtain ⟨f1, f2⟩ := hrow1 ((hpy _).2 (.inr ⟨i, by omega, by rw [← hix]; exact h2⟩))
      repeat' (first | refine jM ?_ | (refine k_op rfl ?_; first | refine c_bsl rfl rfl rfl rfl rfl rfl fun _ => ?_ | (refine c_apX rfl rfl rfl rfl rfl rfl rfl rfl rfl (by omega) fun _ _ => ?_)) | (refine k_tt rfl (by refine decide_eq_true ?_; first | rfl | omega) ?_) | (refine k_any (s_any (id := 12) _ (fun _ h => h) mixed ?_); refine jT 6 [0, 1, 2, 3, 6, 7, 8] (bts 13 463) ?_; (refine jG (bts 13 479) 4 rfl (g_ldS rfl rfl (by assumption) rfl rfl) ?_); (refine jG (bts 13 511) 5 rfl (g_lenL rfl) ?_); (refine jG (bts 13 1023) 9 rfl (g_ldS rfl rfl (by assumption) rfl rfl) ?_); (refine jG (bts 13 2047) 10 rfl (g_lenL rfl) ?_); refine jU 0 [11, 12] (bts 13 8191) ?_ ?_; (focus (repeat' (first | exact trivial | apply And.intro | omega))); refine x_done (by kernel_rfl) (k_bk ?_)) | (refine k_any (s_any (id := 14) _ (fun _ h => h) mixed ?_); refine jT 40 [0, 1, 2, 3] (bts 44 15) ?_; (refine jG (bts 44 31) 4 rfl (g_ldS rfl rfl (by assumption) rfl rfl) ?_); (refine jG (bts 44 63) 5 rfl (g_lenL rfl) ?_); refine jT 36 [6, 7] (bts 44 255) ?_; (try ((refine Nx.re (d := 56) (v' := Bo false) rfl (congrArg Value.bool (dFf (by omega))) ?_))); refine jT 31 [8, 9, 10, 12, 15] (bts 44 38911) ?_; (refine jN (bts 44 40959) 11 rfl ?_); (refine jN (bts 44 49151) 13 rfl ?_); (refine jN (bts 44 65535) 14 rfl ?_); refine jT 27 [16] (bts 44 131071) ?_; (refine jG (bts 44 262143) 17 rfl (g_pickF rfl rfl rfl) ?_); refine jT 25 [18] (bts 44 524287) ?_; (try (refine Nx.re (d := 67) (v' := Bo false) rfl (congrArg Value.bool rfl) ?_)); refine jT 21 [19, 20, 21, 22] (bts 44 8388607) ?_; (refine jG (bts 44 16777215) 23 rfl (g_ldS rfl rfl (by assumption) rfl rfl) ?_); (refine jG (bts 44 33554431) 24 rfl (g_lenL rfl) ?_); refine jT 17 [25, 26] (bts 44 134217727) ?_; (try ((refine Nx.re (d := 75) (v' := Bo true) rfl (congrArg Value.bool (dTt (by omega))) ?_))); refine jT 9 [27, 28, 29, 31, 32, 33, 34, 40] (bts 44 1132797624319) ?_; (refine jG (bts 44 1133871366143) 30 rfl (g_ldS rfl rfl (by assumption) rfl rfl) ?_); (refine jG (bts 44 1168231104511) 35 rfl (g_ldS rfl rfl (by assumption) rfl rfl) ?_); (refine jG (bts 44 1236950581247) 36 rfl (g_lenL rfl) ?_); refine jU 5 [37] (bts 44 1374389534719) ?_ ?_; (focus (repeat' (first | exact trivial | apply And.intro | omega))); (refine jG (bts 44 1649267441663) 38 rfl (g_iaddr rfl rfl (by omega)) ?_); ((refine jG (bts 44 2199023255551) 39 rfl (g_ldR1x rfl rfl (by assumption) ?_ (by assumption) rfl) ?_; (focus ((omega); done)))); refine jT 2 [41] (bts 44 4398046511103) ?_; (refine jG (bts 44 8796093022207) 42 rfl (g_pickT rfl rfl rfl) ?_); (refine jG (bts 44 17592186044415) 43 rfl (g_pickF rfl rfl rfl) ?_); refine x_done (by kernel_rfl) (k_bk ?_)))
      rename_i y1 b' c'
      exact k_rd (m + 1, some ⟨b', 0, none⟩, c') (by dsimp only; omega) (by dsimp only; omega) (by dsimp only; rw [f2]; repeat (first | exact trivial | refine ⟨rfl, ?_⟩)) rfl (by dsimp only; rw [f1, f2]; repeat (first | exact List.nil_sublist _ | apply List.Sublist.cons_cons))
     ·have htj : nth tb2 (((ta.length + i : Nat) : Int) - ((ta.length : Nat) : Int)).toNat = nth tb2 (((ta.length + i : Nat) : Int) - ((ta.length : Nat) : Int)).toNat := rfl
      repeat' (first | refine jM ?_ | (refine k_tt rfl (dTt (by omega)) ?_) | (refine k_ff rfl (dFf ‹_›) ?_) | (refine k_any (s_any (id := 12) _ (fun _ h => h) mixed ?_); refine jT 6 [0, 1, 2, 3, 6, 7, 8] (bts 13 463) ?_; (refine jG (bts 13 479) 4 rfl (g_ldS rfl rfl (by assumption) rfl rfl) ?_); (refine jG (bts 13 511) 5 rfl (g_lenL rfl) ?_); (refine jG (bts 13 1023) 9 rfl (g_ldS rfl rfl (by assumption) rfl rfl) ?_); (refine jG (bts 13 2047) 10 rfl (g_lenL rfl) ?_); refine jU 0 [11, 12] (bts 13 8191) ?_ ?_; (focus (repeat' (first | exact trivial | apply And.intro | omega))); refine x_done (by kernel_rfl) (k_bk ?_)) | (refine k_any (s_any (id := 14) _ (fun _ h => h) mixed ?_); refine jT 40 [0, 1, 2, 3] (bts 44 15) ?_; (refine jG (bts 44 31) 4 rfl (g_ldS rfl rfl (by assumption) rfl rfl) ?_); (refine jG (bts 44 63) 5 rfl (g_lenL rfl) ?_); refine jT 36 [6, 7] (bts 44 255) ?_; (try ((refine Nx.re (d := 56) (v' := Bo false) rfl (congrArg Value.bool (dFf (by omega))) ?_))); refine jT 31 [8, 9, 10, 12, 15] (bts 44 38911) ?_; (refine jN (bts 44 40959) 11 rfl ?_); (refine jN (bts 44 49151) 13 rfl ?_); (refine jN (bts 44 65535) 14 rfl ?_); refine jT 27 [16] (bts 44 131071) ?_; (refine jG (bts 44 262143) 17 rfl (g_pickF rfl rfl rfl) ?_); refine jT 25 [18] (bts 44 524287) ?_; (try (refine Nx.re (d := 67) (v' := Bo false) rfl (congrArg Value.bool rfl) ?_)); refine jT 21 [19, 20, 21, 22] (bts 44 8388607) ?_; (refine jG (bts 44 16777215) 23 rfl (g_ldS rfl rfl (by assumption) rfl rfl) ?_); (refine jG (bts 44 33554431) 24 rfl (g_lenL rfl) ?_); refine jT 17 [25, 26] (bts 44 134217727) ?_; (try ((refine Nx.re (d := 75) (v' := Bo true) rfl (congrArg Value.bool (dTt (by omega))) ?_))); refine jT 9 [27, 28, 29, 31, 32, 33, 34, 40] (bts 44 1132797624319) ?_; (refine jG (bts 44 1133871366143) 30 rfl (g_ldS rfl rfl (by assumption) rfl rfl) ?_); (refine jG (bts 44 1168231104511) 35 rfl (g_ldS rfl rfl (by assumption) rfl rfl) ?_); (refine jG (bts 44 1236950581247) 36 rfl (g_lenL rfl) ?_); refine jU 5 [37] (bts 44 1374389534719) ?_ ?_; (focus (repeat' (first | exact trivial | apply And.intro | omega))); (refine jG (bts 44 1649267441663) 38 rfl (g_iaddr rfl rfl (by omega)) ?_); ((refine jG (bts 44 2199023255551) 39 rfl (g_ldR1x rfl rfl (by assumption) ?_ (by assumption) rfl) ?_; (focus ((omega); done)))); refine jT 2 [41] (bts 44 4398046511103) ?_; (refine jG (bts 44 8796093022207) 42 rfl (g_pickT rfl rfl rfl) ?_); (refine jG (bts 44 17592186044415) 43 rfl (g_pickF rfl rfl rfl) ?_); refine x_done (by kernel_rfl) (k_bk ?_)))
      exact k_rd (ta.length + i + 1) ⟨by omega, fun i2 hi hi2 => hj1 i2 (by omega) hi2, fun i2 hi => by
       rcases Nat.lt_or_ge i2 i with h | h
       ·exact hj2 i2 (by omega)
       ·obtain rfl : i2 = i := by omega
        rw [← hix]; exact h2⟩ (by omega) (by repeat' constructor) rfl sRr
   ·have hno : ¬ pp ((m : Int) + 1) = true := fun h => by
     rcases (hpy _).1 h with ⟨i, hi, e⟩ | ⟨i, hi, e⟩
     ·exact hj1 i (by omega) hi e
     ·exact hj2 i (by omega) e
    have f0 := hrow0 hno
    repeat' (first | refine jM ?_ | (refine k_ff rfl (dFf (by omega)) ?_) | (refine k_any (s_any (id := 12) _ (fun _ h => h) mixed ?_); refine jT 6 [0, 1, 2, 3, 6, 7, 8] (bts 13 463) ?_; (refine jG (bts 13 479) 4 rfl (g_ldS rfl rfl (by assumption) rfl rfl) ?_); (refine jG (bts 13 511) 5 rfl (g_lenL rfl) ?_); (refine jG (bts 13 1023) 9 rfl (g_ldS rfl rfl (by assumption) rfl rfl) ?_); (refine jG (bts 13 2047) 10 rfl (g_lenL rfl) ?_); refine jU 0 [11, 12] (bts 13 8191) ?_ ?_; (focus (repeat' (first | exact trivial | apply And.intro | omega))); refine x_done (by kernel_rfl) (k_bk ?_)))
    exact k_rd (m + 1, p, cap) (by dsimp only; omega) (by dsimp only; omega) (by dsimp only; rw [f0]; repeat (first | exact trivial | refine ⟨rfl, ?_⟩)) rfl (by dsimp only; rw [f0]; repeat (exact List.Sublist.refl _))
  ·obtain rfl : m = 200 := by omega
   repeat' (first | (refine jR ?_) | (refine k_ff rfl rfl ?_))
   refine Nx.sealS (v := .slice p (upF pp 200).length cap) fun G2 hG2 hsl => ?_
   refine jZ (vs := [_]) rfl ⟨rfl, trivial⟩ rfl ⟨hG2, rfl, ?_⟩
   exact ⟨_, _, rfl, hsl⟩
 ·exact kid (.inl h) _ _ rfl (by decide)
 ·exact kid (.inr h) _ _ rfl (by decide)
 ·exfalso
  unfold deepB at hd
  rw [if_neg (by omega), if_neg (by omega), if_neg (by omega)] at hd
  cases hd
theorem fit_tot {ts : List Ty} (hw : SchW ts) {k : List UInt8} {v : V} (h : OfK ts k v) (hf : v.deep ≤ 12 ∧ v.out.length ≤ 400) : v.tot ≤ 40000 := by
 have := rd_tot _ _ _ _ (rd_in0 hw h hf.1)
 dsimp only at this
 omega
def stD (ts : List Ty) (n : Nat) (k : List UInt8) (a b : V) (q : List Int) (i : Int) : List (List Int × V) := match stepV ts k a i, stepV ts k b i with
 | some y, some z => diffV ts n y.1 y.2 z.2 (q ++ [i])
 | _, _ => []
def preD (ts : List Ty) (n : Nat) (k : List UInt8) (a b : V) (q : List Int) (i : Nat) : List (List Int × V) := ((stepsV a b).take i).flatMap (stD ts n k a b q)
theorem pre_end {ts : List Ty} {n : Nat} {k : List UInt8} {a b : V} {q : List Int} (h1 : ¬ a.out = b.out) (h2 : deepB a b = true) : diffV ts (n + 1) k a b q = preD ts n k a b q (stepsV a b).length := by
 rw [diffV, if_neg h1, if_pos h2, preD, List.take_length]
 rfl
theorem pre_succ {ts : List Ty} {n : Nat} {k : List UInt8} {a b : V} {q : List Int} {i : Nat} (hi : i < (stepsV a b).length) {k1 : List UInt8} {y z : V} (e1 : stepV ts k a (nth (stepsV a b) i) = some (k1, y)) (e2 : stepV ts k b (nth (stepsV a b) i) = some (k1, z)) :
  preD ts n k a b q (i + 1) = preD ts n k a b q i ++ diffV ts n k1 y z (q ++ [nth (stepsV a b) i]) := by
 unfold preD
 rw [take_nth hi, List.flatMap_append, List.flatMap_singleton]
 congr 1
 unfold stD
 rw [e1, e2]
theorem pre_le {ts : List Ty} {n : Nat} {k : List UInt8} {a b : V} {q : List Int} (i : Nat) : (preD ts n k a b q i).length ≤ (preD ts n k a b q (stepsV a b).length).length := by
 unfold preD
 rw [List.take_length]
 conv => rhs; rw [← List.take_append_drop i (stepsV a b), List.flatMap_append, List.length_append]
 omega
theorem steps_len {ts : List Ty} {k : List UInt8} {a b : V} (ha : OfK ts k a) : (stepsV a b).length ≤ 200 := by
 have hk : (a.what = 91 ∨ a.what = 63) → a.kids.length ≤ 20 := fun hwh => by
  cases ha with
  | num => rw [V.what] at hwh; omega
  | txt => rw [V.what] at hwh; omega
  | flg => rw [V.what] at hwh; omega
  | lst k ks h1 h2 => exact h1
  | non => exact Nat.zero_le _
  | opt => exact (by decide : (1 : Nat) ≤ 20)
  | recd => rw [V.what] at hwh; omega
  | enm => rw [V.what] at hwh; omega
  | uni => rw [V.what] at hwh; omega
 unfold stepsV
 split
 ·rename_i h
  have := hk h
  simp
  omega
 ·refine Nat.le_trans (List.length_filter_le _ _) ?_
  simp
abbrev tChS : TypeId := 37
theorem c_l14Of {vs : List TyX} (hw : SchW (tys vs)) : ∀ (n : Nat) {G : Gh} {u : Value} (_ : SchR G u vs) {k : List UInt8} {a b : V} {ba bb : Nat} (_ : RepR G (tys vs) a k ba) (_ : RepR G (tys vs) b k bb) (_ : OfK (tys vs) k a) (_ : OfK (tys vs) k b) (_ : kindIn (tys vs) k = true) (_ : a.deep ≤ 12 ∧ a.out.length ≤ 400) (_ : b.deep ≤ 12 ∧ b.out.length ≤ 400) (_ : lastsV (tys vs) n k a b)
  {q : List Int} (_ : ∀ n ∈ q, 0 ≤ n ∧ n ≤ 999999) (_ : q.length + n ≤ 1000) {p0 : Option Addr} {m cap : Nat} {out : List Ch} (_ : m = out.length) (_ : m + (diffV (tys vs) n k a b q).length ≤ 1000000),
  FnM Try.prog 22 [u, Pt ba 0, Pt bb 0, S (pathText q), .slice p0 m cap] G [.acc (.slice p0 m cap) tChS 2 m (rows chF out)]
   (fun r _ L' => ∃ p' cap', r = .slice p' (m + (diffV (tys vs) n k a b q).length) cap' ∧ L' = [.acc (.slice p' (m + (diffV (tys vs) n k a b q).length) cap') tChS 2 (m + (diffV (tys vs) n k a b q).length) (rows chF (out ++ (diffV (tys vs) n k a b q).map txtD))]) := by
 intro n
 induction n with
 | zero =>
  intro G u h k a b ba bb ha hb oa ob hk fa fb hl
  exact hl.elim
 | succ n ih =>
  intro G u h k a b ba bb ha hb oa ob hk fa fb hl q hq hql p0 m cap out hm hmx
  have hu := h.sl.one
  obtain ⟨ua, uc, rfl⟩ := h.sl.sl
  have hta := fit_tot hw oa fa
  have htb := fit_tot hw ob fb
  have hpl := pathText_len hq
  have hstl := steps_len (b := b) oa
  by_cases ho : a.out = b.out
  ·have e : diffV (tys vs) (n + 1) k a b q = [] := by rw [diffV, if_pos ho]
   rw [e]
   simp only [List.length_nil, Nat.add_zero, List.map_nil, List.append_nil]
   refine m_enter [(0, _), (1, _), (2, _), (3, _), (4, _)] Try.func22 (by kernel_rfl) Try.ntmps22 rfl rfl (by repeat' constructor) fun B hB hW => ?_
   have cx_out := c_outS hw ha (by omega)
   repeat' (first | (refine jR ?_) | (refine k_op rfl ?_; (refine c_rt rfl rfl rfl cx_out rfl ?_)))
   have cx_out := c_outS hw hb (by omega)
   repeat' (first | (refine jR ?_) | (refine k_op rfl ?_; (refine c_rt rfl rfl rfl cx_out rfl ?_)) | (refine k_tt rfl (dTt ‹_›) ?_))
   exact k_rr (vs := [_]) rfl ⟨rfl, trivial⟩ rfl sRr ⟨Gh.le.refl _, _, _, rfl, rfl⟩
  by_cases hd : deepB a b = true
  ·have e := pre_end (ts := tys vs) (n := n) (k := k) (q := q) ho hd
   rw [e] at hmx ⊢
   have cx_dp := c_l14Deep ha hb oa ob
   rw [hd] at cx_dp
   have cx_stp := c_l14Steps ha hb oa ob (by omega) hd
   have hSq := h
   have hra := ha
   have hrb := hb
   refine m_enter [(0, _), (1, _), (2, _), (3, _), (4, _)] Try.func22 (by kernel_rfl) Try.ntmps22 rfl rfl (by repeat' constructor) fun B hB hW => ?_
   have cx_out := c_outS hw ha (by omega)
   repeat' (first | (refine jR ?_) | (refine k_op rfl ?_; (refine c_rt rfl rfl rfl cx_out rfl ?_)))
   have cx_out := c_outS hw hb (by omega)
   repeat' (first | (refine jR ?_) | (refine k_op rfl ?_; first | refine jV (g_lenL rfl) ?_ | (refine c_rt rfl rfl rfl cx_out rfl ?_) | (refine c_rt rfl rfl rfl cx_dp rfl ?_) | (refine c_fns rfl rfl rfl cx_stp rfl ?_; rintro _ G hle ⟨sp, sc, rfl, hst⟩; (try have hSq := SchR.mono hSq hle); (try have hra := RepR.mono hle hra); (try have hrb := RepR.mono hle hrb); (try have hrep1 := RepR.mono hle hrep1); (try have hrepy := RepR.mono hle hrepy); (try have hgq := Gh.le.trans hgq hle))) | (refine k_ff rfl (by first | rfl | (refine decide_eq_false ?_; (assumption))) ?_))
   have hle0 := hle
   rw [show rows chF out = rows chF (out ++ (preD (tys vs) n k a b q 0).map txtD) by rw [show preD (tys vs) n k a b q 0 = [] from rfl, List.map_nil, List.append_nil]]
   refine k_loop (ι := Nat × Option Addr × Nat × Gh) (fun i => i.1 ≤ (stepsV a b).length ∧ Gh.le G i.2.2.2) (fun i => [(0, .slice ua vs.length uc), (1, Pt ba 0), (2, Pt bb 0), (3, S (pathText q)), (4, .slice i.2.1 (m + (preD (tys vs) n k a b q i.1).length) i.2.2.1), (36, .slice sp (stepsV a b).length sc), (37, I (stepsV a b).length), (38, I i.1)]) (fun i => i.2.2.2) (fun i => [.acc (.slice i.2.1 (m + (preD (tys vs) n k a b q i.1).length) i.2.2.1) tChS 2 (m + (preD (tys vs) n k a b q i.1).length) (rows chF (out ++ (preD (tys vs) n k a b q i.1).map txtD))]) (fun i => (stepsV a b).length - i.1) (0, p0, cap, G) ?_ (by repeat' constructor) rfl sRr (fun i Hi => ?_)
   ·exact ⟨Nat.zero_le _, Gh.le.refl _⟩
   obtain ⟨i, p, cap, Gq⟩ := i
   dsimp only at Hi ⊢
   obtain ⟨hi0, hgq⟩ := Hi
   by_cases hi : i < (stepsV a b).length
   ·have hin := nth_mem hi
    obtain ⟨k1, y, z, e1, e2⟩ := (deep_steps hw oa ob hk hd).1 _ hin
    have hi0 := steps_200 oa hin
    obtain ⟨y1, y2⟩ := stepV_ok hw oa hk hi0.1 e1
    obtain ⟨z1, _⟩ := stepV_ok hw ob hk hi0.1 e2
    have fy := stepV_fits hw oa hk hi0.1 e1 fa.1 fa.2
    have fz := stepV_fits hw ob hk hi0.1 e2 fb.1 fb.2
    have hls : lastsV (tys vs) n k1 y z := by
     rcases hl with h | h | h
     ·exact absurd h ho
     ·rw [hd] at h; cases h
     ·exact h _ hin (k1, y) (k1, z) e1 e2
    have hps := pre_succ (n := n) (q := q) hi e1 e2
    have hpe := pre_le (ts := tys vs) (n := n) (k := k) (a := a) (b := b) (q := q) (i + 1)
    have hN1 : m + (preD (tys vs) n k a b q (i + 1)).length = m + (preD (tys vs) n k a b q i).length + (diffV (tys vs) n k1 y z (q ++ [nth (stepsV a b) i])).length := by rw [hps, List.length_append, Nat.add_assoc]
    have hN2 : out ++ (preD (tys vs) n k a b q (i + 1)).map txtD = out ++ (preD (tys vs) n k a b q i).map txtD ++ (diffV (tys vs) n k1 y z (q ++ [nth (stepsV a b) i])).map txtD := by rw [hps, List.map_append, List.append_assoc]
    have hmo : m + (preD (tys vs) n k a b q i).length = (out ++ (preD (tys vs) n k a b q i).map txtD).length := by rw [List.length_append, List.length_map, hm]
    have hq2 : ∀ n ∈ q ++ [nth (stepsV a b) i], 0 ≤ n ∧ n ≤ 999999 := snoc_in hq ⟨by omega, by omega⟩
    have cx_lof : ∀ G' b1 b2, SchR G' (.slice ua vs.length uc) vs → RepR G' (tys vs) y k1 b1 → RepR G' (tys vs) z k1 b2 → FnM Try.prog 22 [.slice ua vs.length uc, Pt b1 0, Pt b2 0, S (pathText (q ++ [nth (stepsV a b) i])), .slice p (m + (preD (tys vs) n k a b q i).length) cap] G' [.acc (.slice p (m + (preD (tys vs) n k a b q i).length) cap) tChS 2 (m + (preD (tys vs) n k a b q i).length) (rows chF (out ++ (preD (tys vs) n k a b q i).map txtD))]
      (fun r _ L' => ∃ p' cap', r = .slice p' (m + (preD (tys vs) n k a b q i).length + (diffV (tys vs) n k1 y z (q ++ [nth (stepsV a b) i])).length) cap' ∧ L' = [.acc (.slice p' (m + (preD (tys vs) n k a b q i).length + (diffV (tys vs) n k1 y z (q ++ [nth (stepsV a b) i])).length) cap') tChS 2 (m + (preD (tys vs) n k a b q i).length + (diffV (tys vs) n k1 y z (q ++ [nth (stepsV a b) i])).length) (rows chF (out ++ (preD (tys vs) n k a b q i).map txtD ++ (diffV (tys vs) n k1 y z (q ++ [nth (stepsV a b) i])).map txtD))]) := fun G' b1 b2 g1 g2 g3 =>
     ih g1 g2 g3 y1 z1 y2 fy fz hls hq2 (by rw [List.length_append, List.length_singleton]; omega) hmo (by omega)
    have hSq := hSq.mono hgq
    have hra := hra.mono hgq
    have hrb := hrb.mono hgq
    obtain ⟨xb, xo, xc, e, hs1⟩ := (hst.mono hgq).expl (by omega)
    simp only [Value.slice.injEq] at e
    obtain ⟨rfl, -, rfl⟩ := e
    have hti : nth (stepsV a b) i = nth (stepsV a b) i := rfl
    have cx_sty := StepP.yes (c_stepS hSq hw hra oa hk (n := nth (stepsV a b) i) ⟨by omega, by omega⟩ (by omega)) e1
    repeat' (first | (refine jR ?_) | (refine k_op rfl ?_; first | (refine jV (g_iaddrN rfl rfl (by omega)) ?_) | (refine jV (g_ldR1x rfl rfl (by assumption) ?_ (by assumption) rfl) ?_; (focus ((omega); done))) | (refine c_fns rfl rfl rfl cx_sty rfl ?_; rintro _ G hle ⟨b1, rfl, hrep1⟩; (try have hSq := SchR.mono hSq hle); (try have hra := RepR.mono hle hra); (try have hrb := RepR.mono hle hrb); (try have hrep1 := RepR.mono hle hrep1); (try have hrepy := RepR.mono hle hrepy); (try have hgq := Gh.le.trans hgq hle))) | (refine k_tt rfl (dTt (by omega)) ?_))
    have hrepy := hrep1
    have cx_sty := StepP.yes (c_stepS hSq hw hrb ob hk (n := nth (stepsV a b) i) ⟨by omega, by omega⟩ (by omega)) e2
    repeat' (first | refine jM ?_ | (refine k_op rfl ?_; first | (refine c_fns rfl rfl rfl cx_sty rfl ?_; rintro _ G hle ⟨b1, rfl, hrep1⟩; (try have hSq := SchR.mono hSq hle); (try have hra := RepR.mono hle hra); (try have hrb := RepR.mono hle hrb); (try have hrep1 := RepR.mono hle hrep1); (try have hrepy := RepR.mono hle hrepy); (try have hgq := Gh.le.trans hgq hle)) | (refine c_rt rfl rfl rfl (c_l14Join (by omega) (by omega)) rfl ?_) | (refine c_accm rfl rfl rfl ((cx_lof _ _ _) (by (repeat (assumption)); done) (by (repeat (assumption)); done) (by (repeat (assumption)); done)) rfl ?_; rintro _ G1 _ hle ⟨av, cv, rfl, rfl⟩; dsimp only [zA, fA]; (try have hSq := SchR.mono hSq hle); (try have hra := RepR.mono hle hra); (try have hrb := RepR.mono hle hrb); (try have hrep1 := RepR.mono hle hrep1); (try have hrepy := RepR.mono hle hrepy); (try have hgq := Gh.le.trans hgq hle))))
    exact k_rd (i + 1, av, cv, _) ⟨by dsimp only; omega, hgq⟩ (by dsimp only; omega) (by dsimp only; rw [hN1]; repeat (first | exact trivial | refine ⟨rfl, ?_⟩)) rfl (by dsimp only; rw [hN1, hN2]; repeat (exact List.Sublist.refl _))
   ·obtain rfl : i = (stepsV a b).length := by omega
    repeat' (first | (refine jR ?_) | (refine k_ff rfl (dFf (by omega)) ?_))
    exact k_rr (vs := [_]) rfl ⟨rfl, trivial⟩ rfl sRr ⟨hle0.trans hgq, _, _, rfl, rfl⟩
  ·have e : diffV (tys vs) (n + 1) k a b q = [(q, b)] := by rw [diffV, if_neg ho, if_neg hd]
   rw [e]
   simp only [List.length_singleton, List.map_cons, List.map_nil]
   have hd2 : deepB a b = false := by simpa using hd
   have cx_dp := c_l14Deep ha hb oa ob
   rw [hd2] at cx_dp
   have hrow : rows chF (out ++ [txtD (q, b)]) = rows chF out ++ [S (pathText q), S b.out] := rows_snoc chF out (txtD (q, b))
   refine m_enter [(0, _), (1, _), (2, _), (3, _), (4, _)] Try.func22 (by kernel_rfl) Try.ntmps22 rfl rfl (by repeat' constructor) fun B hB hW => ?_
   have cx_out := c_outS hw ha (by omega)
   repeat' (first | (refine jR ?_) | (refine k_op rfl ?_; (refine c_rt rfl rfl rfl cx_out rfl ?_)))
   have cx_out := c_outS hw hb (by omega)
   repeat' (first | (refine jR ?_) | (refine k_op rfl ?_; first | refine jV (g_bld rfl rfl) ?_ | refine c_bsl rfl rfl rfl rfl rfl rfl fun _ => ?_ | (refine c_apX rfl rfl rfl rfl rfl rfl rfl rfl rfl (by omega) fun _ _ => ?_) | (refine c_rt rfl rfl rfl cx_out rfl ?_) | (refine c_rt rfl rfl rfl cx_dp rfl ?_)) | (refine k_tt rfl rfl ?_) | (refine k_ff rfl (dFf ‹_›) ?_))
   rw [hrow]
   exact k_rr (vs := [_]) rfl ⟨rfl, trivial⟩ rfl (by repeat (first | exact List.nil_sublist _ | apply List.Sublist.cons_cons)) ⟨Gh.le.refl _, _, _, rfl, rfl⟩
theorem c_ChangesDoSo {s k w : List UInt8} {p : Option Addr} {c : Nat} {T : TypeId} {l : List Ch} (h : s.length ≤ 1048576 ∧ k.length ≤ 1048576 ∧ w.length ≤ 1048576) (hn : l.length ≤ 1048576) (hl : ∀ x ∈ l, ChL x) :
  FnG Try.prog 24 [S s, S k, S w, .slice p l.length c] G [.acc (.slice p l.length c) T 2 l.length (rows chF l)] (fun v L' => v = psR (doV s k w l) ∧ L' = [.acc (.slice p l.length c) T 2 l.length (rows chF l)]) := by
 unfold doV
 have cx_wo := c_ValueOkS (G := G) h
 cases ho : okV s k w with
 | false =>
  rw [ho] at cx_wo
  rw [if_neg (by simp)]
  refine jH [(0, _), (1, _), (2, _), (3, _)] Try.func24 Try.ntmps24 fun B hB hW => ?_
  repeat' (first | (refine jR ?_) | (refine k_op rfl ?_; (refine c_rt rfl rfl rfl cx_wo rfl ?_)) | (refine k_tt rfl rfl ?_))
  all_goals refine k_rr (vs := [_, _]) rfl ⟨rfl, rfl, trivial⟩ rfl sRr ⟨rfl, rfl, rfl⟩
 | true =>
  rw [ho] at cx_wo
  rw [if_pos rfl]
  refine jH [(0, _), (1, _), (2, _), (3, _)] Try.func24 Try.ntmps24 fun B hB hW => ?_
  repeat' (first | (refine jR ?_) | (refine k_op rfl ?_; (refine c_rt rfl rfl rfl cx_wo rfl ?_)) | (refine k_ff rfl rfl ?_))
  refine k_loop (ι := Nat × List UInt8) (fun j => (j.1 ≤ l.length ∧ chgV s k w l = chgV s k j.2 (l.drop j.1)) ∧ j.2.length ≤ 1048576) (fun j => [(0, S s), (1, S k), (2, S j.2), (3, .slice p l.length c), (10, I (j.1 : Nat))]) (fun _ => G) (fun j => [.acc (.slice p l.length c) T 2 l.length (rows chF l)]) (fun j => l.length - j.1) (0, w) ?_ (by repeat' constructor) rfl sRr (fun j Hj => ?_)
  ·exact ⟨⟨Nat.zero_le _, rfl⟩, h.2.2⟩
  obtain ⟨i, t⟩ := j
  dsimp only at Hj ⊢
  obtain ⟨⟨hj1, hj2⟩, hj3⟩ := Hj
  by_cases hi : i < l.length
  ·refine Nx.shp (.head _) fun hsh => ?_
   obtain ⟨ba, ca, e⟩ := hsh.pos (by omega)
   simp only [Value.slice.injEq] at e
   obtain ⟨rfl, -, rfl⟩ := e
   have hx := hl _ (nth_mem hi)
   have cx_ps2 := c_PathSetS (G := G) (s := s) (k := k) (w := t) (p := (nth l i).1) (x := (nth l i).2) ⟨h.1, h.2.1, hj3, hx.1⟩ hx.2
   rw [drop_nth hi, chgV] at hj2
   unfold psR at cx_ps2
   cases hp : pathSetV s k t (nth l i).1 (nth l i).2 with
   | none =>
    rw [hp] at cx_ps2 hj2
    dsimp only [Option.getD, Option.isSome] at cx_ps2 hj2
    repeat' (first | (refine jR ?_) | (refine k_op rfl ?_; (refine jV (g_lenL rfl) ?_)) | (refine k_tt rfl (by first | rfl | (refine decide_eq_true ?_; (omega))) ?_) | (refine k_any (s_any (id := 6) _ (fun _ h => h) mixed ?_); refine jT 12 [0, 1, 2, 3, 4, 8, 9] (bts 19 799) ?_; (refine jG (bts 19 831) 5 rfl (g_iaddrN rfl rfl (by omega)) ?_); refine jT 10 [6] (bts 19 895) ?_; (refine jG (bts 19 1023) 7 rfl (g_ldBRF rfl rfl rfl (by omega) rfl rfl) ?_); (refine jG (bts 19 2047) 10 rfl (g_iaddrN rfl rfl (by omega)) ?_); refine jT 7 [11] (bts 19 4095) ?_; (refine jG (bts 19 8191) 12 rfl (g_ldBRF rfl rfl rfl (by omega) rfl rfl) ?_); refine jA 13 rfl ?_; (refine c_rt rfl rfl rfl cx_ps2 rfl ?_); refine jS (bts 19 16383) ?_; refine jT 0 [14, 15, 16, 17, 18] (bts 19 524287) ?_; refine x_done (by kernel_rfl) (k_bk ?_)))
    all_goals (rw [hj2]; refine k_rr (vs := [_, _]) rfl ⟨rfl, rfl, trivial⟩ rfl sRr ⟨rfl, rfl, rfl⟩)
   | some z =>
    have hz := (psv_ok hp).2
    rw [hp] at cx_ps2 hj2
    dsimp only [Option.getD, Option.isSome] at cx_ps2 hj2
    repeat' (first | refine jM ?_ | (refine k_op rfl ?_; (refine jV (g_lenL rfl) ?_)) | (refine k_tt rfl (dTt (by omega)) ?_) | (refine k_ff rfl rfl ?_) | (refine k_any (s_any (id := 6) _ (fun _ h => h) mixed ?_); refine jT 12 [0, 1, 2, 3, 4, 8, 9] (bts 19 799) ?_; (refine jG (bts 19 831) 5 rfl (g_iaddrN rfl rfl (by omega)) ?_); refine jT 10 [6] (bts 19 895) ?_; (refine jG (bts 19 1023) 7 rfl (g_ldBRF rfl rfl rfl (by omega) rfl rfl) ?_); (refine jG (bts 19 2047) 10 rfl (g_iaddrN rfl rfl (by omega)) ?_); refine jT 7 [11] (bts 19 4095) ?_; (refine jG (bts 19 8191) 12 rfl (g_ldBRF rfl rfl rfl (by omega) rfl rfl) ?_); refine jA 13 rfl ?_; (refine c_rt rfl rfl rfl cx_ps2 rfl ?_); refine jS (bts 19 16383) ?_; refine jT 0 [14, 15, 16, 17, 18] (bts 19 524287) ?_; refine x_done (by kernel_rfl) (k_bk ?_)))
    exact k_rd (i + 1, z) ⟨⟨by omega, hj2⟩, by dsimp only; omega⟩ (by dsimp only; omega) (by repeat' constructor) rfl sRr
  ·have ei : i = l.length := by omega
   subst ei
   rw [List.drop_length, chgV] at hj2
   repeat' (first | (refine jR ?_) | (refine k_op rfl ?_; (refine jV (g_lenL rfl) ?_)) | (refine k_ff rfl (dFf (by omega)) ?_))
   all_goals (rw [hj2]; refine k_rr (vs := [_, _]) rfl ⟨rfl, rfl, trivial⟩ rfl sRr ⟨rfl, rfl, rfl⟩)
theorem chs_no {s k w t : List UInt8} (h : givenV s k w = none ∨ givenV s k t = none) : changesV s k w t = none := by
 unfold changesV
 rcases h with h | h
 ·rw [h]; cases schemaOf s <;> rfl
 ·rw [h]; cases schemaOf s <;> cases givenV s k w <;> rfl
theorem changes_len {s k w t : List UInt8} {l : List Ch} (h : changesV s k w t = some l) : l.length ≤ 30 ∧ ∀ x ∈ l, x.1.length ≤ 91 ∧ x.2.length ≤ 400 := by
 unfold changesV at h
 split at h
 ·rename_i ts a b h1 ha hb
  split at h
  ·rename_i hc
   cases h
   refine ⟨hc.1, fun x hx => ?_⟩
   obtain ⟨ts', g1, g2, g3, g4, g5⟩ := given_some ha
   obtain rfl : ts = ts' := Option.some.inj (h1.symm.trans g1)
   obtain ⟨ts', i1, i2, i3, i4, i5⟩ := given_some hb
   obtain rfl : ts = ts' := Option.some.inj (h1.symm.trans i1)
   obtain ⟨a1, a2, a3⟩ := valOf_out g3
   obtain ⟨b1, b2, b3⟩ := valOf_out i3
   obtain ⟨c, hc, rfl⟩ := List.mem_map.1 hx
   have := diff_in (n := 13) (q := []) (schemaOf_w h1) (valOf_of_k g3) (valOf_of_k i3) g2 ⟨a3, by rw [a1]; exact a2⟩ ⟨b3, by rw [b1]; exact b2⟩ (fun m hm => by cases hm) c hc
   have h2 := pathText_len this.1
   have h3 := this.2.1
   simp only [List.length_nil, Nat.zero_add] at h3
   exact ⟨by unfold txtD; dsimp only; omega, this.2.2⟩
  ·cases h
 ·cases h
theorem c_l4OfW {s k w : List UInt8} (h : s.length ≤ 1048576 ∧ k.length ≤ 1048576 ∧ w.length ≤ 1048576) : FnS Try.prog 21 [S s, S k, S w] G (fun v _ => ∃ u q ok, v = Tu [u, .pointer q, Bo ok]) := by
 cases hg : givenV s k w with
 | none => exact (c_l4Of0 h hg).mono fun v G' L' ⟨h1, h2, u, q, h3⟩ => ⟨h1, h2, u, q, false, h3⟩
 | some u =>
  obtain ⟨ts, hs, hki, hvo, _⟩ := given_some hg
  exact (c_l4OfX h hs hki hvo).mono fun v G' L' ⟨h1, h2, a, c, vs, b, h3, _⟩ => ⟨h1, h2, .slice a vs.length c, some ⟨b, 0, none⟩, true, h3⟩
theorem c_ChangesOfS {s k w t : List UInt8} (h : s.length ≤ 1048576 ∧ k.length ≤ 1048576 ∧ w.length ≤ 1048576 ∧ t.length ≤ 1048576) :
  FnM Try.prog 11 [S s, S k, S w, S t] G [] (fun v _ L' => ∃ p c, v = Tu [.slice p ((changesV s k w t).getD []).length c, Bo (changesV s k w t).isSome] ∧ L' = [.acc (.slice p ((changesV s k w t).getD []).length c) tChS 2 ((changesV s k w t).getD []).length (rows chF ((changesV s k w t).getD []))]) := by
 cases ha : givenV s k w with
 | none =>
  have cx_la0 := fun G => c_l4Of0 (G := G) (s := s) (k := k) (w := w) ⟨h.1, h.2.1, h.2.2.1⟩ ha
  rw [chs_no (.inl ha)]
  refine m_enter [(0, _), (1, _), (2, _), (3, _)] Try.func11 (by kernel_rfl) Try.ntmps11 rfl rfl (by repeat' constructor) fun B hB hW => ?_
  repeat' (first | (refine jR ?_) | (refine k_op rfl ?_; (refine c_fns rfl rfl rfl (cx_la0 _) rfl ?_; rintro _ G hle ⟨ua, qa, rfl⟩; skip)))
  have hle0 := hle
  refine k_op rfl ?_
  refine c_fns rfl rfl rfl (c_l4OfW ⟨h.1, h.2.1, h.2.2.2⟩) rfl ?_
  rintro _ G2 hle2 ⟨u2, q2, ok2, rfl⟩
  repeat' (first | (refine jR ?_) | (refine k_op rfl ?_; first | (refine jV (g_pickT rfl rfl rfl) ?_) | refine c_bsl rfl rfl rfl rfl rfl rfl fun _ => ?_) | (refine k_gt rfl rfl rfl ?_) | (refine k_tt rfl rfl ?_))
  rename_i y
  refine Nx.blkAcc (m := 0) (sz := 2) .here rfl ?_
  refine k_rr (vs := [_, _]) rfl ⟨rfl, rfl, trivial⟩ rfl sRr ⟨hle0.trans hle2, _, _, rfl, rfl⟩
 | some a =>
  obtain ⟨ts, hs, hki, hvo, hto, hwf⟩ := given_some ha
  have cx_l4x := c_l4OfX (G := G) (s := s) (k := k) (w := w) ⟨h.1, h.2.1, h.2.2.1⟩ hs hki hvo
  cases hb : givenV s k t with
  | none =>
   rw [chs_no (.inr hb)]
   refine m_enter [(0, _), (1, _), (2, _), (3, _)] Try.func11 (by kernel_rfl) Try.ntmps11 rfl rfl (by repeat' constructor) fun B hB hW => ?_
   repeat' (first | (refine jR ?_) | (refine k_op rfl ?_; (refine c_fns rfl rfl rfl cx_l4x rfl ?_; rintro _ G hle ⟨av1, cv1, vs1, b1, rfl, hR1, hT1, hrep⟩; skip)))
   have hle0 := hle
   refine k_op rfl ?_
   refine c_fns rfl rfl rfl (c_l4Of0 ⟨h.1, h.2.1, h.2.2.2⟩ hb) rfl ?_
   rintro _ G2 hle2 ⟨u2, q2, rfl⟩
   repeat' (first | (refine jR ?_) | (refine k_op rfl ?_; first | (refine jV (g_pickF rfl rfl rfl) ?_) | refine c_bsl rfl rfl rfl rfl rfl rfl fun _ => ?_) | (refine k_gf rfl rfl rfl ?_) | (refine k_tt rfl rfl ?_))
   rename_i y
   refine Nx.blkAcc (m := 0) (sz := 2) .here rfl ?_
   refine k_rr (vs := [_, _]) rfl ⟨rfl, rfl, trivial⟩ rfl sRr ⟨hle0.trans hle2, _, _, rfl, rfl⟩
  | some b =>
   obtain ⟨ts', i1, _, hvb, htb, _⟩ := given_some hb
   obtain rfl : ts = ts' := Option.some.inj (hs.symm.trans i1)
   have hw := schemaOf_w hs
   have oa := valOf_of_k hvo
   have ob := valOf_of_k hvb
   obtain ⟨a1, a2, a3⟩ := valOf_out hvo
   obtain ⟨b1, b2, b3⟩ := valOf_out hvb
   have fa : a.deep ≤ 12 ∧ a.out.length ≤ 400 := ⟨a3, by rw [a1]; exact a2⟩
   have fb : b.deep ≤ 12 ∧ b.out.length ≤ 400 := ⟨b3, by rw [b1]; exact b2⟩
   have hlst := lasts hw 12 oa ob hki (Or.inl a3) (Or.inl b3)
   have hdl := diff_len (n := 13) (q := []) (wa := 40000) (wb := 40000) hw oa ob hki (Or.inl hto) (Or.inl htb) (by omega)
   have hin := diff_in (n := 13) (q := []) hw oa ob hki fa fb (fun m hm => by cases hm)
   have hcv : changesV s k w t = if (chgsV ts k a b).length ≤ 30 ∧ (doV s k w (chgsV ts k a b)).isSome = true then some (chgsV ts k a b) else none := by
    unfold changesV
    rw [hs, ha, hb]
   have hdn : ∀ {z}, doV s k w (chgsV ts k a b) = some z → z = t ∧ ∀ d ∈ diffV ts 13 k a b [], d.1.length ≤ 8 := fun h => chgs_done hs ha hb h
   refine m_enter [(0, _), (1, _), (2, _), (3, _)] Try.func11 (by kernel_rfl) Try.ntmps11 rfl rfl (by repeat' constructor) fun B hB hW => ?_
   repeat' (first | (refine jR ?_) | (refine k_op rfl ?_; (refine c_fns rfl rfl rfl cx_l4x rfl ?_; rintro _ G hle ⟨av1, cv1, vs1, b1, rfl, hR1, hT1, hrep⟩; skip)))
   have hle0 := hle
   subst hT1
   refine k_op rfl ?_
   refine c_fns rfl rfl rfl (c_l4OfX ⟨h.1, h.2.1, h.2.2.2⟩ hs hki hvb) rfl ?_
   rintro _ G2 hle2 ⟨av2, cv2, vs2, b2', rfl, hR2, hT2, hrepb⟩
   have hR1 := hR1.mono hle2
   have hrep := hrep.mono hle2
   repeat' (first | (refine jR ?_) | (refine k_op rfl ?_; first | (refine jV (g_pickF rfl rfl rfl) ?_) | refine c_bsl rfl rfl rfl rfl rfl rfl fun _ => ?_) | (refine k_gf rfl rfl rfl ?_) | (refine k_ff rfl rfl ?_))
   rename_i y
   refine Nx.blkAcc (m := 0) (sz := 2) .here rfl ?_
   have hlof := c_l14Of hw 13 hR1 hrep hrepb oa ob hki fa fb hlst (q := []) (fun n hn => by cases hn) (by simp) (p0 := some ⟨y, 0, none⟩) (m := 0) (cap := 0) (out := []) rfl (by omega)
   refine k_op rfl ?_
   refine c_accm rfl rfl rfl hlof rfl ?_
   rintro _ G3 _ hle3 ⟨av, cv, rfl, rfl⟩
   dsimp only [zA, fA]
   rw [Nat.zero_add, ← List.length_map (f := txtD)]
   have hGa := hle0.trans (hle2.trans hle3)
   have hxl : ∀ i, i < (chgsV (tys vs1) k a b).length → nth (chgsV (tys vs1) k a b) i = txtD (nth (diffV (tys vs1) 13 k a b []) i) := fun i hi => by
    unfold chgsV at hi ⊢
    rw [nth_eq hi, nth_eq (by simpa using hi)]
    simp
   have hml : (chgsV (tys vs1) k a b).length = (diffV (tys vs1) 13 k a b []).length := by unfold chgsV; simp
   have hCh : ∀ x ∈ chgsV (tys vs1) k a b, ChL x := fun x hx => by
    obtain ⟨c, hc, rfl⟩ := List.mem_map.1 hx
    have h1 := hin c hc
    have h2 := pathText_len h1.1
    have h3 := h1.2.1
    simp only [List.length_nil, Nat.zero_add] at h3
    exact ⟨by unfold txtD; dsimp only; omega, by unfold txtD; dsimp only; omega⟩
   rw [show (diffV (tys vs1) 13 k a b []).map txtD = chgsV (tys vs1) k a b from rfl]
   generalize hds : diffV (tys vs1) 13 k a b [] = ds at *
   generalize hls : chgsV (tys vs1) k a b = l at *
   repeat' (refine jR ?_)
   refine k_loop (ι := Nat × Gh) (fun i => (i.1 ≤ l.length ∧ ∀ j, j < i.1 → (nth ds j).1.length ≤ 8) ∧ Gh.le G3 i.2) (fun i => [(0, S s), (1, S k), (2, S w), (3, S t), (16, .slice av l.length cv), (17, I i.1)]) (fun i => i.2) (fun i => [.acc (.slice av l.length cv) tChS 2 l.length (rows chF l)]) (fun i => l.length - i.1) (0, G3) ?_ (by repeat' constructor) rfl sRr (fun i Hi => ?_)
   ·exact ⟨⟨Nat.zero_le _, fun j hj => absurd hj (Nat.not_lt_zero _)⟩, Gh.le.refl _⟩
   obtain ⟨i, Gq⟩ := i
   dsimp only at Hi ⊢
   obtain ⟨⟨hi0, hj8⟩, hgq⟩ := Hi
   by_cases hi : i < l.length
   ·refine Nx.shp (.head _) fun hsh => ?_
    obtain ⟨bb0, cc0, e⟩ := hsh.pos (by omega)
    simp only [Value.slice.injEq] at e
    obtain ⟨rfl, -, rfl⟩ := e
    have hpo := pathOf_in (hin _ (nth_mem (show i < ds.length by omega))).1
    have hCi := hCh _ (nth_mem hi)
    have hx1 : (nth l i).1 = pathText (nth ds i).1 := by rw [hxl i hi]; rfl
    by_cases h8 : (nth ds i).1.length ≤ 8
    ·rw [if_pos h8, ← hx1] at hpo
     have cx_sp := steps_yes hCi.1 hpo
     repeat' (first | refine jM ?_ | (refine k_op rfl ?_; first | refine jV (g_lenL rfl) ?_ | (refine jV (g_iaddrN rfl rfl (by omega)) ?_) | (refine jV (g_ldBRF rfl rfl rfl (by omega) rfl rfl) ?_) | (refine c_fns rfl rfl rfl (cx_sp _) rfl ?_; rintro _ G hle ⟨sa, sc, sn, rfl, hsp⟩; skip)) | (refine k_tt rfl (dTt (by omega)) ?_) | (refine k_ff rfl rfl ?_))
     exact k_rd (i + 1, _) ⟨⟨by dsimp only; omega, fun j hj => by
      rcases Nat.lt_or_ge j i with h | h
      ·exact hj8 j h
      ·obtain rfl : j = i := by dsimp only at hj; omega
       exact h8⟩, Gh.le.trans hgq (by assumption)⟩ (by dsimp only; omega) (by repeat' constructor) rfl sRr
    ·rw [if_neg h8, ← hx1] at hpo
     have cx_sp := steps_no hCi.1 hpo
     have hno : changesV s k w t = none := by
      rw [hcv, if_neg]
      rintro ⟨_, h2⟩
      obtain ⟨z, hz⟩ := Option.isSome_iff_exists.1 h2
      exact h8 ((hdn hz).2 _ (nth_mem (show i < ds.length by omega)))
     rw [hno]
     repeat' (first | (refine jR ?_) | (refine k_op rfl ?_; first | refine c_bsl rfl rfl rfl rfl rfl rfl fun _ => ?_ | refine jV (g_lenL rfl) ?_ | (refine jV (g_iaddrN rfl rfl (by omega)) ?_) | (refine jV (g_ldBRF rfl rfl rfl (by omega) rfl rfl) ?_) | (refine c_fns rfl rfl rfl (cx_sp _) rfl ?_; rintro _ G hle ⟨sa, sc, sn, rfl, hsp⟩; skip)) | (refine k_tt rfl (by first | rfl | (refine decide_eq_true ?_; (omega))) ?_))
     rename_i z
     refine Nx.blkAcc (m := 0) (sz := 2) .here rfl ?_
     refine k_rr (vs := [_, _]) rfl ⟨rfl, rfl, trivial⟩ rfl (by repeat (first | exact List.nil_sublist _ | apply List.Sublist.cons_cons)) ⟨hGa.trans (hgq.trans hle), _, _, rfl, rfl⟩
   ·obtain rfl : i = l.length := by omega
    have cx_cdo := c_ChangesDoSo (G := Gq) (p := av) (c := cv) (T := tChS) (l := l) ⟨h.1, h.2.1, h.2.2.1⟩ (by omega) hCh
    unfold psR at cx_cdo
    have hGb := hGa.trans hgq
    cases hz : doV s k w l with
    | none =>
     rw [hz] at cx_cdo hcv
     rw [if_neg (by simp)] at hcv
     rw [hcv]
     dsimp only [Option.getD, Option.isSome] at cx_cdo
     by_cases h30 : l.length ≤ 30
     ·repeat' (first | (refine jR ?_) | (refine k_op rfl ?_; first | (refine jV (g_pickT rfl rfl rfl) ?_) | (refine jV (g_pickF rfl rfl rfl) ?_) | refine c_bsl rfl rfl rfl rfl rfl rfl fun _ => ?_ | refine jV (g_lenL rfl) ?_ | (refine c_accg rfl rfl rfl cx_cdo rfl ?_; rintro _ _ ⟨rfl, rfl⟩; dsimp only [zA, fA])) | (refine k_gt rfl rfl rfl ?_) | (refine k_gf rfl rfl (dFf (by omega)) ?_) | (refine k_tt rfl rfl ?_) | (refine k_ff rfl (dFf (by omega)) ?_))
      all_goals rename_i z
      all_goals refine Nx.blkAcc (m := 0) (sz := 2) .here rfl ?_
      all_goals refine k_rr (vs := [_, _]) rfl ⟨rfl, rfl, trivial⟩ rfl (by repeat (first | exact List.nil_sublist _ | apply List.Sublist.cons_cons)) ⟨hGb, _, _, rfl, rfl⟩
     ·repeat' (first | (refine jR ?_) | (refine k_op rfl ?_; first | (refine jV (g_pickT rfl rfl rfl) ?_) | refine c_bsl rfl rfl rfl rfl rfl rfl fun _ => ?_ | refine jV (g_lenL rfl) ?_ | (refine c_accg rfl rfl rfl cx_cdo rfl ?_; rintro _ _ ⟨rfl, rfl⟩; dsimp only [zA, fA])) | (refine k_gt rfl rfl (by first | rfl | (refine decide_eq_true ?_; (omega))) ?_) | (refine k_tt rfl rfl ?_) | (refine k_ff rfl (dFf (by omega)) ?_))
      all_goals rename_i z
      all_goals refine Nx.blkAcc (m := 0) (sz := 2) .here rfl ?_
      all_goals refine k_rr (vs := [_, _]) rfl ⟨rfl, rfl, trivial⟩ rfl (by repeat (first | exact List.nil_sublist _ | apply List.Sublist.cons_cons)) ⟨hGb, _, _, rfl, rfl⟩
    | some z =>
     obtain ⟨rfl, _⟩ := hdn hz
     rw [hz] at cx_cdo hcv
     dsimp only [Option.getD, Option.isSome] at cx_cdo
     by_cases h30 : l.length ≤ 30
     ·rw [if_pos ⟨h30, rfl⟩] at hcv
      rw [hcv]
      repeat' (first | (refine jR ?_) | (refine k_op rfl ?_; first | (refine jV (g_pickF rfl rfl rfl) ?_) | refine jV (g_lenL rfl) ?_ | (refine c_accg rfl rfl rfl cx_cdo rfl ?_; rintro _ _ ⟨rfl, rfl⟩; dsimp only [zA, fA])) | (refine k_gf rfl rfl (by first | rfl | (refine decide_eq_false ?_; (omega))) ?_) | (refine k_ff rfl ?_ ?_; (focus ((first | (refine decide_eq_false ?_; (omega)) | (simp [*]; done)); done))))
      all_goals refine k_rr (vs := [_, _]) rfl ⟨rfl, rfl, trivial⟩ rfl sRr ⟨hGb, _, _, rfl, rfl⟩
     ·rw [if_neg (fun h => h30 h.1)] at hcv
      rw [hcv]
      repeat' (first | (refine jR ?_) | (refine k_op rfl ?_; first | (refine jV (g_pickT rfl rfl rfl) ?_) | refine c_bsl rfl rfl rfl rfl rfl rfl fun _ => ?_ | refine jV (g_lenL rfl) ?_ | (refine c_accg rfl rfl rfl cx_cdo rfl ?_; rintro _ _ ⟨rfl, rfl⟩; dsimp only [zA, fA])) | (refine k_gt rfl rfl (by first | rfl | (refine decide_eq_true ?_; (omega))) ?_) | (refine k_tt rfl rfl ?_) | (refine k_ff rfl (dFf (by omega)) ?_))
      all_goals rename_i z
      all_goals refine Nx.blkAcc (m := 0) (sz := 2) .here rfl ?_
      all_goals refine k_rr (vs := [_, _]) rfl ⟨rfl, rfl, trivial⟩ rfl (by repeat (first | exact List.nil_sublist _ | apply List.Sublist.cons_cons)) ⟨hGb, _, _, rfl, rfl⟩
end Go.E
namespace Go.E
set_option maxRecDepth 20000
set_option maxHeartbeats 2000000
open Go.Proofs
variable {G : Gh}
abbrev tRdr : TypeId := 40
theorem c_l6Open {v : Value} {l : List UInt8} (h : SlV G v 1 l.length (u8s l)) : FnG Try.prog 7 [v] G [] (fun v L' => ∃ b code l', v = Pt b 0 ∧ L' = [rdO b code 0 tRdr] ∧ SlV G code 1 l'.length (u8s l') ∧ l'.length ≤ 2000) := by
 obtain ⟨h1, ⟨rfl, h2⟩ | ⟨c, o, cap, rfl, h2, h3⟩⟩ := id h
 ·refine jH [(0, _)] Try.func7 Try.ntmps7 fun B hB hW => ?_
  repeat' (first | (refine jR ?_) | (refine k_op rfl ?_; first | refine jV (g_lenL rfl) ?_ | refine jV (g_bld rfl rfl) ?_ | refine c_bx rfl rfl rfl fun _ => ?_) | (refine k_ff rfl rfl ?_))
  refine k_rr (vs := [_]) rfl ⟨rfl, trivial⟩ rfl (List.Sublist.refl _) ⟨rfl, _, _, [], rfl, rfl, ⟨by simp [u8s], .inl ⟨rfl, rfl⟩⟩, by simp⟩
 ·refine jH [(0, _)] Try.func7 Try.ntmps7 fun B hB hW => ?_
  repeat' (first | (refine jR ?_) | (refine k_op rfl ?_; first | refine jV (g_lenL rfl) ?_ | (refine jV (g_slTo rfl rfl (by omega)) ?_) | refine jV (g_bld rfl rfl) ?_ | refine c_bx rfl rfl rfl fun _ => ?_) | refine k_if rfl (fun _ => ?_) (fun _ => ?_))
  ·refine k_rr (vs := [_]) rfl ⟨rfl, trivial⟩ rfl (List.Sublist.refl _) ⟨rfl, _, _, l.take 2000, rfl, rfl, ?_, by simp; omega⟩
   have e : (l.take 2000).length = 2000 := by simp; omega
   rw [e]
   refine ⟨by simp [u8s]; omega, .inr ⟨c, o, cap, rfl, by omega, ?_⟩⟩
   have := h3.take 2000
   simpa [u8s] using this
  ·exact k_rr (vs := [_]) rfl ⟨rfl, trivial⟩ rfl (List.Sublist.refl _) ⟨rfl, _, _, l, rfl, rfl, h, by omega⟩
theorem c_pick {b : Nat} {code : Value} {p n : Int} {l : List UInt8} (hp : 0 ≤ p ∧ p ≤ 1000000000000 ∧ n ≤ 1000000000000) (hs : SlV G code 1 l.length (u8s l)) :
  FnG Try.prog 12 [Pt b 0, I n] G [rdO b code p tRdr] (fun v L' => ∃ k, v = I k ∧ L' = [rdO b code (p + 1) tRdr] ∧ 0 ≤ k ∧ (k < n ∨ k = 0)) := by
 obtain ⟨h1, ⟨rfl, h2⟩ | ⟨c, o, cap, rfl, h2, h3⟩⟩ := id hs
 ·refine jH [(0, _), (1, _)] Try.func12 Try.ntmps12 fun B hB hW => ?_
  repeat' (first | (refine run (t := tb) 400 rfl ?_ ?_; (focus (repeat' (first | exact trivial | apply And.intro | omega)))) | (refine k_op rfl ?_; first | refine jV (g_ld rfl rfl rfl) ?_ | refine c_st1 rfl rfl rfl rfl ?_ | refine jV (g_lenL rfl) ?_ | (refine jV (g_pickT rfl rfl rfl) ?_) | (refine jV (g_pickF rfl rfl rfl) ?_)) | refine k_g rfl rfl (fun _ => ?_) (fun _ => ?_) | (refine k_tt rfl rfl ?_))
  all_goals exact k_rr (vs := [_]) rfl ⟨rfl, trivial⟩ rfl (List.Sublist.refl _) ⟨rfl, _, rfl, rfl, by omega, by omega⟩
 ·have b1 := bt_lt l (p + 1 - 1).toNat
  have b2 := bt_lt l ((p + 1 - 1) % (l.length : Int)).toNat
  have b3 := bt_lt l (((p + 1 - 1) * 7 + 3) % (l.length : Int)).toNat
  have e1 := fun h => Int.emod_nonneg (p + 1 - 1) (b := (l.length : Int)) h
  have e2 := fun h => Int.emod_lt_of_pos (p + 1 - 1) (b := (l.length : Int)) h
  have e3 := fun h => Int.emod_nonneg ((p + 1 - 1) * 7 + 3) (b := (l.length : Int)) h
  have e4 := fun h => Int.emod_lt_of_pos ((p + 1 - 1) * 7 + 3) (b := (l.length : Int)) h
  have e5 := fun h => Int.ediv_nonneg (a := p + 1 - 1) (b := (l.length : Int)) h (by omega)
  have e6 := fun h => Int.ediv_le_self (a := p + 1 - 1) (l.length : Int) h
  refine jH [(0, _), (1, _)] Try.func12 Try.ntmps12 fun B hB hW => ?_
  repeat' (first | (refine run (t := tb) 400 rfl ?_ ?_; (focus (repeat' (first | exact trivial | apply And.intro | omega)))) | (refine k_op rfl ?_; first | refine jV (g_ld rfl rfl rfl) ?_ | (refine jV (g_ldU rfl (by assumption) ?_) ?_; (focus ((omega); done))) | refine c_st1 rfl rfl rfl rfl ?_ | refine jV (g_lenL rfl) ?_ | (refine jV (g_pickT rfl rfl rfl) ?_) | (refine jV (g_pickF rfl rfl rfl) ?_) | (refine jV (g_iaddr rfl rfl (by omega)) ?_) | (refine jV (g_xorP rfl rfl (by omega)) ?_)) | refine k_g rfl rfl (fun _ => ?_) (fun _ => ?_) | (refine k_tt rfl rfl ?_) | refine k_if rfl (fun _ => ?_) (fun _ => ?_) | (refine k_any (s_any (id := 7) _ (fun _ h => h) mixed ?_); refine jU 24 [0, 1, 2, 4, 5, 6, 7, 15, 16, 17, 19, 20, 21, 22, 23, 24, 33, 34, 36, 37, 38, 39] (bts 46 1056595214583) ?_ ?_; (focus (repeat' (first | exact trivial | apply And.intro | omega))); (refine jG (bts 46 1056595214591) 3 rfl (g_ld rfl rfl rfl) ?_); (refine jG (bts 46 1056595214847) 8 rfl (g_ld rfl rfl rfl) ?_); (refine jG (bts 46 1056595215359) 9 rfl (g_lenL rfl) ?_); refine jU 20 [10] (bts 46 1056595216383) ?_ ?_; (focus (repeat' (first | exact trivial | apply And.intro | omega))); (refine jG (bts 46 1056595218431) 11 rfl (g_iaddr rfl rfl (by omega)) ?_); ((refine jG (bts 46 1056595222527) 12 rfl (g_ldU rfl (by assumption) ?_) ?_; (focus ((omega); done)))); refine jU 16 [13, 14] (bts 46 1056595247103) ?_ ?_; (focus (repeat' (first | exact trivial | apply And.intro | omega))); (refine jG (bts 46 1056595509247) 18 rfl (g_ld rfl rfl rfl) ?_); (refine jG (bts 46 1056629063679) 25 rfl (g_ld rfl rfl rfl) ?_); (refine jG (bts 46 1056696172543) 26 rfl (g_lenL rfl) ?_); refine jU 12 [27] (bts 46 1056830390271) ?_ ?_; (focus (repeat' (first | exact trivial | apply And.intro | omega))); (refine jG (bts 46 1057098825727) 28 rfl (g_iaddr rfl rfl (by omega)) ?_); ((refine jG (bts 46 1057635696639) 29 rfl (g_ldU rfl (by assumption) ?_) ?_; (focus ((omega); done)))); refine jU 6 [30, 31, 32, 35] (bts 46 1099511627775) ?_ ?_; (focus (repeat' (first | exact trivial | apply And.intro | omega))); (refine jG (bts 46 2199023255551) 40 rfl (g_ld rfl rfl rfl) ?_); (refine jG (bts 46 4398046511103) 41 rfl (g_lenL rfl) ?_); refine jU 0 [42, 43, 44, 45] (bts 46 70368744177663) ?_ ?_; (focus (repeat' (first | exact trivial | apply And.intro | omega))); refine x_done (by kernel_rfl) (k_bk ?_)))
  all_goals (first | exact k_rr (vs := [_]) rfl ⟨rfl, trivial⟩ rfl (List.Sublist.refl _) ⟨rfl, _, rfl, rfl, by omega, by omega⟩ | exact k_rr (vs := [_]) rfl ⟨rfl, trivial⟩ rfl (List.Sublist.refl _) ⟨rfl, _, rfl, rfl, Int.emod_nonneg _ (by omega), .inl (Int.emod_lt_of_pos _ (by omega))⟩ | exact xorI_nn _ _)
theorem c_l91Kind {r : Nat} {code : Value} {p : Int} {l : List UInt8} (hp : 0 ≤ p ∧ p ≤ 900000000000) (hs : SlV G code 1 l.length (u8s l)) :
  FnG Try.prog 17 [Pt r 0] G [rdO r code p tRdr] (fun v L' => ∃ x q, v = S x ∧ x.length ≤ 400 ∧ L' = [rdO r code q tRdr] ∧ p ≤ q ∧ q ≤ p + 10) := by
 refine jH [(0, _)] Try.func17 Try.ntmps17 fun B hB hW => ?_
 repeat' (first | (refine jR ?_) | (refine k_op rfl ?_; first | refine c_bsl rfl rfl rfl rfl rfl rfl fun _ => ?_ | (refine jV (g_iaddr rfl rfl (by omega)) ?_) | (refine c_ldMS 64 rfl rfl rfl ?_ rfl (fun xs hxs => ?_); (focus ((simp only [List.length_append, List.length_cons, List.length_nil, List.length_take]; omega); done))) | (refine c_m1g rfl rfl rfl (c_pick ?_ (by (repeat (assumption)); done)) rfl ?_; (focus ((omega); done)); rintro _ _ ⟨k, rfl, rfl, hk0, hk1⟩; dsimp only [zA, fA])))
 refine k_loop (ι := List UInt8 × Int × Int) (fun j => (0 ≤ j.2.1 ∧ j.2.1 ≤ 3) ∧ ((j.1.length : Nat) : Int) ≤ 64 * (4 - j.2.1) ∧ p ≤ j.2.2 ∧ j.2.2 ≤ p + 5 - j.2.1) (fun j => [(0, Pt r 0), (3, S j.1), (4, I j.2.1)]) (fun _ => G) (fun j => [rdO r code j.2.2 tRdr]) (fun j => j.2.1.toNat) (xs, k, p + 1 + 1) ?_ (by repeat' constructor) rfl (by repeat (first | exact List.nil_sublist _ | apply List.Sublist.cons_cons)) (fun j Hj => ?_)
 ·dsimp only; omega
 obtain ⟨s, kk, q⟩ := j
 dsimp only at Hj ⊢
 obtain ⟨hk, hsl, hq0, hq1⟩ := Hj
 by_cases h1 : 1 < kk
 ·repeat' (first | refine jM ?_ | (refine k_op rfl ?_; first | refine c_bsl rfl rfl rfl rfl rfl rfl fun _ => ?_ | (refine jV (g_iaddr rfl rfl (by omega)) ?_) | (refine c_ldMS 64 rfl rfl rfl ?_ rfl (fun xs hxs => ?_); (focus ((simp only [List.length_append, List.length_cons, List.length_nil, List.length_take]; omega); done))) | (refine c_m1g rfl rfl rfl (c_pick ?_ (by (repeat (assumption)); done)) rfl ?_; (focus ((omega); done)); rintro _ _ ⟨k, rfl, rfl, hk0, hk1⟩; dsimp only [zA, fA])) | (refine k_tt rfl (dTt ‹_›) ?_))
  exact k_rd (xs ++ s, kk - 1, q + 1) (by dsimp only; rw [List.length_append]; omega) (by dsimp only; omega) (by repeat' constructor) rfl (by repeat (first | exact List.nil_sublist _ | apply List.Sublist.cons_cons))
 ·repeat' (first | (refine jR ?_) | (refine k_op rfl ?_; first | refine c_bsl rfl rfl rfl rfl rfl rfl fun _ => ?_ | (refine jV (g_iaddr rfl rfl (by omega)) ?_) | (refine c_ldMS 64 rfl rfl rfl ?_ rfl (fun xs hxs => ?_); (focus ((simp only [List.length_append, List.length_cons, List.length_nil, List.length_take]; omega); done))) | (refine c_m1g rfl rfl rfl (c_pick ?_ (by (repeat (assumption)); done)) rfl ?_; (focus ((omega); done)); rintro _ _ ⟨k, rfl, rfl, hk0, hk1⟩; dsimp only [zA, fA])) | (refine k_ff rfl (dFf ‹_›) ?_) | refine k_if rfl (fun _ => ?_) (fun _ => ?_))
  all_goals exact k_rr (vs := [_]) rfl ⟨rfl, trivial⟩ rfl (by repeat (first | exact List.Sublist.refl _ | exact List.nil_sublist _ | apply List.Sublist.cons_cons)) ⟨rfl, _, _, rfl, by omega, rfl, by omega, by omega⟩
theorem c_l91Text {r : Nat} {code : Value} {p : Int} {l : List UInt8} (hp : 0 ≤ p ∧ p ≤ 900000000000) (hs : SlV G code 1 l.length (u8s l)) :
  FnG Try.prog 33 [Pt r 0] G [rdO r code p tRdr] (fun v L' => ∃ x q, v = S (39 :: (x ++ [39])) ∧ x.length ≤ 64 ∧ L' = [rdO r code q tRdr] ∧ p ≤ q ∧ q ≤ p + 10) := by
 refine jH [(0, _)] Try.func33 Try.ntmps33 fun B hB hW => ?_
 repeat' (first | (refine run (t := tb) 400 rfl ?_ ?_; (focus (repeat' (first | exact trivial | apply And.intro | (simp only [List.length_append, List.length_cons, List.length_nil, Int.toNat_natCast]; omega))))) | (refine k_op rfl ?_; first | refine c_bsl rfl rfl rfl rfl rfl rfl fun _ => ?_ | (refine jV (g_iaddr rfl rfl (by omega)) ?_) | (refine c_ldMS 64 rfl rfl rfl ?_ rfl (fun xs hxs => ?_); (focus ((simp only [List.length_append, List.length_cons, List.length_nil, List.length_take]; omega); done))) | (refine c_m1g rfl rfl rfl (c_pick ?_ (by (repeat (assumption)); done)) rfl ?_; (focus ((omega); done)); rintro _ _ ⟨k, rfl, rfl, hk0, hk1⟩; dsimp only [zA, fA])))
 exact k_rr (vs := [_]) rfl ⟨rfl, trivial⟩ rfl (by repeat (first | exact List.nil_sublist _ | apply List.Sublist.cons_cons)) ⟨rfl, xs, _, rfl, by omega, rfl, by omega, by omega⟩
theorem c_l91Field {r : Nat} {code : Value} {p tag : Int} {l so nm : List UInt8} (hp : 0 ≤ p ∧ p ≤ 800000000000) (hs : SlV G code 1 l.length (u8s l)) (ht : 0 ≤ tag ∧ tag ≤ 1000000) (hnm : nm.length ≤ 100) :
  FnG Try.prog 26 [Pt r 0, S so, I tag, S nm] G [rdO r code p tRdr] (fun v L' => ∃ x q, v = S x ∧ x.length ≤ 1000 ∧ L' = [rdO r code q tRdr] ∧ p ≤ q ∧ q ≤ p + 20) := by
 have hdl := decI_len (n := tag) (by omega)
 refine jH [(0, _), (1, _), (2, _), (3, _)] Try.func26 Try.ntmps26 fun B hB hW => ?_
 repeat' (first | (refine run (t := tb) 400 rfl ?_ ?_; (focus (repeat' (first | exact trivial | apply And.intro | omega | (simp only [List.length_append, List.length_cons, List.length_nil, Int.toNat_natCast]; omega))))) | (refine k_op rfl ?_; first | (refine jV (g_pickT rfl rfl rfl) ?_) | (refine jV (g_pickF rfl rfl rfl) ?_) | refine c_bsl rfl rfl rfl rfl rfl rfl fun _ => ?_ | (refine jV (g_iaddr rfl rfl (by omega)) ?_) | (refine c_ldMS 64 rfl rfl rfl ?_ rfl (fun xs hxs => ?_); (focus ((simp only [List.length_append, List.length_cons, List.length_nil, List.length_take]; omega); done))) | (refine c_rt rfl rfl rfl (c_l6Dec (by omega)) rfl ?_) | (refine c_m1g rfl rfl rfl (c_l91Kind ?_ (by (repeat (assumption)); done)) rfl ?_; (focus ((omega); done)); rintro _ _ ⟨kd, q1, rfl, hkd, rfl, hq1, hq2⟩; dsimp only [zA, fA]) | (refine c_m1g rfl rfl rfl (c_pick ?_ (by (repeat (assumption)); done)) rfl ?_; (focus ((omega); done)); rintro _ _ ⟨k, rfl, rfl, hk0, hk1⟩; dsimp only [zA, fA])) | refine k_g rfl rfl (fun _ => ?_) (fun _ => ?_) | (refine k_ff rfl rfl ?_) | refine k_if rfl (fun _ => ?_) (fun _ => ?_))
 all_goals exact k_rr (vs := [_]) rfl ⟨rfl, trivial⟩ rfl (by repeat (first | exact List.Sublist.refl _ | exact List.nil_sublist _ | apply List.Sublist.cons_cons)) ⟨rfl, _, _, rfl, by simp only [List.length_append, List.length_cons, List.length_nil]; omega, rfl, by omega, by omega⟩
theorem c_l91Type {r : Nat} {code : Value} {p : Int} {l so nm : List UInt8} (hp : 0 ≤ p ∧ p ≤ 700000000000) (hs : SlV G code 1 l.length (u8s l)) (hso : so.length ≤ 64) (hnm : nm.length ≤ 64) :
  FnG Try.prog 15 [Pt r 0, S so, S nm] G [rdO r code p tRdr] (fun v L' => ∃ x q, v = S x ∧ x.length ≤ 6000 ∧ 1 ≤ x.length ∧ L' = [rdO r code q tRdr] ∧ p ≤ q ∧ q ≤ p + 200) := by
 refine jH [(0, _), (1, _), (2, _)] Try.func15 Try.ntmps15 fun B hB hW => ?_
 repeat' (first | (refine run (t := tb) 400 rfl ?_ ?_; (focus (repeat' (first | exact trivial | apply And.intro | omega | (simp only [List.length_append, List.length_cons, List.length_nil, Int.toNat_natCast]; omega))))) | (refine k_op rfl ?_; first | (refine jV (g_pickT rfl rfl rfl) ?_) | (refine jV (g_pickF rfl rfl rfl) ?_) | (refine c_m1g rfl rfl rfl (c_pick ?_ (by (repeat (assumption)); done)) rfl ?_; (focus ((omega); done)); rintro _ _ ⟨k, rfl, rfl, hk0, hk1⟩; dsimp only [zA, fA])) | refine k_g rfl rfl (fun _ => ?_) (fun _ => ?_) | (refine k_ff rfl rfl ?_) | refine k_if rfl (fun _ => ?_) (fun _ => ?_))
 all_goals
  have cx_pk2 : ∀ {p : Int}, 0 ≤ p ∧ p ≤ 1000000000000 → FnG Try.prog 12 [Pt r 0, I 2] G [rdO r code p tRdr] (fun v L' => L' = [rdO r code (p + 1) tRdr] ∧ (v = I 0 ∨ v = I 1)) := fun {p} hp => (c_pick (b := r) (p := p) (n := 2) ⟨hp.1, hp.2, by decide⟩ hs).mono fun v G' L' ⟨h1, k, h2, h3, h4, h5⟩ => ⟨h1, h3, by subst h2; rcases (show k = 0 ∨ k = 1 by omega) with rfl | rfl; exact .inl rfl; exact .inr rfl⟩
  refine k_loop (ι := List UInt8 × Int × Int × Int × Int) (fun j => (0 ≤ j.2.2.1 ∧ j.2.2.1 ≤ j.2.2.2.1 ∧ j.2.2.2.1 ≤ 4) ∧ (0 ≤ j.2.1 ∧ j.2.1 ≤ 10 * j.2.2.1) ∧ (1 ≤ j.1.length ∧ ((j.1.length : Nat) : Int) ≤ 200 + 1001 * j.2.2.1) ∧ p ≤ j.2.2.2.2 ∧ j.2.2.2.2 ≤ p + 4 + 30 * j.2.2.1) (fun j => [(0, Pt r 0), (1, S so), (7, S j.1), (8, I j.2.1), (9, I j.2.2.2.1), (10, I j.2.2.1)]) (fun _ => G) (fun j => [rdO r code j.2.2.2.2 tRdr]) (fun j => (j.2.2.2.1 - j.2.2.1).toNat) (so ++ nm ++ [61], 0, 0, _, _) ?_ (by repeat' constructor) rfl sRr (fun j Hj => ?_)
  ·dsimp only; simp only [List.length_append, List.length_cons, List.length_nil]; omega
  obtain ⟨s, tag, kk, n, q⟩ := j
  dsimp only at Hj ⊢
  obtain ⟨hk, htg, hsl, hq0, hq1⟩ := Hj
  by_cases h1 : kk < n
  ·repeat' (first | (refine run (t := tb) 400 rfl ?_ ?_; (focus (repeat' (first | exact trivial | apply And.intro | omega | (simp only [List.length_append, List.length_cons, List.length_nil, Int.toNat_natCast]; omega))))) | (refine k_op rfl ?_; first | refine c_bsl rfl rfl rfl rfl rfl rfl fun _ => ?_ | refine jV (g_bsB rfl rfl (by (repeat (first | exact BL.nil | apply BL.cons)); done)) ?_ | (refine c_m1g rfl rfl rfl (cx_pk2 (by omega)) rfl ?_; rintro _ _ ⟨rfl, rfl | rfl⟩ <;> dsimp only [zA, fA]) | (refine c_m1g rfl rfl rfl (c_pick ?_ (by (repeat (assumption)); done)) rfl ?_; (focus ((omega); done)); rintro _ _ ⟨k, rfl, rfl, hk0, hk1⟩; dsimp only [zA, fA]) | (refine c_m1g rfl rfl rfl (c_l91Field ?_ (by (repeat (assumption)); done) ?_ ?_) rfl ?_; (focus ((omega); done)); (focus ((omega); done)); (focus ((simp; done); done)); rintro _ _ ⟨fd, q1, rfl, hfd, rfl, hq1, hq2⟩; dsimp only [zA, fA])) | (refine k_tt rfl (dTt ‹_›) ?_) | refine k_if rfl (fun _ => ?_) (fun _ => ?_))
   all_goals (refine k_rd (_, _, kk + 1, n, _) ?_ ?_ (by repeat' constructor) rfl (by repeat (first | exact List.nil_sublist _ | apply List.Sublist.cons_cons)))
   all_goals (first | (dsimp only; simp only [List.length_append, List.length_cons, List.length_nil]; omega) | (dsimp only; omega))
  ·repeat' (first | (refine run (t := tb) 400 rfl ?_ ?_; (focus (repeat' (first | exact trivial | apply And.intro | (simp only [List.length_append, List.length_cons, List.length_nil, Int.toNat_natCast]; omega))))) | (refine k_ff rfl (dFf ‹_›) ?_))
   exact k_rr (vs := [_]) rfl ⟨rfl, trivial⟩ rfl sRr ⟨rfl, _, _, rfl, by simp only [List.length_append, List.length_cons, List.length_nil]; omega, by simp only [List.length_append, List.length_cons, List.length_nil]; omega, rfl, by omega, by omega⟩
def DrawC (u : Value) (vs : List TyX) (k : List UInt8) (deep cp : Int) (ct : Nat) : Prop := ∀ (G : Gh) (r : Nat) (code : Value) (p : Int) (l : List UInt8), SchR G u vs → SlV G code 1 l.length (u8s l) → 0 ≤ p ∧ p + cp ≤ 600000000000 →
 FnM Try.prog 19 [Pt r 0, u, S k, I deep] G [rdO r code p tRdr] (fun v G' L' => ∃ w b q, v = Pt b 0 ∧ RepR G' (tys vs) w k b ∧ w.tot ≤ ct ∧ 1 ≤ w.out.length ∧ L' = [rdO r code q tRdr] ∧ p ≤ q ∧ q ≤ p + cp)
theorem DrawC.le {u : Value} {vs : List TyX} {k : List UInt8} {deep cp cp' : Int} {ct ct' : Nat} (h : DrawC u vs k deep cp ct) (h1 : cp ≤ cp') (h2 : ct ≤ ct') : DrawC u vs k deep cp' ct' := fun G r code p l h3 h4 h5 =>
 (h G r code p l h3 h4 ⟨h5.1, by omega⟩).mono fun _ _ _ ⟨h6, w, b, q, h7, h8, h9, h10, h11, h12, h13⟩ => ⟨h6, w, b, q, h7, h8, by omega, h10, h11, h12, by omega⟩
theorem dv_flag {u : Value} {vs : List TyX} {deep : Int} : DrawC u vs [102] deep 15 200 := by
 intro G r code p l hR hs hp
 have cx_pk2 : ∀ {p : Int}, 0 ≤ p ∧ p ≤ 1000000000000 → FnG Try.prog 12 [Pt r 0, I 2] G [rdO r code p tRdr] (fun v L' => L' = [rdO r code (p + 1) tRdr] ∧ (v = I 0 ∨ v = I 1)) := fun {p} hp => (c_pick (b := r) (p := p) (n := 2) ⟨hp.1, hp.2, by decide⟩ hs).mono fun v G' L' ⟨h1, k, h2, h3, h4, h5⟩ => ⟨h1, h3, by subst h2; rcases (show k = 0 ∨ k = 1 by omega) with rfl | rfl; exact .inl rfl; exact .inr rfl⟩
 refine m_enter [(0, _), (1, _), (2, _), (3, _)] Try.func19 (by kernel_rfl) Try.ntmps19 rfl rfl (by repeat' constructor) fun B hB hW => ?_
 repeat' (first | (refine run (t := tb) 400 rfl ?_ ?_; (focus (repeat' (first | exact trivial | apply And.intro | omega | (simp only [List.length_append, List.length_cons, List.length_nil, Int.toNat_natCast]; omega))))) | (refine k_op rfl ?_; first | refine jV (g_bld rfl rfl) ?_ | refine c_bx rfl rfl rfl fun _ => ?_ | refine c_bsl rfl rfl rfl rfl rfl rfl fun _ => ?_ | (refine jV (g_iaddr rfl rfl (by omega)) ?_) | refine jV (g_ld rfl rfl rfl) ?_ | refine c_st1 rfl rfl rfl rfl ?_ | (refine c_m1g rfl rfl rfl (cx_pk2 (by omega)) rfl ?_; rintro _ _ ⟨rfl, rfl | rfl⟩ <;> dsimp only [zA, fA])) | (refine k_tt rfl rfl ?_) | (refine k_ff rfl rfl ?_))
 all_goals rename_i y _
 all_goals refine Nx.sealC (b := y) fun G2 hG2 hsy => ?_
 ·exact k_rr (vs := [_]) rfl ⟨rfl, trivial⟩ rfl (by repeat (first | exact List.nil_sublist _ | apply List.Sublist.cons_cons)) ⟨hG2, .nd 102 [121, 101, 115] 0 [], y, _, rfl, .leaf 102 _ _ _ y hsy (.inr (.inr ⟨rfl, rfl, rfl, .inl rfl⟩)), by simp [nd_tot, V.tots], by rw [V.out]; simp [outW], rfl, by omega, by omega⟩
 ·exact k_rr (vs := [_]) rfl ⟨rfl, trivial⟩ rfl (by repeat (first | exact List.nil_sublist _ | apply List.Sublist.cons_cons)) ⟨hG2, .nd 102 [110, 111] 0 [], y, _, rfl, .leaf 102 _ _ _ y hsy (.inr (.inr ⟨rfl, rfl, rfl, .inr rfl⟩)), by simp [nd_tot, V.tots], by rw [V.out]; simp [outW], rfl, by omega, by omega⟩
abbrev tPtr4 : TypeId := 47
theorem dec_dg {m : Int} (h : 0 ≤ m) : ∀ c ∈ decI m, isDg c = true := (digF_decI m.toNat (Nat.le_refl _) h).2
theorem dv_num {u : Value} {vs : List TyX} {deep : Int} : DrawC u vs [110] deep 15 200 := by
 intro G r code p l hR hs hp
 refine m_enter [(0, _), (1, _), (2, _), (3, _)] Try.func19 (by kernel_rfl) Try.ntmps19 rfl rfl (by repeat' constructor) fun B hB hW => ?_
 repeat' (first | (refine run (t := tb) 400 rfl ?_ ?_; (focus (repeat' (first | exact trivial | apply And.intro | omega | (simp only [List.length_append, List.length_cons, List.length_nil, Int.toNat_natCast]; omega))))) | (refine k_op rfl ?_; first | refine jV (g_bld rfl rfl) ?_ | refine c_bx rfl rfl rfl fun _ => ?_ | refine c_bsl rfl rfl rfl rfl rfl rfl fun _ => ?_ | (refine jV (g_iaddr rfl rfl (by omega)) ?_) | (refine c_ldMI 999999 rfl rfl rfl ?_ ?_ (fun iz hz0 hz1 => ?_); (focus ((simp only [List.length_append, List.length_cons, List.length_nil, List.length_take]; omega); done)); (focus ((repeat' (first | exact intsIn_nil | (refine intsIn_cons ⟨by omega, by omega⟩ ?_))); done))) | refine c_st1 rfl rfl rfl rfl ?_ | (refine c_m1g rfl rfl rfl (c_pick ?_ (by (repeat (assumption)); done)) rfl ?_; (focus ((omega); done)); rintro _ _ ⟨k, rfl, rfl, hk0, hk1⟩; dsimp only [zA, fA]) | (refine c_rt rfl rfl rfl (c_l6Dec (by omega)) rfl ?_)) | (refine k_tt rfl rfl ?_))
 rename_i y _ _ _ _
 have hdl := decI_len (n := iz) (by omega)
 have hdp := decI_pos iz
 refine Nx.sealC (b := y) fun G2 hG2 hsy => ?_
 exact k_rr (vs := [_]) rfl ⟨rfl, trivial⟩ rfl (by repeat (first | exact List.nil_sublist _ | apply List.Sublist.cons_cons)) ⟨hG2, .nd 110 (decI iz) 0 [], y, _, rfl, .leaf 110 _ _ _ y hsy (.inl ⟨rfl, rfl, rfl, dec_dg hz0⟩), by rw [nd_tot, V.tots]; omega, by rw [V.out]; exact hdp, rfl, by omega, by omega⟩
theorem dv_txt {u : Value} {vs : List TyX} {deep : Int} : DrawC u vs [116] deep 15 200 := by
 intro G r code p l hR hs hp
 refine m_enter [(0, _), (1, _), (2, _), (3, _)] Try.func19 (by kernel_rfl) Try.ntmps19 rfl rfl (by repeat' constructor) fun B hB hW => ?_
 repeat' (first | (refine run (t := tb) 400 rfl ?_ ?_; (focus (repeat' (first | exact trivial | apply And.intro | omega | (simp only [List.length_append, List.length_cons, List.length_nil, Int.toNat_natCast]; omega))))) | (refine k_op rfl ?_; first | refine jV (g_bld rfl rfl) ?_ | refine c_bx rfl rfl rfl fun _ => ?_ | refine c_st1 rfl rfl rfl rfl ?_ | (refine c_m1g rfl rfl rfl (c_l91Text ?_ (by (repeat (assumption)); done)) rfl ?_; (focus ((omega); done)); rintro _ _ ⟨tx, q1, rfl, htx, rfl, hq1, hq2⟩; dsimp only [zA, fA])) | (refine k_tt rfl rfl ?_) | (refine k_ff rfl rfl ?_))
 rename_i y
 refine Nx.sealC (b := y) fun G2 hG2 hsy => ?_
 exact k_rr (vs := [_]) rfl ⟨rfl, trivial⟩ rfl sRr ⟨hG2, .nd 116 tx 0 [], y, _, rfl, .leaf 116 _ _ _ y hsy (.inr (.inl ⟨rfl, rfl, rfl⟩)), by rw [nd_tot, V.tots]; omega, by rw [V.out]; simp [outW], rfl, by omega, by omega⟩
theorem reps_snocR {ts : List Ty} {k : List UInt8} {ks : List V} {bs : List Nat} {w : V} {b : Nat} (hl : bs.length = ks.length) (h : ∀ i, i < ks.length → RepR G ts (nth ks i) k (nth bs i)) (hw : RepR G ts w k b) : ∀ i, i < (ks ++ [w]).length → RepR G ts (nth (ks ++ [w]) i) k (nth (bs ++ [b]) i) := fun i hi => by
 by_cases h1 : i < ks.length
 ·have e1 : nth (ks ++ [w]) i = nth ks i := by rw [nth_eq hi, nth_eq h1, List.getElem_append_left h1]
  have e2 : nth (bs ++ [b]) i = nth bs i := by rw [nth_eq (by simp; omega), nth_eq (by omega), List.getElem_append_left (by omega)]
  rw [e1, e2]; exact h i h1
 ·have h2 : i = ks.length := by simp at hi; omega
  have e1 : nth (ks ++ [w]) i = w := by rw [nth_eq hi]; simp [h2]
  have e2 : nth (bs ++ [b]) i = b := by rw [nth_eq (by simp; omega)]; simp [h2, hl]
  rw [e1, e2]; exact hw
theorem dv_list {u : Value} {vs : List TyX} {kd : List UInt8} {deep cp : Int} {ct : Nat} (hcp : 0 ≤ cp ∧ cp ≤ 100000000) (hct : ct ≤ 100000000) (hD : 0 < deep → DrawC u vs kd (deep - 1) cp ct) (hu : u.oneCell' = true) (hkl : kd.length ≤ 1000) (hd : -1000 ≤ deep ∧ deep ≤ 1000) : DrawC u vs (91 :: kd) deep (3 * cp + 10) (3 * ct + 200) := by
 intro G r code p l hR hs hp
 have hkd0 : bt (91 :: kd) (Int.toNat 0) = 91 := bt_zero 91 kd
 have hkl2 : (91 :: kd).length = kd.length + 1 := rfl
 refine m_enter [(0, _), (1, _), (2, _), (3, _)] Try.func19 (by kernel_rfl) Try.ntmps19 rfl rfl (by repeat' constructor) fun B hB hW => ?_
 repeat' (first | refine jM ?_ | (refine k_op rfl ?_; first | refine jV (g_bld rfl rfl) ?_ | refine c_bx rfl rfl rfl fun _ => ?_ | (refine c_m1g rfl rfl rfl (c_pick ?_ (by (repeat (assumption)); done)) rfl ?_; (focus ((omega); done)); rintro _ _ ⟨k, rfl, rfl, hk0, hk1⟩; dsimp only [zA, fA])) | (refine k_tt rfl rfl ?_) | (refine k_ff rfl rfl ?_))
 rename_i y
 refine Nx.addNil tPtr4 1 ?_
 refine k_loop (ι := List V × List Nat × Option Addr × Nat × Int × Int × Gh) (fun j => ((j.2.1.length = j.1.length ∧ ∀ i, i < j.1.length → RepR j.2.2.2.2.2.2 (tys vs) (nth j.1 i) kd (nth j.2.1 i)) ∧ Gh.le G j.2.2.2.2.2.2) ∧ (0 ≤ j.2.2.2.2.1 ∧ ((j.1.length : Nat) : Int) + j.2.2.2.2.1 ≤ 3) ∧ V.tots j.1 ≤ ct * j.1.length ∧ p ≤ j.2.2.2.2.2.1 ∧ j.2.2.2.2.2.1 ≤ p + 1 + cp * ((j.1.length : Nat) : Int)) (fun j => [(0, Pt r 0), (1, u), (2, S (91 :: kd)), (3, I deep), (9, Pt y 0), (10, I j.2.2.2.2.1)]) (fun j => j.2.2.2.2.2.2) (fun j => [.acc (.slice j.2.2.1 j.1.length j.2.2.2.1) tPtr4 1 j.1.length (rows ptR j.2.1), rdO r code j.2.2.2.2.2.1 tRdr, .blk y (.cells (List.toArray [S (91 :: kd), S [], nilS, .slice j.2.2.1 j.1.length j.2.2.2.1]) tLv (0, 0))]) (fun j => j.2.2.2.2.1.toNat) ([], [], none, 0, k, p + 1, G) ?_ (by repeat' constructor) rfl sRr (fun j Hj => ?_)
 ·refine ⟨⟨⟨rfl, fun i hi => absurd hi (by simp)⟩, Gh.le.refl _⟩, ?_, ?_, ?_, ?_⟩
  ·dsimp only; simp only [List.length_nil]; omega
  ·simp [V.tots]
  ·dsimp only; omega
  ·dsimp only; simp
 obtain ⟨ks, bs, a, c, kk, q, Gq⟩ := j
 dsimp only at Hj ⊢
 obtain ⟨⟨⟨hbl, hreps⟩, hgq⟩, hk, htt, hq0, hq1⟩ := Hj
 have hcl : cp * ((ks.length : Nat) : Int) ≤ cp * 3 := Int.mul_le_mul_of_nonneg_left (by omega) hcp.1
 have hcl0 : 0 ≤ cp * ((ks.length : Nat) : Int) := Int.mul_nonneg hcp.1 (by omega)
 have htl : ct * ks.length ≤ ct * 3 := Nat.mul_le_mul_left _ (by omega)
 by_cases hgo : 0 < kk ∧ 0 < deep
 ·obtain ⟨hk0, hd0⟩ := hgo
  have hcl3 : cp * ((ks.length : Nat) : Int) + cp ≤ cp * 3 := by
   have := Int.mul_le_mul_of_nonneg_left (show ((ks.length : Nat) : Int) + 1 ≤ 3 by omega) hcp.1
   rwa [Int.mul_add, Int.mul_one] at this
  have cx_dv := fun {p : Int} (hp : 0 ≤ p ∧ p + cp ≤ 600000000000) => hD hd0 Gq r code p l (hR.mono hgq) (hs.mono hgq) hp
  repeat' (first | (refine jR ?_) | (refine k_op rfl ?_; (refine jV (g_pickT rfl rfl rfl) ?_)) | (refine k_gt rfl rfl (dTt ‹_›) ?_) | (refine k_tt rfl (dTt ‹_›) ?_))
  (refine k_any (s_any (id := 16) [] (fun _ h => absurd h (by simp)) mixed ?_); refine jU 7 [0, 1, 2, 3, 5, 6, 7, 8, 9, 10] (bts 17 2031) ?_ ?_; (focus (repeat' (first | exact trivial | apply And.intro | omega))); refine x_all [4, 11] (by kernel_rfl) (by decide) ⟨?_, ?_, trivial⟩; (focus (refine x_opg rfl rfl ?_; (refine jV (g_ld rfl rfl rfl) ?_); refine jK (bts 17 2047) ?_; refine jA 11 rfl ?_; ((refine c_m1s rfl rfl rfl (cx_dv ?_) rfl ?_; (focus ((omega); done)); rintro _ G1 _ hle ⟨w1, b1, q1, rfl, hrep, htot, hone, rfl, hq1, hq2⟩; dsimp only [zA, fA]; skip)); refine jK (bts 17 4095) ?_; refine jA 12 rfl ?_; (refine c_bsl rfl rfl rfl rfl rfl rfl fun _ => ?_); refine jK (bts 17 8191) ?_; refine jA 13 rfl ?_; ((refine c_apX rfl rfl rfl rfl rfl rfl rfl rfl rfl ?_ fun _ _ => ?_; (focus ((omega); done)))); refine jK (bts 17 16383) ?_; refine jU 1 [14, 15] (bts 17 65535) ?_ ?_; (focus (repeat' (exact trivial))); refine jA 16 rfl ?_; (refine c_st1 rfl rfl rfl rfl ?_); refine jK (bts 17 131071) ?_; refine x_done (by kernel_rfl) (k_bk ?_))); rotate_left 1; (focus (refine x_opg rfl rfl ?_; ((refine c_m1s rfl rfl rfl (cx_dv ?_) rfl ?_; (focus ((omega); done)); rintro _ G1 _ hle ⟨w1, b1, q1, rfl, hrep, htot, hone, rfl, hq1, hq2⟩; dsimp only [zA, fA]; skip)); refine jK (bts 17 4079) ?_; refine x_all [4, 12] (by kernel_rfl) (by decide) ⟨?_, ?_, trivial⟩; (focus (refine x_opg rfl rfl ?_; (refine jV (g_ld rfl rfl rfl) ?_); refine jK (bts 17 4095) ?_; refine jA 12 rfl ?_; (refine c_bsl rfl rfl rfl rfl rfl rfl fun _ => ?_); refine jK (bts 17 8191) ?_; refine jA 13 rfl ?_; ((refine c_apX rfl rfl rfl rfl rfl rfl rfl rfl rfl ?_ fun _ _ => ?_; (focus ((omega); done)))); refine jK (bts 17 16383) ?_; refine jU 1 [14, 15] (bts 17 65535) ?_ ?_; (focus (repeat' (exact trivial))); refine jA 16 rfl ?_; (refine c_st1 rfl rfl rfl rfl ?_); refine jK (bts 17 131071) ?_; refine x_done (by kernel_rfl) (k_bk ?_))); rotate_left 1; (focus (refine x_opg rfl rfl ?_; (refine c_bsl rfl rfl rfl rfl rfl rfl fun _ => ?_); refine jK (bts 17 8175) ?_; refine jA 4 rfl ?_; (refine jV (g_ld rfl rfl rfl) ?_); refine jK (bts 17 8191) ?_; refine jA 13 rfl ?_; ((refine c_apX rfl rfl rfl rfl rfl rfl rfl rfl rfl ?_ fun _ _ => ?_; (focus ((omega); done)))); refine jK (bts 17 16383) ?_; refine jU 1 [14, 15] (bts 17 65535) ?_ ?_; (focus (repeat' (exact trivial))); refine jA 16 rfl ?_; (refine c_st1 rfl rfl rfl rfl ?_); refine jK (bts 17 131071) ?_; refine x_done (by kernel_rfl) (k_bk ?_))); rotate_left 1)); rotate_left 2)
  all_goals repeat' (refine jM ?_)
  all_goals
   rename_i _ y1 yc
   have hl1 : (ks ++ [w1]).length = ks.length + 1 := by simp
   have hms : ct * (ks.length + 1) = ct * ks.length + ct := Nat.mul_succ _ _
   have hts : V.tots (ks ++ [w1]) = V.tots ks + w1.tot := by simp [tots_app, V.tots]
   rw [show rows ptR bs ++ [Pt b1 0] = rows ptR (bs ++ [b1]) from (rows_snoc ptR bs b1).symm]
   exact k_rd (ks ++ [w1], bs ++ [b1], some ⟨y1, 0, none⟩, yc, kk - 1, q1, G1) ⟨⟨⟨by simp [hbl], reps_snocR hbl (fun i hi => (hreps i hi).mono hle) hrep⟩, hgq.trans hle⟩, by dsimp only; rw [hl1]; omega, by dsimp only; rw [hl1, hms, hts]; omega, by dsimp only; omega, by dsimp only; rw [hl1, Int.natCast_succ, Int.mul_add, Int.mul_one]; omega⟩ (by dsimp only; omega) (by repeat' constructor) rfl (by rw [hl1]; repeat (first | exact List.Sublist.refl _ | apply List.Sublist.cons_cons | apply List.Sublist.cons))
 ·have : kk = 0 ∨ deep ≤ 0 := by omega
  repeat' (first | (refine jR ?_) | (refine k_op rfl ?_; first | (refine jV (g_pickT rfl rfl rfl) ?_) | (refine jV (g_pickF rfl rfl rfl) ?_)) | refine k_g rfl rfl (fun _ => ?_) (fun _ => ?_) | (refine k_ff rfl (by first | rfl | (refine decide_eq_false ?_; (omega))) ?_))
  all_goals
   refine Nx.sealS (v := .slice a ks.length c) fun G2 hG2 hsl => ?_
   refine Nx.sealC (b := y) fun G3 hG3 hsg => ?_
   exact k_rr (vs := [_]) rfl ⟨rfl, trivial⟩ rfl sRr ⟨hgq.trans (hG2.trans hG3), .nd 91 [] 0 ks, y, q, rfl, .lst kd y ks bs a c hsg (hsl.mono hG3) hbl (fun i hi => (hreps i hi).mono (hG2.trans hG3)), by rw [nd_tot]; simp only [List.length_nil]; omega, by rw [V.out]; simp [outW], rfl, by omega, by omega⟩
theorem dv_opt {u : Value} {vs : List TyX} {kd : List UInt8} {deep cp : Int} {ct : Nat} (hcp : 0 ≤ cp ∧ cp ≤ 100000000) (hct : ct ≤ 100000000) (hD : 0 < deep → DrawC u vs kd (deep - 1) cp ct) (hu : u.oneCell' = true) (hkl : kd.length ≤ 1000) (hd : -1000 ≤ deep ∧ deep ≤ 1000) : DrawC u vs (63 :: kd) deep (cp + 10) (ct + 200) := by
 intro G r code p l hR hs hp
 have hkd0 : bt (63 :: kd) (Int.toNat 0) = 63 := bt_zero 63 kd
 have hkl2 : (63 :: kd).length = kd.length + 1 := rfl
 by_cases h0 : 0 < deep
 ·have cx_dv := fun {p : Int} (hp : 0 ≤ p ∧ p + cp ≤ 600000000000) => hD h0 G r code p l hR hs hp
  refine m_enter [(0, _), (1, _), (2, _), (3, _)] Try.func19 (by kernel_rfl) Try.ntmps19 rfl rfl (by repeat' constructor) fun B hB hW => ?_
  repeat' (first | refine jM ?_ | (refine k_op rfl ?_; first | refine jV (g_bld rfl rfl) ?_ | refine c_bx rfl rfl rfl fun _ => ?_ | (refine jV (g_pickT rfl rfl rfl) ?_) | (refine c_m1g rfl rfl rfl (c_pick ?_ (by (repeat (assumption)); done)) rfl ?_; (focus ((omega); done)); rintro _ _ ⟨k, rfl, rfl, hk0, hk1⟩; dsimp only [zA, fA])) | (refine k_gt rfl rfl (dTt ‹_›) ?_) | (refine k_tt rfl rfl ?_) | (refine k_ff rfl rfl ?_) | refine k_if rfl (fun _ => ?_) (fun _ => ?_))
  ·refine Nx.addNil tPtr4 1 ?_
   (refine k_any (s_any (id := 20) [] (fun _ h => absurd h (by simp)) mixed ?_); refine jU 7 [0, 1, 2, 3, 5, 6, 7, 8, 9, 10] (bts 17 2031) ?_ ?_; (focus (repeat' (first | exact trivial | apply And.intro | omega))); refine x_all [4, 11] (by kernel_rfl) (by decide) ⟨?_, ?_, trivial⟩; (focus (refine x_opg rfl rfl ?_; (refine jV (g_ld rfl rfl rfl) ?_); refine jK (bts 17 2047) ?_; refine jA 11 rfl ?_; ((refine c_m1s rfl rfl rfl (cx_dv ?_) rfl ?_; (focus ((omega); done)); rintro _ G1 _ hle ⟨w1, b1, q1, rfl, hrep, htot, hone, rfl, hq1, hq2⟩; dsimp only [zA, fA]; skip)); refine jK (bts 17 4095) ?_; refine jA 12 rfl ?_; (refine c_bsl rfl rfl rfl rfl rfl rfl fun _ => ?_); refine jK (bts 17 8191) ?_; refine jA 13 rfl ?_; ((refine c_apX rfl rfl rfl rfl rfl rfl rfl rfl rfl ?_ fun _ _ => ?_; (focus ((omega); done)))); refine jK (bts 17 16383) ?_; refine jU 1 [14, 15] (bts 17 65535) ?_ ?_; (focus (repeat' (exact trivial))); refine jA 16 rfl ?_; (refine c_st1 rfl rfl rfl rfl ?_); refine jK (bts 17 131071) ?_; refine x_done (by kernel_rfl) (k_bk ?_))); rotate_left 1; (focus (refine x_opg rfl rfl ?_; ((refine c_m1s rfl rfl rfl (cx_dv ?_) rfl ?_; (focus ((omega); done)); rintro _ G1 _ hle ⟨w1, b1, q1, rfl, hrep, htot, hone, rfl, hq1, hq2⟩; dsimp only [zA, fA]; skip)); refine jK (bts 17 4079) ?_; refine x_all [4, 12] (by kernel_rfl) (by decide) ⟨?_, ?_, trivial⟩; (focus (refine x_opg rfl rfl ?_; (refine jV (g_ld rfl rfl rfl) ?_); refine jK (bts 17 4095) ?_; refine jA 12 rfl ?_; (refine c_bsl rfl rfl rfl rfl rfl rfl fun _ => ?_); refine jK (bts 17 8191) ?_; refine jA 13 rfl ?_; ((refine c_apX rfl rfl rfl rfl rfl rfl rfl rfl rfl ?_ fun _ _ => ?_; (focus ((omega); done)))); refine jK (bts 17 16383) ?_; refine jU 1 [14, 15] (bts 17 65535) ?_ ?_; (focus (repeat' (exact trivial))); refine jA 16 rfl ?_; (refine c_st1 rfl rfl rfl rfl ?_); refine jK (bts 17 131071) ?_; refine x_done (by kernel_rfl) (k_bk ?_))); rotate_left 1; (focus (refine x_opg rfl rfl ?_; (refine c_bsl rfl rfl rfl rfl rfl rfl fun _ => ?_); refine jK (bts 17 8175) ?_; refine jA 4 rfl ?_; (refine jV (g_ld rfl rfl rfl) ?_); refine jK (bts 17 8191) ?_; refine jA 13 rfl ?_; ((refine c_apX rfl rfl rfl rfl rfl rfl rfl rfl rfl ?_ fun _ _ => ?_; (focus ((omega); done)))); refine jK (bts 17 16383) ?_; refine jU 1 [14, 15] (bts 17 65535) ?_ ?_; (focus (repeat' (exact trivial))); refine jA 16 rfl ?_; (refine c_st1 rfl rfl rfl rfl ?_); refine jK (bts 17 131071) ?_; refine x_done (by kernel_rfl) (k_bk ?_))); rotate_left 1)); rotate_left 2)
   all_goals repeat' (refine jR ?_)
   all_goals
    rename_i y _ _ y1 yc
    refine Nx.sealS (v := .slice (some ⟨y1, 0, none⟩) (0 + 1) yc) fun G2 hG2 hsl => ?_
    refine Nx.sealC (b := y) fun G3 hG3 hsg => ?_
    obtain ⟨_, ⟨h, _⟩ | ⟨b2, o2, c2, e, hc2, hs2⟩⟩ := hsl
    ·cases h
    simp only [Value.slice.injEq, Option.some.injEq, Addr.mk.injEq, and_true] at e
    obtain ⟨⟨rfl, rfl⟩, -, rfl⟩ := e
    exact k_rr (vs := [_]) rfl ⟨rfl, trivial⟩ rfl (by repeat (first | exact List.Sublist.refl _ | apply List.Sublist.cons)) ⟨hle.trans (hG2.trans hG3), .nd 63 [] 0 [w1], y, q1, rfl, .opt kd y y1 b1 yc w1 (by omega) hsg (hs2.mono hG3) (hrep.mono (hG2.trans hG3)), by simp only [nd_tot, V.tots, List.length_nil]; omega, by rw [V.out]; simp [outW], rfl, by omega, by omega⟩
  ·rename_i y _
   refine Nx.sealC (b := y) fun G2 hG2 hsy => ?_
   exact k_rr (vs := [_]) rfl ⟨rfl, trivial⟩ rfl sRr ⟨hG2, .nd 63 [] 0 [], y, _, rfl, .non kd y hsy, by simp [nd_tot, V.tots], by rw [V.out]; simp [outW], rfl, by omega, by omega⟩
 ·refine m_enter [(0, _), (1, _), (2, _), (3, _)] Try.func19 (by kernel_rfl) Try.ntmps19 rfl rfl (by repeat' constructor) fun B hB hW => ?_
  repeat' (first | refine jM ?_ | (refine k_op rfl ?_; first | refine jV (g_bld rfl rfl) ?_ | refine c_bx rfl rfl rfl fun _ => ?_ | (refine jV (g_pickF rfl rfl rfl) ?_)) | (refine k_gf rfl rfl (dFf ‹_›) ?_) | (refine k_tt rfl rfl ?_) | (refine k_ff rfl rfl ?_))
  rename_i y
  refine Nx.sealC (b := y) fun G2 hG2 hsy => ?_
  exact k_rr (vs := [_]) rfl ⟨rfl, trivial⟩ rfl sRr ⟨hG2, .nd 63 [] 0 [], y, _, rfl, .non kd y hsy, by simp [nd_tot, V.tots], by rw [V.out]; simp [outW], rfl, by omega, by omega⟩
end Go.E
namespace Go.E
set_option maxRecDepth 20000
set_option maxHeartbeats 2000000
open Go.Proofs
variable {G : Gh}
abbrev tTyG : TypeId := 64
abbrev tPtr5 : TypeId := 47
abbrev tInt5 : TypeId := 3
def DrawT (u : Value) (vs : List TyX) (k : List UInt8) (deep cp : Int) (ct : Nat) : Prop := ∀ (G : Gh) (r : Nat) (code : Value) (p : Int) (l : List UInt8), SchR G u vs → SlV G code 1 l.length (u8s l) → 0 ≤ p ∧ p + cp ≤ 600000000000 →
 FnM Try.prog 34 [Pt r 0, u, S k, I deep] G [rdO r code p tRdr] (fun v G' L' => ∃ w b q, v = Pt b 0 ∧ RepR G' (tys vs) w k b ∧ w.tot ≤ ct ∧ 1 ≤ w.out.length ∧ L' = [rdO r code q tRdr] ∧ p ≤ q ∧ q ≤ p + cp)
theorem dv_typed {u : Value} {vs : List TyX} {k : List UInt8} {deep cp : Int} {ct : Nat} (hD : DrawT u vs (64 :: k) deep cp ct) (hkl : k.length ≤ 1000) : DrawC u vs (64 :: k) deep cp ct := by
 intro G r code p l hR hs hp
 have hkd0 : bt (64 :: k) (Int.toNat 0) = 64 := bt_zero 64 k
 have hkl2 : (64 :: k).length = k.length + 1 := rfl
 have cx_dt := fun {p : Int} (hp : 0 ≤ p ∧ p + cp ≤ 600000000000) => hD G r code p l hR hs hp
 refine m_enter [(0, _), (1, _), (2, _), (3, _)] Try.func19 (by kernel_rfl) Try.ntmps19 rfl rfl (by repeat' constructor) fun B hB hW => ?_
 repeat' (first | refine jM ?_ | (refine k_op rfl ?_; first | refine jV (g_bld rfl rfl) ?_ | refine c_bx rfl rfl rfl fun _ => ?_ | (refine c_m1s rfl rfl rfl (cx_dt ‹_›) rfl ?_; rintro _ G1 _ hle ⟨w1, b1, q1, rfl, hrep, htot, hone, rfl, hq1, hq2⟩; dsimp only [zA, fA]; skip)) | (refine k_ff rfl rfl ?_))
 exact k_rr (vs := [_]) rfl ⟨rfl, trivial⟩ rfl (by repeat (first | exact List.nil_sublist _ | apply List.Sublist.cons_cons)) ⟨hle, w1, b1, q1, rfl, hrep, htot, hone, rfl, hq1, hq2⟩
section
variable {u : Value} {vs : List TyX} {kd nm : List UInt8} {fs : List Fld} {a : Option Addr} {ca : Nat} {deep cp : Int} {ct : Nat}
theorem dt_enm (hr : refV vs kd = some ((a, ca), ⟨69, nm, fs⟩)) (hvl : vs.length ≤ 1000000) (hk : kOk kd = true) (hkl : kd.length ≤ 1000) (h0 : 0 < fs.length) (h8 : fs.length ≤ 8) (hw : SchW (tys vs)) : DrawT u vs kd deep 10 300 := by
 intro G r code p l hR hs hp
 have href := refV_ty vs kd
 rw [hr] at href
 have cx_rf := c_ref (G := G) (k := kd) hR hvl hk (by omega)
 rw [hr] at cx_rf
 have htm := refT_mem href.symm
 obtain ⟨bf, of, cf, ef, hsf⟩ := (hR.fl _ (refV_mem hr)).expl h0
 simp only [slX, Value.slice.injEq] at ef
 obtain ⟨rfl, -, rfl⟩ := ef
 dsimp only at hsf
 have cx_rf : PuG Try.prog 49 [u, S kd] G (· = Tu [Ag [U8 (69 : Nat), S nm, .slice (some ⟨bf, of, none⟩) fs.length ca], Bo true]) := cx_rf
 refine m_enter [(0, _), (1, _), (2, _), (3, _)] Try.func34 (by kernel_rfl) Try.ntmps34 rfl rfl (by repeat' constructor) fun B hB hW => ?_
 repeat' (first | (refine jR ?_) | (refine k_op rfl ?_; first | refine c_al rfl rfl fun _ => ?_ | refine c_stA rfl rfl rfl rfl rfl rfl ?_ | refine jV (g_ld rfl rfl rfl) ?_ | refine c_bsl rfl rfl rfl rfl rfl rfl fun _ => ?_ | refine jV (g_bsB rfl rfl (by (repeat (first | exact BL.nil | apply BL.lit rfl)); done)) ?_ | refine jV (g_bld rfl rfl) ?_ | refine c_bx rfl rfl rfl fun _ => ?_ | (refine c_rt rfl rfl rfl cx_rf rfl ?_)) | (refine k_tt rfl rfl ?_))
 rename_i y9 _ y11
 (refine k_any (s_any (id := 5) [.blk y9 (.cells (List.toArray [U8 (69 : Nat), S nm, .slice (some ⟨bf, of, none⟩) fs.length ca]) tTyG (0, 0))] (by intro y hy; simp only [List.mem_cons, List.not_mem_nil, or_false] at hy ⊢; simp [hy]) mixed ?_); refine jU 11 [0, 1, 3, 4] (bts 15 27) ?_ ?_; (focus (repeat' (exact trivial))); (refine jG (bts 15 31) 2 rfl (g_ld rfl rfl rfl) ?_); (refine jG (bts 15 63) 5 rfl (g_ld rfl rfl rfl) ?_); (refine jG (bts 15 127) 6 rfl (g_lenL rfl) ?_); refine jA 7 rfl ?_; ((refine c_m1g rfl rfl rfl (c_pick ?_ (by (repeat (assumption)); done)) rfl ?_; (focus ((omega); done)); rintro _ _ ⟨k, rfl, rfl, hk0, hk1⟩; dsimp only [zA, fA])); refine jK (bts 15 255) ?_; ((refine jG (bts 15 511) 8 rfl (g_iaddr rfl rfl ?_) ?_; (focus ((omega); done)))); refine jU 5 [9] (bts 15 1023) ?_ ?_; (focus (repeat' (exact trivial))); ((refine jG (bts 15 2047) 10 rfl (g_ldRF rfl rfl (by assumption) ?_ rfl rfl) ?_; (focus ((omega); done)))); refine jA 11 rfl ?_; (refine c_bsl rfl rfl rfl rfl rfl rfl fun _ => ?_); refine jK (bts 15 4095) ?_; refine jU 1 [12, 13] (bts 15 16383) ?_ ?_; (focus (repeat' (exact trivial))); refine jA 14 rfl ?_; (refine c_st1 rfl rfl rfl rfl ?_); refine jK (bts 15 32767) ?_; refine x_done (by kernel_rfl) (k_bk ?_))
 all_goals repeat' (refine jR ?_)
 all_goals
  rename_i y1
  refine Nx.sealC (b := y1) fun G2 hG2 hsy => ?_
  refine Nx.sealC (b := y11) fun G3 hG3 hsg => ?_
  have hdm : nth fs k.toNat ∈ fs := nth_mem (by omega)
  exact k_rr (vs := [_]) rfl ⟨rfl, trivial⟩ rfl (by repeat (first | exact List.nil_sublist _ | apply List.Sublist.cons_cons)) ⟨hG2.trans hG3, .nd 69 [] (nth fs k.toNat).tag [], y11, _, rfl, .enm kd y11 y1 ⟨69, nm, fs⟩ (nth fs k.toNat) ⟨href.symm, rfl⟩ hdm hsg (hsy.mono hG3), by simp [nd_tot, V.tots], by rw [V.out]; simp [outW], rfl, by omega, by omega⟩
theorem dt_uni (hr : refV vs kd = some ((a, ca), ⟨85, nm, fs⟩)) (hvl : vs.length ≤ 1000000) (hk : kOk kd = true) (hkl : kd.length ≤ 1000) (h0 : 0 < fs.length) (h8 : fs.length ≤ 8) (hw : SchW (tys vs)) (hcp : 0 ≤ cp ∧ cp ≤ 100000000) (hct : ct ≤ 100000000)
  (hD : ∀ d ∈ fs, (0 < deep ∨ d = nth fs 0) → DrawC u vs d.kind (deep - 1) cp ct) (hd : -1000 ≤ deep ∧ deep ≤ 1000) : DrawT u vs kd deep (cp + 10) (ct + 20) := by
 intro G r code p l hR hs hp
 have href := refV_ty vs kd
 rw [hr] at href
 have cx_rf := c_ref (G := G) (k := kd) hR hvl hk (by omega)
 rw [hr] at cx_rf
 have htm := refT_mem href.symm
 obtain ⟨bf, of, cf, ef, hsf⟩ := (hR.fl _ (refV_mem hr)).expl h0
 simp only [slX, Value.slice.injEq] at ef
 obtain ⟨rfl, -, rfl⟩ := ef
 dsimp only at hsf
 have cx_rf : PuG Try.prog 49 [u, S kd] G (· = Tu [Ag [U8 (85 : Nat), S nm, .slice (some ⟨bf, of, none⟩) fs.length ca], Bo true]) := cx_rf
 refine m_enter [(0, _), (1, _), (2, _), (3, _)] Try.func34 (by kernel_rfl) Try.ntmps34 rfl rfl (by repeat' constructor) fun B hB hW => ?_
 repeat' (first | refine jM ?_ | (refine k_op rfl ?_; first | refine c_al rfl rfl fun _ => ?_ | refine c_st1 rfl rfl rfl rfl ?_ | refine c_stA rfl rfl rfl rfl rfl rfl ?_ | refine jV (g_ld rfl rfl rfl) ?_ | (refine jV (g_ldR rfl rfl (by assumption) ?_) ?_; (focus ((omega); done))) | refine c_bsl rfl rfl rfl rfl rfl rfl fun _ => ?_ | refine jV (g_bsB rfl rfl (by (repeat (first | exact BL.nil | apply BL.lit rfl)); done)) ?_ | refine jV (g_bld rfl rfl) ?_ | refine c_bx rfl rfl rfl fun _ => ?_ | (refine jV (g_iaddrN rfl rfl (by omega)) ?_) | (refine c_rt rfl rfl rfl cx_rf rfl ?_)) | (refine k_tt rfl rfl ?_) | (refine k_ff rfl rfl ?_) | refine k_if rfl (fun _ => ?_) (fun _ => ?_))
 ·rename_i y9 _ y11 y12 hd0
  (refine k_any (s_any (id := 10) [.blk y9 (.cells (List.toArray [U8 (85 : Nat), S nm, .slice (some ⟨bf, of, none⟩) fs.length ca]) tTyG (0, 0))] (by intro y hy; simp only [List.mem_cons, List.not_mem_nil, or_false] at hy ⊢; simp [hy]) mixed ?_); refine jU 7 [0, 2, 3] (bts 10 13) ?_ ?_; (focus (repeat' (exact trivial))); (refine jG (bts 10 15) 1 rfl (g_ld rfl rfl rfl) ?_); (refine jG (bts 10 31) 4 rfl (g_ld rfl rfl rfl) ?_); (refine jG (bts 10 63) 5 rfl (g_lenL rfl) ?_); refine jA 6 rfl ?_; ((refine c_m1g rfl rfl rfl (c_pick ?_ (by (repeat (assumption)); done)) rfl ?_; (focus ((omega); done)); rintro _ _ ⟨k, rfl, rfl, hk0, hk1⟩; dsimp only [zA, fA])); refine jK (bts 10 127) ?_; ((refine jG (bts 10 255) 7 rfl (g_iaddr rfl rfl ?_) ?_; (focus ((omega); done)))); ((refine jG (bts 10 511) 8 rfl (g_ldR rfl rfl (by assumption) ?_) ?_; (focus ((omega); done)))); refine jA 9 rfl ?_; (refine c_stA rfl rfl rfl rfl rfl rfl ?_); refine jK (bts 10 1023) ?_; refine x_done (by kernel_rfl) (k_bk ?_))
  all_goals have hdm : nth fs k.toNat ∈ fs := nth_mem (by omega)
  all_goals have cx_dv := fun {p : Int} (hp : 0 ≤ p ∧ p + cp ≤ 600000000000) => hD (nth fs k.toNat) hdm (.inl hd0) G r code p l hR hs hp
  all_goals repeat' (first | refine jM ?_ | (refine k_op rfl ?_; first | refine c_st1 rfl rfl rfl rfl ?_ | refine jV (g_ld rfl rfl rfl) ?_ | refine c_bsl rfl rfl rfl rfl rfl rfl fun _ => ?_ | (refine c_m1s rfl rfl rfl (cx_dv (by omega)) rfl ?_; rintro _ G1 _ hle ⟨w1, b1, q1, rfl, hrep, htot, hone, rfl, hq1, hq2⟩; dsimp only [zA, fA]; skip)))
  all_goals
   rename_i y1 y2
   refine Nx.sealC (b := y1) fun G2 hG2 hs1 => ?_
   refine Nx.sealC (b := y2) fun G3 hG3 hs2 => ?_
   refine Nx.sealC (b := y11) fun G4 hG4 hsg => ?_
   exact k_rr (vs := [_]) rfl ⟨rfl, trivial⟩ rfl (by repeat (first | exact List.nil_sublist _ | apply List.Sublist.cons_cons)) ⟨((hle.trans hG2).trans hG3).trans hG4, .nd 85 [] (nth fs k.toNat).tag [w1], y11, _, rfl, .uni kd y11 y1 y2 b1 1 ⟨85, nm, fs⟩ (nth fs k.toNat) w1 (Nat.le_refl _) ⟨href.symm, rfl⟩ hdm hsg (hs1.mono (hG3.trans hG4)) (hs2.mono hG4) (hrep.mono ((hG2.trans hG3).trans hG4)), by simp only [nd_tot, V.tots, List.length_nil]; omega, by rw [V.out]; simp [outW], rfl, by omega, by omega⟩
 ·have cx_dv := fun {p : Int} (hp : 0 ≤ p ∧ p + cp ≤ 600000000000) => hD (nth fs 0) (nth_mem h0) (.inr rfl) G r code p l hR hs hp
  repeat' (first | (refine jR ?_) | (refine k_op rfl ?_; first | refine c_st1 rfl rfl rfl rfl ?_ | refine c_bsl rfl rfl rfl rfl rfl rfl fun _ => ?_ | (refine c_m1s rfl rfl rfl (cx_dv (by omega)) rfl ?_; rintro _ G1 _ hle ⟨w1, b1, q1, rfl, hrep, htot, hone, rfl, hq1, hq2⟩; dsimp only [zA, fA]; skip)))
  all_goals
   rename_i y9 _ y11 y12 _ y1 y2
   refine Nx.sealC (b := y1) fun G2 hG2 hs1 => ?_
   refine Nx.sealC (b := y2) fun G3 hG3 hs2 => ?_
   refine Nx.sealC (b := y11) fun G4 hG4 hsg => ?_
   exact k_rr (vs := [_]) rfl ⟨rfl, trivial⟩ rfl (by repeat (first | exact List.nil_sublist _ | apply List.Sublist.cons_cons)) ⟨((hle.trans hG2).trans hG3).trans hG4, .nd 85 [] (nth fs 0).tag [w1], y11, _, rfl, .uni kd y11 y1 y2 b1 1 ⟨85, nm, fs⟩ (nth fs 0) w1 (Nat.le_refl _) ⟨href.symm, rfl⟩ (nth_mem h0) hsg (hs1.mono (hG3.trans hG4)) (hs2.mono hG4) (hrep.mono ((hG2.trans hG3).trans hG4)), by simp only [nd_tot, V.tots, List.length_nil]; omega, by rw [V.out]; simp [outW], rfl, by omega, by omega⟩
theorem dt_rec0 (hr : refV vs kd = some ((a, ca), ⟨82, nm, fs⟩)) (hvl : vs.length ≤ 1000000) (hk : kOk kd = true) (hkl : kd.length ≤ 1000) (h8 : fs.length ≤ 8) (hd : -1000 ≤ deep ∧ deep ≤ 0) : DrawT u vs kd deep 10 100 := by
 intro G r code p l hR hs hp
 have href := refV_ty vs kd
 rw [hr] at href
 have cx_rf := c_ref (G := G) (k := kd) hR hvl hk (by omega)
 rw [hr] at cx_rf
 have cx_rf : PuG Try.prog 49 [u, S kd] G (· = Tu [Ag [U8 (82 : Nat), S nm, .slice a fs.length ca], Bo true]) := cx_rf
 refine m_enter [(0, _), (1, _), (2, _), (3, _)] Try.func34 (by kernel_rfl) Try.ntmps34 rfl rfl (by repeat' constructor) fun B hB hW => ?_
 repeat' (first | (refine jR ?_) | (refine k_op rfl ?_; first | refine c_al rfl rfl fun _ => ?_ | refine c_stA rfl rfl rfl rfl rfl rfl ?_ | refine jV (g_ld rfl rfl rfl) ?_ | refine c_bsl rfl rfl rfl rfl rfl rfl fun _ => ?_ | refine jV (g_bsB rfl rfl (by (repeat (first | exact BL.nil | apply BL.lit rfl)); done)) ?_ | refine jV (g_bld rfl rfl) ?_ | refine c_bx rfl rfl rfl fun _ => ?_ | (refine c_rt rfl rfl rfl cx_rf rfl ?_)) | (refine k_ff rfl rfl ?_))
 rename_i y9 _ y11
 refine k_loop (ι := Unit) (fun i => True) (fun i => [(0, Pt r 0), (1, u), (2, S kd), (3, I deep), (9, Pt y9 0), (11, Pt y11 0), (13, I 0)]) (fun _ => G) (fun i => [.blk y11 (.cells (List.toArray [S kd, S [82], nilS, nilS]) tLv (0, 0)), .blk y9 (.cells (List.toArray [U8 (82 : Nat), S nm, .slice a fs.length ca]) tTyG (0, 0)), rdO r code p tRdr]) (fun i => 0) () ?_ (by repeat' constructor) rfl (by repeat (first | exact List.Sublist.refl _ | apply List.Sublist.cons_cons | apply List.Sublist.cons)) (fun i Hi => ?_)
 ·trivial
 by_cases h0 : 0 < fs.length
 all_goals repeat' (first | (refine jR ?_) | (refine k_op rfl ?_; first | refine jV (g_ld rfl rfl rfl) ?_ | refine jV (g_lenL rfl) ?_ | (refine jV (g_pickT rfl rfl rfl) ?_) | (refine jV (g_pickF rfl rfl rfl) ?_)) | (refine k_gt rfl rfl (dTt (by omega)) ?_) | (refine k_gf rfl rfl (dFf (by omega)) ?_) | (refine k_ff rfl (by first | rfl | (refine decide_eq_false ?_; (omega))) ?_))
 all_goals
  refine Nx.sealC (b := y11) fun G2 hG2 hsg => ?_
  exact k_rr (vs := [_]) rfl ⟨rfl, trivial⟩ rfl (by repeat (first | exact List.Sublist.refl _ | apply List.Sublist.cons)) ⟨hG2, .nd 82 [] 0 [], y11, p, rfl, .recd kd y11 ⟨82, nm, fs⟩ [] [] none none 0 0 ⟨href.symm, rfl⟩ hsg ⟨rfl, .inl ⟨rfl, rfl⟩⟩ ⟨rfl, .inl ⟨rfl, rfl⟩⟩ rfl (fun i hi => absurd hi (by simp)) (fun i hi => absurd hi (by simp)), by simp [nd_tot, V.tots], by rw [V.out]; simp [outW], rfl, by omega, by omega⟩
theorem dt_rec (hr : refV vs kd = some ((a, ca), ⟨82, nm, fs⟩)) (hvl : vs.length ≤ 1000000) (hk : kOk kd = true) (hkl : kd.length ≤ 1000) (h8 : fs.length ≤ 8) (hw : SchW (tys vs)) (hcp : 0 ≤ cp ∧ cp ≤ 100000000) (hct : ct ≤ 100000000)
  (hD : ∀ d ∈ fs, DrawC u vs d.kind (deep - 1) cp ct) (hd : 0 < deep ∧ deep ≤ 1000) : DrawT u vs kd deep (8 * cp + 20) (8 * ct + 200) := by
 intro G r code p l hR hs hp
 have href := refV_ty vs kd
 rw [hr] at href
 have cx_rf := c_ref (G := G) (k := kd) hR hvl hk (by omega)
 rw [hr] at cx_rf
 have htm := refT_mem href.symm
 have cx_rf : PuG Try.prog 49 [u, S kd] G (· = Tu [Ag [U8 (82 : Nat), S nm, .slice a fs.length ca], Bo true]) := cx_rf
 refine m_enter [(0, _), (1, _), (2, _), (3, _)] Try.func34 (by kernel_rfl) Try.ntmps34 rfl rfl (by repeat' constructor) fun B hB hW => ?_
 repeat' (first | (refine jR ?_) | (refine k_op rfl ?_; first | refine c_al rfl rfl fun _ => ?_ | refine c_stA rfl rfl rfl rfl rfl rfl ?_ | refine jV (g_ld rfl rfl rfl) ?_ | refine c_bsl rfl rfl rfl rfl rfl rfl fun _ => ?_ | refine jV (g_bsB rfl rfl (by (repeat (first | exact BL.nil | apply BL.lit rfl)); done)) ?_ | refine jV (g_bld rfl rfl) ?_ | refine c_bx rfl rfl rfl fun _ => ?_ | (refine c_rt rfl rfl rfl cx_rf rfl ?_)) | (refine k_ff rfl rfl ?_))
 rename_i y9 _ y11
 refine Nx.addNil tInt5 1 (Nx.addNil tPtr5 1 ?_)
 refine Nx.perm (((List.perm_append_comm (l₁ := [_, _, _]) (l₂ := [_])).cons _).cons _) ?_
 dsimp only [zA, fA]
 refine k_loop (ι := List (Fld × V) × List Nat × Option Addr × Nat × Option Addr × Nat × Nat × Int × Gh) (fun j => ((j.2.1.length = j.1.length ∧ (∀ i, i < j.1.length → (nth j.1 i).1 ∈ fs) ∧ ∀ i, i < j.1.length → RepR j.2.2.2.2.2.2.2.2 (tys vs) (nth j.1 i).2 (nth j.1 i).1.kind (nth j.2.1 i)) ∧ Gh.le G j.2.2.2.2.2.2.2.2) ∧ (j.1.length ≤ j.2.2.2.2.2.2.1 ∧ j.2.2.2.2.2.2.1 ≤ fs.length) ∧ V.tots (nd61 j.1) ≤ (ct + 20) * j.1.length ∧ p ≤ j.2.2.2.2.2.2.2.1 ∧ j.2.2.2.2.2.2.2.1 ≤ p + (cp + 1) * ((j.2.2.2.2.2.2.1 : Nat) : Int)) (fun j => [(0, Pt r 0), (1, u), (2, S kd), (3, I deep), (9, Pt y9 0), (11, Pt y11 0), (13, I ((j.2.2.2.2.2.2.1 : Nat) : Int))]) (fun j => j.2.2.2.2.2.2.2.2) (fun j => [.acc (.slice j.2.2.2.2.1 j.1.length j.2.2.2.2.2.1) tPtr5 1 j.1.length (rows ptR j.2.1), .acc (.slice j.2.2.1 j.1.length j.2.2.2.1) tInt5 1 j.1.length (rows inR (j.1.map fun p => p.1.tag)), rdO r code j.2.2.2.2.2.2.2.1 tRdr, .blk y11 (.cells (List.toArray [S kd, S [82], .slice j.2.2.1 j.1.length j.2.2.2.1, .slice j.2.2.2.2.1 j.1.length j.2.2.2.2.2.1]) tLv (0, 0)), .blk y9 (.cells (List.toArray [U8 (82 : Nat), S nm, .slice a fs.length ca]) tTyG (0, 0))]) (fun j => fs.length - j.2.2.2.2.2.2.1) ([], [], none, 0, none, 0, 0, p, G) ?_ (by repeat' constructor) rfl (by repeat (first | exact List.Sublist.refl _ | apply List.Sublist.cons_cons | apply List.Sublist.cons)) (fun j Hj => ?_)
 ·refine ⟨⟨⟨rfl, fun i hi => absurd hi (by simp), fun i hi => absurd hi (by simp)⟩, Gh.le.refl _⟩, ?_, ?_, ?_, ?_⟩
  ·exact ⟨Nat.le_refl _, Nat.zero_le _⟩
  ·simp [nd61, V.tots]
  ·dsimp only; omega
  ·dsimp only; simp
 obtain ⟨gs, bs, a1, c1, a2, c2, i, q, Gq⟩ := j
 dsimp only at Hj ⊢
 obtain ⟨⟨⟨hbl, hfm, hreps⟩, hgq⟩, hil, htt, hq0, hq1⟩ := Hj
 have hcl : (cp + 1) * ((i : Nat) : Int) ≤ (cp + 1) * 8 := Int.mul_le_mul_of_nonneg_left (by omega) (by omega)
 have hcl0 : 0 ≤ (cp + 1) * ((i : Nat) : Int) := Int.mul_nonneg (by omega) (by omega)
 have htl : (ct + 20) * gs.length ≤ (ct + 20) * 8 := Nat.mul_le_mul_left _ (by omega)
 by_cases hgo : i < fs.length
 ·have hcl3 : (cp + 1) * ((i : Nat) : Int) + (cp + 1) ≤ (cp + 1) * 8 := by
   have := Int.mul_le_mul_of_nonneg_left (show ((i : Nat) : Int) + 1 ≤ 8 by omega) (show 0 ≤ cp + 1 by omega)
   rwa [Int.mul_add, Int.mul_one] at this
  obtain ⟨bf, of, cf, ef, hsf⟩ := (hR.fl _ (refV_mem hr)).expl (by dsimp only; omega)
  simp only [slX, Value.slice.injEq] at ef
  obtain ⟨rfl, -, rfl⟩ := ef
  dsimp only at hsf
  have hdm : nth fs i ∈ fs := nth_mem hgo
  have hdk : kindIn (tys vs) (nth fs i).kind = true := kind_in hw htm (by simp) hdm
  have cx_dv := fun {p : Int} (hp : 0 ≤ p ∧ p + cp ≤ 600000000000) => hD (nth fs i) hdm Gq r code p l (hR.mono hgq) (hs.mono hgq) hp
  have hsf := hsf.mono hgq
  repeat' (first | refine jM ?_ | (refine k_op rfl ?_; first | refine jV (g_ld rfl rfl rfl) ?_ | (refine jV (g_ldRF rfl rfl (by assumption) ?_ rfl rfl) ?_; (focus ((omega); done))) | refine jV (g_lenL rfl) ?_ | (refine jV (g_iaddrN rfl rfl (by omega)) ?_) | (refine jV (g_pickT rfl rfl rfl) ?_) | (refine c_m1s rfl rfl rfl (cx_dv (by omega)) rfl ?_; rintro _ G1 _ hle ⟨w1, b1, q1, rfl, hrep, htot, hone, rfl, hq1, hq2⟩; dsimp only [zA, fA]; (try have hsf := hsf.mono hle))) | (refine k_gt rfl rfl (dTt (by omega)) ?_) | (refine k_tt rfl (dTt (by omega)) ?_))
  have hgl := hgq.trans hle
  have cx_pk3 : ∀ {p : Int}, 0 ≤ p ∧ p ≤ 1000000000000 → FnG Try.prog 12 [Pt r 0, I 3] G1 [rdO r code p tRdr] (fun v L' => L' = [rdO r code (p + 1) tRdr] ∧ (v = I 0 ∨ ∃ k, v = I k ∧ 0 < k)) := fun {p} hp => (c_pick (b := r) (p := p) (n := 3) ⟨hp.1, hp.2, by decide⟩ (hs.mono hgl)).mono fun v G' L' ⟨h1, k, h2, h3, h4, h5⟩ => ⟨h1, h3, by subst h2; rcases (show k = 0 ∨ 0 < k by omega) with rfl | h; exact .inl rfl; exact .inr ⟨k, rfl, h⟩⟩
  have cx_out := c_outS hw hrep (by omega)
  have cx_sta := c_standS (f := nth fs i) (hR.mono hgl) hw hdk
  have hms : (cp + 1) * ((i + 1 : Nat) : Int) = (cp + 1) * ((i : Nat) : Int) + (cp + 1) := by rw [Int.natCast_succ, Int.mul_add, Int.mul_one]
  by_cases heq : w1.out = standF (tys vs) (nth fs i)
  ·(refine k_any (s_any (id := 18) [.blk y9 (.cells (List.toArray [U8 (82 : Nat), S nm, .slice (some ⟨bf, of, none⟩) fs.length ca]) tTyG (0, 0))] (by intro y hy; simp only [List.mem_cons, List.not_mem_nil, or_false] at hy ⊢; simp [hy]) mixed ?_); refine jU 14 [0] (bts 15 1) ?_ ?_; (focus (repeat' (exact trivial))); refine x_all [1] (by kernel_rfl) (by decide) ⟨?_, trivial⟩; (refine x_opg rfl rfl ?_; (refine c_m1g rfl rfl rfl (cx_pk3 (by omega)) rfl ?_; rintro _ _ ⟨rfl, rfl | ⟨k, rfl, hk0⟩⟩ <;> dsimp only [zA, fA])) <;> (refine jS (bts 15 3) ?_; refine jT 11 [2, 3] (bts 15 15) ?_; (try (first | (refine Nx.re (d := 107) (v' := Bo true) rfl (congrArg Value.bool (dTt ‹_›)) ?_) | (refine Nx.re (d := 107) (v' := Bo false) rfl (congrArg Value.bool rfl) ?_))); refine jT 7 [4, 6, 7, 9] (bts 15 735) ?_; (first | refine jG (bts 15 991) 8 rfl (g_ld rfl rfl rfl) ?_ | refine jN (bts 15 991) 8 rfl ?_); (first | (refine jG (bts 15 2015) 10 rfl (g_iaddrN rfl rfl (by omega)) ?_) | refine jN (bts 15 2015) 10 rfl ?_); (first | (refine jG (bts 15 4063) 11 rfl (g_ldR rfl rfl (by assumption) ?_) ?_; (focus ((omega); done))) | refine jN (bts 15 4063) 11 rfl ?_); (first | refine jN (bts 15 4095) 5 rfl ?_ | (refine jA 5 rfl ?_; (refine c_rt rfl rfl rfl cx_out rfl ?_); refine jS (bts 15 4095) ?_)); (first | refine jN (bts 15 8191) 12 rfl ?_ | (refine jA 12 rfl ?_; (refine c_rt rfl rfl rfl cx_sta rfl ?_); refine jS (bts 15 8191) ?_)); refine jT 1 [13] (bts 15 16383) ?_; (first | (refine jG (bts 15 32767) 14 rfl (g_pickT rfl rfl rfl) ?_) | (refine jG (bts 15 32767) 14 rfl (g_pickF rfl rfl rfl) ?_)); refine x_done (by kernel_rfl) (k_bk ?_)))
   all_goals repeat' (first | refine jM ?_ | (refine k_ff rfl ?_ ?_; (focus ((first | rfl | (simp [*]; done)); done))))
   all_goals
    refine Nx.perm ((List.Perm.swap _ _ _).trans ((List.Perm.swap _ _ _).cons _)) ?_
    exact k_rd (gs, bs, a1, c1, a2, c2, i + 1, q1 + 1, G1) ⟨⟨⟨hbl, hfm, fun i hi => (hreps i hi).mono hle⟩, hgl⟩, ⟨by dsimp only; omega, by dsimp only; omega⟩, htt, by dsimp only; omega, by dsimp only; rw [hms]; omega⟩ (by dsimp only; omega) (by repeat' constructor) rfl sRr
  ·(refine k_any (s_any (id := 18) [.blk y9 (.cells (List.toArray [U8 (82 : Nat), S nm, .slice (some ⟨bf, of, none⟩) fs.length ca]) tTyG (0, 0))] (by intro y hy; simp only [List.mem_cons, List.not_mem_nil, or_false] at hy ⊢; simp [hy]) mixed ?_); refine jU 14 [0] (bts 15 1) ?_ ?_; (focus (repeat' (exact trivial))); refine x_all [1] (by kernel_rfl) (by decide) ⟨?_, trivial⟩; (refine x_opg rfl rfl ?_; (refine c_m1g rfl rfl rfl (cx_pk3 (by omega)) rfl ?_; rintro _ _ ⟨rfl, rfl | ⟨k, rfl, hk0⟩⟩ <;> dsimp only [zA, fA])) <;> (refine jS (bts 15 3) ?_; refine jT 11 [2, 3] (bts 15 15) ?_; (try (first | (refine Nx.re (d := 107) (v' := Bo true) rfl (congrArg Value.bool (dTt ‹_›)) ?_) | (refine Nx.re (d := 107) (v' := Bo false) rfl (congrArg Value.bool rfl) ?_))); refine jT 7 [4, 6, 7, 9] (bts 15 735) ?_; (first | refine jG (bts 15 991) 8 rfl (g_ld rfl rfl rfl) ?_ | refine jN (bts 15 991) 8 rfl ?_); (first | (refine jG (bts 15 2015) 10 rfl (g_iaddrN rfl rfl (by omega)) ?_) | refine jN (bts 15 2015) 10 rfl ?_); (first | (refine jG (bts 15 4063) 11 rfl (g_ldR rfl rfl (by assumption) ?_) ?_; (focus ((omega); done))) | refine jN (bts 15 4063) 11 rfl ?_); (first | refine jN (bts 15 4095) 5 rfl ?_ | (refine jA 5 rfl ?_; (refine c_rt rfl rfl rfl cx_out rfl ?_); refine jS (bts 15 4095) ?_)); (first | refine jN (bts 15 8191) 12 rfl ?_ | (refine jA 12 rfl ?_; (refine c_rt rfl rfl rfl cx_sta rfl ?_); refine jS (bts 15 8191) ?_)); refine jT 1 [13] (bts 15 16383) ?_; (first | (refine jG (bts 15 32767) 14 rfl (g_pickT rfl rfl rfl) ?_) | (refine jG (bts 15 32767) 14 rfl (g_pickF rfl rfl rfl) ?_)); refine x_done (by kernel_rfl) (k_bk ?_)))
   ·repeat' (first | refine jM ?_ | (refine k_ff rfl rfl ?_))
    refine Nx.perm ((List.Perm.swap _ _ _).trans ((List.Perm.swap _ _ _).cons _)) ?_
    exact k_rd (gs, bs, a1, c1, a2, c2, i + 1, q1 + 1, G1) ⟨⟨⟨hbl, hfm, fun i hi => (hreps i hi).mono hle⟩, hgl⟩, ⟨by dsimp only; omega, by dsimp only; omega⟩, htt, by dsimp only; omega, by dsimp only; rw [hms]; omega⟩ (by dsimp only; omega) (by repeat' constructor) rfl sRr
   ·repeat' (first | (refine jR ?_) | (refine k_tt rfl (dTt ‹_›) ?_))
    have hl' : (gs ++ [(nth fs i, w1)]).length = gs.length + 1 := by simp
    have hbl' : (bs ++ [b1]).length = (gs ++ [(nth fs i, w1)]).length := by simp [hbl]
    have hnth : ∀ j, j < (gs ++ [(nth fs i, w1)]).length → (j < gs.length ∧ nth (gs ++ [(nth fs i, w1)]) j = nth gs j ∧ nth (bs ++ [b1]) j = nth bs j) ∨ (nth (gs ++ [(nth fs i, w1)]) j = (nth fs i, w1) ∧ nth (bs ++ [b1]) j = b1) := fun j hj => by
     by_cases h1 : j < gs.length
     ·exact .inl ⟨h1, by rw [nth_eq hj, nth_eq h1, List.getElem_append_left h1], by rw [nth_eq (by omega), nth_eq (by omega), List.getElem_append_left (by omega)]⟩
     ·have h2 : j = gs.length := by omega
      exact .inr ⟨by rw [nth_eq hj]; simp [h2], by rw [nth_eq (by omega)]; simp [h2, hbl]⟩
    have hfm' : ∀ j, j < (gs ++ [(nth fs i, w1)]).length → (nth (gs ++ [(nth fs i, w1)]) j).1 ∈ fs := fun j hj => by
     rcases hnth j hj with ⟨h1, h2, _⟩ | ⟨h2, _⟩
     ·rw [h2]; exact hfm j h1
     ·rw [h2]; exact hdm
    have hreps' : ∀ j, j < (gs ++ [(nth fs i, w1)]).length → RepR G1 (tys vs) (nth (gs ++ [(nth fs i, w1)]) j).2 (nth (gs ++ [(nth fs i, w1)]) j).1.kind (nth (bs ++ [b1]) j) := fun j hj => by
     rcases hnth j hj with ⟨h1, h2, h3⟩ | ⟨h2, h3⟩
     ·rw [h2, h3]; exact (hreps j h1).mono hle
     ·rw [h2, h3]; exact hrep
    have hrow1 : rows inR (gs.map fun p => p.1.tag) ++ [I (nth fs i).tag] = rows inR ((gs ++ [(nth fs i, w1)]).map fun p => p.1.tag) := by rw [List.map_append]; exact (rows_snoc inR _ (nth fs i).tag).symm
    have hrow2 : rows ptR bs ++ [Pt b1 0] = rows ptR (bs ++ [b1]) := (rows_snoc ptR bs b1).symm
    have hnd : V.tots (nd61 (gs ++ [(nth fs i, w1)])) = V.tots (nd61 gs) + (20 + w1.tot) := by simp [nd61, tots_app, V.tots, nd_tot]
    have hmt : (ct + 20) * (gs.length + 1) = (ct + 20) * gs.length + (ct + 20) := Nat.mul_succ _ _
    (refine k_any (s_any (id := 19) [.blk y9 (.cells (List.toArray [U8 (82 : Nat), S nm, .slice (some ⟨bf, of, none⟩) fs.length ca]) tTyG (0, 0))] (by intro y hy; simp only [List.mem_cons, List.not_mem_nil, or_false] at hy ⊢; simp [hy]) mixed ?_); refine jU 10 [0, 1, 2, 3, 5, 7] (bts 16 175) ?_ ?_; (focus (repeat' (exact trivial))); (refine jG (bts 16 239) 6 rfl (g_ld rfl rfl rfl) ?_); ((refine jG (bts 16 495) 8 rfl (g_iaddrN rfl rfl ?_) ?_; (focus ((omega); done)))); refine jU 7 [9] (bts 16 1007) ?_ ?_; (focus (repeat' (exact trivial))); ((refine jG (bts 16 2031) 10 rfl (g_ldRF rfl rfl (by assumption) ?_ rfl rfl) ?_; (focus ((omega); done)))); refine x_all [4, 11] (by kernel_rfl) (by decide) ⟨?_, ?_, trivial⟩; (focus (refine x_opg rfl rfl ?_; (refine jV (g_ld rfl rfl rfl) ?_); refine jK (bts 16 2047) ?_; refine jA 11 rfl ?_; (refine c_bsl rfl rfl rfl rfl rfl rfl fun _ => ?_); refine jK (bts 16 4095) ?_; refine jA 12 rfl ?_; ((refine c_apX rfl rfl rfl rfl rfl rfl rfl rfl rfl ?_ fun _ _ => ?_; (focus ((omega); done)))); refine jK (bts 16 8191) ?_; refine jU 1 [13, 14] (bts 16 32767) ?_ ?_; (focus (repeat' (exact trivial))); refine jA 15 rfl ?_; (refine c_st1 rfl rfl rfl rfl ?_); refine jK (bts 16 65535) ?_; refine x_done (by kernel_rfl) (k_bk ?_))); rotate_left 1; (focus (refine x_opg rfl rfl ?_; (refine c_bsl rfl rfl rfl rfl rfl rfl fun _ => ?_); refine jK (bts 16 4079) ?_; refine jA 4 rfl ?_; (refine jV (g_ld rfl rfl rfl) ?_); refine jK (bts 16 4095) ?_; refine jA 12 rfl ?_; ((refine c_apX rfl rfl rfl rfl rfl rfl rfl rfl rfl ?_ fun _ _ => ?_; (focus ((omega); done)))); refine jK (bts 16 8191) ?_; refine jU 1 [13, 14] (bts 16 32767) ?_ ?_; (focus (repeat' (exact trivial))); refine jA 15 rfl ?_; (refine c_st1 rfl rfl rfl rfl ?_); refine jK (bts 16 65535) ?_; refine x_done (by kernel_rfl) (k_bk ?_))); rotate_left 1)
    all_goals repeat' (first | refine jM ?_ | (refine k_op rfl ?_; first | refine c_st1 rfl rfl rfl rfl ?_ | refine jV (g_ld rfl rfl rfl) ?_ | refine c_bsl rfl rfl rfl rfl rfl rfl fun _ => ?_ | (refine c_apX rfl rfl rfl rfl rfl rfl rfl rfl rfl (by omega) fun _ _ => ?_)))
    all_goals
     rename_i _ y1 yc1 _ y2 yc2
     rw [hrow1, hrow2]
     exact k_rd (gs ++ [(nth fs i, w1)], bs ++ [b1], some ⟨y1, 0, none⟩, yc1, some ⟨y2, 0, none⟩, yc2, i + 1, q1 + 1, G1) ⟨⟨⟨hbl', hfm', hreps'⟩, hgl⟩, ⟨by dsimp only; rw [hl']; omega, by dsimp only; omega⟩, by dsimp only; rw [hl', hmt, hnd]; omega, by dsimp only; omega, by dsimp only; rw [hms]; omega⟩ (by dsimp only; omega) (by repeat' constructor) rfl (by rw [hl']; repeat (first | exact List.Sublist.refl _ | apply List.Sublist.cons_cons | apply List.Sublist.cons))
 ·repeat' (first | (refine jR ?_) | (refine k_op rfl ?_; first | refine jV (g_ld rfl rfl rfl) ?_ | refine jV (g_lenL rfl) ?_ | (refine jV (g_pickF rfl rfl rfl) ?_)) | (refine k_gf rfl rfl (dFf (by omega)) ?_) | (refine k_ff rfl rfl ?_))
  refine Nx.sealS (v := .slice a2 gs.length c2) fun G2 hG2 hs1 => ?_
  refine Nx.sealS (v := .slice a1 gs.length c1) fun G3 hG3 hs2 => ?_
  refine Nx.sealC (b := y11) fun G4 hG4 hsg => ?_
  exact k_rr (vs := [_]) rfl ⟨rfl, trivial⟩ rfl (by repeat (first | exact List.nil_sublist _ | apply List.Sublist.cons_cons)) ⟨hgq.trans ((hG2.trans hG3).trans hG4), .nd 82 [] 0 (nd61 gs), y11, q, rfl, .recd kd y11 ⟨82, nm, fs⟩ gs bs a1 a2 c1 c2 ⟨href.symm, rfl⟩ hsg (hs2.mono hG4) (hs1.mono (hG3.trans hG4)) hbl hfm (fun i hi => (hreps i hi).mono ((hG2.trans hG3).trans hG4)), by rw [nd_tot]; simp only [List.length_nil]; omega, by rw [V.out]; simp [outW], rfl, by omega, by omega⟩
end
theorem kind_ne' {ts : List Ty} {k : List UInt8} (h : kindIn ts k = true) : ∃ c r, k = c :: r := by
 cases k with
 | nil => unfold kindIn kindOk kOk at h; simp at h
 | cons c r => exact ⟨c, r, rfl⟩
def cpk : Nat → Int
 | 0 => 105
 | d + 1 => 8 * cpk d + 40
def ctt : Nat → Nat
 | 0 => 480
 | d + 1 => 8 * ctt d + 400
theorem cpk_le : ∀ d, d ≤ 4 → 0 ≤ cpk d ∧ cpk d ≤ 500000 ∧ ctt d ≤ 3000000 ∧ 105 ≤ cpk d ∧ 480 ≤ ctt d := by decide
theorem draw0 {u : Value} {vs : List TyX} (hw : SchW (tys vs)) (hu : u.oneCell' = true) : ∀ (n : Nat) {k : List UInt8} {deep : Int}, n ≤ 9 → deep ≤ 0 → (n : Int) - 900 ≤ deep → kindIn (tys vs) k = true → (∀ t, refT (tys vs) k = some t → endsN (tys vs) n t = true) → DrawC u vs k deep (15 + 10 * n) (300 + 20 * n) := by
 have hvl : vs.length ≤ 8 := by have := hw.len; unfold tys at this; simpa using this
 intro n
 induction n with
 | zero =>
  intro k deep _ hd hd2 hk he
  obtain ⟨c, r, rfl⟩ := kind_ne' hk
  have hkk := kindOk_kOk (kindIn_ok hk)
  simp only [List.length_cons] at hkk
  by_cases h1 : c.toNat = 91
  ·obtain rfl := u8_eq h1 (by decide)
   exact (dv_list (cp := 0) (ct := 0) (by omega) (by omega) (fun h => absurd h (by omega)) hu (by omega) (by omega)).le (by omega) (by omega)
  by_cases h2 : c.toNat = 63
  ·obtain rfl := u8_eq h2 (by decide)
   exact (dv_opt (cp := 0) (ct := 0) (by omega) (by omega) (fun h => absurd h (by omega)) hu (by omega) (by omega)).le (by omega) (by omega)
  have h91 : ¬ (c.toNat = 91 ∨ c.toNat = 63) := fun h => by rcases h with h | h <;> omega
  cases hr : refT (tys vs) (c :: r) with
  | some t => have := he t hr; simp [endsN] at this
  | none =>
   rcases plain_kinds hk h91 hr with e1 | e1 | e1
   ·rw [e1]; exact dv_num.le (by omega) (by omega)
   ·rw [e1]; exact dv_txt.le (by omega) (by omega)
   ·rw [e1]; exact dv_flag.le (by omega) (by omega)
 | succ n ih =>
  intro k deep hn hd hd2 hk he
  obtain ⟨c, r, rfl⟩ := kind_ne' hk
  have hkk := kindOk_kOk (kindIn_ok hk)
  have hkk1 := hkk.1
  simp only [List.length_cons] at hkk
  by_cases h1 : c.toNat = 91
  ·obtain rfl := u8_eq h1 (by decide)
   exact (dv_list (cp := 0) (ct := 0) (by omega) (by omega) (fun h => absurd h (by omega)) hu (by omega) (by omega)).le (by omega) (by omega)
  by_cases h2 : c.toNat = 63
  ·obtain rfl := u8_eq h2 (by decide)
   exact (dv_opt (cp := 0) (ct := 0) (by omega) (by omega) (fun h => absurd h (by omega)) hu (by omega) (by omega)).le (by omega) (by omega)
  have h91 : ¬ (c.toNat = 91 ∨ c.toNat = 63) := fun h => by rcases h with h | h <;> omega
  cases hr : refT (tys vs) (c :: r) with
  | none =>
   rcases plain_kinds hk h91 hr with e1 | e1 | e1
   ·rw [e1]; exact dv_num.le (by omega) (by omega)
   ·rw [e1]; exact dv_txt.le (by omega) (by omega)
   ·rw [e1]; exact dv_flag.le (by omega) (by omega)
  | some t =>
   obtain ⟨r', e⟩ := refT_64 hr
   simp only [List.cons.injEq] at e
   obtain ⟨rfl, rfl⟩ := e
   have href := refV_ty vs (64 :: r)
   rw [hr] at href
   rcases hrv : refV vs (64 :: r) with _ | ⟨⟨a, ca⟩, ⟨so, nm, fs⟩⟩
   ·rw [hrv] at href; cases href
   rw [hrv] at href
   obtain rfl := (Option.some.inj href).symm
   dsimp only at hr he
   have hTW := hw.ty _ (refT_mem hr)
   have h8 : fs.length ≤ 8 := hTW.len
   refine dv_typed ?_ (by omega)
   rcases hTW.sort with h3 | h3 | h3 <;> dsimp only at h3 <;> subst h3
   ·exact fun G r code p l g1 g2 g3 => ((dt_rec0 hrv (by omega) hkk1 (by simp only [List.length_cons]; omega) h8 (by omega)) G r code p l g1 g2 ⟨g3.1, by omega⟩).mono fun _ _ _ ⟨h6, w, b, q, h7, h8, h9, h10, h11, h12, h13⟩ => ⟨h6, w, b, q, h7, h8, by omega, h10, h11, h12, by omega⟩
   ·have h0 : 0 < fs.length := List.length_pos_iff.2 (hTW.ne (by simp))
    refine fun G r code p l g1 g2 g3 => ((dt_uni (cp := 15 + 10 * n) (ct := 300 + 20 * n) hrv (by omega) hkk1 (by simp only [List.length_cons]; omega) h0 h8 hw (by omega) (by omega) (fun d hdm hc => ?_) (by omega)) G r code p l g1 g2 ⟨g3.1, by omega⟩).mono fun _ _ _ ⟨h6, w, b, q, h7, h8, h9, h10, h11, h12, h13⟩ => ⟨h6, w, b, q, h7, h8, by omega, h10, h11, h12, by omega⟩
    rcases hc with hc | rfl
    ·omega
    refine ih (by omega) (by omega) (by omega) (kind_in hw (refT_mem hr) (by simp) hdm) fun t' ht' => ?_
    have := he _ hr
    rw [endsN, if_neg (by simp), kind0_nth] at this
    dsimp only at this
    rw [ht'] at this
    exact this
   ·have h0 : 0 < fs.length := List.length_pos_iff.2 (hTW.ne (by simp))
    exact fun G r code p l g1 g2 g3 => ((dt_enm hrv (by omega) hkk1 (by simp only [List.length_cons]; omega) h0 h8 hw) G r code p l g1 g2 ⟨g3.1, by omega⟩).mono fun _ _ _ ⟨h6, w, b, q, h7, h8, h9, h10, h11, h12, h13⟩ => ⟨h6, w, b, q, h7, h8, by omega, h10, h11, h12, by omega⟩
theorem draw_all {u : Value} {vs : List TyX} (hw : SchW (tys vs)) (hu : u.oneCell' = true) : ∀ (m : Nat) {k : List UInt8} {deep : Int}, m ≤ 4 → deep ≤ m → -800 ≤ deep → kindIn (tys vs) k = true → DrawC u vs k deep (cpk m) (ctt m) := by
 have hvl : vs.length ≤ 8 := by have := hw.len; unfold tys at this; simpa using this
 have hz : ∀ {k : List UInt8} {deep : Int}, deep ≤ 0 → -800 ≤ deep → kindIn (tys vs) k = true → DrawC u vs k deep 105 480 := fun {k deep} h1 h2 h3 => (draw0 hw hu ((tys vs).length + 1) (by have := hw.len; omega) h1 (by have := hw.len; omega) h3 (fun t ht => ends_of hw t ht)).le (by have := hw.len; omega) (by have := hw.len; omega)
 intro m
 induction m with
 | zero => intro k deep _ hd hd2 hk; exact hz hd hd2 hk
 | succ m ih =>
  intro k deep hm hd hd2 hk
  have hcm := cpk_le m (by omega)
  have e1 : cpk (m + 1) = 8 * cpk m + 40 := rfl
  have e2 : ctt (m + 1) = 8 * ctt m + 400 := rfl
  by_cases hd0 : deep ≤ 0
  ·exact (hz hd0 hd2 hk).le (by omega) (by omega)
  have hD : ∀ {k : List UInt8}, kindIn (tys vs) k = true → DrawC u vs k (deep - 1) (cpk m) (ctt m) := fun {k} hk => ih (by omega) (by omega) (by omega) hk
  obtain ⟨c, r, rfl⟩ := kind_ne' hk
  have hkk := kindOk_kOk (kindIn_ok hk)
  have hkk1 := hkk.1
  simp only [List.length_cons] at hkk
  by_cases h1 : c.toNat = 91
  ·obtain rfl := u8_eq h1 (by decide)
   exact (dv_list (by omega) (by omega) (fun _ => hD (kindIn_tail (.inl rfl) hk)) hu (by omega) (by omega)).le (by omega) (by omega)
  by_cases h2 : c.toNat = 63
  ·obtain rfl := u8_eq h2 (by decide)
   exact (dv_opt (by omega) (by omega) (fun _ => hD (kindIn_tail (.inr rfl) hk)) hu (by omega) (by omega)).le (by omega) (by omega)
  have h91 : ¬ (c.toNat = 91 ∨ c.toNat = 63) := fun h => by rcases h with h | h <;> omega
  cases hr : refT (tys vs) (c :: r) with
  | none =>
   rcases plain_kinds hk h91 hr with e1 | e1 | e1
   ·rw [e1]; exact dv_num.le (by omega) (by omega)
   ·rw [e1]; exact dv_txt.le (by omega) (by omega)
   ·rw [e1]; exact dv_flag.le (by omega) (by omega)
  | some t =>
   obtain ⟨r', e⟩ := refT_64 hr
   simp only [List.cons.injEq] at e
   obtain ⟨rfl, rfl⟩ := e
   have href := refV_ty vs (64 :: r)
   rw [hr] at href
   rcases hrv : refV vs (64 :: r) with _ | ⟨⟨a, ca⟩, ⟨so, nm, fs⟩⟩
   ·rw [hrv] at href; cases href
   rw [hrv] at href
   obtain rfl := (Option.some.inj href).symm
   dsimp only at hr
   have hTW := hw.ty _ (refT_mem hr)
   have h8 : fs.length ≤ 8 := hTW.len
   refine dv_typed ?_ (by omega)
   rcases hTW.sort with h3 | h3 | h3 <;> dsimp only at h3 <;> subst h3
   ·exact fun G r code p l g1 g2 g3 => ((dt_rec hrv (by omega) hkk1 (by simp only [List.length_cons]; omega) h8 hw (by omega) (by omega) (fun d hdm => hD (kind_in hw (refT_mem hr) (by simp) hdm)) (by omega)) G r code p l g1 g2 ⟨g3.1, by omega⟩).mono fun _ _ _ ⟨h6, w, b, q, h7, h8, h9, h10, h11, h12, h13⟩ => ⟨h6, w, b, q, h7, h8, by omega, h10, h11, h12, by omega⟩
   ·have h0 : 0 < fs.length := List.length_pos_iff.2 (hTW.ne (by simp))
    exact fun G r code p l g1 g2 g3 => ((dt_uni hrv (by omega) hkk1 (by simp only [List.length_cons]; omega) h0 h8 hw (by omega) (by omega) (fun d hdm _ => hD (kind_in hw (refT_mem hr) (by simp) hdm)) (by omega)) G r code p l g1 g2 ⟨g3.1, by omega⟩).mono fun _ _ _ ⟨h6, w, b, q, h7, h8, h9, h10, h11, h12, h13⟩ => ⟨h6, w, b, q, h7, h8, by omega, h10, h11, h12, by omega⟩
   ·have h0 : 0 < fs.length := List.length_pos_iff.2 (hTW.ne (by simp))
    exact fun G r code p l g1 g2 g3 => ((dt_enm hrv (by omega) hkk1 (by simp only [List.length_cons]; omega) h0 h8 hw) G r code p l g1 g2 ⟨g3.1, by omega⟩).mono fun _ _ _ ⟨h6, w, b, q, h7, h8, h9, h10, h11, h12, h13⟩ => ⟨h6, w, b, q, h7, h8, by omega, h10, h11, h12, by omega⟩
theorem c_l91Schema {r : Nat} {code : Value} {p : Int} {l : List UInt8} (hp : 0 ≤ p ∧ p ≤ 600000000000) (hs : SlV G code 1 l.length (u8s l)) :
  FnG Try.prog 8 [Pt r 0] G [rdO r code p tRdr] (fun v L' => ∃ x q, v = S x ∧ x.length ≤ 20000 ∧ L' = [rdO r code q tRdr] ∧ p ≤ q ∧ q ≤ p + 700) := by
 refine jH [(0, _)] Try.func8 Try.ntmps8 fun B hB hW => ?_
 repeat' (first | (refine run (t := tb) 400 rfl ?_ ?_; (focus (repeat' (first | exact trivial | apply And.intro | omega | (simp only [List.length_append, List.length_cons, List.length_nil, Int.toNat_natCast]; omega))))) | (refine k_op rfl ?_; first | refine c_bsl rfl rfl rfl rfl rfl rfl fun _ => ?_ | (refine jV (g_iaddr rfl rfl (by omega)) ?_) | (refine c_ldMS 64 rfl rfl rfl ?_ rfl (fun xs hxs => ?_); (focus ((simp only [List.length_append, List.length_cons, List.length_nil, List.length_take]; omega); done))) | (refine jV (g_pickT rfl rfl rfl) ?_) | (refine jV (g_pickF rfl rfl rfl) ?_) | (refine c_m1g rfl rfl rfl (c_l91Type ?_ (by (repeat (assumption)); done) ?_ ?_) rfl ?_; (focus ((omega); done)); (focus ((first | assumption | (simp; done)); done)); (focus ((simp; done); done)); rintro _ _ ⟨ty, q1, rfl, hty, hty1, rfl, hq1, hq2⟩; dsimp only [zA, fA]) | (refine c_m1g rfl rfl rfl (c_pick ?_ (by (repeat (assumption)); done)) rfl ?_; (focus ((first | omega | (simp; omega)); done)); rintro _ _ ⟨k, rfl, rfl, hk0, hk1⟩; dsimp only [zA, fA]) | (refine c_rt rfl rfl rfl (c_SchemaOkS ?_) rfl ?_; (focus ((simp; omega); done)))) | refine k_gb rfl rfl (fun _ => ?_) (fun _ => ?_) | (refine k_ff rfl rfl ?_) | refine k_if rfl (fun _ => ?_) (fun _ => ?_))
 all_goals (first | exact k_rr (vs := [_]) rfl ⟨rfl, trivial⟩ rfl (by repeat (first | exact List.nil_sublist _ | apply List.Sublist.cons_cons)) ⟨rfl, _, _, rfl, by (simp only [List.length_append, List.length_cons, List.length_nil, List.length_take, List.length_drop]; omega), rfl, by omega, by omega⟩ | skip)
 all_goals simp only [List.length_append, List.length_cons, List.length_nil] at hk1
 all_goals (refine k_any (s_any (id := 6) [] (fun _ h => absurd h (by simp)) mixed ?_); refine jU 7 [0, 1, 2, 4, 9, 10, 11, 12] (bts 15 7703) ?_ ?_; (focus (repeat' (first | exact trivial | apply And.intro | omega | (simp only [List.length_append, List.length_cons, List.length_nil, Int.toNat_natCast]; omega)))); refine x_all [3, 5] (by kernel_rfl) (by decide) ⟨?_, ?_, trivial⟩; (focus (refine x_opg rfl rfl ?_; (refine c_bsl rfl rfl rfl rfl rfl rfl fun _ => ?_); refine jK (bts 15 7711) ?_; refine jA 5 rfl ?_; ((refine c_m1g rfl rfl rfl (c_pick ?_ (by (repeat (assumption)); done)) rfl ?_; (focus ((omega); done)); rintro _ _ ⟨k, rfl, rfl, hk0, hk1⟩; dsimp only [zA, fA])); refine jK (bts 15 7743) ?_; ((refine jG (bts 15 7807) 6 rfl (g_iaddr rfl rfl ?_) ?_; (focus ((omega); done)))); refine jA 7 rfl ?_; ((refine c_ldMS 64 rfl rfl rfl ?_ rfl (fun xs hxs => ?_); (focus ((simp only [List.length_append, List.length_cons, List.length_nil, List.length_take]; omega); done)))); refine jK (bts 15 7935) ?_; refine jU 0 [8, 13, 14] (bts 15 32767) ?_ ?_; (focus (repeat' (first | exact trivial | apply And.intro | (simp only [List.length_append, List.length_cons, List.length_nil, List.length_take, List.length_drop]; omega)))); refine x_done (by kernel_rfl) (k_bk ?_))); rotate_left 1; (focus (refine x_opg rfl rfl ?_; ((refine c_m1g rfl rfl rfl (c_pick ?_ (by (repeat (assumption)); done)) rfl ?_; (focus ((omega); done)); rintro _ _ ⟨k, rfl, rfl, hk0, hk1⟩; dsimp only [zA, fA])); refine jK (bts 15 7735) ?_; refine jA 3 rfl ?_; (refine c_bsl rfl rfl rfl rfl rfl rfl fun _ => ?_); refine jK (bts 15 7743) ?_; ((refine jG (bts 15 7807) 6 rfl (g_iaddr rfl rfl ?_) ?_; (focus ((omega); done)))); refine jA 7 rfl ?_; ((refine c_ldMS 64 rfl rfl rfl ?_ rfl (fun xs hxs => ?_); (focus ((simp only [List.length_append, List.length_cons, List.length_nil, List.length_take]; omega); done)))); refine jK (bts 15 7935) ?_; refine jU 0 [8, 13, 14] (bts 15 32767) ?_ ?_; (focus (repeat' (first | exact trivial | apply And.intro | (simp only [List.length_append, List.length_cons, List.length_nil, List.length_take, List.length_drop]; omega)))); refine x_done (by kernel_rfl) (k_bk ?_))); rotate_left 1)
 all_goals repeat' (refine jR ?_)
 all_goals exact k_rr (vs := [_]) rfl ⟨rfl, trivial⟩ rfl (by repeat (first | exact List.nil_sublist _ | apply List.Sublist.cons_cons | apply List.Sublist.cons)) ⟨rfl, _, _, rfl, by (simp only [List.length_append, List.length_cons, List.length_nil, List.length_take, List.length_drop]; omega), rfl, by omega, by omega⟩
theorem c_l91Some {r : Nat} {code : Value} {p : Int} {l s : List UInt8} (hp : 0 ≤ p ∧ p ≤ 600000000000) (hs : SlV G code 1 l.length (u8s l)) (hsl : s.length ≤ 10000000) :
  FnG Try.prog 9 [Pt r 0, S s] G [rdO r code p tRdr] (fun v L' => ∃ x q, v = S x ∧ x.length ≤ 400 ∧ L' = [rdO r code q tRdr] ∧ p ≤ q ∧ q ≤ p + 20) := by
 have cx_lkg : ∀ {k : List UInt8} (G : Gh), k.length ≤ 1000 → FnS Try.prog 18 [S s, S k] G (fun v _ => ∃ u b, v = Tu [u, Bo b]) := fun {k} G h => (c_l3Kind (G := G) (s := s) (k := k) (by omega) (by omega)).mono fun v G' L' ⟨h1, h2, u, vs, h3, _⟩ => ⟨h1, h2, u, _, h3⟩
 refine jB (Post := fun v G' L' => G' = G ∧ _) [(0, _), (1, _)] Try.func9 Try.ntmps9 fun B hok hB hW => ?_
 repeat' (first | (refine jR ?_) | (refine k_op rfl ?_; first | refine c_bsl rfl rfl rfl rfl rfl rfl fun _ => ?_ | (refine jV (g_iaddr rfl rfl (by omega)) ?_) | (refine c_ldMS 64 rfl rfl rfl ?_ rfl (fun xs hxs => ?_); (focus ((simp only [List.length_append, List.length_cons, List.length_nil, List.length_take]; omega); done))) | (refine c_m1g rfl rfl rfl (c_pick ?_ (by (repeat (assumption)); done)) rfl ?_; (focus ((omega); done)); rintro _ _ ⟨k, rfl, rfl, hk0, hk1⟩; dsimp only [zA, fA]) | (refine c_m1g rfl rfl rfl (c_l91Kind ?_ (by (repeat (assumption)); done)) rfl ?_; (focus ((omega); done)); rintro _ _ ⟨kd, q1, rfl, hkd, rfl, hq1, hq2⟩; dsimp only [zA, fA]) | (refine c_fns rfl rfl rfl ((cx_lkg _) (by omega)) rfl ?_; rintro _ G hle ⟨u1, b1, rfl⟩; skip)) | refine k_if rfl (fun _ => ?_) (fun _ => ?_) | refine k_cd rfl (fun _ => ?_) (fun _ => ?_))
 all_goals refine Nx.base hok hB ?_
 all_goals exact k_rr (vs := [_]) rfl ⟨rfl, trivial⟩ rfl (by repeat (first | exact List.Sublist.refl _ | exact List.nil_sublist _ | apply List.Sublist.cons_cons)) ⟨rfl, _, _, rfl, by (first | omega | (simp only [List.length_append, List.length_cons, List.length_nil, List.length_take, List.length_drop]; omega)), rfl, by omega, by omega⟩
theorem c_l91Of {r : Nat} {code : Value} {p : Int} {l s k : List UInt8} (hp : 0 ≤ p ∧ p ≤ 500000000000) (hs : SlV G code 1 l.length (u8s l)) (hsl : s.length ≤ 10000000) (hkl : k.length ≤ 1000) :
  FnG Try.prog 10 [Pt r 0, S s, S k] G [rdO r code p tRdr] (fun v L' => ∃ x q, v = S x ∧ x.length ≤ 20000 ∧ L' = [rdO r code q tRdr] ∧ p ≤ q ∧ q ≤ p + 3000000) := by
 by_cases hk : kindS s k = true
 case neg =>
  have hk2 : kindS s k = false := by simpa using hk
  have cx_lk1 : ∀ G, FnS Try.prog 18 [S s, S k] G (fun v _ => ∃ u, v = Tu [u, Bo false]) := fun G => by
   refine (c_l3Kind (G := G) (s := s) (k := k) (by omega) (by omega)).mono ?_
   rintro v G' L' ⟨h1, h2, u, vs, rfl, _⟩
   exact ⟨h1, h2, u, by rw [hk2]⟩
  refine jB (Post := fun v G' L' => G' = G ∧ _) [(0, _), (1, _), (2, _)] Try.func10 Try.ntmps10 fun B hok hB hW => ?_
  repeat' (first | (refine jR ?_) | (refine k_op rfl ?_; (refine c_fns rfl rfl rfl (cx_lk1 _) rfl ?_; rintro _ G hle ⟨u1, rfl⟩; skip)) | (refine k_tt rfl rfl ?_))
  all_goals refine Nx.base hok hB ?_
  all_goals exact k_rr (vs := [_]) rfl ⟨rfl, trivial⟩ rfl sRr ⟨rfl, _, _, rfl, by (simp only [List.length_append, List.length_cons, List.length_nil, List.length_take, List.length_drop]; omega), rfl, by omega, by omega⟩
 obtain ⟨ts, hsc, hki, hw⟩ := kindS_some2 hk
 have cx_lka : ∀ G, FnS Try.prog 18 [S s, S k] G (fun v G' => ∃ a c vs, v = Tu [.slice a vs.length c, Bo true] ∧ SchR G' (.slice a vs.length c) vs ∧ tys vs = ts) := fun G => by
  refine (c_l3Kind (G := G) (s := s) (k := k) (by omega) (by omega)).mono ?_
  rintro v G' L' ⟨h1, h2, u, vs, rfl, h4, _, h6⟩
  obtain ⟨_, ⟨rfl, h0⟩ | ⟨b, o, cap, rfl, _, _⟩⟩ := h4.sl
  ·exact ⟨h1, h2, none, 0, vs, by rw [hk, h0], by rw [h0]; exact h4, h6 ts hsc hki⟩
  ·exact ⟨h1, h2, _, cap, vs, by rw [hk], h4, h6 ts hsc hki⟩
 refine jB (Post := fun v G' L' => G' = G ∧ _) [(0, _), (1, _), (2, _)] Try.func10 Try.ntmps10 fun B hok hB hW => ?_
 repeat' (first | (refine jR ?_) | (refine k_op rfl ?_; (refine c_fns rfl rfl rfl (cx_lka _) rfl ?_; rintro _ G hle ⟨av1, cv1, vs1, rfl, hR1, hT1⟩; skip)) | (refine k_ff rfl rfl ?_))
 subst hT1
 have hg0 := hle
 have hu1 := hR1.sl.one
 have cx_dv := fun {p : Int} (hp : 0 ≤ p ∧ p + cpk 4 ≤ 600000000000) => draw_all hw hu1 4 (k := k) (deep := 4) (by omega) (by omega) (by omega) hki G r code p l hR1 (hs.mono hle) hp
 have hc4 : cpk 4 = 453480 := by decide
 have ht4 : ctt 4 = 2200080 := by decide
 rw [hc4, ht4] at cx_dv
 repeat' ((refine k_op rfl ?_; (refine c_m1s rfl rfl rfl (cx_dv (by omega)) rfl ?_; rintro _ G1 _ hle ⟨w1, b1, q1, rfl, hrep, htot, hone, rfl, hq1, hq2⟩; dsimp only [zA, fA]; skip)))
 have hg1 := hle
 have hob := outR hw hrep
 unfold OutB at hob
 have cx_out := c_outS hw hrep (by omega)
 repeat' (first | (refine jR ?_) | (refine k_op rfl ?_; (refine c_rt rfl rfl rfl cx_out rfl ?_)))
 refine k_loop (ι := List UInt8 × Int × Int × Gh) (fun j => Gh.le G1 j.2.2.2 ∧ (0 ≤ j.2.1 ∧ j.2.1 ≤ 3) ∧ (1 ≤ j.1.length ∧ j.1.length ≤ 2 * ctt (j.2.1.toNat + 1)) ∧ p ≤ j.2.2.1 ∧ j.2.2.1 ≤ p + 500000 * (4 - j.2.1)) (fun j => [(0, Pt r 0), (2, S k), (7, .slice av1 vs1.length cv1), (9, S j.1), (10, I j.2.1)]) (fun j => j.2.2.2) (fun j => [rdO r code j.2.2.1 tRdr]) (fun j => j.2.1.toNat) (w1.out, 3, q1, G1) ?_ (by repeat' constructor) rfl sRr (fun j Hj => ?_)
 ·refine ⟨Gh.le.refl _, by dsimp only; omega, ⟨hone, ?_⟩, by dsimp only; omega, by dsimp only; omega⟩
  show w1.out.length ≤ 2 * ctt 4
  omega
 obtain ⟨t, d, q, Gq⟩ := j
 dsimp only at Hj ⊢
 obtain ⟨hgq, hd, ⟨ht1, ht2⟩, hq3, hq4⟩ := Hj
 have hs2 := hs.mono ((hg0.trans hg1).trans hgq)
 clear cx_dv cx_out hrep
 by_cases hgo : 150 < t.length ∧ 0 < d
 ·obtain ⟨hgo1, hgo2⟩ := hgo
  have hcm := cpk_le d.toNat (by omega)
  have cx_dv := fun {p : Int} (hp : 0 ≤ p ∧ p + 500000 ≤ 600000000000) => ((draw_all hw hu1 d.toNat (k := k) (deep := d) (by omega) (by omega) (by omega) hki).le hcm.2.1 (Nat.le_refl _)) Gq r code p l (hR1.mono (hg1.trans hgq)) hs2 hp
  repeat' (first | (refine jR ?_) | (refine k_op rfl ?_; first | (refine jV (g_pickT rfl rfl rfl) ?_) | (refine c_m1s rfl rfl rfl (cx_dv (by omega)) rfl ?_; rintro _ G1 _ hle ⟨w1, b1, q1, rfl, hrep, htot, hone, rfl, hq1, hq2⟩; dsimp only [zA, fA]; skip)) | (refine k_gt rfl rfl (dTt (by omega)) ?_) | (refine k_tt rfl (dTt ‹_›) ?_))
  have hob := outR hw hrep
  unfold OutB at hob
  have cx_out := c_outS hw hrep (by omega)
  have e : (d - 1).toNat + 1 = d.toNat := by omega
  repeat' (first | refine jM ?_ | (refine k_op rfl ?_; (refine c_rt rfl rfl rfl cx_out rfl ?_)))
  exact k_rd (w1.out, d - 1, q1, G1) ⟨hgq.trans hle, by dsimp only; omega, ⟨hone, by dsimp only; rw [e]; omega⟩, by dsimp only; omega, by dsimp only; omega⟩ (by dsimp only; omega) (by repeat' constructor) rfl sRr
 ·have hx : t.length ≤ 150 ∨ d ≤ 0 := by omega
  have hl : t.length ≤ 8480 := by
   rcases hx with hx | hx
   ·omega
   ·have e : d = 0 := by omega
    subst e
    have : ctt (Int.toNat 0 + 1) = 4240 := by decide
    omega
  repeat' (first | (refine jR ?_) | (refine k_op rfl ?_; first | (refine jV (g_pickT rfl rfl rfl) ?_) | (refine jV (g_pickF rfl rfl rfl) ?_) | (refine c_m1g rfl rfl rfl (c_pick ?_ (by (repeat (assumption)); done)) rfl ?_; (focus ((omega); done)); rintro _ _ ⟨k, rfl, rfl, hk0, hk1⟩; dsimp only [zA, fA])) | refine k_g rfl rfl (fun _ => ?_) (fun _ => ?_) | (refine k_ff rfl (by first | rfl | (refine decide_eq_false ?_; (omega))) ?_) | refine k_if rfl (fun _ => ?_) (fun _ => ?_))
  all_goals refine Nx.base hok hB ?_
  all_goals (first | exact k_rr (vs := [_]) rfl ⟨rfl, trivial⟩ rfl sRr ⟨rfl, _, _, rfl, by (omega), rfl, by omega, by omega⟩ | skip)
  all_goals (refine k_any (s_any (id := 11) [] (fun _ h => absurd h (by simp)) mixed ?_); refine jU 7 [0, 1, 2, 4, 9, 10, 11, 12] (bts 15 7703) ?_ ?_; (focus (repeat' (first | exact trivial | apply And.intro | omega))); refine x_all [3, 5] (by kernel_rfl) (by decide) ⟨?_, ?_, trivial⟩; (focus (refine x_opg rfl rfl ?_; (refine c_bsl rfl rfl rfl rfl rfl rfl fun _ => ?_); refine jK (bts 15 7711) ?_; refine jA 5 rfl ?_; ((refine c_m1g rfl rfl rfl (c_pick ?_ (by (repeat (assumption)); done)) rfl ?_; (focus ((omega); done)); rintro _ _ ⟨k, rfl, rfl, hk0, hk1⟩; dsimp only [zA, fA])); refine jK (bts 15 7743) ?_; ((refine jG (bts 15 7807) 6 rfl (g_iaddr rfl rfl ?_) ?_; (focus ((omega); done)))); refine jA 7 rfl ?_; ((refine c_ldMS 64 rfl rfl rfl ?_ rfl (fun xs hxs => ?_); (focus ((simp only [List.length_append, List.length_cons, List.length_nil, List.length_take]; omega); done)))); refine jK (bts 15 7935) ?_; refine jU 0 [8, 13, 14] (bts 15 32767) ?_ ?_; (focus (repeat' (first | exact trivial | apply And.intro | (simp only [List.length_append, List.length_cons, List.length_nil, List.length_take, List.length_drop]; omega)))); refine x_done (by kernel_rfl) (k_bk ?_))); rotate_left 1; (focus (refine x_opg rfl rfl ?_; ((refine c_m1g rfl rfl rfl (c_pick ?_ (by (repeat (assumption)); done)) rfl ?_; (focus ((omega); done)); rintro _ _ ⟨k, rfl, rfl, hk0, hk1⟩; dsimp only [zA, fA])); refine jK (bts 15 7735) ?_; refine jA 3 rfl ?_; (refine c_bsl rfl rfl rfl rfl rfl rfl fun _ => ?_); refine jK (bts 15 7743) ?_; ((refine jG (bts 15 7807) 6 rfl (g_iaddr rfl rfl ?_) ?_; (focus ((omega); done)))); refine jA 7 rfl ?_; ((refine c_ldMS 64 rfl rfl rfl ?_ rfl (fun xs hxs => ?_); (focus ((simp only [List.length_append, List.length_cons, List.length_nil, List.length_take]; omega); done)))); refine jK (bts 15 7935) ?_; refine jU 0 [8, 13, 14] (bts 15 32767) ?_ ?_; (focus (repeat' (first | exact trivial | apply And.intro | (simp only [List.length_append, List.length_cons, List.length_nil, List.length_take, List.length_drop]; omega)))); refine x_done (by kernel_rfl) (k_bk ?_))); rotate_left 1)
  all_goals repeat' (refine jR ?_)
  all_goals exact k_rr (vs := [_]) rfl ⟨rfl, trivial⟩ rfl (by repeat (first | exact List.Sublist.refl _ | exact List.nil_sublist _ | apply List.Sublist.cons_cons | apply List.Sublist.cons)) ⟨rfl, _, _, rfl, by (simp only [List.length_append, List.length_cons, List.length_nil, List.length_take, List.length_drop]; omega), rfl, by omega, by omega⟩
end Go.E
namespace Go.E
set_option maxRecDepth 20000
set_option maxHeartbeats 2000000
open Go.Proofs
section
variable {P : Program} {n : Nat} {D : List Deferred} {E : Env} {B : Base} {G : Gh} {L : List Own} {K : Act → World → Prop} {Q : Exit → Act → World → Prop} {ty : TypeId} {pos : String} {aft : Array Edge}
theorem c_fnm {fo : Operand} {l : List Operand} {tys : Array TypeId} {d : Nat} {g : Option (Nat × Bool)} {f : FuncId} {fi ca az vs : List Value} {Post : Value → Gh → List Own → Prop}
  (hf : ev E fo = some (.func (.func f) fi.toArray ca.toArray)) (ha : evs E l = some az) (hv : fi ++ az ++ ca = vs) (hc : FnM P f vs G [] Post) (hlt : Nat.blt d n = true)
  (k : ∀ v G' L', Gh.le G G' → Post v G' L' → Nx n D ((d, v) :: E) B G' (L' ++ L) K) : Nx n D E B G L (ow P ⟨some d, .call ⟨.value fo, l.toArray, tys⟩, ty, pos, aft, g⟩ Q K) :=
 c_call (Lp := []) hf ha hv hc (List.Perm.refl _) hlt fun v G' L' h => k v G' L' h.1 h.2
end
variable {G : Gh}
theorem SlV.pre {p : Option Addr} {n c sz m : Nat} {xs : List Value} (h : SlV G (.slice p n c) sz n xs) (hm : m ≤ n) : SlV G (.slice p m c) sz m (xs.take (m * sz)) := by
 obtain ⟨h1, ⟨h2, h3⟩ | ⟨b', o', cap', e, hc, hs⟩⟩ := h
 ·simp only [Value.slice.injEq] at h2
  obtain ⟨rfl, rfl, rfl⟩ := h2
  obtain rfl : m = 0 := by omega
  exact ⟨by simp [h3], .inl ⟨rfl, by simp [h3]⟩⟩
 ·simp only [Value.slice.injEq] at e
  obtain ⟨rfl, -, rfl⟩ := e
  refine ⟨by rw [List.length_take, h1]; exact Nat.min_eq_left (Nat.mul_le_mul_right _ hm), .inr ⟨b', o', _, rfl, by omega, ?_⟩⟩
  obtain ⟨cs, h3, h4⟩ := hs
  refine ⟨cs, h3, fun i v hv => h4 i v ?_⟩
  rw [List.getElem?_take] at hv
  split at hv
  ·exact hv
  ·cases hv
theorem chs_take (l : List Ch) (m : Nat) : rows chF (l.take m) = (rows chF l).take (m * 2) := by
 induction l generalizing m with
 | nil => simp [rows]
 | cons c l ih =>
  cases m with
  | zero => simp [rows]
  | succ m =>
   rw [List.take_succ_cons, rows_cons, rows_cons, ih, Nat.succ_mul]
   rfl
theorem chs_pre {p : Option Addr} {c m : Nat} {l : List Ch} (h : SlV G (.slice p l.length c) 2 l.length (rows chF l)) (hm : m ≤ l.length) : SlV G (.slice p m c) 2 (l.take m).length (rows chF (l.take m)) ∧ (l.take m).length = m := by
 have e : (l.take m).length = m := by rw [List.length_take]; omega
 rw [e, chs_take]
 exact ⟨h.pre hm, rfl⟩
abbrev ChM (c : Ch) : Prop := c.1.length ≤ 1000 ∧ c.2.length ≤ 1000
theorem ChM.all {l : List Ch} (h : ∀ x ∈ l, ChM x) : ∀ x ∈ l, ChL x := fun x hx => by have := h x hx; exact ⟨by omega, by omega⟩
theorem c_ChangesOfW {s k w t : List UInt8} (h : s.length ≤ 1048576 ∧ k.length ≤ 1048576 ∧ w.length ≤ 1048576 ∧ t.length ≤ 1048576) :
  FnM Try.prog 11 [S s, S k, S w, S t] G [] (fun v _ L' => ∃ p c ls ok, v = Tu [.slice p ls.length c, Bo ok] ∧ L' = [.acc (.slice p ls.length c) tChS 2 ls.length (rows chF ls)] ∧ ls.length ≤ 30 ∧ ∀ x ∈ ls, ChM x) := by
 refine (c_ChangesOfS h).mono ?_
 rintro v G' L' ⟨h1, p, c, h2, h3⟩
 refine ⟨h1, p, c, _, _, h2, h3, ?_⟩
 cases e : changesV s k w t with
 | none => exact ⟨by simp, fun x hx => by cases hx⟩
 | some l =>
  obtain ⟨g1, g2⟩ := changes_len e
  exact ⟨g1, fun x hx => by have := g2 x hx; exact ⟨by omega, by omega⟩⟩
end Go.E
namespace Go.E
set_option maxRecDepth 20000
set_option maxHeartbeats 2000000
open Go.Proofs
variable {G : Gh}
def begs (a b : List UInt8) : Bool := decide (a = []) || decide (a = b) || (a ++ [47]).isPrefixOf b
theorem begs_l {a b : List UInt8} (ha : ¬ a = []) (hb : ¬ a = b) : begs a b = (a ++ [47]).isPrefixOf b := by simp [begs, ha, hb]
theorem c_beginsI {a b : List UInt8} (h : a.length ≤ 9000000000000000000) : PuG Try.prog 13 [S a, S b] G (· = Bo (begs a b)) := by
 refine jE [(0, _), (1, _)] Try.func13 Try.ntmps13 fun B hB => ?_
 repeat' (first | (refine run (t := tb) 400 rfl ?_ ?_; (focus (repeat' (first | exact trivial | apply And.intro | (simp only [List.length_append, List.length_cons, List.length_nil, Int.toNat_natCast]; omega))))) | (refine k_op rfl ?_; first | (refine jV (g_pickT rfl rfl rfl) ?_) | (refine jV (g_pickF rfl rfl rfl) ?_) | (refine c_rt rfl rfl rfl c_HasPrefix rfl ?_)) | (refine k_gt rfl rfl rfl ?_) | refine k_g rfl rfl (fun _ => ?_) (fun _ => ?_))
 all_goals refine jZ (vs := [_]) rfl ⟨rfl, trivial⟩ rfl ⟨rfl, rfl, ?_⟩
 ·rw [oneOf_one, begs, decide_eq_true (by assumption)]; rfl
 ·rw [oneOf_one, begs]; simp [*]
 ·rw [oneOf_one, begs_l (by assumption) (by assumption)]
theorem begs_s {a b : List UInt8} (ha : ¬ a = []) (hb : ¬ a = b) (h1 : a.length < b.length) : begs a b = decide (b.take a.length = a ∧ ((bt b a.length : Nat) : Int) = 47) := by
 rw [begs_l ha hb, isPrefixOf_take]
 have e : b.take (a ++ [47]).length = b.take a.length ++ [b[a.length]] := by
  rw [List.length_append, List.length_cons, List.length_nil, Nat.zero_add, List.take_succ_eq_append_getElem h1]
 have e2 : bt b a.length = (b[a.length]).toNat := by simp [bt, List.getD, List.getElem?_eq_getElem h1]
 rw [e, e2]
 apply decide_eq_decide.2
 constructor
 ·rintro ⟨_, h⟩
  have := List.append_inj h (by simp; omega)
  refine ⟨this.1, ?_⟩
  have h2 : b[a.length] = 47 := by simpa using this.2
  rw [h2]; rfl
 ·rintro ⟨h, h2⟩
  have h3 : b[a.length] = 47 := by
   apply UInt8.toNat_inj.1
   have : (b[a.length]).toNat = 47 := by omega
   rw [this]; rfl
  refine ⟨by simp; omega, by rw [h, h3]⟩
theorem begs_n {a b : List UInt8} (ha : ¬ a = []) (hb : ¬ a = b) (h1 : ¬ a.length < b.length) : begs a b = false := by
 rw [begs_l ha hb, isPrefixOf_take]
 refine decide_eq_false fun ⟨h, _⟩ => ?_
 simp at h; omega
theorem c_beginsS {a b : List UInt8} : PuG Try.prog 14 [S a, S b] G (· = Bo (begs a b)) := by
 refine jE [(0, _), (1, _)] Try.func14 Try.ntmps14 fun B hB => ?_
 repeat' (first | refine jM ?_ | (refine k_op rfl ?_; first | (refine jV (g_pickT rfl rfl rfl) ?_) | (refine jV (g_pickF rfl rfl rfl) ?_)) | (refine k_gt rfl rfl rfl ?_) | (refine k_gf rfl rfl rfl ?_) | refine k_g rfl rfl (fun _ => ?_) (fun _ => ?_))
 all_goals refine jZ (vs := [_]) rfl ⟨rfl, trivial⟩ rfl ⟨rfl, rfl, ?_⟩
 ·rw [oneOf_one, begs, decide_eq_true (by assumption)]; rfl
 ·rw [oneOf_one, begs]; simp [*]
 ·rename_i h1 h2
  rw [oneOf_one, begs_s (by assumption) (by assumption) (by omega)]
  exact congrArg Bo (decide_eq_decide.2 ⟨fun h => ⟨h2, h⟩, fun h => h.2⟩)
 ·rename_i h1 h2
  rw [oneOf_one, begs_s (by assumption) (by assumption) (by omega), decide_eq_false fun h => h2 h.1]
 ·rw [oneOf_one, begs_n (by assumption) (by assumption) (by omega)]
def apart1 (x : Ch) (b : List Ch) : Bool := b.all fun y => !(begs x.1 y.1 || begs y.1 x.1)
def apart (a b : List Ch) : Bool := a.all fun x => apart1 x b
theorem apart_hit {a b : List Ch} {i j : Nat} (hi : i < a.length) (hj : j < b.length) (Hi : apart (a.drop i) b = apart a b) (Hj : apart1 (nth a i) (b.drop j) = apart1 (nth a i) b) (h : (begs (nth a i).1 (nth b j).1 || begs (nth b j).1 (nth a i).1) = true) : apart a b = false := by
 have : apart1 (nth a i) b = false := by rw [← Hj, drop_nth hj]; unfold apart1; rw [List.all_cons, h]; rfl
 rw [← Hi, drop_nth hi]; simp [apart, this]
theorem apart_step {x : Ch} {b : List Ch} {j : Nat} (hj : j < b.length) (Hj : apart1 x (b.drop j) = apart1 x b) (h : (begs x.1 (nth b j).1 || begs (nth b j).1 x.1) = false) : apart1 x (b.drop (j + 1)) = apart1 x b := by
 rw [← Hj, drop_nth hj]; unfold apart1; rw [List.all_cons, h]; rfl
theorem apart_next {a b : List Ch} {i : Nat} (hi : i < a.length) (Hi : apart (a.drop i) b = apart a b) (h : apart1 (nth a i) b = true) : apart (a.drop (i + 1)) b = apart a b := by
 rw [← Hi, drop_nth hi]; simp [apart, h]
abbrev tCh : TypeId := 37
theorem nth_le {a : List Ch} (h : ∀ x ∈ a, x.1.length ≤ 1048576 ∧ x.2.length ≤ 1048576) {i : Nat} (hi : i < a.length) : (nth a i).1.length ≤ 9000000000000000000 := by
 rw [nth_eq hi]; have := h _ (List.getElem_mem hi); omega
theorem c_apartI {u v : Value} {a b : List Ch} (hu : SlV G u 2 a.length (rows chF a)) (hv : SlV G v 2 b.length (rows chF b)) (ha : ∀ x ∈ a, x.1.length ≤ 1048576 ∧ x.2.length ≤ 1048576) (hb : ∀ x ∈ b, x.1.length ≤ 1048576 ∧ x.2.length ≤ 1048576) (hn : a.length ≤ 1048576 ∧ b.length ≤ 1048576) :
  PuG Try.prog 5 [u, v] G (· = Bo (apart a b)) := by
 have na := @nth_le a ha
 have nb := @nth_le b hb
 refine jE [(0, _), (1, _)] Try.func5 Try.ntmps5 fun B hB => ?_
 repeat' (first | (refine jR ?_) | (refine k_op rfl ?_; (refine jV (g_lenV rfl (by assumption)) ?_)))
 refine k_loop (ι := Nat) (fun i => i ≤ a.length ∧ apart (a.drop i) b = apart a b) (fun i => [(0, u), (1, v), (9, u), (10, I a.length), (11, I i)]) (fun _ => G) (fun i => []) (fun i => a.length - i) 0 ?_ (by repeat' constructor) rfl sRr (fun i Hi => ?_)
 ·exact ⟨by omega, rfl⟩
 repeat' (first | (refine jR ?_) | refine k_if rfl (fun _ => ?_) (fun _ => ?_))
 ·have hi : i < a.length := by omega
  obtain ⟨ba, oa, ca, rfl, sa⟩ := hu.expl (by omega)
  repeat' (first | (refine jR ?_) | (refine k_op rfl ?_; first | refine jV (g_lenV rfl (by assumption)) ?_ | (refine jV (g_iaddrN rfl rfl (by omega)) ?_) | (refine jV (g_ldR rfl rfl (by assumption) ?_) ?_; (focus ((omega); done))) | refine c_al rfl rfl fun _ => ?_ | refine c_stA rfl rfl rfl rfl rfl rfl ?_))
  rename_i x
  have ni := na hi
  refine k_loop (ι := Nat) (fun j => j ≤ b.length ∧ apart1 (nth a i) (b.drop j) = apart1 (nth a i) b) (fun j => [(0, .slice (some ⟨ba, oa, none⟩) a.length ca), (1, v), (9, .slice (some ⟨ba, oa, none⟩) a.length ca), (10, I a.length), (11, I i), (6, Pt x 0), (15, v), (16, I b.length), (17, I j)]) (fun _ => G) (fun j => [.blk x (.cells (List.toArray [S (nth a i).1, S (nth a i).2]) tCh (0, 0))]) (fun j => b.length - j) 0 ?_ (by repeat' constructor) rfl sRr (fun j Hj => ?_)
  ·exact ⟨by omega, rfl⟩
  repeat' (first | refine jM ?_ | refine k_if rfl (fun _ => ?_) (fun _ => ?_))
  ·have hj : j < b.length := by omega
   obtain ⟨bb, ob, cb, rfl, sb⟩ := hv.expl (by omega)
   have nj := nb hj
   repeat' (first | refine jM ?_ | (refine k_op rfl ?_; first | (refine jV (g_iaddrN rfl rfl (by omega)) ?_) | refine jV (g_ld rfl rfl rfl) ?_ | (refine jV (g_ldR rfl rfl (by assumption) ?_) ?_; (focus ((omega); done))) | refine c_al rfl rfl fun _ => ?_ | refine c_stA rfl rfl rfl rfl rfl rfl ?_ | (refine jV (g_pickT rfl rfl rfl) ?_) | (refine jV (g_pickF rfl rfl rfl) ?_) | (refine c_rt rfl rfl rfl (c_beginsI ‹_›) rfl ?_)) | refine k_gb rfl rfl (fun _ => ?_) (fun _ => ?_) | (refine k_tt rfl rfl ?_) | refine k_cd rfl (fun _ => ?_) (fun _ => ?_))
   ·refine jZ (vs := [_]) rfl ⟨rfl, trivial⟩ rfl ⟨rfl, rfl, ?_⟩
    rw [oneOf_one, apart_hit hi hj Hi.2 Hj.2 (by simp [*])]
   ·refine jZ (vs := [_]) rfl ⟨rfl, trivial⟩ rfl ⟨rfl, rfl, ?_⟩
    rw [oneOf_one, apart_hit hi hj Hi.2 Hj.2 (by simp [*])]
   ·refine k_rd (j + 1) ?_ ?_ (by repeat' constructor) rfl (by repeat (first | exact List.Sublist.refl _ | apply List.Sublist.cons))
    ·exact ⟨by omega, apart_step hj Hj.2 (by simp [*])⟩
    ·omega
  ·have ej : j = b.length := by omega
   refine k_rd (i + 1) ?_ ?_ (by repeat' constructor) rfl (by repeat (exact List.nil_sublist _))
   ·refine ⟨by omega, apart_next hi Hi.2 ?_⟩
    rw [← Hj.2, ej, List.drop_length]; rfl
   ·omega
 ·refine jZ (vs := [_]) rfl ⟨rfl, trivial⟩ rfl ⟨rfl, rfl, ?_⟩
  have ei : i = a.length := by omega
  rw [oneOf_one, ← Hi.2, ei, List.drop_length]; rfl
theorem c_apartS {u v : Value} {a b : List Ch} (hu : SlV G u 2 a.length (rows chF a)) (hv : SlV G v 2 b.length (rows chF b)) (hn : a.length ≤ 1048576 ∧ b.length ≤ 1048576) :
  PuG Try.prog 6 [u, v] G (· = Bo (apart a b)) := by
 refine jE [(0, _), (1, _)] Try.func6 Try.ntmps6 fun B hB => ?_
 repeat' (refine jR ?_)
 refine k_loop (ι := Nat) (fun i => i ≤ a.length ∧ apart (a.drop i) b = apart a b) (fun i => [(0, u), (1, v), (5, I i)]) (fun _ => G) (fun i => []) (fun i => a.length - i) 0 ?_ (by repeat' constructor) rfl sRr (fun i Hi => ?_)
 ·exact ⟨by omega, rfl⟩
 repeat' (first | (refine jR ?_) | (refine k_op rfl ?_; (refine jV (g_lenV rfl (by assumption)) ?_)) | refine k_if rfl (fun _ => ?_) (fun _ => ?_))
 ·have hi : i < a.length := by omega
  obtain ⟨ba, oa, ca, rfl, sa⟩ := hu.expl (by omega)
  refine k_loop (ι := Nat) (fun j => j ≤ b.length ∧ apart1 (nth a i) (b.drop j) = apart1 (nth a i) b) (fun j => [(0, .slice (some ⟨ba, oa, none⟩) a.length ca), (1, v), (5, I i), (6, I j)]) (fun _ => G) (fun j => []) (fun j => b.length - j) 0 ?_ (by repeat' constructor) rfl sRr (fun j Hj => ?_)
  ·exact ⟨by omega, rfl⟩
  repeat' (first | refine jM ?_ | (refine k_op rfl ?_; (refine jV (g_lenV rfl (by assumption)) ?_)) | refine k_if rfl (fun _ => ?_) (fun _ => ?_))
  ·have hj : j < b.length := by omega
   obtain ⟨bb, ob, cb, rfl, sb⟩ := hv.expl (by omega)
   cases hg : begs (nth a i).1 (nth b j).1 with
   | true =>
    have cx_begins : PuG Try.prog 14 [S (nth a i).1, S (nth b j).1] G (· = Bo true) := by rw [← hg]; exact c_beginsS
    repeat' (first | (refine jR ?_) | (refine k_tt rfl rfl ?_) | (refine k_any (s_any (id := 7) _ (fun _ h => h) mixed ?_); refine jT 20 [0, 1, 5, 6] (bts 24 99) ?_; (refine jG (bts 24 103) 2 rfl (g_iaddrN rfl rfl (by omega)) ?_); refine jT 18 [3] (bts 24 111) ?_; ((refine jG (bts 24 127) 4 rfl (g_ldRF rfl rfl (by assumption) ?_ rfl rfl) ?_; (focus ((omega); done)))); (refine jG (bts 24 255) 7 rfl (g_iaddrN rfl rfl (by omega)) ?_); refine jT 15 [8] (bts 24 511) ?_; ((refine jG (bts 24 1023) 9 rfl (g_ldRF rfl rfl (by assumption) ?_ rfl rfl) ?_; (focus ((omega); done)))); refine jA 10 rfl ?_; (refine c_rt rfl rfl rfl cx_begins rfl ?_); refine jS (bts 24 2047) ?_; refine jT 12 [11] (bts 24 4095) ?_; (try (refine Nx.re (d := 30) (v' := Bo true) rfl (congrArg Value.bool rfl) ?_)); refine jT 8 [12, 13, 17, 18] (bts 24 409599) ?_; (refine jN (bts 24 425983) 14 rfl ?_); refine jT 6 [15] (bts 24 458751) ?_; (refine jN (bts 24 524287) 16 rfl ?_); (refine jN (bts 24 1048575) 19 rfl ?_); refine jT 3 [20] (bts 24 2097151) ?_; (refine jN (bts 24 4194303) 21 rfl ?_); (refine jN (bts 24 8388607) 22 rfl ?_); (refine jG (bts 24 16777215) 23 rfl (g_pickT rfl rfl rfl) ?_); refine x_done (by kernel_rfl) (k_bk ?_)))
    refine jZ (vs := [_]) rfl ⟨rfl, trivial⟩ rfl ⟨rfl, rfl, ?_⟩
    rw [oneOf_one, apart_hit hi hj Hi.2 Hj.2 (by simp [*])]
   | false =>
    have cx_begins : PuG Try.prog 14 [S (nth a i).1, S (nth b j).1] G (· = Bo false) := by rw [← hg]; exact c_beginsS
    repeat' (first | refine jM ?_ | refine k_cd rfl (fun _ => ?_) (fun _ => ?_) | (refine k_any (s_any (id := 7) _ (fun _ h => h) mixed ?_); refine jT 20 [0, 1, 5, 6] (bts 24 99) ?_; (refine jG (bts 24 103) 2 rfl (g_iaddrN rfl rfl (by omega)) ?_); refine jT 18 [3] (bts 24 111) ?_; ((refine jG (bts 24 127) 4 rfl (g_ldRF rfl rfl (by assumption) ?_ rfl rfl) ?_; (focus ((omega); done)))); (refine jG (bts 24 255) 7 rfl (g_iaddrN rfl rfl (by omega)) ?_); refine jT 15 [8] (bts 24 511) ?_; ((refine jG (bts 24 1023) 9 rfl (g_ldRF rfl rfl (by assumption) ?_ rfl rfl) ?_; (focus ((omega); done)))); refine jA 10 rfl ?_; (refine c_rt rfl rfl rfl cx_begins rfl ?_); refine jS (bts 24 2047) ?_; refine jT 12 [11] (bts 24 4095) ?_; (try (refine Nx.re (d := 30) (v' := Bo false) rfl (congrArg Value.bool rfl) ?_)); refine jT 8 [12, 13, 17, 18] (bts 24 409599) ?_; (refine jG (bts 24 425983) 14 rfl (g_iaddrN rfl rfl (by omega)) ?_); refine jT 6 [15] (bts 24 458751) ?_; ((refine jG (bts 24 524287) 16 rfl (g_ldRF rfl rfl (by assumption) ?_ rfl rfl) ?_; (focus ((omega); done)))); (refine jG (bts 24 1048575) 19 rfl (g_iaddrN rfl rfl (by omega)) ?_); refine jT 3 [20] (bts 24 2097151) ?_; ((refine jG (bts 24 4194303) 21 rfl (g_ldRF rfl rfl (by assumption) ?_ rfl rfl) ?_; (focus ((omega); done)))); (refine jA 22 rfl ?_; (refine c_rt rfl rfl rfl c_beginsS rfl ?_); refine jS (bts 24 8388607) ?_); (refine jG (bts 24 16777215) 23 rfl (g_pickF rfl rfl rfl) ?_); refine x_done (by kernel_rfl) (k_bk ?_)))
    ·refine jZ (vs := [_]) rfl ⟨rfl, trivial⟩ rfl ⟨rfl, rfl, ?_⟩
     rw [oneOf_one, apart_hit hi hj Hi.2 Hj.2 (by simp [*])]
    ·refine k_rd (j + 1) ?_ ?_ (by repeat' constructor) rfl sRr
     ·exact ⟨by omega, apart_step hj Hj.2 (by simp [*])⟩
     ·omega
  ·have ej : j = b.length := by omega
   refine k_rd (i + 1) ?_ ?_ (by repeat' constructor) rfl sRr
   ·refine ⟨by omega, apart_next hi Hi.2 ?_⟩
    rw [← Hj.2, ej, List.drop_length]; rfl
   ·omega
 ·refine jZ (vs := [_]) rfl ⟨rfl, trivial⟩ rfl ⟨rfl, rfl, ?_⟩
  have ei : i = a.length := by omega
  rw [oneOf_one, ← Hi.2, ei, List.drop_length]; rfl
end Go.E
namespace Go.E
set_option maxRecDepth 20000
set_option maxHeartbeats 2000000
--?fin
open Go.Proofs
variable {G : Gh}
theorem apart1_swap {x : Ch} {b : List Ch} : apart b [x] = apart1 x b := by
 unfold apart apart1
 induction b with
 | nil => rfl
 | cons y b ih =>
  rw [List.all_cons, List.all_cons, ih]
  congr 1
  show (!(begs y.1 x.1 || begs x.1 y.1) && true) = _
  rw [Bool.and_true, Bool.or_comm]
theorem apart_cons {a : List Ch} {x : Ch} {b : List Ch} : apart a (x :: b) = (apart a [x] && apart a b) := by
 unfold apart
 induction a with
 | nil => rfl
 | cons y a ih =>
  rw [List.all_cons, List.all_cons, List.all_cons, ih]
  have e : apart1 y (x :: b) = (apart1 y [x] && apart1 y b) := by
   unfold apart1
   rw [List.all_cons, List.all_cons, List.all_nil, Bool.and_true]
  rw [e]
  cases apart1 y [x] <;> cases apart1 y b <;> simp
theorem apart_swap : ∀ {a b : List Ch}, apart b a = apart a b
 | [], b => by unfold apart apart1; simp
 | x :: a, b => by
  rw [apart_cons, apart_swap (a := a), apart1_swap]
  rfl
theorem slv_capF {p : Option Addr} {n c sz : Nat} {xs : List Value} (h : SlV G (.slice p n c) sz n xs) : n ≤ c := by
 obtain ⟨_, ⟨e, _⟩ | ⟨b, o, c', e, hc, _⟩⟩ := h
 ·simp only [Value.slice.injEq] at e; omega
 ·simp only [Value.slice.injEq] at e; omega
theorem pre_ex {p : Option Addr} {c : Nat} {l : List Ch} {m : Int} (h : SlV G (.slice p l.length c) 2 l.length (rows chF l)) (hl : ∀ x ∈ l, ChM x) (hn : l.length ≤ 30) (h0 : 0 ≤ m ∧ m ≤ l.length) :
  ∃ cl : List Ch, m.toNat = cl.length ∧ SlV G (.slice p cl.length c) 2 cl.length (rows chF cl) ∧ cl.length ≤ 40 ∧ ∀ x ∈ cl, ChL x := by
 obtain ⟨h1, h2⟩ := chs_pre h (m := m.toNat) (by omega)
 exact ⟨l.take m.toNat, h2.symm, by rw [h2]; rw [h2] at h1; exact h1, by omega, fun x hx => ChM.all hl x (List.mem_of_mem_take hx)⟩
theorem c_apartE {u : Value} {p : Option Addr} {c : Nat} {a : List Ch} (hu : SlV G u 2 a.length (rows chF a)) (ha : ∀ x ∈ a, x.1.length ≤ 1048576 ∧ x.2.length ≤ 1048576) (hn : a.length ≤ 1048576) :
  PuG Try.prog 5 [u, .slice p 0 c] G (· = Bo true) := by
 have na := @nth_le a ha
 refine jE [(0, _), (1, _)] Try.func5 Try.ntmps5 fun B hB => ?_
 repeat' (first | (refine jR ?_) | (refine k_op rfl ?_; (refine jV (g_lenV rfl (by assumption)) ?_)))
 refine k_loop (ι := Nat) (fun i => i ≤ a.length) (fun i => [(0, u), (1, .slice p 0 c), (9, u), (10, I a.length), (11, I i)]) (fun _ => G) (fun i => []) (fun i => a.length - i) 0 ?_ (by repeat' constructor) rfl sRr (fun i Hi => ?_)
 ·exact Nat.zero_le _
 by_cases hi : i < a.length
 ·obtain ⟨ba, oa, ca, rfl, sa⟩ := hu.expl (by omega)
  repeat' (first | (refine jR ?_) | (refine k_op rfl ?_; first | refine jV (g_lenL rfl) ?_ | (refine jV (g_iaddrN rfl rfl (by omega)) ?_) | (refine jV (g_ldR rfl rfl (by assumption) ?_) ?_; (focus ((omega); done))) | refine c_al rfl rfl fun _ => ?_ | refine c_stA rfl rfl rfl rfl rfl rfl ?_) | (refine k_tt rfl (dTt (by omega)) ?_))
  rename_i x
  have ni := na hi
  refine k_loop (ι := Nat) (fun j => j = 0) (fun j => [(0, .slice (some ⟨ba, oa, none⟩) a.length ca), (1, .slice p 0 c), (9, .slice (some ⟨ba, oa, none⟩) a.length ca), (10, I a.length), (11, I i), (15, .slice p 0 c), (16, I (0 : Nat)), (17, I j)]) (fun _ => G) (fun j => []) (fun j => 0) 0 ?_ (by repeat' constructor) rfl (by repeat (exact List.nil_sublist _)) (fun j Hj => ?_)
  ·rfl
  subst Hj
  repeat' (first | refine jM ?_ | (refine k_ff rfl rfl ?_))
  exact k_rd (i + 1) (by omega) (by omega) (by repeat' constructor) rfl sRr
 ·obtain rfl : i = a.length := by omega
  repeat' (first | (refine jR ?_) | (refine k_ff rfl (dFf (by omega)) ?_))
  refine jZ (vs := [_]) rfl ⟨rfl, trivial⟩ rfl ⟨rfl, rfl, ?_⟩
  rfl
theorem c_DrawChangesApart {v : Value} {l : List UInt8} (hs : SlV G v 1 l.length (u8s l)) : FnS Try.prog 4 [v] G (fun r G' => ∃ p c p2 c2 cl cl2, r = Tu [.slice p cl.length c, .slice p2 cl2.length c2] ∧ (True → SlV G' (.slice p cl.length c) 2 cl.length (rows chF cl)) ∧ (True → SlV G' (.slice p2 cl2.length c2) 2 cl2.length (rows chF cl2)) ∧ (cl.length ≤ 40 ∧ cl2.length ≤ 40) ∧ (True → ∀ x ∈ cl, ChL x) ∧ (True → ∀ x ∈ cl2, ChL x)) := by
 refine jB [(0, _)] Try.func4 Try.ntmps4 fun B hok hB hW => ?_
 repeat' (first | (refine jR ?_) | (refine k_op rfl ?_; first | (refine c_fng rfl rfl rfl (c_l6Open (by (repeat (assumption)); done)) rfl ?_; rintro _ _ ⟨b, code, l, rfl, rfl, hcd, hcl⟩; dsimp only [zA, fA]) | (refine c_m1g rfl rfl rfl (c_l91Schema ?_ (by (repeat (assumption)); done)) rfl ?_; (focus ((omega); done)); rintro _ _ ⟨sc, q1, rfl, hsc, rfl, hq1, hq2⟩; dsimp only [zA, fA]) | (refine c_m1g rfl rfl rfl (c_l91Some ?_ (by (repeat (assumption)); done) ?_) rfl ?_; (focus ((omega); done)); (focus ((omega); done)); rintro _ _ ⟨kd, q1, rfl, hkd, rfl, hq1, hq2⟩; dsimp only [zA, fA]) | (refine c_m1g rfl rfl rfl (c_l91Of ?_ (by (repeat (assumption)); done) ?_ ?_) rfl ?_; (focus ((omega); done)); (focus ((omega); done)); (focus ((omega); done)); rintro _ _ ⟨tx, q1, rfl, htx, rfl, hq1, hq2⟩; dsimp only [zA, fA])))
 refine k_op rfl ?_
 refine c_fnm rfl rfl rfl (c_ChangesOfW (by omega)) rfl ?_
 rintro _ Ga _ hla ⟨p1, c1, l1, ok0, rfl, rfl, hln1, hlc1⟩
 dsimp only [zA, fA]
 refine Nx.sealS (v := .slice p1 l1.length c1) fun Gb hGb hs1 => ?_
 have cx_chw := fun (G : Gh) (s k w t : List UInt8) => @c_ChangesOfW G s k w t
 repeat' (first | (refine jR ?_) | (refine k_op rfl ?_; first | (refine c_m1g rfl rfl rfl (c_l91Of ?_ (by (repeat (first | assumption | refine SlV.mono ?_ (by assumption))); done) ?_ ?_) rfl ?_; (focus ((omega); done)); (focus ((omega); done)); (focus ((omega); done)); rintro _ _ ⟨tx, q1, rfl, htx, rfl, hq1, hq2⟩; dsimp only [zA, fA]) | (refine c_fnm rfl rfl rfl ((cx_chw _ _ _ _ _) (by omega)) rfl ?_; rintro _ G1 _ hle ⟨pl, pc, ls, ok1, rfl, rfl, hln, hlc⟩; dsimp only [zA, fA]; skip)))
 refine Nx.sealS (v := .slice pl ls.length pc) fun Gc hGc hs2 => ?_
 have hs1 := (hs1.mono hle).mono hGc
 have hp1 := slv_capF hs1
 have hp2 := slv_capF hs2
 (refine k_any (s_any (id := 7) [] (fun _ h => absurd h (by simp)) mixed ?_); refine jU 10 [0, 1, 3, 7, 8, 10] (bts 16 1419) ?_ ?_; (focus (repeat' (exact trivial))); (refine jG (bts 16 1423) 2 rfl (g_lenL rfl) ?_); (refine jG (bts 16 1935) 9 rfl (g_lenL rfl) ?_); refine jA 4 rfl ?_; ((refine c_m1g rfl rfl rfl (c_pick ?_ (by (repeat (first | assumption | refine SlV.mono ?_ (by assumption))); done)) rfl ?_; (focus ((omega); done)); rintro _ _ ⟨k, rfl, rfl, hk0, hk1⟩; dsimp only [zA, fA])); refine jK (bts 16 1951) ?_; (refine jG (bts 16 1983) 5 rfl (g_min rfl rfl) ?_); ((refine jG (bts 16 2047) 6 rfl (g_slTo rfl rfl ?_) ?_; (focus ((omega); done)))); refine jA 11 rfl ?_; ((refine c_m1g rfl rfl rfl (c_pick ?_ (by (repeat (first | assumption | refine SlV.mono ?_ (by assumption))); done)) rfl ?_; (focus ((omega); done)); rintro _ _ ⟨k, rfl, rfl, hk0, hk1⟩; dsimp only [zA, fA])); refine jK (bts 16 4095) ?_; refine jU 3 [14] (bts 16 20479) ?_ ?_; (focus (repeat' (exact trivial))); (refine jG (bts 16 24575) 12 rfl (g_min rfl rfl) ?_); ((refine jG (bts 16 32767) 13 rfl (g_slTo rfl rfl ?_) ?_; (focus ((omega); done)))); refine jU 0 [15] (bts 16 65535) ?_ ?_; (focus (repeat' (exact trivial))); refine x_done (by kernel_rfl) (k_bk ?_))
 all_goals repeat' (refine jR ?_)
 rename_i k1 hka hkb
 obtain ⟨cl1, e1, f1, g1, i1⟩ := pre_ex (m := min (l1.length : Int) k1) hs1 hlc1 hln1 (by omega)
 obtain ⟨cl2, e2, f2, g2, i2⟩ := pre_ex (m := min (ls.length : Int) k) hs2 hlc hln (by omega)
 rw [e1, e2]
 refine jZ (vs := [_, _]) rfl ⟨rfl, rfl, trivial⟩ rfl ⟨(hla.trans (hGb.trans (hle.trans hGc))), rfl, ?_⟩
 exact ⟨_, _, _, _, cl1, cl2, rfl, fun _ => f1, fun _ => f2, ⟨g1, g2⟩, fun _ => i1, fun _ => i2⟩
theorem c_FnChangesApart {v : Value} {l : List UInt8} (hs : SlV G v 1 l.length (u8s l)) : PuG Try.prog 3 [v] G (· = Bo true) := by
 obtain ⟨a, cap, rfl⟩ := hs.sl
 refine jB (Post := fun v G' L' => G' = G ∧ L' = [] ∧ _) [(0, _)] Try.func3 Try.ntmps3 fun B hok hB hW => ?_
 repeat' (first | (refine jR ?_) | (refine k_op rfl ?_; first | refine jV (g_lenL rfl) ?_ | (refine c_fns rfl rfl rfl (c_DrawChangesApart (by (repeat (assumption)); done)) rfl ?_; rintro _ G hle ⟨p1, c1, p2, c2, l1, l2, rfl, hs1, hs2, hln, hl1, hl2⟩; skip)) | refine k_if rfl (fun _ => ?_) (fun _ => ?_))
 ·refine Nx.base hok hB ?_
  refine jZ (vs := [_]) rfl ⟨rfl, trivial⟩ rfl ⟨rfl, rfl, ?_⟩
  rfl
 have cx_ap1 := c_apartI (G := G) (hs1 trivial) (hs2 trivial) (hl1 trivial) (hl2 trivial) ⟨by omega, by omega⟩
 have cx_ap2 := c_apartI (G := G) (hs2 trivial) (hs1 trivial) (hl2 trivial) (hl1 trivial) ⟨by omega, by omega⟩
 have cx_ap3 := c_apartS (G := G) (hs1 trivial) (hs2 trivial) ⟨by omega, by omega⟩
 have cx_ape := fun (p : Option Addr) (c : Nat) => c_apartE (G := G) (p := p) (c := c) (hs1 trivial) (hl1 trivial) (by omega)
 rw [apart_swap] at cx_ap2
 cases hA : apart l1 l2 with
 | true =>
  rw [hA] at cx_ap1 cx_ap2 cx_ap3
  repeat' (first | (refine jR ?_) | (refine k_op rfl ?_; first | refine c_bsl rfl rfl rfl rfl rfl rfl fun _ => ?_ | (refine jV (g_pickT rfl rfl rfl) ?_) | (refine c_rt rfl rfl rfl (cx_ape _ _) rfl ?_) | (refine c_rt rfl rfl rfl cx_ap1 rfl ?_) | (refine c_rt rfl rfl rfl cx_ap2 rfl ?_) | (refine c_rt rfl rfl rfl cx_ap3 rfl ?_)) | (refine k_gt rfl rfl rfl ?_) | (refine k_ff rfl rfl ?_))
  all_goals refine Nx.base hok hB ?_
  all_goals refine jZ (vs := [_]) rfl ⟨rfl, trivial⟩ rfl ⟨rfl, rfl, ?_⟩
  all_goals rfl
 | false =>
  rw [hA] at cx_ap1 cx_ap2 cx_ap3
  repeat' (first | (refine jR ?_) | (refine k_op rfl ?_; first | refine c_bsl rfl rfl rfl rfl rfl rfl fun _ => ?_ | (refine jV (g_pickT rfl rfl rfl) ?_) | (refine c_rt rfl rfl rfl (cx_ape _ _) rfl ?_) | (refine c_rt rfl rfl rfl cx_ap1 rfl ?_) | (refine c_rt rfl rfl rfl cx_ap2 rfl ?_) | (refine c_rt rfl rfl rfl cx_ap3 rfl ?_)) | (refine k_gt rfl rfl rfl ?_) | (refine k_ff rfl rfl ?_))
  all_goals refine Nx.base hok hB ?_
  all_goals refine jZ (vs := [_]) rfl ⟨rfl, trivial⟩ rfl ⟨rfl, rfl, ?_⟩
  all_goals rfl
end Go.E
