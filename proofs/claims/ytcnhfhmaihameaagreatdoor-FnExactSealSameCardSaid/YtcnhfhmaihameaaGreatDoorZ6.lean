/- Contracts and plain laws that the statement rests on, part 6. Conditions: as each says. -/
import Derived.Test.YtcnhfhmaihameaaGreatDoorZ5
set_option linter.unusedVariables false
set_option linter.unusedSimpArgs false
namespace Go.E
set_option maxRecDepth 20000
set_option maxHeartbeats 2000000
open Go.Proofs
variable {G : Gh}
def numPut (n : Int) : Value := if 0 ≤ n ∧ n ≤ 999999 then Tu [S (numI n), Bo true] else Tu [S [], Bo false]
theorem c_NumPutI {n : Int} : PuG Tryz.prog 54 [I n] G (· = numPut n) := by
  refine p_enter [(0, _)] Tryz.func54 (by kernel_rfl) Tryz.ntmps54 rfl rfl (by repeat' constructor) fun B hB => ?_
  repeat' (first | (refine run (t := tb) 400 rfl trivial ?_) | (refine k_op rfl ?_; first | (refine v_op (g_pickT rfl rfl rfl) rfl rfl ?_) | (refine v_op (g_pickF rfl rfl rfl) rfl rfl ?_)) | refine k_g rfl rfl (fun _ => ?_) (fun _ => ?_) | (refine k_tt rfl rfl ?_) | refine k_if rfl (fun _ => ?_) (fun _ => ?_))
  · refine k_rr (vs := [_, _]) rfl ⟨rfl, rfl, trivial⟩ rfl (List.nil_sublist _) ⟨rfl, rfl, ?_⟩
    rw [oneOf_two, numPut, if_neg (by omega)]
  · refine k_rr (vs := [_, _]) rfl ⟨rfl, rfl, trivial⟩ rfl (List.nil_sublist _) ⟨rfl, rfl, ?_⟩
    rw [oneOf_two, numPut, if_neg (by omega)]
  · refine Nx.addNil 5 1 ?_
    refine k_loop (ι := Value × List UInt8 × Int) (fun i => 0 ≤ i.2.2 ∧ i.2.2 ≤ 999999 ∧ i.2.1 ++ numI i.2.2 = numI n ∧ i.2.1.length ≤ 100) (fun i => [(0, I i.2.2), (4, i.1)]) (fun _ => G) (fun i => [.acc i.1 5 1 i.2.1.length (u8s i.2.1)]) (fun i => i.2.2.toNat) (nilS, [], n) ?_ (by repeat' constructor) rfl sRr (fun i hI => ?_)
    · dsimp only; refine ⟨?_, ?_, ?_, ?_⟩ <;> first | omega | simp
    · obtain ⟨v, l, m⟩ := i
      dsimp only at hI ⊢
      repeat' (first | (refine run (t := tb) 400 rfl ?_ ?_; (focus (repeat' (first | exact trivial | apply And.intro | omega)))) | (refine k_op rfl ?_; first | refine c_bsl rfl rfl rfl rfl rfl rfl fun _ => ?_ | (refine c_apB rfl rfl rfl rfl rfl rfl rfl rfl (by omega) fun _ => ?_) | refine v_op (g_bsA rfl (by (repeat (first | exact BL.nil | apply BL.cons | apply BL.ap)); done)) rfl rfl ?_) | refine k_if rfl (fun _ => ?_) (fun _ => ?_))
      · have h1 := numI_hi (n := m) (by omega)
        (refine k_rd (_, l ++ [u8 (m % 128 + 128)], m / 128) ?_ ?_ (by repeat' constructor) rfl (by (dsimp only; simp only [u8s_snoc, List.length_append, List.length_cons, List.length_nil, Nat.zero_add]; repeat (first | exact List.nil_sublist _ | apply List.Sublist.cons_cons))))
        · refine ⟨?_, ?_, ?_, ?_⟩ <;> dsimp only
          · omega
          · omega
          · rw [← hI.2.2.1, h1, Int.add_comm]; simp
          · have := numI_len3 (n := n) (by omega)
            rw [← hI.2.2.1, h1] at this
            simp at this ⊢; omega
        · dsimp only; omega
      · refine k_rr (vs := [_, _]) rfl ⟨rfl, rfl, trivial⟩ rfl (List.nil_sublist _) ⟨rfl, rfl, ?_⟩
        rw [oneOf_two, numPut, if_pos (by omega), ← hI.2.2.1, numI_lo (by omega) hI.1]
theorem c_numText {n : Int} (h : 0 ≤ n ∧ n ≤ 999999) : PuG Tryz.prog 33 [I n] G (· = S (numI n)) := by
  have e : numPut n = Tu [S (numI n), Bo true] := by rw [numPut, if_pos h]
  have cx_NumPut : PuG Tryz.prog 54 [I n] G (· = Tu [S (numI n), Bo true]) := by rw [← e]; exact c_NumPutI
  refine p_enter [(0, _)] Tryz.func33 (by kernel_rfl) Tryz.ntmps33 rfl rfl (by repeat' constructor) fun B hB => ?_
  repeat' (first | (refine run (t := tb) 400 rfl trivial ?_) | (refine k_op rfl ?_; (refine c_rt rfl rfl rfl cx_NumPut rfl ?_)))
  refine k_rr (vs := [_]) rfl ⟨rfl, trivial⟩ rfl (List.nil_sublist _) ⟨rfl, rfl, ?_⟩
  rfl
theorem c_sized {s : List UInt8} (h : s.length ≤ 999999) : PuG Tryz.prog 53 [S s] G (· = S (numI s.length ++ s)) := by
  have := numI_len3 (n := s.length) (by omega)
  refine p_enter [(0, _)] Tryz.func53 (by kernel_rfl) Tryz.ntmps53 rfl rfl (by repeat' constructor) fun B hB => ?_
  repeat' (first | (refine run (t := tb) 400 rfl ?_ ?_; (focus (repeat' (first | exact trivial | apply And.intro | omega)))) | (refine k_op rfl ?_; (refine c_rt rfl rfl rfl (c_numText (by omega)) rfl ?_)))
  refine k_rr (vs := [_]) rfl ⟨rfl, trivial⟩ rfl (List.nil_sublist _) ⟨rfl, rfl, ?_⟩
  rfl
theorem c_sum {s : List UInt8} (h : s.length ≤ 9000000000000000000) : PuG Tryz.prog 29 [S s] G (· = I (sumB s)) := by
  refine p_enter [(0, _)] Tryz.func29 (by kernel_rfl) Tryz.ntmps29 rfl rfl (by repeat' constructor) fun B hB => ?_
  repeat' (refine run (t := tb) 400 rfl trivial ?_)
  refine k_loop (ι := Nat × Int) (fun i => i.1 ≤ s.length ∧ 0 ≤ i.2 ∧ i.2 < 9973 ∧ sumF i.2 (s.drop i.1) = sumB s) (fun i => [(0, S s), (3, I i.2), (6, I s.length), (7, I i.1)]) (fun _ => G) (fun i => []) (fun i => s.length - i.1) (0, 1) ?_ (by repeat' constructor) rfl sRr (fun i hI => ?_)
  · dsimp only; refine ⟨?_, ?_, ?_, ?_⟩ <;> first | omega | rfl
  · obtain ⟨i, m⟩ := i
    dsimp only at hI ⊢
    have := bt_lt s i
    repeat' (first | (refine run (t := tb) 400 rfl ?_ ?_; (focus (repeat' (first | exact trivial | apply And.intro | omega | (simp only [List.length_append, List.length_cons, List.length_nil, Int.toNat_natCast]; omega))))) | refine k_if rfl (fun _ => ?_) (fun _ => ?_))
    · obtain ⟨c, h1, h2⟩ := drop_bt (l := s) (i := i) (by omega)
      refine k_rd (i + 1, (m * 31 + bt s i) % 9973) ?_ ?_ (by repeat' constructor) rfl sRr
      · refine ⟨?_, ?_, ?_, ?_⟩ <;> dsimp only
        · omega
        · omega
        · omega
        · rw [← hI.2.2.2, h1, h2]; rfl
      · dsimp only; omega
    · refine k_rr (vs := [_]) rfl ⟨rfl, trivial⟩ rfl (List.nil_sublist _) ⟨rfl, rfl, ?_⟩
      have : i = s.length := by omega
      rw [oneOf_one, ← hI.2.2.2, this, List.drop_length]; rfl
theorem c_l9Sum {s : List UInt8} (h : s.length ≤ 9000000000000000000) : PuG Tryz.prog 27 [S s] G (· = I (sumB s)) := by
  refine p_enter [(0, _)] Tryz.func27 (by kernel_rfl) Tryz.ntmps27 rfl rfl (by repeat' constructor) fun B hB => ?_
  repeat' (refine run (t := tb) 400 rfl trivial ?_)
  refine k_loop (ι := Nat × Int) (fun i => i.1 ≤ s.length ∧ 0 ≤ i.2 ∧ i.2 < 9973 ∧ sumF i.2 (s.drop i.1) = sumB s) (fun i => [(0, S s), (3, I i.2), (4, I i.1)]) (fun _ => G) (fun i => []) (fun i => s.length - i.1) (0, 1) ?_ (by repeat' constructor) rfl sRr (fun i hI => ?_)
  · dsimp only; refine ⟨?_, ?_, ?_, ?_⟩ <;> first | omega | rfl
  · obtain ⟨i, m⟩ := i
    dsimp only at hI ⊢
    have := bt_lt s i
    repeat' (first | (refine run (t := tb) 400 rfl ?_ ?_; (focus (repeat' (first | exact trivial | apply And.intro | omega | (simp only [List.length_append, List.length_cons, List.length_nil, Int.toNat_natCast]; omega))))) | refine k_if rfl (fun _ => ?_) (fun _ => ?_))
    · obtain ⟨c, h1, h2⟩ := drop_bt (l := s) (i := i) (by omega)
      refine k_rd (i + 1, (31 * m + bt s i) % 9973) ?_ ?_ (by repeat' constructor) rfl sRr
      · refine ⟨?_, ?_, ?_, ?_⟩ <;> dsimp only
        · omega
        · omega
        · omega
        · rw [← hI.2.2.2, h1, h2, Int.mul_comm]; rfl
      · dsimp only; omega
    · refine k_rr (vs := [_]) rfl ⟨rfl, trivial⟩ rfl (List.nil_sublist _) ⟨rfl, rfl, ?_⟩
      have : i = s.length := by omega
      rw [oneOf_one, ← hI.2.2.2, this, List.drop_length]; rfl
theorem c_FramePutI {s : List UInt8} (h : s.length ≤ 9000000000000000000) : PuG Tryz.prog 32 [S s] G (· = Tu [S (fpS s), Bo (fpB s)]) := by
  have h1 := sumB_range s
  have h2 := sumB_len s
  have h3 : s.length ≤ 100 → (numI s.length).length ≤ 3 := fun h => numI_len3 (by omega)
  refine p_enter [(0, _)] Tryz.func32 (by kernel_rfl) Tryz.ntmps32 rfl rfl (by repeat' constructor) fun B hB => ?_
  repeat' (first | (refine run (t := tb) 400 rfl ?_ ?_; (focus (repeat' (first | exact trivial | apply And.intro | (simp only [List.length_append, List.length_cons, List.length_nil, Int.toNat_natCast]; omega))))) | (refine k_op rfl ?_; first | (refine c_rt rfl rfl rfl (c_sized (by omega)) rfl ?_) | (refine c_rt rfl rfl rfl (c_sum ‹_›) rfl ?_) | (refine c_rt rfl rfl rfl (c_numText (by omega)) rfl ?_)) | refine k_if rfl (fun _ => ?_) (fun _ => ?_))
  · refine k_rr (vs := [_, _]) rfl ⟨rfl, rfl, trivial⟩ rfl (List.nil_sublist _) ⟨rfl, rfl, ?_⟩
    exact fp_no (by omega)
  · refine k_rr (vs := [_, _]) rfl ⟨rfl, rfl, trivial⟩ rfl (List.nil_sublist _) ⟨rfl, rfl, ?_⟩
    rw [oneOf_two, ← fp_yes (by omega)]
    simp [frame]
    rfl
theorem c_l9Frame {s : List UInt8} (h : s.length ≤ 999999) : PuG Tryz.prog 52 [S s] G (· = S (frame s)) := by
  have h1 := sumB_range s
  have h2 := sumB_len s
  have h3 : (numI s.length).length ≤ 3 := numI_len3 (by omega)
  refine p_enter [(0, _)] Tryz.func52 (by kernel_rfl) Tryz.ntmps52 rfl rfl (by repeat' constructor) fun B hB => ?_
  repeat' (first | (refine run (t := tb) 400 rfl trivial ?_) | (refine k_any (s_any (id := 1) _ (fun _ h => h) mixed ?_); refine x_tks (t := tb) (fuel := 9) [2, 3, 6, 8] (bts 13 332) (by kernel_rfl) (by kernel_rfl) rfl rfl (Gh.le.refl _) sRr trivial ?_; refine x_all [0, 4] (by kernel_rfl) (by decide) ⟨?_, ?_, trivial⟩; (focus (refine x_opg rfl rfl ?_; (refine c_bsl rfl rfl rfl rfl rfl rfl fun _ => ?_); refine x_ks gRr (by repeat (exact List.nil_sublist _)) (listed' := (bts 13 333)) (by kernel_rfl) ?_; ((refine (x_tkg (bts 13 335) 1 rfl (by kernel_rfl) rfl (Gh.le.refl _) sRr) (g_bsB rfl rfl (by (repeat (first | exact BL.nil | apply BL.lit rfl)); done)) rfl rfl ?_)); refine x_all [4] (by kernel_rfl) (by decide) ⟨?_, trivial⟩; refine x_opg rfl rfl ?_; ((refine c_rt rfl rfl rfl (c_l1Put ?_) rfl ?_; (focus ((omega); done)))); refine x_ks gRr sRr (listed' := (bts 13 351)) (by kernel_rfl) ?_; refine x_tks (t := tb) (fuel := 4) [5, 7] (bts 13 511) (by kernel_rfl) (by kernel_rfl) rfl rfl (Gh.le.refl _) sRr ?_ ?_; (focus (repeat' (first | exact trivial | apply And.intro | (simp only [List.length_append, List.length_cons, List.length_nil, Int.toNat_natCast]; omega)))); refine x_all [9] (by kernel_rfl) (by decide) ⟨?_, trivial⟩; refine x_opg rfl rfl ?_; ((refine c_rt rfl rfl rfl (c_l9Sum ?_) rfl ?_; (focus ((omega); done)))); refine x_ks gRr sRr (listed' := (bts 13 1023)) (by kernel_rfl) ?_; refine x_all [10] (by kernel_rfl) (by decide) ⟨?_, trivial⟩; refine x_opg rfl rfl ?_; ((refine c_rt rfl rfl rfl (c_l1Put ?_) rfl ?_; (focus ((omega); done)))); refine x_ks gRr sRr (listed' := (bts 13 2047)) (by kernel_rfl) ?_; refine x_tks (t := tb) (fuel := 0) [11, 12] (bts 13 8191) (by kernel_rfl) (by kernel_rfl) rfl rfl (Gh.le.refl _) sRr ?_ ?_; (focus (repeat' (first | exact trivial | apply And.intro | (simp only [List.length_append, List.length_cons, List.length_nil, Int.toNat_natCast]; omega)))); refine x_done (by kernel_rfl) (k_bk ?_))); rotate_left 1; (focus (refine x_opg rfl rfl ?_; ((refine c_rt rfl rfl rfl (c_l1Put ?_) rfl ?_; (focus ((omega); done)))); refine x_ks gRr sRr (listed' := (bts 13 348)) (by kernel_rfl) ?_; refine x_all [0, 9] (by kernel_rfl) (by decide) ⟨?_, ?_, trivial⟩; (focus (refine x_opg rfl rfl ?_; (refine c_bsl rfl rfl rfl rfl rfl rfl fun _ => ?_); refine x_ks gRr (by repeat (exact List.nil_sublist _)) (listed' := (bts 13 349)) (by kernel_rfl) ?_; ((refine (x_tkg (bts 13 351) 1 rfl (by kernel_rfl) rfl (Gh.le.refl _) sRr) (g_bsB rfl rfl (by (repeat (first | exact BL.nil | apply BL.lit rfl)); done)) rfl rfl ?_)); refine x_tks (t := tb) (fuel := 4) [5, 7] (bts 13 511) (by kernel_rfl) (by kernel_rfl) rfl rfl (Gh.le.refl _) sRr ?_ ?_; (focus (repeat' (first | exact trivial | apply And.intro | (simp only [List.length_append, List.length_cons, List.length_nil, Int.toNat_natCast]; omega)))); refine x_all [9] (by kernel_rfl) (by decide) ⟨?_, trivial⟩; refine x_opg rfl rfl ?_; ((refine c_rt rfl rfl rfl (c_l9Sum ?_) rfl ?_; (focus ((omega); done)))); refine x_ks gRr sRr (listed' := (bts 13 1023)) (by kernel_rfl) ?_; refine x_all [10] (by kernel_rfl) (by decide) ⟨?_, trivial⟩; refine x_opg rfl rfl ?_; ((refine c_rt rfl rfl rfl (c_l1Put ?_) rfl ?_; (focus ((omega); done)))); refine x_ks gRr sRr (listed' := (bts 13 2047)) (by kernel_rfl) ?_; refine x_tks (t := tb) (fuel := 0) [11, 12] (bts 13 8191) (by kernel_rfl) (by kernel_rfl) rfl rfl (Gh.le.refl _) sRr ?_ ?_; (focus (repeat' (first | exact trivial | apply And.intro | (simp only [List.length_append, List.length_cons, List.length_nil, Int.toNat_natCast]; omega)))); refine x_done (by kernel_rfl) (k_bk ?_))); rotate_left 1; (focus (refine x_opg rfl rfl ?_; ((refine c_rt rfl rfl rfl (c_l9Sum ?_) rfl ?_; (focus ((omega); done)))); refine x_ks gRr sRr (listed' := (bts 13 860)) (by kernel_rfl) ?_; refine x_all [0, 10] (by kernel_rfl) (by decide) ⟨?_, ?_, trivial⟩; (focus (refine x_opg rfl rfl ?_; (refine c_bsl rfl rfl rfl rfl rfl rfl fun _ => ?_); refine x_ks gRr (by repeat (exact List.nil_sublist _)) (listed' := (bts 13 861)) (by kernel_rfl) ?_; ((refine (x_tkg (bts 13 863) 1 rfl (by kernel_rfl) rfl (Gh.le.refl _) sRr) (g_bsB rfl rfl (by (repeat (first | exact BL.nil | apply BL.lit rfl)); done)) rfl rfl ?_)); refine x_tks (t := tb) (fuel := 3) [5, 7] (bts 13 1023) (by kernel_rfl) (by kernel_rfl) rfl rfl (Gh.le.refl _) sRr ?_ ?_; (focus (repeat' (first | exact trivial | apply And.intro | (simp only [List.length_append, List.length_cons, List.length_nil, Int.toNat_natCast]; omega)))); refine x_all [10] (by kernel_rfl) (by decide) ⟨?_, trivial⟩; refine x_opg rfl rfl ?_; ((refine c_rt rfl rfl rfl (c_l1Put ?_) rfl ?_; (focus ((omega); done)))); refine x_ks gRr sRr (listed' := (bts 13 2047)) (by kernel_rfl) ?_; refine x_tks (t := tb) (fuel := 0) [11, 12] (bts 13 8191) (by kernel_rfl) (by kernel_rfl) rfl rfl (Gh.le.refl _) sRr ?_ ?_; (focus (repeat' (first | exact trivial | apply And.intro | (simp only [List.length_append, List.length_cons, List.length_nil, Int.toNat_natCast]; omega)))); refine x_done (by kernel_rfl) (k_bk ?_))); rotate_left 1; (focus (refine x_opg rfl rfl ?_; ((refine c_rt rfl rfl rfl (c_l1Put ?_) rfl ?_; (focus ((omega); done)))); refine x_ks gRr sRr (listed' := (bts 13 1884)) (by kernel_rfl) ?_; refine x_all [0] (by kernel_rfl) (by decide) ⟨?_, trivial⟩; refine x_opg rfl rfl ?_; (refine c_bsl rfl rfl rfl rfl rfl rfl fun _ => ?_); refine x_ks gRr (by repeat (exact List.nil_sublist _)) (listed' := (bts 13 1885)) (by kernel_rfl) ?_; ((refine (x_tkg (bts 13 1887) 1 rfl (by kernel_rfl) rfl (Gh.le.refl _) sRr) (g_bsB rfl rfl (by (repeat (first | exact BL.nil | apply BL.lit rfl)); done)) rfl rfl ?_)); refine x_tks (t := tb) (fuel := 0) [5, 7, 11, 12] (bts 13 8191) (by kernel_rfl) (by kernel_rfl) rfl rfl (Gh.le.refl _) sRr ?_ ?_; (focus (repeat' (first | exact trivial | apply And.intro | (simp only [List.length_append, List.length_cons, List.length_nil, Int.toNat_natCast]; omega)))); refine x_done (by kernel_rfl) (k_bk ?_))); rotate_left 1)); rotate_left 2)); rotate_left 3))
  all_goals refine k_rr (vs := [_]) rfl ⟨rfl, trivial⟩ rfl (List.nil_sublist _) ⟨rfl, rfl, ?_⟩
  all_goals (rw [oneOf_one]; simp [frame])
theorem c_FramePutS {s : List UInt8} (h : s.length ≤ 9000000000000000000) : PuG Tryz.prog 30 [S s] G (· = Tu [S (fpS s), Bo (fpB s)]) := by
  refine p_enter [(0, _)] Tryz.func30 (by kernel_rfl) Tryz.ntmps30 rfl rfl (by repeat' constructor) fun B hB => ?_
  repeat' (first | (refine run (t := tb) 400 rfl trivial ?_) | (refine k_op rfl ?_; (refine c_rt rfl rfl rfl (c_l9Frame (by omega)) rfl ?_)) | refine k_if rfl (fun _ => ?_) (fun _ => ?_))
  · refine k_rr (vs := [_, _]) rfl ⟨rfl, rfl, trivial⟩ rfl (List.nil_sublist _) ⟨rfl, rfl, ?_⟩
    exact fp_no (by omega)
  · refine k_rr (vs := [_, _]) rfl ⟨rfl, rfl, trivial⟩ rfl (List.nil_sublist _) ⟨rfl, rfl, ?_⟩
    exact fp_yes (by omega)
end Go.E
namespace Go.E
set_option maxRecDepth 20000
set_option maxHeartbeats 2000000
open Go.Proofs
variable {G : Gh}
theorem c_wstr0 {b : Nat} {l : List UInt8} (hm : 0 < l.length ∧ l.length ≤ 1000000000) : FnG Tryz.prog 40 [Pt b 0, S l] G [.blk b (.cells (List.toArray [.pointer none, nilS]) tBld (0, 0))]
    (fun r L' => ∃ b2 c2, r = Tu [I l.length, .nilIface] ∧ L' = [.acc (.slice (some ⟨b2, 0, none⟩) l.length (c2 + 1)) tByt 1 l.length (u8s l), .blk b (.cells (List.toArray [Pt b 0, .slice (some ⟨b2, 0, none⟩) l.length (c2 + 1)]) tBld (0, 0))]) := by
  refine g_enter [(0, _), (1, _)] Tryz.func40 (by kernel_rfl) Tryz.ntmps40 rfl rfl (by repeat' constructor) fun B hB hW => ?_
  repeat' (first | (refine run (t := tb) 400 rfl trivial ?_) | (refine k_op rfl ?_; first | refine v_op (g_ld rfl rfl rfl) rfl rfl ?_ | (refine c_apS0 rfl rfl rfl (by omega) fun _ _ => ?_) | refine c_st1 rfl rfl rfl rfl ?_ | (refine c_m1g rfl rfl rfl c_ccF rfl ?_; rintro _ _ rfl; dsimp only [List.cons_append, List.nil_append])))
  exact k_rr (vs := [_, _]) rfl ⟨rfl, rfl, trivial⟩ rfl (List.Sublist.refl _) ⟨rfl, _, _, rfl, rfl⟩
theorem c_bstr0 {b : Nat} : FnG Tryz.prog 43 [Pt b 0] G [.blk b (.cells (List.toArray [.pointer none, nilS]) tBld (0, 0))] (fun r L' => r = S [] ∧ L' = []) := by
  refine g_enter [(0, _)] Tryz.func43 (by kernel_rfl) Tryz.ntmps43 rfl rfl (by repeat' constructor) fun B hB hW => ?_
  repeat' (first | (refine run (t := tb) 400 rfl trivial ?_) | (refine k_any (s_any (id := 1) _ (fun _ h => h) mixed ?_); refine x_tks (t := tb) (fuel := 6) [0, 1, 2, 5, 6, 7] (bts 12 231) (by kernel_rfl) (by kernel_rfl) rfl rfl (Gh.le.refl _) sRr trivial ?_; ((refine (x_tkg (bts 12 239) 3 rfl (by kernel_rfl) rfl (Gh.le.refl _) sRr) (g_ld rfl rfl rfl) rfl rfl ?_)); ((refine (x_tkg (bts 12 255) 4 rfl (by kernel_rfl) rfl (Gh.le.refl _) sRr) (g_sdat0 rfl) rfl rfl ?_)); ((refine (x_tkg (bts 12 511) 8 rfl (by kernel_rfl) rfl (Gh.le.refl _) sRr) (g_ld rfl rfl rfl) rfl rfl ?_)); ((refine (x_tkg (bts 12 1023) 9 rfl (by kernel_rfl) rfl (Gh.le.refl _) sRr) (g_lenL rfl) rfl rfl ?_)); ((refine (x_tkg (bts 12 2047) 10 rfl (by kernel_rfl) rfl (Gh.le.refl _) sRr) (g_ustr0 rfl rfl) rfl rfl ?_)); refine x_tks (t := tb) (fuel := 0) [11] (bts 12 4095) (by kernel_rfl) (by kernel_rfl) rfl rfl (Gh.le.refl _) sRr trivial ?_; refine x_done (by kernel_rfl) (k_bk ?_)))
  refine k_rr (vs := [_]) rfl ⟨rfl, trivial⟩ rfl (List.nil_sublist _) ⟨rfl, rfl, ?_⟩
  rfl
def bldO (b : Nat) (q : Option (Nat × Nat)) (l : List UInt8) : List Own := match q with
  | none => [.blk b (.cells (List.toArray [.pointer none, nilS]) tBld (0, 0))]
  | some (b2, c2) => [.acc (.slice (some ⟨b2, 0, none⟩) l.length (c2 + 1)) tByt 1 l.length (u8s l), .blk b (.cells (List.toArray [Pt b 0, .slice (some ⟨b2, 0, none⟩) l.length (c2 + 1)]) tBld (0, 0))]
theorem bldO_ap {b b2 c2 : Nat} {l m : List UInt8} {L : List Own} : (Own.acc (.slice (some ⟨b2, 0, none⟩) (l.length + m.length) (c2 + 1)) tByt 1 (l.length + m.length) (u8s l ++ u8s m) :: .blk b (.cells (List.toArray [Pt b 0, .slice (some ⟨b2, 0, none⟩) (l.length + m.length) (c2 + 1)]) tBld (0, 0)) :: L) =
    Own.acc (.slice (some ⟨b2, 0, none⟩) (l ++ m).length (c2 + 1)) tByt 1 (l ++ m).length (u8s (l ++ m)) :: .blk b (.cells (List.toArray [Pt b 0, .slice (some ⟨b2, 0, none⟩) (l ++ m).length (c2 + 1)]) tBld (0, 0)) :: L := by
  simp [u8s]
theorem c_bys_leaf {w : Nat} {x : List UInt8} {t : Int} {a : Option Addr} {k : Nat} (hw : wfW w x t []) (h : w = 110 ∨ w = 116 ∨ w = 102 ∨ w = 69) (hx : x.length ≤ 100000) : PuG Tryz.prog 73 [Ag [U8 (w : Nat), S x, I t, .slice a ([] : List V).length k]] G (· = S (V.nd w x t []).bys) := by
  have hty := wfW_tag hw
  unfold wfW at hw
  rcases h with rfl | rfl | rfl | rfl
  · simp only [Nat.reduceEqDiff, false_and, or_false, true_and] at hw
    obtain ⟨rfl, m, hm0, hm1, hx1, hnum0⟩ := hw
    have cx_pnB := c_plainNumberB (G := G) (s := x) (top := 999999) (by omega)
    refine p_enter [(0, _)] Tryz.func73 (by kernel_rfl) Tryz.ntmps73 rfl rfl (by repeat' constructor) fun B hB => ?_
    repeat' (first | (refine run (t := tb) 400 rfl trivial ?_) | (refine k_op rfl ?_; first | refine c_bx rfl rfl rfl fun _ => ?_ | refine v_op (g_ld rfl rfl rfl) rfl rfl ?_ | (refine c_pu rfl rfl rfl (c_plainNumber (by omega)) rfl ?_; rintro _ ⟨n, rfl, hnum⟩)) | (refine k_tt rfl rfl ?_))
    obtain rfl := hnum _ hnum0
    repeat' (first | (refine run (t := tb) 400 rfl trivial ?_) | (refine k_op rfl ?_; (refine c_rt rfl rfl rfl (c_numText (by omega)) rfl ?_)))
    refine k_rr (vs := [_]) rfl ⟨rfl, trivial⟩ rfl (List.nil_sublist _) ⟨rfl, rfl, ?_⟩
    rw [oneOf_one, V.bys]; simp [bysW, hnum0]
  · refine p_enter [(0, _)] Tryz.func73 (by kernel_rfl) Tryz.ntmps73 rfl rfl (by repeat' constructor) fun B hB => ?_
    repeat' (first | (refine run (t := tb) 400 rfl trivial ?_) | (refine k_op rfl ?_; first | refine c_bx rfl rfl rfl fun _ => ?_ | refine v_op (g_ld rfl rfl rfl) rfl rfl ?_ | (refine c_rt rfl rfl rfl (c_sized (by omega)) rfl ?_)) | (refine k_tt rfl rfl ?_) | (refine k_ff rfl rfl ?_))
    refine k_rr (vs := [_]) rfl ⟨rfl, trivial⟩ rfl (List.nil_sublist _) ⟨rfl, rfl, ?_⟩
    rw [oneOf_one, V.bys]; rfl
  · simp only [Nat.reduceEqDiff, false_and, or_false, true_and, false_or] at hw
    obtain ⟨rfl, rfl | rfl⟩ := hw
    all_goals
      refine p_enter [(0, _)] Tryz.func73 (by kernel_rfl) Tryz.ntmps73 rfl rfl (by repeat' constructor) fun B hB => ?_
      repeat' (first | (refine run (t := tb) 400 rfl trivial ?_) | (refine k_op rfl ?_; first | refine c_bx rfl rfl rfl fun _ => ?_ | refine v_op (g_ld rfl rfl rfl) rfl rfl ?_) | (refine k_tt rfl rfl ?_) | (refine k_ff rfl rfl ?_))
      refine k_rr (vs := [_]) rfl ⟨rfl, trivial⟩ rfl (List.nil_sublist _) ⟨rfl, rfl, ?_⟩
      rw [oneOf_one, V.bys]; rfl
  · have h7 : (numI t).length ≤ 3 := numI_len3 (by omega)
    refine p_enter [(0, _)] Tryz.func73 (by kernel_rfl) Tryz.ntmps73 rfl rfl (by repeat' constructor) fun B hB => ?_
    repeat' (first | (refine run (t := tb) 400 rfl trivial ?_) | (refine k_op rfl ?_; first | refine c_bx rfl rfl rfl fun _ => ?_ | refine v_op (g_ld rfl rfl rfl) rfl rfl ?_ | (refine c_rt rfl rfl rfl (c_numText (by omega)) rfl ?_)) | (refine k_tt rfl rfl ?_) | (refine k_ff rfl rfl ?_))
    refine k_rr (vs := [_]) rfl ⟨rfl, trivial⟩ rfl (List.nil_sublist _) ⟨rfl, rfl, ?_⟩
    rw [oneOf_one, V.bys]; rfl
theorem c_bys_opt0 {a : Option Addr} {k : Nat} : PuG Tryz.prog 73 [Ag [U8 (63 : Nat), S [], I 0, .slice a ([] : List V).length k]] G (· = S (V.nd 63 [] 0 []).bys) := by
  refine p_enter [(0, _)] Tryz.func73 (by kernel_rfl) Tryz.ntmps73 rfl rfl (by repeat' constructor) fun B hB => ?_
  repeat' (first | (refine run (t := tb) 400 rfl trivial ?_) | (refine k_op rfl ?_; first | refine c_bx rfl rfl rfl fun _ => ?_ | refine v_op (g_ld rfl rfl rfl) rfl rfl ?_ | refine v_op (g_lenL rfl) rfl rfl ?_) | (refine k_tt rfl rfl ?_) | (refine k_ff rfl rfl ?_))
  refine k_rr (vs := [_]) rfl ⟨rfl, trivial⟩ rfl (List.nil_sublist _) ⟨rfl, rfl, ?_⟩
  rw [oneOf_one, V.bys]; rfl
theorem c_bys_one {w : Nat} {t : Int} {u : V} {b o k : Nat} {d : VC} (h : w = 63 ∨ w = 85 ∨ w = 61) (ht : 0 ≤ t ∧ t ≤ 200) (cx_bys : PuG Tryz.prog 73 [Ag (vcF d)] G (· = S u.bys)) (hbl : u.bys.length ≤ 100000) (hs : Seg G b o (vcF d)) :
    PuG Tryz.prog 73 [Ag [U8 (w : Nat), S [], I t, .slice (some ⟨b, o, none⟩) 1 k]] G (· = S (V.nd w [] t [u]).bys) := by
  have hn3 := numI_len3 (n := t) (by omega)
  have hn4 := numI_len3 (n := (u.bys.length : Nat)) (by omega)
  have e1 : (V.nd w [] t [u]).bys = bysW w [] t 1 u.bys := by rw [V.bys]; simp [V.byss]
  rw [e1]
  rcases h with rfl | rfl | rfl
  all_goals
    refine p_enter [(0, _)] Tryz.func73 (by kernel_rfl) Tryz.ntmps73 rfl rfl (by repeat' constructor) fun B hB => ?_
    repeat' (first | (refine run (t := tb) 400 rfl ?_ ?_; (focus (repeat' (first | exact trivial | apply And.intro | (simp only [List.length_append, List.length_cons, List.length_nil, Int.toNat_natCast]; omega))))) | (refine k_op rfl ?_; first | refine c_bx rfl rfl rfl fun _ => ?_ | refine v_op (g_ld rfl rfl rfl) rfl rfl ?_ | refine v_op (g_ldSA rfl rfl (by assumption) rfl rfl rfl) rfl rfl ?_ | refine v_op (g_lenL rfl) rfl rfl ?_ | (refine v_op (g_iaddr rfl rfl (by omega)) rfl rfl ?_) | (refine c_rt rfl rfl rfl cx_bys rfl ?_)) | (refine k_tt rfl rfl ?_) | (refine k_ff rfl rfl ?_) | (refine k_any (s_any (id := 28) _ (fun _ h => h) mixed ?_); refine x_tks (t := tb) (fuel := 9) [0, 3] (bts 11 9) (by kernel_rfl) (by kernel_rfl) rfl rfl (Gh.le.refl _) sRr trivial ?_; ((refine (x_tkg (bts 11 11) 1 rfl (by kernel_rfl) rfl (Gh.le.refl _) sRr) (g_ld rfl rfl rfl) rfl rfl ?_)); ((refine (x_tkg (bts 11 27) 4 rfl (by kernel_rfl) rfl (Gh.le.refl _) sRr) (g_ld rfl rfl rfl) rfl rfl ?_)); ((refine (x_tkg (bts 11 59) 5 rfl (by kernel_rfl) rfl (Gh.le.refl _) sRr) (g_iaddr rfl rfl (by omega)) rfl rfl ?_)); ((refine (x_tkg (bts 11 123) 6 rfl (by kernel_rfl) rfl (Gh.le.refl _) sRr) (g_ldSA rfl rfl (by assumption) rfl rfl rfl) rfl rfl ?_)); refine x_all [2] (by kernel_rfl) (by decide) ⟨?_, trivial⟩; refine x_opg rfl rfl ?_; ((refine c_rt rfl rfl rfl (c_numText (by omega)) rfl ?_)); refine x_ks gRr sRr (listed' := (bts 11 127)) (by kernel_rfl) ?_; refine x_all [7] (by kernel_rfl) (by decide) ⟨?_, trivial⟩; refine x_opg rfl rfl ?_; (refine c_rt rfl rfl rfl cx_bys rfl ?_); refine x_ks gRr sRr (listed' := (bts 11 255)) (by kernel_rfl) ?_; refine x_all [8] (by kernel_rfl) (by decide) ⟨?_, trivial⟩; refine x_opg rfl rfl ?_; ((refine c_rt rfl rfl rfl (c_sized (by omega)) rfl ?_)); refine x_ks gRr sRr (listed' := (bts 11 511)) (by kernel_rfl) ?_; refine x_tks (t := tb) (fuel := 0) [9, 10] (bts 11 2047) (by kernel_rfl) (by kernel_rfl) rfl rfl (Gh.le.refl _) sRr ?_ ?_; (focus (repeat' (first | exact trivial | apply And.intro | (simp only [List.length_append, List.length_cons, List.length_nil, Int.toNat_natCast]; omega)))); refine x_done (by kernel_rfl) (k_bk ?_)))
    refine k_rr (vs := [_]) rfl ⟨rfl, trivial⟩ rfl (List.nil_sublist _) ⟨rfl, rfl, ?_⟩
    rw [oneOf_one]; rfl
theorem c_bys_lst {ks : List V} {cs : List VC} {a : Option Addr} {k : Nat} (hk : ks.length ≤ 100000) (hcl : cs.length = ks.length) (hsl : SlV G (.slice a ks.length k) 4 cs.length (rows vcF cs)) (hfl : (V.byss ks).flatten.length ≤ 100000)
    (ih : ∀ i, i < ks.length → PuG Tryz.prog 73 [Ag (vcF (nth cs i))] G (· = S (nth ks i).bys) ∧ (nth ks i).bys.length ≤ 100000) :
    PuG Tryz.prog 73 [Ag [U8 (91 : Nat), S [], I 0, .slice a ks.length k]] G (· = S (V.nd 91 [] 0 ks).bys) := by
  have hkp := numI_pos ks.length
  have hk3 := numI_len3 (n := ks.length) (by omega)
  have hnp : 0 < (numI ks.length).length ∧ (numI ks.length).length ≤ 1000000000 := by omega
  refine p_enter [(0, _)] Tryz.func73 (by kernel_rfl) Tryz.ntmps73 rfl rfl (by repeat' constructor) fun B hB => ?_
  repeat' (first | (refine run (t := tb) 400 rfl trivial ?_) | (refine k_op rfl ?_; first | refine c_bx rfl rfl rfl fun _ => ?_ | refine v_op (g_ld rfl rfl rfl) rfl rfl ?_ | refine c_al rfl rfl fun _ => ?_ | refine v_op (g_lenL rfl) rfl rfl ?_ | (refine c_rt rfl rfl rfl (c_numText (by omega)) rfl ?_) | (refine c_m1g rfl rfl rfl (c_wstr0 (by omega)) rfl ?_; rintro _ _ ⟨b3, c3, rfl, rfl⟩; dsimp only [List.cons_append, List.nil_append])) | (refine k_tt rfl rfl ?_) | (refine k_ff rfl rfl ?_))
  rename_i bv bb
  refine k_loop (ι := Nat × Nat × Nat × List UInt8) (fun q => q.1 ≤ ks.length ∧ q.2.2.2 = numI (ks.length : Nat) ++ ((V.byss ks).take q.1).flatten) (fun q => [(5, Pt bb 0), (41, .slice a ks.length k), (42, I ks.length), (43, I q.1)]) (fun _ => G) (fun q => [.acc (.slice (some ⟨q.2.1, 0, none⟩) q.2.2.2.length (q.2.2.1 + 1)) tByt 1 q.2.2.2.length (u8s q.2.2.2), .blk bb (.cells (List.toArray [Pt bb 0, .slice (some ⟨q.2.1, 0, none⟩) q.2.2.2.length (q.2.2.1 + 1)]) tBld (0, 0)), .blk bv (.cells (List.toArray [U8 (91 : Nat), S [], I 0, .slice a ks.length k]) tVal (0, 0))]) (fun q => ks.length - q.1) (0, b3, c3, numI (ks.length : Nat)) ?_ (by repeat' constructor) rfl sRr (fun q Hq => ?_)
  · exact ⟨Nat.zero_le _, by simp⟩
  obtain ⟨i, b2, c2, l⟩ := q
  dsimp only at Hq ⊢
  obtain ⟨hi0, hl⟩ := Hq
  have hj1 := flat_take ks i
  have hll : l.length ≤ 200000 := by rw [hl, List.length_append]; omega
  by_cases hi : i < ks.length
  · obtain ⟨cx_bys, hbl⟩ := ih i hi
    obtain ⟨bf, of, cf, e, hs⟩ := hsl.expl (by omega)
    simp only [Value.slice.injEq] at e
    obtain ⟨rfl, -, rfl⟩ := e
    have hm9 : l.length + (nth ks i).bys.length ≤ 1000000000 := by omega
    repeat' (first | (refine run (t := tb) 400 rfl ?_ ?_; (focus (repeat' (first | exact trivial | apply And.intro | omega)))) | (refine k_op rfl ?_; first | (refine v_op (g_ldR rfl rfl (by assumption) ?_) rfl rfl ?_; (focus ((omega); done))) | refine v_op (g_ldA rfl rfl rfl rfl) rfl rfl ?_ | refine c_al rfl rfl fun _ => ?_ | (refine v_op (g_iaddrN rfl rfl (by omega)) rfl rfl ?_) | refine c_stA rfl rfl rfl rfl rfl rfl ?_ | (refine c_m2g rfl rfl rfl (c_wstr (by (repeat (assumption)); done)) rfl ?_; rintro _ _ ⟨b3, c3, rfl, rfl⟩; dsimp only [List.cons_append, List.nil_append]) | (refine c_rt rfl rfl rfl cx_bys rfl ?_)) | (refine k_tt rfl (dTt (by omega)) ?_))
    rw [bldO_ap]
    exact k_rd (i + 1, _, _, l ++ (nth ks i).bys) ⟨by dsimp only; omega, by dsimp only; rw [hl, flat_snoc hi, List.append_assoc]⟩ (by dsimp only; omega) (by repeat' constructor) rfl (by repeat (first | exact List.Sublist.refl _ | apply List.Sublist.cons_cons | apply List.Sublist.cons))
  · have hin : i = ks.length := by omega
    subst hin
    rw [← byss_len, List.take_length] at hl
    repeat' (first | (refine run (t := tb) 400 rfl trivial ?_) | (refine k_op rfl ?_; (refine c_m2g rfl rfl rfl (c_bstr (by omega)) rfl ?_; rintro _ _ ⟨rfl, rfl⟩; dsimp only [List.cons_append, List.nil_append])) | (refine k_ff rfl (dFf (by omega)) ?_))
    refine k_rr (vs := [_]) rfl ⟨rfl, trivial⟩ rfl (List.nil_sublist _) ⟨rfl, rfl, ?_⟩
    rw [oneOf_one, V.bys, hl, byss_len]; rfl
theorem c_bys_rec {ks : List V} {cs : List VC} {a : Option Addr} {k : Nat} (hk : ks.length ≤ 100000) (hcl : cs.length = ks.length) (hsl : SlV G (.slice a ks.length k) 4 cs.length (rows vcF cs)) (hfl : (V.byss ks).flatten.length ≤ 100000)
    (ih : ∀ i, i < ks.length → PuG Tryz.prog 73 [Ag (vcF (nth cs i))] G (· = S (nth ks i).bys) ∧ 0 < (nth ks i).bys.length ∧ (nth ks i).bys.length ≤ 100000) :
    PuG Tryz.prog 73 [Ag [U8 (82 : Nat), S [], I 0, .slice a ks.length k]] G (· = S (V.nd 82 [] 0 ks).bys) := by
  refine p_enter [(0, _)] Tryz.func73 (by kernel_rfl) Tryz.ntmps73 rfl rfl (by repeat' constructor) fun B hB => ?_
  repeat' (first | (refine run (t := tb) 400 rfl trivial ?_) | (refine k_op rfl ?_; first | refine c_bx rfl rfl rfl fun _ => ?_ | refine v_op (g_ld rfl rfl rfl) rfl rfl ?_ | refine c_al rfl rfl fun _ => ?_ | refine v_op (g_lenL rfl) rfl rfl ?_) | (refine k_ff rfl rfl ?_))
  rename_i bv bb
  refine k_loop (ι := Nat × Option (Nat × Nat) × List UInt8) (fun q => q.1 ≤ ks.length ∧ q.2.2 = ((V.byss ks).take q.1).flatten ∧ (q.2.1 = none → q.2.2 = [])) (fun q => [(8, Pt bb 0), (83, .slice a ks.length k), (84, I ks.length), (85, I q.1)]) (fun _ => G) (fun q => bldO bb q.2.1 q.2.2 ++ [.blk bv (.cells (List.toArray [U8 (82 : Nat), S [], I 0, .slice a ks.length k]) tVal (0, 0))]) (fun q => ks.length - q.1) (0, none, []) ?_ (by repeat' constructor) rfl (by dsimp only [bldO]; repeat (exact List.Sublist.refl _)) (fun q Hq => ?_)
  · exact ⟨Nat.zero_le _, by simp, fun _ => rfl⟩
  obtain ⟨i, q, l⟩ := q
  dsimp only at Hq ⊢
  obtain ⟨hi0, hl, hl0⟩ := Hq
  have hj1 := flat_take ks i
  have hll : l.length ≤ 200000 := by rw [hl]; omega
  by_cases hi : i < ks.length
  · obtain ⟨cx_bys, hbl⟩ := ih i hi
    obtain ⟨bf, of, cf, e, hs⟩ := hsl.expl (by omega)
    simp only [Value.slice.injEq] at e
    obtain ⟨rfl, -, rfl⟩ := e
    have hm9 : l.length + (nth ks i).bys.length ≤ 1000000000 := by omega
    have hbl0 : 0 < (nth ks i).bys.length ∧ (nth ks i).bys.length ≤ 1000000000 := by omega
    have hfn := flat_snoc hi
    rw [← hl] at hfn
    cases q with
    | none =>
      obtain rfl := hl0 rfl
      simp only [bldO, List.cons_append, List.nil_append]
      repeat' (first | (refine run (t := tb) 400 rfl ?_ ?_; (focus (repeat' (first | exact trivial | apply And.intro | omega)))) | (refine k_op rfl ?_; first | (refine v_op (g_ldR rfl rfl (by assumption) ?_) rfl rfl ?_; (focus ((omega); done))) | refine v_op (g_ldA rfl rfl rfl rfl) rfl rfl ?_ | refine c_al rfl rfl fun _ => ?_ | (refine v_op (g_iaddrN rfl rfl (by omega)) rfl rfl ?_) | refine c_stA rfl rfl rfl rfl rfl rfl ?_ | (refine c_m1g rfl rfl rfl (c_wstr0 (by omega)) rfl ?_; rintro _ _ ⟨b3, c3, rfl, rfl⟩; dsimp only [List.cons_append, List.nil_append]) | (refine c_rt rfl rfl rfl cx_bys rfl ?_)) | (refine k_tt rfl (dTt (by omega)) ?_))
      exact k_rd (i + 1, some (_, _), (nth ks i).bys) ⟨by dsimp only; omega, by dsimp only; rw [hfn]; rfl, fun h => (by cases h)⟩ (by dsimp only; omega) (by repeat' constructor) rfl (by dsimp only [bldO]; repeat (first | exact List.Sublist.refl _ | apply List.Sublist.cons_cons | apply List.Sublist.cons))
    | some q =>
      obtain ⟨b2, c2⟩ := q
      simp only [bldO, List.cons_append, List.nil_append]
      repeat' (first | (refine run (t := tb) 400 rfl ?_ ?_; (focus (repeat' (first | exact trivial | apply And.intro | omega)))) | (refine k_op rfl ?_; first | (refine v_op (g_ldR rfl rfl (by assumption) ?_) rfl rfl ?_; (focus ((omega); done))) | refine v_op (g_ldA rfl rfl rfl rfl) rfl rfl ?_ | refine c_al rfl rfl fun _ => ?_ | (refine v_op (g_iaddrN rfl rfl (by omega)) rfl rfl ?_) | refine c_stA rfl rfl rfl rfl rfl rfl ?_ | (refine c_m2g rfl rfl rfl (c_wstr (by (repeat (assumption)); done)) rfl ?_; rintro _ _ ⟨b3, c3, rfl, rfl⟩; dsimp only [List.cons_append, List.nil_append]) | (refine c_rt rfl rfl rfl cx_bys rfl ?_)) | (refine k_tt rfl (dTt (by omega)) ?_))
      rw [bldO_ap]
      exact k_rd (i + 1, some (_, _), l ++ (nth ks i).bys) ⟨by dsimp only; omega, by dsimp only; rw [hfn], fun h => (by cases h)⟩ (by dsimp only; omega) (by repeat' constructor) rfl (by dsimp only [bldO]; repeat (first | exact List.Sublist.refl _ | apply List.Sublist.cons_cons | apply List.Sublist.cons))
  · have hin : i = ks.length := by omega
    subst hin
    rw [← byss_len, List.take_length] at hl
    have e2 : (V.nd 82 [] 0 ks).bys = l ++ [0] := by rw [V.bys, hl]; rfl
    rw [e2]
    cases q with
    | none =>
      obtain rfl := hl0 rfl
      simp only [bldO, List.cons_append, List.nil_append]
      repeat' (first | (refine run (t := tb) 400 rfl ?_ ?_; (focus (repeat' (first | exact trivial | apply And.intro | (simp only [List.length_append, List.length_cons, List.length_nil, Int.toNat_natCast]; omega))))) | (refine k_op rfl ?_; (refine c_m1g rfl rfl rfl c_bstr0 rfl ?_; rintro _ _ ⟨rfl, rfl⟩; dsimp only [List.cons_append, List.nil_append])) | (refine k_ff rfl (dFf (by omega)) ?_))
      refine k_rr (vs := [_]) rfl ⟨rfl, trivial⟩ rfl (List.nil_sublist _) ⟨rfl, rfl, ?_⟩
      rw [oneOf_one]; rfl
    | some q =>
      obtain ⟨b2, c2⟩ := q
      simp only [bldO, List.cons_append, List.nil_append]
      repeat' (first | (refine run (t := tb) 400 rfl ?_ ?_; (focus (repeat' (first | exact trivial | apply And.intro | (simp only [List.length_append, List.length_cons, List.length_nil, Int.toNat_natCast]; omega))))) | (refine k_op rfl ?_; (refine c_m2g rfl rfl rfl (c_bstr (by omega)) rfl ?_; rintro _ _ ⟨rfl, rfl⟩; dsimp only [List.cons_append, List.nil_append])) | (refine k_ff rfl (dFf (by omega)) ?_))
      refine k_rr (vs := [_]) rfl ⟨rfl, trivial⟩ rfl (List.nil_sublist _) ⟨rfl, rfl, ?_⟩
      rw [oneOf_one]
theorem c_bys : ∀ (n : Nat) {v : V} {c : VC}, v.tot ≤ n → v.tot ≤ 100000 → v.wf → V.rep G v c → PuG Tryz.prog 73 [Ag (vcF c)] G (· = S v.bys) := by
  intro n
  induction n with
  | zero => intro v c h1 _ _ _; have := tot_pos v; omega
  | succ n ih =>
    intro v c h1 h2 hwf h
    obtain ⟨w, x, t, ks⟩ := v
    rw [V.wf] at hwf
    obtain ⟨hwf, hwk⟩ := hwf
    have hty := wfW_tag hwf
    rw [nd_tot] at h1 h2
    obtain ⟨a, k, cs, rfl, hw, ht, h61, hcl, hsl, hks⟩ := rep_inv h
    have hkl := tots_len ks
    have hfl := byss_flat ks hwk (by omega)
    have hK : ∀ i, i < ks.length → PuG Tryz.prog 73 [Ag (vcF (nth cs i))] G (· = S (nth ks i).bys) ∧ 0 < (nth ks i).bys.length ∧ (nth ks i).bys.length ≤ 100000 := fun i hi => by
      have hti := tot_nth hi
      have hwi := wf_nth hwk hi
      have hbl := bys_len _ hwi (by omega)
      exact ⟨ih (by omega) (by omega) hwi (reps_nth hks i hi), by omega, by omega⟩
    have h1K : ks.length = 1 → (w = 63 ∨ w = 85 ∨ w = 61) → x = [] → PuG Tryz.prog 73 [Ag (vcF ⟨w, x, t, a, ks.length, k⟩)] G (· = S (V.nd w x t ks).bys) := fun hk1 hw3 hx => by
      obtain ⟨hk0, _, hk0l⟩ := hK 0 (by omega)
      obtain ⟨bf, of, cf, e, hs⟩ := hsl.expl (by omega)
      simp only [Value.slice.injEq] at e
      obtain ⟨rfl, -, rfl⟩ := e
      obtain ⟨u, rfl⟩ := List.length_eq_one_iff.1 hk1
      obtain ⟨d, rfl⟩ := List.length_eq_one_iff.1 (show cs.length = 1 by rw [hcl]; rfl)
      subst hx
      exact c_bys_one hw3 hty hk0 hk0l hs
    rcases hwf with h7 | h7 | h7 | ⟨rfl, rfl, rfl, hk20, hk61⟩ | ⟨rfl, rfl, rfl, hk1, hk61⟩ | h7 | ⟨rfl, rfl, _, _, hk1, _⟩ | ⟨rfl, rfl, _, _, hk1, _⟩ | ⟨rfl, rfl, rfl, hpw, hka⟩
    · obtain ⟨rfl, rfl, h8⟩ := h7
      exact c_bys_leaf (.inl ⟨rfl, rfl, h8⟩) (.inl rfl) (by dsimp only; omega)
    · obtain ⟨rfl, rfl, h8⟩ := h7
      exact c_bys_leaf (.inr (.inl ⟨rfl, rfl, h8⟩)) (.inr (.inl rfl)) (by dsimp only; omega)
    · obtain ⟨rfl, rfl, h8⟩ := h7
      exact c_bys_leaf (.inr (.inr (.inl ⟨rfl, rfl, h8⟩))) (.inr (.inr (.inl rfl))) (by dsimp only; omega)
    · exact c_bys_lst (by omega) hcl hsl (by omega) fun i hi => ⟨(hK i hi).1, (hK i hi).2.2⟩
    · by_cases hk0 : ks.length = 0
      · obtain rfl := List.eq_nil_of_length_eq_zero hk0
        exact c_bys_opt0
      · exact h1K (by omega) (.inl rfl) rfl
    · obtain ⟨rfl, rfl, h8, h9, rfl⟩ := h7
      exact c_bys_leaf (.inr (.inr (.inr (.inr (.inr (.inl ⟨rfl, rfl, h8, h9, rfl⟩)))))) (.inr (.inr (.inr rfl))) (by simp)
    · exact h1K hk1 (.inr (.inl rfl)) rfl
    · exact h1K hk1 (.inr (.inr rfl)) rfl
    · exact c_bys_rec (by omega) hcl hsl (by omega) fun i hi => ⟨(hK i hi).1, (hK i hi).2.1, (hK i hi).2.2⟩
end Go.E
namespace Go.E
set_option maxRecDepth 20000
set_option maxHeartbeats 2000000
open Go.Proofs
variable {G : Gh}
theorem c_l5Len {s : List UInt8} (h : s.length ≤ 999999) : PuG Tryz.prog 72 [S s] G (· = S (numI s.length ++ s)) := by
  have hl := numI_len3 (n := s.length) (by omega)
  refine p_enter [(0, _)] Tryz.func72 (by kernel_rfl) Tryz.ntmps72 rfl rfl (by repeat' constructor) fun B hB => ?_
  repeat' (first | (refine run (t := tb) 400 rfl ?_ ?_; (focus (repeat' (first | exact trivial | apply And.intro | omega)))) | (refine k_op rfl ?_; (refine c_rt rfl rfl rfl (c_l1Put (by omega)) rfl ?_)))
  refine k_rr (vs := [_]) rfl ⟨rfl, trivial⟩ rfl (List.nil_sublist _) ⟨rfl, rfl, ?_⟩
  rfl
theorem wf_num {x : List UInt8} {t : Int} {ks : List V} (h : V.wf (.nd 110 x t ks)) : ∃ m : Int, 0 ≤ m ∧ m ≤ 999999 ∧ numOf x 999999 = some m := by
  rw [V.wf] at h
  have h1 := h.1
  unfold wfW at h1
  simp only [Nat.reduceEqDiff, false_and, or_false, true_and] at h1
  obtain ⟨_, _, m, h2, h3, _, h4⟩ := h1
  exact ⟨m, h2, h3, h4⟩
theorem wf_kids {w : Nat} {x : List UInt8} {t : Int} {ks : List V} (h : V.wf (.nd w x t ks)) : V.wfs ks := by rw [V.wf] at h; exact h.2
theorem slv_one {b : Nat} {v : Value} (h : Seg G b 0 [v]) : SlV G (.slice (some ⟨b, 0, none⟩) 1 1) 1 1 [v] := ⟨rfl, .inr ⟨b, 0, 1, rfl, Nat.le_refl _, h⟩⟩
theorem c_bysT {r tx : List UInt8} {b : Nat} {tg : List Int} {bs : List Nat} {KS : List V} {a a2 : Option Addr} {c c2 m : Nat} (hm : m = KS.length) (hm9 : m ≤ 100000) (htx : tx = [82] ∨ tx = [85]) (h2 : Seg G b 0 [S (64 :: r), S tx, .slice a m c, .slice a2 m c2])
    (h3 : SlV G (.slice a m c) 1 m (rows inR tg)) (h4 : SlV G (.slice a2 m c2) 1 m (rows ptR bs)) (htl : tg.length = m) (hbl : bs.length = m) (hfl : (V.byss KS).flatten.length ≤ 100000)
    (hk : ∀ i, i < m → ∃ u, nth KS i = V.nd 61 [] (nth tg i) [u] ∧ PuG Tryz.prog 49 [Pt (nth bs i) 0] G (· = S u.bys) ∧ u.bys.length ≤ 100000 ∧ 0 ≤ nth tg i ∧ nth tg i ≤ 999999) :
    PuG Tryz.prog 49 [Pt b 0] G (· = S ((V.byss KS).flatten ++ if tx = [82] then [0] else [])) := by
  refine p_enter [(0, _)] Tryz.func49 (by kernel_rfl) Tryz.ntmps49 rfl rfl (by repeat' constructor) fun B hB => ?_
  repeat' (first | (refine run (t := tb) 400 rfl ?_ ?_; (focus (repeat' (first | exact trivial | apply And.intro | omega | (simp only [List.length_append, List.length_cons, List.length_nil, Int.toNat_natCast]; omega))))) | (refine k_op rfl ?_; (refine v_op (g_ldS rfl rfl (by assumption) rfl rfl) rfl rfl ?_)) | (refine k_ff rfl rfl ?_))
  refine k_loop (ι := Nat) (fun i => i ≤ m) (fun i => [(0, Pt b 0), (7, S (((V.byss KS).take i).flatten)), (8, I i)]) (fun _ => G) (fun i => []) (fun i => m - i) 0 ?_ (by repeat' constructor) rfl sRr (fun i Hi => ?_)
  · exact Nat.zero_le _
  have hj1 := flat_take KS i
  by_cases hi : i < m
  · obtain ⟨u, hu1, cx_bys, hu2, hu3⟩ := hk i hi
    have hn3 := numI_len3 hu3.2
    have hn4 := numI_len3 (n := (u.bys.length : Nat)) (by omega)
    have hfn := flat_snoc (ks := KS) (i := i) (by omega)
    have hub : (V.nd 61 [] (nth tg i) [u]).bys = numI (nth tg i) ++ (numI u.bys.length ++ u.bys) := by rw [V.bys]; simp [V.byss, bysW]
    rw [hu1, hub] at hfn
    have hxt : nth tg i = nth tg i := rfl
    have hxi : nth bs i = nth bs i := rfl
    obtain ⟨tgb, to, tc, e, hs1⟩ := h3.expl (by omega)
    simp only [Value.slice.injEq] at e
    obtain ⟨rfl, -, rfl⟩ := e
    obtain ⟨kb, ko, kc, e, hs2⟩ := h4.expl (by omega)
    simp only [Value.slice.injEq] at e
    obtain ⟨rfl, -, rfl⟩ := e
    repeat' (first | (refine run (t := tb) 400 rfl ?_ ?_; (focus (repeat' (first | exact trivial | apply And.intro | omega | (simp only [List.length_append, List.length_cons, List.length_nil, Int.toNat_natCast]; omega))))) | (refine k_op rfl ?_; first | refine v_op (g_ldS rfl rfl (by assumption) rfl rfl) rfl rfl ?_ | (refine v_op (g_ldR1x rfl rfl (by assumption) ?_ (by assumption) rfl) rfl rfl ?_; (focus ((omega); done))) | refine v_op (g_lenL rfl) rfl rfl ?_ | (refine v_op (g_iaddrN rfl rfl (by omega)) rfl rfl ?_) | (refine c_rt rfl rfl rfl (c_l1Put (by omega)) rfl ?_) | (refine c_rt rfl rfl rfl (c_l5Len (by omega)) rfl ?_) | (refine c_rt rfl rfl rfl cx_bys rfl ?_)) | (refine k_tt rfl (dTt (by omega)) ?_))
    refine Nx.re (d := 7) (v' := S (((V.byss KS).take (i + 1)).flatten)) rfl (congrArg (fun l => S l) ?_) ?_
    · rw [hfn]; simp
    exact k_rd (i + 1) (by omega) (by omega) (by repeat' constructor) rfl sRr
  · have hin : i = KS.length := by omega
    subst hin
    have hfe : (V.byss KS).take KS.length = V.byss KS := by rw [← byss_len, List.take_length]
    rw [hfe]
    rcases htx with rfl | rfl
    all_goals
      repeat' (first | (refine run (t := tb) 400 rfl ?_ ?_; (focus (repeat' (first | exact trivial | apply And.intro | (simp only [List.length_append, List.length_cons, List.length_nil, Int.toNat_natCast]; omega))))) | (refine k_op rfl ?_; first | refine v_op (g_ldS rfl rfl (by assumption) rfl rfl) rfl rfl ?_ | refine c_bsl rfl rfl rfl rfl rfl rfl fun _ => ?_ | refine v_op (g_bsB rfl rfl (by (repeat (first | exact BL.nil | apply BL.lit rfl)); done)) rfl rfl ?_ | refine v_op (g_lenL rfl) rfl rfl ?_) | (refine k_tt rfl rfl ?_) | (refine k_ff rfl (by first | rfl | (refine decide_eq_false ?_; (omega))) ?_))
      refine k_rr (vs := [_]) rfl ⟨rfl, trivial⟩ rfl (List.nil_sublist _) ⟨rfl, rfl, ?_⟩
      rw [oneOf_one]; first | rfl | (simp; done)
theorem c_bysS {ts : List Ty} (hw : SchW ts) {v : V} {k : List UInt8} {b : Nat} (h : RepR G ts v k b) : v.wf → v.tot ≤ 100000 → PuG Tryz.prog 49 [Pt b 0] G (· = S v.bys) := by
  induction h with
  | leaf w x k tx b h1 h2 =>
    intro hwf ht
    rw [nd_tot] at ht
    rcases h2 with ⟨rfl, rfl, rfl, _⟩ | ⟨rfl, rfl, rfl⟩ | ⟨rfl, rfl, rfl, rfl | rfl⟩
    · obtain ⟨m, hm0, hm1, hnum0⟩ := wf_num hwf
      refine p_enter [(0, _)] Tryz.func49 (by kernel_rfl) Tryz.ntmps49 rfl rfl (by repeat' constructor) fun B hB => ?_
      repeat' (first | (refine run (t := tb) 400 rfl ?_ ?_; (focus (repeat' (first | exact trivial | apply And.intro | omega | (simp only [List.length_append, List.length_cons, List.length_nil, Int.toNat_natCast]; omega))))) | (refine k_op rfl ?_; first | refine v_op (g_ldS rfl rfl (by assumption) rfl rfl) rfl rfl ?_ | (refine c_pu rfl rfl rfl (c_l3Num (by omega)) rfl ?_; rintro _ ⟨n, rfl, hnum⟩)) | (refine k_tt rfl rfl ?_))
      obtain rfl := hnum _ hnum0
      repeat' (first | (refine run (t := tb) 400 rfl trivial ?_) | (refine k_op rfl ?_; (refine c_rt rfl rfl rfl (c_l1Put (by omega)) rfl ?_)))
      refine k_rr (vs := [_]) rfl ⟨rfl, trivial⟩ rfl (List.nil_sublist _) ⟨rfl, rfl, ?_⟩
      rw [oneOf_one, V.bys]; simp [bysW, hnum0]
    · have htl : (39 :: (x ++ [39])).length = x.length + 2 := by simp
      have hdt : ∀ n : Nat, n = x.length → ((39 :: (x ++ [39])).take (1 + n)).drop 1 = x := fun n hn => by rw [hn, Nat.add_comm, List.take_succ_cons, List.drop_succ_cons, List.drop_zero, List.take_left]
      generalize 39 :: (x ++ [39]) = tx at *
      refine p_enter [(0, _)] Tryz.func49 (by kernel_rfl) Tryz.ntmps49 rfl rfl (by repeat' constructor) fun B hB => ?_
      repeat' (first | (refine run (t := tb) 400 rfl ?_ ?_; (focus (repeat' (first | exact trivial | apply And.intro | omega | (simp only [List.length_append, List.length_cons, List.length_nil, Int.toNat_natCast]; omega))))) | (refine k_op rfl ?_; (refine v_op (g_ldS rfl rfl (by assumption) rfl rfl) rfl rfl ?_)) | (refine k_tt rfl rfl ?_) | (refine k_ff rfl rfl ?_) | (refine k_any (s_any (id := 6) _ (fun _ h => h) mixed ?_); refine x_tks (t := tb) (fuel := 7) [0, 1, 2, 4, 5, 6] (bts 13 119) (by kernel_rfl) (by kernel_rfl) rfl rfl (Gh.le.refl _) sRr trivial ?_; ((refine (x_tkg (bts 13 127) 3 rfl (by kernel_rfl) rfl (Gh.le.refl _) sRr) (g_ldS rfl rfl (by assumption) rfl rfl) rfl rfl ?_)); ((refine (x_tkg (bts 13 255) 7 rfl (by kernel_rfl) rfl (Gh.le.refl _) sRr) (g_ldS rfl rfl (by assumption) rfl rfl) rfl rfl ?_)); refine x_tks (t := tb) (fuel := 2) [8, 9, 10] (bts 13 2047) (by kernel_rfl) (by kernel_rfl) rfl rfl (Gh.le.refl _) sRr ?_ ?_; (focus (repeat' (first | exact trivial | apply And.intro | omega))); refine x_all [11] (by kernel_rfl) (by decide) ⟨?_, trivial⟩; refine x_opg rfl rfl ?_; ((refine c_rt rfl rfl rfl (c_l5Len ?_) rfl ?_; (focus ((simp; omega); done)))); refine x_ks gRr sRr (listed' := (bts 13 4095)) (by kernel_rfl) ?_; refine x_tks (t := tb) (fuel := 0) [12] (bts 13 8191) (by kernel_rfl) (by kernel_rfl) rfl rfl (Gh.le.refl _) sRr trivial ?_; refine x_done (by kernel_rfl) (k_bk ?_)))
      refine k_rr (vs := [_]) rfl ⟨rfl, trivial⟩ rfl (List.nil_sublist _) ⟨rfl, rfl, ?_⟩
      have e3 : (tx.take (((tx.length : Nat) : Int) - 1).toNat).drop (Int.toNat 1) = x := by
        rw [show (((tx.length : Nat) : Int) - 1).toNat = 1 + x.length by omega]; exact hdt _ rfl
      rw [oneOf_one, e3, V.bys]; rfl
    · refine p_enter [(0, _)] Tryz.func49 (by kernel_rfl) Tryz.ntmps49 rfl rfl (by repeat' constructor) fun B hB => ?_
      repeat' (first | (refine run (t := tb) 400 rfl ?_ ?_; (focus (repeat' (first | exact trivial | apply And.intro | omega | (simp only [List.length_append, List.length_cons, List.length_nil, Int.toNat_natCast]; omega))))) | (refine k_op rfl ?_; first | refine v_op (g_ldS rfl rfl (by assumption) rfl rfl) rfl rfl ?_ | refine c_bsl rfl rfl rfl rfl rfl rfl fun _ => ?_ | refine v_op (g_bsB rfl rfl (by (repeat (first | exact BL.nil | apply BL.cons)); done)) rfl rfl ?_) | (refine k_tt rfl rfl ?_) | (refine k_ff rfl rfl ?_))
      refine k_rr (vs := [_]) rfl ⟨rfl, trivial⟩ rfl (List.nil_sublist _) ⟨rfl, rfl, ?_⟩
      rw [oneOf_one, V.bys]; rfl
    · refine p_enter [(0, _)] Tryz.func49 (by kernel_rfl) Tryz.ntmps49 rfl rfl (by repeat' constructor) fun B hB => ?_
      repeat' (first | (refine run (t := tb) 400 rfl ?_ ?_; (focus (repeat' (first | exact trivial | apply And.intro | omega | (simp only [List.length_append, List.length_cons, List.length_nil, Int.toNat_natCast]; omega))))) | (refine k_op rfl ?_; first | refine v_op (g_ldS rfl rfl (by assumption) rfl rfl) rfl rfl ?_ | refine c_bsl rfl rfl rfl rfl rfl rfl fun _ => ?_ | refine v_op (g_bsB rfl rfl (by (repeat (first | exact BL.nil | apply BL.cons)); done)) rfl rfl ?_) | (refine k_tt rfl rfl ?_) | (refine k_ff rfl rfl ?_))
      refine k_rr (vs := [_]) rfl ⟨rfl, trivial⟩ rfl (List.nil_sublist _) ⟨rfl, rfl, ?_⟩
      rw [oneOf_one, V.bys]; rfl
  | lst k b ks bs a c h1 h2 h3 hk ih =>
    intro hwf ht
    rw [nd_tot] at ht
    have hwk := wf_kids hwf
    have hkl := tots_len ks
    have hk3 := numI_len3 (n := ks.length) (by omega)
    have hfl := byss_flat ks hwk (by omega)
    refine p_enter [(0, _)] Tryz.func49 (by kernel_rfl) Tryz.ntmps49 rfl rfl (by repeat' constructor) fun B hB => ?_
    repeat' (first | (refine run (t := tb) 400 rfl ?_ ?_; (focus (repeat' (first | exact trivial | apply And.intro | omega | (simp only [List.length_append, List.length_cons, List.length_nil, Int.toNat_natCast]; omega))))) | (refine k_op rfl ?_; first | refine v_op (g_ldS rfl rfl (by assumption) rfl rfl) rfl rfl ?_ | refine v_op (g_lenL rfl) rfl rfl ?_ | (refine c_rt rfl rfl rfl (c_l1Put (by omega)) rfl ?_)) | (refine k_tt rfl rfl ?_) | (refine k_ff rfl rfl ?_))
    refine Nx.re (d := 5) (v' := S (numI ks.length ++ ((V.byss ks).take 0).flatten)) rfl (congrArg (fun l => S l) (by simp)) ?_
    refine k_loop (ι := Nat) (fun i => i ≤ ks.length) (fun i => [(0, Pt b 0), (5, S (numI ks.length ++ ((V.byss ks).take i).flatten)), (6, I i)]) (fun _ => G) (fun i => []) (fun i => ks.length - i) 0 ?_ (by repeat' constructor) rfl sRr (fun i Hi => ?_)
    · exact Nat.zero_le _
    have hj1 := flat_take ks i
    by_cases hi : i < ks.length
    · have hti := tot_nth hi
      have hwi := wf_nth hwk hi
      have cx_bys := ih i hi hwi (by omega)
      have hbl := bys_len _ hwi (by omega)
      have hxi : nth bs i = nth bs i := rfl
      obtain ⟨kb, ko, kc, e, hs⟩ := h2.expl (by omega)
      simp only [Value.slice.injEq] at e
      obtain ⟨rfl, -, rfl⟩ := e
      repeat' (first | (refine run (t := tb) 400 rfl ?_ ?_; (focus (repeat' (first | exact trivial | apply And.intro | omega | (simp only [List.length_append, List.length_cons, List.length_nil, Int.toNat_natCast]; omega))))) | (refine k_op rfl ?_; first | refine v_op (g_ldS rfl rfl (by assumption) rfl rfl) rfl rfl ?_ | (refine v_op (g_ldR1x rfl rfl (by assumption) ?_ (by assumption) rfl) rfl rfl ?_; (focus ((omega); done))) | refine v_op (g_lenL rfl) rfl rfl ?_ | (refine v_op (g_iaddrN rfl rfl (by omega)) rfl rfl ?_) | (refine c_rt rfl rfl rfl cx_bys rfl ?_)) | (refine k_tt rfl (dTt (by omega)) ?_))
      refine Nx.re (d := 5) (v' := S (numI ks.length ++ ((V.byss ks).take (i + 1)).flatten)) rfl (congrArg (fun l => S l) (by rw [flat_snoc hi]; simp)) ?_
      exact k_rd (i + 1) (by omega) (by omega) (by repeat' constructor) rfl sRr
    · have hin : i = ks.length := by omega
      subst hin
      repeat' (first | (refine run (t := tb) 400 rfl trivial ?_) | (refine k_op rfl ?_; first | refine v_op (g_ldS rfl rfl (by assumption) rfl rfl) rfl rfl ?_ | refine v_op (g_lenL rfl) rfl rfl ?_) | (refine k_ff rfl (dFf (by omega)) ?_))
      refine k_rr (vs := [_]) rfl ⟨rfl, trivial⟩ rfl (List.nil_sublist _) ⟨rfl, rfl, ?_⟩
      rw [oneOf_one, V.bys, ← byss_len, List.take_length]; rfl
  | non k b h1 =>
    intro _ _
    refine p_enter [(0, _)] Tryz.func49 (by kernel_rfl) Tryz.ntmps49 rfl rfl (by repeat' constructor) fun B hB => ?_
    repeat' (first | (refine run (t := tb) 400 rfl ?_ ?_; (focus (repeat' (first | exact trivial | apply And.intro | omega | (simp only [List.length_append, List.length_cons, List.length_nil, Int.toNat_natCast]; omega))))) | (refine k_op rfl ?_; first | refine v_op (g_ldS rfl rfl (by assumption) rfl rfl) rfl rfl ?_ | refine c_bsl rfl rfl rfl rfl rfl rfl fun _ => ?_ | refine v_op (g_bsB rfl rfl (by (repeat (first | exact BL.nil | apply BL.lit rfl)); done)) rfl rfl ?_ | refine v_op (g_lenL rfl) rfl rfl ?_) | (refine k_tt rfl rfl ?_) | (refine k_ff rfl rfl ?_))
    refine k_rr (vs := [_]) rfl ⟨rfl, trivial⟩ rfl (List.nil_sublist _) ⟨rfl, rfl, ?_⟩
    rfl
  | opt k b kb b' v h1 h2 h3 ih =>
    intro hwf ht
    simp only [nd_tot, V.tots] at ht
    have hwv := (wf_kids hwf).1
    have cx_bys := ih hwv (by omega)
    have hbl := bys_len _ hwv (by omega)
    refine p_enter [(0, _)] Tryz.func49 (by kernel_rfl) Tryz.ntmps49 rfl rfl (by repeat' constructor) fun B hB => ?_
    repeat' (first | (refine run (t := tb) 400 rfl ?_ ?_; (focus (repeat' (first | exact trivial | apply And.intro | omega | (simp only [List.length_append, List.length_cons, List.length_nil, Int.toNat_natCast]; omega))))) | (refine k_op rfl ?_; first | refine v_op (g_ldS rfl rfl (by assumption) rfl rfl) rfl rfl ?_ | refine v_op (g_lenL rfl) rfl rfl ?_) | (refine k_tt rfl rfl ?_) | (refine k_ff rfl rfl ?_) | (refine k_any (s_any (id := 19) _ (fun _ h => h) mixed ?_); refine x_tks (t := tb) (fuel := 8) [2, 3, 4] (bts 11 28) (by kernel_rfl) (by kernel_rfl) rfl rfl (Gh.le.refl _) sRr trivial ?_; ((refine (x_tkg (bts 11 60) 5 rfl (by kernel_rfl) rfl (Gh.le.refl _) sRr) (g_ldS rfl rfl (by assumption) rfl rfl) rfl rfl ?_)); ((refine (x_tkg (bts 11 124) 6 rfl (by kernel_rfl) rfl (Gh.le.refl _) sRr) (g_iaddr rfl rfl (by omega)) rfl rfl ?_)); ((refine (x_tkg (bts 11 252) 7 rfl (by kernel_rfl) rfl (Gh.le.refl _) sRr) (g_ldS rfl rfl (by assumption) rfl rfl) rfl rfl ?_)); refine x_all [0, 8] (by kernel_rfl) (by decide) ⟨?_, ?_, trivial⟩; (focus (refine x_opg rfl rfl ?_; (refine c_bsl rfl rfl rfl rfl rfl rfl fun _ => ?_); refine x_ks gRr (by repeat (exact List.nil_sublist _)) (listed' := (bts 11 253)) (by kernel_rfl) ?_; ((refine (x_tkg (bts 11 255) 1 rfl (by kernel_rfl) rfl (Gh.le.refl _) sRr) (g_bsB rfl rfl (by (repeat (first | exact BL.nil | apply BL.lit rfl)); done)) rfl rfl ?_)); refine x_all [8] (by kernel_rfl) (by decide) ⟨?_, trivial⟩; refine x_opg rfl rfl ?_; (refine c_rt rfl rfl rfl cx_bys rfl ?_); refine x_ks gRr sRr (listed' := (bts 11 511)) (by kernel_rfl) ?_; refine x_tks (t := tb) (fuel := 0) [9, 10] (bts 11 2047) (by kernel_rfl) (by kernel_rfl) rfl rfl (Gh.le.refl _) sRr ?_ ?_; (focus (repeat' (first | exact trivial | apply And.intro | (simp only [List.length_append, List.length_cons, List.length_nil, Int.toNat_natCast]; omega)))); refine x_done (by kernel_rfl) (k_bk ?_))); rotate_left 1; (focus (refine x_opg rfl rfl ?_; (refine c_rt rfl rfl rfl cx_bys rfl ?_); refine x_ks gRr sRr (listed' := (bts 11 508)) (by kernel_rfl) ?_; refine x_all [0] (by kernel_rfl) (by decide) ⟨?_, trivial⟩; refine x_opg rfl rfl ?_; (refine c_bsl rfl rfl rfl rfl rfl rfl fun _ => ?_); refine x_ks gRr (by repeat (exact List.nil_sublist _)) (listed' := (bts 11 509)) (by kernel_rfl) ?_; ((refine (x_tkg (bts 11 511) 1 rfl (by kernel_rfl) rfl (Gh.le.refl _) sRr) (g_bsB rfl rfl (by (repeat (first | exact BL.nil | apply BL.lit rfl)); done)) rfl rfl ?_)); refine x_tks (t := tb) (fuel := 0) [9, 10] (bts 11 2047) (by kernel_rfl) (by kernel_rfl) rfl rfl (Gh.le.refl _) sRr ?_ ?_; (focus (repeat' (first | exact trivial | apply And.intro | (simp only [List.length_append, List.length_cons, List.length_nil, Int.toNat_natCast]; omega)))); refine x_done (by kernel_rfl) (k_bk ?_))); rotate_left 1))
    all_goals refine k_rr (vs := [_]) rfl ⟨rfl, trivial⟩ rfl (List.nil_sublist _) ⟨rfl, rfl, ?_⟩
    all_goals (rw [oneOf_one, V.bys]; simp [bysW, V.byss]; rfl)
  | recd k b t fs bs a a2 c c2 h0 h1 h2 h3 h4 h5 hk ih =>
    intro hwf ht
    obtain ⟨r, rfl⟩ := refT_64 h0.1
    rw [nd_tot] at ht
    have hwk := wf_kids hwf
    have hml : (fs.map (fun p : Fld × V => V.nd 61 [] p.1.tag [p.2])).length = fs.length := by simp
    have hnt : ∀ i, i < fs.length → nth (fs.map (fun p : Fld × V => V.nd 61 [] p.1.tag [p.2])) i = V.nd 61 [] (nth fs i).1.tag [(nth fs i).2] := fun i hi => by rw [nth_eq (by simpa using hi), nth_eq hi]; simp
    generalize hKS : fs.map (fun p : Fld × V => V.nd 61 [] p.1.tag [p.2]) = KS at *
    have hfl := byss_flat KS hwk (by omega)
    refine (c_bysT (tx := [82]) (KS := KS) hml.symm (by have := tots_len KS; omega) (.inl rfl) h1 h2 h3 (by simp) h4 (by omega) fun i hi => ?_).mono fun v _ _ hv => ?_
    · have hti := tot_nth (ks := KS) (i := i) (by omega)
      have hwi := wf_nth hwk (i := i) (by omega)
      rw [hnt i hi] at hti hwi
      simp only [nd_tot, V.tots] at hti
      have hwv := (wf_kids hwi).1
      have hbl := bys_len _ hwv (by omega)
      have htn : nth (fs.map fun p : Fld × V => p.1.tag) i = (nth fs i).1.tag := by rw [nth_eq (by simpa using hi), nth_eq hi]; simp
      exact ⟨(nth fs i).2, by rw [hnt i hi, htn], ih i hi hwv (by omega), by omega, by rw [htn]; exact (refT_W hw h0.1 (h5 i hi)).symm⟩
    · obtain ⟨g1, g2, hv⟩ := hv; exact ⟨g1, g2, by rw [hv, V.bys]; rfl⟩
  | enm k b tgb t d h0 h1 h2 h3 =>
    intro _ _
    obtain ⟨r, rfl⟩ := refT_64 h0.1
    have htg := refT_W hw h0.1 h1
    have hn3 := numI_len3 (n := d.tag) (by omega)
    refine p_enter [(0, _)] Tryz.func49 (by kernel_rfl) Tryz.ntmps49 rfl rfl (by repeat' constructor) fun B hB => ?_
    repeat' (first | (refine run (t := tb) 400 rfl ?_ ?_; (focus (repeat' (first | exact trivial | apply And.intro | omega | (simp only [List.length_append, List.length_cons, List.length_nil, Int.toNat_natCast]; omega))))) | (refine k_op rfl ?_; (refine v_op (g_ldS rfl rfl (by assumption) rfl rfl) rfl rfl ?_)) | (refine k_ff rfl rfl ?_))
    refine Nx.re (d := 7) (v' := S ((numI d.tag).take (0 * (numI d.tag).length))) rfl (congrArg (fun l => S l) (by simp)) ?_
    refine k_loop (ι := Nat) (fun i => i ≤ 1) (fun i => [(0, Pt b 0), (7, S ((numI d.tag).take (i * (numI d.tag).length))), (8, I i)]) (fun _ => G) (fun i => []) (fun i => 1 - i) 0 ?_ (by repeat' constructor) rfl sRr (fun i Hi => ?_)
    · exact Nat.zero_le _
    have hi2 : i = 0 ∨ i = 1 := by omega
    rcases hi2 with rfl | rfl
    · rw [Nat.zero_mul, List.take_zero]
      repeat' (first | (refine run (t := tb) 400 rfl ?_ ?_; (focus (repeat' (first | exact trivial | apply And.intro | omega | (simp only [List.length_append, List.length_cons, List.length_nil, Int.toNat_natCast]; omega))))) | (refine k_op rfl ?_; first | refine v_op (g_ldS rfl rfl (by assumption) rfl rfl) rfl rfl ?_ | refine v_op (g_lenL rfl) rfl rfl ?_ | (refine v_op (g_iaddrN rfl rfl (by omega)) rfl rfl ?_) | (refine c_rt rfl rfl rfl (c_l1Put (by omega)) rfl ?_)) | (refine k_tt rfl rfl ?_) | (refine k_ff rfl rfl ?_))
      refine Nx.re (d := 7) (v' := S ((numI d.tag).take (1 * (numI d.tag).length))) rfl (congrArg (fun l => S l) (by simp)) ?_
      exact k_rd 1 (by omega) (by omega) (by repeat' constructor) rfl sRr
    · rw [Nat.one_mul, List.take_length]
      repeat' (first | (refine run (t := tb) 400 rfl trivial ?_) | (refine k_op rfl ?_; first | refine v_op (g_ldS rfl rfl (by assumption) rfl rfl) rfl rfl ?_ | refine v_op (g_lenL rfl) rfl rfl ?_) | (refine k_ff rfl rfl ?_))
      refine k_rr (vs := [_]) rfl ⟨rfl, trivial⟩ rfl (List.nil_sublist _) ⟨rfl, rfl, ?_⟩
      rw [oneOf_one, V.bys]; rfl
  | uni k b tgb kb b' t d v h0 h1 h2 h3 h4 hk ih =>
    intro hwf ht
    obtain ⟨r, rfl⟩ := refT_64 h0.1
    have htg := refT_W hw h0.1 h1
    simp only [nd_tot, V.tots] at ht
    have hwv := (wf_kids hwf).1
    have hbl := bys_len _ hwv (by omega)
    have hn3 := numI_len3 (n := d.tag) (by omega)
    have hn4 := numI_len3 (n := (v.bys.length : Nat)) (by omega)
    have hub : (V.nd 61 [] d.tag [v]).bys = numI d.tag ++ (numI v.bys.length ++ v.bys) := by rw [V.bys]; simp [V.byss, bysW]
    refine (c_bysT (tx := [85]) (KS := [V.nd 61 [] d.tag [v]]) (tg := [d.tag]) (bs := [b']) rfl (by simp) (.inr rfl) h2 (slv_one h3) (slv_one h4) rfl rfl ?_ fun i hi => ?_).mono fun u _ _ hu => ?_
    · simp only [V.byss, List.flatten_cons, List.flatten_nil, List.append_nil, hub, List.length_append]; omega
    · have : i = 0 := by have h9 : i < 1 := hi; omega
      subst this
      exact ⟨v, rfl, ih hwv (by omega), by omega, htg.symm⟩
    · obtain ⟨g1, g2, hu⟩ := hu; exact ⟨g1, g2, by rw [hu, V.bys]; simp [V.byss, bysW, hub]⟩
end Go.E
namespace Go.E
set_option maxRecDepth 20000
set_option maxHeartbeats 2000000
open Go.Proofs
variable {G : Gh}
def bysPut (s k w : List UInt8) : Option (List UInt8) := match givenV s k w with
  | some u => if u.bys.length ≤ 600 then some u.bys else none
  | none => none
theorem bysPut_len {s k w b : List UInt8} (h : bysPut s k w = some b) : b.length ≤ 600 := by
  unfold bysPut at h
  split at h
  · split at h
    · simp only [Option.some.injEq] at h; subst h; assumption
    · cases h
  · cases h
theorem given_some {s k w : List UInt8} {u : V} (hg : givenV s k w = some u) : ∃ ts, schemaOf s = some ts ∧ kindIn ts k = true ∧ valOf ts k w = some u ∧ u.tot ≤ 40000 ∧ u.wf := by
  obtain ⟨ts, hs, hki, hvo⟩ : ∃ ts, schemaOf s = some ts ∧ kindIn ts k = true ∧ valOf ts k w = some u := by
    unfold givenV at hg
    cases hs : schemaOf s with
    | none => rw [hs] at hg; cases hg
    | some ts =>
      rw [hs] at hg
      dsimp only at hg
      by_cases hk : kindIn ts k = true
      · rw [if_pos hk] at hg; exact ⟨ts, rfl, hk, hg⟩
      · rw [if_neg hk] at hg; cases hg
  refine ⟨ts, hs, hki, hvo, ?_, (valOf_wf hvo).1⟩
  unfold valOf at hvo
  split at hvo
  · split at hvo
    · rename_i v hv
      obtain rfl := Option.some.inj hvo
      have := rd_tot _ _ _ _ hv
      dsimp only at this; omega
    · cases hvo
  · cases hvo
theorem c_toBytes {c : VC} {b : List UInt8} (cx_bys : PuG Tryz.prog 73 [Ag (vcF c)] G (· = S b)) : PuG Tryz.prog 50 [Ag (vcF c)] G (· = Tu [S (if b.length ≤ 600 then b else []), Bo (decide (b.length ≤ 600))]) := by
  simp only [vcF, VC.sl] at *
  by_cases h6 : b.length ≤ 600
  · rw [if_pos h6, decide_eq_true h6]
    refine p_enter [(0, _)] Tryz.func50 (by kernel_rfl) Tryz.ntmps50 rfl rfl (by repeat' constructor) fun B hB => ?_
    repeat' (first | (refine run (t := tb) 400 rfl trivial ?_) | (refine k_op rfl ?_; first | refine c_bx rfl rfl rfl fun _ => ?_ | refine v_op (g_ldA rfl rfl rfl rfl) rfl rfl ?_ | (refine c_rt rfl rfl rfl cx_bys rfl ?_)) | (refine k_ff rfl (dFf (by omega)) ?_))
    all_goals refine k_rr (vs := [_, _]) rfl ⟨rfl, rfl, trivial⟩ rfl (List.nil_sublist _) ⟨rfl, rfl, ?_⟩
    all_goals rfl
  · rw [if_neg h6, decide_eq_false h6]
    refine p_enter [(0, _)] Tryz.func50 (by kernel_rfl) Tryz.ntmps50 rfl rfl (by repeat' constructor) fun B hB => ?_
    repeat' (first | (refine run (t := tb) 400 rfl trivial ?_) | (refine k_op rfl ?_; first | refine c_bx rfl rfl rfl fun _ => ?_ | refine v_op (g_ldA rfl rfl rfl rfl) rfl rfl ?_ | (refine c_rt rfl rfl rfl cx_bys rfl ?_)) | (refine k_tt rfl (dTt (by omega)) ?_))
    all_goals refine k_rr (vs := [_, _]) rfl ⟨rfl, rfl, trivial⟩ rfl (List.nil_sublist _) ⟨rfl, rfl, ?_⟩
    all_goals rfl
theorem c_BytesPutI {s k w : List UInt8} (h : s.length ≤ 1048576 ∧ k.length ≤ 1048576 ∧ w.length ≤ 1048576) : PuG Tryz.prog 25 [S s, S k, S w] G (· = Tu [S ((bysPut s k w).getD []), Bo (bysPut s k w).isSome]) := by
  unfold bysPut
  cases hg : givenV s k w with
  | none =>
    have cx_gi0 := c_given0 (G := G) h hg
    refine b_enter (Post := fun v G' L' => G' = G ∧ L' = [] ∧ _) [(0, _), (1, _), (2, _)] Tryz.func25 (by kernel_rfl) Tryz.ntmps25 rfl rfl (by repeat' constructor) fun B hok hB hW => ?_
    repeat' (first | (refine run (t := tb) 400 rfl trivial ?_) | (refine k_op rfl ?_; first | refine c_al rfl rfl fun _ => ?_ | refine c_stA rfl rfl rfl rfl rfl rfl ?_ | (refine c_fns rfl rfl rfl cx_gi0 rfl ?_; rintro _ G hle ⟨p1, a1, b1, c1, rfl⟩; skip)) | (refine k_tt rfl rfl ?_))
    all_goals refine Nx.base hok hB ?_
    all_goals refine k_rr (vs := [_, _]) rfl ⟨rfl, rfl, trivial⟩ rfl (List.nil_sublist _) ⟨rfl, rfl, ?_⟩
    all_goals rfl
  | some u =>
    obtain ⟨ts, hs, hki, hvo, hto, hwf⟩ := given_some hg
    have cx_gi1 := c_given1 (G := G) h hs hki hvo
    dsimp only
    have cy_bys : ∀ {G : Gh} {c : VC}, V.rep G u c → PuG Tryz.prog 73 [Ag (vcF c)] G (· = S u.bys) := fun h => c_bys u.tot (Nat.le_refl _) (by omega) hwf h
    generalize u.bys = ub at *
    by_cases h6 : ub.length ≤ 600
    · rw [if_pos h6]
      refine b_enter (Post := fun v G' L' => G' = G ∧ L' = [] ∧ _) [(0, _), (1, _), (2, _)] Tryz.func25 (by kernel_rfl) Tryz.ntmps25 rfl rfl (by repeat' constructor) fun B hok hB hW => ?_
      repeat' (first | (refine run (t := tb) 400 rfl trivial ?_) | (refine k_op rfl ?_; first | refine c_al rfl rfl fun _ => ?_ | refine c_stA rfl rfl rfl rfl rfl rfl ?_ | refine v_op (g_ldA rfl rfl rfl rfl) rfl rfl ?_ | (refine c_fns rfl rfl rfl cx_gi1 rfl ?_; rintro _ G hle ⟨bg, qg, cv, rfl, hTg, hRg, hrv⟩; skip)) | (refine k_ff rfl rfl ?_))
      have cx_tb := c_toBytes (G := G) (cy_bys hrv)
      rw [if_pos h6, decide_eq_true h6] at cx_tb
      repeat' (first | (refine run (t := tb) 400 rfl trivial ?_) | (refine k_op rfl ?_; (refine c_rt rfl rfl rfl cx_tb rfl ?_)))
      all_goals refine Nx.base hok hB ?_
      all_goals refine k_rr (vs := [_, _]) rfl ⟨rfl, rfl, trivial⟩ rfl (List.nil_sublist _) ⟨rfl, rfl, ?_⟩
      all_goals rfl
    · rw [if_neg h6]
      refine b_enter (Post := fun v G' L' => G' = G ∧ L' = [] ∧ _) [(0, _), (1, _), (2, _)] Tryz.func25 (by kernel_rfl) Tryz.ntmps25 rfl rfl (by repeat' constructor) fun B hok hB hW => ?_
      repeat' (first | (refine run (t := tb) 400 rfl trivial ?_) | (refine k_op rfl ?_; first | refine c_al rfl rfl fun _ => ?_ | refine c_stA rfl rfl rfl rfl rfl rfl ?_ | refine v_op (g_ldA rfl rfl rfl rfl) rfl rfl ?_ | (refine c_fns rfl rfl rfl cx_gi1 rfl ?_; rintro _ G hle ⟨bg, qg, cv, rfl, hTg, hRg, hrv⟩; skip)) | (refine k_ff rfl rfl ?_))
      have cx_tb := c_toBytes (G := G) (cy_bys hrv)
      rw [if_neg h6, decide_eq_false h6] at cx_tb
      repeat' (first | (refine run (t := tb) 400 rfl trivial ?_) | (refine k_op rfl ?_; (refine c_rt rfl rfl rfl cx_tb rfl ?_)))
      all_goals refine Nx.base hok hB ?_
      all_goals refine k_rr (vs := [_, _]) rfl ⟨rfl, rfl, trivial⟩ rfl (List.nil_sublist _) ⟨rfl, rfl, ?_⟩
      all_goals rfl
theorem c_BytesPutS0 {s k w : List UInt8} (h : s.length ≤ 1048576 ∧ k.length ≤ 1048576 ∧ w.length ≤ 1048576) (hg : givenV s k w = none) : PuG Tryz.prog 24 [S s, S k, S w] G (· = Tu [S [], Bo false]) := by
  have cx_l40 := c_l4Of0 (G := G) h hg
  refine b_enter (Post := fun v G' L' => G' = G ∧ L' = [] ∧ _) [(0, _), (1, _), (2, _)] Tryz.func24 (by kernel_rfl) Tryz.ntmps24 rfl rfl (by repeat' constructor) fun B hok hB hW => ?_
  repeat' (first | (refine run (t := tb) 400 rfl trivial ?_) | (refine k_op rfl ?_; first | (refine v_op (g_pickT rfl rfl rfl) rfl rfl ?_) | (refine c_fns rfl rfl rfl cx_l40 rfl ?_; rintro _ G hle ⟨uu, q1, rfl⟩; skip)) | (refine k_gt rfl rfl rfl ?_) | (refine k_tt rfl rfl ?_))
  all_goals refine Nx.base hok hB ?_
  all_goals refine k_rr (vs := [_, _]) rfl ⟨rfl, rfl, trivial⟩ rfl (List.nil_sublist _) ⟨rfl, rfl, ?_⟩
  all_goals rfl
theorem c_BytesPutS1 {s k w : List UInt8} {ub : List UInt8} (cx_l4 : FnS Tryz.prog 18 [S s, S k, S w] G (fun r G' => ∃ u b, r = Tu [u, Pt b 0, Bo true] ∧ PuG Tryz.prog 49 [Pt b 0] G' (· = S ub))) : PuG Tryz.prog 24 [S s, S k, S w] G (· = Tu [S (if ub.length ≤ 600 then ub else []), Bo (decide (ub.length ≤ 600))]) := by
  by_cases h6 : ub.length ≤ 600
  · rw [if_pos h6, decide_eq_true h6]
    refine b_enter (Post := fun v G' L' => G' = G ∧ L' = [] ∧ _) [(0, _), (1, _), (2, _)] Tryz.func24 (by kernel_rfl) Tryz.ntmps24 rfl rfl (by repeat' constructor) fun B hok hB hW => ?_
    repeat' (first | (refine run (t := tb) 400 rfl trivial ?_) | (refine k_op rfl ?_; first | (refine v_op (g_pickF rfl rfl rfl) rfl rfl ?_) | (refine c_fns rfl rfl rfl cx_l4 rfl ?_; rintro _ G hle ⟨uu, q1, rfl, hyes⟩; skip) | (refine c_rt rfl rfl rfl hyes rfl ?_)) | (refine k_gf rfl rfl rfl ?_) | (refine k_ff rfl (dFf (by omega)) ?_))
    all_goals refine Nx.base hok hB ?_
    all_goals refine k_rr (vs := [_, _]) rfl ⟨rfl, rfl, trivial⟩ rfl (List.nil_sublist _) ⟨rfl, rfl, ?_⟩
    all_goals rfl
  · rw [if_neg h6, decide_eq_false h6]
    refine b_enter (Post := fun v G' L' => G' = G ∧ L' = [] ∧ _) [(0, _), (1, _), (2, _)] Tryz.func24 (by kernel_rfl) Tryz.ntmps24 rfl rfl (by repeat' constructor) fun B hok hB hW => ?_
    repeat' (first | (refine run (t := tb) 400 rfl trivial ?_) | (refine k_op rfl ?_; first | (refine v_op (g_pickF rfl rfl rfl) rfl rfl ?_) | (refine c_fns rfl rfl rfl cx_l4 rfl ?_; rintro _ G hle ⟨uu, q1, rfl, hyes⟩; skip) | (refine c_rt rfl rfl rfl hyes rfl ?_)) | (refine k_gf rfl rfl rfl ?_) | (refine k_tt rfl (dTt (by omega)) ?_))
    all_goals refine Nx.base hok hB ?_
    all_goals refine k_rr (vs := [_, _]) rfl ⟨rfl, rfl, trivial⟩ rfl (List.nil_sublist _) ⟨rfl, rfl, ?_⟩
    all_goals rfl
theorem c_BytesPutS {s k w : List UInt8} (h : s.length ≤ 1048576 ∧ k.length ≤ 1048576 ∧ w.length ≤ 1048576) : PuG Tryz.prog 24 [S s, S k, S w] G (· = Tu [S ((bysPut s k w).getD []), Bo (bysPut s k w).isSome]) := by
  unfold bysPut
  cases hg : givenV s k w with
  | none => exact c_BytesPutS0 h hg
  | some u =>
    obtain ⟨ts, hs, hki, hvo, hto, hwf⟩ := given_some hg
    have h1 := c_BytesPutS1 (ub := u.bys) ((c_l4Of1 (G := G) h hs hki hvo).mono (by
      rintro r G' L' ⟨g1, g2, v, b, g3, g4⟩
      exact ⟨g1, g2, v, b, g3, c_bysS (schemaOf_w hs) g4 hwf (by omega)⟩))
    dsimp only
    split
    · rename_i h6; rw [if_pos h6, decide_eq_true h6] at h1; exact h1
    · rename_i h6; rw [if_neg h6, decide_eq_false h6] at h1; exact h1
def sameB (s k w t : List UInt8) : Bool := match bysPut s k w, bysPut s k t with
  | some a, some b => decide (a = b)
  | _, _ => false
theorem c_SealSameI {s k w t : List UInt8} (h1 : s.length ≤ 1048576 ∧ k.length ≤ 1048576 ∧ w.length ≤ 1048576 ∧ t.length ≤ 1048576) : PuG Tryz.prog 13 [S s, S k, S w, S t] G (· = Bo (sameB s k w t)) := by
  have cx_bp1 := c_BytesPutI (G := G) (s := s) (k := k) (w := w) (by omega)
  have cx_bp2 := c_BytesPutI (G := G) (s := s) (k := k) (w := t) (by omega)
  unfold sameB
  cases e1 : bysPut s k w <;> cases e2 : bysPut s k t <;> rw [e1] at cx_bp1 <;> rw [e2] at cx_bp2
  all_goals dsimp only [Option.getD, Option.isSome] at cx_bp1 cx_bp2 ⊢
  all_goals
    refine p_enter [(0, _), (1, _), (2, _), (3, _)] Tryz.func13 (by kernel_rfl) Tryz.ntmps13 rfl rfl (by repeat' constructor) fun B hB => ?_
    repeat' (first | (refine run (t := tb) 400 rfl trivial ?_) | (refine k_op rfl ?_; first | (refine v_op (g_pickT rfl rfl rfl) rfl rfl ?_) | (refine v_op (g_pickF rfl rfl rfl) rfl rfl ?_) | (refine c_rt rfl rfl rfl cx_bp1 rfl ?_) | (refine c_rt rfl rfl rfl cx_bp2 rfl ?_)) | (refine k_gt rfl rfl rfl ?_) | (refine k_gf rfl rfl rfl ?_))
  all_goals refine k_rr (vs := [_]) rfl ⟨rfl, trivial⟩ rfl (List.nil_sublist _) ⟨rfl, rfl, ?_⟩
  all_goals rfl
theorem c_SealSameS {s k w t : List UInt8} (h1 : s.length ≤ 1048576 ∧ k.length ≤ 1048576 ∧ w.length ≤ 1048576 ∧ t.length ≤ 1048576) : PuG Tryz.prog 12 [S s, S k, S w, S t] G (· = Bo (sameB s k w t)) := by
  have cx_bp1 := c_BytesPutS (G := G) (s := s) (k := k) (w := w) (by omega)
  have cx_bp2 := c_BytesPutS (G := G) (s := s) (k := k) (w := t) (by omega)
  unfold sameB
  cases e1 : bysPut s k w <;> cases e2 : bysPut s k t <;> rw [e1] at cx_bp1 <;> rw [e2] at cx_bp2
  all_goals dsimp only [Option.getD, Option.isSome] at cx_bp1 cx_bp2 ⊢
  all_goals
    refine p_enter [(0, _), (1, _), (2, _), (3, _)] Tryz.func12 (by kernel_rfl) Tryz.ntmps12 rfl rfl (by repeat' constructor) fun B hB => ?_
    repeat' (first | (refine run (t := tb) 400 rfl trivial ?_) | (refine k_op rfl ?_; first | (refine v_op (g_pickT rfl rfl rfl) rfl rfl ?_) | (refine v_op (g_pickF rfl rfl rfl) rfl rfl ?_) | (refine c_rt rfl rfl rfl cx_bp1 rfl ?_) | (refine c_rt rfl rfl rfl cx_bp2 rfl ?_)) | (refine k_gt rfl rfl rfl ?_) | (refine k_gf rfl rfl rfl ?_))
  all_goals refine k_rr (vs := [_]) rfl ⟨rfl, trivial⟩ rfl (List.nil_sublist _) ⟨rfl, rfl, ?_⟩
  all_goals rfl
theorem c_keyOkT {x : List UInt8} (h : 1 ≤ x.length ∧ x.length ≤ 20) : PuG Tryz.prog 28 [S x] G (· = Bo true) := by
  refine p_enter [(0, _)] Tryz.func28 (by kernel_rfl) Tryz.ntmps28 rfl rfl (by repeat' constructor) fun B hB => ?_
  repeat' (first | (refine run (t := tb) 400 rfl trivial ?_) | (refine k_op rfl ?_; (refine v_op (g_pickT rfl rfl rfl) rfl rfl ?_)) | (refine k_gt rfl rfl (dTt (by omega)) ?_))
  all_goals refine k_rr (vs := [_]) rfl ⟨rfl, trivial⟩ rfl (List.nil_sublist _) ⟨rfl, rfl, ?_⟩
  all_goals ((exact (oneOf_one _).trans (congrArg Value.bool (decide_eq_true (by omega)))))
theorem c_keyOkF {x : List UInt8} (h : ¬ (1 ≤ x.length ∧ x.length ≤ 20)) : PuG Tryz.prog 28 [S x] G (· = Bo false) := by
  by_cases h1 : 1 ≤ x.length
  all_goals
    refine p_enter [(0, _)] Tryz.func28 (by kernel_rfl) Tryz.ntmps28 rfl rfl (by repeat' constructor) fun B hB => ?_
    repeat' (first | (refine run (t := tb) 400 rfl trivial ?_) | (refine k_op rfl ?_; first | (refine v_op (g_pickT rfl rfl rfl) rfl rfl ?_) | (refine v_op (g_pickF rfl rfl rfl) rfl rfl ?_)) | (refine k_gt rfl rfl (dTt (by omega)) ?_) | (refine k_gf rfl rfl (dFf (by omega)) ?_))
  all_goals refine k_rr (vs := [_]) rfl ⟨rfl, trivial⟩ rfl (List.nil_sublist _) ⟨rfl, rfl, ?_⟩
  all_goals (first | rfl | exact (oneOf_one _).trans (congrArg Value.bool (decide_eq_false (by omega))))
theorem c_l15KeyT {x : List UInt8} (h : 1 ≤ x.length ∧ x.length ≤ 20) : PuG Tryz.prog 26 [S x] G (· = Bo true) := by
  refine p_enter [(0, _)] Tryz.func26 (by kernel_rfl) Tryz.ntmps26 rfl rfl (by repeat' constructor) fun B hB => ?_
  repeat' (first | (refine run (t := tb) 400 rfl trivial ?_) | (refine k_op rfl ?_; (refine c_rt rfl rfl rfl c_l6In rfl ?_)))
  all_goals refine k_rr (vs := [_]) rfl ⟨rfl, trivial⟩ rfl (List.nil_sublist _) ⟨rfl, rfl, ?_⟩
  all_goals (rw [oneOf_one]; congr 1; simp; omega)
theorem c_l15KeyF {x : List UInt8} (h : ¬ (1 ≤ x.length ∧ x.length ≤ 20)) : PuG Tryz.prog 26 [S x] G (· = Bo false) := by
  refine p_enter [(0, _)] Tryz.func26 (by kernel_rfl) Tryz.ntmps26 rfl rfl (by repeat' constructor) fun B hB => ?_
  repeat' (first | (refine run (t := tb) 400 rfl trivial ?_) | (refine k_op rfl ?_; (refine c_rt rfl rfl rfl c_l6In rfl ?_)))
  all_goals refine k_rr (vs := [_]) rfl ⟨rfl, trivial⟩ rfl (List.nil_sublist _) ⟨rfl, rfl, ?_⟩
  all_goals (rw [oneOf_one]; congr 1; simp; omega)
def sealOf (s k w x : List UInt8) : Option Int := match bysPut s k w with
  | some b => if 1 ≤ x.length ∧ x.length ≤ 20 then some (sumB (x ++ b ++ x)) else none
  | none => none
theorem c_SealOfI {s k w x : List UInt8} (h1 : s.length ≤ 1048576 ∧ k.length ≤ 1048576 ∧ w.length ≤ 1048576 ∧ x.length ≤ 1048576) : PuG Tryz.prog 15 [S s, S k, S w, S x] G (· = Tu [I ((sealOf s k w x).getD 0), Bo (sealOf s k w x).isSome]) := by
  have cx_bp1 := c_BytesPutI (G := G) (s := s) (k := k) (w := w) (by omega)
  unfold sealOf
  cases e1 : bysPut s k w with
  | none =>
    rw [e1] at cx_bp1
    dsimp only [Option.getD, Option.isSome] at cx_bp1 ⊢
    refine p_enter [(0, _), (1, _), (2, _), (3, _)] Tryz.func15 (by kernel_rfl) Tryz.ntmps15 rfl rfl (by repeat' constructor) fun B hB => ?_
    repeat' (first | (refine run (t := tb) 400 rfl trivial ?_) | (refine k_op rfl ?_; first | (refine v_op (g_pickT rfl rfl rfl) rfl rfl ?_) | (refine c_rt rfl rfl rfl cx_bp1 rfl ?_)) | (refine k_gt rfl rfl rfl ?_) | (refine k_tt rfl rfl ?_))
    all_goals refine k_rr (vs := [_, _]) rfl ⟨rfl, rfl, trivial⟩ rfl (List.nil_sublist _) ⟨rfl, rfl, ?_⟩
    all_goals rfl
  | some b =>
    have hbl := bysPut_len e1
    rw [e1] at cx_bp1
    dsimp only [Option.getD, Option.isSome] at cx_bp1
    by_cases hx : 1 ≤ x.length ∧ x.length ≤ 20
    · dsimp only
      rw [if_pos hx]
      have hl2 : (x ++ b ++ x).length ≤ 9000000000000000000 := by simp; omega
      refine p_enter [(0, _), (1, _), (2, _), (3, _)] Tryz.func15 (by kernel_rfl) Tryz.ntmps15 rfl rfl (by repeat' constructor) fun B hB => ?_
      repeat' (first | (refine run (t := tb) 400 rfl ?_ ?_; (focus (repeat' (first | exact trivial | apply And.intro | omega | (simp only [List.length_append, List.length_cons, List.length_nil, Int.toNat_natCast]; omega))))) | (refine k_op rfl ?_; first | (refine v_op (g_pickF rfl rfl rfl) rfl rfl ?_) | (refine c_rt rfl rfl rfl cx_bp1 rfl ?_) | (refine c_rt rfl rfl rfl (c_keyOkT (by omega)) rfl ?_) | (refine c_rt rfl rfl rfl (c_sum ‹_›) rfl ?_)) | (refine k_gf rfl rfl rfl ?_) | (refine k_ff rfl rfl ?_))
      all_goals refine k_rr (vs := [_, _]) rfl ⟨rfl, rfl, trivial⟩ rfl (List.nil_sublist _) ⟨rfl, rfl, ?_⟩
      all_goals rfl
    · dsimp only
      rw [if_neg hx]
      refine p_enter [(0, _), (1, _), (2, _), (3, _)] Tryz.func15 (by kernel_rfl) Tryz.ntmps15 rfl rfl (by repeat' constructor) fun B hB => ?_
      repeat' (first | (refine run (t := tb) 400 rfl trivial ?_) | (refine k_op rfl ?_; first | (refine v_op (g_pickF rfl rfl rfl) rfl rfl ?_) | (refine c_rt rfl rfl rfl cx_bp1 rfl ?_) | (refine c_rt rfl rfl rfl (c_keyOkF (by omega)) rfl ?_)) | (refine k_gf rfl rfl rfl ?_) | (refine k_tt rfl rfl ?_))
      all_goals refine k_rr (vs := [_, _]) rfl ⟨rfl, rfl, trivial⟩ rfl (List.nil_sublist _) ⟨rfl, rfl, ?_⟩
      all_goals rfl
theorem c_SealOfS {s k w x : List UInt8} (h1 : s.length ≤ 1048576 ∧ k.length ≤ 1048576 ∧ w.length ≤ 1048576 ∧ x.length ≤ 1048576) : PuG Tryz.prog 14 [S s, S k, S w, S x] G (· = Tu [I ((sealOf s k w x).getD 0), Bo (sealOf s k w x).isSome]) := by
  have cx_bp1 := c_BytesPutS (G := G) (s := s) (k := k) (w := w) (by omega)
  unfold sealOf
  cases e1 : bysPut s k w with
  | none =>
    rw [e1] at cx_bp1
    dsimp only [Option.getD, Option.isSome] at cx_bp1 ⊢
    refine p_enter [(0, _), (1, _), (2, _), (3, _)] Tryz.func14 (by kernel_rfl) Tryz.ntmps14 rfl rfl (by repeat' constructor) fun B hB => ?_
    repeat' (first | (refine run (t := tb) 400 rfl trivial ?_) | (refine k_op rfl ?_; first | (refine v_op (g_pickT rfl rfl rfl) rfl rfl ?_) | (refine c_rt rfl rfl rfl cx_bp1 rfl ?_)) | (refine k_gt rfl rfl rfl ?_) | (refine k_tt rfl rfl ?_))
    all_goals refine k_rr (vs := [_, _]) rfl ⟨rfl, rfl, trivial⟩ rfl (List.nil_sublist _) ⟨rfl, rfl, ?_⟩
    all_goals rfl
  | some b =>
    have hbl := bysPut_len e1
    rw [e1] at cx_bp1
    dsimp only [Option.getD, Option.isSome] at cx_bp1
    by_cases hx : 1 ≤ x.length ∧ x.length ≤ 20
    · dsimp only
      rw [if_pos hx]
      have hl2 : (x ++ b ++ x).length ≤ 9000000000000000000 := by simp; omega
      refine p_enter [(0, _), (1, _), (2, _), (3, _)] Tryz.func14 (by kernel_rfl) Tryz.ntmps14 rfl rfl (by repeat' constructor) fun B hB => ?_
      repeat' (first | (refine run (t := tb) 400 rfl ?_ ?_; (focus (repeat' (first | exact trivial | apply And.intro | omega | (simp only [List.length_append, List.length_cons, List.length_nil, Int.toNat_natCast]; omega))))) | (refine k_op rfl ?_; first | (refine v_op (g_pickF rfl rfl rfl) rfl rfl ?_) | (refine c_rt rfl rfl rfl cx_bp1 rfl ?_) | (refine c_rt rfl rfl rfl (c_l15KeyT (by omega)) rfl ?_) | (refine c_rt rfl rfl rfl (c_l9Sum ‹_›) rfl ?_)) | (refine k_gf rfl rfl rfl ?_) | (refine k_ff rfl rfl ?_))
      all_goals refine k_rr (vs := [_, _]) rfl ⟨rfl, rfl, trivial⟩ rfl (List.nil_sublist _) ⟨rfl, rfl, ?_⟩
      all_goals rfl
    · dsimp only
      rw [if_neg hx]
      refine p_enter [(0, _), (1, _), (2, _), (3, _)] Tryz.func14 (by kernel_rfl) Tryz.ntmps14 rfl rfl (by repeat' constructor) fun B hB => ?_
      repeat' (first | (refine run (t := tb) 400 rfl trivial ?_) | (refine k_op rfl ?_; first | (refine v_op (g_pickF rfl rfl rfl) rfl rfl ?_) | (refine c_rt rfl rfl rfl cx_bp1 rfl ?_) | (refine c_rt rfl rfl rfl (c_l15KeyF (by omega)) rfl ?_)) | (refine k_gf rfl rfl rfl ?_) | (refine k_tt rfl rfl ?_))
      all_goals refine k_rr (vs := [_, _]) rfl ⟨rfl, rfl, trivial⟩ rfl (List.nil_sublist _) ⟨rfl, rfl, ?_⟩
      all_goals rfl
def sealPut (s k w x : List UInt8) : List UInt8 × Bool := match bysPut s k w with
  | some b => if 1 ≤ x.length ∧ x.length ≤ 20 then (fpS (b ++ numI (sumB (x ++ b ++ x))), fpB (b ++ numI (sumB (x ++ b ++ x)))) else ([], false)
  | none => ([], false)
theorem c_SealPutI {s k w x : List UInt8} (h1 : s.length ≤ 1048576 ∧ k.length ≤ 1048576 ∧ w.length ≤ 1048576 ∧ x.length ≤ 1048576) : PuG Tryz.prog 17 [S s, S k, S w, S x] G (· = Tu [S (sealPut s k w x).1, Bo (sealPut s k w x).2]) := by
  have cx_bp1 := c_BytesPutI (G := G) (s := s) (k := k) (w := w) (by omega)
  have cx_so := c_SealOfI (G := G) h1
  unfold sealOf at cx_so
  unfold sealPut
  cases e1 : bysPut s k w with
  | none =>
    rw [e1] at cx_bp1 cx_so
    dsimp only [Option.getD, Option.isSome] at cx_bp1 cx_so ⊢
    refine p_enter [(0, _), (1, _), (2, _), (3, _)] Tryz.func17 (by kernel_rfl) Tryz.ntmps17 rfl rfl (by repeat' constructor) fun B hB => ?_
    repeat' (first | (refine run (t := tb) 400 rfl trivial ?_) | (refine k_op rfl ?_; (refine c_rt rfl rfl rfl cx_so rfl ?_)) | (refine k_tt rfl rfl ?_))
    all_goals refine k_rr (vs := [_, _]) rfl ⟨rfl, rfl, trivial⟩ rfl (List.nil_sublist _) ⟨rfl, rfl, ?_⟩
    all_goals rfl
  | some b =>
    have hbl := bysPut_len e1
    rw [e1] at cx_bp1 cx_so
    dsimp only at cx_so
    by_cases hx : 1 ≤ x.length ∧ x.length ≤ 20
    · rw [if_pos hx] at cx_so
      dsimp only [Option.getD, Option.isSome] at cx_bp1 cx_so ⊢
      rw [if_pos hx]
      have hsr := sumB_range (x ++ b ++ x)
      have hs3 := sumB_len (x ++ b ++ x)
      have hl2 : (b ++ numI (sumB (x ++ b ++ x))).length ≤ 9000000000000000000 := by rw [List.length_append]; omega
      refine p_enter [(0, _), (1, _), (2, _), (3, _)] Tryz.func17 (by kernel_rfl) Tryz.ntmps17 rfl rfl (by repeat' constructor) fun B hB => ?_
      repeat' (first | (refine run (t := tb) 400 rfl ?_ ?_; (focus (repeat' (first | exact trivial | apply And.intro | omega)))) | (refine k_op rfl ?_; first | (refine c_rt rfl rfl rfl cx_so rfl ?_) | (refine c_rt rfl rfl rfl cx_bp1 rfl ?_) | (refine c_rt rfl rfl rfl (c_numText (by omega)) rfl ?_) | (refine c_rt rfl rfl rfl (c_FramePutI ‹_›) rfl ?_)) | (refine k_ff rfl rfl ?_))
      all_goals refine k_rr (vs := [_, _]) rfl ⟨rfl, rfl, trivial⟩ rfl (List.nil_sublist _) ⟨rfl, rfl, ?_⟩
      all_goals rfl
    · rw [if_neg hx] at cx_so
      dsimp only [Option.getD, Option.isSome] at cx_bp1 cx_so ⊢
      rw [if_neg hx]
      refine p_enter [(0, _), (1, _), (2, _), (3, _)] Tryz.func17 (by kernel_rfl) Tryz.ntmps17 rfl rfl (by repeat' constructor) fun B hB => ?_
      repeat' (first | (refine run (t := tb) 400 rfl trivial ?_) | (refine k_op rfl ?_; (refine c_rt rfl rfl rfl cx_so rfl ?_)) | (refine k_tt rfl rfl ?_))
      all_goals refine k_rr (vs := [_, _]) rfl ⟨rfl, rfl, trivial⟩ rfl (List.nil_sublist _) ⟨rfl, rfl, ?_⟩
      all_goals rfl
theorem c_SealPutS {s k w x : List UInt8} (h1 : s.length ≤ 1048576 ∧ k.length ≤ 1048576 ∧ w.length ≤ 1048576 ∧ x.length ≤ 1048576) : PuG Tryz.prog 16 [S s, S k, S w, S x] G (· = Tu [S (sealPut s k w x).1, Bo (sealPut s k w x).2]) := by
  have cx_bp1 := c_BytesPutS (G := G) (s := s) (k := k) (w := w) (by omega)
  have cx_so := c_SealOfS (G := G) h1
  unfold sealOf at cx_so
  unfold sealPut
  cases e1 : bysPut s k w with
  | none =>
    rw [e1] at cx_bp1 cx_so
    dsimp only [Option.getD, Option.isSome] at cx_bp1 cx_so ⊢
    refine p_enter [(0, _), (1, _), (2, _), (3, _)] Tryz.func16 (by kernel_rfl) Tryz.ntmps16 rfl rfl (by repeat' constructor) fun B hB => ?_
    repeat' (first | (refine run (t := tb) 400 rfl trivial ?_) | (refine k_op rfl ?_; (refine c_rt rfl rfl rfl cx_so rfl ?_)) | (refine k_tt rfl rfl ?_))
    all_goals refine k_rr (vs := [_, _]) rfl ⟨rfl, rfl, trivial⟩ rfl (List.nil_sublist _) ⟨rfl, rfl, ?_⟩
    all_goals rfl
  | some b =>
    have hbl := bysPut_len e1
    rw [e1] at cx_bp1 cx_so
    dsimp only at cx_so
    by_cases hx : 1 ≤ x.length ∧ x.length ≤ 20
    · rw [if_pos hx] at cx_so
      dsimp only [Option.getD, Option.isSome] at cx_bp1 cx_so ⊢
      rw [if_pos hx]
      have hsr := sumB_range (x ++ b ++ x)
      have hs3 := sumB_len (x ++ b ++ x)
      have hl2 : (b ++ numI (sumB (x ++ b ++ x))).length ≤ 9000000000000000000 := by rw [List.length_append]; omega
      refine p_enter [(0, _), (1, _), (2, _), (3, _)] Tryz.func16 (by kernel_rfl) Tryz.ntmps16 rfl rfl (by repeat' constructor) fun B hB => ?_
      repeat' (first | (refine run (t := tb) 400 rfl ?_ ?_; (focus (repeat' (first | exact trivial | apply And.intro | omega)))) | (refine k_op rfl ?_; first | (refine c_rt rfl rfl rfl cx_so rfl ?_) | (refine c_rt rfl rfl rfl cx_bp1 rfl ?_) | (refine c_rt rfl rfl rfl (c_l1Put (by omega)) rfl ?_) | (refine c_rt rfl rfl rfl (c_FramePutS ‹_›) rfl ?_)) | (refine k_ff rfl rfl ?_))
      all_goals refine k_rr (vs := [_, _]) rfl ⟨rfl, rfl, trivial⟩ rfl (List.nil_sublist _) ⟨rfl, rfl, ?_⟩
      all_goals rfl
    · rw [if_neg hx] at cx_so
      dsimp only [Option.getD, Option.isSome] at cx_bp1 cx_so ⊢
      rw [if_neg hx]
      refine p_enter [(0, _), (1, _), (2, _), (3, _)] Tryz.func16 (by kernel_rfl) Tryz.ntmps16 rfl rfl (by repeat' constructor) fun B hB => ?_
      repeat' (first | (refine run (t := tb) 400 rfl trivial ?_) | (refine k_op rfl ?_; (refine c_rt rfl rfl rfl cx_so rfl ?_)) | (refine k_tt rfl rfl ?_))
      all_goals refine k_rr (vs := [_, _]) rfl ⟨rfl, rfl, trivial⟩ rfl (List.nil_sublist _) ⟨rfl, rfl, ?_⟩
      all_goals rfl
theorem c_FnExactSealSame {s k w x : List UInt8} (h : s.length ≤ 9223372036854775807 ∧ k.length ≤ 9223372036854775807 ∧ w.length ≤ 9223372036854775807 ∧ x.length ≤ 9223372036854775807) : PuG Tryz.prog 5 [S s, S k, S w, S x] G (· = Bo true) := by
  by_cases h1 : s.length ≤ 1048576 ∧ k.length ≤ 1048576 ∧ w.length ≤ 1048576 ∧ x.length ≤ 1048576
  · have cx_ss1 := c_SealSameI (G := G) h1
    have cx_ss2 := c_SealSameS (G := G) h1
    refine p_enter [(0, _), (1, _), (2, _), (3, _)] Tryz.func5 (by kernel_rfl) Tryz.ntmps5 rfl rfl (by repeat' constructor) fun B hB => ?_
    repeat' (first | (refine run (t := tb) 400 rfl trivial ?_) | (refine k_op rfl ?_; first | (refine c_rt rfl rfl rfl cx_ss2 rfl ?_) | (refine c_rt rfl rfl rfl cx_ss1 rfl ?_)) | (refine k_ff rfl ?_ ?_; (focus ((first | (refine decide_eq_false ?_; (omega)) | (simp [*]; done)); done))))
    all_goals refine k_rr (vs := [_]) rfl ⟨rfl, trivial⟩ rfl (List.nil_sublist _) ⟨rfl, rfl, ?_⟩
    all_goals rfl
  · by_cases ha : s.length ≤ 1048576
    case neg =>
      refine p_enter [(0, _), (1, _), (2, _), (3, _)] Tryz.func5 (by kernel_rfl) Tryz.ntmps5 rfl rfl (by repeat' constructor) fun B hB => ?_
      repeat' (first | (refine run (t := tb) 400 rfl trivial ?_) | (refine k_tt rfl (dTt (by omega)) ?_))
      refine k_rr (vs := [_]) rfl ⟨rfl, trivial⟩ rfl (List.nil_sublist _) ⟨rfl, rfl, ?_⟩
      rfl
    by_cases hb : k.length ≤ 1048576
    case neg =>
      refine p_enter [(0, _), (1, _), (2, _), (3, _)] Tryz.func5 (by kernel_rfl) Tryz.ntmps5 rfl rfl (by repeat' constructor) fun B hB => ?_
      repeat' (first | (refine run (t := tb) 400 rfl trivial ?_) | (refine k_tt rfl (dTt (by omega)) ?_) | (refine k_ff rfl (dFf (by omega)) ?_))
      refine k_rr (vs := [_]) rfl ⟨rfl, trivial⟩ rfl (List.nil_sublist _) ⟨rfl, rfl, ?_⟩
      rfl
    by_cases hc : w.length ≤ 1048576
    case neg =>
      refine p_enter [(0, _), (1, _), (2, _), (3, _)] Tryz.func5 (by kernel_rfl) Tryz.ntmps5 rfl rfl (by repeat' constructor) fun B hB => ?_
      repeat' (first | (refine run (t := tb) 400 rfl trivial ?_) | (refine k_tt rfl (dTt (by omega)) ?_) | (refine k_ff rfl (dFf (by omega)) ?_))
      refine k_rr (vs := [_]) rfl ⟨rfl, trivial⟩ rfl (List.nil_sublist _) ⟨rfl, rfl, ?_⟩
      rfl
    have hd : ¬ x.length ≤ 1048576 := fun hd => h1 ⟨ha, hb, hc, hd⟩
    refine p_enter [(0, _), (1, _), (2, _), (3, _)] Tryz.func5 (by kernel_rfl) Tryz.ntmps5 rfl rfl (by repeat' constructor) fun B hB => ?_
    repeat' (first | (refine run (t := tb) 400 rfl trivial ?_) | (refine k_tt rfl (dTt (by omega)) ?_) | (refine k_ff rfl (dFf (by omega)) ?_))
    refine k_rr (vs := [_]) rfl ⟨rfl, trivial⟩ rfl (List.nil_sublist _) ⟨rfl, rfl, ?_⟩
    rfl
theorem c_FnExactSealOf {s k w x : List UInt8} (h : s.length ≤ 9223372036854775807 ∧ k.length ≤ 9223372036854775807 ∧ w.length ≤ 9223372036854775807 ∧ x.length ≤ 9223372036854775807) : PuG Tryz.prog 6 [S s, S k, S w, S x] G (· = Bo true) := by
  by_cases h1 : s.length ≤ 1048576 ∧ k.length ≤ 1048576 ∧ w.length ≤ 1048576 ∧ x.length ≤ 1048576
  · have cx_ss1 := c_SealOfI (G := G) h1
    have cx_ss2 := c_SealOfS (G := G) h1
    refine p_enter [(0, _), (1, _), (2, _), (3, _)] Tryz.func6 (by kernel_rfl) Tryz.ntmps6 rfl rfl (by repeat' constructor) fun B hB => ?_
    repeat' (first | (refine run (t := tb) 400 rfl trivial ?_) | (refine k_op rfl ?_; first | (refine v_op (g_pickF rfl rfl rfl) rfl rfl ?_) | (refine c_rt rfl rfl rfl cx_ss1 rfl ?_) | (refine c_rt rfl rfl rfl cx_ss2 rfl ?_)) | (refine k_gf rfl rfl (dFf (by omega)) ?_) | (refine k_ff rfl ?_ ?_; (focus ((first | (refine decide_eq_false ?_; (omega)) | (simp [*]; done)); done))))
    all_goals refine k_rr (vs := [_]) rfl ⟨rfl, trivial⟩ rfl (List.nil_sublist _) ⟨rfl, rfl, ?_⟩
    all_goals rfl
  · by_cases ha : s.length ≤ 1048576
    case neg =>
      refine p_enter [(0, _), (1, _), (2, _), (3, _)] Tryz.func6 (by kernel_rfl) Tryz.ntmps6 rfl rfl (by repeat' constructor) fun B hB => ?_
      repeat' (first | (refine run (t := tb) 400 rfl trivial ?_) | (refine k_tt rfl (dTt (by omega)) ?_))
      refine k_rr (vs := [_]) rfl ⟨rfl, trivial⟩ rfl (List.nil_sublist _) ⟨rfl, rfl, ?_⟩
      rfl
    by_cases hb : k.length ≤ 1048576
    case neg =>
      refine p_enter [(0, _), (1, _), (2, _), (3, _)] Tryz.func6 (by kernel_rfl) Tryz.ntmps6 rfl rfl (by repeat' constructor) fun B hB => ?_
      repeat' (first | (refine run (t := tb) 400 rfl trivial ?_) | (refine k_tt rfl (dTt (by omega)) ?_) | (refine k_ff rfl (dFf (by omega)) ?_))
      refine k_rr (vs := [_]) rfl ⟨rfl, trivial⟩ rfl (List.nil_sublist _) ⟨rfl, rfl, ?_⟩
      rfl
    by_cases hc : w.length ≤ 1048576
    case neg =>
      refine p_enter [(0, _), (1, _), (2, _), (3, _)] Tryz.func6 (by kernel_rfl) Tryz.ntmps6 rfl rfl (by repeat' constructor) fun B hB => ?_
      repeat' (first | (refine run (t := tb) 400 rfl trivial ?_) | (refine k_tt rfl (dTt (by omega)) ?_) | (refine k_ff rfl (dFf (by omega)) ?_))
      refine k_rr (vs := [_]) rfl ⟨rfl, trivial⟩ rfl (List.nil_sublist _) ⟨rfl, rfl, ?_⟩
      rfl
    have hd : ¬ x.length ≤ 1048576 := fun hd => h1 ⟨ha, hb, hc, hd⟩
    refine p_enter [(0, _), (1, _), (2, _), (3, _)] Tryz.func6 (by kernel_rfl) Tryz.ntmps6 rfl rfl (by repeat' constructor) fun B hB => ?_
    repeat' (first | (refine run (t := tb) 400 rfl trivial ?_) | (refine k_tt rfl (dTt (by omega)) ?_) | (refine k_ff rfl (dFf (by omega)) ?_))
    refine k_rr (vs := [_]) rfl ⟨rfl, trivial⟩ rfl (List.nil_sublist _) ⟨rfl, rfl, ?_⟩
    rfl
theorem c_FnExactSealPut {s k w x : List UInt8} (h : s.length ≤ 9223372036854775807 ∧ k.length ≤ 9223372036854775807 ∧ w.length ≤ 9223372036854775807 ∧ x.length ≤ 9223372036854775807) : PuG Tryz.prog 7 [S s, S k, S w, S x] G (· = Bo true) := by
  by_cases h1 : s.length ≤ 1048576 ∧ k.length ≤ 1048576 ∧ w.length ≤ 1048576 ∧ x.length ≤ 1048576
  · have cx_ss1 := c_SealPutI (G := G) h1
    have cx_ss2 := c_SealPutS (G := G) h1
    refine p_enter [(0, _), (1, _), (2, _), (3, _)] Tryz.func7 (by kernel_rfl) Tryz.ntmps7 rfl rfl (by repeat' constructor) fun B hB => ?_
    repeat' (first | (refine run (t := tb) 400 rfl trivial ?_) | (refine k_op rfl ?_; first | (refine v_op (g_pickF rfl rfl rfl) rfl rfl ?_) | (refine c_rt rfl rfl rfl cx_ss2 rfl ?_) | (refine c_rt rfl rfl rfl cx_ss1 rfl ?_)) | (refine k_gf rfl rfl ?_ ?_; (focus ((simp [*]; done); done))) | (refine k_ff rfl ?_ ?_; (focus ((first | (refine decide_eq_false ?_; (omega)) | (simp [*]; done)); done))))
    all_goals refine k_rr (vs := [_]) rfl ⟨rfl, trivial⟩ rfl (List.nil_sublist _) ⟨rfl, rfl, ?_⟩
    all_goals rfl
  · by_cases ha : s.length ≤ 1048576
    case neg =>
      refine p_enter [(0, _), (1, _), (2, _), (3, _)] Tryz.func7 (by kernel_rfl) Tryz.ntmps7 rfl rfl (by repeat' constructor) fun B hB => ?_
      repeat' (first | (refine run (t := tb) 400 rfl trivial ?_) | (refine k_tt rfl (dTt (by omega)) ?_))
      refine k_rr (vs := [_]) rfl ⟨rfl, trivial⟩ rfl (List.nil_sublist _) ⟨rfl, rfl, ?_⟩
      rfl
    by_cases hb : k.length ≤ 1048576
    case neg =>
      refine p_enter [(0, _), (1, _), (2, _), (3, _)] Tryz.func7 (by kernel_rfl) Tryz.ntmps7 rfl rfl (by repeat' constructor) fun B hB => ?_
      repeat' (first | (refine run (t := tb) 400 rfl trivial ?_) | (refine k_tt rfl (dTt (by omega)) ?_) | (refine k_ff rfl (dFf (by omega)) ?_))
      refine k_rr (vs := [_]) rfl ⟨rfl, trivial⟩ rfl (List.nil_sublist _) ⟨rfl, rfl, ?_⟩
      rfl
    by_cases hc : w.length ≤ 1048576
    case neg =>
      refine p_enter [(0, _), (1, _), (2, _), (3, _)] Tryz.func7 (by kernel_rfl) Tryz.ntmps7 rfl rfl (by repeat' constructor) fun B hB => ?_
      repeat' (first | (refine run (t := tb) 400 rfl trivial ?_) | (refine k_tt rfl (dTt (by omega)) ?_) | (refine k_ff rfl (dFf (by omega)) ?_))
      refine k_rr (vs := [_]) rfl ⟨rfl, trivial⟩ rfl (List.nil_sublist _) ⟨rfl, rfl, ?_⟩
      rfl
    have hd : ¬ x.length ≤ 1048576 := fun hd => h1 ⟨ha, hb, hc, hd⟩
    refine p_enter [(0, _), (1, _), (2, _), (3, _)] Tryz.func7 (by kernel_rfl) Tryz.ntmps7 rfl rfl (by repeat' constructor) fun B hB => ?_
    repeat' (first | (refine run (t := tb) 400 rfl trivial ?_) | (refine k_tt rfl (dTt (by omega)) ?_) | (refine k_ff rfl (dFf (by omega)) ?_))
    refine k_rr (vs := [_]) rfl ⟨rfl, trivial⟩ rfl (List.nil_sublist _) ⟨rfl, rfl, ?_⟩
    rfl
end Go.E
