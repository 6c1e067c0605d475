/- Contracts and plain laws that the statement rests on, part 7. Conditions: as each says. -/
import Derived.Test.YtladnpnemcdngaaGreatDoorZ6
set_option linter.unusedVariables false
set_option linter.unusedSimpArgs false
/-! Xa -/
namespace Go.E
set_option maxRecDepth 20000
set_option maxHeartbeats 2000000
open Go.Proofs
variable {G : Gh}
def ptR (b : Nat) : List Value := [Pt b 0]
instance : RowF ptR 1 := ⟨fun _ => rfl⟩
def inR (n : Int) : List Value := [I n]
instance : RowF inR 1 := ⟨fun _ => rfl⟩
abbrev tSt2 : TypeId := 9
abbrev tLv : TypeId := 47
inductive RepR (G : Gh) (ts : List Ty) : V → List UInt8 → Nat → Prop
  | leaf (w : Nat) (x k tx : List UInt8) (b : Nat) : Seg G b 0 [S k, S tx, nilS, nilS] → ((w = 110 ∧ k = [110] ∧ tx = x ∧ ∀ c ∈ x, isDg c = true) ∨ (w = 116 ∧ k = [116] ∧ tx = 39 :: (x ++ [39])) ∨ (w = 102 ∧ k = [102] ∧ tx = x ∧ (x = [121, 101, 115] ∨ x = [110, 111]))) → RepR G ts (.nd w x 0 []) k b
  | lst (k : List UInt8) (b : Nat) (ks : List V) (bs : List Nat) (a : Option Addr) (c : Nat) : Seg G b 0 [S (91 :: k), S [], nilS, .slice a ks.length c] → SlV G (.slice a ks.length c) 1 ks.length (rows ptR bs) → bs.length = ks.length → (∀ i, i < ks.length → RepR G ts (nth ks i) k (nth bs i)) → RepR G ts (.nd 91 [] 0 ks) (91 :: k) b
  | non (k : List UInt8) (b : Nat) : Seg G b 0 [S (63 :: k), S [], nilS, nilS] → RepR G ts (.nd 63 [] 0 []) (63 :: k) b
  | opt (k : List UInt8) (b kb b' : Nat) (v : V) : Seg G b 0 [S (63 :: k), S [], nilS, .slice (some ⟨kb, 0, none⟩) 1 1] → Seg G kb 0 [Pt b' 0] → RepR G ts v k b' → RepR G ts (.nd 63 [] 0 [v]) (63 :: k) b
  | recd (k : List UInt8) (b : Nat) (t : Ty) (fs : List (Fld × V)) (bs : List Nat) (a a2 : Option Addr) (c c2 : Nat) : refT ts k = some t → Seg G b 0 [S k, S [82], .slice a fs.length c, .slice a2 fs.length c2] → SlV G (.slice a fs.length c) 1 fs.length (rows inR (fs.map fun p => p.1.tag)) → SlV G (.slice a2 fs.length c2) 1 fs.length (rows ptR bs) → bs.length = fs.length → (∀ i, i < fs.length → (nth fs i).1 ∈ t.fields) → (∀ i, i < fs.length → RepR G ts (nth fs i).2 (nth fs i).1.kind (nth bs i)) → RepR G ts (.nd 82 [] 0 (fs.map fun p => .nd 61 [] p.1.tag [p.2])) k b
  | enm (k : List UInt8) (b tb : Nat) (t : Ty) (d : Fld) : refT ts k = some t → d ∈ t.fields → Seg G b 0 [S k, S [69], .slice (some ⟨tb, 0, none⟩) 1 1, nilS] → Seg G tb 0 [I d.tag] → RepR G ts (.nd 69 [] d.tag []) k b
  | uni (k : List UInt8) (b tb kb b' : Nat) (t : Ty) (d : Fld) (v : V) : refT ts k = some t → d ∈ t.fields → Seg G b 0 [S k, S [85], .slice (some ⟨tb, 0, none⟩) 1 1, .slice (some ⟨kb, 0, none⟩) 1 1] → Seg G tb 0 [I d.tag] → Seg G kb 0 [Pt b' 0] → RepR G ts v d.kind b' → RepR G ts (.nd 85 [] d.tag [v]) k b
theorem RepR.mono {G G' : Gh} {ts : List Ty} (hl : Gh.le G G') {v : V} {k : List UInt8} {b : Nat} (h : RepR G ts v k b) : RepR G' ts v k b := by
  induction h with
  | leaf w x k tx b h1 h2 => exact .leaf w x k tx b (h1.mono hl) h2
  | lst k b ks bs a c h1 h2 h3 _ ih => exact .lst k b ks bs a c (h1.mono hl) (h2.mono hl) h3 ih
  | non k b h1 => exact .non k b (h1.mono hl)
  | opt k b kb b' v h1 h2 _ ih => exact .opt k b kb b' v (h1.mono hl) (h2.mono hl) ih
  | recd k b t fs bs a a2 c c2 h0 h1 h2 h3 h4 h5 _ ih => exact .recd k b t fs bs a a2 c c2 h0 (h1.mono hl) (h2.mono hl) (h3.mono hl) h4 h5 ih
  | enm k b tb t d h0 h1 h2 h3 => exact .enm k b tb t d h0 h1 (h2.mono hl) (h3.mono hl)
  | uni k b tb kb b' t d v h0 h1 h2 h3 h4 _ ih => exact .uni k b tb kb b' t d v h0 h1 (h2.mono hl) (h3.mono hl) (h4.mono hl) ih
/-- What the reference's reader hands back. -/
def ReadP (ts : List Ty) (f : Option (V × List UInt8)) (k : List UInt8) (v : Value) (G' : Gh) : Prop :=
  ∃ q rest ok, v = Tu [.pointer q, S rest, Bo ok] ∧ (ok = true → ∃ w b, q = some ⟨b, 0, none⟩ ∧ f = some (w, rest) ∧ RepR G' ts w k b) ∧ (ok = false → f = none)
theorem c_digits {s : List UInt8} (hs : s.length ≤ 1000000) : PuG Tryz.prog 34 [S s] G (· = I ((s.takeWhile isDg).length : Nat)) := by
  refine p_enter [(0, _)] Tryz.func34 (by kernel_rfl) Tryz.ntmps34 rfl rfl (by repeat (first | exact trivial | refine ⟨rfl, ?_⟩)) fun B hB => ?_
  repeat' ((refine run (t := tb) 400 rfl ?_ ?_; (focus (repeat' ((exact trivial))))))
  refine k_loop (ι := Nat) (fun i => i ≤ s.length ∧ i + ((s.drop i).takeWhile isDg).length = (s.takeWhile isDg).length) (fun i => [(0, S s), (3, I i)]) (fun _ => G) (fun i => []) (fun i => s.length - i) 0 ?_ (by repeat (first | exact trivial | refine ⟨rfl, ?_⟩)) rfl (by repeat ((exact List.Sublist.refl _))) (fun i Hi => ?_)
  · exact ⟨Nat.zero_le _, by simp⟩
  obtain ⟨hi0, hi1⟩ := Hi
  by_cases hi : i < s.length
  · obtain ⟨c, hc1, hc2⟩ := drop_bt hi
    have hc3 : bt s ((i : Int).toNat) = c.toNat := hc2
    rw [hc1, List.takeWhile_cons] at hi1
    by_cases hd : isDg c = true
    · rw [if_pos hd] at hi1
      have hd2 := hd
      unfold isDg at hd2
      rw [decide_eq_true_eq] at hd2
      simp only [List.length_cons] at hi1
      repeat' (first | (refine run (t := tb) 400 rfl ?_ ?_; (focus (repeat' (first | exact trivial | apply And.intro | omega)))) | (refine k_op rfl ?_; (refine v_op (g_pickT rfl rfl ?_) rfl rfl ?_; (focus (((rfl)); done)))) | (refine k_gt rfl rfl ?_ ?_; (focus (((refine decide_eq_true ?_; (omega))); done))) | (refine k_tt rfl ?_ ?_; (focus (((refine decide_eq_true ?_; (omega))); done))))
      exact k_rd (i + 1) ⟨by omega, by omega⟩ (by omega) (by repeat (first | exact trivial | refine ⟨rfl, ?_⟩)) rfl (by repeat ((exact List.Sublist.refl _)))
    · rw [if_neg hd] at hi1
      have hd2 : ¬ (48 ≤ c.toNat ∧ c.toNat ≤ 57) := fun h => hd (by unfold isDg; rw [decide_eq_true_eq]; exact h)
      simp only [List.length_nil] at hi1
      repeat' (first | (refine run (t := tb) 400 rfl ?_ ?_; (focus (repeat' (first | exact trivial | apply And.intro | omega)))) | (refine k_op rfl ?_; first | (refine v_op (g_pickT rfl rfl ?_) rfl rfl ?_; (focus (((rfl)); done))) | (refine v_op (g_pickF rfl rfl ?_) rfl rfl ?_; (focus (((rfl)); done)))) | (refine k_gt rfl rfl ?_ ?_; (focus (((refine decide_eq_true ?_; (omega))); done))) | refine k_g rfl rfl (fun _ => ?_) (fun _ => ?_) | (refine k_ff rfl ?_ ?_; (focus ((first | rfl | (refine decide_eq_false ?_; (omega))); done))))
      all_goals refine k_rr (vs := [_]) rfl ⟨rfl, trivial⟩ rfl (List.nil_sublist _) ⟨rfl, rfl, ?_⟩
      all_goals (rw [oneOf_one, ← hi1]; rfl)
  · have : i = s.length := by omega
    rw [this, List.drop_length] at hi1
    simp only [List.takeWhile_nil, List.length_nil] at hi1
    repeat' (first | (refine run (t := tb) 400 rfl ?_ ?_; (focus (repeat' ((exact trivial))))) | (refine k_op rfl ?_; (refine v_op (g_pickF rfl rfl ?_) rfl rfl ?_; (focus (((rfl)); done)))) | (refine k_gf rfl rfl ?_ ?_; (focus ((first | rfl | (refine decide_eq_false ?_; (omega))); done))) | (refine k_ff rfl ?_ ?_; (focus (((rfl)); done))))
    all_goals refine k_rr (vs := [_]) rfl ⟨rfl, trivial⟩ rfl (List.nil_sublist _) ⟨rfl, rfl, ?_⟩
    all_goals (rw [oneOf_one, ← hi1, this]; rfl)
theorem take_while (q : UInt8 → Bool) (s : List UInt8) : s.take ((((s.takeWhile q).length : Nat) : Int)).toNat = s.takeWhile q ∧ s.drop ((((s.takeWhile q).length : Nat) : Int)).toNat = s.dropWhile q := by
  have h := List.takeWhile_append_dropWhile (p := q) (l := s)
  have e : ((((s.takeWhile q).length : Nat) : Int)).toNat = (s.takeWhile q).length := by omega
  rw [e]
  constructor
  · have h2 : (s.takeWhile q ++ s.dropWhile q).take (s.takeWhile q).length = s.takeWhile q := List.take_left
    rwa [h] at h2
  · have h2 : (s.takeWhile q ++ s.dropWhile q).drop (s.takeWhile q).length = s.dropWhile q := List.drop_left
    rwa [h] at h2
theorem c_plainN {u : Value} {ts : List Ty} {s : List UInt8} (hu : u.oneCell' = true) (hs : s.length ≤ 1000000) : FnS Tryz.prog 21 [Ag [u], S s, S [110]] G (ReadP ts ((rdNum 999999 s).map fun x => (.nd 110 (decI x.1) 0 [], x.2)) [110]) := by
  have cx_dg := c_digits (G := G) hs
  obtain ⟨e1, e2⟩ := take_while isDg s
  have hwl := while_len isDg s
  have hlen : (s.take ((((s.takeWhile isDg).length : Nat) : Int)).toNat).length ≤ 100000000 := by rw [e1]; omega
  refine b_enter [(0, _), (1, _), (2, _)] Tryz.func21 (by kernel_rfl) Tryz.ntmps21 rfl rfl (by repeat (first | exact trivial | refine ⟨rfl, ?_⟩)) fun B hok hB hW => ?_
  repeat' (first | (refine run (t := tb) 400 rfl ?_ ?_; (focus (repeat' (first | exact trivial | apply And.intro | omega)))) | (refine k_op rfl ?_; first | refine c_bx rfl rfl rfl fun _ => ?_ | (refine c_rt rfl rfl rfl cx_dg rfl ?_) | (refine c_pu rfl rfl rfl (c_l3Num (by omega)) rfl ?_; rintro _ ⟨n, rfl, hnum⟩)) | (refine k_tt rfl ?_ ?_; (focus (((rfl)); done))) | (refine k_any (s_any (id := 6) _ (fun _ h => h) mixed ?_); refine x_tks (t := tb) (fuel := 5) [0, 1, 2, 3, 6, 7, 8, 9] (bts 13 975) (by kernel_rfl) (by kernel_rfl) rfl rfl (Gh.le.refl _) (by repeat ((exact List.Sublist.refl _))) ?_ ?_; (focus (repeat' (first | exact trivial | apply And.intro | omega))); ((refine (x_tkg (bts 13 991) 4 rfl (by kernel_rfl) rfl (Gh.le.refl _) (by repeat ((exact List.Sublist.refl _)))) (g_bld rfl rfl) rfl rfl ?_)); refine x_all [5] (by kernel_rfl) (by decide) ⟨?_, trivial⟩; refine x_opg rfl rfl ?_; ((refine c_bx rfl rfl rfl fun _ => ?_)); refine x_ks (by (exact Gh.le.refl _)) (by repeat (first | exact List.Sublist.refl _ | apply List.Sublist.cons)) (listed' := (bts 13 1023)) (by kernel_rfl) ?_; refine x_tks (t := tb) (fuel := 0) [10, 11, 12] (bts 13 8191) (by kernel_rfl) (by kernel_rfl) rfl rfl (Gh.le.refl _) (by repeat ((exact List.Sublist.refl _))) ?_ ?_; (focus (repeat' ((exact trivial)))); refine x_done (by kernel_rfl) (k_bk ?_)))
  rename_i x3 x4
  refine Nx.sealC (b := x4) fun G2 hG2 hsy => ?_
  refine k_rr (vs := [_, _, _]) rfl ⟨rfl, rfl, rfl, trivial⟩ rfl (List.nil_sublist _) ⟨hG2, rfl, ?_⟩
  rw [oneOf_three]
  rw [e1] at hnum hsy
  rw [e1, e2]
  refine ⟨_, _, _, rfl, fun h => ?_, fun h => ?_⟩
  · cases hm : numOf (s.takeWhile isDg) 999999 with
    | none => rw [hm] at h; cases h
    | some m =>
      have hmd := (numOf_le hm).2.1
      refine ⟨.nd 110 (decI m) 0 [], x4, rfl, by unfold rdNum; rw [hm]; rfl, .leaf 110 _ _ _ _ hsy (.inl ⟨rfl, rfl, hmd, fun c hc => List.all_eq_true.1 (List.all_takeWhile (l := s) (p := isDg)) c (by rw [hmd]; exact hc)⟩)⟩
  · cases hm : numOf (s.takeWhile isDg) 999999 with
    | none => unfold rdNum; rw [hm]; rfl
    | some m => rw [hm] at h; cases h
theorem quote_take {c : UInt8} {r : List UInt8} {i : Nat} (hc : i ≤ r.length) (hn : ∀ j, j < i → bt r j ≠ 39) (hi : i = r.length ∨ bt r i = 39 ∧ i < r.length) :
    (rdQuote (c :: r) = if isTx ((c :: r).take (min (i + 2) (r.length + 1))) = true then some (.nd 116 (r.take i) 0 [], r.drop (i + 1)) else none) ∧ (isTx ((c :: r).take (min (i + 2) (r.length + 1))) = true → (c :: r).take (min (i + 2) (r.length + 1)) = 39 :: (r.take i ++ [39])) := by
  unfold rdQuote
  dsimp only
  rcases hi with hi | ⟨h39, hlt⟩
  · have hcut : cut1 39 r = (r, [], false) := cut1_no fun j hj => hn j (by omega)
    have htk : (c :: r).take (min (i + 2) (r.length + 1)) = c :: r := List.take_of_length_le (by simp; omega)
    have hno : isTx (c :: r) = false := by
      unfold isTx
      refine decide_eq_false fun h => ?_
      obtain ⟨⟨h2, _⟩, _, h3, _⟩ := h
      simp only [List.length_cons] at h2
      rw [show (c :: r).length - 1 = (r.length - 1) + 1 by simp; omega, bt_succ] at h3
      exact hn (r.length - 1) (by omega) h3
    rw [hcut, htk, hno]
    exact ⟨by simp, fun h => (by cases h)⟩
  · have hcut := cut1_at (k := 39) hlt hn h39
    have htk : (c :: r).take (min (i + 2) (r.length + 1)) = c :: (r.take i ++ [39]) := by
      rw [show min (i + 2) (r.length + 1) = (i + 1) + 1 by omega, List.take_succ_cons, take_nth hlt]
      congr 1; congr 1; congr 1
      rw [nth_eq hlt]
      have : bt r i = (r[i]).toNat := by simp [bt, List.getD, List.getElem?_eq_getElem hlt]
      exact UInt8.toNat_inj.1 (by rw [← this, h39]; rfl)
    rw [hcut, htk]
    dsimp only
    by_cases h : c.toNat = 39
    · rw [if_pos h, show c = 39 from UInt8.toNat_inj.1 h]
      exact ⟨rfl, fun _ => rfl⟩
    · have hno : ¬ isTx (c :: (r.take i ++ [39])) = true := fun ht => by
        unfold isTx at ht
        rw [decide_eq_true_eq] at ht
        exact h (by have := ht.2.1; rwa [bt_zero] at this)
      rw [if_neg h, if_neg hno]
      exact ⟨rfl, fun h2 => absurd h2 hno⟩
theorem c_plainT {u : Value} {ts : List Ty} {s : List UInt8} (hu : u.oneCell' = true) (hs : s.length ≤ 1000000) (hne : s ≠ []) : FnS Tryz.prog 21 [Ag [u], S s, S [116]] G (ReadP ts (rdQuote s) [116]) := by
  match s, hne with
  | c :: r, _ =>
  simp only [List.length_cons] at hs
  have hcl : (c :: r).length = r.length + 1 := rfl
  refine b_enter [(0, _), (1, _), (2, _)] Tryz.func21 (by kernel_rfl) Tryz.ntmps21 rfl rfl (by repeat (first | exact trivial | refine ⟨rfl, ?_⟩)) fun B hok hB hW => ?_
  repeat' (first | (refine run (t := tb) 400 rfl ?_ ?_; (focus (repeat' ((exact trivial))))) | (refine k_op rfl ?_; (refine c_bx rfl rfl rfl fun _ => ?_)) | (refine k_tt rfl ?_ ?_; (focus (((rfl)); done))) | (refine k_ff rfl ?_ ?_; (focus (((rfl)); done))))
  rename_i x3
  refine k_loop (ι := Nat) (fun i => i ≤ r.length ∧ ∀ j, j < i → bt r j ≠ 39) (fun i => [(1, S (c :: r)), (2, S [116]), (9, I (i + 1 : Nat))]) (fun _ => G) (fun i => []) (fun i => r.length - i) 0 ?_ (by repeat (first | exact trivial | refine ⟨rfl, ?_⟩)) rfl (by repeat ((exact List.nil_sublist _))) (fun i Hi => ?_)
  · exact ⟨Nat.zero_le _, fun j hj => absurd hj (by omega)⟩
  obtain ⟨hi0, hi1⟩ := Hi
  have hb : bt (c :: r) (((i + 1 : Nat) : Int)).toNat = bt r i := bt_succ c r i
  by_cases hi : i < r.length
  · by_cases h39 : bt r i = 39
    · have h39' : bt (c :: r) (((i + 1 : Nat) : Int)).toNat = 39 := by rw [hb]; exact h39
      have hq := quote_take (c := c) hi0 hi1 (.inr ⟨h39, hi⟩)
      have e3 : (min ((((i + 1 : Nat) : Int)) + 1) ((((c :: r).length : Nat) : Int))).toNat = min (i + 2) (r.length + 1) := by omega
      have cx_tx := c_l3Text (G := G) (s := (c :: r).take (min ((((i + 1 : Nat) : Int)) + 1) ((((c :: r).length : Nat) : Int))).toNat) (by rw [List.length_take]; omega)
      repeat' (first | (refine run (t := tb) 400 rfl ?_ ?_; (focus (repeat' (first | exact trivial | apply And.intro | omega)))) | (refine k_op rfl ?_; first | (refine v_op (g_pickT rfl rfl ?_) rfl rfl ?_; (focus (((rfl)); done))) | refine v_op (g_min rfl rfl) rfl rfl ?_) | (refine k_gt rfl rfl ?_ ?_; (focus (((refine decide_eq_true ?_; (omega))); done))) | (refine k_ff rfl ?_ ?_; (focus (((refine decide_eq_false ?_; (omega))); done))) | (refine k_any (s_any (id := 12) _ (fun _ h => h) mixed ?_); refine x_tks (t := tb) (fuel := 6) [0, 1, 2, 3, 6, 7, 8, 9, 10, 11] (bts 16 4047) (by kernel_rfl) (by kernel_rfl) rfl rfl (Gh.le.refl _) (by repeat ((exact List.Sublist.refl _))) ?_ ?_; (focus (repeat' (first | exact trivial | apply And.intro | omega))); ((refine (x_tkg (bts 16 4063) 4 rfl (by kernel_rfl) rfl (Gh.le.refl _) (by repeat ((exact List.Sublist.refl _)))) (g_bld rfl rfl) rfl rfl ?_)); refine x_all [5, 12] (by kernel_rfl) (by decide) ⟨?_, ?_, trivial⟩; (focus (refine x_opg rfl rfl ?_; ((refine c_bx rfl rfl rfl fun _ => ?_)); refine x_ks (by (exact Gh.le.refl _)) (by repeat ((exact List.nil_sublist _))) (listed' := (bts 16 4095)) (by kernel_rfl) ?_; refine x_all [12] (by kernel_rfl) (by decide) ⟨?_, trivial⟩; refine x_opg rfl rfl ?_; ((refine c_rt rfl rfl rfl (c_l3Text ?_) rfl ?_; (focus (((simp; omega)); done)))); refine x_ks (by (exact Gh.le.refl _)) (by repeat ((exact List.Sublist.refl _))) (listed' := (bts 16 8191)) (by kernel_rfl) ?_; refine x_tks (t := tb) (fuel := 0) [13, 14, 15] (bts 16 65535) (by kernel_rfl) (by kernel_rfl) rfl rfl (Gh.le.refl _) (by repeat ((exact List.Sublist.refl _))) ?_ ?_; (focus (repeat' ((exact trivial)))); refine x_done (by kernel_rfl) (k_bk ?_))); rotate_left 1; (focus (refine x_opg rfl rfl ?_; ((refine c_rt rfl rfl rfl (c_l3Text ?_) rfl ?_; (focus (((simp; omega)); done)))); refine x_ks (by (exact Gh.le.refl _)) (by repeat ((exact List.Sublist.refl _))) (listed' := (bts 16 8159)) (by kernel_rfl) ?_; refine x_all [5] (by kernel_rfl) (by decide) ⟨?_, trivial⟩; refine x_opg rfl rfl ?_; ((refine c_bx rfl rfl rfl fun _ => ?_)); refine x_ks (by (exact Gh.le.refl _)) (by repeat ((exact List.nil_sublist _))) (listed' := (bts 16 8191)) (by kernel_rfl) ?_; refine x_tks (t := tb) (fuel := 0) [13, 14, 15] (bts 16 65535) (by kernel_rfl) (by kernel_rfl) rfl rfl (Gh.le.refl _) (by repeat ((exact List.Sublist.refl _))) ?_ ?_; (focus (repeat' ((exact trivial)))); refine x_done (by kernel_rfl) (k_bk ?_))); rotate_left 1))
      all_goals
        rename_i x4
        refine Nx.sealC (b := x4) fun G2 hG2 hsy => ?_
        refine k_rr (vs := [_, _, _]) rfl ⟨rfl, rfl, rfl, trivial⟩ rfl (List.nil_sublist _) ⟨hG2, rfl, ?_⟩
        rw [oneOf_three]
        rw [e3] at hsy
        rw [e3]
        refine ⟨_, _, _, rfl, fun h => ?_, fun h => ?_⟩
        · have htk := hq.2 h
          rw [htk] at hsy
          have hdr : (c :: r).drop (min (i + 2) (r.length + 1)) = r.drop (i + 1) := by
            rcases Nat.lt_or_ge i r.length with h2 | h2
            · rw [show min (i + 2) (r.length + 1) = (i + 1) + 1 by omega]; rfl
            · rw [List.drop_eq_nil_of_le (by simp; omega), List.drop_eq_nil_of_le (by omega)]
          exact ⟨_, x4, rfl, by rw [hq.1, if_pos h, hdr], .leaf 116 _ _ _ _ hsy (.inr (.inl ⟨rfl, rfl, rfl⟩))⟩
        · rw [hq.1, if_neg (by rw [h]; decide)]
    · have h39' : ¬ bt (c :: r) (((i + 1 : Nat) : Int)).toNat = 39 := by rw [hb]; exact h39
      repeat' (first | (refine run (t := tb) 400 rfl ?_ ?_; (focus (repeat' (first | exact trivial | apply And.intro | omega)))) | (refine k_op rfl ?_; (refine v_op (g_pickT rfl rfl ?_) rfl rfl ?_; (focus (((rfl)); done)))) | (refine k_gt rfl rfl ?_ ?_; (focus (((refine decide_eq_true ?_; (omega))); done))) | (refine k_tt rfl ?_ ?_; (focus (((refine decide_eq_true ?_; (omega))); done))))
      refine Nx.re (d := 9) (v' := I (i + 1 + 1 : Nat)) rfl (congrArg (Value.int .i64) (by omega)) ?_
      exact k_rd (i + 1) ⟨by omega, fun j hj => (by
        rcases Nat.lt_or_ge j i with h | h
        · exact hi1 j h
        · have : j = i := by omega
          subst this; exact h39)⟩ (by omega) (by repeat (first | exact trivial | refine ⟨rfl, ?_⟩)) rfl (by repeat ((exact List.Sublist.refl _)))
  · have hq := quote_take (c := c) hi0 hi1 (.inl (by omega))
    have e3 : (min ((((i + 1 : Nat) : Int)) + 1) ((((c :: r).length : Nat) : Int))).toNat = min (i + 2) (r.length + 1) := by omega
    have cx_tx := c_l3Text (G := G) (s := (c :: r).take (min ((((i + 1 : Nat) : Int)) + 1) ((((c :: r).length : Nat) : Int))).toNat) (by rw [List.length_take]; omega)
    repeat' (first | (refine run (t := tb) 400 rfl ?_ ?_; (focus (repeat' (first | exact trivial | apply And.intro | omega)))) | (refine k_op rfl ?_; first | (refine v_op (g_pickF rfl rfl ?_) rfl rfl ?_; (focus (((rfl)); done))) | refine v_op (g_min rfl rfl) rfl rfl ?_) | (refine k_gf rfl rfl ?_ ?_; (focus (((refine decide_eq_false ?_; (omega))); done))) | (refine k_ff rfl ?_ ?_; (focus (((rfl)); done))) | (refine k_any (s_any (id := 12) _ (fun _ h => h) mixed ?_); refine x_tks (t := tb) (fuel := 6) [0, 1, 2, 3, 6, 7, 8, 9, 10, 11] (bts 16 4047) (by kernel_rfl) (by kernel_rfl) rfl rfl (Gh.le.refl _) (by repeat ((exact List.Sublist.refl _))) ?_ ?_; (focus (repeat' (first | exact trivial | apply And.intro | omega))); ((refine (x_tkg (bts 16 4063) 4 rfl (by kernel_rfl) rfl (Gh.le.refl _) (by repeat ((exact List.Sublist.refl _)))) (g_bld rfl rfl) rfl rfl ?_)); refine x_all [5, 12] (by kernel_rfl) (by decide) ⟨?_, ?_, trivial⟩; (focus (refine x_opg rfl rfl ?_; ((refine c_bx rfl rfl rfl fun _ => ?_)); refine x_ks (by (exact Gh.le.refl _)) (by repeat ((exact List.nil_sublist _))) (listed' := (bts 16 4095)) (by kernel_rfl) ?_; refine x_all [12] (by kernel_rfl) (by decide) ⟨?_, trivial⟩; refine x_opg rfl rfl ?_; ((refine c_rt rfl rfl rfl (c_l3Text ?_) rfl ?_; (focus (((simp; omega)); done)))); refine x_ks (by (exact Gh.le.refl _)) (by repeat ((exact List.Sublist.refl _))) (listed' := (bts 16 8191)) (by kernel_rfl) ?_; refine x_tks (t := tb) (fuel := 0) [13, 14, 15] (bts 16 65535) (by kernel_rfl) (by kernel_rfl) rfl rfl (Gh.le.refl _) (by repeat ((exact List.Sublist.refl _))) ?_ ?_; (focus (repeat' ((exact trivial)))); refine x_done (by kernel_rfl) (k_bk ?_))); rotate_left 1; (focus (refine x_opg rfl rfl ?_; ((refine c_rt rfl rfl rfl (c_l3Text ?_) rfl ?_; (focus (((simp; omega)); done)))); refine x_ks (by (exact Gh.le.refl _)) (by repeat ((exact List.Sublist.refl _))) (listed' := (bts 16 8159)) (by kernel_rfl) ?_; refine x_all [5] (by kernel_rfl) (by decide) ⟨?_, trivial⟩; refine x_opg rfl rfl ?_; ((refine c_bx rfl rfl rfl fun _ => ?_)); refine x_ks (by (exact Gh.le.refl _)) (by repeat ((exact List.nil_sublist _))) (listed' := (bts 16 8191)) (by kernel_rfl) ?_; refine x_tks (t := tb) (fuel := 0) [13, 14, 15] (bts 16 65535) (by kernel_rfl) (by kernel_rfl) rfl rfl (Gh.le.refl _) (by repeat ((exact List.Sublist.refl _))) ?_ ?_; (focus (repeat' ((exact trivial)))); refine x_done (by kernel_rfl) (k_bk ?_))); rotate_left 1))
    all_goals
      rename_i x4
      refine Nx.sealC (b := x4) fun G2 hG2 hsy => ?_
      refine k_rr (vs := [_, _, _]) rfl ⟨rfl, rfl, rfl, trivial⟩ rfl (List.nil_sublist _) ⟨hG2, rfl, ?_⟩
      rw [oneOf_three]
      rw [e3] at hsy
      rw [e3]
      refine ⟨_, _, _, rfl, fun h => ?_, fun h => ?_⟩
      · have htk := hq.2 h
        rw [htk] at hsy
        have hdr : (c :: r).drop (min (i + 2) (r.length + 1)) = r.drop (i + 1) := by
          rcases Nat.lt_or_ge i r.length with h2 | h2
          · rw [show min (i + 2) (r.length + 1) = (i + 1) + 1 by omega]; rfl
          · rw [List.drop_eq_nil_of_le (by simp; omega), List.drop_eq_nil_of_le (by omega)]
        exact ⟨_, x4, rfl, by rw [hq.1, if_pos h, hdr], .leaf 116 _ _ _ _ hsy (.inr (.inl ⟨rfl, rfl, rfl⟩))⟩
      · rw [hq.1, if_neg (by rw [h]; decide)]
theorem c_plainF {u : Value} {ts : List Ty} {s : List UInt8} (hu : u.oneCell' = true) (hs : s.length ≤ 1000000) : FnS Tryz.prog 21 [Ag [u], S s, S [102]] G (ReadP ts (rdFlag s) [102]) := by
  have hpf : ∀ l : List UInt8, l.isPrefixOf s = true ↔ l.length ≤ s.length ∧ s.take l.length = l := fun l => by
    rw [List.isPrefixOf_iff_prefix]
    constructor
    · rintro ⟨t, rfl⟩; simp
    · rintro ⟨h1, h2⟩; exact ⟨s.drop l.length, by rw [show l ++ s.drop l.length = s.take l.length ++ s.drop l.length from by rw [h2]]; exact List.take_append_drop _ _⟩
  refine b_enter [(0, _), (1, _), (2, _)] Tryz.func21 (by kernel_rfl) Tryz.ntmps21 rfl rfl (by repeat (first | exact trivial | refine ⟨rfl, ?_⟩)) fun B hok hB hW => ?_
  repeat' (first | (refine run (t := tb) 400 rfl ?_ ?_; (focus (repeat' ((exact trivial))))) | (refine k_op rfl ?_; first | refine c_bx rfl rfl rfl fun _ => ?_ | refine c_bsl rfl rfl rfl rfl rfl rfl fun _ => ?_ | refine v_op (g_lenL rfl) rfl rfl ?_) | (refine k_ff rfl ?_ ?_; (focus (((rfl)); done))))
  rename_i x3 x4
  refine k_loop (ι := Nat) (fun i => i ≤ 2 ∧ (1 ≤ i → ([121, 101, 115] : List UInt8).isPrefixOf s = false) ∧ (2 ≤ i → ([110, 111] : List UInt8).isPrefixOf s = false)) (fun i => [(1, S s), (2, S [102]), (68, .slice (some ⟨x4, 0, none⟩) 2 2), (69, I (2 : Nat)), (70, I i)]) (fun _ => G) (fun i => [.blk x4 (.cells (List.toArray [S [121, 101, 115], S [110, 111]]) tSt2 (0, 0))]) (fun i => 2 - i) 0 ?_ (by repeat (first | exact trivial | refine ⟨rfl, ?_⟩)) rfl (by repeat (first | exact List.nil_sublist _ | apply List.Sublist.cons_cons)) (fun i Hi => ?_)
  · exact ⟨Nat.zero_le _, fun h => absurd h (by omega), fun h => absurd h (by omega)⟩
  obtain ⟨hi0, hi1, hi2⟩ := Hi
  have h3 : i = 0 ∨ i = 1 ∨ i = 2 := by omega
  rcases h3 with rfl | rfl | rfl
  · cases hp : ([121, 101, 115] : List UInt8).isPrefixOf s with
    | true =>
      obtain ⟨h1, h2⟩ := (hpf _).1 hp
      have h1' : (((([121, 101, 115] : List UInt8).length : Nat) : Int)) ≤ s.length := by omega
      have h2' : s.take (((([121, 101, 115] : List UInt8).length : Nat) : Int)).toNat = [121, 101, 115] := h2
      repeat' (first | (refine run (t := tb) 400 rfl ?_ ?_; (focus (repeat' (first | exact trivial | apply And.intro | omega)))) | (refine k_op rfl ?_; first | (refine v_op (g_pickT rfl rfl ?_) rfl rfl ?_; (focus (((rfl)); done))) | (refine v_op (g_iaddrN rfl rfl ?_) rfl rfl ?_; (focus ((omega); done))) | refine v_op (g_ld rfl rfl rfl) rfl rfl ?_) | (refine k_gt rfl rfl ?_ ?_; (focus (((refine decide_eq_true ?_; (assumption))); done))) | (refine k_tt rfl ?_ ?_; (focus ((first | rfl | (refine decide_eq_true ?_; (assumption))); done))) | (refine k_any (s_any (id := 17) _ (fun _ h => h) mixed ?_); refine x_tks (t := tb) (fuel := 5) [0, 1, 4, 5, 6, 7] (bts 11 243) (by kernel_rfl) (by kernel_rfl) rfl rfl (Gh.le.refl _) (by repeat ((exact List.Sublist.refl _))) ?_ ?_; (focus (repeat' (first | exact trivial | apply And.intro | omega))); ((refine (x_tkg (bts 11 247) 2 rfl (by kernel_rfl) rfl (Gh.le.refl _) (by repeat ((exact List.Sublist.refl _)))) (g_bld rfl rfl) rfl rfl ?_)); refine x_all [3] (by kernel_rfl) (by decide) ⟨?_, trivial⟩; refine x_opg rfl rfl ?_; ((refine c_bx rfl rfl rfl fun _ => ?_)); refine x_ks (by (exact Gh.le.refl _)) (by repeat (first | exact List.Sublist.refl _ | apply List.Sublist.cons)) (listed' := (bts 11 255)) (by kernel_rfl) ?_; refine x_tks (t := tb) (fuel := 0) [8, 9, 10] (bts 11 2047) (by kernel_rfl) (by kernel_rfl) rfl rfl (Gh.le.refl _) (by repeat ((exact List.Sublist.refl _))) ?_ ?_; (focus (repeat' ((exact trivial)))); refine x_done (by kernel_rfl) (k_bk ?_)))
      all_goals
        rename_i y
        refine Nx.sealC (b := y) fun G2 hG2 hsy => ?_
        refine k_rr (vs := [_, _, _]) rfl ⟨rfl, rfl, rfl, trivial⟩ rfl (List.nil_sublist _) ⟨hG2, rfl, ?_⟩
        rw [oneOf_three]
        exact ⟨_, _, _, rfl, fun _ => ⟨.nd 102 [121, 101, 115] 0 [], y, rfl, by unfold rdFlag; rw [hp, if_pos rfl]; rfl, .leaf 102 _ _ _ _ hsy (.inr (.inr ⟨rfl, rfl, rfl, .inl rfl⟩))⟩, fun h => (by cases h)⟩
    | false =>
      have hn : ¬ ((([121, 101, 115] : List UInt8).length : Nat) ≤ s.length ∧ s.take ([121, 101, 115] : List UInt8).length = [121, 101, 115]) := fun h => by rw [(hpf _).2 h] at hp; cases hp
      have hn' : ¬ ((((([121, 101, 115] : List UInt8).length : Nat) : Int)) ≤ s.length ∧ s.take (((([121, 101, 115] : List UInt8).length : Nat) : Int)).toNat = [121, 101, 115]) := fun h => hn ⟨by omega, h.2⟩
      by_cases h1' : (((([121, 101, 115] : List UInt8).length : Nat) : Int)) ≤ s.length
      · have h2' : ¬ s.take (((([121, 101, 115] : List UInt8).length : Nat) : Int)).toNat = [121, 101, 115] := fun h => hn' ⟨h1', h⟩
        repeat' (first | (refine run (t := tb) 400 rfl ?_ ?_; (focus (repeat' (first | exact trivial | apply And.intro | omega)))) | (refine k_op rfl ?_; first | (refine v_op (g_pickT rfl rfl ?_) rfl rfl ?_; (focus (((rfl)); done))) | (refine v_op (g_iaddrN rfl rfl ?_) rfl rfl ?_; (focus ((omega); done))) | refine v_op (g_ld rfl rfl rfl) rfl rfl ?_) | (refine k_gt rfl rfl ?_ ?_; (focus (((refine decide_eq_true ?_; (assumption))); done))) | (refine k_tt rfl ?_ ?_; (focus (((rfl)); done))) | (refine k_ff rfl ?_ ?_; (focus (((refine decide_eq_false ?_; (assumption))); done))))
        exact k_rd 1 ⟨by omega, fun _ => rfl, fun h => absurd h (by omega)⟩ (by omega) (by repeat (first | exact trivial | refine ⟨rfl, ?_⟩)) rfl (by repeat ((exact List.Sublist.refl _)))
      · repeat' (first | (refine run (t := tb) 400 rfl ?_ ?_; (focus (repeat' (first | exact trivial | apply And.intro | omega)))) | (refine k_op rfl ?_; first | (refine v_op (g_pickF rfl rfl ?_) rfl rfl ?_; (focus (((rfl)); done))) | (refine v_op (g_iaddrN rfl rfl ?_) rfl rfl ?_; (focus ((omega); done))) | refine v_op (g_ld rfl rfl rfl) rfl rfl ?_) | (refine k_gf rfl rfl ?_ ?_; (focus (((refine decide_eq_false ?_; (assumption))); done))) | (refine k_tt rfl ?_ ?_; (focus (((rfl)); done))) | (refine k_ff rfl ?_ ?_; (focus (((rfl)); done))))
        exact k_rd 1 ⟨by omega, fun _ => rfl, fun h => absurd h (by omega)⟩ (by omega) (by repeat (first | exact trivial | refine ⟨rfl, ?_⟩)) rfl (by repeat ((exact List.Sublist.refl _)))
  · have hy := hi1 (Nat.le_refl _)
    cases hp : ([110, 111] : List UInt8).isPrefixOf s with
    | true =>
      obtain ⟨h1, h2⟩ := (hpf _).1 hp
      have h1' : (((([110, 111] : List UInt8).length : Nat) : Int)) ≤ s.length := by omega
      have h2' : s.take (((([110, 111] : List UInt8).length : Nat) : Int)).toNat = [110, 111] := h2
      repeat' (first | (refine run (t := tb) 400 rfl ?_ ?_; (focus (repeat' (first | exact trivial | apply And.intro | omega)))) | (refine k_op rfl ?_; first | (refine v_op (g_pickT rfl rfl ?_) rfl rfl ?_; (focus (((rfl)); done))) | (refine v_op (g_iaddrN rfl rfl ?_) rfl rfl ?_; (focus ((omega); done))) | refine v_op (g_ld rfl rfl rfl) rfl rfl ?_) | (refine k_gt rfl rfl ?_ ?_; (focus (((refine decide_eq_true ?_; (assumption))); done))) | (refine k_tt rfl ?_ ?_; (focus ((first | rfl | (refine decide_eq_true ?_; (assumption))); done))) | (refine k_any (s_any (id := 17) _ (fun _ h => h) mixed ?_); refine x_tks (t := tb) (fuel := 5) [0, 1, 4, 5, 6, 7] (bts 11 243) (by kernel_rfl) (by kernel_rfl) rfl rfl (Gh.le.refl _) (by repeat ((exact List.Sublist.refl _))) ?_ ?_; (focus (repeat' (first | exact trivial | apply And.intro | omega))); ((refine (x_tkg (bts 11 247) 2 rfl (by kernel_rfl) rfl (Gh.le.refl _) (by repeat ((exact List.Sublist.refl _)))) (g_bld rfl rfl) rfl rfl ?_)); refine x_all [3] (by kernel_rfl) (by decide) ⟨?_, trivial⟩; refine x_opg rfl rfl ?_; ((refine c_bx rfl rfl rfl fun _ => ?_)); refine x_ks (by (exact Gh.le.refl _)) (by repeat (first | exact List.Sublist.refl _ | apply List.Sublist.cons)) (listed' := (bts 11 255)) (by kernel_rfl) ?_; refine x_tks (t := tb) (fuel := 0) [8, 9, 10] (bts 11 2047) (by kernel_rfl) (by kernel_rfl) rfl rfl (Gh.le.refl _) (by repeat ((exact List.Sublist.refl _))) ?_ ?_; (focus (repeat' ((exact trivial)))); refine x_done (by kernel_rfl) (k_bk ?_)))
      all_goals
        rename_i y
        refine Nx.sealC (b := y) fun G2 hG2 hsy => ?_
        refine k_rr (vs := [_, _, _]) rfl ⟨rfl, rfl, rfl, trivial⟩ rfl (List.nil_sublist _) ⟨hG2, rfl, ?_⟩
        rw [oneOf_three]
        exact ⟨_, _, _, rfl, fun _ => ⟨.nd 102 [110, 111] 0 [], y, rfl, by unfold rdFlag; rw [hy, if_neg (by decide), hp, if_pos rfl]; rfl, .leaf 102 _ _ _ _ hsy (.inr (.inr ⟨rfl, rfl, rfl, .inr rfl⟩))⟩, fun h => (by cases h)⟩
    | false =>
      have hn : ¬ ((([110, 111] : List UInt8).length : Nat) ≤ s.length ∧ s.take ([110, 111] : List UInt8).length = [110, 111]) := fun h => by rw [(hpf _).2 h] at hp; cases hp
      have hn' : ¬ ((((([110, 111] : List UInt8).length : Nat) : Int)) ≤ s.length ∧ s.take (((([110, 111] : List UInt8).length : Nat) : Int)).toNat = [110, 111]) := fun h => hn ⟨by omega, h.2⟩
      by_cases h1' : (((([110, 111] : List UInt8).length : Nat) : Int)) ≤ s.length
      · have h2' : ¬ s.take (((([110, 111] : List UInt8).length : Nat) : Int)).toNat = [110, 111] := fun h => hn' ⟨h1', h⟩
        repeat' (first | (refine run (t := tb) 400 rfl ?_ ?_; (focus (repeat' (first | exact trivial | apply And.intro | omega)))) | (refine k_op rfl ?_; first | (refine v_op (g_pickT rfl rfl ?_) rfl rfl ?_; (focus (((rfl)); done))) | (refine v_op (g_iaddrN rfl rfl ?_) rfl rfl ?_; (focus ((omega); done))) | refine v_op (g_ld rfl rfl rfl) rfl rfl ?_) | (refine k_gt rfl rfl ?_ ?_; (focus (((refine decide_eq_true ?_; (assumption))); done))) | (refine k_tt rfl ?_ ?_; (focus (((rfl)); done))) | (refine k_ff rfl ?_ ?_; (focus (((refine decide_eq_false ?_; (assumption))); done))))
        exact k_rd 2 ⟨by omega, fun _ => hy, fun _ => rfl⟩ (by omega) (by repeat (first | exact trivial | refine ⟨rfl, ?_⟩)) rfl (by repeat ((exact List.Sublist.refl _)))
      · repeat' (first | (refine run (t := tb) 400 rfl ?_ ?_; (focus (repeat' (first | exact trivial | apply And.intro | omega)))) | (refine k_op rfl ?_; first | (refine v_op (g_pickF rfl rfl ?_) rfl rfl ?_; (focus (((rfl)); done))) | (refine v_op (g_iaddrN rfl rfl ?_) rfl rfl ?_; (focus ((omega); done))) | refine v_op (g_ld rfl rfl rfl) rfl rfl ?_) | (refine k_gf rfl rfl ?_ ?_; (focus (((refine decide_eq_false ?_; (assumption))); done))) | (refine k_tt rfl ?_ ?_; (focus (((rfl)); done))) | (refine k_ff rfl ?_ ?_; (focus (((rfl)); done))))
        exact k_rd 2 ⟨by omega, fun _ => hy, fun _ => rfl⟩ (by omega) (by repeat (first | exact trivial | refine ⟨rfl, ?_⟩)) rfl (by repeat ((exact List.Sublist.refl _)))
  · repeat' (first | (refine run (t := tb) 400 rfl ?_ ?_; (focus (repeat' ((exact trivial))))) | (refine k_ff rfl ?_ ?_; (focus (((rfl)); done))))
    refine k_rr (vs := [_, _, _]) rfl ⟨rfl, rfl, rfl, trivial⟩ rfl (List.nil_sublist _) ⟨Gh.le.refl _, rfl, ?_⟩
    rw [oneOf_three]
    exact ⟨_, _, _, rfl, fun h => (by cases h), fun _ => by unfold rdFlag; rw [hi1 (by omega), if_neg (by decide), hi2 (by omega), if_neg (by decide)]⟩
theorem c_tag {u : Value} {x : TyX} {s : List UInt8} (hs : s.length ≤ 1000000) (hu : u.oneCell' = true) (hf : SlV G (slX x) 4 x.2.fields.length (rows fldF x.2.fields)) (hl : x.2.fields.length ≤ 1000) :
    PuG Tryz.prog 33 [Ag [u], S s, Ag (tyF x)] G (fun v => ∃ n, v = Tu [Ag (fldF ((fldT x.2.fields n).getD zF)), S (s.dropWhile isDg), Bo ((numOf (s.takeWhile isDg) 200).isSome && (fldT x.2.fields n).isSome)] ∧ ∀ m, numOf (s.takeWhile isDg) 200 = some m → n = m) := by
  have cx_dg := c_digits (G := G) hs
  obtain ⟨e1, e2⟩ := take_while isDg s
  have hwl := while_len isDg s
  have hlen : (s.take ((((s.takeWhile isDg).length : Nat) : Int)).toNat).length ≤ 100000000 := by rw [e1]; omega
  simp only [tyF]
  refine p_enter [(0, _), (1, _), (2, _)] Tryz.func33 (by kernel_rfl) Tryz.ntmps33 rfl rfl (by repeat (first | exact trivial | refine ⟨rfl, ?_⟩)) fun B hB => ?_
  repeat' (first | (refine run (t := tb) 400 rfl ?_ ?_; (focus (repeat' (first | exact trivial | apply And.intro | omega)))) | (refine k_op rfl ?_; first | refine c_bx rfl rfl rfl fun _ => ?_ | refine c_al rfl rfl fun _ => ?_ | refine v_op (g_ldA rfl rfl rfl rfl) rfl rfl ?_ | (refine c_rt rfl rfl rfl cx_dg rfl ?_) | (refine c_pu rfl rfl rfl (c_l3Num (by omega)) rfl ?_; rintro _ ⟨n, rfl, hnum⟩)))
  rename_i n
  have cx_fld := c_fieldS (G := G) (tag := n) hf hl
  rw [e1] at hnum
  cases hm : (numOf (s.take ((((s.takeWhile isDg).length : Nat) : Int)).toNat) 200).isSome with
  | false =>
    repeat' (first | (refine run (t := tb) 400 rfl ?_ ?_; (focus (repeat' ((exact trivial))))) | (refine k_op rfl ?_; first | refine c_al rfl rfl fun _ => ?_ | refine c_stA rfl rfl rfl rfl rfl rfl ?_ | (refine c_rt rfl rfl rfl cx_fld rfl ?_)) | (refine k_any (s_anyD (id := 4) (tt := 6) rfl mixed ?_); refine x_tks (t := tb) (fuel := 6) [1, 2, 3, 4, 5] (bts 11 62) (by kernel_rfl) (by kernel_rfl) rfl rfl (Gh.le.refl _) (by repeat (first | exact List.Sublist.refl _ | apply List.Sublist.cons_cons | apply List.Sublist.cons)) ?_ ?_; (focus (repeat' (first | exact trivial | apply And.intro | omega))); (try ((refine Nx.re (d := 34) (v' := Bo false) rfl (congrArg Value.bool ?_) ?_; (focus (((rfl)); done))))); refine x_tks (t := tb) (fuel := 5) [6] (bts 11 126) (by kernel_rfl) (by kernel_rfl) rfl rfl (Gh.le.refl _) (by repeat (first | exact List.Sublist.refl _ | apply List.Sublist.cons_cons | apply List.Sublist.cons)) ?_ ?_; (focus (repeat' ((exact trivial)))); ((refine (x_tkg (bts 11 127) 0 rfl (by kernel_rfl) rfl (Gh.le.refl _) (by repeat (first | exact List.Sublist.refl _ | apply List.Sublist.cons_cons | apply List.Sublist.cons))) (g_ldA rfl rfl rfl rfl) rfl rfl ?_)); ((refine (x_tkg (bts 11 255) 7 rfl (by kernel_rfl) rfl (Gh.le.refl _) (by repeat (first | exact List.Sublist.refl _ | apply List.Sublist.cons_cons | apply List.Sublist.cons))) (g_pickF rfl rfl ?_) rfl rfl ?_; (focus (((rfl)); done)))); refine x_all [8] (by kernel_rfl) (by decide) ⟨?_, trivial⟩; refine x_opg rfl rfl ?_; ((refine c_stA rfl rfl rfl rfl rfl rfl ?_)); refine x_kk (by (exact Gh.le.refl _)) (by repeat (first | exact List.Sublist.refl _ | apply List.Sublist.cons_cons | apply List.Sublist.cons)) (listed' := (bts 11 511)) (by kernel_rfl) ?_; refine x_tks (t := tb) (fuel := 0) [9, 10] (bts 11 2047) (by kernel_rfl) (by kernel_rfl) rfl rfl (Gh.le.refl _) (by repeat (first | exact List.Sublist.refl _ | apply List.Sublist.cons_cons | apply List.Sublist.cons)) ?_ ?_; (focus (repeat' ((exact trivial)))); refine x_done (by kernel_rfl) (k_bk ?_)))
    all_goals refine k_rr (vs := [_, _, _]) rfl ⟨rc_A rfl rfl rfl rfl, rfl, rfl, trivial⟩ rfl (List.nil_sublist _) ⟨rfl, rfl, ?_⟩
    all_goals (rw [oneOf_three]; exact ⟨n, by rw [e1] at hm; rw [hm, e2]; rfl, hnum⟩)
  | true =>
    repeat' (first | (refine run (t := tb) 400 rfl ?_ ?_; (focus (repeat' ((exact trivial))))) | (refine k_op rfl ?_; first | refine c_al rfl rfl fun _ => ?_ | refine c_stA rfl rfl rfl rfl rfl rfl ?_ | (refine c_rt rfl rfl rfl cx_fld rfl ?_)) | (refine k_any (s_anyD (id := 4) (tt := 6) rfl mixed ?_); refine x_tks (t := tb) (fuel := 6) [1, 2, 3, 4, 5] (bts 11 62) (by kernel_rfl) (by kernel_rfl) rfl rfl (Gh.le.refl _) (by repeat (first | exact List.Sublist.refl _ | apply List.Sublist.cons_cons | apply List.Sublist.cons)) ?_ ?_; (focus (repeat' (first | exact trivial | apply And.intro | omega))); (try ((refine Nx.re (d := 34) (v' := Bo true) rfl (congrArg Value.bool ?_) ?_; (focus (((rfl)); done))))); refine x_tks (t := tb) (fuel := 5) [6] (bts 11 126) (by kernel_rfl) (by kernel_rfl) rfl rfl (Gh.le.refl _) (by repeat (first | exact List.Sublist.refl _ | apply List.Sublist.cons_cons | apply List.Sublist.cons)) ?_ ?_; (focus (repeat' ((exact trivial)))); ((refine (x_tkg (bts 11 127) 0 rfl (by kernel_rfl) rfl (Gh.le.refl _) (by repeat (first | exact List.Sublist.refl _ | apply List.Sublist.cons_cons | apply List.Sublist.cons))) (g_ldA rfl rfl rfl rfl) rfl rfl ?_)); ((refine (x_tkg (bts 11 255) 7 rfl (by kernel_rfl) rfl (Gh.le.refl _) (by repeat (first | exact List.Sublist.refl _ | apply List.Sublist.cons_cons | apply List.Sublist.cons))) (g_pickT rfl rfl ?_) rfl rfl ?_; (focus (((rfl)); done)))); refine x_all [8] (by kernel_rfl) (by decide) ⟨?_, trivial⟩; refine x_opg rfl rfl ?_; ((refine c_stA rfl rfl rfl rfl rfl rfl ?_)); refine x_kk (by (exact Gh.le.refl _)) (by repeat (first | exact List.Sublist.refl _ | apply List.Sublist.cons_cons | apply List.Sublist.cons)) (listed' := (bts 11 511)) (by kernel_rfl) ?_; refine x_tks (t := tb) (fuel := 0) [9, 10] (bts 11 2047) (by kernel_rfl) (by kernel_rfl) rfl rfl (Gh.le.refl _) (by repeat (first | exact List.Sublist.refl _ | apply List.Sublist.cons_cons | apply List.Sublist.cons)) ?_ ?_; (focus (repeat' ((exact trivial)))); refine x_done (by kernel_rfl) (k_bk ?_)))
    all_goals refine k_rr (vs := [_, _, _]) rfl ⟨rc_A rfl rfl rfl rfl, rfl, rfl, trivial⟩ rfl (List.nil_sublist _) ⟨rfl, rfl, ?_⟩
    all_goals (rw [oneOf_three]; exact ⟨n, by rw [e1] at hm; rw [hm, e2]; rfl, hnum⟩)
end Go.E
/-! Xb -/
namespace Go.E
set_option maxRecDepth 20000
set_option maxHeartbeats 2000000
open Go.Proofs
variable {G : Gh}
def OutB (v : V) : Prop := v.out.length + 1 ≤ 2 * v.tot
theorem outB_outs : ∀ {ks : List V}, (∀ v ∈ ks, OutB v) → lensT (V.outs ks) + ks.length ≤ 2 * V.tots ks
  | [], _ => by simp [V.outs, lensT]
  | v :: r, h => by
    have h1 := h v (.head _)
    have h2 := outB_outs fun u hu => h u (.tail _ hu)
    unfold OutB at h1
    simp only [V.outs, lensT, List.map_cons, List.sum_cons, V.tots, List.length_cons] at *
    omega
theorem outB_nd {w : Nat} {x : List UInt8} {t : Int} {ks : List V} (h : ∀ v ∈ ks, OutB v) (ht : t ≤ 999999) : OutB (.nd w x t ks) := by
  have h1 := outB_outs h
  have h2 := joinB_len 44 (V.outs ks)
  rw [outs_len] at h2
  have h4 := outW_len (w := w) (x := x) (e := ks.isEmpty) (j := joinB 44 (V.outs ks)) ht
  have h5 := tots_len ks
  unfold OutB
  rw [V.out, V.tot]
  omega
theorem mem_at {α : Type} [Inhabited α] {l : List α} {x : α} (h : x ∈ l) : ∃ i, i < l.length ∧ nth l i = x := by
  obtain ⟨i, hi, rfl⟩ := List.mem_iff_getElem.1 h
  exact ⟨i, hi, nth_eq hi⟩
theorem refT_W {ts : List Ty} (hw : SchW ts) {k : List UInt8} {t : Ty} (h : refT ts k = some t) {d : Fld} (hd : d ∈ t.fields) : d.tag ≤ 999999 ∧ 0 ≤ d.tag := by
  have := ((hw.ty t (refT_mem h)).fld d hd).tag
  omega
theorem refT_64 {ts : List Ty} {k : List UInt8} {t : Ty} (h : refT ts k = some t) : ∃ r, k = 64 :: r := by
  unfold refT at h
  cases k with
  | nil => cases h
  | cons c r =>
    unfold refN at h
    dsimp only at h
    by_cases h64 : c.toNat = 64
    · exact ⟨r, by rw [show c = 64 from UInt8.toNat_inj.1 h64]⟩
    · rw [if_neg h64] at h; cases h
theorem outR {ts : List Ty} (hw : SchW ts) {v : V} {k : List UInt8} {b : Nat} (h : RepR G ts v k b) : OutB v := by
  induction h with
  | leaf w x k tx b h1 h2 => exact outB_nd (by simp) (by decide)
  | lst k b ks bs a c h1 h2 h3 _ ih =>
    exact outB_nd (fun v hv => by obtain ⟨i, hi, rfl⟩ := mem_at hv; exact ih i hi) (by decide)
  | non k b h1 => exact outB_nd (by simp) (by decide)
  | opt k b kb b' v h1 h2 _ ih => exact outB_nd (fun u hu => by simp only [List.mem_singleton] at hu; subst hu; exact ih) (by decide)
  | recd k b t fs bs a a2 c c2 h0 h1 h2 h3 h4 h5 _ ih =>
    refine outB_nd (fun v hv => ?_) (by decide)
    obtain ⟨p, hp, rfl⟩ := List.mem_map.1 hv
    obtain ⟨i, hi, rfl⟩ := mem_at hp
    exact outB_nd (fun u hu => by simp only [List.mem_singleton] at hu; subst hu; exact ih i hi) (refT_W hw h0 (h5 i hi)).1
  | enm k b tgb t d h0 h1 h2 h3 => exact outB_nd (by simp) (refT_W hw h0 h1).1
  | uni k b tgb kb b' t d v h0 h1 h2 h3 h4 _ ih => exact outB_nd (fun u hu => by simp only [List.mem_singleton] at hu; subst hu; exact ih) (refT_W hw h0 h1).1
theorem joinB_step {c : UInt8} {xs : List (List UInt8)} {i : Nat} (h : i < xs.length) : joinB c (xs.take (i + 1)) = if 0 < i then joinB c (xs.take i) ++ c :: nth xs i else nth xs i := by
  rw [take_nth h]
  by_cases hi : 0 < i
  · rw [if_pos hi, joinB_snoc]
    rw [ne_eq, List.take_eq_nil_iff]
    rintro (h0 | h0)
    · omega
    · subst h0; simp at h
  · have : i = 0 := by omega
    subst this; rfl
theorem c_outS {ts : List Ty} (hw : SchW ts) {v : V} {k : List UInt8} {b : Nat} (h : RepR G ts v k b) : v.tot ≤ 100000 → PuG Tryz.prog 56 [Pt b 0] G (· = S v.out) := by
  induction h with
  | leaf w x k tx b h1 h2 =>
    intro _
    rcases h2 with ⟨rfl, rfl, rfl, _⟩ | ⟨rfl, rfl, rfl⟩ | ⟨rfl, rfl, rfl, _⟩
    all_goals
      refine p_enter [(0, _)] Tryz.func56 (by kernel_rfl) Tryz.ntmps56 rfl rfl (by repeat (first | exact trivial | refine ⟨rfl, ?_⟩)) fun B hB => ?_
      repeat' (first | (refine run (t := tb) 400 rfl ?_ ?_; (focus (repeat' (first | exact trivial | apply And.intro | omega | (simp only [List.length_append, List.length_cons, List.length_nil, Int.toNat_natCast]; omega))))) | (refine k_op rfl ?_; (refine v_op (g_ldS rfl rfl (by assumption) rfl rfl) rfl rfl ?_)) | (refine k_ff rfl ?_ ?_; (focus (((rfl)); done))))
      refine k_rr (vs := [_]) rfl ⟨rfl, trivial⟩ rfl (List.nil_sublist _) ⟨rfl, rfl, ?_⟩
      rw [oneOf_one, V.out]; rfl
  | lst k b ks bs a c h1 h2 h3 hk ih =>
    intro ht
    rw [nd_tot] at ht
    have hb := outB_outs (ks := ks) fun v hv => by obtain ⟨i, hi, rfl⟩ := mem_at hv; exact outR hw (hk i hi)
    have hol := outs_len ks
    refine p_enter [(0, _)] Tryz.func56 (by kernel_rfl) Tryz.ntmps56 rfl rfl (by repeat (first | exact trivial | refine ⟨rfl, ?_⟩)) fun B hB => ?_
    repeat' (first | (refine run (t := tb) 400 rfl ?_ ?_; (focus (repeat' (first | exact trivial | apply And.intro | omega | (simp only [List.length_append, List.length_cons, List.length_nil, Int.toNat_natCast]; omega))))) | (refine k_op rfl ?_; (refine v_op (g_ldS rfl rfl (by assumption) rfl rfl) rfl rfl ?_)) | (refine k_tt rfl ?_ ?_; (focus (((rfl)); done))))
    refine k_loop (ι := Nat) (fun i => i ≤ ks.length) (fun i => [(0, Pt b 0), (3, S (91 :: joinB 44 ((V.outs ks).take i))), (4, I i)]) (fun _ => G) (fun i => []) (fun i => ks.length - i) 0 ?_ (by repeat (first | exact trivial | refine ⟨rfl, ?_⟩)) rfl (by repeat ((exact List.Sublist.refl _))) (fun i Hi => ?_)
    · exact Nat.zero_le _
    have hj1 := joinB_len 44 ((V.outs ks).take i)
    have hj2 := lensT_take (V.outs ks) i
    have hj3 : ((V.outs ks).take i).length ≤ ks.length := by rw [List.length_take]; omega
    by_cases hi : i < ks.length
    · have hti := tot_nth hi
      have cx_out := ih i hi (by omega)
      have hou := outs_get hi
      have hxi : nth bs i = nth bs i := rfl
      have hob := outR hw (hk i hi)
      unfold OutB at hob
      have hst := joinB_step (c := 44) (xs := V.outs ks) (i := i) (by omega)
      rw [hou] at hst
      obtain ⟨kb, ko, kc, e, hs⟩ := h2.expl (by omega)
      simp only [Value.slice.injEq] at e
      obtain ⟨rfl, -, rfl⟩ := e
      by_cases h0 : 0 < i
      · rw [if_pos h0] at hst
        repeat' (first | (refine run (t := tb) 400 rfl ?_ ?_; (focus (repeat' (first | exact trivial | apply And.intro | omega | (simp only [List.length_append, List.length_cons, List.length_nil, Int.toNat_natCast]; omega))))) | (refine k_op rfl ?_; first | refine v_op (g_ldS rfl rfl (by assumption) rfl rfl) rfl rfl ?_ | (refine v_op (g_ldR1x rfl rfl (by assumption) ?_ (by assumption) rfl) rfl rfl ?_; (focus (((omega)); done))) | refine v_op (g_lenL rfl) rfl rfl ?_ | (refine v_op (g_iaddrN rfl rfl ?_) rfl rfl ?_; (focus ((omega); done))) | (refine c_rt rfl rfl rfl cx_out rfl ?_)) | (refine k_tt rfl ?_ ?_; (focus (((refine decide_eq_true ?_; (omega))); done))))
        refine Nx.re (d := 3) (v' := S (91 :: joinB 44 ((V.outs ks).take (i + 1)))) rfl (congrArg (fun l => S l) (by rw [hst]; simp)) ?_
        exact k_rd (i + 1) (by omega) (by omega) (by repeat (first | exact trivial | refine ⟨rfl, ?_⟩)) rfl (by repeat ((exact List.Sublist.refl _)))
      · rw [if_neg h0] at hst
        have hi0 : i = 0 := by omega
        subst hi0
        repeat' (first | (refine run (t := tb) 400 rfl ?_ ?_; (focus (repeat' (first | exact trivial | apply And.intro | omega | (simp only [List.length_append, List.length_cons, List.length_nil, Int.toNat_natCast]; omega))))) | (refine k_op rfl ?_; first | (refine v_op (g_ldRFx rfl rfl (by assumption) ?_ (by assumption) rfl rfl) rfl rfl ?_; (focus (((omega)); done))) | refine v_op (g_ldS rfl rfl (by assumption) rfl rfl) rfl rfl ?_ | refine v_op (g_lenL rfl) rfl rfl ?_ | (refine v_op (g_iaddrN rfl rfl ?_) rfl rfl ?_; (focus ((omega); done))) | (refine c_rt rfl rfl rfl cx_out rfl ?_)) | (refine k_tt rfl ?_ ?_; (focus (((refine decide_eq_true ?_; (omega))); done))) | (refine k_ff rfl ?_ ?_; (focus (((rfl)); done))))
        refine Nx.re (d := 3) (v' := S (91 :: joinB 44 ((V.outs ks).take (0 + 1)))) rfl (congrArg (fun l => S l) (by rw [hst]; rfl)) ?_
        exact k_rd (0 + 1) (by omega) (by omega) (by repeat (first | exact trivial | refine ⟨rfl, ?_⟩)) rfl (by repeat ((exact List.Sublist.refl _)))
    · have hin : i = ks.length := by omega
      subst hin
      repeat' (first | (refine run (t := tb) 400 rfl ?_ ?_; (focus (repeat' (first | exact trivial | apply And.intro | (simp only [List.length_append, List.length_cons, List.length_nil, Int.toNat_natCast]; omega))))) | (refine k_op rfl ?_; first | refine v_op (g_ldS rfl rfl (by assumption) rfl rfl) rfl rfl ?_ | refine v_op (g_lenL rfl) rfl rfl ?_) | (refine k_ff rfl ?_ ?_; (focus (((refine decide_eq_false ?_; (omega))); done))))
      refine k_rr (vs := [_]) rfl ⟨rfl, trivial⟩ rfl (List.nil_sublist _) ⟨rfl, rfl, ?_⟩
      rw [oneOf_one, V.out, ← hol, List.take_length]; rfl
  | non k b h1 =>
    intro _
    refine p_enter [(0, _)] Tryz.func56 (by kernel_rfl) Tryz.ntmps56 rfl rfl (by repeat (first | exact trivial | refine ⟨rfl, ?_⟩)) fun B hB => ?_
    repeat' (first | (refine run (t := tb) 400 rfl ?_ ?_; (focus (repeat' (first | exact trivial | apply And.intro | omega | (simp only [List.length_append, List.length_cons, List.length_nil, Int.toNat_natCast]; omega))))) | (refine k_op rfl ?_; first | refine v_op (g_ldS rfl rfl (by assumption) rfl rfl) rfl rfl ?_ | refine v_op (g_lenL rfl) rfl rfl ?_) | (refine k_tt rfl ?_ ?_; (focus (((rfl)); done))) | (refine k_ff rfl ?_ ?_; (focus (((rfl)); done))))
    refine k_rr (vs := [_]) rfl ⟨rfl, trivial⟩ rfl (List.nil_sublist _) ⟨rfl, rfl, ?_⟩
    rfl
  | opt k b kb b' v h1 h2 h3 ih =>
    intro ht
    simp only [nd_tot, V.tots] at ht
    have cx_out := ih (by omega)
    have hob := outR hw h3
    unfold OutB at hob
    refine p_enter [(0, _)] Tryz.func56 (by kernel_rfl) Tryz.ntmps56 rfl rfl (by repeat (first | exact trivial | refine ⟨rfl, ?_⟩)) fun B hB => ?_
    repeat' (first | (refine run (t := tb) 400 rfl ?_ ?_; (focus (repeat' (first | exact trivial | apply And.intro | omega | (simp only [List.length_append, List.length_cons, List.length_nil, Int.toNat_natCast]; omega))))) | (refine k_op rfl ?_; first | refine v_op (g_ldS rfl rfl (by assumption) rfl rfl) rfl rfl ?_ | refine v_op (g_lenL rfl) rfl rfl ?_ | (refine v_op (g_iaddr rfl rfl ?_) rfl rfl ?_; (focus ((omega); done))) | (refine c_rt rfl rfl rfl cx_out rfl ?_)) | (refine k_tt rfl ?_ ?_; (focus (((rfl)); done))) | (refine k_ff rfl ?_ ?_; (focus (((rfl)); done))))
    refine k_rr (vs := [_]) rfl ⟨rfl, trivial⟩ rfl (List.nil_sublist _) ⟨rfl, rfl, ?_⟩
    rw [oneOf_one, V.out]; rfl
  | recd k b t fs bs a a2 c c2 h0 h1 h2 h3 h4 h5 hk ih =>
    intro ht
    obtain ⟨r, rfl⟩ := refT_64 h0
    rw [nd_tot] at ht
    have hB1 : ∀ v ∈ fs.map (fun p : Fld × V => V.nd 61 [] p.1.tag [p.2]), OutB v := fun v hv => by
      obtain ⟨p, hp, rfl⟩ := List.mem_map.1 hv
      obtain ⟨i, hi, rfl⟩ := mem_at hp
      exact outB_nd (fun u hu => by simp only [List.mem_singleton] at hu; subst hu; exact outR hw (hk i hi)) (refT_W hw h0 (h5 i hi)).1
    have hb := outB_outs hB1
    have hml : (fs.map (fun p : Fld × V => V.nd 61 [] p.1.tag [p.2])).length = fs.length := by simp
    have hol := outs_len (fs.map (fun p : Fld × V => V.nd 61 [] p.1.tag [p.2]))
    have hnt : ∀ i, i < fs.length → nth (fs.map (fun p : Fld × V => V.nd 61 [] p.1.tag [p.2])) i = V.nd 61 [] (nth fs i).1.tag [(nth fs i).2] := fun i hi => by rw [nth_eq (by simpa using hi), nth_eq hi]; simp
    generalize hKS : fs.map (fun p : Fld × V => V.nd 61 [] p.1.tag [p.2]) = KS at *
    have cx_nmd : PuG Tryz.prog 78 [Pt b 0] G (· = S (V.out (.nd 82 [] 0 KS))) := by
      refine p_enter [(0, _)] Tryz.func78 (by kernel_rfl) Tryz.ntmps78 rfl rfl (by repeat (first | exact trivial | refine ⟨rfl, ?_⟩)) fun B hB => ?_
      repeat' (first | (refine run (t := tb) 400 rfl ?_ ?_; (focus (repeat' ((exact trivial))))) | (refine k_op rfl ?_; (refine v_op (g_ldS rfl rfl (by assumption) rfl rfl) rfl rfl ?_)) | (refine k_ff rfl ?_ ?_; (focus (((rfl)); done))))
      refine k_loop (ι := Nat) (fun i => i ≤ fs.length) (fun i => [(0, Pt b 0), (3, S (123 :: joinB 44 ((V.outs KS).take i))), (4, I i)]) (fun _ => G) (fun i => []) (fun i => fs.length - i) 0 ?_ (by repeat (first | exact trivial | refine ⟨rfl, ?_⟩)) rfl (by repeat ((exact List.Sublist.refl _))) (fun i Hi => ?_)
      · exact Nat.zero_le _
      have hj1 := joinB_len 44 ((V.outs KS).take i)
      have hj2 := lensT_take (V.outs KS) i
      have hj3 : ((V.outs KS).take i).length ≤ fs.length := by rw [List.length_take]; omega
      by_cases hi : i < fs.length
      · have hti := tot_nth (ks := KS) (i := i) (by omega)
        rw [hnt i hi] at hti
        simp only [nd_tot, V.tots] at hti
        have cx_out := ih i hi (by omega)
        have hou := outs_get (ks := KS) (i := i) (by omega)
        rw [hnt i hi, out_fld] at hou
        have hxi : nth bs i = nth bs i := rfl
        have htg := refT_W hw h0 (h5 i hi)
        have hdl := decI_len6' htg.1
        have hob := outR hw (hk i hi)
        unfold OutB at hob
        have hst := joinB_step (c := 44) (xs := V.outs KS) (i := i) (by omega)
        rw [hou] at hst
        have htn : nth (fs.map fun p : Fld × V => p.1.tag) i = (nth fs i).1.tag := by rw [nth_eq (by simpa using hi), nth_eq hi]; simp
        have htl : (fs.map fun p : Fld × V => p.1.tag).length = fs.length := by simp
        obtain ⟨tgb, to, tc, e, hs1⟩ := h2.expl (by omega)
        simp only [Value.slice.injEq] at e
        obtain ⟨rfl, -, rfl⟩ := e
        obtain ⟨kb, ko, kc, e, hs2⟩ := h3.expl (by omega)
        simp only [Value.slice.injEq] at e
        obtain ⟨rfl, -, rfl⟩ := e
        by_cases hp0 : 0 < i
        · rw [if_pos hp0] at hst
          repeat' (first | (refine run (t := tb) 400 rfl ?_ ?_; (focus (repeat' (first | exact trivial | apply And.intro | omega | (simp only [List.length_append, List.length_cons, List.length_nil, Int.toNat_natCast]; omega))))) | (refine k_op rfl ?_; first | refine v_op (g_ldS rfl rfl (by assumption) rfl rfl) rfl rfl ?_ | refine v_op (g_lenL rfl) rfl rfl ?_) | (refine k_tt rfl ?_ ?_; (focus (((refine decide_eq_true ?_; (omega))); done))) | (refine k_any (s_any (id := 12) _ (fun _ h => h) mixed ?_); refine x_tks (t := tb) (fuel := 12) [0, 1, 2, 3, 5, 11, 12, 13, 15] (bts 21 47151) (by kernel_rfl) (by kernel_rfl) rfl rfl (Gh.le.refl _) (by repeat ((exact List.Sublist.refl _))) ?_ ?_; (focus (repeat' ((exact trivial)))); ((refine (x_tkg (bts 21 47167) 4 rfl (by kernel_rfl) rfl (Gh.le.refl _) (by repeat ((exact List.Sublist.refl _)))) (g_ldS rfl rfl (by assumption) rfl rfl) rfl rfl ?_)); ((refine (x_tkg (bts 21 47231) 6 rfl (by kernel_rfl) rfl (Gh.le.refl _) (by repeat ((exact List.Sublist.refl _)))) (g_iaddrN rfl rfl ?_) rfl rfl ?_; (focus ((omega); done)))); ((refine (x_tkg (bts 21 47359) 7 rfl (by kernel_rfl) rfl (Gh.le.refl _) (by repeat ((exact List.Sublist.refl _)))) (g_ldR1x rfl rfl (by assumption) ?_ (by assumption) rfl) rfl rfl ?_; (focus (((omega)); done)))); ((refine (x_tkg (bts 21 63743) 14 rfl (by kernel_rfl) rfl (Gh.le.refl _) (by repeat ((exact List.Sublist.refl _)))) (g_ldS rfl rfl (by assumption) rfl rfl) rfl rfl ?_)); ((refine (x_tkg (bts 21 129279) 16 rfl (by kernel_rfl) rfl (Gh.le.refl _) (by repeat ((exact List.Sublist.refl _)))) (g_iaddrN rfl rfl ?_) rfl rfl ?_; (focus ((omega); done)))); ((refine (x_tkg (bts 21 260351) 17 rfl (by kernel_rfl) rfl (Gh.le.refl _) (by repeat ((exact List.Sublist.refl _)))) (g_ldR1x rfl rfl (by assumption) ?_ (by assumption) rfl) rfl rfl ?_; (focus (((omega)); done)))); refine x_all [8] (by kernel_rfl) (by decide) ⟨?_, trivial⟩; refine x_opg rfl rfl ?_; ((refine c_rt rfl rfl rfl (c_l6Dec ?_) rfl ?_; (focus (((omega)); done)))); refine x_ks (by (exact Gh.le.refl _)) (by repeat ((exact List.Sublist.refl _))) (listed' := (bts 21 260607)) (by kernel_rfl) ?_; refine x_tks (t := tb) (fuel := 3) [9, 10] (bts 21 262143) (by kernel_rfl) (by kernel_rfl) rfl rfl (Gh.le.refl _) (by repeat ((exact List.Sublist.refl _))) ?_ ?_; (focus (repeat' (first | exact trivial | apply And.intro | (simp only [List.length_append, List.length_cons, List.length_nil, Int.toNat_natCast]; omega)))); refine x_all [18] (by kernel_rfl) (by decide) ⟨?_, trivial⟩; refine x_opg rfl rfl ?_; ((refine c_rt rfl rfl rfl cx_out rfl ?_)); refine x_ks (by (exact Gh.le.refl _)) (by repeat ((exact List.Sublist.refl _))) (listed' := (bts 21 524287)) (by kernel_rfl) ?_; refine x_tks (t := tb) (fuel := 0) [19, 20] (bts 21 2097151) (by kernel_rfl) (by kernel_rfl) rfl rfl (Gh.le.refl _) (by repeat ((exact List.Sublist.refl _))) ?_ ?_; (focus (repeat' (first | exact trivial | apply And.intro | (simp only [List.length_append, List.length_cons, List.length_nil, Int.toNat_natCast]; omega)))); refine x_done (by kernel_rfl) (k_bk ?_)))
          all_goals
            refine Nx.re (d := 3) (v' := S (123 :: joinB 44 ((V.outs KS).take (i + 1)))) rfl (congrArg (fun l => S l) (by rw [hst]; simp)) ?_
            exact k_rd (i + 1) (by omega) (by omega) (by repeat (first | exact trivial | refine ⟨rfl, ?_⟩)) rfl (by repeat ((exact List.Sublist.refl _)))
        · rw [if_neg hp0] at hst
          have hi0 : i = 0 := by omega
          subst hi0
          repeat' (first | (refine run (t := tb) 400 rfl ?_ ?_; (focus (repeat' (first | exact trivial | apply And.intro | omega)))) | (refine k_op rfl ?_; first | refine v_op (g_ldS rfl rfl (by assumption) rfl rfl) rfl rfl ?_ | refine v_op (g_lenL rfl) rfl rfl ?_) | (refine k_tt rfl ?_ ?_; (focus (((refine decide_eq_true ?_; (omega))); done))) | (refine k_ff rfl ?_ ?_; (focus (((rfl)); done))) | (refine k_any (s_any (id := 12) _ (fun _ h => h) mixed ?_); refine x_tks (t := tb) (fuel := 12) [0, 1, 2, 3, 5, 11, 12, 13, 15] (bts 21 47151) (by kernel_rfl) (by kernel_rfl) rfl rfl (Gh.le.refl _) (by repeat ((exact List.Sublist.refl _))) ?_ ?_; (focus (repeat' ((exact trivial)))); ((refine (x_tkg (bts 21 47167) 4 rfl (by kernel_rfl) rfl (Gh.le.refl _) (by repeat ((exact List.Sublist.refl _)))) (g_ldS rfl rfl (by assumption) rfl rfl) rfl rfl ?_)); ((refine (x_tkg (bts 21 47231) 6 rfl (by kernel_rfl) rfl (Gh.le.refl _) (by repeat ((exact List.Sublist.refl _)))) (g_iaddrN rfl rfl ?_) rfl rfl ?_; (focus ((omega); done)))); ((refine (x_tkg (bts 21 47359) 7 rfl (by kernel_rfl) rfl (Gh.le.refl _) (by repeat ((exact List.Sublist.refl _)))) (g_ldR1x rfl rfl (by assumption) ?_ (by assumption) rfl) rfl rfl ?_; (focus (((omega)); done)))); ((refine (x_tkg (bts 21 63743) 14 rfl (by kernel_rfl) rfl (Gh.le.refl _) (by repeat ((exact List.Sublist.refl _)))) (g_ldS rfl rfl (by assumption) rfl rfl) rfl rfl ?_)); ((refine (x_tkg (bts 21 129279) 16 rfl (by kernel_rfl) rfl (Gh.le.refl _) (by repeat ((exact List.Sublist.refl _)))) (g_iaddrN rfl rfl ?_) rfl rfl ?_; (focus ((omega); done)))); ((refine (x_tkg (bts 21 260351) 17 rfl (by kernel_rfl) rfl (Gh.le.refl _) (by repeat ((exact List.Sublist.refl _)))) (g_ldRFx rfl rfl (by assumption) ?_ (by assumption) rfl rfl) rfl rfl ?_; (focus (((omega)); done)))); refine x_all [8] (by kernel_rfl) (by decide) ⟨?_, trivial⟩; refine x_opg rfl rfl ?_; ((refine c_rt rfl rfl rfl (c_l6Dec ?_) rfl ?_; (focus (((omega)); done)))); refine x_ks (by (exact Gh.le.refl _)) (by repeat ((exact List.Sublist.refl _))) (listed' := (bts 21 260607)) (by kernel_rfl) ?_; refine x_tks (t := tb) (fuel := 3) [9, 10] (bts 21 262143) (by kernel_rfl) (by kernel_rfl) rfl rfl (Gh.le.refl _) (by repeat ((exact List.Sublist.refl _))) ?_ ?_; (focus (repeat' (first | exact trivial | apply And.intro | (simp only [List.length_append, List.length_cons, List.length_nil, Int.toNat_natCast]; omega)))); refine x_all [18] (by kernel_rfl) (by decide) ⟨?_, trivial⟩; refine x_opg rfl rfl ?_; ((refine c_rt rfl rfl rfl cx_out rfl ?_)); refine x_ks (by (exact Gh.le.refl _)) (by repeat ((exact List.Sublist.refl _))) (listed' := (bts 21 524287)) (by kernel_rfl) ?_; refine x_tks (t := tb) (fuel := 0) [19, 20] (bts 21 2097151) (by kernel_rfl) (by kernel_rfl) rfl rfl (Gh.le.refl _) (by repeat ((exact List.Sublist.refl _))) ?_ ?_; (focus (repeat' (first | exact trivial | apply And.intro | (simp only [List.length_append, List.length_cons, List.length_nil, Int.toNat_natCast]; omega)))); refine x_done (by kernel_rfl) (k_bk ?_)))
          all_goals
            refine Nx.re (d := 3) (v' := S (123 :: joinB 44 ((V.outs KS).take (0 + 1)))) rfl (congrArg (fun l => S l) (by rw [hst]; simp [joinB])) ?_
            exact k_rd (0 + 1) (by omega) (by omega) (by repeat (first | exact trivial | refine ⟨rfl, ?_⟩)) rfl (by repeat ((exact List.Sublist.refl _)))
      · have hin : i = fs.length := by omega
        repeat' (first | (refine run (t := tb) 400 rfl ?_ ?_; (focus (repeat' (first | exact trivial | apply And.intro | (simp only [List.length_append, List.length_cons, List.length_nil, Int.toNat_natCast]; omega))))) | (refine k_op rfl ?_; first | refine v_op (g_ldS rfl rfl (by assumption) rfl rfl) rfl rfl ?_ | refine v_op (g_lenL rfl) rfl rfl ?_) | (refine k_ff rfl ?_ ?_; (focus (((refine decide_eq_false ?_; (omega))); done))))
        refine k_rr (vs := [_]) rfl ⟨rfl, trivial⟩ rfl (List.nil_sublist _) ⟨rfl, rfl, ?_⟩
        rw [oneOf_one, V.out, hin, ← hml, ← hol, List.take_length]; rfl
    refine p_enter [(0, _)] Tryz.func56 (by kernel_rfl) Tryz.ntmps56 rfl rfl (by repeat (first | exact trivial | refine ⟨rfl, ?_⟩)) fun B hB => ?_
    repeat' (first | (refine run (t := tb) 400 rfl ?_ ?_; (focus (repeat' (first | exact trivial | apply And.intro | omega | (simp only [List.length_append, List.length_cons, List.length_nil, Int.toNat_natCast]; omega))))) | (refine k_op rfl ?_; first | refine v_op (g_ldS rfl rfl (by assumption) rfl rfl) rfl rfl ?_ | (refine c_rt rfl rfl rfl cx_nmd rfl ?_)) | (refine k_tt rfl ?_ ?_; (focus (((rfl)); done))) | (refine k_ff rfl ?_ ?_; (focus (((rfl)); done))))
    refine k_rr (vs := [_]) rfl ⟨rfl, trivial⟩ rfl (List.nil_sublist _) ⟨rfl, rfl, ?_⟩
    rfl
  | enm k b tgb t d h0 h1 h2 h3 =>
    intro _
    obtain ⟨r, rfl⟩ := refT_64 h0
    have htg := refT_W hw h0 h1
    have hdl := decI_len6' htg.1
    have cx_nmd : PuG Tryz.prog 78 [Pt b 0] G (· = S (V.out (.nd 69 [] d.tag []))) := by
      refine p_enter [(0, _)] Tryz.func78 (by kernel_rfl) Tryz.ntmps78 rfl rfl (by repeat (first | exact trivial | refine ⟨rfl, ?_⟩)) fun B hB => ?_
      repeat' (first | (refine run (t := tb) 400 rfl ?_ ?_; (focus (repeat' (first | exact trivial | apply And.intro | (simp only [List.length_append, List.length_cons, List.length_nil, Int.toNat_natCast]; omega))))) | (refine k_op rfl ?_; first | refine v_op (g_ldS rfl rfl (by assumption) rfl rfl) rfl rfl ?_ | (refine v_op (g_iaddr rfl rfl ?_) rfl rfl ?_; (focus ((omega); done))) | (refine c_rt rfl rfl rfl (c_l6Dec ?_) rfl ?_; (focus (((omega)); done)))) | (refine k_tt rfl ?_ ?_; (focus (((rfl)); done))) | (refine k_ff rfl ?_ ?_; (focus (((rfl)); done))))
      refine k_rr (vs := [_]) rfl ⟨rfl, trivial⟩ rfl (List.nil_sublist _) ⟨rfl, rfl, ?_⟩
      rw [oneOf_one, V.out]; rfl
    refine p_enter [(0, _)] Tryz.func56 (by kernel_rfl) Tryz.ntmps56 rfl rfl (by repeat (first | exact trivial | refine ⟨rfl, ?_⟩)) fun B hB => ?_
    repeat' (first | (refine run (t := tb) 400 rfl ?_ ?_; (focus (repeat' (first | exact trivial | apply And.intro | omega | (simp only [List.length_append, List.length_cons, List.length_nil, Int.toNat_natCast]; omega))))) | (refine k_op rfl ?_; first | refine v_op (g_ldS rfl rfl (by assumption) rfl rfl) rfl rfl ?_ | (refine c_rt rfl rfl rfl cx_nmd rfl ?_)) | (refine k_tt rfl ?_ ?_; (focus (((rfl)); done))) | (refine k_ff rfl ?_ ?_; (focus (((rfl)); done))))
    refine k_rr (vs := [_]) rfl ⟨rfl, trivial⟩ rfl (List.nil_sublist _) ⟨rfl, rfl, ?_⟩
    rfl
  | uni k b tgb kb b' t d v h0 h1 h2 h3 h4 hk ih =>
    intro ht
    obtain ⟨r, rfl⟩ := refT_64 h0
    have htg := refT_W hw h0 h1
    have hdl := decI_len6' htg.1
    simp only [nd_tot, V.tots] at ht
    have cx_out := ih (by omega)
    have hob := outR hw hk
    unfold OutB at hob
    have cx_nmd : PuG Tryz.prog 78 [Pt b 0] G (· = S (V.out (.nd 85 [] d.tag [v]))) := by
      refine p_enter [(0, _)] Tryz.func78 (by kernel_rfl) Tryz.ntmps78 rfl rfl (by repeat (first | exact trivial | refine ⟨rfl, ?_⟩)) fun B hB => ?_
      repeat' (first | (refine run (t := tb) 400 rfl ?_ ?_; (focus (repeat' ((exact trivial))))) | (refine k_op rfl ?_; (refine v_op (g_ldS rfl rfl (by assumption) rfl rfl) rfl rfl ?_)) | (refine k_tt rfl ?_ ?_; (focus (((rfl)); done))) | (refine k_any (s_any (id := 3) _ (fun _ h => h) mixed ?_); refine x_tks (t := tb) (fuel := 13) [0, 1, 2, 9, 10, 11] (bts 19 3591) (by kernel_rfl) (by kernel_rfl) rfl rfl (Gh.le.refl _) (by repeat ((exact List.Sublist.refl _))) ?_ ?_; (focus (repeat' ((exact trivial)))); ((refine (x_tkg (bts 19 3599) 3 rfl (by kernel_rfl) rfl (Gh.le.refl _) (by repeat ((exact List.Sublist.refl _)))) (g_ldS rfl rfl (by assumption) rfl rfl) rfl rfl ?_)); ((refine (x_tkg (bts 19 3615) 4 rfl (by kernel_rfl) rfl (Gh.le.refl _) (by repeat ((exact List.Sublist.refl _)))) (g_iaddr rfl rfl ?_) rfl rfl ?_; (focus ((omega); done)))); ((refine (x_tkg (bts 19 3647) 5 rfl (by kernel_rfl) rfl (Gh.le.refl _) (by repeat ((exact List.Sublist.refl _)))) (g_ldS rfl rfl (by assumption) rfl rfl) rfl rfl ?_)); ((refine (x_tkg (bts 19 7743) 12 rfl (by kernel_rfl) rfl (Gh.le.refl _) (by repeat ((exact List.Sublist.refl _)))) (g_ldS rfl rfl (by assumption) rfl rfl) rfl rfl ?_)); ((refine (x_tkg (bts 19 15935) 13 rfl (by kernel_rfl) rfl (Gh.le.refl _) (by repeat ((exact List.Sublist.refl _)))) (g_iaddr rfl rfl ?_) rfl rfl ?_; (focus ((omega); done)))); ((refine (x_tkg (bts 19 32319) 14 rfl (by kernel_rfl) rfl (Gh.le.refl _) (by repeat ((exact List.Sublist.refl _)))) (g_ldS rfl rfl (by assumption) rfl rfl) rfl rfl ?_)); refine x_all [6] (by kernel_rfl) (by decide) ⟨?_, trivial⟩; refine x_opg rfl rfl ?_; ((refine c_rt rfl rfl rfl (c_l6Dec ?_) rfl ?_; (focus (((omega)); done)))); refine x_ks (by (exact Gh.le.refl _)) (by repeat ((exact List.Sublist.refl _))) (listed' := (bts 19 32383)) (by kernel_rfl) ?_; refine x_tks (t := tb) (fuel := 4) [7, 8] (bts 19 32767) (by kernel_rfl) (by kernel_rfl) rfl rfl (Gh.le.refl _) (by repeat ((exact List.Sublist.refl _))) ?_ ?_; (focus (repeat' (first | exact trivial | apply And.intro | (simp only [List.length_append, List.length_cons, List.length_nil, Int.toNat_natCast]; omega)))); refine x_all [15] (by kernel_rfl) (by decide) ⟨?_, trivial⟩; refine x_opg rfl rfl ?_; ((refine c_rt rfl rfl rfl cx_out rfl ?_)); refine x_ks (by (exact Gh.le.refl _)) (by repeat ((exact List.Sublist.refl _))) (listed' := (bts 19 65535)) (by kernel_rfl) ?_; refine x_tks (t := tb) (fuel := 0) [16, 17, 18] (bts 19 524287) (by kernel_rfl) (by kernel_rfl) rfl rfl (Gh.le.refl _) (by repeat ((exact List.Sublist.refl _))) ?_ ?_; (focus (repeat' (first | exact trivial | apply And.intro | (simp only [List.length_append, List.length_cons, List.length_nil, Int.toNat_natCast]; omega)))); refine x_done (by kernel_rfl) (k_bk ?_)))
      all_goals refine k_rr (vs := [_]) rfl ⟨rfl, trivial⟩ rfl (List.nil_sublist _) ⟨rfl, rfl, ?_⟩
      all_goals (rw [oneOf_one, V.out]; simp [V.outs, outW, joinB])
    clear cx_out
    refine p_enter [(0, _)] Tryz.func56 (by kernel_rfl) Tryz.ntmps56 rfl rfl (by repeat (first | exact trivial | refine ⟨rfl, ?_⟩)) fun B hB => ?_
    repeat' (first | (refine run (t := tb) 400 rfl ?_ ?_; (focus (repeat' (first | exact trivial | apply And.intro | omega | (simp only [List.length_append, List.length_cons, List.length_nil, Int.toNat_natCast]; omega))))) | (refine k_op rfl ?_; first | refine v_op (g_ldS rfl rfl (by assumption) rfl rfl) rfl rfl ?_ | (refine c_rt rfl rfl rfl cx_nmd rfl ?_)) | (refine k_tt rfl ?_ ?_; (focus (((rfl)); done))) | (refine k_ff rfl ?_ ?_; (focus (((rfl)); done))))
    refine k_rr (vs := [_]) rfl ⟨rfl, trivial⟩ rfl (List.nil_sublist _) ⟨rfl, rfl, ?_⟩
    rfl
end Go.E
/-! Xc -/
namespace Go.E
set_option maxRecDepth 20000
set_option maxHeartbeats 2000000
open Go.Proofs
variable {G : Gh}
abbrev tPtr : TypeId := 26
abbrev tRd : TypeId := 42
def ReadC (n : Nat) (u : Value) (vs : List TyX) : Prop := ∀ (G : Gh) (k s : List UInt8), SchR G u vs → kindIn (tys vs) k = true → s.length ≤ 1000 →
  FnS Tryz.prog 11 [Ag [u], S s, S k, I (n : Nat)] G (ReadP (tys vs) (rd (tys vs) n k s) k)
theorem c_listS {n : Nat} {u : Value} {vs : List TyX} {k s : List UInt8} (hR : ReadC n u vs) (h : SchR G u vs) (hk : kindIn (tys vs) k = true) (hs : s.length ≤ 1000) (hn : n ≤ 1000) :
    FnS Tryz.prog 19 [Ag [u], S s, S (91 :: k), I (n + 1 : Nat)] G (ReadP (tys vs) (rdList (rd (tys vs) n k) (91 :: s)) (91 :: k)) := by
  have edn : ((n + 1 : Nat) : Int) - 1 = (n : Nat) := by omega
  by_cases h93 : ∃ s2, s = 93 :: s2
  · obtain ⟨s2, rfl⟩ := h93
    refine b_enter [(0, _), (1, _), (2, _), (3, _)] Tryz.func19 (by kernel_rfl) Tryz.ntmps19 rfl rfl (by repeat (first | exact trivial | refine ⟨rfl, ?_⟩)) fun B hok hB hW => ?_
    repeat' (first | (refine run (t := tb) 400 rfl ?_ ?_; (focus (repeat' (first | exact trivial | apply And.intro | omega | (simp only [List.length_append, List.length_cons, List.length_nil, Int.toNat_natCast]; omega))))) | (refine k_op rfl ?_; first | refine c_bx rfl rfl rfl fun _ => ?_ | refine v_op (g_bld rfl rfl) rfl rfl ?_ | (refine v_op (g_pickT rfl rfl ?_) rfl rfl ?_; (focus (((rfl)); done)))) | (refine k_gt rfl rfl ?_ ?_; (focus (((rfl)); done))) | (refine k_tt rfl ?_ ?_; (focus (((rfl)); done))) | (refine k_any (s_any (id := 3) _ (fun _ h => h) mixed ?_); refine x_tks (t := tb) (fuel := 0) [0, 1, 2, 3, 4, 5] (bts 6 63) (by kernel_rfl) (by kernel_rfl) rfl rfl (by (exact Gh.le.refl _)) (by repeat ((exact List.Sublist.refl _))) ?_ ?_; (focus (repeat' (first | exact trivial | apply And.intro | omega | (simp only [List.length_append, List.length_cons, List.length_nil, Int.toNat_natCast]; omega)))); refine x_done (by kernel_rfl) (k_bk ?_)))
    rename_i x4 x11
    refine Nx.sealC (b := x11) fun G2 hG2 hsy => ?_
    refine k_rr (vs := [_, _, _]) rfl ⟨rfl, rfl, rfl, trivial⟩ rfl (List.nil_sublist _) ⟨hG2, rfl, ?_⟩
    rw [oneOf_three]
    exact ⟨_, _, _, rfl, fun _ => ⟨.nd 91 [] 0 [], x11, rfl, rfl, .lst k x11 [] [] none 0 hsy ⟨rfl, .inl ⟨rfl, rfl⟩⟩ rfl (fun i hi => absurd hi (by simp))⟩, fun h => (by cases h)⟩
  have hRl : rdList (rd (tys vs) n k) (91 :: s) = (rdItems (rd (tys vs) n k) 20 s []).map fun x => (.nd 91 [] 0 x.1, x.2) := by
    unfold rdList
    dsimp only
    rw [if_pos (show (91 : UInt8).toNat = 91 from rfl)]
    cases s with
    | nil =>
      have : rd (tys vs) n k [] = none := by
        cases h : rd (tys vs) n k [] with
        | none => rfl
        | some x => have := rd_short h; simp at this
      simp [rdItems, this]
    | cons e r' =>
      dsimp only
      rw [if_neg]
      intro h; exact h93 ⟨r', by rw [show e = 93 from UInt8.toNat_inj.1 h]⟩
  have hs0 : s = [] ∨ s ≠ [] ∧ ¬ ((bt s (Int.toNat 0) : Nat) : Int) = 93 := by
    cases s with
    | nil => exact .inl rfl
    | cons e r' =>
      refine .inr ⟨by simp, fun h => h93 ⟨r', ?_⟩⟩
      have : bt (e :: r') (Int.toNat 0) = e.toNat := bt_zero e r'
      rw [show e = 93 from UInt8.toNat_inj.1 (show e.toNat = 93 by omega)]
  have hkl : k.length ≤ 1000 := by
    have := (kindOk_kOk (kindIn_ok hk)).2
    omega
  have hslen : s = [] ∨ 0 < s.length := by cases s <;> simp
  rcases hs0 with hs0 | ⟨hs0, hs1⟩
  all_goals
    have hslen2 : s ≠ [] → 0 < s.length := fun h => by rcases hslen with h' | h'; exact absurd h' h; exact h'
    try have hslen3 := hslen2 hs0
    refine b_enter [(0, _), (1, _), (2, _), (3, _)] Tryz.func19 (by kernel_rfl) Tryz.ntmps19 rfl rfl (by repeat (first | exact trivial | refine ⟨rfl, ?_⟩)) fun B hok hB hW => ?_
    repeat' (first | (refine run (t := tb) 400 rfl ?_ ?_; (focus (repeat' (first | exact trivial | apply And.intro | omega)))) | (refine k_op rfl ?_; first | refine c_bx rfl rfl rfl fun _ => ?_ | refine v_op (g_bld rfl rfl) rfl rfl ?_ | (refine v_op (g_pickT rfl rfl ?_) rfl rfl ?_; (focus (((rfl)); done))) | (refine v_op (g_pickF rfl rfl ?_) rfl rfl ?_; (focus (((rfl)); done)))) | (refine k_gt rfl rfl ?_ ?_; (focus (((refine decide_eq_true ?_; (assumption))); done))) | (refine k_gf rfl rfl ?_ ?_; (focus (((simp [*]; done)); done))) | (refine k_ff rfl ?_ ?_; (focus ((first | rfl | (refine decide_eq_false ?_; (assumption))); done))))
    rename_i x4 x11
    refine Nx.addNil tPtr 1 ?_
    refine k_loop (ι := List V × List Nat × Option Addr × Nat × List UInt8 × Gh) (fun q => ((q.2.1.length = q.1.length ∧ ∀ i, i < q.1.length → RepR q.2.2.2.2.2 (tys vs) (nth q.1 i) k (nth q.2.1 i)) ∧ Gh.le G q.2.2.2.2.2) ∧ rdItems (rd (tys vs) n k) 20 s [] = rdItems (rd (tys vs) n k) (20 - q.1.length) q.2.2.2.2.1 q.1 ∧ q.1.length ≤ 20 ∧ q.2.2.2.2.1.length ≤ s.length) (fun q => [(1, S q.2.2.2.2.1), (2, S (91 :: k)), (3, I (n + 1 : Nat)), (4, Pt x4 0), (11, Pt x11 0)]) (fun q => q.2.2.2.2.2) (fun q => [.acc (.slice q.2.2.1 q.1.length q.2.2.2.1) tPtr 1 q.1.length (rows ptR q.2.1), .blk x11 (.cells (List.toArray [S (91 :: k), S [], nilS, .slice q.2.2.1 q.1.length q.2.2.2.1]) tLv (0, 0)), .blk x4 (.cells (List.toArray [u]) tRd (0, 0))]) (fun q => 20 - q.1.length) ([], [], none, 0, s, G) ?_ (by repeat (first | exact trivial | refine ⟨rfl, ?_⟩)) rfl (by repeat ((exact List.Sublist.refl _))) (fun q Hq => ?_)
    · exact ⟨⟨⟨rfl, fun i hi => absurd hi (by simp)⟩, Gh.le.refl _⟩, rfl, Nat.zero_le _, Nat.le_refl _⟩
    obtain ⟨ws, bs, a, cap, t, Gq⟩ := q
    dsimp only at Hq ⊢
    obtain ⟨⟨⟨hbl, hreps⟩, hgq⟩, hit, hwl, htl⟩ := Hq
    by_cases h20 : ws.length < 20
    case neg =>
      have e20 : 20 - ws.length = 0 := by omega
      repeat' (first | (refine run (t := tb) 400 rfl ?_ ?_; (focus (repeat' ((exact trivial))))) | (refine k_op rfl ?_; first | refine v_op (g_ld rfl rfl rfl) rfl rfl ?_ | refine v_op (g_lenL rfl) rfl rfl ?_) | (refine k_ff rfl ?_ ?_; (focus (((refine decide_eq_false ?_; (omega))); done))))
      refine k_rr (vs := [_, _, _]) rfl ⟨rfl, rfl, rfl, trivial⟩ rfl (List.nil_sublist _) ⟨hgq, rfl, ?_⟩
      rw [oneOf_three]
      exact ⟨_, _, _, rfl, fun h => (by cases h), fun _ => by rw [hRl, hit, e20]; rfl⟩
    have cx_rd := hR Gq k t (h.mono hgq) hk (by omega)
    rw [← edn] at cx_rd
    
    repeat' (first | (refine run (t := tb) 400 rfl ?_ ?_; (focus (repeat' ((exact trivial))))) | (refine k_op rfl ?_; first | refine v_op (g_ld rfl rfl rfl) rfl rfl ?_ | refine v_op (g_lenL rfl) rfl rfl ?_) | (refine k_tt rfl ?_ ?_; (focus (((refine decide_eq_true ?_; (omega))); done))))
    (refine k_any (s_any (id := 5) _ (fun _ h => h) mixed ?_); refine x_tks (t := tb) (fuel := 9) [1, 2, 3, 4, 5] (bts 14 62) (by kernel_rfl) (by kernel_rfl) rfl rfl (by (exact Gh.le.refl _)) (by repeat ((exact List.Sublist.refl _))) ?_ ?_; (focus (repeat' (first | exact trivial | apply And.intro | omega | (simp only [List.length_append, List.length_cons, List.length_nil, Int.toNat_natCast]; omega)))); ((refine (x_tkg (bts 14 63) 0 rfl (by kernel_rfl) rfl (by (exact Gh.le.refl _)) (by repeat ((exact List.Sublist.refl _)))) (g_ldA rfl rfl rfl rfl) rfl rfl ?_)); refine x_all [6] (by kernel_rfl) (by decide) ⟨?_, trivial⟩; refine x_opg rfl rfl ?_; ((refine c_fns rfl rfl rfl cx_rd rfl ?_; rintro _ G hle ⟨q1, r1, ok1, rfl, hyes, hno⟩; skip)); refine x_ks (by (assumption)) (by repeat ((exact List.Sublist.refl _))) (listed' := (bts 14 127)) (by kernel_rfl) ?_; refine x_tks (t := tb) (fuel := 0) [7, 8, 9, 10, 11, 12, 13] (bts 14 16383) (by kernel_rfl) (by kernel_rfl) rfl rfl (by (exact Gh.le.refl _)) (by repeat ((exact List.Sublist.refl _))) ?_ ?_; (focus (repeat' ((exact trivial)))); refine x_done (by kernel_rfl) (k_bk ?_))
    
    have hgl := hgq.trans hle
    cases ok1 with
    | false =>
      have hnone : rdItems (rd (tys vs) n k) (20 - ws.length) t ws = none := items_none (.inl (hno rfl))
      repeat' (first | (refine run (t := tb) 400 rfl ?_ ?_; (focus (repeat' ((exact trivial))))) | (refine k_op rfl ?_; (refine v_op (g_pickT rfl rfl ?_) rfl rfl ?_; (focus (((rfl)); done)))) | (refine k_gt rfl rfl ?_ ?_; (focus (((rfl)); done))) | (refine k_tt rfl ?_ ?_; (focus (((rfl)); done))))
      refine k_rr (vs := [_, _, _]) rfl ⟨rfl, rfl, rfl, trivial⟩ rfl (List.nil_sublist _) ⟨hgl, rfl, ?_⟩
      rw [oneOf_three]
      exact ⟨_, _, _, rfl, fun h => (by cases h), fun _ => by rw [hRl, hit, hnone]; rfl⟩
    | true =>
      obtain ⟨w, wb, rfl, hf, hrep⟩ := hyes rfl
      have hsh := rd_short hf
      cases r1 with
      | nil =>
        have hnone : rdItems (rd (tys vs) n k) (20 - ws.length) t ws = none := items_none (.inr ⟨w, hf⟩)
        repeat' (first | (refine run (t := tb) 400 rfl ?_ ?_; (focus (repeat' ((exact trivial))))) | (refine k_op rfl ?_; first | (refine v_op (g_pickT rfl rfl ?_) rfl rfl ?_; (focus (((rfl)); done))) | (refine v_op (g_pickF rfl rfl ?_) rfl rfl ?_; (focus (((rfl)); done)))) | (refine k_gt rfl rfl ?_ ?_; (focus (((rfl)); done))) | (refine k_gf rfl rfl ?_ ?_; (focus (((rfl)); done))) | (refine k_tt rfl ?_ ?_; (focus (((rfl)); done))))
        refine k_rr (vs := [_, _, _]) rfl ⟨rfl, rfl, rfl, trivial⟩ rfl (List.nil_sublist _) ⟨hgl, rfl, ?_⟩
        rw [oneOf_three]
        exact ⟨_, _, _, rfl, fun h => (by cases h), fun _ => by rw [hRl, hit, hnone]; rfl⟩
      | cons e r2 =>
        have hstep := items_step (vs := ws) hf (show 0 < 20 - ws.length by omega)
        have he0 : bt (e :: r2) (Int.toNat 0) = e.toNat := bt_zero e r2
        simp only [List.length_cons] at hsh
        have hel : (e :: r2).length = r2.length + 1 := rfl
        have hrow : rows ptR bs ++ [Pt wb 0] = rows ptR (bs ++ [wb]) := (rows_snoc ptR bs wb).symm
        have hwl1 : (ws ++ [w]).length = ws.length + 1 := by simp
        have hbl1 : (bs ++ [wb]).length = (ws ++ [w]).length := by simp [hbl]
        have hrp : ∀ i, i < (ws ++ [w]).length → RepR G (tys vs) (nth (ws ++ [w]) i) k (nth (bs ++ [wb]) i) := fun i hi => by
          by_cases h1 : i < ws.length
          · have e1 : nth (ws ++ [w]) i = nth ws i := by rw [nth_eq hi, nth_eq h1, List.getElem_append_left h1]
            have e2 : nth (bs ++ [wb]) i = nth bs i := by rw [nth_eq (by omega), nth_eq (by omega), List.getElem_append_left (by omega)]
            rw [e1, e2]; exact (hreps i h1).mono hle
          · have h2 : i = ws.length := by omega
            have e1 : nth (ws ++ [w]) i = w := by rw [nth_eq hi]; simp [h2]
            have e2 : nth (bs ++ [wb]) i = wb := by rw [nth_eq (by omega)]; simp [h2, hbl]
            rw [e1, e2]; exact hrep
        by_cases h44 : e.toNat = 44
        · rw [if_pos h44] at hstep
          have hn93 : ¬ e.toNat = 93 := by omega
          repeat' (first | (refine run (t := tb) 400 rfl ?_ ?_; (focus (repeat' (first | exact trivial | apply And.intro | omega)))) | (refine k_op rfl ?_; first | (refine v_op (g_pickF rfl rfl ?_) rfl rfl ?_; (focus (((rfl)); done))) | refine v_op (g_ld rfl rfl rfl) rfl rfl ?_ | refine c_bsl rfl rfl rfl rfl rfl rfl fun _ => ?_ | (refine c_apX rfl rfl rfl rfl rfl rfl rfl rfl rfl ?_ fun _ _ => ?_; (focus ((omega); done))) | refine c_st1 rfl rfl rfl rfl ?_) | (refine k_gf rfl rfl ?_ ?_; (focus ((first | rfl | (refine decide_eq_false ?_; (omega))); done))) | (refine k_ff rfl ?_ ?_; (focus ((first | rfl | (refine decide_eq_false ?_; (omega))); done))))
          rename_i y0 y1 yc
          rw [hrow]
          exact k_rd (ws ++ [w], bs ++ [wb], some ⟨y1, 0, none⟩, yc, r2, G) ⟨⟨⟨hbl1, hrp⟩, hgl⟩, (by dsimp only; rw [hit, hstep, hwl1, Nat.sub_sub]), (by dsimp only; omega), (by dsimp only; omega)⟩ (by dsimp only; omega) (by repeat (first | exact trivial | refine ⟨rfl, ?_⟩)) rfl (by rw [hwl1]; repeat (first | exact List.Sublist.refl _ | apply List.Sublist.cons_cons | apply List.Sublist.cons))
        · rw [if_neg h44] at hstep
          by_cases h93' : e.toNat = 93
          · rw [if_pos h93'] at hstep
            repeat' (first | (refine run (t := tb) 400 rfl ?_ ?_; (focus (repeat' (first | exact trivial | apply And.intro | omega)))) | (refine k_op rfl ?_; first | (refine v_op (g_pickT rfl rfl ?_) rfl rfl ?_; (focus (((rfl)); done))) | (refine v_op (g_pickF rfl rfl ?_) rfl rfl ?_; (focus (((rfl)); done))) | refine v_op (g_ld rfl rfl rfl) rfl rfl ?_ | refine c_bsl rfl rfl rfl rfl rfl rfl fun _ => ?_ | (refine c_apX rfl rfl rfl rfl rfl rfl rfl rfl rfl ?_ fun _ _ => ?_; (focus ((omega); done))) | refine c_st1 rfl rfl rfl rfl ?_) | (refine k_gt rfl rfl ?_ ?_; (focus (((refine decide_eq_true ?_; (omega))); done))) | (refine k_gf rfl rfl ?_ ?_; (focus (((rfl)); done))) | (refine k_tt rfl ?_ ?_; (focus (((refine decide_eq_true ?_; (omega))); done))) | (refine k_ff rfl ?_ ?_; (focus (((refine decide_eq_false ?_; (omega))); done))))
            rename_i y0 y1 yc
            rw [hrow]
            refine Nx.sealS (v := .slice (some ⟨y1, 0, none⟩) (ws.length + 1) yc) fun G2 hG2 hsl => ?_
            refine Nx.sealC (b := x11) fun G3 hG3 hsg => ?_
            refine k_rr (vs := [_, _, _]) rfl ⟨rfl, rfl, rfl, trivial⟩ rfl (List.nil_sublist _) ⟨((hgl.trans hG2).trans hG3), rfl, ?_⟩
            rw [oneOf_three]
            exact ⟨_, _, _, rfl, fun _ => ⟨.nd 91 [] 0 (ws ++ [w]), x11, rfl, by rw [hRl, hit, hstep]; rfl, .lst k x11 _ (bs ++ [wb]) (some ⟨y1, 0, none⟩) yc (by rw [hwl1]; exact hsg) (by rw [hwl1]; exact hsl.mono hG3) hbl1 (fun i hi => (hrp i hi).mono (hG2.trans hG3))⟩, fun h => (by cases h)⟩
          · rw [if_neg h93'] at hstep
            repeat' (first | (refine run (t := tb) 400 rfl ?_ ?_; (focus (repeat' (first | exact trivial | apply And.intro | omega)))) | (refine k_op rfl ?_; first | (refine v_op (g_pickT rfl rfl ?_) rfl rfl ?_; (focus (((rfl)); done))) | (refine v_op (g_pickF rfl rfl ?_) rfl rfl ?_; (focus (((rfl)); done)))) | (refine k_gt rfl rfl ?_ ?_; (focus (((refine decide_eq_true ?_; (omega))); done))) | (refine k_gf rfl rfl ?_ ?_; (focus (((rfl)); done))) | (refine k_tt rfl ?_ ?_; (focus (((refine decide_eq_true ?_; (omega))); done))))
            refine k_rr (vs := [_, _, _]) rfl ⟨rfl, rfl, rfl, trivial⟩ rfl (List.nil_sublist _) ⟨hgl, rfl, ?_⟩
            rw [oneOf_three]
            exact ⟨_, _, _, rfl, fun h => (by cases h), fun _ => by rw [hRl, hit, hstep]; rfl⟩
end Go.E
/-! Xd -/
namespace Go.E
set_option maxRecDepth 20000
set_option maxHeartbeats 2000000
open Go.Proofs
variable {G : Gh}
section
variable {P : Program} {n : Nat} {D : List Deferred} {E : Env} {M : World → Prop} {d : Option Nat} {ty : TypeId} {pos : String} {aft : Array Edge} {gd : Option (Nat × Bool)}
/-- A number of an owned row. -/
theorem g_ldB1 {T T0 : TypeId} {x : Operand} {desc : TypeDesc} {size bytes b m cap i : Nat} {zero : Value} {G0 : Gh} {L0 : List Own} {cs : List Int} {xs : List Value} {y : Int} [TI P T desc size bytes zero] [Kn M G0 L0] [h : AccB L0 b m cap T0 1 xs] (hx : ev E x = some (Pt b (0 + i * 1))) (ha : aggD desc = false) (hxs : xs = rows inR cs) (hi : i < cs.length) (hy : nth cs i = y) :
    Gives P n D E M ⟨d, .load T x, ty, pos, aft, gd⟩ (I y) := g_load hx ha (by
  have := (cells_acc (S := M) h.mem).go (i * 1 + 0) (I y) (by rw [hxs, rows_get hi (by omega), hy]; rfl)
  simpa using this)
end
/-- The last tag. -/
def lastT (fs : List (Fld × V)) : Int := match fs.getLast? with
  | some p => p.1.tag
  | none => 0
def nd61 (fs : List (Fld × V)) : List V := fs.map fun p => .nd 61 [] p.1.tag [p.2]
theorem lastT_snoc (fs : List (Fld × V)) (p : Fld × V) : lastT (fs ++ [p]) = p.1.tag := by simp [lastT]
abbrev tPtr2 : TypeId := 26
abbrev tInt2 : TypeId := 3
abbrev tFd : TypeId := 77
abbrev tTyB : TypeId := 59
theorem c_recordS {n : Nat} {u : Value} {vs : List TyX} {x : TyX} {k s : List UInt8} (hR : ReadC n u vs) (h : SchR G u vs) (hw : SchW (tys vs)) (hx : x ∈ vs) (hrf : refT (tys vs) k = some x.2) (hso : x.2.sort = 82) (hs : s.length ≤ 1000) (hn : n ≤ 1000) (hkl : k.length ≤ 1000) :
    FnS Tryz.prog 32 [Ag [u], S s, S k, Ag (tyF x), I (n + 1 : Nat)] G (ReadP (tys vs) (rdTyped (tys vs) (rd (tys vs) n) x.2 (123 :: s)) k) := by
  have edn : ((n + 1 : Nat) : Int) - 1 = (n : Nat) := by omega
  have hxt : x.2 ∈ tys vs := List.mem_map_of_mem hx
  have hTW := hw.ty _ hxt
  have hfl := hTW.len
  by_cases h125 : ∃ s2, s = 125 :: s2
  · obtain ⟨s2, rfl⟩ := h125
    have hgood : rdTyped (tys vs) (rd (tys vs) n) x.2 (123 :: 125 :: s2) = some (.nd 82 [] 0 [], s2) := by
      unfold rdTyped
      dsimp only
      rw [if_pos hso, if_pos (show (123 : UInt8).toNat = 123 from rfl), if_pos (show (125 : UInt8).toNat = 125 from rfl)]
    refine b_enter [(0, _), (1, _), (2, _), (3, _), (4, _)] Tryz.func32 (by kernel_rfl) Tryz.ntmps32 rfl rfl (by repeat (first | exact trivial | refine ⟨rfl, ?_⟩)) fun B hok hB hW => ?_
    repeat' (first | (refine run (t := tb) 400 rfl ?_ ?_; (focus (repeat' (first | exact trivial | apply And.intro | omega | (simp only [List.length_append, List.length_cons, List.length_nil, Int.toNat_natCast]; omega))))) | (refine k_op rfl ?_; first | refine c_bx rfl rfl rfl fun _ => ?_ | refine v_op (g_bld rfl rfl) rfl rfl ?_ | (refine v_op (g_pickT rfl rfl ?_) rfl rfl ?_; (focus (((rfl)); done)))) | (refine k_gt rfl rfl ?_ ?_; (focus (((rfl)); done))) | (refine k_tt rfl ?_ ?_; (focus (((rfl)); done))) | (refine k_any (s_any (id := 3) _ (fun _ h => h) mixed ?_); refine x_tks (t := tb) (fuel := 0) [0, 1, 2, 3, 4, 5] (bts 6 63) (by kernel_rfl) (by kernel_rfl) rfl rfl (by (exact Gh.le.refl _)) (by repeat ((exact List.Sublist.refl _))) ?_ ?_; (focus (repeat' (first | exact trivial | apply And.intro | omega | (simp only [List.length_append, List.length_cons, List.length_nil, Int.toNat_natCast]; omega)))); refine x_done (by kernel_rfl) (k_bk ?_)))
    rename_i x5 x8 x13
    refine Nx.sealC (b := x13) fun G2 hG2 hsy => ?_
    refine k_rr (vs := [_, _, _]) rfl ⟨rfl, rfl, rfl, trivial⟩ rfl (List.nil_sublist _) ⟨hG2, rfl, ?_⟩
    rw [oneOf_three]
    exact ⟨_, _, _, rfl, fun _ => ⟨.nd 82 [] 0 [], x13, rfl, hgood, .recd k x13 x.2 [] [] none none 0 0 hrf hsy ⟨rfl, .inl ⟨rfl, rfl⟩⟩ ⟨rfl, .inl ⟨rfl, rfl⟩⟩ rfl (fun i hi => absurd hi (by simp)) (fun i hi => absurd hi (by simp))⟩, fun h => (by cases h)⟩
  have hRl : rdTyped (tys vs) (rd (tys vs) n) x.2 (123 :: s) = (rdFlds (tys vs) (rd (tys vs) n) x.2 (s.length + 1) 0 s []).map fun x => (.nd 82 [] 0 x.1, x.2) := by
    unfold rdTyped
    dsimp only
    rw [if_pos hso, if_pos (show (123 : UInt8).toNat = 123 from rfl)]
    cases s with
    | nil => rw [flds_none rdField_nil]; rfl
    | cons e r' =>
      dsimp only
      rw [if_neg]
      intro h; exact h125 ⟨r', by rw [show e = 125 from UInt8.toNat_inj.1 h]⟩
  have hs0 : s = [] ∨ s ≠ [] ∧ ¬ ((bt s (Int.toNat 0) : Nat) : Int) = 125 := by
    cases s with
    | nil => exact .inl rfl
    | cons e r' =>
      refine .inr ⟨by simp, fun h => h125 ⟨r', ?_⟩⟩
      have : bt (e :: r') (Int.toNat 0) = e.toNat := bt_zero e r'
      rw [show e = 125 from UInt8.toNat_inj.1 (show e.toNat = 125 by omega)]
  have hslen : s = [] ∨ 0 < s.length := by cases s <;> simp
  rcases hs0 with hs0 | ⟨hs0, hs1⟩
  · subst hs0
    have cx_tg := c_tag (G := G) (u := u) (x := x) (s := []) (by simp) h.sl.one (h.fl x hx) (by omega)
    have e0 : numOf (([] : List UInt8).takeWhile isDg) 200 = none := by
      cases h : numOf (([] : List UInt8).takeWhile isDg) 200 with
      | none => rfl
      | some m =>
        have := (numOf_le h).2.1
        have h2 := decI_pos m
        rw [← this] at h2; simp at h2
    rw [e0] at cx_tg
    refine b_enter [(0, _), (1, _), (2, _), (3, _), (4, _)] Tryz.func32 (by kernel_rfl) Tryz.ntmps32 rfl rfl (by repeat (first | exact trivial | refine ⟨rfl, ?_⟩)) fun B hok hB hW => ?_
    repeat' (first | (refine run (t := tb) 400 rfl ?_ ?_; (focus (repeat' ((exact trivial))))) | (refine k_op rfl ?_; first | refine c_bx rfl rfl rfl fun _ => ?_ | refine v_op (g_bld rfl rfl) rfl rfl ?_ | (refine v_op (g_pickF rfl rfl ?_) rfl rfl ?_; (focus (((rfl)); done)))) | (refine k_gf rfl rfl ?_ ?_; (focus (((rfl)); done))) | (refine k_ff rfl ?_ ?_; (focus (((rfl)); done))))
    rename_i x5 x8 x13
    refine k_loop (ι := Unit) (fun i => True) (fun i => [(1, S []), (2, S k), (4, I (n + 1 : Nat)), (5, Pt x5 0), (8, Pt x8 0), (13, Pt x13 0)]) (fun _ => G) (fun i => [.blk x13 (.cells (List.toArray [S k, S [82], nilS, nilS]) tLv (0, 0)), .blk x8 (.cells (List.toArray [U8 x.2.sort, S x.2.name, slX x]) tTyB (0, 0)), .blk x5 (.cells (List.toArray [u]) tRd (0, 0))]) (fun i => 0) () ?_ (by repeat (first | exact trivial | refine ⟨rfl, ?_⟩)) rfl (by repeat ((exact List.Sublist.refl _))) (fun i Hi => ?_)
    · trivial
    repeat' (first | (refine run (t := tb) 400 rfl ?_ ?_; (focus (repeat' ((exact trivial))))) | (refine k_op rfl ?_; first | refine v_op (g_ldA rfl rfl rfl rfl) rfl rfl ?_ | refine c_al rfl rfl fun _ => ?_ | refine c_stA rfl rfl rfl rfl rfl rfl ?_ | (refine c_pu rfl rfl rfl cx_tg rfl ?_; rintro _ ⟨nt, rfl, hnt⟩)) | (refine k_tt rfl ?_ ?_; (focus (((rfl)); done))) | (refine k_any (s_any (id := 5) _ (fun _ h => h) mixed ?_); refine x_tks (t := tb) (fuel := 33) [0, 1, 2] (bts 36 7) (by kernel_rfl) (by kernel_rfl) rfl rfl (by (exact Gh.le.refl _)) (by repeat ((exact List.Sublist.refl _))) ?_ ?_; (focus (repeat' ((exact trivial)))); (try ((refine Nx.re (d := 43) (v' := Bo true) rfl (congrArg Value.bool ?_) ?_; (focus (((rfl)); done))))); refine x_tks (t := tb) (fuel := 31) [3, 4] (bts 36 31) (by kernel_rfl) (by kernel_rfl) rfl rfl (by (exact Gh.le.refl _)) (by repeat ((exact List.Sublist.refl _))) ?_ ?_; (focus (repeat' ((exact trivial)))); ((refine (x_tkg (bts 36 63) 5 rfl (by kernel_rfl) rfl (by (exact Gh.le.refl _)) (by repeat ((exact List.Sublist.refl _)))) (g_pickT rfl rfl ?_) rfl rfl ?_; (focus (((rfl)); done)))); refine x_tks (t := tb) (fuel := 29) [6] (bts 36 127) (by kernel_rfl) (by kernel_rfl) rfl rfl (by (exact Gh.le.refl _)) (by repeat ((exact List.Sublist.refl _))) ?_ ?_; (focus (repeat' ((exact trivial)))); (try ((refine Nx.re (d := 47) (v' := Bo true) rfl (congrArg Value.bool ?_) ?_; (focus (((rfl)); done))))); refine x_tks (t := tb) (fuel := 26) [7, 8, 9] (bts 36 1023) (by kernel_rfl) (by kernel_rfl) rfl rfl (by (exact Gh.le.refl _)) (by repeat ((exact List.Sublist.refl _))) ?_ ?_; (focus (repeat' ((exact trivial)))); ((refine (x_tkg (bts 36 2047) 10 rfl (by kernel_rfl) rfl (by (exact Gh.le.refl _)) (by repeat ((exact List.Sublist.refl _)))) (g_pickT rfl rfl ?_) rfl rfl ?_; (focus (((rfl)); done)))); refine x_tks (t := tb) (fuel := 24) [11] (bts 36 4095) (by kernel_rfl) (by kernel_rfl) rfl rfl (by (exact Gh.le.refl _)) (by repeat ((exact List.Sublist.refl _))) ?_ ?_; (focus (repeat' ((exact trivial)))); (try ((refine Nx.re (d := 52) (v' := Bo true) rfl (congrArg Value.bool ?_) ?_; (focus (((rfl)); done))))); refine x_tks (t := tb) (fuel := 21) [12, 13, 14] (bts 36 32767) (by kernel_rfl) (by kernel_rfl) rfl rfl (by (exact Gh.le.refl _)) (by repeat ((exact List.Sublist.refl _))) ?_ ?_; (focus (repeat' ((exact trivial)))); ((refine x_tkn (bts 36 65535) 15 rfl (by kernel_rfl) rfl (by (exact Gh.le.refl _)) (by repeat ((exact List.Sublist.refl _))) rfl rfl ?_)); ((refine x_tkn (bts 36 131071) 16 rfl (by kernel_rfl) rfl (by (exact Gh.le.refl _)) (by repeat ((exact List.Sublist.refl _))) rfl rfl ?_)); refine x_tks (t := tb) (fuel := 17) [17, 18] (bts 36 524287) (by kernel_rfl) (by kernel_rfl) rfl rfl (by (exact Gh.le.refl _)) (by repeat ((exact List.Sublist.refl _))) ?_ ?_; (focus (repeat' ((exact trivial)))); (try (fail)); refine x_tks (t := tb) (fuel := 10) [19, 20, 21, 23, 24, 25, 31] (bts 36 2210398207) (by kernel_rfl) (by kernel_rfl) rfl rfl (by (exact Gh.le.refl _)) (by repeat ((exact List.Sublist.refl _))) ?_ ?_; (focus (repeat' ((exact trivial)))); ((refine x_tkn (bts 36 2214592511) 22 rfl (by kernel_rfl) rfl (by (exact Gh.le.refl _)) (by repeat ((exact List.Sublist.refl _))) rfl rfl ?_)); ((refine x_tkn (bts 36 2281701375) 26 rfl (by kernel_rfl) rfl (by (exact Gh.le.refl _)) (by repeat ((exact List.Sublist.refl _))) rfl rfl ?_)); ((refine x_tkn (bts 36 2415919103) 27 rfl (by kernel_rfl) rfl (by (exact Gh.le.refl _)) (by repeat ((exact List.Sublist.refl _))) rfl rfl ?_)); refine x_tks (t := tb) (fuel := 6) [28] (bts 36 2684354559) (by kernel_rfl) (by kernel_rfl) rfl rfl (by (exact Gh.le.refl _)) (by repeat ((exact List.Sublist.refl _))) ?_ ?_; (focus (repeat' ((exact trivial)))); ((refine x_tkn (bts 36 3221225471) 29 rfl (by kernel_rfl) rfl (by (exact Gh.le.refl _)) (by repeat ((exact List.Sublist.refl _))) rfl rfl ?_)); ((refine x_tkn (bts 36 4294967295) 30 rfl (by kernel_rfl) rfl (by (exact Gh.le.refl _)) (by repeat ((exact List.Sublist.refl _))) rfl rfl ?_)); ((refine x_tkn (bts 36 8589934591) 32 rfl (by kernel_rfl) rfl (by (exact Gh.le.refl _)) (by repeat ((exact List.Sublist.refl _))) rfl rfl ?_)); refine x_tks (t := tb) (fuel := 2) [33] (bts 36 17179869183) (by kernel_rfl) (by kernel_rfl) rfl rfl (by (exact Gh.le.refl _)) (by repeat ((exact List.Sublist.refl _))) ?_ ?_; (focus (repeat' ((exact trivial)))); ((refine x_tkn (bts 36 34359738367) 34 rfl (by kernel_rfl) rfl (by (exact Gh.le.refl _)) (by repeat ((exact List.Sublist.refl _))) rfl rfl ?_)); ((refine (x_tkg (bts 36 68719476735) 35 rfl (by kernel_rfl) rfl (by (exact Gh.le.refl _)) (by repeat ((exact List.Sublist.refl _)))) (g_pickT rfl rfl ?_) rfl rfl ?_; (focus (((rfl)); done)))); refine x_done (by kernel_rfl) (k_bk ?_)))
    all_goals refine k_rr (vs := [_, _, _]) rfl ⟨rfl, rfl, rfl, trivial⟩ rfl (List.nil_sublist _) ⟨Gh.le.refl _, rfl, ?_⟩
    all_goals (rw [oneOf_three]; exact ⟨_, _, _, rfl, fun h => (by cases h), fun _ => by rw [hRl, flds_none rdField_nil]; rfl⟩)
  · have hslen3 : 0 < s.length := List.length_pos_iff.2 hs0
    refine b_enter [(0, _), (1, _), (2, _), (3, _), (4, _)] Tryz.func32 (by kernel_rfl) Tryz.ntmps32 rfl rfl (by repeat (first | exact trivial | refine ⟨rfl, ?_⟩)) fun B hok hB hW => ?_
    repeat' (first | (refine run (t := tb) 400 rfl ?_ ?_; (focus (repeat' (first | exact trivial | apply And.intro | omega)))) | (refine k_op rfl ?_; first | refine c_bx rfl rfl rfl fun _ => ?_ | refine v_op (g_bld rfl rfl) rfl rfl ?_ | (refine v_op (g_pickT rfl rfl ?_) rfl rfl ?_; (focus (((rfl)); done)))) | (refine k_gt rfl rfl ?_ ?_; (focus (((refine decide_eq_true ?_; (assumption))); done))) | (refine k_ff rfl ?_ ?_; (focus (((refine decide_eq_false ?_; (assumption))); done))))
    rename_i x5 x8 x13
    refine Nx.addNil tInt2 1 (Nx.addNil tPtr2 1 ?_)
    refine k_loop (ι := List (Fld × V) × List Nat × Option Addr × Nat × Option Addr × Nat × List UInt8 × Nat × Gh) (fun q => ((q.2.1.length = q.1.length ∧ (∀ i, i < q.1.length → (nth q.1 i).1 ∈ x.2.fields) ∧ ∀ i, i < q.1.length → RepR q.2.2.2.2.2.2.2.2 (tys vs) (nth q.1 i).2 (nth q.1 i).1.kind (nth q.2.1 i)) ∧ Gh.le G q.2.2.2.2.2.2.2.2) ∧ (rdFlds (tys vs) (rd (tys vs) n) x.2 (s.length + 1) 0 s [] = rdFlds (tys vs) (rd (tys vs) n) x.2 q.2.2.2.2.2.2.2.1 (lastT q.1) q.2.2.2.2.2.2.1 (nd61 q.1) ∧ q.2.2.2.2.2.2.1.length < q.2.2.2.2.2.2.2.1) ∧ q.2.2.2.2.2.2.1.length ≤ s.length ∧ q.1.length + q.2.2.2.2.2.2.1.length ≤ s.length) (fun q => [(1, S q.2.2.2.2.2.2.1), (2, S k), (4, I (n + 1 : Nat)), (5, Pt x5 0), (8, Pt x8 0), (13, Pt x13 0)]) (fun q => q.2.2.2.2.2.2.2.2) (fun q => [.acc (.slice q.2.2.2.2.1 q.1.length q.2.2.2.2.2.1) tPtr2 1 q.1.length (rows ptR q.2.1), .acc (.slice q.2.2.1 q.1.length q.2.2.2.1) tInt2 1 q.1.length (rows inR (q.1.map fun p => p.1.tag)), .blk x13 (.cells (List.toArray [S k, S [82], .slice q.2.2.1 q.1.length q.2.2.2.1, .slice q.2.2.2.2.1 q.1.length q.2.2.2.2.2.1]) tLv (0, 0)), .blk x8 (.cells (List.toArray [U8 x.2.sort, S x.2.name, slX x]) tTyB (0, 0)), .blk x5 (.cells (List.toArray [u]) tRd (0, 0))]) (fun q => q.2.2.2.2.2.2.1.length) ([], [], none, 0, none, 0, s, s.length + 1, G) ?_ (by repeat (first | exact trivial | refine ⟨rfl, ?_⟩)) rfl (by repeat ((exact List.Sublist.refl _))) (fun q Hq => ?_)
    · exact ⟨⟨⟨rfl, fun i hi => absurd hi (by simp), fun i hi => absurd hi (by simp)⟩, Gh.le.refl _⟩, ⟨rfl, Nat.lt_succ_self _⟩, Nat.le_refl _, by simp⟩
    obtain ⟨fs, bs, a1, c1, a2, c2, t, m, Gq⟩ := q
    dsimp only at Hq ⊢
    obtain ⟨⟨⟨hbl, hfm, hreps⟩, hgq⟩, ⟨hit, htm⟩, htl, hft⟩ := Hq
    have cx_tg := c_tag (G := Gq) (u := u) (x := x) (s := t) (by omega) h.sl.one ((h.mono hgq).fl x hx) (by omega)
    
    repeat' (first | (refine run (t := tb) 400 rfl ?_ ?_; (focus (repeat' ((exact trivial))))) | (refine k_op rfl ?_; first | refine v_op (g_ldA rfl rfl rfl rfl) rfl rfl ?_ | refine c_al rfl rfl fun _ => ?_ | refine c_stA rfl rfl rfl rfl rfl rfl ?_ | (refine c_pu rfl rfl rfl cx_tg rfl ?_; rintro _ ⟨nt, rfl, hnt⟩)))
    have hnone : ∀ {v : Value} {G' : Gh} {r : List UInt8}, rdFlds (tys vs) (rd (tys vs) n) x.2 m (lastT fs) t (nd61 fs) = none → v = Tu [.pointer none, S r, Bo false] → ReadP (tys vs) (rdTyped (tys vs) (rd (tys vs) n) x.2 (123 :: s)) k v G' := fun h1 h2 => ⟨_, _, _, h2, fun h => (by cases h), fun _ => by rw [hRl, hit, h1]; rfl⟩
    cases hb16 : (numOf (t.takeWhile isDg) 200).isSome && (fldT x.2.fields nt).isSome with
    | false =>
      have hno : rdField (rd (tys vs) n) x.2 t = none := by
        cases hm : numOf (t.takeWhile isDg) 200 with
        | none => exact field_none (.inl hm)
        | some m0 =>
          refine field_none (.inr ⟨m0, hm, ?_⟩)
          rw [hm] at hb16
          rw [← hnt m0 hm]
          cases hf : fldT x.2.fields nt with
          | none => rfl
          | some d => rw [hf] at hb16; cases hb16
      (refine k_any (s_any (id := 5) _ (fun _ h => h) mixed ?_); refine x_tks (t := tb) (fuel := 33) [0, 1, 2] (bts 36 7) (by kernel_rfl) (by kernel_rfl) rfl rfl (by (exact Gh.le.refl _)) (by repeat ((exact List.Sublist.refl _))) ?_ ?_; (focus (repeat' ((exact trivial)))); (try ((refine Nx.re (d := 43) (v' := Bo true) rfl (congrArg Value.bool ?_) ?_; (focus (((rfl)); done))))); refine x_tks (t := tb) (fuel := 31) [3, 4] (bts 36 31) (by kernel_rfl) (by kernel_rfl) rfl rfl (by (exact Gh.le.refl _)) (by repeat ((exact List.Sublist.refl _))) ?_ ?_; (focus (repeat' ((exact trivial)))); ((refine (x_tkg (bts 36 63) 5 rfl (by kernel_rfl) rfl (by (exact Gh.le.refl _)) (by repeat ((exact List.Sublist.refl _)))) (g_pickT rfl rfl ?_) rfl rfl ?_; (focus (((rfl)); done)))); refine x_tks (t := tb) (fuel := 29) [6] (bts 36 127) (by kernel_rfl) (by kernel_rfl) rfl rfl (by (exact Gh.le.refl _)) (by repeat ((exact List.Sublist.refl _))) ?_ ?_; (focus (repeat' ((exact trivial)))); (try ((refine Nx.re (d := 47) (v' := Bo true) rfl (congrArg Value.bool ?_) ?_; (focus (((rfl)); done))))); refine x_tks (t := tb) (fuel := 26) [7, 8, 9] (bts 36 1023) (by kernel_rfl) (by kernel_rfl) rfl rfl (by (exact Gh.le.refl _)) (by repeat ((exact List.Sublist.refl _))) ?_ ?_; (focus (repeat' ((exact trivial)))); ((refine (x_tkg (bts 36 2047) 10 rfl (by kernel_rfl) rfl (by (exact Gh.le.refl _)) (by repeat ((exact List.Sublist.refl _)))) (g_pickT rfl rfl ?_) rfl rfl ?_; (focus (((rfl)); done)))); refine x_tks (t := tb) (fuel := 24) [11] (bts 36 4095) (by kernel_rfl) (by kernel_rfl) rfl rfl (by (exact Gh.le.refl _)) (by repeat ((exact List.Sublist.refl _))) ?_ ?_; (focus (repeat' ((exact trivial)))); (try ((refine Nx.re (d := 52) (v' := Bo true) rfl (congrArg Value.bool ?_) ?_; (focus (((rfl)); done))))); refine x_tks (t := tb) (fuel := 21) [12, 13, 14] (bts 36 32767) (by kernel_rfl) (by kernel_rfl) rfl rfl (by (exact Gh.le.refl _)) (by repeat ((exact List.Sublist.refl _))) ?_ ?_; (focus (repeat' ((exact trivial)))); ((refine x_tkn (bts 36 65535) 15 rfl (by kernel_rfl) rfl (by (exact Gh.le.refl _)) (by repeat ((exact List.Sublist.refl _))) rfl rfl ?_)); ((refine x_tkn (bts 36 131071) 16 rfl (by kernel_rfl) rfl (by (exact Gh.le.refl _)) (by repeat ((exact List.Sublist.refl _))) rfl rfl ?_)); refine x_tks (t := tb) (fuel := 17) [17, 18] (bts 36 524287) (by kernel_rfl) (by kernel_rfl) rfl rfl (by (exact Gh.le.refl _)) (by repeat ((exact List.Sublist.refl _))) ?_ ?_; (focus (repeat' ((exact trivial)))); (try (fail)); refine x_tks (t := tb) (fuel := 10) [19, 20, 21, 23, 24, 25, 31] (bts 36 2210398207) (by kernel_rfl) (by kernel_rfl) rfl rfl (by (exact Gh.le.refl _)) (by repeat ((exact List.Sublist.refl _))) ?_ ?_; (focus (repeat' ((exact trivial)))); ((refine x_tkn (bts 36 2214592511) 22 rfl (by kernel_rfl) rfl (by (exact Gh.le.refl _)) (by repeat ((exact List.Sublist.refl _))) rfl rfl ?_)); ((refine x_tkn (bts 36 2281701375) 26 rfl (by kernel_rfl) rfl (by (exact Gh.le.refl _)) (by repeat ((exact List.Sublist.refl _))) rfl rfl ?_)); ((refine x_tkn (bts 36 2415919103) 27 rfl (by kernel_rfl) rfl (by (exact Gh.le.refl _)) (by repeat ((exact List.Sublist.refl _))) rfl rfl ?_)); refine x_tks (t := tb) (fuel := 6) [28] (bts 36 2684354559) (by kernel_rfl) (by kernel_rfl) rfl rfl (by (exact Gh.le.refl _)) (by repeat ((exact List.Sublist.refl _))) ?_ ?_; (focus (repeat' ((exact trivial)))); ((refine x_tkn (bts 36 3221225471) 29 rfl (by kernel_rfl) rfl (by (exact Gh.le.refl _)) (by repeat ((exact List.Sublist.refl _))) rfl rfl ?_)); ((refine x_tkn (bts 36 4294967295) 30 rfl (by kernel_rfl) rfl (by (exact Gh.le.refl _)) (by repeat ((exact List.Sublist.refl _))) rfl rfl ?_)); ((refine x_tkn (bts 36 8589934591) 32 rfl (by kernel_rfl) rfl (by (exact Gh.le.refl _)) (by repeat ((exact List.Sublist.refl _))) rfl rfl ?_)); refine x_tks (t := tb) (fuel := 2) [33] (bts 36 17179869183) (by kernel_rfl) (by kernel_rfl) rfl rfl (by (exact Gh.le.refl _)) (by repeat ((exact List.Sublist.refl _))) ?_ ?_; (focus (repeat' ((exact trivial)))); ((refine x_tkn (bts 36 34359738367) 34 rfl (by kernel_rfl) rfl (by (exact Gh.le.refl _)) (by repeat ((exact List.Sublist.refl _))) rfl rfl ?_)); ((refine (x_tkg (bts 36 68719476735) 35 rfl (by kernel_rfl) rfl (by (exact Gh.le.refl _)) (by repeat ((exact List.Sublist.refl _)))) (g_pickT rfl rfl ?_) rfl rfl ?_; (focus (((rfl)); done)))); refine x_done (by kernel_rfl) (k_bk ?_))
      repeat' (first | (refine run (t := tb) 400 rfl ?_ ?_; (focus (repeat' ((exact trivial))))) | (refine k_tt rfl ?_ ?_; (focus (((rfl)); done))))
      all_goals refine k_rr (vs := [_, _, _]) rfl ⟨rfl, rfl, rfl, trivial⟩ rfl (List.nil_sublist _) ⟨hgq, rfl, ?_⟩
      all_goals exact hnone (flds_none hno) rfl
    | true =>
      simp only [Bool.and_eq_true] at hb16
      obtain ⟨hb1, hb2⟩ := hb16
      obtain ⟨m0, hm⟩ := Option.isSome_iff_exists.1 hb1
      obtain ⟨d, hd⟩ := Option.isSome_iff_exists.1 hb2
      have hnm := hnt m0 hm
      subst hnm
      rw [hd]
      simp only [Option.getD_some]
      have hdm : d ∈ x.2.fields := List.mem_of_find?_eq_some hd
      have hdt : d.tag = nt := by have := List.find?_some hd; simpa using this
      have hwl := while_len isDg t
      cases hdw : t.dropWhile isDg with
      | nil =>
        have hno : rdField (rd (tys vs) n) x.2 t = none := field_noeq hm (fun s2 h => by rw [hdw] at h; cases h)
        (refine k_any (s_any (id := 5) _ (fun _ h => h) mixed ?_); refine x_tks (t := tb) (fuel := 33) [0, 1, 2] (bts 36 7) (by kernel_rfl) (by kernel_rfl) rfl rfl (by (exact Gh.le.refl _)) (by repeat ((exact List.Sublist.refl _))) ?_ ?_; (focus (repeat' ((exact trivial)))); (try ((refine Nx.re (d := 43) (v' := Bo false) rfl (congrArg Value.bool ?_) ?_; (focus (((rfl)); done))))); refine x_tks (t := tb) (fuel := 31) [3, 4] (bts 36 31) (by kernel_rfl) (by kernel_rfl) rfl rfl (by (exact Gh.le.refl _)) (by repeat ((exact List.Sublist.refl _))) ?_ ?_; (focus (repeat' ((exact trivial)))); ((refine (x_tkg (bts 36 63) 5 rfl (by kernel_rfl) rfl (by (exact Gh.le.refl _)) (by repeat ((exact List.Sublist.refl _)))) (g_pickF rfl rfl ?_) rfl rfl ?_; (focus (((rfl)); done)))); refine x_tks (t := tb) (fuel := 29) [6] (bts 36 127) (by kernel_rfl) (by kernel_rfl) rfl rfl (by (exact Gh.le.refl _)) (by repeat ((exact List.Sublist.refl _))) ?_ ?_; (focus (repeat' ((exact trivial)))); (try ((refine Nx.re (d := 47) (v' := Bo true) rfl (congrArg Value.bool ?_) ?_; (focus (((rfl)); done))))); refine x_tks (t := tb) (fuel := 26) [7, 8, 9] (bts 36 1023) (by kernel_rfl) (by kernel_rfl) rfl rfl (by (exact Gh.le.refl _)) (by repeat ((exact List.Sublist.refl _))) ?_ ?_; (focus (repeat' ((exact trivial)))); ((refine (x_tkg (bts 36 2047) 10 rfl (by kernel_rfl) rfl (by (exact Gh.le.refl _)) (by repeat ((exact List.Sublist.refl _)))) (g_pickT rfl rfl ?_) rfl rfl ?_; (focus (((rfl)); done)))); refine x_tks (t := tb) (fuel := 24) [11] (bts 36 4095) (by kernel_rfl) (by kernel_rfl) rfl rfl (by (exact Gh.le.refl _)) (by repeat ((exact List.Sublist.refl _))) ?_ ?_; (focus (repeat' ((exact trivial)))); (try ((refine Nx.re (d := 52) (v' := Bo true) rfl (congrArg Value.bool ?_) ?_; (focus (((rfl)); done))))); refine x_tks (t := tb) (fuel := 21) [12, 13, 14] (bts 36 32767) (by kernel_rfl) (by kernel_rfl) rfl rfl (by (exact Gh.le.refl _)) (by repeat ((exact List.Sublist.refl _))) ?_ ?_; (focus (repeat' ((exact trivial)))); ((refine x_tkn (bts 36 65535) 15 rfl (by kernel_rfl) rfl (by (exact Gh.le.refl _)) (by repeat ((exact List.Sublist.refl _))) rfl rfl ?_)); ((refine x_tkn (bts 36 131071) 16 rfl (by kernel_rfl) rfl (by (exact Gh.le.refl _)) (by repeat ((exact List.Sublist.refl _))) rfl rfl ?_)); refine x_tks (t := tb) (fuel := 17) [17, 18] (bts 36 524287) (by kernel_rfl) (by kernel_rfl) rfl rfl (by (exact Gh.le.refl _)) (by repeat ((exact List.Sublist.refl _))) ?_ ?_; (focus (repeat' ((exact trivial)))); (try (fail)); refine x_tks (t := tb) (fuel := 10) [19, 20, 21, 23, 24, 25, 31] (bts 36 2210398207) (by kernel_rfl) (by kernel_rfl) rfl rfl (by (exact Gh.le.refl _)) (by repeat ((exact List.Sublist.refl _))) ?_ ?_; (focus (repeat' ((exact trivial)))); ((refine x_tkn (bts 36 2214592511) 22 rfl (by kernel_rfl) rfl (by (exact Gh.le.refl _)) (by repeat ((exact List.Sublist.refl _))) rfl rfl ?_)); ((refine x_tkn (bts 36 2281701375) 26 rfl (by kernel_rfl) rfl (by (exact Gh.le.refl _)) (by repeat ((exact List.Sublist.refl _))) rfl rfl ?_)); ((refine x_tkn (bts 36 2415919103) 27 rfl (by kernel_rfl) rfl (by (exact Gh.le.refl _)) (by repeat ((exact List.Sublist.refl _))) rfl rfl ?_)); refine x_tks (t := tb) (fuel := 6) [28] (bts 36 2684354559) (by kernel_rfl) (by kernel_rfl) rfl rfl (by (exact Gh.le.refl _)) (by repeat ((exact List.Sublist.refl _))) ?_ ?_; (focus (repeat' ((exact trivial)))); ((refine x_tkn (bts 36 3221225471) 29 rfl (by kernel_rfl) rfl (by (exact Gh.le.refl _)) (by repeat ((exact List.Sublist.refl _))) rfl rfl ?_)); ((refine x_tkn (bts 36 4294967295) 30 rfl (by kernel_rfl) rfl (by (exact Gh.le.refl _)) (by repeat ((exact List.Sublist.refl _))) rfl rfl ?_)); ((refine x_tkn (bts 36 8589934591) 32 rfl (by kernel_rfl) rfl (by (exact Gh.le.refl _)) (by repeat ((exact List.Sublist.refl _))) rfl rfl ?_)); refine x_tks (t := tb) (fuel := 2) [33] (bts 36 17179869183) (by kernel_rfl) (by kernel_rfl) rfl rfl (by (exact Gh.le.refl _)) (by repeat ((exact List.Sublist.refl _))) ?_ ?_; (focus (repeat' ((exact trivial)))); ((refine x_tkn (bts 36 34359738367) 34 rfl (by kernel_rfl) rfl (by (exact Gh.le.refl _)) (by repeat ((exact List.Sublist.refl _))) rfl rfl ?_)); ((refine (x_tkg (bts 36 68719476735) 35 rfl (by kernel_rfl) rfl (by (exact Gh.le.refl _)) (by repeat ((exact List.Sublist.refl _)))) (g_pickT rfl rfl ?_) rfl rfl ?_; (focus (((rfl)); done)))); refine x_done (by kernel_rfl) (k_bk ?_))
        repeat' (first | (refine run (t := tb) 400 rfl ?_ ?_; (focus (repeat' ((exact trivial))))) | (refine k_tt rfl ?_ ?_; (focus (((rfl)); done))))
        all_goals refine k_rr (vs := [_, _, _]) rfl ⟨rfl, rfl, rfl, trivial⟩ rfl (List.nil_sublist _) ⟨hgq, rfl, ?_⟩
        all_goals exact hnone (flds_none hno) rfl
      | cons e r2 =>
        have he0 : bt (e :: r2) (Int.toNat 0) = e.toNat := bt_zero e r2
        have hel : (e :: r2).length = r2.length + 1 := rfl
        by_cases h61 : e.toNat = 61
        case neg =>
          have hno : rdField (rd (tys vs) n) x.2 t = none := field_noeq hm (fun s2 h => by rw [hdw] at h; simp only [List.cons.injEq] at h; exact h61 (by rw [h.1]; rfl))
          (refine k_any (s_any (id := 5) _ (fun _ h => h) mixed ?_); refine x_tks (t := tb) (fuel := 33) [0, 1, 2] (bts 36 7) (by kernel_rfl) (by kernel_rfl) rfl rfl (by (exact Gh.le.refl _)) (by repeat ((exact List.Sublist.refl _))) ?_ ?_; (focus (repeat' ((exact trivial)))); (try ((refine Nx.re (d := 43) (v' := Bo false) rfl (congrArg Value.bool ?_) ?_; (focus (((rfl)); done))))); refine x_tks (t := tb) (fuel := 31) [3, 4] (bts 36 31) (by kernel_rfl) (by kernel_rfl) rfl rfl (by (exact Gh.le.refl _)) (by repeat ((exact List.Sublist.refl _))) ?_ ?_; (focus (repeat' ((exact trivial)))); ((refine (x_tkg (bts 36 63) 5 rfl (by kernel_rfl) rfl (by (exact Gh.le.refl _)) (by repeat ((exact List.Sublist.refl _)))) (g_pickF rfl rfl ?_) rfl rfl ?_; (focus (((rfl)); done)))); refine x_tks (t := tb) (fuel := 29) [6] (bts 36 127) (by kernel_rfl) (by kernel_rfl) rfl rfl (by (exact Gh.le.refl _)) (by repeat ((exact List.Sublist.refl _))) ?_ ?_; (focus (repeat' ((exact trivial)))); (try ((refine Nx.re (d := 47) (v' := Bo false) rfl (congrArg Value.bool ?_) ?_; (focus (((rfl)); done))))); refine x_tks (t := tb) (fuel := 26) [7, 8, 9] (bts 36 1023) (by kernel_rfl) (by kernel_rfl) rfl rfl (by (exact Gh.le.refl _)) (by repeat ((exact List.Sublist.refl _))) ?_ ?_; (focus (repeat' (first | exact trivial | apply And.intro | omega))); ((refine (x_tkg (bts 36 2047) 10 rfl (by kernel_rfl) rfl (by (exact Gh.le.refl _)) (by repeat ((exact List.Sublist.refl _)))) (g_pickF rfl rfl ?_) rfl rfl ?_; (focus (((rfl)); done)))); refine x_tks (t := tb) (fuel := 24) [11] (bts 36 4095) (by kernel_rfl) (by kernel_rfl) rfl rfl (by (exact Gh.le.refl _)) (by repeat ((exact List.Sublist.refl _))) ?_ ?_; (focus (repeat' ((exact trivial)))); (try ((refine Nx.re (d := 52) (v' := Bo true) rfl (congrArg Value.bool ?_) ?_; (focus (((refine decide_eq_true ?_; (omega))); done))))); refine x_tks (t := tb) (fuel := 21) [12, 13, 14] (bts 36 32767) (by kernel_rfl) (by kernel_rfl) rfl rfl (by (exact Gh.le.refl _)) (by repeat ((exact List.Sublist.refl _))) ?_ ?_; (focus (repeat' ((exact trivial)))); ((refine x_tkn (bts 36 65535) 15 rfl (by kernel_rfl) rfl (by (exact Gh.le.refl _)) (by repeat ((exact List.Sublist.refl _))) rfl rfl ?_)); ((refine x_tkn (bts 36 131071) 16 rfl (by kernel_rfl) rfl (by (exact Gh.le.refl _)) (by repeat ((exact List.Sublist.refl _))) rfl rfl ?_)); refine x_tks (t := tb) (fuel := 17) [17, 18] (bts 36 524287) (by kernel_rfl) (by kernel_rfl) rfl rfl (by (exact Gh.le.refl _)) (by repeat ((exact List.Sublist.refl _))) ?_ ?_; (focus (repeat' ((exact trivial)))); (try (fail)); refine x_tks (t := tb) (fuel := 10) [19, 20, 21, 23, 24, 25, 31] (bts 36 2210398207) (by kernel_rfl) (by kernel_rfl) rfl rfl (by (exact Gh.le.refl _)) (by repeat ((exact List.Sublist.refl _))) ?_ ?_; (focus (repeat' ((exact trivial)))); ((refine x_tkn (bts 36 2214592511) 22 rfl (by kernel_rfl) rfl (by (exact Gh.le.refl _)) (by repeat ((exact List.Sublist.refl _))) rfl rfl ?_)); ((refine x_tkn (bts 36 2281701375) 26 rfl (by kernel_rfl) rfl (by (exact Gh.le.refl _)) (by repeat ((exact List.Sublist.refl _))) rfl rfl ?_)); ((refine x_tkn (bts 36 2415919103) 27 rfl (by kernel_rfl) rfl (by (exact Gh.le.refl _)) (by repeat ((exact List.Sublist.refl _))) rfl rfl ?_)); refine x_tks (t := tb) (fuel := 6) [28] (bts 36 2684354559) (by kernel_rfl) (by kernel_rfl) rfl rfl (by (exact Gh.le.refl _)) (by repeat ((exact List.Sublist.refl _))) ?_ ?_; (focus (repeat' ((exact trivial)))); ((refine x_tkn (bts 36 3221225471) 29 rfl (by kernel_rfl) rfl (by (exact Gh.le.refl _)) (by repeat ((exact List.Sublist.refl _))) rfl rfl ?_)); ((refine x_tkn (bts 36 4294967295) 30 rfl (by kernel_rfl) rfl (by (exact Gh.le.refl _)) (by repeat ((exact List.Sublist.refl _))) rfl rfl ?_)); ((refine x_tkn (bts 36 8589934591) 32 rfl (by kernel_rfl) rfl (by (exact Gh.le.refl _)) (by repeat ((exact List.Sublist.refl _))) rfl rfl ?_)); refine x_tks (t := tb) (fuel := 2) [33] (bts 36 17179869183) (by kernel_rfl) (by kernel_rfl) rfl rfl (by (exact Gh.le.refl _)) (by repeat ((exact List.Sublist.refl _))) ?_ ?_; (focus (repeat' ((exact trivial)))); ((refine x_tkn (bts 36 34359738367) 34 rfl (by kernel_rfl) rfl (by (exact Gh.le.refl _)) (by repeat ((exact List.Sublist.refl _))) rfl rfl ?_)); ((refine (x_tkg (bts 36 68719476735) 35 rfl (by kernel_rfl) rfl (by (exact Gh.le.refl _)) (by repeat ((exact List.Sublist.refl _)))) (g_pickT rfl rfl ?_) rfl rfl ?_; (focus (((rfl)); done)))); refine x_done (by kernel_rfl) (k_bk ?_))
          repeat' (first | (refine run (t := tb) 400 rfl ?_ ?_; (focus (repeat' ((exact trivial))))) | (refine k_tt rfl ?_ ?_; (focus (((rfl)); done))))
          all_goals refine k_rr (vs := [_, _, _]) rfl ⟨rfl, rfl, rfl, trivial⟩ rfl (List.nil_sublist _) ⟨hgq, rfl, ?_⟩
          all_goals exact hnone (flds_none hno) rfl
        have he61 : e = 61 := UInt8.toNat_inj.1 h61
        have hfs := field_some (f := rd (tys vs) n) (t := x.2) (s := t) hm hd (by rw [hdw, he61])
        have hm0 : 0 < m := by omega
        have hflt : (fs.map fun p : Fld × V => p.1.tag).length = fs.length := by simp
        have hdt1 := ((hTW.fld d hdm).tag).1
        have hlast0 : fs.length = 0 → lastT fs = 0 := fun h0 => by rw [List.length_eq_zero_iff.1 h0]; rfl
        have hlast1 : 0 < fs.length → nth (fs.map fun p : Fld × V => p.1.tag) (((fs.length : Nat) : Int) - 1).toNat = lastT fs := fun h0 => by
          have e1 : (((fs.length : Nat) : Int) - 1).toNat = fs.length - 1 := by omega
          rw [e1, nth_eq (by rw [hflt]; omega)]
          unfold lastT
          rw [List.getLast?_eq_getElem?, List.getElem?_eq_getElem (by omega)]
          simp
        rename_i x14
        have hf0 : fs.length = 0 ∨ 0 < fs.length := by omega
        by_cases hlt : d.tag ≤ lastT fs
        · have hpos : 0 < fs.length := by
            rcases hf0 with h0 | h0
            · have := hlast0 h0; omega
            · exact h0
          have hyl := hlast1 hpos
          have hno : rdFlds (tys vs) (rd (tys vs) n) x.2 m (lastT fs) t (nd61 fs) = none := by
            cases hy : rd (tys vs) n d.kind r2 with
            | none => exact flds_none (by rw [hfs, hy]; rfl)
            | some y =>
              obtain ⟨w, r3⟩ := y
              rw [flds_step (d := d) (v := w) (r := r3) (by rw [hfs, hy]; rfl) hm0, if_pos (.inl hlt)]
          refine Nx.shp (v := .slice a1 fs.length c1) (.tail _ (.tail _ (.head _))) fun hsh => ?_
          obtain ⟨tb1, tc1, e1⟩ := hsh.pos (by omega)
          simp only [Value.slice.injEq] at e1
          obtain ⟨rfl, -, rfl⟩ := e1
          (refine k_any (s_any (id := 5) _ (fun _ h => h) mixed ?_); refine x_tks (t := tb) (fuel := 33) [0, 1, 2] (bts 36 7) (by kernel_rfl) (by kernel_rfl) rfl rfl (by (exact Gh.le.refl _)) (by repeat ((exact List.Sublist.refl _))) ?_ ?_; (focus (repeat' ((exact trivial)))); (try ((refine Nx.re (d := 43) (v' := Bo false) rfl (congrArg Value.bool ?_) ?_; (focus (((rfl)); done))))); refine x_tks (t := tb) (fuel := 31) [3, 4] (bts 36 31) (by kernel_rfl) (by kernel_rfl) rfl rfl (by (exact Gh.le.refl _)) (by repeat ((exact List.Sublist.refl _))) ?_ ?_; (focus (repeat' ((exact trivial)))); ((refine (x_tkg (bts 36 63) 5 rfl (by kernel_rfl) rfl (by (exact Gh.le.refl _)) (by repeat ((exact List.Sublist.refl _)))) (g_pickF rfl rfl ?_) rfl rfl ?_; (focus (((rfl)); done)))); refine x_tks (t := tb) (fuel := 29) [6] (bts 36 127) (by kernel_rfl) (by kernel_rfl) rfl rfl (by (exact Gh.le.refl _)) (by repeat ((exact List.Sublist.refl _))) ?_ ?_; (focus (repeat' ((exact trivial)))); (try ((refine Nx.re (d := 47) (v' := Bo false) rfl (congrArg Value.bool ?_) ?_; (focus (((rfl)); done))))); refine x_tks (t := tb) (fuel := 26) [7, 8, 9] (bts 36 1023) (by kernel_rfl) (by kernel_rfl) rfl rfl (by (exact Gh.le.refl _)) (by repeat ((exact List.Sublist.refl _))) ?_ ?_; (focus (repeat' (first | exact trivial | apply And.intro | omega))); ((refine (x_tkg (bts 36 2047) 10 rfl (by kernel_rfl) rfl (by (exact Gh.le.refl _)) (by repeat ((exact List.Sublist.refl _)))) (g_pickF rfl rfl ?_) rfl rfl ?_; (focus (((rfl)); done)))); refine x_tks (t := tb) (fuel := 24) [11] (bts 36 4095) (by kernel_rfl) (by kernel_rfl) rfl rfl (by (exact Gh.le.refl _)) (by repeat ((exact List.Sublist.refl _))) ?_ ?_; (focus (repeat' ((exact trivial)))); (try ((refine Nx.re (d := 52) (v' := Bo false) rfl (congrArg Value.bool ?_) ?_; (focus (((refine decide_eq_false ?_; (omega))); done))))); refine x_tks (t := tb) (fuel := 21) [12, 13, 14] (bts 36 32767) (by kernel_rfl) (by kernel_rfl) rfl rfl (by (exact Gh.le.refl _)) (by repeat ((exact List.Sublist.refl _))) ?_ ?_; (focus (repeat' ((exact trivial)))); ((refine (x_tkg (bts 36 65535) 15 rfl (by kernel_rfl) rfl (by (exact Gh.le.refl _)) (by repeat ((exact List.Sublist.refl _)))) (g_ld rfl rfl rfl) rfl rfl ?_)); ((refine (x_tkg (bts 36 131071) 16 rfl (by kernel_rfl) rfl (by (exact Gh.le.refl _)) (by repeat ((exact List.Sublist.refl _)))) (g_lenL rfl) rfl rfl ?_)); refine x_tks (t := tb) (fuel := 17) [17, 18] (bts 36 524287) (by kernel_rfl) (by kernel_rfl) rfl rfl (by (exact Gh.le.refl _)) (by repeat ((exact List.Sublist.refl _))) ?_ ?_; (focus (repeat' ((exact trivial)))); (try ((refine Nx.re (d := 59) (v' := Bo true) rfl (congrArg Value.bool ?_) ?_; (focus (((refine decide_eq_true ?_; (omega))); done))))); refine x_tks (t := tb) (fuel := 10) [19, 20, 21, 23, 24, 25, 31] (bts 36 2210398207) (by kernel_rfl) (by kernel_rfl) rfl rfl (by (exact Gh.le.refl _)) (by repeat ((exact List.Sublist.refl _))) ?_ ?_; (focus (repeat' ((exact trivial)))); ((refine (x_tkg (bts 36 2214592511) 22 rfl (by kernel_rfl) rfl (by (exact Gh.le.refl _)) (by repeat ((exact List.Sublist.refl _)))) (g_ld rfl rfl rfl) rfl rfl ?_)); ((refine (x_tkg (bts 36 2281701375) 26 rfl (by kernel_rfl) rfl (by (exact Gh.le.refl _)) (by repeat ((exact List.Sublist.refl _)))) (g_ld rfl rfl rfl) rfl rfl ?_)); ((refine (x_tkg (bts 36 2415919103) 27 rfl (by kernel_rfl) rfl (by (exact Gh.le.refl _)) (by repeat ((exact List.Sublist.refl _)))) (g_lenL rfl) rfl rfl ?_)); refine x_tks (t := tb) (fuel := 6) [28] (bts 36 2684354559) (by kernel_rfl) (by kernel_rfl) rfl rfl (by (exact Gh.le.refl _)) (by repeat ((exact List.Sublist.refl _))) ?_ ?_; (focus (repeat' (first | exact trivial | apply And.intro | omega))); ((refine (x_tkg (bts 36 3221225471) 29 rfl (by kernel_rfl) rfl (by (exact Gh.le.refl _)) (by repeat ((exact List.Sublist.refl _)))) (g_iaddr rfl rfl ?_) rfl rfl ?_; (focus ((omega); done)))); ((refine (x_tkg (bts 36 4294967295) 30 rfl (by kernel_rfl) rfl (by (exact Gh.le.refl _)) (by repeat ((exact List.Sublist.refl _)))) (g_ldB1 rfl rfl rfl ?_ (by assumption)) rfl rfl ?_; (focus (((omega)); done)))); ((refine (x_tkg (bts 36 8589934591) 32 rfl (by kernel_rfl) rfl (by (exact Gh.le.refl _)) (by repeat ((exact List.Sublist.refl _)))) (g_ld rfl rfl rfl) rfl rfl ?_)); refine x_tks (t := tb) (fuel := 2) [33] (bts 36 17179869183) (by kernel_rfl) (by kernel_rfl) rfl rfl (by (exact Gh.le.refl _)) (by repeat ((exact List.Sublist.refl _))) ?_ ?_; (focus (repeat' ((exact trivial)))); ((refine (x_tkg (bts 36 34359738367) 34 rfl (by kernel_rfl) rfl (by (exact Gh.le.refl _)) (by repeat ((exact List.Sublist.refl _)))) (g_pickT rfl rfl ?_) rfl rfl ?_; (focus (((rfl)); done)))); ((refine (x_tkg (bts 36 68719476735) 35 rfl (by kernel_rfl) rfl (by (exact Gh.le.refl _)) (by repeat ((exact List.Sublist.refl _)))) (g_pickF rfl rfl ?_) rfl rfl ?_; (focus (((rfl)); done)))); refine x_done (by kernel_rfl) (k_bk ?_))
          repeat' (first | (refine run (t := tb) 400 rfl ?_ ?_; (focus (repeat' ((exact trivial))))) | (refine k_tt rfl ?_ ?_; (focus (((refine decide_eq_true ?_; (assumption))); done))))
          all_goals refine k_rr (vs := [_, _, _]) rfl ⟨rfl, rfl, rfl, trivial⟩ rfl (List.nil_sublist _) ⟨hgq, rfl, ?_⟩
          all_goals exact hnone hno rfl
        have hSq := h.mono hgq
        have hdk : kindIn (tys vs) d.kind = true := kind_in hw hxt (by omega) hdm
        rw [hdw, List.length_cons] at hwl
        have cx_rd := hR Gq d.kind r2 hSq hdk (by omega)
        rw [← edn] at cx_rd
        rcases hf0 with hf0 | hf0
        rotate_left
        have hyl := hlast1 hf0
        refine Nx.shp (v := .slice a1 fs.length c1) (.tail _ (.tail _ (.head _))) fun hsh => ?_
        obtain ⟨tb1, tc1, e1⟩ := hsh.pos (by omega)
        simp only [Value.slice.injEq] at e1
        obtain ⟨rfl, -, rfl⟩ := e1
        all_goals
          (refine k_any (s_any (id := 5) _ (fun _ h => h) mixed ?_); refine x_tks (t := tb) (fuel := 33) [0, 1, 2] (bts 36 7) (by kernel_rfl) (by kernel_rfl) rfl rfl (by (exact Gh.le.refl _)) (by repeat ((exact List.Sublist.refl _))) ?_ ?_; (focus (repeat' ((exact trivial)))); (try ((refine Nx.re (d := 43) (v' := Bo false) rfl (congrArg Value.bool ?_) ?_; (focus (((rfl)); done))))); refine x_tks (t := tb) (fuel := 31) [3, 4] (bts 36 31) (by kernel_rfl) (by kernel_rfl) rfl rfl (by (exact Gh.le.refl _)) (by repeat ((exact List.Sublist.refl _))) ?_ ?_; (focus (repeat' ((exact trivial)))); ((refine (x_tkg (bts 36 63) 5 rfl (by kernel_rfl) rfl (by (exact Gh.le.refl _)) (by repeat ((exact List.Sublist.refl _)))) (g_pickF rfl rfl ?_) rfl rfl ?_; (focus (((rfl)); done)))); refine x_tks (t := tb) (fuel := 29) [6] (bts 36 127) (by kernel_rfl) (by kernel_rfl) rfl rfl (by (exact Gh.le.refl _)) (by repeat ((exact List.Sublist.refl _))) ?_ ?_; (focus (repeat' ((exact trivial)))); (try ((refine Nx.re (d := 47) (v' := Bo false) rfl (congrArg Value.bool ?_) ?_; (focus (((rfl)); done))))); refine x_tks (t := tb) (fuel := 26) [7, 8, 9] (bts 36 1023) (by kernel_rfl) (by kernel_rfl) rfl rfl (by (exact Gh.le.refl _)) (by repeat ((exact List.Sublist.refl _))) ?_ ?_; (focus (repeat' (first | exact trivial | apply And.intro | omega))); ((refine (x_tkg (bts 36 2047) 10 rfl (by kernel_rfl) rfl (by (exact Gh.le.refl _)) (by repeat ((exact List.Sublist.refl _)))) (g_pickF rfl rfl ?_) rfl rfl ?_; (focus (((rfl)); done)))); refine x_tks (t := tb) (fuel := 24) [11] (bts 36 4095) (by kernel_rfl) (by kernel_rfl) rfl rfl (by (exact Gh.le.refl _)) (by repeat ((exact List.Sublist.refl _))) ?_ ?_; (focus (repeat' ((exact trivial)))); (try ((refine Nx.re (d := 52) (v' := Bo false) rfl (congrArg Value.bool ?_) ?_; (focus (((refine decide_eq_false ?_; (omega))); done))))); refine x_tks (t := tb) (fuel := 21) [12, 13, 14] (bts 36 32767) (by kernel_rfl) (by kernel_rfl) rfl rfl (by (exact Gh.le.refl _)) (by repeat ((exact List.Sublist.refl _))) ?_ ?_; (focus (repeat' ((exact trivial)))); ((refine (x_tkg (bts 36 65535) 15 rfl (by kernel_rfl) rfl (by (exact Gh.le.refl _)) (by repeat ((exact List.Sublist.refl _)))) (g_ld rfl rfl rfl) rfl rfl ?_)); ((refine (x_tkg (bts 36 131071) 16 rfl (by kernel_rfl) rfl (by (exact Gh.le.refl _)) (by repeat ((exact List.Sublist.refl _)))) (g_lenL rfl) rfl rfl ?_)); refine x_tks (t := tb) (fuel := 17) [17, 18] (bts 36 524287) (by kernel_rfl) (by kernel_rfl) rfl rfl (by (exact Gh.le.refl _)) (by repeat ((exact List.Sublist.refl _))) ?_ ?_; (focus (repeat' ((exact trivial)))); (try (first | (refine Nx.re (d := 59) (v' := Bo true) rfl (congrArg Value.bool ?_) ?_; (focus (((refine decide_eq_true ?_; (omega))); done))) | (refine Nx.re (d := 59) (v' := Bo false) rfl (congrArg Value.bool ?_) ?_; (focus (((refine decide_eq_false ?_; (omega))); done))))); refine x_tks (t := tb) (fuel := 10) [19, 20, 21, 23, 24, 25, 31] (bts 36 2210398207) (by kernel_rfl) (by kernel_rfl) rfl rfl (by (exact Gh.le.refl _)) (by repeat ((exact List.Sublist.refl _))) ?_ ?_; (focus (repeat' ((exact trivial)))); (first | refine (x_tkg (bts 36 2214592511) 22 rfl (by kernel_rfl) rfl (by (exact Gh.le.refl _)) (by repeat ((exact List.Sublist.refl _)))) (g_ld rfl rfl rfl) rfl rfl ?_ | refine x_tkn (bts 36 2214592511) 22 rfl (by kernel_rfl) rfl (by (exact Gh.le.refl _)) (by repeat ((exact List.Sublist.refl _))) rfl rfl ?_); (first | refine (x_tkg (bts 36 2281701375) 26 rfl (by kernel_rfl) rfl (by (exact Gh.le.refl _)) (by repeat ((exact List.Sublist.refl _)))) (g_ld rfl rfl rfl) rfl rfl ?_ | refine x_tkn (bts 36 2281701375) 26 rfl (by kernel_rfl) rfl (by (exact Gh.le.refl _)) (by repeat ((exact List.Sublist.refl _))) rfl rfl ?_); (first | refine (x_tkg (bts 36 2415919103) 27 rfl (by kernel_rfl) rfl (by (exact Gh.le.refl _)) (by repeat ((exact List.Sublist.refl _)))) (g_lenL rfl) rfl rfl ?_ | refine x_tkn (bts 36 2415919103) 27 rfl (by kernel_rfl) rfl (by (exact Gh.le.refl _)) (by repeat ((exact List.Sublist.refl _))) rfl rfl ?_); refine x_tks (t := tb) (fuel := 6) [28] (bts 36 2684354559) (by kernel_rfl) (by kernel_rfl) rfl rfl (by (exact Gh.le.refl _)) (by repeat ((exact List.Sublist.refl _))) ?_ ?_; (focus (repeat' (first | exact trivial | apply And.intro | omega))); (first | (refine (x_tkg (bts 36 3221225471) 29 rfl (by kernel_rfl) rfl (by (exact Gh.le.refl _)) (by repeat ((exact List.Sublist.refl _)))) (g_iaddr rfl rfl ?_) rfl rfl ?_; (focus ((omega); done))) | refine x_tkn (bts 36 3221225471) 29 rfl (by kernel_rfl) rfl (by (exact Gh.le.refl _)) (by repeat ((exact List.Sublist.refl _))) rfl rfl ?_); (first | (refine (x_tkg (bts 36 4294967295) 30 rfl (by kernel_rfl) rfl (by (exact Gh.le.refl _)) (by repeat ((exact List.Sublist.refl _)))) (g_ldB1 rfl rfl rfl ?_ (by assumption)) rfl rfl ?_; (focus (((omega)); done))) | refine x_tkn (bts 36 4294967295) 30 rfl (by kernel_rfl) rfl (by (exact Gh.le.refl _)) (by repeat ((exact List.Sublist.refl _))) rfl rfl ?_); (first | refine (x_tkg (bts 36 8589934591) 32 rfl (by kernel_rfl) rfl (by (exact Gh.le.refl _)) (by repeat ((exact List.Sublist.refl _)))) (g_ld rfl rfl rfl) rfl rfl ?_ | refine x_tkn (bts 36 8589934591) 32 rfl (by kernel_rfl) rfl (by (exact Gh.le.refl _)) (by repeat ((exact List.Sublist.refl _))) rfl rfl ?_); refine x_tks (t := tb) (fuel := 2) [33] (bts 36 17179869183) (by kernel_rfl) (by kernel_rfl) rfl rfl (by (exact Gh.le.refl _)) (by repeat ((exact List.Sublist.refl _))) ?_ ?_; (focus (repeat' ((exact trivial)))); (first | (refine (x_tkg (bts 36 34359738367) 34 rfl (by kernel_rfl) rfl (by (exact Gh.le.refl _)) (by repeat ((exact List.Sublist.refl _)))) (g_pickT rfl rfl ?_) rfl rfl ?_; (focus (((rfl)); done))) | (refine (x_tkg (bts 36 34359738367) 34 rfl (by kernel_rfl) rfl (by (exact Gh.le.refl _)) (by repeat ((exact List.Sublist.refl _)))) (g_pickF rfl rfl ?_) rfl rfl ?_; (focus (((rfl)); done)))); ((refine (x_tkg (bts 36 68719476735) 35 rfl (by kernel_rfl) rfl (by (exact Gh.le.refl _)) (by repeat ((exact List.Sublist.refl _)))) (g_pickF rfl rfl ?_) rfl rfl ?_; (focus (((rfl)); done)))); refine x_done (by kernel_rfl) (k_bk ?_))
          repeat' (first | (refine run (t := tb) 400 rfl ?_ ?_; (focus (repeat' ((exact trivial))))) | (refine k_ff rfl ?_ ?_; (focus ((first | rfl | (refine decide_eq_false ?_; (assumption))); done))))
          (refine k_any (s_any (id := 7) _ (fun _ h => h) mixed ?_); refine x_tks (t := tb) (fuel := 10) [1, 2, 3, 5, 6] (bts 15 110) (by kernel_rfl) (by kernel_rfl) rfl rfl (by (exact Gh.le.refl _)) (by repeat ((exact List.Sublist.refl _))) ?_ ?_; (focus (repeat' (first | exact trivial | apply And.intro | omega))); ((refine (x_tkg (bts 15 111) 0 rfl (by kernel_rfl) rfl (by (exact Gh.le.refl _)) (by repeat ((exact List.Sublist.refl _)))) (g_ldA rfl rfl rfl rfl) rfl rfl ?_)); ((refine (x_tkg (bts 15 127) 4 rfl (by kernel_rfl) rfl (by (exact Gh.le.refl _)) (by repeat ((exact List.Sublist.refl _)))) (g_ld rfl rfl rfl) rfl rfl ?_)); refine x_all [7] (by kernel_rfl) (by decide) ⟨?_, trivial⟩; refine x_opg rfl rfl ?_; ((refine c_fns rfl rfl rfl cx_rd rfl ?_; rintro _ G hle ⟨q1, r1, ok1, rfl, hyes, hno⟩; skip)); refine x_ks (by (assumption)) (by repeat ((exact List.Sublist.refl _))) (listed' := (bts 15 255)) (by kernel_rfl) ?_; refine x_tks (t := tb) (fuel := 0) [8, 9, 10, 11, 12, 13, 14] (bts 15 32767) (by kernel_rfl) (by kernel_rfl) rfl rfl (by (exact Gh.le.refl _)) (by repeat ((exact List.Sublist.refl _))) ?_ ?_; (focus (repeat' ((exact trivial)))); refine x_done (by kernel_rfl) (k_bk ?_))
          repeat' ((refine run (t := tb) 400 rfl ?_ ?_; (focus (repeat' ((exact trivial))))))
          have hgl := hgq.trans hle
          cases ok1 with
          | false =>
            have hno2 : rdField (rd (tys vs) n) x.2 t = none := by rw [hfs, hno rfl]; rfl
            (refine k_any (s_any (id := 8) _ (fun _ h => h) mixed ?_); refine x_tks (t := tb) (fuel := 22) [0, 1, 2] (bts 25 7) (by kernel_rfl) (by kernel_rfl) rfl rfl (by (exact Gh.le.refl _)) (by repeat ((exact List.Sublist.refl _))) ?_ ?_; (focus (repeat' ((exact trivial)))); (try ((refine Nx.re (d := 92) (v' := Bo true) rfl (congrArg Value.bool ?_) ?_; (focus (((rfl)); done))))); refine x_tks (t := tb) (fuel := 20) [3, 5] (bts 25 47) (by kernel_rfl) (by kernel_rfl) rfl rfl (by (exact Gh.le.refl _)) (by repeat ((exact List.Sublist.refl _))) ?_ ?_; (focus (repeat' ((exact trivial)))); ((refine x_tkn (bts 25 111) 6 rfl (by kernel_rfl) rfl (by (exact Gh.le.refl _)) (by repeat ((exact List.Sublist.refl _))) rfl rfl ?_)); ((refine x_tkn (bts 25 239) 7 rfl (by kernel_rfl) rfl (by (exact Gh.le.refl _)) (by repeat ((exact List.Sublist.refl _))) rfl rfl ?_)); ((refine x_tkn (bts 25 255) 4 rfl (by kernel_rfl) rfl (by (exact Gh.le.refl _)) (by repeat ((exact List.Sublist.refl _))) rfl rfl ?_)); ((refine x_tkn (bts 25 511) 8 rfl (by kernel_rfl) rfl (by (exact Gh.le.refl _)) (by repeat ((exact List.Sublist.refl _))) rfl rfl ?_)); refine x_tks (t := tb) (fuel := 15) [9] (bts 25 1023) (by kernel_rfl) (by kernel_rfl) rfl rfl (by (exact Gh.le.refl _)) (by repeat ((exact List.Sublist.refl _))) ?_ ?_; (focus (repeat' ((exact trivial)))); ((refine (x_tkg (bts 25 2047) 10 rfl (by kernel_rfl) rfl (by (exact Gh.le.refl _)) (by repeat ((exact List.Sublist.refl _)))) (g_pickT rfl rfl ?_) rfl rfl ?_; (focus (((rfl)); done)))); refine x_tks (t := tb) (fuel := 13) [11] (bts 25 4095) (by kernel_rfl) (by kernel_rfl) rfl rfl (by (exact Gh.le.refl _)) (by repeat ((exact List.Sublist.refl _))) ?_ ?_; (focus (repeat' ((exact trivial)))); (try ((refine Nx.re (d := 101) (v' := Bo true) rfl (congrArg Value.bool ?_) ?_; (focus (((rfl)); done))))); refine x_tks (t := tb) (fuel := 11) [12, 13] (bts 25 16383) (by kernel_rfl) (by kernel_rfl) rfl rfl (by (exact Gh.le.refl _)) (by repeat ((exact List.Sublist.refl _))) ?_ ?_; (focus (repeat' ((exact trivial)))); ((refine (x_tkg (bts 25 32767) 14 rfl (by kernel_rfl) rfl (by (exact Gh.le.refl _)) (by repeat ((exact List.Sublist.refl _)))) (g_pickT rfl rfl ?_) rfl rfl ?_; (focus (((rfl)); done)))); refine x_tks (t := tb) (fuel := 9) [15] (bts 25 65535) (by kernel_rfl) (by kernel_rfl) rfl rfl (by (exact Gh.le.refl _)) (by repeat ((exact List.Sublist.refl _))) ?_ ?_; (focus (repeat' ((exact trivial)))); (try ((refine Nx.re (d := 105) (v' := Bo true) rfl (congrArg Value.bool ?_) ?_; (focus (((rfl)); done))))); refine x_tks (t := tb) (fuel := 5) [16, 17, 18, 19] (bts 25 1048575) (by kernel_rfl) (by kernel_rfl) rfl rfl (by (exact Gh.le.refl _)) (by repeat ((exact List.Sublist.refl _))) ?_ ?_; (focus (repeat' ((exact trivial)))); (try (fail)); refine x_tks (t := tb) (fuel := 2) [20, 21, 22] (bts 25 8388607) (by kernel_rfl) (by kernel_rfl) rfl rfl (by (exact Gh.le.refl _)) (by repeat ((exact List.Sublist.refl _))) ?_ ?_; (focus (repeat' ((exact trivial)))); ((refine x_tkn (bts 25 16777215) 23 rfl (by kernel_rfl) rfl (by (exact Gh.le.refl _)) (by repeat ((exact List.Sublist.refl _))) rfl rfl ?_)); ((refine (x_tkg (bts 25 33554431) 24 rfl (by kernel_rfl) rfl (by (exact Gh.le.refl _)) (by repeat ((exact List.Sublist.refl _)))) (g_pickT rfl rfl ?_) rfl rfl ?_; (focus (((rfl)); done)))); refine x_done (by kernel_rfl) (k_bk ?_))
            repeat' (first | (refine run (t := tb) 400 rfl ?_ ?_; (focus (repeat' ((exact trivial))))) | (refine k_tt rfl ?_ ?_; (focus (((rfl)); done))))
            all_goals refine k_rr (vs := [_, _, _]) rfl ⟨rfl, rfl, rfl, trivial⟩ rfl (List.nil_sublist _) ⟨hgl, rfl, ?_⟩
            all_goals exact hnone (flds_none hno2) rfl
          | true =>
            obtain ⟨w, wb, rfl, hf, hrep⟩ := hyes rfl
            have hsh := rd_short hf
            have htt := rd_tot _ _ _ _ hf
            dsimp only at htt hsh
            have hob := outR hw hrep
            unfold OutB at hob
            have cx_out := c_outS hw hrep (by omega)
            have cx_sta := c_standS (f := d) (h.mono hgl) hw hdk
            have hfd : rdField (rd (tys vs) n) x.2 t = some ((d, w), r1) := by rw [hfs, hf]; rfl
            have hst := flds_step (ts := tys vs) (vs := nd61 fs) (last := lastT fs) hfd hm0
            by_cases heq : w.out = standF (tys vs) d
            · rw [if_pos (.inr heq)] at hst
              (refine k_any (s_any (id := 8) _ (fun _ h => h) mixed ?_); refine x_tks (t := tb) (fuel := 22) [0, 1, 2] (bts 25 7) (by kernel_rfl) (by kernel_rfl) rfl rfl (by (exact Gh.le.refl _)) (by repeat ((exact List.Sublist.refl _))) ?_ ?_; (focus (repeat' ((exact trivial)))); (try ((refine Nx.re (d := 92) (v' := Bo false) rfl (congrArg Value.bool ?_) ?_; (focus (((rfl)); done))))); refine x_tks (t := tb) (fuel := 20) [3, 5] (bts 25 47) (by kernel_rfl) (by kernel_rfl) rfl rfl (by (exact Gh.le.refl _)) (by repeat ((exact List.Sublist.refl _))) ?_ ?_; (focus (repeat' ((exact trivial)))); ((refine (x_tkg (bts 25 111) 6 rfl (by kernel_rfl) rfl (by (exact Gh.le.refl _)) (by repeat ((exact List.Sublist.refl _)))) (g_ld rfl rfl rfl) rfl rfl ?_)); ((refine (x_tkg (bts 25 239) 7 rfl (by kernel_rfl) rfl (by (exact Gh.le.refl _)) (by repeat ((exact List.Sublist.refl _)))) (g_ldA rfl rfl rfl rfl) rfl rfl ?_)); ((refine x_all [4] (by kernel_rfl) (by decide) ⟨?_, trivial⟩; refine x_opg rfl rfl ?_; ((refine c_rt rfl rfl rfl cx_out rfl ?_)); refine x_ks (by (exact Gh.le.refl _)) (by repeat ((exact List.Sublist.refl _))) (listed' := (bts 25 255)) (by kernel_rfl) ?_)); ((refine x_all [8] (by kernel_rfl) (by decide) ⟨?_, trivial⟩; refine x_opg rfl rfl ?_; ((refine c_rt rfl rfl rfl cx_sta rfl ?_)); refine x_ks (by (exact Gh.le.refl _)) (by repeat ((exact List.Sublist.refl _))) (listed' := (bts 25 511)) (by kernel_rfl) ?_)); refine x_tks (t := tb) (fuel := 15) [9] (bts 25 1023) (by kernel_rfl) (by kernel_rfl) rfl rfl (by (exact Gh.le.refl _)) (by repeat ((exact List.Sublist.refl _))) ?_ ?_; (focus (repeat' ((exact trivial)))); ((refine (x_tkg (bts 25 2047) 10 rfl (by kernel_rfl) rfl (by (exact Gh.le.refl _)) (by repeat ((exact List.Sublist.refl _)))) (g_pickF rfl rfl ?_) rfl rfl ?_; (focus (((rfl)); done)))); refine x_tks (t := tb) (fuel := 13) [11] (bts 25 4095) (by kernel_rfl) (by kernel_rfl) rfl rfl (by (exact Gh.le.refl _)) (by repeat ((exact List.Sublist.refl _))) ?_ ?_; (focus (repeat' ((exact trivial)))); (try ((refine Nx.re (d := 101) (v' := Bo true) rfl (congrArg Value.bool ?_) ?_; (focus (((refine decide_eq_true ?_; (assumption))); done))))); refine x_tks (t := tb) (fuel := 11) [12, 13] (bts 25 16383) (by kernel_rfl) (by kernel_rfl) rfl rfl (by (exact Gh.le.refl _)) (by repeat ((exact List.Sublist.refl _))) ?_ ?_; (focus (repeat' ((exact trivial)))); ((refine (x_tkg (bts 25 32767) 14 rfl (by kernel_rfl) rfl (by (exact Gh.le.refl _)) (by repeat ((exact List.Sublist.refl _)))) (g_pickT rfl rfl ?_) rfl rfl ?_; (focus (((rfl)); done)))); refine x_tks (t := tb) (fuel := 9) [15] (bts 25 65535) (by kernel_rfl) (by kernel_rfl) rfl rfl (by (exact Gh.le.refl _)) (by repeat ((exact List.Sublist.refl _))) ?_ ?_; (focus (repeat' ((exact trivial)))); (try ((refine Nx.re (d := 105) (v' := Bo true) rfl (congrArg Value.bool ?_) ?_; (focus (((rfl)); done))))); refine x_tks (t := tb) (fuel := 5) [16, 17, 18, 19] (bts 25 1048575) (by kernel_rfl) (by kernel_rfl) rfl rfl (by (exact Gh.le.refl _)) (by repeat ((exact List.Sublist.refl _))) ?_ ?_; (focus (repeat' ((exact trivial)))); (try (fail)); refine x_tks (t := tb) (fuel := 2) [20, 21, 22] (bts 25 8388607) (by kernel_rfl) (by kernel_rfl) rfl rfl (by (exact Gh.le.refl _)) (by repeat ((exact List.Sublist.refl _))) ?_ ?_; (focus (repeat' ((exact trivial)))); ((refine x_tkn (bts 25 16777215) 23 rfl (by kernel_rfl) rfl (by (exact Gh.le.refl _)) (by repeat ((exact List.Sublist.refl _))) rfl rfl ?_)); ((refine (x_tkg (bts 25 33554431) 24 rfl (by kernel_rfl) rfl (by (exact Gh.le.refl _)) (by repeat ((exact List.Sublist.refl _)))) (g_pickT rfl rfl ?_) rfl rfl ?_; (focus (((rfl)); done)))); refine x_done (by kernel_rfl) (k_bk ?_))
              repeat' (first | (refine run (t := tb) 400 rfl ?_ ?_; (focus (repeat' ((exact trivial))))) | (refine k_tt rfl ?_ ?_; (focus (((rfl)); done))))
              all_goals refine k_rr (vs := [_, _, _]) rfl ⟨rfl, rfl, rfl, trivial⟩ rfl (List.nil_sublist _) ⟨hgl, rfl, ?_⟩
              all_goals exact hnone hst rfl
            rw [if_neg (fun h => by rcases h with h | h; exact hlt h; exact heq h)] at hst
            cases r1 with
            | nil =>
              (refine k_any (s_any (id := 8) _ (fun _ h => h) mixed ?_); refine x_tks (t := tb) (fuel := 22) [0, 1, 2] (bts 25 7) (by kernel_rfl) (by kernel_rfl) rfl rfl (by (exact Gh.le.refl _)) (by repeat ((exact List.Sublist.refl _))) ?_ ?_; (focus (repeat' ((exact trivial)))); (try ((refine Nx.re (d := 92) (v' := Bo false) rfl (congrArg Value.bool ?_) ?_; (focus (((rfl)); done))))); refine x_tks (t := tb) (fuel := 20) [3, 5] (bts 25 47) (by kernel_rfl) (by kernel_rfl) rfl rfl (by (exact Gh.le.refl _)) (by repeat ((exact List.Sublist.refl _))) ?_ ?_; (focus (repeat' ((exact trivial)))); ((refine (x_tkg (bts 25 111) 6 rfl (by kernel_rfl) rfl (by (exact Gh.le.refl _)) (by repeat ((exact List.Sublist.refl _)))) (g_ld rfl rfl rfl) rfl rfl ?_)); ((refine (x_tkg (bts 25 239) 7 rfl (by kernel_rfl) rfl (by (exact Gh.le.refl _)) (by repeat ((exact List.Sublist.refl _)))) (g_ldA rfl rfl rfl rfl) rfl rfl ?_)); ((refine x_all [4] (by kernel_rfl) (by decide) ⟨?_, trivial⟩; refine x_opg rfl rfl ?_; ((refine c_rt rfl rfl rfl cx_out rfl ?_)); refine x_ks (by (exact Gh.le.refl _)) (by repeat ((exact List.Sublist.refl _))) (listed' := (bts 25 255)) (by kernel_rfl) ?_)); ((refine x_all [8] (by kernel_rfl) (by decide) ⟨?_, trivial⟩; refine x_opg rfl rfl ?_; ((refine c_rt rfl rfl rfl cx_sta rfl ?_)); refine x_ks (by (exact Gh.le.refl _)) (by repeat ((exact List.Sublist.refl _))) (listed' := (bts 25 511)) (by kernel_rfl) ?_)); refine x_tks (t := tb) (fuel := 15) [9] (bts 25 1023) (by kernel_rfl) (by kernel_rfl) rfl rfl (by (exact Gh.le.refl _)) (by repeat ((exact List.Sublist.refl _))) ?_ ?_; (focus (repeat' ((exact trivial)))); ((refine (x_tkg (bts 25 2047) 10 rfl (by kernel_rfl) rfl (by (exact Gh.le.refl _)) (by repeat ((exact List.Sublist.refl _)))) (g_pickF rfl rfl ?_) rfl rfl ?_; (focus (((rfl)); done)))); refine x_tks (t := tb) (fuel := 13) [11] (bts 25 4095) (by kernel_rfl) (by kernel_rfl) rfl rfl (by (exact Gh.le.refl _)) (by repeat ((exact List.Sublist.refl _))) ?_ ?_; (focus (repeat' ((exact trivial)))); (try ((refine Nx.re (d := 101) (v' := Bo false) rfl (congrArg Value.bool ?_) ?_; (focus (((refine decide_eq_false ?_; (assumption))); done))))); refine x_tks (t := tb) (fuel := 11) [12, 13] (bts 25 16383) (by kernel_rfl) (by kernel_rfl) rfl rfl (by (exact Gh.le.refl _)) (by repeat ((exact List.Sublist.refl _))) ?_ ?_; (focus (repeat' ((exact trivial)))); ((refine (x_tkg (bts 25 32767) 14 rfl (by kernel_rfl) rfl (by (exact Gh.le.refl _)) (by repeat ((exact List.Sublist.refl _)))) (g_pickF rfl rfl ?_) rfl rfl ?_; (focus (((rfl)); done)))); refine x_tks (t := tb) (fuel := 9) [15] (bts 25 65535) (by kernel_rfl) (by kernel_rfl) rfl rfl (by (exact Gh.le.refl _)) (by repeat ((exact List.Sublist.refl _))) ?_ ?_; (focus (repeat' ((exact trivial)))); (try ((refine Nx.re (d := 105) (v' := Bo true) rfl (congrArg Value.bool ?_) ?_; (focus (((rfl)); done))))); refine x_tks (t := tb) (fuel := 5) [16, 17, 18, 19] (bts 25 1048575) (by kernel_rfl) (by kernel_rfl) rfl rfl (by (exact Gh.le.refl _)) (by repeat ((exact List.Sublist.refl _))) ?_ ?_; (focus (repeat' ((exact trivial)))); (try (fail)); refine x_tks (t := tb) (fuel := 2) [20, 21, 22] (bts 25 8388607) (by kernel_rfl) (by kernel_rfl) rfl rfl (by (exact Gh.le.refl _)) (by repeat ((exact List.Sublist.refl _))) ?_ ?_; (focus (repeat' ((exact trivial)))); ((refine x_tkn (bts 25 16777215) 23 rfl (by kernel_rfl) rfl (by (exact Gh.le.refl _)) (by repeat ((exact List.Sublist.refl _))) rfl rfl ?_)); ((refine (x_tkg (bts 25 33554431) 24 rfl (by kernel_rfl) rfl (by (exact Gh.le.refl _)) (by repeat ((exact List.Sublist.refl _)))) (g_pickT rfl rfl ?_) rfl rfl ?_; (focus (((rfl)); done)))); refine x_done (by kernel_rfl) (k_bk ?_))
              repeat' (first | (refine run (t := tb) 400 rfl ?_ ?_; (focus (repeat' ((exact trivial))))) | (refine k_tt rfl ?_ ?_; (focus (((rfl)); done))))
              all_goals refine k_rr (vs := [_, _, _]) rfl ⟨rfl, rfl, rfl, trivial⟩ rfl (List.nil_sublist _) ⟨hgl, rfl, ?_⟩
              all_goals exact hnone hst rfl
            | cons e2 r3 =>
              have he20 : bt (e2 :: r3) (Int.toNat 0) = e2.toNat := bt_zero e2 r3
              have hel2 : (e2 :: r3).length = r3.length + 1 := rfl
              have hl' : (fs ++ [(d, w)]).length = fs.length + 1 := by simp
              have hbl' : (bs ++ [wb]).length = (fs ++ [(d, w)]).length := by simp [hbl]
              have hnth : ∀ i, i < (fs ++ [(d, w)]).length → (i < fs.length ∧ nth (fs ++ [(d, w)]) i = nth fs i ∧ nth (bs ++ [wb]) i = nth bs i) ∨ (nth (fs ++ [(d, w)]) i = (d, w) ∧ nth (bs ++ [wb]) i = wb) := fun i hi => by
                by_cases h1 : i < fs.length
                · exact .inl ⟨h1, by rw [nth_eq hi, nth_eq h1, List.getElem_append_left h1], by rw [nth_eq (by omega), nth_eq (by omega), List.getElem_append_left (by omega)]⟩
                · have h2 : i = fs.length := by omega
                  exact .inr ⟨by rw [nth_eq hi]; simp [h2], by rw [nth_eq (by omega)]; simp [h2, hbl]⟩
              have hfm' : ∀ i, i < (fs ++ [(d, w)]).length → (nth (fs ++ [(d, w)]) i).1 ∈ x.2.fields := fun i hi => by
                rcases hnth i hi with ⟨h1, h2, _⟩ | ⟨h2, _⟩
                · rw [h2]; exact hfm i h1
                · rw [h2]; exact hdm
              have hreps' : ∀ i, i < (fs ++ [(d, w)]).length → RepR G (tys vs) (nth (fs ++ [(d, w)]) i).2 (nth (fs ++ [(d, w)]) i).1.kind (nth (bs ++ [wb]) i) := fun i hi => by
                rcases hnth i hi with ⟨h1, h2, h3⟩ | ⟨h2, h3⟩
                · rw [h2, h3]; exact (hreps i h1).mono hle
                · rw [h2, h3]; exact hrep
              have hrow1 : rows inR (fs.map fun p => p.1.tag) ++ [I d.tag] = rows inR ((fs ++ [(d, w)]).map fun p => p.1.tag) := by rw [List.map_append]; exact (rows_snoc inR _ d.tag).symm
              have hrow2 : rows ptR bs ++ [Pt wb 0] = rows ptR (bs ++ [wb]) := (rows_snoc ptR bs wb).symm
              have hnd : nd61 (fs ++ [(d, w)]) = nd61 fs ++ [.nd 61 [] d.tag [w]] := by simp [nd61]
              dsimp only at hst
              by_cases h44 : e2.toNat = 44
              · rw [if_pos h44] at hst
                have hn93 : ¬ e2.toNat = 125 := by omega
                (refine k_any (s_any (id := 8) _ (fun _ h => h) mixed ?_); refine x_tks (t := tb) (fuel := 22) [0, 1, 2] (bts 25 7) (by kernel_rfl) (by kernel_rfl) rfl rfl (by (exact Gh.le.refl _)) (by repeat ((exact List.Sublist.refl _))) ?_ ?_; (focus (repeat' ((exact trivial)))); (try ((refine Nx.re (d := 92) (v' := Bo false) rfl (congrArg Value.bool ?_) ?_; (focus (((rfl)); done))))); refine x_tks (t := tb) (fuel := 20) [3, 5] (bts 25 47) (by kernel_rfl) (by kernel_rfl) rfl rfl (by (exact Gh.le.refl _)) (by repeat ((exact List.Sublist.refl _))) ?_ ?_; (focus (repeat' ((exact trivial)))); ((refine (x_tkg (bts 25 111) 6 rfl (by kernel_rfl) rfl (by (exact Gh.le.refl _)) (by repeat ((exact List.Sublist.refl _)))) (g_ld rfl rfl rfl) rfl rfl ?_)); ((refine (x_tkg (bts 25 239) 7 rfl (by kernel_rfl) rfl (by (exact Gh.le.refl _)) (by repeat ((exact List.Sublist.refl _)))) (g_ldA rfl rfl rfl rfl) rfl rfl ?_)); ((refine x_all [4] (by kernel_rfl) (by decide) ⟨?_, trivial⟩; refine x_opg rfl rfl ?_; ((refine c_rt rfl rfl rfl cx_out rfl ?_)); refine x_ks (by (exact Gh.le.refl _)) (by repeat ((exact List.Sublist.refl _))) (listed' := (bts 25 255)) (by kernel_rfl) ?_)); ((refine x_all [8] (by kernel_rfl) (by decide) ⟨?_, trivial⟩; refine x_opg rfl rfl ?_; ((refine c_rt rfl rfl rfl cx_sta rfl ?_)); refine x_ks (by (exact Gh.le.refl _)) (by repeat ((exact List.Sublist.refl _))) (listed' := (bts 25 511)) (by kernel_rfl) ?_)); refine x_tks (t := tb) (fuel := 15) [9] (bts 25 1023) (by kernel_rfl) (by kernel_rfl) rfl rfl (by (exact Gh.le.refl _)) (by repeat ((exact List.Sublist.refl _))) ?_ ?_; (focus (repeat' ((exact trivial)))); ((refine (x_tkg (bts 25 2047) 10 rfl (by kernel_rfl) rfl (by (exact Gh.le.refl _)) (by repeat ((exact List.Sublist.refl _)))) (g_pickF rfl rfl ?_) rfl rfl ?_; (focus (((rfl)); done)))); refine x_tks (t := tb) (fuel := 13) [11] (bts 25 4095) (by kernel_rfl) (by kernel_rfl) rfl rfl (by (exact Gh.le.refl _)) (by repeat ((exact List.Sublist.refl _))) ?_ ?_; (focus (repeat' ((exact trivial)))); (try ((refine Nx.re (d := 101) (v' := Bo false) rfl (congrArg Value.bool ?_) ?_; (focus (((refine decide_eq_false ?_; (assumption))); done))))); refine x_tks (t := tb) (fuel := 11) [12, 13] (bts 25 16383) (by kernel_rfl) (by kernel_rfl) rfl rfl (by (exact Gh.le.refl _)) (by repeat ((exact List.Sublist.refl _))) ?_ ?_; (focus (repeat' ((exact trivial)))); ((refine (x_tkg (bts 25 32767) 14 rfl (by kernel_rfl) rfl (by (exact Gh.le.refl _)) (by repeat ((exact List.Sublist.refl _)))) (g_pickF rfl rfl ?_) rfl rfl ?_; (focus (((rfl)); done)))); refine x_tks (t := tb) (fuel := 9) [15] (bts 25 65535) (by kernel_rfl) (by kernel_rfl) rfl rfl (by (exact Gh.le.refl _)) (by repeat ((exact List.Sublist.refl _))) ?_ ?_; (focus (repeat' ((exact trivial)))); (try ((refine Nx.re (d := 105) (v' := Bo false) rfl (congrArg Value.bool ?_) ?_; (focus (((rfl)); done))))); refine x_tks (t := tb) (fuel := 5) [16, 17, 18, 19] (bts 25 1048575) (by kernel_rfl) (by kernel_rfl) rfl rfl (by (exact Gh.le.refl _)) (by repeat ((exact List.Sublist.refl _))) ?_ ?_; (focus (repeat' (first | exact trivial | apply And.intro | omega))); (try ((refine Nx.re (d := 109) (v' := Bo false) rfl (congrArg Value.bool ?_) ?_; (focus (((refine decide_eq_false ?_; (omega))); done))))); refine x_tks (t := tb) (fuel := 2) [20, 21, 22] (bts 25 8388607) (by kernel_rfl) (by kernel_rfl) rfl rfl (by (exact Gh.le.refl _)) (by repeat ((exact List.Sublist.refl _))) ?_ ?_; (focus (repeat' ((exact trivial)))); ((refine (x_tkg (bts 25 16777215) 23 rfl (by kernel_rfl) rfl (by (exact Gh.le.refl _)) (by repeat ((exact List.Sublist.refl _)))) (g_pickF rfl rfl ?_) rfl rfl ?_; (focus (((rfl)); done)))); ((refine (x_tkg (bts 25 33554431) 24 rfl (by kernel_rfl) rfl (by (exact Gh.le.refl _)) (by repeat ((exact List.Sublist.refl _)))) (g_pickF rfl rfl ?_) rfl rfl ?_; (focus (((rfl)); done)))); refine x_done (by kernel_rfl) (k_bk ?_))
                repeat' (first | (refine run (t := tb) 400 rfl ?_ ?_; (focus (repeat' ((exact trivial))))) | (refine k_ff rfl ?_ ?_; (focus (((rfl)); done))))
                (refine k_any (s_any (id := 10) [.blk x14 (.cells (List.toArray [I d.tag, S d.name, S d.kind, S d.stand]) tFd (0, 0))] (by intro y hy; simp only [List.mem_cons, List.not_mem_nil, or_false] at hy ⊢; simp [hy]) mixed ?_); refine x_tks (t := tb) (fuel := 7) [0, 1, 2, 3, 5] (bts 12 47) (by kernel_rfl) (by kernel_rfl) rfl rfl (by (exact Gh.le.refl _)) (by repeat (first | exact List.nil_sublist _ | apply List.Sublist.cons_cons)) ?_ ?_; (focus (repeat' ((exact trivial)))); ((refine (x_tkg (bts 12 111) 6 rfl (by kernel_rfl) rfl (by (exact Gh.le.refl _)) (by repeat (first | exact List.nil_sublist _ | apply List.Sublist.cons_cons))) (g_ld rfl rfl rfl) rfl rfl ?_)); refine x_all [4, 7] (by kernel_rfl) (by decide) ⟨?_, ?_, trivial⟩; (focus (refine x_opg rfl rfl ?_; ((refine v_op (g_ld rfl rfl rfl) rfl rfl ?_)); refine x_kk (by (exact Gh.le.refl _)) (by repeat (first | exact List.nil_sublist _ | apply List.Sublist.cons_cons)) (listed' := (bts 12 127)) (by kernel_rfl) ?_; refine x_all [7] (by kernel_rfl) (by decide) ⟨?_, trivial⟩; refine x_opg rfl rfl ?_; ((refine c_bsl rfl rfl rfl rfl rfl rfl fun _ => ?_)); refine x_kk (by (exact Gh.le.refl _)) (by repeat (first | exact List.nil_sublist _ | apply List.Sublist.cons_cons | apply List.Sublist.cons)) (listed' := (bts 12 255)) (by kernel_rfl) ?_; refine x_all [8] (by kernel_rfl) (by decide) ⟨?_, trivial⟩; refine x_opg rfl rfl ?_; ((refine c_apX rfl rfl rfl rfl rfl rfl rfl rfl rfl ?_ fun _ _ => ?_; (focus ((omega); done)))); refine x_kk (by (exact Gh.le.refl _)) (by repeat (first | exact List.nil_sublist _ | apply List.Sublist.cons_cons | apply List.Sublist.cons)) (listed' := (bts 12 511)) (by kernel_rfl) ?_; refine x_tks (t := tb) (fuel := 1) [9, 10] (bts 12 2047) (by kernel_rfl) (by kernel_rfl) rfl rfl (by (exact Gh.le.refl _)) (by repeat (first | exact List.nil_sublist _ | apply List.Sublist.cons_cons | apply List.Sublist.cons)) ?_ ?_; (focus (repeat' ((exact trivial)))); refine x_all [11] (by kernel_rfl) (by decide) ⟨?_, trivial⟩; refine x_opg rfl rfl ?_; ((refine c_st1 rfl rfl rfl rfl ?_)); refine x_kk (by (exact Gh.le.refl _)) (by repeat (first | exact List.nil_sublist _ | apply List.Sublist.cons_cons | apply List.Sublist.cons)) (listed' := (bts 12 4095)) (by kernel_rfl) ?_; refine x_done (by kernel_rfl) (k_bk ?_))); rotate_left 1; (focus (refine x_opg rfl rfl ?_; ((refine c_bsl rfl rfl rfl rfl rfl rfl fun _ => ?_)); refine x_kk (by (exact Gh.le.refl _)) (by repeat (first | exact List.nil_sublist _ | apply List.Sublist.cons_cons | apply List.Sublist.cons)) (listed' := (bts 12 239)) (by kernel_rfl) ?_; refine x_all [4] (by kernel_rfl) (by decide) ⟨?_, trivial⟩; refine x_opg rfl rfl ?_; ((refine v_op (g_ld rfl rfl rfl) rfl rfl ?_)); refine x_kk (by (exact Gh.le.refl _)) (by repeat (first | exact List.nil_sublist _ | apply List.Sublist.cons_cons | apply List.Sublist.cons)) (listed' := (bts 12 255)) (by kernel_rfl) ?_; refine x_all [8] (by kernel_rfl) (by decide) ⟨?_, trivial⟩; refine x_opg rfl rfl ?_; ((refine c_apX rfl rfl rfl rfl rfl rfl rfl rfl rfl ?_ fun _ _ => ?_; (focus ((omega); done)))); refine x_kk (by (exact Gh.le.refl _)) (by repeat (first | exact List.nil_sublist _ | apply List.Sublist.cons_cons | apply List.Sublist.cons)) (listed' := (bts 12 511)) (by kernel_rfl) ?_; refine x_tks (t := tb) (fuel := 1) [9, 10] (bts 12 2047) (by kernel_rfl) (by kernel_rfl) rfl rfl (by (exact Gh.le.refl _)) (by repeat (first | exact List.nil_sublist _ | apply List.Sublist.cons_cons | apply List.Sublist.cons)) ?_ ?_; (focus (repeat' ((exact trivial)))); refine x_all [11] (by kernel_rfl) (by decide) ⟨?_, trivial⟩; refine x_opg rfl rfl ?_; ((refine c_st1 rfl rfl rfl rfl ?_)); refine x_kk (by (exact Gh.le.refl _)) (by repeat (first | exact List.nil_sublist _ | apply List.Sublist.cons_cons | apply List.Sublist.cons)) (listed' := (bts 12 4095)) (by kernel_rfl) ?_; refine x_done (by kernel_rfl) (k_bk ?_))); rotate_left 1)
                all_goals repeat' (first | (refine run (t := tb) 400 rfl ?_ ?_; (focus (repeat' (first | exact trivial | apply And.intro | omega)))) | (refine k_op rfl ?_; first | refine v_op (g_ld rfl rfl rfl) rfl rfl ?_ | refine c_st1 rfl rfl rfl rfl ?_ | refine c_bsl rfl rfl rfl rfl rfl rfl fun _ => ?_ | (refine c_apX rfl rfl rfl rfl rfl rfl rfl rfl rfl ?_ fun _ _ => ?_; (focus ((omega); done)))) | (refine k_ff rfl ?_ ?_; (focus (((refine decide_eq_false ?_; (omega))); done))))
                all_goals
                  rename_i _ y1 yc1 _ y2 yc2
                  rw [hrow1, hrow2]
                  exact k_rd (fs ++ [(d, w)], bs ++ [wb], some ⟨y1, 0, none⟩, yc1, some ⟨y2, 0, none⟩, yc2, r3, m - 1, G) ⟨⟨⟨hbl', hfm', hreps'⟩, hgl⟩, ⟨(by dsimp only; rw [hit, hst, lastT_snoc, hnd]), (by dsimp only; omega)⟩, (by dsimp only; omega), (by dsimp only; omega)⟩ (by dsimp only; omega) (by repeat (first | exact trivial | refine ⟨rfl, ?_⟩)) rfl (by rw [hl']; repeat (first | exact List.Sublist.refl _ | apply List.Sublist.cons_cons | apply List.Sublist.cons))
              · rw [if_neg h44] at hst
                by_cases h125' : e2.toNat = 125
                · rw [if_pos h125'] at hst
                  (refine k_any (s_any (id := 8) _ (fun _ h => h) mixed ?_); refine x_tks (t := tb) (fuel := 22) [0, 1, 2] (bts 25 7) (by kernel_rfl) (by kernel_rfl) rfl rfl (by (exact Gh.le.refl _)) (by repeat ((exact List.Sublist.refl _))) ?_ ?_; (focus (repeat' ((exact trivial)))); (try ((refine Nx.re (d := 92) (v' := Bo false) rfl (congrArg Value.bool ?_) ?_; (focus (((rfl)); done))))); refine x_tks (t := tb) (fuel := 20) [3, 5] (bts 25 47) (by kernel_rfl) (by kernel_rfl) rfl rfl (by (exact Gh.le.refl _)) (by repeat ((exact List.Sublist.refl _))) ?_ ?_; (focus (repeat' ((exact trivial)))); ((refine (x_tkg (bts 25 111) 6 rfl (by kernel_rfl) rfl (by (exact Gh.le.refl _)) (by repeat ((exact List.Sublist.refl _)))) (g_ld rfl rfl rfl) rfl rfl ?_)); ((refine (x_tkg (bts 25 239) 7 rfl (by kernel_rfl) rfl (by (exact Gh.le.refl _)) (by repeat ((exact List.Sublist.refl _)))) (g_ldA rfl rfl rfl rfl) rfl rfl ?_)); ((refine x_all [4] (by kernel_rfl) (by decide) ⟨?_, trivial⟩; refine x_opg rfl rfl ?_; ((refine c_rt rfl rfl rfl cx_out rfl ?_)); refine x_ks (by (exact Gh.le.refl _)) (by repeat ((exact List.Sublist.refl _))) (listed' := (bts 25 255)) (by kernel_rfl) ?_)); ((refine x_all [8] (by kernel_rfl) (by decide) ⟨?_, trivial⟩; refine x_opg rfl rfl ?_; ((refine c_rt rfl rfl rfl cx_sta rfl ?_)); refine x_ks (by (exact Gh.le.refl _)) (by repeat ((exact List.Sublist.refl _))) (listed' := (bts 25 511)) (by kernel_rfl) ?_)); refine x_tks (t := tb) (fuel := 15) [9] (bts 25 1023) (by kernel_rfl) (by kernel_rfl) rfl rfl (by (exact Gh.le.refl _)) (by repeat ((exact List.Sublist.refl _))) ?_ ?_; (focus (repeat' ((exact trivial)))); ((refine (x_tkg (bts 25 2047) 10 rfl (by kernel_rfl) rfl (by (exact Gh.le.refl _)) (by repeat ((exact List.Sublist.refl _)))) (g_pickF rfl rfl ?_) rfl rfl ?_; (focus (((rfl)); done)))); refine x_tks (t := tb) (fuel := 13) [11] (bts 25 4095) (by kernel_rfl) (by kernel_rfl) rfl rfl (by (exact Gh.le.refl _)) (by repeat ((exact List.Sublist.refl _))) ?_ ?_; (focus (repeat' ((exact trivial)))); (try ((refine Nx.re (d := 101) (v' := Bo false) rfl (congrArg Value.bool ?_) ?_; (focus (((refine decide_eq_false ?_; (assumption))); done))))); refine x_tks (t := tb) (fuel := 11) [12, 13] (bts 25 16383) (by kernel_rfl) (by kernel_rfl) rfl rfl (by (exact Gh.le.refl _)) (by repeat ((exact List.Sublist.refl _))) ?_ ?_; (focus (repeat' ((exact trivial)))); ((refine (x_tkg (bts 25 32767) 14 rfl (by kernel_rfl) rfl (by (exact Gh.le.refl _)) (by repeat ((exact List.Sublist.refl _)))) (g_pickF rfl rfl ?_) rfl rfl ?_; (focus (((rfl)); done)))); refine x_tks (t := tb) (fuel := 9) [15] (bts 25 65535) (by kernel_rfl) (by kernel_rfl) rfl rfl (by (exact Gh.le.refl _)) (by repeat ((exact List.Sublist.refl _))) ?_ ?_; (focus (repeat' ((exact trivial)))); (try ((refine Nx.re (d := 105) (v' := Bo false) rfl (congrArg Value.bool ?_) ?_; (focus (((rfl)); done))))); refine x_tks (t := tb) (fuel := 5) [16, 17, 18, 19] (bts 25 1048575) (by kernel_rfl) (by kernel_rfl) rfl rfl (by (exact Gh.le.refl _)) (by repeat ((exact List.Sublist.refl _))) ?_ ?_; (focus (repeat' (first | exact trivial | apply And.intro | omega))); (try ((refine Nx.re (d := 109) (v' := Bo true) rfl (congrArg Value.bool ?_) ?_; (focus (((refine decide_eq_true ?_; (omega))); done))))); refine x_tks (t := tb) (fuel := 2) [20, 21, 22] (bts 25 8388607) (by kernel_rfl) (by kernel_rfl) rfl rfl (by (exact Gh.le.refl _)) (by repeat ((exact List.Sublist.refl _))) ?_ ?_; (focus (repeat' (first | exact trivial | apply And.intro | omega))); ((refine (x_tkg (bts 25 16777215) 23 rfl (by kernel_rfl) rfl (by (exact Gh.le.refl _)) (by repeat ((exact List.Sublist.refl _)))) (g_pickT rfl rfl ?_) rfl rfl ?_; (focus (((rfl)); done)))); ((refine (x_tkg (bts 25 33554431) 24 rfl (by kernel_rfl) rfl (by (exact Gh.le.refl _)) (by repeat ((exact List.Sublist.refl _)))) (g_pickF rfl rfl ?_) rfl rfl ?_; (focus (((rfl)); done)))); refine x_done (by kernel_rfl) (k_bk ?_))
                  repeat' (first | (refine run (t := tb) 400 rfl ?_ ?_; (focus (repeat' ((exact trivial))))) | (refine k_ff rfl ?_ ?_; (focus (((refine decide_eq_false ?_; (omega))); done))))
                  (refine k_any (s_any (id := 10) [.blk x14 (.cells (List.toArray [I d.tag, S d.name, S d.kind, S d.stand]) tFd (0, 0))] (by intro y hy; simp only [List.mem_cons, List.not_mem_nil, or_false] at hy ⊢; simp [hy]) mixed ?_); refine x_tks (t := tb) (fuel := 7) [0, 1, 2, 3, 5] (bts 12 47) (by kernel_rfl) (by kernel_rfl) rfl rfl (by (exact Gh.le.refl _)) (by repeat (first | exact List.nil_sublist _ | apply List.Sublist.cons_cons)) ?_ ?_; (focus (repeat' ((exact trivial)))); ((refine (x_tkg (bts 12 111) 6 rfl (by kernel_rfl) rfl (by (exact Gh.le.refl _)) (by repeat (first | exact List.nil_sublist _ | apply List.Sublist.cons_cons))) (g_ld rfl rfl rfl) rfl rfl ?_)); refine x_all [4, 7] (by kernel_rfl) (by decide) ⟨?_, ?_, trivial⟩; (focus (refine x_opg rfl rfl ?_; ((refine v_op (g_ld rfl rfl rfl) rfl rfl ?_)); refine x_kk (by (exact Gh.le.refl _)) (by repeat (first | exact List.nil_sublist _ | apply List.Sublist.cons_cons)) (listed' := (bts 12 127)) (by kernel_rfl) ?_; refine x_all [7] (by kernel_rfl) (by decide) ⟨?_, trivial⟩; refine x_opg rfl rfl ?_; ((refine c_bsl rfl rfl rfl rfl rfl rfl fun _ => ?_)); refine x_kk (by (exact Gh.le.refl _)) (by repeat (first | exact List.nil_sublist _ | apply List.Sublist.cons_cons | apply List.Sublist.cons)) (listed' := (bts 12 255)) (by kernel_rfl) ?_; refine x_all [8] (by kernel_rfl) (by decide) ⟨?_, trivial⟩; refine x_opg rfl rfl ?_; ((refine c_apX rfl rfl rfl rfl rfl rfl rfl rfl rfl ?_ fun _ _ => ?_; (focus ((omega); done)))); refine x_kk (by (exact Gh.le.refl _)) (by repeat (first | exact List.nil_sublist _ | apply List.Sublist.cons_cons | apply List.Sublist.cons)) (listed' := (bts 12 511)) (by kernel_rfl) ?_; refine x_tks (t := tb) (fuel := 1) [9, 10] (bts 12 2047) (by kernel_rfl) (by kernel_rfl) rfl rfl (by (exact Gh.le.refl _)) (by repeat (first | exact List.nil_sublist _ | apply List.Sublist.cons_cons | apply List.Sublist.cons)) ?_ ?_; (focus (repeat' ((exact trivial)))); refine x_all [11] (by kernel_rfl) (by decide) ⟨?_, trivial⟩; refine x_opg rfl rfl ?_; ((refine c_st1 rfl rfl rfl rfl ?_)); refine x_kk (by (exact Gh.le.refl _)) (by repeat (first | exact List.nil_sublist _ | apply List.Sublist.cons_cons | apply List.Sublist.cons)) (listed' := (bts 12 4095)) (by kernel_rfl) ?_; refine x_done (by kernel_rfl) (k_bk ?_))); rotate_left 1; (focus (refine x_opg rfl rfl ?_; ((refine c_bsl rfl rfl rfl rfl rfl rfl fun _ => ?_)); refine x_kk (by (exact Gh.le.refl _)) (by repeat (first | exact List.nil_sublist _ | apply List.Sublist.cons_cons | apply List.Sublist.cons)) (listed' := (bts 12 239)) (by kernel_rfl) ?_; refine x_all [4] (by kernel_rfl) (by decide) ⟨?_, trivial⟩; refine x_opg rfl rfl ?_; ((refine v_op (g_ld rfl rfl rfl) rfl rfl ?_)); refine x_kk (by (exact Gh.le.refl _)) (by repeat (first | exact List.nil_sublist _ | apply List.Sublist.cons_cons | apply List.Sublist.cons)) (listed' := (bts 12 255)) (by kernel_rfl) ?_; refine x_all [8] (by kernel_rfl) (by decide) ⟨?_, trivial⟩; refine x_opg rfl rfl ?_; ((refine c_apX rfl rfl rfl rfl rfl rfl rfl rfl rfl ?_ fun _ _ => ?_; (focus ((omega); done)))); refine x_kk (by (exact Gh.le.refl _)) (by repeat (first | exact List.nil_sublist _ | apply List.Sublist.cons_cons | apply List.Sublist.cons)) (listed' := (bts 12 511)) (by kernel_rfl) ?_; refine x_tks (t := tb) (fuel := 1) [9, 10] (bts 12 2047) (by kernel_rfl) (by kernel_rfl) rfl rfl (by (exact Gh.le.refl _)) (by repeat (first | exact List.nil_sublist _ | apply List.Sublist.cons_cons | apply List.Sublist.cons)) ?_ ?_; (focus (repeat' ((exact trivial)))); refine x_all [11] (by kernel_rfl) (by decide) ⟨?_, trivial⟩; refine x_opg rfl rfl ?_; ((refine c_st1 rfl rfl rfl rfl ?_)); refine x_kk (by (exact Gh.le.refl _)) (by repeat (first | exact List.nil_sublist _ | apply List.Sublist.cons_cons | apply List.Sublist.cons)) (listed' := (bts 12 4095)) (by kernel_rfl) ?_; refine x_done (by kernel_rfl) (k_bk ?_))); rotate_left 1)
                  all_goals repeat' (first | (refine run (t := tb) 400 rfl ?_ ?_; (focus (repeat' (first | exact trivial | apply And.intro | omega)))) | (refine k_op rfl ?_; first | refine v_op (g_ld rfl rfl rfl) rfl rfl ?_ | refine c_st1 rfl rfl rfl rfl ?_ | refine c_bsl rfl rfl rfl rfl rfl rfl fun _ => ?_ | (refine c_apX rfl rfl rfl rfl rfl rfl rfl rfl rfl ?_ fun _ _ => ?_; (focus ((omega); done)))) | (refine k_tt rfl ?_ ?_; (focus (((refine decide_eq_true ?_; (omega))); done))))
                  all_goals
                    rename_i _ y1 yc1 _ y2 yc2
                    rw [hrow1, hrow2]
                    refine Nx.sealS (v := .slice (some ⟨y1, 0, none⟩) (fs.length + 1) yc1) fun G2 hG2 hs1 => ?_
                    refine Nx.sealS (v := .slice (some ⟨y2, 0, none⟩) (fs.length + 1) yc2) fun G3 hG3 hs2 => ?_
                    refine Nx.sealC (b := x13) fun G4 hG4 hsg => ?_
                    refine k_rr (vs := [_, _, _]) rfl ⟨rfl, rfl, rfl, trivial⟩ rfl (List.nil_sublist _) ⟨(((hgl.trans hG2).trans hG3).trans hG4), rfl, ?_⟩
                    rw [oneOf_three]
                    exact ⟨_, _, _, rfl, fun _ => ⟨.nd 82 [] 0 (nd61 (fs ++ [(d, w)])), x13, rfl, (by rw [hRl, hit, hst, hnd]; rfl), .recd k x13 x.2 (fs ++ [(d, w)]) (bs ++ [wb]) (some ⟨y1, 0, none⟩) (some ⟨y2, 0, none⟩) yc1 yc2 hrf (by rw [hl']; exact hsg) (by rw [hl']; exact (hs1.mono hG3).mono hG4) (by rw [hl']; exact hs2.mono hG4) hbl' hfm' (fun i hi => (hreps' i hi).mono ((hG2.trans hG3).trans hG4))⟩, fun h => (by cases h)⟩
                · rw [if_neg h125'] at hst
                  (refine k_any (s_any (id := 8) _ (fun _ h => h) mixed ?_); refine x_tks (t := tb) (fuel := 22) [0, 1, 2] (bts 25 7) (by kernel_rfl) (by kernel_rfl) rfl rfl (by (exact Gh.le.refl _)) (by repeat ((exact List.Sublist.refl _))) ?_ ?_; (focus (repeat' ((exact trivial)))); (try ((refine Nx.re (d := 92) (v' := Bo false) rfl (congrArg Value.bool ?_) ?_; (focus (((rfl)); done))))); refine x_tks (t := tb) (fuel := 20) [3, 5] (bts 25 47) (by kernel_rfl) (by kernel_rfl) rfl rfl (by (exact Gh.le.refl _)) (by repeat ((exact List.Sublist.refl _))) ?_ ?_; (focus (repeat' ((exact trivial)))); ((refine (x_tkg (bts 25 111) 6 rfl (by kernel_rfl) rfl (by (exact Gh.le.refl _)) (by repeat ((exact List.Sublist.refl _)))) (g_ld rfl rfl rfl) rfl rfl ?_)); ((refine (x_tkg (bts 25 239) 7 rfl (by kernel_rfl) rfl (by (exact Gh.le.refl _)) (by repeat ((exact List.Sublist.refl _)))) (g_ldA rfl rfl rfl rfl) rfl rfl ?_)); ((refine x_all [4] (by kernel_rfl) (by decide) ⟨?_, trivial⟩; refine x_opg rfl rfl ?_; ((refine c_rt rfl rfl rfl cx_out rfl ?_)); refine x_ks (by (exact Gh.le.refl _)) (by repeat ((exact List.Sublist.refl _))) (listed' := (bts 25 255)) (by kernel_rfl) ?_)); ((refine x_all [8] (by kernel_rfl) (by decide) ⟨?_, trivial⟩; refine x_opg rfl rfl ?_; ((refine c_rt rfl rfl rfl cx_sta rfl ?_)); refine x_ks (by (exact Gh.le.refl _)) (by repeat ((exact List.Sublist.refl _))) (listed' := (bts 25 511)) (by kernel_rfl) ?_)); refine x_tks (t := tb) (fuel := 15) [9] (bts 25 1023) (by kernel_rfl) (by kernel_rfl) rfl rfl (by (exact Gh.le.refl _)) (by repeat ((exact List.Sublist.refl _))) ?_ ?_; (focus (repeat' ((exact trivial)))); ((refine (x_tkg (bts 25 2047) 10 rfl (by kernel_rfl) rfl (by (exact Gh.le.refl _)) (by repeat ((exact List.Sublist.refl _)))) (g_pickF rfl rfl ?_) rfl rfl ?_; (focus (((rfl)); done)))); refine x_tks (t := tb) (fuel := 13) [11] (bts 25 4095) (by kernel_rfl) (by kernel_rfl) rfl rfl (by (exact Gh.le.refl _)) (by repeat ((exact List.Sublist.refl _))) ?_ ?_; (focus (repeat' ((exact trivial)))); (try ((refine Nx.re (d := 101) (v' := Bo false) rfl (congrArg Value.bool ?_) ?_; (focus (((refine decide_eq_false ?_; (assumption))); done))))); refine x_tks (t := tb) (fuel := 11) [12, 13] (bts 25 16383) (by kernel_rfl) (by kernel_rfl) rfl rfl (by (exact Gh.le.refl _)) (by repeat ((exact List.Sublist.refl _))) ?_ ?_; (focus (repeat' ((exact trivial)))); ((refine (x_tkg (bts 25 32767) 14 rfl (by kernel_rfl) rfl (by (exact Gh.le.refl _)) (by repeat ((exact List.Sublist.refl _)))) (g_pickF rfl rfl ?_) rfl rfl ?_; (focus (((rfl)); done)))); refine x_tks (t := tb) (fuel := 9) [15] (bts 25 65535) (by kernel_rfl) (by kernel_rfl) rfl rfl (by (exact Gh.le.refl _)) (by repeat ((exact List.Sublist.refl _))) ?_ ?_; (focus (repeat' ((exact trivial)))); (try ((refine Nx.re (d := 105) (v' := Bo false) rfl (congrArg Value.bool ?_) ?_; (focus (((rfl)); done))))); refine x_tks (t := tb) (fuel := 5) [16, 17, 18, 19] (bts 25 1048575) (by kernel_rfl) (by kernel_rfl) rfl rfl (by (exact Gh.le.refl _)) (by repeat ((exact List.Sublist.refl _))) ?_ ?_; (focus (repeat' (first | exact trivial | apply And.intro | omega))); (try ((refine Nx.re (d := 109) (v' := Bo true) rfl (congrArg Value.bool ?_) ?_; (focus (((refine decide_eq_true ?_; (omega))); done))))); refine x_tks (t := tb) (fuel := 2) [20, 21, 22] (bts 25 8388607) (by kernel_rfl) (by kernel_rfl) rfl rfl (by (exact Gh.le.refl _)) (by repeat ((exact List.Sublist.refl _))) ?_ ?_; (focus (repeat' (first | exact trivial | apply And.intro | omega))); ((refine (x_tkg (bts 25 16777215) 23 rfl (by kernel_rfl) rfl (by (exact Gh.le.refl _)) (by repeat ((exact List.Sublist.refl _)))) (g_pickT rfl rfl ?_) rfl rfl ?_; (focus (((rfl)); done)))); ((refine (x_tkg (bts 25 33554431) 24 rfl (by kernel_rfl) rfl (by (exact Gh.le.refl _)) (by repeat ((exact List.Sublist.refl _)))) (g_pickF rfl rfl ?_) rfl rfl ?_; (focus (((rfl)); done)))); refine x_done (by kernel_rfl) (k_bk ?_))
                  repeat' (first | (refine run (t := tb) 400 rfl ?_ ?_; (focus (repeat' ((exact trivial))))) | (refine k_tt rfl ?_ ?_; (focus (((refine decide_eq_true ?_; (omega))); done))))
                  all_goals refine k_rr (vs := [_, _, _]) rfl ⟨rfl, rfl, rfl, trivial⟩ rfl (List.nil_sublist _) ⟨hgl, rfl, ?_⟩
                  all_goals exact hnone hst rfl
end Go.E
/-! Xe -/
namespace Go.E
set_option maxRecDepth 20000
set_option maxHeartbeats 2000000
open Go.Proofs
variable {G : Gh}
theorem typed_none {ts : List Ty} {f : List UInt8 → List UInt8 → Option (V × List UInt8)} {t : Ty} {e : UInt8} {s : List UInt8} (h : t.sort = 82 ∧ ¬ e.toNat = 123 ∨ t.sort = 69 ∧ ¬ e.toNat = 35 ∨ t.sort = 85 ∧ ¬ e.toNat = 60) : rdTyped ts f t (e :: s) = none := by
  unfold rdTyped
  dsimp only
  rcases h with ⟨h1, h2⟩ | ⟨h1, h2⟩ | ⟨h1, h2⟩
  · rw [if_pos h1, if_neg h2]
  · rw [if_neg (by omega), if_pos h1, if_neg h2]
  · rw [if_neg (by omega), if_neg (by omega), if_neg h2]
theorem c_namX {n : Nat} {u : Value} {vs : List TyX} {x : TyX} {k s : List UInt8} {e : UInt8} (hu : u.oneCell' = true) (cx_rf : PuG Tryz.prog 31 [u, S k] G (· = Tu [Ag [U8 x.2.sort, S x.2.name, slX x], Bo true])) (hso : x.2.sort = 82 ∧ ¬ e.toNat = 123 ∨ x.2.sort = 69 ∧ ¬ e.toNat = 35 ∨ x.2.sort = 85 ∧ ¬ e.toNat = 60) (hs : s.length ≤ 1000) (hn : n ≤ 1000) :
    FnS Tryz.prog 20 [Ag [u], S (e :: s), S k, I (n + 1 : Nat)] G (ReadP (tys vs) (rdTyped (tys vs) (rd (tys vs) n) x.2 (e :: s)) k) := by
  have hno := typed_none (ts := tys vs) (f := rd (tys vs) n) (s := s) hso
  have he0 : bt (e :: s) (Int.toNat 0) = e.toNat := bt_zero e s
  have hel : (e :: s).length = s.length + 1 := rfl
  rcases hso with ⟨h1, h2⟩ | ⟨h1, h2⟩ | ⟨h1, h2⟩
  all_goals
    have h1' : (x.2.sort : Int) = 82 ∨ (x.2.sort : Int) = 69 ∨ (x.2.sort : Int) = 85 := by omega
    refine b_enter [(0, _), (1, _), (2, _), (3, _)] Tryz.func20 (by kernel_rfl) Tryz.ntmps20 rfl rfl (by repeat (first | exact trivial | refine ⟨rfl, ?_⟩)) fun B hok hB hW => ?_
    repeat' (first | (refine run (t := tb) 400 rfl ?_ ?_; (focus (repeat' (first | exact trivial | apply And.intro | omega)))) | (refine k_op rfl ?_; first | refine c_bx rfl rfl rfl fun _ => ?_ | refine v_op (g_ld rfl rfl rfl) rfl rfl ?_ | refine c_al rfl rfl fun _ => ?_ | refine c_stA rfl rfl rfl rfl rfl rfl ?_ | (refine v_op (g_pickT rfl rfl ?_) rfl rfl ?_; (focus (((rfl)); done))) | (refine v_op (g_pickF rfl rfl ?_) rfl rfl ?_; (focus (((rfl)); done))) | (refine c_rt rfl rfl rfl cx_rf rfl ?_)) | (refine k_gt rfl rfl ?_ ?_; (focus (((refine decide_eq_true ?_; (omega))); done))) | (refine k_gf rfl rfl ?_ ?_; (focus (((refine decide_eq_false ?_; (omega))); done))) | (refine k_ff rfl ?_ ?_; (focus ((first | rfl | (refine decide_eq_false ?_; (omega))); done))))
    all_goals refine k_rr (vs := [_, _, _]) rfl ⟨rfl, rfl, rfl, trivial⟩ rfl (List.nil_sublist _) ⟨Gh.le.refl _, rfl, ?_⟩
    all_goals (rw [oneOf_three]; exact ⟨_, _, _, rfl, fun h => (by cases h), fun _ => hno⟩)
theorem c_namR {n : Nat} {u : Value} {vs : List TyX} {x : TyX} {k s : List UInt8} (hR : ReadC n u vs) (h : SchR G u vs) (hw : SchW (tys vs)) (hx : x ∈ vs) (hrf : refT (tys vs) k = some x.2) (cx_rf : PuG Tryz.prog 31 [u, S k] G (· = Tu [Ag [U8 x.2.sort, S x.2.name, slX x], Bo true])) (hso : x.2.sort = 82) (hs : s.length ≤ 999) (hn : n ≤ 1000) (hkl : k.length ≤ 1000) :
    FnS Tryz.prog 20 [Ag [u], S (123 :: s), S k, I (n + 1 : Nat)] G (ReadP (tys vs) (rdTyped (tys vs) (rd (tys vs) n) x.2 (123 :: s)) k) := by
  have cx_rc := c_recordS (s := s) hR h hw hx hrf hso (by omega) hn hkl
  have he0 : bt (123 :: s) (Int.toNat 0) = 123 := bt_zero 123 s
  have hel : (123 :: s).length = s.length + 1 := rfl
  have h1' : (x.2.sort : Int) = 82 := by omega
  refine b_enter [(0, _), (1, _), (2, _), (3, _)] Tryz.func20 (by kernel_rfl) Tryz.ntmps20 rfl rfl (by repeat (first | exact trivial | refine ⟨rfl, ?_⟩)) fun B hok hB hW => ?_
  repeat' (first | (refine run (t := tb) 400 rfl ?_ ?_; (focus (repeat' (first | exact trivial | apply And.intro | omega)))) | (refine k_op rfl ?_; first | refine c_bx rfl rfl rfl fun _ => ?_ | refine v_op (g_ld rfl rfl rfl) rfl rfl ?_ | refine c_al rfl rfl fun _ => ?_ | refine c_stA rfl rfl rfl rfl rfl rfl ?_ | (refine v_op (g_pickT rfl rfl ?_) rfl rfl ?_; (focus (((rfl)); done))) | (refine c_rt rfl rfl rfl cx_rf rfl ?_)) | (refine k_gt rfl rfl ?_ ?_; (focus (((refine decide_eq_true ?_; (assumption))); done))) | (refine k_tt rfl ?_ ?_; (focus (((rfl)); done))) | (refine k_any (s_any (id := 3) _ (fun _ h => h) mixed ?_); refine x_tks (t := tb) (fuel := 9) [1, 2, 3, 5] (bts 13 46) (by kernel_rfl) (by kernel_rfl) rfl rfl (by (exact Gh.le.refl _)) (by repeat ((exact List.Sublist.refl _))) ?_ ?_; (focus (repeat' (first | exact trivial | apply And.intro | omega))); ((refine (x_tkg (bts 13 47) 0 rfl (by kernel_rfl) rfl (by (exact Gh.le.refl _)) (by repeat ((exact List.Sublist.refl _)))) (g_ldA rfl rfl rfl rfl) rfl rfl ?_)); ((refine (x_tkg (bts 13 63) 4 rfl (by kernel_rfl) rfl (by (exact Gh.le.refl _)) (by repeat ((exact List.Sublist.refl _)))) (g_ldA rfl rfl rfl rfl) rfl rfl ?_)); refine x_all [6] (by kernel_rfl) (by decide) ⟨?_, trivial⟩; refine x_opg rfl rfl ?_; ((refine c_fns rfl rfl rfl cx_rc rfl ?_; rintro _ G hle ⟨q1, r1, ok1, rfl, hyes, hno⟩; skip)); refine x_ks (by (assumption)) (by repeat ((exact List.Sublist.refl _))) (listed' := (bts 13 127)) (by kernel_rfl) ?_; refine x_tks (t := tb) (fuel := 0) [7, 8, 9, 10, 11, 12] (bts 13 8191) (by kernel_rfl) (by kernel_rfl) rfl rfl (by (exact Gh.le.refl _)) (by repeat ((exact List.Sublist.refl _))) ?_ ?_; (focus (repeat' ((exact trivial)))); refine x_done (by kernel_rfl) (k_bk ?_)))
  refine k_rr (vs := [_, _, _]) rfl ⟨rfl, rfl, rfl, trivial⟩ rfl (List.nil_sublist _) ⟨hle, rfl, ?_⟩
  rw [oneOf_three]
  exact ⟨_, _, _, rfl, hyes, hno⟩
theorem c_namE {n : Nat} {u : Value} {vs : List TyX} {x : TyX} {k s : List UInt8} (h : SchR G u vs) (hw : SchW (tys vs)) (hx : x ∈ vs) (hrf : refT (tys vs) k = some x.2) (cx_rf : PuG Tryz.prog 31 [u, S k] G (· = Tu [Ag [U8 x.2.sort, S x.2.name, slX x], Bo true])) (hso : x.2.sort = 69) (hs : s.length ≤ 999) (hn : n ≤ 1000) :
    FnS Tryz.prog 20 [Ag [u], S (35 :: s), S k, I (n + 1 : Nat)] G (ReadP (tys vs) (rdTyped (tys vs) (rd (tys vs) n) x.2 (35 :: s)) k) := by
  have hxt : x.2 ∈ tys vs := List.mem_map_of_mem hx
  have hTW := hw.ty _ hxt
  have hfl := hTW.len
  have cx_tg := c_tag (G := G) (u := u) (x := x) (s := s) (by omega) h.sl.one (h.fl x hx) (by omega)
  have he0 : bt (35 :: s) (Int.toNat 0) = 35 := bt_zero 35 s
  have hel : (35 :: s).length = s.length + 1 := rfl
  have h1' : (x.2.sort : Int) = 69 := by omega
  have hRT : rdTyped (tys vs) (rd (tys vs) n) x.2 (35 :: s) = match rdNum 200 s with
      | none => none
      | some (n, r) => if (fldT x.2.fields n).isSome = true then some (.nd 69 [] n [], r) else none := by
    unfold rdTyped
    dsimp only
    rw [if_neg (by omega), if_pos hso, if_pos (show (35 : UInt8).toNat = 35 from rfl)]
    cases rdNum 200 s <;> rfl
  unfold rdNum at hRT
  simp only [tyF] at cx_tg
  refine b_enter [(0, _), (1, _), (2, _), (3, _)] Tryz.func20 (by kernel_rfl) Tryz.ntmps20 rfl rfl (by repeat (first | exact trivial | refine ⟨rfl, ?_⟩)) fun B hok hB hW => ?_
  repeat' (first | (refine run (t := tb) 400 rfl ?_ ?_; (focus (repeat' (first | exact trivial | apply And.intro | omega)))) | (refine k_op rfl ?_; first | refine c_bx rfl rfl rfl fun _ => ?_ | refine v_op (g_ld rfl rfl rfl) rfl rfl ?_ | refine c_al rfl rfl fun _ => ?_ | refine c_stA rfl rfl rfl rfl rfl rfl ?_ | (refine v_op (g_pickT rfl rfl ?_) rfl rfl ?_; (focus (((rfl)); done))) | (refine v_op (g_pickF rfl rfl ?_) rfl rfl ?_; (focus (((rfl)); done))) | refine c_bsl rfl rfl rfl rfl rfl rfl fun _ => ?_ | refine v_op (g_bld rfl rfl) rfl rfl ?_ | (refine c_rt rfl rfl rfl cx_rf rfl ?_)) | (refine k_gt rfl rfl ?_ ?_; (focus (((refine decide_eq_true ?_; (assumption))); done))) | (refine k_gf rfl rfl ?_ ?_; (focus (((refine decide_eq_false ?_; (omega))); done))) | (refine k_tt rfl ?_ ?_; (focus (((rfl)); done))) | (refine k_ff rfl ?_ ?_; (focus (((rfl)); done))) | (refine k_any (s_any (id := 5) _ (fun _ h => h) mixed ?_); refine x_tks (t := tb) (fuel := 11) [1, 2] (bts 13 6) (by kernel_rfl) (by kernel_rfl) rfl rfl (by (exact Gh.le.refl _)) (by repeat ((exact List.Sublist.refl _))) ?_ ?_; (focus (repeat' (first | exact trivial | apply And.intro | omega))); ((refine (x_tkg (bts 13 7) 0 rfl (by kernel_rfl) rfl (by (exact Gh.le.refl _)) (by repeat ((exact List.Sublist.refl _)))) (g_ldA rfl rfl rfl rfl) rfl rfl ?_)); ((refine (x_tkg (bts 13 15) 3 rfl (by kernel_rfl) rfl (by (exact Gh.le.refl _)) (by repeat ((exact List.Sublist.refl _)))) (g_ldA rfl rfl rfl rfl) rfl rfl ?_)); refine x_all [4, 9] (by kernel_rfl) (by decide) ⟨?_, ?_, trivial⟩; (focus (refine x_opg rfl rfl ?_; ((refine c_pu rfl rfl rfl cx_tg rfl ?_; rintro _ ⟨nt, rfl, hnt⟩)); refine x_kk (by (exact Gh.le.refl _)) (by repeat ((exact List.Sublist.refl _))) (listed' := (bts 13 31)) (by kernel_rfl) ?_; refine x_tks (t := tb) (fuel := 4) [5, 6, 7, 8] (bts 13 511) (by kernel_rfl) (by kernel_rfl) rfl rfl (by (exact Gh.le.refl _)) (by repeat ((exact List.Sublist.refl _))) ?_ ?_; (focus (repeat' ((exact trivial)))); refine x_all [9] (by kernel_rfl) (by decide) ⟨?_, trivial⟩; refine x_opg rfl rfl ?_; ((refine c_al rfl rfl fun _ => ?_)); refine x_kk (by (exact Gh.le.refl _)) (by repeat (first | exact List.Sublist.refl _ | apply List.Sublist.cons)) (listed' := (bts 13 1023)) (by kernel_rfl) ?_; refine x_all [10] (by kernel_rfl) (by decide) ⟨?_, trivial⟩; refine x_opg rfl rfl ?_; ((refine c_stA rfl rfl rfl rfl rfl rfl ?_)); refine x_kk (by (exact Gh.le.refl _)) (by repeat (first | exact List.Sublist.refl _ | apply List.Sublist.cons)) (listed' := (bts 13 2047)) (by kernel_rfl) ?_; refine x_tks (t := tb) (fuel := 0) [11, 12] (bts 13 8191) (by kernel_rfl) (by kernel_rfl) rfl rfl (by (exact Gh.le.refl _)) (by repeat (first | exact List.Sublist.refl _ | apply List.Sublist.cons)) ?_ ?_; (focus (repeat' ((exact trivial)))); refine x_done (by kernel_rfl) (k_bk ?_))); rotate_left 1; (focus (refine x_opg rfl rfl ?_; ((refine c_al rfl rfl fun _ => ?_)); refine x_kk (by (exact Gh.le.refl _)) (by repeat (first | exact List.Sublist.refl _ | apply List.Sublist.cons)) (listed' := (bts 13 527)) (by kernel_rfl) ?_; refine x_all [4] (by kernel_rfl) (by decide) ⟨?_, trivial⟩; refine x_opg rfl rfl ?_; ((refine c_pu rfl rfl rfl cx_tg rfl ?_; rintro _ ⟨nt, rfl, hnt⟩)); refine x_kk (by (exact Gh.le.refl _)) (by repeat (first | exact List.Sublist.refl _ | apply List.Sublist.cons)) (listed' := (bts 13 543)) (by kernel_rfl) ?_; refine x_tks (t := tb) (fuel := 3) [5, 6, 7, 8] (bts 13 1023) (by kernel_rfl) (by kernel_rfl) rfl rfl (by (exact Gh.le.refl _)) (by repeat (first | exact List.Sublist.refl _ | apply List.Sublist.cons)) ?_ ?_; (focus (repeat' ((exact trivial)))); refine x_all [10] (by kernel_rfl) (by decide) ⟨?_, trivial⟩; refine x_opg rfl rfl ?_; ((refine c_stA rfl rfl rfl rfl rfl rfl ?_)); refine x_kk (by (exact Gh.le.refl _)) (by repeat (first | exact List.Sublist.refl _ | apply List.Sublist.cons)) (listed' := (bts 13 2047)) (by kernel_rfl) ?_; refine x_tks (t := tb) (fuel := 0) [11, 12] (bts 13 8191) (by kernel_rfl) (by kernel_rfl) rfl rfl (by (exact Gh.le.refl _)) (by repeat (first | exact List.Sublist.refl _ | apply List.Sublist.cons)) ?_ ?_; (focus (repeat' ((exact trivial)))); refine x_done (by kernel_rfl) (k_bk ?_))); rotate_left 1))
  all_goals
    rename_i y y8
    refine Nx.sealC (b := y) fun G2 hG2 hsy => ?_
    refine Nx.sealC (b := y8) fun G3 hG3 hsg => ?_
    refine k_rr (vs := [_, _, _]) rfl ⟨rfl, rfl, rfl, trivial⟩ rfl (List.nil_sublist _) ⟨(hG2.trans hG3), rfl, ?_⟩
    rw [oneOf_three]
    refine ⟨_, _, _, rfl, fun hb => ?_, fun hb => ?_⟩
    · simp only [Bool.and_eq_true] at hb
      obtain ⟨hb1, hb2⟩ := hb
      obtain ⟨m0, hm⟩ := Option.isSome_iff_exists.1 hb1
      obtain ⟨d, hd⟩ := Option.isSome_iff_exists.1 hb2
      have hnm := hnt m0 hm
      subst hnm
      rw [hd] at hsy
      simp only [Option.getD_some] at hsy
      have hdm : d ∈ x.2.fields := List.mem_of_find?_eq_some hd
      have hdt : d.tag = nt := by have := List.find?_some hd; simpa using this
      exact ⟨.nd 69 [] d.tag [], y8, rfl, by rw [hRT, hm]; dsimp only [Option.map_some]; rw [hd, hdt]; rfl, .enm k y8 y x.2 d hrf hdm hsg (hsy.mono hG3)⟩
    · rw [hRT]
      cases hm : numOf (s.takeWhile isDg) 200 with
      | none => rfl
      | some m0 =>
        have hnm := hnt m0 hm
        subst hnm
        rw [hm] at hb
        dsimp only [Option.map_some]
        rw [if_neg]
        intro h2
        rw [h2] at hb; cases hb
end Go.E
/-! Xf -/
namespace Go.E
set_option maxRecDepth 20000
set_option maxHeartbeats 2000000
open Go.Proofs
variable {G : Gh}
theorem c_namU {n : Nat} {u : Value} {vs : List TyX} {x : TyX} {k s : List UInt8} (hR : ReadC n u vs) (h : SchR G u vs) (hw : SchW (tys vs)) (hx : x ∈ vs) (hrf : refT (tys vs) k = some x.2) (cx_rf : PuG Tryz.prog 31 [u, S k] G (· = Tu [Ag [U8 x.2.sort, S x.2.name, slX x], Bo true])) (hso : x.2.sort = 85) (hs : s.length ≤ 999) (hn : n ≤ 1000) :
    FnS Tryz.prog 20 [Ag [u], S (60 :: s), S k, I (n + 1 : Nat)] G (ReadP (tys vs) (rdTyped (tys vs) (rd (tys vs) n) x.2 (60 :: s)) k) := by
  have edn : ((n + 1 : Nat) : Int) - 1 = (n : Nat) := by omega
  have hxt : x.2 ∈ tys vs := List.mem_map_of_mem hx
  have hTW := hw.ty _ hxt
  have hfl := hTW.len
  have cx_tg := c_tag (G := G) (u := u) (x := x) (s := s) (by omega) h.sl.one (h.fl x hx) (by omega)
  have he0 : bt (60 :: s) (Int.toNat 0) = 60 := bt_zero 60 s
  have hel : (60 :: s).length = s.length + 1 := rfl
  have h1' : (x.2.sort : Int) = 85 := by omega
  have hRT : rdTyped (tys vs) (rd (tys vs) n) x.2 (60 :: s) = match rdField (rd (tys vs) n) x.2 s with
      | none => none
      | some ((d, v), r) => match r with
        | [] => none
        | c' :: r' => if c'.toNat = 62 then some (.nd 85 [] d.tag [v], r') else none := by
    unfold rdTyped
    dsimp only
    rw [if_neg (by omega), if_neg (by omega), if_pos (show (60 : UInt8).toNat = 60 from rfl)]
    cases rdField (rd (tys vs) n) x.2 s <;> rfl
  simp only [tyF] at cx_tg
  
  refine b_enter [(0, _), (1, _), (2, _), (3, _)] Tryz.func20 (by kernel_rfl) Tryz.ntmps20 rfl rfl (by repeat (first | exact trivial | refine ⟨rfl, ?_⟩)) fun B hok hB hW => ?_
  repeat' (first | (refine run (t := tb) 400 rfl ?_ ?_; (focus (repeat' (first | exact trivial | apply And.intro | omega)))) | (refine k_op rfl ?_; first | refine c_bx rfl rfl rfl fun _ => ?_ | refine v_op (g_ld rfl rfl rfl) rfl rfl ?_ | refine c_al rfl rfl fun _ => ?_ | refine c_stA rfl rfl rfl rfl rfl rfl ?_ | (refine v_op (g_pickT rfl rfl ?_) rfl rfl ?_; (focus (((rfl)); done))) | (refine v_op (g_pickF rfl rfl ?_) rfl rfl ?_; (focus (((rfl)); done))) | (refine c_rt rfl rfl rfl cx_rf rfl ?_)) | (refine k_gt rfl rfl ?_ ?_; (focus (((refine decide_eq_true ?_; (assumption))); done))) | (refine k_gf rfl rfl ?_ ?_; (focus (((refine decide_eq_false ?_; (omega))); done))) | (refine k_tt rfl ?_ ?_; (focus (((rfl)); done))) | (refine k_ff rfl ?_ ?_; (focus (((rfl)); done))))
  (refine k_any (s_any (id := 8) _ (fun _ h => h) mixed ?_); refine x_tks (t := tb) (fuel := 11) [1, 2] (bts 13 6) (by kernel_rfl) (by kernel_rfl) rfl rfl (by (exact Gh.le.refl _)) (by repeat ((exact List.Sublist.refl _))) ?_ ?_; (focus (repeat' (first | exact trivial | apply And.intro | omega))); ((refine (x_tkg (bts 13 7) 0 rfl (by kernel_rfl) rfl (by (exact Gh.le.refl _)) (by repeat ((exact List.Sublist.refl _)))) (g_ldA rfl rfl rfl rfl) rfl rfl ?_)); ((refine (x_tkg (bts 13 15) 3 rfl (by kernel_rfl) rfl (by (exact Gh.le.refl _)) (by repeat ((exact List.Sublist.refl _)))) (g_ldA rfl rfl rfl rfl) rfl rfl ?_)); refine x_all [4, 9] (by kernel_rfl) (by decide) ⟨?_, ?_, trivial⟩; (focus (refine x_opg rfl rfl ?_; ((refine c_pu rfl rfl rfl cx_tg rfl ?_; rintro _ ⟨nt, rfl, hnt⟩)); refine x_kk (by (exact Gh.le.refl _)) (by repeat ((exact List.Sublist.refl _))) (listed' := (bts 13 31)) (by kernel_rfl) ?_; refine x_tks (t := tb) (fuel := 4) [5, 6, 7, 8] (bts 13 511) (by kernel_rfl) (by kernel_rfl) rfl rfl (by (exact Gh.le.refl _)) (by repeat ((exact List.Sublist.refl _))) ?_ ?_; (focus (repeat' ((exact trivial)))); refine x_all [9] (by kernel_rfl) (by decide) ⟨?_, trivial⟩; refine x_opg rfl rfl ?_; ((refine c_al rfl rfl fun _ => ?_)); refine x_kk (by (exact Gh.le.refl _)) (by repeat (first | exact List.Sublist.refl _ | apply List.Sublist.cons)) (listed' := (bts 13 1023)) (by kernel_rfl) ?_; refine x_all [10] (by kernel_rfl) (by decide) ⟨?_, trivial⟩; refine x_opg rfl rfl ?_; ((refine c_stA rfl rfl rfl rfl rfl rfl ?_)); refine x_kk (by (exact Gh.le.refl _)) (by repeat (first | exact List.Sublist.refl _ | apply List.Sublist.cons)) (listed' := (bts 13 2047)) (by kernel_rfl) ?_; refine x_tks (t := tb) (fuel := 0) [11, 12] (bts 13 8191) (by kernel_rfl) (by kernel_rfl) rfl rfl (by (exact Gh.le.refl _)) (by repeat (first | exact List.Sublist.refl _ | apply List.Sublist.cons)) ?_ ?_; (focus (repeat' ((exact trivial)))); refine x_done (by kernel_rfl) (k_bk ?_))); rotate_left 1; (focus (refine x_opg rfl rfl ?_; ((refine c_al rfl rfl fun _ => ?_)); refine x_kk (by (exact Gh.le.refl _)) (by repeat (first | exact List.Sublist.refl _ | apply List.Sublist.cons)) (listed' := (bts 13 527)) (by kernel_rfl) ?_; refine x_all [4] (by kernel_rfl) (by decide) ⟨?_, trivial⟩; refine x_opg rfl rfl ?_; ((refine c_pu rfl rfl rfl cx_tg rfl ?_; rintro _ ⟨nt, rfl, hnt⟩)); refine x_kk (by (exact Gh.le.refl _)) (by repeat (first | exact List.Sublist.refl _ | apply List.Sublist.cons)) (listed' := (bts 13 543)) (by kernel_rfl) ?_; refine x_tks (t := tb) (fuel := 3) [5, 6, 7, 8] (bts 13 1023) (by kernel_rfl) (by kernel_rfl) rfl rfl (by (exact Gh.le.refl _)) (by repeat (first | exact List.Sublist.refl _ | apply List.Sublist.cons)) ?_ ?_; (focus (repeat' ((exact trivial)))); refine x_all [10] (by kernel_rfl) (by decide) ⟨?_, trivial⟩; refine x_opg rfl rfl ?_; ((refine c_stA rfl rfl rfl rfl rfl rfl ?_)); refine x_kk (by (exact Gh.le.refl _)) (by repeat (first | exact List.Sublist.refl _ | apply List.Sublist.cons)) (listed' := (bts 13 2047)) (by kernel_rfl) ?_; refine x_tks (t := tb) (fuel := 0) [11, 12] (bts 13 8191) (by kernel_rfl) (by kernel_rfl) rfl rfl (by (exact Gh.le.refl _)) (by repeat (first | exact List.Sublist.refl _ | apply List.Sublist.cons)) ?_ ?_; (focus (repeat' ((exact trivial)))); refine x_done (by kernel_rfl) (k_bk ?_))); rotate_left 1)
  all_goals
    have hnone : ∀ {v : Value} {G' : Gh} {r : List UInt8}, rdField (rd (tys vs) n) x.2 s = none → v = Tu [.pointer none, S r, Bo false] → ReadP (tys vs) (rdTyped (tys vs) (rd (tys vs) n) x.2 (60 :: s)) k v G' := fun h1 h2 => ⟨_, _, _, h2, fun h => (by cases h), fun _ => by rw [hRT, h1]⟩
    cases hb16 : (numOf (s.takeWhile isDg) 200).isSome && (fldT x.2.fields nt).isSome with
    | false =>
      have hno : rdField (rd (tys vs) n) x.2 s = none := by
        cases hm : numOf (s.takeWhile isDg) 200 with
        | none => exact field_none (.inl hm)
        | some m0 =>
          refine field_none (.inr ⟨m0, hm, ?_⟩)
          rw [hm] at hb16
          rw [← hnt m0 hm]
          cases hf : fldT x.2.fields nt with
          | none => rfl
          | some d => rw [hf] at hb16; cases hb16
      repeat' (first | (refine run (t := tb) 400 rfl ?_ ?_; (focus (repeat' ((exact trivial))))) | (refine k_op rfl ?_; (refine v_op (g_pickT rfl rfl ?_) rfl rfl ?_; (focus (((rfl)); done)))) | (refine k_gt rfl rfl ?_ ?_; (focus (((rfl)); done))) | (refine k_tt rfl ?_ ?_; (focus (((rfl)); done))))
      all_goals refine k_rr (vs := [_, _, _]) rfl ⟨rfl, rfl, rfl, trivial⟩ rfl (List.nil_sublist _) ⟨Gh.le.refl _, rfl, ?_⟩
      all_goals exact hnone hno rfl
    | true =>
      simp only [Bool.and_eq_true] at hb16
      obtain ⟨hb1, hb2⟩ := hb16
      obtain ⟨m0, hm⟩ := Option.isSome_iff_exists.1 hb1
      obtain ⟨d, hd⟩ := Option.isSome_iff_exists.1 hb2
      have hnm := hnt m0 hm
      subst hnm
      rw [hd]
      simp only [Option.getD_some]
      have hdm : d ∈ x.2.fields := List.mem_of_find?_eq_some hd
      have hwl := while_len isDg s
      cases hdw : s.dropWhile isDg with
      | nil =>
        have hno : rdField (rd (tys vs) n) x.2 s = none := field_noeq hm (fun s2 h => by rw [hdw] at h; cases h)
        repeat' (first | (refine run (t := tb) 400 rfl ?_ ?_; (focus (repeat' ((exact trivial))))) | (refine k_op rfl ?_; first | (refine v_op (g_pickT rfl rfl ?_) rfl rfl ?_; (focus (((rfl)); done))) | (refine v_op (g_pickF rfl rfl ?_) rfl rfl ?_; (focus (((rfl)); done)))) | (refine k_gt rfl rfl ?_ ?_; (focus (((rfl)); done))) | (refine k_gf rfl rfl ?_ ?_; (focus (((rfl)); done))) | (refine k_tt rfl ?_ ?_; (focus (((rfl)); done))))
        all_goals refine k_rr (vs := [_, _, _]) rfl ⟨rfl, rfl, rfl, trivial⟩ rfl (List.nil_sublist _) ⟨Gh.le.refl _, rfl, ?_⟩
        all_goals exact hnone hno rfl
      | cons e r2 =>
        have he20 : bt (e :: r2) (Int.toNat 0) = e.toNat := bt_zero e r2
        have hel2 : (e :: r2).length = r2.length + 1 := rfl
        by_cases h61 : e.toNat = 61
        case neg =>
          have hno : rdField (rd (tys vs) n) x.2 s = none := field_noeq hm (fun s2 h => by rw [hdw] at h; simp only [List.cons.injEq] at h; exact h61 (by rw [h.1]; rfl))
          repeat' (first | (refine run (t := tb) 400 rfl ?_ ?_; (focus (repeat' (first | exact trivial | apply And.intro | omega)))) | (refine k_op rfl ?_; (refine v_op (g_pickF rfl rfl ?_) rfl rfl ?_; (focus (((rfl)); done)))) | (refine k_gf rfl rfl ?_ ?_; (focus (((rfl)); done))) | (refine k_tt rfl ?_ ?_; (focus (((refine decide_eq_true ?_; (omega))); done))))
          all_goals refine k_rr (vs := [_, _, _]) rfl ⟨rfl, rfl, rfl, trivial⟩ rfl (List.nil_sublist _) ⟨Gh.le.refl _, rfl, ?_⟩
          all_goals exact hnone hno rfl
        have he61 : e = 61 := UInt8.toNat_inj.1 h61
        have hfs := field_some (f := rd (tys vs) n) (t := x.2) (s := s) hm hd (by rw [hdw, he61])
        have hdk : kindIn (tys vs) d.kind = true := kind_in hw hxt (by omega) hdm
        rw [hdw, List.length_cons] at hwl
        have cx_rd := hR G d.kind r2 h hdk (by omega)
        rw [← edn] at cx_rd
        repeat' (first | (refine run (t := tb) 400 rfl ?_ ?_; (focus (repeat' (first | exact trivial | apply And.intro | omega)))) | (refine k_op rfl ?_; (refine v_op (g_pickF rfl rfl ?_) rfl rfl ?_; (focus (((rfl)); done)))) | (refine k_gf rfl rfl ?_ ?_; (focus (((rfl)); done))) | (refine k_ff rfl ?_ ?_; (focus (((refine decide_eq_false ?_; (omega))); done))))
        (refine k_any (s_any (id := 11) _ (fun _ h => h) mixed ?_); refine x_tks (t := tb) (fuel := 10) [1, 2, 3, 5, 6] (bts 15 110) (by kernel_rfl) (by kernel_rfl) rfl rfl (by (exact Gh.le.refl _)) (by repeat ((exact List.Sublist.refl _))) ?_ ?_; (focus (repeat' (first | exact trivial | apply And.intro | omega))); ((refine (x_tkg (bts 15 111) 0 rfl (by kernel_rfl) rfl (by (exact Gh.le.refl _)) (by repeat ((exact List.Sublist.refl _)))) (g_ldA rfl rfl rfl rfl) rfl rfl ?_)); ((refine (x_tkg (bts 15 127) 4 rfl (by kernel_rfl) rfl (by (exact Gh.le.refl _)) (by repeat ((exact List.Sublist.refl _)))) (g_ld rfl rfl rfl) rfl rfl ?_)); refine x_all [7] (by kernel_rfl) (by decide) ⟨?_, trivial⟩; refine x_opg rfl rfl ?_; ((refine c_fns rfl rfl rfl cx_rd rfl ?_; rintro _ G hle ⟨q1, r1, ok1, rfl, hyes, hno⟩; skip)); refine x_ks (by (assumption)) (by repeat ((exact List.Sublist.refl _))) (listed' := (bts 15 255)) (by kernel_rfl) ?_; refine x_tks (t := tb) (fuel := 0) [8, 9, 10, 11, 12, 13, 14] (bts 15 32767) (by kernel_rfl) (by kernel_rfl) rfl rfl (by (exact Gh.le.refl _)) (by repeat ((exact List.Sublist.refl _))) ?_ ?_; (focus (repeat' ((exact trivial)))); refine x_done (by kernel_rfl) (k_bk ?_))
        cases ok1 with
        | false =>
          have hno2 : rdField (rd (tys vs) n) x.2 s = none := by rw [hfs, hno rfl]; rfl
          repeat' (first | (refine run (t := tb) 400 rfl ?_ ?_; (focus (repeat' ((exact trivial))))) | (refine k_op rfl ?_; (refine v_op (g_pickT rfl rfl ?_) rfl rfl ?_; (focus (((rfl)); done)))) | (refine k_gt rfl rfl ?_ ?_; (focus (((rfl)); done))) | (refine k_tt rfl ?_ ?_; (focus (((rfl)); done))))
          all_goals refine k_rr (vs := [_, _, _]) rfl ⟨rfl, rfl, rfl, trivial⟩ rfl (List.nil_sublist _) ⟨hle, rfl, ?_⟩
          all_goals exact hnone hno2 rfl
        | true =>
          obtain ⟨w, wb, rfl, hf, hrep⟩ := hyes rfl
          have hfd : rdField (rd (tys vs) n) x.2 s = some ((d, w), r1) := by rw [hfs, hf]; rfl
          rw [hfd] at hRT
          dsimp only at hRT
          cases r1 with
          | nil =>
            repeat' (first | (refine run (t := tb) 400 rfl ?_ ?_; (focus (repeat' ((exact trivial))))) | (refine k_op rfl ?_; first | (refine v_op (g_pickT rfl rfl ?_) rfl rfl ?_; (focus (((rfl)); done))) | (refine v_op (g_pickF rfl rfl ?_) rfl rfl ?_; (focus (((rfl)); done)))) | (refine k_gt rfl rfl ?_ ?_; (focus (((rfl)); done))) | (refine k_gf rfl rfl ?_ ?_; (focus (((rfl)); done))) | (refine k_tt rfl ?_ ?_; (focus (((rfl)); done))))
            all_goals refine k_rr (vs := [_, _, _]) rfl ⟨rfl, rfl, rfl, trivial⟩ rfl (List.nil_sublist _) ⟨hle, rfl, ?_⟩
            all_goals (rw [oneOf_three]; exact ⟨_, _, _, rfl, fun h => (by cases h), fun _ => hRT⟩)
          | cons e3 r3 =>
            have he30 : bt (e3 :: r3) (Int.toNat 0) = e3.toNat := bt_zero e3 r3
            have hel3 : (e3 :: r3).length = r3.length + 1 := rfl
            dsimp only at hRT
            by_cases h62 : e3.toNat = 62
            case neg =>
              rw [if_neg h62] at hRT
              repeat' (first | (refine run (t := tb) 400 rfl ?_ ?_; (focus (repeat' (first | exact trivial | apply And.intro | omega)))) | (refine k_op rfl ?_; (refine v_op (g_pickF rfl rfl ?_) rfl rfl ?_; (focus (((rfl)); done)))) | (refine k_gf rfl rfl ?_ ?_; (focus (((rfl)); done))) | (refine k_tt rfl ?_ ?_; (focus (((refine decide_eq_true ?_; (omega))); done))))
              all_goals refine k_rr (vs := [_, _, _]) rfl ⟨rfl, rfl, rfl, trivial⟩ rfl (List.nil_sublist _) ⟨hle, rfl, ?_⟩
              all_goals (rw [oneOf_three]; exact ⟨_, _, _, rfl, fun h => (by cases h), fun _ => hRT⟩)
            rw [if_pos h62] at hRT
            repeat' (first | (refine run (t := tb) 400 rfl ?_ ?_; (focus (repeat' (first | exact trivial | apply And.intro | omega)))) | (refine k_op rfl ?_; (refine v_op (g_pickF rfl rfl ?_) rfl rfl ?_; (focus (((rfl)); done)))) | (refine k_gf rfl rfl ?_ ?_; (focus (((rfl)); done))) | (refine k_ff rfl ?_ ?_; (focus (((refine decide_eq_false ?_; (omega))); done))))
            (refine k_any (s_any (id := 14) _ (fun _ h => h) mixed ?_); refine x_tks (t := tb) (fuel := 8) [0, 1, 4, 8, 9] (bts 13 787) (by kernel_rfl) (by kernel_rfl) rfl rfl (by (exact Gh.le.refl _)) (by repeat ((exact List.Sublist.refl _))) ?_ ?_; (focus (repeat' (first | exact trivial | apply And.intro | omega))); ((refine (x_tkg (bts 13 791) 2 rfl (by kernel_rfl) rfl (by (exact Gh.le.refl _)) (by repeat ((exact List.Sublist.refl _)))) (g_ld rfl rfl rfl) rfl rfl ?_)); refine x_all [3, 5] (by kernel_rfl) (by decide) ⟨?_, ?_, trivial⟩; (focus (refine x_opg rfl rfl ?_; ((refine c_bsl rfl rfl rfl rfl rfl rfl fun _ => ?_)); refine x_ks (by (exact Gh.le.refl _)) (by repeat (first | exact List.Sublist.refl _ | apply List.Sublist.cons)) (listed' := (bts 13 799)) (by kernel_rfl) ?_; refine x_all [5] (by kernel_rfl) (by decide) ⟨?_, trivial⟩; refine x_opg rfl rfl ?_; ((refine c_bsl rfl rfl rfl rfl rfl rfl fun _ => ?_)); refine x_ks (by (exact Gh.le.refl _)) (by repeat (first | exact List.Sublist.refl _ | apply List.Sublist.cons)) (listed' := (bts 13 831)) (by kernel_rfl) ?_; ((refine (x_tkg (bts 13 895) 6 rfl (by kernel_rfl) rfl (by (exact Gh.le.refl _)) (by repeat ((exact List.Sublist.refl _)))) (g_bld rfl rfl) rfl rfl ?_)); refine x_all [7] (by kernel_rfl) (by decide) ⟨?_, trivial⟩; refine x_opg rfl rfl ?_; ((refine c_bx rfl rfl rfl fun _ => ?_)); refine x_ks (by (exact Gh.le.refl _)) (by repeat (first | exact List.Sublist.refl _ | apply List.Sublist.cons)) (listed' := (bts 13 1023)) (by kernel_rfl) ?_; refine x_tks (t := tb) (fuel := 0) [10, 11, 12] (bts 13 8191) (by kernel_rfl) (by kernel_rfl) rfl rfl (by (exact Gh.le.refl _)) (by repeat ((exact List.Sublist.refl _))) ?_ ?_; (focus (repeat' ((exact trivial)))); refine x_done (by kernel_rfl) (k_bk ?_))); rotate_left 1; (focus (refine x_opg rfl rfl ?_; ((refine c_bsl rfl rfl rfl rfl rfl rfl fun _ => ?_)); refine x_ks (by (exact Gh.le.refl _)) (by repeat (first | exact List.Sublist.refl _ | apply List.Sublist.cons)) (listed' := (bts 13 823)) (by kernel_rfl) ?_; refine x_all [3] (by kernel_rfl) (by decide) ⟨?_, trivial⟩; refine x_opg rfl rfl ?_; ((refine c_bsl rfl rfl rfl rfl rfl rfl fun _ => ?_)); refine x_ks (by (exact Gh.le.refl _)) (by repeat (first | exact List.Sublist.refl _ | apply List.Sublist.cons)) (listed' := (bts 13 831)) (by kernel_rfl) ?_; ((refine (x_tkg (bts 13 895) 6 rfl (by kernel_rfl) rfl (by (exact Gh.le.refl _)) (by repeat ((exact List.Sublist.refl _)))) (g_bld rfl rfl) rfl rfl ?_)); refine x_all [7] (by kernel_rfl) (by decide) ⟨?_, trivial⟩; refine x_opg rfl rfl ?_; ((refine c_bx rfl rfl rfl fun _ => ?_)); refine x_ks (by (exact Gh.le.refl _)) (by repeat (first | exact List.Sublist.refl _ | apply List.Sublist.cons)) (listed' := (bts 13 1023)) (by kernel_rfl) ?_; refine x_tks (t := tb) (fuel := 0) [10, 11, 12] (bts 13 8191) (by kernel_rfl) (by kernel_rfl) rfl rfl (by (exact Gh.le.refl _)) (by repeat ((exact List.Sublist.refl _))) ?_ ?_; (focus (repeat' ((exact trivial)))); refine x_done (by kernel_rfl) (k_bk ?_))); rotate_left 1)
            all_goals repeat' ((refine run (t := tb) 400 rfl ?_ ?_; (focus (repeat' ((exact trivial))))))
            all_goals
              rename_i y1 y2 y8
              refine Nx.sealC (b := y1) fun G2 hG2 hs1 => ?_
              refine Nx.sealC (b := y2) fun G3 hG3 hs2 => ?_
              refine Nx.sealC (b := y8) fun G4 hG4 hsg => ?_
              refine k_rr (vs := [_, _, _]) rfl ⟨rfl, rfl, rfl, trivial⟩ rfl (List.nil_sublist _) ⟨(((hle.trans hG2).trans hG3).trans hG4), rfl, ?_⟩
              rw [oneOf_three]
              first | exact ⟨_, _, _, rfl, fun _ => ⟨.nd 85 [] d.tag [w], y8, rfl, hRT, .uni k y8 y1 y2 wb x.2 d w hrf hdm hsg (hs1.mono (hG3.trans hG4)) (hs2.mono hG4) (hrep.mono ((hG2.trans hG3).trans hG4))⟩, fun h => (by cases h)⟩ | exact ⟨_, _, _, rfl, fun _ => ⟨.nd 85 [] d.tag [w], y8, rfl, hRT, .uni k y8 y2 y1 wb x.2 d w hrf hdm hsg (hs2.mono hG4) (hs1.mono (hG3.trans hG4)) (hrep.mono ((hG2.trans hG3).trans hG4))⟩, fun h => (by cases h)⟩
end Go.E
