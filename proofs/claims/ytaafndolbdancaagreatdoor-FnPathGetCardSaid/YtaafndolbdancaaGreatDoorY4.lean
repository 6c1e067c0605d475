/- Contracts and plain laws that the statement rests on, part 4. Conditions: as each says. -/
import Derived.Test.YtaafndolbdancaaGreatDoorY3
set_option linter.unusedVariables false
set_option linter.unusedSimpArgs false
namespace Go.E
set_option maxRecDepth 20000
set_option maxHeartbeats 2000000
open Go.Proofs
variable {G : Gh}
abbrev tVal : TypeId := 56
abbrev tStP : TypeId := 9
theorem nd_tot {w : Nat} {x : List UInt8} {t : Int} {ks : List V} : V.tot (.nd w x t ks) = 20 + x.length + V.tots ks := by rw [V.tot]
theorem c_print : ∀ (n : Nat) {v : V} {c : VC}, v.tot ≤ n → v.tot ≤ 1000000 → V.rep G v c → PuG Tryz.prog 26 [Ag (vcF c)] G (· = S v.out) := by
 intro n
 induction n with
 | zero => intro v c h1 _ _; have := tot_pos v; omega
 | succ n ih =>
  intro v c h1 h2 h
  obtain ⟨w, x, t, ks⟩ := v
  rw [nd_tot] at h1 h2
  obtain ⟨a, k, cs, rfl, hw, ht, h61, hcl, hsl, hks⟩ := rep_inv h
  have hkl := tots_len ks
  have hol := outs_len ks
  have hjl := outs_tot hks
  have hj2 := joinB_len 44 (V.outs ks)
  rw [hol] at hj2
  simp only [vcF, VC.sl]
  refine jB (Post := fun v G' L' => G' = G ∧ L' = [] ∧ _) [(0, _)] Tryz.func26 Tryz.ntmps26 fun B hok hB hW => ?_
  repeat' (first | (refine jR ?_) | (refine jo ?_; first | refine jO fun _ => ?_ | refine jAl rfl ?_ | refine jV (g_lenL rfl) ?_))
  rename_i bv
  refine Nx.addNil tStP 1 ?_
  refine k_loop (ι := Nat × Value) (fun q => q.1 ≤ ks.length) (fun q => [(1, Pt bv 0), (2, S []), (3, q.2), (8, .slice a ks.length k), (9, I ks.length), (10, I q.1)]) (fun _ => G) (fun q => [.acc q.2 tStP 1 q.1 (rows strF ((V.outs ks).take q.1)), .blk bv (.cells (List.toArray [U8 w, S x, I t, .slice a ks.length k]) tVal (0, 0))]) (fun q => ks.length - q.1) (0, nilS) ?_ tU rfl sRr (fun q Hq => ?_)
  ·exact Nat.zero_le _
  obtain ⟨i, pv⟩ := q
  dsimp only at Hq ⊢
  by_cases hi : i < ks.length
  ·have hti := tot_nth hi
   have cx_pr := ih oM oM (reps_nth hks i hi)
   obtain ⟨bf, of, cf, e, hs⟩ := hsl.expl oM
   simp only [Value.slice.injEq] at e
   obtain ⟨rfl, -, rfl⟩ := e
   repeat' (first | refine jM ?_ | (refine jo ?_; first | (refine jV (g_ldR rfl rfl aS ?_) ?_; (focus ((omega); done))) | refine jAm rfl ?_ | (refine jV (g_iaddrN rfl rfl oM) ?_) | refine jL fun _ => ?_ | refine jC rfl rfl rfl ?_ | refine jF fun _ => ?_ | (refine c_apX rfl rfl rfl rfl rfl rfl rfl rfl rfl oM fun _ _ => ?_) | (refine c_rt rfl rfl rfl cx_pr rfl ?_)) | (refine k_tt rfl (dTt oM) ?_))
   have e2 : rows strF ((V.outs ks).take i) ++ [S (nth ks i).out] = rows strF ((V.outs ks).take (i + 1)) := by rw [take_nth oM, rows_snoc, outs_get hi]; rfl
   rw [e2]
   exact k_rd (i + 1, _) (by dsimp only; omega) (by dsimp only; omega) tU rfl sB
  ·have hin : i = ks.length := oM
   subst hin
   refine Nx.sealA .here fun G1 hG1 hsP => ?_
   rw [← hol, List.take_length] at hsP
   have cx_join := c_Join (c := 44) hsP oM
   have hd := decI_len6' ht.2
   have hE : ks.isEmpty = decide (ks.length = 0) := by cases ks <;> simp
   repeat' (first | (refine jX ?_) | (refine jo ?_; first | refine jAl rfl ?_ | refine jV (g_lenL rfl) ?_ | (refine c_rt rfl rfl rfl cx_join rfl ?_) | (refine c_rt rfl rfl rfl (c_decimalN oM) rfl ?_)) | (refine k_ff rfl (dFf oM) ?_) | refine k_if rfl (fun _ => ?_) (fun _ => ?_))
   all_goals refine Nx.base hok hB ?_
   all_goals refine jY (vs := [_]) ?_
   all_goals (rw [oneOf_one, V.out, hE]; unfold outW; simp only [decide_eq_true_eq]; repeat (first | rw [if_pos oM] | rw [if_neg oM]))
   all_goals (first | rfl | (simp; done))
theorem deep_fld1 {x : List UInt8} {t : Int} {u : V} : V.deep (.nd 61 x t [u]) = u.deep := by rw [V.deep, if_pos rfl, V.deeps, V.deeps, Nat.max_zero]
theorem deeps_snoc (v : V) : ∀ (ks : List V), V.deeps (ks ++ [v]) = max (V.deeps ks) v.deep
 | [] => by simp [V.deeps]
 | u :: r => by simp only [List.cons_append, V.deeps, deeps_snoc v r]; omega
mutual
theorem deep_tot : ∀ v : V, v.deep ≤ v.tot
 | .nd w x t ks => by
  have := deeps_tot ks
  rw [V.deep, V.tot]; split <;> omega
theorem deeps_tot : ∀ ks : List V, V.deeps ks ≤ V.tots ks
 | [] => by simp [V.deeps]
 | v :: r => by
  have := deep_tot v
  have := deeps_tot r
  rw [V.deeps, V.tots]; omega
end
theorem c_deep : ∀ (n : Nat) {v : V} {c : VC}, v.tot ≤ n → v.tot ≤ 1000000 → V.rep G v c → PuG Tryz.prog 67 [Ag (vcF c)] G (· = I (v.deep : Nat)) := by
 intro n
 induction n with
 | zero => intro v c h1 _ _; have := tot_pos v; omega
 | succ n ih =>
  intro v c h1 h2 h
  obtain ⟨w, x, t, ks⟩ := v
  rw [nd_tot] at h1 h2
  obtain ⟨a, k, cs, rfl, hw, ht, h61, hcl, hsl, hks⟩ := rep_inv h
  have hkl := tots_len ks
  simp only [vcF, VC.sl]
  by_cases hq : w = 61
  ·have hk1 := h61 hq
   have hti := tot_nth (ks := ks) (i := 0) oM
   have cx_dp := ih oM oM (reps_nth hks 0 oM)
   obtain ⟨bf, of, cf, e, hs⟩ := hsl.expl oM
   simp only [Value.slice.injEq] at e
   obtain ⟨rfl, -, rfl⟩ := e
   refine jE [(0, _)] Tryz.func67 Tryz.ntmps67 fun B hB => ?_
   repeat' (first | (refine jR ?_) | (refine jo ?_; first | refine jO fun _ => ?_ | refine jAl rfl ?_ | (refine jV (g_ldR rfl rfl aS ?_) ?_; (focus ((omega); done))) | (refine jV (g_iaddr rfl rfl oM) ?_) | (refine c_rt rfl rfl rfl cx_dp rfl ?_)) | (refine k_tt rfl (dTt oM) ?_))
   refine jY (vs := [_]) ?_
   rw [oneOf_one]
   obtain ⟨u, rfl⟩ := List.length_eq_one_iff.1 hk1
   subst hq
   rw [deep_fld1]; rfl
  ·rw [deep_nd hq]
   refine jE [(0, _)] Tryz.func67 Tryz.ntmps67 fun B hB => ?_
   repeat' (first | (refine jR ?_) | (refine jo ?_; first | refine jO fun _ => ?_ | refine jAl rfl ?_ | refine jV (g_lenL rfl) ?_) | (refine k_ff rfl (dFf oM) ?_))
   rename_i bv
   refine Nx.re (d := 3) (v' := I (V.deeps (ks.take 0) : Nat)) rfl rfl ?_
   refine k_loop (ι := Nat) (fun i => i ≤ ks.length) (fun i => [(3, I (V.deeps (ks.take i) : Nat)), (15, .slice a ks.length k), (16, I ks.length), (17, I i)]) (fun _ => G) (fun i => []) (fun i => ks.length - i) 0 ?_ tU rfl (by repeat (exact List.nil_sublist _)) (fun i Hi => ?_)
   ·exact Nat.zero_le _
   by_cases hi : i < ks.length
   ·have hti := tot_nth hi
    have cx_dp := ih oM oM (reps_nth hks i hi)
    obtain ⟨bf, of, cf, e, hs⟩ := hsl.expl oM
    simp only [Value.slice.injEq] at e
    obtain ⟨rfl, -, rfl⟩ := e
    repeat' (first | refine jM ?_ | (refine jo ?_; first | (refine jV (g_ldR rfl rfl aS ?_) ?_; (focus ((omega); done))) | refine jAm rfl ?_ | (refine jV (g_iaddrN rfl rfl oM) ?_) | refine jL fun _ => ?_ | refine jC rfl rfl rfl ?_ | refine jV (g_max rfl rfl) ?_ | (refine c_rt rfl rfl rfl cx_dp rfl ?_)) | (refine k_tt rfl (dTt oM) ?_))
    refine Nx.re (d := 3) (v' := I (V.deeps (ks.take (i + 1)) : Nat)) rfl (congrArg (Value.int .i64) (by rw [take_nth hi, deeps_snoc]; omega)) ?_
    exact k_rd (i + 1) oM oM tU rfl (by repeat (exact List.nil_sublist _))
   ·have hin : i = ks.length := oM
    subst hin
    rw [List.take_length]
    have hdt := deeps_tot ks
    repeat' (first | refine jM ?_ | (refine k_ff rfl (dFf oM) ?_))
    refine jY (vs := [_]) ?_
    rw [oneOf_one]; congr 1
theorem tots_take : ∀ (ks : List V) (i : Nat), V.tots (ks.take i) ≤ V.tots ks
 | [], i => by simp
 | u :: r, 0 => by simp [V.tots]
 | u :: r, i + 1 => by have := tots_take r i; simp only [List.take_succ_cons, V.tots]; omega
abbrev tScn : TypeId := 138
theorem c_CutPrefixL {s p : List UInt8} (hs : s.length ≤ 1000000 ∧ p.length ≤ 1000000) : PuG Tryz.prog 164 [S s, S p] G (· = Tu [S (if p.isPrefixOf s = true then s.drop p.length else s), Bo (p.isPrefixOf s)]) := by
 have cx_hp : PuG Tryz.prog 135 [S s, S p] G (· = Bo (p.isPrefixOf s)) := c_HasPrefix0
 cases hp : p.isPrefixOf s with
 | false =>
  rw [hp] at cx_hp
  refine jE [(0, _), (1, _)] Tryz.func164 Tryz.ntmps164 fun B hB => ?_
  repeat' (first | (refine jR ?_) | (refine jo ?_; (refine c_rt rfl rfl rfl c_HasPrefix0 rfl ?_)) | (refine k_tt rfl ?_ ?_; (focus ((simp [*]; done); done))))
  refine jY (vs := [_, _]) ?_
  rfl
 | true =>
  rw [hp] at cx_hp
  have hl : p.length ≤ s.length := by
   have := List.isPrefixOf_iff_prefix.1 hp
   exact this.length_le
  refine jE [(0, _), (1, _)] Tryz.func164 Tryz.ntmps164 fun B hB => ?_
  repeat' (first | refine jM ?_ | (refine jo ?_; (refine c_rt rfl rfl rfl c_HasPrefix0 rfl ?_)) | (refine k_ff rfl ?_ ?_; (focus ((simp [*]; done); done))))
  refine jY (vs := [_, _]) ?_
  rfl
theorem c_CutPrefix {s p : List UInt8} (hs : s.length ≤ 1000000 ∧ p.length ≤ 1000000) : PuG Tryz.prog 151 [S s, S p] G (· = Tu [S (if p.isPrefixOf s = true then s.drop p.length else s), Bo (p.isPrefixOf s)]) := by
 have cx_cp := c_CutPrefixL (G := G) hs
 refine jE [(0, _), (1, _)] Tryz.func151 Tryz.ntmps151 fun B hB => ?_
 repeat' (first | (refine jR ?_) | (refine jo ?_; (refine c_rt rfl rfl rfl cx_cp rfl ?_)))
 refine jY (vs := [_, _]) ?_
 rfl
def tkR (l s : List UInt8) (b : Bool) : Bool := !b && l.isPrefixOf s
def tkS (l s : List UInt8) (b : Bool) : List UInt8 := if tkR l s b = true then s.drop l.length else s
abbrev scO (r sc : Nat) (s : List UInt8) (b : Bool) : Own := .blk r (.cells (List.toArray [Pt sc 0, S s, Bo b]) tScn (0, 0))
theorem c_take {r sc : Nat} {s l : List UInt8} {b : Bool} (hs : s.length ≤ 1000000 ∧ l.length ≤ 1000000) : FnG Tryz.prog 116 [Pt r 0, S l] G [scO r sc s b] (fun v L' => v = Bo (tkR l s b) ∧ L' = [scO r sc (tkS l s b) b]) := by
 have cx_cp := c_CutPrefix (G := G) hs
 unfold tkS tkR
 cases hp : l.isPrefixOf s with
 | false =>
  rw [hp] at cx_cp
  refine jH [(0, _), (1, _)] Tryz.func116 Tryz.ntmps116 fun B hB hW => ?_
  repeat' (first | (refine jR ?_) | (refine jo ?_; first | refine jAl rfl ?_ | (refine jAf rfl ?_) | (refine c_rt rfl rfl rfl cx_cp rfl ?_)) | (refine k_gf rfl rfl rfl ?_) | (refine k_ff rfl rfl ?_))
  exact k_rr (vs := [_]) rfl ⟨rfl, trivial⟩ rfl (List.Sublist.refl _) ⟨rfl, by cases b <;> rfl, by cases b <;> rfl⟩
 | true =>
  rw [hp] at cx_cp
  cases b with
  | true =>
   refine jH [(0, _), (1, _)] Tryz.func116 Tryz.ntmps116 fun B hB hW => ?_
   repeat' (first | (refine jR ?_) | (refine jo ?_; first | refine jAl rfl ?_ | (refine jAt rfl ?_) | (refine c_rt rfl rfl rfl cx_cp rfl ?_)) | (refine k_gt rfl rfl rfl ?_) | (refine k_ff rfl rfl ?_))
   exact k_rr (vs := [_]) rfl ⟨rfl, trivial⟩ rfl (List.Sublist.refl _) ⟨rfl, rfl, rfl⟩
  | false =>
   refine jH [(0, _), (1, _)] Tryz.func116 Tryz.ntmps116 fun B hB hW => ?_
   repeat' (first | (refine jR ?_) | (refine jo ?_; first | refine jAl rfl ?_ | (refine jAt rfl ?_) | refine jD rfl rfl rfl ?_ | (refine c_rt rfl rfl rfl cx_cp rfl ?_)) | (refine k_gt rfl rfl rfl ?_) | (refine k_tt rfl rfl ?_))
   exact k_rr (vs := [_]) rfl ⟨rfl, trivial⟩ rfl (List.Sublist.refl _) ⟨rfl, rfl, rfl⟩
theorem c_want {r sc : Nat} {s l : List UInt8} {b : Bool} (hs : s.length ≤ 1000000 ∧ l.length ≤ 1000000) : FnG Tryz.prog 117 [Pt r 0, S l] G [scO r sc s b] (fun v L' => L' = [scO r sc (tkS l s b) (!tkR l s b)]) := by
 have cx_tk := c_take (G := G) (r := r) (sc := sc) (b := b) hs
 cases ht : tkR l s b with
 | false =>
  rw [ht] at cx_tk
  refine jH [(0, _), (1, _)] Tryz.func117 Tryz.ntmps117 fun B hB hW => ?_
  repeat' (first | (refine jR ?_) | (refine jo ?_; first | refine jD rfl rfl rfl ?_ | (refine c_m1g rfl rfl rfl cx_tk rfl ?_; rintro _ _ ⟨rfl, rfl⟩; dsimp only [zA, fA])) | (refine k_tt rfl rfl ?_))
  exact k_re (vs := []) rfl trivial rfl (List.Sublist.refl _) ⟨rfl, rfl⟩
 | true =>
  have hb : b = false := by unfold tkR at ht; cases b <;> simp_all
  subst hb
  rw [ht] at cx_tk
  refine jH [(0, _), (1, _)] Tryz.func117 Tryz.ntmps117 fun B hB hW => ?_
  repeat' (first | (refine jR ?_) | (refine jo ?_; (refine c_m1g rfl rfl rfl cx_tk rfl ?_; rintro _ _ ⟨rfl, rfl⟩; dsimp only [zA, fA])) | (refine k_ff rfl rfl ?_))
  exact k_re (vs := []) rfl trivial rfl (List.Sublist.refl _) ⟨rfl, rfl⟩
end Go.E
namespace Go.E
set_option maxRecDepth 20000
set_option maxHeartbeats 2000000
theorem trimL_drop {p : Nat → Bool} {q : UInt8 → Bool} (h : ∀ c : UInt8, p c.toNat = q c) : ∀ s : List UInt8, trimL p s = s.dropWhile q
 | [] => rfl
 | c :: r => by
  rw [trimL, h c, List.dropWhile_cons]
  cases q c with
  | true => simp only [if_true]; exact trimL_drop h r
  | false => simp
theorem dgb_in : ∀ c : UInt8, inS [48, 49, 50, 51, 52, 53, 54, 55, 56, 57] c.toNat = isDg c := by
 intro c
 have : ∀ n : Nat, n < 256 → inS [48, 49, 50, 51, 52, 53, 54, 55, 56, 57] n = decide (48 ≤ n ∧ n ≤ 57) := by decide +kernel
 exact this _ c.toNat_lt
def txB : List UInt8 := [97, 98, 99, 100, 101, 102, 103, 104, 105, 106, 107, 108, 109, 110, 111, 112, 113, 114, 115, 116, 117, 118, 119, 120, 121, 122, 48, 49, 50, 51, 52, 53, 54, 55, 56, 57, 32]
def isTb (c : UInt8) : Bool := decide (txN c.toNat)
theorem txb_in : ∀ c : UInt8, inS txB c.toNat = isTb c := by
 intro c
 have : ∀ n : Nat, n < 256 → inS txB n = decide (txN n) := by decide +kernel
 exact this _ c.toNat_lt
theorem take_drop_while (q : UInt8 → Bool) (s : List UInt8) : s.take (s.length - (s.dropWhile q).length) = s.takeWhile q := by
 have h := List.takeWhile_append_dropWhile (p := q) (l := s)
 have hl : (s.takeWhile q).length + (s.dropWhile q).length = s.length := by
  have := congrArg List.length h
  rwa [List.length_append] at this
 have e : s.length - (s.dropWhile q).length = (s.takeWhile q).length := oM
 rw [e]
 have h2 : (s.takeWhile q ++ s.dropWhile q).take (s.takeWhile q).length = s.takeWhile q := List.take_left
 rwa [h] at h2
theorem while_len (q : UInt8 → Bool) (s : List UInt8) : (s.takeWhile q).length + (s.dropWhile q).length = s.length := by
 have h := List.takeWhile_append_dropWhile (p := q) (l := s)
 have := congrArg List.length h
 rwa [List.length_append] at this
theorem txP_iff (x : List UInt8) : isTx (39 :: (x ++ [39])) = true ↔ x.length ≤ 12 ∧ ∀ c ∈ x, isTb c = true := by
 unfold isTx
 rw [decide_eq_true_eq]
 unfold TxP
 have e0 : bt (39 :: (x ++ [39])) 0 = 39 := bt_zero _ _
 have e1 : (39 :: (x ++ [39]) : List UInt8).length = x.length + 2 := by simp
 have e2 : bt (39 :: (x ++ [39])) (x.length + 1) = 39 := by
  rw [bt_succ]; simp [bt]
 have e3 : ∀ i, i < x.length → bt (39 :: (x ++ [39])) (i + 1) = bt x i := fun i hi => by
  rw [bt_succ]; simp [bt, List.getD, List.getElem?_append_left hi]
 rw [e1, show x.length + 2 - 1 = x.length + 1 by omega]
 constructor
 ·rintro ⟨⟨_, h1⟩, _, _, h2⟩
  refine ⟨oM, fun c hc => ?_⟩
  obtain ⟨i, hi, rfl⟩ := List.mem_iff_getElem.1 hc
  have := h2 (i + 1) oM
  rw [e3 i hi] at this
  have h3 : bt x i = (x[i]).toNat := by simp [bt, List.getD, List.getElem?_eq_getElem hi]
  rw [h3] at this
  unfold isTb
  rw [decide_eq_true_eq]
  rcases this with h | h
  ·omega
  ·exact h
 ·rintro ⟨h1, h2⟩
  refine ⟨⟨oM, oM⟩, e0, e2, fun i hi => ?_⟩
  cases i with
  | zero => exact .inl rfl
  | succ i =>
   have hi' : i < x.length := oM
   rw [e3 i hi']
   have h3 : bt x i = (x[i]).toNat := by simp [bt, List.getD, List.getElem?_eq_getElem hi']
   rw [h3]
   have := h2 _ (List.getElem_mem hi')
   unfold isTb at this
   rw [decide_eq_true_eq] at this
   exact .inr this
theorem isTb39 {c : UInt8} (h : c.toNat = 39) : isTb c = false := by
 have : c = 39 := UInt8.toNat_inj.1 h
 subst this; decide
theorem quote_law (s : List UInt8) : rdQuote s = match s with
  | [] => none
  | c :: r => if c.toNat = 39 then (match r.dropWhile isTb with
   | [] => none
   | d :: t => if d.toNat = 39 ∧ (r.takeWhile isTb).length ≤ 12 then some (.nd 116 (r.takeWhile isTb) 0 [], t) else none) else none := by
 cases s with
 | nil => rfl
 | cons c r =>
  unfold rdQuote
  dsimp only
  by_cases hc : c.toNat = 39
  ·rw [if_pos hc, if_pos hc]
   have hcut : ∀ r : List UInt8, cut1 39 r = match r.dropWhile isTb with
    | [] => (r, [], false)
    | d :: t => if d.toNat = 39 then (r.takeWhile isTb, t, true) else (r.takeWhile isTb ++ (cut1 39 (d :: t)).1, (cut1 39 (d :: t)).2) := by
    intro r
    induction r with
    | nil => rfl
    | cons x r ih =>
     rw [List.dropWhile_cons, List.takeWhile_cons]
     by_cases hx : isTb x = true
     ·rw [if_pos hx, if_pos hx]
      have h39 : ¬ x.toNat = 39 := fun h => by rw [isTb39 h] at hx; cases hx
      rw [cut1, if_neg h39, ih]
      cases hd : r.dropWhile isTb with
      | nil => rfl
      | cons d t =>
       dsimp only
       split
       ·rfl
       ·rfl
     ·rw [if_neg hx, if_neg hx]
      dsimp only
      split
      ·rename_i h39; rw [cut1, if_pos h39]
      ·simp
   rw [hcut]
   cases hd : r.dropWhile isTb with
   | nil => rfl
   | cons d t =>
    dsimp only
    by_cases h39 : d.toNat = 39
    ·rw [if_pos h39]
     dsimp only
     by_cases h12 : (r.takeWhile isTb).length ≤ 12
     ·rw [if_pos ((txP_iff _).2 ⟨h12, fun c hc => List.all_eq_true.1 (List.all_takeWhile (l := r) (p := isTb)) c hc⟩), if_pos ⟨h39, h12⟩]
     ·rw [if_neg (fun h => h12 ((txP_iff _).1 h).1), if_neg (fun h => h12 h.2)]
    ·rw [if_neg h39, if_neg (fun h => h39 h.1)]
     cases hcc : cut1 39 (d :: t) with
     | mk a b =>
      obtain ⟨b, f⟩ := b
      cases f with
      | false => rfl
      | true =>
       dsimp only
       rw [if_neg]
       intro h
       have hall := ((txP_iff _).1 h).2
       have hdx : isTb d = false := by
        have := List.head_dropWhile_not (p := isTb) (l := r) (by rw [hd]; simp)
        simpa [hd] using this
       have ha : d ∈ a := by
        rw [cut1, if_neg h39] at hcc
        simp only [Prod.mk.injEq] at hcc
        rw [← hcc.1]; simp
       have := hall d (List.mem_append_right _ ha)
       rw [hdx] at this; cases this
  ·rw [if_neg hc, if_neg hc]
end Go.E
namespace Go.E
set_option maxRecDepth 20000
set_option maxHeartbeats 2000000
open Go.Proofs
variable {G : Gh}
theorem c_number {r sc : Nat} {s : List UInt8} {b : Bool} {top : Int} (hs : s.length ≤ 1000000) : FnG Tryz.prog 118 [Pt r 0, I top] G [scO r sc s b]
  (fun v L' => ∃ n, v = I n ∧ (0 ≤ n ∧ n ≤ 999999) ∧ (∀ m, numOf (s.takeWhile isDg) top = some m → n = m) ∧ L' = [scO r sc (s.dropWhile isDg) (b || (numOf (s.takeWhile isDg) top).isNone)]) := by
 have hwl := while_len isDg s
 have cx_tl : PuG Tryz.prog 96 [S s, S [48, 49, 50, 51, 52, 53, 54, 55, 56, 57]] G (· = S (s.dropWhile isDg)) := by
  rw [← trimL_drop dgb_in]
  exact c_TrimLeft rfl kR rfl
 have e1 : s.take (((s.length : Nat) : Int) - (((s.dropWhile isDg).length : Nat) : Int)).toNat = s.takeWhile isDg := by
  rw [← take_drop_while]; congr 1; omega
 have cx_pnB := c_plainNumberB (G := G) (s := s.takeWhile isDg) (top := top) oM
 rw [← e1] at cx_pnB
 cases hnum2 : (numOf (s.takeWhile isDg) top) with
 | none =>
  rw [← e1] at hnum2
  have hno : (!(numOf (s.take (((s.length : Nat) : Int) - (((s.dropWhile isDg).length : Nat) : Int)).toNat) top).isSome) = true := by rw [hnum2]; rfl
  refine jH [(0, _), (1, _)] Tryz.func118 Tryz.ntmps118 fun B hB hW => ?_
  repeat' (first | (refine jR ?_) | (refine jo ?_; first | refine jAl rfl ?_ | refine jD rfl rfl rfl ?_ | (refine c_rt rfl rfl rfl cx_tl rfl ?_)) | (refine k_tt rfl ‹_› ?_) | (refine k_any (s_any (id := 2) _ (fun _ h => h) mixed ?_); refine jT 11 [0, 1, 2, 4, 5, 6, 9, 10, 13] (bts 20 9847) ?_; (refine jG (bts 20 9855) 3 rfl (g_ld rfl rfl rfl) ?_); (refine jG (bts 20 9983) 7 rfl (g_ld rfl rfl rfl) ?_); refine jW 6 [8, 11, 12] (bts 20 16383) ?_; refine jA 14 rfl ?_; (refine c_pu rfl rfl rfl cx_pnB rfl ?_; rintro _ ⟨n, rfl, hnum, hn0, hn1⟩); refine jS (bts 20 32767) ?_; refine jT 0 [15, 16, 17, 18, 19] (bts 20 1048575) ?_; refine jQ ?_))
  exact k_rr (vs := [_]) rfl ⟨rfl, trivial⟩ rfl (List.Sublist.refl _) ⟨rfl, _, rfl, ⟨hn0, hn1⟩, fun m hm => (by cases hm), by simp⟩
 | some m =>
  rw [← e1] at hnum2
  have hno : (!(numOf (s.take (((s.length : Nat) : Int) - (((s.dropWhile isDg).length : Nat) : Int)).toNat) top).isSome) = false := by rw [hnum2]; rfl
  refine jH [(0, _), (1, _)] Tryz.func118 Tryz.ntmps118 fun B hB hW => ?_
  repeat' (first | (refine jR ?_) | (refine jo ?_; first | refine jAl rfl ?_ | refine jD rfl rfl rfl ?_ | (refine c_rt rfl rfl rfl cx_tl rfl ?_)) | (refine k_ff rfl ‹_› ?_) | (refine k_any (s_any (id := 2) _ (fun _ h => h) mixed ?_); refine jT 11 [0, 1, 2, 4, 5, 6, 9, 10, 13] (bts 20 9847) ?_; (refine jG (bts 20 9855) 3 rfl (g_ld rfl rfl rfl) ?_); (refine jG (bts 20 9983) 7 rfl (g_ld rfl rfl rfl) ?_); refine jW 6 [8, 11, 12] (bts 20 16383) ?_; refine jA 14 rfl ?_; (refine c_pu rfl rfl rfl cx_pnB rfl ?_; rintro _ ⟨n, rfl, hnum, hn0, hn1⟩); refine jS (bts 20 32767) ?_; refine jT 0 [15, 16, 17, 18, 19] (bts 20 1048575) ?_; refine jQ ?_))
  exact k_rr (vs := [_]) rfl ⟨rfl, trivial⟩ rfl (List.Sublist.refl _) ⟨rfl, _, rfl, ⟨hn0, hn1⟩, fun m' hm => hnum m' (by rw [hnum2]; exact hm), by simp⟩
theorem tk_len {l s : List UInt8} {b : Bool} : (tkS l s b).length ≤ s.length := by unfold tkS; split <;> simp
theorem tk1 {c : UInt8} {s : List UInt8} : tkR [c] s false = true ↔ ∃ r, s = c :: r := by
 cases s with
 | nil =>
  constructor
  ·intro h; simp [tkR, List.isPrefixOf] at h
  ·rintro ⟨r, h⟩; cases h
 | cons d r =>
  constructor
  ·intro h
   have : c = d := by simpa [tkR, List.isPrefixOf] using h
   exact ⟨r, by rw [this]⟩
  ·rintro ⟨r', h⟩
   simp only [List.cons.injEq] at h
   simp [tkR, List.isPrefixOf, h.1]
theorem tk1S {c : UInt8} {r : List UInt8} : tkS [c] (c :: r) false = r := by unfold tkS; rw [if_pos (tk1.2 ⟨r, rfl⟩)]; rfl
theorem tkT {l s : List UInt8} : tkR l s true = false := by simp [tkR]
theorem tkST {l s : List UInt8} : tkS l s true = s := by simp [tkS, tkT]
theorem tkSF {l s : List UInt8} {b : Bool} (h : tkR l s b = false) : tkS l s b = s := by simp [tkS, h]
def QuP (s : List UInt8) (b : Bool) (x s' : List UInt8) (b' : Bool) : Prop :=
 x.length + s'.length ≤ s.length ∧ (b' = false → b = false ∧ rdQuote s = some (.nd 116 x 0 [], s')) ∧ (b' = true → b = true ∨ rdQuote s = none)
theorem quP_mk (s : List UInt8) (b : Bool) : QuP s b ((tkS [39] s b).takeWhile isTb) (tkS [39] ((tkS [39] s b).dropWhile isTb) (!tkR [39] s b)) (!tkR [39] ((tkS [39] s b).dropWhile isTb) (!tkR [39] s b) || decide (12 < ((tkS [39] s b).takeWhile isTb).length)) := by
 have hl : ((tkS [39] s b).takeWhile isTb).length + (tkS [39] ((tkS [39] s b).dropWhile isTb) (!tkR [39] s b)).length ≤ s.length := by
  have h1 := tk_len (l := [39]) (s := s) (b := b)
  have h2 := while_len isTb (tkS [39] s b)
  have h3 := tk_len (l := [39]) (s := (tkS [39] s b).dropWhile isTb) (b := !tkR [39] s b)
  omega
 refine ⟨hl, ?_⟩
 rw [quote_law]
 cases b with
 | true => rw [tkST, tkT]; simp [tkT]
 | false =>
  cases ht : tkR [39] s false with
  | false =>
   simp only [Bool.not_false, tkT, Bool.true_or]
   refine ⟨fun h => (by cases h), fun _ => .inr ?_⟩
   cases s with
   | nil => rfl
   | cons c r =>
    dsimp only
    rw [if_neg]
    intro hc
    have : tkR [39] (c :: r) false = true := tk1.2 ⟨r, by rw [show c = 39 from UInt8.toNat_inj.1 hc]⟩
    rw [this] at ht; cases ht
  | true =>
   obtain ⟨r, rfl⟩ := tk1.1 ht
   rw [tk1S]
   dsimp only
   rw [if_pos (show (39 : UInt8).toNat = 39 from rfl), Bool.not_true]
   cases ht2 : tkR [39] (r.dropWhile isTb) false with
   | false =>
    simp only [Bool.not_false, Bool.true_or]
    refine ⟨fun h => (by cases h), fun _ => .inr ?_⟩
    cases hd : r.dropWhile isTb with
    | nil => rfl
    | cons d t =>
     dsimp only
     rw [if_neg]
     rintro ⟨hc, _⟩
     have : tkR [39] (r.dropWhile isTb) false = true := tk1.2 ⟨t, by rw [hd, show d = 39 from UInt8.toNat_inj.1 hc]⟩
     rw [this] at ht2; cases ht2
   | true =>
    obtain ⟨t, hd⟩ := tk1.1 ht2
    rw [hd, tk1S]
    dsimp only
    by_cases h12 : 12 < (r.takeWhile isTb).length
    ·rw [decide_eq_true h12, if_neg (fun h => by omega)]
     exact ⟨fun h => (by cases h), fun _ => .inr rfl⟩
    ·rw [decide_eq_false h12, if_pos ⟨rfl, oM⟩]
     exact ⟨fun _ => ⟨rfl, rfl⟩, fun h => (by cases h)⟩
theorem c_quote {r sc : Nat} {s : List UInt8} {b : Bool} (hs : s.length ≤ 1000000) : FnG Tryz.prog 119 [Pt r 0] G [scO r sc s b]
  (fun v L' => ∃ x s' b', v = S x ∧ QuP s b x s' b' ∧ L' = [scO r sc s' b']) := by
 have hq := quP_mk s b
 have h1 := tk_len (l := [39]) (s := s) (b := b)
 have h2 := while_len isTb (tkS [39] s b)
 have h3 := tk_len (l := [39]) (s := (tkS [39] s b).dropWhile isTb) (b := !tkR [39] s b)
 have cx_wa := c_want (G := G) (r := r) (sc := sc) (s := s) (l := [39]) (b := b) ⟨hs, by simp⟩
 have cx_wb := c_want (G := G) (r := r) (sc := sc) (s := (tkS [39] s b).dropWhile isTb) (l := [39]) (b := !tkR [39] s b) ⟨oM, by simp⟩
 have cx_tl : PuG Tryz.prog 96 [S (tkS [39] s b), S [97, 98, 99, 100, 101, 102, 103, 104, 105, 106, 107, 108, 109, 110, 111, 112, 113, 114, 115, 116, 117, 118, 119, 120, 121, 122, 48, 49, 50, 51, 52, 53, 54, 55, 56, 57, 32]] G (· = S ((tkS [39] s b).dropWhile isTb)) := by
  rw [← trimL_drop txb_in]
  exact c_TrimLeft rfl kR rfl
 have e1 : (tkS [39] s b).take ((((tkS [39] s b).length : Nat) : Int) - ((((tkS [39] s b).dropWhile isTb).length : Nat) : Int)).toNat = (tkS [39] s b).takeWhile isTb := by
  rw [← take_drop_while]; congr 1; omega
 by_cases h12 : 12 < ((tkS [39] s b).takeWhile isTb).length
 ·rw [decide_eq_true h12, Bool.or_true] at hq
  rw [← e1] at h12
  refine jH [(0, _)] Tryz.func119 Tryz.ntmps119 fun B hB hW => ?_
  repeat' (first | (refine jR ?_) | (refine jo ?_; first | refine jAl rfl ?_ | refine jD rfl rfl rfl ?_ | (refine c_m1g rfl rfl rfl cx_wa rfl ?_; rintro _ _ rfl; dsimp only [zA, fA]) | (refine c_m1g rfl rfl rfl cx_wb rfl ?_; rintro _ _ rfl; dsimp only [zA, fA]) | (refine c_rt rfl rfl rfl cx_tl rfl ?_)) | (refine k_tt rfl (dTt oM) ?_) | (refine k_any (s_any (id := 3) _ (fun _ h => h) mixed ?_); refine jT 6 [0, 1, 2, 4, 5, 6, 9, 10] (bts 14 1655) ?_; (refine jG (bts 14 1663) 3 rfl (g_ld rfl rfl rfl) ?_); (refine jG (bts 14 1791) 7 rfl (g_ld rfl rfl rfl) ?_); refine jW 0 [8, 11, 12, 13] (bts 14 16383) ?_; refine jQ ?_))
  all_goals exact k_rr (vs := [_]) rfl ⟨rfl, trivial⟩ rfl (List.Sublist.refl _) ⟨rfl, _, _, _, rfl, by rw [e1]; exact hq, rfl⟩
 ·rw [decide_eq_false h12, Bool.or_false] at hq
  rw [← e1] at h12
  refine jH [(0, _)] Tryz.func119 Tryz.ntmps119 fun B hB hW => ?_
  repeat' (first | (refine jR ?_) | (refine jo ?_; first | refine jAl rfl ?_ | refine jD rfl rfl rfl ?_ | (refine c_m1g rfl rfl rfl cx_wa rfl ?_; rintro _ _ rfl; dsimp only [zA, fA]) | (refine c_m1g rfl rfl rfl cx_wb rfl ?_; rintro _ _ rfl; dsimp only [zA, fA]) | (refine c_rt rfl rfl rfl cx_tl rfl ?_)) | (refine k_ff rfl (dFf oM) ?_) | (refine k_any (s_any (id := 3) _ (fun _ h => h) mixed ?_); refine jT 6 [0, 1, 2, 4, 5, 6, 9, 10] (bts 14 1655) ?_; (refine jG (bts 14 1663) 3 rfl (g_ld rfl rfl rfl) ?_); (refine jG (bts 14 1791) 7 rfl (g_ld rfl rfl rfl) ?_); refine jW 0 [8, 11, 12, 13] (bts 14 16383) ?_; refine jQ ?_))
  all_goals exact k_rr (vs := [_]) rfl ⟨rfl, trivial⟩ rfl (List.Sublist.refl _) ⟨rfl, _, _, _, rfl, by rw [e1]; exact hq, rfl⟩
def RdP (f : List UInt8 → Option (V × List UInt8)) (s : List UInt8) (b : Bool) (u : V) (s' : List UInt8) (b' : Bool) : Prop :=
 s'.length ≤ s.length ∧ (b' = false → b = false ∧ f s = some (u, s')) ∧ (b' = true → (b = true ∨ f s = none) ∧ u.tot + 100 * s'.length ≤ 100 * s.length + 100)
def ValP (f : List UInt8 → Option (V × List UInt8)) (r sc : Nat) (s : List UInt8) (b : Bool) (v : Value) (G' : Gh) (L' : List Own) : Prop :=
 ∃ u c s' b', v = Ag (vcF c) ∧ V.rep G' u c ∧ L' = [scO r sc s' b'] ∧ RdP f s b u s' b'
def ValC (n sc : Nat) (qs : List TyP) : Prop := ∀ (G : Gh) (r : Nat) (k s : List UInt8) (b : Bool), ScI G sc qs → kindIn (tyq qs) k = true → s.length < n → s.length ≤ 1000 →
 FnM Tryz.prog 83 [Pt r 0, Ag (kdF k)] G [scO r sc s b] (ValP (rd (tyq qs) n k) r sc s b)
def rdList (f : List UInt8 → Option (V × List UInt8)) : List UInt8 → Option (V × List UInt8)
 | [] => none
 | d :: s' => if d.toNat = 91 then (match s' with
   | [] => none
   | e :: r => if e.toNat = 93 then some (.nd 91 [] 0 [], r) else (rdItems f 20 s' []).map fun x => (.nd 91 [] 0 x.1, x.2)) else none
theorem rdItems_more {f : List UInt8 → Option (V × List UInt8)} (hf : ∀ s x, f s = some x → x.2.length < s.length) : ∀ (m M : Nat) (s : List UInt8) (acc : List V), s.length < M →
  rdItems f m s acc = match rdItems f M s acc with
   | none => none
   | some x => if x.1.length ≤ acc.length + m then some x else none
 | 0, M, s, acc, hM => by
  cases hr : rdItems f M s acc with
  | none => rfl
  | some x =>
   have : acc.length + 1 ≤ x.1.length := by
    clear hM
    induction M generalizing s acc with
    | zero => cases hr
    | succ M ih =>
     unfold rdItems at hr
     cases hfs : f s with
     | none => rw [hfs] at hr; cases hr
     | some y =>
      rw [hfs] at hr
      obtain ⟨v, r⟩ := y
      cases r with
      | nil => cases hr
      | cons c r =>
       dsimp only at hr
       split at hr
       ·have := ih _ _ hr; simp at this; omega
       ·split at hr
        ·simp only [Option.some.injEq] at hr; subst hr; simp
        ·cases hr
   dsimp only
   rw [if_neg oM]; rfl
 | m + 1, 0, s, acc, hM => by omega
 | m + 1, M + 1, s, acc, hM => by
  rw [rdItems, rdItems]
  cases hfs : f s with
  | none => rfl
  | some y =>
   have hlt := hf _ _ hfs
   obtain ⟨v, r⟩ := y
   cases r with
   | nil => rfl
   | cons c r =>
    simp only [List.length_cons] at hlt
    dsimp only
    split
    ·rw [rdItems_more hf m M r (acc ++ [v]) oM]
     cases rdItems f M r (acc ++ [v]) with
     | none => rfl
     | some x => dsimp only; simp only [List.length_append, List.length_singleton]; congr 1; simp; omega
    ·split
     ·dsimp only; rw [if_pos (by simp)]
     ·rfl
theorem items_none {f : List UInt8 → Option (V × List UInt8)} {t : List UInt8} {vs : List V} : ∀ {m : Nat}, (f t = none ∨ ∃ u, f t = some (u, [])) → rdItems f m t vs = none
 | 0, _ => rfl
 | m + 1, h => by
  rw [rdItems]
  rcases h with h | ⟨u, h⟩ <;> rw [h]
theorem items_step {f : List UInt8 → Option (V × List UInt8)} {t t2 : List UInt8} {c : UInt8} {u : V} {vs : List V} {m : Nat} (h : f t = some (u, c :: t2)) (hm : 0 < m) :
  rdItems f m t vs = if c.toNat = 44 then rdItems f (m - 1) t2 (vs ++ [u]) else if c.toNat = 93 then some (vs ++ [u], t2) else none := by
 obtain ⟨m, rfl⟩ : ∃ k, m = k + 1 := ⟨m - 1, oM⟩
 rw [rdItems, h]; rfl
theorem rd_short {ts : List Ty} {n : Nat} {k s : List UInt8} {x : V × List UInt8} (h : rd ts n k s = some x) : x.2.length < s.length := by
 have := rd_tot n k s x h
 have := tot_pos x.1
 omega
abbrev tKnd : TypeId := 47
abbrev lo4 (b : Nat) (cs : List Value) : Own := .blk b (.cells cs.toArray tVal (0, 0))
theorem c_list {n r sc : Nat} {qs : List TyP} {k s : List UInt8} {b : Bool} (hV : ValC n sc qs) (hS : ScI G sc qs) (hk : kindIn (tyq qs) k = true) (hs : s.length ≤ n ∧ s.length ≤ 1000) :
  FnM Tryz.prog 115 [Pt r 0, Ag (kdF k)] G [scO r sc s b] (ValP (rdList (rd (tyq qs) n k)) r sc s b) := by
 have cx_wa := c_want (G := G) (r := r) (sc := sc) (s := s) (l := [91]) (b := b) ⟨oM, by simp⟩
 have cx_tk := c_take (G := G) (r := r) (sc := sc) (s := tkS [91] s b) (l := [93]) (b := !tkR [91] s b) ⟨by have := tk_len (l := [91]) (s := s) (b := b); omega, by simp⟩
 simp only [kdF]
 cases ht : tkR [91] s b with
 | false =>
  rw [ht, tkSF ht] at cx_wa cx_tk
  rw [Bool.not_false, tkT, tkST] at cx_tk
  have cx_wb := c_want (G := G) (r := r) (sc := sc) (s := s) (l := [93]) (b := true) ⟨oM, by simp⟩
  rw [tkT, tkST] at cx_wb
  refine m_enter [(0, _), (1, _)] Tryz.func115 kR Tryz.ntmps115 rfl rfl tU fun B hB hW => ?_
  repeat' (first | (refine jR ?_) | (refine jo ?_; first | refine jO fun _ => ?_ | refine jL fun _ => ?_ | refine jV (g_bld rfl rfl) ?_ | refine jC rfl rfl rfl ?_ | (refine c_m1g rfl rfl rfl cx_wa rfl ?_; rintro _ _ rfl; dsimp only [zA, fA]) | (refine c_m1g rfl rfl rfl cx_tk rfl ?_; rintro _ _ ⟨rfl, rfl⟩; dsimp only [zA, fA])) | (refine k_ff rfl rfl ?_))
  rename_i x3 x4 x5 _
  refine k_loop (ι := Unit) (fun i => True) (fun i => [(0, Pt r 0), (4, Pt x4 0), (5, Pt x5 0)]) (fun _ => G) (fun i => [scO r sc s true, lo4 x5 [U8 91, S [], I 0, nilS], lo4 x4 [U8 0, S [], I 0, nilS]]) (fun i => 0) () ?_ tU rfl sB (fun i Hi => ?_)
  ·trivial
  repeat' (first | (refine jR ?_) | (refine jo ?_; first | refine jC rfl rfl rfl ?_ | refine jAl rfl ?_ | refine jAm rfl ?_ | refine jV (g_lenL rfl) ?_ | (refine c_m1g rfl rfl rfl cx_wb rfl ?_; rintro _ _ rfl; dsimp only [zA, fA])) | (refine k_ff rfl rfl ?_))
  refine k_rr (vs := [_]) rfl ⟨rc_A rfl rfl rfl rfl, trivial⟩ rfl sB ⟨Gh.le.refl _, .nd 91 [] 0 [], ⟨91, [], 0, none, 0, 0⟩, s, true, rfl, rep_leaf dC dC, rfl, Nat.le_refl _, fun h => (by cases h), fun _ => ⟨?_, by simp only [V.tot, V.tots, List.length_nil]; omega⟩⟩
  cases b with
  | true => exact .inl rfl
  | false =>
   right
   cases s with
   | nil => rfl
   | cons d r' =>
    unfold rdList
    dsimp only
    rw [if_neg]
    intro h91
    have : tkR [91] (d :: r') false = true := tk1.2 ⟨r', by rw [show d = 91 from UInt8.toNat_inj.1 h91]⟩
    rw [this] at ht; cases ht
 | true =>
  have hb : b = false := by cases b with | true => rw [tkT] at ht; cases ht | false => rfl
  subst hb
  obtain ⟨s1, rfl⟩ := tk1.1 ht
  rw [ht, tk1S] at cx_wa cx_tk
  rw [Bool.not_true] at cx_wa cx_tk
  simp only [List.length_cons] at hs
  cases ht2 : tkR [93] s1 false with
  | true =>
   obtain ⟨s2, rfl⟩ := tk1.1 ht2
   rw [ht2, tk1S] at cx_tk
   refine m_enter [(0, _), (1, _)] Tryz.func115 kR Tryz.ntmps115 rfl rfl tU fun B hB hW => ?_
   repeat' (first | (refine jR ?_) | (refine jo ?_; first | refine jO fun _ => ?_ | refine jL fun _ => ?_ | refine jV (g_bld rfl rfl) ?_ | refine jC rfl rfl rfl ?_ | refine jAm rfl ?_ | (refine c_m1g rfl rfl rfl cx_wa rfl ?_; rintro _ _ rfl; dsimp only [zA, fA]) | (refine c_m1g rfl rfl rfl cx_tk rfl ?_; rintro _ _ ⟨rfl, rfl⟩; dsimp only [zA, fA])) | (refine k_tt rfl rfl ?_))
   refine k_rr (vs := [_]) rfl ⟨rc_A rfl rfl rfl rfl, trivial⟩ rfl sB ⟨Gh.le.refl _, .nd 91 [] 0 [], ⟨91, [], 0, none, 0, 0⟩, s2, false, rfl, rep_leaf dC dC, rfl, by simp only [List.length_cons]; omega, fun _ => ⟨rfl, rfl⟩, fun h => (by cases h)⟩
  | false =>
   rw [ht2, tkSF ht2] at cx_tk
   have hR : rdList (rd (tyq qs) n k) (91 :: s1) = (rdItems (rd (tyq qs) n k) 20 s1 []).map fun x => (.nd 91 [] 0 x.1, x.2) := by
    unfold rdList
    dsimp only
    rw [if_pos (show (91 : UInt8).toNat = 91 from rfl)]
    cases s1 with
    | nil =>
     have : rd (tyq qs) n k [] = none := by
      cases h : rd (tyq qs) n k [] with
      | none => rfl
      | some x => have := rd_short h; simp at this
     simp [rdItems, this]
    | cons e r' =>
     dsimp only
     rw [if_neg]
     intro h93
     have : tkR [93] (e :: r') false = true := tk1.2 ⟨r', by rw [show e = 93 from UInt8.toNat_inj.1 h93]⟩
     rw [this] at ht2; cases ht2
   have hmore := rdItems_more (f := rd (tyq qs) n k) (fun s x h => rd_short h) 20 (s1.length + 1) s1 [] oM
   refine m_enter [(0, _), (1, _)] Tryz.func115 kR Tryz.ntmps115 rfl rfl tU fun B hB hW => ?_
   repeat' (first | (refine jR ?_) | (refine jo ?_; first | refine jO fun _ => ?_ | refine jL fun _ => ?_ | refine jV (g_bld rfl rfl) ?_ | refine jC rfl rfl rfl ?_ | (refine c_m1g rfl rfl rfl cx_wa rfl ?_; rintro _ _ rfl; dsimp only [zA, fA]) | (refine c_m1g rfl rfl rfl cx_tk rfl ?_; rintro _ _ ⟨rfl, rfl⟩; dsimp only [zA, fA])) | (refine k_ff rfl rfl ?_))
   rename_i x3 x4 x5 _
   refine Nx.addNil tVal 4 (Nx.perm (List.Perm.swap _ _ _) ?_)
   refine k_loop (ι := List V × List VC × Option Addr × Nat × List UInt8 × Nat × Gh) (fun q => (V.reps q.2.2.2.2.2.2 q.1 q.2.1 ∧ Gh.le G q.2.2.2.2.2.2) ∧ (rdItems (rd (tyq qs) n k) (s1.length + 1) s1 [] = rdItems (rd (tyq qs) n k) q.2.2.2.2.2.1 q.2.2.2.2.1 q.1 ∧ q.2.2.2.2.1.length < q.2.2.2.2.2.1) ∧ (V.tots q.1 + 100 * q.2.2.2.2.1.length + 100 ≤ 100 * (s1.length + 1) ∧ q.2.2.2.2.1.length ≤ s1.length)) (fun q => [(0, Pt r 0), (3, Pt x3 0), (4, Pt x4 0), (5, Pt x5 0)]) (fun q => q.2.2.2.2.2.2) (fun q => [scO r sc q.2.2.2.2.1 false, .acc (.slice q.2.2.1 q.1.length q.2.2.2.1) tVal 4 q.1.length (rows vcF q.2.1), lo4 x5 [U8 91, S [], I 0, .slice q.2.2.1 q.1.length q.2.2.2.1], lo4 x4 [U8 0, S [], I 0, nilS], .blk x3 (.cells (List.toArray [S (sg k), S (bs k), S (nm k)]) tKnd (0, 0))]) (fun q => q.2.2.2.2.1.length) ([], [], none, 0, s1, s1.length + 1, G) ?_ tU rfl sRr (fun q Hq => ?_)
   ·exact ⟨⟨rfl, Gh.le.refl _⟩, ⟨rfl, by dsimp only; omega⟩, by dsimp only; simp only [V.tots]; omega, Nat.le_refl _⟩
   obtain ⟨vs, cs, a, cap, t, m, Gq⟩ := q
   dsimp only at Hq ⊢
   obtain ⟨⟨hreps, hgq⟩, ⟨hit, htm⟩, hT, htl⟩ := Hq
   have hcl := reps_len hreps
   have hkl := tots_len vs
   have cx_vl := hV Gq r k t false (hS.mono hgq) hk oM oM
   repeat' (first | (refine jR ?_) | (refine jo ?_; (refine jAl rfl ?_)) | (refine k_tt rfl rfl ?_))
   (refine k_any (s_any (id := 6) [.blk x3 (.cells (List.toArray [S (sg k), S (bs k), S (nm k)]) tKnd (0, 0))] (by intro y hy; simp only [List.mem_cons, List.not_mem_nil, or_false] at hy ⊢; simp [hy]) mixed ?_); refine jW 7 [0, 2] (bts 9 5) ?_; (refine jG (bts 9 13) 3 rfl (g_ldA rfl rfl rfl rfl) ?_); refine x_all [1, 4] kR dC ⟨?_, ?_, trivial⟩; (focus (refine x_opg rfl rfl ?_; (refine jAl rfl ?_); refine jK (bts 9 15) ?_; refine jA 4 rfl ?_; (refine c_m1s rfl rfl rfl cx_vl rfl ?_; rintro _ G1 _ hle ⟨u1, c1, t1, b1, rfl, hrep, rfl, hP⟩; dsimp only [zA, fA]; skip); refine jK (bts 9 31) ?_; refine jA 5 rfl ?_; (refine jF fun _ => ?_); refine jK (bts 9 63) ?_; refine jA 6 rfl ?_; ((refine c_apX rfl rfl rfl rfl rfl rfl rfl rfl rfl ?_ fun _ _ => ?_; (focus ((omega); done)))); refine jK (bts 9 127) ?_; refine jW 1 [7] (bts 9 255) ?_; refine jA 8 rfl ?_; (refine jD rfl rfl rfl ?_); refine jK (bts 9 511) ?_; refine jQ ?_)); rotate_left 1; (focus (refine x_opg rfl rfl ?_; (refine c_m1s rfl rfl rfl cx_vl rfl ?_; rintro _ G1 _ hle ⟨u1, c1, t1, b1, rfl, hrep, rfl, hP⟩; dsimp only [zA, fA]; skip); refine jK (bts 9 29) ?_; refine x_all [1, 5] kR dC ⟨?_, ?_, trivial⟩; (focus (refine x_opg rfl rfl ?_; (refine jAl rfl ?_); refine jK (bts 9 31) ?_; refine jA 5 rfl ?_; (refine jF fun _ => ?_); refine jK (bts 9 63) ?_; refine jA 6 rfl ?_; ((refine c_apX rfl rfl rfl rfl rfl rfl rfl rfl rfl ?_ fun _ _ => ?_; (focus ((omega); done)))); refine jK (bts 9 127) ?_; refine jW 1 [7] (bts 9 255) ?_; refine jA 8 rfl ?_; (refine jD rfl rfl rfl ?_); refine jK (bts 9 511) ?_; refine jQ ?_)); rotate_left 1; (focus (refine x_opg rfl rfl ?_; (refine jF fun _ => ?_); refine jK (bts 9 61) ?_; refine jA 1 rfl ?_; (refine jAl rfl ?_); refine jK (bts 9 63) ?_; refine jA 6 rfl ?_; ((refine c_apX rfl rfl rfl rfl rfl rfl rfl rfl rfl ?_ fun _ _ => ?_; (focus ((omega); done)))); refine jK (bts 9 127) ?_; refine jW 1 [7] (bts 9 255) ?_; refine jA 8 rfl ?_; (refine jD rfl rfl rfl ?_); refine jK (bts 9 511) ?_; refine jQ ?_)); rotate_left 1)); rotate_left 2)
   all_goals
    rename_i y1 yc
    have hrow : rows vcF cs ++ [U8 (c1.what : Nat), S c1.text, I c1.tag, c1.sl] = rows vcF (cs ++ [c1]) := (rows_snoc vcF cs c1).symm
    have hr2 : V.reps G1 (vs ++ [u1]) (cs ++ [c1]) := reps_snoc hrep (reps_mono hle hreps)
    have hvl : (vs ++ [u1]).length = vs.length + 1 := by simp
    have htu : V.tots (vs ++ [u1]) = V.tots vs + u1.tot := by simp [tots_app, V.tots]
    have hgl := hgq.trans hle
    obtain ⟨hPl, hP0, hP1⟩ := hP
    rw [hrow]
    cases b1 with
    | true =>
     obtain ⟨hno, hto⟩ := hP1 rfl
     have hno : rd (tyq qs) n k t = none := by
      rcases hno with h | h
      ·cases h
      ·exact h
     have hit2 : rdItems (rd (tyq qs) n k) m t vs = none := items_none (.inl hno)
     have cx_tm := c_take (G := G1) (r := r) (sc := sc) (s := t1) (l := [44]) (b := true) ⟨oM, by simp⟩
     have cx_wb := c_want (G := G1) (r := r) (sc := sc) (s := t1) (l := [93]) (b := true) ⟨oM, by simp⟩
     rw [tkT, tkST] at cx_tm cx_wb
     repeat' (first | (refine jR ?_) | (refine jo ?_; first | refine jD rfl rfl rfl ?_ | refine jC rfl rfl rfl ?_ | refine jAl rfl ?_ | refine jAm rfl ?_ | refine jV (g_lenL rfl) ?_ | (refine c_m1g rfl rfl rfl cx_wb rfl ?_; rintro _ _ rfl; dsimp only [zA, fA]) | (refine c_m1g rfl rfl rfl cx_tm rfl ?_; rintro _ _ ⟨rfl, rfl⟩; dsimp only [zA, fA])) | (refine k_tt rfl rfl ?_) | refine k_if rfl (fun _ => ?_) (fun _ => ?_))
     all_goals (refine Nx.sealS (v := .slice (some ⟨y1, 0, none⟩) (vs.length + 1) yc) fun G2 hG2 hsl => ?_)
     all_goals refine k_rr (vs := [_]) rfl ⟨rc_A rfl rfl rfl rfl, trivial⟩ rfl sB ⟨hgl.trans hG2, .nd 91 [] 0 (vs ++ [u1]), ⟨91, [], 0, some ⟨y1, 0, none⟩, vs.length + 1, yc⟩, t1, true, rfl, rep_mk dC dC (fun h => absurd h dC) hvl.symm (by rw [List.length_append, List.length_singleton, hcl]; exact hsl) (reps_mono hG2 hr2), rfl, by simp only [List.length_cons]; omega, fun h => (by cases h), fun _ => ⟨.inr (by rw [hR, hmore, hit, hit2]; rfl), by rw [nd_tot, htu]; simp only [List.length_cons, List.length_nil]; omega⟩⟩
    | false =>
     obtain ⟨_, hfs⟩ := hP0 rfl
     have htot := rd_tot n k t _ hfs
     dsimp only at htot
     have hup := tot_pos u1
     have cx_tm := c_take (G := G1) (r := r) (sc := sc) (s := t1) (l := [44]) (b := false) ⟨oM, by simp⟩
     cases ht3 : tkR [44] t1 false with
     | true =>
      obtain ⟨t2, rfl⟩ := tk1.1 ht3
      rw [ht3, tk1S] at cx_tm
      have hit2 := items_step (m := m) (vs := vs) hfs oM
      rw [if_pos (show (44 : UInt8).toNat = 44 from rfl)] at hit2
      simp only [List.length_cons] at htot hPl
      have hlt : t2.length < m - 1 := oM
      repeat' (first | (refine jR ?_) | (refine jo ?_; (refine c_m1g rfl rfl rfl cx_tm rfl ?_; rintro _ _ ⟨rfl, rfl⟩; dsimp only [zA, fA])) | (refine k_ff rfl rfl ?_))
      exact k_rd (vs ++ [u1], cs ++ [c1], some ⟨y1, 0, none⟩, yc, t2, m - 1, G1) ⟨⟨hr2, hgl⟩, ⟨by rw [hit, hit2], hlt⟩, by dsimp only; omega, by dsimp only; omega⟩ (by dsimp only; omega) tU rfl (by rw [hvl]; repeat (first | exact List.Sublist.refl _ | apply List.Sublist.cons_cons | apply List.Sublist.cons))
     | false =>
      rw [ht3, tkSF ht3] at cx_tm
      have cx_wb := c_want (G := G1) (r := r) (sc := sc) (s := t1) (l := [93]) (b := false) ⟨oM, by simp⟩
      cases ht4 : tkR [93] t1 false with
      | true =>
       obtain ⟨t2, rfl⟩ := tk1.1 ht4
       rw [ht4, tk1S, Bool.not_true] at cx_wb
       have hit2 := items_step (m := m) (vs := vs) hfs oM
       rw [if_neg (show ¬ (93 : UInt8).toNat = 44 by decide), if_pos (show (93 : UInt8).toNat = 93 from rfl)] at hit2
       simp only [List.length_cons] at htot hPl
       by_cases h20 : vs.length + 1 ≤ 20
       ·repeat' (first | (refine jR ?_) | (refine jo ?_; first | refine jC rfl rfl rfl ?_ | refine jAl rfl ?_ | refine jAm rfl ?_ | refine jV (g_lenL rfl) ?_ | (refine c_m1g rfl rfl rfl cx_wb rfl ?_; rintro _ _ rfl; dsimp only [zA, fA]) | (refine c_m1g rfl rfl rfl cx_tm rfl ?_; rintro _ _ ⟨rfl, rfl⟩; dsimp only [zA, fA])) | (refine k_tt rfl rfl ?_) | (refine k_ff rfl (dFf oM) ?_))
        refine Nx.sealS (v := .slice (some ⟨y1, 0, none⟩) (vs.length + 1) yc) fun G2 hG2 hsl => ?_
        refine k_rr (vs := [_]) rfl ⟨rc_A rfl rfl rfl rfl, trivial⟩ rfl sB ⟨hgl.trans hG2, .nd 91 [] 0 (vs ++ [u1]), ⟨91, [], 0, some ⟨y1, 0, none⟩, vs.length + 1, yc⟩, t2, false, rfl, rep_mk dC dC (fun h => absurd h dC) hvl.symm (by rw [List.length_append, List.length_singleton, hcl]; exact hsl) (reps_mono hG2 hr2), rfl, by simp only [List.length_cons]; omega, fun _ => ⟨rfl, by rw [hR, hmore, hit, hit2]; dsimp only; rw [if_pos (by simp; omega)]; rfl⟩, fun h => (by cases h)⟩
       ·repeat' (first | (refine jR ?_) | (refine jo ?_; first | refine jD rfl rfl rfl ?_ | refine jC rfl rfl rfl ?_ | refine jAl rfl ?_ | refine jAm rfl ?_ | refine jV (g_lenL rfl) ?_ | (refine c_m1g rfl rfl rfl cx_wb rfl ?_; rintro _ _ rfl; dsimp only [zA, fA]) | (refine c_m1g rfl rfl rfl cx_tm rfl ?_; rintro _ _ ⟨rfl, rfl⟩; dsimp only [zA, fA])) | (refine k_tt rfl (by first | rfl | (refine decide_eq_true ?_; (omega))) ?_))
        refine Nx.sealS (v := .slice (some ⟨y1, 0, none⟩) (vs.length + 1) yc) fun G2 hG2 hsl => ?_
        refine k_rr (vs := [_]) rfl ⟨rc_A rfl rfl rfl rfl, trivial⟩ rfl sB ⟨hgl.trans hG2, .nd 91 [] 0 (vs ++ [u1]), ⟨91, [], 0, some ⟨y1, 0, none⟩, vs.length + 1, yc⟩, t2, true, rfl, rep_mk dC dC (fun h => absurd h dC) hvl.symm (by rw [List.length_append, List.length_singleton, hcl]; exact hsl) (reps_mono hG2 hr2), rfl, by simp only [List.length_cons]; omega, fun h => (by cases h), fun _ => ⟨.inr (by rw [hR, hmore, hit, hit2]; dsimp only; rw [if_neg (by simp; omega)]; rfl), by rw [nd_tot, htu]; simp only [List.length_cons, List.length_nil]; omega⟩⟩
      | false =>
       rw [ht4, tkSF ht4, Bool.not_false] at cx_wb
       have hit2 : rdItems (rd (tyq qs) n k) m t vs = none := by
        cases t1 with
        | nil => exact items_none (.inr ⟨u1, hfs⟩)
        | cons d t2 =>
         rw [items_step hfs oM, if_neg, if_neg]
         ·intro h93
          have : tkR [93] (d :: t2) false = true := tk1.2 ⟨t2, by rw [show d = 93 from UInt8.toNat_inj.1 h93]⟩
          rw [this] at ht4; cases ht4
         ·intro h44
          have : tkR [44] (d :: t2) false = true := tk1.2 ⟨t2, by rw [show d = 44 from UInt8.toNat_inj.1 h44]⟩
          rw [this] at ht3; cases ht3
       repeat' (first | (refine jR ?_) | (refine jo ?_; first | refine jD rfl rfl rfl ?_ | refine jC rfl rfl rfl ?_ | refine jAl rfl ?_ | refine jAm rfl ?_ | refine jV (g_lenL rfl) ?_ | (refine c_m1g rfl rfl rfl cx_wb rfl ?_; rintro _ _ rfl; dsimp only [zA, fA]) | (refine c_m1g rfl rfl rfl cx_tm rfl ?_; rintro _ _ ⟨rfl, rfl⟩; dsimp only [zA, fA])) | (refine k_tt rfl rfl ?_) | refine k_if rfl (fun _ => ?_) (fun _ => ?_))
       all_goals (refine Nx.sealS (v := .slice (some ⟨y1, 0, none⟩) (vs.length + 1) yc) fun G2 hG2 hsl => ?_)
       all_goals refine k_rr (vs := [_]) rfl ⟨rc_A rfl rfl rfl rfl, trivial⟩ rfl sB ⟨hgl.trans hG2, .nd 91 [] 0 (vs ++ [u1]), ⟨91, [], 0, some ⟨y1, 0, none⟩, vs.length + 1, yc⟩, t1, true, rfl, rep_mk dC dC (fun h => absurd h dC) hvl.symm (by rw [List.length_append, List.length_singleton, hcl]; exact hsl) (reps_mono hG2 hr2), rfl, by simp only [List.length_cons]; omega, fun h => (by cases h), fun _ => ⟨.inr (by rw [hR, hmore, hit, hit2]; rfl), by rw [nd_tot, htu]; simp only [List.length_cons, List.length_nil]; omega⟩⟩
def zVC : VC := ⟨0, [], 0, none, 0, 0⟩
def FldP (t : Ty) (bf of : Nat) (f : List UInt8 → List UInt8 → Option (V × List UInt8)) (r sc : Nat) (s : List UInt8) (b : Bool) (v : Value) (G' : Gh) (L' : List Own) : Prop :=
  ∃ s' b', L' = [scO r sc s' b'] ∧ s'.length ≤ s.length ∧
    ((v = Tu [Ag (vcF zVC), .pointer none] ∧ b' = true ∧ (b = true ∨ rdField f t s = none)) ∨
     (∃ j u c, j < t.fields.length ∧ v = Tu [Ag (vcF c), Pt bf (of + j * 6)] ∧ V.rep G' (.nd 61 [] (nth t.fields j).tag [u]) c ∧ b = false ∧ u.tot + 100 * s'.length + 100 ≤ 100 * s.length ∧
       (b' = false → rdField f t s = some ((nth t.fields j, u), s')) ∧ (b' = true → rdField f t s = none)))
abbrev zP : Value := Ag [U8 0, S [], I 0, nilS]
theorem field_none {f : List UInt8 → List UInt8 → Option (V × List UInt8)} {t : Ty} {s : List UInt8} (h : numOf (s.takeWhile isDg) 200 = none ∨ ∃ m, numOf (s.takeWhile isDg) 200 = some m ∧ fldT t.fields m = none) : rdField f t s = none := by
 unfold rdField rdNum
 rcases h with h | ⟨m, h, h2⟩
 ·rw [h]; rfl
 ·rw [h]; dsimp only [Option.map_some]; rw [h2]
theorem field_noeq {f : List UInt8 → List UInt8 → Option (V × List UInt8)} {t : Ty} {s : List UInt8} {m : Int} (h : numOf (s.takeWhile isDg) 200 = some m) (h2 : ∀ s2, s.dropWhile isDg ≠ 61 :: s2) : rdField f t s = none := by
 unfold rdField rdNum
 rw [h]; dsimp only [Option.map_some]
 cases fldT t.fields m with
 | none => rfl
 | some d =>
  dsimp only
  cases hd : s.dropWhile isDg with
  | nil => rfl
  | cons c r =>
   dsimp only
   rw [if_neg]
   intro hc
   exact h2 r (by rw [hd, show c = 61 from UInt8.toNat_inj.1 hc])
theorem field_some {f : List UInt8 → List UInt8 → Option (V × List UInt8)} {t : Ty} {s s2 : List UInt8} {m : Int} {d : Fld} (h : numOf (s.takeWhile isDg) 200 = some m) (hd : fldT t.fields m = some d) (h2 : s.dropWhile isDg = 61 :: s2) : rdField f t s = (f d.kind s2).map fun x => ((d, x.1), x.2) := by
 unfold rdField rdNum
 rw [h]; dsimp only [Option.map_some]; rw [hd, h2]; dsimp only; rw [if_pos (show (61 : UInt8).toNat = 61 from rfl)]
theorem c_fieldV {n r sc bt bf of cf : Nat} {qs : List TyP} {t : Ty} {ln s : List UInt8} {b : Bool} {fv : Value} (hV : ValC n sc qs) (hS : ScI G sc qs) (hw : TyW t) (hkf : ∀ d ∈ t.fields, kindIn (tyq qs) d.kind = true)
  (h1 : Seg G bt 0 [U8 t.sort, S t.name, fv, S ln]) (h2 : SlV G fv 6 t.fields.length (rows fiF t.fields)) (hfv : t.fields ≠ [] → fv = .slice (some ⟨bf, of, none⟩) t.fields.length cf ∧ Seg G bf of (rows fiF t.fields)) (hs : s.length ≤ n ∧ s.length ≤ 1000) :
  FnM Tryz.prog 152 [Pt r 0, Pt bt 0] G [scO r sc s b] (FldP t bf of (rd (tyq qs) n) r sc s b) := by
 have hwl := while_len isDg s
 have hfl := hw.len
 have cx_nu := c_number (G := G) (r := r) (sc := sc) (s := s) (b := b) (top := 200) oM
 have cx_wa := c_want (G := G) (r := r) (sc := sc) (s := s.dropWhile isDg) (l := [61]) (b := (b || (numOf (s.takeWhile isDg) 200).isNone)) ⟨oM, by simp⟩
 have htl := tk_len (l := [61]) (s := s.dropWhile isDg) (b := (b || (numOf (s.takeWhile isDg) 200).isNone))
 have hleft : ∀ (s' : List UInt8), s'.length ≤ s.length → (b = true ∨ rdField (rd (tyq qs) n) t s = none) → ∀ G', FldP t bf of (rd (tyq qs) n) r sc s b (Tu [Ag (vcF zVC), .pointer none]) G' [scO r sc s' true] := fun s' h3 h4 G' => ⟨s', true, rfl, h3, .inl ⟨rfl, rfl, h4⟩⟩
 refine m_enter [(0, _), (1, _)] Tryz.func152 kR Tryz.ntmps152 rfl rfl tU fun B hB hW => ?_
 repeat' (first | (refine jR ?_) | (refine jo ?_; first | refine jL fun _ => ?_ | (refine c_m1g rfl rfl rfl cx_nu rfl ?_; rintro _ _ ⟨n1, rfl, ⟨hn0, hn1⟩, hnum, rfl⟩; dsimp only [zA, fA])))
 rename_i x4
 cases hft : fldT t.fields n1 with
 | none =>
  have hno : rdField (rd (tyq qs) n) t s = none := by
   cases hm : numOf (s.takeWhile isDg) 200 with
   | none => exact field_none (.inl hm)
   | some m => exact field_none (.inr ⟨m, hm, by rw [← hnum m hm]; exact hft⟩)
  have cx_fld := c_fieldI0 h1 h2 oM hft
  repeat' (first | (refine jR ?_) | (refine jo ?_; first | refine jV (g_peq0 rfl rfl) ?_ | (refine jAt rfl ?_) | refine jD rfl rfl rfl ?_ | refine jC rfl rfl rfl ?_ | refine jV (g_bld rfl rfl) ?_ | (refine c_rt rfl rfl rfl cx_fld rfl ?_) | (refine c_m1g rfl rfl rfl cx_wa rfl ?_; rintro _ _ rfl; dsimp only [zA, fA])) | (refine k_gt rfl rfl rfl ?_) | (refine k_tt rfl rfl ?_))
  refine k_rr (vs := [_, _]) rfl ⟨rc_A rfl rfl rfl rfl, rfl, trivial⟩ rfl sB ⟨Gh.le.refl _, hleft _ oM (.inr hno) _⟩
 | some d =>
  obtain ⟨j, hj, hjn, hjt, hjd⟩ := fldT_some hft
  subst hjd
  obtain ⟨rfl, hsf⟩ := hfv (fun h => by rw [h] at hj; simp at hj)
  have cx_fld := c_fieldI1 h1 hsf oM hj hjn hjt
  cases ht : tkR [61] (s.dropWhile isDg) (b || (numOf (s.takeWhile isDg) 200).isNone) with
  | false =>
   rw [ht, Bool.not_false] at cx_wa
   have hno : b = true ∨ rdField (rd (tyq qs) n) t s = none := by
    cases b with
    | true => exact .inl rfl
    | false =>
     right
     cases hm : numOf (s.takeWhile isDg) 200 with
     | none => exact field_none (.inl hm)
     | some m =>
      refine field_noeq hm (fun s2 h => ?_)
      rw [hm, h] at ht
      have : tkR [61] (61 :: s2) false = true := tk1.2 ⟨s2, rfl⟩
      rw [show (false || (some m).isNone) = false from rfl, this] at ht; cases ht
   repeat' (first | (refine jR ?_) | (refine jo ?_; first | refine jV (g_peq0 rfl rfl) ?_ | refine jAl rfl ?_ | (refine jAf rfl ?_) | refine jD rfl rfl rfl ?_ | refine jC rfl rfl rfl ?_ | refine jV (g_bld rfl rfl) ?_ | (refine c_rt rfl rfl rfl cx_fld rfl ?_) | (refine c_m1g rfl rfl rfl cx_wa rfl ?_; rintro _ _ rfl; dsimp only [zA, fA])) | (refine k_gf rfl rfl rfl ?_) | (refine k_tt rfl rfl ?_))
   refine k_rr (vs := [_, _]) rfl ⟨rc_A rfl rfl rfl rfl, rfl, trivial⟩ rfl sB ⟨Gh.le.refl _, hleft _ oM hno _⟩
  | true =>
   have hb0 : (b || (numOf (s.takeWhile isDg) 200).isNone) = false := by
    cases hb : (b || (numOf (s.takeWhile isDg) 200).isNone) with
    | false => rfl
    | true => rw [hb, tkT] at ht; cases ht
   rw [hb0] at ht cx_wa htl
   rw [hb0]
   simp only [Bool.or_eq_false_iff] at hb0
   obtain ⟨hb, hnn⟩ := hb0
   obtain ⟨m, hm⟩ : ∃ m, numOf (s.takeWhile isDg) 200 = some m := by
    cases hm : numOf (s.takeWhile isDg) 200 with
    | none => rw [hm] at hnn; cases hnn
    | some m => exact ⟨m, rfl⟩
   obtain ⟨s2, hs2⟩ := tk1.1 ht
   rw [ht, hs2, tk1S, Bool.not_true] at cx_wa
   have hdig : 1 ≤ (s.takeWhile isDg).length := by
    have h3 := (numOf_le hm).2.1
    rw [h3]; exact decI_pos m
   rw [hs2, List.length_cons] at hwl
   have hfd : ∀ x, rdField (rd (tyq qs) n) t s = some x ↔ (rd (tyq qs) n (nth t.fields j).kind s2).map (fun x => ((nth t.fields j, x.1), x.2)) = some x := fun x => by
    rw [field_some hm (d := nth t.fields j) (by rw [← hnum m hm, hft]) hs2]
   have hkd := hkf (nth t.fields j) (nth_mem hj)
   have cx_vl := hV G r (nth t.fields j).kind s2 false hS hkd oM oM
   rw [hs2]
   repeat' (first | (refine jR ?_) | (refine jo ?_; first | refine jL fun _ => ?_ | refine jV (g_peq0 rfl rfl) ?_ | refine jAl rfl ?_ | (refine jV (g_ldRA rfl rfl aS ?_ rfl rfl) ?_; (focus ((omega); done))) | (refine jAf rfl ?_) | refine jC rfl rfl rfl ?_ | (refine c_rt rfl rfl rfl cx_fld rfl ?_) | (refine c_m1g rfl rfl rfl cx_wa rfl ?_; rintro _ _ rfl; dsimp only [zA, fA]) | (refine c_m1s rfl rfl rfl cx_vl rfl ?_; rintro _ G1 _ hle ⟨u1, c1, t1, b1, rfl, hrep, rfl, hP⟩; dsimp only [zA, fA]; skip)) | (refine k_gf rfl rfl rfl ?_) | (refine k_ff rfl rfl ?_))
   have hsf1 := hsf.mono hle
   have htag := (hw.fld _ (nth_mem hj)).tag
   repeat' (first | (refine jR ?_) | (refine k_any (s_anyD (id := 7) (tt := 4) rfl mixed ?_); refine jW 6 [0, 1, 2, 7] (bts 10 135) ?_; ((refine jG (bts 10 143) 3 rfl (g_ldRF rfl rfl aS ?_ rfl rfl) ?_; (focus ((omega); done)))); (refine jG (bts 10 159) 4 rfl (g_ldA rfl rfl rfl rfl) ?_); refine jA 5 rfl ?_; (refine jF fun _ => ?_); refine jK (bts 10 191) ?_; (refine jG (bts 10 255) 6 rfl (g_bld rfl rfl) ?_); refine jA 8 rfl ?_; (refine jC rfl rfl rfl ?_); refine jK (bts 10 511) ?_; refine jW 0 [9] (bts 10 1023) ?_; refine jQ ?_))
   rename_i y
   refine Nx.sealC (b := y) fun G2 hG2 hsy => ?_
   have hsl : SlV G2 (.slice (some ⟨y, 0, none⟩) 1 1) 4 ([c1] : List VC).length (rows vcF [c1]) := ⟨rfl, .inr ⟨y, 0, 1, rfl, Nat.le_refl _, hsy⟩⟩
   have hrp : V.rep G2 (.nd 61 [] (nth t.fields j).tag [u1]) ⟨61, [], (nth t.fields j).tag, some ⟨y, 0, none⟩, 1, 1⟩ := rep_mk dC oM (fun _ => rfl) rfl hsl ⟨c1, [], rfl, rep_mono hG2 hrep, rfl⟩
   obtain ⟨hPl, hP0, hP1⟩ := hP
   have hf2 := fun x => hfd x
   cases b1 with
   | false =>
    obtain ⟨_, hgood⟩ := hP0 rfl
    have htot := rd_tot n _ _ _ hgood
    dsimp only at htot
    refine k_rr (vs := [_, _]) rfl ⟨rc_A rfl rfl rfl rfl, rfl, trivial⟩ rfl sB ⟨hle.trans hG2, t1, false, rfl, oM, .inr ⟨j, u1, ⟨61, [], (nth t.fields j).tag, some ⟨y, 0, none⟩, 1, 1⟩, hj, rfl, hrp, hb, oM, fun _ => (hfd _).2 (by rw [hgood]; rfl), fun h => (by cases h)⟩⟩
   | true =>
    obtain ⟨hbad, hto⟩ := hP1 rfl
    have hbad2 : rd (tyq qs) n (nth t.fields j).kind s2 = none := by
     rcases hbad with h | h
     ·cases h
     ·exact h
    have hno : rdField (rd (tyq qs) n) t s = none := by
     cases hx : rdField (rd (tyq qs) n) t s with
     | none => rfl
     | some x => have := (hfd x).1 hx; rw [hbad2] at this; cases this
    refine k_rr (vs := [_, _]) rfl ⟨rc_A rfl rfl rfl rfl, rfl, trivial⟩ rfl sB ⟨hle.trans hG2, t1, true, rfl, oM, .inr ⟨j, u1, ⟨61, [], (nth t.fields j).tag, some ⟨y, 0, none⟩, 1, 1⟩, hj, rfl, hrp, hb, oM, fun h => (by cases h), fun _ => hno⟩⟩
theorem tk_no {c : UInt8} {s : List UInt8} (h : tkR [c] s false = false) : ∀ s2, s ≠ c :: s2 := fun s2 e => by
 have : tkR [c] s false = true := tk1.2 ⟨s2, e⟩
 rw [this] at h; cases h
theorem typed_no {ts : List Ty} {f : List UInt8 → List UInt8 → Option (V × List UInt8)} {t : Ty} {s : List UInt8} {c : UInt8} (hc : t.sort = 82 ∧ c = 123 ∨ t.sort = 69 ∧ c = 35 ∨ (t.sort ≠ 82 ∧ t.sort ≠ 69) ∧ c = 60) (h : ∀ s2, s ≠ c :: s2) : rdTyped ts f t s = none := by
 cases s with
 | nil => rfl
 | cons d r =>
  have hd : d ≠ c := fun e => h r (by rw [e])
  unfold rdTyped
  dsimp only
  have hn : ∀ k : Nat, k < 256 → c = UInt8.ofNat k → ¬ d.toNat = k := fun k hk e h2 => hd (by rw [e, u8_eq h2 hk])
  rcases hc with ⟨h1, h2⟩ | ⟨h1, h2⟩ | ⟨⟨h1, h1'⟩, h2⟩
  ·rw [if_pos h1, if_neg (hn 123 dC h2)]
  ·rw [if_neg oM, if_pos h1, if_neg (hn 35 dC h2)]
  ·rw [if_neg h1, if_neg h1', if_neg (hn 60 dC h2)]
theorem c_ofE {n r sc bt : Nat} {qs : List TyP} {t : Ty} {s : List UInt8} {b : Bool} (hT : TyI G bt t) (hw : TyW t) (hso : t.sort = 69) (hs : s.length ≤ n ∧ s.length ≤ 1000) :
  FnM Tryz.prog 120 [Pt r 0, Pt bt 0] G [scO r sc s b] (ValP (rdTyped (tyq qs) (rd (tyq qs) n) t) r sc s b) := by
 obtain ⟨fv, ln, h1, h2⟩ := hT
 have hfl := hw.len
 have hso' : (t.sort : Int) = 69 := oM
 have cx_wa := c_want (G := G) (r := r) (sc := sc) (s := s) (l := [35]) (b := b) ⟨oM, by simp⟩
 cases ht : tkR [35] s b with
 | false =>
  rw [ht, tkSF ht, Bool.not_false] at cx_wa
  have hno : b = true ∨ rdTyped (tyq qs) (rd (tyq qs) n) t s = none := by
   cases b with
   | true => exact .inl rfl
   | false => exact .inr (typed_no (.inr (.inl ⟨hso, rfl⟩)) (tk_no ht))
  have cx_nu := c_number (G := G) (r := r) (sc := sc) (s := s) (b := true) (top := 200) oM
  rw [Bool.true_or] at cx_nu
  have hwl := while_len isDg s
  refine m_enter [(0, _), (1, _)] Tryz.func120 kR Tryz.ntmps120 rfl rfl tU fun B hB hW => ?_
  repeat' (first | (refine jR ?_) | (refine jo ?_; first | refine jL fun _ => ?_ | refine jAl rfl ?_ | refine jV (g_ldS rfl rfl aS rfl rfl) ?_ | refine jV (g_bld rfl rfl) ?_ | refine jD rfl rfl rfl ?_ | refine jC rfl rfl rfl ?_ | (refine c_m1g rfl rfl rfl cx_wa rfl ?_; rintro _ _ rfl; dsimp only [zA, fA]) | (refine c_m1g rfl rfl rfl cx_nu rfl ?_; rintro _ _ ⟨n1, rfl, ⟨hn0, hn1⟩, hnum, rfl⟩; dsimp only [zA, fA])) | (refine k_tt rfl (dTt ‹_›) ?_))
  cases hft : fldT t.fields n1 with
  | none =>
   have cx_fld := c_fieldI0 h1 h2 oM hft
   repeat' (first | (refine jR ?_) | (refine jo ?_; first | refine jAm rfl ?_ | refine jD rfl rfl rfl ?_ | refine jC rfl rfl rfl ?_ | refine jV (g_peq0 rfl rfl) ?_ | (refine c_rt rfl rfl rfl cx_fld rfl ?_)) | (refine k_tt rfl rfl ?_))
   refine k_rr (vs := [_]) rfl ⟨rc_A rfl rfl rfl rfl, trivial⟩ rfl sB ⟨Gh.le.refl _, .nd 69 [] n1 [], ⟨69, [], n1, none, 0, 0⟩, s.dropWhile isDg, true, by rw [hso]; rfl, rep_leaf dC ⟨hn0, hn1⟩, rfl, oM, fun h => (by cases h), fun _ => ⟨hno, by simp only [V.tot, V.tots, List.length_nil]; omega⟩⟩
  | some d =>
   obtain ⟨j, hj, hjn, hjt, hjd⟩ := fldT_some hft
   obtain ⟨bf, of, cf, rfl, hsf⟩ := h2.expl oM
   have cx_fld := c_fieldI1 h1 hsf oM hj hjn hjt
   repeat' (first | (refine jR ?_) | (refine jo ?_; first | refine jAm rfl ?_ | refine jC rfl rfl rfl ?_ | refine jV (g_peq0 rfl rfl) ?_ | (refine c_rt rfl rfl rfl cx_fld rfl ?_)) | (refine k_ff rfl rfl ?_))
   refine k_rr (vs := [_]) rfl ⟨rc_A rfl rfl rfl rfl, trivial⟩ rfl sB ⟨Gh.le.refl _, .nd 69 [] n1 [], ⟨69, [], n1, none, 0, 0⟩, s.dropWhile isDg, true, by rw [hso]; rfl, rep_leaf dC ⟨hn0, hn1⟩, rfl, oM, fun h => (by cases h), fun _ => ⟨hno, by simp only [V.tot, V.tots, List.length_nil]; omega⟩⟩
 | true =>
  have hb : b = false := by cases b with | true => rw [tkT] at ht; cases ht | false => rfl
  subst hb
  obtain ⟨s1, rfl⟩ := tk1.1 ht
  rw [ht, tk1S, Bool.not_true] at cx_wa
  simp only [List.length_cons] at hs
  have cx_nu := c_number (G := G) (r := r) (sc := sc) (s := s1) (b := false) (top := 200) oM
  rw [Bool.false_or] at cx_nu
  have hwl := while_len isDg s1
  have hRT : rdTyped (tyq qs) (rd (tyq qs) n) t (35 :: s1) = match rdNum 200 s1 with
    | none => none
    | some (n, r) => if (fldT t.fields n).isSome = true then some (.nd 69 [] n [], r) else none := by
   unfold rdTyped
   dsimp only
   rw [if_neg oM, if_pos hso, if_pos (show (35 : UInt8).toNat = 35 from rfl)]
   cases rdNum 200 s1 <;> rfl
  cases hnu : numOf (s1.takeWhile isDg) 200 with
  | none =>
   have hno : rdTyped (tyq qs) (rd (tyq qs) n) t (35 :: s1) = none := by rw [hRT]; unfold rdNum; rw [hnu]; rfl
   rw [hnu] at cx_nu
   refine m_enter [(0, _), (1, _)] Tryz.func120 kR Tryz.ntmps120 rfl rfl tU fun B hB hW => ?_
   repeat' (first | (refine jR ?_) | (refine jo ?_; first | refine jL fun _ => ?_ | refine jAl rfl ?_ | refine jV (g_ldS rfl rfl aS rfl rfl) ?_ | refine jV (g_bld rfl rfl) ?_ | refine jD rfl rfl rfl ?_ | refine jC rfl rfl rfl ?_ | (refine c_m1g rfl rfl rfl cx_wa rfl ?_; rintro _ _ rfl; dsimp only [zA, fA]) | (refine c_m1g rfl rfl rfl cx_nu rfl ?_; rintro _ _ ⟨n1, rfl, ⟨hn0, hn1⟩, hnum, rfl⟩; dsimp only [zA, fA])) | (refine k_tt rfl (dTt ‹_›) ?_))
   cases hft : fldT t.fields n1 with
   | none =>
    have cx_fld := c_fieldI0 h1 h2 oM hft
    repeat' (first | (refine jR ?_) | (refine jo ?_; first | refine jAm rfl ?_ | refine jD rfl rfl rfl ?_ | refine jC rfl rfl rfl ?_ | refine jV (g_peq0 rfl rfl) ?_ | (refine c_rt rfl rfl rfl cx_fld rfl ?_)) | (refine k_tt rfl rfl ?_))
    refine k_rr (vs := [_]) rfl ⟨rc_A rfl rfl rfl rfl, trivial⟩ rfl sB ⟨Gh.le.refl _, .nd 69 [] n1 [], ⟨69, [], n1, none, 0, 0⟩, s1.dropWhile isDg, true, by rw [hso]; rfl, rep_leaf dC ⟨hn0, hn1⟩, rfl, by simp only [List.length_cons]; omega, fun h => (by cases h), fun _ => ⟨.inr hno, by simp only [V.tot, V.tots, List.length_nil, List.length_cons]; omega⟩⟩
   | some d =>
    obtain ⟨j, hj, hjn, hjt, hjd⟩ := fldT_some hft
    obtain ⟨bf, of, cf, rfl, hsf⟩ := h2.expl oM
    have cx_fld := c_fieldI1 h1 hsf oM hj hjn hjt
    repeat' (first | (refine jR ?_) | (refine jo ?_; first | refine jAm rfl ?_ | refine jC rfl rfl rfl ?_ | refine jV (g_peq0 rfl rfl) ?_ | (refine c_rt rfl rfl rfl cx_fld rfl ?_)) | (refine k_ff rfl rfl ?_))
    refine k_rr (vs := [_]) rfl ⟨rc_A rfl rfl rfl rfl, trivial⟩ rfl sB ⟨Gh.le.refl _, .nd 69 [] n1 [], ⟨69, [], n1, none, 0, 0⟩, s1.dropWhile isDg, true, by rw [hso]; rfl, rep_leaf dC ⟨hn0, hn1⟩, rfl, by simp only [List.length_cons]; omega, fun h => (by cases h), fun _ => ⟨.inr hno, by simp only [V.tot, V.tots, List.length_nil, List.length_cons]; omega⟩⟩
  | some m =>
   rw [hnu] at cx_nu
   have hRT2 : rdTyped (tyq qs) (rd (tyq qs) n) t (35 :: s1) = if (fldT t.fields m).isSome = true then some (.nd 69 [] m [], s1.dropWhile isDg) else none := by rw [hRT]; unfold rdNum; rw [hnu]; rfl
   refine m_enter [(0, _), (1, _)] Tryz.func120 kR Tryz.ntmps120 rfl rfl tU fun B hB hW => ?_
   repeat' (first | (refine jR ?_) | (refine jo ?_; first | refine jL fun _ => ?_ | refine jAl rfl ?_ | refine jV (g_ldS rfl rfl aS rfl rfl) ?_ | refine jV (g_bld rfl rfl) ?_ | refine jD rfl rfl rfl ?_ | refine jC rfl rfl rfl ?_ | (refine c_m1g rfl rfl rfl cx_wa rfl ?_; rintro _ _ rfl; dsimp only [zA, fA]) | (refine c_m1g rfl rfl rfl cx_nu rfl ?_; rintro _ _ ⟨n1, rfl, ⟨hn0, hn1⟩, hnum, rfl⟩; dsimp only [zA, fA])) | (refine k_tt rfl (dTt ‹_›) ?_))
   obtain rfl : n1 = m := hnum m rfl
   cases hft : fldT t.fields n1 with
   | none =>
    rw [hft] at hRT2
    have cx_fld := c_fieldI0 h1 h2 oM hft
    repeat' (first | (refine jR ?_) | (refine jo ?_; first | refine jAm rfl ?_ | refine jD rfl rfl rfl ?_ | refine jC rfl rfl rfl ?_ | refine jV (g_peq0 rfl rfl) ?_ | (refine c_rt rfl rfl rfl cx_fld rfl ?_)) | (refine k_tt rfl rfl ?_))
    refine k_rr (vs := [_]) rfl ⟨rc_A rfl rfl rfl rfl, trivial⟩ rfl sB ⟨Gh.le.refl _, .nd 69 [] n1 [], ⟨69, [], n1, none, 0, 0⟩, s1.dropWhile isDg, true, by rw [hso]; rfl, rep_leaf dC ⟨hn0, hn1⟩, rfl, by simp only [List.length_cons]; omega, fun h => (by cases h), fun _ => ⟨.inr hRT2, by simp only [V.tot, V.tots, List.length_nil, List.length_cons]; omega⟩⟩
   | some d =>
    rw [hft] at hRT2
    obtain ⟨j, hj, hjn, hjt, hjd⟩ := fldT_some hft
    obtain ⟨bf, of, cf, rfl, hsf⟩ := h2.expl oM
    have cx_fld := c_fieldI1 h1 hsf oM hj hjn hjt
    repeat' (first | (refine jR ?_) | (refine jo ?_; first | refine jAm rfl ?_ | refine jC rfl rfl rfl ?_ | refine jV (g_peq0 rfl rfl) ?_ | (refine c_rt rfl rfl rfl cx_fld rfl ?_)) | (refine k_ff rfl rfl ?_))
    refine k_rr (vs := [_]) rfl ⟨rc_A rfl rfl rfl rfl, trivial⟩ rfl sB ⟨Gh.le.refl _, .nd 69 [] n1 [], ⟨69, [], n1, none, 0, 0⟩, s1.dropWhile isDg, false, by rw [hso]; rfl, rep_leaf dC ⟨hn0, hn1⟩, rfl, by simp only [List.length_cons]; omega, fun _ => ⟨rfl, hRT2⟩, fun h => (by cases h)⟩
theorem rep_uni {G : Gh} {t : Int} {u : V} {c : VC} (h : V.rep G (.nd 61 [] t [u]) c) : ∃ (b o k : Nat) (d : VC), c = ⟨61, [], t, some ⟨b, o, none⟩, 1, k⟩ ∧ (0 ≤ t ∧ t ≤ 999999) ∧ Seg G b o (rows vcF [d]) ∧ V.rep G u d ∧ V.rep G (.nd 85 [] t [u]) ⟨85, [], t, some ⟨b, o, none⟩, 1, k⟩ := by
 obtain ⟨a, k, cs, rfl, _, ht, _, hcl, hsl, hks⟩ := rep_inv h
 rw [V.reps] at hks
 obtain ⟨d, cs', rfl, hd, hcs⟩ := hks
 rw [V.reps] at hcs
 subst hcs
 obtain ⟨b, o, cap, e, hs⟩ := hsl.expl (by simp)
 simp only [Value.slice.injEq] at e
 obtain ⟨rfl, -, rfl⟩ := e
 exact ⟨b, o, k, d, rfl, ht, hs, hd, rep_mk dC ht (fun h => absurd h dC) rfl hsl ⟨d, [], rfl, hd, rfl⟩⟩
theorem c_ofU {n r sc bt : Nat} {qs : List TyP} {t : Ty} {s : List UInt8} {b : Bool} (hV : ValC n sc qs) (hS : ScI G sc qs) (hkf : ∀ d ∈ t.fields, kindIn (tyq qs) d.kind = true) (hT : TyI G bt t) (hw : TyW t) (hso : t.sort = 85) (hs : s.length ≤ n ∧ s.length ≤ 1000) :
  FnM Tryz.prog 120 [Pt r 0, Pt bt 0] G [scO r sc s b] (ValP (rdTyped (tyq qs) (rd (tyq qs) n) t) r sc s b) := by
 obtain ⟨fv, ln, h1, h2⟩ := hT
 have hfl := hw.len
 have hso' : (t.sort : Int) = 85 := oM
 have hne : 0 < t.fields.length := List.length_pos_iff.2 (hw.ne oM)
 obtain ⟨bf, of, cf, rfl, hsf⟩ := h2.expl hne
 have cx_wa := c_want (G := G) (r := r) (sc := sc) (s := s) (l := [60]) (b := b) ⟨oM, by simp⟩
 cases ht : tkR [60] s b with
 | false =>
  rw [ht, tkSF ht, Bool.not_false] at cx_wa
  have hno : b = true ∨ rdTyped (tyq qs) (rd (tyq qs) n) t s = none := by
   cases b with
   | true => exact .inl rfl
   | false => exact .inr (typed_no (.inr (.inr ⟨oM, rfl⟩)) (tk_no ht))
  have cx_fd := c_fieldV (s := s) (b := true) (r := r) hV hS hw hkf h1 h2 (fun _ => ⟨rfl, hsf⟩) hs
  refine m_enter [(0, _), (1, _)] Tryz.func120 kR Tryz.ntmps120 rfl rfl tU fun B hB hW => ?_
  repeat' (first | (refine jR ?_) | (refine jo ?_; first | refine jL fun _ => ?_ | refine jV (g_ldS rfl rfl aS rfl rfl) ?_ | refine jV (g_bld rfl rfl) ?_ | refine jC rfl rfl rfl ?_ | (refine c_m1g rfl rfl rfl cx_wa rfl ?_; rintro _ _ rfl; dsimp only [zA, fA]) | (refine c_m1s rfl rfl rfl cx_fd rfl ?_; rintro _ G1 _ hle ⟨t1, b1, rfl, htl, ⟨rfl, rfl, hF⟩ | ⟨j, u1, c1, hj, rfl, hrep, hb0, hto, hg, hbd⟩⟩ <;> (dsimp only [zA, fA]; skip))) | (refine k_tt rfl (dTt ‹_›) ?_) | (refine k_ff rfl (dFf oM) ?_))
  ·have cx_wb := c_want (G := G1) (r := r) (sc := sc) (s := t1) (l := [62]) (b := true) ⟨oM, by simp⟩
   rw [tkT, tkST, Bool.not_false] at cx_wb
   repeat' (first | (refine jR ?_) | (refine jo ?_; first | refine jAm rfl ?_ | refine jC rfl rfl rfl ?_ | refine jV (g_pne0 rfl rfl) ?_ | (refine c_m1g rfl rfl rfl cx_wb rfl ?_; rintro _ _ rfl; dsimp only [zA, fA])) | (refine k_ff rfl rfl ?_))
   refine k_rr (vs := [_]) rfl ⟨rc_A rfl rfl rfl rfl, trivial⟩ rfl sB ⟨hle, .nd 85 [] 0 [], ⟨85, [], 0, none, 0, 0⟩, t1, true, by rw [hso]; rfl, rep_leaf dC dC, rfl, oM, fun h => (by cases h), fun _ => ⟨hno, by simp only [V.tot, V.tots, List.length_nil]; omega⟩⟩
  ·cases hb0
 | true =>
  have hb : b = false := by cases b with | true => rw [tkT] at ht; cases ht | false => rfl
  subst hb
  obtain ⟨s1, rfl⟩ := tk1.1 ht
  rw [ht, tk1S, Bool.not_true] at cx_wa
  simp only [List.length_cons] at hs
  have hRT : rdTyped (tyq qs) (rd (tyq qs) n) t (60 :: s1) = match rdField (rd (tyq qs) n) t s1 with
    | none => none
    | some ((d, v), r) => match r with
     | [] => none
     | c' :: r' => if c'.toNat = 62 then some (.nd 85 [] d.tag [v], r') else none := by
   unfold rdTyped
   dsimp only
   rw [if_neg oM, if_neg oM, if_pos (show (60 : UInt8).toNat = 60 from rfl)]
   cases rdField (rd (tyq qs) n) t s1 <;> rfl
  have cx_fd := c_fieldV (s := s1) (b := false) (r := r) hV hS hw hkf h1 h2 (fun _ => ⟨rfl, hsf⟩) ⟨oM, oM⟩
  refine m_enter [(0, _), (1, _)] Tryz.func120 kR Tryz.ntmps120 rfl rfl tU fun B hB hW => ?_
  repeat' (first | (refine jR ?_) | (refine jo ?_; first | refine jL fun _ => ?_ | refine jV (g_ldS rfl rfl aS rfl rfl) ?_ | refine jV (g_bld rfl rfl) ?_ | refine jC rfl rfl rfl ?_ | (refine c_m1g rfl rfl rfl cx_wa rfl ?_; rintro _ _ rfl; dsimp only [zA, fA]) | (refine c_m1s rfl rfl rfl cx_fd rfl ?_; rintro _ G1 _ hle ⟨t1, b1, rfl, htl, ⟨rfl, rfl, hF⟩ | ⟨j, u1, c1, hj, rfl, hrep, hb0, hto, hg, hbd⟩⟩ <;> (dsimp only [zA, fA]; skip))) | (refine k_tt rfl (dTt ‹_›) ?_) | (refine k_ff rfl (dFf oM) ?_))
  ·have hno : rdTyped (tyq qs) (rd (tyq qs) n) t (60 :: s1) = none := by
    rcases hF with h | h
    ·cases h
    ·rw [hRT, h]
   have cx_wb := c_want (G := G1) (r := r) (sc := sc) (s := t1) (l := [62]) (b := true) ⟨oM, by simp⟩
   rw [tkT, tkST, Bool.not_false] at cx_wb
   repeat' (first | (refine jR ?_) | (refine jo ?_; first | refine jAm rfl ?_ | refine jC rfl rfl rfl ?_ | refine jV (g_pne0 rfl rfl) ?_ | (refine c_m1g rfl rfl rfl cx_wb rfl ?_; rintro _ _ rfl; dsimp only [zA, fA])) | (refine k_ff rfl rfl ?_))
   refine k_rr (vs := [_]) rfl ⟨rc_A rfl rfl rfl rfl, trivial⟩ rfl sB ⟨hle, .nd 85 [] 0 [], ⟨85, [], 0, none, 0, 0⟩, t1, true, by rw [hso]; rfl, rep_leaf dC dC, rfl, by simp only [List.length_cons]; omega, fun h => (by cases h), fun _ => ⟨.inr hno, by simp only [V.tot, V.tots, List.length_nil, List.length_cons]; omega⟩⟩
  ·obtain ⟨kb, ko, kc, d, rfl, htg, hsd, hrd, hru⟩ := rep_uni hrep
   have hsf1 := hsf.mono hle
   cases b1 with
   | true =>
    have hno : rdTyped (tyq qs) (rd (tyq qs) n) t (60 :: s1) = none := by rw [hRT, hbd rfl]
    have cx_wb := c_want (G := G1) (r := r) (sc := sc) (s := t1) (l := [62]) (b := true) ⟨oM, by simp⟩
    rw [tkT, tkST, Bool.not_false] at cx_wb
    repeat' (first | (refine jR ?_) | (refine jo ?_; first | refine jV (g_pne0 rfl rfl) ?_ | (refine c_m1g rfl rfl rfl cx_wb rfl ?_; rintro _ _ rfl; dsimp only [zA, fA])) | (refine k_tt rfl rfl ?_))
    rename_i x4 x5 _ x6 _
    dsimp only [VC.sl]
    (refine k_any (s_any (id := 25) [.blk x6 (.cells (List.toArray [U8 ((61 : Nat) : Int), S [], I (nth t.fields j).tag, .slice (some ⟨kb, ko, none⟩) 1 kc]) tVal (0, 0))] (by intro y hy; simp only [List.mem_cons, List.not_mem_nil, or_false] at hy ⊢; simp [hy]) mixed ?_); refine jW 6 [0, 1, 2, 4] (bts 10 23) ?_; ((refine jG (bts 10 31) 3 rfl (g_ldRF rfl rfl aS ?_ rfl rfl) ?_; (focus ((omega); done)))); refine jW 4 [6] (bts 10 95) ?_; (refine jG (bts 10 127) 5 rfl (g_ld rfl rfl rfl) ?_); refine jA 7 rfl ?_; (refine jD rfl rfl rfl ?_); refine jK (bts 10 255) ?_; refine jW 1 [8] (bts 10 511) ?_; refine jA 9 rfl ?_; (refine jD rfl rfl rfl ?_); refine jK (bts 10 1023) ?_; refine jQ ?_)
    all_goals repeat' (first | (refine jR ?_) | (refine jo ?_; first | refine jAm rfl ?_ | refine jC rfl rfl rfl ?_))
    all_goals refine k_rr (vs := [_]) rfl ⟨rc_A rfl rfl rfl rfl, trivial⟩ rfl sB ⟨hle, .nd 85 [] (nth t.fields j).tag [u1], ⟨85, [], (nth t.fields j).tag, some ⟨kb, ko, none⟩, 1, kc⟩, t1, true, by rw [hso]; rfl, hru, rfl, by simp only [List.length_cons] at *; omega, fun h => (by cases h), fun _ => ⟨.inr hno, by simp only [V.tot, V.tots, List.length_nil, List.length_cons] at *; omega⟩⟩
   | false =>
    have hgd := hg rfl
    have cx_wb := c_want (G := G1) (r := r) (sc := sc) (s := t1) (l := [62]) (b := false) ⟨oM, by simp⟩
    cases ht2 : tkR [62] t1 false with
    | true =>
     obtain ⟨t2, rfl⟩ := tk1.1 ht2
     rw [ht2, tk1S, Bool.not_true] at cx_wb
     have hgood : rdTyped (tyq qs) (rd (tyq qs) n) t (60 :: s1) = some (.nd 85 [] (nth t.fields j).tag [u1], t2) := by
      rw [hRT, hgd]; dsimp only; rw [if_pos (show (62 : UInt8).toNat = 62 from rfl)]
     repeat' (first | (refine jR ?_) | (refine jo ?_; first | refine jV (g_pne0 rfl rfl) ?_ | (refine c_m1g rfl rfl rfl cx_wb rfl ?_; rintro _ _ rfl; dsimp only [zA, fA])) | (refine k_tt rfl rfl ?_))
     rename_i x4 x5 _ x6 _
     dsimp only [VC.sl]
     (refine k_any (s_any (id := 25) [.blk x6 (.cells (List.toArray [U8 ((61 : Nat) : Int), S [], I (nth t.fields j).tag, .slice (some ⟨kb, ko, none⟩) 1 kc]) tVal (0, 0))] (by intro y hy; simp only [List.mem_cons, List.not_mem_nil, or_false] at hy ⊢; simp [hy]) mixed ?_); refine jW 6 [0, 1, 2, 4] (bts 10 23) ?_; ((refine jG (bts 10 31) 3 rfl (g_ldRF rfl rfl aS ?_ rfl rfl) ?_; (focus ((omega); done)))); refine jW 4 [6] (bts 10 95) ?_; (refine jG (bts 10 127) 5 rfl (g_ld rfl rfl rfl) ?_); refine jA 7 rfl ?_; (refine jD rfl rfl rfl ?_); refine jK (bts 10 255) ?_; refine jW 1 [8] (bts 10 511) ?_; refine jA 9 rfl ?_; (refine jD rfl rfl rfl ?_); refine jK (bts 10 1023) ?_; refine jQ ?_)
     all_goals repeat' (first | (refine jR ?_) | (refine jo ?_; first | refine jAm rfl ?_ | refine jC rfl rfl rfl ?_))
     all_goals refine k_rr (vs := [_]) rfl ⟨rc_A rfl rfl rfl rfl, trivial⟩ rfl sB ⟨hle, .nd 85 [] (nth t.fields j).tag [u1], ⟨85, [], (nth t.fields j).tag, some ⟨kb, ko, none⟩, 1, kc⟩, t2, false, by rw [hso]; rfl, hru, rfl, by simp only [List.length_cons] at *; omega, fun _ => ⟨rfl, hgood⟩, fun h => (by cases h)⟩
    | false =>
     rw [ht2, tkSF ht2, Bool.not_false] at cx_wb
     have hno : rdTyped (tyq qs) (rd (tyq qs) n) t (60 :: s1) = none := by
      rw [hRT, hgd]
      dsimp only
      cases t1 with
      | nil => rfl
      | cons e t2 =>
       dsimp only
       rw [if_neg]
       intro h62
       exact tk_no ht2 t2 (by rw [show e = 62 from UInt8.toNat_inj.1 h62])
     repeat' (first | (refine jR ?_) | (refine jo ?_; first | refine jV (g_pne0 rfl rfl) ?_ | (refine c_m1g rfl rfl rfl cx_wb rfl ?_; rintro _ _ rfl; dsimp only [zA, fA])) | (refine k_tt rfl rfl ?_))
     rename_i x4 x5 _ x6 _
     dsimp only [VC.sl]
     (refine k_any (s_any (id := 25) [.blk x6 (.cells (List.toArray [U8 ((61 : Nat) : Int), S [], I (nth t.fields j).tag, .slice (some ⟨kb, ko, none⟩) 1 kc]) tVal (0, 0))] (by intro y hy; simp only [List.mem_cons, List.not_mem_nil, or_false] at hy ⊢; simp [hy]) mixed ?_); refine jW 6 [0, 1, 2, 4] (bts 10 23) ?_; ((refine jG (bts 10 31) 3 rfl (g_ldRF rfl rfl aS ?_ rfl rfl) ?_; (focus ((omega); done)))); refine jW 4 [6] (bts 10 95) ?_; (refine jG (bts 10 127) 5 rfl (g_ld rfl rfl rfl) ?_); refine jA 7 rfl ?_; (refine jD rfl rfl rfl ?_); refine jK (bts 10 255) ?_; refine jW 1 [8] (bts 10 511) ?_; refine jA 9 rfl ?_; (refine jD rfl rfl rfl ?_); refine jK (bts 10 1023) ?_; refine jQ ?_)
     all_goals repeat' (first | (refine jR ?_) | (refine jo ?_; first | refine jAm rfl ?_ | refine jC rfl rfl rfl ?_))
     all_goals refine k_rr (vs := [_]) rfl ⟨rc_A rfl rfl rfl rfl, trivial⟩ rfl sB ⟨hle, .nd 85 [] (nth t.fields j).tag [u1], ⟨85, [], (nth t.fields j).tag, some ⟨kb, ko, none⟩, 1, kc⟩, t1, true, by rw [hso]; rfl, hru, rfl, by simp only [List.length_cons] at *; omega, fun h => (by cases h), fun _ => ⟨.inr hno, by simp only [V.tot, V.tots, List.length_nil, List.length_cons] at *; omega⟩⟩
end Go.E
namespace Go.E
set_option maxRecDepth 20000
set_option maxHeartbeats 2000000
open Go.Proofs
variable {G : Gh}
theorem flds_none {ts : List Ty} {f : List UInt8 → List UInt8 → Option (V × List UInt8)} {t : Ty} {s : List UInt8} {vs : List V} {last : Int} : ∀ {m : Nat}, rdField f t s = none → rdFlds ts f t m last s vs = none
 | 0, _ => rfl
 | m + 1, h => by rw [rdFlds, h]
theorem flds_step {ts : List Ty} {f : List UInt8 → List UInt8 → Option (V × List UInt8)} {t : Ty} {s r : List UInt8} {vs : List V} {last : Int} {d : Fld} {v : V} {m : Nat} (h : rdField f t s = some ((d, v), r)) (hm : 0 < m) :
  rdFlds ts f t m last s vs = if d.tag ≤ last ∨ v.out = standF ts d then none else match r with
   | [] => none
   | c :: r' => if c.toNat = 44 then rdFlds ts f t (m - 1) d.tag r' (vs ++ [.nd 61 [] d.tag [v]]) else if c.toNat = 125 then some (vs ++ [.nd 61 [] d.tag [v]], r') else none := by
 obtain ⟨m, rfl⟩ : ∃ k, m = k + 1 := ⟨m - 1, oM⟩
 rw [rdFlds, h]; rfl
theorem rdField_nil {f : List UInt8 → List UInt8 → Option (V × List UInt8)} {t : Ty} : rdField f t [] = none := by
 unfold rdField rdNum
 have : numOf (([] : List UInt8).takeWhile isDg) 200 = none := by
  cases h : numOf (([] : List UInt8).takeWhile isDg) 200 with
  | none => rfl
  | some m =>
   have := (numOf_le h).2.1
   have h2 := decI_pos m
   rw [← this] at h2; simp at h2
 rw [this]; rfl
theorem c_ofR {n r sc bt : Nat} {qs : List TyP} {t : Ty} {s : List UInt8} {b : Bool} (hV : ValC n sc qs) (hS : ScI G sc qs) (hW0 : SchW (tyq qs)) (hkf : ∀ d ∈ t.fields, kindIn (tyq qs) d.kind = true) (hT : TyI G bt t) (hw : TyW t) (hso : t.sort = 82) (hs : s.length ≤ n ∧ s.length ≤ 1000) :
  FnM Tryz.prog 120 [Pt r 0, Pt bt 0] G [scO r sc s b] (ValP (rdTyped (tyq qs) (rd (tyq qs) n) t) r sc s b) := by
 obtain ⟨fv, ln, h1, h2⟩ := hT
 have hfl := hw.len
 have hso' : (t.sort : Int) = 82 := oM
 have cx_wa := c_want (G := G) (r := r) (sc := sc) (s := s) (l := [123]) (b := b) ⟨oM, by simp⟩
 have cx_tk := c_take (G := G) (r := r) (sc := sc) (s := tkS [123] s b) (l := [125]) (b := !tkR [123] s b) ⟨by have := tk_len (l := [123]) (s := s) (b := b); omega, by simp⟩
 cases ht : tkR [123] s b with
 | false =>
  rw [ht, tkSF ht] at cx_wa cx_tk
  rw [Bool.not_false, tkT, tkST] at cx_tk
  have cx_wb := c_want (G := G) (r := r) (sc := sc) (s := s) (l := [125]) (b := true) ⟨oM, by simp⟩
  rw [tkT, tkST] at cx_wb
  have hno : b = true ∨ rdTyped (tyq qs) (rd (tyq qs) n) t s = none := by
   cases b with
   | true => exact .inl rfl
   | false => exact .inr (typed_no (.inl ⟨hso, rfl⟩) (tk_no ht))
  refine m_enter [(0, _), (1, _)] Tryz.func120 kR Tryz.ntmps120 rfl rfl tU fun B hB hW => ?_
  repeat' (first | (refine jR ?_) | (refine jo ?_; first | refine jL fun _ => ?_ | refine jV (g_ldS rfl rfl aS rfl rfl) ?_ | refine jV (g_bld rfl rfl) ?_ | refine jC rfl rfl rfl ?_ | (refine c_m1g rfl rfl rfl cx_wa rfl ?_; rintro _ _ rfl; dsimp only [zA, fA]) | (refine c_m1g rfl rfl rfl cx_tk rfl ?_; rintro _ _ ⟨rfl, rfl⟩; dsimp only [zA, fA])) | (refine k_ff rfl (by first | rfl | (refine decide_eq_false ?_; (omega))) ?_))
  rename_i x4 x5 _
  refine k_loop (ι := Unit) (fun i => True) (fun i => [(0, Pt r 0), (1, Pt bt 0), (4, Pt x4 0), (5, Pt x5 0), (8, I 0)]) (fun _ => G) (fun i => [scO r sc s true, lo4 x5 [U8 t.sort, S [], I 0, nilS], lo4 x4 [U8 0, S [], I 0, nilS]]) (fun i => 0) () ?_ tU rfl sRr (fun i Hi => ?_)
  ·trivial
  repeat' (first | (refine jR ?_) | (refine jo ?_; first | refine jAl rfl ?_ | refine jAm rfl ?_ | refine jC rfl rfl rfl ?_ | (refine c_m1g rfl rfl rfl cx_wb rfl ?_; rintro _ _ rfl; dsimp only [zA, fA])) | (refine k_ff rfl rfl ?_))
  refine k_rr (vs := [_]) rfl ⟨rc_A rfl rfl rfl rfl, trivial⟩ rfl sB ⟨Gh.le.refl _, .nd 82 [] 0 [], ⟨82, [], 0, none, 0, 0⟩, s, true, by rw [hso]; rfl, rep_leaf dC dC, rfl, Nat.le_refl _, fun h => (by cases h), fun _ => ⟨hno, by simp only [V.tot, V.tots, List.length_nil]; omega⟩⟩
 | true =>
  have hb : b = false := by cases b with | true => rw [tkT] at ht; cases ht | false => rfl
  subst hb
  obtain ⟨s1, rfl⟩ := tk1.1 ht
  rw [ht, tk1S] at cx_wa cx_tk
  rw [Bool.not_true] at cx_wa cx_tk
  simp only [List.length_cons] at hs
  cases ht2 : tkR [125] s1 false with
  | true =>
   obtain ⟨s2, rfl⟩ := tk1.1 ht2
   rw [ht2, tk1S] at cx_tk
   have hgood : rdTyped (tyq qs) (rd (tyq qs) n) t (123 :: 125 :: s2) = some (.nd 82 [] 0 [], s2) := by
    unfold rdTyped
    dsimp only
    rw [if_pos hso, if_pos (show (123 : UInt8).toNat = 123 from rfl), if_pos (show (125 : UInt8).toNat = 125 from rfl)]
   refine m_enter [(0, _), (1, _)] Tryz.func120 kR Tryz.ntmps120 rfl rfl tU fun B hB hW => ?_
   repeat' (first | (refine jR ?_) | (refine jo ?_; first | refine jL fun _ => ?_ | refine jAm rfl ?_ | refine jV (g_ldS rfl rfl aS rfl rfl) ?_ | refine jV (g_bld rfl rfl) ?_ | refine jC rfl rfl rfl ?_ | (refine c_m1g rfl rfl rfl cx_wa rfl ?_; rintro _ _ rfl; dsimp only [zA, fA]) | (refine c_m1g rfl rfl rfl cx_tk rfl ?_; rintro _ _ ⟨rfl, rfl⟩; dsimp only [zA, fA])) | (refine k_tt rfl rfl ?_) | (refine k_ff rfl (dFf oM) ?_))
   refine k_rr (vs := [_]) rfl ⟨rc_A rfl rfl rfl rfl, trivial⟩ rfl sB ⟨Gh.le.refl _, .nd 82 [] 0 [], ⟨82, [], 0, none, 0, 0⟩, s2, false, by rw [hso]; rfl, rep_leaf dC dC, rfl, by simp only [List.length_cons]; omega, fun _ => ⟨rfl, hgood⟩, fun h => (by cases h)⟩
  | false =>
   rw [ht2, tkSF ht2] at cx_tk
   have hR : rdTyped (tyq qs) (rd (tyq qs) n) t (123 :: s1) = (rdFlds (tyq qs) (rd (tyq qs) n) t (s1.length + 1) 0 s1 []).map fun x => (.nd 82 [] 0 x.1, x.2) := by
    unfold rdTyped
    dsimp only
    rw [if_pos hso, if_pos (show (123 : UInt8).toNat = 123 from rfl)]
    cases s1 with
    | nil => rw [flds_none rdField_nil]; rfl
    | cons e r' =>
     dsimp only
     rw [if_neg]
     intro h93
     exact tk_no ht2 r' (by rw [show e = 125 from UInt8.toNat_inj.1 h93])
   refine m_enter [(0, _), (1, _)] Tryz.func120 kR Tryz.ntmps120 rfl rfl tU fun B hB hW => ?_
   repeat' (first | (refine jR ?_) | (refine jo ?_; first | refine jL fun _ => ?_ | refine jV (g_ldS rfl rfl aS rfl rfl) ?_ | refine jV (g_bld rfl rfl) ?_ | refine jC rfl rfl rfl ?_ | (refine c_m1g rfl rfl rfl cx_wa rfl ?_; rintro _ _ rfl; dsimp only [zA, fA]) | (refine c_m1g rfl rfl rfl cx_tk rfl ?_; rintro _ _ ⟨rfl, rfl⟩; dsimp only [zA, fA])) | (refine k_ff rfl (by first | rfl | (refine decide_eq_false ?_; (omega))) ?_))
   rename_i x4 x5 _
   refine Nx.addNil tVal 4 (Nx.perm (List.Perm.swap _ _ _) ?_)
   refine k_loop (ι := List V × List VC × Option Addr × Nat × List UInt8 × Nat × Int × Gh) (fun q => (V.reps q.2.2.2.2.2.2.2 q.1 q.2.1 ∧ Gh.le G q.2.2.2.2.2.2.2) ∧ (rdFlds (tyq qs) (rd (tyq qs) n) t (s1.length + 1) 0 s1 [] = rdFlds (tyq qs) (rd (tyq qs) n) t q.2.2.2.2.2.1 q.2.2.2.2.2.2.1 q.2.2.2.2.1 q.1 ∧ q.2.2.2.2.1.length < q.2.2.2.2.2.1) ∧ (V.tots q.1 + 100 * q.2.2.2.2.1.length + 100 ≤ 100 * (s1.length + 1) ∧ q.2.2.2.2.1.length ≤ s1.length)) (fun q => [(0, Pt r 0), (1, Pt bt 0), (4, Pt x4 0), (5, Pt x5 0), (8, I q.2.2.2.2.2.2.1)]) (fun q => q.2.2.2.2.2.2.2) (fun q => [scO r sc q.2.2.2.2.1 false, .acc (.slice q.2.2.1 q.1.length q.2.2.2.1) tVal 4 q.1.length (rows vcF q.2.1), lo4 x5 [U8 t.sort, S [], I 0, .slice q.2.2.1 q.1.length q.2.2.2.1], lo4 x4 [U8 0, S [], I 0, nilS]]) (fun q => q.2.2.2.2.1.length) ([], [], none, 0, s1, s1.length + 1, 0, G) ?_ tU rfl sRr (fun q Hq => ?_)
   ·exact ⟨⟨rfl, Gh.le.refl _⟩, ⟨rfl, by dsimp only; omega⟩, by dsimp only; simp only [V.tots]; omega, Nat.le_refl _⟩
   obtain ⟨vs, cs, a, cap, t', m, last, Gq⟩ := q
   dsimp only at Hq ⊢
   obtain ⟨⟨hreps, hgq⟩, ⟨hit, htm⟩, hT, htl'⟩ := Hq
   have hcl := reps_len hreps
   have hkl := tots_len vs
   have hfv : t.fields ≠ [] → ∃ bf of cf, fv = .slice (some ⟨bf, of, none⟩) t.fields.length cf ∧ Seg G bf of (rows fiF t.fields) := fun h => by
    obtain ⟨bf, of, cf, e, hs⟩ := h2.expl (List.length_pos_iff.2 h)
    exact ⟨bf, of, cf, e, hs⟩
   obtain ⟨bf, of, cf, hfv⟩ : ∃ bf of cf, t.fields ≠ [] → fv = .slice (some ⟨bf, of, none⟩) t.fields.length cf ∧ Seg G bf of (rows fiF t.fields) := by
    by_cases h : t.fields = []
    ·exact ⟨0, 0, 0, fun h' => absurd h h'⟩
    ·obtain ⟨bf, of, cf, h⟩ := hfv h
     exact ⟨bf, of, cf, fun _ => h⟩
   have cx_fd := c_fieldV (s := t') (b := false) (r := r) hV (hS.mono hgq) hw hkf (h1.mono hgq) (h2.mono hgq) (fun h => ⟨(hfv h).1, (hfv h).2.mono hgq⟩) ⟨oM, oM⟩
   repeat' (first | (refine jR ?_) | (refine jo ?_; first | refine jL fun _ => ?_ | refine jAl rfl ?_ | refine jD rfl rfl rfl ?_ | refine jC rfl rfl rfl ?_ | (refine c_m1s rfl rfl rfl cx_fd rfl ?_; rintro _ G1 _ hle ⟨t1, b1, rfl, htl, ⟨rfl, rfl, hF⟩ | ⟨j, u1, c1, hj, rfl, hrep, hb0, hto, hg, hbd⟩⟩ <;> (dsimp only [zA, fA]; skip))) | (refine k_tt rfl rfl ?_) | (refine k_any (s_any (id := 9) _ (fun _ h => h) mixed ?_); refine jT 23 [0] (bts 24 1) ?_; (refine jG (bts 24 3) 1 rfl (g_peq0 rfl rfl) ?_); refine jT 21 [2] (bts 24 7) ?_; (try (first | (refine Nx.re (d := 38) (v' := Bo true) rfl (congrArg Value.bool rfl) ?_) | (refine Nx.re (d := 38) (v' := Bo false) rfl (congrArg Value.bool rfl) ?_))); refine jT 17 [3, 4, 5, 7] (bts 24 191) ?_; (refine jN (bts 24 255) 6 rfl ?_); refine jT 15 [8] (bts 24 511) ?_; (refine jG (bts 24 1023) 9 rfl (g_pickT rfl rfl rfl) ?_); refine jT 13 [10] (bts 24 2047) ?_; (try (refine Nx.re (d := 46) (v' := Bo true) rfl (congrArg Value.bool rfl) ?_)); refine jT 8 [11, 16, 17, 18, 20] (bts 24 1511423) ?_; (refine jN (bts 24 1515519) 12 rfl ?_); (refine jN (bts 24 1523711) 13 rfl ?_); (refine jN (bts 24 1540095) 14 rfl ?_); (refine jN (bts 24 2064383) 19 rfl ?_); (refine jN (bts 24 2097151) 15 rfl ?_); (refine jN (bts 24 4194303) 21 rfl ?_); refine jT 1 [22] (bts 24 8388607) ?_; (refine jG (bts 24 16777215) 23 rfl (g_pickT rfl rfl rfl) ?_); refine jQ ?_))
   ·have hgl := hgq.trans hle
    have hno : rdField (rd (tyq qs) n) t t' = none := by
     rcases hF with h | h
     ·cases h
     ·exact h
    have hit2 : rdFlds (tyq qs) (rd (tyq qs) n) t m last t' vs = none := flds_none hno
    have cx_wb := c_want (G := G1) (r := r) (sc := sc) (s := t1) (l := [125]) (b := true) ⟨oM, by simp⟩
    rw [tkT, tkST, Bool.not_false] at cx_wb
    repeat' (first | (refine jR ?_) | (refine jo ?_; first | refine jAm rfl ?_ | refine jC rfl rfl rfl ?_ | (refine c_m1g rfl rfl rfl cx_wb rfl ?_; rintro _ _ rfl; dsimp only [zA, fA])))
    refine Nx.sealS (v := .slice a vs.length cap) fun G2 hG2 hsl => ?_
    refine k_rr (vs := [_]) rfl ⟨rc_A rfl rfl rfl rfl, trivial⟩ rfl sB ⟨hgl.trans hG2, .nd 82 [] 0 vs, ⟨82, [], 0, a, vs.length, cap⟩, t1, true, by rw [hso]; rfl, rep_mk dC dC (fun h => absurd h dC) rfl (by rw [hcl]; exact hsl) (reps_mono (hle.trans hG2) hreps), rfl, by simp only [List.length_cons]; omega, fun h => (by cases h), fun _ => ⟨.inr (by rw [hR, hit, hit2]; rfl), by rw [nd_tot]; simp only [List.length_cons, List.length_nil]; omega⟩⟩
   ·have hgl := hgq.trans hle
    obtain ⟨kb, ko, kc, d, rfl, htg, hsd, hrd, hru⟩ := rep_uni hrep
    dsimp only [vcF, VC.sl]
    have hsf1 := (hfv (fun h => by rw [h] at hj; simp at hj)).2.mono hgl
    have hS1 := hS.mono hgl
    have cx_pr := c_print (G := G1) u1.tot (Nat.le_refl _) oM hrd
    have hotl := out_tot hrd
    have cx_of := c_ofI hS1 hW0 hsf1 hj (hkf _ (nth_mem hj))
    have cx_wb := c_want (G := G1) (r := r) (sc := sc) (s := t1) (l := [125]) (b := true) ⟨oM, by simp⟩
    rw [tkT, tkST, Bool.not_false] at cx_wb
    by_cases hbrk : (nth t.fields j).tag ≤ last ∨ u1.out = standF (tyq qs) (nth t.fields j)
    ·have hit2 : rdFlds (tyq qs) (rd (tyq qs) n) t m last t' vs = none := by
      cases b1 with
      | true => exact flds_none (hbd rfl)
      | false => rw [flds_step (hg rfl) oM, if_pos hbrk]
     by_cases hlast : (nth t.fields j).tag ≤ last
     ·repeat' (first | (refine jR ?_) | (refine jo ?_; first | refine jAm rfl ?_ | refine jD rfl rfl rfl ?_ | refine jC rfl rfl rfl ?_ | (refine c_m1g rfl rfl rfl cx_wb rfl ?_; rintro _ _ rfl; dsimp only [zA, fA])) | (refine k_tt rfl rfl ?_) | (refine k_any (s_any (id := 9) _ (fun _ h => h) mixed ?_); refine jT 23 [0] (bts 24 1) ?_; (refine jG (bts 24 3) 1 rfl (g_peq0 rfl rfl) ?_); refine jT 21 [2] (bts 24 7) ?_; (try (refine Nx.re (d := 38) (v' := Bo false) rfl (congrArg Value.bool rfl) ?_)); refine jT 17 [3, 4, 5, 7] (bts 24 191) ?_; ((refine jG (bts 24 255) 6 rfl (g_ldRF rfl rfl aS ?_ rfl rfl) ?_; (focus ((omega); done)))); refine jT 15 [8] (bts 24 511) ?_; (refine jG (bts 24 1023) 9 rfl (g_pickF rfl rfl rfl) ?_); refine jT 13 [10] (bts 24 2047) ?_; (try (refine Nx.re (d := 46) (v' := Bo true) rfl (congrArg Value.bool (dTt ‹_›)) ?_)); refine jT 8 [11, 16, 17, 18, 20] (bts 24 1511423) ?_; (refine jN (bts 24 1515519) 12 rfl ?_); (refine jN (bts 24 1523711) 13 rfl ?_); (refine jN (bts 24 1540095) 14 rfl ?_); (refine jN (bts 24 2064383) 19 rfl ?_); (refine jN (bts 24 2097151) 15 rfl ?_); (refine jN (bts 24 4194303) 21 rfl ?_); refine jT 1 [22] (bts 24 8388607) ?_; (refine jG (bts 24 16777215) 23 rfl (g_pickT rfl rfl rfl) ?_); refine jQ ?_))
      refine Nx.sealS (v := .slice a vs.length cap) fun G2 hG2 hsl => ?_
      refine k_rr (vs := [_]) rfl ⟨rc_A rfl rfl rfl rfl, trivial⟩ rfl sB ⟨hgl.trans hG2, .nd 82 [] 0 vs, ⟨82, [], 0, a, vs.length, cap⟩, t1, true, by rw [hso]; rfl, rep_mk dC dC (fun h => absurd h dC) rfl (by rw [hcl]; exact hsl) (reps_mono (hle.trans hG2) hreps), rfl, by simp only [List.length_cons]; omega, fun h => (by cases h), fun _ => ⟨.inr (by rw [hR, hit, hit2]; rfl), by rw [nd_tot]; simp only [List.length_cons, List.length_nil]; omega⟩⟩
     ·have heq : u1.out = standF (tyq qs) (nth t.fields j) := by
       rcases hbrk with h | h
       ·exact absurd h hlast
       ·exact h
      repeat' (first | (refine jR ?_) | (refine jo ?_; first | refine jAm rfl ?_ | refine jD rfl rfl rfl ?_ | refine jC rfl rfl rfl ?_ | (refine c_m1g rfl rfl rfl cx_wb rfl ?_; rintro _ _ rfl; dsimp only [zA, fA])) | (refine k_tt rfl (dTt ‹_›) ?_) | (refine k_any (s_any (id := 9) _ (fun _ h => h) mixed ?_); refine jT 23 [0] (bts 24 1) ?_; (refine jG (bts 24 3) 1 rfl (g_peq0 rfl rfl) ?_); refine jT 21 [2] (bts 24 7) ?_; (try (refine Nx.re (d := 38) (v' := Bo false) rfl (congrArg Value.bool rfl) ?_)); refine jT 17 [3, 4, 5, 7] (bts 24 191) ?_; ((refine jG (bts 24 255) 6 rfl (g_ldRF rfl rfl aS ?_ rfl rfl) ?_; (focus ((omega); done)))); refine jT 15 [8] (bts 24 511) ?_; (refine jG (bts 24 1023) 9 rfl (g_pickF rfl rfl rfl) ?_); refine jT 13 [10] (bts 24 2047) ?_; (try (refine Nx.re (d := 46) (v' := Bo false) rfl (congrArg Value.bool (dFf ‹_›)) ?_)); refine jT 8 [11, 16, 17, 18, 20] (bts 24 1511423) ?_; (refine jG (bts 24 1515519) 12 rfl (g_ld rfl rfl rfl) ?_); (refine jG (bts 24 1523711) 13 rfl (g_iaddr rfl rfl oM) ?_); ((refine jG (bts 24 1540095) 14 rfl (g_ldR rfl rfl aS ?_) ?_; (focus ((simp only [List.length_append, List.length_cons, List.length_nil, List.length_take]; omega); done)))); (refine jG (bts 24 2064383) 19 rfl (g_ld rfl rfl rfl) ?_); (refine jA 15 rfl ?_; (refine c_rt rfl rfl rfl cx_pr rfl ?_); refine jS (bts 24 2097151) ?_); (refine jA 21 rfl ?_; (refine c_rt rfl rfl rfl cx_of rfl ?_); refine jS (bts 24 4194303) ?_); refine jT 1 [22] (bts 24 8388607) ?_; (refine jG (bts 24 16777215) 23 rfl (g_pickF rfl rfl rfl) ?_); refine jQ ?_))
      refine Nx.sealS (v := .slice a vs.length cap) fun G2 hG2 hsl => ?_
      refine k_rr (vs := [_]) rfl ⟨rc_A rfl rfl rfl rfl, trivial⟩ rfl sB ⟨hgl.trans hG2, .nd 82 [] 0 vs, ⟨82, [], 0, a, vs.length, cap⟩, t1, true, by rw [hso]; rfl, rep_mk dC dC (fun h => absurd h dC) rfl (by rw [hcl]; exact hsl) (reps_mono (hle.trans hG2) hreps), rfl, by simp only [List.length_cons]; omega, fun h => (by cases h), fun _ => ⟨.inr (by rw [hR, hit, hit2]; rfl), by rw [nd_tot]; simp only [List.length_cons, List.length_nil]; omega⟩⟩
    ·have hlast : ¬ (nth t.fields j).tag ≤ last := fun h => hbrk (.inl h)
     have heq : ¬ u1.out = standF (tyq qs) (nth t.fields j) := fun h => hbrk (.inr h)
     have hrow : rows vcF cs ++ [U8 ((61 : Nat) : Int), S [], I (nth t.fields j).tag, .slice (some ⟨kb, ko, none⟩) 1 kc] = rows vcF (cs ++ [⟨61, [], (nth t.fields j).tag, some ⟨kb, ko, none⟩, 1, kc⟩]) := (rows_snoc vcF cs (⟨61, [], (nth t.fields j).tag, some ⟨kb, ko, none⟩, 1, kc⟩ : VC)).symm
     have hr2 : V.reps G1 (vs ++ [.nd 61 [] (nth t.fields j).tag [u1]]) (cs ++ [⟨61, [], (nth t.fields j).tag, some ⟨kb, ko, none⟩, 1, kc⟩]) := reps_snoc hrep (reps_mono hle hreps)
     have hvl : (vs ++ [V.nd 61 [] (nth t.fields j).tag [u1]]).length = vs.length + 1 := by simp
     have htu : V.tots (vs ++ [V.nd 61 [] (nth t.fields j).tag [u1]]) = V.tots vs + (20 + u1.tot) := by simp [tots_app, V.tots, V.tot]
     cases b1 with
     | true =>
      have hit2 : rdFlds (tyq qs) (rd (tyq qs) n) t m last t' vs = none := flds_none (hbd rfl)
      have cx_tm := c_take (G := G1) (r := r) (sc := sc) (s := t1) (l := [44]) (b := true) ⟨oM, by simp⟩
      rw [tkT, tkST] at cx_tm
      repeat' (first | (refine jR ?_) | (refine jo ?_; first | refine jAl rfl ?_ | (refine jV (g_ldRF rfl rfl aS ?_ rfl rfl) ?_; (focus ((omega); done))) | refine jAm rfl ?_ | refine jD rfl rfl rfl ?_ | refine jC rfl rfl rfl ?_ | refine jF fun _ => ?_ | (refine c_apX rfl rfl rfl rfl rfl rfl rfl rfl rfl oM fun _ _ => ?_) | (refine c_m1g rfl rfl rfl cx_wb rfl ?_; rintro _ _ rfl; dsimp only [zA, fA]) | (refine c_m1g rfl rfl rfl cx_tm rfl ?_; rintro _ _ ⟨rfl, rfl⟩; dsimp only [zA, fA])) | (refine k_tt rfl rfl ?_) | (refine k_ff rfl (dFf ‹_›) ?_) | (refine k_any (s_any (id := 9) _ (fun _ h => h) mixed ?_); refine jT 23 [0] (bts 24 1) ?_; (refine jG (bts 24 3) 1 rfl (g_peq0 rfl rfl) ?_); refine jT 21 [2] (bts 24 7) ?_; (try (refine Nx.re (d := 38) (v' := Bo false) rfl (congrArg Value.bool rfl) ?_)); refine jT 17 [3, 4, 5, 7] (bts 24 191) ?_; ((refine jG (bts 24 255) 6 rfl (g_ldRF rfl rfl aS ?_ rfl rfl) ?_; (focus ((omega); done)))); refine jT 15 [8] (bts 24 511) ?_; (refine jG (bts 24 1023) 9 rfl (g_pickF rfl rfl rfl) ?_); refine jT 13 [10] (bts 24 2047) ?_; (try (refine Nx.re (d := 46) (v' := Bo false) rfl (congrArg Value.bool (dFf ‹_›)) ?_)); refine jT 8 [11, 16, 17, 18, 20] (bts 24 1511423) ?_; (refine jG (bts 24 1515519) 12 rfl (g_ld rfl rfl rfl) ?_); (refine jG (bts 24 1523711) 13 rfl (g_iaddr rfl rfl oM) ?_); ((refine jG (bts 24 1540095) 14 rfl (g_ldR rfl rfl aS ?_) ?_; (focus ((simp only [List.length_append, List.length_cons, List.length_nil, List.length_take]; omega); done)))); (refine jG (bts 24 2064383) 19 rfl (g_ld rfl rfl rfl) ?_); (refine jA 15 rfl ?_; (refine c_rt rfl rfl rfl cx_pr rfl ?_); refine jS (bts 24 2097151) ?_); (refine jA 21 rfl ?_; (refine c_rt rfl rfl rfl cx_of rfl ?_); refine jS (bts 24 4194303) ?_); refine jT 1 [22] (bts 24 8388607) ?_; (refine jG (bts 24 16777215) 23 rfl (g_pickF rfl rfl rfl) ?_); refine jQ ?_))
      rename_i _ y1 yc _
      rw [hrow]
      refine Nx.sealS (v := .slice (some ⟨y1, 0, none⟩) (vs.length + 1) yc) fun G2 hG2 hsl => ?_
      refine k_rr (vs := [_]) rfl ⟨rc_A rfl rfl rfl rfl, trivial⟩ rfl sB ⟨hgl.trans hG2, .nd 82 [] 0 (vs ++ [.nd 61 [] (nth t.fields j).tag [u1]]), ⟨82, [], 0, some ⟨y1, 0, none⟩, vs.length + 1, yc⟩, t1, true, by rw [hso]; rfl, rep_mk dC dC (fun h => absurd h dC) hvl.symm (by rw [List.length_append, List.length_singleton, hcl]; exact hsl) (reps_mono hG2 hr2), rfl, by simp only [List.length_cons]; omega, fun h => (by cases h), fun _ => ⟨.inr (by rw [hR, hit, hit2]; rfl), by rw [nd_tot, htu]; simp only [List.length_cons, List.length_nil]; omega⟩⟩
     | false =>
      have hst := flds_step (ts := tyq qs) (vs := vs) (last := last) (m := m) (hg rfl) oM
      rw [if_neg hbrk] at hst
      have cx_tm := c_take (G := G1) (r := r) (sc := sc) (s := t1) (l := [44]) (b := false) ⟨oM, by simp⟩
      clear cx_wb
      have cx_wb := c_want (G := G1) (r := r) (sc := sc) (s := t1) (l := [125]) (b := false) ⟨oM, by simp⟩
      cases ht3 : tkR [44] t1 false with
      | true =>
       obtain ⟨t2, rfl⟩ := tk1.1 ht3
       rw [ht3, tk1S] at cx_tm
       simp only [List.length_cons] at htl hto
       dsimp only at hst
       rw [if_pos (show (44 : UInt8).toNat = 44 from rfl)] at hst
       have hlt : t2.length < m - 1 := oM
       repeat' (first | (refine jR ?_) | (refine jo ?_; first | refine jAl rfl ?_ | (refine jV (g_ldRF rfl rfl aS ?_ rfl rfl) ?_; (focus ((omega); done))) | refine jAm rfl ?_ | refine jD rfl rfl rfl ?_ | refine jF fun _ => ?_ | (refine c_apX rfl rfl rfl rfl rfl rfl rfl rfl rfl oM fun _ _ => ?_) | (refine c_m1g rfl rfl rfl cx_tm rfl ?_; rintro _ _ ⟨rfl, rfl⟩; dsimp only [zA, fA])) | (refine k_ff rfl (by first | rfl | (refine decide_eq_false ?_; (assumption))) ?_) | (refine k_any (s_any (id := 9) _ (fun _ h => h) mixed ?_); refine jT 23 [0] (bts 24 1) ?_; (refine jG (bts 24 3) 1 rfl (g_peq0 rfl rfl) ?_); refine jT 21 [2] (bts 24 7) ?_; (try (refine Nx.re (d := 38) (v' := Bo false) rfl (congrArg Value.bool rfl) ?_)); refine jT 17 [3, 4, 5, 7] (bts 24 191) ?_; ((refine jG (bts 24 255) 6 rfl (g_ldRF rfl rfl aS ?_ rfl rfl) ?_; (focus ((omega); done)))); refine jT 15 [8] (bts 24 511) ?_; (refine jG (bts 24 1023) 9 rfl (g_pickF rfl rfl rfl) ?_); refine jT 13 [10] (bts 24 2047) ?_; (try (refine Nx.re (d := 46) (v' := Bo false) rfl (congrArg Value.bool (dFf ‹_›)) ?_)); refine jT 8 [11, 16, 17, 18, 20] (bts 24 1511423) ?_; (refine jG (bts 24 1515519) 12 rfl (g_ld rfl rfl rfl) ?_); (refine jG (bts 24 1523711) 13 rfl (g_iaddr rfl rfl oM) ?_); ((refine jG (bts 24 1540095) 14 rfl (g_ldR rfl rfl aS ?_) ?_; (focus ((simp only [List.length_append, List.length_cons, List.length_nil, List.length_take]; omega); done)))); (refine jG (bts 24 2064383) 19 rfl (g_ld rfl rfl rfl) ?_); (refine jA 15 rfl ?_; (refine c_rt rfl rfl rfl cx_pr rfl ?_); refine jS (bts 24 2097151) ?_); (refine jA 21 rfl ?_; (refine c_rt rfl rfl rfl cx_of rfl ?_); refine jS (bts 24 4194303) ?_); refine jT 1 [22] (bts 24 8388607) ?_; (refine jG (bts 24 16777215) 23 rfl (g_pickF rfl rfl rfl) ?_); refine jQ ?_))
       rename_i _ y1 yc
       rw [hrow]
       exact k_rd (vs ++ [.nd 61 [] (nth t.fields j).tag [u1]], cs ++ [⟨61, [], (nth t.fields j).tag, some ⟨kb, ko, none⟩, 1, kc⟩], some ⟨y1, 0, none⟩, yc, t2, m - 1, (nth t.fields j).tag, G1) ⟨⟨hr2, hgl⟩, ⟨by rw [hit, hst], hlt⟩, by dsimp only; omega, by dsimp only; omega⟩ (by dsimp only; omega) tU rfl (by rw [hvl]; repeat (first | exact List.Sublist.refl _ | apply List.Sublist.cons_cons | apply List.Sublist.cons))
      | false =>
       rw [ht3, tkSF ht3] at cx_tm
       cases ht4 : tkR [125] t1 false with
       | true =>
        obtain ⟨t2, rfl⟩ := tk1.1 ht4
        rw [ht4, tk1S, Bool.not_true] at cx_wb
        simp only [List.length_cons] at htl hto
        dsimp only at hst
        rw [if_neg (show ¬ (125 : UInt8).toNat = 44 by decide), if_pos (show (125 : UInt8).toNat = 125 from rfl)] at hst
        have hit2 := hst
        repeat' (first | (refine jR ?_) | (refine jo ?_; first | refine jAl rfl ?_ | (refine jV (g_ldRF rfl rfl aS ?_ rfl rfl) ?_; (focus ((omega); done))) | refine jAm rfl ?_ | refine jD rfl rfl rfl ?_ | refine jC rfl rfl rfl ?_ | refine jF fun _ => ?_ | (refine c_apX rfl rfl rfl rfl rfl rfl rfl rfl rfl oM fun _ _ => ?_) | (refine c_m1g rfl rfl rfl cx_wb rfl ?_; rintro _ _ rfl; dsimp only [zA, fA]) | (refine c_m1g rfl rfl rfl cx_tm rfl ?_; rintro _ _ ⟨rfl, rfl⟩; dsimp only [zA, fA])) | (refine k_tt rfl rfl ?_) | (refine k_ff rfl (dFf ‹_›) ?_) | (refine k_any (s_any (id := 9) _ (fun _ h => h) mixed ?_); refine jT 23 [0] (bts 24 1) ?_; (refine jG (bts 24 3) 1 rfl (g_peq0 rfl rfl) ?_); refine jT 21 [2] (bts 24 7) ?_; (try (refine Nx.re (d := 38) (v' := Bo false) rfl (congrArg Value.bool rfl) ?_)); refine jT 17 [3, 4, 5, 7] (bts 24 191) ?_; ((refine jG (bts 24 255) 6 rfl (g_ldRF rfl rfl aS ?_ rfl rfl) ?_; (focus ((omega); done)))); refine jT 15 [8] (bts 24 511) ?_; (refine jG (bts 24 1023) 9 rfl (g_pickF rfl rfl rfl) ?_); refine jT 13 [10] (bts 24 2047) ?_; (try (refine Nx.re (d := 46) (v' := Bo false) rfl (congrArg Value.bool (dFf ‹_›)) ?_)); refine jT 8 [11, 16, 17, 18, 20] (bts 24 1511423) ?_; (refine jG (bts 24 1515519) 12 rfl (g_ld rfl rfl rfl) ?_); (refine jG (bts 24 1523711) 13 rfl (g_iaddr rfl rfl oM) ?_); ((refine jG (bts 24 1540095) 14 rfl (g_ldR rfl rfl aS ?_) ?_; (focus ((simp only [List.length_append, List.length_cons, List.length_nil, List.length_take]; omega); done)))); (refine jG (bts 24 2064383) 19 rfl (g_ld rfl rfl rfl) ?_); (refine jA 15 rfl ?_; (refine c_rt rfl rfl rfl cx_pr rfl ?_); refine jS (bts 24 2097151) ?_); (refine jA 21 rfl ?_; (refine c_rt rfl rfl rfl cx_of rfl ?_); refine jS (bts 24 4194303) ?_); refine jT 1 [22] (bts 24 8388607) ?_; (refine jG (bts 24 16777215) 23 rfl (g_pickF rfl rfl rfl) ?_); refine jQ ?_))
        rename_i _ y1 yc _
        rw [hrow]
        refine Nx.sealS (v := .slice (some ⟨y1, 0, none⟩) (vs.length + 1) yc) fun G2 hG2 hsl => ?_
        refine k_rr (vs := [_]) rfl ⟨rc_A rfl rfl rfl rfl, trivial⟩ rfl sB ⟨hgl.trans hG2, .nd 82 [] 0 (vs ++ [.nd 61 [] (nth t.fields j).tag [u1]]), ⟨82, [], 0, some ⟨y1, 0, none⟩, vs.length + 1, yc⟩, t2, false, by rw [hso]; rfl, rep_mk dC dC (fun h => absurd h dC) hvl.symm (by rw [List.length_append, List.length_singleton, hcl]; exact hsl) (reps_mono hG2 hr2), rfl, by simp only [List.length_cons]; omega, fun _ => ⟨rfl, by rw [hR, hit, hit2]; rfl⟩, fun h => (by cases h)⟩
       | false =>
        rw [ht4, tkSF ht4, Bool.not_false] at cx_wb
        have hit2 : rdFlds (tyq qs) (rd (tyq qs) n) t m last t' vs = none := by
         rw [hst]
         cases t1 with
         | nil => rfl
         | cons e t2 =>
          dsimp only
          rw [if_neg, if_neg]
          ·intro h
           exact tk_no ht4 t2 (by rw [show e = 125 from UInt8.toNat_inj.1 h])
          ·intro h
           exact tk_no ht3 t2 (by rw [show e = 44 from UInt8.toNat_inj.1 h])
        repeat' (first | (refine jR ?_) | (refine jo ?_; first | refine jAl rfl ?_ | (refine jV (g_ldRF rfl rfl aS ?_ rfl rfl) ?_; (focus ((omega); done))) | refine jAm rfl ?_ | refine jD rfl rfl rfl ?_ | refine jC rfl rfl rfl ?_ | refine jF fun _ => ?_ | (refine c_apX rfl rfl rfl rfl rfl rfl rfl rfl rfl oM fun _ _ => ?_) | (refine c_m1g rfl rfl rfl cx_wb rfl ?_; rintro _ _ rfl; dsimp only [zA, fA]) | (refine c_m1g rfl rfl rfl cx_tm rfl ?_; rintro _ _ ⟨rfl, rfl⟩; dsimp only [zA, fA])) | (refine k_tt rfl rfl ?_) | (refine k_ff rfl (dFf ‹_›) ?_) | (refine k_any (s_any (id := 9) _ (fun _ h => h) mixed ?_); refine jT 23 [0] (bts 24 1) ?_; (refine jG (bts 24 3) 1 rfl (g_peq0 rfl rfl) ?_); refine jT 21 [2] (bts 24 7) ?_; (try (refine Nx.re (d := 38) (v' := Bo false) rfl (congrArg Value.bool rfl) ?_)); refine jT 17 [3, 4, 5, 7] (bts 24 191) ?_; ((refine jG (bts 24 255) 6 rfl (g_ldRF rfl rfl aS ?_ rfl rfl) ?_; (focus ((omega); done)))); refine jT 15 [8] (bts 24 511) ?_; (refine jG (bts 24 1023) 9 rfl (g_pickF rfl rfl rfl) ?_); refine jT 13 [10] (bts 24 2047) ?_; (try (refine Nx.re (d := 46) (v' := Bo false) rfl (congrArg Value.bool (dFf ‹_›)) ?_)); refine jT 8 [11, 16, 17, 18, 20] (bts 24 1511423) ?_; (refine jG (bts 24 1515519) 12 rfl (g_ld rfl rfl rfl) ?_); (refine jG (bts 24 1523711) 13 rfl (g_iaddr rfl rfl oM) ?_); ((refine jG (bts 24 1540095) 14 rfl (g_ldR rfl rfl aS ?_) ?_; (focus ((simp only [List.length_append, List.length_cons, List.length_nil, List.length_take]; omega); done)))); (refine jG (bts 24 2064383) 19 rfl (g_ld rfl rfl rfl) ?_); (refine jA 15 rfl ?_; (refine c_rt rfl rfl rfl cx_pr rfl ?_); refine jS (bts 24 2097151) ?_); (refine jA 21 rfl ?_; (refine c_rt rfl rfl rfl cx_of rfl ?_); refine jS (bts 24 4194303) ?_); refine jT 1 [22] (bts 24 8388607) ?_; (refine jG (bts 24 16777215) 23 rfl (g_pickF rfl rfl rfl) ?_); refine jQ ?_))
        rename_i _ y1 yc _
        rw [hrow]
        refine Nx.sealS (v := .slice (some ⟨y1, 0, none⟩) (vs.length + 1) yc) fun G2 hG2 hsl => ?_
        refine k_rr (vs := [_]) rfl ⟨rc_A rfl rfl rfl rfl, trivial⟩ rfl sB ⟨hgl.trans hG2, .nd 82 [] 0 (vs ++ [.nd 61 [] (nth t.fields j).tag [u1]]), ⟨82, [], 0, some ⟨y1, 0, none⟩, vs.length + 1, yc⟩, t1, true, by rw [hso]; rfl, rep_mk dC dC (fun h => absurd h dC) hvl.symm (by rw [List.length_append, List.length_singleton, hcl]; exact hsl) (reps_mono hG2 hr2), rfl, by simp only [List.length_cons]; omega, fun h => (by cases h), fun _ => ⟨.inr (by rw [hR, hit, hit2]; rfl), by rw [nd_tot, htu]; simp only [List.length_cons, List.length_nil]; omega⟩⟩
theorem c_part {c : UInt8} {a b d : List UInt8} : PuG Tryz.prog 58 [Ag [S (c :: a), S b, S d]] G (· = Ag [S a, S b, S d]) := by
 refine jE [(0, _)] Tryz.func58 Tryz.ntmps58 fun B hB => ?_
 repeat' (first | (refine jX ?_) | (refine jo ?_; first | refine jO fun _ => ?_ | refine jL fun _ => ?_ | refine jAl rfl ?_ | refine jAm rfl ?_ | refine jD rfl rfl rfl ?_ | refine jC rfl rfl rfl ?_))
 refine jZ (vs := [_]) rfl ⟨rc_A rfl rfl rfl rfl, trivial⟩ rfl ⟨rfl, rfl, ?_⟩
 rfl
theorem kdF_cons {c : UInt8} {k : List UInt8} (h : c.toNat = 91 ∨ c.toNat = 63) : sg (c :: k) = c :: sg k ∧ bs (c :: k) = bs k ∧ nm (c :: k) = nm k ∧ core (c :: k) = core k := by
 have hc : core (c :: k) = core k := by rw [core, if_pos h]
 exact ⟨sg_cons h, by unfold bs; rw [hc], by unfold nm; rw [hc], hc⟩
theorem kindIn_tail {ts : List Ty} {c : UInt8} {k : List UInt8} (hc : c.toNat = 91 ∨ c.toNat = 63) (h : kindIn ts (c :: k) = true) : kindIn ts k = true := by
 unfold kindIn at h ⊢
 simp only [Bool.and_eq_true] at h ⊢
 obtain ⟨h1, h2⟩ := h
 refine ⟨?_, ?_⟩
 ·unfold kindOk at h1 ⊢
  simp only [Bool.and_eq_true, decide_eq_true_eq, List.length_cons] at h1 ⊢
  refine ⟨oM, ?_⟩
  have := h1.2
  rw [kOk, if_pos hc] at this
  exact this
 ·unfold hasK at h2 ⊢
  rw [(kdF_cons hc).2.2.2] at h2
  exact h2
theorem rdK_list {ts : List Ty} {f : List UInt8 → List UInt8 → Option (V × List UInt8)} {c : UInt8} {k s : List UInt8} (hc : c.toNat = 91) : rdK ts f (c :: k) s = rdList (f k) s := by
 unfold rdK rdList
 dsimp only
 rw [if_pos hc]
 cases s <;> rfl
theorem c_valBad {r sc : Nat} {k s : List UInt8} : FnG Tryz.prog 83 [Pt r 0, Ag [S (sg k), S (bs k), S (nm k)]] G [scO r sc s true] (fun v L' => v = zP ∧ L' = [scO r sc s true]) := by
 refine jH [(0, _), (1, _)] Tryz.func83 Tryz.ntmps83 fun B hB hW => ?_
 repeat' (first | (refine jR ?_) | (refine jo ?_; first | refine jO fun _ => ?_ | refine jL fun _ => ?_ | refine jAl rfl ?_ | refine jV (g_bld rfl rfl) ?_ | refine jC rfl rfl rfl ?_) | (refine k_tt rfl rfl ?_))
 refine k_rr (vs := [_]) rfl ⟨rc_A rfl rfl rfl rfl, trivial⟩ rfl sB ⟨rfl, rfl, rfl⟩
theorem FnG.toM {P : Program} {f : FuncId} {args : List Value} {L : List Own} {R : Value → List Own → Prop} {R' : Value → Gh → List Own → Prop} (h : FnG P f args G L R) (hr : ∀ v L', R v L' → R' v G L') : FnM P f args G L R' :=
 Fn.mono h fun v G' L' h2 => ⟨h2.1 ▸ Gh.le.refl _, h2.1 ▸ hr v L' h2.2⟩
theorem rep_zero : V.rep G (.nd 0 [] 0 []) ⟨0, [], 0, none, 0, 0⟩ := rep_leaf dC dC
theorem c_valO {n r sc : Nat} {qs : List TyP} {c : UInt8} {k s : List UInt8} (hc : c = 63) (hV : ValC n sc qs) (hS : ScI G sc qs) (hk : kindIn (tyq qs) (c :: k) = true) (hs : s.length < n + 1 ∧ s.length ≤ 1000) :
  FnM Tryz.prog 83 [Pt r 0, Ag (kdF (c :: k))] G [scO r sc s false] (ValP (rd (tyq qs) (n + 1) (c :: k)) r sc s false) := by
 subst hc
 have hk2 := kindIn_tail (.inr rfl) hk
 obtain ⟨e1, e2, e3, _⟩ := kdF_cons (c := 63) (k := k) (.inr rfl)
 have hrd : rd (tyq qs) (n + 1) (63 :: k) s = match s with
   | [] => none
   | d :: s' => if d.toNat = 45 then some (.nd 63 [] 0 [], s') else if d.toNat = 43 then (rd (tyq qs) n k s').map fun x => (.nd 63 [] 0 [x.1], x.2) else none := by
  rw [rd]; unfold rdK
  dsimp only
  rw [if_neg (show ¬ (63 : UInt8).toNat = 91 by decide), if_pos (show (63 : UInt8).toNat = 63 from rfl)]
  cases s <;> rfl
 unfold kdF
 rw [e1, e2, e3]
 have cx_sign := @c_sign1 G 63 (sg k) (bs k) (nm k)
 have cx_pt := @c_part G 63 (sg k) (bs k) (nm k)
 have cx_tk := c_take (G := G) (r := r) (sc := sc) (s := s) (l := [45]) (b := false) ⟨oM, by simp⟩
 have cx_wa := c_want (G := G) (r := r) (sc := sc) (s := s) (l := [43]) (b := false) ⟨oM, by simp⟩
 cases ht : tkR [45] s false with
 | true =>
  obtain ⟨s1, rfl⟩ := tk1.1 ht
  rw [ht, tk1S] at cx_tk
  dsimp only at hrd
  rw [if_pos (show (45 : UInt8).toNat = 45 from rfl)] at hrd
  refine m_enter [(0, _), (1, _)] Tryz.func83 kR Tryz.ntmps83 rfl rfl tU fun B hB hW => ?_
  repeat' (first | (refine jR ?_) | (refine jo ?_; first | refine jO fun _ => ?_ | refine jL fun _ => ?_ | refine jAl rfl ?_ | refine jAm rfl ?_ | refine jV (g_bld rfl rfl) ?_ | refine jC rfl rfl rfl ?_ | (refine c_rt rfl rfl rfl cx_sign rfl ?_) | (refine c_m1g rfl rfl rfl cx_tk rfl ?_; rintro _ _ ⟨rfl, rfl⟩; dsimp only [zA, fA])) | (refine k_tt rfl rfl ?_) | (refine k_ff rfl rfl ?_))
  refine k_rr (vs := [_]) rfl ⟨rc_A rfl rfl rfl rfl, trivial⟩ rfl sB ⟨Gh.le.refl _, .nd 63 [] 0 [], ⟨63, [], 0, none, 0, 0⟩, s1, false, rfl, rep_leaf dC dC, rfl, by simp only [List.length_cons]; omega, fun _ => ⟨rfl, hrd⟩, fun h => (by cases h)⟩
 | false =>
  rw [ht, tkSF ht] at cx_tk
  cases ht2 : tkR [43] s false with
  | false =>
   rw [ht2, tkSF ht2, Bool.not_false] at cx_wa
   have hno : rd (tyq qs) (n + 1) (63 :: k) s = none := by
    rw [hrd]
    cases s with
    | nil => rfl
    | cons d s' =>
     dsimp only
     rw [if_neg, if_neg]
     ·intro h; exact tk_no ht2 s' (by rw [show d = 43 from UInt8.toNat_inj.1 h])
     ·intro h; exact tk_no ht s' (by rw [show d = 45 from UInt8.toNat_inj.1 h])
   refine m_enter [(0, _), (1, _)] Tryz.func83 kR Tryz.ntmps83 rfl rfl tU fun B hB hW => ?_
   repeat' (first | (refine jR ?_) | (refine jo ?_; first | refine jO fun _ => ?_ | refine jL fun _ => ?_ | refine jAl rfl ?_ | refine jAm rfl ?_ | (refine c_rt rfl rfl rfl cx_sign rfl ?_) | (refine c_rt rfl rfl rfl cx_pt rfl ?_) | (refine c_m1g rfl rfl rfl cx_tk rfl ?_; rintro _ _ ⟨rfl, rfl⟩; dsimp only [zA, fA]) | (refine c_m1g rfl rfl rfl cx_wa rfl ?_; rintro _ _ rfl; dsimp only [zA, fA])) | (refine k_tt rfl rfl ?_) | (refine k_ff rfl rfl ?_))
   refine jo ?_
   refine c_m1g rfl rfl rfl c_valBad rfl ?_
   rintro _ _ ⟨rfl, rfl⟩
   dsimp only [zA, fA]
   repeat' (first | (refine jR ?_) | (refine jo ?_; first | refine jV (g_bld rfl rfl) ?_ | refine jC rfl rfl rfl ?_ | refine jF fun _ => ?_))
   rename_i y
   refine Nx.sealC (b := y) fun G2 hG2 hsy => ?_
   have hsl : SlV G2 (.slice (some ⟨y, 0, none⟩) 1 1) 4 ([⟨0, [], 0, none, 0, 0⟩] : List VC).length (rows vcF [⟨0, [], 0, none, 0, 0⟩]) := ⟨rfl, .inr ⟨y, 0, 1, rfl, Nat.le_refl _, hsy⟩⟩
   refine k_rr (vs := [_]) rfl ⟨rc_A rfl rfl rfl rfl, trivial⟩ rfl sB ⟨hG2, .nd 63 [] 0 [.nd 0 [] 0 []], ⟨63, [], 0, some ⟨y, 0, none⟩, 1, 1⟩, s, true, rfl, rep_mk dC dC (fun h => absurd h dC) rfl hsl ⟨_, [], rfl, rep_zero, rfl⟩, rfl, Nat.le_refl _, fun h => (by cases h), fun _ => ⟨.inr hno, by simp only [V.tot, V.tots, List.length_nil]; omega⟩⟩
  | true =>
   obtain ⟨s1, rfl⟩ := tk1.1 ht2
   rw [ht2, tk1S, Bool.not_true] at cx_wa
   simp only [List.length_cons] at hs
   dsimp only at hrd
   rw [if_neg (show ¬ (43 : UInt8).toNat = 45 by decide), if_pos (show (43 : UInt8).toNat = 43 from rfl)] at hrd
   have cx_vl := hV G r k s1 false hS hk2 oM oM
   refine m_enter [(0, _), (1, _)] Tryz.func83 kR Tryz.ntmps83 rfl rfl tU fun B hB hW => ?_
   repeat' (first | (refine jR ?_) | (refine jo ?_; first | refine jO fun _ => ?_ | refine jL fun _ => ?_ | refine jAl rfl ?_ | refine jAm rfl ?_ | refine jV (g_bld rfl rfl) ?_ | refine jC rfl rfl rfl ?_ | refine jF fun _ => ?_ | (refine c_rt rfl rfl rfl cx_sign rfl ?_) | (refine c_rt rfl rfl rfl cx_pt rfl ?_) | (refine c_m1g rfl rfl rfl cx_tk rfl ?_; rintro _ _ ⟨rfl, rfl⟩; dsimp only [zA, fA]) | (refine c_m1g rfl rfl rfl cx_wa rfl ?_; rintro _ _ rfl; dsimp only [zA, fA]) | (refine c_m1s rfl rfl rfl cx_vl rfl ?_; rintro _ G1 _ hle ⟨u1, c1, t1, b1, rfl, hrep, rfl, hP⟩; dsimp only [zA, fA]; skip)) | (refine k_tt rfl rfl ?_) | (refine k_ff rfl rfl ?_))
   rename_i y
   refine Nx.sealC (b := y) fun G2 hG2 hsy => ?_
   have hsl : SlV G2 (.slice (some ⟨y, 0, none⟩) 1 1) 4 ([c1] : List VC).length (rows vcF [c1]) := ⟨rfl, .inr ⟨y, 0, 1, rfl, Nat.le_refl _, hsy⟩⟩
   obtain ⟨hPl, hP0, hP1⟩ := hP
   cases b1 with
   | false =>
    refine k_rr (vs := [_]) rfl ⟨rc_A rfl rfl rfl rfl, trivial⟩ rfl sB ⟨hle.trans hG2, .nd 63 [] 0 [u1], ⟨63, [], 0, some ⟨y, 0, none⟩, 1, 1⟩, t1, false, rfl, rep_mk dC dC (fun h => absurd h dC) rfl hsl ⟨_, [], rfl, rep_mono hG2 hrep, rfl⟩, rfl, by simp only [List.length_cons]; omega, fun _ => ⟨rfl, by rw [hrd, (hP0 rfl).2]; rfl⟩, fun h => (by cases h)⟩
   | true =>
    obtain ⟨hno, hto⟩ := hP1 rfl
    have hno2 : rd (tyq qs) n k s1 = none := by
     rcases hno with h | h
     ·cases h
     ·exact h
    refine k_rr (vs := [_]) rfl ⟨rc_A rfl rfl rfl rfl, trivial⟩ rfl sB ⟨hle.trans hG2, .nd 63 [] 0 [u1], ⟨63, [], 0, some ⟨y, 0, none⟩, 1, 1⟩, t1, true, rfl, rep_mk dC dC (fun h => absurd h dC) rfl hsl ⟨_, [], rfl, rep_mono hG2 hrep, rfl⟩, rfl, by simp only [List.length_cons]; omega, fun h => (by cases h), fun _ => ⟨.inr (by rw [hrd, hno2]; rfl), by simp only [V.tot, V.tots, List.length_nil, List.length_cons]; omega⟩⟩
theorem c_valL {n r sc : Nat} {qs : List TyP} {k s : List UInt8} (hV : ValC n sc qs) (hS : ScI G sc qs) (hk : kindIn (tyq qs) (91 :: k) = true) (hs : s.length < n + 1 ∧ s.length ≤ 1000) :
  FnM Tryz.prog 83 [Pt r 0, Ag (kdF (91 :: k))] G [scO r sc s false] (ValP (rd (tyq qs) (n + 1) (91 :: k)) r sc s false) := by
 have hk2 := kindIn_tail (.inl rfl) hk
 obtain ⟨e1, e2, e3, _⟩ := kdF_cons (c := 91) (k := k) (.inl rfl)
 have hrd : rd (tyq qs) (n + 1) (91 :: k) s = rdList (rd (tyq qs) n k) s := by rw [rd]; exact rdK_list rfl
 unfold kdF
 rw [e1, e2, e3]
 have cx_sign := @c_sign1 G 91 (sg k) (bs k) (nm k)
 have cx_pt := @c_part G 91 (sg k) (bs k) (nm k)
 have cx_li := c_list (G := G) (r := r) (b := false) hV hS hk2 (s := s) ⟨oM, oM⟩
 refine m_enter [(0, _), (1, _)] Tryz.func83 kR Tryz.ntmps83 rfl rfl tU fun B hB hW => ?_
 repeat' (first | (refine jR ?_) | (refine jo ?_; first | refine jO fun _ => ?_ | refine jL fun _ => ?_ | refine jAl rfl ?_ | refine jAm rfl ?_ | refine jC rfl rfl rfl ?_ | (refine c_rt rfl rfl rfl cx_sign rfl ?_) | (refine c_rt rfl rfl rfl cx_pt rfl ?_) | (refine c_m1s rfl rfl rfl cx_li rfl ?_; rintro _ G1 _ hle ⟨u1, c1, t1, b1, rfl, hrep, rfl, hP⟩; dsimp only [zA, fA]; skip)) | (refine k_tt rfl rfl ?_) | (refine k_ff rfl rfl ?_))
 obtain ⟨hPl, hP0, hP1⟩ := hP
 refine k_rr (vs := [_]) rfl ⟨rc_A rfl rfl rfl rfl, trivial⟩ rfl sB ⟨hle, u1, c1, t1, b1, rfl, hrep, rfl, hPl, fun h => ⟨rfl, by rw [hrd]; exact (hP0 h).2⟩, fun h => by rw [hrd]; exact hP1 h⟩
theorem plain_kinds {ts : List Ty} {c : UInt8} {k : List UInt8} (hk : kindIn ts (c :: k) = true) (h91 : ¬ (c.toNat = 91 ∨ c.toNat = 63)) (hr : refT ts (c :: k) = none) : c :: k = [110] ∨ c :: k = [116] ∨ c :: k = [102] := by
 have hko := kindIn_ok hk
 have hcs := core_self (r := k) h91
 have hrn : refN (core (c :: k)) = none := by
  cases hx : refN (core (c :: k)) with
  | none => rfl
  | some x =>
   obtain ⟨t, ht⟩ := kind_refT hk (by rw [hx]; rfl)
   rw [hcs, hr] at ht; cases ht
 have h := bs_plain hko hrn
 have h64 : ¬ c.toNat = 64 := by
  intro h64
  rw [hcs] at hrn
  simp [refN, h64] at hrn
 have e : bs (c :: k) = c :: k := by unfold bs; rw [hcs]; simp [bsT, h64]
 rwa [e] at h
theorem rd_plain {ts : List Ty} {n : Nat} {s : List UInt8} {c : UInt8} (hc : c = 110 ∨ c = 116 ∨ c = 102) (hr : refT ts [c] = none) : rd ts (n + 1) [c] s = if c = 110 then (rdNum 999999 s).map fun x => (.nd 110 (decI x.1) 0 [], x.2) else if c = 116 then rdQuote s else rdFlag s := by
 rw [rd]; unfold rdK
 dsimp only
 rcases hc with rfl | rfl | rfl <;> simp [hr]
theorem c_valN {n r sc : Nat} {qs : List TyP} {s : List UInt8} (hr : refT (tyq qs) [110] = none) (hs : s.length ≤ 1000) :
  FnM Tryz.prog 83 [Pt r 0, Ag (kdF [110])] G [scO r sc s false] (ValP (rd (tyq qs) (n + 1) [110]) r sc s false) := by
 have hrd := rd_plain (ts := tyq qs) (n := n) (s := s) (c := 110) (.inl rfl) hr
 rw [if_pos rfl] at hrd
 have cx_sign := @c_sign0 G [110] []
 have cx_nu := c_number (G := G) (r := r) (sc := sc) (s := s) (b := false) (top := 999999) oM
 have hwl := while_len isDg s
 show FnM Tryz.prog 83 [Pt r 0, Ag [S [], S [110], S []]] G [scO r sc s false] _
 refine m_enter [(0, _), (1, _)] Tryz.func83 kR Tryz.ntmps83 rfl rfl tU fun B hB hW => ?_
 repeat' (first | (refine jR ?_) | (refine jo ?_; first | refine jO fun _ => ?_ | refine jL fun _ => ?_ | refine jAl rfl ?_ | refine jAm rfl ?_ | refine jV (g_bld rfl rfl) ?_ | refine jC rfl rfl rfl ?_ | (refine c_rt rfl rfl rfl cx_sign rfl ?_) | (refine c_m1g rfl rfl rfl cx_nu rfl ?_; rintro _ _ ⟨n1, rfl, ⟨hn0, hn1⟩, hnum, rfl⟩; dsimp only [zA, fA]) | (refine c_rt rfl rfl rfl (c_decimalN oM) rfl ?_)) | (refine k_tt rfl rfl ?_) | (refine k_ff rfl rfl ?_))
 have hdl := decI_len6' hn1
 cases hm : numOf (s.takeWhile isDg) 999999 with
 | none =>
  refine k_rr (vs := [_]) rfl ⟨rc_A rfl rfl rfl rfl, trivial⟩ rfl sB ⟨Gh.le.refl _, .nd 110 (decI n1) 0 [], ⟨110, decI n1, 0, none, 0, 0⟩, s.dropWhile isDg, true, rfl, rep_leaf dC dC, rfl, oM, fun h => (by cases h), fun _ => ⟨.inr (by rw [hrd]; unfold rdNum; rw [hm]; rfl), by simp only [V.tot, V.tots]; omega⟩⟩
 | some m =>
  obtain rfl : n1 = m := hnum m hm
  refine k_rr (vs := [_]) rfl ⟨rc_A rfl rfl rfl rfl, trivial⟩ rfl sB ⟨Gh.le.refl _, .nd 110 (decI n1) 0 [], ⟨110, decI n1, 0, none, 0, 0⟩, s.dropWhile isDg, false, rfl, rep_leaf dC dC, rfl, oM, fun _ => ⟨rfl, by rw [hrd]; unfold rdNum; rw [hm]; rfl⟩, fun h => (by cases h)⟩
theorem c_valT {n r sc : Nat} {qs : List TyP} {s : List UInt8} (hr : refT (tyq qs) [116] = none) (hs : s.length ≤ 1000) :
  FnM Tryz.prog 83 [Pt r 0, Ag (kdF [116])] G [scO r sc s false] (ValP (rd (tyq qs) (n + 1) [116]) r sc s false) := by
 have hrd := rd_plain (ts := tyq qs) (n := n) (s := s) (c := 116) (.inr (.inl rfl)) hr
 rw [if_neg dC, if_pos rfl] at hrd
 have cx_sign := @c_sign0 G [116] []
 have cx_qu := c_quote (G := G) (r := r) (sc := sc) (s := s) (b := false) oM
 show FnM Tryz.prog 83 [Pt r 0, Ag [S [], S [116], S []]] G [scO r sc s false] _
 refine m_enter [(0, _), (1, _)] Tryz.func83 kR Tryz.ntmps83 rfl rfl tU fun B hB hW => ?_
 repeat' (first | (refine jR ?_) | (refine jo ?_; first | refine jO fun _ => ?_ | refine jL fun _ => ?_ | refine jAl rfl ?_ | refine jAm rfl ?_ | refine jV (g_bld rfl rfl) ?_ | refine jC rfl rfl rfl ?_ | (refine c_rt rfl rfl rfl cx_sign rfl ?_) | (refine c_m1g rfl rfl rfl cx_qu rfl ?_; rintro _ _ ⟨x1, t1, b1, rfl, hQ, rfl⟩; dsimp only [zA, fA])) | (refine k_tt rfl rfl ?_) | (refine k_ff rfl rfl ?_))
 obtain ⟨hQl, hQ0, hQ1⟩ := hQ
 refine k_rr (vs := [_]) rfl ⟨rc_A rfl rfl rfl rfl, trivial⟩ rfl sB ⟨Gh.le.refl _, .nd 116 x1 0 [], ⟨116, x1, 0, none, 0, 0⟩, t1, b1, rfl, rep_leaf dC dC, rfl, oM, fun h => ⟨rfl, by rw [hrd]; exact (hQ0 h).2⟩, fun h => ⟨.inr (by rw [hrd]; rcases hQ1 h with h | h; cases h; exact h), by simp only [V.tot, V.tots]; omega⟩⟩
theorem c_valF {n r sc : Nat} {qs : List TyP} {s : List UInt8} (hr : refT (tyq qs) [102] = none) (hs : s.length ≤ 1000) :
  FnM Tryz.prog 83 [Pt r 0, Ag (kdF [102])] G [scO r sc s false] (ValP (rd (tyq qs) (n + 1) [102]) r sc s false) := by
 have hrd := rd_plain (ts := tyq qs) (n := n) (s := s) (c := 102) (.inr (.inr rfl)) hr
 rw [if_neg dC, if_neg dC] at hrd
 unfold rdFlag at hrd
 have cx_sign := @c_sign0 G [102] []
 have cx_tk := c_take (G := G) (r := r) (sc := sc) (s := s) (l := [121, 101, 115]) (b := false) ⟨oM, by simp⟩
 have cx_wa := c_want (G := G) (r := r) (sc := sc) (s := s) (l := [110, 111]) (b := false) ⟨oM, by simp⟩
 have ey : ∀ l : List UInt8, tkR l s false = l.isPrefixOf s := fun l => by simp [tkR]
 have el : ∀ l : List UInt8, l.isPrefixOf s = true → s.length = l.length + (s.drop l.length).length := fun l h => by
  have := pre_out h
  have h2 := congrArg List.length this
  rwa [List.length_append] at h2
 show FnM Tryz.prog 83 [Pt r 0, Ag [S [], S [102], S []]] G [scO r sc s false] _
 cases hy : ([121, 101, 115] : List UInt8).isPrefixOf s with
 | true =>
  have hl : s.length = 3 + (s.drop 3).length := el _ hy
  unfold tkS at cx_tk
  rw [ey, hy, if_pos rfl] at cx_tk
  rw [hy, if_pos rfl] at hrd
  refine m_enter [(0, _), (1, _)] Tryz.func83 kR Tryz.ntmps83 rfl rfl tU fun B hB hW => ?_
  repeat' (first | (refine jR ?_) | (refine jo ?_; first | refine jO fun _ => ?_ | refine jL fun _ => ?_ | refine jAl rfl ?_ | refine jAm rfl ?_ | refine jV (g_bld rfl rfl) ?_ | refine jC rfl rfl rfl ?_ | (refine c_rt rfl rfl rfl cx_sign rfl ?_) | (refine c_m1g rfl rfl rfl cx_tk rfl ?_; rintro _ _ ⟨rfl, rfl⟩; dsimp only [zA, fA])) | (refine k_tt rfl rfl ?_) | (refine k_ff rfl rfl ?_))
  refine k_rr (vs := [_]) rfl ⟨rc_A rfl rfl rfl rfl, trivial⟩ rfl sB ⟨Gh.le.refl _, .nd 102 [121, 101, 115] 0 [], ⟨102, [121, 101, 115], 0, none, 0, 0⟩, s.drop 3, false, rfl, rep_leaf dC dC, rfl, oM, fun _ => ⟨rfl, hrd⟩, fun h => (by cases h)⟩
 | false =>
  have h1 : tkR [121, 101, 115] s false = false := by rw [ey, hy]
  rw [h1, tkSF h1] at cx_tk
  rw [hy, if_neg dC] at hrd
  cases hno : ([110, 111] : List UInt8).isPrefixOf s with
  | true =>
   have hl : s.length = 2 + (s.drop 2).length := el _ hno
   unfold tkS at cx_wa
   rw [ey, hno, if_pos rfl] at cx_wa
   rw [hno, if_pos rfl] at hrd
   refine m_enter [(0, _), (1, _)] Tryz.func83 kR Tryz.ntmps83 rfl rfl tU fun B hB hW => ?_
   repeat' (first | (refine jR ?_) | (refine jo ?_; first | refine jO fun _ => ?_ | refine jL fun _ => ?_ | refine jAl rfl ?_ | refine jAm rfl ?_ | refine jV (g_bld rfl rfl) ?_ | refine jC rfl rfl rfl ?_ | (refine c_rt rfl rfl rfl cx_sign rfl ?_) | (refine c_m1g rfl rfl rfl cx_tk rfl ?_; rintro _ _ ⟨rfl, rfl⟩; dsimp only [zA, fA]) | (refine c_m1g rfl rfl rfl cx_wa rfl ?_; rintro _ _ rfl; dsimp only [zA, fA])) | (refine k_tt rfl rfl ?_) | (refine k_ff rfl rfl ?_))
   refine k_rr (vs := [_]) rfl ⟨rc_A rfl rfl rfl rfl, trivial⟩ rfl sB ⟨Gh.le.refl _, .nd 102 [110, 111] 0 [], ⟨102, [110, 111], 0, none, 0, 0⟩, s.drop 2, false, rfl, rep_leaf dC dC, rfl, oM, fun _ => ⟨rfl, hrd⟩, fun h => (by cases h)⟩
  | false =>
   have h2 : tkR [110, 111] s false = false := by rw [ey, hno]
   rw [h2, tkSF h2, Bool.not_false] at cx_wa
   rw [hno, if_neg dC] at hrd
   refine m_enter [(0, _), (1, _)] Tryz.func83 kR Tryz.ntmps83 rfl rfl tU fun B hB hW => ?_
   repeat' (first | (refine jR ?_) | (refine jo ?_; first | refine jO fun _ => ?_ | refine jL fun _ => ?_ | refine jAl rfl ?_ | refine jAm rfl ?_ | refine jV (g_bld rfl rfl) ?_ | refine jC rfl rfl rfl ?_ | (refine c_rt rfl rfl rfl cx_sign rfl ?_) | (refine c_m1g rfl rfl rfl cx_tk rfl ?_; rintro _ _ ⟨rfl, rfl⟩; dsimp only [zA, fA]) | (refine c_m1g rfl rfl rfl cx_wa rfl ?_; rintro _ _ rfl; dsimp only [zA, fA])) | (refine k_tt rfl rfl ?_) | (refine k_ff rfl rfl ?_))
   refine k_rr (vs := [_]) rfl ⟨rc_A rfl rfl rfl rfl, trivial⟩ rfl sB ⟨Gh.le.refl _, .nd 102 [110, 111] 0 [], ⟨102, [110, 111], 0, none, 0, 0⟩, s, true, rfl, rep_leaf dC dC, rfl, Nat.le_refl _, fun h => (by cases h), fun _ => ⟨.inr hrd, by simp only [V.tot, V.tots, List.length_cons, List.length_nil]; omega⟩⟩
theorem c_valA {n r sc : Nat} {qs : List TyP} {c : UInt8} {k s : List UInt8} {t : Ty} (h91 : ¬ (c.toNat = 91 ∨ c.toNat = 63)) (hV : ValC n sc qs) (hS : ScI G sc qs) (hw : SchW (tyq qs)) (hk : kindIn (tyq qs) (c :: k) = true) (hrf : refT (tyq qs) (c :: k) = some t) (hs : s.length < n + 1 ∧ s.length ≤ 1000) :
  FnM Tryz.prog 83 [Pt r 0, Ag (kdF (c :: k))] G [scO r sc s false] (ValP (rd (tyq qs) (n + 1) (c :: k)) r sc s false) := by
 have hko := kindIn_ok hk
 have hsg := sg_none (r := k) h91
 have hcs := core_self (r := k) h91
 have hrn : (refN (core (c :: k))).isSome = true := by
  rw [hcs]; unfold refT at hrf
  cases hx : refN (c :: k) with
  | none => rw [hx] at hrf; cases hrf
  | some x => rfl
 have hbs : bs (c :: k) = [64] := (bs_at hko).2 hrn
 have hnm : refN (c :: k) = some (nm (c :: k)) := by
  unfold nm; rw [hcs] at hrn ⊢
  cases hx : refN (c :: k) with
  | none => rw [hx] at hrn; cases hrn
  | some x => rfl
 have hft : findT (tyq qs) (nm (c :: k)) = some t := by unfold refT at hrf; rw [hnm] at hrf; exact hrf
 have hkv := kvF_find qs (nm (c :: k))
 rw [← findQ_ty] at hft
 rcases hfq : findQ qs (nm (c :: k)) with _ | ⟨p, t'⟩
 ·rw [hfq] at hft; cases hft
 rw [hfq] at hft hkv
 dsimp only [Option.map_some] at hft hkv
 have htt : t' = t := Option.some.inj hft
 subst htt
 have hqm := findQ_mem hfq
 have htm := refT_mem hrf
 have hW := hw.ty t' htm
 have hT : TyI G p t' := hS.ty _ hqm
 obtain ⟨u, m, g1, g2, g3⟩ := hS.at'
 have hrd : rd (tyq qs) (n + 1) (c :: k) s = rdTyped (tyq qs) (rd (tyq qs) n) t' s := by
  rw [rd]; unfold rdK
  dsimp only
  rw [if_neg (fun h => h91 (.inl h)), if_neg (fun h => h91 (.inr h)), hrf]
 have cx_ot : FnM Tryz.prog 120 [Pt r 0, Pt p 0] G [scO r sc s false] (ValP (rdTyped (tyq qs) (rd (tyq qs) n) t') r sc s false) := by
  rcases hW.sort with h | h | h
  ·exact c_ofR hV hS hw (fun d hd => kind_in hw htm oM hd) hT hW h ⟨oM, oM⟩
  ·exact c_ofU hV hS (fun d hd => kind_in hw htm oM hd) hT hW h ⟨oM, oM⟩
  ·exact c_ofE hT hW h ⟨oM, oM⟩
 have cx_sign := @c_sign0 G [64] (nm (c :: k))
 unfold kdF
 rw [hsg, hbs]
 clear hft hfq hnm hrn hcs
 refine m_enter [(0, _), (1, _)] Tryz.func83 kR Tryz.ntmps83 rfl rfl tU fun B hB hW => ?_
 repeat' (first | (refine jR ?_) | (refine jo ?_; first | refine jO fun _ => ?_ | refine jL fun _ => ?_ | refine jAl rfl ?_ | refine jAm rfl ?_ | (refine c_rt rfl rfl rfl cx_sign rfl ?_)) | (refine k_ff rfl rfl ?_))
 rename_i x3 x4
 (refine k_any (s_any (id := 21) [.blk x3 (.cells (List.toArray [S [], S [64], S (nm (c :: k))]) tKnd (0, 0))] (by intro y hy; simp only [List.mem_cons, List.not_mem_nil, or_false] at hy ⊢; simp [hy]) mixed ?_); refine jW 8 [0, 1, 2, 3, 8] (bts 13 271) ?_; (refine jG (bts 13 783) 9 rfl (g_ld rfl rfl rfl) ?_); refine jA 4 rfl ?_; (refine jAl rfl ?_); refine jK (bts 13 799) ?_; refine jW 4 [5, 6] (bts 13 895) ?_; (refine jG (bts 13 1023) 7 rfl (g_ldS rfl rfl aS rfl rfl) ?_); ((refine jG (bts 13 2047) 10 rfl (g_lookupX rfl rfl (map_G aS) aS rfl) ?_)); refine jA 11 rfl ?_; (refine c_m1s rfl rfl rfl cx_ot rfl ?_; rintro _ G1 _ hle ⟨u1, c1, t1, b1, rfl, hrep, rfl, hP⟩; dsimp only [zA, fA]; skip); refine jK (bts 13 4095) ?_; refine jA 12 rfl ?_; (refine jC rfl rfl rfl ?_); refine jK (bts 13 8191) ?_; refine jQ ?_)
 all_goals repeat' (refine jR ?_)
 all_goals (obtain ⟨hPl, hP0, hP1⟩ := hP)
 all_goals refine k_rr (vs := [_]) rfl ⟨rc_A rfl rfl rfl rfl, trivial⟩ rfl sB ⟨hle, u1, c1, t1, b1, rfl, hrep, rfl, hPl, fun h => ⟨rfl, by rw [hrd]; exact (hP0 h).2⟩, fun h => by rw [hrd]; exact hP1 h⟩
theorem valC_all {sc : Nat} {qs : List TyP} (hw : SchW (tyq qs)) : ∀ n, ValC n sc qs
 | 0 => fun G r k s b _ _ h _ => absurd h (Nat.not_lt_zero _)
 | n + 1 => fun G r k s b hS hk hn hs => by
  have hV := valC_all (sc := sc) hw n
  cases b with
  | true =>
   exact c_valBad.toM fun v L' ⟨h1, h2⟩ => ⟨.nd 0 [] 0 [], ⟨0, [], 0, none, 0, 0⟩, s, true, h1, rep_zero, h2, Nat.le_refl _, fun h => (by cases h), fun _ => ⟨.inl rfl, by simp only [V.tot, V.tots, List.length_nil]; omega⟩⟩
  | false =>
   match k, hk with
   | [], hk => cases hk
   | c :: k, hk =>
    by_cases h1 : c.toNat = 91
    ·obtain rfl := u8_eq h1 dC
     exact c_valL hV hS hk ⟨hn, hs⟩
    by_cases h2 : c.toNat = 63
    ·obtain rfl := u8_eq h2 dC
     exact c_valO rfl hV hS hk ⟨hn, hs⟩
    have h91 : ¬ (c.toNat = 91 ∨ c.toNat = 63) := fun h => by rcases h with h | h <;> omega
    cases hr : refT (tyq qs) (c :: k) with
    | some t => exact c_valA h91 hV hS hw hk hr ⟨hn, hs⟩
    | none =>
     rcases plain_kinds hk h91 hr with e | e | e
     ·rw [e] at hr ⊢; exact c_valN hr hs
     ·rw [e] at hr ⊢; exact c_valT hr hs
     ·rw [e] at hr ⊢; exact c_valF hr hs
end Go.E
namespace Go.E
set_option maxRecDepth 20000
set_option maxHeartbeats 2000000
def wfW (w : Nat) (x : List UInt8) (t : Int) (ks : List V) : Prop :=
 (w = 110 ∧ ks = [] ∧ t = 0 ∧ ∃ n : Int, 0 ≤ n ∧ n ≤ 999999 ∧ x = decI n ∧ numOf x 999999 = some n)
 ∨ (w = 116 ∧ ks = [] ∧ t = 0 ∧ isTx (39 :: (x ++ [39])) = true)
 ∨ (w = 102 ∧ ks = [] ∧ t = 0 ∧ (x = [121, 101, 115] ∨ x = [110, 111]))
 ∨ (w = 91 ∧ x = [] ∧ t = 0 ∧ ks.length ≤ 20 ∧ ∀ v ∈ ks, v.what ≠ 61)
 ∨ (w = 63 ∧ x = [] ∧ t = 0 ∧ ks.length ≤ 1 ∧ ∀ v ∈ ks, v.what ≠ 61)
 ∨ (w = 69 ∧ x = [] ∧ 0 ≤ t ∧ t ≤ 200 ∧ ks = [])
 ∨ (w = 85 ∧ x = [] ∧ 0 ≤ t ∧ t ≤ 200 ∧ ks.length = 1 ∧ ∀ v ∈ ks, v.what ≠ 61)
 ∨ (w = 61 ∧ x = [] ∧ 0 ≤ t ∧ t ≤ 200 ∧ ks.length = 1 ∧ ∀ v ∈ ks, v.what ≠ 61)
 ∨ (w = 82 ∧ x = [] ∧ t = 0 ∧ ks.Pairwise (fun a b => a.tag < b.tag) ∧ ∀ v ∈ ks, v.what = 61)
mutual
def V.wf : V → Prop
 | .nd w x t ks => wfW w x t ks ∧ V.wfs ks
def V.wfs : List V → Prop
 | [] => True
 | v :: r => V.wf v ∧ V.wfs r
end
theorem wfs_iff : ∀ {ks : List V}, V.wfs ks ↔ ∀ v ∈ ks, v.wf
 | [] => by simp [V.wfs]
 | v :: r => by rw [V.wfs, wfs_iff (ks := r)]; simp
theorem digF_n0 : ∀ (s : List UInt8) {n m : Int}, 0 ≤ n → digF n s = some m → 0 ≤ m
 | [], n, m, h, e => by simp only [digF, Option.some.injEq] at e; omega
 | c :: s, n, m, h, e => by
  unfold digF at e
  split at e
  ·exact digF_n0 s oM e
  ·cases e
theorem numOf_nn {s : List UInt8} {top n : Int} (h : numOf s top = some n) : 0 ≤ n := by
 unfold numOf at h
 split at h
 ·split at h
  ·split at h
   ·rename_i h1 _ _ _ h2; simp only [Option.some.injEq] at h; subst h; exact digF_n0 _ (Int.le_refl 0) aS
   ·cases h
  ·cases h
 ·cases h
theorem rdNum_wf {top : Int} {s r : List UInt8} {n : Int} (h : rdNum top s = some (n, r)) : 0 ≤ n ∧ n ≤ top ∧ numOf (decI n) top = some n := by
 unfold rdNum at h
 cases hn : numOf (s.takeWhile isDg) top with
 | none => rw [hn] at h; cases h
 | some m =>
  rw [hn] at h
  simp only [Option.map_some, Option.some.injEq, Prod.mk.injEq] at h
  obtain ⟨rfl, _⟩ := h
  obtain ⟨h1, h2, _⟩ := numOf_le hn
  exact ⟨numOf_nn hn, h1, by rw [← h2]; exact hn⟩
theorem rdItems_len {f : List UInt8 → Option (V × List UInt8)} : ∀ (m : Nat) (s : List UInt8) (acc : List V) {x : List V × List UInt8}, rdItems f m s acc = some x → x.1.length ≤ acc.length + m
 | 0, _, _, _, e => by cases e
 | m + 1, s, acc, x, e => by
  unfold rdItems at e
  cases hf : f s with
  | none => rw [hf] at e; cases e
  | some y =>
   rw [hf] at e
   obtain ⟨v, r⟩ := y
   cases r with
   | nil => cases e
   | cons c r =>
    dsimp only at e
    split at e
    ·have := rdItems_len m r _ e
     simp only [List.length_append, List.length_singleton] at this; omega
    ·split at e
     ·simp only [Option.some.injEq] at e; subst e
      simp only [List.length_append, List.length_singleton]; omega
     ·cases e
theorem rdField_wf {f : List UInt8 → List UInt8 → Option (V × List UInt8)} {t : Ty} {s : List UInt8} {x : (Fld × V) × List UInt8} (e : rdField f t s = some x) : 0 ≤ x.1.1.tag ∧ x.1.1.tag ≤ 200 := by
 unfold rdField at e
 cases hn : rdNum 200 s with
 | none => rw [hn] at e; cases e
 | some y =>
  rw [hn] at e
  obtain ⟨n, r⟩ := y
  have h1 := rdNum_wf hn
  dsimp only at e
  cases hd : fldT t.fields n with
  | none => rw [hd] at e; cases e
  | some d =>
   rw [hd] at e
   have h2 : d.tag = n := by have := List.find?_some hd; simpa using this
   cases r with
   | nil => cases e
   | cons c r' =>
    dsimp only at e
    by_cases hc : c.toNat = 61
    ·rw [if_pos hc] at e
     cases hf : f d.kind r' with
     | none => rw [hf] at e; cases e
     | some y =>
      rw [hf] at e
      simp only [Option.map_some, Option.some.injEq] at e
      subst e
      dsimp only; omega
    ·rw [if_neg hc] at e; cases e
theorem rdFlds_wf {ts : List Ty} {f : List UInt8 → List UInt8 → Option (V × List UInt8)} (h : ∀ k s y, f k s = some y → y.1.wf ∧ y.1.what ≠ 61) {t : Ty} : ∀ (m : Nat) (last : Int) (s : List UInt8) (acc : List V) {x : List V × List UInt8}, rdFlds ts f t m last s acc = some x → (∀ v ∈ acc, v.wf ∧ v.what = 61 ∧ v.tag ≤ last) → acc.Pairwise (fun a b => a.tag < b.tag) → (∀ v ∈ x.1, v.wf ∧ v.what = 61) ∧ x.1.Pairwise (fun a b => a.tag < b.tag)
 | 0, _, _, _, _, e, _, _ => by cases e
 | m + 1, last, s, acc, x, e, ha, hp => by
  unfold rdFlds at e
  cases hf : rdField f t s with
  | none => rw [hf] at e; cases e
  | some y =>
   rw [hf] at e
   obtain ⟨_, s', hy⟩ := rdField_inv hf
   have ht := rdField_wf hf
   obtain ⟨⟨d, v⟩, r⟩ := y
   dsimp only at e hy ht
   obtain ⟨hv1, hv2⟩ := h _ _ _ hy
   dsimp only at hv1 hv2
   split at e
   ·cases e
   ·rename_i hd
    have hd' : last < d.tag := oM
    have hw : V.wf (.nd 61 [] d.tag [v]) := by
     rw [V.wf]
     refine ⟨.inr (.inr (.inr (.inr (.inr (.inr (.inr (.inl ⟨rfl, rfl, ht.1, ht.2, rfl, ?_⟩))))))), ?_, trivial⟩
     ·intro u hu; simp only [List.mem_singleton] at hu; subst hu; exact hv2
     ·exact hv1
    have ha2 : ∀ u ∈ acc ++ [V.nd 61 [] d.tag [v]], u.wf ∧ u.what = 61 ∧ u.tag ≤ d.tag := fun u hu => by
     rcases List.mem_append.1 hu with hu | hu
     ·obtain ⟨a1, a2, a3⟩ := ha u hu; exact ⟨a1, a2, oM⟩
     ·simp only [List.mem_singleton] at hu; subst hu; exact ⟨hw, rfl, Int.le_refl _⟩
    have hp2 : (acc ++ [V.nd 61 [] d.tag [v]]).Pairwise (fun a b => a.tag < b.tag) := by
     rw [List.pairwise_append]
     refine ⟨hp, List.pairwise_singleton _ _, fun a hA b hB => ?_⟩
     simp only [List.mem_singleton] at hB; subst hB
     have := (ha a hA).2.2
     show a.tag < d.tag
     omega
    cases r with
    | nil => cases e
    | cons c r =>
     dsimp only at e
     split at e
     ·exact rdFlds_wf h m _ r _ e ha2 hp2
     ·split at e
      ·simp only [Option.some.injEq] at e; subst e
       exact ⟨fun u hu => ⟨(ha2 u hu).1, (ha2 u hu).2.1⟩, hp2⟩
      ·cases e
theorem rd_wf {ts : List Ty} : ∀ (n : Nat) (k s : List UInt8) (x : V × List UInt8), rd ts n k s = some x → x.1.wf ∧ x.1.what ≠ 61
 | 0, _, _, _, e => by cases e
 | n + 1, k, s, x, e => by
  have ih : ∀ k s y, rd ts n k s = some y → y.1.wf ∧ y.1.what ≠ 61 := fun k s y hy => rd_wf n k s y hy
  have h := rdK_inv k s (x := x) e
  obtain ⟨v, r⟩ := x
  dsimp only at h ⊢
  cases h with
  | lst0 => exact ⟨by rw [V.wf]; exact ⟨.inr (.inr (.inr (.inl ⟨rfl, rfl, rfl, by simp, by simp⟩))), trivial⟩, by simp [V.what]⟩
  | lst k s r vs h =>
   have h1 := rdItems_len _ _ _ h
   have h2 := rdItems_all (p := fun v => v.wf ∧ v.what ≠ 61) (fun s y hy => ih k s y hy) _ _ _ h (by simp)
   refine ⟨by rw [V.wf]; exact ⟨.inr (.inr (.inr (.inl ⟨rfl, rfl, rfl, by simpa using h1, fun v hv => (h2 v hv).2⟩))), wfs_iff.2 fun v hv => (h2 v hv).1⟩, by simp [V.what]⟩
  | non => exact ⟨by rw [V.wf]; exact ⟨.inr (.inr (.inr (.inr (.inl ⟨rfl, rfl, rfl, by simp, by simp⟩)))), trivial⟩, by simp [V.what]⟩
  | opt k s r v h =>
   have h1 := ih _ _ _ h
   have h2 : ∀ u ∈ [v], u.what ≠ 61 := fun u hu => by simp only [List.mem_singleton] at hu; subst hu; exact h1.2
   exact ⟨by rw [V.wf]; exact ⟨.inr (.inr (.inr (.inr (.inl ⟨rfl, rfl, rfl, by simp, h2⟩)))), h1.1, trivial⟩, by simp [V.what]⟩
  | num k s r n _ h =>
   have h1 := rdNum_wf h
   exact ⟨by rw [V.wf]; exact ⟨.inl ⟨rfl, rfl, rfl, n, h1.1, h1.2.1, rfl, h1.2.2⟩, trivial⟩, by simp [V.what]⟩
  | txt k s r v _ h =>
   unfold rdQuote at h
   split at h
   ·cases h
   ·split at h
    ·split at h
     ·split at h
      ·rename_i hx
       simp only [Option.some.injEq, Prod.mk.injEq] at h
       obtain ⟨rfl, _⟩ := h
       exact ⟨by rw [V.wf]; exact ⟨.inr (.inl ⟨rfl, rfl, rfl, hx⟩), trivial⟩, by simp [V.what]⟩
      ·cases h
     ·cases h
    ·cases h
  | flg k s r v _ h =>
   unfold rdFlag at h
   split at h
   ·simp only [Option.some.injEq, Prod.mk.injEq] at h
    obtain ⟨rfl, _⟩ := h
    exact ⟨by rw [V.wf]; exact ⟨.inr (.inr (.inl ⟨rfl, rfl, rfl, .inl rfl⟩)), trivial⟩, by simp [V.what]⟩
   ·split at h
    ·simp only [Option.some.injEq, Prod.mk.injEq] at h
     obtain ⟨rfl, _⟩ := h
     exact ⟨by rw [V.wf]; exact ⟨.inr (.inr (.inl ⟨rfl, rfl, rfl, .inr rfl⟩)), trivial⟩, by simp [V.what]⟩
    ·cases h
  | recd0 => exact ⟨by rw [V.wf]; exact ⟨.inr (.inr (.inr (.inr (.inr (.inr (.inr (.inr ⟨rfl, rfl, rfl, by simp, by simp⟩))))))), trivial⟩, by simp [V.what]⟩
  | recd k s r t vs _ _ h =>
   have h1 := rdFlds_wf ih _ _ _ _ h (by simp) (by simp)
   exact ⟨by rw [V.wf]; exact ⟨.inr (.inr (.inr (.inr (.inr (.inr (.inr (.inr ⟨rfl, rfl, rfl, h1.2, fun v hv => (h1.1 v hv).2⟩))))))), wfs_iff.2 fun v hv => (h1.1 v hv).1⟩, by simp [V.what]⟩
  | enm k s r t n _ _ h _ =>
   have h1 := rdNum_wf h
   exact ⟨by rw [V.wf]; exact ⟨.inr (.inr (.inr (.inr (.inr (.inl ⟨rfl, rfl, h1.1, h1.2.1, rfl⟩))))), trivial⟩, by simp [V.what]⟩
  | uni k s r t d v _ _ _ h =>
   obtain ⟨_, s', hy⟩ := rdField_inv h
   have ht := rdField_wf h
   have h1 := ih _ _ _ hy
   have h2 : ∀ u ∈ [v], u.what ≠ 61 := fun u hu => by simp only [List.mem_singleton] at hu; subst hu; exact h1.2
   exact ⟨by rw [V.wf]; exact ⟨.inr (.inr (.inr (.inr (.inr (.inr (.inl ⟨rfl, rfl, ht.1, ht.2, rfl, h2⟩)))))), h1.1, trivial⟩, by simp [V.what]⟩
theorem valOf_wf {ts : List Ty} {k s : List UInt8} {v : V} (h : valOf ts k s = some v) : v.wf ∧ v.what ≠ 61 := by
 unfold valOf at h
 split at h
 ·split at h
  ·rename_i hr
   simp only [Option.some.injEq] at h; subst h
   exact rd_wf _ _ _ _ hr
  ·cases h
 ·cases h
abbrev fldV (p : Fld × V) : V := .nd 61 [] p.1.tag [p.2]
inductive OfK (ts : List Ty) : List UInt8 → V → Prop
 | num (k : List UInt8) (n : Int) : 0 ≤ n → n ≤ 999999 → OfK ts (110 :: k) (.nd 110 (decI n) 0 [])
 | txt (k x : List UInt8) : isTx (39 :: (x ++ [39])) = true → OfK ts (116 :: k) (.nd 116 x 0 [])
 | flg (k x : List UInt8) : x = [121, 101, 115] ∨ x = [110, 111] → OfK ts (102 :: k) (.nd 102 x 0 [])
 | lst (k : List UInt8) (ks : List V) : ks.length ≤ 20 → (∀ v ∈ ks, OfK ts k v) → OfK ts (91 :: k) (.nd 91 [] 0 ks)
 | non (k : List UInt8) : OfK ts (63 :: k) (.nd 63 [] 0 [])
 | opt (k : List UInt8) (v : V) : OfK ts k v → OfK ts (63 :: k) (.nd 63 [] 0 [v])
 | recd (k : List UInt8) (t : Ty) (fs : List (Fld × V)) : refT ts k = some t → t.sort = 82 → (∀ p ∈ fs, p.1 ∈ t.fields) → (∀ p ∈ fs, OfK ts p.1.kind p.2) → (∀ p ∈ fs, p.2.out ≠ standF ts p.1) → fs.Pairwise (fun a b => a.1.tag < b.1.tag) → OfK ts k (.nd 82 [] 0 (fs.map fldV))
 | enm (k : List UInt8) (t : Ty) (d : Fld) : refT ts k = some t → t.sort = 69 → d ∈ t.fields → OfK ts k (.nd 69 [] d.tag [])
 | uni (k : List UInt8) (t : Ty) (d : Fld) (v : V) : refT ts k = some t → t.sort ≠ 82 → t.sort ≠ 69 → d ∈ t.fields → OfK ts d.kind v → OfK ts k (.nd 85 [] d.tag [v])
theorem rdFlds_of {ts : List Ty} {f : List UInt8 → List UInt8 → Option (V × List UInt8)} (h : ∀ k s y, f k s = some y → OfK ts k y.1) {t : Ty} : ∀ (m : Nat) (last : Int) (s : List UInt8) (fs : List (Fld × V)) {x : List V × List UInt8}, rdFlds ts f t m last s (fs.map fldV) = some x → (∀ p ∈ fs, p.1 ∈ t.fields ∧ OfK ts p.1.kind p.2 ∧ p.2.out ≠ standF ts p.1 ∧ p.1.tag ≤ last) → fs.Pairwise (fun a b => a.1.tag < b.1.tag) →
  ∃ gs : List (Fld × V), x.1 = gs.map fldV ∧ (∀ p ∈ gs, p.1 ∈ t.fields ∧ OfK ts p.1.kind p.2 ∧ p.2.out ≠ standF ts p.1) ∧ gs.Pairwise (fun a b => a.1.tag < b.1.tag)
 | 0, _, _, _, _, e, _, _ => by cases e
 | m + 1, last, s, fs, x, e, ha, hp => by
  unfold rdFlds at e
  cases hf : rdField f t s with
  | none => rw [hf] at e; cases e
  | some y =>
   rw [hf] at e
   obtain ⟨hd1, s', hy⟩ := rdField_inv hf
   obtain ⟨⟨d, v⟩, r⟩ := y
   dsimp only at e hy hd1
   have hv := h _ _ _ hy
   dsimp only at hv
   split at e
   ·cases e
   ·rename_i hd
    have hd' : last < d.tag := oM
    have hne : v.out ≠ standF ts d := fun h => hd (.inr h)
    have e2 : fs.map fldV ++ [V.nd 61 [] d.tag [v]] = (fs ++ [(d, v)]).map fldV := by simp
    have ha2 : ∀ p ∈ fs ++ [(d, v)], p.1 ∈ t.fields ∧ OfK ts p.1.kind p.2 ∧ p.2.out ≠ standF ts p.1 ∧ p.1.tag ≤ d.tag := fun p hu => by
     rcases List.mem_append.1 hu with hu | hu
     ·obtain ⟨a1, a2, a3, a4⟩ := ha p hu; exact ⟨a1, a2, a3, oM⟩
     ·simp only [List.mem_singleton] at hu; subst hu; exact ⟨hd1, hv, hne, Int.le_refl _⟩
    have hp2 : (fs ++ [(d, v)]).Pairwise (fun a b => a.1.tag < b.1.tag) := by
     rw [List.pairwise_append]
     refine ⟨hp, List.pairwise_singleton _ _, fun a hA b hB => ?_⟩
     simp only [List.mem_singleton] at hB; subst hB
     have := (ha a hA).2.2.2
     show a.1.tag < d.tag
     omega
    rw [e2] at e
    cases r with
    | nil => cases e
    | cons c r =>
     dsimp only at e
     split at e
     ·exact rdFlds_of h m _ r _ e ha2 hp2
     ·split at e
      ·simp only [Option.some.injEq] at e; subst e
       exact ⟨_, rfl, fun p hp => ⟨(ha2 p hp).1, (ha2 p hp).2.1, (ha2 p hp).2.2.1⟩, hp2⟩
      ·cases e
theorem rd_of {ts : List Ty} : ∀ (n : Nat) (k s : List UInt8) (x : V × List UInt8), rd ts n k s = some x → OfK ts k x.1
 | 0, _, _, _, e => by cases e
 | n + 1, k, s, x, e => by
  have ih : ∀ k s y, rd ts n k s = some y → OfK ts k y.1 := fun k s y hy => rd_of n k s y hy
  have h := rdK_inv k s (x := x) e
  obtain ⟨v, r⟩ := x
  dsimp only at h ⊢
  cases h with
  | lst0 => exact .lst _ _ (by simp) (by simp)
  | lst k s r vs h =>
   have h1 := rdItems_len _ _ _ h
   exact .lst _ _ (by simpa using h1) (rdItems_all (p := fun v => OfK ts k v) (fun s y hy => ih k s y hy) _ _ _ h (by simp))
  | non => exact .non _
  | opt k s r v h => exact .opt _ _ (ih _ _ _ h)
  | num k s r n _ h => have h1 := rdNum_wf h; exact .num _ _ h1.1 h1.2.1
  | txt k s r v _ h =>
   unfold rdQuote at h
   split at h
   ·cases h
   ·split at h
    ·split at h
     ·split at h
      ·rename_i hx
       simp only [Option.some.injEq, Prod.mk.injEq] at h
       obtain ⟨rfl, _⟩ := h
       exact .txt _ _ hx
      ·cases h
     ·cases h
    ·cases h
  | flg k s r v _ h =>
   unfold rdFlag at h
   split at h
   ·simp only [Option.some.injEq, Prod.mk.injEq] at h
    obtain ⟨rfl, _⟩ := h
    exact .flg _ _ (.inl rfl)
   ·split at h
    ·simp only [Option.some.injEq, Prod.mk.injEq] at h
     obtain ⟨rfl, _⟩ := h
     exact .flg _ _ (.inr rfl)
    ·cases h
  | recd0 k r t h1 h2 => exact .recd _ t [] h1 h2 (by simp) (by simp) (by simp) (by simp)
  | recd k s r t vs h1 h2 h =>
   obtain ⟨gs, e1, e2, e3⟩ := rdFlds_of (fs := []) ih _ _ _ h (by simp) (by simp)
   dsimp only at e1
   subst e1
   exact .recd _ t gs h1 h2 (fun p hp => (e2 p hp).1) (fun p hp => (e2 p hp).2.1) (fun p hp => (e2 p hp).2.2) e3
  | enm k s r t n h1 h2 h h3 =>
   obtain ⟨d, hd⟩ := Option.isSome_iff_exists.1 h3
   have hdt : d.tag = n := by have := List.find?_some hd; simpa using this
   rw [← hdt]
   exact .enm _ t d h1 h2 (List.mem_of_find?_eq_some hd)
  | uni k s r t d v h1 h2 h3 h =>
   obtain ⟨a1, s', hy⟩ := rdField_inv h
   exact .uni _ t d v h1 h2 h3 a1 (ih _ _ _ hy)
theorem valOf_of_k {ts : List Ty} {k s : List UInt8} {v : V} (h : valOf ts k s = some v) : OfK ts k v := by
 unfold valOf at h
 split at h
 ·split at h
  ·rename_i hr
   simp only [Option.some.injEq] at h; subst h
   exact rd_of _ _ _ _ hr
  ·cases h
 ·cases h
theorem fld_tag {t : Ty} (hw : TyW t) {d d' : Fld} (h1 : d ∈ t.fields) (h2 : d' ∈ t.fields) (he : d.tag = d'.tag) : d = d' := by
 have hp := hw.asc
 obtain ⟨i, hi, rfl⟩ := List.mem_iff_getElem.1 h1
 obtain ⟨j, hj, rfl⟩ := List.mem_iff_getElem.1 h2
 rw [List.pairwise_iff_getElem] at hp
 rcases Nat.lt_trichotomy i j with h | h | h
 ·have := (hp i j hi hj h).1; omega
 ·subst h; rfl
 ·have := (hp j i hj hi h).1; omega
theorem refT_no {ts : List Ty} {k : List UInt8} {t : Ty} {c : UInt8} {r : List UInt8} (h : refT ts k = some t) (hk : k = c :: r) (hc : c.toNat ≠ 64) : False := by
 subst hk
 have : refN (c :: r) = none := by unfold refN; exact if_neg hc
 unfold refT at h
 rw [this] at h
 cases h
theorem ofK_inv_t {ts : List Ty} {k : List UInt8} {u : V} {t : Ty} (h : OfK ts k u) (hr : refT ts k = some t) :
  (t.sort = 82 ∧ ∃ fs : List (Fld × V), u = .nd 82 [] 0 (fs.map fldV) ∧ (∀ p ∈ fs, p.1 ∈ t.fields) ∧ (∀ p ∈ fs, OfK ts p.1.kind p.2) ∧ (∀ p ∈ fs, p.2.out ≠ standF ts p.1) ∧ fs.Pairwise (fun a b => a.1.tag < b.1.tag))
  ∨ (t.sort = 69 ∧ ∃ d, u = .nd 69 [] d.tag [] ∧ d ∈ t.fields) ∨ (t.sort ≠ 82 ∧ t.sort ≠ 69 ∧ ∃ d v, u = .nd 85 [] d.tag [v] ∧ d ∈ t.fields ∧ OfK ts d.kind v) := by
 cases h with
 | num => exact (refT_no hr rfl dC).elim
 | txt => exact (refT_no hr rfl dC).elim
 | flg => exact (refT_no hr rfl dC).elim
 | lst => exact (refT_no hr rfl dC).elim
 | non => exact (refT_no hr rfl dC).elim
 | opt => exact (refT_no hr rfl dC).elim
 | recd _ t' fs g1 g2 g3 g4 g5 g6 => rw [hr] at g1; obtain rfl := Option.some.inj g1; exact .inl ⟨g2, fs, rfl, g3, g4, g5, g6⟩
 | enm _ t' d g1 g2 g3 => rw [hr] at g1; obtain rfl := Option.some.inj g1; exact .inr (.inl ⟨g2, d, rfl, g3⟩)
 | uni _ t' d v g1 g2 g3 g4 g5 => rw [hr] at g1; obtain rfl := Option.some.inj g1; exact .inr (.inr ⟨g2, g3, d, v, rfl, g4, g5⟩)
theorem ofK_inv_c {ts : List Ty} {c : UInt8} {k : List UInt8} {u : V} (h : OfK ts (c :: k) u) (hc : c.toNat ≠ 64) :
  (c.toNat = 110 ∧ ∃ n : Int, 0 ≤ n ∧ n ≤ 999999 ∧ u = .nd 110 (decI n) 0 []) ∨ (c.toNat = 116 ∧ ∃ x, isTx (39 :: (x ++ [39])) = true ∧ u = .nd 116 x 0 []) ∨ (c.toNat = 102 ∧ ∃ x, (x = [121, 101, 115] ∨ x = [110, 111]) ∧ u = .nd 102 x 0 [])
  ∨ (c.toNat = 91 ∧ ∃ ks, ks.length ≤ 20 ∧ (∀ v ∈ ks, OfK ts k v) ∧ u = .nd 91 [] 0 ks) ∨ (c.toNat = 63 ∧ (u = .nd 63 [] 0 [] ∨ ∃ v, OfK ts k v ∧ u = .nd 63 [] 0 [v])) := by
 generalize hk : c :: k = k' at h
 cases h with
 | num k n h1 h2 => injection hk with e1 e2; subst e1; exact .inl ⟨rfl, n, h1, h2, rfl⟩
 | txt k x h1 => injection hk with e1 e2; subst e1; exact .inr (.inl ⟨rfl, x, h1, rfl⟩)
 | flg k x h1 => injection hk with e1 e2; subst e1; exact .inr (.inr (.inl ⟨rfl, x, h1, rfl⟩))
 | lst k ks h1 h2 => injection hk with e1 e2; subst e1; subst e2; exact .inr (.inr (.inr (.inl ⟨rfl, ks, h1, h2, rfl⟩)))
 | non k => injection hk with e1 e2; subst e1; exact .inr (.inr (.inr (.inr ⟨rfl, .inl rfl⟩)))
 | opt k v h1 => injection hk with e1 e2; subst e1; subst e2; exact .inr (.inr (.inr (.inr ⟨rfl, .inr ⟨v, h1, rfl⟩⟩)))
 | recd _ t' fs g1 => exact (refT_no g1 hk.symm hc).elim
 | enm _ t' d g1 => exact (refT_no g1 hk.symm hc).elim
 | uni _ t' d v g1 => exact (refT_no g1 hk.symm hc).elim
theorem u8_dgA {i : Int} (h : 0 ≤ i ∧ i ≤ 9) : (u8 (48 + i)).toNat = (48 + i).toNat := by have := u8_val (a := 48 + i) oM; omega
theorem digF_snoc : ∀ (s : List UInt8) {n m : Int} {c : UInt8}, digF n s = some m → 48 ≤ c.toNat ∧ c.toNat ≤ 57 → digF n (s ++ [c]) = some (10 * m + ((c.toNat : Int) - 48))
 | [], n, m, c, h, hc => by simp only [digF, Option.some.injEq] at h; subst h; simp only [List.nil_append, digF, if_pos hc]
 | d :: s, n, m, c, h, hc => by
  unfold digF at h
  split at h
  ·rename_i hd
   have := digF_snoc s h hc
   simp only [List.cons_append]
   unfold digF
   rw [if_pos hd]; exact this
  ·cases h
theorem digF_decI : ∀ (k : Nat) {m : Int}, m.toNat ≤ k → 0 ≤ m → digF 0 (decI m) = some m ∧ ∀ c ∈ decI m, isDg c = true := by
 intro k
 induction k with
 | zero =>
  intro m hk h0
  have : m = 0 := oM
  subst this
  rw [decI_lo dC dC]
  exact ⟨by decide, by intro c hc; simp only [List.mem_singleton] at hc; subst hc; decide⟩
 | succ k ih =>
  intro m hk h0
  by_cases h : m < 10
  ·have hd := u8_dgA (i := m) oM
   have hd2 : isDg (u8 (48 + m)) = true := by unfold isDg; rw [decide_eq_true_eq]; omega
   rw [decI_lo h h0]
   refine ⟨?_, fun c hc => by simp only [List.mem_singleton] at hc; subst hc; exact hd2⟩
   unfold digF digF
   rw [if_pos oM]; congr 1; omega
  ·obtain ⟨h1, h2⟩ := ih (m := m / 10) oM oM
   have hd := u8_dgA (i := m % 10) oM
   have hd2 : isDg (u8 (48 + m % 10)) = true := by unfold isDg; rw [decide_eq_true_eq]; omega
   rw [decI_hi h]
   refine ⟨by rw [digF_snoc _ h1 oM]; congr 1; omega, fun c hc => ?_⟩
   rcases List.mem_append.1 hc with hc | hc
   ·exact h2 c hc
   ·simp only [List.mem_singleton] at hc; subst hc; exact hd2
theorem decI_6 {m : Int} (h : m ≤ 999999) : (decI m).length ≤ 6 := dec_len _ 5 oM
theorem numOf_decI {m top : Int} (h0 : 0 ≤ m) (h1 : m ≤ top) (ht : top ≤ 999999) : numOf (decI m) top = some m := by
 unfold numOf
 rw [if_pos (decI_6 oM), (digF_decI _ (Nat.le_refl _) h0).1]
 dsimp only
 rw [if_pos ⟨rfl, h1⟩]
def Dl (s : List UInt8) : Prop := ∀ c r, s = c :: r → isDg c = false
theorem dl_cons {c : UInt8} {r : List UInt8} (h : isDg c = false) : Dl (c :: r) := fun d s e => by injection e with e1 e2; subst e1; exact h
theorem dl_nil : Dl [] := fun _ _ e => by cases e
theorem dl_tw : ∀ {s : List UInt8}, Dl s → s.takeWhile isDg = [] ∧ s.dropWhile isDg = s
 | [], _ => ⟨rfl, rfl⟩
 | c :: r, h => by have := h c r rfl; rw [List.takeWhile_cons, List.dropWhile_cons, this]; exact ⟨rfl, rfl⟩
theorem tw_app {p : UInt8 → Bool} : ∀ {s r : List UInt8}, (∀ c ∈ s, p c = true) → (s ++ r).takeWhile p = s ++ r.takeWhile p ∧ (s ++ r).dropWhile p = r.dropWhile p
 | [], _, _ => ⟨rfl, rfl⟩
 | c :: s, r, h => by
  obtain ⟨h1, h2⟩ := tw_app (s := s) (r := r) fun d hd => h d (by simp [hd])
  have := h c (by simp)
  rw [List.cons_append, List.takeWhile_cons, List.dropWhile_cons, this, if_pos rfl, if_pos rfl, h1, h2]; exact ⟨rfl, rfl⟩
theorem rdNum_in {m top : Int} {r : List UInt8} (h0 : 0 ≤ m) (h1 : m ≤ top) (ht : top ≤ 999999) (hr : Dl r) : rdNum top (decI m ++ r) = some (m, r) := by
 obtain ⟨e1, e2⟩ := tw_app (r := r) (digF_decI _ (Nat.le_refl _) h0).2
 obtain ⟨e3, e4⟩ := dl_tw hr
 unfold rdNum
 rw [e1, e2, e3, e4, List.append_nil, numOf_decI h0 h1 ht]; rfl
theorem tx_39 {x : List UInt8} (h : isTx (39 :: (x ++ [39])) = true) : ∀ j, j < x.length → bt x j ≠ 39 := by
 intro j hj e
 unfold isTx at h
 rw [decide_eq_true_eq] at h
 have h1 := h.2.2.2 (j + 1) (by simp; omega)
 rw [bt_succ] at h1
 have h2 : bt (x ++ [39]) j = bt x j := by simp [bt, List.getD, List.getElem?_append_left hj]
 rw [h2, e] at h1
 rcases h1 with h1 | h1
 ·omega
 ·exact absurd h1 dC
theorem rdQuote_in {x r : List UInt8} (h : isTx (39 :: (x ++ [39])) = true) : rdQuote (39 :: (x ++ 39 :: r)) = some (.nd 116 x 0 [], r) := by
 have hc : cut1 39 (x ++ 39 :: r) = (x, r, true) := by
  have h1 := cut1_at (k := 39) (s := x ++ 39 :: r) (i := x.length) (by simp) (fun j hj => by
   have := tx_39 h j hj
   have h2 : bt (x ++ 39 :: r) j = bt x j := by simp [bt, List.getD, List.getElem?_append_left hj]
   rw [h2]; exact this) (by simp [bt, List.getD])
  rw [h1]
  congr 1
  ·exact List.take_left
  ·congr 1
   rw [show x.length + 1 = (x ++ [39]).length by simp, show x ++ 39 :: r = (x ++ [39]) ++ r by simp, List.drop_left]
 unfold rdQuote
 dsimp only
 rw [if_pos dC, hc]
 dsimp only
 rw [if_pos h]
theorem rdFlag_in {x r : List UInt8} (h : x = [121, 101, 115] ∨ x = [110, 111]) : rdFlag (x ++ r) = some (.nd 102 x 0 [], r) := by
 unfold rdFlag
 rcases h with rfl | rfl
 ·rw [if_pos (by simp [List.isPrefixOf])]; rfl
 ·rw [if_neg (by simp [List.isPrefixOf]), if_pos (by simp [List.isPrefixOf])]; rfl
theorem rdItems_in {f : List UInt8 → Option (V × List UInt8)} {rest : List UInt8} : ∀ (ks : List V) (m : Nat) (acc : List V), ks ≠ [] → ks.length ≤ m → (∀ v ∈ ks, ∀ r, Dl r → f (v.out ++ r) = some (v, r)) → rdItems f m (joinB 44 (ks.map V.out) ++ 93 :: rest) acc = some (acc ++ ks, rest)
 | [], _, _, h, _, _ => absurd rfl h
 | [v], m, acc, _, hm, hf => by
  obtain ⟨m, rfl⟩ : ∃ n, m = n + 1 := ⟨m - 1, by simp at hm; omega⟩
  unfold rdItems
  simp only [List.map_cons, List.map_nil, joinB]
  rw [hf v (by simp) _ (dl_cons dC)]
  dsimp only
  rw [if_neg dC, if_pos dC]
 | v :: u :: ks, m, acc, _, hm, hf => by
  obtain ⟨m, rfl⟩ : ∃ n, m = n + 1 := ⟨m - 1, by simp at hm; omega⟩
  have ih := rdItems_in (rest := rest) (u :: ks) m (acc ++ [v]) (by simp) (by simp at hm ⊢; omega) fun w hw => hf w (by simp [hw])
  unfold rdItems
  simp only [List.map_cons, joinB, List.append_assoc, List.cons_append] at ih ⊢
  rw [hf v (by simp) _ (dl_cons dC)]
  dsimp only
  rw [if_pos dC, ih]
  simp
theorem fldT_mem {t : Ty} (hw : TyW t) {d : Fld} (h : d ∈ t.fields) : fldT t.fields d.tag = some d := by
 cases e : fldT t.fields d.tag with
 | none => have := (List.find?_eq_none.1 e) d h; simp at this
 | some d' =>
  have h1 : d'.tag = d.tag := by have := List.find?_some e; simpa using this
  rw [fld_tag hw (List.mem_of_find?_eq_some e) h h1]
theorem rdField_in {f : List UInt8 → List UInt8 → Option (V × List UInt8)} {t : Ty} (hw : TyW t) {d : Fld} {v : V} {r : List UInt8} (h : d ∈ t.fields) (hf : f d.kind (v.out ++ r) = some (v, r)) : rdField f t (decI d.tag ++ 61 :: (v.out ++ r)) = some ((d, v), r) := by
 have ht := (hw.fld d h).tag
 unfold rdField
 rw [rdNum_in oM ht.2 dC (dl_cons dC)]
 dsimp only
 rw [fldT_mem hw h]
 dsimp only
 rw [if_pos dC, hf]; rfl
theorem rdFlds_in {ts : List Ty} {f : List UInt8 → List UInt8 → Option (V × List UInt8)} {t : Ty} (hw : TyW t) {rest : List UInt8} : ∀ (fs : List (Fld × V)) (m : Nat) (last : Int) (acc : List V), fs ≠ [] → fs.length ≤ m → (∀ p ∈ fs, p.1 ∈ t.fields ∧ p.2.out ≠ standF ts p.1 ∧ last < p.1.tag ∧ ∀ r, Dl r → f p.1.kind (p.2.out ++ r) = some (p.2, r)) → fs.Pairwise (fun a b => a.1.tag < b.1.tag) →
  rdFlds ts f t m last (joinB 44 ((fs.map fldV).map V.out) ++ 125 :: rest) acc = some (acc ++ fs.map fldV, rest)
 | [], _, _, _, h, _, _, _ => absurd rfl h
 | [p], m, last, acc, _, hm, hf, _ => by
  obtain ⟨m, rfl⟩ : ∃ n, m = n + 1 := ⟨m - 1, by simp at hm; omega⟩
  obtain ⟨h1, h2, h3, h4⟩ := hf p (by simp)
  unfold rdFlds
  simp only [List.map_cons, List.map_nil, joinB, fldV, out_fld, List.append_assoc, List.cons_append]
  rw [rdField_in hw h1 (h4 _ (dl_cons dC))]
  dsimp only
  rw [if_neg (by rintro (h | h); omega; exact h2 h), if_neg dC, if_pos dC]
 | p :: q :: fs, m, last, acc, _, hm, hf, hp => by
  obtain ⟨m, rfl⟩ : ∃ n, m = n + 1 := ⟨m - 1, by simp at hm; omega⟩
  obtain ⟨h1, h2, h3, h4⟩ := hf p (by simp)
  rw [List.pairwise_cons] at hp
  have ih := rdFlds_in (ts := ts) (f := f) hw (rest := rest) (q :: fs) m p.1.tag (acc ++ [fldV p]) (by simp) (by simp at hm ⊢; omega) (fun w hw => ⟨(hf w (by simp [hw])).1, (hf w (by simp [hw])).2.1, hp.1 w hw, (hf w (by simp [hw])).2.2.2⟩) hp.2
  unfold rdFlds
  simp only [List.map_cons, joinB, out_fld, List.append_assoc, List.cons_append] at ih ⊢
  rw [rdField_in hw h1 (h4 _ (dl_cons dC))]
  dsimp only
  rw [if_neg (by rintro (h | h); omega; exact h2 h), if_pos dC, ih]
  simp
theorem decI_cons {m : Int} (h : 0 ≤ m) : ∃ c r, decI m = c :: r ∧ isDg c = true := by
 cases e : decI m with
 | nil => have := decI_pos m; rw [e] at this; simp at this
 | cons c r => exact ⟨c, r, rfl, (digF_decI _ (Nat.le_refl _) h).2 c (by rw [e]; simp)⟩
theorem dg_ne {c : UInt8} (h : isDg c = true) : 48 ≤ c.toNat ∧ c.toNat ≤ 57 := by unfold isDg at h; rwa [decide_eq_true_eq] at h
theorem out_head {ts : List Ty} {k : List UInt8} {v : V} (h : OfK ts k v) : ∃ c r, v.out = c :: r ∧ c.toNat ≠ 93 := by
 cases h with
 | num k n h1 h2 => obtain ⟨c, r, e, hc⟩ := decI_cons h1; have := dg_ne hc; exact ⟨c, r, by rw [V.out]; exact e, oM⟩
 | txt k x => exact ⟨39, _, by rw [V.out]; rfl, by decide⟩
 | flg k x h => rcases h with rfl | rfl; exact ⟨121, _, by rw [V.out]; rfl, by decide⟩; exact ⟨110, _, by rw [V.out]; rfl, by decide⟩
 | lst => exact ⟨91, _, by rw [V.out]; rfl, by decide⟩
 | non => exact ⟨45, _, by rw [V.out]; rfl, by decide⟩
 | opt => exact ⟨43, _, by rw [V.out]; rfl, by decide⟩
 | recd => exact ⟨123, _, by rw [V.out]; rfl, by decide⟩
 | enm => exact ⟨35, _, by rw [V.out]; rfl, by decide⟩
 | uni => exact ⟨60, _, by rw [V.out]; rfl, by decide⟩
theorem rd_in {ts : List Ty} (hw : SchW ts) : ∀ (n : Nat) {k : List UInt8} {v : V}, OfK ts k v → v.deep ≤ n → ∀ r, Dl r → rd ts n k (v.out ++ r) = some (v, r)
 | 0, k, v, h, hd, r, hr => by
  obtain ⟨w, x, t, ks⟩ := v
  have hne : w ≠ 61 := by cases h <;> decide
  rw [deep_nd hne] at hd; omega
 | n + 1, k, v, h, hd, r, hr => by
  have ih := fun {k : List UInt8} {v : V} => rd_in hw n (k := k) (v := v)
  show rdK ts (rd ts n) k (v.out ++ r) = some (v, r)
  cases h with
  | num k m h1 h2 =>
   have e : V.out (.nd 110 (decI m) 0 []) = decI m := by rw [V.out]; rfl
   have hrf : refT ts (110 :: k) = none := by cases h : refT ts (110 :: k) with | none => rfl | some t => exact (refT_no h rfl dC).elim
   rw [e]
   unfold rdK
   try dsimp only
   rw [if_neg dC, if_neg dC, hrf]
   try dsimp only
   rw [if_pos dC, rdNum_in h1 h2 dC hr]; rfl
  | txt k x h1 =>
   have e : V.out (.nd 116 x 0 []) ++ r = 39 :: (x ++ 39 :: r) := by rw [V.out]; simp [outW]
   have hrf : refT ts (116 :: k) = none := by cases h : refT ts (116 :: k) with | none => rfl | some t => exact (refT_no h rfl dC).elim
   rw [e]
   unfold rdK
   try dsimp only
   rw [if_neg dC, if_neg dC, hrf]
   try dsimp only
   rw [if_neg dC, if_pos dC, rdQuote_in h1]
  | flg k x h1 =>
   have e : V.out (.nd 102 x 0 []) = x := by rw [V.out]; rfl
   have hrf : refT ts (102 :: k) = none := by cases h : refT ts (102 :: k) with | none => rfl | some t => exact (refT_no h rfl dC).elim
   rw [e]
   unfold rdK
   try dsimp only
   rw [if_neg dC, if_neg dC, hrf]
   try dsimp only
   rw [if_neg dC, if_neg dC, if_pos dC, rdFlag_in h1]
  | lst k ks h1 h2 =>
   rw [deep_nd dC] at hd
   rw [out_list]
   unfold rdK
   try dsimp only
   rw [if_pos dC]
   try dsimp only
   rw [if_pos dC]
   cases ks with
   | nil => simp only [List.map_nil, joinB, List.nil_append]; rw [if_pos dC]
   | cons v ks =>
    have hI := rdItems_in (f := rd ts n k) (rest := r) (v :: ks) 20 [] (by simp) h1 fun u hu r hr => ih (h2 u hu) (by have := V.deep_mem hu; omega) r hr
    obtain ⟨c, s, e1, e2⟩ := out_head (h2 v (by simp))
    cases hj : joinB 44 ((v :: ks).map V.out) ++ 93 :: r with
    | nil => simp at hj
    | cons c' s' =>
     have hc' : c' = c := by
      have : ∃ s2, joinB 44 ((v :: ks).map V.out) ++ 93 :: r = c :: s2 := by
       cases ks with
       | nil => simp only [List.map_cons, List.map_nil, joinB, e1, List.cons_append]; exact ⟨_, rfl⟩
       | cons u ks => simp only [List.map_cons, joinB, e1, List.cons_append]; exact ⟨_, rfl⟩
      obtain ⟨s2, h3⟩ := this
      rw [hj] at h3; injection h3
     try dsimp only
     rw [if_neg (by rw [hc']; exact e2), ← hj, hI]; rfl
  | non k =>
   have e : V.out (.nd 63 [] 0 []) ++ r = 45 :: r := by rw [V.out]; rfl
   rw [e]
   unfold rdK
   try dsimp only
   rw [if_neg dC, if_pos dC]
   try dsimp only
   rw [if_pos dC]
  | opt k v h1 =>
   rw [deep_nd dC] at hd
   have hd2 : v.deep ≤ n := by have := V.deep_mem (ks := [v]) (v := v) (by simp); omega
   rw [out_opt]
   unfold rdK
   try dsimp only
   rw [if_neg dC, if_pos dC]
   try dsimp only
   rw [if_neg dC, if_pos dC, ih h1 hd2 r hr]; rfl
  | recd k t fs h1 h2 h3 h4 h5 h6 =>
   rw [deep_nd dC] at hd
   have hk : ∃ k', k = 64 :: k' := by
    cases k with
    | nil => simp [refT, refN] at h1
    | cons c k' =>
     by_cases h64 : c.toNat = 64
     ·exact ⟨k', by rw [show c = 64 from UInt8.toNat_inj.1 h64]⟩
     ·exact (refT_no h1 rfl h64).elim
   obtain ⟨k', rfl⟩ := hk
   rw [out_rec]
   unfold rdK
   try dsimp only
   rw [if_neg dC, if_neg dC, h1]
   try dsimp only
   unfold rdTyped
   dsimp only
   rw [if_pos h2, if_pos dC]
   cases fs with
   | nil => simp only [List.map_nil, joinB, List.nil_append]; rw [if_pos dC]
   | cons p fs =>
    have hlen : (p :: fs).length ≤ (joinB 44 (((p :: fs).map fldV).map V.out) ++ 125 :: r).length + 1 := by
     have h7 : ∀ xs : List (List UInt8), (∀ x ∈ xs, 1 ≤ x.length) → xs.length ≤ (joinB 44 xs).length := by
      intro xs
      induction xs with
      | nil => intro _; simp
      | cons x xs ihx =>
       intro hx
       have hx1 := hx x (by simp)
       have ihx := ihx fun y hy => hx y (by simp [hy])
       cases xs with
       | nil => simp only [joinB, List.length_cons, List.length_nil]; omega
       | cons y xs => simp only [joinB, List.length_append, List.length_cons] at ihx ⊢; omega
     have h8 := h7 (((p :: fs).map fldV).map V.out) (fun x hx => by
      obtain ⟨v, hv, rfl⟩ := List.mem_map.1 hx
      obtain ⟨q, hq, rfl⟩ := List.mem_map.1 hv
      rw [out_fld]; simp; omega)
     simp only [List.length_map] at h8
     simp only [List.length_append, List.length_cons]
     simp only [List.length_cons] at h8
     omega
    have hI := rdFlds_in (ts := ts) (f := rd ts n) (hw.ty t (refT_mem h1)) (rest := r) (p :: fs) ((joinB 44 (((p :: fs).map fldV).map V.out) ++ 125 :: r).length + 1) 0 [] (by simp) hlen (fun q hq => ⟨h3 q hq, h5 q hq, by have := ((hw.ty t (refT_mem h1)).fld _ (h3 q hq)).tag; omega, fun r hr => ih (h4 q hq) (by
     have := V.deep_mem (ks := (p :: fs).map fldV) (v := fldV q) (List.mem_map.2 ⟨q, hq, rfl⟩)
     rw [show V.deep (fldV q) = V.deep q.2 from deep_fld] at this
     omega) r hr⟩) h6
    obtain ⟨c, s, e1, e2⟩ := decI_cons (m := p.1.tag) (by have := ((hw.ty t (refT_mem h1)).fld _ (h3 p (by simp))).tag; omega)
    have he2 := dg_ne e2
    cases hj : joinB 44 (((p :: fs).map fldV).map V.out) ++ 125 :: r with
    | nil => simp at hj
    | cons c' s' =>
     have hc' : c' = c := by
      have : ∃ s2, joinB 44 (((p :: fs).map fldV).map V.out) ++ 125 :: r = c :: s2 := by
       cases fs with
       | nil => simp only [List.map_cons, List.map_nil, joinB, out_fld, e1, List.cons_append]; exact ⟨_, rfl⟩
       | cons u ks => simp only [List.map_cons, joinB, out_fld, e1, List.cons_append]; exact ⟨_, rfl⟩
      obtain ⟨s2, h3⟩ := this
      rw [hj] at h3; injection h3
     try dsimp only
     rw [if_neg (by rw [hc']; omega), ← hj, hI]; rfl
  | enm k t d h1 h2 h3 =>
   have hk : ∃ k', k = 64 :: k' := by
    cases k with
    | nil => simp [refT, refN] at h1
    | cons c k' =>
     by_cases h64 : c.toNat = 64
     ·exact ⟨k', by rw [show c = 64 from UInt8.toNat_inj.1 h64]⟩
     ·exact (refT_no h1 rfl h64).elim
   obtain ⟨k', rfl⟩ := hk
   have ht := ((hw.ty t (refT_mem h1)).fld d h3).tag
   have e : V.out (.nd 69 [] d.tag []) ++ r = 35 :: (decI d.tag ++ r) := by rw [V.out]; rfl
   rw [e]
   unfold rdK
   try dsimp only
   rw [if_neg dC, if_neg dC, h1]
   try dsimp only
   unfold rdTyped
   dsimp only
   rw [if_neg oM, if_pos h2, if_pos dC, rdNum_in oM ht.2 dC hr]
   try dsimp only
   rw [fldT_mem (hw.ty t (refT_mem h1)) h3, if_pos (by simp)]
  | uni k t d v h1 h2 h3 h4 h5 =>
   rw [deep_nd dC] at hd
   have hd2 : v.deep ≤ n := by have := V.deep_mem (ks := [v]) (v := v) (by simp); omega
   have hk : ∃ k', k = 64 :: k' := by
    cases k with
    | nil => simp [refT, refN] at h1
    | cons c k' =>
     by_cases h64 : c.toNat = 64
     ·exact ⟨k', by rw [show c = 64 from UInt8.toNat_inj.1 h64]⟩
     ·exact (refT_no h1 rfl h64).elim
   obtain ⟨k', rfl⟩ := hk
   rw [out_uni]
   unfold rdK
   try dsimp only
   rw [if_neg dC, if_neg dC, h1]
   try dsimp only
   unfold rdTyped
   dsimp only
   rw [if_neg h2, if_neg h3, if_pos dC, rdField_in (hw.ty t (refT_mem h1)) h4 (ih h5 hd2 _ (dl_cons dC))]
   try dsimp only
   rw [if_pos dC]
theorem valOf_in {ts : List Ty} (hw : SchW ts) {k : List UInt8} {v : V} (h : OfK ts k v) (hl : v.out.length ≤ 400) (hd : v.deep ≤ 12) : valOf ts k v.out = some v := by
 have h1 := rd_in hw 12 h hd [] dl_nil
 rw [List.append_nil] at h1
 unfold valOf
 rw [if_pos hl, h1]
end Go.E
namespace Go.E
set_option maxRecDepth 20000
set_option maxHeartbeats 2000000
open Go.Proofs
theorem kind_ne {ts : List Ty} {k : List UInt8} (h : kindIn ts k = true) : ∃ c r, k = c :: r := by
 cases k with
 | nil => unfold kindIn kindOk kOk at h; simp at h
 | cons c r => exact ⟨c, r, rfl⟩
theorem head0 {t : Ty} (hw : TyW t) (hs : t.sort ≠ 82) : t.fields.headD default ∈ t.fields := by
 have := hw.ne hs
 cases h : t.fields with
 | nil => exact absurd h this
 | cons d r => simp
theorem decI0 : decI 0 = [48] := by rw [decI_lo dC dC]; decide
theorem out_num0 : V.out (.nd 110 (decI 0) 0 []) = [48] := by rw [V.out]; exact decI0
theorem standN_val {ts : List Ty} (hw : SchW ts) : ∀ (n : Nat) {k : List UInt8}, kindIn ts k = true → (∀ t, refT ts k = some t → endsN ts n t = true) → ∃ u, OfK ts k u ∧ u.out = standN ts (n + 1) k ∧ u.deep ≤ n + 1 ∧ u.out.length ≤ 30 * (n + 1) ∧ u.size ≤ 1 := by
 intro n
 induction n with
 | zero =>
  intro k hk he
  obtain ⟨c, r, rfl⟩ := kind_ne hk
  unfold standN
  by_cases h91 : c.toNat = 91
  ·obtain rfl := u8_eq h91 dC
   exact ⟨_, .lst _ [] (by simp) (by simp), by rw [if_pos h91, V.out]; rfl, by simp [V.deep, V.deeps], by rw [V.out]; decide, by simp [V.size, leafW, V.sizes]⟩
  by_cases h63 : c.toNat = 63
  ·obtain rfl := u8_eq h63 dC
   exact ⟨_, .non _, by rw [if_neg h91, if_pos h63, V.out]; rfl, by simp [V.deep, V.deeps], by rw [V.out]; decide, by simp [V.size, leafW]⟩
  rw [if_neg h91, if_neg h63]
  cases hr : refT ts (c :: r) with
  | some t => have := he t hr; simp [endsN] at this
  | none =>
   dsimp only
   rcases plain_kinds hk (by rintro (h | h) <;> contradiction) hr with e | e | e
   all_goals rw [e]
   ·exact ⟨_, .num [] 0 dC dC, by rw [out_num0]; decide, by simp [V.deep, V.deeps], by rw [out_num0]; decide, by simp [V.size, leafW]⟩
   ·exact ⟨_, .txt [] [] dC, by rw [V.out]; decide, by simp [V.deep, V.deeps], by rw [V.out]; decide, by simp [V.size, leafW]⟩
   ·exact ⟨_, .flg [] _ (.inr rfl), by rw [V.out]; decide, by simp [V.deep, V.deeps], by rw [V.out]; decide, by simp [V.size, leafW]⟩
 | succ n ih =>
  intro k hk he
  obtain ⟨c, r, rfl⟩ := kind_ne hk
  unfold standN
  by_cases h91 : c.toNat = 91
  ·obtain rfl := u8_eq h91 dC
   exact ⟨_, .lst _ [] (by simp) (by simp), by rw [if_pos h91, V.out]; rfl, by simp [V.deep, V.deeps], by rw [V.out]; simp [outW, V.outs, joinB]; omega, by simp [V.size, leafW, V.sizes]⟩
  by_cases h63 : c.toNat = 63
  ·obtain rfl := u8_eq h63 dC
   exact ⟨_, .non _, by rw [if_neg h91, if_pos h63, V.out]; rfl, by simp [V.deep, V.deeps], by rw [V.out]; simp [outW]; omega, by simp [V.size, leafW]⟩
  rw [if_neg h91, if_neg h63]
  cases hr : refT ts (c :: r) with
  | none =>
   dsimp only
   rcases plain_kinds hk (by rintro (h | h) <;> contradiction) hr with e | e | e
   all_goals rw [e]
   ·exact ⟨_, .num [] 0 dC dC, by rw [out_num0]; decide, by simp [V.deep, V.deeps], by rw [out_num0]; simp; omega, by simp [V.size, leafW]⟩
   ·exact ⟨_, .txt [] [] dC, by rw [V.out]; decide, by simp [V.deep, V.deeps], by rw [V.out]; simp [outW]; omega, by simp [V.size, leafW]⟩
   ·exact ⟨_, .flg [] _ (.inr rfl), by rw [V.out]; decide, by simp [V.deep, V.deeps], by rw [V.out]; simp [outW]; omega, by simp [V.size, leafW]⟩
  | some t =>
   have htm := refT_mem hr
   have htw := hw.ty t htm
   dsimp only
   by_cases h82 : t.sort = 82
   ·rw [if_pos h82]
    exact ⟨_, .recd _ t [] hr h82 (by simp) (by simp) (by simp) (by simp), by rw [V.out]; rfl, by simp [V.deep, V.deeps], by rw [V.out]; simp [outW, V.outs, joinB]; omega, by simp [V.size, leafW, V.sizes]⟩
   rw [if_neg h82]
   have hd := head0 htw h82
   have htg := (htw.fld _ hd).tag
   have hdl := decI_6 (m := tag0 t) (by unfold tag0; omega)
   by_cases h69 : t.sort = 69
   ·rw [if_pos h69]
    exact ⟨_, .enm _ t _ hr h69 hd, by rw [V.out]; rfl, by simp [V.deep, V.deeps], by rw [V.out]; show (35 :: decI (tag0 t)).length ≤ _; simp only [List.length_cons]; omega, by simp [V.size, leafW]⟩
   rw [if_neg h69]
   have h85 : t.sort = 85 := by have := htw.sort; unfold sortOk at this; omega
   have he1 := he t hr
   unfold endsN at he1
   rw [if_neg (by simpa using h85)] at he1
   obtain ⟨u, g1, g2, g3, g4, g5⟩ := ih (k := kind0 t) (kind_in hw htm h69 hd) (fun t' ht' => by rw [ht'] at he1; exact he1)
   refine ⟨_, .uni _ t _ u hr h82 h69 hd g1, ?_, ?_, ?_, ?_⟩
   ·rw [V.out, ← g2]; simp [outW, V.outs, joinB, tag0]
   ·rw [deep_nd dC, V.deeps, V.deeps]; omega
   ·have e := out_uni (v := u) (n := tag0 t) (r := [])
    rw [List.append_nil] at e
    show (V.out (.nd 85 [] (tag0 t) [u])).length ≤ _
    rw [e]; simp only [List.length_cons, List.length_append, List.length_nil]; omega
   ·rw [V.size, if_neg (by unfold leafW; simp), V.sizes, V.sizes]; omega
theorem standK_val {ts : List Ty} (hw : SchW ts) {k : List UInt8} (hk : kindIn ts k = true) : ∃ u, OfK ts k u ∧ u.out = standK ts k ∧ u.deep ≤ 12 ∧ u.out.length ≤ 400 ∧ u.size ≤ 1 := by
 have hl := hw.len
 obtain ⟨u, h1, h2, h3, h4, h5⟩ := standN_val hw (ts.length + 1) hk (fun t ht => by
  have hm := refT_mem ht
  obtain ⟨i, hi, rfl⟩ := List.mem_iff_getElem.1 hm
  have := hw.valid.2 i hi
  rwa [nth_eq hi] at this)
 exact ⟨u, h1, h2, oM, oM, h5⟩
theorem standF_val {ts : List Ty} (hw : SchW ts) {t : Ty} (ht : t ∈ ts) (hs : t.sort ≠ 69) {d : Fld} (hd : d ∈ t.fields) : ∃ u, OfK ts d.kind u ∧ u.out = standF ts d ∧ u.deep ≤ 12 ∧ u.out.length ≤ 400 := by
 unfold standF
 by_cases h0 : d.stand = []
 ·rw [if_pos h0]
  obtain ⟨u, h1, h2, h3, h4, _⟩ := standK_val hw (kind_in hw ht hs hd)
  exact ⟨u, h1, h2, h3, h4⟩
 ·rw [if_neg h0]
  have h1 := (((hw.ty t ht).fld d hd).stand h0).2
  unfold standOk at h1
  split at h1
  ·rename_i hk
   rw [hk]
   simp only [Bool.and_eq_true] at h1
   obtain ⟨m, hm⟩ := Option.isSome_iff_exists.1 h1.1
   have h2 := numOf_le hm
   have h3 := numOf_nn hm
   refine ⟨_, .num [] m h3 h2.1, by rw [V.out]; exact h2.2.1.symm, by simp [V.deep, V.deeps], ?_⟩
   rw [V.out]
   show (decI m).length ≤ 400
   have := decI_6 h2.1; omega
  ·split at h1
   ·rename_i hk
    rw [hk]
    simp only [Bool.and_eq_true] at h1
    have hx := h1.1
    have hx2 := hx
    unfold isTx at hx
    rw [decide_eq_true_eq] at hx
    obtain ⟨⟨h2, h3⟩, h4, h5, _⟩ := hx
    obtain ⟨x, hxs⟩ : ∃ x, d.stand = 39 :: (x ++ [39]) := by
     cases hs : d.stand with
     | nil => exact absurd hs h0
     | cons c r =>
      rw [hs] at h4 h5 h2
      have hc : c = 39 := UInt8.toNat_inj.1 (by rw [bt_zero] at h4; exact h4)
      have hr : r ≠ [] := by rintro rfl; simp at h2
      refine ⟨r.dropLast, ?_⟩
      have hl : r.getLast hr = 39 := by
       refine UInt8.toNat_inj.1 ?_
       simp only [List.length_cons, Nat.add_sub_cancel] at h5
       obtain ⟨m, hm⟩ : ∃ m, r.length = m + 1 := ⟨r.length - 1, by have := List.length_pos_iff.2 hr; omega⟩
       rw [hm, bt_succ] at h5
       rw [List.getLast_eq_getElem]
       have : bt r m = (r[r.length - 1]'(by have := List.length_pos_iff.2 hr; omega)).toNat := by simp [bt, List.getD, hm]
       rw [← this, h5]; rfl
      rw [hc]; congr 1
      rw [← hl, List.dropLast_concat_getLast]
    rw [hxs] at hx2 h3 ⊢
    refine ⟨_, .txt [] x hx2, by rw [V.out]; rfl, by simp [V.deep, V.deeps], ?_⟩
    rw [V.out]
    show (39 :: (x ++ [39])).length ≤ 400
    omega
   ·split at h1
    ·rename_i hk
     rw [hk]
     rw [decide_eq_true_eq] at h1
     rw [h1]
     exact ⟨_, .flg [] _ (.inl rfl), by rw [V.out]; rfl, by simp [V.deep, V.deeps], by rw [V.out]; decide⟩
    ·cases h1
def stepsOf : List (List UInt8) → Option (List Int)
 | [] => some []
 | x :: xs => match numOf x 999999 with
  | none => none
  | some n => (stepsOf xs).map (n :: ·)
def pathOf (s : List UInt8) : Option (List Int) := if s = [] then some [] else match stepsOf (cut 47 s) with
 | some p => if p.length ≤ 8 then some p else none
 | none => none
theorem stepsOf_len : ∀ {xs : List (List UInt8)} {p : List Int}, stepsOf xs = some p → p.length = xs.length ∧ ∀ n ∈ p, 0 ≤ n ∧ n ≤ 999999
 | [], p, h => by simp only [stepsOf, Option.some.injEq] at h; subst h; simp
 | x :: xs, p, h => by
  unfold stepsOf at h
  cases hn : numOf x 999999 with
  | none => rw [hn] at h; cases h
  | some n =>
   rw [hn] at h
   dsimp only at h
   cases hs : stepsOf xs with
   | none => rw [hs] at h; cases h
   | some q =>
    rw [hs] at h
    simp only [Option.map_some, Option.some.injEq] at h
    subst h
    obtain ⟨h1, h2⟩ := stepsOf_len hs
    refine ⟨by simp [h1], fun m hm => ?_⟩
    rcases List.mem_cons.1 hm with rfl | hm
    ·exact ⟨numOf_nn hn, (numOf_le hn).1⟩
    ·exact h2 m hm
def standV (ts : List Ty) (f : Fld) : V := (valOf ts f.kind (standF ts f)).getD default
def toldV (f : Fld) : List V → Option V
 | [] => none
 | x :: r => if x.tag = f.tag then some (nth x.kids 0) else toldV f r
def getV (ts : List Ty) (v : V) (f : Fld) : V := (toldV f v.kids).getD (standV ts f)
def stepV (ts : List Ty) (k : List UInt8) (v : V) (n : Int) : Option (List UInt8 × V) := match k with
 | [] => none
 | c :: r => if c.toNat = 91 ∨ c.toNat = 63 then (if n < (v.kids.length : Nat) then some (r, nth v.kids n.toNat) else none)
  else match refT ts (c :: r) with
   | none => none
   | some t => match fldT t.fields n with
    | none => none
    | some f => if t.sort = 69 then none else if t.sort = 82 then some (f.kind, getV ts v f) else if v.tag = n then some (f.kind, nth v.kids 0) else none
def followV (ts : List Ty) : List UInt8 → V → List Int → Option (List UInt8 × V)
 | k, v, [] => some (k, v)
 | k, v, n :: p => match stepV ts k v n with
  | none => none
  | some (k', v') => followV ts k' v' p
theorem standV_ok {ts : List Ty} (hw : SchW ts) {t : Ty} (ht : t ∈ ts) (hs : t.sort ≠ 69) {d : Fld} (hd : d ∈ t.fields) : OfK ts d.kind (standV ts d) ∧ valOf ts d.kind (standF ts d) = some (standV ts d) ∧ (standV ts d).out = standF ts d := by
 obtain ⟨u, h1, h2, h3, h4⟩ := standF_val hw ht hs hd
 have h5 := valOf_in hw h1 h4 h3
 rw [h2] at h5
 have h6 : standV ts d = u := by unfold standV; rw [h5]; rfl
 rw [h6]
 exact ⟨h1, h5, h2⟩
theorem toldV_of {ts : List Ty} {t : Ty} (hw : TyW t) {f : Fld} (hf : f ∈ t.fields) : ∀ {fs : List (Fld × V)} {u : V}, (∀ p ∈ fs, p.1 ∈ t.fields ∧ OfK ts p.1.kind p.2) → toldV f (fs.map fldV) = some u → OfK ts f.kind u ∧ ∃ p ∈ fs, p.1 = f ∧ p.2 = u
 | [], u, _, h => by simp [toldV] at h
 | p :: fs, u, hp, h => by
  simp only [List.map_cons, toldV] at h
  split at h
  ·rename_i he
   simp only [Option.some.injEq] at h
   have h1 : p.2 = u := h
   have h2 := fld_tag hw (hp p (by simp)).1 hf he
   subst h1
   exact ⟨by rw [← h2]; exact (hp p (by simp)).2, p, by simp, h2, rfl⟩
  ·obtain ⟨h1, q, h2, h3⟩ := toldV_of hw hf (fun q hq => hp q (by simp [hq])) h
   exact ⟨h1, q, by simp [h2], h3⟩
theorem getV_ok {ts : List Ty} (hw : SchW ts) {t : Ty} (ht : t ∈ ts) (hs : t.sort = 82) {f : Fld} (hf : f ∈ t.fields) {fs : List (Fld × V)} (hp : ∀ p ∈ fs, p.1 ∈ t.fields ∧ OfK ts p.1.kind p.2) : OfK ts f.kind (getV ts (.nd 82 [] 0 (fs.map fldV)) f) := by
 unfold getV
 cases h : toldV f (V.kids (.nd 82 [] 0 (fs.map fldV))) with
 | none => exact (standV_ok hw ht oM hf).1
 | some u => exact (toldV_of (hw.ty t ht) hf hp h).1
theorem stepV_ok {ts : List Ty} (hw : SchW ts) {k : List UInt8} {v : V} (h : OfK ts k v) (hk : kindIn ts k = true) {n : Int} (hn : 0 ≤ n) {k' : List UInt8} {v' : V} (e : stepV ts k v n = some (k', v')) : OfK ts k' v' ∧ kindIn ts k' = true := by
 obtain ⟨c, r, rfl⟩ := kind_ne hk
 unfold stepV at e
 dsimp only at e
 split at e
 ·rename_i hc
  split at e
  ·rename_i hlt
   simp only [Option.some.injEq, Prod.mk.injEq] at e
   obtain ⟨rfl, rfl⟩ := e
   refine ⟨?_, kindIn_tail hc hk⟩
   rcases ofK_inv_c h oM with ⟨h1, _⟩ | ⟨h1, _⟩ | ⟨h1, _⟩ | ⟨h1, ks, _, h3, rfl⟩ | ⟨h1, rfl | ⟨u, h3, rfl⟩⟩
   ·omega
   ·omega
   ·omega
   ·rw [V.kids] at hlt ⊢
    have : n.toNat < ks.length := oM
    rw [nth_eq this]; exact h3 _ (List.getElem_mem this)
   ·simp [V.kids] at hlt; omega
   ·simp [V.kids] at hlt
    have : n.toNat = 0 := oM
    rw [this]; exact h3
  ·cases e
 ·split at e
  ·cases e
  ·rename_i t hr
   have ht := refT_mem hr
   split at e
   ·cases e
   ·rename_i f hf
    have hfm := List.mem_of_find?_eq_some hf
    split at e
    ·cases e
    ·rename_i h69
     have hki := kind_in hw ht h69 hfm
     split at e
     ·rename_i h82
      simp only [Option.some.injEq, Prod.mk.injEq] at e
      obtain ⟨rfl, rfl⟩ := e
      rcases ofK_inv_t h hr with ⟨_, fs, rfl, g3, g4, _, _⟩ | ⟨h1, _⟩ | ⟨h1, _⟩
      ·exact ⟨getV_ok hw ht h82 hfm fun p hp => ⟨g3 p hp, g4 p hp⟩, hki⟩
      ·omega
      ·omega
     ·rename_i h82
      split at e
      ·rename_i htg
       simp only [Option.some.injEq, Prod.mk.injEq] at e
       obtain ⟨rfl, rfl⟩ := e
       rcases ofK_inv_t h hr with ⟨h1, _⟩ | ⟨h1, _⟩ | ⟨_, _, d, u, rfl, g4, g5⟩
       ·omega
       ·omega
       ·have h7 : f.tag = n := by have := List.find?_some hf; simpa using this
        have h8 := fld_tag (hw.ty t ht) g4 hfm (by rw [h7]; exact htg)
        rw [V.kids]
        exact ⟨by rw [← h8]; exact g5, hki⟩
      ·cases e
theorem followV_ok {ts : List Ty} (hw : SchW ts) : ∀ {p : List Int} {k : List UInt8} {v : V} {k' : List UInt8} {v' : V}, OfK ts k v → kindIn ts k = true → (∀ n ∈ p, 0 ≤ n) → followV ts k v p = some (k', v') → OfK ts k' v' ∧ kindIn ts k' = true
 | [], k, v, k', v', h, hk, _, e => by
  simp only [followV, Option.some.injEq, Prod.mk.injEq] at e
  obtain ⟨rfl, rfl⟩ := e
  exact ⟨h, hk⟩
 | n :: p, k, v, k', v', h, hk, hp, e => by
  unfold followV at e
  cases hs : stepV ts k v n with
  | none => rw [hs] at e; cases e
  | some x =>
   rw [hs] at e
   obtain ⟨k1, v1⟩ := x
   obtain ⟨h1, h2⟩ := stepV_ok hw h hk (hp n (by simp)) hs
   exact followV_ok hw h1 h2 (fun m hm => hp m (by simp [hm])) e
def putF (ts : List Ty) (f : Fld) (x : V) : List V → List V
 | [] => if x.out = standF ts f then [] else [.nd 61 [] f.tag [x]]
 | y :: r => if y.tag < f.tag then y :: putF ts f x r
  else (if x.out = standF ts f then [] else [.nd 61 [] f.tag [x]]) ++ (if y.tag = f.tag then r else y :: r)
def changeV (ts : List Ty) : List UInt8 → V → List Int → V → V
 | _, _, [], x => x
 | k, v, n :: p, x => match stepV ts k v n with
  | none => v
  | some (k', v') => if v.what = 82 then (match refT ts k with
    | some t => (match fldT t.fields n with
     | some f => .nd 82 [] 0 (putF ts f (changeV ts k' v' p x) v.kids)
     | none => v)
    | none => v)
   else .nd v.what [] v.tag (if v.what = 91 then v.kids.set n.toNat (changeV ts k' v' p x) else [changeV ts k' v' p x])
theorem putF_ok {ts : List Ty} {t : Ty} (hw : TyW t) {f : Fld} (hf : f ∈ t.fields) {x : V} (hx : OfK ts f.kind x) : ∀ {fs : List (Fld × V)}, (∀ p ∈ fs, p.1 ∈ t.fields ∧ OfK ts p.1.kind p.2 ∧ p.2.out ≠ standF ts p.1) → fs.Pairwise (fun a b => a.1.tag < b.1.tag) →
  ∃ gs : List (Fld × V), putF ts f x (fs.map fldV) = gs.map fldV ∧ (∀ p ∈ gs, (p.1 ∈ t.fields ∧ OfK ts p.1.kind p.2 ∧ p.2.out ≠ standF ts p.1) ∧ (p ∈ fs ∨ p.1 = f)) ∧ gs.Pairwise (fun a b => a.1.tag < b.1.tag)
 | [], _, _ => by
  simp only [List.map_nil, putF]
  split
  ·exact ⟨[], rfl, by simp, by simp⟩
  ·rename_i hne
   exact ⟨[(f, x)], rfl, fun p hp => by simp only [List.mem_singleton] at hp; subst hp; exact ⟨⟨hf, hx, hne⟩, .inr rfl⟩, by simp⟩
 | q :: fs, hp, hpw => by
  rw [List.pairwise_cons] at hpw
  simp only [List.map_cons, putF]
  show ∃ gs : List (Fld × V), (if q.1.tag < f.tag then fldV q :: putF ts f x (fs.map fldV) else (if x.out = standF ts f then [] else [.nd 61 [] f.tag [x]]) ++ (if q.1.tag = f.tag then fs.map fldV else fldV q :: fs.map fldV)) = gs.map fldV ∧ _
  by_cases hlt : q.1.tag < f.tag
  ·rw [if_pos hlt]
   obtain ⟨gs, e1, e2, e3⟩ := putF_ok hw hf hx (fun p h => hp p (by simp [h])) hpw.2
   refine ⟨q :: gs, by rw [e1]; rfl, fun p h => ?_, ?_⟩
   ·rcases List.mem_cons.1 h with rfl | h
    ·exact ⟨hp _ (by simp), .inl (by simp)⟩
    ·exact ⟨(e2 p h).1, (e2 p h).2.imp (fun h => by simp [h]) id⟩
   ·rw [List.pairwise_cons]
    refine ⟨fun p h => ?_, e3⟩
    rcases (e2 p h).2 with h1 | h1
    ·exact hpw.1 p h1
    ·rw [h1]; exact hlt
  ·rw [if_neg hlt]
   have hB : ∃ gs : List (Fld × V), (if q.1.tag = f.tag then fs.map fldV else fldV q :: fs.map fldV) = gs.map fldV ∧ (∀ p ∈ gs, (p.1 ∈ t.fields ∧ OfK ts p.1.kind p.2 ∧ p.2.out ≠ standF ts p.1) ∧ p ∈ q :: fs ∧ f.tag < p.1.tag) ∧ gs.Pairwise (fun a b => a.1.tag < b.1.tag) := by
    split
    ·rename_i he
     exact ⟨fs, rfl, fun p h => ⟨hp p (by simp [h]), by simp [h], by have := hpw.1 p h; omega⟩, hpw.2⟩
    ·rename_i he
     refine ⟨q :: fs, rfl, fun p h => ⟨hp p h, h, ?_⟩, by rw [List.pairwise_cons]; exact hpw⟩
     rcases List.mem_cons.1 h with rfl | h
     ·omega
     ·have := hpw.1 p h; omega
   obtain ⟨gs, e1, e2, e3⟩ := hB
   rw [e1]
   split
   ·exact ⟨gs, rfl, fun p h => ⟨(e2 p h).1, .inl (e2 p h).2.1⟩, e3⟩
   ·rename_i hne
    refine ⟨(f, x) :: gs, rfl, fun p h => ?_, ?_⟩
    ·rcases List.mem_cons.1 h with rfl | h
     ·exact ⟨⟨hf, hx, hne⟩, .inr rfl⟩
     ·exact ⟨(e2 p h).1, .inl (e2 p h).2.1⟩
    ·rw [List.pairwise_cons]
     exact ⟨fun p h => (e2 p h).2.2, e3⟩
theorem changeV_ok {ts : List Ty} (hw : SchW ts) : ∀ {p : List Int} {k : List UInt8} {v x : V} {k' : List UInt8} {v' : V}, OfK ts k v → kindIn ts k = true → (∀ n ∈ p, 0 ≤ n) → followV ts k v p = some (k', v') → OfK ts k' x → OfK ts k (changeV ts k v p x)
 | [], k, v, x, k', v', h, hk, _, e, hx => by
  simp only [followV, Option.some.injEq, Prod.mk.injEq] at e
  obtain ⟨rfl, rfl⟩ := e
  exact hx
 | n :: p, k, v, x, k', v', h, hk, hp, e, hx => by
  unfold followV at e
  cases hs : stepV ts k v n with
  | none => rw [hs] at e; cases e
  | some y =>
   rw [hs] at e
   obtain ⟨k1, v1⟩ := y
   obtain ⟨h1, h2⟩ := stepV_ok hw h hk (hp n (by simp)) hs
   have ih := changeV_ok hw h1 h2 (fun m hm => hp m (by simp [hm])) e hx
   have hn := hp n (by simp)
   unfold changeV
   rw [hs]
   dsimp only
   obtain ⟨c, r, rfl⟩ := kind_ne hk
   unfold stepV at hs
   dsimp only at hs
   split at hs
   ·rename_i hc
    split at hs
    ·rename_i hlt
     simp only [Option.some.injEq, Prod.mk.injEq] at hs
     obtain ⟨rfl, rfl⟩ := hs
     rcases ofK_inv_c h oM with ⟨g1, _⟩ | ⟨g1, _⟩ | ⟨g1, _⟩ | ⟨g1, ks, g2, g3, rfl⟩ | ⟨g1, rfl | ⟨u, g3, rfl⟩⟩
     ·omega
     ·omega
     ·omega
     ·rw [V.what, if_neg dC, if_pos rfl]
      obtain rfl := u8_eq g1 dC
      refine .lst _ _ (by rw [List.length_set]; exact g2) fun u hu => ?_
      rcases List.mem_or_eq_of_mem_set hu with hu | rfl
      ·exact g3 u hu
      ·exact ih
     ·simp [V.kids] at hlt; omega
     ·rw [V.what, if_neg dC, if_neg dC]
      obtain rfl := u8_eq g1 dC
      exact .opt _ _ ih
    ·cases hs
   ·split at hs
    ·cases hs
    ·rename_i t hr
     have ht := refT_mem hr
     split at hs
     ·cases hs
     ·rename_i f hf
      have hfm := List.mem_of_find?_eq_some hf
      split at hs
      ·cases hs
      ·rename_i h69
       split at hs
       ·rename_i h82
        simp only [Option.some.injEq, Prod.mk.injEq] at hs
        obtain ⟨rfl, rfl⟩ := hs
        rcases ofK_inv_t h hr with ⟨_, fs, rfl, g3, g4, g5, g6⟩ | ⟨g1, _⟩ | ⟨g1, _⟩
        ·rw [V.what, if_pos rfl, hr]
         dsimp only
         rw [hf]
         dsimp only
         rw [V.kids]
         obtain ⟨gs, e1, e2, e3⟩ := putF_ok (hw.ty t ht) hfm ih (fun p hp => ⟨g3 p hp, g4 p hp, g5 p hp⟩) g6
         rw [e1]
         exact .recd _ t gs hr h82 (fun p hp => (e2 p hp).1.1) (fun p hp => (e2 p hp).1.2.1) (fun p hp => (e2 p hp).1.2.2) e3
        ·omega
        ·omega
       ·rename_i h82
        split at hs
        ·rename_i htg
         simp only [Option.some.injEq, Prod.mk.injEq] at hs
         obtain ⟨rfl, rfl⟩ := hs
         rcases ofK_inv_t h hr with ⟨g1, _⟩ | ⟨g1, _⟩ | ⟨_, _, d, u, rfl, g4, g5⟩
         ·omega
         ·omega
         ·have h7 : f.tag = n := by have := List.find?_some hf; simpa using this
          have h8 := fld_tag (hw.ty t ht) g4 hfm (by rw [h7]; exact htg)
          rw [V.what, if_neg dC, if_neg dC]
          exact .uni _ t d _ hr h82 h69 g4 (by rw [h8]; exact ih)
        ·cases hs
theorem out_inj {ts : List Ty} (hw : SchW ts) {k : List UInt8} {u v : V} (hu : OfK ts k u) (hv : OfK ts k v) (h : u.out = v.out) : u = v := by
 have h1 := rd_in hw (max u.deep v.deep) hu (Nat.le_max_left _ _) [] dl_nil
 have h2 := rd_in hw (max u.deep v.deep) hv (Nat.le_max_right _ _) [] dl_nil
 rw [h, h2] at h1
 simp only [Option.some.injEq, Prod.mk.injEq, and_true] at h1
 exact h1.symm
theorem tag_nd {w : Nat} {x : List UInt8} {t : Int} {ks : List V} : V.tag (.nd w x t ks) = t := rfl
def nf (ts : List Ty) (f : Fld) (x : V) : List V := if x.out = standF ts f then [] else [.nd 61 [] f.tag [x]]
theorem putF_nil {ts : List Ty} {f : Fld} {x : V} : putF ts f x [] = nf ts f x := rfl
theorem putF_cons {ts : List Ty} {f : Fld} {x y : V} {r : List V} : putF ts f x (y :: r) = if y.tag < f.tag then y :: putF ts f x r else nf ts f x ++ (if y.tag = f.tag then r else y :: r) := rfl
theorem putF_gt {ts : List Ty} {f : Fld} {x : V} : ∀ {vs : List V}, (∀ v ∈ vs, f.tag < v.tag) → putF ts f x vs = nf ts f x ++ vs
 | [], _ => by rw [putF_nil, List.append_nil]
 | v :: vs, h => by
  have := h v (by simp)
  rw [putF_cons, if_neg oM, if_neg oM]
theorem toldV_gt {f : Fld} : ∀ {vs : List V}, (∀ v ∈ vs, f.tag < v.tag) → toldV f vs = none
 | [], _ => rfl
 | v :: vs, h => by
  have := h v (by simp)
  rw [toldV, if_neg oM]
  exact toldV_gt fun u hu => h u (by simp [hu])
theorem toldV_nf {ts : List Ty} {f : Fld} {x : V} {vs : List V} (h : ∀ v ∈ vs, f.tag < v.tag) : toldV f (nf ts f x ++ vs) = if x.out = standF ts f then none else some x := by
 unfold nf
 split
 ·exact toldV_gt h
 ·rw [List.singleton_append, toldV, tag_nd, if_pos rfl]; rfl
abbrev Srt (vs : List V) : Prop := vs.Pairwise fun a b => a.tag < b.tag
theorem toldV_put {ts : List Ty} {f : Fld} {x : V} : ∀ {vs : List V}, Srt vs → toldV f (putF ts f x vs) = if x.out = standF ts f then none else some x
 | [], _ => by
  rw [putF_nil]
  have := toldV_nf (ts := ts) (f := f) (x := x) (vs := []) (by simp)
  rwa [List.append_nil] at this
 | v :: vs, h => by
  replace h := List.pairwise_cons.1 h
  rw [putF_cons]
  split
  ·rw [toldV, if_neg oM]
   exact toldV_put h.2
  ·refine toldV_nf fun u hu => ?_
   split at hu
   ·have := h.1 u hu; omega
   ·rcases List.mem_cons.1 hu with rfl | hu
    ·omega
    ·have := h.1 u hu; omega
theorem putF_put {ts : List Ty} {f : Fld} {x y : V} : ∀ {vs : List V}, Srt vs → putF ts f y (putF ts f x vs) = putF ts f y vs
 | [], _ => by
  rw [putF_nil, putF_nil]
  unfold nf
  split
  ·exact putF_nil
  ·rw [putF_cons, tag_nd, if_neg oM, if_pos rfl, List.append_nil]; rfl
 | v :: vs, h => by
  replace h := List.pairwise_cons.1 h
  rw [putF_cons, putF_cons (x := y)]
  split
  ·rename_i hl
   rw [putF_cons, if_pos hl, putF_put h.2]
  ·rename_i hl
   have hB : ∀ u ∈ (if v.tag = f.tag then vs else v :: vs), f.tag < u.tag := fun u hu => by
    split at hu
    ·have := h.1 u hu; omega
    ·rcases List.mem_cons.1 hu with rfl | hu
     ·omega
     ·have := h.1 u hu; omega
   generalize (if v.tag = f.tag then vs else v :: vs) = ws at hB
   rw [show nf ts f x = if x.out = standF ts f then [] else [.nd 61 [] f.tag [x]] from rfl]
   split
   ·exact putF_gt hB
   ·rw [List.singleton_append, putF_cons, tag_nd, if_neg oM, if_pos rfl]
theorem putF_self {ts : List Ty} {t : Ty} (hw : TyW t) {f : Fld} (hf : f ∈ t.fields) {z : V} (hz : z.out = standF ts f) : ∀ {fs : List (Fld × V)}, (∀ p ∈ fs, p.1 ∈ t.fields ∧ p.2.out ≠ standF ts p.1) → Srt (fs.map fldV) → putF ts f ((toldV f (fs.map fldV)).getD z) (fs.map fldV) = fs.map fldV
 | [], _, _ => by
  rw [List.map_nil, putF_nil]
  show nf ts f z = []
  unfold nf; rw [if_pos hz]
 | q :: fs, hp, h => by
  replace h := List.pairwise_cons.1 h
  have hq := hp q (by simp)
  rw [List.map_cons, putF_cons, toldV]
  by_cases hl : (fldV q).tag < f.tag
  ·rw [if_pos hl, if_neg oM, putF_self hw hf hz (fun p hp' => hp p (by simp [hp'])) h.2]
  ·rw [if_neg hl]
   by_cases he : (fldV q).tag = f.tag
   ·rw [if_pos he, if_pos he]
    have h1 : q.1 = f := fld_tag hw hq.1 hf he
    have h2 : ((some (nth (fldV q).kids 0)).getD z) = q.2 := rfl
    rw [h2]
    unfold nf
    rw [if_neg (by rw [← h1]; exact hq.2), List.singleton_append, ← h1]
   ·rw [if_neg he, if_neg he, toldV_gt fun v hv => by have := h.1 v hv; omega]
    show nf ts f z ++ _ = _
    unfold nf; rw [if_pos hz, List.nil_append]
theorem toldV_ne {ts : List Ty} {f g : Fld} (hg : g.tag ≠ f.tag) {x : V} : ∀ {vs : List V}, toldV g (putF ts f x vs) = toldV g vs
 | [] => by
  rw [putF_nil]; unfold nf
  split
  ·rfl
  ·show (if V.tag (.nd 61 [] f.tag [x]) = g.tag then some (nth (V.kids (.nd 61 [] f.tag [x])) 0) else none) = none
   rw [tag_nd, if_neg oM]
 | v :: vs => by
  rw [putF_cons]
  split
  ·rw [toldV, toldV, toldV_ne hg]
  ·have h1 : ∀ ws : List V, toldV g (nf ts f x ++ ws) = toldV g ws := fun ws => by
    unfold nf
    split
    ·rfl
    ·rw [List.singleton_append, toldV, tag_nd, if_neg oM]
   rw [h1]
   split
   ·rename_i he
    rw [toldV, if_neg oM]
   ·rfl
def setV (ts : List Ty) (k : List UInt8) (v : V) (n : Int) (y : V) : V := if v.what = 82 then (match refT ts k with
  | some t => (match fldT t.fields n with
   | some f => .nd 82 [] 0 (putF ts f y v.kids)
   | none => v)
  | none => v)
 else .nd v.what [] v.tag (if v.what = 91 then v.kids.set n.toNat y else [y])
theorem changeV_cons {ts : List Ty} {k k1 : List UInt8} {v v1 x : V} {n : Int} {p : List Int} (h : stepV ts k v n = some (k1, v1)) : changeV ts k v (n :: p) x = setV ts k v n (changeV ts k1 v1 p x) := by
 rw [changeV, h]; rfl
theorem followV_cons {ts : List Ty} {k k1 : List UInt8} {v v1 : V} {n : Int} {p : List Int} (h : stepV ts k v n = some (k1, v1)) : followV ts k v (n :: p) = followV ts k1 v1 p := by
 rw [followV, h]
theorem srt_fs {fs : List (Fld × V)} (h : fs.Pairwise fun a b => a.1.tag < b.1.tag) : Srt (fs.map fldV) := List.pairwise_map.2 h
theorem set_step {ts : List Ty} (hw : SchW ts) {k : List UInt8} {v : V} (h : OfK ts k v) (hk : kindIn ts k = true) {n : Int} (hn : 0 ≤ n) {k1 : List UInt8} {v1 : V} (hs : stepV ts k v n = some (k1, v1)) {y : V} (hy : OfK ts k1 y) :
  (stepV ts k (setV ts k v n y) n = some (k1, y) ∧ setV ts k v n v1 = v) ∧ (∀ z, setV ts k (setV ts k v n y) n z = setV ts k v n z) ∧ ∀ m, 0 ≤ m → m ≠ n → stepV ts k (setV ts k v n y) m = stepV ts k v m := by
 obtain ⟨c, r, rfl⟩ := kind_ne hk
 have hs0 := hs
 unfold stepV at hs
 dsimp only at hs
 split at hs
 ·rename_i hc
  split at hs
  ·rename_i hlt
   simp only [Option.some.injEq, Prod.mk.injEq] at hs
   obtain ⟨rfl, rfl⟩ := hs
   rcases ofK_inv_c h oM with ⟨g1, _⟩ | ⟨g1, _⟩ | ⟨g1, _⟩ | ⟨g1, ks, g2, g3, rfl⟩ | ⟨g1, rfl | ⟨u, g3, rfl⟩⟩
   ·omega
   ·omega
   ·omega
   ·rw [V.kids] at hlt ⊢
    have hi : n.toNat < ks.length := oM
    have e : ∀ z, setV ts (c :: r) (.nd 91 [] 0 ks) n z = .nd 91 [] 0 (ks.set n.toNat z) := fun z => by
     unfold setV; rw [V.what, if_neg dC, if_pos rfl]; rfl
    refine ⟨⟨?_, ?_⟩, fun z => ?_, fun m hm hne => ?_⟩
    ·rw [e]
     unfold stepV
     dsimp only
     rw [if_pos hc, V.kids, if_pos (by rw [List.length_set]; exact hlt), nth_eq (by rw [List.length_set]; exact hi), List.getElem_set_self]
    ·rw [e, nth_eq hi, List.set_getElem_self]
    ·rw [e, e]
     unfold setV; rw [V.what, if_neg dC, if_pos rfl, V.kids, List.set_set]; rfl
    ·rw [e]
     unfold stepV
     dsimp only
     rw [if_pos hc, if_pos hc, V.kids, V.kids, List.length_set]
     split
     ·rename_i hm2
      rw [nth_eq (by rw [List.length_set]; omega), nth_eq oM, List.getElem_set_ne oM]
     ·rfl
   ·simp [V.kids] at hlt; omega
   ·simp [V.kids] at hlt
    obtain rfl : n = 0 := oM
    have e : ∀ w z, setV ts (c :: r) (.nd 63 [] 0 [w]) 0 z = .nd 63 [] 0 [z] := fun w z => by
     unfold setV; rw [V.what, if_neg dC, if_neg dC]; rfl
    refine ⟨⟨?_, ?_⟩, fun z => ?_, fun m hm hne => ?_⟩
    ·rw [e]
     unfold stepV
     dsimp only
     rw [if_pos hc, V.kids, if_pos (by simp)]; rfl
    ·rw [e]; rfl
    ·rw [e, e, e]
    ·rw [e]
     unfold stepV
     dsimp only
     rw [if_pos hc, if_pos hc, V.kids, V.kids, if_neg (by simp; omega), if_neg (by simp; omega)]
  ·cases hs
 ·rename_i hc
  split at hs
  ·cases hs
  ·rename_i t hr
   have ht := refT_mem hr
   split at hs
   ·cases hs
   ·rename_i f hf
    have hfm := List.mem_of_find?_eq_some hf
    have hft : f.tag = n := by have := List.find?_some hf; simpa using this
    split at hs
    ·cases hs
    ·rename_i h69
     split at hs
     ·rename_i h82
      simp only [Option.some.injEq, Prod.mk.injEq] at hs
      obtain ⟨rfl, rfl⟩ := hs
      rcases ofK_inv_t h hr with ⟨_, fs, rfl, g3, g4, g5, g6⟩ | ⟨g1, _⟩ | ⟨g1, _⟩
      ·have e : ∀ vs z, setV ts (c :: r) (.nd 82 [] 0 vs) n z = .nd 82 [] 0 (putF ts f z vs) := fun vs z => by
        unfold setV; rw [V.what, if_pos rfl, hr]
        dsimp only
        rw [hf]; rfl
       have hst := standV_ok hw ht oM hfm
       have hsrt := srt_fs g6
       refine ⟨⟨?_, ?_⟩, fun z => ?_, fun m hm hne => ?_⟩
       ·rw [e]
        unfold stepV
        dsimp only
        rw [if_neg hc, hr]
        dsimp only
        rw [hf]
        dsimp only
        rw [if_neg h69, if_pos h82]
        unfold getV
        rw [V.kids, toldV_put hsrt]
        split
        ·rename_i hso
         show some (f.kind, standV ts f) = _
         rw [out_inj hw hst.1 hy (by rw [hst.2.2, hso])]
        ·rfl
       ·rw [e]
        unfold getV
        rw [V.kids, putF_self (hw.ty t ht) hfm hst.2.2 (fun p hp => ⟨g3 p hp, g5 p hp⟩) hsrt]
       ·rw [e, e, e, putF_put hsrt]
       ·rw [e]
        unfold stepV
        dsimp only
        rw [if_neg hc, if_neg hc, hr]
        dsimp only
        cases hg : fldT t.fields m with
        | none => rfl
        | some g =>
         have hgt : g.tag = m := by have := List.find?_some hg; simpa using this
         dsimp only
         rw [if_neg h69, if_neg h69, if_pos h82, if_pos h82]
         unfold getV
         rw [V.kids, V.kids, toldV_ne oM]
      ·omega
      ·omega
     ·rename_i h82
      split at hs
      ·rename_i htg
       simp only [Option.some.injEq, Prod.mk.injEq] at hs
       obtain ⟨rfl, rfl⟩ := hs
       rcases ofK_inv_t h hr with ⟨g1, _⟩ | ⟨g1, _⟩ | ⟨_, _, d, u, rfl, g4, g5⟩
       ·omega
       ·omega
       ·have e : ∀ w z, setV ts (c :: r) (.nd 85 [] d.tag [w]) n z = .nd 85 [] d.tag [z] := fun w z => by
         unfold setV; rw [V.what, if_neg dC, if_neg dC]; rfl
        have htg2 : d.tag = n := htg
        refine ⟨⟨?_, ?_⟩, fun z => ?_, fun m hm hne => ?_⟩
        ·rw [e]
         unfold stepV
         dsimp only
         rw [if_neg hc, hr]
         dsimp only
         rw [hf]
         dsimp only
         rw [if_neg h69, if_neg h82, V.tag, if_pos htg2]; rfl
        ·rw [e]; rfl
        ·rw [e, e, e]
        ·rw [e]
         unfold stepV
         dsimp only
         rw [if_neg hc, if_neg hc, hr]
         dsimp only
         cases hg : fldT t.fields m with
         | none => rfl
         | some g =>
          dsimp only
          rw [if_neg h69, if_neg h69, if_neg h82, if_neg h82, V.tag, V.tag, if_neg oM, if_neg oM]
      ·cases hs
theorem change_follow {ts : List Ty} (hw : SchW ts) : ∀ {p : List Int} {k : List UInt8} {v x y : V} {k' : List UInt8} {v' : V}, OfK ts k v → kindIn ts k = true → (∀ n ∈ p, 0 ≤ n) → followV ts k v p = some (k', v') → OfK ts k' x →
  followV ts k (changeV ts k v p x) p = some (k', x) ∧ changeV ts k v p v' = v ∧ changeV ts k (changeV ts k v p x) p y = changeV ts k v p y
 | [], k, v, x, y, k', v', h, hk, _, e, hx => by
  simp only [followV, Option.some.injEq, Prod.mk.injEq] at e
  obtain ⟨rfl, rfl⟩ := e
  exact ⟨rfl, rfl, rfl⟩
 | n :: p, k, v, x, y, k', v', h, hk, hp, e, hx => by
  unfold followV at e
  cases hs : stepV ts k v n with
  | none => rw [hs] at e; cases e
  | some q =>
   rw [hs] at e
   obtain ⟨k1, v1⟩ := q
   have hn := hp n (by simp)
   obtain ⟨h1, h2⟩ := stepV_ok hw h hk hn hs
   have hp2 : ∀ m ∈ p, 0 ≤ m := fun m hm => hp m (by simp [hm])
   obtain ⟨i1, i2, i3⟩ := change_follow hw (y := y) h1 h2 hp2 e hx
   have hc := changeV_ok hw h1 h2 hp2 e hx
   obtain ⟨⟨s1, s2⟩, s3, _⟩ := set_step hw h hk hn hs hc
   rw [changeV_cons hs, changeV_cons hs, changeV_cons hs]
   refine ⟨?_, ?_, ?_⟩
   ·rw [followV_cons s1]; exact i1
   ·rw [i2, s2]
   ·rw [changeV_cons s1, i3, s3]
def putA {α : Type} (tg : α → Int) (told : Bool) (node : α) (tag : Int) : List α → Bool → List α
 | [], d => if (told && !d) = true then [node] else []
 | y :: r, d => (if tag ≤ tg y ∧ (told && !d) = true then [node] else []) ++ ((if tg y = tag then [] else [y]) ++ putA tg told node tag r (d || decide (tag ≤ tg y)))
theorem putA_done {α : Type} {tg : α → Int} {told : Bool} {node : α} {tag : Int} : ∀ {l : List α}, (∀ y ∈ l, tag < tg y) → putA tg told node tag l true = l
 | [], _ => by simp [putA]
 | y :: r, h => by
  have h1 := h y (by simp)
  rw [putA, Bool.true_or, putA_done fun z hz => h z (by simp [hz]), if_neg (by simp), if_neg oM]; rfl
theorem putA_eq {ts : List Ty} {f : Fld} {x : V} : ∀ {vs : List V}, Srt vs → putA V.tag (decide (x.out ≠ standF ts f)) (.nd 61 [] f.tag [x]) f.tag vs false = putF ts f x vs
 | [], _ => by
  rw [putF_nil, putA]; unfold nf
  by_cases e : x.out = standF ts f
  ·rw [if_pos e, if_neg (by simp [e])]
  ·rw [if_neg e, if_pos (by simp [e])]
 | y :: r, h => by
  replace h := List.pairwise_cons.1 h
  rw [putF_cons, putA, Bool.false_or]
  by_cases hl : y.tag < f.tag
  ·rw [if_pos hl, if_neg (by intro h; omega), if_neg oM, show decide (f.tag ≤ y.tag) = false from decide_eq_false oM, putA_eq h.2]; rfl
  ·rw [if_neg hl, show decide (f.tag ≤ y.tag) = true from decide_eq_true oM, putA_done fun z hz => by have := h.1 z hz; omega]
   unfold nf
   have e2 : (if y.tag = f.tag then ([] : List V) else [y]) ++ r = if y.tag = f.tag then r else y :: r := by split <;> rfl
   rw [e2]
   congr 1
   by_cases e : x.out = standF ts f
   ·rw [if_pos e, if_neg (by simp [e])]
   ·rw [if_neg e, if_pos ⟨oM, by simp [e]⟩]
end Go.E
namespace Go.E
set_option maxRecDepth 20000
set_option maxHeartbeats 2000000
theorem kind_64 {ts : List Ty} {k : List UInt8} {t : Ty} (h : refT ts k = some t) : ∃ k', k = 64 :: k' := by
 cases k with
 | nil => simp [refT, refN] at h
 | cons c k' =>
  by_cases h64 : c.toNat = 64
  ·exact ⟨k', by rw [show c = 64 from UInt8.toNat_inj.1 h64]⟩
  ·exact (refT_no h rfl h64).elim
theorem out_list' {ks : List V} : (V.nd 91 [] 0 ks).out = 91 :: (joinB 44 (ks.map V.out) ++ [93]) := by rw [V.out, V.outs_map]; rfl
theorem out_rec' {ks : List V} : (V.nd 82 [] 0 ks).out = 123 :: (joinB 44 (ks.map V.out) ++ [125]) := by rw [V.out, V.outs_map]; rfl
theorem joinB_mem {xs : List (List UInt8)} {x : List UInt8} (h : x ∈ xs) : x.length ≤ (joinB 44 xs).length := by
 induction xs with
 | nil => cases h
 | cons y xs ih =>
  cases xs with
  | nil =>
   simp only [List.mem_singleton] at h; subst h; simp [joinB]
  | cons z xs =>
   rw [joinB, List.length_append, List.length_cons]
   rcases List.mem_cons.1 h with rfl | h
   ·omega
   ·have := ih h; omega
end Go.E
namespace Go.E
set_option maxRecDepth 20000
set_option maxHeartbeats 2000000
open Go.Proofs
variable {ts : List Ty}
theorem stepV_fits (hw : SchW ts) {k : List UInt8} {v : V} (h : OfK ts k v) (hk : kindIn ts k = true) {n : Int} (hn : 0 ≤ n) {k' : List UInt8} {v' : V} (e : stepV ts k v n = some (k', v')) (hd : v.deep ≤ 12) (hl : v.out.length ≤ 400) : v'.deep ≤ 12 ∧ v'.out.length ≤ 400 := by
 obtain ⟨c, r, rfl⟩ := kind_ne hk
 unfold stepV at e
 dsimp only at e
 split at e
 ·rename_i hc
  split at e
  ·rename_i hlt
   simp only [Option.some.injEq, Prod.mk.injEq] at e
   obtain ⟨rfl, rfl⟩ := e
   rcases ofK_inv_c h oM with ⟨g1, _⟩ | ⟨g1, _⟩ | ⟨g1, _⟩ | ⟨g1, ks, g2, g3, rfl⟩ | ⟨g1, rfl | ⟨u, g3, rfl⟩⟩
   ·omega
   ·omega
   ·omega
   ·rw [V.kids] at hlt ⊢
    have hi : n.toNat < ks.length := oM
    rw [deep_nd dC] at hd
    rw [out_list'] at hl
    have h1 := V.deep_mem (nth_mem hi)
    have h2 := joinB_mem (xs := ks.map V.out) (List.mem_map_of_mem (f := V.out) (nth_mem hi))
    simp only [List.length_cons, List.length_append, List.length_nil] at hl
    exact ⟨oM, oM⟩
   ·simp [V.kids] at hlt; omega
   ·simp [V.kids] at hlt
    obtain rfl : n = 0 := oM
    rw [deep_nd dC] at hd
    have e1 : V.out (.nd 63 [] 0 [u]) = 43 :: u.out := by rw [V.out]; simp [V.outs, joinB, outW]
    rw [e1, List.length_cons] at hl
    have h1 := V.deep_mem (ks := [u]) (v := u) (by simp)
    exact ⟨by show u.deep ≤ 12; omega, by show u.out.length ≤ 400; omega⟩
  ·cases e
 ·split at e
  ·cases e
  ·rename_i t hr
   have ht := refT_mem hr
   split at e
   ·cases e
   ·rename_i f hf
    have hfm := List.mem_of_find?_eq_some hf
    split at e
    ·cases e
    ·rename_i h69
     split at e
     ·rename_i h82
      simp only [Option.some.injEq, Prod.mk.injEq] at e
      obtain ⟨rfl, rfl⟩ := e
      rcases ofK_inv_t h hr with ⟨_, fs, rfl, g3, g4, _, _⟩ | ⟨g1, _⟩ | ⟨g1, _⟩
      ·unfold getV
       rw [V.kids]
       cases hto : toldV f (fs.map fldV) with
       | none =>
        obtain ⟨a1, a2, a3⟩ := standV_ok hw ht h69 hfm
        unfold valOf at a2
        split at a2
        ·rename_i hl4
         split at a2
         ·rename_i v' hv'
          have := rd_deep_le _ _ _ _ hv'
          simp only [Option.some.injEq] at a2
          subst a2
          exact ⟨this, by show (standV ts f).out.length ≤ 400; rw [a3]; exact hl4⟩
         ·cases a2
        ·cases a2
       | some u =>
        obtain ⟨_, p, hp, _, rfl⟩ := toldV_of (hw.ty t ht) hfm (fun p hp => ⟨g3 p hp, g4 p hp⟩) hto
        rw [deep_nd dC] at hd
        rw [out_rec'] at hl
        have h1 := V.deep_mem (List.mem_map_of_mem (f := fldV) hp)
        rw [show (fldV p).deep = p.2.deep from deep_fld] at h1
        have h2 := joinB_mem (xs := (fs.map fldV).map V.out) (List.mem_map_of_mem (f := V.out) (List.mem_map_of_mem (f := fldV) hp))
        rw [show (fldV p).out = decI p.1.tag ++ 61 :: p.2.out from out_fld] at h2
        simp only [List.length_cons, List.length_append, List.length_nil] at hl h2
        exact ⟨by show p.2.deep ≤ 12; omega, by show p.2.out.length ≤ 400; omega⟩
      ·omega
      ·omega
     ·rename_i h82
      split at e
      ·simp only [Option.some.injEq, Prod.mk.injEq] at e
       obtain ⟨rfl, rfl⟩ := e
       rcases ofK_inv_t h hr with ⟨h1, _⟩ | ⟨h1, _⟩ | ⟨_, _, d, u, rfl, g4, g5⟩
       ·omega
       ·omega
       ·rw [deep_nd dC] at hd
        have e1 : V.out (.nd 85 [] d.tag [u]) = 60 :: (decI d.tag ++ 61 :: (u.out ++ [62])) := by rw [V.out]; simp [V.outs, joinB, outW]
        rw [e1] at hl
        have h1 := V.deep_mem (ks := [u]) (v := u) (by simp)
        simp only [List.length_cons, List.length_append, List.length_nil] at hl
        exact ⟨by show u.deep ≤ 12; omega, by show u.out.length ≤ 400; omega⟩
      ·cases e
theorem followV_fits (hw : SchW ts) : ∀ {p : List Int} {k : List UInt8} {v : V} {k' : List UInt8} {v' : V}, OfK ts k v → kindIn ts k = true → (∀ n ∈ p, 0 ≤ n) → followV ts k v p = some (k', v') → v.deep ≤ 12 → v.out.length ≤ 400 → v'.deep ≤ 12 ∧ v'.out.length ≤ 400
 | [], k, v, k', v', h, hk, _, e, hd, hl => by
  simp only [followV, Option.some.injEq, Prod.mk.injEq] at e
  obtain ⟨rfl, rfl⟩ := e
  exact ⟨hd, hl⟩
 | n :: p, k, v, k', v', h, hk, hp, e, hd, hl => by
  unfold followV at e
  cases hs : stepV ts k v n with
  | none => rw [hs] at e; cases e
  | some x =>
   rw [hs] at e
   obtain ⟨k1, v1⟩ := x
   obtain ⟨h1, h2⟩ := stepV_ok hw h hk (hp n (by simp)) hs
   obtain ⟨h3, h4⟩ := stepV_fits hw h hk (hp n (by simp)) hs hd hl
   exact followV_fits hw h1 h2 (fun m hm => hp m (by simp [hm])) e h3 h4
def pathText (q : List Int) : List UInt8 := joinB 47 (q.map decI)
theorem decI_no47 {n : Int} (h : 0 ≤ n) : noB 47 (decI n) := fun c hc => by
 have := dg_ne ((digF_decI _ (Nat.le_refl _) h).2 c hc)
 omega
theorem stepsOf_inv : ∀ {xs : List (List UInt8)} {p : List Int}, stepsOf xs = some p → xs = p.map decI ∧ ∀ n ∈ p, 0 ≤ n ∧ n ≤ 999999
 | [], p, h => by simp only [stepsOf, Option.some.injEq] at h; subst h; simp
 | x :: xs, p, h => by
  unfold stepsOf at h
  cases hn : numOf x 999999 with
  | none => rw [hn] at h; cases h
  | some n =>
   rw [hn] at h
   dsimp only at h
   cases hs : stepsOf xs with
   | none => rw [hs] at h; cases h
   | some q =>
    rw [hs] at h
    simp only [Option.map_some, Option.some.injEq] at h
    subst h
    obtain ⟨h1, h2⟩ := stepsOf_inv hs
    refine ⟨by rw [List.map_cons, ← h1, ← (numOf_le hn).2.1], fun m hm => ?_⟩
    rcases List.mem_cons.1 hm with rfl | hm
    ·exact ⟨numOf_nn hn, (numOf_le hn).1⟩
    ·exact h2 m hm
theorem stepsOf_in : ∀ {p : List Int}, (∀ n ∈ p, 0 ≤ n ∧ n ≤ 999999) → stepsOf (p.map decI) = some p
 | [], _ => rfl
 | n :: p, h => by
  have h1 := h n (by simp)
  rw [List.map_cons, stepsOf, numOf_decI h1.1 h1.2 dC]
  dsimp only
  rw [stepsOf_in fun m hm => h m (by simp [hm])]; rfl
theorem pathOf_text {s : List UInt8} {q : List Int} (h : pathOf s = some q) : s = pathText q ∧ q.length ≤ 8 ∧ (∀ n ∈ q, 0 ≤ n ∧ n ≤ 999999) ∧ (s = [] ↔ q = []) := by
 unfold pathOf at h
 split at h
 ·rename_i hs
  simp only [Option.some.injEq] at h; subst h
  exact ⟨by rw [hs]; rfl, by simp, by simp, by simp [hs]⟩
 ·rename_i hs
  split at h
  ·rename_i q' hq
   split at h
   ·rename_i h8
    simp only [Option.some.injEq] at h; subst h
    obtain ⟨h1, h2⟩ := stepsOf_inv hq
    have h3 := cut_join 47 s
    have h4 : (47 : UInt8).toNat = 47 := rfl
    rw [h4, h1] at h3
    refine ⟨h3.symm, h8, h2, fun h => absurd h hs, fun h => ?_⟩
    rw [h] at h3
    exact h3.symm
   ·cases h
  ·cases h
theorem pathText_ne {q : List Int} (h : q ≠ []) : pathText q ≠ [] := by
 cases q with
 | nil => exact absurd rfl h
 | cons n q =>
  have := decI_pos n
  unfold pathText
  intro e
  have e2 := congrArg List.length e
  cases q with
  | nil => simp [joinB] at e2; rw [e2] at this; simp at this
  | cons m q => simp [joinB] at e2
theorem pathOf_in {q : List Int} (h : ∀ n ∈ q, 0 ≤ n ∧ n ≤ 999999) : pathOf (pathText q) = if q.length ≤ 8 then some q else none := by
 by_cases hq : q = []
 ·subst hq; rfl
 ·unfold pathOf
  rw [if_neg (pathText_ne hq)]
  have h1 : cut 47 (pathText q) = q.map decI := join_cut (c := 47) (by simpa using hq) fun x hx => by
   obtain ⟨n, hn, rfl⟩ := List.mem_map.1 hx
   exact decI_no47 (h n hn).1
  rw [h1, stepsOf_in h]
theorem pathText_cons {n : Int} {q : List Int} (h : q ≠ []) : pathText (n :: q) = decI n ++ 47 :: pathText q := by
 cases q with
 | nil => exact absurd rfl h
 | cons m q => rfl
theorem pathText_app : ∀ {p q : List Int}, p ≠ [] → q ≠ [] → pathText (p ++ q) = pathText p ++ 47 :: pathText q
 | [], _, h, _ => absurd rfl h
 | [n], q, _, hq => by rw [List.singleton_append, pathText_cons hq]; rfl
 | n :: m :: p, q, _, hq => by
  rw [List.cons_append, pathText_cons (n := n) (q := m :: p ++ q) (by simp), pathText_app (p := m :: p) (by simp) hq, pathText_cons (n := n) (q := m :: p) (by simp)]
  simp
def stepNo (w : Nat) (t : Int) (i : Nat) (v : V) : Int := if w = 85 then t else if w = 82 then v.tag else (i : Int)
mutual
def V.leaves : V → List (List Int)
 | .nd w _ t ks => if leafW w ks.isEmpty = true then [[]] else if w = 61 then V.leavesF ks else V.leavesS ks w t 0
def V.leavesF : List V → List (List Int)
 | [] => []
 | v :: r => V.leaves v ++ V.leavesF r
def V.leavesS : List V → Nat → Int → Nat → List (List Int)
 | [], _, _, _ => []
 | v :: r, w, t, i => (V.leaves v).map (stepNo w t i v :: ·) ++ V.leavesS r w t (i + 1)
end
mutual
theorem size_leaves : ∀ v : V, v.size = v.leaves.length
 | .nd w x t ks => by
  rw [V.size, V.leaves]
  split
  ·rfl
  ·split
   ·exact size_leavesF ks
   ·exact size_leavesS ks w t 0
theorem size_leavesF : ∀ ks : List V, V.sizes ks = (V.leavesF ks).length
 | [] => by rw [V.sizes, V.leavesF]; rfl
 | v :: r => by rw [V.sizes, V.leavesF, List.length_append, size_leaves v, size_leavesF r]
theorem size_leavesS : ∀ (ks : List V) (w : Nat) (t : Int) (i : Nat), V.sizes ks = (V.leavesS ks w t i).length
 | [], _, _, _ => by rw [V.sizes, V.leavesS]; rfl
 | v :: r, w, t, i => by rw [V.sizes, V.leavesS, List.length_append, List.length_map, size_leaves v, size_leavesS r w t (i + 1)]
end
theorem leavesS_mem : ∀ {ks : List V} {w : Nat} {t : Int} {i : Nat} {p : List Int}, p ∈ V.leavesS ks w t i → ∃ j q, j < ks.length ∧ p = stepNo w t (i + j) (nth ks j) :: q ∧ q ∈ (nth ks j).leaves
 | [], _, _, _, _, h => by rw [V.leavesS] at h; cases h
 | v :: r, w, t, i, p, h => by
  rw [V.leavesS] at h
  rcases List.mem_append.1 h with h | h
  ·obtain ⟨q, hq, rfl⟩ := List.mem_map.1 h
   exact ⟨0, q, by simp, rfl, hq⟩
  ·obtain ⟨j, q, h1, h2, h3⟩ := leavesS_mem h
   exact ⟨j + 1, q, by simp; omega, by rw [h2, show i + 1 + j = i + (j + 1) by omega]; rfl, h3⟩
theorem leaf_fld {p : Fld × V} : (fldV p).leaves = p.2.leaves := by
 show V.leaves (.nd 61 [] p.1.tag [p.2]) = _
 rw [V.leaves, if_neg (by simp [leafW]), if_pos rfl, V.leavesF, V.leavesF, List.append_nil]
theorem leafW_82 {b : Bool} : leafW 82 b = false := by cases b <;> rfl
theorem leafW_91 {b : Bool} : leafW 91 b = false := by cases b <;> rfl
theorem leafW_85 {b : Bool} : leafW 85 b = false := by cases b <;> rfl
theorem toldV_mem {t : Ty} (hw : TyW t) : ∀ {fs : List (Fld × V)}, (∀ p ∈ fs, p.1 ∈ t.fields) → (fs.Pairwise fun a b => a.1.tag < b.1.tag) → ∀ {p : Fld × V}, p ∈ fs → toldV p.1 (fs.map fldV) = some p.2
 | q :: fs, hf, hs, p, hp => by
  rw [List.pairwise_cons] at hs
  rw [List.map_cons, toldV]
  rcases List.mem_cons.1 hp with rfl | hp
  ·rw [if_pos (show (fldV p).tag = p.1.tag from rfl)]; rfl
  ·have := hs.1 p hp
   rw [if_neg (show ¬ (fldV q).tag = p.1.tag by show ¬ q.1.tag = p.1.tag; omega)]
   exact toldV_mem hw (fun r hr => hf r (by simp [hr])) hs.2 hp
theorem leaves_ok (hw : SchW ts) {k : List UInt8} {v : V} (h : OfK ts k v) : ∀ p ∈ v.leaves, (∀ n ∈ p, 0 ≤ n ∧ n ≤ 999999) ∧ ∃ k' u, followV ts k v p = some (k', u) ∧ u.size = 1 := by
 have one : ∀ (k : List UInt8) (w : Nat) (x : List UInt8) (t : Int), leafW w true = true → ∀ p ∈ (V.nd w x t []).leaves, (∀ n ∈ p, 0 ≤ n ∧ n ≤ 999999) ∧ ∃ k' u, followV ts k (.nd w x t []) p = some (k', u) ∧ u.size = 1 := fun k w x t hl p hp => by
  rw [V.leaves, if_pos (by simpa using hl)] at hp
  simp only [List.mem_singleton] at hp
  subst hp
  exact ⟨by simp, k, _, rfl, by rw [V.size, if_pos (by simpa using hl)]⟩
 induction h with
 | num k n h1 h2 => exact one _ _ _ _ rfl
 | txt k x h1 => exact one _ _ _ _ rfl
 | flg k x h1 => exact one _ _ _ _ rfl
 | lst k ks h1 h2 ih =>
  intro p hp
  rw [V.leaves, if_neg (by rw [leafW_91]; decide), if_neg dC] at hp
  obtain ⟨j, q, h3, rfl, h4⟩ := leavesS_mem hp
  obtain ⟨g1, k', u, g2, g3⟩ := ih _ (nth_mem h3) q h4
  have e1 : stepNo 91 0 (0 + j) (nth ks j) = (j : Int) := by unfold stepNo; rw [if_neg dC, if_neg dC]; simp
  rw [e1]
  refine ⟨fun n hn => ?_, k', u, ?_, g3⟩
  ·rcases List.mem_cons.1 hn with rfl | hn
   ·omega
   ·exact g1 n hn
  ·have hs : stepV ts (91 :: k) (.nd 91 [] 0 ks) (j : Int) = some (k, nth ks j) := by
    unfold stepV; dsimp only
    rw [if_pos (.inl rfl), V.kids, if_pos oM, Int.toNat_natCast]
   rw [followV_cons hs, g2]
 | non k => exact one _ _ _ _ rfl
 | opt k v h1 ih =>
  intro p hp
  rw [V.leaves, if_neg (by simp [leafW]), if_neg dC] at hp
  obtain ⟨j, q, h3, rfl, h4⟩ := leavesS_mem hp
  obtain rfl : j = 0 := by simp at h3; omega
  obtain ⟨g1, k', u, g2, g3⟩ := ih q h4
  have e1 : stepNo 63 0 (0 + 0) (nth [v] 0) = 0 := by unfold stepNo; rw [if_neg dC, if_neg dC]; simp
  rw [e1]
  refine ⟨fun n hn => ?_, k', u, ?_, g3⟩
  ·rcases List.mem_cons.1 hn with rfl | hn
   ·omega
   ·exact g1 n hn
  ·have hs : stepV ts (63 :: k) (.nd 63 [] 0 [v]) 0 = some (k, v) := by
    unfold stepV; dsimp only
    rw [if_pos (.inr rfl), V.kids, if_pos (by simp)]; rfl
   rw [followV_cons hs, g2]
 | recd k t fs h1 h2 h3 h4 h5 h6 ih =>
  intro p hp
  rw [V.leaves, if_neg (by rw [leafW_82]; decide), if_neg dC] at hp
  obtain ⟨j, q, h7, rfl, h8⟩ := leavesS_mem hp
  have hW := hw.ty t (refT_mem h1)
  have hj : j < fs.length := by simpa using h7
  have e0 : nth (fs.map fldV) j = fldV (nth fs j) := by rw [nth_eq h7, nth_eq hj]; simp
  rw [e0, leaf_fld] at h8
  have hm := nth_mem hj
  obtain ⟨g1, k', u, g2, g3⟩ := ih _ hm q h8
  have ht := (hW.fld _ (h3 _ hm)).tag
  have e1 : stepNo 82 0 (0 + j) (nth (fs.map fldV) j) = (nth fs j).1.tag := by rw [e0]; unfold stepNo; rw [if_neg dC, if_pos rfl]; rfl
  rw [e1]
  refine ⟨fun n hn => ?_, k', u, ?_, g3⟩
  ·rcases List.mem_cons.1 hn with rfl | hn
   ·omega
   ·exact g1 n hn
  ·obtain ⟨r, rfl⟩ := kind_64 h1
   have hs : stepV ts (64 :: r) (.nd 82 [] 0 (fs.map fldV)) (nth fs j).1.tag = some ((nth fs j).1.kind, (nth fs j).2) := by
    unfold stepV; dsimp only
    rw [if_neg dC, h1]
    dsimp only
    rw [fldT_mem hW (h3 _ hm)]
    dsimp only
    rw [if_neg oM, if_pos h2]
    unfold getV
    rw [V.kids, toldV_mem hW h3 h6 hm]; rfl
   rw [followV_cons hs, g2]
 | enm k t d h1 h2 h3 => exact one _ _ _ _ rfl
 | uni k t d v h1 h2 h3 h4 h5 ih =>
  intro p hp
  rw [V.leaves, if_neg (by rw [leafW_85]; decide), if_neg dC] at hp
  obtain ⟨j, q, h7, rfl, h8⟩ := leavesS_mem hp
  obtain rfl : j = 0 := by simp at h7; omega
  obtain ⟨g1, k', u, g2, g3⟩ := ih q h8
  have hW := hw.ty t (refT_mem h1)
  have ht := (hW.fld _ h4).tag
  have e1 : stepNo 85 d.tag (0 + 0) (nth [v] 0) = d.tag := by unfold stepNo; rw [if_pos rfl]
  rw [e1]
  refine ⟨fun n hn => ?_, k', u, ?_, g3⟩
  ·rcases List.mem_cons.1 hn with rfl | hn
   ·omega
   ·exact g1 n hn
  ·obtain ⟨r, rfl⟩ := kind_64 h1
   have hs : stepV ts (64 :: r) (.nd 85 [] d.tag [v]) d.tag = some (d.kind, v) := by
    unfold stepV; dsimp only
    rw [if_neg dC, h1]
    dsimp only
    rw [fldT_mem hW h4]
    dsimp only
    rw [if_neg h3, if_neg h2, V.tag, if_pos rfl]; rfl
   rw [followV_cons hs, g2]
end Go.E
namespace Go.E
set_option maxRecDepth 20000
set_option maxHeartbeats 2000000
def lvT (q : List Int) (v : V) : List (List UInt8) := v.leaves.map fun r => pathText (q ++ r)
def lvS (q : List Int) (ks : List V) (w : Nat) (t : Int) : List (List UInt8) := (V.leavesS ks w t 0).map fun r => pathText (q ++ r)
theorem leavesS_snoc {w : Nat} {t : Int} {v : V} : ∀ {ks : List V} {i : Nat}, V.leavesS (ks ++ [v]) w t i = V.leavesS ks w t i ++ v.leaves.map (stepNo w t (i + ks.length) v :: ·)
 | [], i => by rw [List.nil_append, V.leavesS, V.leavesS, V.leavesS]; simp
 | u :: ks, i => by rw [List.cons_append, V.leavesS, V.leavesS, leavesS_snoc, List.append_assoc, List.length_cons, show i + 1 + ks.length = i + (ks.length + 1) by omega]
theorem lvS_snoc {q : List Int} {ks : List V} {v : V} {w : Nat} {t : Int} : lvS q (ks ++ [v]) w t = lvS q ks w t ++ lvT (q ++ [stepNo w t ks.length v]) v := by
 unfold lvS lvT
 rw [leavesS_snoc, List.map_append, List.map_map, Nat.zero_add]
 congr 1
 refine List.map_congr_left fun r _ => ?_
 simp
theorem lvS_nil {q : List Int} {w : Nat} {t : Int} : lvS q [] w t = [] := by unfold lvS; rw [V.leavesS]; rfl
theorem lvT_leaf {q : List Int} {w : Nat} {x : List UInt8} {t : Int} (h : leafW w true = true) : lvT q (.nd w x t []) = [pathText q] := by
 unfold lvT
 rw [V.leaves, if_pos (c := leafW w ([] : List V).isEmpty = true) h]
 simp
theorem lvT_nd {q : List Int} {w : Nat} {x : List UInt8} {t : Int} {ks : List V} (h : leafW w ks.isEmpty = false) (h61 : w ≠ 61) : lvT q (.nd w x t ks) = lvS q ks w t := by
 unfold lvT lvS
 rw [V.leaves, if_neg (by rw [h]; simp), if_neg h61]
theorem lvT_fld {q : List Int} {t : Int} {v : V} : lvT q (.nd 61 [] t [v]) = lvT q v := by
 unfold lvT
 rw [V.leaves, if_neg (by simp [leafW]), if_pos rfl, V.leavesF, V.leavesF, List.append_nil]
theorem lvS_len {q : List Int} {ks : List V} {w : Nat} {t : Int} : (lvS q ks w t).length = V.sizes ks := by unfold lvS; rw [List.length_map, size_leavesS ks w t 0]
theorem lvT_len {q : List Int} {v : V} : (lvT q v).length = v.size := by unfold lvT; rw [List.length_map, size_leaves]
theorem size_leaf {w : Nat} {x : List UInt8} {t : Int} (h : leafW w true = true) : V.size (.nd w x t []) = 1 := by rw [V.size, if_pos (c := leafW w ([] : List V).isEmpty = true) h]
theorem sizes_snocL (v : V) : ∀ (ks : List V), V.sizes (ks ++ [v]) = V.sizes ks + v.size
 | [] => by simp [V.sizes]
 | u :: r => by simp only [List.cons_append, V.sizes, sizes_snocL v r]; omega
mutual
theorem size_totL : ∀ v : V, v.size ≤ v.tot
 | .nd w x t ks => by
  have := sizes_totL ks
  rw [V.size, V.tot]; split <;> omega
theorem sizes_totL : ∀ ks : List V, V.sizes ks ≤ V.tots ks
 | [] => by simp [V.sizes]
 | v :: r => by
  have := size_totL v
  have := sizes_totL r
  rw [V.sizes, V.tots]; omega
end
theorem path_one {n : Int} : pathText [n] = decI n := rfl
theorem path_snoc {q : List Int} {n : Int} (h : q ≠ []) : pathText q ++ [47] ++ decI n = pathText (q ++ [n]) := by
 rw [pathText_app h (by simp), path_one]; simp
theorem path_nil {q : List Int} : pathText q = [] ↔ q = [] := ⟨fun h => by
 cases q with
 | nil => rfl
 | cons n q => exact absurd h (pathText_ne (by simp)), fun h => by rw [h]; rfl⟩
theorem pathText_len : ∀ {q : List Int}, (∀ n ∈ q, 0 ≤ n ∧ n ≤ 999999) → (pathText q).length ≤ 7 * q.length
 | [], _ => by simp [pathText, joinB]
 | [n], h => by
  have := decI_6 (h n (by simp)).2
  rw [path_one]; simp only [List.length_cons, List.length_nil]; omega
 | n :: m :: q, h => by
  have h1 := decI_6 (h n (by simp)).2
  have h2 := pathText_len (q := m :: q) fun x hx => h x (by simp [List.mem_cons] at hx ⊢; exact .inr hx)
  rw [pathText_cons (by simp)]
  simp only [List.length_append, List.length_cons] at h2 ⊢
  omega
theorem snoc_in {q : List Int} {s : Int} (hq : ∀ n ∈ q, 0 ≤ n ∧ n ≤ 999999) (h : 0 ≤ s ∧ s ≤ 999999) : ∀ n ∈ q ++ [s], 0 ≤ n ∧ n ≤ 999999 := fun n hn => by
 rcases List.mem_append.1 hn with hn | hn
 ·exact hq n hn
 ·simp only [List.mem_singleton] at hn; subst hn; exact h
end Go.E
