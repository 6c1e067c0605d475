/- Contracts and plain laws that the statement rests on, part 6. Conditions: as each says. -/
import Derived.Test.YtaafndolbdancaaGreatDoorU5
set_option linter.unusedVariables false
set_option linter.unusedSimpArgs false
namespace Go.E
set_option maxRecDepth 20000
set_option maxHeartbeats 2000000
open Go.Proofs
variable {G : Gh}
theorem shp_cap {b m cap : Nat} (h : Shp (.slice (some ⟨b, 0, none⟩) m cap) m) (hm : 0 < m) : ∃ c, cap = c + 1 := by
 rcases h with ⟨h, _⟩ | ⟨b', cap', h, h2⟩
 ·cases h
 ·simp only [Value.slice.injEq] at h
  exact ⟨cap - 1, by omega⟩
theorem c_wby0 {b : Nat} {c : UInt8} : FnG Tryz.prog 75 [Pt b 0, U8 c.toNat] G [.blk b (.cells (List.toArray [.pointer none, nilS]) tBld (0, 0))]
  (fun r L' => ∃ b2 c2, r = .nilIface ∧ L' = [.acc (.slice (some ⟨b2, 0, none⟩) 1 (c2 + 1)) tByt 1 1 (u8s [c]), .blk b (.cells (List.toArray [Pt b 0, .slice (some ⟨b2, 0, none⟩) 1 (c2 + 1)]) tBld (0, 0))]) := by
 refine jH [(0, _), (1, _)] Tryz.func75 Tryz.ntmps75 fun B hB hW => ?_
 refine Nx.addNil tByt 1 ?_
 repeat' (first | (refine jR ?_) | (refine k_op rfl ?_; first | refine jV (g_ld rfl rfl rfl) ?_ | refine c_bsl rfl rfl rfl rfl rfl rfl fun _ => ?_ | (refine c_apX rfl rfl rfl rfl rfl rfl rfl rfl rfl (by omega) fun _ _ => ?_) | refine c_st1 rfl rfl rfl rfl ?_ | (refine c_m1g rfl rfl rfl c_ccF rfl ?_; rintro _ _ rfl; dsimp only [zA, fA])))
 refine Nx.shp (.head _) fun hsh => ?_
 obtain ⟨c2, rfl⟩ := shp_cap hsh (by omega)
 exact k_rr (vs := [_]) rfl ⟨rfl, trivial⟩ rfl (.cons_cons _ (.cons _ (List.Sublist.refl _))) ⟨rfl, _, c2, rfl, rfl⟩
theorem c_wby {b b1 c1 m : Nat} {l : List UInt8} {c : UInt8} (hm : m ≤ 1000000000) : FnG Tryz.prog 75 [Pt b 0, U8 c.toNat] G [.blk b (.cells (List.toArray [Pt b 0, .slice (some ⟨b1, 0, none⟩) m (c1 + 1)]) tBld (0, 0)), .acc (.slice (some ⟨b1, 0, none⟩) m (c1 + 1)) tByt 1 m (u8s l)]
  (fun r L' => ∃ b2 c2, r = .nilIface ∧ L' = [.acc (.slice (some ⟨b2, 0, none⟩) (m + 1) (c2 + 1)) tByt 1 (m + 1) (u8s l ++ u8s [c]), .blk b (.cells (List.toArray [Pt b 0, .slice (some ⟨b2, 0, none⟩) (m + 1) (c2 + 1)]) tBld (0, 0))]) := by
 refine jH [(0, _), (1, _)] Tryz.func75 Tryz.ntmps75 fun B hB hW => ?_
 repeat' (first | (refine jR ?_) | (refine k_op rfl ?_; first | refine jV (g_ld rfl rfl rfl) ?_ | refine c_bsl rfl rfl rfl rfl rfl rfl fun _ => ?_ | (refine c_apX rfl rfl rfl rfl rfl rfl rfl rfl rfl (by omega) fun _ _ => ?_) | refine c_st1 rfl rfl rfl rfl ?_ | (refine c_m1g rfl rfl rfl c_ccU rfl ?_; rintro _ _ rfl; dsimp only [zA, fA])))
 refine Nx.shp (.head _) fun hsh => ?_
 obtain ⟨c2, rfl⟩ := shp_cap hsh (by omega)
 exact k_rr (vs := [_]) rfl ⟨rfl, trivial⟩ rfl (.cons_cons _ (.cons _ (List.Sublist.refl _))) ⟨rfl, _, c2, rfl, rfl⟩
theorem c_wbz0 {b : Nat} : FnG Tryz.prog 75 [Pt b 0, .int .u8 0] G [.blk b (.cells (List.toArray [.pointer none, nilS]) tBld (0, 0))]
  (fun r L' => ∃ b2 c2, r = .nilIface ∧ L' = [.acc (.slice (some ⟨b2, 0, none⟩) 1 (c2 + 1)) tByt 1 1 (u8s [0]), .blk b (.cells (List.toArray [Pt b 0, .slice (some ⟨b2, 0, none⟩) 1 (c2 + 1)]) tBld (0, 0))]) := c_wby0 (c := 0)
theorem c_wbz {b b1 c1 m : Nat} {l : List UInt8} (hm : m ≤ 1000000000) : FnG Tryz.prog 75 [Pt b 0, .int .u8 0] G [.blk b (.cells (List.toArray [Pt b 0, .slice (some ⟨b1, 0, none⟩) m (c1 + 1)]) tBld (0, 0)), .acc (.slice (some ⟨b1, 0, none⟩) m (c1 + 1)) tByt 1 m (u8s l)]
  (fun r L' => ∃ b2 c2, r = .nilIface ∧ L' = [.acc (.slice (some ⟨b2, 0, none⟩) (m + 1) (c2 + 1)) tByt 1 (m + 1) (u8s l ++ u8s [0]), .blk b (.cells (List.toArray [Pt b 0, .slice (some ⟨b2, 0, none⟩) (m + 1) (c2 + 1)]) tBld (0, 0))]) := c_wby (c := 0) hm
theorem c_mark {w : Nat} {x ah l : List UInt8} {t : Int} {ks : List V} {cs : List VC} {a : Option Addr} {k bv bb : Nat} {q : Option (Nat × Nat)} (hq : q = none → l = []) (hl : l.length ≤ 100000) (hah : ah.length ≤ 1) (hk : ks.length ≤ 100000) (hcl : cs.length = ks.length) (hsl : SlV G (.slice a ks.length k) 4 cs.length (rows vcF cs)) (hfl : (mrk [1] (V.keys ks)).length ≤ 100000)
  (ih : ∀ i, i < ks.length → PuG Tryz.prog 30 [Ag (vcF (nth cs i))] G (· = S (nth ks i).key) ∧ (nth ks i).key.length ≤ 100000) :
  FnG Tryz.prog 72 [S ah, Pt bv 0, Pt bb 0] G (bldO bb q l ++ [.blk bv (.cells (List.toArray [U8 (w : Nat), S x, I t, .slice a ks.length k]) tVal (0, 0))])
   (fun _ L' => ∃ q2, (q2 = none → l ++ mrk ah (V.keys ks) = []) ∧ L' = bldO bb q2 (l ++ mrk ah (V.keys ks)) ++ [.blk bv (.cells (List.toArray [U8 (w : Nat), S x, I t, .slice a ks.length k]) tVal (0, 0))]) := by
 have hml := mrk_le hah (V.keys ks)
 refine jH [(0, _), (1, _), (2, _)] Tryz.func72 Tryz.ntmps72 fun B hB hW => ?_
 refine Nx.perm (List.perm_append_comm) ?_
 dsimp only [zA, fA]
 repeat' (first | (refine jR ?_) | (refine k_op rfl ?_; first | refine jV (g_ld rfl rfl rfl) ?_ | refine jV (g_lenL rfl) ?_))
 refine Nx.perm (L' := bldO bb q l ++ [.blk bv (.cells (List.toArray [U8 (w : Nat), S x, I t, .slice a ks.length k]) tVal (0, 0))]) (List.perm_append_comm (l₁ := [_])) ?_
 refine k_loop (ι := Nat × Option (Nat × Nat) × List UInt8) (fun j => j.1 ≤ ks.length ∧ j.2.2 = l ++ mrk ah ((V.keys ks).take j.1) ∧ (j.2.1 = none → j.2.2 = [])) (fun j => [(0, S ah), (2, Pt bb 0), (7, .slice a ks.length k), (8, I ks.length), (9, I j.1)]) (fun _ => G) (fun j => bldO bb j.2.1 j.2.2 ++ [.blk bv (.cells (List.toArray [U8 (w : Nat), S x, I t, .slice a ks.length k]) tVal (0, 0))]) (fun j => ks.length - j.1) (0, q, l) ?_ (by repeat' constructor) rfl (by dsimp only [bldO]; repeat (exact List.Sublist.refl _)) (fun j Hj => ?_)
 ·exact ⟨Nat.zero_le _, by simp [mrk], hq⟩
 obtain ⟨i, q, l'⟩ := j
 dsimp only at Hj ⊢
 obtain ⟨hi0, hl', hl0⟩ := Hj
 have hj1 := mrk_take ah (V.keys ks) i
 have hll : l'.length ≤ 200000 := by rw [hl', List.length_append]; omega
 by_cases hi : i < ks.length
 ·obtain ⟨cx_key, hbl⟩ := ih i hi
  have hkp := key_pos (nth ks i)
  obtain ⟨bf, of, cf, e, hs⟩ := hsl.expl (by omega)
  simp only [Value.slice.injEq] at e
  obtain ⟨rfl, -, rfl⟩ := e
  have hal : (ah ++ (nth ks i).key).length = ah.length + (nth ks i).key.length := List.length_append
  have hm9 : l'.length + (ah ++ (nth ks i).key).length ≤ 1000000000 := by omega
  have hbl0 : 0 < (ah ++ (nth ks i).key).length ∧ (ah ++ (nth ks i).key).length ≤ 1000000000 := by omega
  have hfn := mrk_snoc (a := ah) hi
  have hl2 : l' ++ (ah ++ (nth ks i).key) = l ++ mrk ah ((V.keys ks).take (i + 1)) := by rw [hl', hfn]; simp
  cases q with
  | none =>
   obtain rfl := hl0 rfl
   simp only [bldO, List.cons_append, List.nil_append]
   repeat' (first | refine jM ?_ | (refine k_op rfl ?_; first | (refine jV (g_ldR rfl rfl (by assumption) ?_) ?_; (focus ((omega); done))) | refine jV (g_ldA rfl rfl rfl rfl) ?_ | (refine jV (g_iaddrN rfl rfl (by omega)) ?_) | refine c_al rfl rfl fun _ => ?_ | refine c_stA rfl rfl rfl rfl rfl rfl ?_ | (refine c_rt rfl rfl rfl cx_key rfl ?_) | (refine c_m1g rfl rfl rfl (c_wstr0 (by omega)) rfl ?_; rintro _ _ ⟨b3, c3, rfl, rfl⟩; dsimp only [zA, fA])) | (refine k_tt rfl (dTt (by omega)) ?_))
   exact k_rd (i + 1, some (_, _), ah ++ (nth ks i).key) ⟨by dsimp only; omega, hl2, fun h => (by cases h)⟩ (by dsimp only; omega) (by repeat' constructor) rfl (by dsimp only [bldO]; repeat (first | exact List.Sublist.refl _ | apply List.Sublist.cons_cons | apply List.Sublist.cons))
  | some q =>
   obtain ⟨b2, c2⟩ := q
   simp only [bldO, List.cons_append, List.nil_append]
   repeat' (first | refine jM ?_ | (refine k_op rfl ?_; first | (refine jV (g_ldR rfl rfl (by assumption) ?_) ?_; (focus ((omega); done))) | refine jV (g_ldA rfl rfl rfl rfl) ?_ | (refine jV (g_iaddrN rfl rfl (by omega)) ?_) | refine c_al rfl rfl fun _ => ?_ | refine c_stA rfl rfl rfl rfl rfl rfl ?_ | (refine c_rt rfl rfl rfl cx_key rfl ?_) | (refine c_m2g rfl rfl rfl (c_wstr (by (repeat (assumption)); done)) rfl ?_; rintro _ _ ⟨b3, c3, rfl, rfl⟩; dsimp only [zA, fA])) | (refine k_tt rfl (dTt (by omega)) ?_))
   rw [bldO_ap]
   exact k_rd (i + 1, some (_, _), l' ++ (ah ++ (nth ks i).key)) ⟨by dsimp only; omega, hl2, fun h => (by cases h)⟩ (by dsimp only; omega) (by repeat' constructor) rfl (by dsimp only [bldO]; repeat (first | exact List.Sublist.refl _ | apply List.Sublist.cons_cons | apply List.Sublist.cons))
 ·have hin : i = ks.length := by omega
  subst hin
  rw [← keys_len, List.take_length] at hl'
  repeat' (first | (refine jR ?_) | (refine k_ff rfl (dFf (by omega)) ?_))
  exact k_re (vs := []) rfl trivial rfl (List.Sublist.refl _) ⟨rfl, q, fun h => by rw [← hl']; exact hl0 h, by rw [hl']⟩
theorem c_key_leaf {w : Nat} {x : List UInt8} {t : Int} {a : Option Addr} {k : Nat} (hw : wfW w x t []) (h : w = 110 ∨ w = 116 ∨ w = 102 ∨ w = 69) (hx : x.length ≤ 100000) : PuG Tryz.prog 30 [Ag [U8 (w : Nat), S x, I t, .slice a ([] : List V).length k]] G (· = S (V.nd w x t []).key) := by
 have hty := wfW_tag hw
 unfold wfW at hw
 rcases h with rfl | rfl | rfl | rfl
 ·simp only [Nat.reduceEqDiff, false_and, or_false, true_and] at hw
  obtain ⟨rfl, m, hm0, hm1, hx1, hnum0⟩ := hw
  have cx_pnB := c_plainNumberB (G := G) (s := x) (top := 999999) (by omega)
  refine jE [(0, _)] Tryz.func30 Tryz.ntmps30 fun B hB => ?_
  repeat' (first | (refine jR ?_) | (refine k_op rfl ?_; first | refine c_bx rfl rfl rfl fun _ => ?_ | refine c_al rfl rfl fun _ => ?_ | refine jV (g_mkf rfl rfl) ?_ | refine jV (g_ld rfl rfl rfl) ?_ | (refine jV (g_shr rfl rfl (by omega)) ?_) | refine c_bsl rfl rfl rfl rfl rfl rfl fun _ => ?_ | refine jV (g_bsB rfl rfl (by (repeat (first | exact BL.nil | apply BL.cons)); done)) ?_ | (refine c_pu rfl rfl rfl (c_plainNumber (by omega)) rfl ?_; rintro _ ⟨n, rfl, hnum⟩)) | (refine k_tt rfl rfl ?_))
  obtain rfl := hnum _ hnum0
  repeat' (fail)
  refine jZ (vs := [_]) rfl ⟨rfl, trivial⟩ rfl ⟨rfl, rfl, ?_⟩
  have e1 : n.fdiv (2 ^ min (Int.toNat 16) IntKind.i64.bits) = n / 65536 := by rw [show (2 ^ min (Int.toNat 16) IntKind.i64.bits : Int) = 65536 from rfl, Int.fdiv_eq_ediv_of_nonneg _ (by decide)]
  have e2 : n.fdiv (2 ^ min (Int.toNat 8) IntKind.i64.bits) = n / 256 := by rw [show (2 ^ min (Int.toNat 8) IntKind.i64.bits : Int) = 256 from rfl, Int.fdiv_eq_ediv_of_nonneg _ (by decide)]
  rw [oneOf_one, e1, e2, V.key]; simp [keyW, hnum0]
 ·refine jE [(0, _)] Tryz.func30 Tryz.ntmps30 fun B hB => ?_
  repeat' (first | (refine run (t := tb) 400 rfl ?_ ?_; (focus (repeat' (first | exact trivial | apply And.intro | (simp only [List.length_append, List.length_cons, List.length_nil, Int.toNat_natCast]; omega))))) | (refine k_op rfl ?_; first | refine c_bx rfl rfl rfl fun _ => ?_ | refine c_al rfl rfl fun _ => ?_ | refine jV (g_mkf rfl rfl) ?_ | refine jV (g_ld rfl rfl rfl) ?_) | (refine k_tt rfl rfl ?_) | (refine k_ff rfl rfl ?_))
  refine jZ (vs := [_]) rfl ⟨rfl, trivial⟩ rfl ⟨rfl, rfl, ?_⟩
  rw [oneOf_one, V.key]; rfl
 ·simp only [Nat.reduceEqDiff, false_and, or_false, true_and, false_or] at hw
  obtain ⟨rfl, rfl | rfl⟩ := hw
  all_goals
   refine jE [(0, _)] Tryz.func30 Tryz.ntmps30 fun B hB => ?_
   repeat' (first | (refine jR ?_) | (refine k_op rfl ?_; first | refine c_bx rfl rfl rfl fun _ => ?_ | refine c_al rfl rfl fun _ => ?_ | refine jV (g_mkf rfl rfl) ?_ | refine jV (g_ld rfl rfl rfl) ?_) | (refine k_tt rfl rfl ?_) | (refine k_ff rfl rfl ?_))
   refine jZ (vs := [_]) rfl ⟨rfl, trivial⟩ rfl ⟨rfl, rfl, ?_⟩
   rw [oneOf_one, V.key]; rfl
 ·refine jE [(0, _)] Tryz.func30 Tryz.ntmps30 fun B hB => ?_
  repeat' (first | (refine jR ?_) | (refine k_op rfl ?_; first | refine c_bx rfl rfl rfl fun _ => ?_ | refine c_al rfl rfl fun _ => ?_ | refine jV (g_mkf rfl rfl) ?_ | refine jV (g_ld rfl rfl rfl) ?_ | refine c_bsl rfl rfl rfl rfl rfl rfl fun _ => ?_ | refine jV (g_bsB rfl rfl (by (repeat (first | exact BL.nil | apply BL.cons)); done)) ?_) | (refine k_tt rfl rfl ?_) | (refine k_ff rfl rfl ?_))
  refine jZ (vs := [_]) rfl ⟨rfl, trivial⟩ rfl ⟨rfl, rfl, ?_⟩
  rw [oneOf_one, V.key]; rfl
theorem c_key_opt0 {a : Option Addr} {k : Nat} : PuG Tryz.prog 30 [Ag [U8 (63 : Nat), S [], I 0, .slice a ([] : List V).length k]] G (· = S (V.nd 63 [] 0 []).key) := by
 refine jE [(0, _)] Tryz.func30 Tryz.ntmps30 fun B hB => ?_
 repeat' (first | (refine jR ?_) | (refine k_op rfl ?_; first | refine c_bx rfl rfl rfl fun _ => ?_ | refine c_al rfl rfl fun _ => ?_ | refine jV (g_mkf rfl rfl) ?_ | refine jV (g_ld rfl rfl rfl) ?_ | refine jV (g_lenL rfl) ?_) | (refine k_tt rfl rfl ?_) | (refine k_ff rfl rfl ?_))
 refine jZ (vs := [_]) rfl ⟨rfl, trivial⟩ rfl ⟨rfl, rfl, ?_⟩
 rw [oneOf_one, V.key]; rfl
section
variable {ks : List V} {cs : List VC} {a : Option Addr} {k : Nat}
theorem c_key_opt (h0 : 0 < ks.length) (hk : ks.length ≤ 100000) (hcl : cs.length = ks.length) (hsl : SlV G (.slice a ks.length k) 4 cs.length (rows vcF cs)) (hfl : (mrk [1] (V.keys ks)).length ≤ 100000)
  (ih : ∀ i, i < ks.length → PuG Tryz.prog 30 [Ag (vcF (nth cs i))] G (· = S (nth ks i).key) ∧ (nth ks i).key.length ≤ 100000) :
  PuG Tryz.prog 30 [Ag [U8 (63 : Nat), S [], I 0, .slice a ks.length k]] G (· = S (V.nd 63 [] 0 ks).key) := by
 refine jE [(0, _)] Tryz.func30 Tryz.ntmps30 fun B hB => ?_
 repeat' (first | (refine jR ?_) | (refine k_op rfl ?_; first | refine c_bx rfl rfl rfl fun _ => ?_ | refine c_al rfl rfl fun _ => ?_ | refine jV (g_mkf rfl rfl) ?_ | refine jV (g_ld rfl rfl rfl) ?_ | refine jV (g_lenL rfl) ?_) | (refine k_tt rfl rfl ?_) | (refine k_ff rfl (by first | rfl | (refine decide_eq_false ?_; (omega))) ?_))
 rename_i bv bb
 refine k_op rfl ?_
 refine c_call (vs := [S [1], Pt bv 0, Pt bb 0]) (Lp := bldO bb none [] ++ ([.blk bv (.cells (List.toArray [U8 (63 : Nat), S [], I 0, .slice a ks.length k]) tVal (0, 0))] : List Own)) (R := []) rfl rfl rfl (c_mark (bv := bv) (bb := bb) (q := none) (l := []) (ah := [1]) (fun h => (by (rfl))) (by simp) (by simp) hk hcl hsl hfl ih) (List.Perm.refl _) rfl ?_
 rintro r _ _ ⟨rfl, q, hq, rfl⟩
 have hml := mrk_le (a := [1]) (by simp) (V.keys ks)
 have e2 : (V.nd 63 [] 0 ks).key = mrk [1] (V.keys ks) := by
  rw [V.key]
  unfold keyW
  have : V.keys ks ≠ [] := fun h => by have := keys_len ks; rw [h] at this; simp at this; omega
  rw [if_neg (by decide), if_neg (by decide), if_neg (by decide), if_neg (by decide), if_neg (fun h => this h.2), if_neg (by decide), if_pos rfl, mrk_one]
 rw [e2]
 cases q with
 | none =>
  have h9 := hq rfl
  simp only [List.nil_append] at h9
  simp only [bldO, List.cons_append, List.nil_append]
  repeat' (first | (refine jR ?_) | (refine k_op rfl ?_; (refine c_m1g rfl rfl rfl c_bstr0 rfl ?_; rintro _ _ ⟨rfl, rfl⟩; dsimp only [zA, fA])))
  refine jZ (vs := [_]) rfl ⟨rfl, trivial⟩ rfl ⟨rfl, rfl, ?_⟩
  rw [oneOf_one, h9]
 | some q =>
  obtain ⟨b2, c2⟩ := q
  simp only [bldO, List.cons_append, List.nil_append]
  repeat' (first | (refine jR ?_) | (refine k_op rfl ?_; (refine c_m2g rfl rfl rfl (c_bstr (by omega)) rfl ?_; rintro _ _ ⟨rfl, rfl⟩; dsimp only [zA, fA])))
  refine jZ (vs := [_]) rfl ⟨rfl, trivial⟩ rfl ⟨rfl, rfl, ?_⟩
  rw [oneOf_one]
theorem c_key_lst {w : Nat} (hw : w = 91 ∨ w = 82) (hk : ks.length ≤ 100000) (hcl : cs.length = ks.length) (hsl : SlV G (.slice a ks.length k) 4 cs.length (rows vcF cs)) (hfl : (mrk [1] (V.keys ks)).length ≤ 100000)
  (ih : ∀ i, i < ks.length → PuG Tryz.prog 30 [Ag (vcF (nth cs i))] G (· = S (nth ks i).key) ∧ (nth ks i).key.length ≤ 100000) :
  PuG Tryz.prog 30 [Ag [U8 (w : Nat), S [], I 0, .slice a ks.length k]] G (· = S (V.nd w [] 0 ks).key) := by
 have e2 : (V.nd w [] 0 ks).key = mrk [1] (V.keys ks) ++ [0] := by
  rw [V.key]
  unfold keyW
  rw [if_neg (by omega), if_neg (by omega), if_neg (by omega), if_neg (by omega), if_neg (by omega), if_neg (by omega), if_neg (by omega), mrk_one]
 rw [e2]
 have hwz : ∀ {l : List UInt8}, u8s l ++ u8s [0] = u8s (l ++ [0]) := fun {l} => by simp [u8s]
 rcases hw with rfl | rfl
 all_goals
  refine jE [(0, _)] Tryz.func30 Tryz.ntmps30 fun B hB => ?_
  repeat' (first | (refine jR ?_) | (refine k_op rfl ?_; first | refine c_bx rfl rfl rfl fun _ => ?_ | refine c_al rfl rfl fun _ => ?_ | refine jV (g_mkf rfl rfl) ?_ | refine jV (g_ld rfl rfl rfl) ?_) | (refine k_tt rfl rfl ?_) | (refine k_ff rfl rfl ?_))
  rename_i bv bb
  refine k_op rfl ?_
  refine c_call (vs := [S [1], Pt bv 0, Pt bb 0]) (Lp := bldO bb none [] ++ ([.blk bv (.cells (List.toArray [U8 (_ : Nat), S [], I 0, .slice a ks.length k]) tVal (0, 0))] : List Own)) (R := []) rfl rfl rfl (c_mark (bv := bv) (bb := bb) (q := none) (l := []) (ah := [1]) (fun h => (by (rfl))) (by simp) (by simp) hk hcl hsl hfl ih) (List.Perm.refl _) rfl ?_
  rintro r _ _ ⟨rfl, q, hq, rfl⟩
  generalize mrk [1] (V.keys ks) = m at *
  cases q with
  | none =>
   have h9 := hq rfl
   simp only [List.nil_append] at h9
   simp only [bldO, List.cons_append, List.nil_append]
   repeat' (first | (refine jR ?_) | (refine k_op rfl ?_; first | (refine c_m1g rfl rfl rfl c_wbz0 rfl ?_; rintro _ _ ⟨b3, c3, rfl, rfl⟩; dsimp only [zA, fA]) | (refine c_m2g rfl rfl rfl (c_bstr (by omega)) rfl ?_; rintro _ _ ⟨rfl, rfl⟩; dsimp only [zA, fA])))
   refine jZ (vs := [_]) rfl ⟨rfl, trivial⟩ rfl ⟨rfl, rfl, ?_⟩
   rw [oneOf_one, h9]; rfl
  | some q =>
   obtain ⟨b2, c2⟩ := q
   simp only [bldO, List.cons_append, List.nil_append]
   have hm9 : m.length ≤ 1000000000 := by omega
   repeat' (first | (refine jR ?_) | (refine k_op rfl ?_; (refine c_m2g rfl rfl rfl (c_wbz (by (repeat (assumption)); done)) rfl ?_; rintro _ _ ⟨b3, c3, rfl, rfl⟩; dsimp only [zA, fA])))
   rw [hwz]
   have hlz : (m ++ [0]).length = m.length + 1 := by simp
   repeat' (first | (refine jR ?_) | (refine k_op rfl ?_; (refine c_m2g rfl rfl rfl (c_bstr (by omega)) rfl ?_; rintro _ _ ⟨rfl, rfl⟩; dsimp only [zA, fA])))
   refine jZ (vs := [_]) rfl ⟨rfl, trivial⟩ rfl ⟨rfl, rfl, ?_⟩
   rw [oneOf_one]
theorem c_key_tag {w : Nat} {t : Int} (hw : w = 85 ∨ w = 61) (ht : 0 ≤ t ∧ t ≤ 200) (hk : ks.length ≤ 100000) (hcl : cs.length = ks.length) (hsl : SlV G (.slice a ks.length k) 4 cs.length (rows vcF cs)) (hfl : (mrk [1] (V.keys ks)).length ≤ 100000)
  (ih : ∀ i, i < ks.length → PuG Tryz.prog 30 [Ag (vcF (nth cs i))] G (· = S (nth ks i).key) ∧ (nth ks i).key.length ≤ 100000) :
  PuG Tryz.prog 30 [Ag [U8 (w : Nat), S [], I t, .slice a ks.length k]] G (· = S (V.nd w [] t ks).key) := by
 have e2 : (V.nd w [] t ks).key = [u8 t] ++ mrk [] (V.keys ks) := by
  rw [V.key]
  unfold keyW
  rw [if_neg (by omega), if_neg (by omega), if_neg (by omega), if_neg (by omega), if_neg (by omega), if_pos hw, mrk_nil]; rfl
 rw [e2]
 have hml := mrk_le (a := []) (by simp) (V.keys ks)
 rcases hw with rfl | rfl
 all_goals
  refine jE [(0, _)] Tryz.func30 Tryz.ntmps30 fun B hB => ?_
  repeat' (first | (refine jR ?_) | (refine k_op rfl ?_; first | refine c_bx rfl rfl rfl fun _ => ?_ | refine c_al rfl rfl fun _ => ?_ | refine jV (g_mkf rfl rfl) ?_ | refine jV (g_ld rfl rfl rfl) ?_ | (refine c_m1g rfl rfl rfl c_wby0 rfl ?_; rintro _ _ ⟨b3, c3, rfl, rfl⟩; dsimp only [zA, fA])) | (refine k_tt rfl rfl ?_) | (refine k_ff rfl rfl ?_))
  rename_i bv bb
  refine k_op rfl ?_
  refine c_call (vs := [S [], Pt bv 0, Pt bb 0]) (Lp := bldO bb (some (b3, c3)) [u8 t] ++ ([.blk bv (.cells (List.toArray [U8 (_ : Nat), S [], I t, .slice a ks.length k]) tVal (0, 0))] : List Own)) (R := []) rfl rfl rfl (c_mark (bv := bv) (bb := bb) (q := some (b3, c3)) (l := [u8 t]) (ah := []) (fun h => (by (cases h))) (by simp) (by simp) hk hcl hsl hfl ih) (List.Perm.refl _) rfl ?_
  rintro r _ _ ⟨rfl, q, hq, rfl⟩
  generalize mrk [] (V.keys ks) = m at *
  cases q with
  | none =>
   have h9 := hq rfl
   cases h9
  | some q =>
   obtain ⟨b2, c2⟩ := q
   simp only [bldO, List.cons_append, List.nil_append]
   have hlz : (u8 t :: m).length = m.length + 1 := by simp
   repeat' (first | (refine jR ?_) | (refine k_op rfl ?_; (refine c_m2g rfl rfl rfl (c_bstr (by omega)) rfl ?_; rintro _ _ ⟨rfl, rfl⟩; dsimp only [zA, fA])))
   refine jZ (vs := [_]) rfl ⟨rfl, trivial⟩ rfl ⟨rfl, rfl, ?_⟩
   rw [oneOf_one]
theorem c_key : ∀ (n : Nat) {v : V} {c : VC}, v.tot ≤ n → v.tot ≤ 100000 → v.wf → V.rep G v c → PuG Tryz.prog 30 [Ag (vcF c)] G (· = S v.key) := by
 intro n
 induction n with
 | zero => intro v c h1 _ _ _; have := tot_pos v; omega
 | succ n ih =>
  intro v c h1 h2 hwf h
  obtain ⟨w, x, t, ks⟩ := v
  rw [V.wf] at hwf
  obtain ⟨hwf, hwk⟩ := hwf
  have hty := wfW_tag hwf
  rw [nd_tot] at h1 h2
  obtain ⟨a, k, cs, rfl, hw, ht, h61, hcl, hsl, hks⟩ := rep_inv h
  have hkl := tots_len ks
  have hfl := mrk_len ks
  have hK : ∀ i, i < ks.length → PuG Tryz.prog 30 [Ag (vcF (nth cs i))] G (· = S (nth ks i).key) ∧ (nth ks i).key.length ≤ 100000 := fun i hi => by
   have hti := tot_nth hi
   have hwi := wf_nth hwk hi
   have hbl := key_len (nth ks i)
   exact ⟨ih (by omega) (by omega) hwi (reps_nth hks i hi), by omega⟩
  rcases hwf with h7 | h7 | h7 | ⟨rfl, rfl, rfl, hk20, hk61⟩ | ⟨rfl, rfl, rfl, hk1, hk61⟩ | h7 | ⟨rfl, rfl, _, _, hk1, _⟩ | ⟨rfl, rfl, _, _, hk1, _⟩ | ⟨rfl, rfl, rfl, hpw, hka⟩
  ·obtain ⟨rfl, rfl, h8⟩ := h7
   exact c_key_leaf (.inl ⟨rfl, rfl, h8⟩) (.inl rfl) (by dsimp only; omega)
  ·obtain ⟨rfl, rfl, h8⟩ := h7
   exact c_key_leaf (.inr (.inl ⟨rfl, rfl, h8⟩)) (.inr (.inl rfl)) (by dsimp only; omega)
  ·obtain ⟨rfl, rfl, h8⟩ := h7
   exact c_key_leaf (.inr (.inr (.inl ⟨rfl, rfl, h8⟩))) (.inr (.inr (.inl rfl))) (by dsimp only; omega)
  ·exact c_key_lst (.inl rfl) (by omega) hcl hsl (by omega) hK
  ·by_cases hk0 : ks.length = 0
   ·obtain rfl := List.eq_nil_of_length_eq_zero hk0
    exact c_key_opt0
   ·exact c_key_opt (by omega) (by omega) hcl hsl (by omega) hK
  ·obtain ⟨rfl, rfl, h8, h9, rfl⟩ := h7
   exact c_key_leaf (.inr (.inr (.inr (.inr (.inr (.inl ⟨rfl, rfl, h8, h9, rfl⟩)))))) (.inr (.inr (.inr rfl))) (by simp)
  ·exact c_key_tag (.inl rfl) hty (by omega) hcl hsl (by omega) hK
  ·exact c_key_tag (.inr rfl) hty (by omega) hcl hsl (by omega) hK
  ·exact c_key_lst (.inr rfl) (by omega) hcl hsl (by omega) hK
end
theorem c_keyT {r tx : List UInt8} {b : Nat} {tg : List Int} {bs : List Nat} {KS : List V} {a a2 : Option Addr} {c c2 m : Nat} (hm : m = KS.length) (hm9 : m ≤ 100000) (htx : tx = [82] ∨ tx = [85]) (h2 : Seg G b 0 [S (64 :: r), S tx, .slice a m c, .slice a2 m c2])
  (h3 : SlV G (.slice a m c) 1 m (rows inR tg)) (h4 : SlV G (.slice a2 m c2) 1 m (rows ptR bs)) (htl : tg.length = m) (hbl : bs.length = m) (hfl : (mrk [1] (V.keys KS)).length ≤ 100000)
  (hk : ∀ i, i < m → ∃ u, nth KS i = V.nd 61 [] (nth tg i) [u] ∧ PuG Tryz.prog 32 [Pt (nth bs i) 0] G (· = S u.key) ∧ u.key.length ≤ 100000) :
  PuG Tryz.prog 32 [Pt b 0] G (· = S (if tx = [82] then mrk [1] (V.keys KS) ++ [0] else mrk [] (V.keys KS))) := by
 have hml := mrk_le (a := []) (by simp) (V.keys KS)
 rcases htx with rfl | rfl
 ·have hj0 : ∀ i, (mrk [1] ((V.keys KS).take i)).length ≤ 100000 := fun i => by have := mrk_take [1] (V.keys KS) i; omega
  refine jE [(0, _)] Tryz.func32 Tryz.ntmps32 fun B hB => ?_
  repeat' (first | (refine run (t := tb) 400 rfl ?_ ?_; (focus (repeat' (first | exact trivial | apply And.intro | omega | (simp only [List.length_append, List.length_cons, List.length_nil, Int.toNat_natCast]; omega))))) | (refine k_op rfl ?_; first | refine jV (g_ldS rfl rfl (by assumption) rfl rfl) ?_ | refine c_bsl rfl rfl rfl rfl rfl rfl fun _ => ?_ | refine jV (g_bsB rfl rfl (by (repeat (first | exact BL.nil | apply BL.lit rfl)); done)) ?_) | (refine k_ff rfl rfl ?_))
  refine k_loop (ι := Nat) (fun i => i ≤ m) (fun i => [(0, Pt b 0), (5, S [1]), (6, S (mrk [1] ((V.keys KS).take i))), (7, I i)]) (fun _ => G) (fun i => []) (fun i => m - i) 0 ?_ (by repeat' constructor) rfl (by repeat (exact List.nil_sublist _)) (fun i Hi => ?_)
  ·exact Nat.zero_le _
  have hj1 := hj0 i
  by_cases hi : i < m
  ·obtain ⟨u, hu1, cx_key, hu2⟩ := hk i hi
   have hfn := mrk_snoc (a := [1]) (ks := KS) (i := i) (by omega)
   have hub : (V.nd 61 [] (nth tg i) [u]).key = u8 (nth tg i) :: u.key := by rw [V.key]; simp [V.keys, keyW]
   rw [hu1, hub] at hfn
   have hxt : nth tg i = nth tg i := rfl
   have hxi : nth bs i = nth bs i := rfl
   obtain ⟨tgb, to, tc, e, hs1⟩ := h3.expl (by omega)
   simp only [Value.slice.injEq] at e
   obtain ⟨rfl, -, rfl⟩ := e
   obtain ⟨kb, ko, kc, e, hs2⟩ := h4.expl (by omega)
   simp only [Value.slice.injEq] at e
   obtain ⟨rfl, -, rfl⟩ := e
   repeat' (first | (refine run (t := tb) 400 rfl ?_ ?_; (focus (repeat' (first | exact trivial | apply And.intro | omega | (simp only [List.length_append, List.length_cons, List.length_nil, Int.toNat_natCast]; omega))))) | (refine k_op rfl ?_; first | refine jV (g_ldS rfl rfl (by assumption) rfl rfl) ?_ | (refine jV (g_ldR1x rfl rfl (by assumption) ?_ (by assumption) rfl) ?_; (focus ((omega); done))) | refine c_bsl rfl rfl rfl rfl rfl rfl fun _ => ?_ | refine jV (g_bsB rfl rfl (by (repeat (first | exact BL.nil | apply BL.cons)); done)) ?_ | refine jV (g_lenL rfl) ?_ | (refine jV (g_iaddrN rfl rfl (by omega)) ?_) | (refine jV (g_pickT rfl rfl rfl) ?_) | (refine jV (g_pickF rfl rfl rfl) ?_) | (refine c_rt rfl rfl rfl cx_key rfl ?_)) | (refine k_gt rfl rfl (dTt (by omega)) ?_) | (refine k_gf rfl rfl rfl ?_) | (refine k_tt rfl (by first | rfl | (refine decide_eq_true ?_; (omega))) ?_))
   refine Nx.re (d := 6) (v' := S (mrk [1] ((V.keys KS).take (i + 1)))) rfl (congrArg (fun l => S l) ?_) ?_
   ·rw [hfn]; simp
   exact k_rd (i + 1) (by omega) (by omega) (by repeat' constructor) rfl (by repeat (exact List.nil_sublist _))
  ·have hin : i = KS.length := by omega
   subst hin
   have hfe : (V.keys KS).take KS.length = V.keys KS := by rw [← keys_len, List.take_length]
   rw [hfe]
   repeat' (first | (refine run (t := tb) 400 rfl ?_ ?_; (focus (repeat' (first | exact trivial | apply And.intro | omega | (simp only [List.length_append, List.length_cons, List.length_nil, Int.toNat_natCast]; omega))))) | (refine k_op rfl ?_; first | refine jV (g_ldS rfl rfl (by assumption) rfl rfl) ?_ | refine c_bsl rfl rfl rfl rfl rfl rfl fun _ => ?_ | refine jV (g_bsB rfl rfl (by (repeat (first | exact BL.nil | apply BL.lit rfl)); done)) ?_ | refine jV (g_lenL rfl) ?_ | (refine jV (g_pickF rfl rfl rfl) ?_)) | (refine k_gf rfl rfl (by first | rfl | (refine decide_eq_false ?_; (omega))) ?_) | (refine k_tt rfl rfl ?_) | (refine k_ff rfl (dFf (by omega)) ?_))
   refine jZ (vs := [_]) rfl ⟨rfl, trivial⟩ rfl ⟨rfl, rfl, ?_⟩
   rw [oneOf_one]; (rfl)
 ·have hj0 : ∀ i, (mrk [] ((V.keys KS).take i)).length ≤ 100000 := fun i => by have := mrk_take [] (V.keys KS) i; omega
  refine jE [(0, _)] Tryz.func32 Tryz.ntmps32 fun B hB => ?_
  repeat' (first | (refine run (t := tb) 400 rfl ?_ ?_; (focus (repeat' (first | exact trivial | apply And.intro | omega | (simp only [List.length_append, List.length_cons, List.length_nil, Int.toNat_natCast]; omega))))) | (refine k_op rfl ?_; first | refine jV (g_ldS rfl rfl (by assumption) rfl rfl) ?_ | refine c_bsl rfl rfl rfl rfl rfl rfl fun _ => ?_ | refine jV (g_bsB rfl rfl (by (repeat (first | exact BL.nil | apply BL.lit rfl)); done)) ?_) | (refine k_ff rfl rfl ?_))
  refine k_loop (ι := Nat) (fun i => i ≤ m) (fun i => [(0, Pt b 0), (5, S [1]), (6, S (mrk [] ((V.keys KS).take i))), (7, I i)]) (fun _ => G) (fun i => []) (fun i => m - i) 0 ?_ (by repeat' constructor) rfl (by repeat (exact List.nil_sublist _)) (fun i Hi => ?_)
  ·exact Nat.zero_le _
  have hj1 := hj0 i
  by_cases hi : i < m
  ·obtain ⟨u, hu1, cx_key, hu2⟩ := hk i hi
   have hfn := mrk_snoc (a := []) (ks := KS) (i := i) (by omega)
   have hub : (V.nd 61 [] (nth tg i) [u]).key = u8 (nth tg i) :: u.key := by rw [V.key]; simp [V.keys, keyW]
   rw [hu1, hub] at hfn
   have hxt : nth tg i = nth tg i := rfl
   have hxi : nth bs i = nth bs i := rfl
   obtain ⟨tgb, to, tc, e, hs1⟩ := h3.expl (by omega)
   simp only [Value.slice.injEq] at e
   obtain ⟨rfl, -, rfl⟩ := e
   obtain ⟨kb, ko, kc, e, hs2⟩ := h4.expl (by omega)
   simp only [Value.slice.injEq] at e
   obtain ⟨rfl, -, rfl⟩ := e
   repeat' (first | (refine run (t := tb) 400 rfl ?_ ?_; (focus (repeat' (first | exact trivial | apply And.intro | omega | (simp only [List.length_append, List.length_cons, List.length_nil, Int.toNat_natCast]; omega))))) | (refine k_op rfl ?_; first | refine jV (g_ldS rfl rfl (by assumption) rfl rfl) ?_ | (refine jV (g_ldR1x rfl rfl (by assumption) ?_ (by assumption) rfl) ?_; (focus ((omega); done))) | refine c_bsl rfl rfl rfl rfl rfl rfl fun _ => ?_ | refine jV (g_bsB rfl rfl (by (repeat (first | exact BL.nil | apply BL.cons)); done)) ?_ | refine jV (g_lenL rfl) ?_ | (refine jV (g_iaddrN rfl rfl (by omega)) ?_) | (refine jV (g_pickT rfl rfl rfl) ?_) | (refine jV (g_pickF rfl rfl rfl) ?_) | (refine c_rt rfl rfl rfl cx_key rfl ?_)) | (refine k_gt rfl rfl (dTt (by omega)) ?_) | (refine k_gf rfl rfl rfl ?_) | (refine k_tt rfl (by first | rfl | (refine decide_eq_true ?_; (omega))) ?_) | (refine k_ff rfl rfl ?_))
   refine Nx.re (d := 6) (v' := S (mrk [] ((V.keys KS).take (i + 1)))) rfl (congrArg (fun l => S l) ?_) ?_
   ·rw [hfn]; simp
   exact k_rd (i + 1) (by omega) (by omega) (by repeat' constructor) rfl (by repeat (exact List.nil_sublist _))
  ·have hin : i = KS.length := by omega
   subst hin
   have hfe : (V.keys KS).take KS.length = V.keys KS := by rw [← keys_len, List.take_length]
   rw [hfe]
   repeat' (first | (refine run (t := tb) 400 rfl ?_ ?_; (focus (repeat' (first | exact trivial | apply And.intro | omega | (simp only [List.length_append, List.length_cons, List.length_nil, Int.toNat_natCast]; omega))))) | (refine k_op rfl ?_; first | refine jV (g_ldS rfl rfl (by assumption) rfl rfl) ?_ | refine jV (g_lenL rfl) ?_ | (refine jV (g_pickF rfl rfl rfl) ?_)) | (refine k_gf rfl rfl (by first | rfl | (refine decide_eq_false ?_; (omega))) ?_) | (refine k_ff rfl (by first | rfl | (refine decide_eq_false ?_; (omega))) ?_))
   refine jZ (vs := [_]) rfl ⟨rfl, trivial⟩ rfl ⟨rfl, rfl, ?_⟩
   rw [oneOf_one]; (rfl)
theorem c_keyL {r : List UInt8} {b : Nat} {bs : List Nat} {KS : List V} {a : Option Addr} {c m : Nat} (hm : m = KS.length) (hm9 : m ≤ 100000) (h2 : Seg G b 0 [S (91 :: r), S [], nilS, .slice a m c])
  (h4 : SlV G (.slice a m c) 1 m (rows ptR bs)) (hbl : bs.length = m) (hfl : (mrk [1] (V.keys KS)).length ≤ 100000)
  (hk : ∀ i, i < m → PuG Tryz.prog 32 [Pt (nth bs i) 0] G (· = S (nth KS i).key) ∧ (nth KS i).key.length ≤ 100000) :
  PuG Tryz.prog 32 [Pt b 0] G (· = S (mrk [1] (V.keys KS) ++ [0])) := by
 have hj0 : ∀ i, (mrk [1] ((V.keys KS).take i)).length ≤ 100000 := fun i => by have := mrk_take [1] (V.keys KS) i; omega
 refine jE [(0, _)] Tryz.func32 Tryz.ntmps32 fun B hB => ?_
 repeat' (first | (refine run (t := tb) 400 rfl ?_ ?_; (focus (repeat' (first | exact trivial | apply And.intro | omega | (simp only [List.length_append, List.length_cons, List.length_nil, Int.toNat_natCast]; omega))))) | (refine k_op rfl ?_; first | refine jV (g_ldS rfl rfl (by assumption) rfl rfl) ?_ | refine c_bsl rfl rfl rfl rfl rfl rfl fun _ => ?_ | refine jV (g_bsB rfl rfl (by (repeat (first | exact BL.nil | apply BL.lit rfl)); done)) ?_) | (refine k_ff rfl rfl ?_))
 refine k_loop (ι := Nat) (fun i => i ≤ m) (fun i => [(0, Pt b 0), (5, S [1]), (6, S (mrk [1] ((V.keys KS).take i))), (7, I i)]) (fun _ => G) (fun i => []) (fun i => m - i) 0 ?_ (by repeat' constructor) rfl (by repeat (exact List.nil_sublist _)) (fun i Hi => ?_)
 ·exact Nat.zero_le _
 have hj1 := hj0 i
 by_cases hi : i < m
 ·obtain ⟨cx_key, hu2⟩ := hk i hi
  have hfn := mrk_snoc (a := [1]) (ks := KS) (i := i) (by omega)
  have hxi : nth bs i = nth bs i := rfl
  obtain ⟨kb, ko, kc, e, hs2⟩ := h4.expl (by omega)
  simp only [Value.slice.injEq] at e
  obtain ⟨rfl, -, rfl⟩ := e
  repeat' (first | (refine run (t := tb) 400 rfl ?_ ?_; (focus (repeat' (first | exact trivial | apply And.intro | omega | (simp only [List.length_append, List.length_cons, List.length_nil, Int.toNat_natCast]; omega))))) | (refine k_op rfl ?_; first | refine jV (g_ldS rfl rfl (by assumption) rfl rfl) ?_ | (refine jV (g_ldR1x rfl rfl (by assumption) ?_ (by assumption) rfl) ?_; (focus ((omega); done))) | refine jV (g_lenL rfl) ?_ | (refine jV (g_iaddrN rfl rfl (by omega)) ?_) | (refine jV (g_pickT rfl rfl rfl) ?_) | (refine jV (g_pickF rfl rfl rfl) ?_) | (refine c_rt rfl rfl rfl cx_key rfl ?_)) | (refine k_gt rfl rfl rfl ?_) | (refine k_gf rfl rfl rfl ?_) | (refine k_tt rfl (by first | rfl | (refine decide_eq_true ?_; (omega))) ?_) | (refine k_ff rfl rfl ?_))
  refine Nx.re (d := 6) (v' := S (mrk [1] ((V.keys KS).take (i + 1)))) rfl (congrArg (fun l => S l) ?_) ?_
  ·rw [hfn]; simp
  exact k_rd (i + 1) (by omega) (by omega) (by repeat' constructor) rfl sRr
 ·have hin : i = KS.length := by omega
  subst hin
  have hfe : (V.keys KS).take KS.length = V.keys KS := by rw [← keys_len, List.take_length]
  rw [hfe]
  repeat' (first | (refine run (t := tb) 400 rfl ?_ ?_; (focus (repeat' (first | exact trivial | apply And.intro | omega | (simp only [List.length_append, List.length_cons, List.length_nil, Int.toNat_natCast]; omega))))) | (refine k_op rfl ?_; first | refine jV (g_ldS rfl rfl (by assumption) rfl rfl) ?_ | refine c_bsl rfl rfl rfl rfl rfl rfl fun _ => ?_ | refine jV (g_bsB rfl rfl (by (repeat (first | exact BL.nil | apply BL.lit rfl)); done)) ?_ | refine jV (g_lenL rfl) ?_ | (refine jV (g_pickT rfl rfl rfl) ?_) | (refine jV (g_pickF rfl rfl rfl) ?_)) | (refine k_gt rfl rfl rfl ?_) | (refine k_gf rfl rfl rfl ?_) | (refine k_tt rfl rfl ?_) | (refine k_ff rfl (dFf (by omega)) ?_))
  refine jZ (vs := [_]) rfl ⟨rfl, trivial⟩ rfl ⟨rfl, rfl, ?_⟩
  rw [oneOf_one]; (rfl)
theorem c_keyS {ts : List Ty} (hw : SchW ts) {v : V} {k : List UInt8} {b : Nat} (h : RepR G ts v k b) : v.wf → v.tot ≤ 100000 → PuG Tryz.prog 32 [Pt b 0] G (· = S v.key) := by
 induction h with
 | leaf w x k tx b h1 h2 =>
  intro hwf ht
  rw [nd_tot] at ht
  rcases h2 with ⟨rfl, rfl, rfl, _⟩ | ⟨rfl, rfl, rfl⟩ | ⟨rfl, rfl, rfl, rfl | rfl⟩
  ·obtain ⟨m, hm0, hm1, hnum0⟩ := wf_num hwf
   have cx_num : PuG Tryz.prog 77 [S tx, I 999999] G (· = Tu [I m, Bo true]) := by
    refine (c_l3Num (G := G) (by omega)).mono ?_
    rintro v G' L' ⟨g1, g2, n, rfl, h4⟩
    exact ⟨g1, g2, by rw [h4 _ hnum0, hnum0]; rfl⟩
   refine jE [(0, _)] Tryz.func32 Tryz.ntmps32 fun B hB => ?_
   repeat' (first | (refine run (t := tb) 400 rfl ?_ ?_; (focus (repeat' (first | exact trivial | apply And.intro | omega | (simp only [List.length_append, List.length_cons, List.length_nil, Int.toNat_natCast]; omega))))) | (refine k_op rfl ?_; first | refine jV (g_ldS rfl rfl (by assumption) rfl rfl) ?_ | refine c_bsl rfl rfl rfl rfl rfl rfl fun _ => ?_ | refine jV (g_bsB rfl rfl (by (repeat (first | exact BL.nil | apply BL.cons)); done)) ?_ | (refine c_rt rfl rfl rfl cx_num rfl ?_)) | (refine k_tt rfl rfl ?_))
   refine jZ (vs := [_]) rfl ⟨rfl, trivial⟩ rfl ⟨rfl, rfl, ?_⟩
   have e1 : u8 ((m / 256) % 256) = u8 (m / 256) := by unfold u8; rw [Int.emod_emod_of_dvd _ (by decide)]
   have e2 : u8 (m % 256) = u8 m := by unfold u8; rw [Int.emod_emod_of_dvd _ (by decide)]
   rw [oneOf_one, V.key]
   simp [keyW, hnum0, e1, e2]
  ·have htl : (39 :: (x ++ [39])).length = x.length + 2 := by simp
   have hdt : ∀ n : Nat, n = x.length → ((39 :: (x ++ [39])).take (1 + n)).drop 1 = x := fun n hn => by rw [hn, Nat.add_comm, List.take_succ_cons, List.drop_succ_cons, List.drop_zero, List.take_left]
   generalize 39 :: (x ++ [39]) = tx at *
   have e3 : (tx.take (((tx.length : Nat) : Int) - 1).toNat).drop (Int.toNat 1) = x := by
    rw [show (((tx.length : Nat) : Int) - 1).toNat = 1 + x.length by omega]; exact hdt _ rfl
   have hcd : ((tx.take (((tx.length : Nat) : Int) - 1).toNat).drop (Int.toNat 1)).length + [u8 0].length ≤ 9223372036854775807 := by
    rw [e3]; simp only [List.length_cons, List.length_nil]; omega
   refine jE [(0, _)] Tryz.func32 Tryz.ntmps32 fun B hB => ?_
   repeat' (first | (refine run (t := tb) 400 rfl ?_ ?_; (focus (repeat' (first | exact trivial | apply And.intro | omega | (simp only [List.length_append, List.length_cons, List.length_nil, Int.toNat_natCast]; omega))))) | (refine k_op rfl ?_; (refine jV (g_ldS rfl rfl (by assumption) rfl rfl) ?_)) | (refine k_tt rfl rfl ?_) | (refine k_ff rfl rfl ?_) | (refine k_any (s_any (id := 6) _ (fun _ h => h) mixed ?_); refine jT 9 [0, 1, 2, 4, 5, 6] (bts 15 119) ?_; (refine jG (bts 15 127) 3 rfl (g_ldS rfl rfl (by assumption) rfl rfl) ?_); (refine jG (bts 15 255) 7 rfl (g_ldS rfl rfl (by assumption) rfl rfl) ?_); refine jU 4 [8, 9, 10] (bts 15 2047) ?_ ?_; (focus (repeat' (first | exact trivial | apply And.intro | omega))); refine jA 11 rfl ?_; (refine c_bsl rfl rfl rfl rfl rfl rfl fun _ => ?_); refine jS (bts 15 4095) ?_; ((refine jG (bts 15 8191) 12 rfl (g_bsB rfl rfl (by (repeat (first | exact BL.nil | apply BL.lit rfl)); done)) ?_)); refine jU 0 [13, 14] (bts 15 32767) ?_ ?_; (focus (repeat' (first | exact trivial | apply And.intro | omega))); refine x_done (by kernel_rfl) (k_bk ?_)))
   refine jZ (vs := [_]) rfl ⟨rfl, trivial⟩ rfl ⟨rfl, rfl, ?_⟩
   rw [oneOf_one, e3, V.key]; rfl
  ·refine jE [(0, _)] Tryz.func32 Tryz.ntmps32 fun B hB => ?_
   repeat' (first | (refine run (t := tb) 400 rfl ?_ ?_; (focus (repeat' (first | exact trivial | apply And.intro | omega | (simp only [List.length_append, List.length_cons, List.length_nil, Int.toNat_natCast]; omega))))) | (refine k_op rfl ?_; first | refine jV (g_ldS rfl rfl (by assumption) rfl rfl) ?_ | refine c_bsl rfl rfl rfl rfl rfl rfl fun _ => ?_ | refine jV (g_bsB rfl rfl (by (repeat (first | exact BL.nil | apply BL.cons)); done)) ?_) | (refine k_tt rfl rfl ?_) | (refine k_ff rfl rfl ?_))
   refine jZ (vs := [_]) rfl ⟨rfl, trivial⟩ rfl ⟨rfl, rfl, ?_⟩
   rw [oneOf_one, V.key]; rfl
  ·refine jE [(0, _)] Tryz.func32 Tryz.ntmps32 fun B hB => ?_
   repeat' (first | (refine run (t := tb) 400 rfl ?_ ?_; (focus (repeat' (first | exact trivial | apply And.intro | omega | (simp only [List.length_append, List.length_cons, List.length_nil, Int.toNat_natCast]; omega))))) | (refine k_op rfl ?_; first | refine jV (g_ldS rfl rfl (by assumption) rfl rfl) ?_ | refine c_bsl rfl rfl rfl rfl rfl rfl fun _ => ?_ | refine jV (g_bsB rfl rfl (by (repeat (first | exact BL.nil | apply BL.cons)); done)) ?_) | (refine k_tt rfl rfl ?_) | (refine k_ff rfl rfl ?_))
   refine jZ (vs := [_]) rfl ⟨rfl, trivial⟩ rfl ⟨rfl, rfl, ?_⟩
   rw [oneOf_one, V.key]; rfl
 | lst k b ks bs a c h1 h2 h3 hk ih =>
  intro hwf ht
  rw [nd_tot] at ht
  have hwk := wf_kids hwf
  have hkl := tots_len ks
  have hfl := mrk_len ks
  refine (c_keyL (KS := ks) rfl (by omega) h1 h2 h3 (by omega) fun i hi => ?_).mono fun v _ _ hv => ?_
  ·have hti := tot_nth hi
   have hbl := key_len (nth ks i)
   exact ⟨ih i hi (wf_nth hwk hi) (by omega), by omega⟩
  ·obtain ⟨g1, g2, hv⟩ := hv; exact ⟨g1, g2, by rw [hv, V.key]; simp [keyW, mrk_one]⟩
 | non k b h1 =>
  intro _ _
  refine jE [(0, _)] Tryz.func32 Tryz.ntmps32 fun B hB => ?_
  repeat' (first | (refine run (t := tb) 400 rfl ?_ ?_; (focus (repeat' (first | exact trivial | apply And.intro | omega | (simp only [List.length_append, List.length_cons, List.length_nil, Int.toNat_natCast]; omega))))) | (refine k_op rfl ?_; first | refine jV (g_ldS rfl rfl (by assumption) rfl rfl) ?_ | refine c_bsl rfl rfl rfl rfl rfl rfl fun _ => ?_ | refine jV (g_bsB rfl rfl (by (repeat (first | exact BL.nil | apply BL.lit rfl)); done)) ?_ | refine jV (g_lenL rfl) ?_) | (refine k_tt rfl rfl ?_) | (refine k_ff rfl rfl ?_))
  refine jZ (vs := [_]) rfl ⟨rfl, trivial⟩ rfl ⟨rfl, rfl, ?_⟩
  rfl
 | opt k b kb b' cc v h0 h1 h2 h3 ih =>
  intro hwf ht
  simp only [nd_tot, V.tots] at ht
  have hwv := (wf_kids hwf).1
  have cx_key := ih hwv (by omega)
  have hbl := key_len v
  refine jE [(0, _)] Tryz.func32 Tryz.ntmps32 fun B hB => ?_
  repeat' (first | (refine run (t := tb) 400 rfl ?_ ?_; (focus (repeat' (first | exact trivial | apply And.intro | omega | (simp only [List.length_append, List.length_cons, List.length_nil, Int.toNat_natCast]; omega))))) | (refine k_op rfl ?_; first | refine jV (g_ldS rfl rfl (by assumption) rfl rfl) ?_ | refine jV (g_lenL rfl) ?_) | (refine k_tt rfl rfl ?_) | (refine k_ff rfl rfl ?_) | (refine k_any (s_any (id := 12) _ (fun _ h => h) mixed ?_); refine jT 8 [2, 3, 4] (bts 11 28) ?_; (refine jG (bts 11 60) 5 rfl (g_ldS rfl rfl (by assumption) rfl rfl) ?_); (refine jG (bts 11 124) 6 rfl (g_iaddr rfl rfl (by omega)) ?_); (refine jG (bts 11 252) 7 rfl (g_ldS rfl rfl (by assumption) rfl rfl) ?_); refine x_all [0, 8] (by kernel_rfl) (by decide) ⟨?_, ?_, trivial⟩; (focus (refine x_opg rfl rfl ?_; (refine c_bsl rfl rfl rfl rfl rfl rfl fun _ => ?_); refine jS (bts 11 253) ?_; ((refine jG (bts 11 255) 1 rfl (g_bsB rfl rfl (by (repeat (first | exact BL.nil | apply BL.lit rfl)); done)) ?_)); refine jA 8 rfl ?_; (refine c_rt rfl rfl rfl cx_key rfl ?_); refine jS (bts 11 511) ?_; refine jU 0 [9, 10] (bts 11 2047) ?_ ?_; (focus (repeat' (first | exact trivial | apply And.intro | (simp only [List.length_append, List.length_cons, List.length_nil, Int.toNat_natCast]; omega)))); refine x_done (by kernel_rfl) (k_bk ?_))); rotate_left 1; (focus (refine x_opg rfl rfl ?_; (refine c_rt rfl rfl rfl cx_key rfl ?_); refine jS (bts 11 508) ?_; refine jA 0 rfl ?_; (refine c_bsl rfl rfl rfl rfl rfl rfl fun _ => ?_); refine jS (bts 11 509) ?_; ((refine jG (bts 11 511) 1 rfl (g_bsB rfl rfl (by (repeat (first | exact BL.nil | apply BL.lit rfl)); done)) ?_)); refine jU 0 [9, 10] (bts 11 2047) ?_ ?_; (focus (repeat' (first | exact trivial | apply And.intro | (simp only [List.length_append, List.length_cons, List.length_nil, Int.toNat_natCast]; omega)))); refine x_done (by kernel_rfl) (k_bk ?_))); rotate_left 1))
  all_goals refine jZ (vs := [_]) rfl ⟨rfl, trivial⟩ rfl ⟨rfl, rfl, ?_⟩
  all_goals (rw [oneOf_one, V.key]; simp [keyW, V.keys]; rfl)
 | recd k b t fs bs a a2 c c2 h0 h1 h2 h3 h4 h5 hk ih =>
  intro hwf ht
  obtain ⟨r, rfl⟩ := refT_64 h0.1
  rw [nd_tot] at ht
  have hwk := wf_kids hwf
  have hml : (fs.map (fun p : Fld × V => V.nd 61 [] p.1.tag [p.2])).length = fs.length := by simp
  have hnt : ∀ i, i < fs.length → nth (fs.map (fun p : Fld × V => V.nd 61 [] p.1.tag [p.2])) i = V.nd 61 [] (nth fs i).1.tag [(nth fs i).2] := fun i hi => by rw [nth_eq (by simpa using hi), nth_eq hi]; simp
  generalize hKS : fs.map (fun p : Fld × V => V.nd 61 [] p.1.tag [p.2]) = KS at *
  have hfl := mrk_len KS
  refine (c_keyT (tx := [82]) (KS := KS) hml.symm (by have := tots_len KS; omega) (.inl rfl) h1 h2 h3 (by simp) h4 (by omega) fun i hi => ?_).mono fun v _ _ hv => ?_
  ·have hti := tot_nth (ks := KS) (i := i) (by omega)
   have hwi := wf_nth hwk (i := i) (by omega)
   rw [hnt i hi] at hti hwi
   simp only [nd_tot, V.tots] at hti
   have hwv := (wf_kids hwi).1
   have hbl := key_len (nth fs i).2
   have htn : nth (fs.map fun p : Fld × V => p.1.tag) i = (nth fs i).1.tag := by rw [nth_eq (by simpa using hi), nth_eq hi]; simp
   exact ⟨(nth fs i).2, by rw [hnt i hi, htn], ih i hi hwv (by omega), by omega⟩
  ·obtain ⟨g1, g2, hv⟩ := hv; exact ⟨g1, g2, by rw [hv, V.key]; simp [keyW, mrk_one]⟩
 | enm k b tgb t d h0 h1 h2 h3 =>
  intro _ _
  obtain ⟨r, rfl⟩ := refT_64 h0.1
  refine jE [(0, _)] Tryz.func32 Tryz.ntmps32 fun B hB => ?_
  repeat' (first | (refine run (t := tb) 400 rfl ?_ ?_; (focus (repeat' (first | exact trivial | apply And.intro | omega | (simp only [List.length_append, List.length_cons, List.length_nil, Int.toNat_natCast]; omega))))) | (refine k_op rfl ?_; first | refine jV (g_ldS rfl rfl (by assumption) rfl rfl) ?_ | refine c_bsl rfl rfl rfl rfl rfl rfl fun _ => ?_ | refine jV (g_bsB rfl rfl (by (repeat (first | exact BL.nil | apply BL.lit rfl)); done)) ?_) | (refine k_ff rfl rfl ?_))
  refine Nx.re (d := 6) (v' := S (([u8 d.tag]).take 0)) rfl rfl ?_
  refine k_loop (ι := Nat) (fun i => i ≤ 1) (fun i => [(0, Pt b 0), (5, S [1]), (6, S (([u8 d.tag]).take i)), (7, I i)]) (fun _ => G) (fun i => []) (fun i => 1 - i) 0 ?_ (by repeat' constructor) rfl (by repeat (exact List.nil_sublist _)) (fun i Hi => ?_)
  ·exact Nat.zero_le _
  have hi2 : i = 0 ∨ i = 1 := by omega
  rcases hi2 with rfl | rfl
  ·rw [List.take_zero]
   repeat' (first | (refine run (t := tb) 400 rfl ?_ ?_; (focus (repeat' (first | exact trivial | apply And.intro | omega | (simp only [List.length_append, List.length_cons, List.length_nil, Int.toNat_natCast]; omega))))) | (refine k_op rfl ?_; first | refine jV (g_ldS rfl rfl (by assumption) rfl rfl) ?_ | refine c_bsl rfl rfl rfl rfl rfl rfl fun _ => ?_ | refine jV (g_bsB rfl rfl (by (repeat (first | exact BL.nil | apply BL.cons)); done)) ?_ | refine jV (g_lenL rfl) ?_ | (refine jV (g_iaddrN rfl rfl (by omega)) ?_) | (refine jV (g_pickT rfl rfl rfl) ?_) | (refine jV (g_pickF rfl rfl rfl) ?_)) | (refine k_gt rfl rfl rfl ?_) | (refine k_gf rfl rfl rfl ?_) | (refine k_tt rfl rfl ?_) | (refine k_ff rfl rfl ?_))
   refine Nx.re (d := 6) (v' := S (([u8 d.tag]).take 1)) rfl rfl ?_
   exact k_rd 1 (by omega) (by omega) (by repeat' constructor) rfl (by repeat (exact List.nil_sublist _))
  ·repeat' (first | (refine run (t := tb) 400 rfl ?_ ?_; (focus (repeat' (first | exact trivial | apply And.intro | omega | (simp only [List.length_append, List.length_cons, List.length_nil, Int.toNat_natCast]; omega))))) | (refine k_op rfl ?_; first | refine jV (g_ldS rfl rfl (by assumption) rfl rfl) ?_ | refine jV (g_lenL rfl) ?_ | (refine jV (g_pickF rfl rfl rfl) ?_)) | (refine k_gf rfl rfl rfl ?_) | (refine k_ff rfl rfl ?_))
   refine jZ (vs := [_]) rfl ⟨rfl, trivial⟩ rfl ⟨rfl, rfl, ?_⟩
   rw [oneOf_one, V.key]; rfl
 | uni k b tgb kb b' cc t d v hcc h0 h1 h2 h3 h4 hk ih =>
  intro hwf ht
  obtain ⟨r, rfl⟩ := refT_64 h0.1
  simp only [nd_tot, V.tots] at ht
  have hwv := (wf_kids hwf).1
  have hbl := key_len v
  have hub : (V.nd 61 [] d.tag [v]).key = u8 d.tag :: v.key := by rw [V.key]; simp [V.keys, keyW]
  refine (c_keyT (tx := [85]) (KS := [V.nd 61 [] d.tag [v]]) (tg := [d.tag]) (bs := [b']) rfl (by simp) (.inr rfl) h2 (slv_one h3) (slv_onec hcc h4) rfl rfl ?_ fun i hi => ?_).mono fun u _ _ hu => ?_
  ·simp only [V.keys, mrk, List.map_cons, List.map_nil, List.flatten_cons, List.flatten_nil, List.append_nil, hub, List.length_append, List.length_cons, List.length_nil]; omega
  ·have : i = 0 := by have h9 : i < 1 := hi; omega
   subst this
   exact ⟨v, rfl, ih hwv (by omega), by omega⟩
  ·obtain ⟨g1, g2, hu⟩ := hu; exact ⟨g1, g2, by rw [hu, V.key]; simp [V.keys, keyW, hub, mrk]⟩
def keyOf (s k w : List UInt8) : Option (List UInt8) := match givenV s k w with
 | some u => if u.key.length ≤ 900 then some u.key else none
 | none => none
theorem c_KeyOfI1 {s k w ub : List UInt8} {u : V} (cx_gi1 : FnS Tryz.prog 29 [S s, S k, S w] G (fun v G' => ∃ b qs cv, v = Tu [Pt b 0, Ag [S (sg k), S (bs k), S (nm k)], Ag (vcF cv), Bo true] ∧ tyq qs = tyq qs ∧ ScI G' b qs ∧ PuG Tryz.prog 30 [Ag (vcF cv)] G' (· = S ub))) : PuG Tryz.prog 11 [S s, S k, S w] G (· = Tu [S (if ub.length ≤ 900 then ub else []), Bo (decide (ub.length ≤ 900))]) := by
 by_cases h6 : ub.length ≤ 900
 ·rw [if_pos h6, decide_eq_true h6]
  refine jB (Post := fun v G' L' => G' = G ∧ L' = [] ∧ _) [(0, _), (1, _), (2, _)] Tryz.func11 Tryz.ntmps11 fun B hok hB hW => ?_
  repeat' (first | (refine jR ?_) | (refine k_op rfl ?_; first | refine c_al rfl rfl fun _ => ?_ | refine c_stA rfl rfl rfl rfl rfl rfl ?_ | refine jV (g_ldA rfl rfl rfl rfl) ?_ | (refine c_fns rfl rfl rfl cx_gi1 rfl ?_; rintro _ G hle ⟨bg, qg, cv, rfl, hTg, hRg, hrv⟩; skip) | (refine c_rt rfl rfl rfl hrv rfl ?_)) | (refine k_ff rfl (by first | rfl | (refine decide_eq_false ?_; (omega))) ?_))
  all_goals refine Nx.base hok hB ?_
  all_goals refine jZ (vs := [_, _]) rfl ⟨rfl, rfl, trivial⟩ rfl ⟨rfl, rfl, ?_⟩
  all_goals rfl
 ·rw [if_neg h6, decide_eq_false h6]
  refine jB (Post := fun v G' L' => G' = G ∧ L' = [] ∧ _) [(0, _), (1, _), (2, _)] Tryz.func11 Tryz.ntmps11 fun B hok hB hW => ?_
  repeat' (first | (refine jR ?_) | (refine k_op rfl ?_; first | refine c_al rfl rfl fun _ => ?_ | refine c_stA rfl rfl rfl rfl rfl rfl ?_ | refine jV (g_ldA rfl rfl rfl rfl) ?_ | (refine c_fns rfl rfl rfl cx_gi1 rfl ?_; rintro _ G hle ⟨bg, qg, cv, rfl, hTg, hRg, hrv⟩; skip) | (refine c_rt rfl rfl rfl hrv rfl ?_)) | (refine k_tt rfl (dTt (by omega)) ?_) | (refine k_ff rfl rfl ?_))
  all_goals refine Nx.base hok hB ?_
  all_goals refine jZ (vs := [_, _]) rfl ⟨rfl, rfl, trivial⟩ rfl ⟨rfl, rfl, ?_⟩
  all_goals rfl
theorem c_KeyOfI0 {s k w : List UInt8} (h : s.length ≤ 1048576 ∧ k.length ≤ 1048576 ∧ w.length ≤ 1048576) (hg : givenV s k w = none) : PuG Tryz.prog 11 [S s, S k, S w] G (· = Tu [S [], Bo false]) := by
 have cx_gi0 := c_given0 (G := G) h hg
 refine jB (Post := fun v G' L' => G' = G ∧ L' = [] ∧ _) [(0, _), (1, _), (2, _)] Tryz.func11 Tryz.ntmps11 fun B hok hB hW => ?_
 repeat' (first | (refine jR ?_) | (refine k_op rfl ?_; first | refine c_al rfl rfl fun _ => ?_ | refine c_stA rfl rfl rfl rfl rfl rfl ?_ | (refine c_fns rfl rfl rfl cx_gi0 rfl ?_; rintro _ G hle ⟨p1, a1, b1, c1, rfl⟩; skip)) | (refine k_tt rfl rfl ?_))
 all_goals refine Nx.base hok hB ?_
 all_goals refine jZ (vs := [_, _]) rfl ⟨rfl, rfl, trivial⟩ rfl ⟨rfl, rfl, ?_⟩
 all_goals rfl
theorem c_KeyOfI {s k w : List UInt8} (h : s.length ≤ 1048576 ∧ k.length ≤ 1048576 ∧ w.length ≤ 1048576) : PuG Tryz.prog 11 [S s, S k, S w] G (· = Tu [S ((keyOf s k w).getD []), Bo (keyOf s k w).isSome]) := by
 unfold keyOf
 cases hg : givenV s k w with
 | none => exact c_KeyOfI0 h hg
 | some u =>
  obtain ⟨ts, hs, hki, hvo, hto, hwf⟩ := given_some hg
  have h1 := c_KeyOfI1 (ub := u.key) (u := u) ((c_given1 (G := G) h hs hki hvo).mono (by
   rintro r G' L' ⟨g1, g2, b, qs, cv, g3, _, g5, g6⟩
   exact ⟨g1, g2, b, qs, cv, g3, rfl, g5, c_key u.tot (Nat.le_refl _) (by omega) hwf g6⟩))
  dsimp only
  split
  ·rename_i h6; rw [if_pos h6, decide_eq_true h6] at h1; exact h1
  ·rename_i h6; rw [if_neg h6, decide_eq_false h6] at h1; exact h1
theorem c_KeyOfS0 {s k w : List UInt8} (h : s.length ≤ 1048576 ∧ k.length ≤ 1048576 ∧ w.length ≤ 1048576) (hg : givenV s k w = none) : PuG Tryz.prog 12 [S s, S k, S w] G (· = Tu [S [], Bo false]) := by
 have cx_l40 := c_l4Of0 (G := G) h hg
 refine jB (Post := fun v G' L' => G' = G ∧ L' = [] ∧ _) [(0, _), (1, _), (2, _)] Tryz.func12 Tryz.ntmps12 fun B hok hB hW => ?_
 repeat' (first | (refine jR ?_) | (refine k_op rfl ?_; first | (refine jV (g_pickT rfl rfl rfl) ?_) | (refine c_fns rfl rfl rfl cx_l40 rfl ?_; rintro _ G hle ⟨uu, q1, rfl⟩; skip)) | (refine k_gt rfl rfl rfl ?_) | (refine k_tt rfl rfl ?_))
 all_goals refine Nx.base hok hB ?_
 all_goals refine jZ (vs := [_, _]) rfl ⟨rfl, rfl, trivial⟩ rfl ⟨rfl, rfl, ?_⟩
 all_goals rfl
theorem c_KeyOfS1 {s k w ub : List UInt8} (cx_l4 : FnS Tryz.prog 31 [S s, S k, S w] G (fun r G' => ∃ u b, r = Tu [u, Pt b 0, Bo true] ∧ PuG Tryz.prog 32 [Pt b 0] G' (· = S ub))) : PuG Tryz.prog 12 [S s, S k, S w] G (· = Tu [S (if ub.length ≤ 900 then ub else []), Bo (decide (ub.length ≤ 900))]) := by
 by_cases h6 : ub.length ≤ 900
 ·rw [if_pos h6, decide_eq_true h6]
  refine jB (Post := fun v G' L' => G' = G ∧ L' = [] ∧ _) [(0, _), (1, _), (2, _)] Tryz.func12 Tryz.ntmps12 fun B hok hB hW => ?_
  repeat' (first | (refine jR ?_) | (refine k_op rfl ?_; first | (refine jV (g_pickF rfl rfl rfl) ?_) | (refine c_fns rfl rfl rfl cx_l4 rfl ?_; rintro _ G hle ⟨uu, q1, rfl, hyes⟩; skip) | (refine c_rt rfl rfl rfl hyes rfl ?_)) | (refine k_gf rfl rfl rfl ?_) | (refine k_ff rfl (dFf (by omega)) ?_))
  all_goals refine Nx.base hok hB ?_
  all_goals refine jZ (vs := [_, _]) rfl ⟨rfl, rfl, trivial⟩ rfl ⟨rfl, rfl, ?_⟩
  all_goals rfl
 ·rw [if_neg h6, decide_eq_false h6]
  refine jB (Post := fun v G' L' => G' = G ∧ L' = [] ∧ _) [(0, _), (1, _), (2, _)] Tryz.func12 Tryz.ntmps12 fun B hok hB hW => ?_
  repeat' (first | (refine jR ?_) | (refine k_op rfl ?_; first | (refine jV (g_pickF rfl rfl rfl) ?_) | (refine c_fns rfl rfl rfl cx_l4 rfl ?_; rintro _ G hle ⟨uu, q1, rfl, hyes⟩; skip) | (refine c_rt rfl rfl rfl hyes rfl ?_)) | (refine k_gf rfl rfl rfl ?_) | (refine k_tt rfl (dTt (by omega)) ?_))
  all_goals refine Nx.base hok hB ?_
  all_goals refine jZ (vs := [_, _]) rfl ⟨rfl, rfl, trivial⟩ rfl ⟨rfl, rfl, ?_⟩
  all_goals rfl
theorem c_KeyOfS {s k w : List UInt8} (h : s.length ≤ 1048576 ∧ k.length ≤ 1048576 ∧ w.length ≤ 1048576) : PuG Tryz.prog 12 [S s, S k, S w] G (· = Tu [S ((keyOf s k w).getD []), Bo (keyOf s k w).isSome]) := by
 unfold keyOf
 cases hg : givenV s k w with
 | none => exact c_KeyOfS0 h hg
 | some u =>
  obtain ⟨ts, hs, hki, hvo, hto, hwf⟩ := given_some hg
  have h1 := c_KeyOfS1 (ub := u.key) ((c_l4Of1 (G := G) h hs hki hvo).mono (by
   rintro r G' L' ⟨g1, g2, v, b, g3, g4⟩
   exact ⟨g1, g2, v, b, g3, c_keyS (schemaOf_w hs) g4 hwf (by omega)⟩))
  dsimp only
  split
  ·rename_i h6; rw [if_pos h6, decide_eq_true h6] at h1; exact h1
  ·rename_i h6; rw [if_neg h6, decide_eq_false h6] at h1; exact h1
end Go.E
namespace Go.E
set_option maxRecDepth 20000
set_option maxHeartbeats 2000000
def rbFlag : List UInt8 → Option (Bool × List UInt8)
 | [] => none
 | b :: r => if b.toNat = 0 then some (false, r) else if b.toNat = 1 then some (true, r) else none
theorem fldT_tagI {fs : List Fld} {n : Int} {d : Fld} (h : fldT fs n = some d) : d.tag = n ∧ d ∈ fs := ⟨by have := List.find?_some h; simpa using this, List.mem_of_find?_eq_some h⟩
theorem kind_64 {ts : List Ty} {k : List UInt8} {t : Ty} (h : refT ts k = some t) : ∃ k', k = 64 :: k' := by
 cases k with
 | nil => simp [refT, refN] at h
 | cons c k' =>
  by_cases h64 : c.toNat = 64
  ·exact ⟨k', by rw [show c = 64 from UInt8.toNat_inj.1 h64]⟩
  ·exact (refT_no h rfl h64).elim
def rkItems (st : Bool) (f : List UInt8 → Option (V × List UInt8)) : Nat → List UInt8 → List V → Option (List V × List UInt8)
 | 0, _, _ => none
 | m + 1, s, acc => match rbFlag s with
  | none => none
  | some (false, r) => some (acc, r)
  | some (true, r) => match f r with
   | none => none
   | some (v, r') => if st = true ∧ 20 ≤ acc.length then none else rkItems st f m r' (acc ++ [v])
def rkFlds (st : Bool) (ts : List Ty) (f : List UInt8 → List UInt8 → Option (V × List UInt8)) (t : Ty) : Nat → Int → List UInt8 → List V → Option (List V × List UInt8)
 | 0, _, _, _ => none
 | m + 1, last, s, acc => match rbFlag s with
  | none => none
  | some (false, r) => some (acc, r)
  | some (true, []) => none
  | some (true, b :: r) => match fldT t.fields (b.toNat : Int) with
   | none => none
   | some d => match f d.kind r with
    | none => none
    | some (v, r') => if st = true ∧ (d.tag ≤ last ∨ v.out = standF ts d) then none else rkFlds st ts f t m d.tag r' (acc ++ [.nd 61 [] d.tag [v]])
def rkTyped (st : Bool) (ts : List Ty) (f : List UInt8 → List UInt8 → Option (V × List UInt8)) (t : Ty) (s : List UInt8) : Option (V × List UInt8) :=
 if t.sort = 82 then (rkFlds st ts f t (s.length + 1) 0 s []).map fun x => (.nd 82 [] 0 x.1, x.2) else match s with
  | [] => none
  | b :: r => match fldT t.fields (b.toNat : Int) with
   | none => none
   | some d => if t.sort = 69 then some (.nd 69 [] d.tag [], r) else (f d.kind r).map fun x => (.nd 85 [] d.tag [x.1], x.2)
def num3 (a b c : UInt8) : Nat := a.toNat * 65536 + b.toNat * 256 + c.toNat
def rkNum (st : Bool) : List UInt8 → Option (V × List UInt8)
 | a :: b :: c :: r => if st = true ∧ 999999 < num3 a b c then none else some (.nd 110 (decI (num3 a b c : Nat)) 0 [], r)
 | _ => none
def rkText (s : List UInt8) : Option (V × List UInt8) := match cut1 0 s with
 | (x, r, true) => if isTx (39 :: (x ++ [39])) = true then some (.nd 116 x 0 [], r) else none
 | _ => none
def rkK (st : Bool) (ts : List Ty) (f : List UInt8 → List UInt8 → Option (V × List UInt8)) : List UInt8 → List UInt8 → Option (V × List UInt8)
 | [], _ => none
 | c :: k, s =>
  if c.toNat = 91 then (rkItems st (f k) (s.length + 1) s []).map fun x => (.nd 91 [] 0 x.1, x.2)
  else if c.toNat = 63 then (match rbFlag s with
   | none => none
   | some (false, r) => some (.nd 63 [] 0 [], r)
   | some (true, r) => (f k r).map fun x => (.nd 63 [] 0 [x.1], x.2))
  else match refT ts (c :: k) with
   | some t => rkTyped st ts f t s
   | none => if c.toNat = 110 then rkNum st s else if c.toNat = 116 then rkText s
    else if c.toNat = 102 then (rbFlag s).map fun x => (.nd 102 (if x.1 = true then [121, 101, 115] else [110, 111]) 0 [], x.2) else none
def rk (st : Bool) (ts : List Ty) : Nat → List UInt8 → List UInt8 → Option (V × List UInt8)
 | 0, _, _ => none
 | n + 1, k, s => rkK st ts (rk st ts n) k s
theorem rbFlag_inv {s r : List UInt8} {b : Bool} (h : rbFlag s = some (b, r)) : s = (if b = true then 1 else 0) :: r := by
 unfold rbFlag at h
 split at h
 ·cases h
 ·rename_i c q
  split at h
  ·rename_i hc
   simp only [Option.some.injEq, Prod.mk.injEq] at h
   obtain ⟨rfl, rfl⟩ := h
   rw [u8_eq hc (by decide)]; rfl
  ·split at h
   ·rename_i hc
    simp only [Option.some.injEq, Prod.mk.injEq] at h
    obtain ⟨rfl, rfl⟩ := h
    rw [u8_eq hc (by decide)]; rfl
   ·cases h
theorem rbFlag_0 (r : List UInt8) : rbFlag (0 :: r) = some (false, r) := by rw [rbFlag, if_pos (by decide)]
theorem rbFlag_1 (r : List UInt8) : rbFlag (1 :: r) = some (true, r) := by rw [rbFlag, if_neg (by decide), if_pos (by decide)]
section
variable {ts : List Ty}
theorem num3_key {a b c : UInt8} : [u8 ((num3 a b c : Nat) / 65536 : Int), u8 ((num3 a b c : Nat) / 256 : Int), u8 (num3 a b c : Nat)] = [a, b, c] := by
 have h1 := a.toNat_lt
 have h2 := b.toNat_lt
 have h3 := c.toNat_lt
 unfold num3
 have e1 : (((a.toNat * 65536 + b.toNat * 256 + c.toNat : Nat) : Int) / 65536 % 256).toNat = a.toNat := by omega
 have e2 : (((a.toNat * 65536 + b.toNat * 256 + c.toNat : Nat) : Int) / 256 % 256).toNat = b.toNat := by omega
 have e3 : (((a.toNat * 65536 + b.toNat * 256 + c.toNat : Nat) : Int) % 256).toNat = c.toNat := by omega
 unfold u8
 rw [e1, e2, e3]; simp
theorem rkItems_key {f : List UInt8 → Option (V × List UInt8)} {p : V → Prop} (h : ∀ s v r, f s = some (v, r) → p v ∧ s = v.key ++ r) : ∀ (m : Nat) (s : List UInt8) (acc : List V) {vs : List V} {r : List UInt8}, rkItems true f m s acc = some (vs, r) → acc.length ≤ 20 → (∀ v ∈ acc, p v) →
  (∀ v ∈ vs, p v) ∧ vs.length ≤ 20 ∧ ∃ us, vs = acc ++ us ∧ s = mrk [1] (V.keys us) ++ 0 :: r
 | 0, _, _, _, _, e, _, _ => by cases e
 | m + 1, s, acc, vs, r, e, hl, ha => by
  unfold rkItems at e
  cases hb : rbFlag s with
  | none => rw [hb] at e; cases e
  | some y =>
   rw [hb] at e
   obtain ⟨b, q⟩ := y
   have hs := rbFlag_inv hb
   cases b with
   | false =>
    simp only [Option.some.injEq, Prod.mk.injEq] at e
    obtain ⟨rfl, rfl⟩ := e
    exact ⟨ha, hl, [], by simp, by rw [hs]; simp [V.keys, mrk]⟩
   | true =>
    dsimp only at e
    cases hf : f q with
    | none => rw [hf] at e; cases e
    | some y =>
     rw [hf] at e
     obtain ⟨v, r'⟩ := y
     obtain ⟨hp, hq⟩ := h _ _ _ hf
     dsimp only at e
     split at e
     ·cases e
     ·rename_i hc
      obtain ⟨g1, g2, us, g3, g4⟩ := rkItems_key h m r' (acc ++ [v]) e (by simp at hc; simp; omega) (fun u hu => by
       rcases List.mem_append.1 hu with hu | hu
       ·exact ha u hu
       ·simp only [List.mem_singleton] at hu; subst hu; exact hp)
      refine ⟨g1, g2, v :: us, by rw [g3]; simp, ?_⟩
      rw [hs, hq, g4]
      simp [V.keys, mrk]
theorem key_fld (p : Fld × V) : (fldV p).key = u8 p.1.tag :: p.2.key := by
 show V.key (.nd 61 [] p.1.tag [p.2]) = _
 rw [V.key]; simp [V.keys, keyW]
theorem rkFlds_key {f : List UInt8 → List UInt8 → Option (V × List UInt8)} {p : List UInt8 → V → Prop} (h : ∀ k s v r, f k s = some (v, r) → p k v ∧ s = v.key ++ r) {t : Ty} : ∀ (m : Nat) (last : Int) (s : List UInt8) (fs : List (Fld × V)) {vs : List V} {r : List UInt8}, rkFlds true ts f t m last s (fs.map fldV) = some (vs, r) → (∀ q ∈ fs, q.1 ∈ t.fields ∧ p q.1.kind q.2 ∧ q.2.out ≠ standF ts q.1 ∧ q.1.tag ≤ last) → fs.Pairwise (fun a b => a.1.tag < b.1.tag) →
  ∃ gs hs : List (Fld × V), vs = gs.map fldV ∧ (∀ q ∈ gs, q.1 ∈ t.fields ∧ p q.1.kind q.2 ∧ q.2.out ≠ standF ts q.1) ∧ gs.Pairwise (fun a b => a.1.tag < b.1.tag) ∧ gs = fs ++ hs ∧ s = mrk [1] (V.keys (hs.map fldV)) ++ 0 :: r
 | 0, _, _, _, _, _, e, _, _ => by cases e
 | m + 1, last, s, fs, vs, r, e, ha, hp => by
  unfold rkFlds at e
  cases hb : rbFlag s with
  | none => rw [hb] at e; cases e
  | some y =>
   rw [hb] at e
   obtain ⟨b, q⟩ := y
   have hs := rbFlag_inv hb
   cases b with
   | false =>
    simp only [Option.some.injEq, Prod.mk.injEq] at e
    obtain ⟨rfl, rfl⟩ := e
    exact ⟨fs, [], rfl, fun q hq => ⟨(ha q hq).1, (ha q hq).2.1, (ha q hq).2.2.1⟩, hp, by simp, by rw [hs]; simp [V.keys, mrk]⟩
   | true =>
    cases q with
    | nil => cases e
    | cons b q =>
     dsimp only at e
     cases hd : fldT t.fields (b.toNat : Int) with
     | none => rw [hd] at e; cases e
     | some d =>
      rw [hd] at e
      obtain ⟨hd1, hd2⟩ := fldT_tagI hd
      dsimp only at e
      cases hf : f d.kind q with
      | none => rw [hf] at e; cases e
      | some y =>
       rw [hf] at e
       obtain ⟨v, r'⟩ := y
       obtain ⟨hp1, hq⟩ := h _ _ _ _ hf
       dsimp only at e
       split at e
       ·cases e
       ·rename_i hc
        simp only [true_and, not_or, Int.not_le] at hc
        have e2 : fs.map fldV ++ [V.nd 61 [] d.tag [v]] = (fs ++ [(d, v)]).map fldV := by simp
        rw [e2] at e
        obtain ⟨gs, hs2, g1, g2, g3, g4, g5⟩ := rkFlds_key h m d.tag r' (fs ++ [(d, v)]) e (fun q hq => by
         rcases List.mem_append.1 hq with hq | hq
         ·obtain ⟨a1, a2, a3, a4⟩ := ha q hq; exact ⟨a1, a2, a3, by omega⟩
         ·simp only [List.mem_singleton] at hq; subst hq; exact ⟨hd2, hp1, hc.2, Int.le_refl _⟩) (by
         rw [List.pairwise_append]
         refine ⟨hp, List.pairwise_singleton _ _, fun a hA b hB => ?_⟩
         simp only [List.mem_singleton] at hB; subst hB
         have := (ha a hA).2.2.2
         show a.1.tag < d.tag
         omega)
        refine ⟨gs, (d, v) :: hs2, g1, g2, g3, by rw [g4]; simp, ?_⟩
        rw [hs, hq, g5, List.map_cons, V.keys, key_fld]
        simp [mrk, hd1]
theorem rk_key : ∀ (n : Nat) (k s : List UInt8) (v : V) (r : List UInt8), rk true ts n k s = some (v, r) → (OfK ts k v ∧ v.deep ≤ n) ∧ s = v.key ++ r
 | 0, _, _, _, _, e => by cases e
 | n + 1, k, s, v, r, e => by
  have ih := fun k s v r => rk_key n k s v r
  replace e : rkK true ts (rk true ts n) k s = some (v, r) := e
  cases k with
  | nil => cases e
  | cons c k =>
   unfold rkK at e
   dsimp only at e
   split at e
   ·rename_i hc
    obtain rfl := u8_eq hc (by decide)
    cases hi : rkItems true (rk true ts n k) (s.length + 1) s [] with
    | none => rw [hi] at e; cases e
    | some y =>
     rw [hi] at e
     obtain ⟨vs, q⟩ := y
     simp only [Option.map_some, Option.some.injEq, Prod.mk.injEq] at e
     obtain ⟨rfl, rfl⟩ := e
     obtain ⟨h1, h2, us, h3, h4⟩ := rkItems_key (p := fun v => OfK ts k v ∧ v.deep ≤ n) (fun s v r => ih k s v r) _ _ _ hi (by simp) (by simp)
     rw [List.nil_append] at h3
     subst h3
     refine ⟨⟨.lst _ _ h2 fun v hv => (h1 v hv).1, ?_⟩, ?_⟩
     ·rw [deep_nd (by decide)]
      have := V.deeps_le (n := n) fun v hv => (h1 v hv).2
      omega
     ·rw [h4, V.key]; simp [keyW, mrk]
   ·rename_i hc
    split at e
    ·rename_i hc2
     obtain rfl := u8_eq hc2 (by decide)
     split at e
     ·cases e
     ·rename_i q hb
      simp only [Option.some.injEq, Prod.mk.injEq] at e
      obtain ⟨rfl, rfl⟩ := e
      exact ⟨⟨.non _, by rw [deep_nd (by decide)]; simp [V.deeps]⟩, by rw [rbFlag_inv hb, V.key]; simp [keyW, V.keys]⟩
     ·rename_i q hb
      cases hf : rk true ts n k q with
      | none => rw [hf] at e; cases e
      | some y =>
       rw [hf] at e
       obtain ⟨u, q2⟩ := y
       simp only [Option.map_some, Option.some.injEq, Prod.mk.injEq] at e
       obtain ⟨rfl, rfl⟩ := e
       obtain ⟨⟨h1, h2⟩, h3⟩ := ih _ _ _ _ hf
       refine ⟨⟨.opt _ _ h1, ?_⟩, ?_⟩
       ·rw [deep_nd (by decide)]
        have := V.deeps_le (ks := [u]) (n := n) fun v hv => by simp only [List.mem_singleton] at hv; subst hv; exact h2
        omega
       ·rw [rbFlag_inv hb, h3, V.key]; simp [keyW, V.keys]
    ·split at e
     ·rename_i t ht
      unfold rkTyped at e
      split at e
      ·rename_i h82
       cases hf : rkFlds true ts (rk true ts n) t (s.length + 1) 0 s [] with
       | none => rw [hf] at e; cases e
       | some y =>
        rw [hf] at e
        obtain ⟨vs, q⟩ := y
        simp only [Option.map_some, Option.some.injEq, Prod.mk.injEq] at e
        obtain ⟨rfl, rfl⟩ := e
        obtain ⟨gs, hs, e1, e2, e3, e4, e5⟩ := rkFlds_key (fs := []) (p := fun k v => OfK ts k v ∧ v.deep ≤ n) (fun k s v r => ih k s v r) _ _ _ hf (by simp) (by simp)
        rw [List.nil_append] at e4
        subst e4 e1
        refine ⟨⟨.recd _ t gs ht h82 (fun p hp => (e2 p hp).1) (fun p hp => (e2 p hp).2.1.1) (fun p hp => (e2 p hp).2.2) e3, ?_⟩, ?_⟩
        ·rw [deep_nd (by decide)]
         have := V.deeps_le (ks := gs.map fldV) (n := n) fun v hv => by
          obtain ⟨p, hp, rfl⟩ := List.mem_map.1 hv
          have := (e2 p hp).2.1.2
          show V.deep (.nd 61 [] p.1.tag [p.2]) ≤ n
          rw [V.deep, if_pos rfl]
          exact V.deeps_le (ks := [p.2]) fun v hv => by simp only [List.mem_singleton] at hv; subst hv; exact this
         omega
        ·rw [e5, V.key]; simp [keyW, mrk]
      ·rename_i h82
       split at e
       ·cases e
       ·rename_i b q
        split at e
        ·cases e
        ·rename_i d hd
         obtain ⟨hd1, hd2⟩ := fldT_tagI hd
         split at e
         ·rename_i h69
          simp only [Option.some.injEq, Prod.mk.injEq] at e
          obtain ⟨rfl, rfl⟩ := e
          exact ⟨⟨.enm _ t d ht h69 hd2, by rw [deep_nd (by decide)]; simp [V.deeps]⟩, by rw [V.key]; simp [keyW, hd1]⟩
         ·rename_i h69
          cases hf : rk true ts n d.kind q with
          | none => rw [hf] at e; cases e
          | some y =>
           rw [hf] at e
           obtain ⟨u, q2⟩ := y
           simp only [Option.map_some, Option.some.injEq, Prod.mk.injEq] at e
           obtain ⟨rfl, rfl⟩ := e
           obtain ⟨⟨h1, h2⟩, h3⟩ := ih _ _ _ _ hf
           refine ⟨⟨.uni _ t d u ht h82 h69 hd2 h1, ?_⟩, ?_⟩
           ·rw [deep_nd (by decide)]
            have := V.deeps_le (ks := [u]) (n := n) fun v hv => by simp only [List.mem_singleton] at hv; subst hv; exact h2
            omega
           ·rw [h3, V.key]; simp [keyW, V.keys, hd1]
     ·rename_i ht
      split at e
      ·rename_i h1
       obtain rfl := u8_eq h1 (by decide)
       unfold rkNum at e
       split at e
       ·rename_i a b c q
        split at e
        ·cases e
        ·rename_i hl
         simp only [Option.some.injEq, Prod.mk.injEq] at e
         obtain ⟨rfl, rfl⟩ := e
         simp only [true_and, Nat.not_lt] at hl
         refine ⟨⟨.num _ _ (by omega) (by omega), by rw [deep_nd (by decide)]; simp [V.deeps]⟩, ?_⟩
         rw [V.key]
         unfold keyW
         rw [if_pos rfl, numOf_decI (by omega) (by omega) (by decide), Option.getD_some, num3_key]; rfl
       ·cases e
      ·split at e
       ·rename_i h1
        obtain rfl := u8_eq h1 (by decide)
        unfold rkText at e
        split at e
        ·rename_i x q hx
         split at e
         ·rename_i hi
          simp only [Option.some.injEq, Prod.mk.injEq] at e
          obtain ⟨rfl, rfl⟩ := e
          exact ⟨⟨.txt _ _ hi, by rw [deep_nd (by decide)]; simp [V.deeps]⟩, by rw [cut1_join (c := 0) (by decide) hx, V.key]; simp [keyW]⟩
         ·cases e
        ·cases e
       ·split at e
        ·rename_i h1
         obtain rfl := u8_eq h1 (by decide)
         cases hb : rbFlag s with
         | none => rw [hb] at e; cases e
         | some y =>
          rw [hb] at e
          obtain ⟨b, q⟩ := y
          simp only [Option.map_some, Option.some.injEq, Prod.mk.injEq] at e
          obtain ⟨rfl, rfl⟩ := e
          have hs := rbFlag_inv hb
          cases b with
          | false => exact ⟨⟨.flg _ _ (.inr rfl), by rw [deep_nd (by decide)]; simp [V.deeps]⟩, by rw [hs, V.key]; simp [keyW]⟩
          | true => exact ⟨⟨.flg _ _ (.inl rfl), by rw [deep_nd (by decide)]; simp [V.deeps]⟩, by rw [hs, V.key]; simp [keyW]⟩
        ·cases e
end
variable {ts : List Ty}
theorem mrk_cons1 (v : V) (ks : List V) : mrk [1] (V.keys (v :: ks)) = 1 :: (v.key ++ mrk [1] (V.keys ks)) := by simp [V.keys, mrk]
theorem rkItems_in {f : List UInt8 → Option (V × List UInt8)} {r : List UInt8} : ∀ (ks : List V) (m : Nat) (acc : List V), ks.length < m → acc.length + ks.length ≤ 20 → (∀ v ∈ ks, ∀ r, f (v.key ++ r) = some (v, r)) → rkItems true f m (mrk [1] (V.keys ks) ++ 0 :: r) acc = some (acc ++ ks, r)
 | [], m, acc, hm, _, _ => by
  obtain ⟨m, rfl⟩ : ∃ n, m = n + 1 := ⟨m - 1, by simp at hm; omega⟩
  have e : mrk [1] (V.keys []) ++ 0 :: r = 0 :: r := by simp [V.keys, mrk]
  rw [e, rkItems, rbFlag_0, List.append_nil]
 | v :: ks, m, acc, hm, hl, h => by
  obtain ⟨m, rfl⟩ : ∃ n, m = n + 1 := ⟨m - 1, by simp at hm; omega⟩
  simp only [List.length_cons] at hm hl
  rw [mrk_cons1, List.cons_append, List.append_assoc, rkItems, rbFlag_1]
  dsimp only
  rw [h v (by simp)]
  dsimp only
  rw [if_neg (by simp; omega), rkItems_in ks m (acc ++ [v]) (by omega) (by simp; omega) fun u hu => h u (by simp [hu])]
  simp
theorem rkFlds_in {f : List UInt8 → List UInt8 → Option (V × List UInt8)} {t : Ty} (hw : TyW t) {r : List UInt8} : ∀ (fs : List (Fld × V)) (m : Nat) (last : Int) (acc : List V), fs.length < m → (∀ p ∈ fs, p.1 ∈ t.fields ∧ p.2.out ≠ standF ts p.1 ∧ last < p.1.tag ∧ ∀ r, f p.1.kind (p.2.key ++ r) = some (p.2, r)) → fs.Pairwise (fun a b => a.1.tag < b.1.tag) →
  rkFlds true ts f t m last (mrk [1] (V.keys (fs.map fldV)) ++ 0 :: r) acc = some (acc ++ fs.map fldV, r)
 | [], m, last, acc, hm, _, _ => by
  obtain ⟨m, rfl⟩ : ∃ n, m = n + 1 := ⟨m - 1, by simp at hm; omega⟩
  have e : mrk [1] (V.keys (([] : List (Fld × V)).map fldV)) ++ 0 :: r = 0 :: r := by simp [V.keys, mrk]
  rw [e, rkFlds, rbFlag_0, List.map_nil, List.append_nil]
 | p :: fs, m, last, acc, hm, hf, hp => by
  obtain ⟨m, rfl⟩ : ∃ n, m = n + 1 := ⟨m - 1, by simp at hm; omega⟩
  obtain ⟨h1, h2, h3, h4⟩ := hf p (by simp)
  have ht := (hw.fld _ h1).tag
  rw [List.pairwise_cons] at hp
  have ih := rkFlds_in (f := f) hw (r := r) fs m p.1.tag (acc ++ [fldV p]) (by simp at hm; omega) (fun q hq => ⟨(hf q (by simp [hq])).1, (hf q (by simp [hq])).2.1, hp.1 q hq, (hf q (by simp [hq])).2.2.2⟩) hp.2
  rw [List.map_cons, mrk_cons1, key_fld, List.cons_append, List.cons_append, List.cons_append, List.append_assoc, rkFlds, rbFlag_1]
  dsimp only
  rw [u8_val (by omega), fldT_mem hw h1]
  dsimp only
  rw [h4]
  dsimp only
  rw [if_neg (by rintro ⟨_, h | h⟩; omega; exact h2 h)]
  show rkFlds true ts f t m p.1.tag _ (acc ++ [fldV p]) = _
  rw [ih]; simp
theorem keys_ge (ks : List V) : ks.length ≤ (mrk [1] (V.keys ks)).length := by
 induction ks with
 | nil => simp
 | cons v ks ih => rw [mrk_cons1, List.length_cons, List.length_cons, List.length_append]; omega
theorem rkText_in {x r : List UInt8} (h : isTx (39 :: (x ++ [39])) = true) : rkText (x ++ 0 :: r) = some (.nd 116 x 0 [], r) := by
 have hn : ∀ j, j < x.length → bt x j ≠ 0 := fun j hj e => by
  unfold isTx at h
  rw [decide_eq_true_eq] at h
  have h1 := h.2.2.2 (j + 1) (by simp; omega)
  rw [bt_succ] at h1
  have h2 : bt (x ++ [39]) j = bt x j := by simp [bt, List.getD, List.getElem?_append_left hj]
  rw [h2, e] at h1
  rcases h1 with h1 | h1
  ·omega
  ·exact absurd h1 (by decide)
 have h1 := cut1_at (k := 0) (s := x ++ 0 :: r) (i := x.length) (by simp) (fun j hj => by
  have h2 : bt (x ++ 0 :: r) j = bt x j := by simp [bt, List.getD, List.getElem?_append_left hj]
  rw [h2]; exact hn j hj) (by simp [bt, List.getD])
 have h2 : (x ++ 0 :: r).take x.length = x := List.take_left
 have h3 : (x ++ 0 :: r).drop (x.length + 1) = r := by
  rw [show x.length + 1 = (x ++ [0]).length by simp, show x ++ 0 :: r = (x ++ [0]) ++ r by simp, List.drop_left]
 unfold rkText
 rw [h1, h2, h3]
 dsimp only
 rw [if_pos h]
theorem num3_in {m : Int} (h0 : 0 ≤ m) (h1 : m ≤ 999999) : num3 (u8 (m / 65536)) (u8 (m / 256)) (u8 m) = m.toNat := by
  have e1 : ((u8 (m / 65536)).toNat : Int) = m / 65536 % 256 := by have := u8_wrap (m / 65536); have h : IntKind.u8.wrap (m / 65536) = m / 65536 % 256 := by simp [IntKind.wrap, IntKind.bits, IntKind.signed]
                                                                   omega
  have e2 : ((u8 (m / 256)).toNat : Int) = m / 256 % 256 := by have := u8_wrap (m / 256); have h : IntKind.u8.wrap (m / 256) = m / 256 % 256 := by simp [IntKind.wrap, IntKind.bits, IntKind.signed]
                                                               omega
  have e3 : ((u8 m).toNat : Int) = m % 256 := by have := u8_wrap m; have h : IntKind.u8.wrap m = m % 256 := by simp [IntKind.wrap, IntKind.bits, IntKind.signed]
                                                 omega
  unfold num3
  omega
theorem rk_in (hw : SchW ts) : ∀ (n : Nat) {k : List UInt8} {v : V}, OfK ts k v → v.deep ≤ n → ∀ r, rk true ts n k (v.key ++ r) = some (v, r)
 | 0, k, v, h, hd, r => by
  obtain ⟨w, x, t, ks⟩ := v
  have hne : w ≠ 61 := by cases h <;> decide
  rw [deep_nd hne] at hd; omega
 | n + 1, k, v, h, hd, r => by
  have ih := fun {k : List UInt8} {v : V} => rk_in hw n (k := k) (v := v)
  show rkK true ts (rk true ts n) k (v.key ++ r) = some (v, r)
  cases h with
  | num k m h1 h2 =>
   have e : V.key (.nd 110 (decI m) 0 []) = [u8 (m / 65536), u8 (m / 256), u8 m] := by rw [V.key]; unfold keyW; rw [if_pos rfl, numOf_decI h1 h2 (by decide)]; rfl
   have hrf : refT ts (110 :: k) = none := by cases h : refT ts (110 :: k) with | none => rfl | some t => exact (refT_no h rfl (by decide)).elim
   have hn := num3_in h1 h2
   rw [e]
   unfold rkK
   try dsimp only
   rw [if_neg (by decide), if_neg (by decide), hrf]
   try dsimp only
   rw [if_pos (by decide)]
   simp only [List.cons_append, List.nil_append, rkNum]
   rw [hn, if_neg (by omega), Int.toNat_of_nonneg h1]
  | txt k x h1 =>
   have hrf : refT ts (116 :: k) = none := by cases h : refT ts (116 :: k) with | none => rfl | some t => exact (refT_no h rfl (by decide)).elim
   rw [show V.key (.nd 116 x 0 []) = x ++ [0] by rw [V.key]; rfl]
   unfold rkK
   try dsimp only
   rw [if_neg (by decide), if_neg (by decide), hrf]
   try dsimp only
   rw [if_neg (by decide), if_pos (by decide), List.append_assoc, List.singleton_append, rkText_in h1]
  | flg k x h1 =>
   have hrf : refT ts (102 :: k) = none := by cases h : refT ts (102 :: k) with | none => rfl | some t => exact (refT_no h rfl (by decide)).elim
   unfold rkK
   try dsimp only
   rw [if_neg (by decide), if_neg (by decide), hrf]
   try dsimp only
   rw [if_neg (by decide), if_neg (by decide), if_pos (by decide)]
   rcases h1 with rfl | rfl
   ·rw [show V.key (.nd 102 [121, 101, 115] 0 []) = [1] by rw [V.key]; rfl]; rfl
   ·rw [show V.key (.nd 102 [110, 111] 0 []) = [0] by rw [V.key]; rfl]; rfl
  | lst k ks h1 h2 =>
   rw [deep_nd (by decide)] at hd
   have e : V.key (.nd 91 [] 0 ks) = mrk [1] (V.keys ks) ++ [0] := by rw [V.key]; simp [keyW, mrk]
   have hg := keys_ge ks
   rw [e, List.append_assoc, List.singleton_append]
   unfold rkK
   try dsimp only
   rw [if_pos (by decide), rkItems_in ks _ [] (by simp; omega) (by simp; omega) fun v hv r => ih (h2 v hv) (by have := V.deep_mem hv; omega) r]; rfl
  | non k =>
   rw [show V.key (.nd 63 [] 0 []) = [0] by rw [V.key]; rfl]
   unfold rkK
   try dsimp only
   rw [if_neg (by decide), if_pos (by decide)]; rfl
  | opt k v h1 =>
   rw [deep_nd (by decide)] at hd
   have hd2 : v.deep ≤ n := by have := V.deep_mem (ks := [v]) (v := v) (by simp); omega
   have e : V.key (.nd 63 [] 0 [v]) = 1 :: v.key := by rw [V.key]; simp [V.keys, keyW]
   rw [e]
   unfold rkK
   try dsimp only
   rw [if_neg (by decide), if_pos (by decide), List.cons_append, rbFlag_1]
   try dsimp only
   rw [ih h1 hd2]; rfl
  | recd k t fs h1 h2 h3 h4 h5 h6 =>
   rw [deep_nd (by decide)] at hd
   obtain ⟨k', rfl⟩ := kind_64 h1
   have e : V.key (.nd 82 [] 0 (fs.map fldV)) = mrk [1] (V.keys (fs.map fldV)) ++ [0] := by rw [V.key]; simp [keyW, mrk]
   have hg := keys_ge (fs.map fldV)
   rw [List.length_map] at hg
   have hW := hw.ty t (refT_mem h1)
   rw [e, List.append_assoc, List.singleton_append]
   have hF := rkFlds_in (ts := ts) (f := rk true ts n) hW (r := r) fs ((mrk [1] (V.keys (fs.map fldV)) ++ 0 :: r).length + 1) 0 [] (by simp; omega) (fun p hp => by
    have hdp : p.2.deep ≤ n := by
     have h7 := V.deep_mem (List.mem_map_of_mem (f := fldV) hp)
     have h8 : (fldV p).deep = p.2.deep := by
      show V.deep (.nd 61 [] p.1.tag [p.2]) = _
      rw [V.deep, if_pos rfl]; simp [V.deeps]
     omega
    have ht := (hW.fld _ (h3 p hp)).tag
    exact ⟨h3 p hp, h5 p hp, by omega, fun r => ih (h4 p hp) hdp r⟩) h6
   unfold rkK
   try dsimp only
   rw [if_neg (by decide), if_neg (by decide), h1]
   try dsimp only
   unfold rkTyped
   rw [if_pos h2, hF]; rfl
  | enm k t d h1 h2 h3 =>
   obtain ⟨k', rfl⟩ := kind_64 h1
   have hW := hw.ty t (refT_mem h1)
   have ht := (hW.fld _ h3).tag
   rw [show V.key (.nd 69 [] d.tag []) = [u8 d.tag] by rw [V.key]; rfl]
   unfold rkK
   try dsimp only
   rw [if_neg (by decide), if_neg (by decide), h1]
   try dsimp only
   unfold rkTyped
   rw [if_neg (by omega), List.singleton_append]
   dsimp only
   rw [u8_val (by omega), fldT_mem hW h3]
   dsimp only
   rw [if_pos h2]
  | uni k t d v h1 h2 h3 h4 h5 =>
   rw [deep_nd (by decide)] at hd
   have hd2 : v.deep ≤ n := by have := V.deep_mem (ks := [v]) (v := v) (by simp); omega
   obtain ⟨k', rfl⟩ := kind_64 h1
   have hW := hw.ty t (refT_mem h1)
   have ht := (hW.fld _ h4).tag
   have e : V.key (.nd 85 [] d.tag [v]) = u8 d.tag :: v.key := by rw [V.key]; simp [V.keys, keyW]
   rw [e]
   unfold rkK
   try dsimp only
   rw [if_neg (by decide), if_neg (by decide), h1]
   try dsimp only
   unfold rkTyped
   rw [if_neg h2, List.cons_append]
   dsimp only
   rw [u8_val (by omega), fldT_mem hW h4]
   dsimp only
   rw [if_neg h3, ih h5 hd2]; rfl
variable {ts : List Ty}
def keyV (ts : List Ty) (k s : List UInt8) : Option V := match rk true ts 12 k s with
 | some (v, []) => if v.out.length ≤ 400 then some v else none
 | _ => none
theorem keyV_iff (hw : SchW ts) {k s : List UInt8} {v : V} : keyV ts k s = some v ↔ (OfK ts k v ∧ v.deep ≤ 12) ∧ v.out.length ≤ 400 ∧ v.key = s := by
 constructor
 ·intro h
  unfold keyV at h
  split at h
  ·rename_i u hu
   obtain ⟨g1, g2⟩ := rk_key _ _ _ _ _ hu
   split at h
   ·rename_i hc
    simp only [Option.some.injEq] at h; subst h
    exact ⟨g1, hc, by rw [g2, List.append_nil]⟩
   ·cases h
  ·cases h
 ·rintro ⟨⟨h1, h2⟩, h3, rfl⟩
  have := rk_in hw 12 h1 h2 []
  rw [List.append_nil] at this
  unfold keyV
  rw [this]
  dsimp only
  rw [if_pos h3]
theorem key_13 (hw : SchW ts) {k s : List UInt8} {v : V} : keyV ts k s = some v ↔ rk true ts 13 k s = some (v, []) ∧ v.deep ≤ 12 ∧ v.out.length ≤ 400 := by
 rw [keyV_iff hw]
 constructor
 ·rintro ⟨⟨h1, h2⟩, h3, rfl⟩
  have := rk_in hw 13 h1 (by omega) []
  rw [List.append_nil] at this
  exact ⟨this, h2, h3⟩
 ·rintro ⟨h1, h2, h3⟩
  obtain ⟨⟨g1, _⟩, g2⟩ := rk_key _ _ _ _ _ h1
  exact ⟨⟨g1, h2⟩, h3, by rw [g2, List.append_nil]⟩
variable {ts : List Ty} {st : Bool}
theorem rk_lst {n : Nat} {k s : List UInt8} : rk st ts (n + 1) (91 :: k) s = (rkItems st (rk st ts n k) (s.length + 1) s []).map fun x => (.nd 91 [] 0 x.1, x.2) := by
 rw [rk]; unfold rkK; dsimp only; rw [if_pos (by decide)]
theorem rk_opt {n : Nat} {k s : List UInt8} : rk st ts (n + 1) (63 :: k) s = match rbFlag s with
      | none => none
      | some (false, r) => some (.nd 63 [] 0 [], r)
      | some (true, r) => (rk st ts n k r).map fun x => (.nd 63 [] 0 [x.1], x.2) := by
  rw [rk]; unfold rkK; dsimp only; rw [if_neg (by decide), if_pos (by decide)]
  all_goals (rcases rbFlag s with _ | ⟨b, r⟩)
  all_goals (try cases b)
  all_goals rfl
theorem rk_plain {n : Nat} {s : List UInt8} {c : UInt8} (hc : c = 110 ∨ c = 116 ∨ c = 102) (h : refT ts [c] = none) : rk st ts (n + 1) [c] s = if c = 110 then rkNum st s else if c = 116 then rkText s else (rbFlag s).map fun x => (.nd 102 (if x.1 = true then [121, 101, 115] else [110, 111]) 0 [], x.2) := by
 rw [rk]; unfold rkK; dsimp only
 rcases hc with rfl | rfl | rfl
 ·rw [if_neg (by decide), if_neg (by decide), h]; dsimp only; rw [if_pos (by decide), if_pos rfl]
 ·rw [if_neg (by decide), if_neg (by decide), h]; dsimp only; rw [if_neg (by decide), if_pos (by decide), if_neg (by decide), if_pos rfl]
 ·rw [if_neg (by decide), if_neg (by decide), h]; dsimp only; rw [if_neg (by decide), if_neg (by decide), if_pos (by decide), if_neg (by decide), if_neg (by decide)]
variable {ts : List Ty} {st : Bool}
theorem rkItems_tot {f : List UInt8 → Option (V × List UInt8)} (h : ∀ s v r, f s = some (v, r) → v.tot + 100 * r.length ≤ 100 * s.length) : ∀ (m : Nat) (s : List UInt8) (acc : List V) {x : List V × List UInt8}, rkItems st f m s acc = some x → V.tots x.1 + 100 * x.2.length + 100 ≤ V.tots acc + 100 * s.length
 | 0, _, _, _, e => by cases e
 | m + 1, s, acc, x, e => by
  unfold rkItems at e
  cases hb : rbFlag s with
  | none => rw [hb] at e; cases e
  | some y =>
   rw [hb] at e
   obtain ⟨b, r⟩ := y
   have hl : s.length = r.length + 1 := by rw [rbFlag_inv hb]; rfl
   cases b with
   | false => cases e; dsimp only; omega
   | true =>
    dsimp only at e
    cases hf : f r with
    | none => rw [hf] at e; cases e
    | some y =>
     rw [hf] at e
     obtain ⟨v, r'⟩ := y
     dsimp only at e
     split at e
     ·cases e
     ·have h1 := rkItems_tot h m r' _ e
      have h2 := h r v r' hf
      have e2 : V.tots (acc ++ [v]) = V.tots acc + v.tot := by simp [tots_app, V.tots]
      omega
theorem rkFlds_tot {f : List UInt8 → List UInt8 → Option (V × List UInt8)} (h : ∀ k s v r, f k s = some (v, r) → v.tot + 100 * r.length ≤ 100 * s.length) {t : Ty} : ∀ (m : Nat) (last : Int) (s : List UInt8) (acc : List V) {x : List V × List UInt8}, rkFlds st ts f t m last s acc = some x → V.tots x.1 + 100 * x.2.length + 100 ≤ V.tots acc + 100 * s.length
 | 0, _, _, _, _, e => by cases e
 | m + 1, last, s, acc, x, e => by
  unfold rkFlds at e
  cases hb : rbFlag s with
  | none => rw [hb] at e; cases e
  | some y =>
   rw [hb] at e
   obtain ⟨b, r⟩ := y
   have hl : s.length = r.length + 1 := by rw [rbFlag_inv hb]; rfl
   cases b with
   | false => cases e; dsimp only; omega
   | true =>
    cases r with
    | nil => cases e
    | cons c r =>
     dsimp only at e
     simp only [List.length_cons] at hl
     cases hd : fldT t.fields (c.toNat : Int) with
     | none => rw [hd] at e; cases e
     | some d =>
      rw [hd] at e
      dsimp only at e
      cases hf : f d.kind r with
      | none => rw [hf] at e; cases e
      | some y =>
       rw [hf] at e
       obtain ⟨v, r'⟩ := y
       dsimp only at e
       split at e
       ·cases e
       ·have h1 := rkFlds_tot h m d.tag r' _ e
        have h2 := h _ r v r' hf
        have e2 : V.tots (acc ++ [V.nd 61 [] d.tag [v]]) = V.tots acc + (20 + v.tot) := by simp [tots_app, V.tots, V.tot]
        omega
theorem rkTyped_tot {f : List UInt8 → List UInt8 → Option (V × List UInt8)} (h : ∀ k s v r, f k s = some (v, r) → v.tot + 100 * r.length ≤ 100 * s.length) {t : Ty} {s r : List UInt8} {v : V} (e : rkTyped st ts f t s = some (v, r)) : v.tot + 100 * r.length ≤ 100 * s.length := by
 unfold rkTyped at e
 split at e
 ·cases hi : rkFlds st ts f t (s.length + 1) 0 s [] with
  | none => rw [hi] at e; cases e
  | some y =>
   rw [hi] at e; cases e
   have := rkFlds_tot h _ _ _ _ hi
   simp only [V.tot, V.tots, List.length_nil] at this ⊢; omega
 ·split at e
  ·cases e
  ·rename_i b q
   cases hd : fldT t.fields (b.toNat : Int) with
   | none => rw [hd] at e; cases e
   | some d =>
    rw [hd] at e
    dsimp only at e
    split at e
    ·cases e; simp only [V.tot, V.tots, List.length_cons, List.length_nil]; omega
    ·cases hf : f d.kind q with
     | none => rw [hf] at e; cases e
     | some y =>
      rw [hf] at e; obtain ⟨w, q2⟩ := y; cases e
      have := h _ _ _ _ hf
      simp only [V.tot, V.tots, List.length_cons, List.length_nil]; omega
theorem rkNum_tot {s r : List UInt8} {v : V} (e : rkNum st s = some (v, r)) : v.tot + 100 * r.length ≤ 100 * s.length := by
 unfold rkNum at e
 split at e
 ·rename_i a b c q
  split at e
  ·cases e
  ·cases e
   have ha := a.toNat_lt
   have hb := b.toNat_lt
   have hc := c.toNat_lt
   have := decI_len (n := ((num3 a b c : Nat) : Int)) (by unfold num3; omega)
   simp only [V.tot, V.tots, List.length_cons]; omega
 ·cases e
theorem rkText_tot {s r : List UInt8} {v : V} (e : rkText s = some (v, r)) : v.tot + 100 * r.length ≤ 100 * s.length := by
 unfold rkText at e
 split at e
 ·rename_i x q hx
  split at e
  ·cases e
   rw [cut1_join (c := 0) (by decide) hx]
   simp only [V.tot, V.tots, List.length_append, List.length_cons]; omega
  ·cases e
 ·cases e
theorem rk_tot : ∀ (n : Nat) (k s : List UInt8) (v : V) (r : List UInt8), rk st ts n k s = some (v, r) → v.tot + 100 * r.length ≤ 100 * s.length
 | 0, _, _, _, _, e => by cases e
 | n + 1, k, s, v, r, e => by
  have ih := rk_tot n
  replace e : rkK st ts (rk st ts n) k s = some (v, r) := e
  cases k with
  | nil => cases e
  | cons c k =>
   unfold rkK at e
   dsimp only at e
   split at e
   ·cases hi : rkItems st (rk st ts n k) (s.length + 1) s [] with
    | none => rw [hi] at e; cases e
    | some y =>
     rw [hi] at e; cases e
     have := rkItems_tot (ih k) _ _ _ hi
     simp only [V.tot, V.tots, List.length_nil] at this ⊢; omega
   ·split at e
    ·cases hb : rbFlag s with
     | none => rw [hb] at e; cases e
     | some y =>
      rw [hb] at e
      obtain ⟨b, q⟩ := y
      have hl : s.length = q.length + 1 := by rw [rbFlag_inv hb]; rfl
      cases b with
      | false => cases e; simp only [V.tot, V.tots, List.length_nil]; omega
      | true =>
       dsimp only at e
       cases hf : rk st ts n k q with
       | none => rw [hf] at e; cases e
       | some y => rw [hf] at e; obtain ⟨w, q2⟩ := y; cases e; have := ih _ _ _ _ hf; simp only [V.tot, V.tots, List.length_nil]; omega
    ·split at e
     ·exact rkTyped_tot ih e
     ·split at e
      ·exact rkNum_tot e
      ·split at e
       ·exact rkText_tot e
       ·split at e
        ·cases hb : rbFlag s with
         | none => rw [hb] at e; cases e
         | some y =>
          rw [hb] at e; obtain ⟨b, q⟩ := y
          have hl : s.length = q.length + 1 := by rw [rbFlag_inv hb]; rfl
          cases e
          cases b
          all_goals (simp [V.tot, V.tots]; omega)
        ·cases e
end Go.E
namespace Go.E
set_option maxRecDepth 20000
set_option maxHeartbeats 2000000
open Go.Proofs
variable {G : Gh}
abbrev tBr : TypeId := 53
abbrev brO (r sc : Nat) (s : List UInt8) (b : Bool) (a : Option Addr) (n c : Nat) (d : Int) : Own := .blk r (.cells (List.toArray [Pt sc 0, S s, Bo b, .slice a n c, I d]) tBr (0, 0))
theorem c_takeB1 {r sc m n c : Nat} {s : List UInt8} {a : Option Addr} {d : Int} (h : m ≤ s.length ∧ s.length ≤ 1000000) : FnG Tryz.prog 59 [Pt r 0, I (m : Nat)] G [brO r sc s false a n c d] (fun v L' => v = S (s.take m) ∧ L' = [brO r sc (s.drop m) false a n c d]) := by
 refine jH [(0, _), (1, _)] Tryz.func59 Tryz.ntmps59 fun B hB hW => ?_
 repeat' (first | refine jM ?_ | (refine k_op rfl ?_; first | refine jV (g_ld rfl rfl rfl) ?_ | (refine jV (g_pickF rfl rfl rfl) ?_) | refine c_st1 rfl rfl rfl rfl ?_) | (refine k_gf rfl rfl rfl ?_) | (refine k_ff rfl (dFf (by omega)) ?_))
 exact k_rr (vs := [_]) rfl ⟨rfl, trivial⟩ rfl (List.Sublist.refl _) ⟨rfl, rfl, rfl⟩
theorem c_takeB0 {r sc m n c : Nat} {s : List UInt8} {b : Bool} {a : Option Addr} {d : Int} (h : b = true ∨ s.length < m) (hs : s.length ≤ 1000000 ∧ m ≤ 1000000) : FnG Tryz.prog 59 [Pt r 0, I (m : Nat)] G [brO r sc s b a n c d] (fun v L' => v = S [] ∧ L' = [brO r sc s true a n c d]) := by
 rcases h with rfl | h
 ·refine jH [(0, _), (1, _)] Tryz.func59 Tryz.ntmps59 fun B hB hW => ?_
  repeat' (first | (refine jR ?_) | (refine k_op rfl ?_; first | refine jV (g_ld rfl rfl rfl) ?_ | (refine jV (g_pickT rfl rfl rfl) ?_) | refine c_st1 rfl rfl rfl rfl ?_) | (refine k_gt rfl rfl rfl ?_) | (refine k_tt rfl rfl ?_))
  all_goals exact k_rr (vs := [_]) rfl ⟨rfl, trivial⟩ rfl (List.Sublist.refl _) ⟨rfl, rfl, rfl⟩
 ·cases b
  ·refine jH [(0, _), (1, _)] Tryz.func59 Tryz.ntmps59 fun B hB hW => ?_
   repeat' (first | (refine jR ?_) | (refine k_op rfl ?_; first | refine jV (g_ld rfl rfl rfl) ?_ | (refine jV (g_pickF rfl rfl rfl) ?_) | refine c_st1 rfl rfl rfl rfl ?_) | (refine k_gf rfl rfl rfl ?_) | (refine k_tt rfl (dTt (by omega)) ?_))
   all_goals exact k_rr (vs := [_]) rfl ⟨rfl, trivial⟩ rfl (List.Sublist.refl _) ⟨rfl, rfl, rfl⟩
  ·refine jH [(0, _), (1, _)] Tryz.func59 Tryz.ntmps59 fun B hB hW => ?_
   repeat' (first | (refine jR ?_) | (refine k_op rfl ?_; first | refine jV (g_ld rfl rfl rfl) ?_ | (refine jV (g_pickT rfl rfl rfl) ?_) | refine c_st1 rfl rfl rfl rfl ?_) | (refine k_gt rfl rfl rfl ?_) | (refine k_tt rfl rfl ?_))
   all_goals exact k_rr (vs := [_]) rfl ⟨rfl, trivial⟩ rfl (List.Sublist.refl _) ⟨rfl, rfl, rfl⟩
theorem c_flagB1 {r sc n c : Nat} {s q : List UInt8} {x : Bool} {a : Option Addr} {d : Int} (h : rbFlag s = some (x, q)) (hs : s.length ≤ 1000000) : FnG Tryz.prog 57 [Pt r 0] G [brO r sc s false a n c d] (fun v L' => v = Bo x ∧ L' = [brO r sc q false a n c d]) := by
 have e := rbFlag_inv h
 subst e
 have hl : ((if x = true then 1 else 0) :: q).length = q.length + 1 := rfl
 have cx_tkb := c_takeB1 (G := G) (r := r) (sc := sc) (m := 1) (n := n) (c := c) (s := (if x = true then 1 else 0) :: q) (a := a) (d := d) ⟨by omega, hs⟩
 cases x
 ·have cx_tkb : FnG Tryz.prog 59 [Pt r 0, I 1] G [brO r sc (0 :: q) false a n c d] (fun v L' => v = S [0] ∧ L' = [brO r sc q false a n c d]) := cx_tkb
  refine jH [(0, _)] Tryz.func57 Tryz.ntmps57 fun B hB hW => ?_
  repeat' (first | (refine jR ?_) | (refine k_op rfl ?_; (refine c_m1g rfl rfl rfl cx_tkb rfl ?_; rintro _ _ ⟨rfl, rfl⟩; dsimp only [zA, fA])) | (refine k_ff rfl rfl ?_))
  all_goals exact k_rr (vs := [_]) rfl ⟨rfl, trivial⟩ rfl (List.Sublist.refl _) ⟨rfl, rfl, rfl⟩
 ·have cx_tkb : FnG Tryz.prog 59 [Pt r 0, I 1] G [brO r sc (1 :: q) false a n c d] (fun v L' => v = S [1] ∧ L' = [brO r sc q false a n c d]) := cx_tkb
  refine jH [(0, _)] Tryz.func57 Tryz.ntmps57 fun B hB hW => ?_
  repeat' (first | (refine jR ?_) | (refine k_op rfl ?_; (refine c_m1g rfl rfl rfl cx_tkb rfl ?_; rintro _ _ ⟨rfl, rfl⟩; dsimp only [zA, fA])) | (refine k_ff rfl rfl ?_))
  all_goals exact k_rr (vs := [_]) rfl ⟨rfl, trivial⟩ rfl (List.Sublist.refl _) ⟨rfl, rfl, rfl⟩
theorem c_flagB0 {r sc n c : Nat} {s : List UInt8} {b : Bool} {a : Option Addr} {d : Int} (h : b = true ∨ rbFlag s = none) (hs : s.length ≤ 1000000) : FnG Tryz.prog 57 [Pt r 0] G [brO r sc s b a n c d] (fun v L' => ∃ q, (v = Bo false ∧ q.length ≤ s.length) ∧ L' = [brO r sc q true a n c d]) := by
 by_cases h1 : b = true ∨ s.length < 1
 ·have cx_tkb := c_takeB0 (G := G) (r := r) (sc := sc) (m := 1) (n := n) (c := c) (s := s) (b := b) (a := a) (d := d) h1 ⟨hs, by omega⟩
  have cx_tkb : FnG Tryz.prog 59 [Pt r 0, I 1] G [brO r sc s b a n c d] (fun v L' => v = S [] ∧ L' = [brO r sc s true a n c d]) := cx_tkb
  refine jH [(0, _)] Tryz.func57 Tryz.ntmps57 fun B hB hW => ?_
  repeat' (first | (refine jR ?_) | (refine k_op rfl ?_; (refine c_m1g rfl rfl rfl cx_tkb rfl ?_; rintro _ _ ⟨rfl, rfl⟩; dsimp only [zA, fA])) | (refine k_ff rfl rfl ?_))
  all_goals exact k_rr (vs := [_]) rfl ⟨rfl, trivial⟩ rfl (List.Sublist.refl _) ⟨rfl, s, ⟨rfl, Nat.le_refl _⟩, rfl⟩
 ·obtain rfl : b = false := by cases b; rfl; exact absurd (.inl rfl) h1
  match s, h, hs, h1 with
  | [], _, _, h1 => exact absurd (.inr (by simp)) h1
  | e :: q, h, hs, _ =>
   have he : e.toNat ≠ 0 ∧ e.toNat ≠ 1 := by
    rcases h with h | h
    ·cases h
    ·unfold rbFlag at h
     dsimp only at h
     split at h
     ·cases h
     ·split at h
      ·cases h
      ·exact ⟨by assumption, by assumption⟩
   have hl : (e :: q).length = q.length + 1 := rfl
   have cx_tkb := c_takeB1 (G := G) (r := r) (sc := sc) (m := 1) (n := n) (c := c) (s := e :: q) (a := a) (d := d) ⟨by omega, hs⟩
   have cx_tkb : FnG Tryz.prog 59 [Pt r 0, I 1] G [brO r sc (e :: q) false a n c d] (fun v L' => v = S [e] ∧ L' = [brO r sc q false a n c d]) := cx_tkb
   have hne : ¬ [e] = [1] := fun h => by simp only [List.cons.injEq, and_true] at h; subst h; exact he.2 rfl
   have hbl : Op.bytesLess [e] [1] = false := by
    cases hb : Op.bytesLess [e] [1] with
    | false => rfl
    | true =>
     exfalso
     unfold Op.bytesLess at hb
     have h9 : ¬ e.toNat < (1 : UInt8).toNat := by show ¬ e.toNat < 1; omega
     simp_all
   have hc : (!(Op.bytesLess [e] [1] || decide ([e] = [1]))) = true := by rw [hbl, decide_eq_false hne]; rfl
   refine jH [(0, _)] Tryz.func57 Tryz.ntmps57 fun B hB hW => ?_
   repeat' (first | (refine jR ?_) | (refine k_op rfl ?_; first | refine c_st1 rfl rfl rfl rfl ?_ | (refine c_m1g rfl rfl rfl cx_tkb rfl ?_; rintro _ _ ⟨rfl, rfl⟩; dsimp only [zA, fA])) | (refine k_tt rfl ‹_› ?_))
   all_goals exact k_rr (vs := [_]) rfl ⟨rfl, trivial⟩ rfl (List.Sublist.refl _) ⟨rfl, q, ⟨by rw [decide_eq_false hne]; all_goals rfl, by omega⟩, rfl⟩
theorem c_byteB1 {r sc n c : Nat} {q : List UInt8} {e : UInt8} {a : Option Addr} {d : Int} (hs : q.length ≤ 999999) : FnG Tryz.prog 63 [Pt r 0] G [brO r sc (e :: q) false a n c d] (fun v L' => v = I (e.toNat : Int) ∧ L' = [brO r sc q false a n c d]) := by
 have hl : (e :: q).length = q.length + 1 := rfl
 have he0 : bt [e] (Int.toNat 0) = e.toNat := bt_zero e []
 have cx_tkb := c_takeB1 (G := G) (r := r) (sc := sc) (m := 1) (n := n) (c := c) (s := e :: q) (a := a) (d := d) ⟨by omega, by omega⟩
 have cx_tkb : FnG Tryz.prog 59 [Pt r 0, I 1] G [brO r sc (e :: q) false a n c d] (fun v L' => v = S [e] ∧ L' = [brO r sc q false a n c d]) := cx_tkb
 refine jH [(0, _)] Tryz.func63 Tryz.ntmps63 fun B hB hW => ?_
 repeat' (first | (refine run (t := tb) 400 rfl ?_ ?_; (focus (repeat' (first | exact trivial | apply And.intro | omega | (simp only [List.length_append, List.length_cons, List.length_nil, Int.toNat_natCast]; omega) | (with_reducible exact (bt_le _ _).2))))) | (refine k_op rfl ?_; first | refine jV (g_ld rfl rfl rfl) ?_ | (refine c_m1g rfl rfl rfl cx_tkb rfl ?_; rintro _ _ ⟨rfl, rfl⟩; dsimp only [zA, fA])) | (refine k_ff rfl rfl ?_))
 all_goals exact k_rr (vs := [_]) rfl ⟨rfl, trivial⟩ rfl (List.Sublist.refl _) ⟨rfl, by rw [he0]; all_goals rfl, rfl⟩
theorem c_byteB0 {r sc n c : Nat} {s : List UInt8} {b : Bool} {a : Option Addr} {d : Int} (h : b = true ∨ s.length < 1) (hs : s.length ≤ 1000000) : FnG Tryz.prog 63 [Pt r 0] G [brO r sc s b a n c d] (fun v L' => v = I 0 ∧ L' = [brO r sc s true a n c d]) := by
 have cx_tkb := c_takeB0 (G := G) (r := r) (sc := sc) (m := 1) (n := n) (c := c) (s := s) (b := b) (a := a) (d := d) h ⟨hs, by omega⟩
 have cx_tkb : FnG Tryz.prog 59 [Pt r 0, I 1] G [brO r sc s b a n c d] (fun v L' => v = S [] ∧ L' = [brO r sc s true a n c d]) := cx_tkb
 refine jH [(0, _)] Tryz.func63 Tryz.ntmps63 fun B hB hW => ?_
 repeat' (first | (refine jR ?_) | (refine k_op rfl ?_; first | refine jV (g_ld rfl rfl rfl) ?_ | (refine c_m1g rfl rfl rfl cx_tkb rfl ?_; rintro _ _ ⟨rfl, rfl⟩; dsimp only [zA, fA])) | (refine k_tt rfl rfl ?_))
 all_goals exact k_rr (vs := [_]) rfl ⟨rfl, trivial⟩ rfl (List.Sublist.refl _) ⟨rfl, rfl, rfl⟩
abbrev tPbr : TypeId := 50
theorem c_unkeyD {x0 r sc n c : Nat} {s : List UInt8} {b : Bool} {a : Option Addr} {d : Int} (hd : -1000 ≤ d ∧ d ≤ 1000) : FnD Tryz.prog 55 [Pt x0 0] G [.blk x0 (.cells (List.toArray [Pt r 0]) tPbr (0, 0)), brO r sc s b a n c d]
  (fun _ G' L' => G' = G ∧ L' = [.blk x0 (.cells (List.toArray [Pt r 0]) tPbr (0, 0)), brO r sc s b a n c (d - 1)]) := by
 refine e_enter [(0, _)] Tryz.func55 (by kernel_rfl) Tryz.ntmps55 rfl rfl (by repeat' constructor) fun B hok hB hW => ?_
 repeat' (first | refine jM ?_ | (refine k_op rfl ?_; first | refine jV (g_ld rfl rfl rfl) ?_ | refine c_st1 rfl rfl rfl rfl ?_))
 all_goals exact k_re (vs := []) rfl trivial rfl (List.Sublist.refl _) ⟨rfl, rfl⟩
def RkQ (f : List UInt8 → Option (V × List UInt8)) (s : List UInt8) (b : Bool) (u : V) (s' : List UInt8) (b' : Bool) : Prop :=
 s'.length ≤ s.length ∧ (b' = false → b = false ∧ f s = some (u, s')) ∧ (b' = true → (b = true ∨ f s = none) ∧ u.tot + 100 * s'.length ≤ 100 * s.length + 100)
def UkP (f : List UInt8 → Option (V × List UInt8)) (r sc : Nat) (s : List UInt8) (b : Bool) (d : Int) (v : Value) (G' : Gh) (L' : List Own) : Prop :=
 ∃ u c s' b', v = Ag (vcF c) ∧ V.rep G' u c ∧ L' = [brO r sc s' b' none 0 0 d] ∧ RkQ f s b u s' b'
def UkC (n sc : Nat) (qs : List TyP) : Prop := ∀ (G : Gh) (r : Nat) (k s : List UInt8) (b : Bool), ScI G sc qs → kindIn (tyq qs) k = true → s.length ≤ 1000 →
 FnM Tryz.prog 24 [Pt r 0, Ag (kdF k)] G [brO r sc s b none 0 0 (13 - (n : Int))] (UkP (rk true (tyq qs) n k) r sc s b (13 - (n : Int)))
abbrev tVlU : TypeId := 56
abbrev tKdU : TypeId := 47
theorem c_unkBad {r sc n : Nat} {qs : List TyP} {k s : List UInt8} {b : Bool} (h : b = true ∨ n = 0) (hs : s.length ≤ 1000) (hn : n ≤ 13) :
  FnM Tryz.prog 24 [Pt r 0, Ag [S (sg k), S (bs k), S (nm k)]] G [brO r sc s b none 0 0 (13 - (n : Int))] (UkP (rk true (tyq qs) n k) r sc s b (13 - (n : Int))) := by
 have hd : ((13 : Int) - (n : Int)) + 1 - 1 = 13 - (n : Int) := by omega
 have hno : b = true ∨ rk true (tyq qs) n k s = none := by
  rcases h with h | rfl
  ·exact .inl h
  ·exact .inr rfl
 rcases h with rfl | rfl
 ·
  refine d_enter [(0, _), (1, _)] Tryz.func24 (by kernel_rfl) Tryz.ntmps24 rfl rfl (by repeat' constructor) fun B hok hB hW => ?_
  repeat' (first | refine jM ?_ | (refine k_op rfl ?_; first | refine c_bx rfl rfl rfl fun _ => ?_ | refine c_al rfl rfl fun _ => ?_ | refine jV (g_ld rfl rfl rfl) ?_ | refine c_st1 rfl rfl rfl rfl ?_ | refine jV (g_mkf rfl rfl) ?_))
  rename_i x2 x3 x4
  refine k_op rfl ?_
  refine c_defer (fi := []) (ca := [Pt x2 0]) (az := []) rfl rfl ?_
  repeat' (first | (refine jR ?_) | (refine k_op rfl ?_; first | refine jV (g_ld rfl rfl rfl) ?_ | refine c_st1 rfl rfl rfl rfl ?_ | refine c_stA rfl rfl rfl rfl rfl rfl ?_ | refine jV (g_bld rfl rfl) ?_) | (refine k_tt rfl rfl ?_) | refine k_if rfl (fun _ => ?_) (fun _ => ?_))
  all_goals
   refine k_rrD (R := [.blk x4 (.cells (List.toArray [U8 (0 : Nat), S [], I 0, nilS]) tVlU (0, 0)), .blk x3 (.cells (List.toArray [S (sg k), S (bs k), S (nm k)]) tKdU (0, 0))]) (.inl rfl) rfl (c_unkeyD (x0 := x2) (r := r) (sc := sc) (s := s) (b := true) (a := none) (n := 0) (c := 0) (d := 13 - (n : Int) + 1) (by omega)) (List.perm_append_comm (l₁ := [_, _]) (l₂ := [_, _])) rfl ?_
   rintro v G' L' ⟨rfl, rfl⟩
   dsimp only [zA, fA]
   refine ⟨[_], [brO r sc s true none 0 0 (13 - (n : Int) + 1 - 1)], ⟨rc_A rfl rfl rfl rfl, trivial⟩, by repeat (first | exact List.nil_sublist _ | apply List.Sublist.cons_cons | apply List.Sublist.cons), Gh.le.refl _, ?_⟩
   exact ⟨.nd 0 [] 0 [], ⟨0, [], 0, none, 0, 0⟩, s, true, rfl, rep_zero, by rw [show 13 - (n : Int) + 1 - 1 = 13 - (n : Int) by omega], Nat.le_refl _, fun h => (by cases h), fun _ => ⟨hno, by simp only [V.tot, V.tots, List.length_nil]; omega⟩⟩
 ·
  refine d_enter [(0, _), (1, _)] Tryz.func24 (by kernel_rfl) Tryz.ntmps24 rfl rfl (by repeat' constructor) fun B hok hB hW => ?_
  repeat' (first | refine jM ?_ | (refine k_op rfl ?_; first | refine c_bx rfl rfl rfl fun _ => ?_ | refine c_al rfl rfl fun _ => ?_ | refine jV (g_ld rfl rfl rfl) ?_ | refine c_st1 rfl rfl rfl rfl ?_ | refine jV (g_mkf rfl rfl) ?_))
  rename_i x2 x3 x4
  refine k_op rfl ?_
  refine c_defer (fi := []) (ca := [Pt x2 0]) (az := []) rfl rfl ?_
  repeat' (first | (refine jR ?_) | (refine k_op rfl ?_; first | refine jV (g_ld rfl rfl rfl) ?_ | refine c_st1 rfl rfl rfl rfl ?_ | refine c_stA rfl rfl rfl rfl rfl rfl ?_ | refine jV (g_bld rfl rfl) ?_) | (refine k_tt rfl rfl ?_))
  all_goals
   refine k_rrD (R := [.blk x4 (.cells (List.toArray [U8 (0 : Nat), S [], I 0, nilS]) tVlU (0, 0)), .blk x3 (.cells (List.toArray [S (sg k), S (bs k), S (nm k)]) tKdU (0, 0))]) (.inl rfl) rfl (c_unkeyD (x0 := x2) (r := r) (sc := sc) (s := s) (b := true) (a := none) (n := 0) (c := 0) (d := 13 - ((0 : Nat) : Int) + 1) (by omega)) (List.perm_append_comm (l₁ := [_, _]) (l₂ := [_, _])) rfl ?_
   rintro v G' L' ⟨rfl, rfl⟩
   dsimp only [zA, fA]
   refine ⟨[_], [brO r sc s true none 0 0 (13 - ((0 : Nat) : Int) + 1 - 1)], ⟨rc_A rfl rfl rfl rfl, trivial⟩, by repeat (first | exact List.nil_sublist _ | apply List.Sublist.cons_cons | apply List.Sublist.cons), Gh.le.refl _, ?_⟩
   exact ⟨.nd 0 [] 0 [], ⟨0, [], 0, none, 0, 0⟩, s, true, rfl, rep_zero, by rw [show 13 - ((0 : Nat) : Int) + 1 - 1 = 13 - ((0 : Nat) : Int) by omega], Nat.le_refl _, fun h => (by cases h), fun _ => ⟨hno, by simp only [V.tot, V.tots, List.length_nil]; omega⟩⟩
theorem k_rrU {P : Program} {n : Nat} {E : Env} {B : Base} {G : Gh} {L R1 R : List Own} {e : Exit} {f : FuncId} {fi ca az xs : List Value} {b1 b2 : Nat} {c1 c2 : List Value} {T1 T2 : TypeId} {PostD : Value → Gh → List Own → Prop} {fn : Func} {rs : List ResultVar} {Post : Value → Gh → List Own → Prop}
  [h1 : DelB L b1 c1 T1 R1] [h2 : DelB R1 b2 c2 T2 R] (he : e = .ret ∨ e = .normal) (hv : fi ++ az ++ ca = xs) (hc : FnD P f xs G [.blk b1 (.cells c1.toArray T1 (0, 0)), .blk b2 (.cells c2.toArray T2 (0, 0))] PostD)
  (hr : fn.results = rs.toArray) (k : ∀ v G' L', PostD v G' L' → ∃ vs L'', ResV P (St B G' (L' ++ R)) E rs vs ∧ L''.Sublist (L' ++ R) ∧ Post (oneOf vs) G' L'') :
  Nx n [dfd f fi ca az] E B G L (cu P (.exit e) [] (bpD P fn (RPost B Post))) := k_rrD he hv hc (h1.del.perm.trans (h2.del.perm.cons _)) hr k
theorem ukP_in {f : List UInt8 → Option (V × List UInt8)} {r sc : Nat} {s s' : List UInt8} {b b' : Bool} {d d' : Int} {u : V} {c : VC} {G' : Gh} (hr : V.rep G' u c) (hd : d' = d) (h : RkQ f s b u s' b') : UkP f r sc s b d (Ag (vcF c)) G' [brO r sc s' b' none 0 0 d'] := by
 subst hd; exact ⟨u, c, s', b', rfl, hr, rfl, h⟩
theorem tI_tx (x : List UInt8) : isTx (39 :: (x ++ [39])) = isTI x := by
 cases x with
 | nil => simp [isTx, TxP, isTI, bt]
 | cons c x =>
  have h := isTx_in (s := 39 :: (c :: x ++ [39]))
  have hne : (39 :: (c :: x ++ [39]) : List UInt8) ≠ [39, 39] := fun e => by simpa using congrArg List.length e
  have hl : (39 :: (c :: x ++ [39]) : List UInt8).length = x.length + 3 := by simp
  have e0 : bt (39 :: (c :: x ++ [39]) : List UInt8) 0 = 39 := rfl
  have e1 : bt (39 :: (c :: x ++ [39]) : List UInt8) (x.length + 3 - 1) = 39 := by
   rw [show x.length + 3 - 1 = (x.length + 1) + 1 by omega, bt_succ, show x.length + 1 = (c :: x).length from rfl]
   simp [bt, List.getD]
  have e2 : ((39 :: (c :: x ++ [39]) : List UInt8).take (x.length + 3 - 1)).drop 1 = c :: x := by
   rw [show x.length + 3 - 1 = (c :: x).length + 1 by simp, List.take_succ_cons, List.take_left]; rfl
  rw [hl, e0, e1, e2, decide_eq_true hne, Bool.and_true] at h
  rw [h, decide_eq_true (by omega)]
  simp
theorem uk_d {f : List UInt8 → Option (V × List UInt8)} {r sc : Nat} {k q : List UInt8} {d e : Int} (h : e = d) (hc : FnM Tryz.prog 24 [Pt r 0, Ag (kdF k)] G [brO r sc q false none 0 0 e] (UkP f r sc q false e)) : FnM Tryz.prog 24 [Pt r 0, Ag [S (sg k), S (bs k), S (nm k)]] G [brO r sc q false none 0 0 d] (UkP f r sc q false d) := by subst h; exact hc
theorem rkQ_tot {ts : List Ty} {n : Nat} {k q t1 : List UInt8} {u : V} {b1 : Bool} (h : RkQ (rk true ts n k) q false u t1 b1) : t1.length ≤ q.length ∧ u.tot + 100 * t1.length ≤ 100 * q.length + 100 ∧ (b1 = false → rk true ts n k q = some (u, t1) ∧ u.tot + 100 * t1.length ≤ 100 * q.length) ∧ (b1 = true → rk true ts n k q = none) := by
 obtain ⟨h1, h2, h3⟩ := h
 cases b1 with
 | false =>
  obtain ⟨_, h4⟩ := h2 rfl
  have := rk_tot _ _ _ _ _ h4
  exact ⟨h1, by omega, fun _ => ⟨h4, this⟩, fun h => (by cases h)⟩
 | true =>
  obtain ⟨h4, h5⟩ := h3 rfl
  exact ⟨h1, h5, fun h => (by cases h), fun _ => by rcases h4 with h4 | h4; cases h4; exact h4⟩
theorem rk_none_len {st : Bool} {ts : List Ty} {n : Nat} {s : List UInt8} (hr : refT ts [110] = none) (h : s.length < 3) : rk st ts (n + 1) [110] s = none := by
 rw [rk_plain (.inl rfl) hr, if_pos rfl]
 match s, h with
 | [], _ => rfl
 | [_], _ => rfl
 | [_, _], _ => rfl
 | _ :: _ :: _ :: r, h => exact absurd h (by simp only [List.length_cons]; omega)
theorem c_unkN {n r sc : Nat} {qs : List TyP} {s : List UInt8} {d : Int} (hd : d = 12 - (n : Int)) (hn : n ≤ 12) (hr : refT (tyq qs) [110] = none) (hs : s.length ≤ 1000) :
  FnM Tryz.prog 24 [Pt r 0, Ag (kdF [110])] G [brO r sc s false none 0 0 d] (UkP (rk true (tyq qs) (n + 1) [110]) r sc s false d) := by
 have cx_sign := @c_sign0 G [110] []
 show FnM Tryz.prog 24 [Pt r 0, Ag [S [], S [110], S []]] G [brO r sc s false none 0 0 d] _
 by_cases h3 : s.length < 3
 ·have hno := rk_none_len (st := true) (n := n) hr h3
  have cx_tkb := c_takeB0 (G := G) (r := r) (sc := sc) (m := 3) (n := 0) (c := 0) (s := s) (b := false) (a := none) (d := d + 1) (.inr h3) ⟨by omega, by omega⟩
  have cx_tkb : FnG Tryz.prog 59 [Pt r 0, I 3] G [brO r sc s false none 0 0 (d + 1)] (fun v L' => v = S [] ∧ L' = [brO r sc s true none 0 0 (d + 1)]) := cx_tkb
  refine d_enter [(0, _), (1, _)] Tryz.func24 (by kernel_rfl) Tryz.ntmps24 rfl rfl (by repeat' constructor) fun B hok hB hW => ?_
  repeat' (first | refine jM ?_ | (refine k_op rfl ?_; first | refine c_bx rfl rfl rfl fun _ => ?_ | refine c_al rfl rfl fun _ => ?_ | refine jV (g_ld rfl rfl rfl) ?_ | refine c_st1 rfl rfl rfl rfl ?_ | refine jV (g_mkf rfl rfl) ?_))
  rename_i x2 x3 x4
  refine k_op rfl ?_
  refine c_defer (fi := []) (ca := [Pt x2 0]) (az := []) rfl rfl ?_
  repeat' (first | (refine jR ?_) | (refine k_op rfl ?_; first | refine jV (g_ld rfl rfl rfl) ?_ | refine jV (g_ldA rfl rfl rfl rfl) ?_ | refine c_stA rfl rfl rfl rfl rfl rfl ?_ | refine jV (g_bld rfl rfl) ?_ | (refine c_rt rfl rfl rfl cx_sign rfl ?_) | (refine c_m1g rfl rfl rfl cx_tkb rfl ?_; rintro _ _ ⟨rfl, rfl⟩; dsimp only [zA, fA])) | (refine k_tt rfl rfl ?_) | (refine k_ff rfl (by first | rfl | (refine decide_eq_false ?_; (omega))) ?_))
  all_goals
   refine k_rrU (.inl rfl) rfl (c_unkeyD (x0 := x2) (r := r) (sc := sc) (s := s) (b := true) (a := none) (n := 0) (c := 0) (d := d + 1) (by omega)) rfl ?_
   rintro v G' L' ⟨rfl, rfl⟩
   dsimp only [zA, fA]
   exact ⟨[_], [brO r sc s true none 0 0 (d + 1 - 1)], ⟨rc_A rfl rfl rfl rfl, trivial⟩, by repeat (first | exact List.nil_sublist _ | apply List.Sublist.cons_cons | apply List.Sublist.cons), Gh.le.refl _, ukP_in (c := ⟨0, [], 0, none, 0, 0⟩) rep_zero (by omega) ⟨Nat.le_refl _, fun h => (by cases h), fun _ => ⟨.inr hno, by simp only [V.tot, V.tots, List.length_nil]; omega⟩⟩⟩
 ·obtain ⟨a0, b0, c0, q, rfl⟩ : ∃ a0 b0 c0 q, s = a0 :: b0 :: c0 :: q := by
   match s, h3 with
   | [], h => simp at h
   | [_], h => simp at h
   | [_, _], h => simp at h
   | a0 :: b0 :: c0 :: q, _ => exact ⟨a0, b0, c0, q, rfl⟩
  have hl : (a0 :: b0 :: c0 :: q).length = q.length + 3 := rfl
  have cx_tkb := c_takeB1 (G := G) (r := r) (sc := sc) (m := 3) (n := 0) (c := 0) (s := a0 :: b0 :: c0 :: q) (a := none) (d := d + 1) ⟨by omega, by omega⟩
  have cx_tkb : FnG Tryz.prog 59 [Pt r 0, I 3] G [brO r sc (a0 :: b0 :: c0 :: q) false none 0 0 (d + 1)] (fun v L' => v = S [a0, b0, c0] ∧ L' = [brO r sc q false none 0 0 (d + 1)]) := cx_tkb
  have ha : bt [a0, b0, c0] (Int.toNat 0) = a0.toNat := rfl
  have hb : bt [a0, b0, c0] (Int.toNat 1) = b0.toNat := rfl
  have hc : bt [a0, b0, c0] (Int.toNat 2) = c0.toNat := rfl
  have ha2 := a0.toNat_lt
  have hb2 := b0.toNat_lt
  have hc2 := c0.toNat_lt
  have hrd := rk_plain (st := true) (ts := tyq qs) (n := n) (s := a0 :: b0 :: c0 :: q) (c := 110) (.inl rfl) hr
  rw [if_pos rfl, rkNum] at hrd
  have hw1 : IntKind.i64.wrap (((bt [a0, b0, c0] (Int.toNat 0) : Nat) : Int) * 2 ^ (min (Int.toNat 16) IntKind.i64.bits)) = a0.toNat * 65536 := by
   rw [ha, show (min (Int.toNat 16) IntKind.i64.bits) = 16 from rfl, show (2 : Int) ^ 16 = 65536 from rfl]
   exact wrap_in (by omega)
  have hw2 : IntKind.i64.wrap (((bt [a0, b0, c0] (Int.toNat 1) : Nat) : Int) * 2 ^ (min (Int.toNat 8) IntKind.i64.bits)) = b0.toNat * 256 := by
   rw [hb, show (min (Int.toNat 8) IntKind.i64.bits) = 8 from rfl, show (2 : Int) ^ 8 = 256 from rfl]
   exact wrap_in (by omega)
  have hnum : num3 a0 b0 c0 = a0.toNat * 65536 + b0.toNat * 256 + c0.toNat := rfl
  by_cases hbig : 999999 < num3 a0 b0 c0
  ·rw [if_pos ⟨rfl, hbig⟩] at hrd
   refine d_enter [(0, _), (1, _)] Tryz.func24 (by kernel_rfl) Tryz.ntmps24 rfl rfl (by repeat' constructor) fun B hok hB hW => ?_
   repeat' (first | refine jM ?_ | (refine k_op rfl ?_; first | refine c_bx rfl rfl rfl fun _ => ?_ | refine c_al rfl rfl fun _ => ?_ | refine jV (g_ld rfl rfl rfl) ?_ | refine c_st1 rfl rfl rfl rfl ?_ | refine jV (g_mkf rfl rfl) ?_))
   rename_i x2 x3 x4
   refine k_op rfl ?_
   refine c_defer (fi := []) (ca := [Pt x2 0]) (az := []) rfl rfl ?_
   repeat' (first | (refine jR ?_) | (refine k_op rfl ?_; first | refine jV (g_ld rfl rfl rfl) ?_ | refine jV (g_ldA rfl rfl rfl rfl) ?_ | refine c_st1 rfl rfl rfl rfl ?_ | refine c_stA rfl rfl rfl rfl rfl rfl ?_ | refine jV (g_bld rfl rfl) ?_ | (refine c_rt rfl rfl rfl cx_sign rfl ?_) | (refine c_m1g rfl rfl rfl cx_tkb rfl ?_; rintro _ _ ⟨rfl, rfl⟩; dsimp only [zA, fA])) | (refine k_tt rfl (by first | rfl | (refine decide_eq_true ?_; (omega))) ?_) | (refine k_ff rfl (by first | rfl | (refine decide_eq_false ?_; (omega))) ?_) | (refine k_any (s_any (id := 24) _ (fun _ h => h) mixed ?_); refine jU 5 [0, 1, 2, 4, 5, 6, 9, 10, 11] (bts 14 3703) ?_ ?_; (focus (repeat' (first | exact trivial | apply And.intro | omega | (simp only [List.length_append, List.length_cons, List.length_nil, Int.toNat_natCast]; omega)))); (refine jG (bts 14 3711) 3 rfl (g_shl rfl rfl (by omega)) ?_); (refine jG (bts 14 3839) 7 rfl (g_shl rfl rfl (by omega)) ?_); refine jU 0 [8, 12, 13] (bts 14 16383) ?_ ?_; (focus (repeat' (first | exact trivial | apply And.intro | omega))); refine x_done (by kernel_rfl) (k_bk ?_)))
   all_goals
    refine k_rrU (.inl rfl) rfl (c_unkeyD (x0 := x2) (r := r) (sc := sc) (s := q) (b := true) (a := none) (n := 0) (c := 0) (d := d + 1) (by omega)) rfl ?_
    rintro v G' L' ⟨rfl, rfl⟩
    dsimp only [zA, fA]
    exact ⟨[_], [brO r sc q true none 0 0 (d + 1 - 1)], ⟨rc_A rfl rfl rfl rfl, trivial⟩, by repeat (first | exact List.nil_sublist _ | apply List.Sublist.cons_cons | apply List.Sublist.cons), Gh.le.refl _, ukP_in (c := ⟨0, [], 0, none, 0, 0⟩) rep_zero (by omega) ⟨by omega, fun h => (by cases h), fun _ => ⟨.inr hrd, by simp only [V.tot, V.tots, List.length_nil]; omega⟩⟩⟩
  ·rw [if_neg (fun h => hbig h.2)] at hrd
   refine d_enter [(0, _), (1, _)] Tryz.func24 (by kernel_rfl) Tryz.ntmps24 rfl rfl (by repeat' constructor) fun B hok hB hW => ?_
   repeat' (first | refine jM ?_ | (refine k_op rfl ?_; first | refine c_bx rfl rfl rfl fun _ => ?_ | refine c_al rfl rfl fun _ => ?_ | refine jV (g_ld rfl rfl rfl) ?_ | refine c_st1 rfl rfl rfl rfl ?_ | refine jV (g_mkf rfl rfl) ?_))
   rename_i x2 x3 x4
   refine k_op rfl ?_
   refine c_defer (fi := []) (ca := [Pt x2 0]) (az := []) rfl rfl ?_
   repeat' (first | (refine jR ?_) | (refine k_op rfl ?_; first | refine jV (g_ld rfl rfl rfl) ?_ | refine jV (g_ldA rfl rfl rfl rfl) ?_ | refine c_stA rfl rfl rfl rfl rfl rfl ?_ | refine jV (g_bld rfl rfl) ?_ | (refine c_rt rfl rfl rfl cx_sign rfl ?_) | (refine c_m1g rfl rfl rfl cx_tkb rfl ?_; rintro _ _ ⟨rfl, rfl⟩; dsimp only [zA, fA]) | (refine c_rt rfl rfl rfl (c_decimalN (by omega)) rfl ?_)) | (refine k_tt rfl rfl ?_) | (refine k_ff rfl (by first | rfl | (refine decide_eq_false ?_; (omega))) ?_) | (refine k_any (s_any (id := 24) _ (fun _ h => h) mixed ?_); refine jU 5 [0, 1, 2, 4, 5, 6, 9, 10, 11] (bts 14 3703) ?_ ?_; (focus (repeat' (first | exact trivial | apply And.intro | omega | (simp only [List.length_append, List.length_cons, List.length_nil, Int.toNat_natCast]; omega)))); (refine jG (bts 14 3711) 3 rfl (g_shl rfl rfl (by omega)) ?_); (refine jG (bts 14 3839) 7 rfl (g_shl rfl rfl (by omega)) ?_); refine jU 0 [8, 12, 13] (bts 14 16383) ?_ ?_; (focus (repeat' (first | exact trivial | apply And.intro | omega))); refine x_done (by kernel_rfl) (k_bk ?_)))
   have hnm : IntKind.i64.wrap (((bt [a0, b0, c0] (Int.toNat 0) : Nat) : Int) * 2 ^ (min (Int.toNat 16) IntKind.i64.bits)) + IntKind.i64.wrap (((bt [a0, b0, c0] (Int.toNat 1) : Nat) : Int) * 2 ^ (min (Int.toNat 8) IntKind.i64.bits)) + ((bt [a0, b0, c0] (Int.toNat 2) : Nat) : Int) = ((num3 a0 b0 c0 : Nat) : Int) := by rw [hw1, hw2, hc, hnum]; omega
   all_goals
    refine k_rrU (.inl rfl) rfl (c_unkeyD (x0 := x2) (r := r) (sc := sc) (s := q) (b := false) (a := none) (n := 0) (c := 0) (d := d + 1) (by omega)) rfl ?_
    rintro v G' L' ⟨rfl, rfl⟩
    dsimp only [zA, fA]
    rw [hnm]
    exact ⟨[_], [brO r sc q false none 0 0 (d + 1 - 1)], ⟨rc_A rfl rfl rfl rfl, trivial⟩, by repeat (first | exact List.nil_sublist _ | apply List.Sublist.cons_cons | apply List.Sublist.cons), Gh.le.refl _, ukP_in (c := ⟨110, decI ((num3 a0 b0 c0 : Nat) : Int), 0, none, 0, 0⟩) (rep_leaf (by decide) (by decide)) (by omega) ⟨by omega, fun _ => ⟨rfl, hrd⟩, fun h => (by cases h)⟩⟩
theorem c_unkF {n r sc : Nat} {qs : List TyP} {s : List UInt8} {d : Int} (hd : d = 12 - (n : Int)) (hn : n ≤ 12) (hr : refT (tyq qs) [102] = none) (hs : s.length ≤ 1000) :
  FnM Tryz.prog 24 [Pt r 0, Ag (kdF [102])] G [brO r sc s false none 0 0 d] (UkP (rk true (tyq qs) (n + 1) [102]) r sc s false d) := by
 have cx_sign := @c_sign0 G [102] []
 have hrd := rk_plain (st := true) (ts := tyq qs) (n := n) (s := s) (c := 102) (.inr (.inr rfl)) hr
 rw [if_neg (by decide), if_neg (by decide)] at hrd
 show FnM Tryz.prog 24 [Pt r 0, Ag [S [], S [102], S []]] G [brO r sc s false none 0 0 d] _
 cases hf : rbFlag s with
 | none =>
  rw [hf] at hrd
  have cx_fl := c_flagB0 (G := G) (r := r) (sc := sc) (n := 0) (c := 0) (s := s) (b := false) (a := none) (d := d + 1) (.inr hf) (by omega)
  refine d_enter [(0, _), (1, _)] Tryz.func24 (by kernel_rfl) Tryz.ntmps24 rfl rfl (by repeat' constructor) fun B hok hB hW => ?_
  repeat' (first | refine jM ?_ | (refine k_op rfl ?_; first | refine c_bx rfl rfl rfl fun _ => ?_ | refine c_al rfl rfl fun _ => ?_ | refine jV (g_ld rfl rfl rfl) ?_ | refine c_st1 rfl rfl rfl rfl ?_ | refine jV (g_mkf rfl rfl) ?_))
  rename_i x2 x3 x4
  refine k_op rfl ?_
  refine c_defer (fi := []) (ca := [Pt x2 0]) (az := []) rfl rfl ?_
  repeat' (first | (refine jR ?_) | (refine k_op rfl ?_; first | refine jV (g_ld rfl rfl rfl) ?_ | refine jV (g_ldA rfl rfl rfl rfl) ?_ | refine c_stA rfl rfl rfl rfl rfl rfl ?_ | refine jV (g_bld rfl rfl) ?_ | (refine c_rt rfl rfl rfl cx_sign rfl ?_) | (refine c_m1g rfl rfl rfl cx_fl rfl ?_; rintro _ _ ⟨q1, ⟨rfl, hql⟩, rfl⟩; dsimp only [zA, fA])) | (refine k_tt rfl rfl ?_) | (refine k_ff rfl (by first | rfl | (refine decide_eq_false ?_; (omega))) ?_))
  all_goals
   refine k_rrU (.inl rfl) rfl (c_unkeyD (x0 := x2) (r := r) (sc := sc) (s := q1) (b := true) (a := none) (n := 0) (c := 0) (d := d + 1) (by omega)) rfl ?_
   rintro v G' L' ⟨rfl, rfl⟩
   dsimp only [zA, fA]
   exact ⟨[_], [brO r sc q1 true none 0 0 (d + 1 - 1)], ⟨rc_A rfl rfl rfl rfl, trivial⟩, by repeat (first | exact List.nil_sublist _ | apply List.Sublist.cons_cons | apply List.Sublist.cons), Gh.le.refl _, ukP_in (c := ⟨102, [110, 111], 0, none, 0, 0⟩) (rep_leaf (by decide) (by decide)) (by omega) ⟨hql, fun h => (by cases h), fun _ => ⟨.inr hrd, by simp only [V.tot, V.tots, List.length_cons, List.length_nil]; omega⟩⟩⟩
 | some y =>
  obtain ⟨x, q⟩ := y
  rw [hf] at hrd
  have hin := rbFlag_inv hf
  have hl : s.length = q.length + 1 := by rw [hin]; rfl
  have cx_fl := c_flagB1 (G := G) (r := r) (sc := sc) (n := 0) (c := 0) (s := s) (q := q) (x := x) (a := none) (d := d + 1) hf (by omega)
  cases x
  ·
   refine d_enter [(0, _), (1, _)] Tryz.func24 (by kernel_rfl) Tryz.ntmps24 rfl rfl (by repeat' constructor) fun B hok hB hW => ?_
   repeat' (first | refine jM ?_ | (refine k_op rfl ?_; first | refine c_bx rfl rfl rfl fun _ => ?_ | refine c_al rfl rfl fun _ => ?_ | refine jV (g_ld rfl rfl rfl) ?_ | refine c_st1 rfl rfl rfl rfl ?_ | refine jV (g_mkf rfl rfl) ?_))
   rename_i x2 x3 x4
   refine k_op rfl ?_
   refine c_defer (fi := []) (ca := [Pt x2 0]) (az := []) rfl rfl ?_
   repeat' (first | (refine jR ?_) | (refine k_op rfl ?_; first | refine jV (g_ld rfl rfl rfl) ?_ | refine jV (g_ldA rfl rfl rfl rfl) ?_ | refine c_stA rfl rfl rfl rfl rfl rfl ?_ | refine jV (g_bld rfl rfl) ?_ | (refine c_rt rfl rfl rfl cx_sign rfl ?_) | (refine c_m1g rfl rfl rfl cx_fl rfl ?_; rintro _ _ ⟨rfl, rfl⟩; dsimp only [zA, fA])) | (refine k_tt rfl rfl ?_) | (refine k_ff rfl (by first | rfl | (refine decide_eq_false ?_; (omega))) ?_))
   all_goals
    refine k_rrU (.inl rfl) rfl (c_unkeyD (x0 := x2) (r := r) (sc := sc) (s := q) (b := false) (a := none) (n := 0) (c := 0) (d := d + 1) (by omega)) rfl ?_
    rintro v G' L' ⟨rfl, rfl⟩
    dsimp only [zA, fA]
    exact ⟨[_], [brO r sc q false none 0 0 (d + 1 - 1)], ⟨rc_A rfl rfl rfl rfl, trivial⟩, by repeat (first | exact List.nil_sublist _ | apply List.Sublist.cons_cons | apply List.Sublist.cons), Gh.le.refl _, ukP_in (c := ⟨102, [110, 111], 0, none, 0, 0⟩) (rep_leaf (by decide) (by decide)) (by omega) ⟨by omega, fun _ => ⟨rfl, hrd⟩, fun h => (by cases h)⟩⟩
  ·
   refine d_enter [(0, _), (1, _)] Tryz.func24 (by kernel_rfl) Tryz.ntmps24 rfl rfl (by repeat' constructor) fun B hok hB hW => ?_
   repeat' (first | refine jM ?_ | (refine k_op rfl ?_; first | refine c_bx rfl rfl rfl fun _ => ?_ | refine c_al rfl rfl fun _ => ?_ | refine jV (g_ld rfl rfl rfl) ?_ | refine c_st1 rfl rfl rfl rfl ?_ | refine jV (g_mkf rfl rfl) ?_))
   rename_i x2 x3 x4
   refine k_op rfl ?_
   refine c_defer (fi := []) (ca := [Pt x2 0]) (az := []) rfl rfl ?_
   repeat' (first | (refine jR ?_) | (refine k_op rfl ?_; first | refine jV (g_ld rfl rfl rfl) ?_ | refine jV (g_ldA rfl rfl rfl rfl) ?_ | refine c_stA rfl rfl rfl rfl rfl rfl ?_ | refine jV (g_bld rfl rfl) ?_ | (refine c_rt rfl rfl rfl cx_sign rfl ?_) | (refine c_m1g rfl rfl rfl cx_fl rfl ?_; rintro _ _ ⟨rfl, rfl⟩; dsimp only [zA, fA])) | (refine k_tt rfl rfl ?_) | (refine k_ff rfl (by first | rfl | (refine decide_eq_false ?_; (omega))) ?_))
   all_goals
    refine k_rrU (.inl rfl) rfl (c_unkeyD (x0 := x2) (r := r) (sc := sc) (s := q) (b := false) (a := none) (n := 0) (c := 0) (d := d + 1) (by omega)) rfl ?_
    rintro v G' L' ⟨rfl, rfl⟩
    dsimp only [zA, fA]
    exact ⟨[_], [brO r sc q false none 0 0 (d + 1 - 1)], ⟨rc_A rfl rfl rfl rfl, trivial⟩, by repeat (first | exact List.nil_sublist _ | apply List.Sublist.cons_cons | apply List.Sublist.cons), Gh.le.refl _, ukP_in (c := ⟨102, [121, 101, 115], 0, none, 0, 0⟩) (rep_leaf (by decide) (by decide)) (by omega) ⟨by omega, fun _ => ⟨rfl, hrd⟩, fun h => (by cases h)⟩⟩
theorem c_unkT {n r sc : Nat} {qs : List TyP} {s : List UInt8} {d : Int} (hd : d = 12 - (n : Int)) (hn : n ≤ 12) (hr : refT (tyq qs) [116] = none) (hs : s.length ≤ 1000) :
  FnM Tryz.prog 24 [Pt r 0, Ag (kdF [116])] G [brO r sc s false none 0 0 d] (UkP (rk true (tyq qs) (n + 1) [116]) r sc s false d) := by
 have cx_sign := @c_sign0 G [116] []
 have hrd := rk_plain (st := true) (ts := tyq qs) (n := n) (s := s) (c := 116) (.inr (.inl rfl)) hr
 rw [if_neg (by decide), if_pos rfl] at hrd
 unfold rkText at hrd
 show FnM Tryz.prog 24 [Pt r 0, Ag [S [], S [116], S []]] G [brO r sc s false none 0 0 d] _
 rcases idx1_cases 0 s with ⟨hi, hc⟩ | ⟨i, hi, hil, hc⟩
 ·rw [hc] at hrd
  dsimp only at hrd
  have cx_ixb : PuG Tryz.prog 61 [S s, U8 (0 : UInt8).toNat] G (· = I (-1)) := by rw [← hi]; exact c_IndexByte
  have hmx : max (-1 : Int) 0 = 0 := rfl
  have cx_tkb := c_takeB1 (G := G) (r := r) (sc := sc) (m := 0) (n := 0) (c := 0) (s := s) (a := none) (d := d + 1) ⟨by omega, by omega⟩
  have cx_tkb : FnG Tryz.prog 59 [Pt r 0, I (max (-1) 0)] G [brO r sc s false none 0 0 (d + 1)] (fun v L' => v = S [] ∧ L' = [brO r sc s false none 0 0 (d + 1)]) := cx_tkb
  cases s with
  | nil =>
   have cx_tkb2 := c_takeB0 (G := G) (r := r) (sc := sc) (m := 1) (n := 0) (c := 0) (s := []) (b := false) (a := none) (d := d + 1) (.inr (by simp)) ⟨by omega, by omega⟩
   have cx_tkb2 : FnG Tryz.prog 59 [Pt r 0, I 1] G [brO r sc [] false none 0 0 (d + 1)] (fun v L' => v = S [] ∧ L' = [brO r sc [] true none 0 0 (d + 1)]) := cx_tkb2
   refine d_enter [(0, _), (1, _)] Tryz.func24 (by kernel_rfl) Tryz.ntmps24 rfl rfl (by repeat' constructor) fun B hok hB hW => ?_
   repeat' (first | refine jM ?_ | (refine k_op rfl ?_; first | refine c_bx rfl rfl rfl fun _ => ?_ | refine c_al rfl rfl fun _ => ?_ | refine jV (g_ld rfl rfl rfl) ?_ | refine c_st1 rfl rfl rfl rfl ?_ | refine jV (g_mkf rfl rfl) ?_))
   rename_i x2 x3 x4
   refine k_op rfl ?_
   refine c_defer (fi := []) (ca := [Pt x2 0]) (az := []) rfl rfl ?_
   repeat' (first | (refine jR ?_) | (refine k_op rfl ?_; first | refine jV (g_ld rfl rfl rfl) ?_ | refine jV (g_ldA rfl rfl rfl rfl) ?_ | (refine c_rt rfl rfl rfl cx_sign rfl ?_)) | (refine k_tt rfl rfl ?_) | (refine k_ff rfl (by first | rfl | (refine decide_eq_false ?_; (omega))) ?_))
   (refine k_any (s_any (id := 30) [.blk x2 (.cells (List.toArray [Pt r 0]) tPbr (0, 0))] (by intro y hy; simp only [List.mem_cons, List.not_mem_nil, or_false] at hy ⊢; simp [hy]) mixed ?_); (refine jG (bts 9 1) 0 rfl (g_ld rfl rfl rfl) ?_); (refine jG (bts 9 3) 1 rfl (g_ld rfl rfl rfl) ?_); refine jU 5 [2, 3] (bts 9 15) ?_ ?_; (focus (repeat' (exact trivial))); refine jA 4 rfl ?_; (refine jV (g_ld rfl rfl rfl) ?_); refine jK (bts 9 31) ?_; refine jA 5 rfl ?_; (refine c_rt rfl rfl rfl cx_ixb rfl ?_); refine jK (bts 9 63) ?_; (refine jG (bts 9 127) 6 rfl (g_max rfl rfl) ?_); refine jA 7 rfl ?_; (refine c_m1g rfl rfl rfl cx_tkb rfl ?_; rintro _ _ ⟨rfl, rfl⟩; dsimp only [zA, fA]); refine jK (bts 9 255) ?_; refine jU 0 [8] (bts 9 511) ?_ ?_; (focus (repeat' (exact trivial))); refine x_done (by kernel_rfl) (k_bk ?_))
   all_goals repeat' (first | (refine jR ?_) | (refine k_op rfl ?_; first | refine jV (g_ld rfl rfl rfl) ?_ | refine c_st1 rfl rfl rfl rfl ?_ | refine c_stA rfl rfl rfl rfl rfl rfl ?_ | refine jV (g_bld rfl rfl) ?_ | (refine jV (g_pickT rfl rfl rfl) ?_) | (refine c_m1g rfl rfl rfl cx_tkb2 rfl ?_; rintro _ _ ⟨rfl, rfl⟩; dsimp only [zA, fA])) | (refine k_gt rfl rfl rfl ?_) | (refine k_tt rfl rfl ?_))
   all_goals
    refine k_rrU (.inl rfl) rfl (c_unkeyD (x0 := x2) (r := r) (sc := sc) (s := []) (b := true) (a := none) (n := 0) (c := 0) (d := d + 1) (by omega)) rfl ?_
    rintro v G' L' ⟨rfl, rfl⟩
    dsimp only [zA, fA]
    exact ⟨[_], [brO r sc [] true none 0 0 (d + 1 - 1)], ⟨rc_A rfl rfl rfl rfl, trivial⟩, by repeat (first | exact List.nil_sublist _ | apply List.Sublist.cons_cons | apply List.Sublist.cons), Gh.le.refl _, ukP_in (c := ⟨116, [], 0, none, 0, 0⟩) (rep_leaf (by decide) (by decide)) (by omega) ⟨Nat.le_refl _, fun h => (by cases h), fun _ => ⟨.inr hrd, by simp only [V.tot, V.tots, List.length_nil]; omega⟩⟩⟩
  | cons e q =>
   have he : e.toNat ≠ 0 := fun h => by rw [cut1, if_pos h] at hc; simp at hc
   have hne : [e] ≠ [(0 : UInt8)] := fun h => by simp only [List.cons.injEq, and_true] at h; subst h; exact he rfl
   have hl : (e :: q).length = q.length + 1 := rfl
   have cx_tkb2 := c_takeB1 (G := G) (r := r) (sc := sc) (m := 1) (n := 0) (c := 0) (s := e :: q) (a := none) (d := d + 1) ⟨by omega, by omega⟩
   have cx_tkb2 : FnG Tryz.prog 59 [Pt r 0, I 1] G [brO r sc (e :: q) false none 0 0 (d + 1)] (fun v L' => v = S [e] ∧ L' = [brO r sc q false none 0 0 (d + 1)]) := cx_tkb2
   refine d_enter [(0, _), (1, _)] Tryz.func24 (by kernel_rfl) Tryz.ntmps24 rfl rfl (by repeat' constructor) fun B hok hB hW => ?_
   repeat' (first | refine jM ?_ | (refine k_op rfl ?_; first | refine c_bx rfl rfl rfl fun _ => ?_ | refine c_al rfl rfl fun _ => ?_ | refine jV (g_ld rfl rfl rfl) ?_ | refine c_st1 rfl rfl rfl rfl ?_ | refine jV (g_mkf rfl rfl) ?_))
   rename_i x2 x3 x4
   refine k_op rfl ?_
   refine c_defer (fi := []) (ca := [Pt x2 0]) (az := []) rfl rfl ?_
   repeat' (first | (refine jR ?_) | (refine k_op rfl ?_; first | refine jV (g_ld rfl rfl rfl) ?_ | refine jV (g_ldA rfl rfl rfl rfl) ?_ | (refine c_rt rfl rfl rfl cx_sign rfl ?_)) | (refine k_tt rfl rfl ?_) | (refine k_ff rfl (by first | rfl | (refine decide_eq_false ?_; (omega))) ?_))
   (refine k_any (s_any (id := 30) [.blk x2 (.cells (List.toArray [Pt r 0]) tPbr (0, 0))] (by intro y hy; simp only [List.mem_cons, List.not_mem_nil, or_false] at hy ⊢; simp [hy]) mixed ?_); (refine jG (bts 9 1) 0 rfl (g_ld rfl rfl rfl) ?_); (refine jG (bts 9 3) 1 rfl (g_ld rfl rfl rfl) ?_); refine jU 5 [2, 3] (bts 9 15) ?_ ?_; (focus (repeat' (exact trivial))); refine jA 4 rfl ?_; (refine jV (g_ld rfl rfl rfl) ?_); refine jK (bts 9 31) ?_; refine jA 5 rfl ?_; (refine c_rt rfl rfl rfl cx_ixb rfl ?_); refine jK (bts 9 63) ?_; (refine jG (bts 9 127) 6 rfl (g_max rfl rfl) ?_); refine jA 7 rfl ?_; (refine c_m1g rfl rfl rfl cx_tkb rfl ?_; rintro _ _ ⟨rfl, rfl⟩; dsimp only [zA, fA]); refine jK (bts 9 255) ?_; refine jU 0 [8] (bts 9 511) ?_ ?_; (focus (repeat' (exact trivial))); refine x_done (by kernel_rfl) (k_bk ?_))
   all_goals repeat' (first | (refine jR ?_) | (refine k_op rfl ?_; first | refine jV (g_ld rfl rfl rfl) ?_ | refine c_st1 rfl rfl rfl rfl ?_ | refine c_stA rfl rfl rfl rfl rfl rfl ?_ | refine jV (g_bld rfl rfl) ?_ | (refine jV (g_pickT rfl rfl rfl) ?_) | (refine c_m1g rfl rfl rfl cx_tkb2 rfl ?_; rintro _ _ ⟨rfl, rfl⟩; dsimp only [zA, fA])) | (refine k_gt rfl rfl (dTt ‹_›) ?_) | (refine k_tt rfl rfl ?_))
   all_goals
    refine k_rrU (.inl rfl) rfl (c_unkeyD (x0 := x2) (r := r) (sc := sc) (s := q) (b := true) (a := none) (n := 0) (c := 0) (d := d + 1) (by omega)) rfl ?_
    rintro v G' L' ⟨rfl, rfl⟩
    dsimp only [zA, fA]
    exact ⟨[_], [brO r sc q true none 0 0 (d + 1 - 1)], ⟨rc_A rfl rfl rfl rfl, trivial⟩, by repeat (first | exact List.nil_sublist _ | apply List.Sublist.cons_cons | apply List.Sublist.cons), Gh.le.refl _, ukP_in (c := ⟨116, [], 0, none, 0, 0⟩) (rep_leaf (by decide) (by decide)) (by omega) ⟨by omega, fun h => (by cases h), fun _ => ⟨.inr hrd, by simp only [V.tot, V.tots, List.length_nil, List.length_cons]; omega⟩⟩⟩
 ·rw [hc] at hrd
  dsimp only at hrd
  rw [tI_tx] at hrd
  have hs2 := cut1_some hc
  obtain ⟨e0, he0, hse⟩ := hs2
  obtain rfl : e0 = 0 := u8_eq he0 (by decide)
  have hdr : s.drop i = 0 :: s.drop (i + 1) := by
   have h1 : (s.take i).length = i := by rw [List.length_take]; omega
   conv => lhs; rw [hse]
   rw [List.drop_append_of_le_length (by omega), List.drop_of_length_le (by omega), List.nil_append]
  have hl1 : (s.take i).length = i := by rw [List.length_take]; omega
  have hl2 : (s.drop (i + 1)).length = s.length - (i + 1) := List.length_drop
  have hl3 : (0 :: s.drop (i + 1)).length = s.length - i := by rw [← hdr]; exact List.length_drop
  have cx_ixb : PuG Tryz.prog 61 [S s, U8 (0 : UInt8).toNat] G (· = I (i : Nat)) := by rw [← hi]; exact c_IndexByte
  have cx_tkb := c_takeB1 (G := G) (r := r) (sc := sc) (m := i) (n := 0) (c := 0) (s := s) (a := none) (d := d + 1) ⟨by omega, by omega⟩
  have hmx : max ((i : Nat) : Int) 0 = (i : Nat) := by omega
  rw [hdr, ← hmx] at cx_tkb
  have cx_tkb2 := c_takeB1 (G := G) (r := r) (sc := sc) (m := 1) (n := 0) (c := 0) (s := 0 :: s.drop (i + 1)) (a := none) (d := d + 1) ⟨by omega, by omega⟩
  have cx_tkb2 : FnG Tryz.prog 59 [Pt r 0, I 1] G [brO r sc (0 :: s.drop (i + 1)) false none 0 0 (d + 1)] (fun v L' => v = S [0] ∧ L' = [brO r sc (s.drop (i + 1)) false none 0 0 (d + 1)]) := cx_tkb2
  clear hse hdr hc
  cases hti : isTI (s.take i) with
  | true =>
   rw [hti] at hrd
   rw [if_pos rfl] at hrd
   refine d_enter [(0, _), (1, _)] Tryz.func24 (by kernel_rfl) Tryz.ntmps24 rfl rfl (by repeat' constructor) fun B hok hB hW => ?_
   repeat' (first | refine jM ?_ | (refine k_op rfl ?_; first | refine c_bx rfl rfl rfl fun _ => ?_ | refine c_al rfl rfl fun _ => ?_ | refine jV (g_ld rfl rfl rfl) ?_ | refine c_st1 rfl rfl rfl rfl ?_ | refine jV (g_mkf rfl rfl) ?_))
   rename_i x2 x3 x4
   refine k_op rfl ?_
   refine c_defer (fi := []) (ca := [Pt x2 0]) (az := []) rfl rfl ?_
   repeat' (first | (refine jR ?_) | (refine k_op rfl ?_; first | refine jV (g_ld rfl rfl rfl) ?_ | refine jV (g_ldA rfl rfl rfl rfl) ?_ | (refine c_rt rfl rfl rfl cx_sign rfl ?_)) | (refine k_tt rfl rfl ?_) | (refine k_ff rfl (by first | rfl | (refine decide_eq_false ?_; (omega))) ?_))
   (refine k_any (s_any (id := 30) [.blk x2 (.cells (List.toArray [Pt r 0]) tPbr (0, 0))] (by intro y hy; simp only [List.mem_cons, List.not_mem_nil, or_false] at hy ⊢; simp [hy]) mixed ?_); (refine jG (bts 9 1) 0 rfl (g_ld rfl rfl rfl) ?_); (refine jG (bts 9 3) 1 rfl (g_ld rfl rfl rfl) ?_); refine jU 5 [2, 3] (bts 9 15) ?_ ?_; (focus (repeat' (exact trivial))); refine jA 4 rfl ?_; (refine jV (g_ld rfl rfl rfl) ?_); refine jK (bts 9 31) ?_; refine jA 5 rfl ?_; (refine c_rt rfl rfl rfl cx_ixb rfl ?_); refine jK (bts 9 63) ?_; (refine jG (bts 9 127) 6 rfl (g_max rfl rfl) ?_); refine jA 7 rfl ?_; (refine c_m1g rfl rfl rfl cx_tkb rfl ?_; rintro _ _ ⟨rfl, rfl⟩; dsimp only [zA, fA]); refine jK (bts 9 255) ?_; refine jU 0 [8] (bts 9 511) ?_ ?_; (focus (repeat' (exact trivial))); refine x_done (by kernel_rfl) (k_bk ?_))
   all_goals repeat' (first | (refine jR ?_) | (refine k_op rfl ?_; first | refine jV (g_ld rfl rfl rfl) ?_ | refine c_stA rfl rfl rfl rfl rfl rfl ?_ | refine jV (g_bld rfl rfl) ?_ | (refine jV (g_pickF rfl rfl rfl) ?_) | (refine c_m1g rfl rfl rfl cx_tkb2 rfl ?_; rintro _ _ ⟨rfl, rfl⟩; dsimp only [zA, fA]) | (refine c_rt rfl rfl rfl (c_isText (by omega)) rfl ?_)) | (refine k_gf rfl rfl rfl ?_) | (refine k_ff rfl ?_ ?_; (focus ((simp [*]; done); done))))
   all_goals
    refine k_rrU (.inl rfl) rfl (c_unkeyD (x0 := x2) (r := r) (sc := sc) (s := (s.drop (i + 1))) (b := false) (a := none) (n := 0) (c := 0) (d := d + 1) (by omega)) rfl ?_
    rintro v G' L' ⟨rfl, rfl⟩
    dsimp only [zA, fA]
    exact ⟨[_], [brO r sc (s.drop (i + 1)) false none 0 0 (d + 1 - 1)], ⟨rc_A rfl rfl rfl rfl, trivial⟩, by repeat (first | exact List.nil_sublist _ | apply List.Sublist.cons_cons | apply List.Sublist.cons), Gh.le.refl _, ukP_in (c := ⟨116, s.take i, 0, none, 0, 0⟩) (rep_leaf (by decide) (by decide)) (by omega) ⟨by omega, fun _ => ⟨rfl, hrd⟩, fun h => (by cases h)⟩⟩
  | false =>
   rw [hti] at hrd
   rw [if_neg (by simp)] at hrd
   refine d_enter [(0, _), (1, _)] Tryz.func24 (by kernel_rfl) Tryz.ntmps24 rfl rfl (by repeat' constructor) fun B hok hB hW => ?_
   repeat' (first | refine jM ?_ | (refine k_op rfl ?_; first | refine c_bx rfl rfl rfl fun _ => ?_ | refine c_al rfl rfl fun _ => ?_ | refine jV (g_ld rfl rfl rfl) ?_ | refine c_st1 rfl rfl rfl rfl ?_ | refine jV (g_mkf rfl rfl) ?_))
   rename_i x2 x3 x4
   refine k_op rfl ?_
   refine c_defer (fi := []) (ca := [Pt x2 0]) (az := []) rfl rfl ?_
   repeat' (first | (refine jR ?_) | (refine k_op rfl ?_; first | refine jV (g_ld rfl rfl rfl) ?_ | refine jV (g_ldA rfl rfl rfl rfl) ?_ | (refine c_rt rfl rfl rfl cx_sign rfl ?_)) | (refine k_tt rfl rfl ?_) | (refine k_ff rfl (by first | rfl | (refine decide_eq_false ?_; (omega))) ?_))
   (refine k_any (s_any (id := 30) [.blk x2 (.cells (List.toArray [Pt r 0]) tPbr (0, 0))] (by intro y hy; simp only [List.mem_cons, List.not_mem_nil, or_false] at hy ⊢; simp [hy]) mixed ?_); (refine jG (bts 9 1) 0 rfl (g_ld rfl rfl rfl) ?_); (refine jG (bts 9 3) 1 rfl (g_ld rfl rfl rfl) ?_); refine jU 5 [2, 3] (bts 9 15) ?_ ?_; (focus (repeat' (exact trivial))); refine jA 4 rfl ?_; (refine jV (g_ld rfl rfl rfl) ?_); refine jK (bts 9 31) ?_; refine jA 5 rfl ?_; (refine c_rt rfl rfl rfl cx_ixb rfl ?_); refine jK (bts 9 63) ?_; (refine jG (bts 9 127) 6 rfl (g_max rfl rfl) ?_); refine jA 7 rfl ?_; (refine c_m1g rfl rfl rfl cx_tkb rfl ?_; rintro _ _ ⟨rfl, rfl⟩; dsimp only [zA, fA]); refine jK (bts 9 255) ?_; refine jU 0 [8] (bts 9 511) ?_ ?_; (focus (repeat' (exact trivial))); refine x_done (by kernel_rfl) (k_bk ?_))
   all_goals repeat' (first | (refine jR ?_) | (refine k_op rfl ?_; first | refine jV (g_ld rfl rfl rfl) ?_ | refine c_st1 rfl rfl rfl rfl ?_ | refine c_stA rfl rfl rfl rfl rfl rfl ?_ | refine jV (g_bld rfl rfl) ?_ | (refine jV (g_pickF rfl rfl rfl) ?_) | (refine c_m1g rfl rfl rfl cx_tkb2 rfl ?_; rintro _ _ ⟨rfl, rfl⟩; dsimp only [zA, fA]) | (refine c_rt rfl rfl rfl (c_isText (by omega)) rfl ?_)) | (refine k_gf rfl rfl rfl ?_) | (refine k_tt rfl ?_ ?_; (focus ((simp [*]; done); done))))
   all_goals
    refine k_rrU (.inl rfl) rfl (c_unkeyD (x0 := x2) (r := r) (sc := sc) (s := (s.drop (i + 1))) (b := true) (a := none) (n := 0) (c := 0) (d := d + 1) (by omega)) rfl ?_
    rintro v G' L' ⟨rfl, rfl⟩
    dsimp only [zA, fA]
    exact ⟨[_], [brO r sc (s.drop (i + 1)) true none 0 0 (d + 1 - 1)], ⟨rc_A rfl rfl rfl rfl, trivial⟩, by repeat (first | exact List.nil_sublist _ | apply List.Sublist.cons_cons | apply List.Sublist.cons), Gh.le.refl _, ukP_in (c := ⟨116, s.take i, 0, none, 0, 0⟩) (rep_leaf (by decide) (by decide)) (by omega) ⟨by omega, fun h => (by cases h), fun _ => ⟨.inr hrd, by simp only [V.tot, V.tots]; omega⟩⟩⟩
theorem c_unkO {n r sc : Nat} {qs : List TyP} {k s : List UInt8} {d : Int} (hd : d = 12 - (n : Int)) (hn : n ≤ 12) (hU : UkC n sc qs) (hS : ScI G sc qs) (hk : kindIn (tyq qs) (63 :: k) = true) (hs : s.length ≤ 1000) :
  FnM Tryz.prog 24 [Pt r 0, Ag (kdF (63 :: k))] G [brO r sc s false none 0 0 d] (UkP (rk true (tyq qs) (n + 1) (63 :: k)) r sc s false d) := by
 have hk2 := kindIn_tail (.inr rfl) hk
 obtain ⟨e1, e2, e3, _⟩ := kdF_cons (c := 63) (k := k) (.inr rfl)
 have hrd := rk_opt (st := true) (ts := tyq qs) (n := n) (k := k) (s := s)
 unfold kdF
 rw [e1, e2, e3]
 have cx_sign := @c_sign1 G 63 (sg k) (bs k) (nm k)
 have cx_pt := @c_part G 63 (sg k) (bs k) (nm k)
 cases hf : rbFlag s with
 | none =>
  rw [hf] at hrd
  have cx_fl := c_flagB0 (G := G) (r := r) (sc := sc) (n := 0) (c := 0) (s := s) (b := false) (a := none) (d := d + 1) (.inr hf) (by omega)
  refine d_enter [(0, _), (1, _)] Tryz.func24 (by kernel_rfl) Tryz.ntmps24 rfl rfl (by repeat' constructor) fun B hok hB hW => ?_
  repeat' (first | refine jM ?_ | (refine k_op rfl ?_; first | refine c_bx rfl rfl rfl fun _ => ?_ | refine c_al rfl rfl fun _ => ?_ | refine jV (g_ld rfl rfl rfl) ?_ | refine c_st1 rfl rfl rfl rfl ?_ | refine jV (g_mkf rfl rfl) ?_))
  rename_i x2 x3 x4
  refine k_op rfl ?_
  refine c_defer (fi := []) (ca := [Pt x2 0]) (az := []) rfl rfl ?_
  repeat' (first | (refine jR ?_) | (refine k_op rfl ?_; first | refine jV (g_ld rfl rfl rfl) ?_ | refine jV (g_ldA rfl rfl rfl rfl) ?_ | refine c_stA rfl rfl rfl rfl rfl rfl ?_ | refine jV (g_bld rfl rfl) ?_ | (refine c_rt rfl rfl rfl cx_sign rfl ?_) | (refine c_m1g rfl rfl rfl cx_fl rfl ?_; rintro _ _ ⟨q1, ⟨rfl, hql⟩, rfl⟩; dsimp only [zA, fA])) | (refine k_tt rfl rfl ?_) | (refine k_ff rfl (by first | rfl | (refine decide_eq_false ?_; (omega))) ?_))
  all_goals
   refine k_rrU (.inl rfl) rfl (c_unkeyD (x0 := x2) (r := r) (sc := sc) (s := q1) (b := true) (a := none) (n := 0) (c := 0) (d := d + 1) (by omega)) rfl ?_
   rintro v G' L' ⟨rfl, rfl⟩
   dsimp only [zA, fA]
   exact ⟨[_], [brO r sc q1 true none 0 0 (d + 1 - 1)], ⟨rc_A rfl rfl rfl rfl, trivial⟩, by repeat (first | exact List.nil_sublist _ | apply List.Sublist.cons_cons | apply List.Sublist.cons), Gh.le.refl _, ukP_in (c := ⟨63, [], 0, none, 0, 0⟩) (rep_leaf (by decide) (by decide)) (by omega) ⟨hql, fun h => (by cases h), fun _ => ⟨.inr hrd, by simp only [V.tot, V.tots, List.length_nil]; omega⟩⟩⟩
 | some y =>
  obtain ⟨x, q⟩ := y
  rw [hf] at hrd
  have hin := rbFlag_inv hf
  have hl : s.length = q.length + 1 := by rw [hin]; rfl
  have cx_fl := c_flagB1 (G := G) (r := r) (sc := sc) (n := 0) (c := 0) (s := s) (q := q) (x := x) (a := none) (d := d + 1) hf (by omega)
  cases x with
  | false =>
   refine d_enter [(0, _), (1, _)] Tryz.func24 (by kernel_rfl) Tryz.ntmps24 rfl rfl (by repeat' constructor) fun B hok hB hW => ?_
   repeat' (first | refine jM ?_ | (refine k_op rfl ?_; first | refine c_bx rfl rfl rfl fun _ => ?_ | refine c_al rfl rfl fun _ => ?_ | refine jV (g_ld rfl rfl rfl) ?_ | refine c_st1 rfl rfl rfl rfl ?_ | refine jV (g_mkf rfl rfl) ?_))
   rename_i x2 x3 x4
   refine k_op rfl ?_
   refine c_defer (fi := []) (ca := [Pt x2 0]) (az := []) rfl rfl ?_
   repeat' (first | (refine jR ?_) | (refine k_op rfl ?_; first | refine jV (g_ld rfl rfl rfl) ?_ | refine jV (g_ldA rfl rfl rfl rfl) ?_ | refine c_stA rfl rfl rfl rfl rfl rfl ?_ | refine jV (g_bld rfl rfl) ?_ | (refine c_rt rfl rfl rfl cx_sign rfl ?_) | (refine c_m1g rfl rfl rfl cx_fl rfl ?_; rintro _ _ ⟨rfl, rfl⟩; dsimp only [zA, fA])) | (refine k_tt rfl rfl ?_) | (refine k_ff rfl (by first | rfl | (refine decide_eq_false ?_; (omega))) ?_))
   all_goals
    refine k_rrU (.inl rfl) rfl (c_unkeyD (x0 := x2) (r := r) (sc := sc) (s := q) (b := false) (a := none) (n := 0) (c := 0) (d := d + 1) (by omega)) rfl ?_
    rintro v G' L' ⟨rfl, rfl⟩
    dsimp only [zA, fA]
    exact ⟨[_], [brO r sc q false none 0 0 (d + 1 - 1)], ⟨rc_A rfl rfl rfl rfl, trivial⟩, by repeat (first | exact List.nil_sublist _ | apply List.Sublist.cons_cons | apply List.Sublist.cons), Gh.le.refl _, ukP_in (c := ⟨63, [], 0, none, 0, 0⟩) (rep_leaf (by decide) (by decide)) (by omega) ⟨by omega, fun _ => ⟨rfl, hrd⟩, fun h => (by cases h)⟩⟩
  | true =>
   dsimp only at hrd
   have cx_uk := uk_d (d := d + 1) (by omega) (hU G r k q false hS hk2 (by omega))
   refine d_enter [(0, _), (1, _)] Tryz.func24 (by kernel_rfl) Tryz.ntmps24 rfl rfl (by repeat' constructor) fun B hok hB hW => ?_
   repeat' (first | refine jM ?_ | (refine k_op rfl ?_; first | refine c_bx rfl rfl rfl fun _ => ?_ | refine c_al rfl rfl fun _ => ?_ | refine jV (g_ld rfl rfl rfl) ?_ | refine c_st1 rfl rfl rfl rfl ?_ | refine jV (g_mkf rfl rfl) ?_))
   rename_i x2 x3 x4
   refine k_op rfl ?_
   refine c_defer (fi := []) (ca := [Pt x2 0]) (az := []) rfl rfl ?_
   repeat' (first | (refine jR ?_) | (refine k_op rfl ?_; first | refine jV (g_ld rfl rfl rfl) ?_ | refine jV (g_ldA rfl rfl rfl rfl) ?_ | (refine c_rt rfl rfl rfl cx_sign rfl ?_) | (refine c_m1g rfl rfl rfl cx_fl rfl ?_; rintro _ _ ⟨rfl, rfl⟩; dsimp only [zA, fA])) | (refine k_tt rfl rfl ?_) | (refine k_ff rfl (by first | rfl | (refine decide_eq_false ?_; (omega))) ?_))
   (refine k_any (s_any (id := 18) [.blk x3 (.cells (List.toArray [S (63 :: sg k), S (bs k), S (nm k)]) tKdU (0, 0)), .blk x2 (.cells (List.toArray [Pt r 0]) tPbr (0, 0))] (by intro y hy; simp only [List.mem_cons, List.not_mem_nil, or_false] at hy ⊢; rcases hy with hy | hy <;> simp [hy]) mixed ?_); (refine jG (bts 7 1) 0 rfl (g_ld rfl rfl rfl) ?_); (refine jG (bts 7 3) 1 rfl (g_ldA rfl rfl rfl rfl) ?_); refine jA 2 rfl ?_; (refine c_rt rfl rfl rfl cx_pt rfl ?_); refine jK (bts 7 7) ?_; refine jA 3 rfl ?_; (refine c_m1s rfl rfl rfl cx_uk rfl ?_; rintro _ G1 _ hle ⟨u1, c1, t1, b1, rfl, hrep, rfl, hP⟩; dsimp only [zA, fA]; skip); refine jK (bts 7 15) ?_; refine jA 4 rfl ?_; (refine c_bsl rfl rfl rfl rfl rfl rfl fun _ => ?_); refine jK (bts 7 31) ?_; (refine jG (bts 7 63) 5 rfl (g_bld rfl rfl) ?_); refine jA 6 rfl ?_; (refine c_stA rfl rfl rfl rfl rfl rfl ?_); refine jK (bts 7 127) ?_; refine x_done (by kernel_rfl) (k_bk ?_))
   all_goals repeat' (refine jR ?_)
   rename_i y
   refine Nx.sealC (b := y) fun G2 hG2 hsy => ?_
   have hsl : SlV G2 (.slice (some ⟨y, 0, none⟩) 1 1) 4 ([c1] : List VC).length (rows vcF [c1]) := ⟨rfl, .inr ⟨y, 0, 1, rfl, Nat.le_refl _, hsy⟩⟩
   obtain ⟨hQ1, hQ2, hQ3, hQ4⟩ := rkQ_tot hP
   refine k_rrU (.inl rfl) rfl (c_unkeyD (x0 := x2) (r := r) (sc := sc) (s := t1) (b := b1) (a := none) (n := 0) (c := 0) (d := d + 1) (by omega)) rfl ?_
   rintro v G' L' ⟨rfl, rfl⟩
   dsimp only [zA, fA]
   exact ⟨[_], [brO r sc t1 b1 none 0 0 (d + 1 - 1)], ⟨rc_A rfl rfl rfl rfl, trivial⟩, by repeat (first | exact List.nil_sublist _ | apply List.Sublist.cons_cons | apply List.Sublist.cons), (hle.trans hG2), ukP_in (c := ⟨63, [], 0, some ⟨y, 0, none⟩, 1, 1⟩) (rep_mk (ks := [u1]) (by decide) (by decide) (fun h => absurd h (by decide)) rfl hsl ⟨_, [], rfl, rep_mono hG2 hrep, rfl⟩) (by omega) ⟨by omega, fun h => ⟨rfl, by rw [hrd, (hQ3 h).1]; rfl⟩, fun h => ⟨.inr (by rw [hrd, hQ4 h]; rfl), by simp only [V.tot, V.tots, List.length_nil]; omega⟩⟩⟩
end Go.E
namespace Go.E
set_option maxRecDepth 20000
set_option maxHeartbeats 2000000
open Go.Proofs
variable {G : Gh}
theorem c_unkL {n r sc : Nat} {qs : List TyP} {k s : List UInt8} {d : Int} (hd : d = 12 - (n : Int)) (hn : n ≤ 12) (hU : UkC n sc qs) (hS : ScI G sc qs) (hk : kindIn (tyq qs) (91 :: k) = true) (hs : s.length ≤ 1000) :
  FnM Tryz.prog 24 [Pt r 0, Ag (kdF (91 :: k))] G [brO r sc s false none 0 0 d] (UkP (rk true (tyq qs) (n + 1) (91 :: k)) r sc s false d) := by
 have hk2 := kindIn_tail (.inl rfl) hk
 obtain ⟨e1, e2, e3, _⟩ := kdF_cons (c := 91) (k := k) (.inl rfl)
 have hrd := rk_lst (st := true) (ts := tyq qs) (n := n) (k := k) (s := s)
 unfold kdF
 rw [e1, e2, e3]
 have cx_sign := @c_sign1 G 91 (sg k) (bs k) (nm k)
 have cx_ptA : ∀ G, PuG Tryz.prog 58 [Ag [S (91 :: sg k), S (bs k), S (nm k)]] G (· = Ag [S (sg k), S (bs k), S (nm k)]) := fun G => @c_part G 91 (sg k) (bs k) (nm k)
 refine d_enter [(0, _), (1, _)] Tryz.func24 (by kernel_rfl) Tryz.ntmps24 rfl rfl (by repeat' constructor) fun B hok hB hW => ?_
 repeat' (first | refine jM ?_ | (refine k_op rfl ?_; first | refine c_bx rfl rfl rfl fun _ => ?_ | refine c_al rfl rfl fun _ => ?_ | refine jV (g_ld rfl rfl rfl) ?_ | refine c_st1 rfl rfl rfl rfl ?_ | refine jV (g_mkf rfl rfl) ?_))
 rename_i x2 x3 x4
 refine k_op rfl ?_
 refine c_defer (fi := []) (ca := [Pt x2 0]) (az := []) rfl rfl ?_
 repeat' (first | (refine jR ?_) | (refine k_op rfl ?_; first | refine c_al rfl rfl fun _ => ?_ | refine jV (g_ld rfl rfl rfl) ?_ | refine jV (g_ldA rfl rfl rfl rfl) ?_ | refine c_stA rfl rfl rfl rfl rfl rfl ?_ | refine jV (g_bld rfl rfl) ?_ | (refine c_rt rfl rfl rfl cx_sign rfl ?_)) | (refine k_tt rfl rfl ?_) | (refine k_ff rfl (by first | rfl | (refine decide_eq_false ?_; (omega))) ?_))
 rename_i x5
 refine Nx.addNil tVlU 4 (Nx.perm (List.Perm.cons _ (List.perm_append_comm (l₁ := [_, _, _, _]) (l₂ := [_]))) ?_)
 dsimp only [zA, fA]
 refine k_loop (ι := List V × List VC × Option Addr × Nat × List UInt8 × Bool × Nat × Gh) (fun q => (V.reps q.2.2.2.2.2.2.2 q.1 q.2.1 ∧ Gh.le G q.2.2.2.2.2.2.2) ∧ (q.2.2.2.2.2.1 = false → rkItems true (rk true (tyq qs) n k) (s.length + 1) s [] = rkItems true (rk true (tyq qs) n k) q.2.2.2.2.2.2.1 q.2.2.2.2.1 q.1 ∧ q.1.length ≤ 20 ∧ q.2.2.2.2.1.length < q.2.2.2.2.2.2.1) ∧ (q.2.2.2.2.2.1 = true → rkItems true (rk true (tyq qs) n k) (s.length + 1) s [] = none) ∧ (V.tots q.1 + 100 * q.2.2.2.2.1.length ≤ 100 * s.length ∧ q.2.2.2.2.1.length ≤ s.length)) (fun q => [(2, Pt x2 0), (3, Pt x3 0), (4, Pt x4 0), (5, Pt x5 0)]) (fun q => q.2.2.2.2.2.2.2) (fun q => [.acc (.slice q.2.2.1 q.1.length q.2.2.2.1) tVlU 4 q.1.length (rows vcF q.2.1), brO r sc q.2.2.2.2.1 q.2.2.2.2.2.1 none 0 0 (d + 1), .blk x5 (.cells (List.toArray [U8 91, S [], I 0, .slice q.2.2.1 q.1.length q.2.2.2.1]) tVlU (0, 0)), .blk x4 (.cells (List.toArray [U8 (0 : Nat), S [], I 0, nilS]) tVlU (0, 0)), .blk x3 (.cells (List.toArray [S (91 :: sg k), S (bs k), S (nm k)]) tKdU (0, 0)), .blk x2 (.cells (List.toArray [Pt r 0]) tPbr (0, 0))]) (fun q => q.2.2.2.2.1.length) ([], [], none, 0, s, false, s.length + 1, G) ?_ (by repeat' constructor) rfl sRr (fun q Hq => ?_)
 ·exact ⟨⟨rfl, Gh.le.refl _⟩, fun _ => ⟨rfl, by simp, by dsimp only; omega⟩, fun h => (by cases h), by dsimp only; simp only [V.tots]; omega, Nat.le_refl _⟩
 obtain ⟨vs, cs, a, cap, t, b, m, Gq⟩ := q
 dsimp only at Hq ⊢
 obtain ⟨⟨hreps, hgq⟩, hI0, hI1, hT, htl'⟩ := Hq
 have hcl := reps_len hreps
 have hkl := tots_len vs
 cases b with
 | true =>
  have hno := hI1 rfl
  have cx_fl := c_flagB0 (G := Gq) (r := r) (sc := sc) (n := 0) (c := 0) (s := t) (b := true) (a := none) (d := d + 1) (.inl rfl) (by omega)
  repeat' (first | (refine jR ?_) | (refine k_op rfl ?_; first | refine jV (g_ld rfl rfl rfl) ?_ | refine jV (g_ldA rfl rfl rfl rfl) ?_ | refine c_stA rfl rfl rfl rfl rfl rfl ?_ | (refine jV (g_pickF rfl rfl rfl) ?_) | (refine c_m1g rfl rfl rfl cx_fl rfl ?_; rintro _ _ ⟨q1, ⟨rfl, hql⟩, rfl⟩; dsimp only [zA, fA])) | (refine k_gf rfl rfl rfl ?_) | (refine k_ff rfl rfl ?_))
  all_goals
   refine Nx.sealS (v := .slice a vs.length cap) fun G2 hG2 hsl => ?_
   refine k_rrU (.inl rfl) rfl (c_unkeyD (x0 := x2) (r := r) (sc := sc) (s := q1) (b := true) (a := none) (n := 0) (c := 0) (d := d + 1) (by omega)) rfl ?_
   rintro v G' L' ⟨rfl, rfl⟩
   dsimp only [zA, fA]
   exact ⟨[_], [brO r sc q1 true none 0 0 (d + 1 - 1)], ⟨rc_A rfl rfl rfl rfl, trivial⟩, by repeat (first | exact List.nil_sublist _ | apply List.Sublist.cons_cons | apply List.Sublist.cons), (hgq.trans hG2), ukP_in (c := ⟨91, [], 0, a, vs.length, cap⟩) (rep_mk (by decide) (by decide) (fun h => absurd h (by decide)) rfl (by rw [hcl]; exact hsl) (reps_mono hG2 hreps)) (by omega) ⟨by omega, fun h => (by cases h), fun _ => ⟨.inr (by rw [hrd, hno]; rfl), by rw [nd_tot]; simp only [List.length_nil]; omega⟩⟩⟩
 | false =>
  obtain ⟨hit, h20, htm⟩ := hI0 rfl
  clear hI0 hI1
  obtain ⟨m, rfl⟩ : ∃ j, m = j + 1 := ⟨m - 1, by omega⟩
  conv at hit => rhs; rw [rkItems]
  cases hf : rbFlag t with
  | none =>
   rw [hf] at hit
   dsimp only at hit
   have cx_fl := c_flagB0 (G := Gq) (r := r) (sc := sc) (n := 0) (c := 0) (s := t) (b := false) (a := none) (d := d + 1) (.inr hf) (by omega)
   repeat' (first | (refine jR ?_) | (refine k_op rfl ?_; first | refine jV (g_ld rfl rfl rfl) ?_ | refine jV (g_ldA rfl rfl rfl rfl) ?_ | refine c_stA rfl rfl rfl rfl rfl rfl ?_ | (refine jV (g_pickF rfl rfl rfl) ?_) | (refine c_m1g rfl rfl rfl cx_fl rfl ?_; rintro _ _ ⟨q1, ⟨rfl, hql⟩, rfl⟩; dsimp only [zA, fA])) | (refine k_gf rfl rfl rfl ?_) | (refine k_ff rfl rfl ?_))
   all_goals
    refine Nx.sealS (v := .slice a vs.length cap) fun G2 hG2 hsl => ?_
    refine k_rrU (.inl rfl) rfl (c_unkeyD (x0 := x2) (r := r) (sc := sc) (s := q1) (b := true) (a := none) (n := 0) (c := 0) (d := d + 1) (by omega)) rfl ?_
    rintro v G' L' ⟨rfl, rfl⟩
    dsimp only [zA, fA]
    exact ⟨[_], [brO r sc q1 true none 0 0 (d + 1 - 1)], ⟨rc_A rfl rfl rfl rfl, trivial⟩, by repeat (first | exact List.nil_sublist _ | apply List.Sublist.cons_cons | apply List.Sublist.cons), (hgq.trans hG2), ukP_in (c := ⟨91, [], 0, a, vs.length, cap⟩) (rep_mk (by decide) (by decide) (fun h => absurd h (by decide)) rfl (by rw [hcl]; exact hsl) (reps_mono hG2 hreps)) (by omega) ⟨by omega, fun h => (by cases h), fun _ => ⟨.inr (by rw [hrd, hit]; rfl), by rw [nd_tot]; simp only [List.length_nil]; omega⟩⟩⟩
  | some y =>
   obtain ⟨x, q⟩ := y
   rw [hf] at hit
   have hin := rbFlag_inv hf
   have hl : t.length = q.length + 1 := by rw [hin]; rfl
   have cx_fl := c_flagB1 (G := Gq) (r := r) (sc := sc) (n := 0) (c := 0) (s := t) (q := q) (x := x) (a := none) (d := d + 1) hf (by omega)
   clear hin
   cases x with
   | false =>
    dsimp only at hit
    repeat' (first | (refine jR ?_) | (refine k_op rfl ?_; first | refine jV (g_ld rfl rfl rfl) ?_ | refine jV (g_ldA rfl rfl rfl rfl) ?_ | refine c_stA rfl rfl rfl rfl rfl rfl ?_ | (refine jV (g_pickF rfl rfl rfl) ?_) | (refine c_m1g rfl rfl rfl cx_fl rfl ?_; rintro _ _ ⟨rfl, rfl⟩; dsimp only [zA, fA])) | (refine k_gf rfl rfl rfl ?_) | (refine k_ff rfl rfl ?_))
    all_goals
     refine Nx.sealS (v := .slice a vs.length cap) fun G2 hG2 hsl => ?_
     refine k_rrU (.inl rfl) rfl (c_unkeyD (x0 := x2) (r := r) (sc := sc) (s := q) (b := false) (a := none) (n := 0) (c := 0) (d := d + 1) (by omega)) rfl ?_
     rintro v G' L' ⟨rfl, rfl⟩
     dsimp only [zA, fA]
     exact ⟨[_], [brO r sc q false none 0 0 (d + 1 - 1)], ⟨rc_A rfl rfl rfl rfl, trivial⟩, by repeat (first | exact List.nil_sublist _ | apply List.Sublist.cons_cons | apply List.Sublist.cons), (hgq.trans hG2), ukP_in (c := ⟨91, [], 0, a, vs.length, cap⟩) (rep_mk (by decide) (by decide) (fun h => absurd h (by decide)) rfl (by rw [hcl]; exact hsl) (reps_mono hG2 hreps)) (by omega) ⟨by omega, fun _ => ⟨rfl, by rw [hrd, hit]; rfl⟩, fun h => (by cases h)⟩⟩
   | true =>
    dsimp only at hit
    have cx_uk := uk_d (d := d + 1) (by omega) (hU Gq r k q false (hS.mono hgq) hk2 (by omega))
    have cx_pt := cx_ptA Gq
    repeat' (first | (refine jR ?_) | (refine k_op rfl ?_; first | refine jV (g_ld rfl rfl rfl) ?_ | (refine jV (g_pickT rfl rfl rfl) ?_) | (refine c_m1g rfl rfl rfl cx_fl rfl ?_; rintro _ _ ⟨rfl, rfl⟩; dsimp only [zA, fA])) | (refine k_gt rfl rfl rfl ?_) | (refine k_tt rfl rfl ?_))
    (refine k_any (s_any (id := 11) [.blk x3 (.cells (List.toArray [S (91 :: sg k), S (bs k), S (nm k)]) tKdU (0, 0)), .blk x2 (.cells (List.toArray [Pt r 0]) tPbr (0, 0))] (by intro y hy; simp only [List.mem_cons, List.not_mem_nil, or_false] at hy ⊢; rcases hy with hy | hy <;> simp [hy]) mixed ?_); refine jU 9 [0] (bts 10 1) ?_ ?_; (focus (repeat' (exact trivial))); (refine jG (bts 10 5) 2 rfl (g_ld rfl rfl rfl) ?_); (refine jG (bts 10 13) 3 rfl (g_ldA rfl rfl rfl rfl) ?_); refine x_all [1, 4] (by kernel_rfl) (by decide) ⟨?_, ?_, trivial⟩; (focus (refine x_opg rfl rfl ?_; (refine jV (g_ld rfl rfl rfl) ?_); refine jK (bts 10 15) ?_; refine jA 4 rfl ?_; (refine c_rt rfl rfl rfl cx_pt rfl ?_); refine jK (bts 10 31) ?_; refine jA 5 rfl ?_; (refine c_m1s rfl rfl rfl cx_uk rfl ?_; rintro _ G1 _ hle ⟨u1, c1, t1, b1, rfl, hrep, rfl, hP⟩; dsimp only [zA, fA]; skip); refine jK (bts 10 63) ?_; refine jA 6 rfl ?_; (refine c_bsl rfl rfl rfl rfl rfl rfl fun _ => ?_); refine jK (bts 10 127) ?_; refine jA 7 rfl ?_; ((refine c_apX rfl rfl rfl rfl rfl rfl rfl rfl rfl ?_ fun _ _ => ?_; (focus ((omega); done)))); refine jK (bts 10 255) ?_; refine jU 1 [8] (bts 10 511) ?_ ?_; (focus (repeat' (exact trivial))); refine jA 9 rfl ?_; (refine c_st1 rfl rfl rfl rfl ?_); refine jK (bts 10 1023) ?_; refine x_done (by kernel_rfl) (k_bk ?_))); rotate_left 1; (focus (refine x_opg rfl rfl ?_; (refine c_rt rfl rfl rfl cx_pt rfl ?_); refine jK (bts 10 29) ?_; refine x_all [1, 5] (by kernel_rfl) (by decide) ⟨?_, ?_, trivial⟩; (focus (refine x_opg rfl rfl ?_; (refine jV (g_ld rfl rfl rfl) ?_); refine jK (bts 10 31) ?_; refine jA 5 rfl ?_; (refine c_m1s rfl rfl rfl cx_uk rfl ?_; rintro _ G1 _ hle ⟨u1, c1, t1, b1, rfl, hrep, rfl, hP⟩; dsimp only [zA, fA]; skip); refine jK (bts 10 63) ?_; refine jA 6 rfl ?_; (refine c_bsl rfl rfl rfl rfl rfl rfl fun _ => ?_); refine jK (bts 10 127) ?_; refine jA 7 rfl ?_; ((refine c_apX rfl rfl rfl rfl rfl rfl rfl rfl rfl ?_ fun _ _ => ?_; (focus ((omega); done)))); refine jK (bts 10 255) ?_; refine jU 1 [8] (bts 10 511) ?_ ?_; (focus (repeat' (exact trivial))); refine jA 9 rfl ?_; (refine c_st1 rfl rfl rfl rfl ?_); refine jK (bts 10 1023) ?_; refine x_done (by kernel_rfl) (k_bk ?_))); rotate_left 1; (focus (refine x_opg rfl rfl ?_; (refine c_m1s rfl rfl rfl cx_uk rfl ?_; rintro _ G1 _ hle ⟨u1, c1, t1, b1, rfl, hrep, rfl, hP⟩; dsimp only [zA, fA]; skip); refine jK (bts 10 61) ?_; refine x_all [1, 6] (by kernel_rfl) (by decide) ⟨?_, ?_, trivial⟩; (focus (refine x_opg rfl rfl ?_; (refine jV (g_ld rfl rfl rfl) ?_); refine jK (bts 10 63) ?_; refine jA 6 rfl ?_; (refine c_bsl rfl rfl rfl rfl rfl rfl fun _ => ?_); refine jK (bts 10 127) ?_; refine jA 7 rfl ?_; ((refine c_apX rfl rfl rfl rfl rfl rfl rfl rfl rfl ?_ fun _ _ => ?_; (focus ((omega); done)))); refine jK (bts 10 255) ?_; refine jU 1 [8] (bts 10 511) ?_ ?_; (focus (repeat' (exact trivial))); refine jA 9 rfl ?_; (refine c_st1 rfl rfl rfl rfl ?_); refine jK (bts 10 1023) ?_; refine x_done (by kernel_rfl) (k_bk ?_))); rotate_left 1; (focus (refine x_opg rfl rfl ?_; (refine c_bsl rfl rfl rfl rfl rfl rfl fun _ => ?_); refine jK (bts 10 125) ?_; refine jA 1 rfl ?_; (refine jV (g_ld rfl rfl rfl) ?_); refine jK (bts 10 127) ?_; refine jA 7 rfl ?_; ((refine c_apX rfl rfl rfl rfl rfl rfl rfl rfl rfl ?_ fun _ _ => ?_; (focus ((omega); done)))); refine jK (bts 10 255) ?_; refine jU 1 [8] (bts 10 511) ?_ ?_; (focus (repeat' (exact trivial))); refine jA 9 rfl ?_; (refine c_st1 rfl rfl rfl rfl ?_); refine jK (bts 10 1023) ?_; refine x_done (by kernel_rfl) (k_bk ?_))); rotate_left 1)); rotate_left 2)); rotate_left 3)
    all_goals
     rename_i y1 yc
     have hrow : rows vcF cs ++ [U8 (c1.what : Nat), S c1.text, I c1.tag, c1.sl] = rows vcF (cs ++ [c1]) := (rows_snoc vcF cs c1).symm
     have hr2 : V.reps G1 (vs ++ [u1]) (cs ++ [c1]) := reps_snoc hrep (reps_mono hle hreps)
     have hvl : (vs ++ [u1]).length = vs.length + 1 := by simp
     have htu : V.tots (vs ++ [u1]) = V.tots vs + u1.tot := by simp [tots_app, V.tots]
     have hgl := hgq.trans hle
     obtain ⟨hQ1, hQ2, hQ3, hQ4⟩ := rkQ_tot hP
     rw [hrow]
     have hno1 : b1 = true → rkItems true (rk true (tyq qs) n k) (s.length + 1) s [] = none := fun h => by rw [hit, hQ4 h]
     have hno2 : 20 ≤ vs.length → rkItems true (rk true (tyq qs) n k) (s.length + 1) s [] = none := fun h => by
      rw [hit]
      cases b1 with
      | true => rw [hQ4 rfl]
      | false => rw [(hQ3 rfl).1]; dsimp only; rw [if_pos ⟨rfl, h⟩]
     have hyes1 : vs.length < 20 → b1 = false → rkItems true (rk true (tyq qs) n k) (s.length + 1) s [] = rkItems true (rk true (tyq qs) n k) m t1 (vs ++ [u1]) := fun h h2 => by
      rw [hit, (hQ3 h2).1]; dsimp only; rw [if_neg (fun h3 => absurd h3.2 (by omega))]
     have hto1 : V.tots (vs ++ [u1]) + 100 * t1.length ≤ 100 * s.length := by rw [htu]; omega
     by_cases h20' : vs.length < 20
     ·repeat' (first | (refine jR ?_) | (refine k_op rfl ?_; first | refine jV (g_ld rfl rfl rfl) ?_ | refine jV (g_lenL rfl) ?_) | (refine k_ff rfl (dFf (by omega)) ?_))
      exact k_rd (vs ++ [u1], cs ++ [c1], some ⟨y1, 0, none⟩, yc, t1, b1, m, G1) ⟨⟨hr2, hgl⟩, fun h => ⟨hyes1 h20' h, by dsimp only; omega, by dsimp only; omega⟩, hno1, hto1, by dsimp only; omega⟩ (by dsimp only; omega) (by repeat' constructor) rfl (by rw [hvl]; repeat (first | exact List.Sublist.refl _ | apply List.Sublist.cons_cons | apply List.Sublist.cons))
     ·repeat' (first | (refine jR ?_) | (refine k_op rfl ?_; first | refine jV (g_ld rfl rfl rfl) ?_ | refine c_st1 rfl rfl rfl rfl ?_ | refine jV (g_lenL rfl) ?_) | (refine k_tt rfl (dTt (by omega)) ?_))
      exact k_rd (vs ++ [u1], cs ++ [c1], some ⟨y1, 0, none⟩, yc, t1, true, m, G1) ⟨⟨hr2, hgl⟩, fun h => (by cases h), fun _ => hno2 (by omega), hto1, by dsimp only; omega⟩ (by dsimp only; omega) (by repeat' constructor) rfl (by rw [hvl]; repeat (first | exact List.Sublist.refl _ | apply List.Sublist.cons_cons | apply List.Sublist.cons))
theorem fld_0 {t : Ty} (hw : TyW t) : fldT t.fields 0 = none := by
 cases h : fldT t.fields 0 with
 | none => rfl
 | some d =>
  obtain ⟨j, hj, _, hjt, _⟩ := fldT_some h
  have := (hw.fld _ (nth_mem hj)).tag
  omega
theorem c_ufBad {w r sc p : Nat} {t : Ty} {s : List UInt8} {d : Int} (hT : TyI G p t) (hw : TyW t) (h : s = [] ∨ ∃ e q, s = e :: q ∧ fldT t.fields (e.toNat : Int) = none) (hs : s.length ≤ 1000) :
  FnM Tryz.prog 65 [Pt r 0, Pt p 0, U8 w] G [brO r sc s false none 0 0 d] (fun v _ L' => ∃ s', v = Ag [U8 0, S [], I 0, nilS] ∧ L' = [brO r sc s' true none 0 0 d] ∧ s'.length ≤ s.length) := by
 obtain ⟨fv, ln, h1, h2⟩ := hT
 have hfl := hw.len
 rcases h with rfl | ⟨e, q, rfl, hno⟩
 ·have cx_by := c_byteB0 (G := G) (r := r) (sc := sc) (n := 0) (c := 0) (s := []) (b := false) (a := none) (d := d) (.inr (by simp)) (by omega)
  have cx_fld := c_fieldI0 h1 h2 (by omega) (fld_0 hw)
  refine m_enter [(0, _), (1, _), (2, _)] Tryz.func65 (by kernel_rfl) Tryz.ntmps65 rfl rfl (by repeat' constructor) fun B hB hW => ?_
  repeat' (first | (refine jR ?_) | (refine k_op rfl ?_; first | refine c_al rfl rfl fun _ => ?_ | refine jV (g_peq0 rfl rfl) ?_ | (refine jV (g_pickT rfl rfl rfl) ?_) | refine c_st1 rfl rfl rfl rfl ?_ | refine c_stA rfl rfl rfl rfl rfl rfl ?_ | refine jV (g_bld rfl rfl) ?_ | (refine c_m1g rfl rfl rfl cx_by rfl ?_; rintro _ _ ⟨rfl, rfl⟩; dsimp only [zA, fA]) | (refine c_rt rfl rfl rfl cx_fld rfl ?_)) | (refine k_gt rfl rfl rfl ?_) | (refine k_tt rfl rfl ?_))
  all_goals refine k_rr (vs := [_]) rfl ⟨rc_A rfl rfl rfl rfl, trivial⟩ rfl (by repeat (first | exact List.nil_sublist _ | apply List.Sublist.cons_cons)) ⟨Gh.le.refl _, [], rfl, rfl, Nat.le_refl _⟩
 ·have hl : (e :: q).length = q.length + 1 := rfl
  have cx_by := c_byteB1 (G := G) (r := r) (sc := sc) (n := 0) (c := 0) (q := q) (e := e) (a := none) (d := d) (by omega)
  have cx_fld := c_fieldI0 h1 h2 (by omega) hno
  refine m_enter [(0, _), (1, _), (2, _)] Tryz.func65 (by kernel_rfl) Tryz.ntmps65 rfl rfl (by repeat' constructor) fun B hB hW => ?_
  repeat' (first | (refine jR ?_) | (refine k_op rfl ?_; first | refine c_al rfl rfl fun _ => ?_ | refine jV (g_peq0 rfl rfl) ?_ | (refine jV (g_pickT rfl rfl rfl) ?_) | refine c_st1 rfl rfl rfl rfl ?_ | refine c_stA rfl rfl rfl rfl rfl rfl ?_ | refine jV (g_bld rfl rfl) ?_ | (refine c_m1g rfl rfl rfl cx_by rfl ?_; rintro _ _ ⟨rfl, rfl⟩; dsimp only [zA, fA]) | (refine c_rt rfl rfl rfl cx_fld rfl ?_)) | (refine k_gt rfl rfl rfl ?_) | (refine k_tt rfl rfl ?_))
  all_goals refine k_rr (vs := [_]) rfl ⟨rc_A rfl rfl rfl rfl, trivial⟩ rfl (by repeat (first | exact List.nil_sublist _ | apply List.Sublist.cons_cons)) ⟨Gh.le.refl _, q, rfl, rfl, by omega⟩
theorem c_ufGood {n w r sc p : Nat} {qs : List TyP} {t : Ty} {f : Fld} {e : UInt8} {q : List UInt8} {d : Int} (hd : d = 13 - (n : Int)) (hU : UkC n sc qs) (hS : ScI G sc qs) (hT : TyI G p t) (hw : TyW t) (hkf : ∀ d ∈ t.fields, kindIn (tyq qs) d.kind = true) (h : fldT t.fields (e.toNat : Int) = some f) (hq : q.length ≤ 999) (hw2 : w ≤ 255) :
  FnM Tryz.prog 65 [Pt r 0, Pt p 0, U8 w] G [brO r sc (e :: q) false none 0 0 d] (fun v G' L' => ∃ u c s' b', v = Ag (vcF c) ∧ V.rep G' (.nd w [] f.tag [u]) c ∧ L' = [brO r sc s' b' none 0 0 d] ∧ RkQ (rk true (tyq qs) n f.kind) q false u s' b') := by
 obtain ⟨fv, ln, h1, h2⟩ := hT
 have hfl := hw.len
 obtain ⟨j, hj, hjn, hjt, rfl⟩ := fldT_some h
 obtain ⟨bf, of, cf, rfl, hsf⟩ := h2.expl (by omega)
 have hl : (e :: q).length = q.length + 1 := rfl
 have htag := (hw.fld _ (nth_mem hj)).tag
 have cx_by := c_byteB1 (G := G) (r := r) (sc := sc) (n := 0) (c := 0) (q := q) (e := e) (a := none) (d := d) (by omega)
 have cx_fld := c_fieldI1 h1 hsf (by omega) hj hjn hjt
 have cx_uk := uk_d (d := d) (by omega) (hU G r (nth t.fields j).kind q false hS (hkf _ (nth_mem hj)) (by omega))
 refine m_enter [(0, _), (1, _), (2, _)] Tryz.func65 (by kernel_rfl) Tryz.ntmps65 rfl rfl (by repeat' constructor) fun B hB hW => ?_
 repeat' (first | (refine jR ?_) | (refine k_op rfl ?_; first | refine c_al rfl rfl fun _ => ?_ | refine jV (g_peq0 rfl rfl) ?_ | refine jV (g_ld rfl rfl rfl) ?_ | (refine jV (g_ldRA rfl rfl (by assumption) ?_ rfl rfl) ?_; (focus ((omega); done))) | (refine jV (g_pickF rfl rfl rfl) ?_) | refine c_stA rfl rfl rfl rfl rfl rfl ?_ | refine jV (g_bld rfl rfl) ?_ | refine c_bsl rfl rfl rfl rfl rfl rfl fun _ => ?_ | (refine c_m1g rfl rfl rfl cx_by rfl ?_; rintro _ _ ⟨rfl, rfl⟩; dsimp only [zA, fA]) | (refine c_rt rfl rfl rfl cx_fld rfl ?_) | (refine c_m1s rfl rfl rfl cx_uk rfl ?_; rintro _ G1 _ hle ⟨u1, c1, t1, b1, rfl, hrep, rfl, hP⟩; dsimp only [zA, fA]; skip)) | (refine k_gf rfl rfl rfl ?_) | (refine k_ff rfl rfl ?_))
 rename_i y
 refine Nx.sealC (b := y) fun G2 hG2 hsy => ?_
 have hsl : SlV G2 (.slice (some ⟨y, 0, none⟩) 1 1) 4 ([c1] : List VC).length (rows vcF [c1]) := ⟨rfl, .inr ⟨y, 0, 1, rfl, Nat.le_refl _, hsy⟩⟩
 rw [← hjt]
 refine k_rr (vs := [_]) rfl ⟨rc_A rfl rfl rfl rfl, trivial⟩ rfl (by repeat (first | exact List.nil_sublist _ | apply List.Sublist.cons_cons)) ⟨hle.trans hG2, u1, ⟨w, [], (nth t.fields j).tag, some ⟨y, 0, none⟩, 1, 1⟩, t1, b1, rfl, rep_mk hw2 (by omega) (fun _ => rfl) rfl hsl ⟨c1, [], rfl, rep_mono hG2 hrep, rfl⟩, rfl, hP⟩
theorem c_unkE {n r sc p : Nat} {qs : List TyP} {t : Ty} {x s : List UInt8} {d : Int} (hd : d = 12 - (n : Int)) (hn : n ≤ 12) (hS : ScI G sc qs) (hkv : kvF (kvsOf qs) x = some (Pt p 0)) (hT : TyI G p t) (hw : TyW t) (hso : t.sort = 69) (hs : s.length ≤ 1000) :
  FnM Tryz.prog 24 [Pt r 0, Ag [S [], S [64], S x]] G [brO r sc s false none 0 0 d] (UkP (rkTyped true (tyq qs) (rk true (tyq qs) n) t) r sc s false d) := by
 obtain ⟨u, m, g1, g2, g3⟩ := hS.at'
 obtain ⟨fv, ln, h1, h2⟩ := hT
 have hfl := hw.len
 have hso' : (t.sort : Int) = 69 := by omega
 have cx_sign := @c_sign0 G [64] x
 have hrd : rkTyped true (tyq qs) (rk true (tyq qs) n) t s = match s with
   | [] => none
   | b :: r => match fldT t.fields (b.toNat : Int) with
    | none => none
    | some d => some (.nd 69 [] d.tag [], r) := by
  unfold rkTyped
  rw [if_neg (by omega)]
  cases s with
  | nil => rfl
  | cons b r =>
   dsimp only
   cases fldT t.fields (b.toNat : Int) with
   | none => rfl
   | some d => dsimp only; rw [if_pos hso]
 cases s with
 | nil =>
  dsimp only at hrd
  have cx_by := c_byteB0 (G := G) (r := r) (sc := sc) (n := 0) (c := 0) (s := []) (b := false) (a := none) (d := d + 1) (.inr (by simp)) (by omega)
  have cx_fld := c_fieldI0 h1 h2 (by omega) (fld_0 hw)
  refine d_enter [(0, _), (1, _)] Tryz.func24 (by kernel_rfl) Tryz.ntmps24 rfl rfl (by repeat' constructor) fun B hok hB hW => ?_
  repeat' (first | refine jM ?_ | (refine k_op rfl ?_; first | refine c_bx rfl rfl rfl fun _ => ?_ | refine c_al rfl rfl fun _ => ?_ | refine jV (g_ld rfl rfl rfl) ?_ | refine c_st1 rfl rfl rfl rfl ?_ | refine jV (g_mkf rfl rfl) ?_))
  rename_i x2 x3 x4
  refine k_op rfl ?_
  refine c_defer (fi := []) (ca := [Pt x2 0]) (az := []) rfl rfl ?_
  repeat' (first | (refine jR ?_) | (refine k_op rfl ?_; first | refine c_al rfl rfl fun _ => ?_ | refine jV (g_ld rfl rfl rfl) ?_ | refine jV (g_ldA rfl rfl rfl rfl) ?_ | refine jV (g_ldS rfl rfl (by assumption) rfl rfl) ?_ | refine c_st1 rfl rfl rfl rfl ?_ | refine c_stA rfl rfl rfl rfl rfl rfl ?_ | refine jV (g_bld rfl rfl) ?_ | refine jV (g_peq0 rfl rfl) ?_ | (refine c_rt rfl rfl rfl cx_sign rfl ?_) | (refine c_m1g rfl rfl rfl cx_by rfl ?_; rintro _ _ ⟨rfl, rfl⟩; dsimp only [zA, fA]) | (refine c_rt rfl rfl rfl cx_fld rfl ?_)) | (refine k_tt rfl (by first | rfl | (refine decide_eq_true ?_; (assumption))) ?_) | (refine k_ff rfl (by first | rfl | (refine decide_eq_false ?_; (omega))) ?_) | (refine k_any (s_any (id := 38) _ (fun _ h => h) mixed ?_); refine jT 10 [7] (bts 11 128) ?_; (refine jG (bts 11 129) 0 rfl (g_ld rfl rfl rfl) ?_); refine jT 7 [1, 2] (bts 11 135) ?_; (refine jG (bts 11 143) 3 rfl (g_ld rfl rfl rfl) ?_); refine jT 4 [4, 5] (bts 11 191) ?_; (refine jG (bts 11 255) 6 rfl (g_ldS rfl rfl (by assumption) rfl rfl) ?_); (refine jG (bts 11 511) 8 rfl (g_ld rfl rfl rfl) ?_); ((refine jG (bts 11 1023) 9 rfl (g_lookupX rfl rfl (map_G (by assumption)) (by assumption) rfl) ?_)); refine jT 0 [10] (bts 11 2047) ?_; refine x_done (by kernel_rfl) (k_bk ?_)))
  all_goals
   refine k_rrU (.inl rfl) rfl (c_unkeyD (x0 := x2) (r := r) (sc := sc) (s := []) (b := true) (a := none) (n := 0) (c := 0) (d := d + 1) (by omega)) rfl ?_
   rintro v G' L' ⟨rfl, rfl⟩
   dsimp only [zA, fA]
   exact ⟨[_], [brO r sc [] true none 0 0 (d + 1 - 1)], ⟨rc_A rfl rfl rfl rfl, trivial⟩, by repeat (first | exact List.nil_sublist _ | apply List.Sublist.cons_cons | apply List.Sublist.cons), Gh.le.refl _, ukP_in (c := ⟨69, [], 0, none, 0, 0⟩) (rep_leaf (by decide) (by decide)) (by omega) ⟨Nat.le_refl _, fun h => (by cases h), fun _ => ⟨.inr hrd, by simp only [V.tot, V.tots, List.length_nil]; omega⟩⟩⟩
 | cons e q =>
  have hl : (e :: q).length = q.length + 1 := rfl
  have heb := e.toNat_lt
  have cx_by := c_byteB1 (G := G) (r := r) (sc := sc) (n := 0) (c := 0) (q := q) (e := e) (a := none) (d := d + 1) (by omega)
  dsimp only at hrd
  cases hft : fldT t.fields (e.toNat : Int) with
  | none =>
   rw [hft] at hrd
   have cx_fld := c_fieldI0 h1 h2 (by omega) hft
   refine d_enter [(0, _), (1, _)] Tryz.func24 (by kernel_rfl) Tryz.ntmps24 rfl rfl (by repeat' constructor) fun B hok hB hW => ?_
   repeat' (first | refine jM ?_ | (refine k_op rfl ?_; first | refine c_bx rfl rfl rfl fun _ => ?_ | refine c_al rfl rfl fun _ => ?_ | refine jV (g_ld rfl rfl rfl) ?_ | refine c_st1 rfl rfl rfl rfl ?_ | refine jV (g_mkf rfl rfl) ?_))
   rename_i x2 x3 x4
   refine k_op rfl ?_
   refine c_defer (fi := []) (ca := [Pt x2 0]) (az := []) rfl rfl ?_
   repeat' (first | (refine jR ?_) | (refine k_op rfl ?_; first | refine c_al rfl rfl fun _ => ?_ | refine jV (g_ld rfl rfl rfl) ?_ | refine jV (g_ldA rfl rfl rfl rfl) ?_ | refine jV (g_ldS rfl rfl (by assumption) rfl rfl) ?_ | refine c_st1 rfl rfl rfl rfl ?_ | refine c_stA rfl rfl rfl rfl rfl rfl ?_ | refine jV (g_bld rfl rfl) ?_ | refine jV (g_peq0 rfl rfl) ?_ | (refine c_rt rfl rfl rfl cx_sign rfl ?_) | (refine c_m1g rfl rfl rfl cx_by rfl ?_; rintro _ _ ⟨rfl, rfl⟩; dsimp only [zA, fA]) | (refine c_rt rfl rfl rfl cx_fld rfl ?_)) | (refine k_tt rfl (by first | rfl | (refine decide_eq_true ?_; (assumption))) ?_) | (refine k_ff rfl (by first | rfl | (refine decide_eq_false ?_; (omega))) ?_) | (refine k_any (s_any (id := 38) _ (fun _ h => h) mixed ?_); refine jT 10 [7] (bts 11 128) ?_; (refine jG (bts 11 129) 0 rfl (g_ld rfl rfl rfl) ?_); refine jT 7 [1, 2] (bts 11 135) ?_; (refine jG (bts 11 143) 3 rfl (g_ld rfl rfl rfl) ?_); refine jT 4 [4, 5] (bts 11 191) ?_; (refine jG (bts 11 255) 6 rfl (g_ldS rfl rfl (by assumption) rfl rfl) ?_); (refine jG (bts 11 511) 8 rfl (g_ld rfl rfl rfl) ?_); ((refine jG (bts 11 1023) 9 rfl (g_lookupX rfl rfl (map_G (by assumption)) (by assumption) rfl) ?_)); refine jT 0 [10] (bts 11 2047) ?_; refine x_done (by kernel_rfl) (k_bk ?_)))
   all_goals
    refine k_rrU (.inl rfl) rfl (c_unkeyD (x0 := x2) (r := r) (sc := sc) (s := q) (b := true) (a := none) (n := 0) (c := 0) (d := d + 1) (by omega)) rfl ?_
    rintro v G' L' ⟨rfl, rfl⟩
    dsimp only [zA, fA]
    exact ⟨[_], [brO r sc q true none 0 0 (d + 1 - 1)], ⟨rc_A rfl rfl rfl rfl, trivial⟩, by repeat (first | exact List.nil_sublist _ | apply List.Sublist.cons_cons | apply List.Sublist.cons), Gh.le.refl _, ukP_in (c := ⟨69, [], (e.toNat : Int), none, 0, 0⟩) (rep_leaf (by decide) (by omega)) (by omega) ⟨by omega, fun h => (by cases h), fun _ => ⟨.inr hrd, by simp only [V.tot, V.tots, List.length_nil]; omega⟩⟩⟩
  | some f =>
   rw [hft] at hrd
   obtain ⟨j, hj, hjn, hjt, hjd⟩ := fldT_some hft
   obtain ⟨bf, of, cf, rfl, hsf⟩ := h2.expl (by omega)
   have cx_fld := c_fieldI1 h1 hsf (by omega) hj hjn hjt
   have hft2 : f.tag = (e.toNat : Int) := by rw [← hjd]; exact hjt
   dsimp only at hrd
   rw [hft2] at hrd
   refine d_enter [(0, _), (1, _)] Tryz.func24 (by kernel_rfl) Tryz.ntmps24 rfl rfl (by repeat' constructor) fun B hok hB hW => ?_
   repeat' (first | refine jM ?_ | (refine k_op rfl ?_; first | refine c_bx rfl rfl rfl fun _ => ?_ | refine c_al rfl rfl fun _ => ?_ | refine jV (g_ld rfl rfl rfl) ?_ | refine c_st1 rfl rfl rfl rfl ?_ | refine jV (g_mkf rfl rfl) ?_))
   rename_i x2 x3 x4
   refine k_op rfl ?_
   refine c_defer (fi := []) (ca := [Pt x2 0]) (az := []) rfl rfl ?_
   repeat' (first | (refine jR ?_) | (refine k_op rfl ?_; first | refine c_al rfl rfl fun _ => ?_ | refine jV (g_ld rfl rfl rfl) ?_ | refine jV (g_ldA rfl rfl rfl rfl) ?_ | refine jV (g_ldS rfl rfl (by assumption) rfl rfl) ?_ | refine c_stA rfl rfl rfl rfl rfl rfl ?_ | refine jV (g_bld rfl rfl) ?_ | refine jV (g_peq0 rfl rfl) ?_ | (refine c_rt rfl rfl rfl cx_sign rfl ?_) | (refine c_m1g rfl rfl rfl cx_by rfl ?_; rintro _ _ ⟨rfl, rfl⟩; dsimp only [zA, fA]) | (refine c_rt rfl rfl rfl cx_fld rfl ?_)) | (refine k_tt rfl (dTt ‹_›) ?_) | (refine k_ff rfl (by first | rfl | (refine decide_eq_false ?_; (omega))) ?_) | (refine k_any (s_any (id := 38) _ (fun _ h => h) mixed ?_); refine jT 10 [7] (bts 11 128) ?_; (refine jG (bts 11 129) 0 rfl (g_ld rfl rfl rfl) ?_); refine jT 7 [1, 2] (bts 11 135) ?_; (refine jG (bts 11 143) 3 rfl (g_ld rfl rfl rfl) ?_); refine jT 4 [4, 5] (bts 11 191) ?_; (refine jG (bts 11 255) 6 rfl (g_ldS rfl rfl (by assumption) rfl rfl) ?_); (refine jG (bts 11 511) 8 rfl (g_ld rfl rfl rfl) ?_); ((refine jG (bts 11 1023) 9 rfl (g_lookupX rfl rfl (map_G (by assumption)) (by assumption) rfl) ?_)); refine jT 0 [10] (bts 11 2047) ?_; refine x_done (by kernel_rfl) (k_bk ?_)))
   all_goals
    refine k_rrU (.inl rfl) rfl (c_unkeyD (x0 := x2) (r := r) (sc := sc) (s := q) (b := false) (a := none) (n := 0) (c := 0) (d := d + 1) (by omega)) rfl ?_
    rintro v G' L' ⟨rfl, rfl⟩
    dsimp only [zA, fA]
    exact ⟨[_], [brO r sc q false none 0 0 (d + 1 - 1)], ⟨rc_A rfl rfl rfl rfl, trivial⟩, by repeat (first | exact List.nil_sublist _ | apply List.Sublist.cons_cons | apply List.Sublist.cons), Gh.le.refl _, ukP_in (c := ⟨69, [], (e.toNat : Int), none, 0, 0⟩) (rep_leaf (by decide) (by omega)) (by omega) ⟨by omega, fun _ => ⟨rfl, hrd⟩, fun h => (by cases h)⟩⟩
theorem c_unkU {n r sc p : Nat} {qs : List TyP} {t : Ty} {x s : List UInt8} {d : Int} (hd : d = 12 - (n : Int)) (hn : n ≤ 12) (hU : UkC n sc qs) (hS : ScI G sc qs) (hkv : kvF (kvsOf qs) x = some (Pt p 0)) (hT : TyI G p t) (hw : TyW t) (hkf : ∀ d ∈ t.fields, kindIn (tyq qs) d.kind = true) (hso : t.sort = 85) (hs : s.length ≤ 1000) :
  FnM Tryz.prog 24 [Pt r 0, Ag [S [], S [64], S x]] G [brO r sc s false none 0 0 d] (UkP (rkTyped true (tyq qs) (rk true (tyq qs) n) t) r sc s false d) := by
 obtain ⟨u, m, g1, g2, g3⟩ := hS.at'
 have hT2 := hT
 obtain ⟨fv, ln, h1, h2⟩ := hT
 have hfl := hw.len
 have hso' : (t.sort : Int) = 85 := by omega
 have cx_sign := @c_sign0 G [64] x
 have hrd : rkTyped true (tyq qs) (rk true (tyq qs) n) t s = match s with
   | [] => none
   | b :: r => match fldT t.fields (b.toNat : Int) with
    | none => none
    | some d => (rk true (tyq qs) n d.kind r).map fun x => (.nd 85 [] d.tag [x.1], x.2) := by
  unfold rkTyped
  rw [if_neg (by omega)]
  cases s with
  | nil => rfl
  | cons b r =>
   dsimp only
   cases fldT t.fields (b.toNat : Int) with
   | none => rfl
   | some d => dsimp only; rw [if_neg (by omega)]
 by_cases hb : s = [] ∨ ∃ e q, s = e :: q ∧ fldT t.fields (e.toNat : Int) = none
 ·have hno : rkTyped true (tyq qs) (rk true (tyq qs) n) t s = none := by
   rcases hb with rfl | ⟨e, q, rfl, h⟩
   ·exact hrd
   ·rw [hrd]; dsimp only; rw [h]
  have cx_uf0 := c_ufBad (w := 85) (s := s) (r := r) (sc := sc) (d := d + 1) hT2 hw hb hs
  clear hrd
  refine d_enter [(0, _), (1, _)] Tryz.func24 (by kernel_rfl) Tryz.ntmps24 rfl rfl (by repeat' constructor) fun B hok hB hW => ?_
  repeat' (first | refine jM ?_ | (refine k_op rfl ?_; first | refine c_bx rfl rfl rfl fun _ => ?_ | refine c_al rfl rfl fun _ => ?_ | refine jV (g_ld rfl rfl rfl) ?_ | refine c_st1 rfl rfl rfl rfl ?_ | refine jV (g_mkf rfl rfl) ?_))
  rename_i x2 x3 x4
  refine k_op rfl ?_
  refine c_defer (fi := []) (ca := [Pt x2 0]) (az := []) rfl rfl ?_
  repeat' (first | (refine jR ?_) | (refine k_op rfl ?_; first | refine jV (g_ld rfl rfl rfl) ?_ | refine jV (g_ldA rfl rfl rfl rfl) ?_ | refine jV (g_ldS rfl rfl (by assumption) rfl rfl) ?_ | refine c_stA rfl rfl rfl rfl rfl rfl ?_ | (refine c_rt rfl rfl rfl cx_sign rfl ?_) | (refine c_m1s rfl rfl rfl cx_uf0 rfl ?_; rintro _ G1 _ hle ⟨t1, rfl, rfl, htl⟩; dsimp only [zA, fA]; skip)) | (refine k_tt rfl (dTt ‹_›) ?_) | (refine k_ff rfl (by first | rfl | (refine decide_eq_false ?_; (omega))) ?_) | (refine k_any (s_any (id := 38) _ (fun _ h => h) mixed ?_); refine jT 10 [7] (bts 11 128) ?_; (refine jG (bts 11 129) 0 rfl (g_ld rfl rfl rfl) ?_); refine jT 7 [1, 2] (bts 11 135) ?_; (refine jG (bts 11 143) 3 rfl (g_ld rfl rfl rfl) ?_); refine jT 4 [4, 5] (bts 11 191) ?_; (refine jG (bts 11 255) 6 rfl (g_ldS rfl rfl (by assumption) rfl rfl) ?_); (refine jG (bts 11 511) 8 rfl (g_ld rfl rfl rfl) ?_); ((refine jG (bts 11 1023) 9 rfl (g_lookupX rfl rfl (map_G (by assumption)) (by assumption) rfl) ?_)); refine jT 0 [10] (bts 11 2047) ?_; refine x_done (by kernel_rfl) (k_bk ?_)))
  all_goals
   refine k_rrU (.inl rfl) rfl (c_unkeyD (x0 := x2) (r := r) (sc := sc) (s := t1) (b := true) (a := none) (n := 0) (c := 0) (d := d + 1) (by omega)) rfl ?_
   rintro v G' L' ⟨rfl, rfl⟩
   dsimp only [zA, fA]
   exact ⟨[_], [brO r sc t1 true none 0 0 (d + 1 - 1)], ⟨rc_A rfl rfl rfl rfl, trivial⟩, by repeat (first | exact List.nil_sublist _ | apply List.Sublist.cons_cons | apply List.Sublist.cons), hle, ukP_in (c := ⟨0, [], 0, none, 0, 0⟩) rep_zero (by omega) ⟨by omega, fun h => (by cases h), fun _ => ⟨.inr hno, by simp only [V.tot, V.tots, List.length_nil]; omega⟩⟩⟩
 ·obtain ⟨e, q, f, rfl, hft⟩ : ∃ e q f, s = e :: q ∧ fldT t.fields (e.toNat : Int) = some f := by
   cases s with
   | nil => exact absurd (.inl rfl) hb
   | cons e q =>
    cases hft : fldT t.fields (e.toNat : Int) with
    | none => exact absurd (.inr ⟨e, q, rfl, hft⟩) hb
    | some f => exact ⟨e, q, f, rfl, hft⟩
  have hl : (e :: q).length = q.length + 1 := rfl
  dsimp only at hrd
  rw [hft] at hrd
  dsimp only at hrd
  have cx_uf1 := c_ufGood (w := 85) (q := q) (r := r) (sc := sc) (d := d + 1) (by omega) hU hS hT2 hw hkf hft (by omega) (by decide)
  clear hb
  refine d_enter [(0, _), (1, _)] Tryz.func24 (by kernel_rfl) Tryz.ntmps24 rfl rfl (by repeat' constructor) fun B hok hB hW => ?_
  repeat' (first | refine jM ?_ | (refine k_op rfl ?_; first | refine c_bx rfl rfl rfl fun _ => ?_ | refine c_al rfl rfl fun _ => ?_ | refine jV (g_ld rfl rfl rfl) ?_ | refine c_st1 rfl rfl rfl rfl ?_ | refine jV (g_mkf rfl rfl) ?_))
  rename_i x2 x3 x4
  refine k_op rfl ?_
  refine c_defer (fi := []) (ca := [Pt x2 0]) (az := []) rfl rfl ?_
  repeat' (first | (refine jR ?_) | (refine k_op rfl ?_; first | refine jV (g_ld rfl rfl rfl) ?_ | refine jV (g_ldA rfl rfl rfl rfl) ?_ | refine jV (g_ldS rfl rfl (by assumption) rfl rfl) ?_ | refine c_stA rfl rfl rfl rfl rfl rfl ?_ | (refine c_rt rfl rfl rfl cx_sign rfl ?_) | (refine c_m1s rfl rfl rfl cx_uf1 rfl ?_; rintro _ G1 _ hle ⟨u1, c1, t1, b1, rfl, hrep, rfl, hP⟩; dsimp only [zA, fA]; skip)) | (refine k_tt rfl (dTt ‹_›) ?_) | (refine k_ff rfl (by first | rfl | (refine decide_eq_false ?_; (omega))) ?_) | (refine k_any (s_any (id := 38) _ (fun _ h => h) mixed ?_); refine jT 10 [7] (bts 11 128) ?_; (refine jG (bts 11 129) 0 rfl (g_ld rfl rfl rfl) ?_); refine jT 7 [1, 2] (bts 11 135) ?_; (refine jG (bts 11 143) 3 rfl (g_ld rfl rfl rfl) ?_); refine jT 4 [4, 5] (bts 11 191) ?_; (refine jG (bts 11 255) 6 rfl (g_ldS rfl rfl (by assumption) rfl rfl) ?_); (refine jG (bts 11 511) 8 rfl (g_ld rfl rfl rfl) ?_); ((refine jG (bts 11 1023) 9 rfl (g_lookupX rfl rfl (map_G (by assumption)) (by assumption) rfl) ?_)); refine jT 0 [10] (bts 11 2047) ?_; refine x_done (by kernel_rfl) (k_bk ?_)))
  all_goals
   obtain ⟨hQ1, hQ2, hQ3, hQ4⟩ := rkQ_tot hP
   refine k_rrU (.inl rfl) rfl (c_unkeyD (x0 := x2) (r := r) (sc := sc) (s := t1) (b := b1) (a := none) (n := 0) (c := 0) (d := d + 1) (by omega)) rfl ?_
   rintro v G' L' ⟨rfl, rfl⟩
   dsimp only [zA, fA]
   exact ⟨[_], [brO r sc t1 b1 none 0 0 (d + 1 - 1)], ⟨rc_A rfl rfl rfl rfl, trivial⟩, by repeat (first | exact List.nil_sublist _ | apply List.Sublist.cons_cons | apply List.Sublist.cons), hle, ukP_in (c := c1) hrep (by omega) ⟨by omega, fun h => ⟨rfl, by rw [hrd, (hQ3 h).1]; rfl⟩, fun h => ⟨.inr (by rw [hrd, hQ4 h]; rfl), by simp only [V.tot, V.tots, List.length_nil]; omega⟩⟩⟩
theorem c_unkR {n r sc p : Nat} {qs : List TyP} {t : Ty} {x s : List UInt8} {d : Int} (hd : d = 12 - (n : Int)) (hn : n ≤ 12) (hU : UkC n sc qs) (hS : ScI G sc qs) (hW0 : SchW (tyq qs)) (hkv : kvF (kvsOf qs) x = some (Pt p 0)) (hT : TyI G p t) (hw : TyW t) (hkf : ∀ d ∈ t.fields, kindIn (tyq qs) d.kind = true) (hso : t.sort = 82) (hs : s.length ≤ 1000) :
  FnM Tryz.prog 24 [Pt r 0, Ag [S [], S [64], S x]] G [brO r sc s false none 0 0 d] (UkP (rkTyped true (tyq qs) (rk true (tyq qs) n) t) r sc s false d) := by
 obtain ⟨u, m, g1, g2, g3⟩ := hS.at'
 have hT2 := hT
 obtain ⟨fv, ln, h1, h2⟩ := hT
 have hfl := hw.len
 have hso' : (t.sort : Int) = 82 := by omega
 have cx_sign := @c_sign0 G [64] x
 have hR : rkTyped true (tyq qs) (rk true (tyq qs) n) t s = (rkFlds true (tyq qs) (rk true (tyq qs) n) t (s.length + 1) 0 s []).map fun x => (.nd 82 [] 0 x.1, x.2) := by
  unfold rkTyped; rw [if_pos hso]
 refine d_enter [(0, _), (1, _)] Tryz.func24 (by kernel_rfl) Tryz.ntmps24 rfl rfl (by repeat' constructor) fun B hok hB hW => ?_
 repeat' (first | refine jM ?_ | (refine k_op rfl ?_; first | refine c_bx rfl rfl rfl fun _ => ?_ | refine c_al rfl rfl fun _ => ?_ | refine jV (g_ld rfl rfl rfl) ?_ | refine c_st1 rfl rfl rfl rfl ?_ | refine jV (g_mkf rfl rfl) ?_))
 rename_i x2 x3 x4
 refine k_op rfl ?_
 refine c_defer (fi := []) (ca := [Pt x2 0]) (az := []) rfl rfl ?_
 repeat' (first | (refine jR ?_) | (refine k_op rfl ?_; first | refine c_al rfl rfl fun _ => ?_ | refine jV (g_ld rfl rfl rfl) ?_ | refine jV (g_ldA rfl rfl rfl rfl) ?_ | refine jV (g_ldS rfl rfl (by assumption) rfl rfl) ?_ | refine c_stA rfl rfl rfl rfl rfl rfl ?_ | refine jV (g_bld rfl rfl) ?_ | (refine c_rt rfl rfl rfl cx_sign rfl ?_)) | (refine k_ff rfl (by first | rfl | (refine decide_eq_false ?_; (omega))) ?_) | (refine k_any (s_any (id := 38) _ (fun _ h => h) mixed ?_); refine jT 10 [7] (bts 11 128) ?_; (refine jG (bts 11 129) 0 rfl (g_ld rfl rfl rfl) ?_); refine jT 7 [1, 2] (bts 11 135) ?_; (refine jG (bts 11 143) 3 rfl (g_ld rfl rfl rfl) ?_); refine jT 4 [4, 5] (bts 11 191) ?_; (refine jG (bts 11 255) 6 rfl (g_ldS rfl rfl (by assumption) rfl rfl) ?_); (refine jG (bts 11 511) 8 rfl (g_ld rfl rfl rfl) ?_); ((refine jG (bts 11 1023) 9 rfl (g_lookupX rfl rfl (map_G (by assumption)) (by assumption) rfl) ?_)); refine jT 0 [10] (bts 11 2047) ?_; refine x_done (by kernel_rfl) (k_bk ?_)))
 rename_i x5
 refine Nx.addNil tVlU 4 (Nx.perm (List.Perm.cons _ (List.perm_append_comm (l₁ := [_, _, _, _]) (l₂ := [_]))) ?_)
 dsimp only [zA, fA]
 refine k_loop (ι := List V × List VC × Option Addr × Nat × List UInt8 × Nat × Int × Gh) (fun q => (V.reps q.2.2.2.2.2.2.2 q.1 q.2.1 ∧ Gh.le G q.2.2.2.2.2.2.2) ∧ (rkFlds true (tyq qs) (rk true (tyq qs) n) t (s.length + 1) 0 s [] = rkFlds true (tyq qs) (rk true (tyq qs) n) t q.2.2.2.2.2.1 q.2.2.2.2.2.2.1 q.2.2.2.2.1 q.1 ∧ q.2.2.2.2.1.length < q.2.2.2.2.2.1) ∧ (V.tots q.1 + 100 * q.2.2.2.2.1.length ≤ 100 * s.length ∧ q.2.2.2.2.1.length ≤ s.length)) (fun q => [(2, Pt x2 0), (3, Pt x3 0), (4, Pt x4 0), (9, Pt p 0), (11, Pt x5 0), (12, I q.2.2.2.2.2.2.1)]) (fun q => q.2.2.2.2.2.2.2) (fun q => [.acc (.slice q.2.2.1 q.1.length q.2.2.2.1) tVlU 4 q.1.length (rows vcF q.2.1), brO r sc q.2.2.2.2.1 false none 0 0 (d + 1), .blk x5 (.cells (List.toArray [U8 82, S [], I 0, .slice q.2.2.1 q.1.length q.2.2.2.1]) tVlU (0, 0)), .blk x4 (.cells (List.toArray [U8 (0 : Nat), S [], I 0, nilS]) tVlU (0, 0)), .blk x3 (.cells (List.toArray [S [], S [64], S x]) tKdU (0, 0)), .blk x2 (.cells (List.toArray [Pt r 0]) tPbr (0, 0))]) (fun q => q.2.2.2.2.1.length) ([], [], none, 0, s, s.length + 1, 0, G) ?_ (by repeat' constructor) rfl sRr (fun q Hq => ?_)
 ·exact ⟨⟨rfl, Gh.le.refl _⟩, ⟨rfl, by dsimp only; omega⟩, by dsimp only; simp only [V.tots]; omega, Nat.le_refl _⟩
 obtain ⟨vs, cs, a, cap, t', m', last, Gq⟩ := q
 dsimp only at Hq ⊢
 obtain ⟨⟨hreps, hgq⟩, ⟨hit, htm⟩, hTo, htl'⟩ := Hq
 have hcl := reps_len hreps
 have hkl := tots_len vs
 obtain ⟨m', rfl⟩ : ∃ j, m' = j + 1 := ⟨m' - 1, by omega⟩
 conv at hit => rhs; rw [rkFlds]
 cases hf : rbFlag t' with
 | none =>
  rw [hf] at hit
  dsimp only at hit
  have cx_fl := c_flagB0 (G := Gq) (r := r) (sc := sc) (n := 0) (c := 0) (s := t') (b := false) (a := none) (d := d + 1) (.inr hf) (by omega)
  repeat' (first | (refine jR ?_) | (refine k_op rfl ?_; first | refine jV (g_ld rfl rfl rfl) ?_ | refine jV (g_ldA rfl rfl rfl rfl) ?_ | refine c_stA rfl rfl rfl rfl rfl rfl ?_ | (refine jV (g_pickF rfl rfl rfl) ?_) | (refine c_m1g rfl rfl rfl cx_fl rfl ?_; rintro _ _ ⟨q1, ⟨rfl, hql⟩, rfl⟩; dsimp only [zA, fA])) | (refine k_gf rfl rfl rfl ?_) | (refine k_ff rfl rfl ?_))
  all_goals
   refine Nx.sealS (v := .slice a vs.length cap) fun G2 hG2 hsl => ?_
   refine k_rrU (.inl rfl) rfl (c_unkeyD (x0 := x2) (r := r) (sc := sc) (s := q1) (b := true) (a := none) (n := 0) (c := 0) (d := d + 1) (by omega)) rfl ?_
   rintro v G' L' ⟨rfl, rfl⟩
   dsimp only [zA, fA]
   exact ⟨[_], [brO r sc q1 true none 0 0 (d + 1 - 1)], ⟨rc_A rfl rfl rfl rfl, trivial⟩, by repeat (first | exact List.nil_sublist _ | apply List.Sublist.cons_cons | apply List.Sublist.cons), (hgq.trans hG2), ukP_in (c := ⟨82, [], 0, a, vs.length, cap⟩) (rep_mk (by decide) (by decide) (fun h => absurd h (by decide)) rfl (by rw [hcl]; exact hsl) (reps_mono hG2 hreps)) (by omega) ⟨by omega, fun h => (by cases h), fun _ => ⟨.inr (by rw [hR, hit]; rfl), by rw [nd_tot]; simp only [List.length_nil]; omega⟩⟩⟩
 | some y =>
  obtain ⟨fx, q⟩ := y
  rw [hf] at hit
  have hin := rbFlag_inv hf
  have hl : t'.length = q.length + 1 := by rw [hin]; rfl
  have cx_fl := c_flagB1 (G := Gq) (r := r) (sc := sc) (n := 0) (c := 0) (s := t') (q := q) (x := fx) (a := none) (d := d + 1) hf (by omega)
  clear hin
  cases fx with
  | false =>
   dsimp only at hit
   repeat' (first | (refine jR ?_) | (refine k_op rfl ?_; first | refine jV (g_ld rfl rfl rfl) ?_ | refine jV (g_ldA rfl rfl rfl rfl) ?_ | refine c_stA rfl rfl rfl rfl rfl rfl ?_ | (refine jV (g_pickF rfl rfl rfl) ?_) | (refine c_m1g rfl rfl rfl cx_fl rfl ?_; rintro _ _ ⟨rfl, rfl⟩; dsimp only [zA, fA])) | (refine k_gf rfl rfl rfl ?_) | (refine k_ff rfl rfl ?_))
   all_goals
    refine Nx.sealS (v := .slice a vs.length cap) fun G2 hG2 hsl => ?_
    refine k_rrU (.inl rfl) rfl (c_unkeyD (x0 := x2) (r := r) (sc := sc) (s := q) (b := false) (a := none) (n := 0) (c := 0) (d := d + 1) (by omega)) rfl ?_
    rintro v G' L' ⟨rfl, rfl⟩
    dsimp only [zA, fA]
    exact ⟨[_], [brO r sc q false none 0 0 (d + 1 - 1)], ⟨rc_A rfl rfl rfl rfl, trivial⟩, by repeat (first | exact List.nil_sublist _ | apply List.Sublist.cons_cons | apply List.Sublist.cons), (hgq.trans hG2), ukP_in (c := ⟨82, [], 0, a, vs.length, cap⟩) (rep_mk (by decide) (by decide) (fun h => absurd h (by decide)) rfl (by rw [hcl]; exact hsl) (reps_mono hG2 hreps)) (by omega) ⟨by omega, fun _ => ⟨rfl, by rw [hR, hit]; rfl⟩, fun h => (by cases h)⟩⟩
  | true =>
   by_cases hb : q = [] ∨ ∃ e q2, q = e :: q2 ∧ fldT t.fields (e.toNat : Int) = none
   ·have hno : rkFlds true (tyq qs) (rk true (tyq qs) n) t (s.length + 1) 0 s [] = none := by
     rcases hb with rfl | ⟨e, q2, rfl, h⟩
     ·exact hit
     ·rw [hit]; dsimp only; rw [h]
    have cx_uf0 := c_ufBad (w := 61) (s := q) (r := r) (sc := sc) (d := d + 1) (hT2.mono hgq) hw hb (by omega)
    clear hit
    repeat' (first | (refine jR ?_) | (refine k_op rfl ?_; first | refine c_al rfl rfl fun _ => ?_ | refine jV (g_ld rfl rfl rfl) ?_ | refine jV (g_ldA rfl rfl rfl rfl) ?_ | refine c_st1 rfl rfl rfl rfl ?_ | refine c_stA rfl rfl rfl rfl rfl rfl ?_ | (refine jV (g_pickT rfl rfl rfl) ?_) | (refine c_m1g rfl rfl rfl cx_fl rfl ?_; rintro _ _ ⟨rfl, rfl⟩; dsimp only [zA, fA]) | (refine c_m1s rfl rfl rfl cx_uf0 rfl ?_; rintro _ G1 _ hle ⟨t1, rfl, rfl, htl⟩; dsimp only [zA, fA]; skip)) | (refine k_gt rfl rfl rfl ?_) | (refine k_tt rfl rfl ?_) | (refine k_any (s_any (id := 51) _ (fun _ h => h) mixed ?_); (refine jG (bts 27 1) 0 rfl (g_ld rfl rfl rfl) ?_); refine jT 24 [1, 2] (bts 27 7) ?_; (refine jG (bts 27 15) 3 rfl (g_ld rfl rfl rfl) ?_); refine jT 22 [4] (bts 27 31) ?_; (try (refine Nx.re (d := 190) (v' := Bo true) rfl (congrArg Value.bool rfl) ?_)); refine jT 20 [5, 7] (bts 27 191) ?_; (refine jN (bts 27 255) 6 rfl ?_); refine jT 18 [8] (bts 27 511) ?_; (refine jG (bts 27 1023) 9 rfl (g_pickT rfl rfl rfl) ?_); refine jT 16 [10] (bts 27 2047) ?_; (try (refine Nx.re (d := 196) (v' := Bo true) rfl (congrArg Value.bool rfl) ?_)); refine jT 13 [11, 20, 21] (bts 27 3149823) ?_; (refine jN (bts 27 3153919) 12 rfl ?_); (refine jN (bts 27 3162111) 13 rfl ?_); (refine jN (bts 27 3178495) 14 rfl ?_); (refine jN (bts 27 3244031) 16 rfl ?_); refine jT 7 [17, 18] (bts 27 3637247) ?_; (refine jN (bts 27 4161535) 19 rfl ?_); (refine jN (bts 27 8355839) 22 rfl ?_); (refine jN (bts 27 8388607) 15 rfl ?_); (refine jN (bts 27 16777215) 23 rfl ?_); (refine jN (bts 27 33554431) 24 rfl ?_); refine jT 1 [25] (bts 27 67108863) ?_; (refine jG (bts 27 134217727) 26 rfl (g_pickT rfl rfl rfl) ?_); refine x_done (by kernel_rfl) (k_bk ?_)))
    all_goals
     refine Nx.sealS (v := .slice a vs.length cap) fun G2 hG2 hsl => ?_
     refine k_rrU (.inl rfl) rfl (c_unkeyD (x0 := x2) (r := r) (sc := sc) (s := t1) (b := true) (a := none) (n := 0) (c := 0) (d := d + 1) (by omega)) rfl ?_
     rintro v G' L' ⟨rfl, rfl⟩
     dsimp only [zA, fA]
     exact ⟨[_], [brO r sc t1 true none 0 0 (d + 1 - 1)], ⟨rc_A rfl rfl rfl rfl, trivial⟩, by repeat (first | exact List.nil_sublist _ | apply List.Sublist.cons_cons | apply List.Sublist.cons), ((hgq.trans hle).trans hG2), ukP_in (c := ⟨82, [], 0, a, vs.length, cap⟩) (rep_mk (by decide) (by decide) (fun h => absurd h (by decide)) rfl (by rw [hcl]; exact hsl) (reps_mono (hle.trans hG2) hreps)) (by omega) ⟨by omega, fun h => (by cases h), fun _ => ⟨.inr (by rw [hR, hno]; rfl), by rw [nd_tot]; simp only [List.length_nil]; omega⟩⟩⟩
   ·obtain ⟨e, q2, f, rfl, hft⟩ : ∃ e q2 f, q = e :: q2 ∧ fldT t.fields (e.toNat : Int) = some f := by
     cases q with
     | nil => exact absurd (.inl rfl) hb
     | cons e q2 =>
      cases hft : fldT t.fields (e.toNat : Int) with
      | none => exact absurd (.inr ⟨e, q2, rfl, hft⟩) hb
      | some f => exact ⟨e, q2, f, rfl, hft⟩
    clear hb
    have hl2 : (e :: q2).length = q2.length + 1 := rfl
    dsimp only at hit
    rw [hft] at hit
    dsimp only at hit
    have cx_uf1 := c_ufGood (G := Gq) (q := q2) (w := 61) (r := r) (sc := sc) (d := d + 1) (by omega) hU (hS.mono hgq) (hT2.mono hgq) hw hkf hft (by omega) (by decide)
    obtain ⟨j, hj, hjn, hjt, rfl⟩ := fldT_some hft
    obtain ⟨bf, of, cf, rfl, hsf⟩ := h2.expl (by omega)
    repeat' (first | (refine jR ?_) | (refine k_op rfl ?_; first | refine c_al rfl rfl fun _ => ?_ | refine jV (g_ld rfl rfl rfl) ?_ | refine c_stA rfl rfl rfl rfl rfl rfl ?_ | (refine jV (g_pickT rfl rfl rfl) ?_) | (refine c_m1g rfl rfl rfl cx_fl rfl ?_; rintro _ _ ⟨rfl, rfl⟩; dsimp only [zA, fA]) | (refine c_m1s rfl rfl rfl cx_uf1 rfl ?_; rintro _ G1 _ hle ⟨u1, c1, t1, b1, rfl, hrep, rfl, hP⟩; dsimp only [zA, fA]; skip)) | (refine k_gt rfl rfl rfl ?_) | (refine k_tt rfl rfl ?_))
    rename_i x13
    have hgl := hgq.trans hle
    obtain ⟨kb, ko, kc, dd, rfl, htg, hsd, hrd, hru⟩ := rep_uni hrep
    dsimp only [vcF, VC.sl]
    obtain ⟨hQ1, hQ2, hQ3, hQ4⟩ := rkQ_tot hP
    have hsf1 := hsf.mono hgl
    have hS1 := hS.mono hgl
    have cx_pr := c_print (G := G1) u1.tot (Nat.le_refl _) (by omega) hrd
    have hotl := out_tot hrd
    have cx_fld := c_fieldI1 (h1.mono hgl) hsf1 (by omega) hj (tag := (nth t.fields j).tag) (fun k hk => by rw [hjt]; exact hjn k hk) rfl
    have cx_of := c_ofI hS1 hW0 hsf1 hj (hkf _ (nth_mem hj))
    obtain ⟨u', m2, g1', g2', g3'⟩ := hS1.at'
    cases b1 with
    | true =>
     have hno : rkFlds true (tyq qs) (rk true (tyq qs) n) t (s.length + 1) 0 s [] = none := by rw [hit, hQ4 rfl]
     repeat' (first | (refine jR ?_) | (refine k_op rfl ?_; first | refine jV (g_ld rfl rfl rfl) ?_ | refine jV (g_ldA rfl rfl rfl rfl) ?_ | refine c_st1 rfl rfl rfl rfl ?_ | refine c_stA rfl rfl rfl rfl rfl rfl ?_) | (refine k_tt rfl rfl ?_) | (refine k_any (s_any (id := 51) _ (fun _ h => h) mixed ?_); (refine jG (bts 27 1) 0 rfl (g_ld rfl rfl rfl) ?_); refine jT 24 [1, 2] (bts 27 7) ?_; (refine jG (bts 27 15) 3 rfl (g_ld rfl rfl rfl) ?_); refine jT 22 [4] (bts 27 31) ?_; (try (refine Nx.re (d := 190) (v' := Bo true) rfl (congrArg Value.bool rfl) ?_)); refine jT 20 [5, 7] (bts 27 191) ?_; (refine jN (bts 27 255) 6 rfl ?_); refine jT 18 [8] (bts 27 511) ?_; (refine jG (bts 27 1023) 9 rfl (g_pickT rfl rfl rfl) ?_); refine jT 16 [10] (bts 27 2047) ?_; (try (refine Nx.re (d := 196) (v' := Bo true) rfl (congrArg Value.bool rfl) ?_)); refine jT 13 [11, 20, 21] (bts 27 3149823) ?_; (refine jN (bts 27 3153919) 12 rfl ?_); (refine jN (bts 27 3162111) 13 rfl ?_); (refine jN (bts 27 3178495) 14 rfl ?_); (refine jN (bts 27 3244031) 16 rfl ?_); refine jT 7 [17, 18] (bts 27 3637247) ?_; (refine jN (bts 27 4161535) 19 rfl ?_); (refine jN (bts 27 8355839) 22 rfl ?_); (refine jN (bts 27 8388607) 15 rfl ?_); (refine jN (bts 27 16777215) 23 rfl ?_); (refine jN (bts 27 33554431) 24 rfl ?_); refine jT 1 [25] (bts 27 67108863) ?_; (refine jG (bts 27 134217727) 26 rfl (g_pickT rfl rfl rfl) ?_); refine x_done (by kernel_rfl) (k_bk ?_)))
     all_goals
      refine Nx.sealS (v := .slice a vs.length cap) fun G2 hG2 hsl => ?_
      refine k_rrU (.inl rfl) rfl (c_unkeyD (x0 := x2) (r := r) (sc := sc) (s := t1) (b := true) (a := none) (n := 0) (c := 0) (d := d + 1) (by omega)) rfl ?_
      rintro v G' L' ⟨rfl, rfl⟩
      dsimp only [zA, fA]
      exact ⟨[_], [brO r sc t1 true none 0 0 (d + 1 - 1)], ⟨rc_A rfl rfl rfl rfl, trivial⟩, by repeat (first | exact List.nil_sublist _ | apply List.Sublist.cons_cons | apply List.Sublist.cons), (hgl.trans hG2), ukP_in (c := ⟨82, [], 0, a, vs.length, cap⟩) (rep_mk (by decide) (by decide) (fun h => absurd h (by decide)) rfl (by rw [hcl]; exact hsl) (reps_mono (hle.trans hG2) hreps)) (by omega) ⟨by omega, fun h => (by cases h), fun _ => ⟨.inr (by rw [hR, hno]; rfl), by rw [nd_tot]; simp only [List.length_nil]; omega⟩⟩⟩
    | false =>
     obtain ⟨hfs, hto⟩ := hQ3 rfl
     rw [hfs] at hit
     dsimp only at hit
     by_cases hlast : (nth t.fields j).tag ≤ last
     ·rw [if_pos ⟨rfl, .inl hlast⟩] at hit
      repeat' (first | (refine jR ?_) | (refine k_op rfl ?_; first | refine jV (g_ld rfl rfl rfl) ?_ | refine jV (g_ldA rfl rfl rfl rfl) ?_ | refine c_st1 rfl rfl rfl rfl ?_ | refine c_stA rfl rfl rfl rfl rfl rfl ?_) | (refine k_tt rfl rfl ?_) | (refine k_any (s_any (id := 51) _ (fun _ h => h) mixed ?_); (refine jG (bts 27 1) 0 rfl (g_ld rfl rfl rfl) ?_); refine jT 24 [1, 2] (bts 27 7) ?_; (refine jG (bts 27 15) 3 rfl (g_ld rfl rfl rfl) ?_); refine jT 22 [4] (bts 27 31) ?_; (try (refine Nx.re (d := 190) (v' := Bo false) rfl (congrArg Value.bool rfl) ?_)); refine jT 20 [5, 7] (bts 27 191) ?_; (refine jG (bts 27 255) 6 rfl (g_ld rfl rfl rfl) ?_); refine jT 18 [8] (bts 27 511) ?_; (refine jG (bts 27 1023) 9 rfl (g_pickF rfl rfl rfl) ?_); refine jT 16 [10] (bts 27 2047) ?_; (try (refine Nx.re (d := 196) (v' := Bo true) rfl (congrArg Value.bool (dTt ‹_›)) ?_)); refine jT 13 [11, 20, 21] (bts 27 3149823) ?_; (refine jN (bts 27 3153919) 12 rfl ?_); (refine jN (bts 27 3162111) 13 rfl ?_); (refine jN (bts 27 3178495) 14 rfl ?_); (refine jN (bts 27 3244031) 16 rfl ?_); refine jT 7 [17, 18] (bts 27 3637247) ?_; (refine jN (bts 27 4161535) 19 rfl ?_); (refine jN (bts 27 8355839) 22 rfl ?_); (refine jN (bts 27 8388607) 15 rfl ?_); (refine jN (bts 27 16777215) 23 rfl ?_); (refine jN (bts 27 33554431) 24 rfl ?_); refine jT 1 [25] (bts 27 67108863) ?_; (refine jG (bts 27 134217727) 26 rfl (g_pickT rfl rfl rfl) ?_); refine x_done (by kernel_rfl) (k_bk ?_)))
      all_goals
       refine Nx.sealS (v := .slice a vs.length cap) fun G2 hG2 hsl => ?_
       refine k_rrU (.inl rfl) rfl (c_unkeyD (x0 := x2) (r := r) (sc := sc) (s := t1) (b := true) (a := none) (n := 0) (c := 0) (d := d + 1) (by omega)) rfl ?_
       rintro v G' L' ⟨rfl, rfl⟩
       dsimp only [zA, fA]
       exact ⟨[_], [brO r sc t1 true none 0 0 (d + 1 - 1)], ⟨rc_A rfl rfl rfl rfl, trivial⟩, by repeat (first | exact List.nil_sublist _ | apply List.Sublist.cons_cons | apply List.Sublist.cons), (hgl.trans hG2), ukP_in (c := ⟨82, [], 0, a, vs.length, cap⟩) (rep_mk (by decide) (by decide) (fun h => absurd h (by decide)) rfl (by rw [hcl]; exact hsl) (reps_mono (hle.trans hG2) hreps)) (by omega) ⟨by omega, fun h => (by cases h), fun _ => ⟨.inr (by rw [hR, hit]; rfl), by rw [nd_tot]; simp only [List.length_nil]; omega⟩⟩⟩
     ·by_cases heq : u1.out = standF (tyq qs) (nth t.fields j)
      ·rw [if_pos ⟨rfl, .inr heq⟩] at hit
       repeat' (first | (refine jR ?_) | (refine k_op rfl ?_; first | refine jV (g_ld rfl rfl rfl) ?_ | refine jV (g_ldA rfl rfl rfl rfl) ?_ | refine c_st1 rfl rfl rfl rfl ?_ | refine c_stA rfl rfl rfl rfl rfl rfl ?_) | (refine k_tt rfl (dTt ‹_›) ?_) | (refine k_any (s_any (id := 51) _ (fun _ h => h) mixed ?_); (refine jG (bts 27 1) 0 rfl (g_ld rfl rfl rfl) ?_); refine jT 24 [1, 2] (bts 27 7) ?_; (refine jG (bts 27 15) 3 rfl (g_ld rfl rfl rfl) ?_); refine jT 22 [4] (bts 27 31) ?_; (try (refine Nx.re (d := 190) (v' := Bo false) rfl (congrArg Value.bool rfl) ?_)); refine jT 20 [5, 7] (bts 27 191) ?_; (refine jG (bts 27 255) 6 rfl (g_ld rfl rfl rfl) ?_); refine jT 18 [8] (bts 27 511) ?_; (refine jG (bts 27 1023) 9 rfl (g_pickF rfl rfl rfl) ?_); refine jT 16 [10] (bts 27 2047) ?_; (try (refine Nx.re (d := 196) (v' := Bo false) rfl (congrArg Value.bool (dFf ‹_›)) ?_)); refine jT 13 [11, 20, 21] (bts 27 3149823) ?_; (refine jG (bts 27 3153919) 12 rfl (g_ld rfl rfl rfl) ?_); (refine jG (bts 27 3162111) 13 rfl (g_iaddr rfl rfl (by omega)) ?_); ((refine jG (bts 27 3178495) 14 rfl (g_ldR rfl rfl (by assumption) ?_) ?_; (focus ((simp only [List.length_append, List.length_cons, List.length_nil, List.length_take]; omega); done)))); (refine jG (bts 27 3244031) 16 rfl (g_ld rfl rfl rfl) ?_); refine jT 7 [17, 18] (bts 27 3637247) ?_; (refine jG (bts 27 4161535) 19 rfl (g_ld rfl rfl rfl) ?_); (refine jG (bts 27 8355839) 22 rfl (g_ld rfl rfl rfl) ?_); (refine jA 15 rfl ?_; (refine c_rt rfl rfl rfl cx_pr rfl ?_); refine jS (bts 27 8388607) ?_); (refine jA 23 rfl ?_; (refine c_rt rfl rfl rfl cx_fld rfl ?_); refine jS (bts 27 16777215) ?_); (refine jA 24 rfl ?_; (refine c_rt rfl rfl rfl cx_of rfl ?_); refine jS (bts 27 33554431) ?_); refine jT 1 [25] (bts 27 67108863) ?_; (refine jG (bts 27 134217727) 26 rfl (g_pickF rfl rfl rfl) ?_); refine x_done (by kernel_rfl) (k_bk ?_)))
       all_goals
        refine Nx.sealS (v := .slice a vs.length cap) fun G2 hG2 hsl => ?_
        refine k_rrU (.inl rfl) rfl (c_unkeyD (x0 := x2) (r := r) (sc := sc) (s := t1) (b := true) (a := none) (n := 0) (c := 0) (d := d + 1) (by omega)) rfl ?_
        rintro v G' L' ⟨rfl, rfl⟩
        dsimp only [zA, fA]
        exact ⟨[_], [brO r sc t1 true none 0 0 (d + 1 - 1)], ⟨rc_A rfl rfl rfl rfl, trivial⟩, by repeat (first | exact List.nil_sublist _ | apply List.Sublist.cons_cons | apply List.Sublist.cons), (hgl.trans hG2), ukP_in (c := ⟨82, [], 0, a, vs.length, cap⟩) (rep_mk (by decide) (by decide) (fun h => absurd h (by decide)) rfl (by rw [hcl]; exact hsl) (reps_mono (hle.trans hG2) hreps)) (by omega) ⟨by omega, fun h => (by cases h), fun _ => ⟨.inr (by rw [hR, hit]; rfl), by rw [nd_tot]; simp only [List.length_nil]; omega⟩⟩⟩
      ·rw [if_neg (fun h => by rcases h.2 with h | h; exact hlast h; exact heq h)] at hit
       have hrow : rows vcF cs ++ [U8 ((61 : Nat) : Int), S [], I (nth t.fields j).tag, .slice (some ⟨kb, ko, none⟩) 1 kc] = rows vcF (cs ++ [⟨61, [], (nth t.fields j).tag, some ⟨kb, ko, none⟩, 1, kc⟩]) := (rows_snoc vcF cs (⟨61, [], (nth t.fields j).tag, some ⟨kb, ko, none⟩, 1, kc⟩ : VC)).symm
       have hr2 : V.reps G1 (vs ++ [.nd 61 [] (nth t.fields j).tag [u1]]) (cs ++ [⟨61, [], (nth t.fields j).tag, some ⟨kb, ko, none⟩, 1, kc⟩]) := reps_snoc hrep (reps_mono hle hreps)
       have hvl : (vs ++ [V.nd 61 [] (nth t.fields j).tag [u1]]).length = vs.length + 1 := by simp
       have htu : V.tots (vs ++ [V.nd 61 [] (nth t.fields j).tag [u1]]) = V.tots vs + (20 + u1.tot) := by simp [tots_app, V.tots, V.tot]
       repeat' (first | (refine jR ?_) | (refine k_op rfl ?_; first | refine jV (g_ld rfl rfl rfl) ?_ | refine jV (g_ldA rfl rfl rfl rfl) ?_ | refine c_st1 rfl rfl rfl rfl ?_ | refine c_bsl rfl rfl rfl rfl rfl rfl fun _ => ?_ | (refine c_apX rfl rfl rfl rfl rfl rfl rfl rfl rfl (by omega) fun _ _ => ?_)) | (refine k_ff rfl (dFf ‹_›) ?_) | (refine k_any (s_any (id := 51) _ (fun _ h => h) mixed ?_); (refine jG (bts 27 1) 0 rfl (g_ld rfl rfl rfl) ?_); refine jT 24 [1, 2] (bts 27 7) ?_; (refine jG (bts 27 15) 3 rfl (g_ld rfl rfl rfl) ?_); refine jT 22 [4] (bts 27 31) ?_; (try (refine Nx.re (d := 190) (v' := Bo false) rfl (congrArg Value.bool rfl) ?_)); refine jT 20 [5, 7] (bts 27 191) ?_; (refine jG (bts 27 255) 6 rfl (g_ld rfl rfl rfl) ?_); refine jT 18 [8] (bts 27 511) ?_; (refine jG (bts 27 1023) 9 rfl (g_pickF rfl rfl rfl) ?_); refine jT 16 [10] (bts 27 2047) ?_; (try (refine Nx.re (d := 196) (v' := Bo false) rfl (congrArg Value.bool (dFf ‹_›)) ?_)); refine jT 13 [11, 20, 21] (bts 27 3149823) ?_; (refine jG (bts 27 3153919) 12 rfl (g_ld rfl rfl rfl) ?_); (refine jG (bts 27 3162111) 13 rfl (g_iaddr rfl rfl (by omega)) ?_); ((refine jG (bts 27 3178495) 14 rfl (g_ldR rfl rfl (by assumption) ?_) ?_; (focus ((simp only [List.length_append, List.length_cons, List.length_nil, List.length_take]; omega); done)))); (refine jG (bts 27 3244031) 16 rfl (g_ld rfl rfl rfl) ?_); refine jT 7 [17, 18] (bts 27 3637247) ?_; (refine jG (bts 27 4161535) 19 rfl (g_ld rfl rfl rfl) ?_); (refine jG (bts 27 8355839) 22 rfl (g_ld rfl rfl rfl) ?_); (refine jA 15 rfl ?_; (refine c_rt rfl rfl rfl cx_pr rfl ?_); refine jS (bts 27 8388607) ?_); (refine jA 23 rfl ?_; (refine c_rt rfl rfl rfl cx_fld rfl ?_); refine jS (bts 27 16777215) ?_); (refine jA 24 rfl ?_; (refine c_rt rfl rfl rfl cx_of rfl ?_); refine jS (bts 27 33554431) ?_); refine jT 1 [25] (bts 27 67108863) ?_; (refine jG (bts 27 134217727) 26 rfl (g_pickF rfl rfl rfl) ?_); refine x_done (by kernel_rfl) (k_bk ?_)))
       all_goals
        rename_i y1 yc
        rw [hrow]
        exact k_rd (vs ++ [.nd 61 [] (nth t.fields j).tag [u1]], cs ++ [⟨61, [], (nth t.fields j).tag, some ⟨kb, ko, none⟩, 1, kc⟩], some ⟨y1, 0, none⟩, yc, t1, m', (nth t.fields j).tag, G1) ⟨⟨hr2, hgl⟩, ⟨hit, by dsimp only; omega⟩, by dsimp only; omega, by dsimp only; omega⟩ (by dsimp only; omega) (by repeat' constructor) rfl (by rw [hvl]; repeat (first | exact List.Sublist.refl _ | apply List.Sublist.cons_cons | apply List.Sublist.cons))
def psR (o : Option (List UInt8)) : Value := Tu [S (o.getD []), Bo o.isSome]
def keyBackV (s k x : List UInt8) : Option (List UInt8) := match schemaOf s with
 | some ts => if kindIn ts k = true ∧ x.length ≤ 900 then (keyV ts k x).map V.out else none
 | none => none
theorem keyBackV_k {s k x : List UInt8} (h : kindS s k = false) : keyBackV s k x = none := by
 unfold keyBackV
 unfold kindS at h
 cases hs : schemaOf s with
 | none => rfl
 | some ts => rw [hs] at h; dsimp only at h ⊢; rw [if_neg (by rw [h]; simp)]
end Go.E
namespace Go.E
set_option maxRecDepth 20000
set_option maxHeartbeats 2000000
open Go.Proofs
variable {G : Gh}
theorem c_fits {v : V} {c : VC} (h : V.rep G v c) (ht : v.tot ≤ 1000000) : PuG Tryz.prog 25 [Ag (vcF c)] G (· = Bo (decide (v.out.length ≤ 400 ∧ v.deep ≤ 12))) := by
 have cx_pr := c_print (G := G) v.tot (Nat.le_refl _) ht h
 have cx_dp := c_deep (G := G) v.tot (Nat.le_refl _) ht h
 have hdl := deep_tot v
 obtain ⟨w, tx, tg, a, m, kc⟩ := c
 have e0 : vcF ⟨w, tx, tg, a, m, kc⟩ = [U8 (w : Nat), S tx, I tg, .slice a m kc] := rfl
 rw [e0] at cx_pr cx_dp ⊢
 by_cases h1 : v.out.length ≤ 400
 ·by_cases h2 : v.deep ≤ 12
  ·rw [decide_eq_true (p := v.out.length ≤ 400 ∧ v.deep ≤ 12) ⟨h1, h2⟩]
   refine jE [(0, _)] Tryz.func25 Tryz.ntmps25 fun B hB => ?_
   repeat' (first | (refine jR ?_) | (refine k_op rfl ?_; first | refine c_bx rfl rfl rfl fun _ => ?_ | refine jV (g_ldA rfl rfl rfl rfl) ?_ | (refine jV (g_pickT rfl rfl rfl) ?_) | (refine c_rt rfl rfl rfl cx_pr rfl ?_) | (refine c_rt rfl rfl rfl cx_dp rfl ?_)) | (refine k_gt rfl rfl (dTt (by omega)) ?_))
   all_goals refine jZ (vs := [_]) rfl ⟨rfl, trivial⟩ rfl ⟨rfl, rfl, ?_⟩
   all_goals (rw [oneOf_one, decide_eq_true (by omega)])
  ·rw [decide_eq_false (p := v.out.length ≤ 400 ∧ v.deep ≤ 12) (fun h => h2 h.2)]
   refine jE [(0, _)] Tryz.func25 Tryz.ntmps25 fun B hB => ?_
   repeat' (first | (refine jR ?_) | (refine k_op rfl ?_; first | refine c_bx rfl rfl rfl fun _ => ?_ | refine jV (g_ldA rfl rfl rfl rfl) ?_ | (refine jV (g_pickT rfl rfl rfl) ?_) | (refine c_rt rfl rfl rfl cx_pr rfl ?_) | (refine c_rt rfl rfl rfl cx_dp rfl ?_)) | (refine k_gt rfl rfl (dTt (by omega)) ?_))
   all_goals refine jZ (vs := [_]) rfl ⟨rfl, trivial⟩ rfl ⟨rfl, rfl, ?_⟩
   all_goals (rw [oneOf_one, decide_eq_false (by omega)])
 ·rw [decide_eq_false (p := v.out.length ≤ 400 ∧ v.deep ≤ 12) (fun h => h1 h.1)]
  refine jE [(0, _)] Tryz.func25 Tryz.ntmps25 fun B hB => ?_
  repeat' (first | (refine jR ?_) | (refine k_op rfl ?_; first | refine c_bx rfl rfl rfl fun _ => ?_ | refine jV (g_ldA rfl rfl rfl rfl) ?_ | (refine jV (g_pickF rfl rfl rfl) ?_) | (refine c_rt rfl rfl rfl cx_pr rfl ?_)) | (refine k_gf rfl rfl (dFf (by omega)) ?_))
  all_goals refine jZ (vs := [_]) rfl ⟨rfl, trivial⟩ rfl ⟨rfl, rfl, ?_⟩
  all_goals rfl
theorem c_unkA {n r sc : Nat} {qs : List TyP} {c : UInt8} {k s : List UInt8} {t : Ty} {d : Int} (h91 : ¬ (c.toNat = 91 ∨ c.toNat = 63)) (hd : d = 12 - (n : Int)) (hn : n ≤ 12) (hU : UkC n sc qs) (hS : ScI G sc qs) (hw : SchW (tyq qs)) (hk : kindIn (tyq qs) (c :: k) = true) (hrf : refT (tyq qs) (c :: k) = some t) (hs : s.length ≤ 1000) :
  FnM Tryz.prog 24 [Pt r 0, Ag (kdF (c :: k))] G [brO r sc s false none 0 0 d] (UkP (rk true (tyq qs) (n + 1) (c :: k)) r sc s false d) := by
 have hko := kindIn_ok hk
 have hsg := sg_none (r := k) h91
 have hcs := core_self (r := k) h91
 have hrn : (refN (core (c :: k))).isSome = true := by
  rw [hcs]; unfold refT at hrf
  cases hx : refN (c :: k) with
  | none => rw [hx] at hrf; cases hrf
  | some x => rfl
 have hbs : bs (c :: k) = [64] := (bs_at hko).2 hrn
 have hnm : refN (c :: k) = some (nm (c :: k)) := by
  unfold nm; rw [hcs] at hrn ⊢
  cases hx : refN (c :: k) with
  | none => rw [hx] at hrn; cases hrn
  | some x => rfl
 have hft : findT (tyq qs) (nm (c :: k)) = some t := by unfold refT at hrf; rw [hnm] at hrf; exact hrf
 have hkv := kvF_find qs (nm (c :: k))
 rw [← findQ_ty] at hft
 rcases hfq : findQ qs (nm (c :: k)) with _ | ⟨p, t'⟩
 ·rw [hfq] at hft; cases hft
 rw [hfq] at hft hkv
 dsimp only [Option.map_some] at hft hkv
 have htt : t' = t := Option.some.inj hft
 subst htt
 have hqm := findQ_mem hfq
 have htm := refT_mem hrf
 have hW := hw.ty t' htm
 have hT : TyI G p t' := hS.ty _ hqm
 have hrd : rk true (tyq qs) (n + 1) (c :: k) s = rkTyped true (tyq qs) (rk true (tyq qs) n) t' s := by
  rw [rk]; unfold rkK
  dsimp only
  rw [if_neg (fun h => h91 (.inl h)), if_neg (fun h => h91 (.inr h)), hrf]
 have hR : RkQ (rk true (tyq qs) (n + 1) (c :: k)) s = RkQ (rkTyped true (tyq qs) (rk true (tyq qs) n) t') s := by
  funext b u s' b'
  unfold RkQ
  rw [hrd]
 have hP : UkP (rk true (tyq qs) (n + 1) (c :: k)) r sc s false d = UkP (rkTyped true (tyq qs) (rk true (tyq qs) n) t') r sc s false d := by
  funext v G' L'
  unfold UkP
  rw [hR]
 unfold kdF
 rw [hsg, hbs, hP]
 rcases hW.sort with h | h | h
 ·exact c_unkR hd hn hU hS hw hkv hT hW (fun d hd => kind_in hw htm (by omega) hd) h hs
 ·exact c_unkU hd hn hU hS hkv hT hW (fun d hd => kind_in hw htm (by omega) hd) h hs
 ·exact c_unkE hd hn hS hkv hT hW h hs
theorem ukC_all {sc : Nat} {qs : List TyP} (hw : SchW (tyq qs)) : ∀ n, n ≤ 13 → UkC n sc qs
 | 0, _ => fun G r k s b _ _ hs => c_unkBad (.inr rfl) hs (by omega)
 | n + 1, hn => fun G r k s b hS hk hs => by
  have hU := ukC_all (sc := sc) hw n (by omega)
  have ed : (13 : Int) - ((n + 1 : Nat) : Int) = 12 - (n : Int) := by omega
  cases b with
  | true => exact c_unkBad (.inl rfl) hs hn
  | false =>
   match k, hk with
   | [], hk => cases hk
   | c :: k, hk =>
    by_cases h1 : c.toNat = 91
    ·obtain rfl := u8_eq h1 (by decide)
     exact c_unkL ed (by omega) hU hS hk hs
    by_cases h2 : c.toNat = 63
    ·obtain rfl := u8_eq h2 (by decide)
     exact c_unkO ed (by omega) hU hS hk hs
    have h91 : ¬ (c.toNat = 91 ∨ c.toNat = 63) := fun h => by rcases h with h | h <;> omega
    cases hr : refT (tyq qs) (c :: k) with
    | some t => exact c_unkA h91 ed (by omega) hU hS hw hk hr hs
    | none =>
     rcases plain_kinds hk h91 hr with e | e | e
     ·rw [e] at hr ⊢; exact c_unkN ed (by omega) hr hs
     ·rw [e] at hr ⊢; exact c_unkT ed (by omega) hr hs
     ·rw [e] at hr ⊢; exact c_unkF ed (by omega) hr hs
theorem c_KeyBackI {s k x : List UInt8} (h : s.length ≤ 1048576 ∧ k.length ≤ 1048576 ∧ x.length ≤ 1048576) : PuG Tryz.prog 9 [S s, S k, S x] G (· = psR (keyBackV s k x)) := by
 by_cases hk : kindS s k = true
 case neg =>
  have hk2 : kindS s k = false := by simpa using hk
  have cx_bo1 : ∀ G, FnS Tryz.prog 23 [S s, S k] G (fun v _ => ∃ p a b c, v = Tu [p, Ag [S a, S b, S c], Bo false]) := fun G => by
   refine (c_both (G := G) (s := s) (k := k) (by omega) (by omega)).mono ?_
   rintro v G' L' ⟨h1, h2, ⟨h4, p, a, b, c, rfl⟩ | ⟨b, qs, rfl, h4, h5, h6⟩⟩
   ·exact ⟨h1, h2, p, a, b, c, rfl⟩
   ·unfold kindS at hk; rw [h4] at hk; exact absurd h5 hk
  rw [keyBackV_k hk2]
  refine jB (Post := fun v G' L' => G' = G ∧ L' = [] ∧ _) [(0, _), (1, _), (2, _)] Tryz.func9 Tryz.ntmps9 fun B hok hB hW => ?_
  repeat' (first | (refine jR ?_) | (refine k_op rfl ?_; first | refine c_al rfl rfl fun _ => ?_ | refine c_stA rfl rfl rfl rfl rfl rfl ?_ | (refine jV (g_pickT rfl rfl rfl) ?_) | (refine c_fns rfl rfl rfl (cx_bo1 _) rfl ?_; rintro _ G hle ⟨p1, a1, b1, c1, rfl⟩; skip)) | (refine k_gt rfl rfl rfl ?_) | (refine k_tt rfl rfl ?_))
  all_goals refine Nx.base hok hB ?_
  all_goals refine jZ (vs := [_, _]) rfl ⟨rfl, rfl, trivial⟩ rfl ⟨rfl, rfl, ?_⟩
  all_goals rfl
 case pos =>
  obtain ⟨ts, hs, hki⟩ : ∃ ts, schemaOf s = some ts ∧ kindIn ts k = true := by
   unfold kindS at hk
   cases hs : schemaOf s with
   | none => rw [hs] at hk; cases hk
   | some ts => rw [hs] at hk; exact ⟨ts, rfl, hk⟩
  have hw := schemaOf_w hs
  have cx_boa : ∀ G, FnS Tryz.prog 23 [S s, S k] G (fun v G' => ∃ b qs, v = Tu [Pt b 0, Ag [S (sg k), S (bs k), S (nm k)], Bo true] ∧ tyq qs = ts ∧ ScI G' b qs) := fun G => by
   refine (c_both (G := G) (s := s) (k := k) (by omega) (by omega)).mono ?_
   rintro v G' L' ⟨h1, h2, ⟨h4, _⟩ | ⟨b, qs, rfl, h4, h5, h6⟩⟩
   ·rw [h4] at hk; cases hk
   ·rw [hs] at h4; exact ⟨h1, h2, b, qs, rfl, (Option.some.inj h4).symm, h6⟩
  have hV : keyBackV s k x = if kindIn ts k = true ∧ x.length ≤ 900 then (keyV ts k x).map V.out else none := by unfold keyBackV; rw [hs]
  rw [hV]
  by_cases hx : x.length ≤ 900
  case neg =>
   rw [if_neg (fun h => hx h.2)]
   refine jB (Post := fun v G' L' => G' = G ∧ L' = [] ∧ _) [(0, _), (1, _), (2, _)] Tryz.func9 Tryz.ntmps9 fun B hok hB hW => ?_
   repeat' (first | (refine jR ?_) | (refine k_op rfl ?_; first | refine c_al rfl rfl fun _ => ?_ | refine c_stA rfl rfl rfl rfl rfl rfl ?_ | (refine jV (g_pickF rfl rfl rfl) ?_) | (refine c_fns rfl rfl rfl (cx_boa _) rfl ?_; rintro _ G hle ⟨ba, qa, rfl, hT1, hR1⟩; skip)) | (refine k_gf rfl rfl rfl ?_) | (refine k_tt rfl (dTt (by omega)) ?_))
   all_goals refine Nx.base hok hB ?_
   all_goals refine jZ (vs := [_, _]) rfl ⟨rfl, rfl, trivial⟩ rfl ⟨rfl, rfl, ?_⟩
   all_goals rfl
  case pos =>
   rw [if_pos ⟨hki, hx⟩]
   obtain ⟨o, ho⟩ : ∃ o, (keyV ts k x).map V.out = o := ⟨_, rfl⟩
   rw [ho]
   have hno : (∀ v, keyV ts k x = some v → False) → o = none := fun h => by
    rw [← ho]
    cases hv : keyV ts k x with
    | none => rfl
    | some v => exact (h v hv).elim
   refine jB (Post := fun v G' L' => G' = G ∧ L' = [] ∧ _) [(0, _), (1, _), (2, _)] Tryz.func9 Tryz.ntmps9 fun B hok hB hW => ?_
   repeat' (first | (refine jR ?_) | (refine k_op rfl ?_; first | refine c_al rfl rfl fun _ => ?_ | refine c_stA rfl rfl rfl rfl rfl rfl ?_ | (refine jV (g_pickF rfl rfl rfl) ?_) | refine jV (g_bld rfl rfl) ?_ | refine c_bx rfl rfl rfl fun _ => ?_ | refine jV (g_ldA rfl rfl rfl rfl) ?_ | (refine c_fns rfl rfl rfl (cx_boa _) rfl ?_; rintro _ G hle ⟨ba, qa, rfl, hT1, hR1⟩; skip)) | (refine k_gf rfl rfl rfl ?_) | (refine k_ff rfl (dFf (by omega)) ?_))
   rename_i y1 y2
   subst hT1
   have cx_uk := uk_d (r := y2) (d := 0) (by omega) (ukC_all (sc := ba) hw 13 (Nat.le_refl _) G y2 k x false hR1 hki (by omega))
   refine k_op rfl ?_
   refine c_m1s rfl rfl rfl cx_uk rfl ?_
   rintro _ G1 _ hle2 ⟨u1, c1, t1, b1, rfl, hrep, rfl, hP⟩
   dsimp only [zA, fA]
   clear cx_uk
   obtain ⟨hQ1, hQ2, hQ3, hQ4⟩ := rkQ_tot hP
   have cx_fit := c_fits hrep (by omega)
   have cx_pr := c_print (G := G1) (c := c1) _ (Nat.le_refl _) (by omega) hrep
   simp only [vcF, VC.sl] at cx_fit cx_pr
   dsimp only [vcF, VC.sl]
   cases b1 with
   | true =>
    obtain rfl : o = none := hno fun v hv => by
     have := ((key_13 hw).1 hv).1
     rw [hQ4 rfl] at this; cases this
    repeat' (first | (refine jR ?_) | (refine k_op rfl ?_; first | refine c_al rfl rfl fun _ => ?_ | refine c_stA rfl rfl rfl rfl rfl rfl ?_ | (refine jV (g_pickT rfl rfl rfl) ?_) | refine jV (g_ld rfl rfl rfl) ?_) | (refine k_gt rfl rfl rfl ?_) | (refine k_tt rfl rfl ?_))
    all_goals refine Nx.base hok hB ?_
    all_goals refine jZ (vs := [_, _]) rfl ⟨rfl, rfl, trivial⟩ rfl ⟨rfl, rfl, ?_⟩
    all_goals rfl
   | false =>
    obtain ⟨hgood, _⟩ := hQ3 rfl
    by_cases ht1 : t1 = []
    ·subst ht1
     by_cases hfit : u1.out.length ≤ 400 ∧ u1.deep ≤ 12
     ·have hkv := (key_13 hw).2 ⟨hgood, hfit.2, hfit.1⟩
      rw [hkv, Option.map_some] at ho
      subst ho
      rw [decide_eq_true hfit] at cx_fit
      clear hno
      repeat' (first | (refine jR ?_) | (refine k_op rfl ?_; first | refine c_al rfl rfl fun _ => ?_ | refine c_stA rfl rfl rfl rfl rfl rfl ?_ | (refine jV (g_pickF rfl rfl rfl) ?_) | refine jV (g_ld rfl rfl rfl) ?_ | refine jV (g_ldA rfl rfl rfl rfl) ?_ | (refine c_rt rfl rfl rfl cx_fit rfl ?_) | (refine c_rt rfl rfl rfl cx_pr rfl ?_)) | (refine k_gf rfl rfl rfl ?_) | (refine k_ff rfl rfl ?_))
      all_goals refine Nx.base hok hB ?_
      all_goals refine jZ (vs := [_, _]) rfl ⟨rfl, rfl, trivial⟩ rfl ⟨rfl, rfl, ?_⟩
      all_goals rfl
     ·obtain rfl : o = none := hno fun v hv => by
       obtain ⟨a1, a2, a3⟩ := (key_13 hw).1 hv
       rw [hgood] at a1
       simp only [Option.some.injEq, Prod.mk.injEq, and_true] at a1
       subst a1
       exact hfit ⟨a3, a2⟩
      rw [decide_eq_false hfit] at cx_fit
      clear hno
      repeat' (first | (refine jR ?_) | (refine k_op rfl ?_; first | refine c_al rfl rfl fun _ => ?_ | refine c_stA rfl rfl rfl rfl rfl rfl ?_ | (refine jV (g_pickF rfl rfl rfl) ?_) | refine jV (g_ld rfl rfl rfl) ?_ | refine jV (g_ldA rfl rfl rfl rfl) ?_ | (refine c_rt rfl rfl rfl cx_fit rfl ?_)) | (refine k_gf rfl rfl rfl ?_) | (refine k_tt rfl rfl ?_))
      all_goals refine Nx.base hok hB ?_
      all_goals refine jZ (vs := [_, _]) rfl ⟨rfl, rfl, trivial⟩ rfl ⟨rfl, rfl, ?_⟩
      all_goals rfl
    ·obtain rfl : o = none := hno fun v hv => by
      have a1 := ((key_13 hw).1 hv).1
      rw [hgood] at a1
      simp only [Option.some.injEq, Prod.mk.injEq] at a1
      exact ht1 a1.2
     clear hno
     repeat' (first | (refine jR ?_) | (refine k_op rfl ?_; first | refine c_al rfl rfl fun _ => ?_ | refine c_stA rfl rfl rfl rfl rfl rfl ?_ | (refine jV (g_pickT rfl rfl rfl) ?_) | (refine jV (g_pickF rfl rfl rfl) ?_) | refine jV (g_ld rfl rfl rfl) ?_) | (refine k_gt rfl rfl (dTt ‹_›) ?_) | (refine k_gf rfl rfl rfl ?_) | (refine k_tt rfl rfl ?_))
     all_goals refine Nx.base hok hB ?_
     all_goals refine jZ (vs := [_, _]) rfl ⟨rfl, rfl, trivial⟩ rfl ⟨rfl, rfl, ?_⟩
     all_goals rfl
theorem key_back {s k w b : List UInt8} (h : keyOf s k w = some b) : keyBackV s k b = some w ∧ b.length ≤ 900 := by
 unfold keyOf at h
 cases hg : givenV s k w with
 | none => rw [hg] at h; cases h
 | some u =>
  rw [hg] at h
  dsimp only at h
  split at h
  ·rename_i hl
   simp only [Option.some.injEq] at h
   subst h
   obtain ⟨ts, hs, hki, hvo, _, hwf⟩ := given_some hg
   have hw := schemaOf_w hs
   obtain ⟨h1, h2, h3⟩ := valOf_out hvo
   refine ⟨?_, hl⟩
   unfold keyBackV
   rw [hs]
   dsimp only
   rw [if_pos ⟨hki, hl⟩, (keyV_iff hw (v := u)).2 ⟨⟨valOf_of_k hvo, h3⟩, by rw [h1]; omega, rfl⟩, Option.map_some, h1]
  ·cases h
theorem c_DrawKeyOf {v : Value} {l : List UInt8} (hs : SlV G v 1 l.length (u8s l)) : PuG Tryz.prog 10 [v] G (fun r => ∃ s k x, r = Tu [S s, S k, S x] ∧ s.length ≤ 1048576 ∧ k.length ≤ 1048576 ∧ x.length ≤ 1048576) := by
 refine jE [(0, _)] Tryz.func10 Tryz.ntmps10 fun B hB => ?_
 repeat' (first | (refine jR ?_) | (refine k_op rfl ?_; first | (refine c_fng rfl rfl rfl (c_l6Open (by (repeat (assumption)); done)) rfl ?_; rintro _ _ ⟨b, code, l, rfl, rfl, hcd, hcl⟩; dsimp only [zA, fA]) | (refine c_m1g rfl rfl rfl (c_l91Three ?_ (by (repeat (assumption)); done)) rfl ?_; (focus ((omega); done)); rintro _ _ ⟨sc, kd, tx, q1, rfl, ⟨hsc, hkd, htx⟩, rfl, hq1, hq2⟩; dsimp only [zA, fA])))
 exact jZ (vs := [_, _, _]) rfl ⟨rfl, rfl, rfl, trivial⟩ rfl ⟨rfl, rfl, _, _, _, rfl, by omega, by omega, by omega⟩
theorem c_FnKeyOf {v : Value} {l : List UInt8} (hs : SlV G v 1 l.length (u8s l)) : PuG Tryz.prog 4 [v] G (· = Bo true) := by
 obtain ⟨a, cap, rfl⟩ := hs.sl
 refine jE [(0, _)] Tryz.func4 Tryz.ntmps4 fun B hB => ?_
 repeat' (first | (refine jR ?_) | (refine k_op rfl ?_; first | refine jV (g_lenL rfl) ?_ | (refine c_pu rfl rfl rfl (c_DrawKeyOf (by (repeat (assumption)); done)) rfl ?_; rintro _ ⟨s1, k1, x1, rfl, hsz⟩)) | refine k_if rfl (fun _ => ?_) (fun _ => ?_))
 ·refine jZ (vs := [_]) rfl ⟨rfl, trivial⟩ rfl ⟨rfl, rfl, ?_⟩
  rfl
 have cx_ss1 := c_KeyOfI (G := G) hsz
 have cx_ss2 := c_KeyOfS (G := G) hsz
 cases h : keyOf s1 k1 x1 with
 | none =>
  rw [h] at cx_ss1 cx_ss2
  simp only [Option.getD_none, Option.isSome_none] at cx_ss1 cx_ss2
  repeat' (first | (refine jR ?_) | (refine k_op rfl ?_; first | (refine jV (g_pickT rfl rfl rfl) ?_) | (refine jV (g_pickF rfl rfl rfl) ?_) | (refine c_rt rfl rfl rfl cx_ss1 rfl ?_) | (refine c_rt rfl rfl rfl cx_ss2 rfl ?_)) | (refine k_gt rfl rfl rfl ?_) | (refine k_gf rfl rfl rfl ?_) | (refine k_tt rfl rfl ?_))
  all_goals refine jZ (vs := [_]) rfl ⟨rfl, trivial⟩ rfl ⟨rfl, rfl, ?_⟩
  all_goals rfl
 | some b =>
  obtain ⟨hb, hbl⟩ := key_back h
  rw [h] at cx_ss1 cx_ss2
  simp only [Option.getD_some, Option.isSome_some] at cx_ss1 cx_ss2
  have cx_kb := c_KeyBackI (G := G) (s := s1) (k := k1) (x := b) ⟨hsz.1, hsz.2.1, by omega⟩
  rw [hb] at cx_kb
  unfold psR at cx_kb
  simp only [Option.getD_some, Option.isSome_some] at cx_kb
  repeat' (first | (refine jR ?_) | (refine k_op rfl ?_; first | (refine jV (g_pickT rfl rfl rfl) ?_) | (refine jV (g_pickF rfl rfl rfl) ?_) | (refine c_rt rfl rfl rfl cx_ss1 rfl ?_) | (refine c_rt rfl rfl rfl cx_ss2 rfl ?_) | (refine c_rt rfl rfl rfl cx_kb rfl ?_)) | (refine k_gt rfl rfl (by first | rfl | (refine decide_eq_true ?_; (rfl))) ?_) | (refine k_gf rfl rfl rfl ?_) | (refine k_ff rfl rfl ?_))
  all_goals refine jZ (vs := [_]) rfl ⟨rfl, trivial⟩ rfl ⟨rfl, rfl, ?_⟩
  all_goals (exact congrArg Value.bool (decide_eq_true rfl))
end Go.E
