/- Contracts and plain laws that the statement rests on, part 6. Conditions: as each says. -/
import Derived.Test.YtgabebcagpgdgaaGreatDoorQ5
set_option linter.unusedVariables false
set_option linter.unusedSimpArgs false
namespace Go.E
set_option maxRecDepth 20000
set_option maxHeartbeats 2000000
open Go.Proofs
variable {G : Gh}
theorem c_l13Sign {n m : Int} : PuG Tryz.prog 88 [I n, I m] G (· = I (sgn n m)) := by
 unfold sgn
 rcases Int.lt_trichotomy n m with h | h | h
 ·rw [if_pos h]
  refine jE [(0, _), (1, _)] Tryz.func88 Tryz.ntmps88 fun B hB => ?_
  repeat' (first | (refine jR ?_) | (refine k_tt rfl (dTt ‹_›) ?_))
  refine jZ (vs := [_]) rfl ⟨rfl, trivial⟩ rfl ⟨rfl, rfl, ?_⟩
  rfl
 ·rw [if_neg (by omega), if_neg (by omega)]
  refine jE [(0, _), (1, _)] Tryz.func88 Tryz.ntmps88 fun B hB => ?_
  repeat' (first | (refine jR ?_) | (refine k_ff rfl (dFf (by omega)) ?_))
  refine jZ (vs := [_]) rfl ⟨rfl, trivial⟩ rfl ⟨rfl, rfl, ?_⟩
  rfl
 ·rw [if_neg (by omega), if_pos h]
  refine jE [(0, _), (1, _)] Tryz.func88 Tryz.ntmps88 fun B hB => ?_
  repeat' (first | (refine jR ?_) | (refine k_tt rfl (dTt ‹_›) ?_) | (refine k_ff rfl (dFf (by omega)) ?_))
  refine jZ (vs := [_]) rfl ⟨rfl, trivial⟩ rfl ⟨rfl, rfl, ?_⟩
  rfl
theorem c_l13T {s t x y : List UInt8} (hs : (∃ c r, s = c :: r ∧ c.toNat ≠ 39 ∧ s = x ∧ t = y) ∨ (s = 39 :: (x ++ [39]) ∧ t = 39 :: (y ++ [39]))) (hx : x.length ≤ 100000 ∧ y.length ≤ 100000) : PuG Tryz.prog 89 [S s, S t] G (· = I (cmpB x y)) := by
 unfold cmpB
 have h3 : Op.bytesLess x y = false → (!(Op.bytesLess x y || decide (x = y))) = Op.bytesLess y x := fun h1 => by
  cases h2 : Op.bytesLess y x
  ·obtain rfl := bl_tot h1 h2; simp
  ·have : ¬ x = y := by rintro rfl; rw [h1] at h2; cases h2
   simp [h1, this]
 rcases hs with ⟨c, r, rfl, hc, rfl, rfl⟩ | ⟨rfl, rfl⟩
 ·have hb : bt (c :: r) (Int.toNat 0) ≠ 39 := by rw [show Int.toNat 0 = 0 from rfl, bt_zero]; exact hc
  have hl : (c :: r).length = r.length + 1 := rfl
  cases h1 : Op.bytesLess (c :: r) t
  ·have h4 := h3 h1
   cases h2 : Op.bytesLess t (c :: r)
   all_goals
    rw [h2] at h4
    clear h3
    refine jE [(0, _), (1, _)] Tryz.func89 Tryz.ntmps89 fun B hB => ?_
    repeat' (first | refine jM ?_ | (refine k_op rfl ?_; (refine jV (g_pickT rfl rfl rfl) ?_)) | (refine k_gt rfl rfl (dTt (by omega)) ?_) | (refine k_tt rfl ‹_› ?_) | (refine k_ff rfl (by first | assumption | (refine decide_eq_false ?_; (omega))) ?_))
    all_goals refine jZ (vs := [_]) rfl ⟨rfl, trivial⟩ rfl ⟨rfl, rfl, ?_⟩
    all_goals rfl
  ·clear h3
   refine jE [(0, _), (1, _)] Tryz.func89 Tryz.ntmps89 fun B hB => ?_
   repeat' (first | refine jM ?_ | (refine k_op rfl ?_; (refine jV (g_pickT rfl rfl rfl) ?_)) | (refine k_gt rfl rfl (dTt (by omega)) ?_) | (refine k_tt rfl ‹_› ?_) | (refine k_ff rfl (dFf (by omega)) ?_))
   all_goals refine jZ (vs := [_]) rfl ⟨rfl, trivial⟩ rfl ⟨rfl, rfl, ?_⟩
   all_goals rfl
 ·have hb : bt (39 :: (x ++ [39])) (Int.toNat 0) = 39 := bt_zero _ _
  have hlx : (39 :: (x ++ [39])).length = x.length + 2 := by simp
  have hly : (39 :: (y ++ [39])).length = y.length + 2 := by simp
  have hdt : ∀ z : List UInt8, ((39 :: (z ++ [39])).take ((((39 :: (z ++ [39])).length : Nat) : Int) - 1).toNat).drop (Int.toNat 1) = z := fun z => by
   rw [show ((((39 :: (z ++ [39])).length : Nat) : Int) - 1).toNat = z.length + 1 by (simp; done), List.take_succ_cons]
   show List.drop 1 _ = z
   rw [List.drop_succ_cons, List.drop_zero, List.take_left]
  have hdx := hdt x
  have hdy := hdt y
  clear hdt
  generalize 39 :: (x ++ [39]) = s at *
  generalize 39 :: (y ++ [39]) = t at *
  refine jE [(0, _), (1, _)] Tryz.func89 Tryz.ntmps89 fun B hB => ?_
  repeat' (first | refine jM ?_ | (refine k_op rfl ?_; (refine jV (g_pickT rfl rfl rfl) ?_)) | (refine k_gt rfl rfl (dTt (by omega)) ?_) | (refine k_tt rfl (dTt (by omega)) ?_) | refine k_cd rfl (fun _ => ?_) (fun _ => ?_))
  all_goals refine jZ (vs := [_]) rfl ⟨rfl, trivial⟩ rfl ⟨rfl, rfl, ?_⟩
  all_goals (rw [hdx, hdy] at *; rw [oneOf_one]; congr 1; simp_all)
theorem c_lessL {c0 : UInt8} {r kb txb : List UInt8} {a b n m : Nat} {KS US : List V} {bs cs : List Nat} {ak bk : Option Addr} {ck dk : Nat} (hc : c0.toNat = 91 ∨ c0.toNat = 63) (hn : n = KS.length) (hm : m = US.length) (hn9 : n ≤ 100000 ∧ m ≤ 100000)
  (ha : Seg G a 0 [S (c0 :: r), S [], nilS, .slice ak n ck]) (hb : Seg G b 0 [S kb, S txb, nilS, .slice bk m dk]) (h1 : SlV G (.slice ak n ck) 1 n (rows ptR bs)) (h2 : SlV G (.slice bk m dk) 1 m (rows ptR cs)) (hbl : bs.length = n) (hcl : cs.length = m)
  (ih : ∀ i, i < n → i < m → PuG Tryz.prog 48 [Pt (nth bs i) 0, Pt (nth cs i) 0] G (· = I (V.cmp (nth KS i) (nth US i)))) :
  PuG Tryz.prog 48 [Pt a 0, Pt b 0] G (· = I (V.cmps KS US)) := by
 have hk0 : bt (c0 :: r) (Int.toNat 0) = 91 ∨ bt (c0 :: r) (Int.toNat 0) = 63 := hc
 have hlx : (c0 :: r).length = r.length + 1 := rfl
 generalize c0 :: r = kk at *
 refine jE [(0, _), (1, _)] Tryz.func48 Tryz.ntmps48 fun B hB => ?_
 repeat' (first | refine jM ?_ | (refine k_op rfl ?_; (refine jV (g_ldS rfl rfl (by assumption) rfl rfl) ?_)) | (refine k_ff rfl (dFf (by omega)) ?_))
 refine k_loop (ι := Nat) (fun i => i ≤ n ∧ i ≤ m ∧ V.cmps KS US = V.cmps (KS.drop i) (US.drop i)) (fun i => [(0, Pt a 0), (1, Pt b 0), (9, I i)]) (fun _ => G) (fun i => []) (fun i => n - i) 0 ?_ (by repeat' constructor) rfl sRr (fun i Hi => ?_)
 ·exact ⟨Nat.zero_le _, Nat.zero_le _, rfl⟩
 obtain ⟨hi0, hj0, he⟩ := Hi
 by_cases hi : i < n
 ·by_cases hj : i < m
  ·have cx_less := ih i hi hj
   have hst := cmps_step (ks := KS) (us := US) (i := i) (by omega) (by omega)
   have hx1 : nth bs i = nth bs i := rfl
   have hx2 : nth cs i = nth cs i := rfl
   obtain ⟨b1, o1, c1, e, hs1⟩ := h1.expl (by omega)
   simp only [Value.slice.injEq] at e
   obtain ⟨rfl, -, rfl⟩ := e
   obtain ⟨b2, o2, c2, e, hs2⟩ := h2.expl (by omega)
   simp only [Value.slice.injEq] at e
   obtain ⟨rfl, -, rfl⟩ := e
   by_cases h0 : V.cmp (nth KS i) (nth US i) = 0
   ·rw [if_neg (by simpa using h0)] at hst
    repeat' (first | refine jM ?_ | (refine k_op rfl ?_; first | refine jV (g_ldS rfl rfl (by assumption) rfl rfl) ?_ | refine jV (g_lenL rfl) ?_ | (refine jV (g_pickT rfl rfl rfl) ?_) | (refine jV (g_pickF rfl rfl rfl) ?_)) | (refine k_gt rfl rfl rfl ?_) | (refine k_gf rfl rfl rfl ?_) | (refine k_tt rfl (dTt (by omega)) ?_) | (refine k_ff rfl (by first | rfl | (refine decide_eq_false ?_; (omega))) ?_) | (refine k_any (s_any (id := 19) _ (fun _ h => h) mixed ?_); refine jT 8 [0, 1, 2, 4, 7, 8, 9, 11] (bts 16 2967) ?_; (refine jG (bts 16 2975) 3 rfl (g_ldS rfl rfl (by assumption) rfl rfl) ?_); (refine jG (bts 16 3007) 5 rfl (g_iaddrN rfl rfl (by omega)) ?_); ((refine jG (bts 16 3071) 6 rfl (g_ldR1x rfl rfl (by assumption) ?_ (by assumption) rfl) ?_; (focus ((omega); done)))); (refine jG (bts 16 4095) 10 rfl (g_ldS rfl rfl (by assumption) rfl rfl) ?_); (refine jG (bts 16 8191) 12 rfl (g_iaddrN rfl rfl (by omega)) ?_); ((refine jG (bts 16 16383) 13 rfl (g_ldR1x rfl rfl (by assumption) ?_ (by assumption) rfl) ?_; (focus ((omega); done)))); refine jA 14 rfl ?_; (refine c_rt rfl rfl rfl cx_less rfl ?_); refine jS (bts 16 32767) ?_; refine jT 0 [15] (bts 16 65535) ?_; refine x_done (by kernel_rfl) (k_bk ?_)))
    exact k_rd (i + 1) ⟨by omega, by omega, he.trans hst⟩ (by omega) (by repeat' constructor) rfl sRr
   ·rw [if_pos h0] at hst
    repeat' (first | (refine jR ?_) | (refine k_op rfl ?_; first | refine jV (g_ldS rfl rfl (by assumption) rfl rfl) ?_ | refine jV (g_lenL rfl) ?_ | (refine jV (g_pickT rfl rfl rfl) ?_) | (refine jV (g_pickF rfl rfl rfl) ?_)) | (refine k_gt rfl rfl rfl ?_) | (refine k_gf rfl rfl rfl ?_) | (refine k_tt rfl (by refine decide_eq_true ?_; first | assumption | omega) ?_) | (refine k_ff rfl (by first | rfl | (refine decide_eq_false ?_; (omega))) ?_) | (refine k_any (s_any (id := 19) _ (fun _ h => h) mixed ?_); refine jT 8 [0, 1, 2, 4, 7, 8, 9, 11] (bts 16 2967) ?_; (refine jG (bts 16 2975) 3 rfl (g_ldS rfl rfl (by assumption) rfl rfl) ?_); (refine jG (bts 16 3007) 5 rfl (g_iaddrN rfl rfl (by omega)) ?_); ((refine jG (bts 16 3071) 6 rfl (g_ldR1x rfl rfl (by assumption) ?_ (by assumption) rfl) ?_; (focus ((omega); done)))); (refine jG (bts 16 4095) 10 rfl (g_ldS rfl rfl (by assumption) rfl rfl) ?_); (refine jG (bts 16 8191) 12 rfl (g_iaddrN rfl rfl (by omega)) ?_); ((refine jG (bts 16 16383) 13 rfl (g_ldR1x rfl rfl (by assumption) ?_ (by assumption) rfl) ?_; (focus ((omega); done)))); refine jA 14 rfl ?_; (refine c_rt rfl rfl rfl cx_less rfl ?_); refine jS (bts 16 32767) ?_; refine jT 0 [15] (bts 16 65535) ?_; refine x_done (by kernel_rfl) (k_bk ?_)))
    refine jZ (vs := [_]) rfl ⟨rfl, trivial⟩ rfl ⟨rfl, rfl, ?_⟩
    rw [oneOf_one, he, hst]
  ·have hst := cmps_end (ks := KS) (us := US) (i := i) (by omega) (by omega)
   repeat' (first | (refine jR ?_) | (refine k_op rfl ?_; first | refine jV (g_ldS rfl rfl (by assumption) rfl rfl) ?_ | refine jV (g_lenL rfl) ?_ | (refine jV (g_pickT rfl rfl rfl) ?_) | (refine jV (g_pickF rfl rfl rfl) ?_)) | (refine k_gt rfl rfl rfl ?_) | (refine k_gf rfl rfl rfl ?_) | (refine k_tt rfl (dTt (by omega)) ?_))
   refine jZ (vs := [_]) rfl ⟨rfl, trivial⟩ rfl ⟨rfl, rfl, ?_⟩
   rw [oneOf_one, he, hst]
 ·have hin : i = n := by omega
  have hst := cmps_nil (ks := KS) (us := US) (i := i) (by omega)
  repeat' (first | (refine jR ?_) | (refine k_op rfl ?_; first | refine jV (g_ldS rfl rfl (by assumption) rfl rfl) ?_ | refine jV (g_lenL rfl) ?_ | (refine jV (g_pickF rfl rfl rfl) ?_)) | (refine k_gf rfl rfl rfl ?_) | (refine k_ff rfl (dFf (by omega)) ?_) | (refine k_any (s_any (id := 22) _ (fun _ h => h) mixed ?_); refine jT 12 [0, 1, 2, 5, 6, 7, 11, 12, 13, 16, 17, 18] (bts 24 473319) ?_; (refine jG (bts 24 473327) 3 rfl (g_ldS rfl rfl (by assumption) rfl rfl) ?_); (refine jG (bts 24 473343) 4 rfl (g_lenL rfl) ?_); (refine jG (bts 24 473599) 8 rfl (g_ldS rfl rfl (by assumption) rfl rfl) ?_); (refine jG (bts 24 474111) 9 rfl (g_lenL rfl) ?_); (refine jG (bts 24 475135) 10 rfl (g_max rfl rfl) ?_); (refine jG (bts 24 491519) 14 rfl (g_ldS rfl rfl (by assumption) rfl rfl) ?_); (refine jG (bts 24 524287) 15 rfl (g_lenL rfl) ?_); (refine jG (bts 24 1048575) 19 rfl (g_ldS rfl rfl (by assumption) rfl rfl) ?_); (refine jG (bts 24 2097151) 20 rfl (g_lenL rfl) ?_); (refine jG (bts 24 4194303) 21 rfl (g_max rfl rfl) ?_); refine jA 22 rfl ?_; (refine c_rt rfl rfl rfl c_l13Sign rfl ?_); refine jS (bts 24 8388607) ?_; refine jT 0 [23] (bts 24 16777215) ?_; refine x_done (by kernel_rfl) (k_bk ?_)))
  refine jZ (vs := [_]) rfl ⟨rfl, trivial⟩ rfl ⟨rfl, rfl, ?_⟩
  rw [oneOf_one, he, hst]
  refine congrArg (Value.int .i64) ?_
  unfold sgn
  split <;> (first | (rw [if_pos (by omega)]; done) | (rw [if_neg (by omega), if_neg (by omega)]; done))
theorem sgn_self (n : Int) : sgn n n = 0 := by unfold sgn; rw [if_neg (by omega), if_neg (by omega)]
theorem sgn_ne {n m : Int} (h : n ≠ m) : sgn n m ≠ 0 := by
 unfold sgn
 split
 ·decide
 ·rw [if_pos (by omega)]; decide
theorem c_lessT {r kb txa txb : List UInt8} {a b n m : Nat} {KS US : List V} {bs cs : List Nat} {tg sg : List Int} {ak bk a2 b2 : Option Addr} {ck dk c2 d2 : Nat} (hn : n = KS.length) (hm : m = US.length) (hn9 : n ≤ 100000 ∧ m ≤ 100000)
  (ha : Seg G a 0 [S (64 :: r), S txa, .slice a2 n c2, .slice ak n ck]) (hb : Seg G b 0 [S kb, S txb, .slice b2 m d2, .slice bk m dk]) (h1 : SlV G (.slice ak n ck) 1 n (rows ptR bs)) (h2 : SlV G (.slice bk m dk) 1 m (rows ptR cs)) (hbl : bs.length = n) (hcl : cs.length = m)
  (h3 : SlV G (.slice a2 n c2) 1 n (rows inR tg)) (h4 : SlV G (.slice b2 m d2) 1 m (rows inR sg)) (htl : tg.length = n) (hsl : sg.length = m)
  (ih : ∀ i, i < n → i < m → (nth tg i ≠ nth sg i ∧ V.cmp (nth KS i) (nth US i) = sgn (nth tg i) (nth sg i)) ∨ (nth tg i = nth sg i ∧ PuG Tryz.prog 48 [Pt (nth bs i) 0, Pt (nth cs i) 0] G (· = I (V.cmp (nth KS i) (nth US i))))) :
  PuG Tryz.prog 48 [Pt a 0, Pt b 0] G (· = I (V.cmps KS US)) := by
 have hk0 : bt (64 :: r) (Int.toNat 0) = 64 := bt_zero 64 r
 have hlx : (64 :: r).length = r.length + 1 := rfl
 generalize 64 :: r = kk at *
 refine jE [(0, _), (1, _)] Tryz.func48 Tryz.ntmps48 fun B hB => ?_
 repeat' (first | refine jM ?_ | (refine k_op rfl ?_; (refine jV (g_ldS rfl rfl (by assumption) rfl rfl) ?_)) | (refine k_ff rfl (dFf (by omega)) ?_))
 refine k_loop (ι := Nat) (fun i => i ≤ n ∧ i ≤ m ∧ V.cmps KS US = V.cmps (KS.drop i) (US.drop i)) (fun i => [(0, Pt a 0), (1, Pt b 0), (9, I i)]) (fun _ => G) (fun i => []) (fun i => n - i) 0 ?_ (by repeat' constructor) rfl sRr (fun i Hi => ?_)
 ·exact ⟨Nat.zero_le _, Nat.zero_le _, rfl⟩
 obtain ⟨hi0, hj0, he⟩ := Hi
 by_cases hi : i < n
 ·by_cases hj : i < m
  ·have hst := cmps_step (ks := KS) (us := US) (i := i) (by omega) (by omega)
   have hx1 : nth bs i = nth bs i := rfl
   have hx2 : nth cs i = nth cs i := rfl
   have hx3 : nth tg i = nth tg i := rfl
   have hx4 : nth sg i = nth sg i := rfl
   obtain ⟨b1, o1, c1, e, hs1⟩ := h1.expl (by omega)
   simp only [Value.slice.injEq] at e
   obtain ⟨rfl, -, rfl⟩ := e
   obtain ⟨b4, o2, c2, e, hs2⟩ := h2.expl (by omega)
   simp only [Value.slice.injEq] at e
   obtain ⟨rfl, -, rfl⟩ := e
   obtain ⟨b5, o3, c3, e, hs3⟩ := h3.expl (by omega)
   simp only [Value.slice.injEq] at e
   obtain ⟨rfl, -, rfl⟩ := e
   obtain ⟨b6, o4, c4, e, hs4⟩ := h4.expl (by omega)
   simp only [Value.slice.injEq] at e
   obtain ⟨rfl, -, rfl⟩ := e
   rcases ih i hi hj with ⟨g1, g2⟩ | ⟨g1, cx_less⟩
   ·have g3 := sgn_ne g1
    rw [if_pos (by rw [g2]; exact g3), g2] at hst
    clear g1 g2
    repeat' (first | (refine jR ?_) | (refine k_op rfl ?_; first | refine jV (g_ldS rfl rfl (by assumption) rfl rfl) ?_ | refine jV (g_lenL rfl) ?_ | (refine jV (g_pickT rfl rfl rfl) ?_) | (refine jV (g_pickF rfl rfl rfl) ?_)) | (refine k_gt rfl rfl (dTt (by omega)) ?_) | (refine k_gf rfl rfl (dFf (by omega)) ?_) | (refine k_tt rfl (by first | rfl | (refine decide_eq_true ?_; first | assumption | omega)) ?_) | (refine k_ff rfl rfl ?_) | (refine k_any (s_any (id := 15) _ (fun _ h => h) mixed ?_); refine jT 8 [0, 1, 2, 4, 7, 8, 9, 11] (bts 16 2967) ?_; (refine jG (bts 16 2975) 3 rfl (g_ldS rfl rfl (by assumption) rfl rfl) ?_); (refine jG (bts 16 3007) 5 rfl (g_iaddrN rfl rfl (by omega)) ?_); ((refine jG (bts 16 3071) 6 rfl (g_ldR1x rfl rfl (by assumption) ?_ (by assumption) rfl) ?_; (focus ((omega); done)))); (refine jG (bts 16 4095) 10 rfl (g_ldS rfl rfl (by assumption) rfl rfl) ?_); (refine jG (bts 16 8191) 12 rfl (g_iaddrN rfl rfl (by omega)) ?_); ((refine jG (bts 16 16383) 13 rfl (g_ldR1x rfl rfl (by assumption) ?_ (by assumption) rfl) ?_; (focus ((omega); done)))); refine jA 14 rfl ?_; (refine c_rt rfl rfl rfl c_l13Sign rfl ?_); refine jS (bts 16 32767) ?_; refine jT 0 [15] (bts 16 65535) ?_; refine x_done (by kernel_rfl) (k_bk ?_)))
    refine jZ (vs := [_]) rfl ⟨rfl, trivial⟩ rfl ⟨rfl, rfl, ?_⟩
    rw [oneOf_one, he, hst]
   ·have g3 : sgn (nth tg i) (nth sg i) = 0 := by rw [g1]; exact sgn_self _
    clear g1
    by_cases h0 : V.cmp (nth KS i) (nth US i) = 0
    ·rw [if_neg (by simpa using h0)] at hst
     repeat' (first | refine jM ?_ | (refine k_op rfl ?_; first | refine jV (g_ldS rfl rfl (by assumption) rfl rfl) ?_ | refine jV (g_lenL rfl) ?_ | (refine jV (g_pickT rfl rfl rfl) ?_) | (refine jV (g_pickF rfl rfl rfl) ?_)) | (refine k_gt rfl rfl (dTt (by omega)) ?_) | (refine k_gf rfl rfl (dFf (by omega)) ?_) | (refine k_tt rfl (by first | rfl | (refine decide_eq_true ?_; (omega))) ?_) | (refine k_ff rfl (by first | rfl | (refine decide_eq_false ?_; (omega))) ?_) | (refine k_any (s_any (id := 15) _ (fun _ h => h) mixed ?_); refine jT 8 [0, 1, 2, 4, 7, 8, 9, 11] (bts 16 2967) ?_; (refine jG (bts 16 2975) 3 rfl (g_ldS rfl rfl (by assumption) rfl rfl) ?_); (refine jG (bts 16 3007) 5 rfl (g_iaddrN rfl rfl (by omega)) ?_); ((refine jG (bts 16 3071) 6 rfl (g_ldR1x rfl rfl (by assumption) ?_ (by assumption) rfl) ?_; (focus ((omega); done)))); (refine jG (bts 16 4095) 10 rfl (g_ldS rfl rfl (by assumption) rfl rfl) ?_); (refine jG (bts 16 8191) 12 rfl (g_iaddrN rfl rfl (by omega)) ?_); ((refine jG (bts 16 16383) 13 rfl (g_ldR1x rfl rfl (by assumption) ?_ (by assumption) rfl) ?_; (focus ((omega); done)))); refine jA 14 rfl ?_; (refine c_rt rfl rfl rfl c_l13Sign rfl ?_); refine jS (bts 16 32767) ?_; refine jT 0 [15] (bts 16 65535) ?_; refine x_done (by kernel_rfl) (k_bk ?_)) | (refine k_any (s_any (id := 19) _ (fun _ h => h) mixed ?_); refine jT 8 [0, 1, 2, 4, 7, 8, 9, 11] (bts 16 2967) ?_; (refine jG (bts 16 2975) 3 rfl (g_ldS rfl rfl (by assumption) rfl rfl) ?_); (refine jG (bts 16 3007) 5 rfl (g_iaddrN rfl rfl (by omega)) ?_); ((refine jG (bts 16 3071) 6 rfl (g_ldR1x rfl rfl (by assumption) ?_ (by assumption) rfl) ?_; (focus ((omega); done)))); (refine jG (bts 16 4095) 10 rfl (g_ldS rfl rfl (by assumption) rfl rfl) ?_); (refine jG (bts 16 8191) 12 rfl (g_iaddrN rfl rfl (by omega)) ?_); ((refine jG (bts 16 16383) 13 rfl (g_ldR1x rfl rfl (by assumption) ?_ (by assumption) rfl) ?_; (focus ((omega); done)))); refine jA 14 rfl ?_; (refine c_rt rfl rfl rfl cx_less rfl ?_); refine jS (bts 16 32767) ?_; refine jT 0 [15] (bts 16 65535) ?_; refine x_done (by kernel_rfl) (k_bk ?_)))
     exact k_rd (i + 1) ⟨by omega, by omega, he.trans hst⟩ (by omega) (by repeat' constructor) rfl sRr
    ·rw [if_pos h0] at hst
     repeat' (first | (refine jR ?_) | (refine k_op rfl ?_; first | refine jV (g_ldS rfl rfl (by assumption) rfl rfl) ?_ | refine jV (g_lenL rfl) ?_ | (refine jV (g_pickT rfl rfl rfl) ?_) | (refine jV (g_pickF rfl rfl rfl) ?_)) | (refine k_gt rfl rfl (dTt (by omega)) ?_) | (refine k_gf rfl rfl (dFf (by omega)) ?_) | (refine k_tt rfl (by first | rfl | (refine decide_eq_true ?_; first | assumption | omega)) ?_) | (refine k_ff rfl (by first | rfl | (refine decide_eq_false ?_; (omega))) ?_) | (refine k_any (s_any (id := 15) _ (fun _ h => h) mixed ?_); refine jT 8 [0, 1, 2, 4, 7, 8, 9, 11] (bts 16 2967) ?_; (refine jG (bts 16 2975) 3 rfl (g_ldS rfl rfl (by assumption) rfl rfl) ?_); (refine jG (bts 16 3007) 5 rfl (g_iaddrN rfl rfl (by omega)) ?_); ((refine jG (bts 16 3071) 6 rfl (g_ldR1x rfl rfl (by assumption) ?_ (by assumption) rfl) ?_; (focus ((omega); done)))); (refine jG (bts 16 4095) 10 rfl (g_ldS rfl rfl (by assumption) rfl rfl) ?_); (refine jG (bts 16 8191) 12 rfl (g_iaddrN rfl rfl (by omega)) ?_); ((refine jG (bts 16 16383) 13 rfl (g_ldR1x rfl rfl (by assumption) ?_ (by assumption) rfl) ?_; (focus ((omega); done)))); refine jA 14 rfl ?_; (refine c_rt rfl rfl rfl c_l13Sign rfl ?_); refine jS (bts 16 32767) ?_; refine jT 0 [15] (bts 16 65535) ?_; refine x_done (by kernel_rfl) (k_bk ?_)) | (refine k_any (s_any (id := 19) _ (fun _ h => h) mixed ?_); refine jT 8 [0, 1, 2, 4, 7, 8, 9, 11] (bts 16 2967) ?_; (refine jG (bts 16 2975) 3 rfl (g_ldS rfl rfl (by assumption) rfl rfl) ?_); (refine jG (bts 16 3007) 5 rfl (g_iaddrN rfl rfl (by omega)) ?_); ((refine jG (bts 16 3071) 6 rfl (g_ldR1x rfl rfl (by assumption) ?_ (by assumption) rfl) ?_; (focus ((omega); done)))); (refine jG (bts 16 4095) 10 rfl (g_ldS rfl rfl (by assumption) rfl rfl) ?_); (refine jG (bts 16 8191) 12 rfl (g_iaddrN rfl rfl (by omega)) ?_); ((refine jG (bts 16 16383) 13 rfl (g_ldR1x rfl rfl (by assumption) ?_ (by assumption) rfl) ?_; (focus ((omega); done)))); refine jA 14 rfl ?_; (refine c_rt rfl rfl rfl cx_less rfl ?_); refine jS (bts 16 32767) ?_; refine jT 0 [15] (bts 16 65535) ?_; refine x_done (by kernel_rfl) (k_bk ?_)))
     refine jZ (vs := [_]) rfl ⟨rfl, trivial⟩ rfl ⟨rfl, rfl, ?_⟩
     rw [oneOf_one, he, hst]
  ·have hst := cmps_end (ks := KS) (us := US) (i := i) (by omega) (by omega)
   repeat' (first | (refine jR ?_) | (refine k_op rfl ?_; first | refine jV (g_ldS rfl rfl (by assumption) rfl rfl) ?_ | refine jV (g_lenL rfl) ?_ | (refine jV (g_pickT rfl rfl rfl) ?_)) | (refine k_gt rfl rfl (dTt (by omega)) ?_) | (refine k_tt rfl (by first | rfl | (refine decide_eq_true ?_; (omega))) ?_))
   refine jZ (vs := [_]) rfl ⟨rfl, trivial⟩ rfl ⟨rfl, rfl, ?_⟩
   rw [oneOf_one, he, hst]
 ·have hin : i = n := by omega
  have hst := cmps_nil (ks := KS) (us := US) (i := i) (by omega)
  repeat' (first | (refine jR ?_) | (refine k_op rfl ?_; first | refine jV (g_ldS rfl rfl (by assumption) rfl rfl) ?_ | refine jV (g_lenL rfl) ?_ | (refine jV (g_pickF rfl rfl rfl) ?_)) | (refine k_gf rfl rfl (dFf (by omega)) ?_) | (refine k_ff rfl (dFf (by omega)) ?_) | (refine k_any (s_any (id := 22) _ (fun _ h => h) mixed ?_); refine jT 12 [0, 1, 2, 5, 6, 7, 11, 12, 13, 16, 17, 18] (bts 24 473319) ?_; (refine jG (bts 24 473327) 3 rfl (g_ldS rfl rfl (by assumption) rfl rfl) ?_); (refine jG (bts 24 473343) 4 rfl (g_lenL rfl) ?_); (refine jG (bts 24 473599) 8 rfl (g_ldS rfl rfl (by assumption) rfl rfl) ?_); (refine jG (bts 24 474111) 9 rfl (g_lenL rfl) ?_); (refine jG (bts 24 475135) 10 rfl (g_max rfl rfl) ?_); (refine jG (bts 24 491519) 14 rfl (g_ldS rfl rfl (by assumption) rfl rfl) ?_); (refine jG (bts 24 524287) 15 rfl (g_lenL rfl) ?_); (refine jG (bts 24 1048575) 19 rfl (g_ldS rfl rfl (by assumption) rfl rfl) ?_); (refine jG (bts 24 2097151) 20 rfl (g_lenL rfl) ?_); (refine jG (bts 24 4194303) 21 rfl (g_max rfl rfl) ?_); refine jA 22 rfl ?_; (refine c_rt rfl rfl rfl c_l13Sign rfl ?_); refine jS (bts 24 8388607) ?_; refine jT 0 [23] (bts 24 16777215) ?_; refine x_done (by kernel_rfl) (k_bk ?_)))
  refine jZ (vs := [_]) rfl ⟨rfl, trivial⟩ rfl ⟨rfl, rfl, ?_⟩
  rw [oneOf_one, he, hst]
  refine congrArg (Value.int .i64) ?_
  unfold sgn
  split <;> (first | (rw [if_pos (by omega)]; done) | (rw [if_neg (by omega), if_neg (by omega)]; done))
theorem c_lessE {r kb txa txb : List UInt8} {a b pa pb : Nat} {t t' : Int} (ha : Seg G a 0 [S (64 :: r), S txa, .slice (some ⟨pa, 0, none⟩) 1 1, nilS]) (hb : Seg G b 0 [S kb, S txb, .slice (some ⟨pb, 0, none⟩) 1 1, nilS]) (h1 : Seg G pa 0 [I t]) (h2 : Seg G pb 0 [I t']) :
  PuG Tryz.prog 48 [Pt a 0, Pt b 0] G (· = I (sgn t t')) := by
 have hk0 : bt (64 :: r) (Int.toNat 0) = 64 := bt_zero 64 r
 have hlx : (64 :: r).length = r.length + 1 := rfl
 generalize 64 :: r = kk at *
 refine jE [(0, _), (1, _)] Tryz.func48 Tryz.ntmps48 fun B hB => ?_
 repeat' (first | refine jM ?_ | (refine k_op rfl ?_; (refine jV (g_ldS rfl rfl (by assumption) rfl rfl) ?_)) | (refine k_ff rfl (dFf (by omega)) ?_))
 refine k_loop (ι := Nat) (fun i => i = 0 ∨ i = 1 ∧ t = t') (fun i => [(0, Pt a 0), (1, Pt b 0), (9, I i)]) (fun _ => G) (fun i => []) (fun i => 1 - i) 0 ?_ (by repeat' constructor) rfl sRr (fun i Hi => ?_)
 ·exact .inl rfl
 rcases Hi with rfl | ⟨rfl, rfl⟩
 ·by_cases ht : t = t'
  ·subst ht
   have g3 := sgn_self t
   repeat' (first | refine jM ?_ | (refine k_op rfl ?_; first | refine jV (g_ldS rfl rfl (by assumption) rfl rfl) ?_ | refine jV (g_lenL rfl) ?_ | (refine jV (g_pickT rfl rfl rfl) ?_) | (refine jV (g_pickF rfl rfl rfl) ?_)) | (refine k_gt rfl rfl rfl ?_) | (refine k_gf rfl rfl rfl ?_) | (refine k_tt rfl rfl ?_) | (refine k_ff rfl (by first | rfl | (refine decide_eq_false ?_; (omega))) ?_) | (refine k_any (s_any (id := 15) _ (fun _ h => h) mixed ?_); refine jT 8 [0, 1, 2, 4, 7, 8, 9, 11] (bts 16 2967) ?_; (refine jG (bts 16 2975) 3 rfl (g_ldS rfl rfl (by assumption) rfl rfl) ?_); (refine jG (bts 16 3007) 5 rfl (g_iaddrN rfl rfl (by omega)) ?_); (refine jG (bts 16 3071) 6 rfl (g_ldS rfl rfl (by assumption) rfl rfl) ?_); (refine jG (bts 16 4095) 10 rfl (g_ldS rfl rfl (by assumption) rfl rfl) ?_); (refine jG (bts 16 8191) 12 rfl (g_iaddrN rfl rfl (by omega)) ?_); (refine jG (bts 16 16383) 13 rfl (g_ldS rfl rfl (by assumption) rfl rfl) ?_); refine jA 14 rfl ?_; (refine c_rt rfl rfl rfl c_l13Sign rfl ?_); refine jS (bts 16 32767) ?_; refine jT 0 [15] (bts 16 65535) ?_; refine x_done (by kernel_rfl) (k_bk ?_)))
   exact k_rd 1 (.inr ⟨rfl, rfl⟩) (by omega) (by repeat' constructor) rfl sRr
  ·have g3 := sgn_ne ht
   repeat' (first | (refine jR ?_) | (refine k_op rfl ?_; first | refine jV (g_ldS rfl rfl (by assumption) rfl rfl) ?_ | refine jV (g_lenL rfl) ?_ | (refine jV (g_pickT rfl rfl rfl) ?_) | (refine jV (g_pickF rfl rfl rfl) ?_)) | (refine k_gt rfl rfl rfl ?_) | (refine k_gf rfl rfl rfl ?_) | (refine k_tt rfl (by first | rfl | (refine decide_eq_true ?_; (assumption))) ?_) | (refine k_ff rfl rfl ?_) | (refine k_any (s_any (id := 15) _ (fun _ h => h) mixed ?_); refine jT 8 [0, 1, 2, 4, 7, 8, 9, 11] (bts 16 2967) ?_; (refine jG (bts 16 2975) 3 rfl (g_ldS rfl rfl (by assumption) rfl rfl) ?_); (refine jG (bts 16 3007) 5 rfl (g_iaddrN rfl rfl (by omega)) ?_); (refine jG (bts 16 3071) 6 rfl (g_ldS rfl rfl (by assumption) rfl rfl) ?_); (refine jG (bts 16 4095) 10 rfl (g_ldS rfl rfl (by assumption) rfl rfl) ?_); (refine jG (bts 16 8191) 12 rfl (g_iaddrN rfl rfl (by omega)) ?_); (refine jG (bts 16 16383) 13 rfl (g_ldS rfl rfl (by assumption) rfl rfl) ?_); refine jA 14 rfl ?_; (refine c_rt rfl rfl rfl c_l13Sign rfl ?_); refine jS (bts 16 32767) ?_; refine jT 0 [15] (bts 16 65535) ?_; refine x_done (by kernel_rfl) (k_bk ?_)))
   refine jZ (vs := [_]) rfl ⟨rfl, trivial⟩ rfl ⟨rfl, rfl, ?_⟩
   rw [oneOf_one]
 ·repeat' (first | (refine jR ?_) | (refine k_op rfl ?_; first | refine jV (g_ldS rfl rfl (by assumption) rfl rfl) ?_ | refine jV (g_lenL rfl) ?_ | (refine jV (g_pickF rfl rfl rfl) ?_)) | (refine k_gf rfl rfl rfl ?_) | (refine k_ff rfl rfl ?_) | (refine k_any (s_any (id := 22) _ (fun _ h => h) mixed ?_); refine jT 12 [0, 1, 2, 5, 6, 7, 11, 12, 13, 16, 17, 18] (bts 24 473319) ?_; (refine jG (bts 24 473327) 3 rfl (g_ldS rfl rfl (by assumption) rfl rfl) ?_); (refine jG (bts 24 473343) 4 rfl (g_lenL rfl) ?_); (refine jG (bts 24 473599) 8 rfl (g_ldS rfl rfl (by assumption) rfl rfl) ?_); (refine jG (bts 24 474111) 9 rfl (g_lenL rfl) ?_); (refine jG (bts 24 475135) 10 rfl (g_max rfl rfl) ?_); (refine jG (bts 24 491519) 14 rfl (g_ldS rfl rfl (by assumption) rfl rfl) ?_); (refine jG (bts 24 524287) 15 rfl (g_lenL rfl) ?_); (refine jG (bts 24 1048575) 19 rfl (g_ldS rfl rfl (by assumption) rfl rfl) ?_); (refine jG (bts 24 2097151) 20 rfl (g_lenL rfl) ?_); (refine jG (bts 24 4194303) 21 rfl (g_max rfl rfl) ?_); refine jA 22 rfl ?_; (refine c_rt rfl rfl rfl c_l13Sign rfl ?_); refine jS (bts 24 8388607) ?_; refine jT 0 [23] (bts 24 16777215) ?_; refine x_done (by kernel_rfl) (k_bk ?_)))
  refine jZ (vs := [_]) rfl ⟨rfl, trivial⟩ rfl ⟨rfl, rfl, ?_⟩
  rw [oneOf_one, sgn_self, sgn_self]
theorem c_lessF {a b : Nat} {x y ka kb tx ty : List UInt8} (h : (ka = [110] ∧ kb = [110] ∧ False) ∨ (ka = [116] ∧ kb = [116] ∧ tx = 39 :: (x ++ [39]) ∧ ty = 39 :: (y ++ [39])) ∨ (ka = [102] ∧ kb = [102] ∧ tx = x ∧ ty = y ∧ (x = [121, 101, 115] ∨ x = [110, 111]))) (hl : x.length ≤ 100000 ∧ y.length ≤ 100000)
  (ha : Seg G a 0 [S ka, S tx, nilS, nilS]) (hb : Seg G b 0 [S kb, S ty, nilS, nilS]) : PuG Tryz.prog 48 [Pt a 0, Pt b 0] G (· = I (cmpB x y)) := by
 rcases h with ⟨_, _, h⟩ | ⟨rfl, rfl, h3, h4⟩ | ⟨rfl, rfl, rfl, rfl, h5⟩
 ·exact h.elim
 ·have cx_l13t := c_l13T (G := G) (s := tx) (t := ty) (x := x) (y := y) (.inr ⟨h3, h4⟩) hl
  clear h3 h4
  refine jE [(0, _), (1, _)] Tryz.func48 Tryz.ntmps48 fun B hB => ?_
  repeat' (first | (refine run (t := tb) 400 rfl ?_ ?_; (focus (repeat' (first | exact trivial | apply And.intro | omega | (simp only [List.length_append, List.length_cons, List.length_nil, Int.toNat_natCast]; omega))))) | (refine k_op rfl ?_; (refine jV (g_ldS rfl rfl (by assumption) rfl rfl) ?_)) | (refine k_tt rfl rfl ?_) | (refine k_ff rfl rfl ?_) | (refine k_any (s_any (id := 8) _ (fun _ h => h) mixed ?_); refine jT 4 [0, 1, 2, 4, 5, 6] (bts 10 119) ?_; (refine jG (bts 10 127) 3 rfl (g_ldS rfl rfl (by assumption) rfl rfl) ?_); (refine jG (bts 10 255) 7 rfl (g_ldS rfl rfl (by assumption) rfl rfl) ?_); refine jA 8 rfl ?_; (refine c_rt rfl rfl rfl cx_l13t rfl ?_); refine jS (bts 10 511) ?_; refine jT 0 [9] (bts 10 1023) ?_; refine x_done (by kernel_rfl) (k_bk ?_)))
  refine jZ (vs := [_]) rfl ⟨rfl, trivial⟩ rfl ⟨rfl, rfl, ?_⟩
  rfl
 ·have cx_l13t := c_l13T (G := G) (s := tx) (t := ty) (x := tx) (y := ty) (.inl (by rcases h5 with rfl | rfl; exact ⟨121, _, rfl, by decide, rfl, rfl⟩; exact ⟨110, _, rfl, by decide, rfl, rfl⟩)) hl
  clear h5
  refine jE [(0, _), (1, _)] Tryz.func48 Tryz.ntmps48 fun B hB => ?_
  repeat' (first | (refine run (t := tb) 400 rfl ?_ ?_; (focus (repeat' (first | exact trivial | apply And.intro | omega | (simp only [List.length_append, List.length_cons, List.length_nil, Int.toNat_natCast]; omega))))) | (refine k_op rfl ?_; (refine jV (g_ldS rfl rfl (by assumption) rfl rfl) ?_)) | (refine k_tt rfl rfl ?_) | (refine k_ff rfl rfl ?_) | (refine k_any (s_any (id := 8) _ (fun _ h => h) mixed ?_); refine jT 4 [0, 1, 2, 4, 5, 6] (bts 10 119) ?_; (refine jG (bts 10 127) 3 rfl (g_ldS rfl rfl (by assumption) rfl rfl) ?_); (refine jG (bts 10 255) 7 rfl (g_ldS rfl rfl (by assumption) rfl rfl) ?_); refine jA 8 rfl ?_; (refine c_rt rfl rfl rfl cx_l13t rfl ?_); refine jS (bts 10 511) ?_; refine jT 0 [9] (bts 10 1023) ?_; refine x_done (by kernel_rfl) (k_bk ?_)))
  refine jZ (vs := [_]) rfl ⟨rfl, trivial⟩ rfl ⟨rfl, rfl, ?_⟩
  rfl
theorem c_lessN {a b : Nat} {x y : List UInt8} {p q : Int} (hl : x.length ≤ 100000 ∧ y.length ≤ 100000) (h1 : numOf x 999999 = some p) (h2 : numOf y 999999 = some q)
  (ha : Seg G a 0 [S [110], S x, nilS, nilS]) (hb : Seg G b 0 [S [110], S y, nilS, nilS]) : PuG Tryz.prog 48 [Pt a 0, Pt b 0] G (· = I (sgn p q)) := by
 have hp : ∀ {x : List UInt8} {p : Int}, x.length ≤ 100000 → numOf x 999999 = some p → PuG Tryz.prog 67 [S x, I 999999] G (· = Tu [I p, Bo true]) := fun hl h => by
  refine (c_l3Num (G := G) (by omega)).mono ?_
  rintro v G' L' ⟨g1, g2, n, rfl, h4⟩
  exact ⟨g1, g2, by rw [h4 _ h, h]; rfl⟩
 have cx_num := hp hl.1 h1
 clear hp
 refine jE [(0, _), (1, _)] Tryz.func48 Tryz.ntmps48 fun B hB => ?_
 repeat' (first | (refine run (t := tb) 400 rfl ?_ ?_; (focus (repeat' (first | exact trivial | apply And.intro | omega | (simp only [List.length_append, List.length_cons, List.length_nil, Int.toNat_natCast]; omega))))) | (refine k_op rfl ?_; first | refine jV (g_ldS rfl rfl (by assumption) rfl rfl) ?_ | (refine c_rt rfl rfl rfl cx_num rfl ?_) | (refine c_pu rfl rfl rfl (c_l3Num (by omega)) rfl ?_; rintro _ ⟨n, rfl, hnum⟩) | (refine c_rt rfl rfl rfl c_l13Sign rfl ?_)) | (refine k_tt rfl rfl ?_))
 obtain rfl := hnum _ h2
 repeat' (fail)
 refine jZ (vs := [_]) rfl ⟨rfl, trivial⟩ rfl ⟨rfl, rfl, ?_⟩
 rfl
theorem repR_fld {ts : List Ty} (hw : SchW ts) {t : Ty} {k : List UInt8} (h0 : refT ts k = some t) {fs fs' : List (Fld × V)} {i : Nat} (h1 : (nth fs i).1 ∈ t.fields) (h2 : (nth fs' i).1 ∈ t.fields) (he : (nth fs i).1.tag = (nth fs' i).1.tag) : (nth fs i).1 = (nth fs' i).1 := fld_tag (hw.ty t (refT_mem h0)) h1 h2 he
theorem cmp_fld {t t' : Int} {v u : V} (h : t ≠ t') : V.cmp (.nd 61 [] t [v]) (.nd 61 [] t' [u]) = sgn t t' := by rw [V.cmp, if_neg (by decide), if_neg (by decide), if_neg (by decide)]; exact if_pos ⟨.inr rfl, h⟩
theorem cmp_fld2 {t : Int} {v u : V} : V.cmp (.nd 61 [] t [v]) (.nd 61 [] t [u]) = V.cmp v u := by
 rw [V.cmp, if_neg (by decide), if_neg (by decide), if_neg (by decide), V.tag, if_neg (fun h => h.2 rfl), V.kids, V.cmps]
 split
 ·rfl
 ·rename_i h; rw [V.cmps]; simp only [ne_eq, Decidable.not_not] at h; rw [h]; rfl
theorem cmps_one {v u : V} : V.cmps [v] [u] = V.cmp v u := by
 rw [V.cmps]
 split
 ·rfl
 ·rename_i h; rw [V.cmps]; simp only [ne_eq, Decidable.not_not] at h; rw [h]; rfl
theorem cmp_uni {t t' : Int} {v u : V} : V.cmp (.nd 85 [] t [v]) (.nd 85 [] t' [u]) = V.cmp (.nd 61 [] t [v]) (.nd 61 [] t' [u]) := by
 rw [V.cmp, if_neg (by decide), if_neg (by decide), if_neg (by decide)]
 by_cases h : t = t'
 ·subst h
  rw [V.tag, if_neg (fun h => h.2 rfl), V.kids, cmps_one, cmp_fld2]
 ·rw [cmp_fld h]; exact if_pos ⟨.inl rfl, h⟩
theorem cmp_lst {w : Nat} {ks us : List V} (h : w = 91 ∨ w = 63 ∨ w = 82) : V.cmp (.nd w [] 0 ks) (.nd w [] 0 us) = V.cmps ks us := by
 rw [V.cmp, if_neg (by omega), if_neg (by omega), if_neg (by omega)]
 exact if_neg (fun h => h.2 rfl)
theorem repR_k {ts : List Ty} {v : V} {k : List UInt8} {b : Nat} (h : RepR G ts v k b) {t : Ty} (hr : refT ts k = some t) :
  (t.sort = 82 ∧ ∃ (fs : List (Fld × V)) (bs : List Nat) (a a2 : Option Addr) (c c2 : Nat), v = .nd 82 [] 0 (fs.map fldV) ∧ Seg G b 0 [S k, S [82], .slice a fs.length c, .slice a2 fs.length c2] ∧ SlV G (.slice a fs.length c) 1 fs.length (rows inR (fs.map fun p => p.1.tag)) ∧ SlV G (.slice a2 fs.length c2) 1 fs.length (rows ptR bs) ∧ bs.length = fs.length ∧ (∀ i, i < fs.length → (nth fs i).1 ∈ t.fields) ∧ (∀ i, i < fs.length → RepR G ts (nth fs i).2 (nth fs i).1.kind (nth bs i)))
  ∨ (t.sort = 69 ∧ ∃ p d, v = .nd 69 [] d.tag [] ∧ d ∈ t.fields ∧ Seg G b 0 [S k, S [69], .slice (some ⟨p, 0, none⟩) 1 1, nilS] ∧ Seg G p 0 [I d.tag])
  ∨ (t.sort = 85 ∧ ∃ p q b' cc d u, v = .nd 85 [] d.tag [u] ∧ (d ∈ t.fields ∧ 1 ≤ cc) ∧ Seg G b 0 [S k, S [85], .slice (some ⟨p, 0, none⟩) 1 1, .slice (some ⟨q, 0, none⟩) 1 cc] ∧ Seg G p 0 [I d.tag] ∧ Seg G q 0 [Pt b' 0] ∧ RepR G ts u d.kind b') := by
 cases h with
 | leaf w x _ tx _ h1 h2 =>
  rcases h2 with ⟨_, rfl, _⟩ | ⟨_, rfl, _⟩ | ⟨_, rfl, _⟩
  all_goals exact (refT_no hr rfl (by decide)).elim
 | lst => exact (refT_no hr rfl (by decide)).elim
 | non => exact (refT_no hr rfl (by decide)).elim
 | opt => exact (refT_no hr rfl (by decide)).elim
 | recd _ _ t' fs bs a a2 c c2 h0 h1 h2 h3 h4 h5 hk => rw [hr] at h0; obtain ⟨h0, h9⟩ := h0; obtain rfl := Option.some.inj h0; exact .inl ⟨h9, fs, bs, a, a2, c, c2, rfl, h1, h2, h3, h4, h5, hk⟩
 | enm _ _ p t' d h0 h1 h2 h3 => rw [hr] at h0; obtain ⟨h0, h9⟩ := h0; obtain rfl := Option.some.inj h0; exact .inr (.inl ⟨h9, p, d, rfl, h1, h2, h3⟩)
 | uni _ _ p q b' cc t' d u hcc h0 h1 h2 h3 h4 hk => rw [hr] at h0; obtain ⟨h0, h9⟩ := h0; obtain rfl := Option.some.inj h0; exact .inr (.inr ⟨h9, p, q, b', cc, d, u, rfl, ⟨h1, hcc⟩, h2, h3, h4, hk⟩)
theorem repR_c {ts : List Ty} {v : V} {c : UInt8} {k : List UInt8} {b : Nat} (h : RepR G ts v (c :: k) b) (hc : c.toNat ≠ 64) :
  (c.toNat = 110 ∧ k = [] ∧ ∃ x, v = .nd 110 x 0 [] ∧ Seg G b 0 [S [110], S x, nilS, nilS]) ∨ (c.toNat = 116 ∧ ∃ x, v = .nd 116 x 0 [] ∧ Seg G b 0 [S [116], S (39 :: (x ++ [39])), nilS, nilS]) ∨ (c.toNat = 102 ∧ ∃ x, v = .nd 102 x 0 [] ∧ (x = [121, 101, 115] ∨ x = [110, 111]) ∧ Seg G b 0 [S [102], S x, nilS, nilS])
  ∨ (c.toNat = 91 ∧ ∃ ks bs a cc, v = .nd 91 [] 0 ks ∧ Seg G b 0 [S (c :: k), S [], nilS, .slice a ks.length cc] ∧ SlV G (.slice a ks.length cc) 1 ks.length (rows ptR bs) ∧ bs.length = ks.length ∧ (∀ i, i < ks.length → RepR G ts (nth ks i) k (nth bs i)))
  ∨ (c.toNat = 63 ∧ ((v = .nd 63 [] 0 [] ∧ Seg G b 0 [S (c :: k), S [], nilS, nilS]) ∨ ∃ q b' cc u, v = .nd 63 [] 0 [u] ∧ 1 ≤ cc ∧ Seg G b 0 [S (c :: k), S [], nilS, .slice (some ⟨q, 0, none⟩) 1 cc] ∧ Seg G q 0 [Pt b' 0] ∧ RepR G ts u k b')) := by
 generalize hk : c :: k = k' at h
 cases h with
 | leaf w x _ tx _ h1 h2 =>
  rcases h2 with ⟨rfl, rfl, rfl, _⟩ | ⟨rfl, rfl, rfl⟩ | ⟨rfl, rfl, rfl, h3⟩
  ·injection hk with e1 e2; subst e1; subst e2; exact .inl ⟨rfl, rfl, tx, rfl, h1⟩
  ·injection hk with e1 e2; subst e1; exact .inr (.inl ⟨rfl, x, rfl, h1⟩)
  ·injection hk with e1 e2; subst e1; exact .inr (.inr (.inl ⟨rfl, tx, rfl, h3, h1⟩))
 | lst k b ks bs a cc h1 h2 h3 h4 => injection hk with e1 e2; subst e1; subst e2; exact .inr (.inr (.inr (.inl ⟨rfl, ks, bs, a, cc, rfl, h1, h2, h3, h4⟩)))
 | non k b h1 => injection hk with e1 e2; subst e1; subst e2; exact .inr (.inr (.inr (.inr ⟨rfl, .inl ⟨rfl, h1⟩⟩)))
 | opt k b q b' cc u h0 h1 h2 h3 => injection hk with e1 e2; subst e1; subst e2; exact .inr (.inr (.inr (.inr ⟨rfl, .inr ⟨q, b', cc, u, rfl, h0, h1, h2, h3⟩⟩)))
 | recd _ _ t' fs bs a a2 c c2 h0 => exact (refT_no h0.1 hk.symm hc).elim
 | enm _ _ p t' d h0 => exact (refT_no h0.1 hk.symm hc).elim
 | uni _ _ p q b' cc t' d u hcc h0 => exact (refT_no h0.1 hk.symm hc).elim
theorem slv_nil0 {xs : List Nat} (h : xs = []) : SlV G (.slice none 0 0) 1 0 (rows ptR xs) := by subst h; exact ⟨rfl, .inl ⟨rfl, rfl⟩⟩
theorem c_less {ts : List Ty} (hw : SchW ts) {v : V} {k : List UInt8} {b : Nat} (h : RepR G ts v k b) : ∀ {u : V} {b' : Nat}, v.wf → u.wf → v.tot ≤ 100000 → u.tot ≤ 100000 → RepR G ts u k b' → PuG Tryz.prog 48 [Pt b 0, Pt b' 0] G (· = I (v.cmp u)) := by
 induction h with
 | leaf w x k tx b h1 h2 =>
  intro u b' hv hu htv htu hr
  rw [nd_tot] at htv
  rcases h2 with ⟨rfl, rfl, rfl, _⟩ | ⟨rfl, rfl, rfl⟩ | ⟨rfl, rfl, rfl, h3⟩
  ·rcases repR_c hr (by decide) with ⟨_, _, y, rfl, h4⟩ | ⟨h, _⟩ | ⟨h, _⟩ | ⟨h, _⟩ | ⟨h, _⟩
   ·rw [nd_tot] at htu
    obtain ⟨p, hp⟩ := num_wf hv
    obtain ⟨q, hq⟩ := num_wf hu
    have e : V.cmp (.nd 110 tx 0 []) (.nd 110 y 0 []) = sgn p q := by rw [V.cmp, if_pos rfl, hp, V.text, hq]; rfl
    rw [e]
    exact c_lessN (by omega) hp hq h1 h4
   all_goals cases h
  ·rcases repR_c hr (by decide) with ⟨h, _⟩ | ⟨_, y, rfl, h4⟩ | ⟨h, _⟩ | ⟨h, _⟩ | ⟨h, _⟩
   ·cases h
   ·rw [nd_tot] at htu
    have e : V.cmp (.nd 116 x 0 []) (.nd 116 y 0 []) = cmpB x y := by rw [V.cmp, if_neg (by decide), if_pos (.inl rfl)]; rfl
    rw [e]
    exact c_lessF (.inr (.inl ⟨rfl, rfl, rfl, rfl⟩)) (by omega) h1 h4
   all_goals cases h
  ·rcases repR_c hr (by decide) with ⟨h, _⟩ | ⟨h, _⟩ | ⟨_, y, rfl, _, h4⟩ | ⟨h, _⟩ | ⟨h, _⟩
   ·cases h
   ·cases h
   ·rw [nd_tot] at htu
    have e : V.cmp (.nd 102 tx 0 []) (.nd 102 y 0 []) = cmpB tx y := by rw [V.cmp, if_neg (by decide), if_pos (.inr rfl)]; rfl
    rw [e]
    exact c_lessF (.inr (.inr ⟨rfl, rfl, rfl, rfl, h3⟩)) (by omega) h1 h4
   all_goals cases h
 | lst k b ks bs a c h1 h2 h3 hk ih =>
  intro u b' hv hu htv htu hr
  rcases repR_c hr (by decide) with ⟨h, _⟩ | ⟨h, _⟩ | ⟨h, _⟩ | ⟨_, us, cs, a', c', rfl, g1, g2, g3, g4⟩ | ⟨h, _⟩
  ·cases h
  ·cases h
  ·cases h
  ·rw [nd_tot] at htv htu
   have hkl := tots_len ks
   have hul := tots_len us
   rw [cmp_lst (.inl rfl)]
   refine c_lessL (.inl rfl) rfl rfl (by omega) h1 g1 h2 g2 h3 g3 fun i hi hj => ?_
   have h4 := tot_nth hi
   have h5 := tot_nth hj
   exact ih i hi (wf_nth (wf_kids hv) hi) (wf_nth (wf_kids hu) hj) (by omega) (by omega) (g4 i hj)
  ·cases h
 | non k b h1 =>
  intro u b' hv hu htv htu hr
  rcases repR_c hr (by decide) with ⟨h, _⟩ | ⟨h, _⟩ | ⟨h, _⟩ | ⟨h, _⟩ | ⟨_, ⟨rfl, g1⟩ | ⟨q, b2, dd, u, rfl, g0, g1, g2, g3⟩⟩
  ·cases h
  ·cases h
  ·cases h
  ·cases h
  ·rw [cmp_lst (.inr (.inl rfl))]
   exact c_lessL (bs := []) (cs := []) (.inr rfl) rfl rfl (by simp) h1 g1 (slv_nil0 rfl) (slv_nil0 rfl) rfl rfl fun i hi => absurd hi (by simp)
  ·rw [cmp_lst (.inr (.inl rfl))]
   exact c_lessL (bs := []) (cs := [b2]) (.inr rfl) rfl rfl (by simp) h1 g1 (slv_nil0 rfl) (slv_onec g0 g2) rfl rfl fun i hi => absurd hi (by simp)
 | opt k b kb b1 cc v h0 h1 h2 h3 ih =>
  intro u b' hv hu htv htu hr
  rcases repR_c hr (by decide) with ⟨h, _⟩ | ⟨h, _⟩ | ⟨h, _⟩ | ⟨h, _⟩ | ⟨_, ⟨rfl, g1⟩ | ⟨q, b2, dd, u, rfl, g0, g1, g2, g3⟩⟩
  ·cases h
  ·cases h
  ·cases h
  ·cases h
  ·rw [cmp_lst (.inr (.inl rfl))]
   exact c_lessL (bs := [b1]) (cs := []) (.inr rfl) rfl rfl (by simp) h1 g1 (slv_onec h0 h2) (slv_nil0 rfl) rfl rfl fun i _ hi => absurd hi (by simp)
  ·rw [cmp_lst (.inr (.inl rfl))]
   simp only [nd_tot, V.tots] at htv htu
   refine c_lessL (bs := [b1]) (cs := [b2]) (.inr rfl) rfl rfl (by simp) h1 g1 (slv_onec h0 h2) (slv_onec g0 g2) rfl rfl fun i hi _ => ?_
   have hi0 : i = 0 := by simpa using hi
   subst hi0
   show PuG _ _ [Pt b1 0, Pt b2 0] G (· = I (V.cmp v u))
   exact ih (wf_kids hv).1 (wf_kids hu).1 (by omega) (by omega) g3
 | recd k b t fs bs a a2 c c2 h0 h1 h2 h3 h4 h5 hk ih =>
  intro u b' hv hu htv htu hr
  obtain ⟨r, rfl⟩ := refT_64 h0.1
  rcases repR_k hr h0.1 with ⟨_, fs', cs, p, p2, q, q2, rfl, g1, g2, g3, g4, g5, g6⟩ | ⟨h, _⟩ | ⟨h, _⟩
  ·have hnt : ∀ (fs : List (Fld × V)) i, i < fs.length → nth (fs.map fldV) i = fldV (nth fs i) := fun fs i hi => by rw [nth_eq (by simpa using hi), nth_eq hi]; simp
   have htn : ∀ (fs : List (Fld × V)) i, i < fs.length → nth (fs.map fun p : Fld × V => p.1.tag) i = (nth fs i).1.tag := fun fs i hi => by rw [nth_eq (by simpa using hi), nth_eq hi]; simp
   rw [nd_tot] at htv htu
   have e0 : (fs.map fun p : Fld × V => V.nd 61 [] p.1.tag [p.2]) = fs.map fldV := rfl
   rw [e0] at hv htv ⊢
   have hkl := tots_len (fs.map fldV)
   have hul := tots_len (fs'.map fldV)
   have e1 : (fs.map fldV).length = fs.length := by simp
   have e2 : (fs'.map fldV).length = fs'.length := by simp
   rw [cmp_lst (.inr (.inr rfl))]
   refine c_lessT (KS := fs.map fldV) (US := fs'.map fldV) e1.symm e2.symm (by omega) h1 g1 h3 g3 h4 g4 h2 g2 (by simp) (by simp) fun i hi hj => ?_
   rw [htn fs i hi, htn fs' i hj, hnt fs i hi, hnt fs' i hj]
   by_cases ht : (nth fs i).1.tag = (nth fs' i).1.tag
   ·have hd := repR_fld hw h0.1 (h5 i hi) (g5 i hj) ht
    have h7 := tot_nth (ks := fs.map fldV) (i := i) (by omega)
    have h8 := tot_nth (ks := fs'.map fldV) (i := i) (by omega)
    have w7 := wf_nth (wf_kids hv) (i := i) (by omega)
    have w8 := wf_nth (wf_kids hu) (i := i) (by omega)
    rw [hnt fs i hi] at h7 w7
    rw [hnt fs' i hj] at h8 w8
    simp only [nd_tot, V.tots] at h7 h8
    refine .inr ⟨ht, ?_⟩
    rw [show fldV (nth fs i) = .nd 61 [] (nth fs' i).1.tag [(nth fs i).2] by rw [← ht], cmp_fld2]
    exact ih i hi (wf_kids w7).1 (wf_kids w8).1 (by omega) (by omega) (by rw [hd]; exact g6 i hj)
   ·exact .inl ⟨ht, cmp_fld ht⟩
  ·omega
  ·omega
 | enm k b tgb t d h0 h1 h2 h3 =>
  intro u b' hv hu htv htu hr
  obtain ⟨r, rfl⟩ := refT_64 h0.1
  rcases repR_k hr h0.1 with ⟨h, _⟩ | ⟨_, p, d', rfl, _, g2, g3⟩ | ⟨h, _⟩
  ·omega
  ·have e : V.cmp (.nd 69 [] d.tag []) (.nd 69 [] d'.tag []) = sgn d.tag d'.tag := by rw [V.cmp, if_neg (by decide), if_neg (by decide), if_pos rfl]; rfl
   rw [e]
   exact c_lessE h2 g2 h3 g3
  ·omega
 | uni k b tgb kb b1 cc1 t d v hcc1 h0 h1 h2 h3 h4 hk ih =>
  intro u b' hv hu htv htu hr
  obtain ⟨r, rfl⟩ := refT_64 h0.1
  rcases repR_k hr h0.1 with ⟨h, _⟩ | ⟨h, _⟩ | ⟨_, p, q, b2, cc2, d', u, rfl, ⟨g1, gcc⟩, g2, g3, g4, g5⟩
  ·omega
  ·omega
  ·simp only [nd_tot, V.tots] at htv htu
   rw [cmp_uni, ← cmps_one]
   refine c_lessT (KS := [fldV (d, v)]) (US := [fldV (d', u)]) (tg := [d.tag]) (sg := [d'.tag]) (bs := [b1]) (cs := [b2]) rfl rfl (by simp) h2 g2 (slv_onec hcc1 h4) (slv_onec gcc g4) rfl rfl (slv_one h3) (slv_one g3) rfl rfl fun i hi _ => ?_
   have h9 : i = 0 := by have h8 : i < 1 := hi; omega
   subst h9
   by_cases ht : d.tag = d'.tag
   ·have hd := fld_tag (hw.ty t (refT_mem h0.1)) h1 g1 ht
    refine .inr ⟨ht, ?_⟩
    show PuG _ _ _ _ (· = I (V.cmp (fldV (d, v)) (fldV (d', u))))
    rw [show fldV (d, v) = .nd 61 [] d'.tag [v] by rw [← ht], cmp_fld2]
    show PuG _ _ [Pt b1 0, Pt b2 0] G (· = I (V.cmp v u))
    exact ih (wf_kids hv).1 (wf_kids hu).1 (by omega) (by omega) (by rw [hd]; exact g5)
   ·exact .inl ⟨ht, cmp_fld ht⟩
theorem given_some {s k w : List UInt8} {u : V} (hg : givenV s k w = some u) : ∃ ts, schemaOf s = some ts ∧ kindIn ts k = true ∧ valOf ts k w = some u ∧ u.tot ≤ 40000 ∧ u.wf := by
 obtain ⟨ts, hs, hki, hvo⟩ : ∃ ts, schemaOf s = some ts ∧ kindIn ts k = true ∧ valOf ts k w = some u := by
  unfold givenV at hg
  cases hs : schemaOf s with
  | none => rw [hs] at hg; cases hg
  | some ts =>
   rw [hs] at hg
   dsimp only at hg
   by_cases hk : kindIn ts k = true
   ·rw [if_pos hk] at hg; exact ⟨ts, rfl, hk, hg⟩
   ·rw [if_neg hk] at hg; cases hg
 refine ⟨ts, hs, hki, hvo, ?_, (valOf_wf hvo).1⟩
 unfold valOf at hvo
 split at hvo
 ·split at hvo
  ·rename_i v hv
   obtain rfl := Option.some.inj hvo
   have := rd_tot _ _ _ _ hv
   dsimp only at this; omega
  ·cases hvo
 ·cases hvo
def lessV (s k w t : List UInt8) : Bool := match givenV s k w, givenV s k t with
 | some u, some v => decide (V.cmp u v < 0)
 | _, _ => false
theorem c_ValueLessI {s k w t : List UInt8} (h1 : s.length ≤ 1048576 ∧ k.length ≤ 1048576 ∧ w.length ≤ 1048576 ∧ t.length ≤ 1048576) : PuG Tryz.prog 20 [S s, S k, S w, S t] G (· = Bo (lessV s k w t)) := by
 unfold lessV
 cases hg : givenV s k w with
 | none =>
  have cx_ga0 := fun G => c_given0 (G := G) (s := s) (k := k) (w := w) (by omega) hg
  cases hg2 : givenV s k t with
  | none =>
   have cx_gb0 := fun G => c_given0 (G := G) (s := s) (k := k) (w := t) (by omega) hg2
   refine jB (Post := fun v G' L' => G' = G ∧ L' = [] ∧ _) [(0, _), (1, _), (2, _), (3, _)] Tryz.func20 Tryz.ntmps20 fun B hok hB hW => ?_
   repeat' (first | (refine jR ?_) | (refine k_op rfl ?_; first | refine c_al rfl rfl fun _ => ?_ | refine c_stA rfl rfl rfl rfl rfl rfl ?_ | (refine jV (g_pickF rfl rfl rfl) ?_) | (refine c_fns rfl rfl rfl (cx_ga0 _) rfl ?_; rintro _ G hle ⟨p1, a1, b1, c1, rfl⟩; skip) | (refine c_fns rfl rfl rfl (cx_gb0 _) rfl ?_; rintro _ G hle ⟨p2, a2, b2, c2, rfl⟩; skip)) | (refine k_gf rfl rfl rfl ?_))
   all_goals refine Nx.base hok hB ?_
   all_goals refine jZ (vs := [_]) rfl ⟨rfl, trivial⟩ rfl ⟨rfl, rfl, ?_⟩
   all_goals rfl
  | some v =>
   obtain ⟨ts, hs, hki, hvo, hto, hwf⟩ := given_some hg2
   have cx_gb1 := fun G => c_given1 (G := G) (s := s) (k := k) (w := t) (by omega) hs hki hvo
   refine jB (Post := fun v G' L' => G' = G ∧ L' = [] ∧ _) [(0, _), (1, _), (2, _), (3, _)] Tryz.func20 Tryz.ntmps20 fun B hok hB hW => ?_
   repeat' (first | (refine jR ?_) | (refine k_op rfl ?_; first | refine c_al rfl rfl fun _ => ?_ | refine c_stA rfl rfl rfl rfl rfl rfl ?_ | (refine jV (g_pickF rfl rfl rfl) ?_) | (refine c_fns rfl rfl rfl (cx_ga0 _) rfl ?_; rintro _ G hle ⟨p1, a1, b1, c1, rfl⟩; skip) | (refine c_fns rfl rfl rfl (cx_gb1 _) rfl ?_; rintro _ G hle ⟨bh, qh, cw, rfl, hTh, hRh, hrw⟩; skip)) | (refine k_gf rfl rfl rfl ?_))
   all_goals refine Nx.base hok hB ?_
   all_goals refine jZ (vs := [_]) rfl ⟨rfl, trivial⟩ rfl ⟨rfl, rfl, ?_⟩
   all_goals rfl
 | some u =>
  obtain ⟨ts, hs, hki, hvo, hto, hwf⟩ := given_some hg
  have cx_ga1 := fun G => c_given1 (G := G) (s := s) (k := k) (w := w) (by omega) hs hki hvo
  cases hg2 : givenV s k t with
  | none =>
   have cx_gb0 := fun G => c_given0 (G := G) (s := s) (k := k) (w := t) (by omega) hg2
   refine jB (Post := fun v G' L' => G' = G ∧ L' = [] ∧ _) [(0, _), (1, _), (2, _), (3, _)] Tryz.func20 Tryz.ntmps20 fun B hok hB hW => ?_
   repeat' (first | (refine jR ?_) | (refine k_op rfl ?_; first | refine c_al rfl rfl fun _ => ?_ | refine c_stA rfl rfl rfl rfl rfl rfl ?_ | (refine jV (g_pickT rfl rfl rfl) ?_) | (refine jV (g_pickF rfl rfl rfl) ?_) | (refine c_fns rfl rfl rfl (cx_ga1 _) rfl ?_; rintro _ G hle ⟨bg, qg, cv, rfl, hTg, hRg, hrv⟩; skip) | (refine c_fns rfl rfl rfl (cx_gb0 _) rfl ?_; rintro _ G hle ⟨p2, a2, b2, c2, rfl⟩; skip)) | (refine k_gt rfl rfl rfl ?_) | (refine k_gf rfl rfl rfl ?_))
   all_goals refine Nx.base hok hB ?_
   all_goals refine jZ (vs := [_]) rfl ⟨rfl, trivial⟩ rfl ⟨rfl, rfl, ?_⟩
   all_goals rfl
  | some v =>
   obtain ⟨ts2, hs2, _, hvo2, hto2, hwf2⟩ := given_some hg2
   obtain rfl : ts = ts2 := Option.some.inj (hs.symm.trans hs2)
   have cx_gb1 := fun G => c_given1 (G := G) (s := s) (k := k) (w := t) (by omega) hs hki hvo2
   have cx_cpr : ∀ {G : Gh} {c d : VC}, V.rep G u c → V.rep G v d → PuG Tryz.prog 47 [Ag (vcF c), Ag (vcF d)] G (· = I (V.cmp u v)) := fun h3 h4 => c_cmp u.tot (Nat.le_refl _) (by omega) (by omega) hwf hwf2 (ofK_ck (schemaOf_w hs) (valOf_of_k hvo) (valOf_of_k hvo2)) h3 h4
   dsimp only
   generalize V.cmp u v = z at *
   refine jB (Post := fun v G' L' => G' = G ∧ L' = [] ∧ _) [(0, _), (1, _), (2, _), (3, _)] Tryz.func20 Tryz.ntmps20 fun B hok hB hW => ?_
   repeat' (first | (refine jR ?_) | (refine k_op rfl ?_; first | refine c_al rfl rfl fun _ => ?_ | refine c_stA rfl rfl rfl rfl rfl rfl ?_ | (refine jV (g_pickT rfl rfl rfl) ?_) | refine jV (g_ldA rfl rfl rfl rfl) ?_ | (refine c_fns rfl rfl rfl (cx_ga1 _) rfl ?_; rintro _ G hle ⟨bg, qg, cv, rfl, hTg, hRg, hrv⟩; (try have hrv := rep_mono hle hrv)) | (refine c_fns rfl rfl rfl (cx_gb1 _) rfl ?_; rintro _ G hle ⟨bh, qh, cw, rfl, hTh, hRh, hrw⟩; (try have hrv := rep_mono hle hrv)) | (refine c_rt rfl rfl rfl (cx_cpr (by (repeat (assumption)); done) (by (repeat (assumption)); done)) rfl ?_)) | (refine k_gt rfl rfl rfl ?_))
   all_goals refine Nx.base hok hB ?_
   all_goals refine jZ (vs := [_]) rfl ⟨rfl, trivial⟩ rfl ⟨rfl, rfl, ?_⟩
   all_goals rfl
theorem c_ValueLessS {s k w t : List UInt8} (h1 : s.length ≤ 1048576 ∧ k.length ≤ 1048576 ∧ w.length ≤ 1048576 ∧ t.length ≤ 1048576) : PuG Tryz.prog 21 [S s, S k, S w, S t] G (· = Bo (lessV s k w t)) := by
 unfold lessV
 cases hg : givenV s k w with
 | none =>
  have cx_la0 := fun G => c_l4Of0 (G := G) (s := s) (k := k) (w := w) (by omega) hg
  cases hg2 : givenV s k t with
  | none =>
   have cx_lb0 := fun G => c_l4Of0 (G := G) (s := s) (k := k) (w := t) (by omega) hg2
   refine jB (Post := fun v G' L' => G' = G ∧ L' = [] ∧ _) [(0, _), (1, _), (2, _), (3, _)] Tryz.func21 Tryz.ntmps21 fun B hok hB hW => ?_
   repeat' (first | (refine jR ?_) | (refine k_op rfl ?_; first | (refine jV (g_pickF rfl rfl rfl) ?_) | (refine c_fns rfl rfl rfl (cx_la0 _) rfl ?_; rintro _ G hle ⟨ua, qa, rfl⟩; skip) | (refine c_fns rfl rfl rfl (cx_lb0 _) rfl ?_; rintro _ G hle ⟨ub, qb, rfl⟩; skip)) | (refine k_gf rfl rfl rfl ?_))
   all_goals refine Nx.base hok hB ?_
   all_goals refine jZ (vs := [_]) rfl ⟨rfl, trivial⟩ rfl ⟨rfl, rfl, ?_⟩
   all_goals rfl
  | some v =>
   obtain ⟨ts, hs, hki, hvo, hto, hwf⟩ := given_some hg2
   have cx_lb1 := fun G => c_l4Of1 (G := G) (s := s) (k := k) (w := t) (by omega) hs hki hvo
   refine jB (Post := fun v G' L' => G' = G ∧ L' = [] ∧ _) [(0, _), (1, _), (2, _), (3, _)] Tryz.func21 Tryz.ntmps21 fun B hok hB hW => ?_
   repeat' (first | (refine jR ?_) | (refine k_op rfl ?_; first | (refine jV (g_pickF rfl rfl rfl) ?_) | (refine c_fns rfl rfl rfl (cx_la0 _) rfl ?_; rintro _ G hle ⟨ua, qa, rfl⟩; skip) | (refine c_fns rfl rfl rfl (cx_lb1 _) rfl ?_; rintro _ G hle ⟨ub, qb, rfl, hyb⟩; skip)) | (refine k_gf rfl rfl rfl ?_))
   all_goals refine Nx.base hok hB ?_
   all_goals refine jZ (vs := [_]) rfl ⟨rfl, trivial⟩ rfl ⟨rfl, rfl, ?_⟩
   all_goals rfl
 | some u =>
  obtain ⟨ts, hs, hki, hvo, hto, hwf⟩ := given_some hg
  have cx_la1 := fun G => c_l4Of1 (G := G) (s := s) (k := k) (w := w) (by omega) hs hki hvo
  cases hg2 : givenV s k t with
  | none =>
   have cx_lb0 := fun G => c_l4Of0 (G := G) (s := s) (k := k) (w := t) (by omega) hg2
   refine jB (Post := fun v G' L' => G' = G ∧ L' = [] ∧ _) [(0, _), (1, _), (2, _), (3, _)] Tryz.func21 Tryz.ntmps21 fun B hok hB hW => ?_
   repeat' (first | (refine jR ?_) | (refine k_op rfl ?_; first | (refine jV (g_pickT rfl rfl rfl) ?_) | (refine jV (g_pickF rfl rfl rfl) ?_) | (refine c_fns rfl rfl rfl (cx_la1 _) rfl ?_; rintro _ G hle ⟨ua, qa, rfl, hya⟩; skip) | (refine c_fns rfl rfl rfl (cx_lb0 _) rfl ?_; rintro _ G hle ⟨ub, qb, rfl⟩; skip)) | (refine k_gt rfl rfl rfl ?_) | (refine k_gf rfl rfl rfl ?_))
   all_goals refine Nx.base hok hB ?_
   all_goals refine jZ (vs := [_]) rfl ⟨rfl, trivial⟩ rfl ⟨rfl, rfl, ?_⟩
   all_goals rfl
  | some v =>
   obtain ⟨ts2, hs2, _, hvo2, hto2, hwf2⟩ := given_some hg2
   obtain rfl : ts = ts2 := Option.some.inj (hs.symm.trans hs2)
   have cx_lb1 := fun G => c_l4Of1 (G := G) (s := s) (k := k) (w := t) (by omega) hs hki hvo2
   have cx_lsr : ∀ {G : Gh} {c d : Nat}, RepR G ts u k c → RepR G ts v k d → PuG Tryz.prog 48 [Pt c 0, Pt d 0] G (· = I (V.cmp u v)) := fun h3 h4 => c_less (schemaOf_w hs) h3 hwf hwf2 (by omega) (by omega) h4
   dsimp only
   generalize V.cmp u v = z at *
   refine jB (Post := fun v G' L' => G' = G ∧ L' = [] ∧ _) [(0, _), (1, _), (2, _), (3, _)] Tryz.func21 Tryz.ntmps21 fun B hok hB hW => ?_
   repeat' (first | (refine jR ?_) | (refine k_op rfl ?_; first | (refine jV (g_pickT rfl rfl rfl) ?_) | (refine c_fns rfl rfl rfl (cx_la1 _) rfl ?_; rintro _ G hle ⟨ua, qa, rfl, hya⟩; (try have hya := RepR.mono hle hya)) | (refine c_fns rfl rfl rfl (cx_lb1 _) rfl ?_; rintro _ G hle ⟨ub, qb, rfl, hyb⟩; (try have hya := RepR.mono hle hya)) | (refine c_rt rfl rfl rfl (cx_lsr (by (repeat (assumption)); done) (by (repeat (assumption)); done)) rfl ?_)) | (refine k_gt rfl rfl rfl ?_))
   all_goals refine Nx.base hok hB ?_
   all_goals refine jZ (vs := [_]) rfl ⟨rfl, trivial⟩ rfl ⟨rfl, rfl, ?_⟩
   all_goals rfl
end Go.E
namespace Go.E
set_option maxRecDepth 20000
set_option maxHeartbeats 2000000
def keyW (w : Nat) (x : List UInt8) (t : Int) (js : List (List UInt8)) : List UInt8 :=
 if w = 110 then [u8 ((numOf x 999999).getD 0 / 65536), u8 ((numOf x 999999).getD 0 / 256), u8 ((numOf x 999999).getD 0)] else if w = 116 then x ++ [0] else if w = 102 then (if x = [121, 101, 115] then [1] else [0]) else if w = 69 then [u8 t]
 else if w = 63 ∧ js = [] then [0] else if w = 85 ∨ w = 61 then u8 t :: js.flatten else if w = 63 then (js.map (1 :: ·)).flatten else (js.map (1 :: ·)).flatten ++ [0]
mutual
def V.key : V → List UInt8
 | .nd w x t ks => keyW w x t (V.keys ks)
def V.keys : List V → List (List UInt8)
 | [] => []
 | v :: r => V.key v :: V.keys r
end
def mrk (a : List UInt8) (js : List (List UInt8)) : List UInt8 := (js.map (a ++ ·)).flatten
theorem mrk_one (js : List (List UInt8)) : (js.map (1 :: ·)).flatten = mrk [1] js := rfl
theorem bl_asymm : ∀ {x y : List UInt8}, Op.bytesLess x y = true → Op.bytesLess y x = false
 | [], [], h => by cases h
 | [], _ :: _, _ => rfl
 | _ :: _, [], h => by cases h
 | a :: x, b :: y, h => by
  unfold Op.bytesLess at h ⊢
  simp only [Bool.or_eq_true, decide_eq_true_eq, Bool.and_eq_true, beq_iff_eq, Bool.or_eq_false_iff, decide_eq_false_iff_not, Bool.and_eq_false_iff] at h ⊢
  rcases h with h | ⟨rfl, h⟩
  ·exact ⟨fun h2 => absurd h2 (by intro h2; rw [UInt8.lt_iff_toNat_lt] at h h2; omega), .inl (by rw [beq_eq_false_iff_ne]; rintro rfl; rw [UInt8.lt_iff_toNat_lt] at h; omega)⟩
  ·exact ⟨fun h2 => (by rw [UInt8.lt_iff_toNat_lt] at h2; omega), .inr (bl_asymm h)⟩
theorem bl_irr (x : List UInt8) : Op.bytesLess x x = false := by
 cases h : Op.bytesLess x x with
 | false => rfl
 | true => have := bl_asymm h; rw [h] at this; cases this
theorem cmpB_self (x : List UInt8) : cmpB x x = 0 := by unfold cmpB; rw [bl_irr]; rfl
theorem bl_cons {c d : UInt8} {x y : List UInt8} : Op.bytesLess (c :: x) (d :: y) = if c.toNat < d.toNat then true else if d.toNat < c.toNat then false else Op.bytesLess x y := by
 rw [Op.bytesLess]
 by_cases h : c.toNat < d.toNat
 ·rw [if_pos h]; simp [UInt8.lt_iff_toNat_lt, h]
 ·rw [if_neg h]
  by_cases h2 : d.toNat < c.toNat
  ·rw [if_pos h2]
   have : ¬ c = d := by rintro rfl; omega
   simp [UInt8.lt_iff_toNat_lt, h, this]
  ·rw [if_neg h2]
   have : c = d := UInt8.toNat_inj.1 (by omega)
   subst this
   simp
theorem cmpB_cons {c d : UInt8} {x y : List UInt8} : cmpB (c :: x) (d :: y) = if c.toNat < d.toNat then -1 else if d.toNat < c.toNat then 1 else cmpB x y := by
 unfold cmpB
 rw [bl_cons, bl_cons]
 by_cases h : c.toNat < d.toNat
 ·have h2 : ¬ d.toNat < c.toNat := by omega
  simp only [h, h2, if_true, if_false]
 ·by_cases h2 : d.toNat < c.toNat
  ·simp [h, h2]
  ·simp only [h, h2, if_false]
theorem cmpB_sgn {c d : UInt8} {x y : List UInt8} {n m : Int} (hc : (c.toNat : Int) = n) (hd : (d.toNat : Int) = m) : cmpB (c :: x) (d :: y) = if sgn n m ≠ 0 then sgn n m else cmpB x y := by
 rw [cmpB_cons]
 unfold sgn
 by_cases h : c.toNat < d.toNat
 ·have h3 : n < m := by omega
  simp [h, h3]
 ·have h3 : ¬ n < m := by omega
  by_cases h2 : d.toNat < c.toNat
  ·have h4 : m < n := by omega
   simp [h, h2, h3, h4]
  ·have h4 : ¬ m < n := by omega
   simp [h, h2, h3, h4]
def thn (c d : Int) : Int := if c ≠ 0 then c else d
theorem thn_0 (d : Int) : thn 0 d = d := by simp [thn]
theorem thn_as (a b c : Int) : thn (thn a b) c = thn a (thn b c) := by
 unfold thn
 by_cases h : a = 0
 ·simp [h]
 ·simp [h]
theorem cmpB_th {c d : UInt8} {x y : List UInt8} {n m : Int} (hc : (c.toNat : Int) = n) (hd : (d.toNat : Int) = m) : cmpB (c :: x) (d :: y) = thn (sgn n m) (cmpB x y) := cmpB_sgn hc hd
theorem sgn_3 {n m : Int} (hn : 0 ≤ n ∧ n ≤ 999999) (hm : 0 ≤ m ∧ m ≤ 999999) (d : Int) : thn (sgn (n / 65536) (m / 65536)) (thn (sgn (n / 256 % 256) (m / 256 % 256)) (thn (sgn (n % 256) (m % 256)) d)) = thn (sgn n m) d := by
 unfold sgn thn
 rcases Int.lt_trichotomy n m with h | h | h
 ·rw [if_pos h]
  by_cases h1 : n / 65536 < m / 65536
  ·simp [h1]
  ·have e1 : n / 65536 = m / 65536 := by omega
   by_cases h2 : n / 256 % 256 < m / 256 % 256
   ·simp [e1, h2]
   ·have e2 : n / 256 % 256 = m / 256 % 256 := by omega
    have h3 : n % 256 < m % 256 := by omega
    simp [e1, e2, h3]
 ·subst h; simp
 ·have h0 : ¬ n < m := by omega
  rw [if_neg h0, if_pos h]
  by_cases h1 : m / 65536 < n / 65536
  ·have : ¬ n / 65536 < m / 65536 := by omega
   simp [h1, this]
  ·have e1 : n / 65536 = m / 65536 := by omega
   by_cases h2 : m / 256 % 256 < n / 256 % 256
   ·have : ¬ n / 256 % 256 < m / 256 % 256 := by omega
    simp [e1, h2, this]
   ·have e2 : n / 256 % 256 = m / 256 % 256 := by omega
    have h3 : m % 256 < n % 256 := by omega
    have h4 : ¬ n % 256 < m % 256 := by omega
    simp [e1, e2, h3, h4]
theorem u8_mod (a : Int) : ((u8 a).toNat : Int) = a % 256 := by
 have h : u8 a = u8 (a % 256) := by unfold u8; rw [Int.emod_emod_of_dvd _ (by decide)]
 rw [h, u8_val (by omega)]
theorem cmpB_txt : ∀ {x y a b : List UInt8}, (∀ c ∈ x, c.toNat ≠ 0) → (∀ c ∈ y, c.toNat ≠ 0) → cmpB (x ++ 0 :: a) (y ++ 0 :: b) = thn (cmpB x y) (cmpB a b)
 | [], [], a, b, _, _ => by rw [show cmpB [] [] = 0 from rfl, thn_0, List.nil_append, List.nil_append, cmpB_cons, if_neg (by decide), if_neg (by decide)]
 | [], d :: y, a, b, _, h => by
  have := h d (by simp)
  rw [List.nil_append, List.cons_append, cmpB_cons, if_pos (by show (0 : UInt8).toNat < d.toNat; rw [show (0 : UInt8).toNat = 0 from rfl]; omega)]
  rfl
 | c :: x, [], a, b, h, _ => by
  have := h c (by simp)
  rw [List.nil_append, List.cons_append, cmpB_cons, if_neg (by rw [show (0 : UInt8).toNat = 0 from rfl]; omega), if_pos (by show (0 : UInt8).toNat < c.toNat; rw [show (0 : UInt8).toNat = 0 from rfl]; omega)]
  rfl
 | c :: x, d :: y, a, b, h1, h2 => by
  have ih := cmpB_txt (x := x) (y := y) (a := a) (b := b) (fun c hc => h1 c (by simp [hc])) (fun c hc => h2 c (by simp [hc]))
  rw [List.cons_append, List.cons_append, cmpB_th rfl rfl, cmpB_th rfl rfl, ih, thn_as]
theorem tx_pos {x : List UInt8} (h : isTx (39 :: (x ++ [39])) = true) : ∀ c ∈ x, c.toNat ≠ 0 := fun c hc e => by
 unfold isTx at h
 rw [decide_eq_true_eq] at h
 obtain ⟨j, hj, rfl⟩ := List.mem_iff_getElem.1 hc
 have h1 := h.2.2.2 (j + 1) (by simp; omega)
 rw [bt_succ] at h1
 have h2 : bt (x ++ [39]) j = (x[j]).toNat := by simp [bt, List.getD, List.getElem?_append_left hj, List.getElem?_eq_getElem hj]
 rw [h2, e] at h1
 rcases h1 with h1 | h1
 ·omega
 ·unfold txN at h1; omega
theorem cmpB_eq {x y : List UInt8} (h : cmpB x y = 0) : x = y := by
 have bl_tot : ∀ {x y : List UInt8}, Op.bytesLess x y = false → Op.bytesLess y x = false → x = y := by
  intro x
  induction x with
  | nil => intro y h1 h2; cases y; rfl; cases h1
  | cons c x ih =>
   intro y h1 h2
   cases y with
   | nil => cases h2
   | cons d y =>
    rw [bl_cons] at h1 h2
    by_cases hc : c.toNat < d.toNat
    ·rw [if_pos hc] at h1; cases h1
    ·rw [if_neg hc] at h1
     by_cases hd : d.toNat < c.toNat
     ·rw [if_pos hd] at h2; cases h2
     ·rw [if_neg hd] at h1 h2
      rw [if_neg hc] at h2
      rw [show c = d from UInt8.toNat_inj.1 (by omega), ih h1 h2]
 unfold cmpB at h
 split at h
 ·cases h
 ·split at h
  ·cases h
  ·rename_i h1 h2
   exact bl_tot (by simpa using h1) (by simpa using h2)
theorem numOf_dd {n : Int} (h1 : 0 ≤ n) (h2 : n ≤ 999999) : numOf (decI n) 999999 = some n := numOf_decI h1 h2 (by decide)
def KeyLaw (u v : V) : Prop := (∀ a b, cmpB (u.key ++ a) (v.key ++ b) = thn (u.cmp v) (cmpB a b)) ∧ (u.cmp v = 0 → u = v)
theorem key_lst : ∀ {ks us : List V}, (∀ v ∈ ks, ∀ u ∈ us, KeyLaw v u) → (∀ a b, cmpB (mrk [1] (V.keys ks) ++ 0 :: a) (mrk [1] (V.keys us) ++ 0 :: b) = thn (V.cmps ks us) (cmpB a b)) ∧ (V.cmps ks us = 0 → ks = us)
 | [], [], _ => ⟨fun a b => by simp only [V.keys, mrk, List.map_nil, List.flatten_nil, List.nil_append, show V.cmps [] [] = 0 by rw [V.cmps.eq_1, if_pos rfl], thn_0]; rw [cmpB_cons, if_neg (by decide), if_neg (by decide)], fun _ => rfl⟩
 | [], u :: us, _ => by
  have e : V.cmps [] (u :: us) = -1 := by rw [V.cmps.eq_1, if_neg (by simp)]
  refine ⟨fun a b => ?_, fun h => ?_⟩
  ·rw [e]
   simp only [V.keys, mrk, List.map_nil, List.map_cons, List.flatten_nil, List.flatten_cons, List.nil_append, List.append_assoc, List.cons_append]
   rw [cmpB_cons, if_pos (by decide)]; rfl
  ·rw [e] at h; cases h
 | v :: ks, [], _ => by
  have e : V.cmps (v :: ks) [] = 1 := by rw [V.cmps]
  refine ⟨fun a b => ?_, fun h => ?_⟩
  ·rw [e]
   simp only [V.keys, mrk, List.map_nil, List.map_cons, List.flatten_nil, List.flatten_cons, List.nil_append, List.append_assoc, List.cons_append]
   rw [cmpB_cons, if_neg (by decide), if_pos (by decide)]; rfl
  ·rw [e] at h; cases h
 | v :: ks, u :: us, h => by
  obtain ⟨h1, h2⟩ := h v (by simp) u (by simp)
  obtain ⟨h3, h4⟩ := key_lst (ks := ks) (us := us) fun x hx y hy => h x (by simp [hx]) y (by simp [hy])
  have e : V.cmps (v :: ks) (u :: us) = thn (V.cmp v u) (V.cmps ks us) := by rw [V.cmps]; rfl
  refine ⟨fun a b => ?_, fun h5 => ?_⟩
  ·rw [e]
   have h6 := h3 a b
   unfold mrk at h6 ⊢
   simp only [V.keys, List.map_cons, List.flatten_cons, List.append_assoc, List.cons_append, List.nil_append] at h6 ⊢
   rw [cmpB_cons, if_neg (by decide), if_neg (by decide), h1, h6, thn_as]
  ·rw [e] at h5
   unfold thn at h5
   split at h5
   ·rename_i h6; exact absurd h5 h6
   ·rename_i h6
    rw [h2 (by simpa using h6), h4 h5]
theorem cmp_k {w : Nat} {x y : List UInt8} {t t' : Int} {ks us : List V} (h : w ≠ 110 ∧ w ≠ 116 ∧ w ≠ 102 ∧ w ≠ 69) : V.cmp (.nd w x t ks) (.nd w y t' us) = if (w = 85 ∨ w = 61) ∧ t ≠ t' then sgn t t' else V.cmps ks us := by
 rw [V.cmp, if_neg h.1, if_neg (by omega), if_neg h.2.2.2]; rfl
theorem cmps_1 {v u : V} : V.cmps [v] [u] = V.cmp v u := by
 rw [V.cmps]
 split
 ·rfl
 ·rename_i h; rw [V.cmps]; simp only [ne_eq, Decidable.not_not] at h; rw [h]; rfl
theorem sgn_0 {n m : Int} (h : sgn n m = 0) : n = m := by unfold sgn at h; split at h; cases h; split at h; cases h; omega
theorem sgn_nn (n : Int) : sgn n n = 0 := by unfold sgn; rw [if_neg (by omega), if_neg (by omega)]
theorem cmp_tg {w : Nat} (hw : w = 85 ∨ w = 61) {t t' : Int} {v u : V} : V.cmp (.nd w [] t [v]) (.nd w [] t' [u]) = thn (sgn t t') (V.cmp v u) := by
 rw [cmp_k (by omega)]
 unfold thn
 by_cases h : t = t'
 ·subst h; rw [if_neg (fun h => h.2 rfl), if_neg (by rw [sgn_nn]; simp), cmps_1]
 ·rw [if_pos ⟨hw, h⟩, if_pos (fun h2 => h (sgn_0 h2))]
theorem key_tg {w : Nat} (hw : w = 85 ∨ w = 61) {t t' : Int} {v u : V} (ht : 0 ≤ t ∧ t ≤ 200) (ht' : 0 ≤ t' ∧ t' ≤ 200) (h : t = t' → KeyLaw v u) : KeyLaw (.nd w [] t [v]) (.nd w [] t' [u]) := by
 have e : ∀ (t : Int) (v : V), V.key (.nd w [] t [v]) = u8 t :: v.key := fun t v => by
  rw [V.key]; unfold keyW
  rw [if_neg (by omega), if_neg (by omega), if_neg (by omega), if_neg (by omega), if_neg (by omega), if_pos hw]; simp [V.keys]
 refine ⟨fun a b => ?_, fun h2 => ?_⟩
 ·rw [e, e, cmp_tg hw, List.cons_append, List.cons_append, cmpB_th (u8_val (by omega)) (u8_val (by omega))]
  by_cases he : t = t'
  ·rw [(h he).1, thn_as]
  ·unfold thn
   have := fun h2 => he (sgn_0 h2)
   rw [if_pos this, if_pos this, if_pos this]
 ·rw [cmp_tg hw] at h2
  unfold thn at h2
  split at h2
  ·rename_i h3; exact absurd h2 h3
  ·rename_i h3
   have he := sgn_0 (n := t) (m := t') (by simpa using h3)
   rw [(h he).2 h2, he]
theorem ofK_key {ts : List Ty} (hw : SchW ts) {k : List UInt8} {u : V} (h : OfK ts k u) : ∀ {v : V}, OfK ts k v → KeyLaw u v := by
 induction h with
 | num k n h1 h2 =>
  intro v hv
  rcases ofK_inv_c hv (by decide) with ⟨_, m, h3, h4, rfl⟩ | ⟨h, _⟩ | ⟨h, _⟩ | ⟨h, _⟩ | ⟨h, _⟩
  ·have e : V.cmp (.nd 110 (decI n) 0 []) (.nd 110 (decI m) 0 []) = sgn n m := by rw [V.cmp, if_pos rfl, numOf_dd h1 h2, V.text, numOf_dd h3 h4]; rfl
   have ek : ∀ {n : Int}, 0 ≤ n → n ≤ 999999 → V.key (.nd 110 (decI n) 0 []) = [u8 (n / 65536), u8 (n / 256), u8 n] := fun g1 g2 => by rw [V.key]; simp [keyW, numOf_dd g1 g2]
   refine ⟨fun a b => ?_, fun h => ?_⟩
   ·rw [e, ek h1 h2, ek h3 h4, ← sgn_3 ⟨h1, h2⟩ ⟨h3, h4⟩]
    simp only [List.cons_append, List.nil_append]
    rw [cmpB_th (u8_val (a := n / 65536) (by omega)) (u8_val (a := m / 65536) (by omega)), cmpB_th (u8_mod (n / 256)) (u8_mod (m / 256)), cmpB_th (u8_mod n) (u8_mod m)]
   ·rw [e] at h; rw [sgn_0 h]
  all_goals cases h
 | txt k x h1 =>
  intro v hv
  rcases ofK_inv_c hv (by decide) with ⟨h, _⟩ | ⟨_, y, h2, rfl⟩ | ⟨h, _⟩ | ⟨h, _⟩ | ⟨h, _⟩
  ·cases h
  ·have e : V.cmp (.nd 116 x 0 []) (.nd 116 y 0 []) = cmpB x y := by rw [V.cmp, if_neg (by decide), if_pos (.inl rfl)]; rfl
   have ek : ∀ x : List UInt8, V.key (.nd 116 x 0 []) = x ++ [0] := fun x => by rw [V.key]; rfl
   refine ⟨fun a b => ?_, fun h => ?_⟩
   ·rw [e, ek, ek, List.append_assoc, List.append_assoc]; exact cmpB_txt (tx_pos h1) (tx_pos h2)
   ·rw [e] at h; rw [cmpB_eq h]
  all_goals cases h
 | flg k x h1 =>
  intro v hv
  rcases ofK_inv_c hv (by decide) with ⟨h, _⟩ | ⟨h, _⟩ | ⟨_, y, h2, rfl⟩ | ⟨h, _⟩ | ⟨h, _⟩
  ·cases h
  ·cases h
  ·have e : V.cmp (.nd 102 x 0 []) (.nd 102 y 0 []) = cmpB x y := by rw [V.cmp, if_neg (by decide), if_pos (.inr rfl)]; rfl
   have ek : ∀ x : List UInt8, V.key (.nd 102 x 0 []) = if x = [121, 101, 115] then [1] else [0] := fun x => by rw [V.key]; rfl
   refine ⟨fun a b => ?_, fun h => ?_⟩
   ·rw [e, ek, ek]
    rcases h1 with rfl | rfl <;> rcases h2 with rfl | rfl
    ·rw [if_pos rfl, cmpB_self, thn_0]; exact (cmpB_cons).trans (by rw [if_neg (by decide), if_neg (by decide)]; rfl)
    ·rw [if_pos rfl, if_neg (by decide)]; exact (cmpB_cons).trans (by rw [if_neg (by decide), if_pos (by decide)]; rfl)
    ·rw [if_neg (by decide), if_pos rfl]; exact (cmpB_cons).trans (by rw [if_pos (by decide)]; rfl)
    ·rw [if_neg (by decide), cmpB_self, thn_0]; exact (cmpB_cons).trans (by rw [if_neg (by decide), if_neg (by decide)]; rfl)
   ·rw [e] at h; rw [cmpB_eq h]
  all_goals cases h
 | lst k ks h1 h2 ih =>
  intro v hv
  rcases ofK_inv_c hv (by decide) with ⟨h, _⟩ | ⟨h, _⟩ | ⟨h, _⟩ | ⟨_, us, _, h4, rfl⟩ | ⟨h, _⟩
  ·cases h
  ·cases h
  ·cases h
  ·obtain ⟨g1, g2⟩ := key_lst (ks := ks) (us := us) fun x hx y hy => ih x hx (h4 y hy)
   have e : V.cmp (.nd 91 [] 0 ks) (.nd 91 [] 0 us) = V.cmps ks us := by rw [cmp_k (by decide), if_neg (fun h => h.2 rfl)]
   have ek : ∀ ks : List V, V.key (.nd 91 [] 0 ks) = mrk [1] (V.keys ks) ++ [0] := fun ks => by rw [V.key]; simp [keyW, mrk_one]
   refine ⟨fun a b => ?_, fun h => ?_⟩
   ·rw [e, ek, ek, List.append_assoc, List.append_assoc]; exact g1 a b
   ·rw [e] at h; rw [g2 h]
  ·cases h
 | non k =>
  intro v hv
  have e0 : V.key (.nd 63 [] 0 []) = [0] := by rw [V.key]; rfl
  rcases ofK_inv_c hv (by decide) with ⟨h, _⟩ | ⟨h, _⟩ | ⟨h, _⟩ | ⟨h, _⟩ | ⟨_, rfl | ⟨v, _, rfl⟩⟩
  ·cases h
  ·cases h
  ·cases h
  ·cases h
  ·have e : V.cmp (.nd 63 [] 0 []) (.nd 63 [] 0 []) = 0 := by rw [cmp_k (by decide), if_neg (fun h => h.2 rfl), V.cmps.eq_1, if_pos rfl]
   refine ⟨fun a b => ?_, fun _ => rfl⟩
   rw [e, e0, thn_0]; exact (cmpB_cons).trans (by rw [if_neg (by decide), if_neg (by decide)]; rfl)
  ·have e : V.cmp (.nd 63 [] 0 []) (.nd 63 [] 0 [v]) = -1 := by rw [cmp_k (by decide), if_neg (fun h => h.2 rfl), V.cmps.eq_1, if_neg (by simp)]
   have e1 : V.key (.nd 63 [] 0 [v]) = 1 :: v.key := by rw [V.key]; simp [keyW, V.keys]
   refine ⟨fun a b => ?_, fun h => ?_⟩
   ·rw [e, e0, e1]; exact (cmpB_cons).trans (by rw [if_pos (by decide)]; rfl)
   ·rw [e] at h; cases h
 | opt k u h1 ih =>
  intro v hv
  have e0 : V.key (.nd 63 [] 0 []) = [0] := by rw [V.key]; rfl
  have e1 : ∀ v : V, V.key (.nd 63 [] 0 [v]) = 1 :: v.key := fun v => by rw [V.key]; simp [keyW, V.keys]
  rcases ofK_inv_c hv (by decide) with ⟨h, _⟩ | ⟨h, _⟩ | ⟨h, _⟩ | ⟨h, _⟩ | ⟨_, rfl | ⟨v, h2, rfl⟩⟩
  ·cases h
  ·cases h
  ·cases h
  ·cases h
  ·have e : V.cmp (.nd 63 [] 0 [u]) (.nd 63 [] 0 []) = 1 := by rw [cmp_k (by decide), if_neg (fun h => h.2 rfl), V.cmps]
   refine ⟨fun a b => ?_, fun h => ?_⟩
   ·rw [e, e0, e1]; exact (cmpB_cons).trans (by rw [if_neg (by decide), if_pos (by decide)]; rfl)
   ·rw [e] at h; cases h
  ·have e : V.cmp (.nd 63 [] 0 [u]) (.nd 63 [] 0 [v]) = V.cmp u v := by rw [cmp_k (by decide), if_neg (fun h => h.2 rfl), cmps_1]
   obtain ⟨g1, g2⟩ := ih h2
   refine ⟨fun a b => ?_, fun h => ?_⟩
   ·rw [e, e1, e1, List.cons_append, List.cons_append, cmpB_cons, if_neg (by decide), if_neg (by decide)]; exact g1 a b
   ·rw [e] at h; rw [g2 h]
 | recd k t fs h1 h2 h3 h4 h5 h6 ih =>
  intro v hv
  rcases ofK_inv_t hv h1 with ⟨_, gs, rfl, g3, g4, _, _⟩ | ⟨h, _⟩ | ⟨h, _⟩
  ·have htw := hw.ty t (refT_mem h1)
   obtain ⟨g1, g2⟩ := key_lst (ks := fs.map fldV) (us := gs.map fldV) fun x hx y hy => by
    obtain ⟨p, hp, rfl⟩ := List.mem_map.1 hx
    obtain ⟨q, hq, rfl⟩ := List.mem_map.1 hy
    have i1 := (htw.fld _ (h3 p hp)).tag
    have i2 := (htw.fld _ (g3 q hq)).tag
    exact key_tg (.inr rfl) (by omega) (by omega) fun he => ih p hp (by rw [fld_tag htw (h3 p hp) (g3 q hq) he]; exact g4 q hq)
   have e : ∀ ks us : List V, V.cmp (.nd 82 [] 0 ks) (.nd 82 [] 0 us) = V.cmps ks us := fun ks us => by rw [cmp_k (by decide), if_neg (fun h => h.2 rfl)]
   have ek : ∀ ks : List V, V.key (.nd 82 [] 0 ks) = mrk [1] (V.keys ks) ++ [0] := fun ks => by rw [V.key]; simp [keyW, mrk_one]
   refine ⟨fun a b => ?_, fun h => ?_⟩
   ·rw [e, ek, ek, List.append_assoc, List.append_assoc]; exact g1 a b
   ·rw [e] at h; rw [g2 h]
  ·omega
  ·omega
 | enm k t d h1 h2 h3 =>
  intro v hv
  rcases ofK_inv_t hv h1 with ⟨h, _⟩ | ⟨_, d', rfl, g3⟩ | ⟨_, h, _⟩
  ·omega
  ·have htw := hw.ty t (refT_mem h1)
   have i1 := (htw.fld _ h3).tag
   have i2 := (htw.fld _ g3).tag
   have e : V.cmp (.nd 69 [] d.tag []) (.nd 69 [] d'.tag []) = sgn d.tag d'.tag := by rw [V.cmp, if_neg (by decide), if_neg (by decide), if_pos rfl]; rfl
   have ek : ∀ t : Int, V.key (.nd 69 [] t []) = [u8 t] := fun t => by rw [V.key]; rfl
   refine ⟨fun a b => ?_, fun h => ?_⟩
   ·rw [e, ek, ek]; exact cmpB_th (u8_val (by omega)) (u8_val (by omega))
   ·rw [e] at h; rw [sgn_0 h]
  ·omega
 | uni k t d u h1 h2 h3 h4 h5 ih =>
  intro v hv
  rcases ofK_inv_t hv h1 with ⟨h, _⟩ | ⟨h, _⟩ | ⟨_, _, d', v', rfl, g4, g5⟩
  ·omega
  ·omega
  ·have htw := hw.ty t (refT_mem h1)
   have i1 := (htw.fld _ h4).tag
   have i2 := (htw.fld _ g4).tag
   exact key_tg (.inl rfl) (by omega) (by omega) fun he => ih (by rw [fld_tag htw h4 g4 he]; exact g5)
theorem cmp_key {ts : List Ty} (hw : SchW ts) {k : List UInt8} {u v : V} (hu : OfK ts k u) (hv : OfK ts k v) : u.cmp v = cmpB u.key v.key ∧ (u.cmp v = 0 → u = v) := by
 obtain ⟨h1, h2⟩ := ofK_key hw hu hv
 have h3 := h1 [] []
 rw [List.append_nil, List.append_nil, show cmpB [] [] = 0 from rfl] at h3
 refine ⟨?_, h2⟩
 rw [h3]; unfold thn; split
 ·rfl
 ·rename_i h; simpa using h
theorem cmpB_lt {x y : List UInt8} : cmpB x y < 0 ↔ Op.bytesLess x y = true := by
 unfold cmpB
 cases Op.bytesLess x y <;> cases Op.bytesLess y x <;> simp
end Go.E
namespace Go.E
set_option maxRecDepth 20000
set_option maxHeartbeats 2000000
open Go.Proofs
theorem kind_ne {ts : List Ty} {k : List UInt8} (h : kindIn ts k = true) : ∃ c r, k = c :: r := by
 cases k with
 | nil => unfold kindIn kindOk kOk at h; simp at h
 | cons c r => exact ⟨c, r, rfl⟩
theorem head0 {t : Ty} (hw : TyW t) (hs : t.sort ≠ 82) : t.fields.headD default ∈ t.fields := by
 have := hw.ne hs
 cases h : t.fields with
 | nil => exact absurd h this
 | cons d r => simp
theorem decI0 : decI 0 = [48] := by rw [decI_lo (by decide) (by decide)]; decide
theorem out_num0 : V.out (.nd 110 (decI 0) 0 []) = [48] := by rw [V.out]; exact decI0
theorem standN_val {ts : List Ty} (hw : SchW ts) : ∀ (n : Nat) {k : List UInt8}, kindIn ts k = true → (∀ t, refT ts k = some t → endsN ts n t = true) → ∃ u, OfK ts k u ∧ u.out = standN ts (n + 1) k ∧ u.deep ≤ n + 1 ∧ u.out.length ≤ 30 * (n + 1) ∧ u.size ≤ 1 := by
 intro n
 induction n with
 | zero =>
  intro k hk he
  obtain ⟨c, r, rfl⟩ := kind_ne hk
  unfold standN
  by_cases h91 : c.toNat = 91
  ·obtain rfl := u8_eq h91 (by decide)
   exact ⟨_, .lst _ [] (by simp) (by simp), by rw [if_pos h91, V.out]; rfl, by simp [V.deep, V.deeps], by rw [V.out]; decide, by simp [V.size, leafW, V.sizes]⟩
  by_cases h63 : c.toNat = 63
  ·obtain rfl := u8_eq h63 (by decide)
   exact ⟨_, .non _, by rw [if_neg h91, if_pos h63, V.out]; rfl, by simp [V.deep, V.deeps], by rw [V.out]; decide, by simp [V.size, leafW]⟩
  rw [if_neg h91, if_neg h63]
  cases hr : refT ts (c :: r) with
  | some t => have := he t hr; simp [endsN] at this
  | none =>
   dsimp only
   rcases plain_kinds hk (by rintro (h | h) <;> contradiction) hr with e | e | e
   all_goals rw [e]
   ·exact ⟨_, .num [] 0 (by decide) (by decide), by rw [out_num0]; decide, by simp [V.deep, V.deeps], by rw [out_num0]; decide, by simp [V.size, leafW]⟩
   ·exact ⟨_, .txt [] [] (by decide), by rw [V.out]; decide, by simp [V.deep, V.deeps], by rw [V.out]; decide, by simp [V.size, leafW]⟩
   ·exact ⟨_, .flg [] _ (.inr rfl), by rw [V.out]; decide, by simp [V.deep, V.deeps], by rw [V.out]; decide, by simp [V.size, leafW]⟩
 | succ n ih =>
  intro k hk he
  obtain ⟨c, r, rfl⟩ := kind_ne hk
  unfold standN
  by_cases h91 : c.toNat = 91
  ·obtain rfl := u8_eq h91 (by decide)
   exact ⟨_, .lst _ [] (by simp) (by simp), by rw [if_pos h91, V.out]; rfl, by simp [V.deep, V.deeps], by rw [V.out]; simp [outW, V.outs, joinB]; omega, by simp [V.size, leafW, V.sizes]⟩
  by_cases h63 : c.toNat = 63
  ·obtain rfl := u8_eq h63 (by decide)
   exact ⟨_, .non _, by rw [if_neg h91, if_pos h63, V.out]; rfl, by simp [V.deep, V.deeps], by rw [V.out]; simp [outW]; omega, by simp [V.size, leafW]⟩
  rw [if_neg h91, if_neg h63]
  cases hr : refT ts (c :: r) with
  | none =>
   dsimp only
   rcases plain_kinds hk (by rintro (h | h) <;> contradiction) hr with e | e | e
   all_goals rw [e]
   ·exact ⟨_, .num [] 0 (by decide) (by decide), by rw [out_num0]; decide, by simp [V.deep, V.deeps], by rw [out_num0]; simp; omega, by simp [V.size, leafW]⟩
   ·exact ⟨_, .txt [] [] (by decide), by rw [V.out]; decide, by simp [V.deep, V.deeps], by rw [V.out]; simp [outW]; omega, by simp [V.size, leafW]⟩
   ·exact ⟨_, .flg [] _ (.inr rfl), by rw [V.out]; decide, by simp [V.deep, V.deeps], by rw [V.out]; simp [outW]; omega, by simp [V.size, leafW]⟩
  | some t =>
   have htm := refT_mem hr
   have htw := hw.ty t htm
   dsimp only
   by_cases h82 : t.sort = 82
   ·rw [if_pos h82]
    exact ⟨_, .recd _ t [] hr h82 (by simp) (by simp) (by simp) (by simp), by rw [V.out]; rfl, by simp [V.deep, V.deeps], by rw [V.out]; simp [outW, V.outs, joinB]; omega, by simp [V.size, leafW, V.sizes]⟩
   rw [if_neg h82]
   have hd := head0 htw h82
   have htg := (htw.fld _ hd).tag
   have hdl := decI_6 (m := tag0 t) (by unfold tag0; omega)
   by_cases h69 : t.sort = 69
   ·rw [if_pos h69]
    exact ⟨_, .enm _ t _ hr h69 hd, by rw [V.out]; rfl, by simp [V.deep, V.deeps], by rw [V.out]; show (35 :: decI (tag0 t)).length ≤ _; simp only [List.length_cons]; omega, by simp [V.size, leafW]⟩
   rw [if_neg h69]
   have h85 : t.sort = 85 := by have := htw.sort; unfold sortOk at this; omega
   have he1 := he t hr
   unfold endsN at he1
   rw [if_neg (by simpa using h85)] at he1
   obtain ⟨u, g1, g2, g3, g4, g5⟩ := ih (k := kind0 t) (kind_in hw htm h69 hd) (fun t' ht' => by rw [ht'] at he1; exact he1)
   refine ⟨_, .uni _ t _ u hr h82 h69 hd g1, ?_, ?_, ?_, ?_⟩
   ·rw [V.out, ← g2]; simp [outW, V.outs, joinB, tag0]
   ·rw [deep_nd (by decide), V.deeps, V.deeps]; omega
   ·have e := out_uni (v := u) (n := tag0 t) (r := [])
    rw [List.append_nil] at e
    show (V.out (.nd 85 [] (tag0 t) [u])).length ≤ _
    rw [e]; simp only [List.length_cons, List.length_append, List.length_nil]; omega
   ·rw [V.size, if_neg (by unfold leafW; simp), V.sizes, V.sizes]; omega
theorem standK_val {ts : List Ty} (hw : SchW ts) {k : List UInt8} (hk : kindIn ts k = true) : ∃ u, OfK ts k u ∧ u.out = standK ts k ∧ u.deep ≤ 12 ∧ u.out.length ≤ 400 ∧ u.size ≤ 1 := by
 have hl := hw.len
 obtain ⟨u, h1, h2, h3, h4, h5⟩ := standN_val hw (ts.length + 1) hk (fun t ht => by
  have hm := refT_mem ht
  obtain ⟨i, hi, rfl⟩ := List.mem_iff_getElem.1 hm
  have := hw.valid.2 i hi
  rwa [nth_eq hi] at this)
 exact ⟨u, h1, h2, by omega, by omega, h5⟩
theorem standF_val {ts : List Ty} (hw : SchW ts) {t : Ty} (ht : t ∈ ts) (hs : t.sort ≠ 69) {d : Fld} (hd : d ∈ t.fields) : ∃ u, OfK ts d.kind u ∧ u.out = standF ts d ∧ u.deep ≤ 12 ∧ u.out.length ≤ 400 := by
 unfold standF
 by_cases h0 : d.stand = []
 ·rw [if_pos h0]
  obtain ⟨u, h1, h2, h3, h4, _⟩ := standK_val hw (kind_in hw ht hs hd)
  exact ⟨u, h1, h2, h3, h4⟩
 ·rw [if_neg h0]
  have h1 := (((hw.ty t ht).fld d hd).stand h0).2
  unfold standOk at h1
  split at h1
  ·rename_i hk
   rw [hk]
   simp only [Bool.and_eq_true] at h1
   obtain ⟨m, hm⟩ := Option.isSome_iff_exists.1 h1.1
   have h2 := numOf_le hm
   have h3 := numOf_nn hm
   refine ⟨_, .num [] m h3 h2.1, by rw [V.out]; exact h2.2.1.symm, by simp [V.deep, V.deeps], ?_⟩
   rw [V.out]
   show (decI m).length ≤ 400
   have := decI_6 h2.1; omega
  ·split at h1
   ·rename_i hk
    rw [hk]
    simp only [Bool.and_eq_true] at h1
    have hx := h1.1
    have hx2 := hx
    unfold isTx at hx
    rw [decide_eq_true_eq] at hx
    obtain ⟨⟨h2, h3⟩, h4, h5, _⟩ := hx
    obtain ⟨x, hxs⟩ : ∃ x, d.stand = 39 :: (x ++ [39]) := by
     cases hs : d.stand with
     | nil => exact absurd hs h0
     | cons c r =>
      rw [hs] at h4 h5 h2
      have hc : c = 39 := UInt8.toNat_inj.1 (by rw [bt_zero] at h4; exact h4)
      have hr : r ≠ [] := by rintro rfl; simp at h2
      refine ⟨r.dropLast, ?_⟩
      have hl : r.getLast hr = 39 := by
       refine UInt8.toNat_inj.1 ?_
       simp only [List.length_cons, Nat.add_sub_cancel] at h5
       obtain ⟨m, hm⟩ : ∃ m, r.length = m + 1 := ⟨r.length - 1, by have := List.length_pos_iff.2 hr; omega⟩
       rw [hm, bt_succ] at h5
       rw [List.getLast_eq_getElem]
       have : bt r m = (r[r.length - 1]'(by have := List.length_pos_iff.2 hr; omega)).toNat := by simp [bt, List.getD, hm]
       rw [← this, h5]; rfl
      rw [hc]; congr 1
      rw [← hl, List.dropLast_concat_getLast]
    rw [hxs] at hx2 h3 ⊢
    refine ⟨_, .txt [] x hx2, by rw [V.out]; rfl, by simp [V.deep, V.deeps], ?_⟩
    rw [V.out]
    show (39 :: (x ++ [39])).length ≤ 400
    omega
   ·split at h1
    ·rename_i hk
     rw [hk]
     rw [decide_eq_true_eq] at h1
     rw [h1]
     exact ⟨_, .flg [] _ (.inl rfl), by rw [V.out]; rfl, by simp [V.deep, V.deeps], by rw [V.out]; decide⟩
    ·cases h1
end Go.E
namespace Go.E
set_option maxRecDepth 20000
set_option maxHeartbeats 2000000
theorem given_k {s k w : List UInt8} {u : V} (h : givenV s k w = some u) : ∃ ts, schemaOf s = some ts ∧ SchW ts ∧ kindIn ts k = true ∧ OfK ts k u ∧ u.out = w := by
 obtain ⟨ts, h1, h2, h3, _, _⟩ := given_some h
 exact ⟨ts, h1, schemaOf_w h1, h2, valOf_of_k h3, (valOf_out h3).1⟩
theorem given_ts {s k w w' : List UInt8} {u v : V} (h : givenV s k w = some u) (h' : givenV s k w' = some v) : ∃ ts, SchW ts ∧ OfK ts k u ∧ OfK ts k v ∧ u.out = w ∧ v.out = w' := by
 obtain ⟨ts, h1, h2, _, h4, h5⟩ := given_k h
 obtain ⟨ts', g1, _, _, g4, g5⟩ := given_k h'
 rw [h1] at g1
 obtain rfl := Option.some.inj g1
 exact ⟨ts, h2, h4, g4, h5, g5⟩
def okV (s k w : List UInt8) : Bool := (givenV s k w).isSome
theorem less_ok {s k w t : List UInt8} (h : lessV s k w t = true) : okV s k w = true ∧ okV s k t = true := by
 unfold lessV at h
 unfold okV
 split at h
 ·rename_i h1 h2; rw [h1, h2]; exact ⟨rfl, rfl⟩
 ·cases h
theorem less_key {s k w t : List UInt8} {u v : V} (hu : givenV s k w = some u) (hv : givenV s k t = some v) : lessV s k w t = Op.bytesLess u.key v.key := by
 obtain ⟨ts, h1, h2, h3, _, _⟩ := given_ts hu hv
 have h4 := (cmp_key h1 h2 h3).1
 unfold lessV
 rw [hu, hv]
 dsimp only
 rw [h4]
 cases hb : Op.bytesLess u.key v.key with
 | true => exact decide_eq_true (cmpB_lt.2 hb)
 | false => exact decide_eq_false fun h => by rw [cmpB_lt.1 h] at hb; cases hb
theorem ok_some {s k w : List UInt8} (h : okV s k w = true) : ∃ u, givenV s k w = some u := Option.isSome_iff_exists.1 h
theorem less_self (s k w : List UInt8) : lessV s k w w = false := by
 cases h : lessV s k w w with
 | false => rfl
 | true =>
  obtain ⟨u, hu⟩ := ok_some (less_ok h).1
  rw [less_key hu hu, bl_irr] at h; cases h
theorem less_asym {s k w t : List UInt8} (h : lessV s k w t = true) : lessV s k t w = false := by
 obtain ⟨u, hu⟩ := ok_some (less_ok h).1
 obtain ⟨v, hv⟩ := ok_some (less_ok h).2
 rw [less_key hu hv] at h
 rw [less_key hv hu]; exact bl_asymm h
theorem less_tot {s k w t : List UInt8} (h1 : okV s k w = true) (h2 : okV s k t = true) : lessV s k w t = true ∨ lessV s k t w = true ∨ w = t := by
 obtain ⟨u, hu⟩ := ok_some h1
 obtain ⟨v, hv⟩ := ok_some h2
 rw [less_key hu hv, less_key hv hu]
 cases h3 : Op.bytesLess u.key v.key with
 | true => exact .inl rfl
 | false =>
  cases h4 : Op.bytesLess v.key u.key with
  | true => exact .inr (.inl rfl)
  | false =>
   obtain ⟨ts, g1, g2, g3, g4, g5⟩ := given_ts hu hv
   obtain ⟨g6, g7⟩ := cmp_key g1 g2 g3
   have : u.cmp v = 0 := by rw [g6]; unfold cmpB; rw [h3, h4]; rfl
   rw [← g4, ← g5, g7 this]
   exact .inr (.inr rfl)
def standS (s k : List UInt8) : Option (List UInt8) := match schemaOf s with
 | some ts => if kindIn ts k = true then some (standK ts k) else none
 | none => none
theorem stand_ok {s k x : List UInt8} (h : standS s k = some x) : ∃ u, givenV s k x = some u ∧ u.size ≤ 1 := by
 unfold standS at h
 cases hs : schemaOf s with
 | none => rw [hs] at h; cases h
 | some ts =>
  rw [hs] at h
  dsimp only at h
  split at h
  ·rename_i hk
   simp only [Option.some.injEq] at h
   have hw := schemaOf_w hs
   obtain ⟨u, h1, h2, h3, h4, h5⟩ := standK_val hw hk
   refine ⟨u, ?_, h5⟩
   unfold givenV
   rw [hs]
   dsimp only
   rw [if_pos hk, ← h, ← h2]
   exact valOf_in hw h1 h4 h3
  ·cases h
end Go.E
namespace Go.E
set_option maxRecDepth 20000
set_option maxHeartbeats 2000000
open Go.Proofs
variable {G : Gh}
theorem c_ValueOkI {s k w : List UInt8} (h : s.length ≤ 1048576 ∧ k.length ≤ 1048576 ∧ w.length ≤ 1048576) : PuG Tryz.prog 11 [S s, S k, S w] G (· = Bo (okV s k w)) := by
 unfold okV
 cases hg : givenV s k w with
 | none =>
  have cx_gi0 := c_given0 (G := G) h hg
  refine jB (Post := fun v G' L' => G' = G ∧ L' = [] ∧ _) [(0, _), (1, _), (2, _)] Tryz.func11 Tryz.ntmps11 fun B hok hB hW => ?_
  repeat' (first | (refine jR ?_) | (refine k_op rfl ?_; first | refine c_al rfl rfl fun _ => ?_ | refine c_stA rfl rfl rfl rfl rfl rfl ?_ | (refine c_fns rfl rfl rfl cx_gi0 rfl ?_; rintro _ G hle ⟨p1, a1, b1, c1, rfl⟩; skip)))
  all_goals refine Nx.base hok hB ?_
  all_goals refine jZ (vs := [_]) rfl ⟨rfl, trivial⟩ rfl ⟨rfl, rfl, ?_⟩
  all_goals rfl
 | some u =>
  obtain ⟨ts, hs, hki, hvo, hto, hwf⟩ := given_some hg
  have cx_gi1 := c_given1 (G := G) h hs hki hvo
  refine jB (Post := fun v G' L' => G' = G ∧ L' = [] ∧ _) [(0, _), (1, _), (2, _)] Tryz.func11 Tryz.ntmps11 fun B hok hB hW => ?_
  repeat' (first | (refine jR ?_) | (refine k_op rfl ?_; first | refine c_al rfl rfl fun _ => ?_ | refine c_stA rfl rfl rfl rfl rfl rfl ?_ | (refine c_fns rfl rfl rfl cx_gi1 rfl ?_; rintro _ G hle ⟨bg, qg, cv, rfl, hTg, hRg, hrv⟩; skip)))
  all_goals refine Nx.base hok hB ?_
  all_goals refine jZ (vs := [_]) rfl ⟨rfl, trivial⟩ rfl ⟨rfl, rfl, ?_⟩
  all_goals rfl
theorem c_ValueOkS {s k w : List UInt8} (h : s.length ≤ 1048576 ∧ k.length ≤ 1048576 ∧ w.length ≤ 1048576) : PuG Tryz.prog 16 [S s, S k, S w] G (· = Bo (okV s k w)) := by
 unfold okV
 cases hg : givenV s k w with
 | none =>
  have cx_l40 := c_l4Of0 (G := G) h hg
  refine jB (Post := fun v G' L' => G' = G ∧ L' = [] ∧ _) [(0, _), (1, _), (2, _)] Tryz.func16 Tryz.ntmps16 fun B hok hB hW => ?_
  repeat' (first | (refine jR ?_) | (refine k_op rfl ?_; (refine c_fns rfl rfl rfl cx_l40 rfl ?_; rintro _ G hle ⟨uu, q1, rfl⟩; skip)))
  all_goals refine Nx.base hok hB ?_
  all_goals refine jZ (vs := [_]) rfl ⟨rfl, trivial⟩ rfl ⟨rfl, rfl, ?_⟩
  all_goals rfl
 | some u =>
  obtain ⟨ts, hs, hki, hvo, hto, hwf⟩ := given_some hg
  have cx_l4 := c_l4Of1 (G := G) h hs hki hvo
  refine jB (Post := fun v G' L' => G' = G ∧ L' = [] ∧ _) [(0, _), (1, _), (2, _)] Tryz.func16 Tryz.ntmps16 fun B hok hB hW => ?_
  repeat' (first | (refine jR ?_) | (refine k_op rfl ?_; (refine c_fns rfl rfl rfl cx_l4 rfl ?_; rintro _ G hle ⟨uu, q1, rfl, hyes⟩; skip)))
  all_goals refine Nx.base hok hB ?_
  all_goals refine jZ (vs := [_]) rfl ⟨rfl, trivial⟩ rfl ⟨rfl, rfl, ?_⟩
  all_goals rfl
def standP (s k : List UInt8) : Value := Tu [S ((standS s k).getD []), Bo (standS s k).isSome]
theorem kindS_standN {s k : List UInt8} (h : kindS s k = false) : standS s k = none := by
 unfold standS
 unfold kindS at h
 cases hs : schemaOf s with
 | none => rfl
 | some ts => rw [hs] at h; dsimp only at h ⊢; rw [if_neg (by simp [h])]
theorem kindS_standY {s k : List UInt8} {ts : List Ty} (h1 : schemaOf s = some ts) (h2 : kindIn ts k = true) : standS s k = some (standK ts k) := by
 unfold standS; rw [h1]; dsimp only; rw [if_pos h2]
theorem c_SchemaStandsI {s k : List UInt8} (h : s.length ≤ 1048576 ∧ k.length ≤ 1048576) : PuG Tryz.prog 9 [S s, S k] G (· = standP s k) := by
 unfold standP
 by_cases hk : kindS s k = true
 case neg =>
  have hk2 : kindS s k = false := by simpa using hk
  rw [kindS_standN hk2]
  have cx_bo1 : ∀ G, FnS Tryz.prog 25 [S s, S k] G (fun v _ => ∃ p a b c, v = Tu [p, Ag [S a, S b, S c], Bo false]) := fun G => by
   refine (c_both (G := G) (s := s) (k := k) (by omega) (by omega)).mono ?_
   rintro v G' L' ⟨h1, h2, ⟨_, p, a, b, c, rfl⟩ | ⟨b, qs, rfl, h3, h4, h5⟩⟩
   ·exact ⟨h1, h2, p, a, b, c, rfl⟩
   ·unfold kindS at hk2; rw [h3] at hk2; dsimp only at hk2; rw [h4] at hk2; cases hk2
  refine jB (Post := fun v G' L' => G' = G ∧ L' = [] ∧ _) [(0, _), (1, _)] Tryz.func9 Tryz.ntmps9 fun B hok hB hW => ?_
  repeat' (first | (refine jR ?_) | (refine k_op rfl ?_; first | refine c_al rfl rfl fun _ => ?_ | refine c_stA rfl rfl rfl rfl rfl rfl ?_ | (refine c_fns rfl rfl rfl (cx_bo1 _) rfl ?_; rintro _ G hle ⟨p1, a1, b1, c1, rfl⟩; skip)) | (refine k_tt rfl rfl ?_))
  all_goals refine Nx.base hok hB ?_
  all_goals refine jZ (vs := [_, _]) rfl ⟨rfl, rfl, trivial⟩ rfl ⟨rfl, rfl, ?_⟩
  all_goals rfl
 obtain ⟨ts, hsc, hki, hw⟩ := kindS_some2 hk
 rw [kindS_standY hsc hki]
 have cx_boa : ∀ G, FnS Tryz.prog 25 [S s, S k] G (fun v G' => ∃ b qs, v = Tu [Pt b 0, Ag [S (sg k), S (bs k), S (nm k)], Bo true] ∧ tyq qs = ts ∧ ScI G' b qs) := fun G => by
  refine (c_both (G := G) (s := s) (k := k) (by omega) (by omega)).mono ?_
  rintro v G' L' ⟨h1, h2, ⟨h3, _⟩ | ⟨b, qs, rfl, h3, h4, h5⟩⟩
  ·rw [hk] at h3; cases h3
  ·exact ⟨h1, h2, b, qs, rfl, Option.some.inj (h3.symm.trans hsc), h5⟩
 refine jB (Post := fun v G' L' => G' = G ∧ L' = [] ∧ _) [(0, _), (1, _)] Tryz.func9 Tryz.ntmps9 fun B hok hB hW => ?_
 repeat' (first | (refine jR ?_) | (refine k_op rfl ?_; first | refine c_al rfl rfl fun _ => ?_ | refine c_stA rfl rfl rfl rfl rfl rfl ?_ | refine jV (g_ldA rfl rfl rfl rfl) ?_ | (refine c_fns rfl rfl rfl (cx_boa _) rfl ?_; rintro _ G hle ⟨ba, qa, rfl, hT1, hR1⟩; skip)) | (refine k_ff rfl rfl ?_))
 subst hT1
 have cx_std := c_standKI hR1 hw hki
 repeat' (first | (refine jR ?_) | (refine k_op rfl ?_; (refine c_rt rfl rfl rfl cx_std rfl ?_)))
 all_goals refine Nx.base hok hB ?_
 all_goals refine jZ (vs := [_, _]) rfl ⟨rfl, rfl, trivial⟩ rfl ⟨rfl, rfl, ?_⟩
 all_goals rfl
theorem c_DrawValueOk {v : Value} {l : List UInt8} (hs : SlV G v 1 l.length (u8s l)) : PuG Tryz.prog 15 [v] G (fun r => ∃ s k x, r = Tu [S s, S k, S x] ∧ s.length ≤ 1048576 ∧ k.length ≤ 1048576 ∧ x.length ≤ 1048576) := by
 refine jE [(0, _)] Tryz.func15 Tryz.ntmps15 fun B hB => ?_
 repeat' (first | (refine jR ?_) | (refine k_op rfl ?_; first | (refine c_fng rfl rfl rfl (c_l6Open (by (repeat (assumption)); done)) rfl ?_; rintro _ _ ⟨b, code, l, rfl, rfl, hcd, hcl⟩; dsimp only [zA, fA]) | (refine c_m1g rfl rfl rfl (c_l91Three ?_ (by (repeat (assumption)); done)) rfl ?_; (focus ((omega); done)); rintro _ _ ⟨sc, kd, tx, q1, rfl, ⟨hsc, hkd, htx⟩, rfl, hq1, hq2⟩; dsimp only [zA, fA])))
 exact jZ (vs := [_, _, _]) rfl ⟨rfl, rfl, rfl, trivial⟩ rfl ⟨rfl, rfl, _, _, _, rfl, by omega, by omega, by omega⟩
theorem c_DrawValueLess {v : Value} {l : List UInt8} (hs : SlV G v 1 l.length (u8s l)) : PuG Tryz.prog 19 [v] G (fun r => ∃ s k x y, r = Tu [S s, S k, S x, S y] ∧ s.length ≤ 1048576 ∧ k.length ≤ 1048576 ∧ x.length ≤ 1048576 ∧ y.length ≤ 1048576) := by
 refine jE [(0, _)] Tryz.func19 Tryz.ntmps19 fun B hB => ?_
 repeat' (first | (refine jR ?_) | (refine k_op rfl ?_; first | (refine c_fng rfl rfl rfl (c_l6Open (by (repeat (assumption)); done)) rfl ?_; rintro _ _ ⟨b, code, l, rfl, rfl, hcd, hcl⟩; dsimp only [zA, fA]) | (refine c_m1g rfl rfl rfl (c_l91Schema ?_ (by (repeat (assumption)); done)) rfl ?_; (focus ((omega); done)); rintro _ _ ⟨sc, q1, rfl, hsc, rfl, hq1, hq2⟩; dsimp only [zA, fA]) | (refine c_m1g rfl rfl rfl (c_l91Some ?_ (by (repeat (assumption)); done) ?_) rfl ?_; (focus ((omega); done)); (focus ((omega); done)); rintro _ _ ⟨kd, q1, rfl, hkd, rfl, hq1, hq2⟩; dsimp only [zA, fA]) | (refine c_m1g rfl rfl rfl (c_l91Of ?_ (by (repeat (assumption)); done) ?_ ?_) rfl ?_; (focus ((omega); done)); (focus ((omega); done)); (focus ((omega); done)); rintro _ _ ⟨tx, q1, rfl, htx, rfl, hq1, hq2⟩; dsimp only [zA, fA])))
 exact jZ (vs := [_, _, _, _]) rfl ⟨rfl, rfl, rfl, rfl, trivial⟩ rfl ⟨rfl, rfl, _, _, _, _, rfl, by omega, by omega, by omega, by omega⟩
theorem c_FnValueOk {v : Value} {l : List UInt8} (hs : SlV G v 1 l.length (u8s l)) : PuG Tryz.prog 5 [v] G (· = Bo true) := by
 obtain ⟨a, cap, rfl⟩ := hs.sl
 refine jE [(0, _)] Tryz.func5 Tryz.ntmps5 fun B hB => ?_
 repeat' (first | (refine jR ?_) | (refine k_op rfl ?_; first | refine jV (g_lenL rfl) ?_ | (refine c_pu rfl rfl rfl (c_DrawValueOk (by (repeat (assumption)); done)) rfl ?_; rintro _ ⟨s1, k1, x1, rfl, hsz⟩)) | refine k_if rfl (fun _ => ?_) (fun _ => ?_))
 ·refine jZ (vs := [_]) rfl ⟨rfl, trivial⟩ rfl ⟨rfl, rfl, ?_⟩
  rfl
 have cx_o1 := c_ValueOkI (G := G) hsz
 have cx_wo := c_ValueOkS (G := G) hsz
 have cx_st := c_SchemaStandsI (G := G) (s := s1) (k := k1) ⟨hsz.1, hsz.2.1⟩
 have cx_vs2 := c_ValueSizeI (G := G) hsz
 unfold standP at cx_st
 unfold sizeV at cx_vs2
 unfold okV at cx_o1 cx_wo
 cases hst : standS s1 k1 with
 | none =>
  rw [hst] at cx_st
  simp only [Option.getD_none, Option.isSome_none] at cx_st
  cases hg : givenV s1 k1 x1
  all_goals
   rw [hg] at cx_o1 cx_wo cx_vs2
   simp only [Option.isSome_none, Option.isSome_some] at cx_o1 cx_wo
   dsimp only at cx_vs2
   repeat' (first | (refine jR ?_) | (refine k_op rfl ?_; first | (refine jV (g_pickT rfl rfl rfl) ?_) | (refine c_rt rfl rfl rfl cx_o1 rfl ?_) | (refine c_rt rfl rfl rfl cx_wo rfl ?_) | (refine c_rt rfl rfl rfl cx_st rfl ?_) | (refine c_rt rfl rfl rfl cx_vs2 rfl ?_)) | (refine k_gt rfl rfl rfl ?_) | (refine k_ff rfl rfl ?_))
   all_goals refine jZ (vs := [_]) rfl ⟨rfl, trivial⟩ rfl ⟨rfl, rfl, ?_⟩
   all_goals rfl
 | some x =>
  rw [hst] at cx_st
  simp only [Option.getD_some, Option.isSome_some] at cx_st
  obtain ⟨u, hu, hz⟩ := stand_ok hst
  have hxl : x.length ≤ 1048576 := by
   obtain ⟨ts, _, _, h3, _⟩ := given_some hu
   have := (valOf_out h3).2.1
   omega
  have cx_o2 := c_ValueOkI (G := G) ⟨hsz.1, hsz.2.1, hxl⟩
  unfold okV at cx_o2
  rw [hu] at cx_o2
  simp only [Option.isSome_some] at cx_o2
  cases hg : givenV s1 k1 x1
  all_goals
   rw [hg] at cx_o1 cx_wo cx_vs2
   simp only [Option.isSome_none, Option.isSome_some] at cx_o1 cx_wo
   dsimp only at cx_vs2
   repeat' (first | (refine jR ?_) | (refine k_op rfl ?_; first | (refine jV (g_pickT rfl rfl rfl) ?_) | (refine jV (g_pickF rfl rfl rfl) ?_) | (refine c_rt rfl rfl rfl cx_o1 rfl ?_) | (refine c_rt rfl rfl rfl cx_o2 rfl ?_) | (refine c_rt rfl rfl rfl cx_wo rfl ?_) | (refine c_rt rfl rfl rfl cx_st rfl ?_) | (refine c_rt rfl rfl rfl cx_vs2 rfl ?_)) | (refine k_gt rfl rfl rfl ?_) | (refine k_gf rfl rfl rfl ?_) | (refine k_ff rfl rfl ?_))
   all_goals refine jZ (vs := [_]) rfl ⟨rfl, trivial⟩ rfl ⟨rfl, rfl, ?_⟩
   all_goals rfl
theorem c_FnValueLess {v : Value} {l : List UInt8} (hs : SlV G v 1 l.length (u8s l)) : PuG Tryz.prog 7 [v] G (· = Bo true) := by
 obtain ⟨a, cap, rfl⟩ := hs.sl
 refine jE [(0, _)] Tryz.func7 Tryz.ntmps7 fun B hB => ?_
 repeat' (first | (refine jR ?_) | (refine k_op rfl ?_; first | refine jV (g_lenL rfl) ?_ | (refine c_pu rfl rfl rfl (c_DrawValueLess (by (repeat (assumption)); done)) rfl ?_; rintro _ ⟨s1, k1, x1, y1, rfl, hsz⟩)) | refine k_if rfl (fun _ => ?_) (fun _ => ?_))
 ·refine jZ (vs := [_]) rfl ⟨rfl, trivial⟩ rfl ⟨rfl, rfl, ?_⟩
  rfl
 have cx_v1 := c_ValueLessI (G := G) hsz
 have cx_w1 := c_ValueLessS (G := G) hsz
 have cx_v2 := c_ValueLessI (G := G) (s := s1) (k := k1) (w := y1) (t := x1) ⟨hsz.1, hsz.2.1, hsz.2.2.2, hsz.2.2.1⟩
 have cx_v3 := c_ValueLessI (G := G) (s := s1) (k := k1) (w := x1) (t := x1) ⟨hsz.1, hsz.2.1, hsz.2.2.1, hsz.2.2.1⟩
 have cx_o1 := c_ValueOkI (G := G) (s := s1) (k := k1) (w := x1) ⟨hsz.1, hsz.2.1, hsz.2.2.1⟩
 have cx_o2 := c_ValueOkI (G := G) (s := s1) (k := k1) (w := y1) ⟨hsz.1, hsz.2.1, hsz.2.2.2⟩
 rw [less_self] at cx_v3
 have h1 : lessV s1 k1 x1 y1 = true → lessV s1 k1 y1 x1 = false := less_asym
 have h2 : okV s1 k1 x1 = true → okV s1 k1 y1 = true → lessV s1 k1 x1 y1 = true ∨ lessV s1 k1 y1 x1 = true ∨ x1 = y1 := less_tot
 have h3 : lessV s1 k1 x1 y1 = true → okV s1 k1 x1 = true ∧ okV s1 k1 y1 = true := less_ok
 have h4 : lessV s1 k1 y1 x1 = true → okV s1 k1 y1 = true ∧ okV s1 k1 x1 = true := less_ok
 generalize lessV s1 k1 x1 y1 = b1 at *
 generalize lessV s1 k1 y1 x1 = b2 at *
 generalize okV s1 k1 x1 = p1 at *
 generalize okV s1 k1 y1 = p2 at *
 have hc : b1 = true ∧ b2 = false ∧ p1 = true ∧ p2 = true ∨ b1 = false ∧ b2 = true ∧ p1 = true ∧ p2 = true ∨ b1 = false ∧ b2 = false ∧ (p1 = true ∧ p2 = true ∧ x1 = y1 ∨ p1 = false ∨ p1 = true ∧ p2 = false) := by
  cases b1 with
  | true => exact .inl ⟨rfl, h1 rfl, (h3 rfl).1, (h3 rfl).2⟩
  | false =>
   cases b2 with
   | true => exact .inr (.inl ⟨rfl, rfl, (h4 rfl).2, (h4 rfl).1⟩)
   | false =>
    refine .inr (.inr ⟨rfl, rfl, ?_⟩)
    cases p1 with
    | false => exact .inr (.inl rfl)
    | true =>
     cases p2 with
     | false => exact .inr (.inr ⟨rfl, rfl⟩)
     | true =>
      rcases h2 rfl rfl with h | h | h
      ·cases h
      ·cases h
      ·exact .inl ⟨rfl, rfl, h⟩
 clear h1 h2 h3 h4
 rcases hc with ⟨rfl, rfl, rfl, rfl⟩ | ⟨rfl, rfl, rfl, rfl⟩ | ⟨rfl, rfl, ⟨rfl, rfl, he⟩ | rfl | ⟨rfl, rfl⟩⟩
 all_goals
  repeat' (first | (refine jR ?_) | (refine k_op rfl ?_; first | (refine jV (g_pickT rfl rfl rfl) ?_) | (refine jV (g_pickF rfl rfl rfl) ?_) | (refine c_rt rfl rfl rfl cx_v1 rfl ?_) | (refine c_rt rfl rfl rfl cx_v2 rfl ?_) | (refine c_rt rfl rfl rfl cx_v3 rfl ?_) | (refine c_rt rfl rfl rfl cx_w1 rfl ?_) | (refine c_rt rfl rfl rfl cx_o1 rfl ?_) | (refine c_rt rfl rfl rfl cx_o2 rfl ?_)) | (refine k_gt rfl rfl (by first | rfl | (refine decide_eq_true ?_; (assumption))) ?_) | (refine k_gf rfl rfl rfl ?_) | (refine k_ff rfl rfl ?_))
  all_goals refine jZ (vs := [_]) rfl ⟨rfl, trivial⟩ rfl ⟨rfl, rfl, ?_⟩
  all_goals rfl
end Go.E
namespace Go.E
set_option maxRecDepth 20000
set_option maxHeartbeats 2000000
open Go.Proofs
def stepsOf : List (List UInt8) → Option (List Int)
 | [] => some []
 | x :: xs => match numOf x 999999 with
  | none => none
  | some n => (stepsOf xs).map (n :: ·)
def pathOf (s : List UInt8) : Option (List Int) := if s = [] then some [] else match stepsOf (cut 47 s) with
 | some p => if p.length ≤ 8 then some p else none
 | none => none
theorem stepsOf_len : ∀ {xs : List (List UInt8)} {p : List Int}, stepsOf xs = some p → p.length = xs.length ∧ ∀ n ∈ p, 0 ≤ n ∧ n ≤ 999999
 | [], p, h => by simp only [stepsOf, Option.some.injEq] at h; subst h; simp
 | x :: xs, p, h => by
  unfold stepsOf at h
  cases hn : numOf x 999999 with
  | none => rw [hn] at h; cases h
  | some n =>
   rw [hn] at h
   dsimp only at h
   cases hs : stepsOf xs with
   | none => rw [hs] at h; cases h
   | some q =>
    rw [hs] at h
    simp only [Option.map_some, Option.some.injEq] at h
    subst h
    obtain ⟨h1, h2⟩ := stepsOf_len hs
    refine ⟨by simp [h1], fun m hm => ?_⟩
    rcases List.mem_cons.1 hm with rfl | hm
    ·exact ⟨numOf_nn hn, (numOf_le hn).1⟩
    ·exact h2 m hm
def standV (ts : List Ty) (f : Fld) : V := (valOf ts f.kind (standF ts f)).getD default
def toldV (f : Fld) : List V → Option V
 | [] => none
 | x :: r => if x.tag = f.tag then some (nth x.kids 0) else toldV f r
def getV (ts : List Ty) (v : V) (f : Fld) : V := (toldV f v.kids).getD (standV ts f)
def stepV (ts : List Ty) (k : List UInt8) (v : V) (n : Int) : Option (List UInt8 × V) := match k with
 | [] => none
 | c :: r => if c.toNat = 91 ∨ c.toNat = 63 then (if n < (v.kids.length : Nat) then some (r, nth v.kids n.toNat) else none)
  else match refT ts (c :: r) with
   | none => none
   | some t => match fldT t.fields n with
    | none => none
    | some f => if t.sort = 69 then none else if t.sort = 82 then some (f.kind, getV ts v f) else if v.tag = n then some (f.kind, nth v.kids 0) else none
def followV (ts : List Ty) : List UInt8 → V → List Int → Option (List UInt8 × V)
 | k, v, [] => some (k, v)
 | k, v, n :: p => match stepV ts k v n with
  | none => none
  | some (k', v') => followV ts k' v' p
theorem standV_ok {ts : List Ty} (hw : SchW ts) {t : Ty} (ht : t ∈ ts) (hs : t.sort ≠ 69) {d : Fld} (hd : d ∈ t.fields) : OfK ts d.kind (standV ts d) ∧ valOf ts d.kind (standF ts d) = some (standV ts d) ∧ (standV ts d).out = standF ts d := by
 obtain ⟨u, h1, h2, h3, h4⟩ := standF_val hw ht hs hd
 have h5 := valOf_in hw h1 h4 h3
 rw [h2] at h5
 have h6 : standV ts d = u := by unfold standV; rw [h5]; rfl
 rw [h6]
 exact ⟨h1, h5, h2⟩
theorem toldV_of {ts : List Ty} {t : Ty} (hw : TyW t) {f : Fld} (hf : f ∈ t.fields) : ∀ {fs : List (Fld × V)} {u : V}, (∀ p ∈ fs, p.1 ∈ t.fields ∧ OfK ts p.1.kind p.2) → toldV f (fs.map fldV) = some u → OfK ts f.kind u ∧ ∃ p ∈ fs, p.1 = f ∧ p.2 = u
 | [], u, _, h => by simp [toldV] at h
 | p :: fs, u, hp, h => by
  simp only [List.map_cons, toldV] at h
  split at h
  ·rename_i he
   simp only [Option.some.injEq] at h
   have h1 : p.2 = u := h
   have h2 := fld_tag hw (hp p (by simp)).1 hf he
   subst h1
   exact ⟨by rw [← h2]; exact (hp p (by simp)).2, p, by simp, h2, rfl⟩
  ·obtain ⟨h1, q, h2, h3⟩ := toldV_of hw hf (fun q hq => hp q (by simp [hq])) h
   exact ⟨h1, q, by simp [h2], h3⟩
theorem getV_ok {ts : List Ty} (hw : SchW ts) {t : Ty} (ht : t ∈ ts) (hs : t.sort = 82) {f : Fld} (hf : f ∈ t.fields) {fs : List (Fld × V)} (hp : ∀ p ∈ fs, p.1 ∈ t.fields ∧ OfK ts p.1.kind p.2) : OfK ts f.kind (getV ts (.nd 82 [] 0 (fs.map fldV)) f) := by
 unfold getV
 cases h : toldV f (V.kids (.nd 82 [] 0 (fs.map fldV))) with
 | none => exact (standV_ok hw ht (by omega) hf).1
 | some u => exact (toldV_of (hw.ty t ht) hf hp h).1
theorem stepV_ok {ts : List Ty} (hw : SchW ts) {k : List UInt8} {v : V} (h : OfK ts k v) (hk : kindIn ts k = true) {n : Int} (hn : 0 ≤ n) {k' : List UInt8} {v' : V} (e : stepV ts k v n = some (k', v')) : OfK ts k' v' ∧ kindIn ts k' = true := by
 obtain ⟨c, r, rfl⟩ := kind_ne hk
 unfold stepV at e
 dsimp only at e
 split at e
 ·rename_i hc
  split at e
  ·rename_i hlt
   simp only [Option.some.injEq, Prod.mk.injEq] at e
   obtain ⟨rfl, rfl⟩ := e
   refine ⟨?_, kindIn_tail hc hk⟩
   rcases ofK_inv_c h (by omega) with ⟨h1, _⟩ | ⟨h1, _⟩ | ⟨h1, _⟩ | ⟨h1, ks, _, h3, rfl⟩ | ⟨h1, rfl | ⟨u, h3, rfl⟩⟩
   ·omega
   ·omega
   ·omega
   ·rw [V.kids] at hlt ⊢
    have : n.toNat < ks.length := by omega
    rw [nth_eq this]; exact h3 _ (List.getElem_mem this)
   ·simp [V.kids] at hlt; omega
   ·simp [V.kids] at hlt
    have : n.toNat = 0 := by omega
    rw [this]; exact h3
  ·cases e
 ·split at e
  ·cases e
  ·rename_i t hr
   have ht := refT_mem hr
   split at e
   ·cases e
   ·rename_i f hf
    have hfm := List.mem_of_find?_eq_some hf
    split at e
    ·cases e
    ·rename_i h69
     have hki := kind_in hw ht h69 hfm
     split at e
     ·rename_i h82
      simp only [Option.some.injEq, Prod.mk.injEq] at e
      obtain ⟨rfl, rfl⟩ := e
      rcases ofK_inv_t h hr with ⟨_, fs, rfl, g3, g4, _, _⟩ | ⟨h1, _⟩ | ⟨h1, _⟩
      ·exact ⟨getV_ok hw ht h82 hfm fun p hp => ⟨g3 p hp, g4 p hp⟩, hki⟩
      ·omega
      ·omega
     ·rename_i h82
      split at e
      ·rename_i htg
       simp only [Option.some.injEq, Prod.mk.injEq] at e
       obtain ⟨rfl, rfl⟩ := e
       rcases ofK_inv_t h hr with ⟨h1, _⟩ | ⟨h1, _⟩ | ⟨_, _, d, u, rfl, g4, g5⟩
       ·omega
       ·omega
       ·have h7 : f.tag = n := by have := List.find?_some hf; simpa using this
        have h8 := fld_tag (hw.ty t ht) g4 hfm (by rw [h7]; exact htg)
        rw [V.kids]
        exact ⟨by rw [← h8]; exact g5, hki⟩
      ·cases e
theorem followV_ok {ts : List Ty} (hw : SchW ts) : ∀ {p : List Int} {k : List UInt8} {v : V} {k' : List UInt8} {v' : V}, OfK ts k v → kindIn ts k = true → (∀ n ∈ p, 0 ≤ n) → followV ts k v p = some (k', v') → OfK ts k' v' ∧ kindIn ts k' = true
 | [], k, v, k', v', h, hk, _, e => by
  simp only [followV, Option.some.injEq, Prod.mk.injEq] at e
  obtain ⟨rfl, rfl⟩ := e
  exact ⟨h, hk⟩
 | n :: p, k, v, k', v', h, hk, hp, e => by
  unfold followV at e
  cases hs : stepV ts k v n with
  | none => rw [hs] at e; cases e
  | some x =>
   rw [hs] at e
   obtain ⟨k1, v1⟩ := x
   obtain ⟨h1, h2⟩ := stepV_ok hw h hk (hp n (by simp)) hs
   exact followV_ok hw h1 h2 (fun m hm => hp m (by simp [hm])) e
end Go.E
namespace Go.E
set_option maxRecDepth 20000
set_option maxHeartbeats 2000000
open Go.Proofs
variable {G : Gh}
theorem stepsOf_snoc {x : List UInt8} : ∀ {xs : List (List UInt8)} {ps : List Int}, stepsOf xs = some ps → stepsOf (xs ++ [x]) = (numOf x 999999).map fun n => ps ++ [n]
 | [], ps, h => by
  simp only [stepsOf, Option.some.injEq] at h; subst h
  simp only [List.nil_append, stepsOf]
  cases numOf x 999999 <;> rfl
 | y :: ys, ps, h => by
  unfold stepsOf at h
  cases hn : numOf y 999999 with
  | none => rw [hn] at h; cases h
  | some n =>
   rw [hn] at h
   dsimp only at h
   cases hs : stepsOf ys with
   | none => rw [hs] at h; cases h
   | some q =>
    rw [hs] at h
    simp only [Option.map_some, Option.some.injEq] at h
    subst h
    rw [List.cons_append]
    unfold stepsOf
    rw [hn]
    dsimp only
    rw [stepsOf_snoc hs]
    cases numOf x 999999 <;> rfl
theorem stepsOf_no {x : List UInt8} {ys : List (List UInt8)} (h : numOf x 999999 = none) : ∀ {xs : List (List UInt8)}, stepsOf (xs ++ x :: ys) = none
 | [] => by simp only [List.nil_append, stepsOf, h]
 | y :: xs => by
  rw [List.cons_append]
  unfold stepsOf
  cases numOf y 999999 with
  | none => rfl
  | some n => dsimp only; rw [stepsOf_no h]; rfl
abbrev tIntP : TypeId := 3
def StepsP (s : List UInt8) (v : Value) (G : Gh) : Prop := ∃ a c n, v = Tu [.slice a n c, Bo (pathOf s).isSome] ∧ ∀ p, pathOf s = some p → n = p.length ∧ SlV G (.slice a n c) 1 p.length (rows inR p)
theorem pathOf_ne {s : List UInt8} (h : s ≠ []) : pathOf s = match stepsOf (cut 47 s) with
  | some p => if p.length ≤ 8 then some p else none
  | none => none := by unfold pathOf; rw [if_neg h]; cases stepsOf (cut 47 s) <;> rfl
theorem pathOf_bad {s : List UInt8} (h : s ≠ []) {i : Nat} (hi : i < (cut 47 s).length) (hn : numOf (nth (cut 47 s) i) 999999 = none) : pathOf s = none := by
 rw [pathOf_ne h]
 have e : cut 47 s = (cut 47 s).take i ++ nth (cut 47 s) i :: (cut 47 s).drop (i + 1) := by
  rw [nth_eq hi, List.getElem_cons_drop, List.take_append_drop]
 rw [e, stepsOf_no hn]
theorem c_stepsS {s : List UInt8} (h : s.length ≤ 1048576) : FnS Tryz.prog 32 [S s] G (StepsP s) := by
 by_cases h0 : s = []
 ·subst h0
  refine jB [(0, _)] Tryz.func32 Tryz.ntmps32 fun B hok hB hW => ?_
  repeat' (first | (refine jR ?_) | (refine k_op rfl ?_; (refine c_bsl rfl rfl rfl rfl rfl rfl fun _ => ?_)) | (refine k_tt rfl rfl ?_))
  rename_i x
  refine Nx.blkAcc (m := 0) (sz := 1) .here rfl ?_
  refine Nx.sealS (v := .slice (some ⟨x, 0, none⟩) 0 0) fun G2 hG2 hsl => ?_
  refine jZ (vs := [_, _]) rfl ⟨rfl, rfl, trivial⟩ rfl ⟨hG2, rfl, ?_⟩
  exact ⟨_, _, _, rfl, fun p hp => by
   obtain rfl : p = [] := by unfold pathOf at hp; simpa using hp.symm
   exact ⟨rfl, hsl⟩⟩
 have cx_cutS : FnS Tryz.prog 66 [S s, U8 47] G (fun v G' => SlV G' v 1 (cut 47 s).length (rows strF (cut 47 s))) := c_l3CutS (k := 47) (by omega)
 have hcl := cut_count (k := 47) (s := s)
 have hbad := fun {i : Nat} => pathOf_bad h0 (i := i)
 have hpo := pathOf_ne h0
 have hxl : ∀ i, i < (cut 47 s).length → (nth (cut 47 s) i).length ≤ 100000000 := fun i hi => by
  have := cut_len (nth_mem hi)
  omega
 generalize cut 47 s = xs at *
 refine jB [(0, _)] Tryz.func32 Tryz.ntmps32 fun B hok hB hW => ?_
 repeat' (first | (refine jR ?_) | (refine k_op rfl ?_; first | refine c_bsl rfl rfl rfl rfl rfl rfl fun _ => ?_ | (refine c_fns rfl rfl rfl cx_cutS rfl ?_; rintro _ G hle hcut; skip)) | (refine k_ff rfl (dFf ‹_›) ?_))
 rename_i x _
 obtain ⟨la, lc, rfl⟩ := hcut.sl
 refine Nx.blkAcc (m := 0) (sz := 1) .here rfl ?_
 refine k_loop (ι := List Int × Option Addr × Nat × Nat) (fun j => (j.1.length = j.2.2.2 ∧ j.2.2.2 ≤ xs.length) ∧ stepsOf (xs.take j.2.2.2) = some j.1) (fun j => [(4, .slice j.2.1 j.1.length j.2.2.1), (5, .slice la xs.length lc), (6, I j.2.2.2)]) (fun _ => G) (fun j => [.acc (.slice j.2.1 j.1.length j.2.2.1) tIntP 1 j.1.length (rows inR j.1)]) (fun j => xs.length - j.2.2.2) ([], some ⟨x, 0, none⟩, 0, 0) ?_ (by repeat' constructor) rfl sRr (fun j Hj => ?_)
 ·exact ⟨⟨rfl, Nat.zero_le _⟩, rfl⟩
 obtain ⟨ps, a, c, i⟩ := j
 dsimp only at Hj ⊢
 obtain ⟨⟨hpl, hi0⟩, hst⟩ := Hj
 by_cases hi : i < xs.length
 ·obtain ⟨bl, ol, cl, e, hsx⟩ := hcut.expl (by omega)
  simp only [Value.slice.injEq] at e
  obtain ⟨rfl, -, rfl⟩ := e
  have hxl1 := hxl i hi
  cases hn : numOf (nth xs i) 999999 with
  | none =>
   have hno := hbad hi hn
   have hns : (!(numOf (nth xs i) 999999).isSome) = true := by rw [hn]; rfl
   repeat' (first | (refine jR ?_) | (refine k_op rfl ?_; first | refine jV (g_lenL rfl) ?_ | (refine jV (g_iaddrN rfl rfl (by omega)) ?_) | (refine jV (g_ldRS rfl rfl (by assumption) ?_) ?_; (focus ((omega); done))) | (refine c_pu rfl rfl rfl (c_l3Num (by omega)) rfl ?_; rintro _ ⟨n, rfl, hnum⟩)) | (refine k_tt rfl (by first | assumption | (refine decide_eq_true ?_; (omega))) ?_))
   all_goals refine jZ (vs := [_, _]) rfl ⟨rfl, rfl, trivial⟩ rfl ⟨hle, rfl, ?_⟩
   all_goals exact ⟨_, _, _, by rw [hno]; rfl, fun p hp => by rw [hno] at hp; cases hp⟩
  | some m =>
   have hns : (!(numOf (nth xs i) 999999).isSome) = false := by rw [hn]; rfl
   repeat' (first | refine jM ?_ | (refine k_op rfl ?_; first | refine c_bsl rfl rfl rfl rfl rfl rfl fun _ => ?_ | refine jV (g_lenL rfl) ?_ | (refine jV (g_iaddrN rfl rfl (by omega)) ?_) | (refine jV (g_ldRS rfl rfl (by assumption) ?_) ?_; (focus ((omega); done))) | (refine c_apX rfl rfl rfl rfl rfl rfl rfl rfl rfl (by omega) fun _ _ => ?_) | (refine c_pu rfl rfl rfl (c_l3Num (by omega)) rfl ?_; rintro _ ⟨n, rfl, hnum⟩)) | (refine k_tt rfl (dTt (by omega)) ?_) | (refine k_ff rfl ‹_› ?_))
   rename_i y1 yc
   have hmn := hnum m hn
   subst hmn
   have hst2 : stepsOf (xs.take (i + 1)) = some (ps ++ [n]) := by rw [take_nth hi, stepsOf_snoc hst, hn]; rfl
   have hl1 : (ps ++ [n]).length = ps.length + 1 := by simp
   rw [show rows inR ps ++ [I n] = rows inR (ps ++ [n]) from (rows_snoc inR ps n).symm]
   exact k_rd (ps ++ [n], some ⟨y1, 0, none⟩, yc, i + 1) ⟨⟨by dsimp only; omega, by dsimp only; omega⟩, hst2⟩ (by dsimp only; omega) (by rw [hl1]; repeat (first | exact trivial | refine ⟨rfl, ?_⟩)) rfl (by rw [hl1]; repeat (first | exact List.nil_sublist _ | apply List.Sublist.cons_cons))
 ·rw [List.take_of_length_le (by omega)] at hst
  rw [hst] at hpo
  dsimp only at hpo
  repeat' (first | (refine jR ?_) | (refine k_op rfl ?_; (refine jV (g_lenL rfl) ?_)) | (refine k_ff rfl (dFf (by omega)) ?_))
  refine Nx.sealS (v := .slice a ps.length c) fun G2 hG2 hsl => ?_
  refine jZ (vs := [_, _]) rfl ⟨rfl, rfl, trivial⟩ rfl ⟨hle.trans hG2, rfl, ?_⟩
  have e8 : decide (((xs.length : Nat) : Int) ≤ 8) = (pathOf s).isSome := by
   rw [hpo]
   by_cases h8 : ps.length ≤ 8
   ·rw [if_pos h8]; exact decide_eq_true (by omega)
   ·rw [if_neg h8]; exact decide_eq_false (by omega)
  refine ⟨_, _, _, by rw [e8]; rfl, fun p hp => ?_⟩
  rw [hpo] at hp
  split at hp
  ·simp only [Option.some.injEq] at hp; subst hp; exact ⟨rfl, hsl⟩
  ·cases hp
theorem refT_p {ts : List Ty} {c : UInt8} {r : List UInt8} (h : c.toNat ≠ 64) : refT ts (c :: r) = none := by
 cases h2 : refT ts (c :: r) with
 | none => rfl
 | some t => exact (refT_no h2 rfl h).elim
theorem first_at {p : Nat → Prop} {n : Nat} (h : ∃ j, j < n ∧ p j) : ∃ j, j < n ∧ p j ∧ ∀ i, i < j → ¬ p i := by
 obtain ⟨j, hj, hp⟩ := h
 induction j using Nat.strongRecOn with
 | _ j ih =>
  by_cases hc : ∃ i, i < j ∧ p i
  ·obtain ⟨i, hi, hpi⟩ := hc
   exact ih i hi (by omega) hpi
  ·exact ⟨j, hj, hp, fun i hi hpi => hc ⟨i, hi, hpi⟩⟩
theorem toldV_at {f : Fld} : ∀ {fs : List (Fld × V)} {j : Nat}, j < fs.length → (nth fs j).1.tag = f.tag → (∀ i, i < j → (nth fs i).1.tag ≠ f.tag) → toldV f (fs.map fldV) = some (nth fs j).2
 | [], j, hj, _, _ => by simp at hj
 | p :: fs, 0, _, ht, _ => by
  rw [List.map_cons, toldV, if_pos (show (fldV p).tag = f.tag from ht)]; rfl
 | p :: fs, j + 1, hj, ht, hno => by
  rw [List.map_cons, toldV, if_neg (show ¬ (fldV p).tag = f.tag from hno 0 (by omega))]
  exact toldV_at (fs := fs) (j := j) (by simpa using hj) ht fun i hi => hno (i + 1) (by omega)
theorem toldV_no {f : Fld} : ∀ {fs : List (Fld × V)}, (∀ i, i < fs.length → (nth fs i).1.tag ≠ f.tag) → toldV f (fs.map fldV) = none
 | [], _ => rfl
 | p :: fs, h => by
  rw [List.map_cons, toldV, if_neg (show ¬ (fldV p).tag = f.tag from h 0 (by simp))]
  exact toldV_no fun i hi => h (i + 1) (by simpa using hi)
theorem valOf_rd {ts : List Ty} {k w : List UInt8} {v : V} (h : valOf ts k w = some v) : rd ts 12 k w = some (v, []) ∧ w.length ≤ 400 := by
 unfold valOf at h
 split at h
 ·rename_i hl
  split at h
  ·rename_i v' hv; rw [hv]; exact ⟨congrArg (fun x => some (x, [])) (Option.some.inj h), hl⟩
  ·cases h
 ·cases h
theorem c_atY {b j : Nat} {k : List UInt8} {tg : List Int} {bs : List Nat} {a a2 : Option Addr} {c c2 : Nat} {n : Int} (hl : bs.length = tg.length) (h9 : tg.length ≤ 100000) (hs : Seg G b 0 [S k, S [82], .slice a tg.length c, .slice a2 tg.length c2]) (h1 : SlV G (.slice a tg.length c) 1 tg.length (rows inR tg)) (h2 : SlV G (.slice a2 tg.length c2) 1 tg.length (rows ptR bs)) (hj : j < tg.length) (hjn : nth tg j = n) (hno : ∀ i, i < j → nth tg i ≠ n) :
  PuG Tryz.prog 101 [Pt b 0, I n] G (· = Tu [Pt (nth bs j) 0, Bo true]) := by
 obtain ⟨xb, xo, xc, e, hs1⟩ := h1.expl (by omega)
 simp only [Value.slice.injEq] at e
 obtain ⟨rfl, -, rfl⟩ := e
 obtain ⟨zb, zo, zc, e, hs2⟩ := h2.expl (by omega)
 simp only [Value.slice.injEq] at e
 obtain ⟨rfl, -, rfl⟩ := e
 refine jE [(0, _), (1, _)] Tryz.func101 Tryz.ntmps101 fun B hB => ?_
 repeat' (refine jR ?_)
 refine k_loop (ι := Nat) (fun i => i ≤ j) (fun i => [(0, Pt b 0), (1, I n), (6, I i)]) (fun _ => G) (fun i => []) (fun i => j - i) 0 ?_ (by repeat' constructor) rfl sRr (fun i Hi => ?_)
 ·exact Nat.zero_le _
 have hxi : nth bs i = nth bs i := rfl
 have hti : nth tg i = nth tg i := rfl
 by_cases hij : i = j
 ·subst hij
  repeat' (first | (refine jR ?_) | (refine k_op rfl ?_; first | refine jV (g_ldS rfl rfl (by assumption) rfl rfl) ?_ | (refine jV (g_ldR1x rfl rfl (by assumption) ?_ (by assumption) rfl) ?_; (focus ((omega); done))) | refine jV (g_lenL rfl) ?_ | (refine jV (g_pickT rfl rfl rfl) ?_) | (refine jV (g_iaddrN rfl rfl (by omega)) ?_)) | (refine k_gt rfl rfl (dTt (by omega)) ?_) | (refine k_tt rfl (by first | rfl | (refine decide_eq_true ?_; (rfl))) ?_))
  all_goals refine jZ (vs := [_, _]) rfl ⟨rfl, rfl, trivial⟩ rfl ⟨rfl, rfl, ?_⟩
  all_goals rfl
 ·have h3 := hno i (by omega)
  repeat' (first | refine jM ?_ | (refine k_op rfl ?_; first | refine jV (g_ldS rfl rfl (by assumption) rfl rfl) ?_ | (refine jV (g_ldR1x rfl rfl (by assumption) ?_ (by assumption) rfl) ?_; (focus ((omega); done))) | refine jV (g_lenL rfl) ?_ | (refine jV (g_pickT rfl rfl rfl) ?_) | (refine jV (g_iaddrN rfl rfl (by omega)) ?_)) | (refine k_gt rfl rfl (dTt (by omega)) ?_) | (refine k_tt rfl rfl ?_) | (refine k_ff rfl (dFf ‹_›) ?_))
  exact k_rd (i + 1) (show i + 1 ≤ j by have : i ≤ j := Hi; omega) (by have : i ≤ j := Hi; omega) (by repeat' constructor) rfl sRr
theorem c_atN {b : Nat} {k : List UInt8} {tg : List Int} {a a2 : Option Addr} {c c2 : Nat} {n : Int} (h9 : tg.length ≤ 100000) (hs : Seg G b 0 [S k, S [82], .slice a tg.length c, .slice a2 tg.length c2]) (h1 : SlV G (.slice a tg.length c) 1 tg.length (rows inR tg)) (hno : ∀ i, i < tg.length → nth tg i ≠ n) :
  PuG Tryz.prog 101 [Pt b 0, I n] G (· = Tu [.pointer none, Bo false]) := by
 refine jE [(0, _), (1, _)] Tryz.func101 Tryz.ntmps101 fun B hB => ?_
 repeat' (refine jR ?_)
 refine k_loop (ι := Nat) (fun i => i ≤ tg.length) (fun i => [(0, Pt b 0), (1, I n), (6, I i)]) (fun _ => G) (fun i => []) (fun i => tg.length - i) 0 ?_ (by repeat' constructor) rfl sRr (fun i Hi => ?_)
 ·exact Nat.zero_le _
 by_cases hi : i < tg.length
 ·obtain ⟨xb, xo, xc, e, hs1⟩ := h1.expl (by omega)
  simp only [Value.slice.injEq] at e
  obtain ⟨rfl, -, rfl⟩ := e
  have h3 := hno i hi
  have hti : nth tg i = nth tg i := rfl
  repeat' (first | refine jM ?_ | (refine k_op rfl ?_; first | refine jV (g_ldS rfl rfl (by assumption) rfl rfl) ?_ | (refine jV (g_ldR1x rfl rfl (by assumption) ?_ (by assumption) rfl) ?_; (focus ((omega); done))) | refine jV (g_lenL rfl) ?_ | (refine jV (g_pickT rfl rfl rfl) ?_) | (refine jV (g_iaddrN rfl rfl (by omega)) ?_)) | (refine k_gt rfl rfl (dTt (by omega)) ?_) | (refine k_tt rfl rfl ?_) | (refine k_ff rfl (dFf ‹_›) ?_))
  exact k_rd (i + 1) (by omega) (by omega) (by repeat' constructor) rfl sRr
 ·repeat' (first | (refine jR ?_) | (refine k_op rfl ?_; first | refine jV (g_ldS rfl rfl (by assumption) rfl rfl) ?_ | refine jV (g_lenL rfl) ?_ | (refine jV (g_pickF rfl rfl rfl) ?_)) | (refine k_gf rfl rfl (dFf (by omega)) ?_) | (refine k_ff rfl rfl ?_))
  all_goals refine jZ (vs := [_, _]) rfl ⟨rfl, rfl, trivial⟩ rfl ⟨rfl, rfl, ?_⟩
  all_goals rfl
theorem c_l4Record {u : Value} {x : TyX} {k : List UInt8} {n : Int} (hu : u.oneCell' = true) (hf : SlV G (slX x) 4 x.2.fields.length (rows fldF x.2.fields)) (hl : x.2.fields.length ≤ 1000) (cx_rf : PuG Tryz.prog 63 [u, S k] G (· = Tu [Ag [U8 x.2.sort, S x.2.name, slX x], Bo true])) (hso : x.2.sort = 82) :
  PuG Tryz.prog 77 [u, S k, I n] G (· = Tu [Ag (fldF ((fldT x.2.fields n).getD zF)), Bo (fldT x.2.fields n).isSome]) := by
 have cx_fld := c_fieldS (tag := n) hf hl
 obtain ⟨⟨a, ca⟩, ⟨so, nm, fs⟩⟩ := x
 dsimp only at hso cx_fld cx_rf ⊢
 subst hso
 dsimp only [slX] at cx_fld cx_rf ⊢
 cases hg : fldT fs n with
 | none =>
  rw [hg] at cx_fld
  simp only [Option.getD_none, Option.isSome_none] at cx_fld ⊢
  refine jE [(0, _), (1, _), (2, _)] Tryz.func77 Tryz.ntmps77 fun B hB => ?_
  repeat' (first | (refine jR ?_) | (refine k_op rfl ?_; first | refine c_al rfl rfl fun _ => ?_ | refine c_stA rfl rfl rfl rfl rfl rfl ?_ | refine jV (g_ldA rfl rfl rfl rfl) ?_ | (refine c_rt rfl rfl rfl cx_rf rfl ?_) | (refine c_rt rfl rfl rfl cx_fld rfl ?_)) | (refine k_any (s_anyD (id := 3) (tt := 6) rfl mixed ?_); refine jU 10 [1, 2] (bts 12 6) ?_ ?_; (focus (repeat' (exact trivial))); (try (refine Nx.re (d := 26) (v' := Bo true) rfl (congrArg Value.bool rfl) ?_)); refine jU 9 [3] (bts 12 14) ?_ ?_; (focus (repeat' (exact trivial))); (refine jG (bts 12 15) 0 rfl (g_ldA rfl rfl rfl rfl) ?_); ((refine jG (bts 12 31) 4 rfl (g_pickT rfl rfl ?_) ?_; (focus ((rfl); done)))); refine jU 6 [5] (bts 12 63) ?_ ?_; (focus (repeat' (exact trivial))); (try (refine Nx.re (d := 29) (v' := Bo false) rfl (congrArg Value.bool rfl) ?_)); refine jU 5 [6] (bts 12 127) ?_ ?_; (focus (repeat' (exact trivial))); (refine jN (bts 12 255) 7 rfl ?_); refine jU 3 [8] (bts 12 511) ?_ ?_; (focus (repeat' (exact trivial))); ((refine jG (bts 12 1023) 9 rfl (g_pickF rfl rfl ?_) ?_; (focus ((rfl); done)))); refine jA 10 rfl ?_; (refine c_stA rfl rfl rfl rfl rfl rfl ?_); refine jK (bts 12 2047) ?_; refine jU 0 [11] (bts 12 4095) ?_ ?_; (focus (repeat' (exact trivial))); refine x_done (by kernel_rfl) (k_bk ?_)))
  all_goals refine jZ (vs := [_, _]) rfl ⟨rc_A rfl rfl rfl rfl, rfl, trivial⟩ rfl ⟨rfl, rfl, ?_⟩
  all_goals rfl
 | some f =>
  rw [hg] at cx_fld
  simp only [Option.getD_some, Option.isSome_some] at cx_fld ⊢
  refine jE [(0, _), (1, _), (2, _)] Tryz.func77 Tryz.ntmps77 fun B hB => ?_
  repeat' (first | (refine jR ?_) | (refine k_op rfl ?_; first | refine c_al rfl rfl fun _ => ?_ | refine c_stA rfl rfl rfl rfl rfl rfl ?_ | refine jV (g_ldA rfl rfl rfl rfl) ?_ | (refine c_rt rfl rfl rfl cx_rf rfl ?_) | (refine c_rt rfl rfl rfl cx_fld rfl ?_)) | (refine k_any (s_anyD (id := 3) (tt := 6) rfl mixed ?_); refine jU 10 [1, 2] (bts 12 6) ?_ ?_; (focus (repeat' (exact trivial))); (try (refine Nx.re (d := 26) (v' := Bo true) rfl (congrArg Value.bool rfl) ?_)); refine jU 9 [3] (bts 12 14) ?_ ?_; (focus (repeat' (exact trivial))); (refine jG (bts 12 15) 0 rfl (g_ldA rfl rfl rfl rfl) ?_); ((refine jG (bts 12 31) 4 rfl (g_pickT rfl rfl ?_) ?_; (focus ((rfl); done)))); refine jU 6 [5] (bts 12 63) ?_ ?_; (focus (repeat' (exact trivial))); (try (refine Nx.re (d := 29) (v' := Bo true) rfl (congrArg Value.bool rfl) ?_)); refine jU 5 [6] (bts 12 127) ?_ ?_; (focus (repeat' (exact trivial))); (refine jG (bts 12 255) 7 rfl (g_ld rfl rfl rfl) ?_); refine jU 3 [8] (bts 12 511) ?_ ?_; (focus (repeat' (exact trivial))); ((refine jG (bts 12 1023) 9 rfl (g_pickT rfl rfl ?_) ?_; (focus ((rfl); done)))); refine jA 10 rfl ?_; (refine c_stA rfl rfl rfl rfl rfl rfl ?_); refine jK (bts 12 2047) ?_; refine jU 0 [11] (bts 12 4095) ?_ ?_; (focus (repeat' (exact trivial))); refine x_done (by kernel_rfl) (k_bk ?_)))
  all_goals refine jZ (vs := [_, _]) rfl ⟨rc_A rfl rfl rfl rfl, rfl, trivial⟩ rfl ⟨rfl, rfl, ?_⟩
  all_goals rfl
def StepP (ts : List Ty) (o : Option (List UInt8 × V)) (r : Value) (G' : Gh) : Prop := (o = none ∧ ∃ q, r = Tu [.pointer q, Bo false]) ∨ ∃ k' v' b', o = some (k', v') ∧ r = Tu [Pt b' 0, Bo true] ∧ RepR G' ts v' k' b'
theorem StepP.no {f : FuncId} {args : List Value} {ts : List Ty} {o : Option (List UInt8 × V)} (h : FnS Tryz.prog f args G (StepP ts o)) (e : o = none) : FnS Tryz.prog f args G (fun r _ => ∃ q, r = Tu [.pointer q, Bo false]) := by
 refine h.mono ?_
 rintro v G' L' ⟨h1, h2, ⟨_, h3⟩ | ⟨k', v', b', h3, _⟩⟩
 ·exact ⟨h1, h2, h3⟩
 ·rw [e] at h3; cases h3
theorem StepP.yes {f : FuncId} {args : List Value} {ts : List Ty} {o : Option (List UInt8 × V)} {k' : List UInt8} {v' : V} (h : FnS Tryz.prog f args G (StepP ts o)) (e : o = some (k', v')) : FnS Tryz.prog f args G (fun r G' => ∃ b', r = Tu [Pt b' 0, Bo true] ∧ RepR G' ts v' k' b') := by
 refine h.mono ?_
 rintro v G' L' ⟨h1, h2, ⟨h3, _⟩ | ⟨k2, v2, b', h3, h4, h5⟩⟩
 ·rw [e] at h3; cases h3
 ·rw [e] at h3
  simp only [Option.some.injEq, Prod.mk.injEq] at h3
  obtain ⟨rfl, rfl⟩ := h3
  exact ⟨h1, h2, b', h4, h5⟩
theorem stepV_plain {ts : List Ty} {c : UInt8} {r : List UInt8} {v : V} {n : Int} (h1 : c.toNat ≠ 91) (h2 : c.toNat ≠ 63) (h3 : c.toNat ≠ 64) : stepV ts (c :: r) v n = none := by
 unfold stepV; dsimp only; rw [if_neg (fun h => by rcases h with h | h; exact h1 h; exact h2 h), refT_p h3]
theorem stepV_kid {ts : List Ty} {c : UInt8} {r : List UInt8} {v : V} {n : Int} (h : c.toNat = 91 ∨ c.toNat = 63) : stepV ts (c :: r) v n = if n < (v.kids.length : Nat) then some (r, nth v.kids n.toNat) else none := by
 unfold stepV; dsimp only; rw [if_pos h]
theorem stepV_typ {ts : List Ty} {k : List UInt8} {v : V} {n : Int} {t : Ty} (h : refT ts k = some t) : stepV ts k v n = match fldT t.fields n with
  | none => none
  | some f => if t.sort = 69 then none else if t.sort = 82 then some (f.kind, getV ts v f) else if v.tag = n then some (f.kind, nth v.kids 0) else none := by
 obtain ⟨r, rfl⟩ := refT_64 h
 unfold stepV; dsimp only; rw [if_neg (by decide), h]; rfl
theorem c_stepS {u : Value} {vs : List TyX} (h : SchR G u vs) (hw : SchW (tys vs)) {k : List UInt8} {v : V} {b : Nat} (hr : RepR G (tys vs) v k b) (ho : OfK (tys vs) k v) (hki : kindIn (tys vs) k = true) {n : Int} (hn : 0 ≤ n ∧ n ≤ 999999) (htt : v.tot ≤ 1000000) :
  FnS Tryz.prog 68 [u, Pt b 0, I n] G (StepP (tys vs) (stepV (tys vs) k v n)) := by
 have hu := h.sl.one
 obtain ⟨ua, uc, rfl⟩ := h.sl.sl
 cases hr with
 | leaf w x k tx b h1 h2 =>
  have hn82 : ¬ tx = [82] := by
   rcases h2 with ⟨_, _, rfl, h⟩ | ⟨_, _, rfl⟩ | ⟨_, _, rfl, h⟩
   ·rintro rfl; exact absurd (h 82 (by simp)) (by decide)
   ·simp
   ·rcases h with rfl | rfl <;> decide
  have hn85 : ¬ tx = [85] := by
   rcases h2 with ⟨_, _, rfl, h⟩ | ⟨_, _, rfl⟩ | ⟨_, _, rfl, h⟩
   ·rintro rfl; exact absurd (h 85 (by simp)) (by decide)
   ·simp
   ·rcases h with rfl | rfl <;> decide
  have hno : stepV (tys vs) k (.nd w x 0 []) n = none := by
   rcases h2 with ⟨_, rfl, _⟩ | ⟨_, rfl, _⟩ | ⟨_, rfl, _⟩
   all_goals exact stepV_plain (by decide) (by decide) (by decide)
  rw [hno]
  rcases h2 with ⟨rfl, rfl, _⟩ | ⟨rfl, rfl, _⟩ | ⟨rfl, rfl, _⟩
  all_goals
   refine jB [(0, _), (1, _), (2, _)] Tryz.func68 Tryz.ntmps68 fun B hok hB hW => ?_
   repeat' (first | (refine run (t := tb) 400 rfl ?_ ?_; (focus (repeat' (first | exact trivial | apply And.intro | omega | (simp only [List.length_append, List.length_cons, List.length_nil, Int.toNat_natCast]; omega))))) | (refine k_op rfl ?_; first | refine jV (g_ldS rfl rfl (by assumption) rfl rfl) ?_ | (refine jV (g_pickF rfl rfl rfl) ?_)) | (refine k_gf rfl rfl (by first | rfl | (refine decide_eq_false ?_; (assumption))) ?_) | (refine k_ff rfl rfl ?_))
   all_goals refine jZ (vs := [_, _]) rfl ⟨rfl, rfl, trivial⟩ rfl ⟨Gh.le.refl _, rfl, ?_⟩
   all_goals exact .inl ⟨rfl, _, rfl⟩
 | lst k b ks bs a c h1 h2 h3 hk =>
  have hk0 : bt (91 :: k) (Int.toNat 0) = 91 := bt_zero 91 k
  have hkl2 : (91 :: k).length = k.length + 1 := rfl
  have hst := stepV_kid (ts := tys vs) (c := 91) (r := k) (v := .nd 91 [] 0 ks) (n := n) (.inl rfl)
  rw [V.kids] at hst
  rw [hst]
  by_cases hn2 : n < ((ks.length : Nat) : Int)
  ·obtain ⟨i, rfl⟩ : ∃ i : Nat, n = i := ⟨n.toNat, by omega⟩
   obtain ⟨kb, ko, kc, e, hs⟩ := h2.expl (by omega)
   simp only [Value.slice.injEq] at e
   obtain ⟨rfl, -, rfl⟩ := e
   have hxi : nth bs i = nth bs i := rfl
   rw [if_pos hn2]
   refine jB [(0, _), (1, _), (2, _)] Tryz.func68 Tryz.ntmps68 fun B hok hB hW => ?_
   repeat' (first | refine jM ?_ | (refine k_op rfl ?_; first | refine jV (g_ldS rfl rfl (by assumption) rfl rfl) ?_ | (refine jV (g_ldR1x rfl rfl (by assumption) ?_ (by assumption) rfl) ?_; (focus ((omega); done))) | (refine jV (g_pickT rfl rfl rfl) ?_) | refine jV (g_lenL rfl) ?_ | (refine jV (g_iaddrN rfl rfl (by omega)) ?_)) | (refine k_gt rfl rfl rfl ?_) | (refine k_tt rfl rfl ?_) | (refine k_ff rfl (dFf (by omega)) ?_))
   all_goals refine jZ (vs := [_, _]) rfl ⟨rfl, rfl, trivial⟩ rfl ⟨Gh.le.refl _, rfl, ?_⟩
   all_goals exact .inr ⟨_, _, nth bs i, rfl, rfl, hk i (by omega)⟩
  ·rw [if_neg hn2]
   refine jB [(0, _), (1, _), (2, _)] Tryz.func68 Tryz.ntmps68 fun B hok hB hW => ?_
   repeat' (first | refine jM ?_ | (refine k_op rfl ?_; first | refine jV (g_ldS rfl rfl (by assumption) rfl rfl) ?_ | (refine jV (g_pickT rfl rfl rfl) ?_) | refine jV (g_lenL rfl) ?_) | (refine k_gt rfl rfl rfl ?_) | (refine k_tt rfl (by first | rfl | (refine decide_eq_true ?_; (omega))) ?_))
   all_goals refine jZ (vs := [_, _]) rfl ⟨rfl, rfl, trivial⟩ rfl ⟨Gh.le.refl _, rfl, ?_⟩
   all_goals exact .inl ⟨rfl, _, rfl⟩
 | non k b h1 =>
  have hk0 : bt (63 :: k) (Int.toNat 0) = 63 := bt_zero 63 k
  have hkl2 : (63 :: k).length = k.length + 1 := rfl
  have hst := stepV_kid (ts := tys vs) (c := 63) (r := k) (v := .nd 63 [] 0 []) (n := n) (.inr rfl)
  rw [V.kids, if_neg (by simp; omega)] at hst
  rw [hst]
  refine jB [(0, _), (1, _), (2, _)] Tryz.func68 Tryz.ntmps68 fun B hok hB hW => ?_
  repeat' (first | refine jM ?_ | (refine k_op rfl ?_; first | refine jV (g_ldS rfl rfl (by assumption) rfl rfl) ?_ | (refine jV (g_pickF rfl rfl rfl) ?_) | refine jV (g_lenL rfl) ?_) | (refine k_gf rfl rfl rfl ?_) | (refine k_tt rfl (by first | rfl | (refine decide_eq_true ?_; (omega))) ?_))
  all_goals refine jZ (vs := [_, _]) rfl ⟨rfl, rfl, trivial⟩ rfl ⟨Gh.le.refl _, rfl, ?_⟩
  all_goals exact .inl ⟨rfl, _, rfl⟩
 | opt k b kb b' cc w h0 h1 h2 h3 =>
  have hk0 : bt (63 :: k) (Int.toNat 0) = 63 := bt_zero 63 k
  have hkl2 : (63 :: k).length = k.length + 1 := rfl
  have hst := stepV_kid (ts := tys vs) (c := 63) (r := k) (v := .nd 63 [] 0 [w]) (n := n) (.inr rfl)
  rw [V.kids] at hst
  rw [hst]
  by_cases hn2 : n = 0
  ·subst hn2
   rw [if_pos (by simp)]
   refine jB [(0, _), (1, _), (2, _)] Tryz.func68 Tryz.ntmps68 fun B hok hB hW => ?_
   repeat' (first | refine jM ?_ | (refine k_op rfl ?_; first | refine jV (g_ldS rfl rfl (by assumption) rfl rfl) ?_ | (refine jV (g_pickF rfl rfl rfl) ?_) | refine jV (g_lenL rfl) ?_ | (refine jV (g_iaddr rfl rfl (by omega)) ?_)) | (refine k_gf rfl rfl rfl ?_) | (refine k_tt rfl rfl ?_) | (refine k_ff rfl rfl ?_))
   all_goals refine jZ (vs := [_, _]) rfl ⟨rfl, rfl, trivial⟩ rfl ⟨Gh.le.refl _, rfl, ?_⟩
   all_goals exact .inr ⟨_, _, b', rfl, rfl, h3⟩
  ·rw [if_neg (by simp; omega)]
   refine jB [(0, _), (1, _), (2, _)] Tryz.func68 Tryz.ntmps68 fun B hok hB hW => ?_
   repeat' (first | refine jM ?_ | (refine k_op rfl ?_; first | refine jV (g_ldS rfl rfl (by assumption) rfl rfl) ?_ | (refine jV (g_pickF rfl rfl rfl) ?_) | refine jV (g_lenL rfl) ?_) | (refine k_gf rfl rfl rfl ?_) | (refine k_tt rfl (by first | rfl | (refine decide_eq_true ?_; (omega))) ?_))
   all_goals refine jZ (vs := [_, _]) rfl ⟨rfl, rfl, trivial⟩ rfl ⟨Gh.le.refl _, rfl, ?_⟩
   all_goals exact .inl ⟨rfl, _, rfl⟩
 | enm k b tgb t d h0 h1 h2 h3 =>
  have hst := stepV_typ (v := .nd 69 [] d.tag []) (n := n) h0.1
  have hno : stepV (tys vs) k (.nd 69 [] d.tag []) n = none := by
   rw [hst]
   cases fldT t.fields n with
   | none => rfl
   | some f => dsimp only; rw [if_pos h0.2]
  rw [hno]
  obtain ⟨r, rfl⟩ := refT_64 h0.1
  have hk0 : bt (64 :: r) (Int.toNat 0) = 64 := bt_zero 64 r
  have hkl2 : (64 :: r).length = r.length + 1 := rfl
  refine jB [(0, _), (1, _), (2, _)] Tryz.func68 Tryz.ntmps68 fun B hok hB hW => ?_
  repeat' (first | refine jM ?_ | (refine k_op rfl ?_; first | refine jV (g_ldS rfl rfl (by assumption) rfl rfl) ?_ | (refine jV (g_pickF rfl rfl rfl) ?_)) | (refine k_gf rfl rfl rfl ?_) | (refine k_ff rfl rfl ?_))
  all_goals refine jZ (vs := [_, _]) rfl ⟨rfl, rfl, trivial⟩ rfl ⟨Gh.le.refl _, rfl, ?_⟩
  all_goals exact .inl ⟨rfl, _, rfl⟩
 | uni k b tgb kb b' cc t d w hcc h0 h1 h2 h3 h4 hk =>
  have hst := stepV_typ (v := .nd 85 [] d.tag [w]) (n := n) h0.1
  have hTW := hw.ty _ (refT_mem h0.1)
  have hso := h0.2
  obtain ⟨r, rfl⟩ := refT_64 h0.1
  have hk0 : bt (64 :: r) (Int.toNat 0) = 64 := bt_zero 64 r
  have hkl2 : (64 :: r).length = r.length + 1 := rfl
  by_cases hdn : d.tag = n
  ·have hyes : stepV (tys vs) (64 :: r) (.nd 85 [] d.tag [w]) n = some (d.kind, w) := by
    rw [hst, ← hdn, fldT_mem hTW h1]
    dsimp only
    rw [if_neg (by omega), if_neg (by omega), if_pos (show V.tag (.nd 85 [] d.tag [w]) = d.tag from rfl)]; rfl
   rw [hyes]
   refine jB [(0, _), (1, _), (2, _)] Tryz.func68 Tryz.ntmps68 fun B hok hB hW => ?_
   repeat' (first | refine jM ?_ | (refine k_op rfl ?_; first | refine jV (g_ldS rfl rfl (by assumption) rfl rfl) ?_ | (refine jV (g_pickT rfl rfl rfl) ?_) | (refine jV (g_pickF rfl rfl rfl) ?_)) | (refine k_gt rfl rfl rfl ?_) | (refine k_gf rfl rfl rfl ?_) | (refine k_tt rfl rfl ?_) | (refine k_ff rfl rfl ?_))
   (refine k_any (s_any (id := 6) _ (fun _ h => h) mixed ?_); refine jT 9 [0, 1, 2, 6, 7, 8, 12] (bts 16 4551) ?_; (refine jG (bts 16 4559) 3 rfl (g_ldS rfl rfl (by assumption) rfl rfl) ?_); (refine jG (bts 16 4575) 4 rfl (g_iaddr rfl rfl (by omega)) ?_); (refine jG (bts 16 4607) 5 rfl (g_ldS rfl rfl (by assumption) rfl rfl) ?_); refine jT 5 [14] (bts 16 20991) ?_; (refine jG (bts 16 21503) 9 rfl (g_ldS rfl rfl (by assumption) rfl rfl) ?_); (refine jG (bts 16 22527) 10 rfl (g_iaddr rfl rfl (by omega)) ?_); (refine jG (bts 16 24575) 11 rfl (g_ldS rfl rfl (by assumption) rfl rfl) ?_); refine jT 0 [13, 15] (bts 16 65535) ?_; refine x_done (by kernel_rfl) (k_bk ?_))
   all_goals repeat' (refine jR ?_)
   all_goals refine jZ (vs := [_, _]) rfl ⟨rfl, rfl, trivial⟩ rfl ⟨Gh.le.refl _, rfl, ?_⟩
   all_goals (try rw [decide_eq_true hdn])
   all_goals exact .inr ⟨_, _, b', rfl, rfl, hk⟩
  ·have hno : stepV (tys vs) (64 :: r) (.nd 85 [] d.tag [w]) n = none := by
    rw [hst]
    cases fldT t.fields n with
    | none => rfl
    | some f =>
     dsimp only
     rw [if_neg (by omega), if_neg (by omega), if_neg (show ¬ V.tag (.nd 85 [] d.tag [w]) = n from hdn)]
   rw [hno]
   refine jB [(0, _), (1, _), (2, _)] Tryz.func68 Tryz.ntmps68 fun B hok hB hW => ?_
   repeat' (first | refine jM ?_ | (refine k_op rfl ?_; first | refine jV (g_ldS rfl rfl (by assumption) rfl rfl) ?_ | (refine jV (g_pickT rfl rfl rfl) ?_) | (refine jV (g_pickF rfl rfl rfl) ?_)) | (refine k_gt rfl rfl rfl ?_) | (refine k_gf rfl rfl rfl ?_) | (refine k_tt rfl rfl ?_) | (refine k_ff rfl rfl ?_))
   (refine k_any (s_any (id := 6) _ (fun _ h => h) mixed ?_); refine jT 9 [0, 1, 2, 6, 7, 8, 12] (bts 16 4551) ?_; (refine jG (bts 16 4559) 3 rfl (g_ldS rfl rfl (by assumption) rfl rfl) ?_); (refine jG (bts 16 4575) 4 rfl (g_iaddr rfl rfl (by omega)) ?_); (refine jG (bts 16 4607) 5 rfl (g_ldS rfl rfl (by assumption) rfl rfl) ?_); refine jT 5 [14] (bts 16 20991) ?_; (refine jG (bts 16 21503) 9 rfl (g_ldS rfl rfl (by assumption) rfl rfl) ?_); (refine jG (bts 16 22527) 10 rfl (g_iaddr rfl rfl (by omega)) ?_); (refine jG (bts 16 24575) 11 rfl (g_ldS rfl rfl (by assumption) rfl rfl) ?_); refine jT 0 [13, 15] (bts 16 65535) ?_; refine x_done (by kernel_rfl) (k_bk ?_))
   all_goals repeat' (refine jR ?_)
   all_goals refine jZ (vs := [_, _]) rfl ⟨rfl, rfl, trivial⟩ rfl ⟨Gh.le.refl _, rfl, ?_⟩
   all_goals (try rw [decide_eq_false hdn])
   all_goals exact .inl ⟨rfl, _, rfl⟩
 | recd k b t fs bs a a2 c c2 h0 h1 h2 h3 h4 h5 hk =>
  have hst := stepV_typ (v := .nd 82 [] 0 (fs.map fldV)) (n := n) h0.1
  have hTW := hw.ty _ (refT_mem h0.1)
  have hso := h0.2
  have hkk := kindOk_kOk (kindIn_ok hki)
  obtain ⟨r, rfl⟩ := refT_64 h0.1
  have hk0 : bt (64 :: r) (Int.toNat 0) = 64 := bt_zero 64 r
  have hkl2 : (64 :: r).length = r.length + 1 := rfl
  have hvl : vs.length ≤ 8 := by have := hw.len; unfold tys at this; simpa using this
  have href := refV_ty vs (64 :: r)
  have cx_rf := c_ref (k := 64 :: r) h (by omega) hkk.1 (by omega)
  rcases hrv : refV vs (64 :: r) with _ | x
  ·rw [hrv, h0.1] at href; cases href
  rw [hrv] at href cx_rf
  have htx : x.2 = t := by rw [h0.1] at href; exact Option.some.inj href
  subst htx
  have hxm := refV_mem hrv
  have hfl := hTW.len
  have cx_rec := c_l4Record (n := n) hu (h.fl x hxm) (by omega) cx_rf hso
  cases hg : fldT x.2.fields n with
  | none =>
   rw [hg] at hst cx_rec
   have hno : stepV (tys vs) (64 :: r) (.nd 82 [] 0 (fs.map fldV)) n = none := hst
   rw [show (fs.map fun p => V.nd 61 [] p.1.tag [p.2]) = fs.map fldV from rfl, hno]
   refine jB [(0, _), (1, _), (2, _)] Tryz.func68 Tryz.ntmps68 fun B hok hB hW => ?_
   repeat' (first | refine jM ?_ | (refine k_op rfl ?_; first | refine jV (g_ldS rfl rfl (by assumption) rfl rfl) ?_ | (refine jV (g_pickT rfl rfl rfl) ?_) | (refine jV (g_pickF rfl rfl rfl) ?_) | refine c_al rfl rfl fun _ => ?_ | refine c_stA rfl rfl rfl rfl rfl rfl ?_ | (refine c_rt rfl rfl rfl cx_rec rfl ?_)) | (refine k_gt rfl rfl rfl ?_) | (refine k_gf rfl rfl rfl ?_) | (refine k_tt rfl rfl ?_) | (refine k_ff rfl rfl ?_))
   all_goals refine jZ (vs := [_, _]) rfl ⟨rfl, rfl, trivial⟩ rfl ⟨Gh.le.refl _, rfl, ?_⟩
   all_goals exact .inl ⟨rfl, _, rfl⟩
  | some f =>
   rw [hg] at hst cx_rec
   simp only [Option.getD_some, Option.isSome_some] at cx_rec
   have hfm := List.mem_of_find?_eq_some hg
   have hft : f.tag = n := by have := List.find?_some hg; simpa using this
   have hyes : stepV (tys vs) (64 :: r) (.nd 82 [] 0 (fs.map fldV)) n = some (f.kind, getV (tys vs) (.nd 82 [] 0 (fs.map fldV)) f) := by
    rw [hst]; dsimp only; rw [if_neg (by omega), if_pos hso]
   rw [show (fs.map fun p => V.nd 61 [] p.1.tag [p.2]) = fs.map fldV from rfl, hyes]
   have hfs9 : fs.length ≤ 100000 := by
    have h7 := tots_len (fs.map fldV)
    rw [nd_tot] at htt
    have e1 : (fs.map fldV).length = fs.length := by simp
    have e2 : (fs.map fun p => V.nd 61 [] p.1.tag [p.2]) = fs.map fldV := rfl
    rw [e2] at htt
    omega
   have htn : ∀ i, i < fs.length → nth (fs.map fun p : Fld × V => p.1.tag) i = (nth fs i).1.tag := fun i hi => by rw [nth_eq (by simpa using hi), nth_eq hi]; simp
   have htl : (fs.map fun p : Fld × V => p.1.tag).length = fs.length := by simp
   by_cases hex : ∃ j, j < fs.length ∧ (nth fs j).1.tag = n
   ·obtain ⟨j, hj, hjn, hjf⟩ := first_at hex
    have hget : getV (tys vs) (.nd 82 [] 0 (fs.map fldV)) f = (nth fs j).2 := by
     unfold getV
     rw [V.kids, toldV_at hj (by rw [hjn, hft]) (fun i hi => by rw [hft]; exact hjf i hi)]; rfl
    have hkd : (nth fs j).1 = f := fld_tag hTW (h5 j hj) hfm (by rw [hjn, hft])
    rw [hget]
    have cx_at := c_atY (tg := fs.map fun p : Fld × V => p.1.tag) (n := n) (by rw [h4, htl]) (by omega) (by rw [htl]; exact h1) (by rw [htl]; exact h2) (by rw [htl]; exact h3) (by rw [htl]; exact hj) (by rw [htn j hj]; exact hjn) (fun i hi => by rw [htn i (by omega)]; exact hjf i hi)
    have hrj := hk j hj
    rw [hkd] at hrj
    refine jB [(0, _), (1, _), (2, _)] Tryz.func68 Tryz.ntmps68 fun B hok hB hW => ?_
    repeat' (first | refine jM ?_ | (refine k_op rfl ?_; first | refine jV (g_ldS rfl rfl (by assumption) rfl rfl) ?_ | (refine jV (g_pickT rfl rfl rfl) ?_) | (refine jV (g_pickF rfl rfl rfl) ?_) | refine c_al rfl rfl fun _ => ?_ | refine c_stA rfl rfl rfl rfl rfl rfl ?_ | (refine c_rt rfl rfl rfl cx_rec rfl ?_) | (refine c_rt rfl rfl rfl cx_at rfl ?_)) | (refine k_gt rfl rfl rfl ?_) | (refine k_gf rfl rfl rfl ?_) | (refine k_tt rfl rfl ?_) | (refine k_ff rfl rfl ?_))
    all_goals refine jZ (vs := [_, _]) rfl ⟨rfl, rfl, trivial⟩ rfl ⟨Gh.le.refl _, rfl, ?_⟩
    all_goals exact .inr ⟨_, _, nth bs j, rfl, rfl, hrj⟩
   ·have hjno : ∀ i, i < fs.length → (nth fs i).1.tag ≠ n := fun i hi e => hex ⟨i, hi, e⟩
    have hget : getV (tys vs) (.nd 82 [] 0 (fs.map fldV)) f = standV (tys vs) f := by
     unfold getV
     rw [V.kids, toldV_no fun i hi => by rw [hft]; exact hjno i hi]; rfl
    rw [hget]
    obtain ⟨g1, g2, g3⟩ := standV_ok hw (refT_mem h0.1) (by omega) hfm
    obtain ⟨g4, g5⟩ := valOf_rd g2
    have hdk : kindIn (tys vs) f.kind = true := kind_in hw (refT_mem h0.1) (by omega) hfm
    have cx_at := c_atN (tg := fs.map fun p : Fld × V => p.1.tag) (n := n) (by omega) (by rw [htl]; exact h1) (by rw [htl]; exact h2) (fun i hi => by rw [htn i (by omega)]; exact hjno i (by omega))
    have cx_sta := c_standS (f := f) h hw hdk
    have cx_rd := readC_all (u := .slice ua vs.length uc) (vs := vs) hw 12 (by omega) G f.kind (standF (tys vs) f) h hdk (by omega)
    rw [g4] at cx_rd
    refine jB [(0, _), (1, _), (2, _)] Tryz.func68 Tryz.ntmps68 fun B hok hB hW => ?_
    repeat' (first | refine jM ?_ | (refine k_op rfl ?_; first | refine jV (g_ldS rfl rfl (by assumption) rfl rfl) ?_ | (refine jV (g_pickT rfl rfl rfl) ?_) | (refine jV (g_pickF rfl rfl rfl) ?_) | refine c_al rfl rfl fun _ => ?_ | refine c_stA rfl rfl rfl rfl rfl rfl ?_ | (refine c_rt rfl rfl rfl cx_rec rfl ?_) | (refine c_rt rfl rfl rfl cx_at rfl ?_)) | (refine k_gt rfl rfl rfl ?_) | (refine k_gf rfl rfl rfl ?_) | (refine k_tt rfl rfl ?_) | (refine k_ff rfl rfl ?_))
    (refine k_any (s_any (id := 14) _ (fun _ h => h) mixed ?_); refine jT 12 [0, 2, 5] (bts 15 37) ?_; (refine jG (bts 15 39) 1 rfl (g_bld rfl rfl) ?_); (refine jG (bts 15 47) 3 rfl (g_ldA rfl rfl rfl rfl) ?_); (refine jG (bts 15 111) 6 rfl (g_ld rfl rfl rfl) ?_); refine jA 4 rfl ?_; (refine c_rt rfl rfl rfl cx_sta rfl ?_); refine jS (bts 15 127) ?_; refine jA 7 rfl ?_; (refine c_fns rfl rfl rfl cx_rd rfl ?_; rintro _ G hle ⟨q1, r1, ok1, rfl, hyes, hno⟩; skip); refine jS (bts 15 255) ?_; refine jT 0 [8, 9, 10, 11, 12, 13, 14] (bts 15 32767) ?_; refine x_done (by kernel_rfl) (k_bk ?_))
    all_goals
     cases ok1 with
     | false => cases hno rfl
     | true =>
      obtain ⟨w, wb, rfl, hf, hrep⟩ := hyes rfl
      simp only [Option.some.injEq, Prod.mk.injEq] at hf
      obtain ⟨rfl, rfl⟩ := hf
      repeat' (first | (refine jR ?_) | (refine k_op rfl ?_; (refine jV (g_pickT rfl rfl rfl) ?_)) | (refine k_gt rfl rfl rfl ?_))
      all_goals refine jZ (vs := [_, _]) rfl ⟨rfl, rfl, trivial⟩ rfl ⟨hle, rfl, ?_⟩
      all_goals exact .inr ⟨_, _, wb, rfl, rfl, hrep⟩
theorem standV_tot {ts : List Ty} (hw : SchW ts) {t : Ty} (ht : t ∈ ts) (hs : t.sort ≠ 69) {d : Fld} (hd : d ∈ t.fields) : (standV ts d).tot ≤ 40000 := by
 obtain ⟨g4, g5⟩ := valOf_rd (standV_ok hw ht hs hd).2.1
 have := rd_tot _ _ _ _ g4
 dsimp only at this
 simp only [List.length_nil] at this
 omega
theorem stepV_tot {ts : List Ty} (hw : SchW ts) {k : List UInt8} {v : V} (h : OfK ts k v) (hk : kindIn ts k = true) {n : Int} (hn : 0 ≤ n) {k' : List UInt8} {v' : V} (e : stepV ts k v n = some (k', v')) {N : Nat} (hv : v.tot ≤ N) (hN : 40000 ≤ N) : v'.tot ≤ N := by
 obtain ⟨c, r, rfl⟩ := kind_ne hk
 unfold stepV at e
 dsimp only at e
 split at e
 ·rename_i hc
  split at e
  ·rename_i hlt
   simp only [Option.some.injEq, Prod.mk.injEq] at e
   obtain ⟨rfl, rfl⟩ := e
   have h1 := tot_nth (ks := v.kids) (i := n.toNat) (by omega)
   obtain ⟨w, x, t, ks⟩ := v
   rw [nd_tot] at hv
   rw [V.kids] at h1 ⊢
   omega
  ·cases e
 ·split at e
  ·cases e
  ·rename_i t hr
   have ht := refT_mem hr
   split at e
   ·cases e
   ·rename_i f hf
    have hfm := List.mem_of_find?_eq_some hf
    split at e
    ·cases e
    ·rename_i h69
     split at e
     ·rename_i h82
      simp only [Option.some.injEq, Prod.mk.injEq] at e
      obtain ⟨rfl, rfl⟩ := e
      rcases ofK_inv_t h hr with ⟨_, fs, rfl, g3, g4, _, _⟩ | ⟨h1, _⟩ | ⟨h1, _⟩
      ·unfold getV
       rw [V.kids]
       cases hto : toldV f (fs.map fldV) with
       | none =>
        have := standV_tot hw ht h69 hfm
        show (standV ts f).tot ≤ N
        omega
       | some u =>
        obtain ⟨_, p, hp, _, rfl⟩ := toldV_of (hw.ty t ht) hfm (fun p hp => ⟨g3 p hp, g4 p hp⟩) hto
        have h2 := tots_mem (List.mem_map_of_mem (f := fldV) hp)
        rw [nd_tot] at hv
        simp only [fldV, nd_tot, V.tots] at h2
        show p.2.tot ≤ N
        omega
      ·omega
      ·omega
     ·rename_i h82
      split at e
      ·simp only [Option.some.injEq, Prod.mk.injEq] at e
       obtain ⟨rfl, rfl⟩ := e
       rcases ofK_inv_t h hr with ⟨h1, _⟩ | ⟨h1, _⟩ | ⟨_, _, d, u, rfl, g4, g5⟩
       ·omega
       ·omega
       ·simp only [nd_tot, V.tots] at hv
        show u.tot ≤ N
        omega
      ·cases e
theorem followV_tot {ts : List Ty} (hw : SchW ts) : ∀ {p : List Int} {k : List UInt8} {v : V} {k' : List UInt8} {v' : V}, OfK ts k v → kindIn ts k = true → (∀ n ∈ p, 0 ≤ n) → followV ts k v p = some (k', v') → ∀ {N : Nat}, v.tot ≤ N → 40000 ≤ N → v'.tot ≤ N
 | [], k, v, k', v', h, hk, _, e, N, hv, hN => by
  simp only [followV, Option.some.injEq, Prod.mk.injEq] at e
  obtain ⟨rfl, rfl⟩ := e
  exact hv
 | n :: p, k, v, k', v', h, hk, hp, e, N, hv, hN => by
  unfold followV at e
  cases hs : stepV ts k v n with
  | none => rw [hs] at e; cases e
  | some x =>
   rw [hs] at e
   obtain ⟨k1, v1⟩ := x
   obtain ⟨h1, h2⟩ := stepV_ok hw h hk (hp n (by simp)) hs
   exact followV_tot hw h1 h2 (fun m hm => hp m (by simp [hm])) e (stepV_tot hw h hk (hp n (by simp)) hs hv hN) hN
theorem followV_drop {ts : List Ty} {p : List Int} {i : Nat} (hi : i < p.length) {k : List UInt8} {v : V} : followV ts k v (p.drop i) = match stepV ts k v (nth p i) with
  | none => none
  | some (k', v') => followV ts k' v' (p.drop (i + 1)) := by
 rw [List.drop_eq_getElem_cons hi, nth_eq hi, followV]
 cases stepV ts k v p[i] <;> rfl
theorem repR_seg {ts : List Ty} {v : V} {k : List UInt8} {b : Nat} (h : RepR G ts v k b) : ∃ x y z, Seg G b 0 [S k, x, y, z] := by
 cases h with
 | leaf w x k tx b h1 h2 => exact ⟨_, _, _, h1⟩
 | lst k b ks bs a c h1 h2 h3 hk => exact ⟨_, _, _, h1⟩
 | non k b h1 => exact ⟨_, _, _, h1⟩
 | opt k b kb b' cc w h0 h1 h2 h3 => exact ⟨_, _, _, h1⟩
 | recd k b t fs bs a a2 c c2 h0 h1 h2 h3 h4 h5 hk => exact ⟨_, _, _, h1⟩
 | enm k b tgb t d h0 h1 h2 h3 => exact ⟨_, _, _, h2⟩
 | uni k b tgb kb b' cc t d w hcc h0 h1 h2 h3 h4 hk => exact ⟨_, _, _, h2⟩
theorem c_walkS {u : Value} {vs : List TyX} (h : SchR G u vs) (hw : SchW (tys vs)) {p : List Int} {pv : Value} (hp : SlV G pv 1 p.length (rows inR p)) (hpn : ∀ n ∈ p, 0 ≤ n ∧ n ≤ 999999) (hpl : p.length ≤ 1000) {k : List UInt8} {v : V} {b : Nat} (hr : RepR G (tys vs) v k b) (ho : OfK (tys vs) k v) (hki : kindIn (tys vs) k = true) (htt : v.tot ≤ 1000000) :
  FnS Tryz.prog 33 [u, Pt b 0, pv] G (StepP (tys vs) (followV (tys vs) k v p)) := by
 have hu := h.sl.one
 obtain ⟨pa, pc, rfl⟩ := hp.sl
 refine jB [(0, _), (1, _), (2, _)] Tryz.func33 Tryz.ntmps33 fun B hok hB hW => ?_
 repeat' (refine jR ?_)
 refine k_loop (ι := List UInt8 × V × Nat × Nat × Gh) (fun j => ((RepR j.2.2.2.2 (tys vs) j.2.1 j.1 j.2.2.1 ∧ OfK (tys vs) j.1 j.2.1) ∧ (kindIn (tys vs) j.1 = true ∧ j.2.1.tot ≤ 1000000)) ∧ (Gh.le G j.2.2.2.2 ∧ j.2.2.2.1 ≤ p.length) ∧ followV (tys vs) k v p = followV (tys vs) j.1 j.2.1 (p.drop j.2.2.2.1)) (fun j => [(0, u), (1, Pt j.2.2.1 0), (2, .slice pa p.length pc), (8, I j.2.2.2.1)]) (fun j => j.2.2.2.2) (fun j => []) (fun j => p.length - j.2.2.2.1) (k, v, b, 0, G) ?_ (by repeat' constructor) rfl sRr (fun j Hj => ?_)
 ·exact ⟨⟨⟨hr, ho⟩, hki, htt⟩, ⟨Gh.le.refl _, Nat.zero_le _⟩, rfl⟩
 obtain ⟨k0, v0, b0, i, Gq⟩ := j
 dsimp only at Hj ⊢
 obtain ⟨⟨⟨hr0, ho0⟩, hk0, ht0⟩, ⟨hgq, hi0⟩, he⟩ := Hj
 by_cases hi : i < p.length
 ·obtain ⟨xb, xo, xc, e, hs1⟩ := (hp.mono hgq).expl (by omega)
  simp only [Value.slice.injEq] at e
  obtain ⟨rfl, -, rfl⟩ := e
  have hni := hpn _ (nth_mem hi)
  have hti : nth p i = nth p i := rfl
  have hstp := c_stepS (h.mono hgq) hw hr0 ho0 hk0 hni ht0
  rw [followV_drop hi] at he
  cases hsv : stepV (tys vs) k0 v0 (nth p i) with
  | none =>
   have cx_stn := StepP.no hstp hsv
   rw [hsv] at he
   repeat' (first | (refine jR ?_) | (refine k_op rfl ?_; first | refine jV (g_lenL rfl) ?_ | (refine jV (g_iaddrN rfl rfl (by omega)) ?_) | (refine jV (g_ldR1x rfl rfl (by assumption) ?_ (by assumption) rfl) ?_; (focus ((omega); done))) | (refine c_fns rfl rfl rfl cx_stn rfl ?_; rintro _ G hle ⟨q1, rfl⟩; skip)) | (refine k_tt rfl (by first | rfl | (refine decide_eq_true ?_; (omega))) ?_))
   all_goals refine jZ (vs := [_, _]) rfl ⟨rfl, rfl, trivial⟩ rfl ⟨hgq.trans hle, rfl, ?_⟩
   all_goals exact .inl ⟨he, _, rfl⟩
  | some y =>
   obtain ⟨k1, v1⟩ := y
   have cx_sty := StepP.yes hstp hsv
   rw [hsv] at he
   obtain ⟨g1, g2⟩ := stepV_ok hw ho0 hk0 hni.1 hsv
   have g3 := stepV_tot hw ho0 hk0 hni.1 hsv ht0 (by omega)
   repeat' (first | refine jM ?_ | (refine k_op rfl ?_; first | refine jV (g_lenL rfl) ?_ | (refine jV (g_iaddrN rfl rfl (by omega)) ?_) | (refine jV (g_ldR1x rfl rfl (by assumption) ?_ (by assumption) rfl) ?_; (focus ((omega); done))) | (refine c_fns rfl rfl rfl cx_sty rfl ?_; rintro _ G hle ⟨b1, rfl, hrep1⟩; skip)) | (refine k_tt rfl (dTt (by omega)) ?_) | (refine k_ff rfl rfl ?_))
   exact k_rd (k1, v1, b1, i + 1, G) ⟨⟨⟨hrep1, g1⟩, g2, g3⟩, ⟨hgq.trans hle, by dsimp only; omega⟩, he⟩ (by dsimp only; omega) (by repeat' constructor) rfl sRr
 ·have hd : p.drop i = [] := List.drop_eq_nil_of_le (by omega)
  rw [hd] at he
  repeat' (first | (refine jR ?_) | (refine k_op rfl ?_; (refine jV (g_lenL rfl) ?_)) | (refine k_ff rfl (dFf (by omega)) ?_))
  all_goals refine jZ (vs := [_, _]) rfl ⟨rfl, rfl, trivial⟩ rfl ⟨hgq, rfl, ?_⟩
  all_goals exact .inr ⟨_, _, b0, he, rfl, hr0⟩
theorem c_l4OfX {s k w : List UInt8} {v : V} {ts : List Ty} (h : s.length ≤ 1048576 ∧ k.length ≤ 1048576 ∧ w.length ≤ 1048576) (hs : schemaOf s = some ts) (hki : kindIn ts k = true) (hvo : valOf ts k w = some v) :
  FnS Tryz.prog 31 [S s, S k, S w] G (fun r G' => ∃ a c vs b, r = Tu [.slice a vs.length c, Pt b 0, Bo true] ∧ SchR G' (.slice a vs.length c) vs ∧ tys vs = ts ∧ RepR G' ts v k b) := by
 have hw := schemaOf_w hs
 have hk : kindS s k = true := by unfold kindS; rw [hs]; exact hki
 obtain ⟨h12, hl⟩ := valOf_rd hvo
 have cx_lka : ∀ G, FnS Tryz.prog 27 [S s, S k] G (fun v G' => ∃ a c vs, v = Tu [.slice a vs.length c, Bo true] ∧ SchR G' (.slice a vs.length c) vs ∧ tys vs = ts) := fun G => by
  refine (c_l3Kind (G := G) (s := s) (k := k) (by omega) (by omega)).mono ?_
  rintro v G' L' ⟨h1, h2, u, vs, rfl, h4, _, h6⟩
  obtain ⟨_, ⟨rfl, h0⟩ | ⟨b, o, cap, rfl, _, _⟩⟩ := h4.sl
  ·exact ⟨h1, h2, none, 0, vs, by rw [hk, h0], by rw [h0]; exact h4, h6 ts hs hki⟩
  ·exact ⟨h1, h2, _, cap, vs, by rw [hk], h4, h6 ts hs hki⟩
 refine jB [(0, _), (1, _), (2, _)] Tryz.func31 Tryz.ntmps31 fun B hok hB hW => ?_
 repeat' (first | (refine jR ?_) | (refine k_op rfl ?_; first | (refine jV (g_pickF rfl rfl rfl) ?_) | refine jV (g_bld rfl rfl) ?_ | (refine c_fns rfl rfl rfl (cx_lka _) rfl ?_; rintro _ G hle ⟨av1, cv1, vs1, rfl, hR1, hT1⟩; skip)) | (refine k_gf rfl rfl rfl ?_) | (refine k_ff rfl (dFf (by omega)) ?_))
 subst hT1
 have cx_rd : FnS Tryz.prog 40 [Ag [.slice av1 vs1.length cv1], S w, S k, I (12 : Nat)] G (fun r G' => ∃ b, r = Tu [Pt b 0, S [], Bo true] ∧ RepR G' (tys vs1) v k b) := by
  refine (readC_all (u := .slice av1 vs1.length cv1) (vs := vs1) hw 12 (by omega) G k w hR1 hki (by omega)).mono ?_
  rintro r G' L' ⟨h1, h2, q, rest, ok, rfl, h3, h4⟩
  cases ok with
  | false => rw [h12] at h4; cases h4 rfl
  | true =>
   obtain ⟨v', b, rfl, h5, h6⟩ := h3 rfl
   rw [h12] at h5
   simp only [Option.some.injEq, Prod.mk.injEq] at h5
   obtain ⟨rfl, rfl⟩ := h5
   exact ⟨h1, h2, b, rfl, h6⟩
 refine k_op rfl ?_
 refine c_fns rfl rfl rfl cx_rd rfl ?_
 rintro _ G2 hle2 ⟨b, rfl, hrep⟩
 repeat' (first | (refine jR ?_) | (refine k_op rfl ?_; (refine jV (g_pickT rfl rfl rfl) ?_)) | (refine k_gt rfl rfl rfl ?_))
 refine jZ (vs := [_, _, _]) rfl ⟨rfl, rfl, rfl, trivial⟩ rfl ⟨(Gh.le.trans hle hle2), rfl, ?_⟩
 exact ⟨_, _, _, b, rfl, hR1.mono hle2, rfl, hrep⟩
def pathGetV (s k w p : List UInt8) : Option (List UInt8 × List UInt8) := match schemaOf s, givenV s k w, pathOf p with
 | some ts, some u, some q => (followV ts k u q).map fun x => (x.1, x.2.out)
 | _, _, _ => none
theorem pgv_none {s k : List UInt8} {o : Option (List Int)} : (match schemaOf s, (none : Option V), o with
 | some ts, some u, some q => (followV ts k u q).map fun x => (x.1, x.2.out)
 | _, _, _ => none) = none := by cases schemaOf s <;> rfl
def pgR (o : Option (List UInt8 × List UInt8)) : Value := Tu [S ((o.map (·.1)).getD []), S ((o.map (·.2)).getD []), Bo o.isSome]
theorem steps_no {s : List UInt8} (h : s.length ≤ 1048576) (hp : pathOf s = none) : ∀ G, FnS Tryz.prog 32 [S s] G (fun v _ => ∃ a c n, v = Tu [.slice a n c, Bo false] ∧ True) := fun G => by
 refine (c_stepsS (G := G) h).mono ?_
 rintro v G' L' ⟨h1, h2, a, c, n, rfl, _⟩
 exact ⟨h1, h2, a, c, n, by rw [hp]; rfl, trivial⟩
theorem steps_yes {s : List UInt8} {p : List Int} (h : s.length ≤ 1048576) (hp : pathOf s = some p) : ∀ G, FnS Tryz.prog 32 [S s] G (fun v G' => ∃ a c n, v = Tu [.slice a n c, Bo true] ∧ n = p.length ∧ SlV G' (.slice a n c) 1 p.length (rows inR p)) := fun G => by
 refine (c_stepsS (G := G) h).mono ?_
 rintro v G' L' ⟨h1, h2, a, c, n, rfl, h3⟩
 exact ⟨h1, h2, a, c, n, by rw [hp]; rfl, h3 p hp⟩
theorem pathOf_le {s : List UInt8} {p : List Int} (h : pathOf s = some p) : p.length ≤ 8 ∧ ∀ n ∈ p, 0 ≤ n ∧ n ≤ 999999 := by
 unfold pathOf at h
 split at h
 ·simp only [Option.some.injEq] at h; subst h; simp
 ·split at h
  ·rename_i q hq
   split at h
   ·rename_i h8
    simp only [Option.some.injEq] at h; subst h
    exact ⟨h8, (stepsOf_len hq).2⟩
   ·cases h
  ·cases h
theorem c_PathGetS {s k w p : List UInt8} (h1 : s.length ≤ 1048576 ∧ k.length ≤ 1048576 ∧ w.length ≤ 1048576 ∧ p.length ≤ 1048576) : PuG Tryz.prog 13 [S s, S k, S w, S p] G (· = pgR (pathGetV s k w p)) := by
 unfold pathGetV
 cases hg : givenV s k w with
 | none =>
  rw [pgv_none]
  have cx_la0 := fun G => c_l4Of0 (G := G) (s := s) (k := k) (w := w) (by omega) hg
  cases hpo : pathOf p with
  | none =>
   have cx_sp := steps_no h1.2.2.2 hpo
   refine jB (Post := fun v G' L' => G' = G ∧ L' = [] ∧ _) [(0, _), (1, _), (2, _), (3, _)] Tryz.func13 Tryz.ntmps13 fun B hok hB hW => ?_
   repeat' (first | (refine jR ?_) | (refine k_op rfl ?_; first | (refine jV (g_pickT rfl rfl rfl) ?_) | (refine c_fns rfl rfl rfl (cx_la0 _) rfl ?_; rintro _ G hle ⟨ua, qa, rfl⟩; skip) | (refine c_fns rfl rfl rfl (cx_sp _) rfl ?_; rintro _ G hle ⟨sa, sc, sn, rfl, hsp⟩; skip)) | (refine k_gt rfl rfl rfl ?_) | (refine k_tt rfl rfl ?_))
   all_goals refine Nx.base hok hB ?_
   all_goals refine jZ (vs := [_, _, _]) rfl ⟨rfl, rfl, rfl, trivial⟩ rfl ⟨rfl, rfl, ?_⟩
   all_goals rfl
  | some q =>
   have cx_sp := steps_yes h1.2.2.2 hpo
   refine jB (Post := fun v G' L' => G' = G ∧ L' = [] ∧ _) [(0, _), (1, _), (2, _), (3, _)] Tryz.func13 Tryz.ntmps13 fun B hok hB hW => ?_
   repeat' (first | (refine jR ?_) | (refine k_op rfl ?_; first | (refine jV (g_pickT rfl rfl rfl) ?_) | (refine c_fns rfl rfl rfl (cx_la0 _) rfl ?_; rintro _ G hle ⟨ua, qa, rfl⟩; skip) | (refine c_fns rfl rfl rfl (cx_sp _) rfl ?_; rintro _ G hle ⟨sa, sc, sn, rfl, hsp⟩; skip)) | (refine k_gt rfl rfl rfl ?_) | (refine k_tt rfl rfl ?_))
   all_goals refine Nx.base hok hB ?_
   all_goals refine jZ (vs := [_, _, _]) rfl ⟨rfl, rfl, rfl, trivial⟩ rfl ⟨rfl, rfl, ?_⟩
   all_goals rfl
 | some u =>
  obtain ⟨ts, hs, hki, hvo, hto, hwf⟩ := given_some hg
  have cx_l4x := c_l4OfX (G := G) (s := s) (k := k) (w := w) (by omega) hs hki hvo
  rw [hs]
  cases hpo : pathOf p with
  | none =>
   have cx_sp := steps_no h1.2.2.2 hpo
   refine jB (Post := fun v G' L' => G' = G ∧ L' = [] ∧ _) [(0, _), (1, _), (2, _), (3, _)] Tryz.func13 Tryz.ntmps13 fun B hok hB hW => ?_
   repeat' (first | (refine jR ?_) | (refine k_op rfl ?_; first | (refine jV (g_pickF rfl rfl rfl) ?_) | (refine c_fns rfl rfl rfl cx_l4x rfl ?_; rintro _ G hle ⟨av1, cv1, vs1, b1, rfl, hR1, hT1, hrep⟩; skip) | (refine c_fns rfl rfl rfl (cx_sp _) rfl ?_; rintro _ G hle ⟨sa, sc, sn, rfl, hsp⟩; skip)) | (refine k_gf rfl rfl rfl ?_) | (refine k_tt rfl rfl ?_))
   all_goals refine Nx.base hok hB ?_
   all_goals refine jZ (vs := [_, _, _]) rfl ⟨rfl, rfl, rfl, trivial⟩ rfl ⟨rfl, rfl, ?_⟩
   all_goals rfl
  | some q =>
   have cx_sp := steps_yes h1.2.2.2 hpo
   obtain ⟨hq8, hqn⟩ := pathOf_le hpo
   have hof := valOf_of_k hvo
   have hw := schemaOf_w hs
   dsimp only
   refine jB (Post := fun v G' L' => G' = G ∧ L' = [] ∧ _) [(0, _), (1, _), (2, _), (3, _)] Tryz.func13 Tryz.ntmps13 fun B hok hB hW => ?_
   repeat' (first | (refine jR ?_) | (refine k_op rfl ?_; first | (refine jV (g_pickF rfl rfl rfl) ?_) | (refine c_fns rfl rfl rfl cx_l4x rfl ?_; rintro _ G hle ⟨av1, cv1, vs1, b1, rfl, hR1, hT1, hrep⟩; (try have hrep := RepR.mono hle hrep); (try have hR1 := SchR.mono hR1 hle)) | (refine c_fns rfl rfl rfl (cx_sp _) rfl ?_; rintro _ G hle ⟨sa, sc, sn, rfl, hsp⟩; (try have hrep := RepR.mono hle hrep); (try have hR1 := SchR.mono hR1 hle))) | (refine k_gf rfl rfl rfl ?_) | (refine k_ff rfl rfl ?_))
   obtain ⟨rfl, hsp⟩ := hsp
   subst hT1
   have hwk := c_walkS hR1 hw hsp hqn (by omega) hrep hof hki (by omega)
   cases hfo : followV (tys vs1) k u q with
   | none =>
    have cx_wan := StepP.no hwk hfo
    repeat' (first | (refine jR ?_) | (refine k_op rfl ?_; (refine c_fns rfl rfl rfl cx_wan rfl ?_; rintro _ G hle ⟨q1, rfl⟩; (try have hrep := RepR.mono hle hrep); (try have hR1 := SchR.mono hR1 hle))) | (refine k_tt rfl rfl ?_))
    all_goals refine Nx.base hok hB ?_
    all_goals refine jZ (vs := [_, _, _]) rfl ⟨rfl, rfl, rfl, trivial⟩ rfl ⟨rfl, rfl, ?_⟩
    all_goals rfl
   | some y =>
    obtain ⟨k1, v1⟩ := y
    have cx_way := StepP.yes hwk hfo
    have g3 := followV_tot hw hof hki (fun n hn => (hqn n hn).1) hfo (N := 1000000) (by omega) (by omega)
    repeat' (first | (refine jR ?_) | (refine k_op rfl ?_; (refine c_fns rfl rfl rfl cx_way rfl ?_; rintro _ G hle ⟨b1, rfl, hrep1⟩; (try have hrep := RepR.mono hle hrep); (try have hR1 := SchR.mono hR1 hle))) | (refine k_ff rfl rfl ?_))
    have cx_out := c_outS hw hrep1 (by omega)
    obtain ⟨q1, q2, q3, hsg1⟩ := repR_seg hrep1
    repeat' (first | (refine jR ?_) | (refine k_any (s_any (id := 8) _ (fun _ h => h) mixed ?_); refine jT 5 [0, 1, 2, 4] (bts 9 23) ?_; (refine jG (bts 9 31) 3 rfl (g_ldS rfl rfl (by assumption) rfl rfl) ?_); refine jA 5 rfl ?_; (refine c_rt rfl rfl rfl cx_out rfl ?_); refine jS (bts 9 63) ?_; refine jT 0 [6, 7, 8] (bts 9 511) ?_; refine x_done (by kernel_rfl) (k_bk ?_)))
    all_goals refine Nx.base hok hB ?_
    all_goals refine jZ (vs := [_, _, _]) rfl ⟨rfl, rfl, rfl, trivial⟩ rfl ⟨rfl, rfl, ?_⟩
    all_goals rfl
end Go.E
namespace Go.E
set_option maxRecDepth 20000
set_option maxHeartbeats 2000000
open Go.Proofs
variable {G : Gh}
abbrev tIntQ : TypeId := 3
theorem c_readPath {s : List UInt8} (h : s.length ≤ 1048576) : FnS Tryz.prog 35 [S s] G (StepsP s) := by
 by_cases h0 : s = []
 ·subst h0
  refine jB [(0, _)] Tryz.func35 Tryz.ntmps35 fun B hok hB hW => ?_
  repeat' (first | (refine jR ?_) | (refine k_tt rfl rfl ?_))
  refine jZ (vs := [_, _]) rfl ⟨rfl, rfl, trivial⟩ rfl ⟨Gh.le.refl _, rfl, ?_⟩
  exact ⟨_, _, _, rfl, fun p hp => by
   obtain rfl : p = [] := by unfold pathOf at hp; simpa using hp.symm
   exact ⟨rfl, SlV.nil0⟩⟩
 have cx_split : FnS Tryz.prog 70 [S s, S [47]] G (fun v G' => ∃ b o cap, v = .slice (some ⟨b, o, none⟩) (cut 47 s).length cap ∧ Seg G' b o (rows strF (cut 47 s))) := by
  refine (c_Split (c := 47) (by omega)).mono ?_
  rintro v G' L' ⟨h1, h2, h3⟩
  have hp : 0 < (cut 47 s).length := cut_pos
  exact ⟨h1, h2, h3.expl hp⟩
 have hcl := cut_count (k := 47) (s := s)
 have hbad := fun {i : Nat} => pathOf_bad h0 (i := i)
 have hpo := pathOf_ne h0
 have hxl : ∀ i, i < (cut 47 s).length → (nth (cut 47 s) i).length ≤ 100000000 := fun i hi => by
  have := cut_len (nth_mem hi)
  omega
 generalize cut 47 s = xs at *
 refine jB [(0, _)] Tryz.func35 Tryz.ntmps35 fun B hok hB hW => ?_
 repeat' (first | (refine jR ?_) | (refine k_op rfl ?_; first | refine jV (g_lenL rfl) ?_ | (refine c_fns rfl rfl rfl cx_split rfl ?_; rintro _ G hle ⟨b1, o1, cap1, rfl, hseg⟩; skip)) | (refine k_ff rfl (dFf ‹_›) ?_))
 refine Nx.addNil tIntQ 1 ?_
 refine k_loop (ι := List Int × Option Addr × Nat × Nat) (fun j => (j.1.length = j.2.2.2 ∧ j.2.2.2 ≤ xs.length ∧ j.2.2.2 ≤ 8) ∧ stepsOf (xs.take j.2.2.2) = some j.1) (fun j => [(4, .slice j.2.1 j.1.length j.2.2.1), (12, .slice (some ⟨b1, o1, none⟩) xs.length cap1), (13, I xs.length), (14, I j.2.2.2)]) (fun _ => G) (fun j => [.acc (.slice j.2.1 j.1.length j.2.2.1) tIntQ 1 j.1.length (rows inR j.1)]) (fun j => xs.length - j.2.2.2) ([], none, 0, 0) ?_ (by repeat' constructor) rfl sRr (fun j Hj => ?_)
 ·exact ⟨⟨rfl, Nat.zero_le _, Nat.zero_le _⟩, rfl⟩
 obtain ⟨ps, a, c, i⟩ := j
 dsimp only at Hj ⊢
 obtain ⟨⟨hpl, hi0, hi8⟩, hst⟩ := Hj
 by_cases hi : i < xs.length
 ·have hxl1 := hxl i hi
  cases hn : numOf (nth xs i) 999999 with
  | none =>
   have hno := hbad hi hn
   have hns : (!(numOf (nth xs i) 999999).isSome) = true := by rw [hn]; rfl
   repeat' (first | (refine jR ?_) | (refine k_op rfl ?_; first | (refine jV (g_iaddrN rfl rfl (by omega)) ?_) | (refine jV (g_ldRS rfl rfl (by assumption) ?_) ?_; (focus ((omega); done))) | (refine jV (g_pickT rfl rfl rfl) ?_) | (refine c_pu rfl rfl rfl (c_plainNumber (by omega)) rfl ?_; rintro _ ⟨n, rfl, hnum⟩)) | (refine k_gt rfl rfl ‹_› ?_) | (refine k_tt rfl (by first | rfl | (refine decide_eq_true ?_; (omega))) ?_))
   all_goals refine jZ (vs := [_, _]) rfl ⟨rfl, rfl, trivial⟩ rfl ⟨hle, rfl, ?_⟩
   all_goals exact ⟨_, _, _, by rw [hno]; rfl, fun p hp => by rw [hno] at hp; cases hp⟩
  | some m =>
   have hns : (!(numOf (nth xs i) 999999).isSome) = false := by rw [hn]; rfl
   by_cases h8 : i = 8
   ·subst h8
    have hno : pathOf s = none := by
     rw [hpo]
     cases hso : stepsOf xs with
     | none => rfl
     | some q =>
      have := (stepsOf_len hso).1
      dsimp only
      rw [if_neg (by omega)]
    have h88 : ((ps.length : Nat) : Int) = 8 := by omega
    repeat' (first | (refine jR ?_) | (refine k_op rfl ?_; first | refine jV (g_lenL rfl) ?_ | (refine jV (g_iaddrN rfl rfl (by omega)) ?_) | (refine jV (g_ldRS rfl rfl (by assumption) ?_) ?_; (focus ((omega); done))) | (refine jV (g_pickF rfl rfl rfl) ?_) | (refine c_pu rfl rfl rfl (c_plainNumber (by omega)) rfl ?_; rintro _ ⟨n, rfl, hnum⟩)) | (refine k_gf rfl rfl ‹_› ?_) | (refine k_tt rfl (by refine decide_eq_true ?_; first | assumption | omega) ?_))
    all_goals refine jZ (vs := [_, _]) rfl ⟨rfl, rfl, trivial⟩ rfl ⟨hle, rfl, ?_⟩
    all_goals exact ⟨_, _, _, by rw [hno]; rfl, fun p hp => by rw [hno] at hp; cases hp⟩
   ·have h88 : ¬ ((ps.length : Nat) : Int) = 8 := by omega
    repeat' (first | refine jM ?_ | (refine k_op rfl ?_; first | refine jV (g_lenL rfl) ?_ | (refine jV (g_iaddrN rfl rfl (by omega)) ?_) | (refine jV (g_ldRS rfl rfl (by assumption) ?_) ?_; (focus ((omega); done))) | (refine jV (g_pickF rfl rfl rfl) ?_) | refine c_bsl rfl rfl rfl rfl rfl rfl fun _ => ?_ | (refine c_apX rfl rfl rfl rfl rfl rfl rfl rfl rfl (by omega) fun _ _ => ?_) | (refine c_pu rfl rfl rfl (c_plainNumber (by omega)) rfl ?_; rintro _ ⟨n, rfl, hnum⟩)) | (refine k_gf rfl rfl ‹_› ?_) | (refine k_tt rfl (dTt (by omega)) ?_) | (refine k_ff rfl (dFf ‹_›) ?_))
    rename_i y1 yc
    have hmn := hnum m hn
    subst hmn
    have hst2 : stepsOf (xs.take (i + 1)) = some (ps ++ [n]) := by rw [take_nth hi, stepsOf_snoc hst, hn]; rfl
    have hl1 : (ps ++ [n]).length = ps.length + 1 := by simp
    rw [show rows inR ps ++ [I n] = rows inR (ps ++ [n]) from (rows_snoc inR ps n).symm]
    exact k_rd (ps ++ [n], some ⟨y1, 0, none⟩, yc, i + 1) ⟨⟨by dsimp only; omega, by dsimp only; omega, by dsimp only; omega⟩, hst2⟩ (by dsimp only; omega) (by rw [hl1]; repeat (first | exact trivial | refine ⟨rfl, ?_⟩)) rfl (by rw [hl1]; repeat (first | exact List.nil_sublist _ | apply List.Sublist.cons_cons))
 ·rw [List.take_of_length_le (by omega)] at hst
  rw [hst] at hpo
  dsimp only at hpo
  rw [if_pos (by omega)] at hpo
  repeat' (first | (refine jR ?_) | (refine k_ff rfl (dFf (by omega)) ?_))
  refine Nx.sealS (v := .slice a ps.length c) fun G2 hG2 hsl => ?_
  refine jZ (vs := [_, _]) rfl ⟨rfl, rfl, trivial⟩ rfl ⟨hle.trans hG2, rfl, ?_⟩
  refine ⟨_, _, _, by rw [hpo]; rfl, fun p hp => ?_⟩
  rw [hpo] at hp
  simp only [Option.some.injEq] at hp; subst hp; exact ⟨rfl, hsl⟩
theorem sg_core : ∀ k : List UInt8, sg k ++ core k = k
 | [] => rfl
 | c :: r => by
  by_cases h : c.toNat = 91 ∨ c.toNat = 63
  ·rw [sg_cons h, core, if_pos h, List.cons_append, sg_core r]
  ·rw [sg_none h, core_self h]; rfl
theorem kind_text {k : List UInt8} (h : kindOk k = true) : (bs k = [64] → sg k ++ [64] ++ nm k ++ [59] = k) ∧ (bs k ≠ [64] → sg k ++ bs k = k) := by
 have hk := core_kOk (kindOk_kOk h).1
 have hsc := sg_core k
 refine ⟨fun h64 => ?_, fun hne => ?_⟩
 ·have hr := (bs_at h).1 h64
  cases hc : core k with
  | nil => rw [hc] at hk; cases hk
  | cons c r =>
   rw [hc] at hr hk hsc
   have h64' : c.toNat = 64 := by
    by_cases h64' : c.toNat = 64
    ·exact h64'
    ·simp [refN, h64'] at hr
   have hn : nm k = r.take (r.length - 1) := by unfold nm; rw [hc]; simp [refN, h64']
   rw [kOk, if_neg (by omega), if_pos h64'] at hk
   simp only [Bool.and_eq_true, decide_eq_true_eq] at hk
   obtain ⟨h59, hnm⟩ := hk
   have hrl : 1 ≤ r.length := by
    cases r with
    | nil => simp [isNm] at hnm
    | cons => simp
   obtain ⟨m, hm⟩ : ∃ m, r.length = m + 1 := ⟨r.length - 1, by omega⟩
   rw [hm, bt_succ] at h59
   have e3 : r = r.take m ++ [59] := by
    have e1 : r.take (m + 1) = r := List.take_of_length_le (by omega)
    have e2 := take_nth (cs := r) (i := m) (by omega)
    rw [e1] at e2
    have e4 : nth r m = 59 := by
     rw [nth_eq (by omega)]
     have : bt r m = (r[m]'(by omega)).toNat := by simp [bt, List.getD, List.getElem?_eq_getElem (show m < r.length by omega)]
     exact UInt8.toNat_inj.1 (by rw [← this]; show bt r m = 59; omega)
    rw [e4] at e2; exact e2
   have hc64 : c = 64 := UInt8.toNat_inj.1 h64'
   have e5 : sg k ++ 64 :: (r.take m ++ [59]) = k := by rw [← e3, ← hc64]; exact hsc
   rw [hn, hm, Nat.add_sub_cancel]
   refine Eq.trans ?_ e5
   simp
 ·have hr : refN (core k) = none := by
   cases hr : refN (core k) with
   | none => rfl
   | some x => exact absurd ((bs_at h).2 (by rw [hr]; rfl)) hne
  have e : bs k = core k := by
   unfold bs
   cases hc : core k with
   | nil => rfl
   | cons c r =>
    rw [hc] at hr
    have h64 : ¬ c.toNat = 64 := by intro h64; simp [refN, h64] at hr
    simp [bsT, h64]
  rw [e]; exact hsc
theorem c_textI {k : List UInt8} (h : kindOk k = true) : PuG Tryz.prog 37 [Ag (kdF k)] G (· = S k) := by
 obtain ⟨h1, h2⟩ := kind_text h
 have hl := (kindOk_kOk h).2
 have hsl : (sg k).length ≤ 12 := by
  have := congrArg List.length (sg_core k)
  simp only [List.length_append] at this
  omega
 unfold kdF
 by_cases h64 : bs k = [64]
 ·have e := h1 h64
  have hnl := congrArg List.length e
  simp only [List.length_append, List.length_cons, List.length_nil] at hnl
  rw [h64]
  refine jE [(0, _)] Tryz.func37 Tryz.ntmps37 fun B hB => ?_
  repeat' (first | (refine run (t := tb) 400 rfl ?_ ?_; (focus (repeat' (first | exact trivial | apply And.intro | (simp only [List.length_append, List.length_cons, List.length_nil, Int.toNat_natCast]; omega))))) | (refine k_op rfl ?_; first | refine c_bx rfl rfl rfl fun _ => ?_ | refine jV (g_ld rfl rfl rfl) ?_) | (refine k_tt rfl rfl ?_))
  all_goals refine jZ (vs := [_]) rfl ⟨rfl, trivial⟩ rfl ⟨rfl, rfl, ?_⟩
  all_goals (rw [oneOf_one, e])
 ·have e := h2 h64
  have hnl := congrArg List.length e
  simp only [List.length_append] at hnl
  refine jE [(0, _)] Tryz.func37 Tryz.ntmps37 fun B hB => ?_
  repeat' (first | refine jM ?_ | (refine k_op rfl ?_; first | refine c_bx rfl rfl rfl fun _ => ?_ | refine jV (g_ld rfl rfl rfl) ?_) | (refine k_ff rfl (dFf ‹_›) ?_))
  all_goals refine jZ (vs := [_]) rfl ⟨rfl, trivial⟩ rfl ⟨rfl, rfl, ?_⟩
  all_goals (rw [oneOf_one, e])
theorem c_must {b : Nat} {qs : List TyP} {k s : List UInt8} {u : V} (hS : ScI G b qs) (hw : SchW (tyq qs)) (hk : kindIn (tyq qs) k = true) (hvo : valOf (tyq qs) k s = some u) :
  FnS Tryz.prog 141 [Pt b 0, Ag (kdF k), S s] G (fun r G' => ∃ c, r = Ag (vcF c) ∧ V.rep G' u c) := by
 have hl := (valOf_rd hvo).2
 have cx_ris : FnS Tryz.prog 43 [Pt b 0, Ag [S (sg k), S (bs k), S (nm k)], S s] G (fun v G' => ∃ cv, v = Tu [Ag (vcF cv), Bo true] ∧ V.rep G' u cv) := by
  refine (c_readI (G := G) (b := b) (s := s) hS hw hk (by omega)).mono ?_
  rintro v G' L' ⟨h1, h2, ⟨h4, _⟩ | ⟨u', c, h4, rfl, h5⟩⟩
  ·rw [hvo] at h4; cases h4
  ·rw [hvo] at h4; obtain rfl := Option.some.inj h4; exact ⟨h1, h2, c, rfl, h5⟩
 unfold kdF
 refine jB [(0, _), (1, _), (2, _)] Tryz.func141 Tryz.ntmps141 fun B hok hB hW => ?_
 repeat' (first | (refine jR ?_) | (refine k_op rfl ?_; first | refine c_bx rfl rfl rfl fun _ => ?_ | refine c_al rfl rfl fun _ => ?_ | refine jV (g_ldA rfl rfl rfl rfl) ?_ | refine c_stA rfl rfl rfl rfl rfl rfl ?_ | (refine c_fns rfl rfl rfl cx_ris rfl ?_; rintro _ G hle ⟨cv, rfl, hrv⟩; skip)))
 all_goals refine jZ (vs := [_]) rfl ⟨rc_A rfl rfl rfl rfl, trivial⟩ rfl ⟨hle, rfl, ?_⟩
 all_goals exact ⟨cv, rfl, hrv⟩
theorem getV_told {ts : List Ty} {f : Fld} {fs : List (Fld × V)} {j : Nat} (hj : j < fs.length) (hjn : (nth fs j).1.tag = f.tag) (hno : ∀ i, i < j → (nth fs i).1.tag ≠ f.tag) : getV ts (.nd 82 [] 0 (fs.map fldV)) f = (nth fs j).2 := by
 unfold getV
 rw [V.kids, toldV_at hj hjn hno]; rfl
theorem getV_untold {ts : List Ty} {f : Fld} {fs : List (Fld × V)} (hno : ∀ i, i < fs.length → (nth fs i).1.tag ≠ f.tag) : getV ts (.nd 82 [] 0 (fs.map fldV)) f = standV ts f := by
 unfold getV
 rw [V.kids, toldV_no hno]; rfl
theorem c_getI {b bf of j : Nat} {qs : List TyP} {t : Ty} {fs : List (Fld × V)} {c : VC} (hS : ScI G b qs) (hw : SchW (tyq qs)) (ht : t ∈ tyq qs) (hso : t.sort = 82) (hsf : Seg G bf of (rows fiF t.fields)) (hj : j < t.fields.length) (hrep : V.rep G (.nd 82 [] 0 (fs.map fldV)) c) (h9 : fs.length ≤ 1000000) :
  FnS Tryz.prog 104 [Pt b 0, Ag (vcF c), Pt bf (of + j * 6)] G (fun r G' => ∃ c', r = Ag (vcF c') ∧ V.rep G' (getV (tyq qs) (.nd 82 [] 0 (fs.map fldV)) (nth t.fields j)) c') := by
 obtain ⟨a, k, cs, rfl, _, _, _, hcl, hsl, hrs⟩ := rep_inv hrep
 have hml : (fs.map fldV).length = fs.length := by simp
 rw [hml] at hcl hsl
 have hfm : nth t.fields j ∈ t.fields := nth_mem hj
 have hdk : kindIn (tyq qs) (nth t.fields j).kind = true := kind_in hw ht (by omega) hfm
 obtain ⟨g1, g2, g3⟩ := standV_ok hw ht (by omega) hfm
 have cx_of := c_ofI hS hw hsf hj hdk
 have hnt : ∀ i, i < fs.length → nth (fs.map fldV) i = fldV (nth fs i) := fun i hi => by rw [nth_eq (by simpa using hi), nth_eq hi]; simp
 have hrn : ∀ i, i < fs.length → V.rep G (fldV (nth fs i)) (nth cs i) := fun i hi => by
  have := reps_nth hrs i (by omega)
  rwa [hnt i hi] at this
 have e0 : vcF ⟨82, [], 0, a, (fs.map fldV).length, k⟩ = [U8 (82 : Nat), S [], I 0, .slice a fs.length k] := by rw [← hml]; rfl
 rw [e0]
 refine jB [(0, _), (1, _), (2, _)] Tryz.func104 Tryz.ntmps104 fun B hok hB hW => ?_
 repeat' (first | (refine jR ?_) | (refine k_op rfl ?_; first | refine c_bx rfl rfl rfl fun _ => ?_ | refine c_al rfl rfl fun _ => ?_ | refine jV (g_ld rfl rfl rfl) ?_ | refine jV (g_lenL rfl) ?_))
 rename_i y4 y6
 refine k_loop (ι := Nat) (fun i => i ≤ fs.length ∧ ∀ l, l < i → (nth fs l).1.tag ≠ (nth t.fields j).tag) (fun i => [(0, Pt b 0), (2, Pt bf (of + j * 6)), (6, Pt y6 0), (10, .slice a fs.length k), (11, I fs.length), (12, I i)]) (fun _ => G) (fun i => [.blk y6 (.cells (List.toArray [U8 0, S [], I 0, nilS]) tVal (0, 0))]) (fun i => fs.length - i) 0 ?_ (by repeat' constructor) rfl (by repeat (first | exact List.nil_sublist _ | apply List.Sublist.cons_cons)) (fun i Hi => ?_)
 ·exact ⟨Nat.zero_le _, fun l hl => absurd hl (by omega)⟩
 obtain ⟨hi0, hno⟩ := Hi
 by_cases hi : i < fs.length
 ·obtain ⟨xb, xo, xc, e, hsx⟩ := hsl.expl (by omega)
  simp only [Value.slice.injEq] at e
  obtain ⟨rfl, -, rfl⟩ := e
  obtain ⟨a1, k1, cs1, hci, _, _, _, hcl1, hsl1, hrs1⟩ := rep_inv (hrn i hi)
  rw [V.reps] at hrs1
  obtain ⟨c1, cs2, rfl, hr1, hr2⟩ := hrs1
  rw [V.reps] at hr2
  subst hr2
  have hci : nth cs i = ⟨61, [], (nth fs i).1.tag, a1, 1, k1⟩ := hci
  have hsl1 : SlV G (.slice a1 1 k1) 4 ([c1] : List VC).length (rows vcF [c1]) := hsl1
  obtain ⟨zb, zo, zc, e, hsz⟩ := hsl1.expl (by omega)
  simp only [Value.slice.injEq] at e
  obtain ⟨rfl, -, rfl⟩ := e
  by_cases ht2 : (nth fs i).1.tag = (nth t.fields j).tag
  ·have hget := getV_told (ts := tyq qs) hi ht2 hno
   rw [hget]
   repeat' (first | (refine jR ?_) | (refine k_op rfl ?_; first | refine c_al rfl rfl fun _ => ?_ | refine jV (g_ld rfl rfl rfl) ?_ | (refine jV (g_ldRx rfl rfl (by assumption) ?_ (by assumption)) ?_; (focus ((omega); done))) | (refine jV (g_iaddrN rfl rfl (by omega)) ?_) | refine c_stA rfl rfl rfl rfl rfl rfl ?_) | (refine k_tt rfl (by refine decide_eq_true ?_; first | assumption | omega) ?_) | (refine k_any (s_any (id := 4) _ (fun _ h => h) mixed ?_); refine jT 3 [0, 2, 3, 4] (bts 7 29) ?_; (refine jG (bts 7 31) 1 rfl (g_ld rfl rfl rfl) ?_); ((refine jG (bts 7 63) 5 rfl (g_ldRF rfl rfl (by assumption) ?_ rfl rfl) ?_; (focus ((omega); done)))); refine jT 0 [6] (bts 7 127) ?_; refine x_done (by kernel_rfl) (k_bk ?_)))
   dsimp only [vcF, VC.sl]
   repeat' (first | (refine jR ?_) | (refine k_op rfl ?_; first | (refine jV (g_ldR rfl rfl (by assumption) ?_) ?_; (focus ((omega); done))) | (refine jV (g_iaddr rfl rfl (by omega)) ?_) | refine c_stA rfl rfl rfl rfl rfl rfl ?_))
   all_goals refine jZ (vs := [_]) rfl ⟨rc_A rfl rfl rfl rfl, trivial⟩ rfl ⟨Gh.le.refl _, rfl, ?_⟩
   all_goals exact ⟨c1, rfl, hr1⟩
  ·repeat' (first | refine jM ?_ | (refine k_op rfl ?_; first | refine c_al rfl rfl fun _ => ?_ | (refine jV (g_ldRx rfl rfl (by assumption) ?_ (by assumption)) ?_; (focus ((omega); done))) | (refine jV (g_iaddrN rfl rfl (by omega)) ?_) | refine c_stA rfl rfl rfl rfl rfl rfl ?_) | (refine k_tt rfl (dTt (by omega)) ?_) | (refine k_ff rfl (dFf ‹_›) ?_) | (refine k_any (s_any (id := 4) _ (fun _ h => h) mixed ?_); refine jT 3 [0, 2, 3, 4] (bts 7 29) ?_; (refine jG (bts 7 31) 1 rfl (g_ld rfl rfl rfl) ?_); ((refine jG (bts 7 63) 5 rfl (g_ldRF rfl rfl (by assumption) ?_ rfl rfl) ?_; (focus ((omega); done)))); refine jT 0 [6] (bts 7 127) ?_; refine x_done (by kernel_rfl) (k_bk ?_)))
   exact k_rd (i + 1) ⟨by omega, fun l hl => (by
    rcases Nat.lt_or_ge l i with h | h
    ·exact hno l h
    ·have : l = i := by omega
     subst this; exact ht2)⟩ (by omega) (by repeat' constructor) rfl (by repeat (first | exact List.Sublist.refl _ | apply List.Sublist.cons))
 ·have hget := getV_untold (ts := tyq qs) (f := nth t.fields j) (fs := fs) fun l hl => hno l (by omega)
  rw [hget]
  have cx_mu := c_must hS hw hdk g2
  unfold kdF at cx_mu
  repeat' (first | (refine jR ?_) | (refine k_ff rfl (dFf (by omega)) ?_) | (refine k_any (s_anyD (id := 7) (tt := 6) rfl mixed ?_); refine jU 4 [0, 1, 2, 3, 5, 6] (bts 10 111) ?_ ?_; (focus (repeat' (exact trivial))); ((refine jG (bts 10 127) 4 rfl (g_ldRA rfl rfl (by assumption) ?_ rfl rfl) ?_; (focus ((omega); done)))); refine jA 7 rfl ?_; (refine c_rt rfl rfl rfl cx_of rfl ?_); refine jK (bts 10 255) ?_; refine jA 8 rfl ?_; (refine c_fns rfl rfl rfl cx_mu rfl ?_; rintro _ G hle ⟨cv, rfl, hrv⟩; skip); refine jK (bts 10 511) ?_; refine jA 9 rfl ?_; (refine c_stA rfl rfl rfl rfl rfl rfl ?_); refine jK (bts 10 1023) ?_; refine x_done (by kernel_rfl) (k_bk ?_)))
  all_goals refine jZ (vs := [_]) rfl ⟨rc_A rfl rfl rfl rfl, trivial⟩ rfl ⟨hle, rfl, ?_⟩
  all_goals exact ⟨cv, rfl, hrv⟩
def StepPI (ts : List Ty) (o : Option (List UInt8 × V)) (r : Value) (G' : Gh) : Prop := (o = none ∧ r = Tu [Ag [S [], S [], S []], zP, Bo false]) ∨ ∃ k' v' c', o = some (k', v') ∧ r = Tu [Ag (kdF k'), Ag (vcF c'), Bo true] ∧ V.rep G' v' c'
theorem StepPI.no {f : FuncId} {args : List Value} {ts : List Ty} {o : Option (List UInt8 × V)} (h : FnS Tryz.prog f args G (StepPI ts o)) (e : o = none) : FnS Tryz.prog f args G (fun r _ => r = Tu [Ag [S [], S [], S []], zP, Bo false]) := by
 refine h.mono ?_
 rintro v G' L' ⟨h1, h2, ⟨_, h3⟩ | ⟨k', v', b', h3, _⟩⟩
 ·exact ⟨h1, h2, h3⟩
 ·rw [e] at h3; cases h3
theorem StepPI.yes {f : FuncId} {args : List Value} {ts : List Ty} {o : Option (List UInt8 × V)} {k' : List UInt8} {v' : V} (h : FnS Tryz.prog f args G (StepPI ts o)) (e : o = some (k', v')) : FnS Tryz.prog f args G (fun r G' => ∃ c', r = Tu [Ag [S (sg k'), S (bs k'), S (nm k')], Ag (vcF c'), Bo true] ∧ V.rep G' v' c') := by
 refine h.mono ?_
 rintro v G' L' ⟨h1, h2, ⟨h3, _⟩ | ⟨k2, v2, b', h3, h4, h5⟩⟩
 ·rw [e] at h3; cases h3
 ·rw [e] at h3
  simp only [Option.some.injEq, Prod.mk.injEq] at h3
  obtain ⟨rfl, rfl⟩ := h3
  exact ⟨h1, h2, b', h4, h5⟩
theorem c_stepL {b : Nat} {k : List UInt8} {ts : List Ty} {ks : List V} {c : VC} {n : Int} (hr : V.rep G (.nd 91 [] 0 ks) c) (hn : 0 ≤ n ∧ n ≤ 999999) (hkl : ks.length ≤ 1000000) :
  FnS Tryz.prog 72 [Pt b 0, Ag (kdF (91 :: k)), Ag (vcF c), I n] G (StepPI ts (stepV ts (91 :: k) (.nd 91 [] 0 ks) n)) := by
 obtain ⟨e1, e2, e3, _⟩ := kdF_cons (c := 91) (k := k) (.inl rfl)
 have cx_sign := @c_sign1 G 91 (sg k) (bs k) (nm k)
 have cx_pt := @c_part G 91 (sg k) (bs k) (nm k)
 obtain ⟨a, kc, cs, rfl, _, _, _, hcl, hsl, hrs⟩ := rep_inv hr
 have hst := stepV_kid (ts := ts) (c := 91) (r := k) (v := .nd 91 [] 0 ks) (n := n) (.inl rfl)
 rw [V.kids] at hst
 rw [hst]
 unfold kdF
 rw [e1, e2, e3]
 have e0 : vcF ⟨91, [], 0, a, ks.length, kc⟩ = [U8 (91 : Nat), S [], I 0, .slice a ks.length kc] := rfl
 rw [e0]
 by_cases hn2 : n < ((ks.length : Nat) : Int)
 ·obtain ⟨i, rfl⟩ : ∃ i : Nat, n = i := ⟨n.toNat, by omega⟩
  obtain ⟨xb, xo, xc, e, hsx⟩ := hsl.expl (by omega)
  simp only [Value.slice.injEq] at e
  obtain ⟨rfl, -, rfl⟩ := e
  have hri := reps_nth hrs i (by omega)
  obtain ⟨d, hxi⟩ : ∃ d, nth cs i = d := ⟨_, rfl⟩
  rw [hxi] at hri
  rw [if_pos hn2]
  refine jB [(0, _), (1, _), (2, _), (3, _)] Tryz.func72 Tryz.ntmps72 fun B hok hB hW => ?_
  repeat' (first | (refine jR ?_) | (refine k_op rfl ?_; first | refine c_bx rfl rfl rfl fun _ => ?_ | refine c_al rfl rfl fun _ => ?_ | refine jV (g_ld rfl rfl rfl) ?_ | refine jV (g_ldA rfl rfl rfl rfl) ?_ | refine jV (g_lenL rfl) ?_ | (refine c_rt rfl rfl rfl cx_sign rfl ?_)) | (refine k_tt rfl rfl ?_) | (refine k_ff rfl (dFf (by omega)) ?_))
  rename_i y5 y6 y8 y9
  (refine k_any (s_any (id := 5) [.blk y6 (.cells (List.toArray [U8 (91 : Nat), S [], I 0, .slice (some ⟨xb, xo, none⟩) ks.length kc]) tVal (0, 0)), .blk y5 (.cells (List.toArray [S (91 :: sg k), S (bs k), S (nm k)]) tKnd (0, 0))] (by intro y hy; simp only [List.mem_cons, List.not_mem_nil, or_false] at hy ⊢; rcases hy with hy | hy <;> simp [hy]) mixed ?_); refine jU 8 [2, 4] (bts 10 20) ?_ ?_; (focus (repeat' (exact trivial))); (refine jG (bts 10 21) 0 rfl (g_ldA rfl rfl rfl rfl) ?_); (refine jG (bts 10 29) 3 rfl (g_ld rfl rfl rfl) ?_); ((refine jG (bts 10 61) 5 rfl (g_iaddrN rfl rfl ?_) ?_; (focus ((omega); done)))); ((refine jG (bts 10 125) 6 rfl (g_ldRx rfl rfl (by assumption) ?_ (by assumption)) ?_; (focus ((omega); done)))); refine jA 1 rfl ?_; (refine c_rt rfl rfl rfl cx_pt rfl ?_); refine jK (bts 10 127) ?_; refine jA 7 rfl ?_; (refine c_stA rfl rfl rfl rfl rfl rfl ?_); refine jK (bts 10 255) ?_; refine jA 8 rfl ?_; (refine c_stA rfl rfl rfl rfl rfl rfl ?_); refine jK (bts 10 511) ?_; refine jU 0 [9] (bts 10 1023) ?_ ?_; (focus (repeat' (exact trivial))); refine x_done (by kernel_rfl) (k_bk ?_))
  all_goals repeat' (refine jR ?_)
  all_goals refine jZ (vs := [_, _, _]) rfl ⟨rc_A rfl rfl rfl rfl, rc_A rfl rfl rfl rfl, rfl, trivial⟩ rfl ⟨Gh.le.refl _, rfl, ?_⟩
  all_goals exact .inr ⟨k, nth ks i, d, rfl, rfl, hri⟩
 ·rw [if_neg hn2]
  refine jB [(0, _), (1, _), (2, _), (3, _)] Tryz.func72 Tryz.ntmps72 fun B hok hB hW => ?_
  repeat' (first | (refine jR ?_) | (refine k_op rfl ?_; first | refine c_bx rfl rfl rfl fun _ => ?_ | refine c_al rfl rfl fun _ => ?_ | refine jV (g_ld rfl rfl rfl) ?_ | refine jV (g_ldA rfl rfl rfl rfl) ?_ | refine jV (g_lenL rfl) ?_ | refine jV (g_bld rfl rfl) ?_ | refine c_stA rfl rfl rfl rfl rfl rfl ?_ | (refine c_rt rfl rfl rfl cx_sign rfl ?_)) | (refine k_tt rfl (by first | rfl | (refine decide_eq_true ?_; (omega))) ?_))
  all_goals refine jZ (vs := [_, _, _]) rfl ⟨rc_A rfl rfl rfl rfl, rc_A rfl rfl rfl rfl, rfl, trivial⟩ rfl ⟨Gh.le.refl _, rfl, ?_⟩
  all_goals exact .inl ⟨rfl, rfl⟩
theorem c_stepO {b : Nat} {k : List UInt8} {ts : List Ty} {ks : List V} {c : VC} {n : Int} (hks : ks = [] ∨ ∃ w, ks = [w]) (hr : V.rep G (.nd 63 [] 0 ks) c) (hn : 0 ≤ n ∧ n ≤ 999999) :
  FnS Tryz.prog 72 [Pt b 0, Ag (kdF (63 :: k)), Ag (vcF c), I n] G (StepPI ts (stepV ts (63 :: k) (.nd 63 [] 0 ks) n)) := by
 obtain ⟨e1, e2, e3, _⟩ := kdF_cons (c := 63) (k := k) (.inr rfl)
 have cx_sign := @c_sign1 G 63 (sg k) (bs k) (nm k)
 have cx_pt := @c_part G 63 (sg k) (bs k) (nm k)
 obtain ⟨a, kc, cs, rfl, _, _, _, hcl, hsl, hrs⟩ := rep_inv hr
 have hst := stepV_kid (ts := ts) (c := 63) (r := k) (v := .nd 63 [] 0 ks) (n := n) (.inr rfl)
 rw [V.kids] at hst
 rw [hst]
 unfold kdF
 rw [e1, e2, e3]
 have e0 : vcF ⟨63, [], 0, a, ks.length, kc⟩ = [U8 (63 : Nat), S [], I 0, .slice a ks.length kc] := rfl
 rw [e0]
 rcases hks with rfl | ⟨w, rfl⟩
 ·rw [if_neg (by simp; omega)]
  by_cases hn0 : n = 0
  all_goals
   refine jB [(0, _), (1, _), (2, _), (3, _)] Tryz.func72 Tryz.ntmps72 fun B hok hB hW => ?_
   repeat' (first | (refine jR ?_) | (refine k_op rfl ?_; first | refine c_bx rfl rfl rfl fun _ => ?_ | refine c_al rfl rfl fun _ => ?_ | refine jV (g_ld rfl rfl rfl) ?_ | refine jV (g_ldA rfl rfl rfl rfl) ?_ | refine jV (g_lenL rfl) ?_ | refine jV (g_bld rfl rfl) ?_ | refine c_stA rfl rfl rfl rfl rfl rfl ?_ | (refine jV (g_pickT rfl rfl rfl) ?_) | (refine jV (g_pickF rfl rfl rfl) ?_) | (refine c_rt rfl rfl rfl cx_sign rfl ?_)) | (refine k_gt rfl rfl (dTt ‹_›) ?_) | (refine k_gf rfl rfl (dFf (by omega)) ?_) | (refine k_tt rfl rfl ?_) | (refine k_ff rfl rfl ?_))
   all_goals refine jZ (vs := [_, _, _]) rfl ⟨rc_A rfl rfl rfl rfl, rc_A rfl rfl rfl rfl, rfl, trivial⟩ rfl ⟨Gh.le.refl _, rfl, ?_⟩
   all_goals exact .inl ⟨rfl, rfl⟩
 ·rw [V.reps] at hrs
  obtain ⟨d, cs2, rfl, hri, hr2⟩ := hrs
  rw [V.reps] at hr2
  subst hr2
  have hsl : SlV G (.slice a 1 kc) 4 ([d] : List VC).length (rows vcF [d]) := hsl
  obtain ⟨xb, xo, xc, e, hsx⟩ := hsl.expl (by simp)
  simp only [Value.slice.injEq] at e
  obtain ⟨rfl, -, rfl⟩ := e
  have hxi : nth [d] (Int.toNat 0) = d := rfl
  show FnS _ _ [Pt b 0, Ag [S (63 :: sg k), S (bs k), S (nm k)], Ag [U8 (63 : Nat), S [], I 0, .slice (some ⟨xb, xo, none⟩) 1 kc], I n] G _
  by_cases hn0 : n = 0
  ·subst hn0
   rw [if_pos (by simp)]
   refine jB [(0, _), (1, _), (2, _), (3, _)] Tryz.func72 Tryz.ntmps72 fun B hok hB hW => ?_
   repeat' (first | (refine jR ?_) | (refine k_op rfl ?_; first | refine c_bx rfl rfl rfl fun _ => ?_ | refine c_al rfl rfl fun _ => ?_ | refine jV (g_ld rfl rfl rfl) ?_ | refine jV (g_ldA rfl rfl rfl rfl) ?_ | refine jV (g_lenL rfl) ?_ | (refine jV (g_pickF rfl rfl rfl) ?_) | (refine c_rt rfl rfl rfl cx_sign rfl ?_)) | (refine k_gf rfl rfl rfl ?_) | (refine k_tt rfl rfl ?_) | (refine k_ff rfl rfl ?_))
   rename_i y5 y6 y8 y9
   (refine k_any (s_any (id := 9) [.blk y6 (.cells (List.toArray [U8 (63 : Nat), S [], I 0, .slice (some ⟨xb, xo, none⟩) 1 kc]) tVal (0, 0)), .blk y5 (.cells (List.toArray [S (63 :: sg k), S (bs k), S (nm k)]) tKnd (0, 0))] (by intro y hy; simp only [List.mem_cons, List.not_mem_nil, or_false] at hy ⊢; rcases hy with hy | hy <;> simp [hy]) mixed ?_); refine jU 8 [2] (bts 9 4) ?_ ?_; (focus (repeat' (exact trivial))); (refine jG (bts 9 5) 0 rfl (g_ldA rfl rfl rfl rfl) ?_); (refine jG (bts 9 13) 3 rfl (g_ld rfl rfl rfl) ?_); ((refine jG (bts 9 29) 4 rfl (g_iaddr rfl rfl ?_) ?_; (focus ((omega); done)))); ((refine jG (bts 9 61) 5 rfl (g_ldRx rfl rfl (by assumption) ?_ (by assumption)) ?_; (focus ((simp only [List.length_append, List.length_cons, List.length_nil, List.length_take]; omega); done)))); refine jA 1 rfl ?_; (refine c_rt rfl rfl rfl cx_pt rfl ?_); refine jK (bts 9 63) ?_; refine jA 6 rfl ?_; (refine c_stA rfl rfl rfl rfl rfl rfl ?_); refine jK (bts 9 127) ?_; refine jA 7 rfl ?_; (refine c_stA rfl rfl rfl rfl rfl rfl ?_); refine jK (bts 9 255) ?_; refine jU 0 [8] (bts 9 511) ?_ ?_; (focus (repeat' (exact trivial))); refine x_done (by kernel_rfl) (k_bk ?_))
   all_goals repeat' (refine jR ?_)
   all_goals refine jZ (vs := [_, _, _]) rfl ⟨rc_A rfl rfl rfl rfl, rc_A rfl rfl rfl rfl, rfl, trivial⟩ rfl ⟨Gh.le.refl _, rfl, ?_⟩
   all_goals exact .inr ⟨k, w, d, rfl, rfl, hri⟩
  ·rw [if_neg (show ¬ n < (([w].length : Nat) : Int) by show ¬ n < ((1 : Nat) : Int); omega)]
   refine jB [(0, _), (1, _), (2, _), (3, _)] Tryz.func72 Tryz.ntmps72 fun B hok hB hW => ?_
   repeat' (first | (refine jR ?_) | (refine k_op rfl ?_; first | refine c_bx rfl rfl rfl fun _ => ?_ | refine c_al rfl rfl fun _ => ?_ | refine jV (g_ldA rfl rfl rfl rfl) ?_ | refine jV (g_bld rfl rfl) ?_ | refine c_stA rfl rfl rfl rfl rfl rfl ?_ | (refine jV (g_pickT rfl rfl rfl) ?_) | (refine c_rt rfl rfl rfl cx_sign rfl ?_)) | (refine k_gt rfl rfl (dTt ‹_›) ?_) | (refine k_tt rfl rfl ?_) | (refine k_ff rfl rfl ?_))
   all_goals refine jZ (vs := [_, _, _]) rfl ⟨rc_A rfl rfl rfl rfl, rc_A rfl rfl rfl rfl, rfl, trivial⟩ rfl ⟨Gh.le.refl _, rfl, ?_⟩
   all_goals exact .inl ⟨rfl, rfl⟩
theorem c_stepP {b : Nat} {x : List UInt8} {ts : List Ty} {v : V} {c : VC} {n : Int} (hx : x = [110] ∨ x = [116] ∨ x = [102]) :
  FnS Tryz.prog 72 [Pt b 0, Ag (kdF x), Ag (vcF c), I n] G (StepPI ts (stepV ts x v n)) := by
 have hno : stepV ts x v n = none := by
  rcases hx with rfl | rfl | rfl
  all_goals exact stepV_plain (by decide) (by decide) (by decide)
 rw [hno]
 obtain ⟨w, tx, tg, a, m, kc⟩ := c
 have e0 : vcF ⟨w, tx, tg, a, m, kc⟩ = [U8 (w : Nat), S tx, I tg, .slice a m kc] := rfl
 rw [e0]
 have e1 : kdF x = [S [], S x, S []] := by rcases hx with rfl | rfl | rfl <;> rfl
 rw [e1]
 have cx_sign := @c_sign0 G x []
 have hx64 : ¬ x = [64] := by rcases hx with rfl | rfl | rfl <;> decide
 refine jB [(0, _), (1, _), (2, _), (3, _)] Tryz.func72 Tryz.ntmps72 fun B hok hB hW => ?_
 repeat' (first | (refine jR ?_) | (refine k_op rfl ?_; first | refine c_bx rfl rfl rfl fun _ => ?_ | refine c_al rfl rfl fun _ => ?_ | refine jV (g_ld rfl rfl rfl) ?_ | refine jV (g_ldA rfl rfl rfl rfl) ?_ | refine jV (g_bld rfl rfl) ?_ | refine c_stA rfl rfl rfl rfl rfl rfl ?_ | (refine c_rt rfl rfl rfl cx_sign rfl ?_)) | (refine k_tt rfl (dTt ‹_›) ?_) | (refine k_ff rfl rfl ?_))
 all_goals refine jZ (vs := [_, _, _]) rfl ⟨rc_A rfl rfl rfl rfl, rc_A rfl rfl rfl rfl, rfl, trivial⟩ rfl ⟨Gh.le.refl _, rfl, ?_⟩
 all_goals exact .inl ⟨rfl, rfl⟩
theorem kind_typ {qs : List TyP} {k : List UInt8} {t : Ty} (hki : kindIn (tyq qs) k = true) (hrf : refT (tyq qs) k = some t) : kdF k = [S [], S [64], S (nm k)] ∧ ∃ p, findQ qs (nm k) = some (p, t) ∧ (p, t) ∈ qs := by
 obtain ⟨r, rfl⟩ := refT_64 hrf
 have h91 : ¬ ((64 : UInt8).toNat = 91 ∨ (64 : UInt8).toNat = 63) := by decide
 have hsg := sg_none (r := r) h91
 have hcs := core_self (r := r) h91
 have hrn : (refN (core (64 :: r))).isSome = true := by rw [hcs]; rfl
 have hbs : bs (64 :: r) = [64] := (bs_at (kindIn_ok hki)).2 hrn
 have hnm : refN (64 :: r) = some (nm (64 :: r)) := by unfold nm; rw [hcs]; rfl
 have hft : findT (tyq qs) (nm (64 :: r)) = some t := by unfold refT at hrf; rw [hnm] at hrf; exact hrf
 rw [← findQ_ty] at hft
 rcases hfq : findQ qs (nm (64 :: r)) with _ | ⟨p, t'⟩
 ·rw [hfq] at hft; cases hft
 rw [hfq] at hft
 obtain rfl : t' = t := Option.some.inj hft
 exact ⟨by unfold kdF; rw [hsg, hbs], p, rfl, findQ_mem hfq⟩
theorem c_stepT {b : Nat} {qs : List TyP} {k : List UInt8} {t : Ty} {v : V} {c : VC} {n : Int} (hS : ScI G b qs) (hw : SchW (tyq qs)) (hki : kindIn (tyq qs) k = true) (hrf : refT (tyq qs) k = some t) (ho : OfK (tyq qs) k v) (hr : V.rep G v c) (hn : 0 ≤ n ∧ n ≤ 999999) (htt : v.tot ≤ 1000000) :
  FnS Tryz.prog 72 [Pt b 0, Ag (kdF k), Ag (vcF c), I n] G (StepPI (tyq qs) (stepV (tyq qs) k v n)) := by
 obtain ⟨hkd, p, hfq, hqm⟩ := kind_typ hki hrf
 have hst := stepV_typ (v := v) (n := n) hrf
 have htm := refT_mem hrf
 have hW := hw.ty t htm
 obtain ⟨fv, ln, hsg, hfv⟩ := hS.ty _ hqm
 dsimp only at hsg hfv
 have hkv := kvF_find qs (nm k)
 rw [hfq] at hkv
 dsimp only [Option.map_some] at hkv
 obtain ⟨u, m, g1, g2, g3⟩ := hS.at'
 have hfl := hW.len
 have cx_sign := @c_sign0 G [64] (nm k)
 rw [hkd]
 cases hg : fldT t.fields n with
 | none =>
  rw [hg] at hst
  dsimp only at hst
  rw [hst]
  have cx_fld := c_fieldI0 (tag := n) hsg hfv (by omega) hg
  obtain ⟨w, tx, tg, a, mm, kc⟩ := c
  have e0 : vcF ⟨w, tx, tg, a, mm, kc⟩ = [U8 (w : Nat), S tx, I tg, .slice a mm kc] := rfl
  rw [e0]
  refine jB [(0, _), (1, _), (2, _), (3, _)] Tryz.func72 Tryz.ntmps72 fun B hok hB hW => ?_
  repeat' (first | (refine jR ?_) | (refine k_op rfl ?_; first | refine c_bx rfl rfl rfl fun _ => ?_ | refine c_al rfl rfl fun _ => ?_ | refine jV (g_ld rfl rfl rfl) ?_ | refine jV (g_ldA rfl rfl rfl rfl) ?_ | (refine c_rt rfl rfl rfl cx_sign rfl ?_)) | (refine k_ff rfl rfl ?_))
  rename_i y5 y6 y8 y9
  (refine k_any (s_any (id := 12) [.blk y9 (.cells (List.toArray [U8 0, S [], I 0, nilS]) tVal (0, 0)), .blk y8 (.cells (List.toArray [S [], S [], S []]) tKnd (0, 0)), .blk y6 (.cells (List.toArray [U8 (w : Nat), S tx, I tg, .slice a mm kc]) tVal (0, 0)), .blk y5 (.cells (List.toArray [S [], S [64], S (nm k)]) tKnd (0, 0))] (by intro y hy; simp only [List.mem_cons, List.not_mem_nil, or_false] at hy ⊢; rcases hy with hy | hy | hy | hy <;> simp [hy]) mixed ?_); refine jT 4 [0, 1, 2, 4] (bts 8 23) ?_; (refine jG (bts 8 31) 3 rfl (g_ldS rfl rfl (by assumption) rfl rfl) ?_); (refine jG (bts 8 63) 5 rfl (g_ld rfl rfl rfl) ?_); ((refine jG (bts 8 127) 6 rfl (g_lookupX rfl rfl (map_G (by assumption)) (by assumption) rfl) ?_)); refine jT 0 [7] (bts 8 255) ?_; refine x_done (by kernel_rfl) (k_bk ?_))
  all_goals repeat' (first | (refine jR ?_) | (refine k_op rfl ?_; first | refine jV (g_bld rfl rfl) ?_ | refine c_stA rfl rfl rfl rfl rfl rfl ?_ | (refine jV (g_pickT rfl rfl rfl) ?_) | refine jV (g_peq0 rfl rfl) ?_ | (refine c_rt rfl rfl rfl cx_fld rfl ?_)) | (refine k_gt rfl rfl rfl ?_) | (refine k_tt rfl rfl ?_))
  all_goals refine jZ (vs := [_, _, _]) rfl ⟨rc_A rfl rfl rfl rfl, rc_A rfl rfl rfl rfl, rfl, trivial⟩ rfl ⟨Gh.le.refl _, rfl, ?_⟩
  all_goals exact .inl ⟨rfl, rfl⟩
 | some f =>
  rw [hg] at hst
  dsimp only at hst
  obtain ⟨j, hj, hjf, hjn, hjx⟩ := fldT_some hg
  obtain ⟨bf, of, cf, rfl, hsf⟩ := hfv.expl (by omega)
  have cx_fld := c_fieldI1 hsg hsf (by omega) hj hjf hjn
  subst hjx
  rcases hW.sort with hso | hso | hso
  ·rw [if_neg (by omega), if_pos hso] at hst
   rw [hst]
   rcases ofK_inv_t ho hrf with ⟨_, fs, rfl, g4, g5, _, _⟩ | ⟨h1, _⟩ | ⟨h1, _⟩
   ·have h9 : fs.length ≤ 1000000 := by
     have h7 := tots_len (fs.map fldV)
     rw [nd_tot] at htt
     have e1 : (fs.map fldV).length = fs.length := by simp
     omega
    have cx_ge := c_getI hS hw htm hso hsf hj hr h9
    obtain ⟨a, kc, cs, rfl, _, _, _, hcl, hsl, hrs⟩ := rep_inv hr
    have hml : (fs.map fldV).length = fs.length := by simp
    have e0 : vcF ⟨82, [], 0, a, (fs.map fldV).length, kc⟩ = [U8 (82 : Nat), S [], I 0, .slice a fs.length kc] := by rw [← hml]; rfl
    rw [e0] at cx_ge ⊢
    refine jB [(0, _), (1, _), (2, _), (3, _)] Tryz.func72 Tryz.ntmps72 fun B hok hB hW => ?_
    repeat' (first | (refine jR ?_) | (refine k_op rfl ?_; first | refine c_bx rfl rfl rfl fun _ => ?_ | refine c_al rfl rfl fun _ => ?_ | refine jV (g_ld rfl rfl rfl) ?_ | refine jV (g_ldA rfl rfl rfl rfl) ?_ | (refine c_rt rfl rfl rfl cx_sign rfl ?_)) | (refine k_ff rfl rfl ?_))
    rename_i y5 y6 y8 y9
    (refine k_any (s_any (id := 12) [.blk y9 (.cells (List.toArray [U8 0, S [], I 0, nilS]) tVal (0, 0)), .blk y8 (.cells (List.toArray [S [], S [], S []]) tKnd (0, 0)), .blk y6 (.cells (List.toArray [U8 (82 : Nat), S [], I 0, .slice a fs.length kc]) tVal (0, 0)), .blk y5 (.cells (List.toArray [S [], S [64], S (nm k)]) tKnd (0, 0))] (by intro y hy; simp only [List.mem_cons, List.not_mem_nil, or_false] at hy ⊢; rcases hy with hy | hy | hy | hy <;> simp [hy]) mixed ?_); refine jT 4 [0, 1, 2, 4] (bts 8 23) ?_; (refine jG (bts 8 31) 3 rfl (g_ldS rfl rfl (by assumption) rfl rfl) ?_); (refine jG (bts 8 63) 5 rfl (g_ld rfl rfl rfl) ?_); ((refine jG (bts 8 127) 6 rfl (g_lookupX rfl rfl (map_G (by assumption)) (by assumption) rfl) ?_)); refine jT 0 [7] (bts 8 255) ?_; refine x_done (by kernel_rfl) (k_bk ?_))
    all_goals repeat' (first | (refine jR ?_) | (refine k_op rfl ?_; first | refine jV (g_ldS rfl rfl (by assumption) rfl rfl) ?_ | (refine jV (g_pickF rfl rfl rfl) ?_) | refine jV (g_peq0 rfl rfl) ?_ | (refine c_rt rfl rfl rfl cx_fld rfl ?_)) | (refine k_gf rfl rfl (by first | rfl | (refine decide_eq_false ?_; (omega))) ?_) | (refine k_ff rfl (by first | rfl | (refine decide_eq_false ?_; (omega))) ?_))
    all_goals (refine k_any (s_any (id := 18) [.blk y6 (.cells (List.toArray [U8 (82 : Nat), S [], I 0, .slice a fs.length kc]) tVal (0, 0)), .blk y5 (.cells (List.toArray [S [], S [64], S (nm k)]) tKnd (0, 0))] (by intro y hy; simp only [List.mem_cons, List.not_mem_nil, or_false] at hy ⊢; rcases hy with hy | hy <;> simp [hy]) mixed ?_); refine jU 6 [0, 1, 2, 4, 6] (bts 11 87) ?_ ?_; (focus (repeat' (exact trivial))); ((refine jG (bts 11 95) 3 rfl (g_ldRA rfl rfl (by assumption) ?_ rfl rfl) ?_; (focus ((omega); done)))); (refine jG (bts 11 127) 5 rfl (g_ldA rfl rfl rfl rfl) ?_); refine jA 7 rfl ?_; (refine c_fns rfl rfl rfl cx_ge rfl ?_; rintro _ G hle ⟨cv, rfl, hrv⟩; skip); refine jK (bts 11 255) ?_; refine jA 8 rfl ?_; (refine c_stA rfl rfl rfl rfl rfl rfl ?_); refine jK (bts 11 511) ?_; refine jA 9 rfl ?_; (refine c_stA rfl rfl rfl rfl rfl rfl ?_); refine jK (bts 11 1023) ?_; refine jU 0 [10] (bts 11 2047) ?_ ?_; (focus (repeat' (exact trivial))); refine x_done (by kernel_rfl) (k_bk ?_))
    all_goals repeat' (refine jR ?_)
    all_goals refine jZ (vs := [_, _, _]) rfl ⟨rc_A rfl rfl rfl rfl, rc_A rfl rfl rfl rfl, rfl, trivial⟩ rfl ⟨hle, rfl, ?_⟩
    all_goals exact .inr ⟨_, _, cv, rfl, rfl, hrv⟩
   ·omega
   ·omega
  ·rw [if_neg (by omega), if_neg (by omega)] at hst
   rcases ofK_inv_t ho hrf with ⟨h1, _⟩ | ⟨h1, _⟩ | ⟨_, _, d, w, rfl, g4, g5⟩
   ·omega
   ·omega
   ·obtain ⟨a, kc, cs, rfl, _, _, _, hcl, hsl, hrs⟩ := rep_inv hr
    rw [V.reps] at hrs
    obtain ⟨c1, cs2, rfl, hri, hr2⟩ := hrs
    rw [V.reps] at hr2
    subst hr2
    have hsl : SlV G (.slice a 1 kc) 4 ([c1] : List VC).length (rows vcF [c1]) := hsl
    obtain ⟨xb, xo, xc, e, hsx⟩ := hsl.expl (by simp)
    simp only [Value.slice.injEq] at e
    obtain ⟨rfl, -, rfl⟩ := e
    have hxi : nth [c1] (Int.toNat 0) = c1 := rfl
    show FnS _ _ [Pt b 0, Ag [S [], S [64], S (nm k)], Ag [U8 (85 : Nat), S [], I d.tag, .slice (some ⟨xb, xo, none⟩) 1 kc], I n] G _
    by_cases hdn : d.tag = n
    ·rw [if_pos (show V.tag (.nd 85 [] d.tag [w]) = n from hdn)] at hst
     rw [hst]
     refine jB [(0, _), (1, _), (2, _), (3, _)] Tryz.func72 Tryz.ntmps72 fun B hok hB hW => ?_
     repeat' (first | (refine jR ?_) | (refine k_op rfl ?_; first | refine c_bx rfl rfl rfl fun _ => ?_ | refine c_al rfl rfl fun _ => ?_ | refine jV (g_ld rfl rfl rfl) ?_ | refine jV (g_ldA rfl rfl rfl rfl) ?_ | (refine c_rt rfl rfl rfl cx_sign rfl ?_)) | (refine k_ff rfl rfl ?_))
     rename_i y5 y6 y8 y9
     (refine k_any (s_any (id := 12) [.blk y9 (.cells (List.toArray [U8 0, S [], I 0, nilS]) tVal (0, 0)), .blk y8 (.cells (List.toArray [S [], S [], S []]) tKnd (0, 0)), .blk y6 (.cells (List.toArray [U8 (85 : Nat), S [], I d.tag, .slice (some ⟨xb, xo, none⟩) 1 kc]) tVal (0, 0)), .blk y5 (.cells (List.toArray [S [], S [64], S (nm k)]) tKnd (0, 0))] (by intro y hy; simp only [List.mem_cons, List.not_mem_nil, or_false] at hy ⊢; rcases hy with hy | hy | hy | hy <;> simp [hy]) mixed ?_); refine jT 4 [0, 1, 2, 4] (bts 8 23) ?_; (refine jG (bts 8 31) 3 rfl (g_ldS rfl rfl (by assumption) rfl rfl) ?_); (refine jG (bts 8 63) 5 rfl (g_ld rfl rfl rfl) ?_); ((refine jG (bts 8 127) 6 rfl (g_lookupX rfl rfl (map_G (by assumption)) (by assumption) rfl) ?_)); refine jT 0 [7] (bts 8 255) ?_; refine x_done (by kernel_rfl) (k_bk ?_))
     all_goals repeat' (first | (refine jR ?_) | (refine k_op rfl ?_; first | refine jV (g_ld rfl rfl rfl) ?_ | refine jV (g_ldS rfl rfl (by assumption) rfl rfl) ?_ | (refine jV (g_pickT rfl rfl rfl) ?_) | (refine jV (g_pickF rfl rfl rfl) ?_) | refine jV (g_peq0 rfl rfl) ?_ | (refine c_rt rfl rfl rfl cx_fld rfl ?_)) | (refine k_gt rfl rfl (dTt (by omega)) ?_) | (refine k_gf rfl rfl (by first | rfl | (refine decide_eq_false ?_; (omega))) ?_) | (refine k_tt rfl (dTt (by omega)) ?_) | (refine k_ff rfl (dFf (by omega)) ?_))
     all_goals (refine k_any (s_any (id := 17) [.blk y6 (.cells (List.toArray [U8 (85 : Nat), S [], I d.tag, .slice (some ⟨xb, xo, none⟩) 1 kc]) tVal (0, 0)), .blk y5 (.cells (List.toArray [S [], S [64], S (nm k)]) tKnd (0, 0))] (by intro y hy; simp only [List.mem_cons, List.not_mem_nil, or_false] at hy ⊢; rcases hy with hy | hy <;> simp [hy]) mixed ?_); refine jU 7 [0, 1, 2, 4] (bts 11 23) ?_ ?_; (focus (repeat' (exact trivial))); ((refine jG (bts 11 31) 3 rfl (g_ldRA rfl rfl (by assumption) ?_ rfl rfl) ?_; (focus ((omega); done)))); (refine jG (bts 11 63) 5 rfl (g_ld rfl rfl rfl) ?_); ((refine jG (bts 11 127) 6 rfl (g_iaddr rfl rfl ?_) ?_; (focus ((omega); done)))); ((refine jG (bts 11 255) 7 rfl (g_ldRx rfl rfl (by assumption) ?_ (by assumption)) ?_; (focus ((simp only [List.length_append, List.length_cons, List.length_nil, List.length_take]; omega); done)))); refine jA 8 rfl ?_; (refine c_stA rfl rfl rfl rfl rfl rfl ?_); refine jK (bts 11 511) ?_; refine jA 9 rfl ?_; (refine c_stA rfl rfl rfl rfl rfl rfl ?_); refine jK (bts 11 1023) ?_; refine jU 0 [10] (bts 11 2047) ?_ ?_; (focus (repeat' (exact trivial))); refine x_done (by kernel_rfl) (k_bk ?_))
     all_goals repeat' (refine jR ?_)
     all_goals refine jZ (vs := [_, _, _]) rfl ⟨rc_A rfl rfl rfl rfl, rc_A rfl rfl rfl rfl, rfl, trivial⟩ rfl ⟨Gh.le.refl _, rfl, ?_⟩
     all_goals exact .inr ⟨_, w, c1, rfl, rfl, hri⟩
    ·rw [if_neg (show ¬ V.tag (.nd 85 [] d.tag [w]) = n from hdn)] at hst
     rw [hst]
     refine jB [(0, _), (1, _), (2, _), (3, _)] Tryz.func72 Tryz.ntmps72 fun B hok hB hW => ?_
     repeat' (first | (refine jR ?_) | (refine k_op rfl ?_; first | refine c_bx rfl rfl rfl fun _ => ?_ | refine c_al rfl rfl fun _ => ?_ | refine jV (g_ld rfl rfl rfl) ?_ | refine jV (g_ldA rfl rfl rfl rfl) ?_ | (refine c_rt rfl rfl rfl cx_sign rfl ?_)) | (refine k_ff rfl rfl ?_))
     rename_i y5 y6 y8 y9
     (refine k_any (s_any (id := 12) [.blk y9 (.cells (List.toArray [U8 0, S [], I 0, nilS]) tVal (0, 0)), .blk y8 (.cells (List.toArray [S [], S [], S []]) tKnd (0, 0)), .blk y6 (.cells (List.toArray [U8 (85 : Nat), S [], I d.tag, .slice (some ⟨xb, xo, none⟩) 1 kc]) tVal (0, 0)), .blk y5 (.cells (List.toArray [S [], S [64], S (nm k)]) tKnd (0, 0))] (by intro y hy; simp only [List.mem_cons, List.not_mem_nil, or_false] at hy ⊢; rcases hy with hy | hy | hy | hy <;> simp [hy]) mixed ?_); refine jT 4 [0, 1, 2, 4] (bts 8 23) ?_; (refine jG (bts 8 31) 3 rfl (g_ldS rfl rfl (by assumption) rfl rfl) ?_); (refine jG (bts 8 63) 5 rfl (g_ld rfl rfl rfl) ?_); ((refine jG (bts 8 127) 6 rfl (g_lookupX rfl rfl (map_G (by assumption)) (by assumption) rfl) ?_)); refine jT 0 [7] (bts 8 255) ?_; refine x_done (by kernel_rfl) (k_bk ?_))
     all_goals repeat' (first | (refine jR ?_) | (refine k_op rfl ?_; first | refine jV (g_ld rfl rfl rfl) ?_ | refine jV (g_ldS rfl rfl (by assumption) rfl rfl) ?_ | refine jV (g_bld rfl rfl) ?_ | refine c_stA rfl rfl rfl rfl rfl rfl ?_ | (refine jV (g_pickT rfl rfl rfl) ?_) | (refine jV (g_pickF rfl rfl rfl) ?_) | refine jV (g_peq0 rfl rfl) ?_ | (refine c_rt rfl rfl rfl cx_fld rfl ?_)) | (refine k_gt rfl rfl (dTt (by omega)) ?_) | (refine k_gf rfl rfl (by first | rfl | (refine decide_eq_false ?_; (omega))) ?_) | (refine k_tt rfl (dTt ‹_›) ?_))
     all_goals refine jZ (vs := [_, _, _]) rfl ⟨rc_A rfl rfl rfl rfl, rc_A rfl rfl rfl rfl, rfl, trivial⟩ rfl ⟨Gh.le.refl _, rfl, ?_⟩
     all_goals exact .inl ⟨rfl, rfl⟩
  ·rw [if_pos hso] at hst
   rw [hst]
   obtain ⟨w, tx, tg, a, mm, kc⟩ := c
   have e0 : vcF ⟨w, tx, tg, a, mm, kc⟩ = [U8 (w : Nat), S tx, I tg, .slice a mm kc] := rfl
   rw [e0]
   refine jB [(0, _), (1, _), (2, _), (3, _)] Tryz.func72 Tryz.ntmps72 fun B hok hB hW => ?_
   repeat' (first | (refine jR ?_) | (refine k_op rfl ?_; first | refine c_bx rfl rfl rfl fun _ => ?_ | refine c_al rfl rfl fun _ => ?_ | refine jV (g_ld rfl rfl rfl) ?_ | refine jV (g_ldA rfl rfl rfl rfl) ?_ | (refine c_rt rfl rfl rfl cx_sign rfl ?_)) | (refine k_ff rfl rfl ?_))
   rename_i y5 y6 y8 y9
   (refine k_any (s_any (id := 12) [.blk y9 (.cells (List.toArray [U8 0, S [], I 0, nilS]) tVal (0, 0)), .blk y8 (.cells (List.toArray [S [], S [], S []]) tKnd (0, 0)), .blk y6 (.cells (List.toArray [U8 (w : Nat), S tx, I tg, .slice a mm kc]) tVal (0, 0)), .blk y5 (.cells (List.toArray [S [], S [64], S (nm k)]) tKnd (0, 0))] (by intro y hy; simp only [List.mem_cons, List.not_mem_nil, or_false] at hy ⊢; rcases hy with hy | hy | hy | hy <;> simp [hy]) mixed ?_); refine jT 4 [0, 1, 2, 4] (bts 8 23) ?_; (refine jG (bts 8 31) 3 rfl (g_ldS rfl rfl (by assumption) rfl rfl) ?_); (refine jG (bts 8 63) 5 rfl (g_ld rfl rfl rfl) ?_); ((refine jG (bts 8 127) 6 rfl (g_lookupX rfl rfl (map_G (by assumption)) (by assumption) rfl) ?_)); refine jT 0 [7] (bts 8 255) ?_; refine x_done (by kernel_rfl) (k_bk ?_))
   all_goals repeat' (first | (refine jR ?_) | (refine k_op rfl ?_; first | refine jV (g_ldS rfl rfl (by assumption) rfl rfl) ?_ | refine jV (g_bld rfl rfl) ?_ | refine c_stA rfl rfl rfl rfl rfl rfl ?_ | (refine jV (g_pickT rfl rfl rfl) ?_) | (refine jV (g_pickF rfl rfl rfl) ?_) | refine jV (g_peq0 rfl rfl) ?_ | (refine c_rt rfl rfl rfl cx_fld rfl ?_)) | (refine k_gt rfl rfl (dTt (by omega)) ?_) | (refine k_gf rfl rfl rfl ?_) | (refine k_tt rfl rfl ?_))
   all_goals refine jZ (vs := [_, _, _]) rfl ⟨rc_A rfl rfl rfl rfl, rc_A rfl rfl rfl rfl, rfl, trivial⟩ rfl ⟨Gh.le.refl _, rfl, ?_⟩
   all_goals exact .inl ⟨rfl, rfl⟩
theorem c_stepI {b : Nat} {qs : List TyP} {k : List UInt8} {v : V} {c : VC} {n : Int} (hS : ScI G b qs) (hw : SchW (tyq qs)) (hki : kindIn (tyq qs) k = true) (ho : OfK (tyq qs) k v) (hr : V.rep G v c) (hn : 0 ≤ n ∧ n ≤ 999999) (htt : v.tot ≤ 1000000) :
  FnS Tryz.prog 72 [Pt b 0, Ag (kdF k), Ag (vcF c), I n] G (StepPI (tyq qs) (stepV (tyq qs) k v n)) := by
 cases hrf : refT (tyq qs) k with
 | some t => exact c_stepT hS hw hki hrf ho hr hn htt
 | none =>
  obtain ⟨ch, r, rfl⟩ := kind_ne hki
  by_cases h91 : ch.toNat = 91 ∨ ch.toNat = 63
  ·rcases ofK_inv_c ho (by omega) with ⟨h1, _⟩ | ⟨h1, _⟩ | ⟨h1, _⟩ | ⟨h1, ks, _, _, rfl⟩ | ⟨h1, h2⟩
   ·omega
   ·omega
   ·omega
   ·obtain rfl := u8_eq h1 (by decide)
    have := tots_len ks
    rw [nd_tot] at htt
    exact c_stepL hr hn (by omega)
   ·obtain rfl := u8_eq h1 (by decide)
    rcases h2 with rfl | ⟨w, _, rfl⟩
    ·exact c_stepO (.inl rfl) hr hn
    ·exact c_stepO (.inr ⟨w, rfl⟩) hr hn
  ·exact c_stepP (plain_kinds hki h91 hrf)
theorem c_followI {b : Nat} {qs : List TyP} (hS : ScI G b qs) (hw : SchW (tyq qs)) {p : List Int} {pv : Value} (hp : SlV G pv 1 p.length (rows inR p)) (hpn : ∀ n ∈ p, 0 ≤ n ∧ n ≤ 999999) (hpl : p.length ≤ 1000) {k : List UInt8} {v : V} {c : VC} (hr : V.rep G v c) (ho : OfK (tyq qs) k v) (hki : kindIn (tyq qs) k = true) (htt : v.tot ≤ 1000000) :
  FnS Tryz.prog 36 [Pt b 0, Ag (kdF k), Ag (vcF c), pv] G (StepPI (tyq qs) (followV (tyq qs) k v p)) := by
 obtain ⟨pa, pc, rfl⟩ := hp.sl
 unfold kdF
 have e0 : vcF c = [U8 (c.what : Nat), S c.text, I c.tag, .slice c.a c.n c.c] := rfl
 rw [e0]
 refine jB [(0, _), (1, _), (2, _), (3, _)] Tryz.func36 Tryz.ntmps36 fun B hok hB hW => ?_
 repeat' (first | (refine jR ?_) | (refine k_op rfl ?_; first | refine c_bx rfl rfl rfl fun _ => ?_ | refine c_al rfl rfl fun _ => ?_ | refine jV (g_lenL rfl) ?_))
 rename_i y5 y6 y8 y9
 refine k_loop (ι := List UInt8 × V × VC × Nat × Gh) (fun j => ((V.rep j.2.2.2.2 j.2.1 j.2.2.1 ∧ OfK (tyq qs) j.1 j.2.1) ∧ (kindIn (tyq qs) j.1 = true ∧ j.2.1.tot ≤ 1000000)) ∧ (Gh.le G j.2.2.2.2 ∧ j.2.2.2.1 ≤ p.length) ∧ followV (tyq qs) k v p = followV (tyq qs) j.1 j.2.1 (p.drop j.2.2.2.1)) (fun j => [(0, Pt b 0), (5, Pt y5 0), (6, Pt y6 0), (8, Pt y8 0), (9, Pt y9 0), (14, .slice pa p.length pc), (15, I p.length), (16, I j.2.2.2.1)]) (fun j => j.2.2.2.2) (fun j => [.blk y9 (.cells (List.toArray [U8 0, S [], I 0, nilS]) tVal (0, 0)), .blk y8 (.cells (List.toArray [S [], S [], S []]) tKnd (0, 0)), .blk y6 (.cells (List.toArray [U8 (j.2.2.1.what : Nat), S j.2.2.1.text, I j.2.2.1.tag, .slice j.2.2.1.a j.2.2.1.n j.2.2.1.c]) tVal (0, 0)), .blk y5 (.cells (List.toArray [S (sg j.1), S (bs j.1), S (nm j.1)]) tKnd (0, 0))]) (fun j => p.length - j.2.2.2.1) (k, v, c, 0, G) ?_ (by repeat' constructor) rfl sRr (fun j Hj => ?_)
 ·exact ⟨⟨⟨hr, ho⟩, hki, htt⟩, ⟨Gh.le.refl _, Nat.zero_le _⟩, rfl⟩
 obtain ⟨k0, v0, c0, i, Gq⟩ := j
 dsimp only at Hj ⊢
 obtain ⟨⟨⟨hr0, ho0⟩, hk0, ht0⟩, ⟨hgq, hi0⟩, he⟩ := Hj
 by_cases hi : i < p.length
 ·obtain ⟨xb, xo, xc, e, hs1⟩ := (hp.mono hgq).expl (by omega)
  simp only [Value.slice.injEq] at e
  obtain ⟨rfl, -, rfl⟩ := e
  have hni := hpn _ (nth_mem hi)
  have hti : nth p i = nth p i := rfl
  have hstp := c_stepI (hS.mono hgq) hw hk0 ho0 hr0 hni ht0
  unfold kdF at hstp
  rw [show vcF c0 = [U8 (c0.what : Nat), S c0.text, I c0.tag, .slice c0.a c0.n c0.c] from rfl] at hstp
  rw [followV_drop hi] at he
  cases hsv : stepV (tyq qs) k0 v0 (nth p i) with
  | none =>
   have cx_stn := StepPI.no hstp hsv
   rw [hsv] at he
   repeat' (first | (refine jR ?_) | (refine k_op rfl ?_; first | (refine jV (g_iaddrN rfl rfl (by omega)) ?_) | refine jV (g_ldA rfl rfl rfl rfl) ?_ | (refine jV (g_ldR1x rfl rfl (by assumption) ?_ (by assumption) rfl) ?_; (focus ((omega); done))) | refine c_stA rfl rfl rfl rfl rfl rfl ?_ | refine jV (g_bld rfl rfl) ?_ | (refine c_fns rfl rfl rfl cx_stn rfl ?_; rintro _ G hle rfl; skip)) | (refine k_tt rfl (by first | rfl | (refine decide_eq_true ?_; (omega))) ?_))
   all_goals refine jZ (vs := [_, _, _]) rfl ⟨rc_A rfl rfl rfl rfl, rc_A rfl rfl rfl rfl, rfl, trivial⟩ rfl ⟨hgq.trans hle, rfl, ?_⟩
   all_goals exact .inl ⟨he, rfl⟩
  | some y =>
   obtain ⟨k1, v1⟩ := y
   have cx_sty := StepPI.yes hstp hsv
   rw [hsv] at he
   obtain ⟨g1, g2⟩ := stepV_ok hw ho0 hk0 hni.1 hsv
   have g3 := stepV_tot hw ho0 hk0 hni.1 hsv ht0 (by omega)
   repeat' (first | refine jM ?_ | (refine k_op rfl ?_; first | (refine jV (g_iaddrN rfl rfl (by omega)) ?_) | refine jV (g_ldA rfl rfl rfl rfl) ?_ | (refine jV (g_ldR1x rfl rfl (by assumption) ?_ (by assumption) rfl) ?_; (focus ((omega); done))) | refine c_stA rfl rfl rfl rfl rfl rfl ?_ | (refine c_fns rfl rfl rfl cx_sty rfl ?_; rintro _ G hle ⟨cv, rfl, hrv⟩; skip)) | (refine k_tt rfl (dTt (by omega)) ?_) | (refine k_ff rfl rfl ?_))
   exact k_rd (k1, v1, cv, i + 1, G) ⟨⟨⟨hrv, g1⟩, g2, g3⟩, ⟨hgq.trans hle, by dsimp only; omega⟩, he⟩ (by dsimp only; omega) (by repeat' constructor) rfl sRr
 ·have hd : p.drop i = [] := List.drop_eq_nil_of_le (by omega)
  rw [hd] at he
  repeat' (first | (refine jR ?_) | (refine k_ff rfl (dFf (by omega)) ?_))
  (refine k_any (s_any (id := 9) [.blk y6 (.cells (List.toArray [U8 (c0.what : Nat), S c0.text, I c0.tag, .slice c0.a c0.n c0.c]) tVal (0, 0)), .blk y5 (.cells (List.toArray [S (sg k0), S (bs k0), S (nm k0)]) tKnd (0, 0))] (by intro y hy; simp only [List.mem_cons, List.not_mem_nil, or_false] at hy ⊢; rcases hy with hy | hy <;> simp [hy]) mixed ?_); (refine jG (bts 5 1) 0 rfl (g_ldA rfl rfl rfl rfl) ?_); (refine jG (bts 5 3) 1 rfl (g_ldA rfl rfl rfl rfl) ?_); refine jA 2 rfl ?_; (refine c_stA rfl rfl rfl rfl rfl rfl ?_); refine jK (bts 5 7) ?_; refine jA 3 rfl ?_; (refine c_stA rfl rfl rfl rfl rfl rfl ?_); refine jK (bts 5 15) ?_; refine jU 0 [4] (bts 5 31) ?_ ?_; (focus (repeat' (exact trivial))); refine x_done (by kernel_rfl) (k_bk ?_))
  all_goals repeat' (refine jR ?_)
  all_goals refine jZ (vs := [_, _, _]) rfl ⟨rc_A rfl rfl rfl rfl, rc_A rfl rfl rfl rfl, rfl, trivial⟩ rfl ⟨hgq, rfl, ?_⟩
  all_goals exact .inr ⟨_, _, c0, he, rfl, hr0⟩
theorem readPath_no {s : List UInt8} (h : s.length ≤ 1048576) (hp : pathOf s = none) : ∀ G, FnS Tryz.prog 35 [S s] G (fun v _ => ∃ a c n, v = Tu [.slice a n c, Bo false] ∧ True) := fun G => by
 refine (c_readPath (G := G) h).mono ?_
 rintro v G' L' ⟨h1, h2, a, c, n, rfl, _⟩
 exact ⟨h1, h2, a, c, n, by rw [hp]; rfl, trivial⟩
theorem readPath_yes {s : List UInt8} {p : List Int} (h : s.length ≤ 1048576) (hp : pathOf s = some p) : ∀ G, FnS Tryz.prog 35 [S s] G (fun v G' => ∃ a c n, v = Tu [.slice a n c, Bo true] ∧ n = p.length ∧ SlV G' (.slice a n c) 1 p.length (rows inR p)) := fun G => by
 refine (c_readPath (G := G) h).mono ?_
 rintro v G' L' ⟨h1, h2, a, c, n, rfl, h3⟩
 exact ⟨h1, h2, a, c, n, by rw [hp]; rfl, h3 p hp⟩
theorem c_PathGetI {s k w p : List UInt8} (h1 : s.length ≤ 1048576 ∧ k.length ≤ 1048576 ∧ w.length ≤ 1048576 ∧ p.length ≤ 1048576) : PuG Tryz.prog 14 [S s, S k, S w, S p] G (· = pgR (pathGetV s k w p)) := by
 unfold pathGetV
 cases hg : givenV s k w with
 | none =>
  rw [pgv_none]
  have cx_gi0 := c_given0 (G := G) (s := s) (k := k) (w := w) (by omega) hg
  cases hpo : pathOf p with
  | none =>
   have cx_sp := readPath_no h1.2.2.2 hpo
   refine jB (Post := fun v G' L' => G' = G ∧ L' = [] ∧ _) [(0, _), (1, _), (2, _), (3, _)] Tryz.func14 Tryz.ntmps14 fun B hok hB hW => ?_
   repeat' (first | (refine jR ?_) | (refine k_op rfl ?_; first | refine c_al rfl rfl fun _ => ?_ | refine c_stA rfl rfl rfl rfl rfl rfl ?_ | (refine jV (g_pickT rfl rfl rfl) ?_) | (refine c_fns rfl rfl rfl cx_gi0 rfl ?_; rintro _ G hle ⟨p1, a1, b1, c1, rfl⟩; skip) | (refine c_fns rfl rfl rfl (cx_sp _) rfl ?_; rintro _ G hle ⟨sa, sc, sn, rfl, hsp⟩; skip)) | (refine k_gt rfl rfl rfl ?_) | (refine k_tt rfl rfl ?_))
   all_goals refine Nx.base hok hB ?_
   all_goals refine jZ (vs := [_, _, _]) rfl ⟨rfl, rfl, rfl, trivial⟩ rfl ⟨rfl, rfl, ?_⟩
   all_goals rfl
  | some q =>
   have cx_sp := readPath_yes h1.2.2.2 hpo
   refine jB (Post := fun v G' L' => G' = G ∧ L' = [] ∧ _) [(0, _), (1, _), (2, _), (3, _)] Tryz.func14 Tryz.ntmps14 fun B hok hB hW => ?_
   repeat' (first | (refine jR ?_) | (refine k_op rfl ?_; first | refine c_al rfl rfl fun _ => ?_ | refine c_stA rfl rfl rfl rfl rfl rfl ?_ | (refine jV (g_pickT rfl rfl rfl) ?_) | (refine c_fns rfl rfl rfl cx_gi0 rfl ?_; rintro _ G hle ⟨p1, a1, b1, c1, rfl⟩; skip) | (refine c_fns rfl rfl rfl (cx_sp _) rfl ?_; rintro _ G hle ⟨sa, sc, sn, rfl, hsp⟩; skip)) | (refine k_gt rfl rfl rfl ?_) | (refine k_tt rfl rfl ?_))
   all_goals refine Nx.base hok hB ?_
   all_goals refine jZ (vs := [_, _, _]) rfl ⟨rfl, rfl, rfl, trivial⟩ rfl ⟨rfl, rfl, ?_⟩
   all_goals rfl
 | some u =>
  obtain ⟨ts, hs, hki, hvo, hto, hwf⟩ := given_some hg
  have cx_gi1 := c_given1 (G := G) (s := s) (k := k) (w := w) (by omega) hs hki hvo
  rw [hs]
  cases hpo : pathOf p with
  | none =>
   have cx_sp := readPath_no h1.2.2.2 hpo
   refine jB (Post := fun v G' L' => G' = G ∧ L' = [] ∧ _) [(0, _), (1, _), (2, _), (3, _)] Tryz.func14 Tryz.ntmps14 fun B hok hB hW => ?_
   repeat' (first | (refine jR ?_) | (refine k_op rfl ?_; first | refine c_al rfl rfl fun _ => ?_ | refine c_stA rfl rfl rfl rfl rfl rfl ?_ | (refine jV (g_pickF rfl rfl rfl) ?_) | (refine c_fns rfl rfl rfl cx_gi1 rfl ?_; rintro _ G hle ⟨bg, qg, cv, rfl, hTg, hRg, hrv⟩; skip) | (refine c_fns rfl rfl rfl (cx_sp _) rfl ?_; rintro _ G hle ⟨sa, sc, sn, rfl, hsp⟩; skip)) | (refine k_gf rfl rfl rfl ?_) | (refine k_tt rfl rfl ?_))
   all_goals refine Nx.base hok hB ?_
   all_goals refine jZ (vs := [_, _, _]) rfl ⟨rfl, rfl, rfl, trivial⟩ rfl ⟨rfl, rfl, ?_⟩
   all_goals rfl
  | some q =>
   have cx_sp := readPath_yes h1.2.2.2 hpo
   obtain ⟨hq8, hqn⟩ := pathOf_le hpo
   have hof := valOf_of_k hvo
   have hw := schemaOf_w hs
   dsimp only
   refine jB (Post := fun v G' L' => G' = G ∧ L' = [] ∧ _) [(0, _), (1, _), (2, _), (3, _)] Tryz.func14 Tryz.ntmps14 fun B hok hB hW => ?_
   repeat' (first | (refine jR ?_) | (refine k_op rfl ?_; first | refine c_al rfl rfl fun _ => ?_ | refine c_stA rfl rfl rfl rfl rfl rfl ?_ | (refine jV (g_pickF rfl rfl rfl) ?_) | refine jV (g_ldA rfl rfl rfl rfl) ?_ | (refine c_fns rfl rfl rfl cx_gi1 rfl ?_; rintro _ G hle ⟨bg, qg, cv, rfl, hTg, hRg, hrv⟩; (try have hrv := rep_mono hle hrv); (try have hRg := ScI.mono hRg hle)) | (refine c_fns rfl rfl rfl (cx_sp _) rfl ?_; rintro _ G hle ⟨sa, sc, sn, rfl, hsp⟩; (try have hrv := rep_mono hle hrv); (try have hRg := ScI.mono hRg hle))) | (refine k_gf rfl rfl rfl ?_) | (refine k_ff rfl rfl ?_))
   obtain ⟨rfl, hsp⟩ := hsp
   subst hTg
   have hfl := c_followI hRg hw hsp hqn (by omega) hrv hof hki (by omega)
   unfold kdF at hfl
   rw [show vcF cv = [U8 (cv.what : Nat), S cv.text, I cv.tag, .slice cv.a cv.n cv.c] from rfl] at hfl
   cases hfo : followV (tyq qg) k u q with
   | none =>
    have cx_fon := StepPI.no hfl hfo
    repeat' (first | (refine jR ?_) | (refine k_op rfl ?_; first | refine c_stA rfl rfl rfl rfl rfl rfl ?_ | (refine c_fns rfl rfl rfl cx_fon rfl ?_; rintro _ G hle rfl; skip)) | (refine k_tt rfl rfl ?_))
    all_goals refine Nx.base hok hB ?_
    all_goals refine jZ (vs := [_, _, _]) rfl ⟨rfl, rfl, rfl, trivial⟩ rfl ⟨rfl, rfl, ?_⟩
    all_goals rfl
   | some y =>
    obtain ⟨k1, v1⟩ := y
    have cx_foy := StepPI.yes hfl hfo
    have g3 := followV_tot hw hof hki (fun n hn => (hqn n hn).1) hfo (N := 1000000) (by omega) (by omega)
    obtain ⟨_, hk1⟩ := followV_ok hw hof hki (fun n hn => (hqn n hn).1) hfo
    repeat' (first | (refine jR ?_) | (refine k_op rfl ?_; first | refine c_stA rfl rfl rfl rfl rfl rfl ?_ | (refine c_fns rfl rfl rfl cx_foy rfl ?_; rintro _ G hle ⟨cv, rfl, hrv⟩; skip)) | (refine k_ff rfl rfl ?_))
    have cx_txt := c_textI (G := G) (kindIn_ok hk1)
    have cx_pr := c_print (G := G) (c := cv) v1.tot (Nat.le_refl _) g3 hrv
    unfold kdF at cx_txt
    rw [show vcF cv = [U8 (cv.what : Nat), S cv.text, I cv.tag, .slice cv.a cv.n cv.c] from rfl] at cx_pr
    rename_i y12 y13 _ _ _ _
    (refine k_any (s_any (id := 8) _ (fun _ h => h) mixed ?_); (refine jG (bts 7 1) 0 rfl (g_ldA rfl rfl rfl rfl) ?_); (refine jG (bts 7 5) 2 rfl (g_ldA rfl rfl rfl rfl) ?_); refine jA 1 rfl ?_; (refine c_rt rfl rfl rfl cx_txt rfl ?_); refine jS (bts 7 7) ?_; refine jA 3 rfl ?_; (refine c_rt rfl rfl rfl cx_pr rfl ?_); refine jS (bts 7 15) ?_; refine jT 0 [4, 5, 6] (bts 7 127) ?_; refine x_done (by kernel_rfl) (k_bk ?_))
    all_goals repeat' (refine jR ?_)
    all_goals trace_state
    all_goals refine Nx.base hok hB ?_
    all_goals refine jZ (vs := [_, _, _]) rfl ⟨rfl, rfl, rfl, trivial⟩ rfl ⟨rfl, rfl, ?_⟩
    all_goals rfl
end Go.E
namespace Go.E
set_option maxRecDepth 20000
set_option maxHeartbeats 2000000
open Go.Proofs
variable {G : Gh}
theorem c_FnExactPathGet {s k w x : List UInt8} (h : s.length ≤ 9223372036854775807 ∧ k.length ≤ 9223372036854775807 ∧ w.length ≤ 9223372036854775807 ∧ x.length ≤ 9223372036854775807) : PuG Tryz.prog 4 [S s, S k, S w, S x] G (· = Bo true) := by
 by_cases h1 : s.length ≤ 1048576 ∧ k.length ≤ 1048576 ∧ w.length ≤ 1048576 ∧ x.length ≤ 1048576
 ·have cx_ss1 := c_PathGetI (G := G) h1
  have cx_ss2 := c_PathGetS (G := G) h1
  unfold pgR at cx_ss1 cx_ss2
  generalize ((pathGetV s k w x).map (·.1)).getD [] = o1 at *
  generalize ((pathGetV s k w x).map (·.2)).getD [] = o2 at *
  generalize (pathGetV s k w x).isSome = o3 at *
  refine jE [(0, _), (1, _), (2, _), (3, _)] Tryz.func4 Tryz.ntmps4 fun B hB => ?_
  repeat' (first | (refine jR ?_) | (refine k_op rfl ?_; first | (refine jV (g_pickF rfl rfl rfl) ?_) | (refine c_rt rfl rfl rfl cx_ss2 rfl ?_) | (refine c_rt rfl rfl rfl cx_ss1 rfl ?_)) | (refine k_gf rfl rfl ?_ ?_; (focus ((simp [*]; done); done))) | (refine k_ff rfl ?_ ?_; (focus ((first | (refine decide_eq_false ?_; (omega)) | (simp [*]; done)); done))))
  all_goals refine jZ (vs := [_]) rfl ⟨rfl, trivial⟩ rfl ⟨rfl, rfl, ?_⟩
  all_goals rfl
 ·by_cases ha : s.length ≤ 1048576
  case neg =>
   refine jE [(0, _), (1, _), (2, _), (3, _)] Tryz.func4 Tryz.ntmps4 fun B hB => ?_
   repeat' (first | (refine jR ?_) | (refine k_tt rfl (dTt (by omega)) ?_))
   refine jZ (vs := [_]) rfl ⟨rfl, trivial⟩ rfl ⟨rfl, rfl, ?_⟩
   rfl
  by_cases hb : k.length ≤ 1048576
  case neg =>
   refine jE [(0, _), (1, _), (2, _), (3, _)] Tryz.func4 Tryz.ntmps4 fun B hB => ?_
   repeat' (first | (refine jR ?_) | (refine k_tt rfl (dTt (by omega)) ?_) | (refine k_ff rfl (dFf (by omega)) ?_))
   refine jZ (vs := [_]) rfl ⟨rfl, trivial⟩ rfl ⟨rfl, rfl, ?_⟩
   rfl
  by_cases hc : w.length ≤ 1048576
  case neg =>
   refine jE [(0, _), (1, _), (2, _), (3, _)] Tryz.func4 Tryz.ntmps4 fun B hB => ?_
   repeat' (first | (refine jR ?_) | (refine k_tt rfl (dTt (by omega)) ?_) | (refine k_ff rfl (dFf (by omega)) ?_))
   refine jZ (vs := [_]) rfl ⟨rfl, trivial⟩ rfl ⟨rfl, rfl, ?_⟩
   rfl
  have hd : ¬ x.length ≤ 1048576 := fun hd => h1 ⟨ha, hb, hc, hd⟩
  refine jE [(0, _), (1, _), (2, _), (3, _)] Tryz.func4 Tryz.ntmps4 fun B hB => ?_
  repeat' (first | (refine jR ?_) | (refine k_tt rfl (dTt (by omega)) ?_) | (refine k_ff rfl (dFf (by omega)) ?_))
  refine jZ (vs := [_]) rfl ⟨rfl, trivial⟩ rfl ⟨rfl, rfl, ?_⟩
  rfl
end Go.E
