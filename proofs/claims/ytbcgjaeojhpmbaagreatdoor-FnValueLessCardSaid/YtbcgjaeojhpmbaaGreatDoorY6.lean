/- Contracts and plain laws that the statement rests on, part 6. Conditions: as each says. -/
import Derived.Test.YtbcgjaeojhpmbaaGreatDoorY5
set_option linter.unusedVariables false
set_option linter.unusedSimpArgs false
namespace Go.E
set_option maxRecDepth 20000
set_option maxHeartbeats 2000000
open Go.Proofs
variable {G : Gh}
theorem c_l13Sign {n m : Int} : PuG Tryz.prog 79 [I n, I m] G (· = I (sgn n m)) := by
 unfold sgn
 rcases Int.lt_trichotomy n m with h | h | h
 ·rw [if_pos h]
  refine jE [(0, _), (1, _)] Tryz.func79 Tryz.ntmps79 fun B hB => ?_
  repeat' (first | (refine jR ?_) | (refine k_tt rfl (dTt ‹_›) ?_))
  refine jZ (vs := [_]) rfl ⟨rfl, trivial⟩ rfl ⟨rfl, rfl, ?_⟩
  rfl
 ·rw [if_neg (by omega), if_neg (by omega)]
  refine jE [(0, _), (1, _)] Tryz.func79 Tryz.ntmps79 fun B hB => ?_
  repeat' (first | (refine jR ?_) | (refine k_ff rfl (dFf (by omega)) ?_))
  refine jZ (vs := [_]) rfl ⟨rfl, trivial⟩ rfl ⟨rfl, rfl, ?_⟩
  rfl
 ·rw [if_neg (by omega), if_pos h]
  refine jE [(0, _), (1, _)] Tryz.func79 Tryz.ntmps79 fun B hB => ?_
  repeat' (first | (refine jR ?_) | (refine k_tt rfl (dTt ‹_›) ?_) | (refine k_ff rfl (dFf (by omega)) ?_))
  refine jZ (vs := [_]) rfl ⟨rfl, trivial⟩ rfl ⟨rfl, rfl, ?_⟩
  rfl
theorem c_l13T {s t x y : List UInt8} (hs : (∃ c r, s = c :: r ∧ c.toNat ≠ 39 ∧ s = x ∧ t = y) ∨ (s = 39 :: (x ++ [39]) ∧ t = 39 :: (y ++ [39]))) (hx : x.length ≤ 100000 ∧ y.length ≤ 100000) : PuG Tryz.prog 80 [S s, S t] G (· = I (cmpB x y)) := by
 unfold cmpB
 have h3 : Op.bytesLess x y = false → (!(Op.bytesLess x y || decide (x = y))) = Op.bytesLess y x := fun h1 => by
  cases h2 : Op.bytesLess y x
  ·obtain rfl := bl_tot h1 h2; simp
  ·have : ¬ x = y := by rintro rfl; rw [h1] at h2; cases h2
   simp [h1, this]
 rcases hs with ⟨c, r, rfl, hc, rfl, rfl⟩ | ⟨rfl, rfl⟩
 ·have hb : bt (c :: r) (Int.toNat 0) ≠ 39 := by rw [show Int.toNat 0 = 0 from rfl, bt_zero]; exact hc
  have hl : (c :: r).length = r.length + 1 := rfl
  cases h1 : Op.bytesLess (c :: r) t
  ·have h4 := h3 h1
   cases h2 : Op.bytesLess t (c :: r)
   all_goals
    rw [h2] at h4
    clear h3
    refine jE [(0, _), (1, _)] Tryz.func80 Tryz.ntmps80 fun B hB => ?_
    repeat' (first | refine jM ?_ | (refine k_op rfl ?_; (refine jV (g_pickT rfl rfl rfl) ?_)) | (refine k_gt rfl rfl (dTt (by omega)) ?_) | (refine k_tt rfl ‹_› ?_) | (refine k_ff rfl (by first | assumption | (refine decide_eq_false ?_; (omega))) ?_))
    all_goals refine jZ (vs := [_]) rfl ⟨rfl, trivial⟩ rfl ⟨rfl, rfl, ?_⟩
    all_goals rfl
  ·clear h3
   refine jE [(0, _), (1, _)] Tryz.func80 Tryz.ntmps80 fun B hB => ?_
   repeat' (first | refine jM ?_ | (refine k_op rfl ?_; (refine jV (g_pickT rfl rfl rfl) ?_)) | (refine k_gt rfl rfl (dTt (by omega)) ?_) | (refine k_tt rfl ‹_› ?_) | (refine k_ff rfl (dFf (by omega)) ?_))
   all_goals refine jZ (vs := [_]) rfl ⟨rfl, trivial⟩ rfl ⟨rfl, rfl, ?_⟩
   all_goals rfl
 ·have hb : bt (39 :: (x ++ [39])) (Int.toNat 0) = 39 := bt_zero _ _
  have hlx : (39 :: (x ++ [39])).length = x.length + 2 := by simp
  have hly : (39 :: (y ++ [39])).length = y.length + 2 := by simp
  have hdt : ∀ z : List UInt8, ((39 :: (z ++ [39])).take ((((39 :: (z ++ [39])).length : Nat) : Int) - 1).toNat).drop (Int.toNat 1) = z := fun z => by
   rw [show ((((39 :: (z ++ [39])).length : Nat) : Int) - 1).toNat = z.length + 1 by (simp; done), List.take_succ_cons]
   show List.drop 1 _ = z
   rw [List.drop_succ_cons, List.drop_zero, List.take_left]
  have hdx := hdt x
  have hdy := hdt y
  clear hdt
  generalize 39 :: (x ++ [39]) = s at *
  generalize 39 :: (y ++ [39]) = t at *
  refine jE [(0, _), (1, _)] Tryz.func80 Tryz.ntmps80 fun B hB => ?_
  repeat' (first | refine jM ?_ | (refine k_op rfl ?_; (refine jV (g_pickT rfl rfl rfl) ?_)) | (refine k_gt rfl rfl (dTt (by omega)) ?_) | (refine k_tt rfl (dTt (by omega)) ?_) | refine k_cd rfl (fun _ => ?_) (fun _ => ?_))
  all_goals refine jZ (vs := [_]) rfl ⟨rfl, trivial⟩ rfl ⟨rfl, rfl, ?_⟩
  all_goals (rw [hdx, hdy] at *; rw [oneOf_one]; congr 1; simp_all)
theorem c_lessL {c0 : UInt8} {r kb txb : List UInt8} {a b n m : Nat} {KS US : List V} {bs cs : List Nat} {ak bk : Option Addr} {ck dk : Nat} (hc : c0.toNat = 91 ∨ c0.toNat = 63) (hn : n = KS.length) (hm : m = US.length) (hn9 : n ≤ 100000 ∧ m ≤ 100000)
  (ha : Seg G a 0 [S (c0 :: r), S [], nilS, .slice ak n ck]) (hb : Seg G b 0 [S kb, S txb, nilS, .slice bk m dk]) (h1 : SlV G (.slice ak n ck) 1 n (rows ptR bs)) (h2 : SlV G (.slice bk m dk) 1 m (rows ptR cs)) (hbl : bs.length = n) (hcl : cs.length = m)
  (ih : ∀ i, i < n → i < m → PuG Tryz.prog 42 [Pt (nth bs i) 0, Pt (nth cs i) 0] G (· = I (V.cmp (nth KS i) (nth US i)))) :
  PuG Tryz.prog 42 [Pt a 0, Pt b 0] G (· = I (V.cmps KS US)) := by
 have hk0 : bt (c0 :: r) (Int.toNat 0) = 91 ∨ bt (c0 :: r) (Int.toNat 0) = 63 := hc
 have hlx : (c0 :: r).length = r.length + 1 := rfl
 generalize c0 :: r = kk at *
 refine jE [(0, _), (1, _)] Tryz.func42 Tryz.ntmps42 fun B hB => ?_
 repeat' (first | refine jM ?_ | (refine k_op rfl ?_; (refine jV (g_ldS rfl rfl (by assumption) rfl rfl) ?_)) | (refine k_ff rfl (dFf (by omega)) ?_))
 refine k_loop (ι := Nat) (fun i => i ≤ n ∧ i ≤ m ∧ V.cmps KS US = V.cmps (KS.drop i) (US.drop i)) (fun i => [(0, Pt a 0), (1, Pt b 0), (9, I i)]) (fun _ => G) (fun i => []) (fun i => n - i) 0 ?_ (by repeat' constructor) rfl sRr (fun i Hi => ?_)
 ·exact ⟨Nat.zero_le _, Nat.zero_le _, rfl⟩
 obtain ⟨hi0, hj0, he⟩ := Hi
 by_cases hi : i < n
 ·by_cases hj : i < m
  ·have cx_less := ih i hi hj
   have hst := cmps_step (ks := KS) (us := US) (i := i) (by omega) (by omega)
   have hx1 : nth bs i = nth bs i := rfl
   have hx2 : nth cs i = nth cs i := rfl
   obtain ⟨b1, o1, c1, e, hs1⟩ := h1.expl (by omega)
   simp only [Value.slice.injEq] at e
   obtain ⟨rfl, -, rfl⟩ := e
   obtain ⟨b2, o2, c2, e, hs2⟩ := h2.expl (by omega)
   simp only [Value.slice.injEq] at e
   obtain ⟨rfl, -, rfl⟩ := e
   by_cases h0 : V.cmp (nth KS i) (nth US i) = 0
   ·rw [if_neg (by simpa using h0)] at hst
    repeat' (first | refine jM ?_ | (refine k_op rfl ?_; first | refine jV (g_ldS rfl rfl (by assumption) rfl rfl) ?_ | refine jV (g_lenL rfl) ?_ | (refine jV (g_pickT rfl rfl rfl) ?_) | (refine jV (g_pickF rfl rfl rfl) ?_)) | (refine k_gt rfl rfl rfl ?_) | (refine k_gf rfl rfl rfl ?_) | (refine k_tt rfl (dTt (by omega)) ?_) | (refine k_ff rfl (by first | rfl | (refine decide_eq_false ?_; (omega))) ?_) | (refine k_any (s_any (id := 19) _ (fun _ h => h) mixed ?_); refine jT 8 [0, 1, 2, 4, 7, 8, 9, 11] (bts 16 2967) ?_; (refine jG (bts 16 2975) 3 rfl (g_ldS rfl rfl (by assumption) rfl rfl) ?_); (refine jG (bts 16 3007) 5 rfl (g_iaddrN rfl rfl (by omega)) ?_); ((refine jG (bts 16 3071) 6 rfl (g_ldR1x rfl rfl (by assumption) ?_ (by assumption) rfl) ?_; (focus ((omega); done)))); (refine jG (bts 16 4095) 10 rfl (g_ldS rfl rfl (by assumption) rfl rfl) ?_); (refine jG (bts 16 8191) 12 rfl (g_iaddrN rfl rfl (by omega)) ?_); ((refine jG (bts 16 16383) 13 rfl (g_ldR1x rfl rfl (by assumption) ?_ (by assumption) rfl) ?_; (focus ((omega); done)))); refine jA 14 rfl ?_; (refine c_rt rfl rfl rfl cx_less rfl ?_); refine jS (bts 16 32767) ?_; refine jT 0 [15] (bts 16 65535) ?_; refine x_done (by kernel_rfl) (k_bk ?_)))
    exact k_rd (i + 1) ⟨by omega, by omega, he.trans hst⟩ (by omega) (by repeat' constructor) rfl sRr
   ·rw [if_pos h0] at hst
    repeat' (first | (refine jR ?_) | (refine k_op rfl ?_; first | refine jV (g_ldS rfl rfl (by assumption) rfl rfl) ?_ | refine jV (g_lenL rfl) ?_ | (refine jV (g_pickT rfl rfl rfl) ?_) | (refine jV (g_pickF rfl rfl rfl) ?_)) | (refine k_gt rfl rfl rfl ?_) | (refine k_gf rfl rfl rfl ?_) | (refine k_tt rfl (by refine decide_eq_true ?_; first | assumption | omega) ?_) | (refine k_ff rfl (by first | rfl | (refine decide_eq_false ?_; (omega))) ?_) | (refine k_any (s_any (id := 19) _ (fun _ h => h) mixed ?_); refine jT 8 [0, 1, 2, 4, 7, 8, 9, 11] (bts 16 2967) ?_; (refine jG (bts 16 2975) 3 rfl (g_ldS rfl rfl (by assumption) rfl rfl) ?_); (refine jG (bts 16 3007) 5 rfl (g_iaddrN rfl rfl (by omega)) ?_); ((refine jG (bts 16 3071) 6 rfl (g_ldR1x rfl rfl (by assumption) ?_ (by assumption) rfl) ?_; (focus ((omega); done)))); (refine jG (bts 16 4095) 10 rfl (g_ldS rfl rfl (by assumption) rfl rfl) ?_); (refine jG (bts 16 8191) 12 rfl (g_iaddrN rfl rfl (by omega)) ?_); ((refine jG (bts 16 16383) 13 rfl (g_ldR1x rfl rfl (by assumption) ?_ (by assumption) rfl) ?_; (focus ((omega); done)))); refine jA 14 rfl ?_; (refine c_rt rfl rfl rfl cx_less rfl ?_); refine jS (bts 16 32767) ?_; refine jT 0 [15] (bts 16 65535) ?_; refine x_done (by kernel_rfl) (k_bk ?_)))
    refine jZ (vs := [_]) rfl ⟨rfl, trivial⟩ rfl ⟨rfl, rfl, ?_⟩
    rw [oneOf_one, he, hst]
  ·have hst := cmps_end (ks := KS) (us := US) (i := i) (by omega) (by omega)
   repeat' (first | (refine jR ?_) | (refine k_op rfl ?_; first | refine jV (g_ldS rfl rfl (by assumption) rfl rfl) ?_ | refine jV (g_lenL rfl) ?_ | (refine jV (g_pickT rfl rfl rfl) ?_) | (refine jV (g_pickF rfl rfl rfl) ?_)) | (refine k_gt rfl rfl rfl ?_) | (refine k_gf rfl rfl rfl ?_) | (refine k_tt rfl (dTt (by omega)) ?_))
   refine jZ (vs := [_]) rfl ⟨rfl, trivial⟩ rfl ⟨rfl, rfl, ?_⟩
   rw [oneOf_one, he, hst]
 ·have hin : i = n := by omega
  have hst := cmps_nil (ks := KS) (us := US) (i := i) (by omega)
  repeat' (first | (refine jR ?_) | (refine k_op rfl ?_; first | refine jV (g_ldS rfl rfl (by assumption) rfl rfl) ?_ | refine jV (g_lenL rfl) ?_ | (refine jV (g_pickF rfl rfl rfl) ?_)) | (refine k_gf rfl rfl rfl ?_) | (refine k_ff rfl (dFf (by omega)) ?_) | (refine k_any (s_any (id := 22) _ (fun _ h => h) mixed ?_); refine jT 12 [0, 1, 2, 5, 6, 7, 11, 12, 13, 16, 17, 18] (bts 24 473319) ?_; (refine jG (bts 24 473327) 3 rfl (g_ldS rfl rfl (by assumption) rfl rfl) ?_); (refine jG (bts 24 473343) 4 rfl (g_lenL rfl) ?_); (refine jG (bts 24 473599) 8 rfl (g_ldS rfl rfl (by assumption) rfl rfl) ?_); (refine jG (bts 24 474111) 9 rfl (g_lenL rfl) ?_); (refine jG (bts 24 475135) 10 rfl (g_max rfl rfl) ?_); (refine jG (bts 24 491519) 14 rfl (g_ldS rfl rfl (by assumption) rfl rfl) ?_); (refine jG (bts 24 524287) 15 rfl (g_lenL rfl) ?_); (refine jG (bts 24 1048575) 19 rfl (g_ldS rfl rfl (by assumption) rfl rfl) ?_); (refine jG (bts 24 2097151) 20 rfl (g_lenL rfl) ?_); (refine jG (bts 24 4194303) 21 rfl (g_max rfl rfl) ?_); refine jA 22 rfl ?_; (refine c_rt rfl rfl rfl c_l13Sign rfl ?_); refine jS (bts 24 8388607) ?_; refine jT 0 [23] (bts 24 16777215) ?_; refine x_done (by kernel_rfl) (k_bk ?_)))
  refine jZ (vs := [_]) rfl ⟨rfl, trivial⟩ rfl ⟨rfl, rfl, ?_⟩
  rw [oneOf_one, he, hst]
  refine congrArg (Value.int .i64) ?_
  unfold sgn
  split <;> (first | (rw [if_pos (by omega)]; done) | (rw [if_neg (by omega), if_neg (by omega)]; done))
theorem sgn_self (n : Int) : sgn n n = 0 := by unfold sgn; rw [if_neg (by omega), if_neg (by omega)]
theorem sgn_ne {n m : Int} (h : n ≠ m) : sgn n m ≠ 0 := by
 unfold sgn
 split
 ·decide
 ·rw [if_pos (by omega)]; decide
theorem c_lessT {r kb txa txb : List UInt8} {a b n m : Nat} {KS US : List V} {bs cs : List Nat} {tg sg : List Int} {ak bk a2 b2 : Option Addr} {ck dk c2 d2 : Nat} (hn : n = KS.length) (hm : m = US.length) (hn9 : n ≤ 100000 ∧ m ≤ 100000)
  (ha : Seg G a 0 [S (64 :: r), S txa, .slice a2 n c2, .slice ak n ck]) (hb : Seg G b 0 [S kb, S txb, .slice b2 m d2, .slice bk m dk]) (h1 : SlV G (.slice ak n ck) 1 n (rows ptR bs)) (h2 : SlV G (.slice bk m dk) 1 m (rows ptR cs)) (hbl : bs.length = n) (hcl : cs.length = m)
  (h3 : SlV G (.slice a2 n c2) 1 n (rows inR tg)) (h4 : SlV G (.slice b2 m d2) 1 m (rows inR sg)) (htl : tg.length = n) (hsl : sg.length = m)
  (ih : ∀ i, i < n → i < m → (nth tg i ≠ nth sg i ∧ V.cmp (nth KS i) (nth US i) = sgn (nth tg i) (nth sg i)) ∨ (nth tg i = nth sg i ∧ PuG Tryz.prog 42 [Pt (nth bs i) 0, Pt (nth cs i) 0] G (· = I (V.cmp (nth KS i) (nth US i))))) :
  PuG Tryz.prog 42 [Pt a 0, Pt b 0] G (· = I (V.cmps KS US)) := by
 have hk0 : bt (64 :: r) (Int.toNat 0) = 64 := bt_zero 64 r
 have hlx : (64 :: r).length = r.length + 1 := rfl
 generalize 64 :: r = kk at *
 refine jE [(0, _), (1, _)] Tryz.func42 Tryz.ntmps42 fun B hB => ?_
 repeat' (first | refine jM ?_ | (refine k_op rfl ?_; (refine jV (g_ldS rfl rfl (by assumption) rfl rfl) ?_)) | (refine k_ff rfl (dFf (by omega)) ?_))
 refine k_loop (ι := Nat) (fun i => i ≤ n ∧ i ≤ m ∧ V.cmps KS US = V.cmps (KS.drop i) (US.drop i)) (fun i => [(0, Pt a 0), (1, Pt b 0), (9, I i)]) (fun _ => G) (fun i => []) (fun i => n - i) 0 ?_ (by repeat' constructor) rfl sRr (fun i Hi => ?_)
 ·exact ⟨Nat.zero_le _, Nat.zero_le _, rfl⟩
 obtain ⟨hi0, hj0, he⟩ := Hi
 by_cases hi : i < n
 ·by_cases hj : i < m
  ·have hst := cmps_step (ks := KS) (us := US) (i := i) (by omega) (by omega)
   have hx1 : nth bs i = nth bs i := rfl
   have hx2 : nth cs i = nth cs i := rfl
   have hx3 : nth tg i = nth tg i := rfl
   have hx4 : nth sg i = nth sg i := rfl
   obtain ⟨b1, o1, c1, e, hs1⟩ := h1.expl (by omega)
   simp only [Value.slice.injEq] at e
   obtain ⟨rfl, -, rfl⟩ := e
   obtain ⟨b4, o2, c2, e, hs2⟩ := h2.expl (by omega)
   simp only [Value.slice.injEq] at e
   obtain ⟨rfl, -, rfl⟩ := e
   obtain ⟨b5, o3, c3, e, hs3⟩ := h3.expl (by omega)
   simp only [Value.slice.injEq] at e
   obtain ⟨rfl, -, rfl⟩ := e
   obtain ⟨b6, o4, c4, e, hs4⟩ := h4.expl (by omega)
   simp only [Value.slice.injEq] at e
   obtain ⟨rfl, -, rfl⟩ := e
   rcases ih i hi hj with ⟨g1, g2⟩ | ⟨g1, cx_less⟩
   ·have g3 := sgn_ne g1
    rw [if_pos (by rw [g2]; exact g3), g2] at hst
    clear g1 g2
    repeat' (first | (refine jR ?_) | (refine k_op rfl ?_; first | refine jV (g_ldS rfl rfl (by assumption) rfl rfl) ?_ | refine jV (g_lenL rfl) ?_ | (refine jV (g_pickT rfl rfl rfl) ?_) | (refine jV (g_pickF rfl rfl rfl) ?_)) | (refine k_gt rfl rfl (dTt (by omega)) ?_) | (refine k_gf rfl rfl (dFf (by omega)) ?_) | (refine k_tt rfl (by first | rfl | (refine decide_eq_true ?_; first | assumption | omega)) ?_) | (refine k_ff rfl rfl ?_) | (refine k_any (s_any (id := 15) _ (fun _ h => h) mixed ?_); refine jT 8 [0, 1, 2, 4, 7, 8, 9, 11] (bts 16 2967) ?_; (refine jG (bts 16 2975) 3 rfl (g_ldS rfl rfl (by assumption) rfl rfl) ?_); (refine jG (bts 16 3007) 5 rfl (g_iaddrN rfl rfl (by omega)) ?_); ((refine jG (bts 16 3071) 6 rfl (g_ldR1x rfl rfl (by assumption) ?_ (by assumption) rfl) ?_; (focus ((omega); done)))); (refine jG (bts 16 4095) 10 rfl (g_ldS rfl rfl (by assumption) rfl rfl) ?_); (refine jG (bts 16 8191) 12 rfl (g_iaddrN rfl rfl (by omega)) ?_); ((refine jG (bts 16 16383) 13 rfl (g_ldR1x rfl rfl (by assumption) ?_ (by assumption) rfl) ?_; (focus ((omega); done)))); refine jA 14 rfl ?_; (refine c_rt rfl rfl rfl c_l13Sign rfl ?_); refine jS (bts 16 32767) ?_; refine jT 0 [15] (bts 16 65535) ?_; refine x_done (by kernel_rfl) (k_bk ?_)))
    refine jZ (vs := [_]) rfl ⟨rfl, trivial⟩ rfl ⟨rfl, rfl, ?_⟩
    rw [oneOf_one, he, hst]
   ·have g3 : sgn (nth tg i) (nth sg i) = 0 := by rw [g1]; exact sgn_self _
    clear g1
    by_cases h0 : V.cmp (nth KS i) (nth US i) = 0
    ·rw [if_neg (by simpa using h0)] at hst
     repeat' (first | refine jM ?_ | (refine k_op rfl ?_; first | refine jV (g_ldS rfl rfl (by assumption) rfl rfl) ?_ | refine jV (g_lenL rfl) ?_ | (refine jV (g_pickT rfl rfl rfl) ?_) | (refine jV (g_pickF rfl rfl rfl) ?_)) | (refine k_gt rfl rfl (dTt (by omega)) ?_) | (refine k_gf rfl rfl (dFf (by omega)) ?_) | (refine k_tt rfl (by first | rfl | (refine decide_eq_true ?_; (omega))) ?_) | (refine k_ff rfl (by first | rfl | (refine decide_eq_false ?_; (omega))) ?_) | (refine k_any (s_any (id := 15) _ (fun _ h => h) mixed ?_); refine jT 8 [0, 1, 2, 4, 7, 8, 9, 11] (bts 16 2967) ?_; (refine jG (bts 16 2975) 3 rfl (g_ldS rfl rfl (by assumption) rfl rfl) ?_); (refine jG (bts 16 3007) 5 rfl (g_iaddrN rfl rfl (by omega)) ?_); ((refine jG (bts 16 3071) 6 rfl (g_ldR1x rfl rfl (by assumption) ?_ (by assumption) rfl) ?_; (focus ((omega); done)))); (refine jG (bts 16 4095) 10 rfl (g_ldS rfl rfl (by assumption) rfl rfl) ?_); (refine jG (bts 16 8191) 12 rfl (g_iaddrN rfl rfl (by omega)) ?_); ((refine jG (bts 16 16383) 13 rfl (g_ldR1x rfl rfl (by assumption) ?_ (by assumption) rfl) ?_; (focus ((omega); done)))); refine jA 14 rfl ?_; (refine c_rt rfl rfl rfl c_l13Sign rfl ?_); refine jS (bts 16 32767) ?_; refine jT 0 [15] (bts 16 65535) ?_; refine x_done (by kernel_rfl) (k_bk ?_)) | (refine k_any (s_any (id := 19) _ (fun _ h => h) mixed ?_); refine jT 8 [0, 1, 2, 4, 7, 8, 9, 11] (bts 16 2967) ?_; (refine jG (bts 16 2975) 3 rfl (g_ldS rfl rfl (by assumption) rfl rfl) ?_); (refine jG (bts 16 3007) 5 rfl (g_iaddrN rfl rfl (by omega)) ?_); ((refine jG (bts 16 3071) 6 rfl (g_ldR1x rfl rfl (by assumption) ?_ (by assumption) rfl) ?_; (focus ((omega); done)))); (refine jG (bts 16 4095) 10 rfl (g_ldS rfl rfl (by assumption) rfl rfl) ?_); (refine jG (bts 16 8191) 12 rfl (g_iaddrN rfl rfl (by omega)) ?_); ((refine jG (bts 16 16383) 13 rfl (g_ldR1x rfl rfl (by assumption) ?_ (by assumption) rfl) ?_; (focus ((omega); done)))); refine jA 14 rfl ?_; (refine c_rt rfl rfl rfl cx_less rfl ?_); refine jS (bts 16 32767) ?_; refine jT 0 [15] (bts 16 65535) ?_; refine x_done (by kernel_rfl) (k_bk ?_)))
     exact k_rd (i + 1) ⟨by omega, by omega, he.trans hst⟩ (by omega) (by repeat' constructor) rfl sRr
    ·rw [if_pos h0] at hst
     repeat' (first | (refine jR ?_) | (refine k_op rfl ?_; first | refine jV (g_ldS rfl rfl (by assumption) rfl rfl) ?_ | refine jV (g_lenL rfl) ?_ | (refine jV (g_pickT rfl rfl rfl) ?_) | (refine jV (g_pickF rfl rfl rfl) ?_)) | (refine k_gt rfl rfl (dTt (by omega)) ?_) | (refine k_gf rfl rfl (dFf (by omega)) ?_) | (refine k_tt rfl (by first | rfl | (refine decide_eq_true ?_; first | assumption | omega)) ?_) | (refine k_ff rfl (by first | rfl | (refine decide_eq_false ?_; (omega))) ?_) | (refine k_any (s_any (id := 15) _ (fun _ h => h) mixed ?_); refine jT 8 [0, 1, 2, 4, 7, 8, 9, 11] (bts 16 2967) ?_; (refine jG (bts 16 2975) 3 rfl (g_ldS rfl rfl (by assumption) rfl rfl) ?_); (refine jG (bts 16 3007) 5 rfl (g_iaddrN rfl rfl (by omega)) ?_); ((refine jG (bts 16 3071) 6 rfl (g_ldR1x rfl rfl (by assumption) ?_ (by assumption) rfl) ?_; (focus ((omega); done)))); (refine jG (bts 16 4095) 10 rfl (g_ldS rfl rfl (by assumption) rfl rfl) ?_); (refine jG (bts 16 8191) 12 rfl (g_iaddrN rfl rfl (by omega)) ?_); ((refine jG (bts 16 16383) 13 rfl (g_ldR1x rfl rfl (by assumption) ?_ (by assumption) rfl) ?_; (focus ((omega); done)))); refine jA 14 rfl ?_; (refine c_rt rfl rfl rfl c_l13Sign rfl ?_); refine jS (bts 16 32767) ?_; refine jT 0 [15] (bts 16 65535) ?_; refine x_done (by kernel_rfl) (k_bk ?_)) | (refine k_any (s_any (id := 19) _ (fun _ h => h) mixed ?_); refine jT 8 [0, 1, 2, 4, 7, 8, 9, 11] (bts 16 2967) ?_; (refine jG (bts 16 2975) 3 rfl (g_ldS rfl rfl (by assumption) rfl rfl) ?_); (refine jG (bts 16 3007) 5 rfl (g_iaddrN rfl rfl (by omega)) ?_); ((refine jG (bts 16 3071) 6 rfl (g_ldR1x rfl rfl (by assumption) ?_ (by assumption) rfl) ?_; (focus ((omega); done)))); (refine jG (bts 16 4095) 10 rfl (g_ldS rfl rfl (by assumption) rfl rfl) ?_); (refine jG (bts 16 8191) 12 rfl (g_iaddrN rfl rfl (by omega)) ?_); ((refine jG (bts 16 16383) 13 rfl (g_ldR1x rfl rfl (by assumption) ?_ (by assumption) rfl) ?_; (focus ((omega); done)))); refine jA 14 rfl ?_; (refine c_rt rfl rfl rfl cx_less rfl ?_); refine jS (bts 16 32767) ?_; refine jT 0 [15] (bts 16 65535) ?_; refine x_done (by kernel_rfl) (k_bk ?_)))
     refine jZ (vs := [_]) rfl ⟨rfl, trivial⟩ rfl ⟨rfl, rfl, ?_⟩
     rw [oneOf_one, he, hst]
  ·have hst := cmps_end (ks := KS) (us := US) (i := i) (by omega) (by omega)
   repeat' (first | (refine jR ?_) | (refine k_op rfl ?_; first | refine jV (g_ldS rfl rfl (by assumption) rfl rfl) ?_ | refine jV (g_lenL rfl) ?_ | (refine jV (g_pickT rfl rfl rfl) ?_)) | (refine k_gt rfl rfl (dTt (by omega)) ?_) | (refine k_tt rfl (by first | rfl | (refine decide_eq_true ?_; (omega))) ?_))
   refine jZ (vs := [_]) rfl ⟨rfl, trivial⟩ rfl ⟨rfl, rfl, ?_⟩
   rw [oneOf_one, he, hst]
 ·have hin : i = n := by omega
  have hst := cmps_nil (ks := KS) (us := US) (i := i) (by omega)
  repeat' (first | (refine jR ?_) | (refine k_op rfl ?_; first | refine jV (g_ldS rfl rfl (by assumption) rfl rfl) ?_ | refine jV (g_lenL rfl) ?_ | (refine jV (g_pickF rfl rfl rfl) ?_)) | (refine k_gf rfl rfl (dFf (by omega)) ?_) | (refine k_ff rfl (dFf (by omega)) ?_) | (refine k_any (s_any (id := 22) _ (fun _ h => h) mixed ?_); refine jT 12 [0, 1, 2, 5, 6, 7, 11, 12, 13, 16, 17, 18] (bts 24 473319) ?_; (refine jG (bts 24 473327) 3 rfl (g_ldS rfl rfl (by assumption) rfl rfl) ?_); (refine jG (bts 24 473343) 4 rfl (g_lenL rfl) ?_); (refine jG (bts 24 473599) 8 rfl (g_ldS rfl rfl (by assumption) rfl rfl) ?_); (refine jG (bts 24 474111) 9 rfl (g_lenL rfl) ?_); (refine jG (bts 24 475135) 10 rfl (g_max rfl rfl) ?_); (refine jG (bts 24 491519) 14 rfl (g_ldS rfl rfl (by assumption) rfl rfl) ?_); (refine jG (bts 24 524287) 15 rfl (g_lenL rfl) ?_); (refine jG (bts 24 1048575) 19 rfl (g_ldS rfl rfl (by assumption) rfl rfl) ?_); (refine jG (bts 24 2097151) 20 rfl (g_lenL rfl) ?_); (refine jG (bts 24 4194303) 21 rfl (g_max rfl rfl) ?_); refine jA 22 rfl ?_; (refine c_rt rfl rfl rfl c_l13Sign rfl ?_); refine jS (bts 24 8388607) ?_; refine jT 0 [23] (bts 24 16777215) ?_; refine x_done (by kernel_rfl) (k_bk ?_)))
  refine jZ (vs := [_]) rfl ⟨rfl, trivial⟩ rfl ⟨rfl, rfl, ?_⟩
  rw [oneOf_one, he, hst]
  refine congrArg (Value.int .i64) ?_
  unfold sgn
  split <;> (first | (rw [if_pos (by omega)]; done) | (rw [if_neg (by omega), if_neg (by omega)]; done))
theorem c_lessE {r kb txa txb : List UInt8} {a b pa pb : Nat} {t t' : Int} (ha : Seg G a 0 [S (64 :: r), S txa, .slice (some ⟨pa, 0, none⟩) 1 1, nilS]) (hb : Seg G b 0 [S kb, S txb, .slice (some ⟨pb, 0, none⟩) 1 1, nilS]) (h1 : Seg G pa 0 [I t]) (h2 : Seg G pb 0 [I t']) :
  PuG Tryz.prog 42 [Pt a 0, Pt b 0] G (· = I (sgn t t')) := by
 have hk0 : bt (64 :: r) (Int.toNat 0) = 64 := bt_zero 64 r
 have hlx : (64 :: r).length = r.length + 1 := rfl
 generalize 64 :: r = kk at *
 refine jE [(0, _), (1, _)] Tryz.func42 Tryz.ntmps42 fun B hB => ?_
 repeat' (first | refine jM ?_ | (refine k_op rfl ?_; (refine jV (g_ldS rfl rfl (by assumption) rfl rfl) ?_)) | (refine k_ff rfl (dFf (by omega)) ?_))
 refine k_loop (ι := Nat) (fun i => i = 0 ∨ i = 1 ∧ t = t') (fun i => [(0, Pt a 0), (1, Pt b 0), (9, I i)]) (fun _ => G) (fun i => []) (fun i => 1 - i) 0 ?_ (by repeat' constructor) rfl sRr (fun i Hi => ?_)
 ·exact .inl rfl
 rcases Hi with rfl | ⟨rfl, rfl⟩
 ·by_cases ht : t = t'
  ·subst ht
   have g3 := sgn_self t
   repeat' (first | refine jM ?_ | (refine k_op rfl ?_; first | refine jV (g_ldS rfl rfl (by assumption) rfl rfl) ?_ | refine jV (g_lenL rfl) ?_ | (refine jV (g_pickT rfl rfl rfl) ?_) | (refine jV (g_pickF rfl rfl rfl) ?_)) | (refine k_gt rfl rfl rfl ?_) | (refine k_gf rfl rfl rfl ?_) | (refine k_tt rfl rfl ?_) | (refine k_ff rfl (by first | rfl | (refine decide_eq_false ?_; (omega))) ?_) | (refine k_any (s_any (id := 15) _ (fun _ h => h) mixed ?_); refine jT 8 [0, 1, 2, 4, 7, 8, 9, 11] (bts 16 2967) ?_; (refine jG (bts 16 2975) 3 rfl (g_ldS rfl rfl (by assumption) rfl rfl) ?_); (refine jG (bts 16 3007) 5 rfl (g_iaddrN rfl rfl (by omega)) ?_); (refine jG (bts 16 3071) 6 rfl (g_ldS rfl rfl (by assumption) rfl rfl) ?_); (refine jG (bts 16 4095) 10 rfl (g_ldS rfl rfl (by assumption) rfl rfl) ?_); (refine jG (bts 16 8191) 12 rfl (g_iaddrN rfl rfl (by omega)) ?_); (refine jG (bts 16 16383) 13 rfl (g_ldS rfl rfl (by assumption) rfl rfl) ?_); refine jA 14 rfl ?_; (refine c_rt rfl rfl rfl c_l13Sign rfl ?_); refine jS (bts 16 32767) ?_; refine jT 0 [15] (bts 16 65535) ?_; refine x_done (by kernel_rfl) (k_bk ?_)))
   exact k_rd 1 (.inr ⟨rfl, rfl⟩) (by omega) (by repeat' constructor) rfl sRr
  ·have g3 := sgn_ne ht
   repeat' (first | (refine jR ?_) | (refine k_op rfl ?_; first | refine jV (g_ldS rfl rfl (by assumption) rfl rfl) ?_ | refine jV (g_lenL rfl) ?_ | (refine jV (g_pickT rfl rfl rfl) ?_) | (refine jV (g_pickF rfl rfl rfl) ?_)) | (refine k_gt rfl rfl rfl ?_) | (refine k_gf rfl rfl rfl ?_) | (refine k_tt rfl (by first | rfl | (refine decide_eq_true ?_; (assumption))) ?_) | (refine k_ff rfl rfl ?_) | (refine k_any (s_any (id := 15) _ (fun _ h => h) mixed ?_); refine jT 8 [0, 1, 2, 4, 7, 8, 9, 11] (bts 16 2967) ?_; (refine jG (bts 16 2975) 3 rfl (g_ldS rfl rfl (by assumption) rfl rfl) ?_); (refine jG (bts 16 3007) 5 rfl (g_iaddrN rfl rfl (by omega)) ?_); (refine jG (bts 16 3071) 6 rfl (g_ldS rfl rfl (by assumption) rfl rfl) ?_); (refine jG (bts 16 4095) 10 rfl (g_ldS rfl rfl (by assumption) rfl rfl) ?_); (refine jG (bts 16 8191) 12 rfl (g_iaddrN rfl rfl (by omega)) ?_); (refine jG (bts 16 16383) 13 rfl (g_ldS rfl rfl (by assumption) rfl rfl) ?_); refine jA 14 rfl ?_; (refine c_rt rfl rfl rfl c_l13Sign rfl ?_); refine jS (bts 16 32767) ?_; refine jT 0 [15] (bts 16 65535) ?_; refine x_done (by kernel_rfl) (k_bk ?_)))
   refine jZ (vs := [_]) rfl ⟨rfl, trivial⟩ rfl ⟨rfl, rfl, ?_⟩
   rw [oneOf_one]
 ·repeat' (first | (refine jR ?_) | (refine k_op rfl ?_; first | refine jV (g_ldS rfl rfl (by assumption) rfl rfl) ?_ | refine jV (g_lenL rfl) ?_ | (refine jV (g_pickF rfl rfl rfl) ?_)) | (refine k_gf rfl rfl rfl ?_) | (refine k_ff rfl rfl ?_) | (refine k_any (s_any (id := 22) _ (fun _ h => h) mixed ?_); refine jT 12 [0, 1, 2, 5, 6, 7, 11, 12, 13, 16, 17, 18] (bts 24 473319) ?_; (refine jG (bts 24 473327) 3 rfl (g_ldS rfl rfl (by assumption) rfl rfl) ?_); (refine jG (bts 24 473343) 4 rfl (g_lenL rfl) ?_); (refine jG (bts 24 473599) 8 rfl (g_ldS rfl rfl (by assumption) rfl rfl) ?_); (refine jG (bts 24 474111) 9 rfl (g_lenL rfl) ?_); (refine jG (bts 24 475135) 10 rfl (g_max rfl rfl) ?_); (refine jG (bts 24 491519) 14 rfl (g_ldS rfl rfl (by assumption) rfl rfl) ?_); (refine jG (bts 24 524287) 15 rfl (g_lenL rfl) ?_); (refine jG (bts 24 1048575) 19 rfl (g_ldS rfl rfl (by assumption) rfl rfl) ?_); (refine jG (bts 24 2097151) 20 rfl (g_lenL rfl) ?_); (refine jG (bts 24 4194303) 21 rfl (g_max rfl rfl) ?_); refine jA 22 rfl ?_; (refine c_rt rfl rfl rfl c_l13Sign rfl ?_); refine jS (bts 24 8388607) ?_; refine jT 0 [23] (bts 24 16777215) ?_; refine x_done (by kernel_rfl) (k_bk ?_)))
  refine jZ (vs := [_]) rfl ⟨rfl, trivial⟩ rfl ⟨rfl, rfl, ?_⟩
  rw [oneOf_one, sgn_self, sgn_self]
theorem c_lessF {a b : Nat} {x y ka kb tx ty : List UInt8} (h : (ka = [110] ∧ kb = [110] ∧ False) ∨ (ka = [116] ∧ kb = [116] ∧ tx = 39 :: (x ++ [39]) ∧ ty = 39 :: (y ++ [39])) ∨ (ka = [102] ∧ kb = [102] ∧ tx = x ∧ ty = y ∧ (x = [121, 101, 115] ∨ x = [110, 111]))) (hl : x.length ≤ 100000 ∧ y.length ≤ 100000)
  (ha : Seg G a 0 [S ka, S tx, nilS, nilS]) (hb : Seg G b 0 [S kb, S ty, nilS, nilS]) : PuG Tryz.prog 42 [Pt a 0, Pt b 0] G (· = I (cmpB x y)) := by
 rcases h with ⟨_, _, h⟩ | ⟨rfl, rfl, h3, h4⟩ | ⟨rfl, rfl, rfl, rfl, h5⟩
 ·exact h.elim
 ·have cx_l13t := c_l13T (G := G) (s := tx) (t := ty) (x := x) (y := y) (.inr ⟨h3, h4⟩) hl
  clear h3 h4
  refine jE [(0, _), (1, _)] Tryz.func42 Tryz.ntmps42 fun B hB => ?_
  repeat' (first | (refine run (t := tb) 400 rfl ?_ ?_; (focus (repeat' (first | exact trivial | apply And.intro | omega | (simp only [List.length_append, List.length_cons, List.length_nil, Int.toNat_natCast]; omega))))) | (refine k_op rfl ?_; (refine jV (g_ldS rfl rfl (by assumption) rfl rfl) ?_)) | (refine k_tt rfl rfl ?_) | (refine k_ff rfl rfl ?_) | (refine k_any (s_any (id := 8) _ (fun _ h => h) mixed ?_); refine jT 4 [0, 1, 2, 4, 5, 6] (bts 10 119) ?_; (refine jG (bts 10 127) 3 rfl (g_ldS rfl rfl (by assumption) rfl rfl) ?_); (refine jG (bts 10 255) 7 rfl (g_ldS rfl rfl (by assumption) rfl rfl) ?_); refine jA 8 rfl ?_; (refine c_rt rfl rfl rfl cx_l13t rfl ?_); refine jS (bts 10 511) ?_; refine jT 0 [9] (bts 10 1023) ?_; refine x_done (by kernel_rfl) (k_bk ?_)))
  refine jZ (vs := [_]) rfl ⟨rfl, trivial⟩ rfl ⟨rfl, rfl, ?_⟩
  rfl
 ·have cx_l13t := c_l13T (G := G) (s := tx) (t := ty) (x := tx) (y := ty) (.inl (by rcases h5 with rfl | rfl; exact ⟨121, _, rfl, by decide, rfl, rfl⟩; exact ⟨110, _, rfl, by decide, rfl, rfl⟩)) hl
  clear h5
  refine jE [(0, _), (1, _)] Tryz.func42 Tryz.ntmps42 fun B hB => ?_
  repeat' (first | (refine run (t := tb) 400 rfl ?_ ?_; (focus (repeat' (first | exact trivial | apply And.intro | omega | (simp only [List.length_append, List.length_cons, List.length_nil, Int.toNat_natCast]; omega))))) | (refine k_op rfl ?_; (refine jV (g_ldS rfl rfl (by assumption) rfl rfl) ?_)) | (refine k_tt rfl rfl ?_) | (refine k_ff rfl rfl ?_) | (refine k_any (s_any (id := 8) _ (fun _ h => h) mixed ?_); refine jT 4 [0, 1, 2, 4, 5, 6] (bts 10 119) ?_; (refine jG (bts 10 127) 3 rfl (g_ldS rfl rfl (by assumption) rfl rfl) ?_); (refine jG (bts 10 255) 7 rfl (g_ldS rfl rfl (by assumption) rfl rfl) ?_); refine jA 8 rfl ?_; (refine c_rt rfl rfl rfl cx_l13t rfl ?_); refine jS (bts 10 511) ?_; refine jT 0 [9] (bts 10 1023) ?_; refine x_done (by kernel_rfl) (k_bk ?_)))
  refine jZ (vs := [_]) rfl ⟨rfl, trivial⟩ rfl ⟨rfl, rfl, ?_⟩
  rfl
theorem c_lessN {a b : Nat} {x y : List UInt8} {p q : Int} (hl : x.length ≤ 100000 ∧ y.length ≤ 100000) (h1 : numOf x 999999 = some p) (h2 : numOf y 999999 = some q)
  (ha : Seg G a 0 [S [110], S x, nilS, nilS]) (hb : Seg G b 0 [S [110], S y, nilS, nilS]) : PuG Tryz.prog 42 [Pt a 0, Pt b 0] G (· = I (sgn p q)) := by
 have hp : ∀ {x : List UInt8} {p : Int}, x.length ≤ 100000 → numOf x 999999 = some p → PuG Tryz.prog 78 [S x, I 999999] G (· = Tu [I p, Bo true]) := fun hl h => by
  refine (c_l3Num (G := G) (by omega)).mono ?_
  rintro v G' L' ⟨g1, g2, n, rfl, h4⟩
  exact ⟨g1, g2, by rw [h4 _ h, h]; rfl⟩
 have cx_num := hp hl.1 h1
 clear hp
 refine jE [(0, _), (1, _)] Tryz.func42 Tryz.ntmps42 fun B hB => ?_
 repeat' (first | (refine run (t := tb) 400 rfl ?_ ?_; (focus (repeat' (first | exact trivial | apply And.intro | omega | (simp only [List.length_append, List.length_cons, List.length_nil, Int.toNat_natCast]; omega))))) | (refine k_op rfl ?_; first | refine jV (g_ldS rfl rfl (by assumption) rfl rfl) ?_ | (refine c_rt rfl rfl rfl cx_num rfl ?_) | (refine c_pu rfl rfl rfl (c_l3Num (by omega)) rfl ?_; rintro _ ⟨n, rfl, hnum⟩) | (refine c_rt rfl rfl rfl c_l13Sign rfl ?_)) | (refine k_tt rfl rfl ?_))
 obtain rfl := hnum _ h2
 repeat' (fail)
 refine jZ (vs := [_]) rfl ⟨rfl, trivial⟩ rfl ⟨rfl, rfl, ?_⟩
 rfl
theorem repR_fld {ts : List Ty} (hw : SchW ts) {t : Ty} {k : List UInt8} (h0 : refT ts k = some t) {fs fs' : List (Fld × V)} {i : Nat} (h1 : (nth fs i).1 ∈ t.fields) (h2 : (nth fs' i).1 ∈ t.fields) (he : (nth fs i).1.tag = (nth fs' i).1.tag) : (nth fs i).1 = (nth fs' i).1 := fld_tag (hw.ty t (refT_mem h0)) h1 h2 he
theorem cmp_fld {t t' : Int} {v u : V} (h : t ≠ t') : V.cmp (.nd 61 [] t [v]) (.nd 61 [] t' [u]) = sgn t t' := by rw [V.cmp, if_neg (by decide), if_neg (by decide), if_neg (by decide)]; exact if_pos ⟨.inr rfl, h⟩
theorem cmp_fld2 {t : Int} {v u : V} : V.cmp (.nd 61 [] t [v]) (.nd 61 [] t [u]) = V.cmp v u := by
 rw [V.cmp, if_neg (by decide), if_neg (by decide), if_neg (by decide), V.tag, if_neg (fun h => h.2 rfl), V.kids, V.cmps]
 split
 ·rfl
 ·rename_i h; rw [V.cmps]; simp only [ne_eq, Decidable.not_not] at h; rw [h]; rfl
theorem cmps_one {v u : V} : V.cmps [v] [u] = V.cmp v u := by
 rw [V.cmps]
 split
 ·rfl
 ·rename_i h; rw [V.cmps]; simp only [ne_eq, Decidable.not_not] at h; rw [h]; rfl
theorem cmp_uni {t t' : Int} {v u : V} : V.cmp (.nd 85 [] t [v]) (.nd 85 [] t' [u]) = V.cmp (.nd 61 [] t [v]) (.nd 61 [] t' [u]) := by
 rw [V.cmp, if_neg (by decide), if_neg (by decide), if_neg (by decide)]
 by_cases h : t = t'
 ·subst h
  rw [V.tag, if_neg (fun h => h.2 rfl), V.kids, cmps_one, cmp_fld2]
 ·rw [cmp_fld h]; exact if_pos ⟨.inl rfl, h⟩
theorem cmp_lst {w : Nat} {ks us : List V} (h : w = 91 ∨ w = 63 ∨ w = 82) : V.cmp (.nd w [] 0 ks) (.nd w [] 0 us) = V.cmps ks us := by
 rw [V.cmp, if_neg (by omega), if_neg (by omega), if_neg (by omega)]
 exact if_neg (fun h => h.2 rfl)
theorem repR_k {ts : List Ty} {v : V} {k : List UInt8} {b : Nat} (h : RepR G ts v k b) {t : Ty} (hr : refT ts k = some t) :
  (t.sort = 82 ∧ ∃ (fs : List (Fld × V)) (bs : List Nat) (a a2 : Option Addr) (c c2 : Nat), v = .nd 82 [] 0 (fs.map fldV) ∧ Seg G b 0 [S k, S [82], .slice a fs.length c, .slice a2 fs.length c2] ∧ SlV G (.slice a fs.length c) 1 fs.length (rows inR (fs.map fun p => p.1.tag)) ∧ SlV G (.slice a2 fs.length c2) 1 fs.length (rows ptR bs) ∧ bs.length = fs.length ∧ (∀ i, i < fs.length → (nth fs i).1 ∈ t.fields) ∧ (∀ i, i < fs.length → RepR G ts (nth fs i).2 (nth fs i).1.kind (nth bs i)))
  ∨ (t.sort = 69 ∧ ∃ p d, v = .nd 69 [] d.tag [] ∧ d ∈ t.fields ∧ Seg G b 0 [S k, S [69], .slice (some ⟨p, 0, none⟩) 1 1, nilS] ∧ Seg G p 0 [I d.tag])
  ∨ (t.sort = 85 ∧ ∃ p q b' cc d u, v = .nd 85 [] d.tag [u] ∧ (d ∈ t.fields ∧ 1 ≤ cc) ∧ Seg G b 0 [S k, S [85], .slice (some ⟨p, 0, none⟩) 1 1, .slice (some ⟨q, 0, none⟩) 1 cc] ∧ Seg G p 0 [I d.tag] ∧ Seg G q 0 [Pt b' 0] ∧ RepR G ts u d.kind b') := by
 cases h with
 | leaf w x _ tx _ h1 h2 =>
  rcases h2 with ⟨_, rfl, _⟩ | ⟨_, rfl, _⟩ | ⟨_, rfl, _⟩
  all_goals exact (refT_no hr rfl (by decide)).elim
 | lst => exact (refT_no hr rfl (by decide)).elim
 | non => exact (refT_no hr rfl (by decide)).elim
 | opt => exact (refT_no hr rfl (by decide)).elim
 | recd _ _ t' fs bs a a2 c c2 h0 h1 h2 h3 h4 h5 hk => rw [hr] at h0; obtain ⟨h0, h9⟩ := h0; obtain rfl := Option.some.inj h0; exact .inl ⟨h9, fs, bs, a, a2, c, c2, rfl, h1, h2, h3, h4, h5, hk⟩
 | enm _ _ p t' d h0 h1 h2 h3 => rw [hr] at h0; obtain ⟨h0, h9⟩ := h0; obtain rfl := Option.some.inj h0; exact .inr (.inl ⟨h9, p, d, rfl, h1, h2, h3⟩)
 | uni _ _ p q b' cc t' d u hcc h0 h1 h2 h3 h4 hk => rw [hr] at h0; obtain ⟨h0, h9⟩ := h0; obtain rfl := Option.some.inj h0; exact .inr (.inr ⟨h9, p, q, b', cc, d, u, rfl, ⟨h1, hcc⟩, h2, h3, h4, hk⟩)
theorem repR_c {ts : List Ty} {v : V} {c : UInt8} {k : List UInt8} {b : Nat} (h : RepR G ts v (c :: k) b) (hc : c.toNat ≠ 64) :
  (c.toNat = 110 ∧ k = [] ∧ ∃ x, v = .nd 110 x 0 [] ∧ Seg G b 0 [S [110], S x, nilS, nilS]) ∨ (c.toNat = 116 ∧ ∃ x, v = .nd 116 x 0 [] ∧ Seg G b 0 [S [116], S (39 :: (x ++ [39])), nilS, nilS]) ∨ (c.toNat = 102 ∧ ∃ x, v = .nd 102 x 0 [] ∧ (x = [121, 101, 115] ∨ x = [110, 111]) ∧ Seg G b 0 [S [102], S x, nilS, nilS])
  ∨ (c.toNat = 91 ∧ ∃ ks bs a cc, v = .nd 91 [] 0 ks ∧ Seg G b 0 [S (c :: k), S [], nilS, .slice a ks.length cc] ∧ SlV G (.slice a ks.length cc) 1 ks.length (rows ptR bs) ∧ bs.length = ks.length ∧ (∀ i, i < ks.length → RepR G ts (nth ks i) k (nth bs i)))
  ∨ (c.toNat = 63 ∧ ((v = .nd 63 [] 0 [] ∧ Seg G b 0 [S (c :: k), S [], nilS, nilS]) ∨ ∃ q b' cc u, v = .nd 63 [] 0 [u] ∧ 1 ≤ cc ∧ Seg G b 0 [S (c :: k), S [], nilS, .slice (some ⟨q, 0, none⟩) 1 cc] ∧ Seg G q 0 [Pt b' 0] ∧ RepR G ts u k b')) := by
 generalize hk : c :: k = k' at h
 cases h with
 | leaf w x _ tx _ h1 h2 =>
  rcases h2 with ⟨rfl, rfl, rfl, _⟩ | ⟨rfl, rfl, rfl⟩ | ⟨rfl, rfl, rfl, h3⟩
  ·injection hk with e1 e2; subst e1; subst e2; exact .inl ⟨rfl, rfl, tx, rfl, h1⟩
  ·injection hk with e1 e2; subst e1; exact .inr (.inl ⟨rfl, x, rfl, h1⟩)
  ·injection hk with e1 e2; subst e1; exact .inr (.inr (.inl ⟨rfl, tx, rfl, h3, h1⟩))
 | lst k b ks bs a cc h1 h2 h3 h4 => injection hk with e1 e2; subst e1; subst e2; exact .inr (.inr (.inr (.inl ⟨rfl, ks, bs, a, cc, rfl, h1, h2, h3, h4⟩)))
 | non k b h1 => injection hk with e1 e2; subst e1; subst e2; exact .inr (.inr (.inr (.inr ⟨rfl, .inl ⟨rfl, h1⟩⟩)))
 | opt k b q b' cc u h0 h1 h2 h3 => injection hk with e1 e2; subst e1; subst e2; exact .inr (.inr (.inr (.inr ⟨rfl, .inr ⟨q, b', cc, u, rfl, h0, h1, h2, h3⟩⟩)))
 | recd _ _ t' fs bs a a2 c c2 h0 => exact (refT_no h0.1 hk.symm hc).elim
 | enm _ _ p t' d h0 => exact (refT_no h0.1 hk.symm hc).elim
 | uni _ _ p q b' cc t' d u hcc h0 => exact (refT_no h0.1 hk.symm hc).elim
theorem slv_nil0 {xs : List Nat} (h : xs = []) : SlV G (.slice none 0 0) 1 0 (rows ptR xs) := by subst h; exact ⟨rfl, .inl ⟨rfl, rfl⟩⟩
theorem c_less {ts : List Ty} (hw : SchW ts) {v : V} {k : List UInt8} {b : Nat} (h : RepR G ts v k b) : ∀ {u : V} {b' : Nat}, v.wf → u.wf → v.tot ≤ 100000 → u.tot ≤ 100000 → RepR G ts u k b' → PuG Tryz.prog 42 [Pt b 0, Pt b' 0] G (· = I (v.cmp u)) := by
 induction h with
 | leaf w x k tx b h1 h2 =>
  intro u b' hv hu htv htu hr
  rw [nd_tot] at htv
  rcases h2 with ⟨rfl, rfl, rfl, _⟩ | ⟨rfl, rfl, rfl⟩ | ⟨rfl, rfl, rfl, h3⟩
  ·rcases repR_c hr (by decide) with ⟨_, _, y, rfl, h4⟩ | ⟨h, _⟩ | ⟨h, _⟩ | ⟨h, _⟩ | ⟨h, _⟩
   ·rw [nd_tot] at htu
    obtain ⟨p, hp⟩ := num_wf hv
    obtain ⟨q, hq⟩ := num_wf hu
    have e : V.cmp (.nd 110 tx 0 []) (.nd 110 y 0 []) = sgn p q := by rw [V.cmp, if_pos rfl, hp, V.text, hq]; rfl
    rw [e]
    exact c_lessN (by omega) hp hq h1 h4
   all_goals cases h
  ·rcases repR_c hr (by decide) with ⟨h, _⟩ | ⟨_, y, rfl, h4⟩ | ⟨h, _⟩ | ⟨h, _⟩ | ⟨h, _⟩
   ·cases h
   ·rw [nd_tot] at htu
    have e : V.cmp (.nd 116 x 0 []) (.nd 116 y 0 []) = cmpB x y := by rw [V.cmp, if_neg (by decide), if_pos (.inl rfl)]; rfl
    rw [e]
    exact c_lessF (.inr (.inl ⟨rfl, rfl, rfl, rfl⟩)) (by omega) h1 h4
   all_goals cases h
  ·rcases repR_c hr (by decide) with ⟨h, _⟩ | ⟨h, _⟩ | ⟨_, y, rfl, _, h4⟩ | ⟨h, _⟩ | ⟨h, _⟩
   ·cases h
   ·cases h
   ·rw [nd_tot] at htu
    have e : V.cmp (.nd 102 tx 0 []) (.nd 102 y 0 []) = cmpB tx y := by rw [V.cmp, if_neg (by decide), if_pos (.inr rfl)]; rfl
    rw [e]
    exact c_lessF (.inr (.inr ⟨rfl, rfl, rfl, rfl, h3⟩)) (by omega) h1 h4
   all_goals cases h
 | lst k b ks bs a c h1 h2 h3 hk ih =>
  intro u b' hv hu htv htu hr
  rcases repR_c hr (by decide) with ⟨h, _⟩ | ⟨h, _⟩ | ⟨h, _⟩ | ⟨_, us, cs, a', c', rfl, g1, g2, g3, g4⟩ | ⟨h, _⟩
  ·cases h
  ·cases h
  ·cases h
  ·rw [nd_tot] at htv htu
   have hkl := tots_len ks
   have hul := tots_len us
   rw [cmp_lst (.inl rfl)]
   refine c_lessL (.inl rfl) rfl rfl (by omega) h1 g1 h2 g2 h3 g3 fun i hi hj => ?_
   have h4 := tot_nth hi
   have h5 := tot_nth hj
   exact ih i hi (wf_nth (wf_kids hv) hi) (wf_nth (wf_kids hu) hj) (by omega) (by omega) (g4 i hj)
  ·cases h
 | non k b h1 =>
  intro u b' hv hu htv htu hr
  rcases repR_c hr (by decide) with ⟨h, _⟩ | ⟨h, _⟩ | ⟨h, _⟩ | ⟨h, _⟩ | ⟨_, ⟨rfl, g1⟩ | ⟨q, b2, dd, u, rfl, g0, g1, g2, g3⟩⟩
  ·cases h
  ·cases h
  ·cases h
  ·cases h
  ·rw [cmp_lst (.inr (.inl rfl))]
   exact c_lessL (bs := []) (cs := []) (.inr rfl) rfl rfl (by simp) h1 g1 (slv_nil0 rfl) (slv_nil0 rfl) rfl rfl fun i hi => absurd hi (by simp)
  ·rw [cmp_lst (.inr (.inl rfl))]
   exact c_lessL (bs := []) (cs := [b2]) (.inr rfl) rfl rfl (by simp) h1 g1 (slv_nil0 rfl) (slv_onec g0 g2) rfl rfl fun i hi => absurd hi (by simp)
 | opt k b kb b1 cc v h0 h1 h2 h3 ih =>
  intro u b' hv hu htv htu hr
  rcases repR_c hr (by decide) with ⟨h, _⟩ | ⟨h, _⟩ | ⟨h, _⟩ | ⟨h, _⟩ | ⟨_, ⟨rfl, g1⟩ | ⟨q, b2, dd, u, rfl, g0, g1, g2, g3⟩⟩
  ·cases h
  ·cases h
  ·cases h
  ·cases h
  ·rw [cmp_lst (.inr (.inl rfl))]
   exact c_lessL (bs := [b1]) (cs := []) (.inr rfl) rfl rfl (by simp) h1 g1 (slv_onec h0 h2) (slv_nil0 rfl) rfl rfl fun i _ hi => absurd hi (by simp)
  ·rw [cmp_lst (.inr (.inl rfl))]
   simp only [nd_tot, V.tots] at htv htu
   refine c_lessL (bs := [b1]) (cs := [b2]) (.inr rfl) rfl rfl (by simp) h1 g1 (slv_onec h0 h2) (slv_onec g0 g2) rfl rfl fun i hi _ => ?_
   have hi0 : i = 0 := by simpa using hi
   subst hi0
   show PuG _ _ [Pt b1 0, Pt b2 0] G (· = I (V.cmp v u))
   exact ih (wf_kids hv).1 (wf_kids hu).1 (by omega) (by omega) g3
 | recd k b t fs bs a a2 c c2 h0 h1 h2 h3 h4 h5 hk ih =>
  intro u b' hv hu htv htu hr
  obtain ⟨r, rfl⟩ := refT_64 h0.1
  rcases repR_k hr h0.1 with ⟨_, fs', cs, p, p2, q, q2, rfl, g1, g2, g3, g4, g5, g6⟩ | ⟨h, _⟩ | ⟨h, _⟩
  ·have hnt : ∀ (fs : List (Fld × V)) i, i < fs.length → nth (fs.map fldV) i = fldV (nth fs i) := fun fs i hi => by rw [nth_eq (by simpa using hi), nth_eq hi]; simp
   have htn : ∀ (fs : List (Fld × V)) i, i < fs.length → nth (fs.map fun p : Fld × V => p.1.tag) i = (nth fs i).1.tag := fun fs i hi => by rw [nth_eq (by simpa using hi), nth_eq hi]; simp
   rw [nd_tot] at htv htu
   have e0 : (fs.map fun p : Fld × V => V.nd 61 [] p.1.tag [p.2]) = fs.map fldV := rfl
   rw [e0] at hv htv ⊢
   have hkl := tots_len (fs.map fldV)
   have hul := tots_len (fs'.map fldV)
   have e1 : (fs.map fldV).length = fs.length := by simp
   have e2 : (fs'.map fldV).length = fs'.length := by simp
   rw [cmp_lst (.inr (.inr rfl))]
   refine c_lessT (KS := fs.map fldV) (US := fs'.map fldV) e1.symm e2.symm (by omega) h1 g1 h3 g3 h4 g4 h2 g2 (by simp) (by simp) fun i hi hj => ?_
   rw [htn fs i hi, htn fs' i hj, hnt fs i hi, hnt fs' i hj]
   by_cases ht : (nth fs i).1.tag = (nth fs' i).1.tag
   ·have hd := repR_fld hw h0.1 (h5 i hi) (g5 i hj) ht
    have h7 := tot_nth (ks := fs.map fldV) (i := i) (by omega)
    have h8 := tot_nth (ks := fs'.map fldV) (i := i) (by omega)
    have w7 := wf_nth (wf_kids hv) (i := i) (by omega)
    have w8 := wf_nth (wf_kids hu) (i := i) (by omega)
    rw [hnt fs i hi] at h7 w7
    rw [hnt fs' i hj] at h8 w8
    simp only [nd_tot, V.tots] at h7 h8
    refine .inr ⟨ht, ?_⟩
    rw [show fldV (nth fs i) = .nd 61 [] (nth fs' i).1.tag [(nth fs i).2] by rw [← ht], cmp_fld2]
    exact ih i hi (wf_kids w7).1 (wf_kids w8).1 (by omega) (by omega) (by rw [hd]; exact g6 i hj)
   ·exact .inl ⟨ht, cmp_fld ht⟩
  ·omega
  ·omega
 | enm k b tgb t d h0 h1 h2 h3 =>
  intro u b' hv hu htv htu hr
  obtain ⟨r, rfl⟩ := refT_64 h0.1
  rcases repR_k hr h0.1 with ⟨h, _⟩ | ⟨_, p, d', rfl, _, g2, g3⟩ | ⟨h, _⟩
  ·omega
  ·have e : V.cmp (.nd 69 [] d.tag []) (.nd 69 [] d'.tag []) = sgn d.tag d'.tag := by rw [V.cmp, if_neg (by decide), if_neg (by decide), if_pos rfl]; rfl
   rw [e]
   exact c_lessE h2 g2 h3 g3
  ·omega
 | uni k b tgb kb b1 cc1 t d v hcc1 h0 h1 h2 h3 h4 hk ih =>
  intro u b' hv hu htv htu hr
  obtain ⟨r, rfl⟩ := refT_64 h0.1
  rcases repR_k hr h0.1 with ⟨h, _⟩ | ⟨h, _⟩ | ⟨_, p, q, b2, cc2, d', u, rfl, ⟨g1, gcc⟩, g2, g3, g4, g5⟩
  ·omega
  ·omega
  ·simp only [nd_tot, V.tots] at htv htu
   rw [cmp_uni, ← cmps_one]
   refine c_lessT (KS := [fldV (d, v)]) (US := [fldV (d', u)]) (tg := [d.tag]) (sg := [d'.tag]) (bs := [b1]) (cs := [b2]) rfl rfl (by simp) h2 g2 (slv_onec hcc1 h4) (slv_onec gcc g4) rfl rfl (slv_one h3) (slv_one g3) rfl rfl fun i hi _ => ?_
   have h9 : i = 0 := by have h8 : i < 1 := hi; omega
   subst h9
   by_cases ht : d.tag = d'.tag
   ·have hd := fld_tag (hw.ty t (refT_mem h0.1)) h1 g1 ht
    refine .inr ⟨ht, ?_⟩
    show PuG _ _ _ _ (· = I (V.cmp (fldV (d, v)) (fldV (d', u))))
    rw [show fldV (d, v) = .nd 61 [] d'.tag [v] by rw [← ht], cmp_fld2]
    show PuG _ _ [Pt b1 0, Pt b2 0] G (· = I (V.cmp v u))
    exact ih (wf_kids hv).1 (wf_kids hu).1 (by omega) (by omega) (by rw [hd]; exact g5)
   ·exact .inl ⟨ht, cmp_fld ht⟩
theorem given_some {s k w : List UInt8} {u : V} (hg : givenV s k w = some u) : ∃ ts, schemaOf s = some ts ∧ kindIn ts k = true ∧ valOf ts k w = some u ∧ u.tot ≤ 40000 ∧ u.wf := by
 obtain ⟨ts, hs, hki, hvo⟩ : ∃ ts, schemaOf s = some ts ∧ kindIn ts k = true ∧ valOf ts k w = some u := by
  unfold givenV at hg
  cases hs : schemaOf s with
  | none => rw [hs] at hg; cases hg
  | some ts =>
   rw [hs] at hg
   dsimp only at hg
   by_cases hk : kindIn ts k = true
   ·rw [if_pos hk] at hg; exact ⟨ts, rfl, hk, hg⟩
   ·rw [if_neg hk] at hg; cases hg
 refine ⟨ts, hs, hki, hvo, ?_, (valOf_wf hvo).1⟩
 unfold valOf at hvo
 split at hvo
 ·split at hvo
  ·rename_i v hv
   obtain rfl := Option.some.inj hvo
   have := rd_tot _ _ _ _ hv
   dsimp only at this; omega
  ·cases hvo
 ·cases hvo
def lessV (s k w t : List UInt8) : Bool := match givenV s k w, givenV s k t with
 | some u, some v => decide (V.cmp u v < 0)
 | _, _ => false
theorem c_ValueLessI {s k w t : List UInt8} (h1 : s.length ≤ 1048576 ∧ k.length ≤ 1048576 ∧ w.length ≤ 1048576 ∧ t.length ≤ 1048576) : PuG Tryz.prog 17 [S s, S k, S w, S t] G (· = Bo (lessV s k w t)) := by
 unfold lessV
 cases hg : givenV s k w with
 | none =>
  have cx_ga0 := fun G => c_given0 (G := G) (s := s) (k := k) (w := w) (by omega) hg
  cases hg2 : givenV s k t with
  | none =>
   have cx_gb0 := fun G => c_given0 (G := G) (s := s) (k := k) (w := t) (by omega) hg2
   refine jB (Post := fun v G' L' => G' = G ∧ L' = [] ∧ _) [(0, _), (1, _), (2, _), (3, _)] Tryz.func17 Tryz.ntmps17 fun B hok hB hW => ?_
   repeat' (first | (refine jR ?_) | (refine k_op rfl ?_; first | refine c_al rfl rfl fun _ => ?_ | refine c_stA rfl rfl rfl rfl rfl rfl ?_ | (refine jV (g_pickF rfl rfl rfl) ?_) | (refine c_fns rfl rfl rfl (cx_ga0 _) rfl ?_; rintro _ G hle ⟨p1, a1, b1, c1, rfl⟩; skip) | (refine c_fns rfl rfl rfl (cx_gb0 _) rfl ?_; rintro _ G hle ⟨p2, a2, b2, c2, rfl⟩; skip)) | (refine k_gf rfl rfl rfl ?_))
   all_goals refine Nx.base hok hB ?_
   all_goals refine jZ (vs := [_]) rfl ⟨rfl, trivial⟩ rfl ⟨rfl, rfl, ?_⟩
   all_goals rfl
  | some v =>
   obtain ⟨ts, hs, hki, hvo, hto, hwf⟩ := given_some hg2
   have cx_gb1 := fun G => c_given1 (G := G) (s := s) (k := k) (w := t) (by omega) hs hki hvo
   refine jB (Post := fun v G' L' => G' = G ∧ L' = [] ∧ _) [(0, _), (1, _), (2, _), (3, _)] Tryz.func17 Tryz.ntmps17 fun B hok hB hW => ?_
   repeat' (first | (refine jR ?_) | (refine k_op rfl ?_; first | refine c_al rfl rfl fun _ => ?_ | refine c_stA rfl rfl rfl rfl rfl rfl ?_ | (refine jV (g_pickF rfl rfl rfl) ?_) | (refine c_fns rfl rfl rfl (cx_ga0 _) rfl ?_; rintro _ G hle ⟨p1, a1, b1, c1, rfl⟩; skip) | (refine c_fns rfl rfl rfl (cx_gb1 _) rfl ?_; rintro _ G hle ⟨bh, qh, cw, rfl, hTh, hRh, hrw⟩; skip)) | (refine k_gf rfl rfl rfl ?_))
   all_goals refine Nx.base hok hB ?_
   all_goals refine jZ (vs := [_]) rfl ⟨rfl, trivial⟩ rfl ⟨rfl, rfl, ?_⟩
   all_goals rfl
 | some u =>
  obtain ⟨ts, hs, hki, hvo, hto, hwf⟩ := given_some hg
  have cx_ga1 := fun G => c_given1 (G := G) (s := s) (k := k) (w := w) (by omega) hs hki hvo
  cases hg2 : givenV s k t with
  | none =>
   have cx_gb0 := fun G => c_given0 (G := G) (s := s) (k := k) (w := t) (by omega) hg2
   refine jB (Post := fun v G' L' => G' = G ∧ L' = [] ∧ _) [(0, _), (1, _), (2, _), (3, _)] Tryz.func17 Tryz.ntmps17 fun B hok hB hW => ?_
   repeat' (first | (refine jR ?_) | (refine k_op rfl ?_; first | refine c_al rfl rfl fun _ => ?_ | refine c_stA rfl rfl rfl rfl rfl rfl ?_ | (refine jV (g_pickT rfl rfl rfl) ?_) | (refine jV (g_pickF rfl rfl rfl) ?_) | (refine c_fns rfl rfl rfl (cx_ga1 _) rfl ?_; rintro _ G hle ⟨bg, qg, cv, rfl, hTg, hRg, hrv⟩; skip) | (refine c_fns rfl rfl rfl (cx_gb0 _) rfl ?_; rintro _ G hle ⟨p2, a2, b2, c2, rfl⟩; skip)) | (refine k_gt rfl rfl rfl ?_) | (refine k_gf rfl rfl rfl ?_))
   all_goals refine Nx.base hok hB ?_
   all_goals refine jZ (vs := [_]) rfl ⟨rfl, trivial⟩ rfl ⟨rfl, rfl, ?_⟩
   all_goals rfl
  | some v =>
   obtain ⟨ts2, hs2, _, hvo2, hto2, hwf2⟩ := given_some hg2
   obtain rfl : ts = ts2 := Option.some.inj (hs.symm.trans hs2)
   have cx_gb1 := fun G => c_given1 (G := G) (s := s) (k := k) (w := t) (by omega) hs hki hvo2
   have cx_cpr : ∀ {G : Gh} {c d : VC}, V.rep G u c → V.rep G v d → PuG Tryz.prog 41 [Ag (vcF c), Ag (vcF d)] G (· = I (V.cmp u v)) := fun h3 h4 => c_cmp u.tot (Nat.le_refl _) (by omega) (by omega) hwf hwf2 (ofK_ck (schemaOf_w hs) (valOf_of_k hvo) (valOf_of_k hvo2)) h3 h4
   dsimp only
   generalize V.cmp u v = z at *
   refine jB (Post := fun v G' L' => G' = G ∧ L' = [] ∧ _) [(0, _), (1, _), (2, _), (3, _)] Tryz.func17 Tryz.ntmps17 fun B hok hB hW => ?_
   repeat' (first | (refine jR ?_) | (refine k_op rfl ?_; first | refine c_al rfl rfl fun _ => ?_ | refine c_stA rfl rfl rfl rfl rfl rfl ?_ | (refine jV (g_pickT rfl rfl rfl) ?_) | refine jV (g_ldA rfl rfl rfl rfl) ?_ | (refine c_fns rfl rfl rfl (cx_ga1 _) rfl ?_; rintro _ G hle ⟨bg, qg, cv, rfl, hTg, hRg, hrv⟩; (try have hrv := rep_mono hle hrv)) | (refine c_fns rfl rfl rfl (cx_gb1 _) rfl ?_; rintro _ G hle ⟨bh, qh, cw, rfl, hTh, hRh, hrw⟩; (try have hrv := rep_mono hle hrv)) | (refine c_rt rfl rfl rfl (cx_cpr (by (repeat (assumption)); done) (by (repeat (assumption)); done)) rfl ?_)) | (refine k_gt rfl rfl rfl ?_))
   all_goals refine Nx.base hok hB ?_
   all_goals refine jZ (vs := [_]) rfl ⟨rfl, trivial⟩ rfl ⟨rfl, rfl, ?_⟩
   all_goals rfl
theorem c_ValueLessS {s k w t : List UInt8} (h1 : s.length ≤ 1048576 ∧ k.length ≤ 1048576 ∧ w.length ≤ 1048576 ∧ t.length ≤ 1048576) : PuG Tryz.prog 18 [S s, S k, S w, S t] G (· = Bo (lessV s k w t)) := by
 unfold lessV
 cases hg : givenV s k w with
 | none =>
  have cx_la0 := fun G => c_l4Of0 (G := G) (s := s) (k := k) (w := w) (by omega) hg
  cases hg2 : givenV s k t with
  | none =>
   have cx_lb0 := fun G => c_l4Of0 (G := G) (s := s) (k := k) (w := t) (by omega) hg2
   refine jB (Post := fun v G' L' => G' = G ∧ L' = [] ∧ _) [(0, _), (1, _), (2, _), (3, _)] Tryz.func18 Tryz.ntmps18 fun B hok hB hW => ?_
   repeat' (first | (refine jR ?_) | (refine k_op rfl ?_; first | (refine jV (g_pickF rfl rfl rfl) ?_) | (refine c_fns rfl rfl rfl (cx_la0 _) rfl ?_; rintro _ G hle ⟨ua, qa, rfl⟩; skip) | (refine c_fns rfl rfl rfl (cx_lb0 _) rfl ?_; rintro _ G hle ⟨ub, qb, rfl⟩; skip)) | (refine k_gf rfl rfl rfl ?_))
   all_goals refine Nx.base hok hB ?_
   all_goals refine jZ (vs := [_]) rfl ⟨rfl, trivial⟩ rfl ⟨rfl, rfl, ?_⟩
   all_goals rfl
  | some v =>
   obtain ⟨ts, hs, hki, hvo, hto, hwf⟩ := given_some hg2
   have cx_lb1 := fun G => c_l4Of1 (G := G) (s := s) (k := k) (w := t) (by omega) hs hki hvo
   refine jB (Post := fun v G' L' => G' = G ∧ L' = [] ∧ _) [(0, _), (1, _), (2, _), (3, _)] Tryz.func18 Tryz.ntmps18 fun B hok hB hW => ?_
   repeat' (first | (refine jR ?_) | (refine k_op rfl ?_; first | (refine jV (g_pickF rfl rfl rfl) ?_) | (refine c_fns rfl rfl rfl (cx_la0 _) rfl ?_; rintro _ G hle ⟨ua, qa, rfl⟩; skip) | (refine c_fns rfl rfl rfl (cx_lb1 _) rfl ?_; rintro _ G hle ⟨ub, qb, rfl, hyb⟩; skip)) | (refine k_gf rfl rfl rfl ?_))
   all_goals refine Nx.base hok hB ?_
   all_goals refine jZ (vs := [_]) rfl ⟨rfl, trivial⟩ rfl ⟨rfl, rfl, ?_⟩
   all_goals rfl
 | some u =>
  obtain ⟨ts, hs, hki, hvo, hto, hwf⟩ := given_some hg
  have cx_la1 := fun G => c_l4Of1 (G := G) (s := s) (k := k) (w := w) (by omega) hs hki hvo
  cases hg2 : givenV s k t with
  | none =>
   have cx_lb0 := fun G => c_l4Of0 (G := G) (s := s) (k := k) (w := t) (by omega) hg2
   refine jB (Post := fun v G' L' => G' = G ∧ L' = [] ∧ _) [(0, _), (1, _), (2, _), (3, _)] Tryz.func18 Tryz.ntmps18 fun B hok hB hW => ?_
   repeat' (first | (refine jR ?_) | (refine k_op rfl ?_; first | (refine jV (g_pickT rfl rfl rfl) ?_) | (refine jV (g_pickF rfl rfl rfl) ?_) | (refine c_fns rfl rfl rfl (cx_la1 _) rfl ?_; rintro _ G hle ⟨ua, qa, rfl, hya⟩; skip) | (refine c_fns rfl rfl rfl (cx_lb0 _) rfl ?_; rintro _ G hle ⟨ub, qb, rfl⟩; skip)) | (refine k_gt rfl rfl rfl ?_) | (refine k_gf rfl rfl rfl ?_))
   all_goals refine Nx.base hok hB ?_
   all_goals refine jZ (vs := [_]) rfl ⟨rfl, trivial⟩ rfl ⟨rfl, rfl, ?_⟩
   all_goals rfl
  | some v =>
   obtain ⟨ts2, hs2, _, hvo2, hto2, hwf2⟩ := given_some hg2
   obtain rfl : ts = ts2 := Option.some.inj (hs.symm.trans hs2)
   have cx_lb1 := fun G => c_l4Of1 (G := G) (s := s) (k := k) (w := t) (by omega) hs hki hvo2
   have cx_lsr : ∀ {G : Gh} {c d : Nat}, RepR G ts u k c → RepR G ts v k d → PuG Tryz.prog 42 [Pt c 0, Pt d 0] G (· = I (V.cmp u v)) := fun h3 h4 => c_less (schemaOf_w hs) h3 hwf hwf2 (by omega) (by omega) h4
   dsimp only
   generalize V.cmp u v = z at *
   refine jB (Post := fun v G' L' => G' = G ∧ L' = [] ∧ _) [(0, _), (1, _), (2, _), (3, _)] Tryz.func18 Tryz.ntmps18 fun B hok hB hW => ?_
   repeat' (first | (refine jR ?_) | (refine k_op rfl ?_; first | (refine jV (g_pickT rfl rfl rfl) ?_) | (refine c_fns rfl rfl rfl (cx_la1 _) rfl ?_; rintro _ G hle ⟨ua, qa, rfl, hya⟩; (try have hya := RepR.mono hle hya)) | (refine c_fns rfl rfl rfl (cx_lb1 _) rfl ?_; rintro _ G hle ⟨ub, qb, rfl, hyb⟩; (try have hya := RepR.mono hle hya)) | (refine c_rt rfl rfl rfl (cx_lsr (by (repeat (assumption)); done) (by (repeat (assumption)); done)) rfl ?_)) | (refine k_gt rfl rfl rfl ?_))
   all_goals refine Nx.base hok hB ?_
   all_goals refine jZ (vs := [_]) rfl ⟨rfl, trivial⟩ rfl ⟨rfl, rfl, ?_⟩
   all_goals rfl
end Go.E
namespace Go.E
set_option maxRecDepth 20000
set_option maxHeartbeats 2000000
def keyW (w : Nat) (x : List UInt8) (t : Int) (js : List (List UInt8)) : List UInt8 :=
 if w = 110 then [u8 ((numOf x 999999).getD 0 / 65536), u8 ((numOf x 999999).getD 0 / 256), u8 ((numOf x 999999).getD 0)] else if w = 116 then x ++ [0] else if w = 102 then (if x = [121, 101, 115] then [1] else [0]) else if w = 69 then [u8 t]
 else if w = 63 ∧ js = [] then [0] else if w = 85 ∨ w = 61 then u8 t :: js.flatten else if w = 63 then (js.map (1 :: ·)).flatten else (js.map (1 :: ·)).flatten ++ [0]
mutual
def V.key : V → List UInt8
 | .nd w x t ks => keyW w x t (V.keys ks)
def V.keys : List V → List (List UInt8)
 | [] => []
 | v :: r => V.key v :: V.keys r
end
def mrk (a : List UInt8) (js : List (List UInt8)) : List UInt8 := (js.map (a ++ ·)).flatten
theorem mrk_one (js : List (List UInt8)) : (js.map (1 :: ·)).flatten = mrk [1] js := rfl
theorem bl_asymm : ∀ {x y : List UInt8}, Op.bytesLess x y = true → Op.bytesLess y x = false
 | [], [], h => by cases h
 | [], _ :: _, _ => rfl
 | _ :: _, [], h => by cases h
 | a :: x, b :: y, h => by
  unfold Op.bytesLess at h ⊢
  simp only [Bool.or_eq_true, decide_eq_true_eq, Bool.and_eq_true, beq_iff_eq, Bool.or_eq_false_iff, decide_eq_false_iff_not, Bool.and_eq_false_iff] at h ⊢
  rcases h with h | ⟨rfl, h⟩
  ·exact ⟨fun h2 => absurd h2 (by intro h2; rw [UInt8.lt_iff_toNat_lt] at h h2; omega), .inl (by rw [beq_eq_false_iff_ne]; rintro rfl; rw [UInt8.lt_iff_toNat_lt] at h; omega)⟩
  ·exact ⟨fun h2 => (by rw [UInt8.lt_iff_toNat_lt] at h2; omega), .inr (bl_asymm h)⟩
theorem bl_irr (x : List UInt8) : Op.bytesLess x x = false := by
 cases h : Op.bytesLess x x with
 | false => rfl
 | true => have := bl_asymm h; rw [h] at this; cases this
theorem cmpB_self (x : List UInt8) : cmpB x x = 0 := by unfold cmpB; rw [bl_irr]; rfl
theorem bl_cons {c d : UInt8} {x y : List UInt8} : Op.bytesLess (c :: x) (d :: y) = if c.toNat < d.toNat then true else if d.toNat < c.toNat then false else Op.bytesLess x y := by
 rw [Op.bytesLess]
 by_cases h : c.toNat < d.toNat
 ·rw [if_pos h]; simp [UInt8.lt_iff_toNat_lt, h]
 ·rw [if_neg h]
  by_cases h2 : d.toNat < c.toNat
  ·rw [if_pos h2]
   have : ¬ c = d := by rintro rfl; omega
   simp [UInt8.lt_iff_toNat_lt, h, this]
  ·rw [if_neg h2]
   have : c = d := UInt8.toNat_inj.1 (by omega)
   subst this
   simp
theorem cmpB_cons {c d : UInt8} {x y : List UInt8} : cmpB (c :: x) (d :: y) = if c.toNat < d.toNat then -1 else if d.toNat < c.toNat then 1 else cmpB x y := by
 unfold cmpB
 rw [bl_cons, bl_cons]
 by_cases h : c.toNat < d.toNat
 ·have h2 : ¬ d.toNat < c.toNat := by omega
  simp only [h, h2, if_true, if_false]
 ·by_cases h2 : d.toNat < c.toNat
  ·simp [h, h2]
  ·simp only [h, h2, if_false]
theorem cmpB_sgn {c d : UInt8} {x y : List UInt8} {n m : Int} (hc : (c.toNat : Int) = n) (hd : (d.toNat : Int) = m) : cmpB (c :: x) (d :: y) = if sgn n m ≠ 0 then sgn n m else cmpB x y := by
 rw [cmpB_cons]
 unfold sgn
 by_cases h : c.toNat < d.toNat
 ·have h3 : n < m := by omega
  simp [h, h3]
 ·have h3 : ¬ n < m := by omega
  by_cases h2 : d.toNat < c.toNat
  ·have h4 : m < n := by omega
   simp [h, h2, h3, h4]
  ·have h4 : ¬ m < n := by omega
   simp [h, h2, h3, h4]
def thn (c d : Int) : Int := if c ≠ 0 then c else d
theorem thn_0 (d : Int) : thn 0 d = d := by simp [thn]
theorem thn_as (a b c : Int) : thn (thn a b) c = thn a (thn b c) := by
 unfold thn
 by_cases h : a = 0
 ·simp [h]
 ·simp [h]
theorem cmpB_th {c d : UInt8} {x y : List UInt8} {n m : Int} (hc : (c.toNat : Int) = n) (hd : (d.toNat : Int) = m) : cmpB (c :: x) (d :: y) = thn (sgn n m) (cmpB x y) := cmpB_sgn hc hd
theorem sgn_3 {n m : Int} (hn : 0 ≤ n ∧ n ≤ 999999) (hm : 0 ≤ m ∧ m ≤ 999999) (d : Int) : thn (sgn (n / 65536) (m / 65536)) (thn (sgn (n / 256 % 256) (m / 256 % 256)) (thn (sgn (n % 256) (m % 256)) d)) = thn (sgn n m) d := by
 unfold sgn thn
 rcases Int.lt_trichotomy n m with h | h | h
 ·rw [if_pos h]
  by_cases h1 : n / 65536 < m / 65536
  ·simp [h1]
  ·have e1 : n / 65536 = m / 65536 := by omega
   by_cases h2 : n / 256 % 256 < m / 256 % 256
   ·simp [e1, h2]
   ·have e2 : n / 256 % 256 = m / 256 % 256 := by omega
    have h3 : n % 256 < m % 256 := by omega
    simp [e1, e2, h3]
 ·subst h; simp
 ·have h0 : ¬ n < m := by omega
  rw [if_neg h0, if_pos h]
  by_cases h1 : m / 65536 < n / 65536
  ·have : ¬ n / 65536 < m / 65536 := by omega
   simp [h1, this]
  ·have e1 : n / 65536 = m / 65536 := by omega
   by_cases h2 : m / 256 % 256 < n / 256 % 256
   ·have : ¬ n / 256 % 256 < m / 256 % 256 := by omega
    simp [e1, h2, this]
   ·have e2 : n / 256 % 256 = m / 256 % 256 := by omega
    have h3 : m % 256 < n % 256 := by omega
    have h4 : ¬ n % 256 < m % 256 := by omega
    simp [e1, e2, h3, h4]
theorem u8_mod (a : Int) : ((u8 a).toNat : Int) = a % 256 := by
 have h : u8 a = u8 (a % 256) := by unfold u8; rw [Int.emod_emod_of_dvd _ (by decide)]
 rw [h, u8_val (by omega)]
theorem cmpB_txt : ∀ {x y a b : List UInt8}, (∀ c ∈ x, c.toNat ≠ 0) → (∀ c ∈ y, c.toNat ≠ 0) → cmpB (x ++ 0 :: a) (y ++ 0 :: b) = thn (cmpB x y) (cmpB a b)
 | [], [], a, b, _, _ => by rw [show cmpB [] [] = 0 from rfl, thn_0, List.nil_append, List.nil_append, cmpB_cons, if_neg (by decide), if_neg (by decide)]
 | [], d :: y, a, b, _, h => by
  have := h d (by simp)
  rw [List.nil_append, List.cons_append, cmpB_cons, if_pos (by show (0 : UInt8).toNat < d.toNat; rw [show (0 : UInt8).toNat = 0 from rfl]; omega)]
  rfl
 | c :: x, [], a, b, h, _ => by
  have := h c (by simp)
  rw [List.nil_append, List.cons_append, cmpB_cons, if_neg (by rw [show (0 : UInt8).toNat = 0 from rfl]; omega), if_pos (by show (0 : UInt8).toNat < c.toNat; rw [show (0 : UInt8).toNat = 0 from rfl]; omega)]
  rfl
 | c :: x, d :: y, a, b, h1, h2 => by
  have ih := cmpB_txt (x := x) (y := y) (a := a) (b := b) (fun c hc => h1 c (by simp [hc])) (fun c hc => h2 c (by simp [hc]))
  rw [List.cons_append, List.cons_append, cmpB_th rfl rfl, cmpB_th rfl rfl, ih, thn_as]
theorem tx_pos {x : List UInt8} (h : isTx (39 :: (x ++ [39])) = true) : ∀ c ∈ x, c.toNat ≠ 0 := fun c hc e => by
 unfold isTx at h
 rw [decide_eq_true_eq] at h
 obtain ⟨j, hj, rfl⟩ := List.mem_iff_getElem.1 hc
 have h1 := h.2.2.2 (j + 1) (by simp; omega)
 rw [bt_succ] at h1
 have h2 : bt (x ++ [39]) j = (x[j]).toNat := by simp [bt, List.getD, List.getElem?_append_left hj, List.getElem?_eq_getElem hj]
 rw [h2, e] at h1
 rcases h1 with h1 | h1
 ·omega
 ·unfold txN at h1; omega
theorem cmpB_eq {x y : List UInt8} (h : cmpB x y = 0) : x = y := by
 have bl_tot : ∀ {x y : List UInt8}, Op.bytesLess x y = false → Op.bytesLess y x = false → x = y := by
  intro x
  induction x with
  | nil => intro y h1 h2; cases y; rfl; cases h1
  | cons c x ih =>
   intro y h1 h2
   cases y with
   | nil => cases h2
   | cons d y =>
    rw [bl_cons] at h1 h2
    by_cases hc : c.toNat < d.toNat
    ·rw [if_pos hc] at h1; cases h1
    ·rw [if_neg hc] at h1
     by_cases hd : d.toNat < c.toNat
     ·rw [if_pos hd] at h2; cases h2
     ·rw [if_neg hd] at h1 h2
      rw [if_neg hc] at h2
      rw [show c = d from UInt8.toNat_inj.1 (by omega), ih h1 h2]
 unfold cmpB at h
 split at h
 ·cases h
 ·split at h
  ·cases h
  ·rename_i h1 h2
   exact bl_tot (by simpa using h1) (by simpa using h2)
theorem numOf_dd {n : Int} (h1 : 0 ≤ n) (h2 : n ≤ 999999) : numOf (decI n) 999999 = some n := numOf_decI h1 h2 (by decide)
def KeyLaw (u v : V) : Prop := (∀ a b, cmpB (u.key ++ a) (v.key ++ b) = thn (u.cmp v) (cmpB a b)) ∧ (u.cmp v = 0 → u = v)
theorem key_lst : ∀ {ks us : List V}, (∀ v ∈ ks, ∀ u ∈ us, KeyLaw v u) → (∀ a b, cmpB (mrk [1] (V.keys ks) ++ 0 :: a) (mrk [1] (V.keys us) ++ 0 :: b) = thn (V.cmps ks us) (cmpB a b)) ∧ (V.cmps ks us = 0 → ks = us)
 | [], [], _ => ⟨fun a b => by simp only [V.keys, mrk, List.map_nil, List.flatten_nil, List.nil_append, show V.cmps [] [] = 0 by rw [V.cmps.eq_1, if_pos rfl], thn_0]; rw [cmpB_cons, if_neg (by decide), if_neg (by decide)], fun _ => rfl⟩
 | [], u :: us, _ => by
  have e : V.cmps [] (u :: us) = -1 := by rw [V.cmps.eq_1, if_neg (by simp)]
  refine ⟨fun a b => ?_, fun h => ?_⟩
  ·rw [e]
   simp only [V.keys, mrk, List.map_nil, List.map_cons, List.flatten_nil, List.flatten_cons, List.nil_append, List.append_assoc, List.cons_append]
   rw [cmpB_cons, if_pos (by decide)]; rfl
  ·rw [e] at h; cases h
 | v :: ks, [], _ => by
  have e : V.cmps (v :: ks) [] = 1 := by rw [V.cmps]
  refine ⟨fun a b => ?_, fun h => ?_⟩
  ·rw [e]
   simp only [V.keys, mrk, List.map_nil, List.map_cons, List.flatten_nil, List.flatten_cons, List.nil_append, List.append_assoc, List.cons_append]
   rw [cmpB_cons, if_neg (by decide), if_pos (by decide)]; rfl
  ·rw [e] at h; cases h
 | v :: ks, u :: us, h => by
  obtain ⟨h1, h2⟩ := h v (by simp) u (by simp)
  obtain ⟨h3, h4⟩ := key_lst (ks := ks) (us := us) fun x hx y hy => h x (by simp [hx]) y (by simp [hy])
  have e : V.cmps (v :: ks) (u :: us) = thn (V.cmp v u) (V.cmps ks us) := by rw [V.cmps]; rfl
  refine ⟨fun a b => ?_, fun h5 => ?_⟩
  ·rw [e]
   have h6 := h3 a b
   unfold mrk at h6 ⊢
   simp only [V.keys, List.map_cons, List.flatten_cons, List.append_assoc, List.cons_append, List.nil_append] at h6 ⊢
   rw [cmpB_cons, if_neg (by decide), if_neg (by decide), h1, h6, thn_as]
  ·rw [e] at h5
   unfold thn at h5
   split at h5
   ·rename_i h6; exact absurd h5 h6
   ·rename_i h6
    rw [h2 (by simpa using h6), h4 h5]
theorem cmp_k {w : Nat} {x y : List UInt8} {t t' : Int} {ks us : List V} (h : w ≠ 110 ∧ w ≠ 116 ∧ w ≠ 102 ∧ w ≠ 69) : V.cmp (.nd w x t ks) (.nd w y t' us) = if (w = 85 ∨ w = 61) ∧ t ≠ t' then sgn t t' else V.cmps ks us := by
 rw [V.cmp, if_neg h.1, if_neg (by omega), if_neg h.2.2.2]; rfl
theorem cmps_1 {v u : V} : V.cmps [v] [u] = V.cmp v u := by
 rw [V.cmps]
 split
 ·rfl
 ·rename_i h; rw [V.cmps]; simp only [ne_eq, Decidable.not_not] at h; rw [h]; rfl
theorem sgn_0 {n m : Int} (h : sgn n m = 0) : n = m := by unfold sgn at h; split at h; cases h; split at h; cases h; omega
theorem sgn_nn (n : Int) : sgn n n = 0 := by unfold sgn; rw [if_neg (by omega), if_neg (by omega)]
theorem cmp_tg {w : Nat} (hw : w = 85 ∨ w = 61) {t t' : Int} {v u : V} : V.cmp (.nd w [] t [v]) (.nd w [] t' [u]) = thn (sgn t t') (V.cmp v u) := by
 rw [cmp_k (by omega)]
 unfold thn
 by_cases h : t = t'
 ·subst h; rw [if_neg (fun h => h.2 rfl), if_neg (by rw [sgn_nn]; simp), cmps_1]
 ·rw [if_pos ⟨hw, h⟩, if_pos (fun h2 => h (sgn_0 h2))]
theorem key_tg {w : Nat} (hw : w = 85 ∨ w = 61) {t t' : Int} {v u : V} (ht : 0 ≤ t ∧ t ≤ 200) (ht' : 0 ≤ t' ∧ t' ≤ 200) (h : t = t' → KeyLaw v u) : KeyLaw (.nd w [] t [v]) (.nd w [] t' [u]) := by
 have e : ∀ (t : Int) (v : V), V.key (.nd w [] t [v]) = u8 t :: v.key := fun t v => by
  rw [V.key]; unfold keyW
  rw [if_neg (by omega), if_neg (by omega), if_neg (by omega), if_neg (by omega), if_neg (by omega), if_pos hw]; simp [V.keys]
 refine ⟨fun a b => ?_, fun h2 => ?_⟩
 ·rw [e, e, cmp_tg hw, List.cons_append, List.cons_append, cmpB_th (u8_val (by omega)) (u8_val (by omega))]
  by_cases he : t = t'
  ·rw [(h he).1, thn_as]
  ·unfold thn
   have := fun h2 => he (sgn_0 h2)
   rw [if_pos this, if_pos this, if_pos this]
 ·rw [cmp_tg hw] at h2
  unfold thn at h2
  split at h2
  ·rename_i h3; exact absurd h2 h3
  ·rename_i h3
   have he := sgn_0 (n := t) (m := t') (by simpa using h3)
   rw [(h he).2 h2, he]
theorem ofK_key {ts : List Ty} (hw : SchW ts) {k : List UInt8} {u : V} (h : OfK ts k u) : ∀ {v : V}, OfK ts k v → KeyLaw u v := by
 induction h with
 | num k n h1 h2 =>
  intro v hv
  rcases ofK_inv_c hv (by decide) with ⟨_, m, h3, h4, rfl⟩ | ⟨h, _⟩ | ⟨h, _⟩ | ⟨h, _⟩ | ⟨h, _⟩
  ·have e : V.cmp (.nd 110 (decI n) 0 []) (.nd 110 (decI m) 0 []) = sgn n m := by rw [V.cmp, if_pos rfl, numOf_dd h1 h2, V.text, numOf_dd h3 h4]; rfl
   have ek : ∀ {n : Int}, 0 ≤ n → n ≤ 999999 → V.key (.nd 110 (decI n) 0 []) = [u8 (n / 65536), u8 (n / 256), u8 n] := fun g1 g2 => by rw [V.key]; simp [keyW, numOf_dd g1 g2]
   refine ⟨fun a b => ?_, fun h => ?_⟩
   ·rw [e, ek h1 h2, ek h3 h4, ← sgn_3 ⟨h1, h2⟩ ⟨h3, h4⟩]
    simp only [List.cons_append, List.nil_append]
    rw [cmpB_th (u8_val (a := n / 65536) (by omega)) (u8_val (a := m / 65536) (by omega)), cmpB_th (u8_mod (n / 256)) (u8_mod (m / 256)), cmpB_th (u8_mod n) (u8_mod m)]
   ·rw [e] at h; rw [sgn_0 h]
  all_goals cases h
 | txt k x h1 =>
  intro v hv
  rcases ofK_inv_c hv (by decide) with ⟨h, _⟩ | ⟨_, y, h2, rfl⟩ | ⟨h, _⟩ | ⟨h, _⟩ | ⟨h, _⟩
  ·cases h
  ·have e : V.cmp (.nd 116 x 0 []) (.nd 116 y 0 []) = cmpB x y := by rw [V.cmp, if_neg (by decide), if_pos (.inl rfl)]; rfl
   have ek : ∀ x : List UInt8, V.key (.nd 116 x 0 []) = x ++ [0] := fun x => by rw [V.key]; rfl
   refine ⟨fun a b => ?_, fun h => ?_⟩
   ·rw [e, ek, ek, List.append_assoc, List.append_assoc]; exact cmpB_txt (tx_pos h1) (tx_pos h2)
   ·rw [e] at h; rw [cmpB_eq h]
  all_goals cases h
 | flg k x h1 =>
  intro v hv
  rcases ofK_inv_c hv (by decide) with ⟨h, _⟩ | ⟨h, _⟩ | ⟨_, y, h2, rfl⟩ | ⟨h, _⟩ | ⟨h, _⟩
  ·cases h
  ·cases h
  ·have e : V.cmp (.nd 102 x 0 []) (.nd 102 y 0 []) = cmpB x y := by rw [V.cmp, if_neg (by decide), if_pos (.inr rfl)]; rfl
   have ek : ∀ x : List UInt8, V.key (.nd 102 x 0 []) = if x = [121, 101, 115] then [1] else [0] := fun x => by rw [V.key]; rfl
   refine ⟨fun a b => ?_, fun h => ?_⟩
   ·rw [e, ek, ek]
    rcases h1 with rfl | rfl <;> rcases h2 with rfl | rfl
    ·rw [if_pos rfl, cmpB_self, thn_0]; exact (cmpB_cons).trans (by rw [if_neg (by decide), if_neg (by decide)]; rfl)
    ·rw [if_pos rfl, if_neg (by decide)]; exact (cmpB_cons).trans (by rw [if_neg (by decide), if_pos (by decide)]; rfl)
    ·rw [if_neg (by decide), if_pos rfl]; exact (cmpB_cons).trans (by rw [if_pos (by decide)]; rfl)
    ·rw [if_neg (by decide), cmpB_self, thn_0]; exact (cmpB_cons).trans (by rw [if_neg (by decide), if_neg (by decide)]; rfl)
   ·rw [e] at h; rw [cmpB_eq h]
  all_goals cases h
 | lst k ks h1 h2 ih =>
  intro v hv
  rcases ofK_inv_c hv (by decide) with ⟨h, _⟩ | ⟨h, _⟩ | ⟨h, _⟩ | ⟨_, us, _, h4, rfl⟩ | ⟨h, _⟩
  ·cases h
  ·cases h
  ·cases h
  ·obtain ⟨g1, g2⟩ := key_lst (ks := ks) (us := us) fun x hx y hy => ih x hx (h4 y hy)
   have e : V.cmp (.nd 91 [] 0 ks) (.nd 91 [] 0 us) = V.cmps ks us := by rw [cmp_k (by decide), if_neg (fun h => h.2 rfl)]
   have ek : ∀ ks : List V, V.key (.nd 91 [] 0 ks) = mrk [1] (V.keys ks) ++ [0] := fun ks => by rw [V.key]; simp [keyW, mrk_one]
   refine ⟨fun a b => ?_, fun h => ?_⟩
   ·rw [e, ek, ek, List.append_assoc, List.append_assoc]; exact g1 a b
   ·rw [e] at h; rw [g2 h]
  ·cases h
 | non k =>
  intro v hv
  have e0 : V.key (.nd 63 [] 0 []) = [0] := by rw [V.key]; rfl
  rcases ofK_inv_c hv (by decide) with ⟨h, _⟩ | ⟨h, _⟩ | ⟨h, _⟩ | ⟨h, _⟩ | ⟨_, rfl | ⟨v, _, rfl⟩⟩
  ·cases h
  ·cases h
  ·cases h
  ·cases h
  ·have e : V.cmp (.nd 63 [] 0 []) (.nd 63 [] 0 []) = 0 := by rw [cmp_k (by decide), if_neg (fun h => h.2 rfl), V.cmps.eq_1, if_pos rfl]
   refine ⟨fun a b => ?_, fun _ => rfl⟩
   rw [e, e0, thn_0]; exact (cmpB_cons).trans (by rw [if_neg (by decide), if_neg (by decide)]; rfl)
  ·have e : V.cmp (.nd 63 [] 0 []) (.nd 63 [] 0 [v]) = -1 := by rw [cmp_k (by decide), if_neg (fun h => h.2 rfl), V.cmps.eq_1, if_neg (by simp)]
   have e1 : V.key (.nd 63 [] 0 [v]) = 1 :: v.key := by rw [V.key]; simp [keyW, V.keys]
   refine ⟨fun a b => ?_, fun h => ?_⟩
   ·rw [e, e0, e1]; exact (cmpB_cons).trans (by rw [if_pos (by decide)]; rfl)
   ·rw [e] at h; cases h
 | opt k u h1 ih =>
  intro v hv
  have e0 : V.key (.nd 63 [] 0 []) = [0] := by rw [V.key]; rfl
  have e1 : ∀ v : V, V.key (.nd 63 [] 0 [v]) = 1 :: v.key := fun v => by rw [V.key]; simp [keyW, V.keys]
  rcases ofK_inv_c hv (by decide) with ⟨h, _⟩ | ⟨h, _⟩ | ⟨h, _⟩ | ⟨h, _⟩ | ⟨_, rfl | ⟨v, h2, rfl⟩⟩
  ·cases h
  ·cases h
  ·cases h
  ·cases h
  ·have e : V.cmp (.nd 63 [] 0 [u]) (.nd 63 [] 0 []) = 1 := by rw [cmp_k (by decide), if_neg (fun h => h.2 rfl), V.cmps]
   refine ⟨fun a b => ?_, fun h => ?_⟩
   ·rw [e, e0, e1]; exact (cmpB_cons).trans (by rw [if_neg (by decide), if_pos (by decide)]; rfl)
   ·rw [e] at h; cases h
  ·have e : V.cmp (.nd 63 [] 0 [u]) (.nd 63 [] 0 [v]) = V.cmp u v := by rw [cmp_k (by decide), if_neg (fun h => h.2 rfl), cmps_1]
   obtain ⟨g1, g2⟩ := ih h2
   refine ⟨fun a b => ?_, fun h => ?_⟩
   ·rw [e, e1, e1, List.cons_append, List.cons_append, cmpB_cons, if_neg (by decide), if_neg (by decide)]; exact g1 a b
   ·rw [e] at h; rw [g2 h]
 | recd k t fs h1 h2 h3 h4 h5 h6 ih =>
  intro v hv
  rcases ofK_inv_t hv h1 with ⟨_, gs, rfl, g3, g4, _, _⟩ | ⟨h, _⟩ | ⟨h, _⟩
  ·have htw := hw.ty t (refT_mem h1)
   obtain ⟨g1, g2⟩ := key_lst (ks := fs.map fldV) (us := gs.map fldV) fun x hx y hy => by
    obtain ⟨p, hp, rfl⟩ := List.mem_map.1 hx
    obtain ⟨q, hq, rfl⟩ := List.mem_map.1 hy
    have i1 := (htw.fld _ (h3 p hp)).tag
    have i2 := (htw.fld _ (g3 q hq)).tag
    exact key_tg (.inr rfl) (by omega) (by omega) fun he => ih p hp (by rw [fld_tag htw (h3 p hp) (g3 q hq) he]; exact g4 q hq)
   have e : ∀ ks us : List V, V.cmp (.nd 82 [] 0 ks) (.nd 82 [] 0 us) = V.cmps ks us := fun ks us => by rw [cmp_k (by decide), if_neg (fun h => h.2 rfl)]
   have ek : ∀ ks : List V, V.key (.nd 82 [] 0 ks) = mrk [1] (V.keys ks) ++ [0] := fun ks => by rw [V.key]; simp [keyW, mrk_one]
   refine ⟨fun a b => ?_, fun h => ?_⟩
   ·rw [e, ek, ek, List.append_assoc, List.append_assoc]; exact g1 a b
   ·rw [e] at h; rw [g2 h]
  ·omega
  ·omega
 | enm k t d h1 h2 h3 =>
  intro v hv
  rcases ofK_inv_t hv h1 with ⟨h, _⟩ | ⟨_, d', rfl, g3⟩ | ⟨_, h, _⟩
  ·omega
  ·have htw := hw.ty t (refT_mem h1)
   have i1 := (htw.fld _ h3).tag
   have i2 := (htw.fld _ g3).tag
   have e : V.cmp (.nd 69 [] d.tag []) (.nd 69 [] d'.tag []) = sgn d.tag d'.tag := by rw [V.cmp, if_neg (by decide), if_neg (by decide), if_pos rfl]; rfl
   have ek : ∀ t : Int, V.key (.nd 69 [] t []) = [u8 t] := fun t => by rw [V.key]; rfl
   refine ⟨fun a b => ?_, fun h => ?_⟩
   ·rw [e, ek, ek]; exact cmpB_th (u8_val (by omega)) (u8_val (by omega))
   ·rw [e] at h; rw [sgn_0 h]
  ·omega
 | uni k t d u h1 h2 h3 h4 h5 ih =>
  intro v hv
  rcases ofK_inv_t hv h1 with ⟨h, _⟩ | ⟨h, _⟩ | ⟨_, _, d', v', rfl, g4, g5⟩
  ·omega
  ·omega
  ·have htw := hw.ty t (refT_mem h1)
   have i1 := (htw.fld _ h4).tag
   have i2 := (htw.fld _ g4).tag
   exact key_tg (.inl rfl) (by omega) (by omega) fun he => ih (by rw [fld_tag htw h4 g4 he]; exact g5)
theorem cmp_key {ts : List Ty} (hw : SchW ts) {k : List UInt8} {u v : V} (hu : OfK ts k u) (hv : OfK ts k v) : u.cmp v = cmpB u.key v.key ∧ (u.cmp v = 0 → u = v) := by
 obtain ⟨h1, h2⟩ := ofK_key hw hu hv
 have h3 := h1 [] []
 rw [List.append_nil, List.append_nil, show cmpB [] [] = 0 from rfl] at h3
 refine ⟨?_, h2⟩
 rw [h3]; unfold thn; split
 ·rfl
 ·rename_i h; simpa using h
theorem cmpB_lt {x y : List UInt8} : cmpB x y < 0 ↔ Op.bytesLess x y = true := by
 unfold cmpB
 cases Op.bytesLess x y <;> cases Op.bytesLess y x <;> simp
theorem given_k {s k w : List UInt8} {u : V} (h : givenV s k w = some u) : ∃ ts, schemaOf s = some ts ∧ SchW ts ∧ kindIn ts k = true ∧ OfK ts k u ∧ u.out = w := by
 obtain ⟨ts, h1, h2, h3, _, _⟩ := given_some h
 exact ⟨ts, h1, schemaOf_w h1, h2, valOf_of_k h3, (valOf_out h3).1⟩
theorem given_ts {s k w w' : List UInt8} {u v : V} (h : givenV s k w = some u) (h' : givenV s k w' = some v) : ∃ ts, SchW ts ∧ OfK ts k u ∧ OfK ts k v ∧ u.out = w ∧ v.out = w' := by
 obtain ⟨ts, h1, h2, _, h4, h5⟩ := given_k h
 obtain ⟨ts', g1, _, _, g4, g5⟩ := given_k h'
 rw [h1] at g1
 obtain rfl := Option.some.inj g1
 exact ⟨ts, h2, h4, g4, h5, g5⟩
def okV (s k w : List UInt8) : Bool := (givenV s k w).isSome
theorem less_ok {s k w t : List UInt8} (h : lessV s k w t = true) : okV s k w = true ∧ okV s k t = true := by
 unfold lessV at h
 unfold okV
 split at h
 ·rename_i h1 h2; rw [h1, h2]; exact ⟨rfl, rfl⟩
 ·cases h
theorem less_key {s k w t : List UInt8} {u v : V} (hu : givenV s k w = some u) (hv : givenV s k t = some v) : lessV s k w t = Op.bytesLess u.key v.key := by
 obtain ⟨ts, h1, h2, h3, _, _⟩ := given_ts hu hv
 have h4 := (cmp_key h1 h2 h3).1
 unfold lessV
 rw [hu, hv]
 dsimp only
 rw [h4]
 cases hb : Op.bytesLess u.key v.key with
 | true => exact decide_eq_true (cmpB_lt.2 hb)
 | false => exact decide_eq_false fun h => by rw [cmpB_lt.1 h] at hb; cases hb
theorem ok_some {s k w : List UInt8} (h : okV s k w = true) : ∃ u, givenV s k w = some u := Option.isSome_iff_exists.1 h
theorem less_self (s k w : List UInt8) : lessV s k w w = false := by
 cases h : lessV s k w w with
 | false => rfl
 | true =>
  obtain ⟨u, hu⟩ := ok_some (less_ok h).1
  rw [less_key hu hu, bl_irr] at h; cases h
theorem less_asym {s k w t : List UInt8} (h : lessV s k w t = true) : lessV s k t w = false := by
 obtain ⟨u, hu⟩ := ok_some (less_ok h).1
 obtain ⟨v, hv⟩ := ok_some (less_ok h).2
 rw [less_key hu hv] at h
 rw [less_key hv hu]; exact bl_asymm h
theorem less_tot {s k w t : List UInt8} (h1 : okV s k w = true) (h2 : okV s k t = true) : lessV s k w t = true ∨ lessV s k t w = true ∨ w = t := by
 obtain ⟨u, hu⟩ := ok_some h1
 obtain ⟨v, hv⟩ := ok_some h2
 rw [less_key hu hv, less_key hv hu]
 cases h3 : Op.bytesLess u.key v.key with
 | true => exact .inl rfl
 | false =>
  cases h4 : Op.bytesLess v.key u.key with
  | true => exact .inr (.inl rfl)
  | false =>
   obtain ⟨ts, g1, g2, g3, g4, g5⟩ := given_ts hu hv
   obtain ⟨g6, g7⟩ := cmp_key g1 g2 g3
   have : u.cmp v = 0 := by rw [g6]; unfold cmpB; rw [h3, h4]; rfl
   rw [← g4, ← g5, g7 this]
   exact .inr (.inr rfl)
end Go.E
namespace Go.E
set_option maxRecDepth 20000
set_option maxHeartbeats 2000000
open Go.Proofs
variable {G : Gh}
theorem c_ValueOkI {s k w : List UInt8} (h : s.length ≤ 1048576 ∧ k.length ≤ 1048576 ∧ w.length ≤ 1048576) : PuG Tryz.prog 12 [S s, S k, S w] G (· = Bo (okV s k w)) := by
 unfold okV
 cases hg : givenV s k w with
 | none =>
  have cx_gi0 := c_given0 (G := G) h hg
  refine jB (Post := fun v G' L' => G' = G ∧ L' = [] ∧ _) [(0, _), (1, _), (2, _)] Tryz.func12 Tryz.ntmps12 fun B hok hB hW => ?_
  repeat' (first | (refine jR ?_) | (refine k_op rfl ?_; first | refine c_al rfl rfl fun _ => ?_ | refine c_stA rfl rfl rfl rfl rfl rfl ?_ | (refine c_fns rfl rfl rfl cx_gi0 rfl ?_; rintro _ G hle ⟨p1, a1, b1, c1, rfl⟩; skip)))
  all_goals refine Nx.base hok hB ?_
  all_goals refine jZ (vs := [_]) rfl ⟨rfl, trivial⟩ rfl ⟨rfl, rfl, ?_⟩
  all_goals rfl
 | some u =>
  obtain ⟨ts, hs, hki, hvo, hto, hwf⟩ := given_some hg
  have cx_gi1 := c_given1 (G := G) h hs hki hvo
  refine jB (Post := fun v G' L' => G' = G ∧ L' = [] ∧ _) [(0, _), (1, _), (2, _)] Tryz.func12 Tryz.ntmps12 fun B hok hB hW => ?_
  repeat' (first | (refine jR ?_) | (refine k_op rfl ?_; first | refine c_al rfl rfl fun _ => ?_ | refine c_stA rfl rfl rfl rfl rfl rfl ?_ | (refine c_fns rfl rfl rfl cx_gi1 rfl ?_; rintro _ G hle ⟨bg, qg, cv, rfl, hTg, hRg, hrv⟩; skip)))
  all_goals refine Nx.base hok hB ?_
  all_goals refine jZ (vs := [_]) rfl ⟨rfl, trivial⟩ rfl ⟨rfl, rfl, ?_⟩
  all_goals rfl
theorem c_DrawValueLess {v : Value} {l : List UInt8} (hs : SlV G v 1 l.length (u8s l)) : PuG Tryz.prog 16 [v] G (fun r => ∃ s k x y, r = Tu [S s, S k, S x, S y] ∧ s.length ≤ 1048576 ∧ k.length ≤ 1048576 ∧ x.length ≤ 1048576 ∧ y.length ≤ 1048576) := by
 refine jE [(0, _)] Tryz.func16 Tryz.ntmps16 fun B hB => ?_
 repeat' (first | (refine jR ?_) | (refine k_op rfl ?_; first | (refine c_fng rfl rfl rfl (c_l6Open (by (repeat (assumption)); done)) rfl ?_; rintro _ _ ⟨b, code, l, rfl, rfl, hcd, hcl⟩; dsimp only [zA, fA]) | (refine c_m1g rfl rfl rfl (c_l91Schema ?_ (by (repeat (assumption)); done)) rfl ?_; (focus ((omega); done)); rintro _ _ ⟨sc, q1, rfl, hsc, rfl, hq1, hq2⟩; dsimp only [zA, fA]) | (refine c_m1g rfl rfl rfl (c_l91Some ?_ (by (repeat (assumption)); done) ?_) rfl ?_; (focus ((omega); done)); (focus ((omega); done)); rintro _ _ ⟨kd, q1, rfl, hkd, rfl, hq1, hq2⟩; dsimp only [zA, fA]) | (refine c_m1g rfl rfl rfl (c_l91Of ?_ (by (repeat (assumption)); done) ?_ ?_) rfl ?_; (focus ((omega); done)); (focus ((omega); done)); (focus ((omega); done)); rintro _ _ ⟨tx, q1, rfl, htx, rfl, hq1, hq2⟩; dsimp only [zA, fA])))
 exact jZ (vs := [_, _, _, _]) rfl ⟨rfl, rfl, rfl, rfl, trivial⟩ rfl ⟨rfl, rfl, _, _, _, _, rfl, by omega, by omega, by omega, by omega⟩
theorem c_FnValueLess {v : Value} {l : List UInt8} (hs : SlV G v 1 l.length (u8s l)) : PuG Tryz.prog 4 [v] G (· = Bo true) := by
 obtain ⟨a, cap, rfl⟩ := hs.sl
 refine jE [(0, _)] Tryz.func4 Tryz.ntmps4 fun B hB => ?_
 repeat' (first | (refine jR ?_) | (refine k_op rfl ?_; first | refine jV (g_lenL rfl) ?_ | (refine c_pu rfl rfl rfl (c_DrawValueLess (by (repeat (assumption)); done)) rfl ?_; rintro _ ⟨s1, k1, x1, y1, rfl, hsz⟩)) | refine k_if rfl (fun _ => ?_) (fun _ => ?_))
 ·refine jZ (vs := [_]) rfl ⟨rfl, trivial⟩ rfl ⟨rfl, rfl, ?_⟩
  rfl
 have cx_v1 := c_ValueLessI (G := G) hsz
 have cx_w1 := c_ValueLessS (G := G) hsz
 have cx_v2 := c_ValueLessI (G := G) (s := s1) (k := k1) (w := y1) (t := x1) ⟨hsz.1, hsz.2.1, hsz.2.2.2, hsz.2.2.1⟩
 have cx_v3 := c_ValueLessI (G := G) (s := s1) (k := k1) (w := x1) (t := x1) ⟨hsz.1, hsz.2.1, hsz.2.2.1, hsz.2.2.1⟩
 have cx_o1 := c_ValueOkI (G := G) (s := s1) (k := k1) (w := x1) ⟨hsz.1, hsz.2.1, hsz.2.2.1⟩
 have cx_o2 := c_ValueOkI (G := G) (s := s1) (k := k1) (w := y1) ⟨hsz.1, hsz.2.1, hsz.2.2.2⟩
 rw [less_self] at cx_v3
 have h1 : lessV s1 k1 x1 y1 = true → lessV s1 k1 y1 x1 = false := less_asym
 have h2 : okV s1 k1 x1 = true → okV s1 k1 y1 = true → lessV s1 k1 x1 y1 = true ∨ lessV s1 k1 y1 x1 = true ∨ x1 = y1 := less_tot
 have h3 : lessV s1 k1 x1 y1 = true → okV s1 k1 x1 = true ∧ okV s1 k1 y1 = true := less_ok
 have h4 : lessV s1 k1 y1 x1 = true → okV s1 k1 y1 = true ∧ okV s1 k1 x1 = true := less_ok
 generalize lessV s1 k1 x1 y1 = b1 at *
 generalize lessV s1 k1 y1 x1 = b2 at *
 generalize okV s1 k1 x1 = p1 at *
 generalize okV s1 k1 y1 = p2 at *
 have hc : b1 = true ∧ b2 = false ∧ p1 = true ∧ p2 = true ∨ b1 = false ∧ b2 = true ∧ p1 = true ∧ p2 = true ∨ b1 = false ∧ b2 = false ∧ (p1 = true ∧ p2 = true ∧ x1 = y1 ∨ p1 = false ∨ p1 = true ∧ p2 = false) := by
  cases b1 with
  | true => exact .inl ⟨rfl, h1 rfl, (h3 rfl).1, (h3 rfl).2⟩
  | false =>
   cases b2 with
   | true => exact .inr (.inl ⟨rfl, rfl, (h4 rfl).2, (h4 rfl).1⟩)
   | false =>
    refine .inr (.inr ⟨rfl, rfl, ?_⟩)
    cases p1 with
    | false => exact .inr (.inl rfl)
    | true =>
     cases p2 with
     | false => exact .inr (.inr ⟨rfl, rfl⟩)
     | true =>
      rcases h2 rfl rfl with h | h | h
      ·cases h
      ·cases h
      ·exact .inl ⟨rfl, rfl, h⟩
 clear h1 h2 h3 h4
 rcases hc with ⟨rfl, rfl, rfl, rfl⟩ | ⟨rfl, rfl, rfl, rfl⟩ | ⟨rfl, rfl, ⟨rfl, rfl, he⟩ | rfl | ⟨rfl, rfl⟩⟩
 all_goals
  repeat' (first | (refine jR ?_) | (refine k_op rfl ?_; first | (refine jV (g_pickT rfl rfl rfl) ?_) | (refine jV (g_pickF rfl rfl rfl) ?_) | (refine c_rt rfl rfl rfl cx_v1 rfl ?_) | (refine c_rt rfl rfl rfl cx_v2 rfl ?_) | (refine c_rt rfl rfl rfl cx_v3 rfl ?_) | (refine c_rt rfl rfl rfl cx_w1 rfl ?_) | (refine c_rt rfl rfl rfl cx_o1 rfl ?_) | (refine c_rt rfl rfl rfl cx_o2 rfl ?_)) | (refine k_gt rfl rfl (by first | rfl | (refine decide_eq_true ?_; (assumption))) ?_) | (refine k_gf rfl rfl rfl ?_) | (refine k_ff rfl rfl ?_))
  all_goals refine jZ (vs := [_]) rfl ⟨rfl, trivial⟩ rfl ⟨rfl, rfl, ?_⟩
  all_goals rfl
end Go.E
