/- Plain laws: streams of frames. Conditions: none. -/
import Derived.Test.YtcnkkjdnnajkbaaPa
namespace Go.E
def frAt (s : List UInt8) : List UInt8 × Nat × Bool :=
  if bt s 0 ≠ 126 then ([], 0, false)
  else if s.length = 1 then ([], 0, true)
  else if 100 < bt s 1 then ([], 0, false)
  else if s.length < 2 + bt s 1 then ([], 0, true)
  else
    let body := (s.take (2 + bt s 1)).drop 2
    if (frame body).isPrefixOf s then (body, (frame body).length, false)
    else if s.isPrefixOf (frame body) then ([], 0, true)
    else ([], 0, false)
def fg (s : List UInt8) : List (List UInt8) × Nat × List UInt8 :=
  if h : s = [] then ([], 0, [])
  else if 0 < (frAt s).2.1 then
    let r := fg (s.drop (frAt s).2.1)
    ((frAt s).1 :: r.1, r.2.1, r.2.2)
  else if (frAt s).2.2 then ([], 0, s)
  else
    let r := fg (s.drop 1)
    (r.1, r.2.1 + 1, r.2.2)
termination_by s.length
decreasing_by
  all_goals simp only [List.length_drop]
  all_goals have := List.length_pos_iff.2 h
  all_goals omega
theorem fg_nil : fg [] = ([], 0, []) := by rw [fg]; simp
theorem fg_hit {s : List UInt8} (h : s ≠ []) (h1 : 0 < (frAt s).2.1) : fg s = ((frAt s).1 :: (fg (s.drop (frAt s).2.1)).1, (fg (s.drop (frAt s).2.1)).2.1, (fg (s.drop (frAt s).2.1)).2.2) := by
  rw [fg]; simp [h, h1]
theorem fg_may {s : List UInt8} (h : s ≠ []) (h1 : ¬ 0 < (frAt s).2.1) (h2 : (frAt s).2.2 = true) : fg s = ([], 0, s) := by
  rw [fg]; simp [h, h1, h2]
theorem fg_junk {s : List UInt8} (h : s ≠ []) (h1 : ¬ 0 < (frAt s).2.1) (h2 : (frAt s).2.2 = false) : fg s = ((fg (s.drop 1)).1, (fg (s.drop 1)).2.1 + 1, (fg (s.drop 1)).2.2) := by
  rw [fg]; simp [h, h1, h2]
def framesGet (s : List UInt8) : List (List UInt8) × Nat × List UInt8 := if s.length ≤ 2000 then fg s else ([], 0, [])
theorem frAt_le (s : List UInt8) : (frAt s).2.1 ≤ s.length := by
  unfold frAt
  split; · simp
  split; · simp
  split; · simp
  split; · simp
  simp only
  split
  · rename_i h
    exact (List.isPrefixOf_iff_prefix.1 h).length_le
  split <;> simp
theorem frame_eq {b : List UInt8} (h : b.length ≤ 100) : frame b = u8 126 :: u8 b.length :: (b ++ numI (sumB b)) := by
  simp [frame, numI_lo (n := b.length) (by omega) (by omega)]
theorem bt_cons0 (c : UInt8) (l : List UInt8) : bt (c :: l) 0 = c.toNat := by simp [bt, List.getD]
theorem bt_cons1 (c d : UInt8) (l : List UInt8) : bt (c :: d :: l) 1 = d.toNat := by simp [bt, List.getD]
theorem u8_toNat_nat {k : Nat} (h : k < 256) : (u8 (k : Int)).toNat = k := by have := u8_val (a := (k : Int)) (by omega); omega
theorem frAt_frame {b r : List UInt8} (h : b.length ≤ 100) : frAt (frame b ++ r) = (b, (frame b).length, false) := by
  have e := frame_eq h
  have e1 : bt (frame b ++ r) 0 = 126 := by rw [e, List.cons_append, bt_cons0]; exact u8_toNat_nat (by decide)
  have e2 : bt (frame b ++ r) 1 = b.length := by rw [e, List.cons_append, List.cons_append, bt_cons1]; exact u8_toNat_nat (by omega)
  have e3 : (frame b ++ r).length = b.length + 2 + (numI (sumB b)).length + r.length := by rw [e]; simp; omega
  have e4 : ((frame b ++ r).take (2 + b.length)).drop 2 = b := by
    rw [e]; simp [Nat.add_comm 2, List.take_append]
  unfold frAt
  rw [e1, if_neg (by simp), if_neg (by rw [e3]; have : (numI (sumB b)).length ≠ 0 := by { unfold numI; rw [num]; split <;> simp }; omega), e2, if_neg (by omega), if_neg (by omega), e4]
  simp
theorem framesGet_frame {b : List UInt8} (h : b.length ≤ 100) : framesGet (frame b) = ([b], 0, []) := by
  have h1 := frame_len b (by omega)
  have h2 := frAt_frame (b := b) (r := []) h
  simp only [List.append_nil] at h2
  have h3 : frame b ≠ [] := by rw [frame_eq h]; simp
  have h4 : 0 < (frame b).length := List.length_pos_iff.2 h3
  rw [framesGet, if_pos (by omega), fg_hit h3 (by rw [h2]; exact h4), h2]
  simp [fg_nil]
theorem frAt_c1 {s : List UInt8} (h : ((bt s 0 : Nat) : Int) ≠ 126) : frAt s = ([], 0, false) := by unfold frAt; rw [if_pos (by omega)]
theorem frAt_c2 {s : List UInt8} (h : ¬ ((bt s 0 : Nat) : Int) ≠ 126) (h2 : (s.length : Int) = 1) : frAt s = ([], 0, true) := by unfold frAt; rw [if_neg (by omega), if_pos (by omega)]
theorem frAt_c3 {s : List UInt8} (h : ¬ ((bt s 0 : Nat) : Int) ≠ 126) (h2 : ¬ (s.length : Int) = 1) (h3 : 100 < ((bt s 1 : Nat) : Int)) : frAt s = ([], 0, false) := by unfold frAt; rw [if_neg (by omega), if_neg (by omega), if_pos (by omega)]
theorem frAt_c4 {s : List UInt8} (h : ¬ ((bt s 0 : Nat) : Int) ≠ 126) (h2 : ¬ (s.length : Int) = 1) (h3 : ¬ 100 < ((bt s 1 : Nat) : Int)) (h4 : (s.length : Int) < 2 + ((bt s 1 : Nat) : Int)) : frAt s = ([], 0, true) := by
  unfold frAt; rw [if_neg (by omega), if_neg (by omega), if_neg (by omega), if_pos (by omega)]
theorem frAt_c {s : List UInt8} (h : ¬ ((bt s 0 : Nat) : Int) ≠ 126) (h2 : ¬ (s.length : Int) = 1) (h3 : ¬ 100 < ((bt s 1 : Nat) : Int)) (h4 : ¬ (s.length : Int) < 2 + ((bt s 1 : Nat) : Int)) :
    frAt s = if (frame ((s.take (2 + (bt s 1 : Int)).toNat).drop 2)).isPrefixOf s then ((s.take (2 + (bt s 1 : Int)).toNat).drop 2, (frame ((s.take (2 + (bt s 1 : Int)).toNat).drop 2)).length, false)
      else if s.isPrefixOf (frame ((s.take (2 + (bt s 1 : Int)).toNat).drop 2)) then ([], 0, true) else ([], 0, false) := by
  unfold frAt; rw [if_neg (by omega), if_neg (by omega), if_neg (by omega), if_neg (by omega)]
  rw [show (2 + (bt s 1 : Int)).toNat = 2 + bt s 1 by omega]
theorem fpS_body {s : List UInt8} (h3 : ¬ 100 < ((bt s 1 : Nat) : Int)) : fpS ((s.take (2 + (bt s 1 : Int)).toNat).drop 2) = frame ((s.take (2 + (bt s 1 : Int)).toNat).drop 2) := by
  rw [fpS, if_pos (by simp; omega)]
theorem frAt_c5 {s : List UInt8} (h : ¬ ((bt s 0 : Nat) : Int) ≠ 126) (h2 : ¬ (s.length : Int) = 1) (h3 : ¬ 100 < ((bt s 1 : Nat) : Int)) (h4 : ¬ (s.length : Int) < 2 + ((bt s 1 : Nat) : Int))
    (hp : (fpS ((s.take (2 + (bt s 1 : Int)).toNat).drop 2)).isPrefixOf s = true) : frAt s = ((s.take (2 + (bt s 1 : Int)).toNat).drop 2, (fpS ((s.take (2 + (bt s 1 : Int)).toNat).drop 2)).length, false) := by
  rw [frAt_c h h2 h3 h4, ← fpS_body h3, if_pos hp]
theorem frAt_c6 {s : List UInt8} (h : ¬ ((bt s 0 : Nat) : Int) ≠ 126) (h2 : ¬ (s.length : Int) = 1) (h3 : ¬ 100 < ((bt s 1 : Nat) : Int)) (h4 : ¬ (s.length : Int) < 2 + ((bt s 1 : Nat) : Int))
    (hp : (fpS ((s.take (2 + (bt s 1 : Int)).toNat).drop 2)).isPrefixOf s = false) (hq : s.isPrefixOf (fpS ((s.take (2 + (bt s 1 : Int)).toNat).drop 2)) = true) : frAt s = ([], 0, true) := by
  rw [frAt_c h h2 h3 h4, ← fpS_body h3, if_neg (by rw [hp]; decide), if_pos hq]
theorem frAt_c7 {s : List UInt8} (h : ¬ ((bt s 0 : Nat) : Int) ≠ 126) (h2 : ¬ (s.length : Int) = 1) (h3 : ¬ 100 < ((bt s 1 : Nat) : Int)) (h4 : ¬ (s.length : Int) < 2 + ((bt s 1 : Nat) : Int))
    (hp : (fpS ((s.take (2 + (bt s 1 : Int)).toNat).drop 2)).isPrefixOf s = false) (hq : s.isPrefixOf (fpS ((s.take (2 + (bt s 1 : Int)).toNat).drop 2)) = false) : frAt s = ([], 0, false) := by
  rw [frAt_c h h2 h3 h4, ← fpS_body h3, if_neg (by rw [hp]; decide), if_neg (by rw [hq]; decide)]
end Go.E
