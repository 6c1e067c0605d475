/- Plain laws: numbers in bytes, sums, frames. Conditions: none. -/
import Derived.Test.YtcnkkjdnnajkbaaEngI
namespace Go.E
theorem u8s_snoc (l : List UInt8) (c : UInt8) : u8s (l ++ [c]) = u8s l ++ [U8 c.toNat] := by simp [u8s]
/-- The bytes of a number. -/
def num (n : Nat) : List UInt8 := if h : n < 128 then [u8 n] else u8 (128 + n % 128 : Nat) :: num (n / 128)
termination_by n
decreasing_by omega
theorem num_lo {n : Nat} (h : n < 128) : num n = [u8 n] := by rw [num]; simp [h]
theorem num_hi {n : Nat} (h : ¬ n < 128) : num n = u8 (128 + n % 128 : Nat) :: num (n / 128) := by rw [num]; simp [h]
def numI (n : Int) : List UInt8 := num n.toNat
theorem numI_lo {n : Int} (h : n < 128) (h0 : 0 ≤ n) : numI n = [u8 n] := by
  unfold numI; rw [num_lo (by omega), Int.toNat_of_nonneg h0]
theorem numI_hi {n : Int} (h : ¬ n < 128) : numI n = u8 (128 + n % 128) :: numI (n / 128) := by
  unfold numI; rw [num_hi (by omega)]
  congr 2
  · omega
  · omega
theorem num_len (n : Nat) : ∀ k, n < 128 ^ (k + 1) → (num n).length ≤ k + 1 := by
  intro k
  induction k generalizing n with
  | zero => intro h; rw [num_lo (by simpa using h)]; simp
  | succ k ih =>
    intro h
    by_cases h1 : n < 128
    · rw [num_lo h1]; simp
    · rw [num_hi h1]
      have := ih (n / 128) (Nat.div_lt_of_lt_mul (by rw [Nat.pow_succ] at h; omega))
      simp; omega
theorem num_len9 (n : Nat) (h : n ≤ 9223372036854775807) : (num n).length ≤ 9 := num_len n 8 (by omega)
theorem numI_len (n : Int) (h : n ≤ 9223372036854775807) : (numI n).length ≤ 9 := num_len9 _ (by omega)
def sumF (n : Int) : List UInt8 → Int
  | [] => n
  | c :: l => sumF ((n * 31 + (c.toNat : Int)) % 9973) l
def sumB (l : List UInt8) : Int := sumF 1 l
theorem sumF_range (l : List UInt8) : ∀ n : Int, 0 ≤ n → n < 9973 → 0 ≤ sumF n l ∧ sumF n l < 9973 := by
  induction l with
  | nil => intro n h1 h2; exact ⟨h1, h2⟩
  | cons c l ih => intro n h1 h2; exact ih _ (Int.emod_nonneg _ (by decide)) (Int.emod_lt_of_pos _ (by decide))
theorem sumB_range (l : List UInt8) : 0 ≤ sumB l ∧ sumB l < 9973 := sumF_range l 1 (by decide) (by decide)
theorem drop_bt {l : List UInt8} {i : Nat} (h : i < l.length) : ∃ c : UInt8, l.drop i = c :: l.drop (i + 1) ∧ bt l i = c.toNat := by
  refine ⟨l[i], (List.getElem_cons_drop (h := h)).symm, ?_⟩
  simp [bt, List.getD, List.getElem?_eq_getElem h]
def frame (s : List UInt8) : List UInt8 := [u8 126] ++ numI s.length ++ s ++ numI (sumB s)
theorem numI_len3 {n : Int} (h : n ≤ 999999) : (numI n).length ≤ 3 := num_len _ 2 (by omega)
theorem sumB_len (l : List UInt8) : (numI (sumB l)).length ≤ 3 := numI_len3 (by have := sumB_range l; omega)
theorem frame_len (s : List UInt8) (h : s.length ≤ 999999) : (frame s).length ≤ s.length + 7 := by
  have h1 := numI_len3 (n := s.length) (by omega)
  have h2 := sumB_len s
  simp [frame]; omega
def fpS (s : List UInt8) : List UInt8 := if s.length ≤ 100 then frame s else []
def fpB (s : List UInt8) : Bool := decide (s.length ≤ 100)
theorem fp_no {s : List UInt8} (h : ¬ s.length ≤ 100) : Tu [S [], Bo false] = Tu [S (fpS s), Bo (fpB s)] := by simp [fpS, fpB, h]
theorem fp_yes {s : List UInt8} (h : s.length ≤ 100) : Tu [S (frame s), Bo true] = Tu [S (fpS s), Bo (fpB s)] := by simp [fpS, fpB, h]
end Go.E
