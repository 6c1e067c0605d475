/- The calculus of this seat's proofs: bytes of strings, strings of bytes, small helps. Conditions: none. -/
import Derived.Test.YtcnkkjdnnajkbaaEngE
namespace Go.E
def bts (n m : Nat) : Array Bool := ((List.range n).map fun i => m.testBit i).toArray
@[simp] theorem oneOf_one (v : Value) : oneOf [v] = v := rfl
theorem oneOf_two (u v : Value) : oneOf [u, v] = Tu [u, v] := rfl
theorem oneOf_three (u v x : Value) : oneOf [u, v, x] = Tu [u, v, x] := rfl
theorem oneOf_four (u v x y : Value) : oneOf [u, v, x, y] = Tu [u, v, x, y] := rfl

/-! ### Bytes -/
def bt (l : List UInt8) (i : Nat) : Nat := (l.getD i 0).toNat
def u8 (a : Int) : UInt8 := UInt8.ofNat (a % 256).toNat
theorem bt_lt (l : List UInt8) (i : Nat) : bt l i < 256 := (l.getD i 0).toNat_lt
theorem bt_le (l : List UInt8) (i : Nat) : -9223372036854775808 ≤ ((bt l i : Nat) : Int) ∧ ((bt l i : Nat) : Int) ≤ 9223372036854775807 := by have := bt_lt l i; omega
theorem u8_wrap (a : Int) : IntKind.u8.wrap a = ((u8 a).toNat : Int) := by
  have h : 0 ≤ a % 256 ∧ a % 256 < 256 := ⟨Int.emod_nonneg _ (by decide), Int.emod_lt_of_pos _ (by decide)⟩
  have h2 : (u8 a).toNat = (a % 256).toNat := by
    unfold u8; rw [UInt8.toNat_ofNat']; exact Nat.mod_eq_of_lt (by omega)
  rw [h2, Int.toNat_of_nonneg h.1]
  simp [IntKind.wrap, IntKind.bits, IntKind.signed]
@[simp] theorem u8_toNat (c : UInt8) : u8 (c.toNat : Int) = c := by
  unfold u8
  have := c.toNat_lt
  have h : (((c.toNat : Nat) : Int) % 256).toNat = c.toNat := by omega
  rw [h]; simp
theorem u8_val {a : Int} (h : 0 ≤ a ∧ a ≤ 255) : ((u8 a).toNat : Int) = a := by
  unfold u8; rw [UInt8.toNat_ofNat', Nat.mod_eq_of_lt (by omega)]; omega

/-! ### What fills what -/
theorem PutsR.spl {cs o vs cs'} (h : PutsR cs o vs cs') : cs' = splice cs o vs ∧ o + vs.length ≤ cs.length := by
  induction h with
  | nil => simp [splice]
  | here _ ih => obtain ⟨rfl, h2⟩ := ih; simp [splice] at h2 ⊢; omega
  | there _ ih => obtain ⟨rfl, h2⟩ := ih; refine ⟨?_, by simp at h2 ⊢; omega⟩; rename_i x cs k v vs _; simp [splice, show k + 1 + (vs.length + 1) = (k + (vs.length + 1)) + 1 by omega]
inductive LF (place : Nat → Option (Nat × Nat)) : List Value → List (Nat × List Value) → List Value → Prop where
  | nil {cs} : LF place cs [] cs
  | cons {i vc off size rest cs cs1 cs2} : place i = some (off, size) → Nat.beq vc.length size = true → PutsR cs off vc cs1 → LF place cs1 rest cs2 → LF place cs ((i, vc) :: rest) cs2
theorem LF.fill {place cs qs cs'} (h : LF place cs qs cs') : lfill place cs qs = some cs' := by
  induction h with
  | nil => rfl
  | cons h1 h2 h3 _ ih =>
    obtain ⟨rfl, h4⟩ := h3.spl
    simp only [lfill, h1, h2, Nat.ble_eq_true_of_le h4, Bool.and_self]
    exact ih
section
variable {B : Base} {G : Gh} {L : List Own} {K : Act → World → Prop} {Q : Exit → Act → World → Prop}
variable {P : Program} {n : Nat} {D : List Deferred} {E : Env} {M : World → Prop} {d : Option Nat} {ty : TypeId} {pos : String} {aft : Array Edge} {gd : Option (Nat × Bool)}
theorem g_sidxN {T : TypeId} {x i : Operand} {size bytes : Nat} {zero : Value} {k : IntKind} {m : Nat} {l : List UInt8} [TI P T .string size bytes zero] (hx : ev E x = some (S l)) (hi : ev E i = some (.int k (m : Int))) (h : m < l.length) :
    Gives P n D E M ⟨d, .index T x i, ty, pos, aft, gd⟩ (U8 (bt l m)) := by
  have : bt l m = (l[m]'h).toNat := by simp [bt, List.getD, List.getElem?_eq_getElem h]
  rw [this]
  exact g_sidx hx hi (by omega) (by simp [List.getElem?_eq_getElem h])
theorem g_sidxI {T : TypeId} {x i : Operand} {size bytes : Nat} {zero : Value} {k : IntKind} {m : Int} {l : List UInt8} [TI P T .string size bytes zero] (hx : ev E x = some (S l)) (hi : ev E i = some (.int k m)) (h : 0 ≤ m ∧ m < l.length) :
    Gives P n D E M ⟨d, .index T x i, ty, pos, aft, gd⟩ (U8 (bt l m.toNat)) :=
  g_sidxN hx (by rw [Int.toNat_of_nonneg h.1]; exact hi) (by omega)
theorem g_convB {T T' : TypeId} {x : Operand} {size bytes size' bytes' : Nat} {zero zero' : Value} {l : List UInt8} {i : Nat} [TI P T (.int .u8) size bytes zero] [TI P T' (.int .i64) size' bytes' zero'] (hx : ev E x = some (U8 (bt l i))) :
    Gives P n D E M ⟨d, .convert T T' x, ty, pos, aft, gd⟩ (I (bt l i)) := g_convI hx (bt_le l i)
theorem g_convC {T T' : TypeId} {x : Operand} {size bytes size' bytes' : Nat} {zero zero' : Value} {c : UInt8} [TI P T (.int .u8) size bytes zero] [TI P T' (.int .i64) size' bytes' zero'] (hx : ev E x = some (U8 c.toNat)) :
    Gives P n D E M ⟨d, .convert T T' x, ty, pos, aft, gd⟩ (I c.toNat) := g_convI hx (by have := c.toNat_lt; omega)
theorem g_convU {T T' : TypeId} {x : Operand} {size bytes size' bytes' : Nat} {zero zero' : Value} {a : Int} [TI P T (.int .i64) size bytes zero] [TI P T' (.int .u8) size' bytes' zero'] (hx : ev E x = some (I a)) :
    Gives P n D E M ⟨d, .convert T T' x, ty, pos, aft, gd⟩ (U8 (u8 a).toNat) := by rw [← u8_wrap]; exact g_conv hx

/-- The cells are bytes. -/
inductive BL : List Value → List UInt8 → Prop where
  | nil : BL [] []
  | cons {c vs l} : BL vs l → BL (.int .u8 (UInt8.toNat c) :: vs) (c :: l)
  | bt {s : List UInt8} {i : Nat} {vs l} : BL vs l → BL (.int .u8 (bt s i) :: vs) (u8 (bt s i) :: l)
  | lit {k : Nat} {vs l} : Nat.blt k 256 = true → BL vs l → BL (.int .u8 (Int.ofNat k) :: vs) (u8 k :: l)
  | of {l} : BL (u8s l) l
  | ap {l m : List UInt8} {vs} : BL vs m → BL (u8s l ++ vs) (l ++ m)
theorem BL.eq {vs : List Value} {l : List UInt8} (h : BL vs l) : vs = u8s l := by
  induction h with
  | nil => rfl
  | cons _ ih => simp [u8s, ih]
  | bt _ ih => rename_i s i _ _ _; have := bt_lt s i; simp [u8s, ih, u8_val (a := (Go.E.bt s i : Nat)) (by omega)]
  | lit hk _ ih => rename_i k _ _ _; have : k < 256 := by simpa using hk
                   have h2 := u8_val (a := (k : Nat)) (by omega)
                   simp only [u8s, List.map_cons, h2]; rw [ih]; rfl
  | of => rfl
  | ap _ ih => rw [ih]; simp [u8s]
theorem g_b2sL {x : Operand} {T T' el : TypeId} {s1 b1 s2 b2 s3 b3 : Nat} {z1 z2 z3 src : Value} {l : List UInt8} {vs : List Value} {m : Nat} [TI P T (.slice el) s1 b1 z1] [TI P T' .string s2 b2 z2] [TI P el (.int .u8) s3 b3 z3]
    (hx : ev E x = some src) (hsrc : SrcOf M 1 src m vs) (hb : BL vs l) : Gives P n D E M ⟨d, .convert T T' x, ty, pos, aft, gd⟩ (S l) := by
  rw [hb.eq] at hsrc; exact g_b2s hx hsrc
theorem c_bs {T el : TypeId} {len : Nat} {ps : List (Nat × Operand)} {qs : List (Nat × List Value)} {desc : TypeDesc} {size bytes size' bytes' : Nat} {zero zero' : Value} {zs cs : List Value} {dd : Nat} [TI P T (.slice el) size' bytes' zero'] [TI P el desc size bytes zero] (hz : zero.cells = zs.toArray)
    (hsz : Nat.beq zs.length size = true) (hsm : Nat.ble (len * size) 16777216 = true) (hlt : Nat.blt dd n = true) (he : evc E ps qs) (hf : LF (bplace size) (zerosL zs len) qs cs)
    (k : ∀ b, Nx n D ((dd, .slice (some ⟨b, 0, none⟩) len len) :: E) B G (.blk b (.cells cs.toArray el (0, 0)) :: L) K) : Nx n D E B G L (ow P ⟨some dd, .buildSlice T len ps.toArray, ty, pos, aft, gd⟩ Q K) :=
  c_buildSlice hz hsz he hf.fill hsm hlt k
theorem g_bd {T : TypeId} {ps : List (Nat × Operand)} {qs : List (Nat × List Value)} {places : List (Nat × Nat)} {zs cs : List Value} [h : BT P T places zs] (he : evc E ps qs) (hf : LF (fun i => places[i]?) zs qs cs) :
    Gives P n D E M ⟨d, .build T ps.toArray, ty, pos, aft, gd⟩ (Ag cs) := g_build he hf.fill
end
end Go.E
