/- The calculus of this seat's proofs: bytes of sealed slices, more arithmetic. Conditions: none. -/
import Derived.Test.YtcnkkjdnnajkbaaEngJ
namespace Go.E
section
variable {P : Program} {n : Nat} {D : List Deferred} {E : Env} {M : World → Prop} {d : Option Nat} {ty : TypeId} {pos : String} {aft : Array Edge} {gd : Option (Nat × Bool)}
theorem u8s_get {l : List UInt8} {i : Nat} (h : i < l.length) : (u8s l)[i]? = some (U8 (bt l i)) := by
  simp [u8s, bt, List.getD, List.getElem?_eq_getElem h]
theorem g_ldU {T : TypeId} {x : Operand} {size bytes : Nat} {zero : Value} {b o i : Nat} {G0 : Gh} {L0 : List Own} {l : List UInt8} [TI P T (.int .u8) size bytes zero] [Kn M G0 L0] (hx : ev E x = some (Pt b (o + i * 1))) (hs : Seg G0 b o (u8s l)) (hi : i < l.length) :
    Gives P n D E M ⟨d, .load T x, ty, pos, aft, gd⟩ (U8 (bt l i)) := g_load (desc := .int .u8) (size := size) (bytes := bytes) (zero := zero) hx rfl (by rw [Nat.mul_one]; exact (cells_seg hs).go i _ (u8s_get hi))
def xorI (a b : Int) : Int := ((a.toNat ^^^ b.toNat : Nat) : Int)
theorem xorI_nn (a b : Int) : 0 ≤ xorI a b := Int.natCast_nonneg _
theorem xorI_lt {a b : Int} (ha : a < 4611686018427387904) (hb : b < 4611686018427387904) : 0 ≤ xorI a b ∧ xorI a b < 4611686018427387904 := by
  have := Nat.xor_lt_two_pow (x := a.toNat) (y := b.toNat) (n := 62) (by omega) (by omega)
  unfold xorI; omega
theorem g_xorP {T T' : TypeId} {x y : Operand} {a b : Int} (hx : ev E x = some (I a)) (hy : ev E y = some (I b)) (h : (0 ≤ a ∧ a < 4611686018427387904) ∧ 0 ≤ b ∧ b < 4611686018427387904) : Gives P n D E M ⟨d, .binOp .xor T x y T', ty, pos, aft, gd⟩ (I (xorI a b)) := by
  have e : IntKind.i64.wrap ((BitVec.ofInt 64 a ^^^ BitVec.ofInt 64 b).toNat) = xorI a b := by
    have h1 : (BitVec.ofInt 64 a ^^^ BitVec.ofInt 64 b).toNat = a.toNat ^^^ b.toNat := by
      rw [BitVec.toNat_xor, BitVec.toNat_ofInt, BitVec.toNat_ofInt]
      congr 1 <;> omega
    have h2 := xorI_lt h.1.2 h.2.2
    rw [h1]
    exact wrap_in (x := xorI a b) (by omega)
  rw [← e]; exact g_xorI hx hy
end
theorem Seg.take {G : Gh} {b o : Nat} {vs : List Value} (h : Seg G b o vs) (k : Nat) : Seg G b o (vs.take k) := by
  obtain ⟨cs, h1, h2⟩ := h
  refine ⟨cs, h1, fun i v hv => ?_⟩
  have hi : i < k := by
    rcases Nat.lt_or_ge i k with h3 | h3
    · exact h3
    · rw [List.getElem?_take] at hv; simp [Nat.not_lt.2 h3] at hv
  rw [List.getElem?_take_of_lt hi] at hv
  exact h2 i v hv
/-- What an owned slice's value looks like. -/
def Shp (v : Value) (m : Nat) : Prop := v = nilS ∧ m = 0 ∨ ∃ b cap, v = .slice (some ⟨b, 0, none⟩) m cap ∧ m ≤ cap
theorem Shp.pos {v : Value} {m : Nat} (h : Shp v m) (hm : m ≠ 0) : ∃ b cap, v = .slice (some ⟨b, 0, none⟩) m cap := by
  rcases h with ⟨_, h⟩ | ⟨b, cap, h, _⟩
  · exact absurd h hm
  · exact ⟨b, cap, h⟩
class AccB (L : List Own) (b : Nat) (m cap : outParam Nat) (T : outParam TypeId) (sz : outParam Nat) (xs : outParam (List Value)) : Prop where
  mem : Own.acc (.slice (some ⟨b, 0, none⟩) m cap) T sz m xs ∈ L
instance {b m cap : Nat} {T : TypeId} {sz : Nat} {xs : List Value} {r : List Own} : AccB (.acc (.slice (some ⟨b, 0, none⟩) m cap) T sz m xs :: r) b m cap T sz xs := ⟨.head _⟩
instance {b m cap : Nat} {T : TypeId} {sz : Nat} {xs : List Value} {z : Own} {r : List Own} [h : AccB r b m cap T sz xs] : AccB (z :: r) b m cap T sz xs := ⟨.tail _ h.mem⟩
section
variable {P : Program} {n : Nat} {D : List Deferred} {E : Env} {M : World → Prop} {d : Option Nat} {ty : TypeId} {pos : String} {aft : Array Edge} {gd : Option (Nat × Bool)}
theorem g_ldB {T T0 : TypeId} {x : Operand} {desc : TypeDesc} {size bytes : Nat} {zero : Value} {b o m cap sz : Nat} {v : Value} {G0 : Gh} {L0 : List Own} {xs : List Value} [TI P T desc size bytes zero] [Kn M G0 L0] [h : AccB L0 b m cap T0 sz xs] (hx : ev E x = some (Pt b o)) (ha : aggD desc = false) (hc : xs[o]? = some v) :
    Gives P n D E M ⟨d, .load T x, ty, pos, aft, gd⟩ v := g_load hx ha (by have := (cells_acc (S := M) h.mem).go o v hc; simpa using this)
theorem g_ldBA {T T0 : TypeId} {x : Operand} {desc : TypeDesc} {size bytes : Nat} {zero : Value} {b o m cap sz : Nat} {vs : List Value} {G0 : Gh} {L0 : List Own} {xs : List Value} [TI P T desc size bytes zero] [Kn M G0 L0] [h : AccB L0 b m cap T0 sz xs] (hx : ev E x = some (Pt b o)) (ha : aggD desc = true) (hc : takeC xs o size = some vs) (hl : Nat.beq vs.length size = true) :
    Gives P n D E M ⟨d, .load T x, ty, pos, aft, gd⟩ (Ag vs) := g_loadA hx ha (Nat.eq_of_beq_eq_true hl) (by have := (cells_acc (S := M) h.mem).take hc; simpa using this)
end
theorem Nx.shp {n : Nat} {D : List Deferred} {E : Env} {B : Base} {G : Gh} {L : List Own} {K : Act → World → Prop} {v : Value} {T : TypeId} {sz m : Nat} {xs : List Value} (hm : Own.acc v T sz m xs ∈ L) (h : Shp v m → Nx n D E B G L K) : Nx n D E B G L K :=
  Nx.acc hm fun _ hs => h hs
/-- A contract that leaves what is sealed as it is. -/
def FnG (P : Program) (f : FuncId) (args : List Value) (G : Gh) (L : List Own) (R : Value → List Own → Prop) : Prop := Fn P f args G L (fun v G' L' => G' = G ∧ R v L')
section
variable {P : Program} {n : Nat} {D : List Deferred} {E : Env} {B : Base} {G : Gh} {L : List Own} {K : Act → World → Prop} {Q : Exit → Act → World → Prop}
theorem c_m1g {fo : Operand} {l : List Operand} {tys : Array TypeId} {d : Nat} {ty : TypeId} {pos : String} {aft : Array Edge} {g : Option (Nat × Bool)} {f : FuncId} {fi ca as vs : List Value} {b : Nat} {cs : List Value} {T : TypeId} {R : List Own} {Post : Value → List Own → Prop}
    [hd : DelB L b cs T R] (hf : ev E fo = some (.func (.func f) fi.toArray ca.toArray)) (ha : evs E l = some as) (hv : fi ++ as ++ ca = vs) (hc : FnG P f vs G [.blk b (.cells cs.toArray T (0, 0))] Post) (hlt : Nat.blt d n = true)
    (k : ∀ v L', Post v L' → Nx n D ((d, v) :: E) B G (L' ++ R) K) : Nx n D E B G L (ow P ⟨some d, .call ⟨.value fo, l.toArray, tys⟩, ty, pos, aft, g⟩ Q K) :=
  c_m1 hf ha hv hc hlt fun v G' L' h => by obtain ⟨rfl, h⟩ := h; exact k v L' h
theorem c_fng {fo : Operand} {l : List Operand} {tys : Array TypeId} {d : Nat} {ty : TypeId} {pos : String} {aft : Array Edge} {g : Option (Nat × Bool)} {f : FuncId} {fi ca as vs : List Value} {Post : Value → List Own → Prop}
    (hf : ev E fo = some (.func (.func f) fi.toArray ca.toArray)) (ha : evs E l = some as) (hv : fi ++ as ++ ca = vs) (hc : FnG P f vs G [] Post) (hlt : Nat.blt d n = true)
    (k : ∀ v L', Post v L' → Nx n D ((d, v) :: E) B G (L' ++ L) K) : Nx n D E B G L (ow P ⟨some d, .call ⟨.value fo, l.toArray, tys⟩, ty, pos, aft, g⟩ Q K) :=
  c_fn hf ha hv hc hlt fun v G' L' h => by obtain ⟨rfl, h⟩ := h; exact k v L' h
theorem g_enter {f : FuncId} {fn : Func} {c : Code} {args : List Value} {R : Value → List Own → Prop} (E0 : Env) (hf : P.funcs[f]? = some fn) (hok : bodyOk P f = true) (hn : fn.ntmps = n) (hb : fn.body = some c)
    (hlen : Nat.ble args.length n = true) (hE : Sub E0 (params 0 args))
    (h : ∀ B, B.G = G → B.W = bks L → Nx n [] E0 B G L (cu P (.code c) [] (bp P fn (RPost B (fun v G' L' => G' = G ∧ R v L'))))) : FnG P f args G L R := c_enter E0 hf hok hn hb hlen hE h
end
/-- A reader of drawn bytes. -/
abbrev rdO (b : Nat) (code : Value) (p : Int) (T : TypeId) : Own := .blk b (.cells (List.toArray [code, I p]) T (0, 0))
end Go.E
