/- The calculus of this seat's proofs: what is laid down is found by the classes' search. Conditions: none. -/
import Derived.Test.YtcnkkjdnnajkbaaEngF
namespace Go.E
/-! ### Lists that come out clean -/
def clean : List Value → Option (List Value)
  | [] => some []
  | x :: r => match clean r with | some l => some (x :: l) | none => none
theorem clean_eq : ∀ {l l' : List Value}, clean l = some l' → l = l'
  | [], l', h => by simpa [clean] using h
  | x :: r, l', h => by
    unfold clean at h
    cases hr : clean r with
    | none => rw [hr] at h; cases h
    | some l => rw [hr] at h; simp only [Option.some.injEq] at h; rw [← h, clean_eq hr]
def cleanO : Option (List Value) → Option (List Value)
  | some l => clean l
  | none => none
theorem cleanO_eq {o : Option (List Value)} {l : List Value} (h : cleanO o = some l) : o = some l := by
  cases o with
  | none => cases h
  | some x => rw [clean_eq h]
def cellsC : Value → Option (List Value)
  | .agg cs => clean cs.toList
  | v => some [v]
theorem cellsC_eq {v : Value} {l : List Value} (h : cellsC v = some l) : v.cells = l.toArray := by
  unfold cellsC at h
  split at h
  · rename_i cs; rw [← clean_eq h]; simp [Value.cells]
  · rename_i hv; simp only [Option.some.injEq] at h; subst h; unfold Value.cells; split
    · rename_i cs; exact absurd rfl (hv cs)
    · rfl
def evF (E : Env) : List (Nat × Operand) → Option (List (Nat × List Value))
  | [] => some []
  | (i, x) :: r => match ev E x with
    | none => none
    | some v => match cellsC v with
      | none => none
      | some vc => match evF E r with
        | none => none
        | some s => some ((i, vc) :: s)
theorem evF_eq {E : Env} : ∀ {ps : List (Nat × Operand)} {qs : List (Nat × List Value)}, evF E ps = some qs → evc E ps qs
  | [], qs, h => by simp only [evF, Option.some.injEq] at h; subst h; trivial
  | (i, x) :: r, qs, h => by
    unfold evF at h
    cases hx : ev E x with
    | none => rw [hx] at h; cases h
    | some v =>
      cases hv : cellsC v with
      | none => simp only [hx, hv] at h; cases h
      | some vc =>
        cases hr : evF E r with
        | none => simp only [hx, hv, hr] at h; cases h
        | some s =>
          simp only [hx, hv, hr, Option.some.injEq] at h
          subst h
          exact ⟨rfl, ⟨v, hx, cellsC_eq hv⟩, evF_eq hr⟩
def putC : List Value → Nat → List Value → Option (List Value)
  | cs, 0, [] => some cs
  | _ :: cs, 0, v :: vs => match putC cs 0 vs with | some r => some (v :: r) | none => none
  | x :: cs, n + 1, v :: vs => match putC cs n (v :: vs) with | some r => some (x :: r) | none => none
  | _, _, _ => none
theorem putC_eq : ∀ {cs : List Value} {o : Nat} {vs cs' : List Value}, putC cs o vs = some cs' → PutsR cs o vs cs'
  | cs, 0, [], cs', h => by simp only [putC, Option.some.injEq] at h; subst h; exact .nil
  | _ :: cs, 0, v :: vs, cs', h => by
    unfold putC at h
    cases hr : putC cs 0 vs with
    | none => rw [hr] at h; cases h
    | some r => rw [hr] at h; simp only [Option.some.injEq] at h; subst h; exact .here (putC_eq hr)
  | _ :: cs, n + 1, v :: vs, cs', h => by
    unfold putC at h
    cases hr : putC cs n (v :: vs) with
    | none => rw [hr] at h; cases h
    | some r => rw [hr] at h; simp only [Option.some.injEq] at h; subst h; exact .there (putC_eq hr)
  | [], n + 1, v :: vs, cs', h => by simp [putC] at h
  | [], 0, v :: vs, cs', h => by simp [putC] at h
  | cs, n + 1, [], cs', h => by cases cs <;> simp [putC] at h

/-! ### Search -/
class BlkI (L : List Own) (b : Nat) (cs : outParam (List Value)) (T0 : outParam TypeId) (fr : outParam (Nat × Nat)) : Prop where
  mem : Own.blk b (.cells cs.toArray T0 fr) ∈ L
instance {b cs T0 fr r} : BlkI (.blk b (.cells (List.toArray cs) T0 fr) :: r) b cs T0 fr := ⟨.head _⟩
instance {b cs T0 fr z r} [h : BlkI r b cs T0 fr] : BlkI (z :: r) b cs T0 fr := ⟨.tail _ h.mem⟩
class AccI (L : List Own) (v : Value) (T : outParam TypeId) (sz m : outParam Nat) (xs : outParam (List Value)) (L' : outParam (List Own)) : Prop where
  del : Del (.acc v T sz m xs) L L'
instance {v T sz m xs r} : AccI (.acc v T sz m xs :: r) v T sz m xs r := ⟨.here⟩
instance {v T sz m xs z r r'} [h : AccI r v T sz m xs r'] : AccI (z :: r) v T sz m xs (z :: r') := ⟨.there h.del⟩
class UpdI (b : Nat) (cs' : List Value) (L : List Own) (cs : outParam (List Value)) (T0 : outParam TypeId) (L' : outParam (List Own)) : Prop where
  upd : UpdO (.blk b (.cells cs.toArray T0 (0, 0))) (.blk b (.cells cs'.toArray T0 (0, 0))) L L'
instance {b cs T0 cs' r} : UpdI b cs' (.blk b (.cells (List.toArray cs) T0 (0, 0)) :: r) cs T0 (.blk b (.cells (List.toArray cs') T0 (0, 0)) :: r) := ⟨.here⟩
instance {b cs T0 cs' z r r'} [h : UpdI b cs' r cs T0 r'] : UpdI b cs' (z :: r) cs T0 (z :: r') := ⟨.there h.upd⟩

section
variable {B : Base} {G : Gh} {L : List Own} {K : Act → World → Prop} {Q : Exit → Act → World → Prop}
variable {P : Program} {n : Nat} {D : List Deferred} {E : Env} {M : World → Prop} {d : Option Nat} {ty : TypeId} {pos : String} {aft : Array Edge} {gd : Option (Nat × Bool)} {dd : Nat}

theorem c_al {T : TypeId} {desc : TypeDesc} {size bytes : Nat} {zero : Value} {cs : List Value} [TI P T desc size bytes zero] (hz : cellsC zero = some cs) (hlt : Nat.blt dd n = true)
    (k : ∀ b, Nx n D ((dd, Pt b 0) :: E) B G (.blk b (.cells cs.toArray T (0, 0)) :: L) K) : Nx n D E B G L (ow P ⟨some dd, .alloc T, ty, pos, aft, gd⟩ Q K) := c_alloc (cellsC_eq hz) hlt k
theorem c_bx {T : TypeId} {x : Operand} {v : Value} {cs : List Value} (hx : ev E x = some v) (hz : cellsC v = some cs) (hlt : Nat.blt dd n = true)
    (k : ∀ b, Nx n D ((dd, Pt b 0) :: E) B G (.blk b (.cells cs.toArray T (0, 0)) :: L) K) : Nx n D E B G L (ow P ⟨some dd, .box T x, ty, pos, aft, gd⟩ Q K) := c_box hx (cellsC_eq hz) hlt k
theorem c_st1 {T T0 : TypeId} {x y : Operand} {desc : TypeDesc} {bytes : Nat} {zero v : Value} {b o : Nat} {cs cs' : List Value} {fr : Nat × Nat} {L' : List Own} [TI P T desc 1 bytes zero] [BlkI L b cs T0 fr] [hu : UpdI b cs' L cs T0 L'] (hx : ev E x = some (Pt b o)) (hy : ev E y = some v) (h1 : v.oneCell' = true)
    (hp : putC cs o [v] = some cs')
    (k : Nx n D E B G L' K) : Nx n D E B G L (ow P ⟨none, .store T x y, ty, pos, aft, gd⟩ Q K) := c_store1 hx hy h1 hu.upd (putC_eq hp) k
theorem c_stA {T T0 : TypeId} {x y : Operand} {desc : TypeDesc} {size bytes : Nat} {zero : Value} {b o : Nat} {cs vs cs' : List Value} {fr : Nat × Nat} {L' : List Own} [TI P T desc size bytes zero] [BlkI L b cs T0 fr] [hu : UpdI b cs' L cs T0 L'] (hx : ev E x = some (Pt b o)) (hy : ev E y = some (Ag vs)) (hl : Nat.beq vs.length size = true) (hne : vs.isEmpty = false) (h1 : all1 vs = true)
    (hp : putC cs o vs = some cs')
    (k : Nx n D E B G L' K) : Nx n D E B G L (ow P ⟨none, .store T x y, ty, pos, aft, gd⟩ Q K) := c_store hx hy rfl hl hne h1 hu.upd (putC_eq hp) k
theorem c_bsl {T el : TypeId} {len : Nat} {ps : List (Nat × Operand)} {qs : List (Nat × List Value)} {desc : TypeDesc} {size bytes size' bytes' : Nat} {zero zero' : Value} {zs cs : List Value} [TI P T (.slice el) size' bytes' zero'] [TI P el desc size bytes zero] (hz : cellsC zero = some zs)
    (hsz : Nat.beq zs.length size = true) (hsm : Nat.ble (len * size) 16777216 = true) (hlt : Nat.blt dd n = true) (he : evF E ps = some qs) (hf : cleanO (lfill (bplace size) (zerosL zs len) qs) = some cs)
    (k : ∀ b, Nx n D ((dd, .slice (some ⟨b, 0, none⟩) len len) :: E) B G (.blk b (.cells cs.toArray el (0, 0)) :: L) K) : Nx n D E B G L (ow P ⟨some dd, .buildSlice T len ps.toArray, ty, pos, aft, gd⟩ Q K) :=
  c_buildSlice (cellsC_eq hz) hsz (evF_eq he) (cleanO_eq hf) hsm hlt k
theorem g_bld {T : TypeId} {ps : List (Nat × Operand)} {qs : List (Nat × List Value)} {places : List (Nat × Nat)} {zs cs : List Value} [h : BT P T places zs] (he : evF E ps = some qs) (hf : cleanO (lfill (fun i => places[i]?) zs qs) = some cs) :
    Gives P n D E M ⟨d, .build T ps.toArray, ty, pos, aft, gd⟩ (Ag cs) := g_build (evF_eq he) (cleanO_eq hf)

/-! Reading -/
theorem g_ld {T T0 : TypeId} {x : Operand} {desc : TypeDesc} {size bytes : Nat} {zero : Value} {b o : Nat} {v : Value} {G0 : Gh} {L0 : List Own} {cs : List Value} {fr : Nat × Nat} [TI P T desc size bytes zero] [Kn M G0 L0] [h : BlkI L0 b cs T0 fr] (hx : ev E x = some (Pt b o)) (ha : aggD desc = false) (hc : cs[o]? = some v) :
    Gives P n D E M ⟨d, .load T x, ty, pos, aft, gd⟩ v := g_load hx ha (by have := (cells_own (S := M) h.mem).go o v hc; simpa using this)
def takeC (cs : List Value) (o k : Nat) : Option (List Value) := clean ((cs.drop o).take k)
theorem CellsOf.take {S : World → Prop} {b o k o' : Nat} {cs vs : List Value} (h : CellsOf S b o cs) (e : takeC cs o' k = some vs) : CellsOf S b (o + o') vs := CellsOf.mk fun i u hu => by
  have e1 := clean_eq e
  subst e1
  have hi : i < k := by
    rcases Nat.lt_or_ge i k with h1 | h1
    · exact h1
    · rw [List.getElem?_take] at hu; simp [Nat.not_lt.2 h1] at hu
  rw [List.getElem?_take_of_lt hi, List.getElem?_drop] at hu
  have := h.go (o' + i) u hu
  rwa [← Nat.add_assoc] at this
theorem g_ldA {T T0 : TypeId} {x : Operand} {desc : TypeDesc} {size bytes : Nat} {zero : Value} {b o : Nat} {vs : List Value} {G0 : Gh} {L0 : List Own} {cs : List Value} {fr : Nat × Nat} [TI P T desc size bytes zero] [Kn M G0 L0] [h : BlkI L0 b cs T0 fr] (hx : ev E x = some (Pt b o)) (ha : aggD desc = true) (hc : takeC cs o size = some vs) (hl : Nat.beq vs.length size = true) :
    Gives P n D E M ⟨d, .load T x, ty, pos, aft, gd⟩ (Ag vs) := g_loadA hx ha (Nat.eq_of_beq_eq_true hl) (by have := (cells_own (S := M) h.mem).take hc; simpa using this)
theorem g_ldS {T : TypeId} {x : Operand} {desc : TypeDesc} {size bytes : Nat} {zero : Value} {b o o' i : Nat} {v : Value} {G0 : Gh} {L0 : List Own} {cs : List Value} [TI P T desc size bytes zero] [Kn M G0 L0] (hx : ev E x = some (Pt b o)) (ha : aggD desc = false) (hs : Seg G0 b o' cs) (ho : o = o' + i) (hc : cs[i]? = some v) :
    Gives P n D E M ⟨d, .load T x, ty, pos, aft, gd⟩ v := g_load hx ha (by subst ho; exact (cells_seg hs).go i v hc)
theorem g_ldSA {T : TypeId} {x : Operand} {desc : TypeDesc} {size bytes : Nat} {zero : Value} {b o o' i : Nat} {vs : List Value} {G0 : Gh} {L0 : List Own} {cs : List Value} [TI P T desc size bytes zero] [Kn M G0 L0] (hx : ev E x = some (Pt b o)) (ha : aggD desc = true) (hs : Seg G0 b o' cs) (ho : o = o' + i) (hc : takeC cs i size = some vs) (hl : Nat.beq vs.length size = true) :
    Gives P n D E M ⟨d, .load T x, ty, pos, aft, gd⟩ (Ag vs) := g_loadA hx ha (Nat.eq_of_beq_eq_true hl) (by subst ho; exact (cells_seg hs).take hc)
theorem g_lnA {x : Operand} {T el : TypeId} {size bytes : Nat} {zero v : Value} {sz m : Nat} {xs : List Value} {G0 : Gh} {L0 L1 : List Own} [TI P T (.slice el) size bytes zero] [Kn M G0 L0] [h : AccI L0 v el sz m xs L1] (hx : ev E x = some v) :
    Gives P n D E M ⟨d, .call ⟨.builtin .len, [x].toArray, [T].toArray⟩, ty, pos, aft, gd⟩ (I m) := g_lenA (P := P) (G0 := G0) (T := T) (el := el) (size := size) (bytes := bytes) (zero := zero) hx h.del.mem
/-! Bytes to strings -/
theorem g_bsB {x : Operand} {T T' el T0 : TypeId} {s1 b1 s2 b2 s3 b3 b m c : Nat} {z1 z2 z3 : Value} {l : List UInt8} {G0 : Gh} {L0 : List Own} {cs : List Value} {fr : Nat × Nat} [TI P T (.slice el) s1 b1 z1] [TI P T' .string s2 b2 z2] [TI P el (.int .u8) s3 b3 z3] [Kn M G0 L0] [h : BlkI L0 b cs T0 fr]
    (hx : ev E x = some (.slice (some ⟨b, 0, none⟩) m c)) (hl : Nat.beq cs.length (m * 1) = true) (hb : BL cs l) : Gives P n D E M ⟨d, .convert T T' x, ty, pos, aft, gd⟩ (S l) :=
  g_b2sL (s1 := s1) (b1 := b1) (z1 := z1) (s2 := s2) (b2 := b2) (z2 := z2) (s3 := s3) (b3 := b3) (z3 := z3) (el := el) hx (src_cells hl (cells_own h.mem)) hb
theorem g_bsA {x : Operand} {T T' el : TypeId} {s1 b1 s2 b2 s3 b3 m : Nat} {z1 z2 z3 v : Value} {l : List UInt8} {G0 : Gh} {L0 L1 : List Own} {xs : List Value} [TI P T (.slice el) s1 b1 z1] [TI P T' .string s2 b2 z2] [TI P el (.int .u8) s3 b3 z3] [kn : Kn M G0 L0] [h : AccI L0 v el 1 m xs L1]
    (hx : ev E x = some v) (hb : BL xs l) : Gives P n D E M ⟨d, .convert T T' x, ty, pos, aft, gd⟩ (S l) := Gives.mk fun a w hs hw => by
  obtain ⟨B, G, L, _, hL, hst⟩ := kn.kn w hw
  obtain ⟨h1, h2⟩ : AccAt w v el 1 m xs := hst.own _ (hL _ h.del.mem)
  refine (g_b2sL (P := P) (s1 := s1) (b1 := b1) (z1 := z1) (s2 := s2) (b2 := b2) (z2 := z2) (s3 := s3) (b3 := b3) (z3 := z3) (el := el) hx (src_acc h.del.mem ?_ h1) hb).go a w hs hw
  rcases h2 with h2 | ⟨b', cap', rest, rfl, h3, _⟩
  · exact .inl h2
  · exact .inr ⟨b', cap', rfl, h3⟩
theorem g_bsN {x : Operand} {T T' el : TypeId} {s1 b1 s2 b2 s3 b3 : Nat} {z1 z2 z3 : Value} [TI P T (.slice el) s1 b1 z1] [TI P T' .string s2 b2 z2] [TI P el (.int .u8) s3 b3 z3]
    (hx : ev E x = some nilS) : Gives P n D E M ⟨d, .convert T T' x, ty, pos, aft, gd⟩ (S []) :=
  g_b2sL (s1 := s1) (b1 := b1) (z1 := z1) (s2 := s2) (b2 := b2) (z2 := z2) (s3 := s3) (b3 := b3) (z3 := z3) (el := el) hx src_nil .nil
/-! Appending -/
theorem c_apB {v : Value} {m k b c : Nat} {s x : Operand} {T el T0 : TypeId} {desc : TypeDesc} {size bytes s1 b1 : Nat} {z1 zero : Value} {zs xs news : List Value} {fr : Nat × Nat} {L' : List Own} [TI P T (.slice el) s1 b1 z1] [TI P el desc size bytes zero] [ha : AccI L v el size m xs L'] [hb' : BlkI L b news T0 fr]
    (hs : ev E s = some v) (hx : ev E x = some (.slice (some ⟨b, 0, none⟩) k c)) (hl : Nat.beq news.length (k * size) = true) (h1 : all1 news = true)
    (hz : cellsC zero = some zs) (hzl : Nat.beq zs.length size = true) (hb0 : Nat.beq bytes 0 = false) (hlt : Nat.blt dd n = true) (hb : (2 * (m + k) + 768) * bytes ≤ 281474976710656)
    (kk : ∀ v', Nx n D ((dd, v') :: E) B G (.acc v' el size (m + k) (xs ++ news) :: L') K) :
    Nx n D E B G L (ow P ⟨some dd, .call ⟨.builtin .append, [s, x].toArray, [T, T].toArray⟩, ty, pos, aft, gd⟩ Q K) :=
  c_append hs hx ha.del (src_cells hl (cells_own hb'.mem)) h1 (cellsC_eq hz) hzl hb0 hb hlt kk
theorem c_ap0B {k b c : Nat} {s x : Operand} {T el T0 : TypeId} {desc : TypeDesc} {size bytes s1 b1 : Nat} {z1 zero : Value} {zs news : List Value} {fr : Nat × Nat} [TI P T (.slice el) s1 b1 z1] [TI P el desc size bytes zero] [hb' : BlkI L b news T0 fr]
    (hs : ev E s = some nilS) (hx : ev E x = some (.slice (some ⟨b, 0, none⟩) k c)) (hl : Nat.beq news.length (k * size) = true) (h1 : all1 news = true)
    (hz : cellsC zero = some zs) (hzl : Nat.beq zs.length size = true) (hb0 : Nat.beq bytes 0 = false) (hlt : Nat.blt dd n = true) (hb : (2 * k + 768) * bytes ≤ 281474976710656)
    (kk : ∀ v', Nx n D ((dd, v') :: E) B G (.acc v' el size k news :: L) K) :
    Nx n D E B G L (ow P ⟨some dd, .call ⟨.builtin .append, [s, x].toArray, [T, T].toArray⟩, ty, pos, aft, gd⟩ Q K) :=
  c_append0 hs hx (src_cells hl (cells_own hb'.mem)) h1 (cellsC_eq hz) hzl hb0 hb hlt kk
theorem c_apV {v src : Value} {m k sz : Nat} {s x : Operand} {T el : TypeId} {desc : TypeDesc} {size bytes s1 b1 : Nat} {z1 zero : Value} {zs xs news : List Value} {L' : List Own} [TI P T (.slice el) s1 b1 z1] [TI P el desc size bytes zero] [ha : AccI L v el size m xs L']
    (hs : ev E s = some v) (hx : ev E x = some src) (hsrc : SlV G src sz k news) (he : Nat.beq sz size = true) (h1 : all1 news = true)
    (hz : cellsC zero = some zs) (hzl : Nat.beq zs.length size = true) (hb0 : Nat.beq bytes 0 = false) (hlt : Nat.blt dd n = true) (hb : (2 * (m + k) + 768) * bytes ≤ 281474976710656)
    (kk : ∀ v', Nx n D ((dd, v') :: E) B G (.acc v' el size (m + k) (xs ++ news) :: L') K) :
    Nx n D E B G L (ow P ⟨some dd, .call ⟨.builtin .append, [s, x].toArray, [T, T].toArray⟩, ty, pos, aft, gd⟩ Q K) := by
  have := Nat.eq_of_beq_eq_true he; subst this
  exact c_append hs hx ha.del hsrc.src h1 (cellsC_eq hz) hzl hb0 hb hlt kk
end
end Go.E
