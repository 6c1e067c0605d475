/- Contracts and plain laws that the statement rests on, part 2. Conditions: as each says. -/
import Derived.Test.YtbcgjaeojhpmbaaGreatDoorW1
set_option linter.unusedVariables false
set_option linter.unusedSimpArgs false
namespace Go.E
section
variable {P : Program} {n : Nat} {D : List Deferred} {E : Env} {M : World → Prop} {d : Option Nat} {ty : TypeId} {pos : String} {aft : Array Edge} {gd : Option (Nat × Bool)}
theorem g_cap {x : Operand} {T el : TypeId} {size bytes : Nat} {zero : Value} {p : Option Addr} {len cap : Nat} [TI P T (.slice el) size bytes zero] (hx : ev E x = some (.slice p len cap)) : Gives P n D E M ⟨d, .call ⟨.builtin .cap, [x].toArray, [T].toArray⟩, ty, pos, aft, gd⟩ (I cap) := Gives.mk fun a w hs _ => by
 simp [execOp, resolve, hs.ev hx, invoke, builtin, Builtin.cap_, run_und (T := T) (desc := .slice el) (size := size) (bytes := bytes) (zero := zero), goInt]
theorem g_slF {T el : TypeId} {x lo : Operand} {desc' : TypeDesc} {size bytes size' bytes' : Nat} {zero zero' : Value} {k : IntKind} {m : Int} {b o len cap : Nat} [TI P T (.slice el) size bytes zero] [TI P el desc' size' bytes' zero']
  (hx : ev E x = some (.slice (some ⟨b, o, none⟩) len cap)) (hl : ev E lo = some (.int k m)) (h0 : 0 ≤ m ∧ m ≤ len ∧ m < cap) :
  Gives P n D E M ⟨d, .slice T x (some lo) none none, ty, pos, aft, gd⟩ (.slice (some ⟨b, o + m.toNat * size', none⟩) (len - m.toNat) (cap - m.toNat)) := by
 obtain ⟨o', h1, h2⟩ := g_slFrom (P := P) (n := n) (D := D) (M := M) (d := d) (ty := ty) (pos := pos) (aft := aft) (gd := gd) (T := T) (el := el) (desc' := desc') (size' := size') (bytes' := bytes') (zero' := zero') (size := size) (bytes := bytes) (zero := zero) hx hl ⟨h0.1, h0.2.1⟩
 rw [← h1 h0.2.2]; exact h2
theorem shape_own {S : World → Prop} {G0 : Gh} {L0 : List Own} [k : Kn S G0 L0] {b : Nat} {cs : List Value} {T0 : TypeId} {fr : Nat × Nat} (hm : Own.blk b (.cells cs.toArray T0 fr) ∈ L0) {w : World} (hw : S w) : w.shape? b = some (T0, cs.length) := by
 obtain ⟨B, G, L, _, hL, hst⟩ := k.kn w hw
 have h : w.heap[b]? = some (.cells cs.toArray T0 fr) := hst.own _ (hL _ hm)
 simp [World.shape?, h]
theorem g_toU {T T' t T0 : TypeId} {x : Operand} {b s1 b1 js jb : Nat} {z1 jz : Value} {jd : TypeDesc} {G0 : Gh} {L0 : List Own} {cs : List Value} {fr : Nat × Nat} [t1 : TI P T (.pointer t) s1 b1 z1] [t2 : TI P t jd js jb jz] [Kn M G0 L0] [h : BlkI L0 b cs T0 fr]
  (hd : P.underlying T' = some .unsafePointer) (hx : ev E x = some (Pt b 0)) (hj : Nat.beq js 0 = false) (hc : cs.isEmpty = false) : Gives P n D E M ⟨d, .convert T T' x, ty, pos, aft, gd⟩ (Pt b 0) := Gives.mk fun a w hs hw => by
 obtain ⟨j, hj1, hj2, _, _⟩ := t2.inf
 have hl : 0 < cs.length := by cases cs with | nil => cases hc | cons => simp
 have := Lib.run_to_unsafe (P := P) w (src := T) (dst := T') (t := t) (j := j) ⟨b, 0, none⟩ t1.und hd hj1 (by rw [hj2]; intro e; subst e; simp at hj) (shape_own (S := M) h.mem hw) hl
 simp only [execOp, hs.ev hx, Sem.run_bind, this, Result.andThen_ok, Sem.run_pure]
theorem g_fromU {T T' t T0 : TypeId} {x : Operand} {b s1 b1 js jb : Nat} {z1 jz : Value} {jd : TypeDesc} {G0 : Gh} {L0 : List Own} {cs : List Value} {fr : Nat × Nat} [t1 : TI P T' (.pointer t) s1 b1 z1] [t2 : TI P t jd js jb jz] [Kn M G0 L0] [h : BlkI L0 b cs T0 fr]
  (hd : P.underlying T = some .unsafePointer) (hx : ev E x = some (Pt b 0)) (hl : liesAt P P.depth T0 (cs.length / P.cellsOf T0) 0 t 1 = true) : Gives P n D E M ⟨d, .convert T T' x, ty, pos, aft, gd⟩ (Pt b 0) := Gives.mk fun a w hs hw => by
 obtain ⟨j, hj1, _, _, _⟩ := t2.inf
 have := Lib.run_from_unsafe (P := P) w (src := T) (dst := T') (u := t) (j := j) ⟨b, 0, none⟩ hd t1.und hj1 (shape_own (S := M) h.mem hw) hl
 simp only [execOp, hs.ev hx, Sem.run_bind, this, Result.andThen_ok, Sem.run_pure]
theorem g_pneS {T T' el : TypeId} {x y : Operand} {size bytes js jb : Nat} {zero jz : Value} {jd : TypeDesc} {p : Addr} [t1 : TI P T (.pointer el) size bytes zero] [t2 : TI P el jd js jb jz] (hx : ev E x = some (.pointer (some p))) (hy : ev E y = some (.pointer (some p))) : Gives P n D E M ⟨d, .binOp .neq T x y T', ty, pos, aft, gd⟩ (Bo false) := g_bin hx hy rfl fun w => by
 obtain ⟨j, hj1, _, _, _⟩ := t2.inf
 exact Lib.run_neq_ptr_same w p t1.und hj1
theorem g_copy0 {T T' el : TypeId} {x y : Operand} {s1 b1 js jb : Nat} {z1 jz : Value} {jd : TypeDesc} {b o m c : Nat} [t1 : TI P T (.slice el) s1 b1 z1] [t2 : TI P el jd js jb jz] (hx : ev E x = some (.slice (some ⟨b, o, none⟩) m c)) (hy : ev E y = some nilS) :
  Gives P n D E M ⟨d, .call ⟨.builtin .copy, [x, y].toArray, [T, T'].toArray⟩, ty, pos, aft, gd⟩ (I (0 : Nat)) := Gives.mk fun a w hs _ => by
 obtain ⟨j, hj1, _, _, _⟩ := t2.inf
 have h1 := run_copy_nil (P := P) w T T' ty el ⟨b, o, none⟩ m c t1.und (by rw [hj1]; rfl)
 have e1 : ([x, y].toArray.map a.eval) = #[.slice (some ⟨b, o, none⟩) m c, nilS] := by simp [hs.ev hx, hs.ev hy]
 simp only [execOp, resolve, e1, Sem.run_bind, Sem.run_pure, Result.andThen_ok, invoke, builtin, h1]
 rfl
theorem g_sdat {T : TypeId} {x : Operand} {b o m c : Nat} (hx : ev E x = some (.slice (some ⟨b, o, none⟩) m c)) (hc : Nat.beq c 0 = false) : Gives P n D E M ⟨d, .call ⟨.builtin .unsafeSliceData, [x].toArray, [T].toArray⟩, ty, pos, aft, gd⟩ (Pt b o) := Gives.mk fun a w hs _ => by
 have h1 := Lib.run_unsafeSliceData_row (P := P) w #[T] ty ⟨b, o, none⟩ m c (by rintro rfl; simp at hc)
 have e1 : ([x].toArray.map a.eval) = #[.slice (some ⟨b, o, none⟩) m c] := by simp [hs.ev hx]
 simp only [execOp, resolve, e1, Sem.run_bind, Sem.run_pure, Result.andThen_ok, invoke, builtin, h1]
theorem g_sdat0 {T : TypeId} {x : Operand} (hx : ev E x = some nilS) : Gives P n D E M ⟨d, .call ⟨.builtin .unsafeSliceData, [x].toArray, [T].toArray⟩, ty, pos, aft, gd⟩ (.pointer none) := Gives.mk fun a w hs _ => by
 have h1 := Lib.run_unsafeSliceData_nil (P := P) w #[T] ty 0 0
 have e1 : ([x].toArray.map a.eval) = #[nilS] := by simp [hs.ev hx]
 simp only [execOp, resolve, e1, Sem.run_bind, Sem.run_pure, Result.andThen_ok, invoke, builtin, h1]
theorem g_ustr0 {T T' : TypeId} {x y : Operand} {p : Option Addr} (hx : ev E x = some (.pointer p)) (hy : ev E y = some (I (0 : Nat))) : Gives P n D E M ⟨d, .call ⟨.builtin .unsafeString, [x, y].toArray, [T, T'].toArray⟩, ty, pos, aft, gd⟩ (S []) := Gives.mk fun a w hs _ => by
 have h1 := Lib.run_unsafeString_none (P := P) w T T' ty p
 have e1 : ([x, y].toArray.map a.eval) = #[.pointer p, .int .i64 0] := by simp [hs.ev hx, hs.ev hy]
 simp only [execOp, resolve, e1, Sem.run_bind, Sem.run_pure, Result.andThen_ok, invoke, builtin, h1]
 rfl
end
section
variable {P : Program} {n : Nat} {D : List Deferred} {E : Env} {B : Base} {G : Gh} {L : List Own} {K : Act → World → Prop} {Q : Exit → Act → World → Prop} {ty : TypeId} {pos : String} {aft : Array Edge} {gd : Option (Nat × Bool)} {d : Nat}
theorem St.freeze {w : World} {b m cap : Nat} {T : TypeId} {xs : List Value} (h : St B G (.acc (.slice (some ⟨b, 0, none⟩) m cap) T 1 m xs :: L) w) (k : Nat) : St B G L (w.freeze ⟨b, 0, none⟩ k) := by
 obtain ⟨h1, ⟨h2, _⟩ | ⟨b', cap', rest, e, hc, hl, hb⟩⟩ : AccAt w _ T 1 m xs := h.own _ List.mem_cons_self
 ·cases h2
 simp only [Value.slice.injEq, Option.some.injEq, Addr.mk.injEq, and_true, true_and] at e
 obtain ⟨rfl, rfl⟩ := e
 unfold World.freeze
 by_cases hk : k = 0
 ·rw [if_pos hk]; exact h.weaken (List.sublist_cons_self _ _)
 ·rw [if_neg hk]
  have h2 := h.upd (y := .blk b (.cells (xs ++ rest).toArray T (0, k))) (w' := { w with heap := w.heap.modify b fun | .cells c elem (lo, hi) => .cells c elem (if lo == hi then (0, 0 + k) else (min lo 0, max hi (0 + k))) | o => o }) (b := b) rfl rfl (by
   show (w.heap.modify b _)[b]? = _
   rw [Array.getElem?_modify, if_pos rfl, hb]
   simp) (fun c hc => by
    show (w.heap.modify b _)[c]? = _
    rw [Array.getElem?_modify, if_neg (fun e => hc e.symm)]) rfl rfl rfl (by simp)
  exact h2.weaken (List.sublist_cons_self _ _)
class AccD (L : List Own) (b : Nat) (m cap : outParam Nat) (T : outParam TypeId) (sz : outParam Nat) (xs : outParam (List Value)) (L' : outParam (List Own)) : Prop where
 del : Del (.acc (.slice (some ⟨b, 0, none⟩) m cap) T sz m xs) L L'
instance {b m cap : Nat} {T : TypeId} {sz : Nat} {xs : List Value} {r : List Own} : AccD (.acc (.slice (some ⟨b, 0, none⟩) m cap) T sz m xs :: r) b m cap T sz xs r := ⟨.here⟩
instance {b m cap : Nat} {T : TypeId} {sz : Nat} {xs : List Value} {z : Own} {r r' : List Own} [h : AccD r b m cap T sz xs r'] : AccD (z :: r) b m cap T sz xs (z :: r') := ⟨.there h.del⟩
theorem c_ustr {T T' el : TypeId} {x y : Operand} {b m cap s1 b1 s2 b2 : Nat} {z1 z2 : Value} {l : List UInt8} {L' : List Own} [t1 : TI P T (.pointer el) s1 b1 z1] [t2 : TI P el (.int .u8) s2 b2 z2] [ha : AccD L b m cap el 1 (u8s l) L']
  (hc1 : P.cellsOf el = 1) (hx : ev E x = some (Pt b 0)) (hy : ev E y = some (I (m : Nat))) (hlt : Nat.blt d n = true) (hm : m ≤ 9223372036854775807)
  (k : Nx n D ((d, S l) :: E) B G L' K) : Nx n D E B G L (ow P ⟨some d, .call ⟨.builtin .unsafeString, [x, y].toArray, [T, T'].toArray⟩, ty, pos, aft, gd⟩ Q K) := Nx.mk fun a w hs hw => by
 have hw1 := hw.perm ha.del.perm
 have hat : AccAt w (.slice (some ⟨b, 0, none⟩) m cap) el 1 m (u8s l) := hw1.own _ List.mem_cons_self
 obtain ⟨h1, ⟨h2, _⟩ | ⟨b', cap', rest, e, hc, hl, hb⟩⟩ := hat
 ·cases h2
 simp only [Value.slice.injEq, Option.some.injEq, Addr.mk.injEq, and_true, true_and] at e
 obtain ⟨rfl, rfl⟩ := e
 have hlm : l.length = m := by simpa [u8s] using h1
 have e1 : ([x, y].toArray.map a.eval) = #[.pointer (some ⟨b, 0, none⟩), .int .i64 (m : Nat)] := by simp [hs.ev hx, hs.ev hy]
 unfold ow Oper.wp
 by_cases h0 : l = []
 ·subst h0
  have hm0 : m = 0 := by simpa using hlm.symm
  subst hm0
  have hr := Lib.run_unsafeString_none (P := P) w T T' ty (some ⟨b, 0, none⟩)
  have : (execOp a.eval ⟨some d, .call ⟨.builtin .unsafeString, [x, y].toArray, [T, T'].toArray⟩, ty, pos, aft, gd⟩).run P w = .ok (.value (S [])) w := by
   simp only [execOp, resolve, e1, Sem.run_bind, Sem.run_pure, Result.andThen_ok, invoke, builtin]
   have hr' : (Builtin.unsafeString_ [T, T'].toArray ty #[.pointer (some ⟨b, 0, none⟩), .int .i64 ((0 : Nat) : Int)]).run P w = .ok (.string .empty) w := hr
   rw [hr']; rfl
  rw [this, Oper.upon_value]
  exact k.go _ w (hs.put (by simpa using hlt)) (hw1.weaken (List.sublist_cons_self _ _))
 ·have hcell : ∀ j x, l[j]? = some x → w.cell? ((⟨b, 0, none⟩ : Addr).add j) = some (.int .u8 x.toNat) := fun j x hj => by
   have hv : (u8s l)[j]? = some (.int .u8 x.toNat) := by simp [u8s, hj]
   rw [addr_add]
   exact ((cells_acc (S := St B G (.acc (.slice (some ⟨b, 0, none⟩) m cap) el 1 m (u8s l) :: L')) (m := m) (cap := cap) (T := el) (sz := 1) (xs := u8s l) List.mem_cons_self).go j _ hv).go w hw1
  have hsh : w.shape? b = some (el, (u8s l ++ rest).length) := by simp [World.shape?, hb]
  have hr := Lib.run_unsafeString_row (P := P) w T T' ty el t1.und hc1 b _ hsh l h0 (by simp [u8s]) (by omega) hcell
  have : (execOp a.eval ⟨some d, .call ⟨.builtin .unsafeString, [x, y].toArray, [T, T'].toArray⟩, ty, pos, aft, gd⟩).run P w = .ok (.value (S l)) (w.freeze ⟨b, 0, none⟩ l.length) := by
   simp only [execOp, resolve, e1, Sem.run_bind, Sem.run_pure, Result.andThen_ok, invoke, builtin]
   have hr' : (Builtin.unsafeString_ [T, T'].toArray ty #[.pointer (some ⟨b, 0, none⟩), .int .i64 (m : Nat)]).run P w = .ok (S l) (w.freeze ⟨b, 0, none⟩ l.length) := by rw [← hlm]; exact hr
   rw [hr']; rfl
  rw [this, Oper.upon_value]
  exact k.go _ _ (hs.put (by simpa using hlt)) (hw1.freeze _)
theorem strCells_u8s (l : List UInt8) : Lib.strCells ⟨l.toArray⟩ = u8s l := by simp [Lib.strCells, u8s]
theorem run_apS {v : Value} {m : Nat} {T T2 el : TypeId} {s1 b1 s2 b2 : Nat} {z1 z2 : Value} {xs : List Value} {l : List UInt8} {w : World} {R : List Own} [h1' : TI P T (.slice el) s1 b1 z1] [h2' : TI P T2 .string s2 b2 z2] [he : TI P el (.int .u8) 1 1 (.int .u8 0)]
  (hb : m + l.length ≤ 1000000000) (hw : St B G (.acc v el 1 m xs :: R) w) :
  ∃ v' w', (Builtin.append_ #[T, T2] ty #[v, S l]).run P w = .ok v' w' ∧ St B G (.acc v' el 1 (m + l.length) (xs ++ u8s l) :: R) w' ∧ (v = nilS → l = [] → v' = nilS) ∧ ((v ≠ nilS ∨ l ≠ []) → ∃ b cap, v' = .slice (some ⟨b, 0, none⟩) (m + l.length) cap ∧ ((∀ p q, v ≠ .slice p q 0) ∨ l ≠ [] → 0 < cap)) := by
 obtain ⟨hxl, hacc⟩ : AccAt w v el 1 m xs := hw.own _ List.mem_cons_self
 obtain ⟨ie, hi, hsz, hby, hze⟩ := he.inf
 have ht := h1'.und
 have hu := h2'.und
 have hss : (⟨l.toArray⟩ : ByteArray).size = l.length := bsz l
 have hul : (u8s l).length = l.length := by simp [u8s]
 have mk : ∀ nc, m + l.length ≤ nc →
   St B G (.acc (.slice (some ⟨w.heap.size, 0, none⟩) (m + l.length) nc) el 1 (m + l.length) (xs ++ u8s l) :: R) (w.drew.alloc (.cells (xs ++ u8s l ++ zerosL [.int .u8 0] (nc - (m + l.length))).toArray el)) := by
  intro nc hnc
  have h2 := hw.drew.alloc (.cells (xs ++ u8s l ++ zerosL [.int .u8 0] (nc - (m + l.length))).toArray el)
  have h3 : St B G (.blk w.drew.heap.size (.cells (xs ++ u8s l ++ zerosL [.int .u8 0] (nc - (m + l.length))).toArray el) :: R) _ := h2.weaken (.cons_cons _ (List.sublist_cons_self _ _))
  refine h3.conv rfl ⟨by simp [hxl, hul], .inr ⟨_, nc, zerosL [.int .u8 0] (nc - (m + l.length)), rfl, hnc, ?_, h3.own _ List.mem_cons_self⟩⟩
  simp only [List.length_append, hxl, hul, zerosL_length, List.length_cons, List.length_nil]
  omega
 have ez : (Builtin.zeroCells (Value.int .u8 0).cells) = fun k => (zerosL [.int .u8 0] k).toArray := by
  funext k; rw [← zeroCells_eq]; rfl
 rcases hacc with ⟨rfl, rfl⟩ | ⟨b, cap, rest, rfl, hmc, hrl, hblk⟩
 ·have hx0 : xs = [] := by simpa using hxl
  subst hx0
  by_cases hk : l = []
  ·subst hk
   refine ⟨nilS, w, ?_, by simpa [u8s] using hw, fun _ _ => rfl, fun h => by rcases h with h | h <;> exact absurd rfl h⟩
   have hf : (Builtin.firstCells 1 0 (S [])).run P w = .ok #[] w := by
    have := Lib.run_firstCells_string (P := P) w 1 ⟨([] : List UInt8).toArray⟩
    rw [bsz] at this; simpa [Lib.strCells] using this
   simp [Builtin.append_, run_underlying ht, run_underlying hu, sizeOf, typeInfo, hi, hsz, Builtin.lenOf, bsz, hf]
  ·have hpos : 0 < l.length := List.length_pos_iff.2 hk
   have hr := run_append_nil_string (P := P) w T T2 ty el ie (.int .u8 0) ht hu hi hze ⟨l.toArray⟩ (by rw [hss]; exact hpos) (by rw [hss]; omega) (by rw [hss, hby]; omega)
   rw [hss] at hr
   have hg := grownCap_ge w l.length 0 el
   have := mk (grownCap w l.length 0 el) (by simpa using hg)
   have e1 : (⟨l.toArray⟩ : ByteArray).data.map (fun b => Value.int .u8 b.toNat) ++ Builtin.zeroCells (Value.int .u8 0).cells (grownCap w l.length 0 el - l.length) = (u8s l ++ zerosL [.int .u8 0] (grownCap w l.length 0 el - l.length)).toArray := by
    rw [ez]; simp [u8s]
   rw [e1] at hr
   simp only [Nat.zero_add, List.nil_append] at this ⊢
   exact ⟨_, _, hr, this, fun _ h => absurd h hk, fun _ => ⟨_, _, rfl, fun _ => by omega⟩⟩
 ·by_cases hfit : m + l.length ≤ cap
  ·have hr := Lib.run_append_room_string (P := P) w T T2 ty el ie ht hu hi hsz b m cap (xs ++ rest).toArray hblk ⟨l.toArray⟩ (by rw [hss]; exact hfit) (by rw [hss]; simp only [List.size_toArray]; omega)
   have hcells : (List.take m (xs ++ rest) ++ u8s l ++ List.drop (m + l.length) (xs ++ rest)) = xs ++ u8s l ++ rest.drop l.length := by
    have : m = xs.length := by omega
    rw [this]; simp [List.drop_append]
   rw [hss, strCells_u8s] at hr
   simp only [hcells] at hr
   refine ⟨_, _, hr, hw.upd (b := b) rfl rfl ⟨by simp [hxl, hul], .inr ⟨b, cap, rest.drop l.length, rfl, hfit, ?_, setRow_heap w b _ _ el _ hblk⟩⟩ (fun c hc => setRow_other w b c _ hc) rfl rfl rfl (by simp), fun h => (by cases h), fun _ => ⟨b, cap, rfl, fun h => ?_⟩⟩
   ·simp only [List.length_append, List.length_drop] at *; omega
   ·rcases h with h | h
    ·rcases Nat.eq_zero_or_pos cap with h0 | h0
     ·subst h0; exact absurd rfl (h _ _)
     ·exact h0
    ·have := List.length_pos_iff.2 h; omega
  ·have hnsc := nextslicecap_le (m + l.length) cap (by omega)
   have hold : ∀ j u, xs[j]? = some u → w.cell? ((⟨b, 0, none⟩ : Addr).add j) = some u := fun j u hj => by
    rw [addr_add]
    exact ((cells_acc (S := St B G (.acc (.slice (some ⟨b, 0, none⟩) m cap) el 1 m xs :: R)) (m := m) (cap := cap) (T := el) (sz := 1) (xs := xs) List.mem_cons_self).go j u hj).go w hw
   have hr := Lib.run_append_grow_string (P := P) w T T2 ty el ie (.int .u8 0) ht hu hi hze ⟨b, 0, none⟩ m cap xs (by rw [hsz]; simpa using hxl) hold ⟨l.toArray⟩ (by rw [hss]; omega) (by rw [hss]; omega) (by rw [hss, hby]; omega)
   rw [hss, strCells_u8s, ez] at hr
   have hg := grownCap_ge w (m + l.length) cap el
   have := mk (grownCap w (m + l.length) cap el) hg
   simp only [List.append_toArray] at hr this ⊢
   exact ⟨_, _, hr, this, fun h => (by cases h), fun _ => ⟨_, _, rfl, fun _ => by omega⟩⟩
theorem c_apS {m b cap : Nat} {s x : Operand} {T T2 el : TypeId} {s1 b1 s2 b2 : Nat} {z1 z2 : Value} {xs : List Value} {l : List UInt8} {L' : List Own} [TI P T (.slice el) s1 b1 z1] [TI P T2 .string s2 b2 z2] [TI P el (.int .u8) 1 1 (.int .u8 0)] [ha : AccI L (.slice (some ⟨b, 0, none⟩) m (cap + 1)) el 1 m xs L']
  (hs : ev E s = some (.slice (some ⟨b, 0, none⟩) m (cap + 1))) (hx : ev E x = some (S l)) (hlt : Nat.blt d n = true) (hb : m + l.length ≤ 1000000000)
  (kk : ∀ b' cap', Nx n D ((d, .slice (some ⟨b', 0, none⟩) (m + l.length) (cap' + 1)) :: E) B G (.acc (.slice (some ⟨b', 0, none⟩) (m + l.length) (cap' + 1)) el 1 (m + l.length) (xs ++ u8s l) :: L') K) :
  Nx n D E B G L (ow P ⟨some d, .call ⟨.builtin .append, [s, x].toArray, [T, T2].toArray⟩, ty, pos, aft, gd⟩ Q K) := Nx.mk fun a w hsat hw => by
 obtain ⟨v', w', hr, hst, _, h2⟩ := run_apS (P := P) (ty := ty) (T := T) (T2 := T2) (el := el) (s1 := s1) (b1 := b1) (z1 := z1) (s2 := s2) (b2 := b2) (z2 := z2) hb (hw.perm ha.del.perm)
 obtain ⟨b', cap', rfl, h3⟩ := h2 (.inl (by simp))
 obtain ⟨c, rfl⟩ : ∃ c, cap' = c + 1 := ⟨cap' - 1, by have := h3 (.inl (by simp)); omega⟩
 have hrun : (execOp a.eval ⟨some d, .call ⟨.builtin .append, [s, x].toArray, [T, T2].toArray⟩, ty, pos, aft, gd⟩).run P w = .ok (.value (.slice (some ⟨b', 0, none⟩) (m + l.length) (c + 1))) w' := by
  have e1 : ([s, x].toArray.map a.eval) = #[.slice (some ⟨b, 0, none⟩) m (cap + 1), S l] := by simp [hsat.ev hs, hsat.ev hx]
  simp only [execOp, resolve, e1, Sem.run_bind, Sem.run_pure, Result.andThen_ok, invoke, builtin, hr]
 unfold ow Oper.wp
 rw [hrun, Oper.upon_value]
 exact (kk b' c).go _ w' (hsat.put (by simpa using hlt)) hst
theorem c_apS0 {s x : Operand} {T T2 el : TypeId} {s1 b1 s2 b2 : Nat} {z1 z2 : Value} {l : List UInt8} [TI P T (.slice el) s1 b1 z1] [TI P T2 .string s2 b2 z2] [TI P el (.int .u8) 1 1 (.int .u8 0)]
  (hs : ev E s = some nilS) (hx : ev E x = some (S l)) (hlt : Nat.blt d n = true) (hb : 0 < l.length ∧ l.length ≤ 1000000000)
  (kk : ∀ b' cap', Nx n D ((d, .slice (some ⟨b', 0, none⟩) l.length (cap' + 1)) :: E) B G (.acc (.slice (some ⟨b', 0, none⟩) l.length (cap' + 1)) el 1 l.length (u8s l) :: L) K) :
  Nx n D E B G L (ow P ⟨some d, .call ⟨.builtin .append, [s, x].toArray, [T, T2].toArray⟩, ty, pos, aft, gd⟩ Q K) := Nx.mk fun a w hsat hw => by
 obtain ⟨v', w', hr, hst, _, h2⟩ := run_apS (P := P) (ty := ty) (T := T) (T2 := T2) (el := el) (s1 := s1) (b1 := b1) (z1 := z1) (s2 := s2) (b2 := b2) (z2 := z2) (l := l) (by omega) (hw.addNil el 1)
 have hne : l ≠ [] := List.length_pos_iff.1 hb.1
 obtain ⟨b', cap', rfl, h3⟩ := h2 (.inr hne)
 obtain ⟨c, rfl⟩ : ∃ c, cap' = c + 1 := ⟨cap' - 1, by have := h3 (.inr hne); omega⟩
 simp only [Nat.zero_add, List.nil_append] at hr hst
 have hrun : (execOp a.eval ⟨some d, .call ⟨.builtin .append, [s, x].toArray, [T, T2].toArray⟩, ty, pos, aft, gd⟩).run P w = .ok (.value (.slice (some ⟨b', 0, none⟩) l.length (c + 1))) w' := by
  have e1 : ([s, x].toArray.map a.eval) = #[nilS, S l] := by simp [hsat.ev hs, hsat.ev hx]
  simp only [execOp, resolve, e1, Sem.run_bind, Sem.run_pure, Result.andThen_ok, invoke, builtin, hr]
 unfold ow Oper.wp
 rw [hrun, Oper.upon_value]
 exact (kk b' c).go _ w' (hsat.put (by simpa using hlt)) hst
theorem c_mnz {fo x : Operand} {tys : Array TypeId} {f : FuncId} {fn : Func} {t el : TypeId} {m : Nat} {ps : Array TypeId}
  (hf : ev E fo = some (.func (.func f) #[] #[])) (hx : ev E x = some (I (m : Nat))) (hlt : Nat.blt d n = true) (hfn : P.funcs[f]? = some fn) (hname : (fn.name == "runtime.NumGoroutine") = false) (hbd : fn.body.isNone = true) (hnx : Extern.findNext fn = none) (he : Extern.find fn = some (Extern.BytealgMakeNoZero.makeNoZero ps #[t])) (ht : P.underlying t = some (.slice el)) (hm : 0 < m ∧ m ≤ 1000000000)
  (k : ∀ b cap, m ≤ cap + 1 → Nx n D ((d, .slice (some ⟨b, 0, none⟩) m (cap + 1)) :: E) B G (.acc (.slice (some ⟨b, 0, none⟩) 0 (cap + 1)) el 1 0 [] :: L) K) : Nx n D E B G L (ow P ⟨some d, .call ⟨.value fo, [x].toArray, tys⟩, ty, pos, aft, gd⟩ Q K) := Nx.mk fun a w hs hw => by
 obtain ⟨cs, hr, hcs, _⟩ := Lib.run_makeNoZero (P := P) w ps t el ht m (by omega)
 have e1 : ([x].toArray.map a.eval) = #[.int .i64 (m : Nat)] := by simp [hs.ev hx]
 have hrun : (execOp a.eval ⟨some d, .call ⟨.value fo, [x].toArray, tys⟩, ty, pos, aft, gd⟩).run P w = .ok (.value (.slice (some ⟨w.heap.size, 0, none⟩) m cs.size)) (w.drew.drew.alloc (.cells cs el)) := by
  simp only [execOp, resolve, hs.ev hf, e1, Deferred.ofValue, Sem.run_bind, Sem.run_pure, Result.andThen_ok, invoke]
  rw [show (#[] ++ #[Value.int .i64 (m : Nat)] ++ #[] : Array Value) = #[Value.int .i64 (m : Nat)] from rfl, run_callFunc_extern hfn hname hbd hnx he, hr]
  rfl
 unfold ow Oper.wp
 rw [hrun, Oper.upon_value]
 have h1 := hw.drew.drew.alloc (.cells cs el)
 obtain ⟨c, hc⟩ : ∃ c, cs.size = c + 1 := ⟨cs.size - 1, by omega⟩
 have h2 : St B G (.acc (.slice (some ⟨w.heap.size, 0, none⟩) 0 (c + 1)) el 1 0 [] :: L) (w.drew.drew.alloc (.cells cs el)) := h1.conv rfl ⟨rfl, .inr ⟨w.heap.size, c + 1, cs.toList, rfl, Nat.zero_le _, by simp [hc], h1.own _ List.mem_cons_self⟩⟩
 rw [hc]
 exact (k w.heap.size c (by omega)).go _ _ (hs.put (by simpa using hlt)) h2
end
end Go.E
namespace Go.E
def FnM (P : Program) (f : FuncId) (args : List Value) (G : Gh) (L : List Own) (R : Value → Gh → List Own → Prop) : Prop := Fn P f args G L (fun v G' L' => Gh.le G G' ∧ R v G' L')
section
variable {P : Program} {n : Nat} {D : List Deferred} {E : Env} {B : Base} {G : Gh} {L : List Own} {K : Act → World → Prop} {Q : Exit → Act → World → Prop}
theorem c_m1s {fo : Operand} {l : List Operand} {tys : Array TypeId} {d : Nat} {ty : TypeId} {pos : String} {aft : Array Edge} {g : Option (Nat × Bool)} {f : FuncId} {fi ca az vs : List Value} {b : Nat} {cs : List Value} {T : TypeId} {R : List Own} {Post : Value → Gh → List Own → Prop}
  [hd : DelB L b cs T R] (hf : ev E fo = some (.func (.func f) fi.toArray ca.toArray)) (ha : evs E l = some az) (hv : fi ++ az ++ ca = vs) (hc : FnM P f vs G [.blk b (.cells cs.toArray T (0, 0))] Post) (hlt : Nat.blt d n = true)
  (k : ∀ v G' L', Gh.le G G' → Post v G' L' → Nx n D ((d, v) :: E) B G' (L' ++ R) K) : Nx n D E B G L (ow P ⟨some d, .call ⟨.value fo, l.toArray, tys⟩, ty, pos, aft, g⟩ Q K) :=
 c_m1 hf ha hv hc hlt fun v G' L' h => k v G' L' h.1 h.2
theorem m_enter {f : FuncId} {fn : Func} {c : Code} {args : List Value} {R : Value → Gh → List Own → Prop} (E0 : Env) (hf : P.funcs[f]? = some fn) (hok : bodyOk P f = true) (hn : fn.ntmps = n) (hb : fn.body = some c)
  (hlen : Nat.ble args.length n = true) (hE : Sub E0 (params 0 args))
  (h : ∀ B, B.G = G → B.W = bks L → Nx n [] E0 B G L (cu P (.code c) [] (bp P fn (RPost B (fun v G' L' => Gh.le G G' ∧ R v G' L'))))) : FnM P f args G L R := c_enter E0 hf hok hn hb hlen hE h
end
end Go.E
namespace Go.E
def strsLe (n : Nat) (cs : List Value) : Bool := cs.all fun v => match v with | .string b => Nat.ble b.size n | _ => false
section
variable {P : Program} {n : Nat} {D : List Deferred} {E : Env} {B : Base} {G : Gh} {L : List Own} {K : Act → World → Prop} {Q : Exit → Act → World → Prop}
theorem c_ldMS (m : Nat) {T T0 : TypeId} {x : Operand} {desc : TypeDesc} {size bytes : Nat} {zero : Value} {b o d : Nat} {cs : List Value} {fr : Nat × Nat} {ty : TypeId} {pos : String} {aft : Array Edge} {g : Option (Nat × Bool)} [TI P T desc size bytes zero] [h : BlkI L b cs T0 fr] (hx : ev E x = some (Pt b o)) (ha : aggD desc = false) (hlt : Nat.blt d n = true) (ho : o < cs.length) (hs : strsLe m cs = true)
  (k : ∀ l : List UInt8, l.length ≤ m → Nx n D ((d, S l) :: E) B G L K) : Nx n D E B G L (ow P ⟨some d, .load T x, ty, pos, aft, g⟩ Q K) :=
 c_ldM hx ha hlt ho fun v hv => by
  have h1 := List.all_eq_true.1 hs v hv
  split at h1
  ·rename_i b
   have e : Value.string b = S b.data.toList := by simp [S]
   rw [e]
   exact k _ (by rw [Array.length_toList]; exact Nat.le_of_ble_eq_true h1)
  ·cases h1
def intsIn (m : Int) : List Value → Prop
 | [] => True
 | v :: r => (∃ i : Int, v = I i ∧ 0 ≤ i ∧ i ≤ m) ∧ intsIn m r
theorem intsIn_mem {m : Int} : ∀ {cs : List Value}, intsIn m cs → ∀ v ∈ cs, ∃ i : Int, v = I i ∧ 0 ≤ i ∧ i ≤ m
 | [], _, _, h => absurd h (by simp)
 | w :: r, h, v, hv => by
  rcases List.mem_cons.1 hv with rfl | hv
  ·exact h.1
  ·exact intsIn_mem h.2 v hv
theorem intsIn_nil {m : Int} : intsIn m [] := trivial
theorem intsIn_cons {m i : Int} {r : List Value} (h : 0 ≤ i ∧ i ≤ m) (h2 : intsIn m r) : intsIn m (I i :: r) := ⟨⟨i, rfl, h.1, h.2⟩, h2⟩
theorem c_ldMI (m : Int) {T T0 : TypeId} {x : Operand} {desc : TypeDesc} {size bytes : Nat} {zero : Value} {b o d : Nat} {cs : List Value} {fr : Nat × Nat} {ty : TypeId} {pos : String} {aft : Array Edge} {g : Option (Nat × Bool)} [TI P T desc size bytes zero] [h : BlkI L b cs T0 fr] (hx : ev E x = some (Pt b o)) (ha : aggD desc = false) (hlt : Nat.blt d n = true) (ho : o < cs.length) (hs : intsIn m cs)
  (k : ∀ i : Int, 0 ≤ i → i ≤ m → Nx n D ((d, I i) :: E) B G L K) : Nx n D E B G L (ow P ⟨some d, .load T x, ty, pos, aft, g⟩ Q K) :=
 c_ldM hx ha hlt ho fun v hv => by
  obtain ⟨i, rfl, h0, h1⟩ := intsIn_mem hs v hv
  exact k i h0 h1
end
end Go.E
namespace Go.E
open Go.Proofs
abbrev bF : Value := .bool false
abbrev u0 : Value := .int .u8 0
instance ti2 : TI Tryz.prog 2 (.int .i64) 1 8 (.int .i64 0) := TI.mk' (by kernel_rfl) (by kernel_rfl) (by kernel_rfl)
instance ti3 : TI Tryz.prog 3 (.int .i64) 1 8 (.int .i64 0) := TI.mk' (by kernel_rfl) (by kernel_rfl) (by kernel_rfl)
instance ti4 : TI Tryz.prog 4 .bool 1 1 (.bool false) := TI.mk' (by kernel_rfl) (by kernel_rfl) (by kernel_rfl)
instance ti5 : TI Tryz.prog 5 (.int .u8) 1 1 (.int .u8 0) := TI.mk' (by kernel_rfl) (by kernel_rfl) (by kernel_rfl)
instance ti6 : TI Tryz.prog 6 (.int .u8) 1 1 (.int .u8 0) := TI.mk' (by kernel_rfl) (by kernel_rfl) (by kernel_rfl)
instance ti7 : TI Tryz.prog 7 (.struct (flds Tryz.prog 7)) 4 24 (Ag [(.int .i64 0), (.int .i64 0), (.bool false), (.int .u8 0)]) := TI.mk' (by kernel_rfl) (by kernel_rfl) (by kernel_rfl)
instance ti8 : TI Tryz.prog 8 (.struct (flds Tryz.prog 8)) 4 24 (Ag [(.int .i64 0), (.int .i64 0), (.bool false), (.int .u8 0)]) := TI.mk' (by kernel_rfl) (by kernel_rfl) (by kernel_rfl)
instance ti9 : TI Tryz.prog 9 .string 1 16 (S []) := TI.mk' (by kernel_rfl) (by kernel_rfl) (by kernel_rfl)
instance ti10 : TI Tryz.prog 10 .string 1 16 (S []) := TI.mk' (by kernel_rfl) (by kernel_rfl) (by kernel_rfl)
instance ti11 : TI Tryz.prog 11 .string 1 16 (S []) := TI.mk' (by kernel_rfl) (by kernel_rfl) (by kernel_rfl)
instance ti12 : TI Tryz.prog 12 (.int .u64) 1 8 (.int .u64 0) := TI.mk' (by kernel_rfl) (by kernel_rfl) (by kernel_rfl)
instance ti13 : TI Tryz.prog 13 (.struct (flds Tryz.prog 13)) 2 24 (Ag [(S []), (.int .u64 0)]) := TI.mk' (by kernel_rfl) (by kernel_rfl) (by kernel_rfl)
instance ti14 : TI Tryz.prog 14 (.struct (flds Tryz.prog 14)) 2 24 (Ag [(S []), (.int .u64 0)]) := TI.mk' (by kernel_rfl) (by kernel_rfl) (by kernel_rfl)
instance ti15 : TI Tryz.prog 15 (.pointer 210) 1 8 (.pointer none) := TI.mk' (by kernel_rfl) (by kernel_rfl) (by kernel_rfl)
instance ti16 : TI Tryz.prog 16 (.pointer 213) 1 8 (.pointer none) := TI.mk' (by kernel_rfl) (by kernel_rfl) (by kernel_rfl)
instance ti17 : TI Tryz.prog 17 (.pointer 220) 1 8 (.pointer none) := TI.mk' (by kernel_rfl) (by kernel_rfl) (by kernel_rfl)
instance ti18 : TI Tryz.prog 18 (.struct (flds Tryz.prog 18)) 1 8 (Ag [(.pointer none)]) := TI.mk' (by kernel_rfl) (by kernel_rfl) (by kernel_rfl)
instance ti19 : TI Tryz.prog 19 (.struct (flds Tryz.prog 19)) 1 8 (Ag [(.pointer none)]) := TI.mk' (by kernel_rfl) (by kernel_rfl) (by kernel_rfl)
instance ti21 : TI Tryz.prog 21 (.int .i32) 1 4 (.int .i32 0) := TI.mk' (by kernel_rfl) (by kernel_rfl) (by kernel_rfl)
instance ti22 : TI Tryz.prog 22 (.slice 5) 1 24 nilS := TI.mk' (by kernel_rfl) (by kernel_rfl) (by kernel_rfl)
instance ti40 : TI Tryz.prog 40 (.pointer 92) 1 8 (.pointer none) := TI.mk' (by kernel_rfl) (by kernel_rfl) (by kernel_rfl)
instance ti43 : TI Tryz.prog 43 (.pointer 105) 1 8 (.pointer none) := TI.mk' (by kernel_rfl) (by kernel_rfl) (by kernel_rfl)
instance ti44 : TI Tryz.prog 44 (.struct (flds Tryz.prog 44)) 3 48 (Ag [(S []), (S []), (S [])]) := TI.mk' (by kernel_rfl) (by kernel_rfl) (by kernel_rfl)
instance ti45 : TI Tryz.prog 45 (.struct (flds Tryz.prog 45)) 3 48 (Ag [(S []), (S []), (S [])]) := TI.mk' (by kernel_rfl) (by kernel_rfl) (by kernel_rfl)
instance ti46 : TI Tryz.prog 46 (.slice 48) 1 24 nilS := TI.mk' (by kernel_rfl) (by kernel_rfl) (by kernel_rfl)
instance ti47 : TI Tryz.prog 47 (.struct (flds Tryz.prog 47)) 4 56 (Ag [(.int .u8 0), (S []), (.int .i64 0), nilS]) := TI.mk' (by kernel_rfl) (by kernel_rfl) (by kernel_rfl)
instance ti48 : TI Tryz.prog 48 (.struct (flds Tryz.prog 48)) 4 56 (Ag [(.int .u8 0), (S []), (.int .i64 0), nilS]) := TI.mk' (by kernel_rfl) (by kernel_rfl) (by kernel_rfl)
instance ti51 : TI Tryz.prog 51 (.slice 153) 1 24 nilS := TI.mk' (by kernel_rfl) (by kernel_rfl) (by kernel_rfl)
instance ti52 : TI Tryz.prog 52 (.slice 153) 1 24 nilS := TI.mk' (by kernel_rfl) (by kernel_rfl) (by kernel_rfl)
instance ti53 : TI Tryz.prog 53 (.pointer 78) 1 8 (.pointer none) := TI.mk' (by kernel_rfl) (by kernel_rfl) (by kernel_rfl)
instance ti67 : TI Tryz.prog 67 (.slice 9) 1 24 nilS := TI.mk' (by kernel_rfl) (by kernel_rfl) (by kernel_rfl)
instance ti71 : TI Tryz.prog 71 (.slice 3) 1 24 nilS := TI.mk' (by kernel_rfl) (by kernel_rfl) (by kernel_rfl)
instance ti76 : TI Tryz.prog 76 (.slice 53) 1 24 nilS := TI.mk' (by kernel_rfl) (by kernel_rfl) (by kernel_rfl)
instance ti77 : TI Tryz.prog 77 (.struct (flds Tryz.prog 77)) 4 80 (Ag [(S []), (S []), nilS, nilS]) := TI.mk' (by kernel_rfl) (by kernel_rfl) (by kernel_rfl)
instance ti78 : TI Tryz.prog 78 (.struct (flds Tryz.prog 78)) 4 80 (Ag [(S []), (S []), nilS, nilS]) := TI.mk' (by kernel_rfl) (by kernel_rfl) (by kernel_rfl)
instance ti82 : TI Tryz.prog 82 (.struct (flds Tryz.prog 82)) 1 24 (Ag [nilS]) := TI.mk' (by kernel_rfl) (by kernel_rfl) (by kernel_rfl)
instance ti83 : TI Tryz.prog 83 (.struct (flds Tryz.prog 83)) 1 24 (Ag [nilS]) := TI.mk' (by kernel_rfl) (by kernel_rfl) (by kernel_rfl)
instance ti91 : TI Tryz.prog 91 (.struct (flds Tryz.prog 91)) 2 32 (Ag [nilS, (.int .i64 0)]) := TI.mk' (by kernel_rfl) (by kernel_rfl) (by kernel_rfl)
instance ti92 : TI Tryz.prog 92 (.struct (flds Tryz.prog 92)) 2 32 (Ag [nilS, (.int .i64 0)]) := TI.mk' (by kernel_rfl) (by kernel_rfl) (by kernel_rfl)
instance ti101 : TI Tryz.prog 101 (.pointer 108) 1 8 (.pointer none) := TI.mk' (by kernel_rfl) (by kernel_rfl) (by kernel_rfl)
instance ti102 : TI Tryz.prog 102 (.slice 101) 1 24 nilS := TI.mk' (by kernel_rfl) (by kernel_rfl) (by kernel_rfl)
instance ti103 : TI Tryz.prog 103 (.map 9 101) 1 8 (.map none) := TI.mk' (by kernel_rfl) (by kernel_rfl) (by kernel_rfl)
instance ti104 : TI Tryz.prog 104 (.struct (flds Tryz.prog 104)) 2 32 (Ag [nilS, (.map none)]) := TI.mk' (by kernel_rfl) (by kernel_rfl) (by kernel_rfl)
instance ti105 : TI Tryz.prog 105 (.struct (flds Tryz.prog 105)) 2 32 (Ag [nilS, (.map none)]) := TI.mk' (by kernel_rfl) (by kernel_rfl) (by kernel_rfl)
instance ti106 : TI Tryz.prog 106 (.slice 111) 1 24 nilS := TI.mk' (by kernel_rfl) (by kernel_rfl) (by kernel_rfl)
instance ti107 : TI Tryz.prog 107 (.struct (flds Tryz.prog 107)) 4 64 (Ag [(.int .u8 0), (S []), nilS, (S [])]) := TI.mk' (by kernel_rfl) (by kernel_rfl) (by kernel_rfl)
instance ti108 : TI Tryz.prog 108 (.struct (flds Tryz.prog 108)) 4 64 (Ag [(.int .u8 0), (S []), nilS, (S [])]) := TI.mk' (by kernel_rfl) (by kernel_rfl) (by kernel_rfl)
instance ti110 : TI Tryz.prog 110 (.struct (flds Tryz.prog 110)) 6 88 (Ag [(.int .i64 0), (S []), (S []), (S []), (S []), (S [])]) := TI.mk' (by kernel_rfl) (by kernel_rfl) (by kernel_rfl)
instance ti111 : TI Tryz.prog 111 (.struct (flds Tryz.prog 111)) 6 88 (Ag [(.int .i64 0), (S []), (S []), (S []), (S []), (S [])]) := TI.mk' (by kernel_rfl) (by kernel_rfl) (by kernel_rfl)
instance ti118 : TI Tryz.prog 118 (.pointer 120) 1 8 (.pointer none) := TI.mk' (by kernel_rfl) (by kernel_rfl) (by kernel_rfl)
instance ti119 : TI Tryz.prog 119 (.struct (flds Tryz.prog 119)) 2 32 (Ag [(.pointer none), nilS]) := TI.mk' (by kernel_rfl) (by kernel_rfl) (by kernel_rfl)
instance ti120 : TI Tryz.prog 120 (.struct (flds Tryz.prog 120)) 2 32 (Ag [(.pointer none), nilS]) := TI.mk' (by kernel_rfl) (by kernel_rfl) (by kernel_rfl)
instance ti126 : TI Tryz.prog 126 (.int .u64) 1 8 (.int .u64 0) := TI.mk' (by kernel_rfl) (by kernel_rfl) (by kernel_rfl)
instance ti135 : TI Tryz.prog 135 (.struct (flds Tryz.prog 135)) 4 56 (Ag [(.int .i64 0), (S []), (S []), (S [])]) := TI.mk' (by kernel_rfl) (by kernel_rfl) (by kernel_rfl)
instance ti136 : TI Tryz.prog 136 (.struct (flds Tryz.prog 136)) 4 56 (Ag [(.int .i64 0), (S []), (S []), (S [])]) := TI.mk' (by kernel_rfl) (by kernel_rfl) (by kernel_rfl)
instance ti141 : TI Tryz.prog 141 (.pointer 143) 1 8 (.pointer none) := TI.mk' (by kernel_rfl) (by kernel_rfl) (by kernel_rfl)
instance ti142 : TI Tryz.prog 142 (.struct (flds Tryz.prog 142)) 3 32 (Ag [(.pointer none), (S []), (.bool false)]) := TI.mk' (by kernel_rfl) (by kernel_rfl) (by kernel_rfl)
instance ti143 : TI Tryz.prog 143 (.struct (flds Tryz.prog 143)) 3 32 (Ag [(.pointer none), (S []), (.bool false)]) := TI.mk' (by kernel_rfl) (by kernel_rfl) (by kernel_rfl)
instance ti146 : TI Tryz.prog 146 (.pointer 111) 1 8 (.pointer none) := TI.mk' (by kernel_rfl) (by kernel_rfl) (by kernel_rfl)
instance ti151 : TI Tryz.prog 151 (.slice 136) 1 24 nilS := TI.mk' (by kernel_rfl) (by kernel_rfl) (by kernel_rfl)
instance ti152 : TI Tryz.prog 152 (.struct (flds Tryz.prog 152)) 3 48 (Ag [(.int .u8 0), (S []), nilS]) := TI.mk' (by kernel_rfl) (by kernel_rfl) (by kernel_rfl)
instance ti153 : TI Tryz.prog 153 (.struct (flds Tryz.prog 153)) 3 48 (Ag [(.int .u8 0), (S []), nilS]) := TI.mk' (by kernel_rfl) (by kernel_rfl) (by kernel_rfl)
instance ti164 : TI Tryz.prog 164 (.pointer 5) 1 8 (.pointer none) := TI.mk' (by kernel_rfl) (by kernel_rfl) (by kernel_rfl)
instance ti179 : TI Tryz.prog 179 (.array 256 4) 256 256 (Ag [bF, bF, bF, bF, bF, bF, bF, bF, bF, bF, bF, bF, bF, bF, bF, bF, bF, bF, bF, bF, bF, bF, bF, bF, bF, bF, bF, bF, bF, bF, bF, bF, bF, bF, bF, bF, bF, bF, bF, bF, bF, bF, bF, bF, bF, bF, bF, bF, bF, bF, bF, bF, bF, bF, bF, bF, bF, bF, bF, bF, bF, bF, bF, bF, bF, bF, bF, bF, bF, bF, bF, bF, bF, bF, bF, bF, bF, bF, bF, bF, bF, bF, bF, bF, bF, bF, bF, bF, bF, bF, bF, bF, bF, bF, bF, bF, bF, bF, bF, bF, bF, bF, bF, bF, bF, bF, bF, bF, bF, bF, bF, bF, bF, bF, bF, bF, bF, bF, bF, bF, bF, bF, bF, bF, bF, bF, bF, bF, bF, bF, bF, bF, bF, bF, bF, bF, bF, bF, bF, bF, bF, bF, bF, bF, bF, bF, bF, bF, bF, bF, bF, bF, bF, bF, bF, bF, bF, bF, bF, bF, bF, bF, bF, bF, bF, bF, bF, bF, bF, bF, bF, bF, bF, bF, bF, bF, bF, bF, bF, bF, bF, bF, bF, bF, bF, bF, bF, bF, bF, bF, bF, bF, bF, bF, bF, bF, bF, bF, bF, bF, bF, bF, bF, bF, bF, bF, bF, bF, bF, bF, bF, bF, bF, bF, bF, bF, bF, bF, bF, bF, bF, bF, bF, bF, bF, bF, bF, bF, bF, bF, bF, bF, bF, bF, bF, bF, bF, bF, bF, bF, bF, bF, bF, bF, bF, bF, bF, bF, bF, bF, bF, bF, bF, bF, bF, (.bool false)]) := TI.mk' (by kernel_rfl) (by kernel_rfl) (by kernel_rfl)
instance ti180 : TI Tryz.prog 180 (.array 256 4) 256 256 (Ag [bF, bF, bF, bF, bF, bF, bF, bF, bF, bF, bF, bF, bF, bF, bF, bF, bF, bF, bF, bF, bF, bF, bF, bF, bF, bF, bF, bF, bF, bF, bF, bF, bF, bF, bF, bF, bF, bF, bF, bF, bF, bF, bF, bF, bF, bF, bF, bF, bF, bF, bF, bF, bF, bF, bF, bF, bF, bF, bF, bF, bF, bF, bF, bF, bF, bF, bF, bF, bF, bF, bF, bF, bF, bF, bF, bF, bF, bF, bF, bF, bF, bF, bF, bF, bF, bF, bF, bF, bF, bF, bF, bF, bF, bF, bF, bF, bF, bF, bF, bF, bF, bF, bF, bF, bF, bF, bF, bF, bF, bF, bF, bF, bF, bF, bF, bF, bF, bF, bF, bF, bF, bF, bF, bF, bF, bF, bF, bF, bF, bF, bF, bF, bF, bF, bF, bF, bF, bF, bF, bF, bF, bF, bF, bF, bF, bF, bF, bF, bF, bF, bF, bF, bF, bF, bF, bF, bF, bF, bF, bF, bF, bF, bF, bF, bF, bF, bF, bF, bF, bF, bF, bF, bF, bF, bF, bF, bF, bF, bF, bF, bF, bF, bF, bF, bF, bF, bF, bF, bF, bF, bF, bF, bF, bF, bF, bF, bF, bF, bF, bF, bF, bF, bF, bF, bF, bF, bF, bF, bF, bF, bF, bF, bF, bF, bF, bF, bF, bF, bF, bF, bF, bF, bF, bF, bF, bF, bF, bF, bF, bF, bF, bF, bF, bF, bF, bF, bF, bF, bF, bF, bF, bF, bF, bF, bF, bF, bF, bF, bF, bF, bF, bF, bF, bF, bF, (.bool false)]) := TI.mk' (by kernel_rfl) (by kernel_rfl) (by kernel_rfl)
instance ti184 : TI Tryz.prog 184 (.pointer 180) 1 8 (.pointer none) := TI.mk' (by kernel_rfl) (by kernel_rfl) (by kernel_rfl)
instance ti201 : TI Tryz.prog 201 (.int .u32) 1 4 (.int .u32 0) := TI.mk' (by kernel_rfl) (by kernel_rfl) (by kernel_rfl)
instance ti204 : TI Tryz.prog 204 (.array 256 5) 256 256 (Ag [u0, u0, u0, u0, u0, u0, u0, u0, u0, u0, u0, u0, u0, u0, u0, u0, u0, u0, u0, u0, u0, u0, u0, u0, u0, u0, u0, u0, u0, u0, u0, u0, u0, u0, u0, u0, u0, u0, u0, u0, u0, u0, u0, u0, u0, u0, u0, u0, u0, u0, u0, u0, u0, u0, u0, u0, u0, u0, u0, u0, u0, u0, u0, u0, u0, u0, u0, u0, u0, u0, u0, u0, u0, u0, u0, u0, u0, u0, u0, u0, u0, u0, u0, u0, u0, u0, u0, u0, u0, u0, u0, u0, u0, u0, u0, u0, u0, u0, u0, u0, u0, u0, u0, u0, u0, u0, u0, u0, u0, u0, u0, u0, u0, u0, u0, u0, u0, u0, u0, u0, u0, u0, u0, u0, u0, u0, u0, u0, u0, u0, u0, u0, u0, u0, u0, u0, u0, u0, u0, u0, u0, u0, u0, u0, u0, u0, u0, u0, u0, u0, u0, u0, u0, u0, u0, u0, u0, u0, u0, u0, u0, u0, u0, u0, u0, u0, u0, u0, u0, u0, u0, u0, u0, u0, u0, u0, u0, u0, u0, u0, u0, u0, u0, u0, u0, u0, u0, u0, u0, u0, u0, u0, u0, u0, u0, u0, u0, u0, u0, u0, u0, u0, u0, u0, u0, u0, u0, u0, u0, u0, u0, u0, u0, u0, u0, u0, u0, u0, u0, u0, u0, u0, u0, u0, u0, u0, u0, u0, u0, u0, u0, u0, u0, u0, u0, u0, u0, u0, u0, u0, u0, u0, u0, u0, u0, u0, u0, u0, u0, u0, u0, u0, u0, u0, u0, (.int .u8 0)]) := TI.mk' (by kernel_rfl) (by kernel_rfl) (by kernel_rfl)
instance ti205 : TI Tryz.prog 205 (.struct (flds Tryz.prog 205)) 2 2 (Ag [(.int .u8 0), (.int .u8 0)]) := TI.mk' (by kernel_rfl) (by kernel_rfl) (by kernel_rfl)
instance ti206 : TI Tryz.prog 206 (.struct (flds Tryz.prog 206)) 2 2 (Ag [(.int .u8 0), (.int .u8 0)]) := TI.mk' (by kernel_rfl) (by kernel_rfl) (by kernel_rfl)
instance ti207 : TI Tryz.prog 207 (.array 16 206) 32 32 (Ag [u0, u0, u0, u0, u0, u0, u0, u0, u0, u0, u0, u0, u0, u0, u0, u0, u0, u0, u0, u0, u0, u0, u0, u0, u0, u0, u0, u0, u0, u0, u0, (.int .u8 0)]) := TI.mk' (by kernel_rfl) (by kernel_rfl) (by kernel_rfl)
instance ti209 : TI Tryz.prog 209 (.struct (flds Tryz.prog 209)) 4 40 (Ag [(.pointer none), (.pointer none), (.pointer none), (S [])]) := TI.mk' (by kernel_rfl) (by kernel_rfl) (by kernel_rfl)
instance ti210 : TI Tryz.prog 210 (.struct (flds Tryz.prog 210)) 4 40 (Ag [(.pointer none), (.pointer none), (.pointer none), (S [])]) := TI.mk' (by kernel_rfl) (by kernel_rfl) (by kernel_rfl)
instance ti211 : TI Tryz.prog 211 (.array 0 16) 0 0 (Ag []) := TI.mk' (by kernel_rfl) (by kernel_rfl) (by kernel_rfl)
instance ti212 : TI Tryz.prog 212 (.struct (flds Tryz.prog 212)) 0 0 (Ag []) := TI.mk' (by kernel_rfl) (by kernel_rfl) (by kernel_rfl)
instance ti213 : TI Tryz.prog 213 (.struct (flds Tryz.prog 213)) 0 0 (Ag []) := TI.mk' (by kernel_rfl) (by kernel_rfl) (by kernel_rfl)
instance ti214 : TI Tryz.prog 214 (.int .u8) 1 1 (.int .u8 0) := TI.mk' (by kernel_rfl) (by kernel_rfl) (by kernel_rfl)
instance ti215 : TI Tryz.prog 215 (.int .u8) 1 1 (.int .u8 0) := TI.mk' (by kernel_rfl) (by kernel_rfl) (by kernel_rfl)
instance ti217 : TI Tryz.prog 217 (.int .i32) 1 4 (.int .i32 0) := TI.mk' (by kernel_rfl) (by kernel_rfl) (by kernel_rfl)
instance ti218 : TI Tryz.prog 218 (.int .i32) 1 4 (.int .i32 0) := TI.mk' (by kernel_rfl) (by kernel_rfl) (by kernel_rfl)
instance ti219 : TI Tryz.prog 219 (.struct (flds Tryz.prog 219)) 11 48 (Ag [(.int .u64 0), (.int .u64 0), (.int .u32 0), (.int .u8 0), (.int .u8 0), (.int .u8 0), (.int .u8 0), .nilFunc, (.pointer none), (.int .i32 0), (.int .i32 0)]) := TI.mk' (by kernel_rfl) (by kernel_rfl) (by kernel_rfl)
instance ti220 : TI Tryz.prog 220 (.struct (flds Tryz.prog 220)) 11 48 (Ag [(.int .u64 0), (.int .u64 0), (.int .u32 0), (.int .u8 0), (.int .u8 0), (.int .u8 0), (.int .u8 0), .nilFunc, (.pointer none), (.int .i32 0), (.int .i32 0)]) := TI.mk' (by kernel_rfl) (by kernel_rfl) (by kernel_rfl)
instance fa7_0 : FA Tryz.prog 7 0 0 := FA.mk' (by kernel_rfl) ti2 rfl
instance fv7_0 : FV Tryz.prog 7 0 false 0 1 := FV.mk' (by kernel_rfl) ti2 rfl
instance fa7_1 : FA Tryz.prog 7 1 1 := FA.mk' (by kernel_rfl) ti3 rfl
instance fv7_1 : FV Tryz.prog 7 1 false 1 1 := FV.mk' (by kernel_rfl) ti3 rfl
instance fa7_2 : FA Tryz.prog 7 2 2 := FA.mk' (by kernel_rfl) ti4 rfl
instance fv7_2 : FV Tryz.prog 7 2 false 2 1 := FV.mk' (by kernel_rfl) ti4 rfl
instance fa7_3 : FA Tryz.prog 7 3 3 := FA.mk' (by kernel_rfl) ti6 rfl
instance fv7_3 : FV Tryz.prog 7 3 false 3 1 := FV.mk' (by kernel_rfl) ti6 rfl
instance : BT Tryz.prog 7 [(0, 1), (1, 1), (2, 1), (3, 1)] [(.int .i64 0), (.int .i64 0), (.bool false), (.int .u8 0)] := BT.mk' [(2, 0, 1), (3, 1, 1), (4, 2, 1), (6, 3, 1)] rfl (by kernel_rfl) (by kernel_rfl) rfl
instance fa8_0 : FA Tryz.prog 8 0 0 := FA.mk' (by kernel_rfl) ti2 rfl
instance fv8_0 : FV Tryz.prog 8 0 false 0 1 := FV.mk' (by kernel_rfl) ti2 rfl
instance fa8_1 : FA Tryz.prog 8 1 1 := FA.mk' (by kernel_rfl) ti3 rfl
instance fv8_1 : FV Tryz.prog 8 1 false 1 1 := FV.mk' (by kernel_rfl) ti3 rfl
instance fa8_2 : FA Tryz.prog 8 2 2 := FA.mk' (by kernel_rfl) ti4 rfl
instance fv8_2 : FV Tryz.prog 8 2 false 2 1 := FV.mk' (by kernel_rfl) ti4 rfl
instance fa8_3 : FA Tryz.prog 8 3 3 := FA.mk' (by kernel_rfl) ti6 rfl
instance fv8_3 : FV Tryz.prog 8 3 false 3 1 := FV.mk' (by kernel_rfl) ti6 rfl
instance : BT Tryz.prog 8 [(0, 1), (1, 1), (2, 1), (3, 1)] [(.int .i64 0), (.int .i64 0), (.bool false), (.int .u8 0)] := BT.mk' [(2, 0, 1), (3, 1, 1), (4, 2, 1), (6, 3, 1)] rfl (by kernel_rfl) (by kernel_rfl) rfl
instance fa13_0 : FA Tryz.prog 13 0 0 := FA.mk' (by kernel_rfl) ti9 rfl
instance fv13_0 : FV Tryz.prog 13 0 false 0 1 := FV.mk' (by kernel_rfl) ti9 rfl
instance fa13_1 : FA Tryz.prog 13 1 1 := FA.mk' (by kernel_rfl) ti12 rfl
instance fv13_1 : FV Tryz.prog 13 1 false 1 1 := FV.mk' (by kernel_rfl) ti12 rfl
instance : BT Tryz.prog 13 [(0, 1), (1, 1)] [(S []), (.int .u64 0)] := BT.mk' [(9, 0, 1), (12, 1, 1)] rfl (by kernel_rfl) (by kernel_rfl) rfl
instance fa14_0 : FA Tryz.prog 14 0 0 := FA.mk' (by kernel_rfl) ti9 rfl
instance fv14_0 : FV Tryz.prog 14 0 false 0 1 := FV.mk' (by kernel_rfl) ti9 rfl
instance fa14_1 : FA Tryz.prog 14 1 1 := FA.mk' (by kernel_rfl) ti12 rfl
instance fv14_1 : FV Tryz.prog 14 1 false 1 1 := FV.mk' (by kernel_rfl) ti12 rfl
instance : BT Tryz.prog 14 [(0, 1), (1, 1)] [(S []), (.int .u64 0)] := BT.mk' [(9, 0, 1), (12, 1, 1)] rfl (by kernel_rfl) (by kernel_rfl) rfl
instance fa18_0 : FA Tryz.prog 18 0 0 := FA.mk' (by kernel_rfl) ti17 rfl
instance fv18_0 : FV Tryz.prog 18 0 false 0 1 := FV.mk' (by kernel_rfl) ti17 rfl
instance : BT Tryz.prog 18 [(0, 1)] [(.pointer none)] := BT.mk' [(17, 0, 1)] rfl (by kernel_rfl) (by kernel_rfl) rfl
instance fa19_0 : FA Tryz.prog 19 0 0 := FA.mk' (by kernel_rfl) ti17 rfl
instance fv19_0 : FV Tryz.prog 19 0 false 0 1 := FV.mk' (by kernel_rfl) ti17 rfl
instance : BT Tryz.prog 19 [(0, 1)] [(.pointer none)] := BT.mk' [(17, 0, 1)] rfl (by kernel_rfl) (by kernel_rfl) rfl
instance fa44_0 : FA Tryz.prog 44 0 0 := FA.mk' (by kernel_rfl) ti9 rfl
instance fv44_0 : FV Tryz.prog 44 0 false 0 1 := FV.mk' (by kernel_rfl) ti9 rfl
instance fa44_1 : FA Tryz.prog 44 1 1 := FA.mk' (by kernel_rfl) ti9 rfl
instance fv44_1 : FV Tryz.prog 44 1 false 1 1 := FV.mk' (by kernel_rfl) ti9 rfl
instance fa44_2 : FA Tryz.prog 44 2 2 := FA.mk' (by kernel_rfl) ti9 rfl
instance fv44_2 : FV Tryz.prog 44 2 false 2 1 := FV.mk' (by kernel_rfl) ti9 rfl
instance : BT Tryz.prog 44 [(0, 1), (1, 1), (2, 1)] [(S []), (S []), (S [])] := BT.mk' [(9, 0, 1), (9, 1, 1), (9, 2, 1)] rfl (by kernel_rfl) (by kernel_rfl) rfl
instance fa45_0 : FA Tryz.prog 45 0 0 := FA.mk' (by kernel_rfl) ti9 rfl
instance fv45_0 : FV Tryz.prog 45 0 false 0 1 := FV.mk' (by kernel_rfl) ti9 rfl
instance fa45_1 : FA Tryz.prog 45 1 1 := FA.mk' (by kernel_rfl) ti9 rfl
instance fv45_1 : FV Tryz.prog 45 1 false 1 1 := FV.mk' (by kernel_rfl) ti9 rfl
instance fa45_2 : FA Tryz.prog 45 2 2 := FA.mk' (by kernel_rfl) ti9 rfl
instance fv45_2 : FV Tryz.prog 45 2 false 2 1 := FV.mk' (by kernel_rfl) ti9 rfl
instance : BT Tryz.prog 45 [(0, 1), (1, 1), (2, 1)] [(S []), (S []), (S [])] := BT.mk' [(9, 0, 1), (9, 1, 1), (9, 2, 1)] rfl (by kernel_rfl) (by kernel_rfl) rfl
instance fa47_0 : FA Tryz.prog 47 0 0 := FA.mk' (by kernel_rfl) ti5 rfl
instance fv47_0 : FV Tryz.prog 47 0 false 0 1 := FV.mk' (by kernel_rfl) ti5 rfl
instance fa47_1 : FA Tryz.prog 47 1 1 := FA.mk' (by kernel_rfl) ti9 rfl
instance fv47_1 : FV Tryz.prog 47 1 false 1 1 := FV.mk' (by kernel_rfl) ti9 rfl
instance fa47_2 : FA Tryz.prog 47 2 2 := FA.mk' (by kernel_rfl) ti3 rfl
instance fv47_2 : FV Tryz.prog 47 2 false 2 1 := FV.mk' (by kernel_rfl) ti3 rfl
instance fa47_3 : FA Tryz.prog 47 3 3 := FA.mk' (by kernel_rfl) ti46 rfl
instance fv47_3 : FV Tryz.prog 47 3 false 3 1 := FV.mk' (by kernel_rfl) ti46 rfl
instance : BT Tryz.prog 47 [(0, 1), (1, 1), (2, 1), (3, 1)] [(.int .u8 0), (S []), (.int .i64 0), nilS] := BT.mk' [(5, 0, 1), (9, 1, 1), (3, 2, 1), (46, 3, 1)] rfl (by kernel_rfl) (by kernel_rfl) rfl
instance fa48_0 : FA Tryz.prog 48 0 0 := FA.mk' (by kernel_rfl) ti5 rfl
instance fv48_0 : FV Tryz.prog 48 0 false 0 1 := FV.mk' (by kernel_rfl) ti5 rfl
instance fa48_1 : FA Tryz.prog 48 1 1 := FA.mk' (by kernel_rfl) ti9 rfl
instance fv48_1 : FV Tryz.prog 48 1 false 1 1 := FV.mk' (by kernel_rfl) ti9 rfl
instance fa48_2 : FA Tryz.prog 48 2 2 := FA.mk' (by kernel_rfl) ti3 rfl
instance fv48_2 : FV Tryz.prog 48 2 false 2 1 := FV.mk' (by kernel_rfl) ti3 rfl
instance fa48_3 : FA Tryz.prog 48 3 3 := FA.mk' (by kernel_rfl) ti46 rfl
instance fv48_3 : FV Tryz.prog 48 3 false 3 1 := FV.mk' (by kernel_rfl) ti46 rfl
instance : BT Tryz.prog 48 [(0, 1), (1, 1), (2, 1), (3, 1)] [(.int .u8 0), (S []), (.int .i64 0), nilS] := BT.mk' [(5, 0, 1), (9, 1, 1), (3, 2, 1), (46, 3, 1)] rfl (by kernel_rfl) (by kernel_rfl) rfl
instance fa77_0 : FA Tryz.prog 77 0 0 := FA.mk' (by kernel_rfl) ti9 rfl
instance fv77_0 : FV Tryz.prog 77 0 false 0 1 := FV.mk' (by kernel_rfl) ti9 rfl
instance fa77_1 : FA Tryz.prog 77 1 1 := FA.mk' (by kernel_rfl) ti9 rfl
instance fv77_1 : FV Tryz.prog 77 1 false 1 1 := FV.mk' (by kernel_rfl) ti9 rfl
instance fa77_2 : FA Tryz.prog 77 2 2 := FA.mk' (by kernel_rfl) ti71 rfl
instance fv77_2 : FV Tryz.prog 77 2 false 2 1 := FV.mk' (by kernel_rfl) ti71 rfl
instance fa77_3 : FA Tryz.prog 77 3 3 := FA.mk' (by kernel_rfl) ti76 rfl
instance fv77_3 : FV Tryz.prog 77 3 false 3 1 := FV.mk' (by kernel_rfl) ti76 rfl
instance : BT Tryz.prog 77 [(0, 1), (1, 1), (2, 1), (3, 1)] [(S []), (S []), nilS, nilS] := BT.mk' [(9, 0, 1), (9, 1, 1), (71, 2, 1), (76, 3, 1)] rfl (by kernel_rfl) (by kernel_rfl) rfl
instance fa78_0 : FA Tryz.prog 78 0 0 := FA.mk' (by kernel_rfl) ti9 rfl
instance fv78_0 : FV Tryz.prog 78 0 false 0 1 := FV.mk' (by kernel_rfl) ti9 rfl
instance fa78_1 : FA Tryz.prog 78 1 1 := FA.mk' (by kernel_rfl) ti9 rfl
instance fv78_1 : FV Tryz.prog 78 1 false 1 1 := FV.mk' (by kernel_rfl) ti9 rfl
instance fa78_2 : FA Tryz.prog 78 2 2 := FA.mk' (by kernel_rfl) ti71 rfl
instance fv78_2 : FV Tryz.prog 78 2 false 2 1 := FV.mk' (by kernel_rfl) ti71 rfl
instance fa78_3 : FA Tryz.prog 78 3 3 := FA.mk' (by kernel_rfl) ti76 rfl
instance fv78_3 : FV Tryz.prog 78 3 false 3 1 := FV.mk' (by kernel_rfl) ti76 rfl
instance : BT Tryz.prog 78 [(0, 1), (1, 1), (2, 1), (3, 1)] [(S []), (S []), nilS, nilS] := BT.mk' [(9, 0, 1), (9, 1, 1), (71, 2, 1), (76, 3, 1)] rfl (by kernel_rfl) (by kernel_rfl) rfl
instance fa82_0 : FA Tryz.prog 82 0 0 := FA.mk' (by kernel_rfl) ti52 rfl
instance fv82_0 : FV Tryz.prog 82 0 false 0 1 := FV.mk' (by kernel_rfl) ti52 rfl
instance : BT Tryz.prog 82 [(0, 1)] [nilS] := BT.mk' [(52, 0, 1)] rfl (by kernel_rfl) (by kernel_rfl) rfl
instance fa83_0 : FA Tryz.prog 83 0 0 := FA.mk' (by kernel_rfl) ti52 rfl
instance fv83_0 : FV Tryz.prog 83 0 false 0 1 := FV.mk' (by kernel_rfl) ti52 rfl
instance : BT Tryz.prog 83 [(0, 1)] [nilS] := BT.mk' [(52, 0, 1)] rfl (by kernel_rfl) (by kernel_rfl) rfl
instance fa91_0 : FA Tryz.prog 91 0 0 := FA.mk' (by kernel_rfl) ti22 rfl
instance fv91_0 : FV Tryz.prog 91 0 false 0 1 := FV.mk' (by kernel_rfl) ti22 rfl
instance fa91_1 : FA Tryz.prog 91 1 1 := FA.mk' (by kernel_rfl) ti3 rfl
instance fv91_1 : FV Tryz.prog 91 1 false 1 1 := FV.mk' (by kernel_rfl) ti3 rfl
instance : BT Tryz.prog 91 [(0, 1), (1, 1)] [nilS, (.int .i64 0)] := BT.mk' [(22, 0, 1), (3, 1, 1)] rfl (by kernel_rfl) (by kernel_rfl) rfl
instance fa92_0 : FA Tryz.prog 92 0 0 := FA.mk' (by kernel_rfl) ti22 rfl
instance fv92_0 : FV Tryz.prog 92 0 false 0 1 := FV.mk' (by kernel_rfl) ti22 rfl
instance fa92_1 : FA Tryz.prog 92 1 1 := FA.mk' (by kernel_rfl) ti3 rfl
instance fv92_1 : FV Tryz.prog 92 1 false 1 1 := FV.mk' (by kernel_rfl) ti3 rfl
instance : BT Tryz.prog 92 [(0, 1), (1, 1)] [nilS, (.int .i64 0)] := BT.mk' [(22, 0, 1), (3, 1, 1)] rfl (by kernel_rfl) (by kernel_rfl) rfl
instance fa104_0 : FA Tryz.prog 104 0 0 := FA.mk' (by kernel_rfl) ti102 rfl
instance fv104_0 : FV Tryz.prog 104 0 false 0 1 := FV.mk' (by kernel_rfl) ti102 rfl
instance fa104_1 : FA Tryz.prog 104 1 1 := FA.mk' (by kernel_rfl) ti103 rfl
instance fv104_1 : FV Tryz.prog 104 1 false 1 1 := FV.mk' (by kernel_rfl) ti103 rfl
instance : BT Tryz.prog 104 [(0, 1), (1, 1)] [nilS, (.map none)] := BT.mk' [(102, 0, 1), (103, 1, 1)] rfl (by kernel_rfl) (by kernel_rfl) rfl
instance fa105_0 : FA Tryz.prog 105 0 0 := FA.mk' (by kernel_rfl) ti102 rfl
instance fv105_0 : FV Tryz.prog 105 0 false 0 1 := FV.mk' (by kernel_rfl) ti102 rfl
instance fa105_1 : FA Tryz.prog 105 1 1 := FA.mk' (by kernel_rfl) ti103 rfl
instance fv105_1 : FV Tryz.prog 105 1 false 1 1 := FV.mk' (by kernel_rfl) ti103 rfl
instance : BT Tryz.prog 105 [(0, 1), (1, 1)] [nilS, (.map none)] := BT.mk' [(102, 0, 1), (103, 1, 1)] rfl (by kernel_rfl) (by kernel_rfl) rfl
instance fa107_0 : FA Tryz.prog 107 0 0 := FA.mk' (by kernel_rfl) ti5 rfl
instance fv107_0 : FV Tryz.prog 107 0 false 0 1 := FV.mk' (by kernel_rfl) ti5 rfl
instance fa107_1 : FA Tryz.prog 107 1 1 := FA.mk' (by kernel_rfl) ti9 rfl
instance fv107_1 : FV Tryz.prog 107 1 false 1 1 := FV.mk' (by kernel_rfl) ti9 rfl
instance fa107_2 : FA Tryz.prog 107 2 2 := FA.mk' (by kernel_rfl) ti106 rfl
instance fv107_2 : FV Tryz.prog 107 2 false 2 1 := FV.mk' (by kernel_rfl) ti106 rfl
instance fa107_3 : FA Tryz.prog 107 3 3 := FA.mk' (by kernel_rfl) ti9 rfl
instance fv107_3 : FV Tryz.prog 107 3 false 3 1 := FV.mk' (by kernel_rfl) ti9 rfl
instance : BT Tryz.prog 107 [(0, 1), (1, 1), (2, 1), (3, 1)] [(.int .u8 0), (S []), nilS, (S [])] := BT.mk' [(5, 0, 1), (9, 1, 1), (106, 2, 1), (9, 3, 1)] rfl (by kernel_rfl) (by kernel_rfl) rfl
instance fa108_0 : FA Tryz.prog 108 0 0 := FA.mk' (by kernel_rfl) ti5 rfl
instance fv108_0 : FV Tryz.prog 108 0 false 0 1 := FV.mk' (by kernel_rfl) ti5 rfl
instance fa108_1 : FA Tryz.prog 108 1 1 := FA.mk' (by kernel_rfl) ti9 rfl
instance fv108_1 : FV Tryz.prog 108 1 false 1 1 := FV.mk' (by kernel_rfl) ti9 rfl
instance fa108_2 : FA Tryz.prog 108 2 2 := FA.mk' (by kernel_rfl) ti106 rfl
instance fv108_2 : FV Tryz.prog 108 2 false 2 1 := FV.mk' (by kernel_rfl) ti106 rfl
instance fa108_3 : FA Tryz.prog 108 3 3 := FA.mk' (by kernel_rfl) ti9 rfl
instance fv108_3 : FV Tryz.prog 108 3 false 3 1 := FV.mk' (by kernel_rfl) ti9 rfl
instance : BT Tryz.prog 108 [(0, 1), (1, 1), (2, 1), (3, 1)] [(.int .u8 0), (S []), nilS, (S [])] := BT.mk' [(5, 0, 1), (9, 1, 1), (106, 2, 1), (9, 3, 1)] rfl (by kernel_rfl) (by kernel_rfl) rfl
instance fa110_0 : FA Tryz.prog 110 0 0 := FA.mk' (by kernel_rfl) ti3 rfl
instance fv110_0 : FV Tryz.prog 110 0 false 0 1 := FV.mk' (by kernel_rfl) ti3 rfl
instance fa110_1 : FA Tryz.prog 110 1 1 := FA.mk' (by kernel_rfl) ti9 rfl
instance fv110_1 : FV Tryz.prog 110 1 false 1 1 := FV.mk' (by kernel_rfl) ti9 rfl
instance fa110_2 : FA Tryz.prog 110 2 2 := FA.mk' (by kernel_rfl) ti45 rfl
instance fv110_2 : FV Tryz.prog 110 2 true 2 3 := FV.mk' (by kernel_rfl) ti45 rfl
instance fa110_3 : FA Tryz.prog 110 3 5 := FA.mk' (by kernel_rfl) ti9 rfl
instance fv110_3 : FV Tryz.prog 110 3 false 5 1 := FV.mk' (by kernel_rfl) ti9 rfl
instance : BT Tryz.prog 110 [(0, 1), (1, 1), (2, 3), (5, 1)] [(.int .i64 0), (S []), (S []), (S []), (S []), (S [])] := BT.mk' [(3, 0, 1), (9, 1, 1), (45, 2, 3), (9, 5, 1)] rfl (by kernel_rfl) (by kernel_rfl) rfl
instance fa111_0 : FA Tryz.prog 111 0 0 := FA.mk' (by kernel_rfl) ti3 rfl
instance fv111_0 : FV Tryz.prog 111 0 false 0 1 := FV.mk' (by kernel_rfl) ti3 rfl
instance fa111_1 : FA Tryz.prog 111 1 1 := FA.mk' (by kernel_rfl) ti9 rfl
instance fv111_1 : FV Tryz.prog 111 1 false 1 1 := FV.mk' (by kernel_rfl) ti9 rfl
instance fa111_2 : FA Tryz.prog 111 2 2 := FA.mk' (by kernel_rfl) ti45 rfl
instance fv111_2 : FV Tryz.prog 111 2 true 2 3 := FV.mk' (by kernel_rfl) ti45 rfl
instance fa111_3 : FA Tryz.prog 111 3 5 := FA.mk' (by kernel_rfl) ti9 rfl
instance fv111_3 : FV Tryz.prog 111 3 false 5 1 := FV.mk' (by kernel_rfl) ti9 rfl
instance : BT Tryz.prog 111 [(0, 1), (1, 1), (2, 3), (5, 1)] [(.int .i64 0), (S []), (S []), (S []), (S []), (S [])] := BT.mk' [(3, 0, 1), (9, 1, 1), (45, 2, 3), (9, 5, 1)] rfl (by kernel_rfl) (by kernel_rfl) rfl
instance fa119_0 : FA Tryz.prog 119 0 0 := FA.mk' (by kernel_rfl) ti118 rfl
instance fv119_0 : FV Tryz.prog 119 0 false 0 1 := FV.mk' (by kernel_rfl) ti118 rfl
instance fa119_1 : FA Tryz.prog 119 1 1 := FA.mk' (by kernel_rfl) ti22 rfl
instance fv119_1 : FV Tryz.prog 119 1 false 1 1 := FV.mk' (by kernel_rfl) ti22 rfl
instance : BT Tryz.prog 119 [(0, 1), (1, 1)] [(.pointer none), nilS] := BT.mk' [(118, 0, 1), (22, 1, 1)] rfl (by kernel_rfl) (by kernel_rfl) rfl
instance fa120_0 : FA Tryz.prog 120 0 0 := FA.mk' (by kernel_rfl) ti118 rfl
instance fv120_0 : FV Tryz.prog 120 0 false 0 1 := FV.mk' (by kernel_rfl) ti118 rfl
instance fa120_1 : FA Tryz.prog 120 1 1 := FA.mk' (by kernel_rfl) ti22 rfl
instance fv120_1 : FV Tryz.prog 120 1 false 1 1 := FV.mk' (by kernel_rfl) ti22 rfl
instance : BT Tryz.prog 120 [(0, 1), (1, 1)] [(.pointer none), nilS] := BT.mk' [(118, 0, 1), (22, 1, 1)] rfl (by kernel_rfl) (by kernel_rfl) rfl
instance fa135_0 : FA Tryz.prog 135 0 0 := FA.mk' (by kernel_rfl) ti3 rfl
instance fv135_0 : FV Tryz.prog 135 0 false 0 1 := FV.mk' (by kernel_rfl) ti3 rfl
instance fa135_1 : FA Tryz.prog 135 1 1 := FA.mk' (by kernel_rfl) ti9 rfl
instance fv135_1 : FV Tryz.prog 135 1 false 1 1 := FV.mk' (by kernel_rfl) ti9 rfl
instance fa135_2 : FA Tryz.prog 135 2 2 := FA.mk' (by kernel_rfl) ti9 rfl
instance fv135_2 : FV Tryz.prog 135 2 false 2 1 := FV.mk' (by kernel_rfl) ti9 rfl
instance fa135_3 : FA Tryz.prog 135 3 3 := FA.mk' (by kernel_rfl) ti9 rfl
instance fv135_3 : FV Tryz.prog 135 3 false 3 1 := FV.mk' (by kernel_rfl) ti9 rfl
instance : BT Tryz.prog 135 [(0, 1), (1, 1), (2, 1), (3, 1)] [(.int .i64 0), (S []), (S []), (S [])] := BT.mk' [(3, 0, 1), (9, 1, 1), (9, 2, 1), (9, 3, 1)] rfl (by kernel_rfl) (by kernel_rfl) rfl
instance fa136_0 : FA Tryz.prog 136 0 0 := FA.mk' (by kernel_rfl) ti3 rfl
instance fv136_0 : FV Tryz.prog 136 0 false 0 1 := FV.mk' (by kernel_rfl) ti3 rfl
instance fa136_1 : FA Tryz.prog 136 1 1 := FA.mk' (by kernel_rfl) ti9 rfl
instance fv136_1 : FV Tryz.prog 136 1 false 1 1 := FV.mk' (by kernel_rfl) ti9 rfl
instance fa136_2 : FA Tryz.prog 136 2 2 := FA.mk' (by kernel_rfl) ti9 rfl
instance fv136_2 : FV Tryz.prog 136 2 false 2 1 := FV.mk' (by kernel_rfl) ti9 rfl
instance fa136_3 : FA Tryz.prog 136 3 3 := FA.mk' (by kernel_rfl) ti9 rfl
instance fv136_3 : FV Tryz.prog 136 3 false 3 1 := FV.mk' (by kernel_rfl) ti9 rfl
instance : BT Tryz.prog 136 [(0, 1), (1, 1), (2, 1), (3, 1)] [(.int .i64 0), (S []), (S []), (S [])] := BT.mk' [(3, 0, 1), (9, 1, 1), (9, 2, 1), (9, 3, 1)] rfl (by kernel_rfl) (by kernel_rfl) rfl
instance fa142_0 : FA Tryz.prog 142 0 0 := FA.mk' (by kernel_rfl) ti43 rfl
instance fv142_0 : FV Tryz.prog 142 0 false 0 1 := FV.mk' (by kernel_rfl) ti43 rfl
instance fa142_1 : FA Tryz.prog 142 1 1 := FA.mk' (by kernel_rfl) ti9 rfl
instance fv142_1 : FV Tryz.prog 142 1 false 1 1 := FV.mk' (by kernel_rfl) ti9 rfl
instance fa142_2 : FA Tryz.prog 142 2 2 := FA.mk' (by kernel_rfl) ti4 rfl
instance fv142_2 : FV Tryz.prog 142 2 false 2 1 := FV.mk' (by kernel_rfl) ti4 rfl
instance : BT Tryz.prog 142 [(0, 1), (1, 1), (2, 1)] [(.pointer none), (S []), (.bool false)] := BT.mk' [(43, 0, 1), (9, 1, 1), (4, 2, 1)] rfl (by kernel_rfl) (by kernel_rfl) rfl
instance fa143_0 : FA Tryz.prog 143 0 0 := FA.mk' (by kernel_rfl) ti43 rfl
instance fv143_0 : FV Tryz.prog 143 0 false 0 1 := FV.mk' (by kernel_rfl) ti43 rfl
instance fa143_1 : FA Tryz.prog 143 1 1 := FA.mk' (by kernel_rfl) ti9 rfl
instance fv143_1 : FV Tryz.prog 143 1 false 1 1 := FV.mk' (by kernel_rfl) ti9 rfl
instance fa143_2 : FA Tryz.prog 143 2 2 := FA.mk' (by kernel_rfl) ti4 rfl
instance fv143_2 : FV Tryz.prog 143 2 false 2 1 := FV.mk' (by kernel_rfl) ti4 rfl
instance : BT Tryz.prog 143 [(0, 1), (1, 1), (2, 1)] [(.pointer none), (S []), (.bool false)] := BT.mk' [(43, 0, 1), (9, 1, 1), (4, 2, 1)] rfl (by kernel_rfl) (by kernel_rfl) rfl
instance fa152_0 : FA Tryz.prog 152 0 0 := FA.mk' (by kernel_rfl) ti5 rfl
instance fv152_0 : FV Tryz.prog 152 0 false 0 1 := FV.mk' (by kernel_rfl) ti5 rfl
instance fa152_1 : FA Tryz.prog 152 1 1 := FA.mk' (by kernel_rfl) ti9 rfl
instance fv152_1 : FV Tryz.prog 152 1 false 1 1 := FV.mk' (by kernel_rfl) ti9 rfl
instance fa152_2 : FA Tryz.prog 152 2 2 := FA.mk' (by kernel_rfl) ti151 rfl
instance fv152_2 : FV Tryz.prog 152 2 false 2 1 := FV.mk' (by kernel_rfl) ti151 rfl
instance : BT Tryz.prog 152 [(0, 1), (1, 1), (2, 1)] [(.int .u8 0), (S []), nilS] := BT.mk' [(5, 0, 1), (9, 1, 1), (151, 2, 1)] rfl (by kernel_rfl) (by kernel_rfl) rfl
instance fa153_0 : FA Tryz.prog 153 0 0 := FA.mk' (by kernel_rfl) ti5 rfl
instance fv153_0 : FV Tryz.prog 153 0 false 0 1 := FV.mk' (by kernel_rfl) ti5 rfl
instance fa153_1 : FA Tryz.prog 153 1 1 := FA.mk' (by kernel_rfl) ti9 rfl
instance fv153_1 : FV Tryz.prog 153 1 false 1 1 := FV.mk' (by kernel_rfl) ti9 rfl
instance fa153_2 : FA Tryz.prog 153 2 2 := FA.mk' (by kernel_rfl) ti151 rfl
instance fv153_2 : FV Tryz.prog 153 2 false 2 1 := FV.mk' (by kernel_rfl) ti151 rfl
instance : BT Tryz.prog 153 [(0, 1), (1, 1), (2, 1)] [(.int .u8 0), (S []), nilS] := BT.mk' [(5, 0, 1), (9, 1, 1), (151, 2, 1)] rfl (by kernel_rfl) (by kernel_rfl) rfl
instance fa205_0 : FA Tryz.prog 205 0 0 := FA.mk' (by kernel_rfl) ti5 rfl
instance fv205_0 : FV Tryz.prog 205 0 false 0 1 := FV.mk' (by kernel_rfl) ti5 rfl
instance fa205_1 : FA Tryz.prog 205 1 1 := FA.mk' (by kernel_rfl) ti5 rfl
instance fv205_1 : FV Tryz.prog 205 1 false 1 1 := FV.mk' (by kernel_rfl) ti5 rfl
instance : BT Tryz.prog 205 [(0, 1), (1, 1)] [(.int .u8 0), (.int .u8 0)] := BT.mk' [(5, 0, 1), (5, 1, 1)] rfl (by kernel_rfl) (by kernel_rfl) rfl
instance fa206_0 : FA Tryz.prog 206 0 0 := FA.mk' (by kernel_rfl) ti5 rfl
instance fv206_0 : FV Tryz.prog 206 0 false 0 1 := FV.mk' (by kernel_rfl) ti5 rfl
instance fa206_1 : FA Tryz.prog 206 1 1 := FA.mk' (by kernel_rfl) ti5 rfl
instance fv206_1 : FV Tryz.prog 206 1 false 1 1 := FV.mk' (by kernel_rfl) ti5 rfl
instance : BT Tryz.prog 206 [(0, 1), (1, 1)] [(.int .u8 0), (.int .u8 0)] := BT.mk' [(5, 0, 1), (5, 1, 1)] rfl (by kernel_rfl) (by kernel_rfl) rfl
instance fa209_0 : FA Tryz.prog 209 0 0 := FA.mk' (by kernel_rfl) ti17 rfl
instance fv209_0 : FV Tryz.prog 209 0 false 0 1 := FV.mk' (by kernel_rfl) ti17 rfl
instance fa209_1 : FA Tryz.prog 209 1 1 := FA.mk' (by kernel_rfl) ti17 rfl
instance fv209_1 : FV Tryz.prog 209 1 false 1 1 := FV.mk' (by kernel_rfl) ti17 rfl
instance fa209_2 : FA Tryz.prog 209 2 2 := FA.mk' (by kernel_rfl) ti17 rfl
instance fv209_2 : FV Tryz.prog 209 2 false 2 1 := FV.mk' (by kernel_rfl) ti17 rfl
instance fa209_3 : FA Tryz.prog 209 3 3 := FA.mk' (by kernel_rfl) ti9 rfl
instance fv209_3 : FV Tryz.prog 209 3 false 3 1 := FV.mk' (by kernel_rfl) ti9 rfl
instance : BT Tryz.prog 209 [(0, 1), (1, 1), (2, 1), (3, 1)] [(.pointer none), (.pointer none), (.pointer none), (S [])] := BT.mk' [(17, 0, 1), (17, 1, 1), (17, 2, 1), (9, 3, 1)] rfl (by kernel_rfl) (by kernel_rfl) rfl
instance fa210_0 : FA Tryz.prog 210 0 0 := FA.mk' (by kernel_rfl) ti17 rfl
instance fv210_0 : FV Tryz.prog 210 0 false 0 1 := FV.mk' (by kernel_rfl) ti17 rfl
instance fa210_1 : FA Tryz.prog 210 1 1 := FA.mk' (by kernel_rfl) ti17 rfl
instance fv210_1 : FV Tryz.prog 210 1 false 1 1 := FV.mk' (by kernel_rfl) ti17 rfl
instance fa210_2 : FA Tryz.prog 210 2 2 := FA.mk' (by kernel_rfl) ti17 rfl
instance fv210_2 : FV Tryz.prog 210 2 false 2 1 := FV.mk' (by kernel_rfl) ti17 rfl
instance fa210_3 : FA Tryz.prog 210 3 3 := FA.mk' (by kernel_rfl) ti9 rfl
instance fv210_3 : FV Tryz.prog 210 3 false 3 1 := FV.mk' (by kernel_rfl) ti9 rfl
instance : BT Tryz.prog 210 [(0, 1), (1, 1), (2, 1), (3, 1)] [(.pointer none), (.pointer none), (.pointer none), (S [])] := BT.mk' [(17, 0, 1), (17, 1, 1), (17, 2, 1), (9, 3, 1)] rfl (by kernel_rfl) (by kernel_rfl) rfl
instance : BT Tryz.prog 212 [(0, 0)] [] := BT.mk' [(211, 0, 0)] rfl (by kernel_rfl) (by kernel_rfl) rfl
instance : BT Tryz.prog 213 [(0, 0)] [] := BT.mk' [(211, 0, 0)] rfl (by kernel_rfl) (by kernel_rfl) rfl
def tb : Tbl := ⟨12, 78984218751417890023438520762752824239171321550411833440733233248, 16, 3584, 24519952037972409602456492048068534660996586794406608896, [(7, [(false, 0, 1), (false, 1, 1), (false, 2, 1), (false, 3, 1)]), (8, [(false, 0, 1), (false, 1, 1), (false, 2, 1), (false, 3, 1)]), (13, [(false, 0, 1), (false, 1, 1)]), (14, [(false, 0, 1), (false, 1, 1)]), (18, [(false, 0, 1)]), (19, [(false, 0, 1)]), (44, [(false, 0, 1), (false, 1, 1), (false, 2, 1)]), (45, [(false, 0, 1), (false, 1, 1), (false, 2, 1)]), (47, [(false, 0, 1), (false, 1, 1), (false, 2, 1), (false, 3, 1)]), (48, [(false, 0, 1), (false, 1, 1), (false, 2, 1), (false, 3, 1)]), (77, [(false, 0, 1), (false, 1, 1), (false, 2, 1), (false, 3, 1)]), (78, [(false, 0, 1), (false, 1, 1), (false, 2, 1), (false, 3, 1)]), (82, [(false, 0, 1)]), (83, [(false, 0, 1)]), (91, [(false, 0, 1), (false, 1, 1)]), (92, [(false, 0, 1), (false, 1, 1)]), (104, [(false, 0, 1), (false, 1, 1)]), (105, [(false, 0, 1), (false, 1, 1)]), (107, [(false, 0, 1), (false, 1, 1), (false, 2, 1), (false, 3, 1)]), (108, [(false, 0, 1), (false, 1, 1), (false, 2, 1), (false, 3, 1)]), (110, [(false, 0, 1), (false, 1, 1), (true, 2, 3), (false, 5, 1)]), (111, [(false, 0, 1), (false, 1, 1), (true, 2, 3), (false, 5, 1)]), (119, [(false, 0, 1), (false, 1, 1)]), (120, [(false, 0, 1), (false, 1, 1)]), (135, [(false, 0, 1), (false, 1, 1), (false, 2, 1), (false, 3, 1)]), (136, [(false, 0, 1), (false, 1, 1), (false, 2, 1), (false, 3, 1)]), (142, [(false, 0, 1), (false, 1, 1), (false, 2, 1)]), (143, [(false, 0, 1), (false, 1, 1), (false, 2, 1)]), (152, [(false, 0, 1), (false, 1, 1), (false, 2, 1)]), (153, [(false, 0, 1), (false, 1, 1), (false, 2, 1)]), (205, [(false, 0, 1), (false, 1, 1)]), (206, [(false, 0, 1), (false, 1, 1)]), (209, [(false, 0, 1), (false, 1, 1), (false, 2, 1), (false, 3, 1)]), (210, [(false, 0, 1), (false, 1, 1), (false, 2, 1), (false, 3, 1)])]⟩
theorem tbFl : flOk Tryz.prog tb.fl := ⟨⟨⟨fv7_0, fa7_0⟩, ⟨fv7_1, fa7_1⟩, ⟨fv7_2, fa7_2⟩, ⟨fv7_3, fa7_3⟩, trivial⟩, ⟨⟨fv8_0, fa8_0⟩, ⟨fv8_1, fa8_1⟩, ⟨fv8_2, fa8_2⟩, ⟨fv8_3, fa8_3⟩, trivial⟩, ⟨⟨fv13_0, fa13_0⟩, ⟨fv13_1, fa13_1⟩, trivial⟩, ⟨⟨fv14_0, fa14_0⟩, ⟨fv14_1, fa14_1⟩, trivial⟩, ⟨⟨fv18_0, fa18_0⟩, trivial⟩, ⟨⟨fv19_0, fa19_0⟩, trivial⟩, ⟨⟨fv44_0, fa44_0⟩, ⟨fv44_1, fa44_1⟩, ⟨fv44_2, fa44_2⟩, trivial⟩, ⟨⟨fv45_0, fa45_0⟩, ⟨fv45_1, fa45_1⟩, ⟨fv45_2, fa45_2⟩, trivial⟩, ⟨⟨fv47_0, fa47_0⟩, ⟨fv47_1, fa47_1⟩, ⟨fv47_2, fa47_2⟩, ⟨fv47_3, fa47_3⟩, trivial⟩, ⟨⟨fv48_0, fa48_0⟩, ⟨fv48_1, fa48_1⟩, ⟨fv48_2, fa48_2⟩, ⟨fv48_3, fa48_3⟩, trivial⟩, ⟨⟨fv77_0, fa77_0⟩, ⟨fv77_1, fa77_1⟩, ⟨fv77_2, fa77_2⟩, ⟨fv77_3, fa77_3⟩, trivial⟩, ⟨⟨fv78_0, fa78_0⟩, ⟨fv78_1, fa78_1⟩, ⟨fv78_2, fa78_2⟩, ⟨fv78_3, fa78_3⟩, trivial⟩, ⟨⟨fv82_0, fa82_0⟩, trivial⟩, ⟨⟨fv83_0, fa83_0⟩, trivial⟩, ⟨⟨fv91_0, fa91_0⟩, ⟨fv91_1, fa91_1⟩, trivial⟩, ⟨⟨fv92_0, fa92_0⟩, ⟨fv92_1, fa92_1⟩, trivial⟩, ⟨⟨fv104_0, fa104_0⟩, ⟨fv104_1, fa104_1⟩, trivial⟩, ⟨⟨fv105_0, fa105_0⟩, ⟨fv105_1, fa105_1⟩, trivial⟩, ⟨⟨fv107_0, fa107_0⟩, ⟨fv107_1, fa107_1⟩, ⟨fv107_2, fa107_2⟩, ⟨fv107_3, fa107_3⟩, trivial⟩, ⟨⟨fv108_0, fa108_0⟩, ⟨fv108_1, fa108_1⟩, ⟨fv108_2, fa108_2⟩, ⟨fv108_3, fa108_3⟩, trivial⟩, ⟨⟨fv110_0, fa110_0⟩, ⟨fv110_1, fa110_1⟩, ⟨fv110_2, fa110_2⟩, ⟨fv110_3, fa110_3⟩, trivial⟩, ⟨⟨fv111_0, fa111_0⟩, ⟨fv111_1, fa111_1⟩, ⟨fv111_2, fa111_2⟩, ⟨fv111_3, fa111_3⟩, trivial⟩, ⟨⟨fv119_0, fa119_0⟩, ⟨fv119_1, fa119_1⟩, trivial⟩, ⟨⟨fv120_0, fa120_0⟩, ⟨fv120_1, fa120_1⟩, trivial⟩, ⟨⟨fv135_0, fa135_0⟩, ⟨fv135_1, fa135_1⟩, ⟨fv135_2, fa135_2⟩, ⟨fv135_3, fa135_3⟩, trivial⟩, ⟨⟨fv136_0, fa136_0⟩, ⟨fv136_1, fa136_1⟩, ⟨fv136_2, fa136_2⟩, ⟨fv136_3, fa136_3⟩, trivial⟩, ⟨⟨fv142_0, fa142_0⟩, ⟨fv142_1, fa142_1⟩, ⟨fv142_2, fa142_2⟩, trivial⟩, ⟨⟨fv143_0, fa143_0⟩, ⟨fv143_1, fa143_1⟩, ⟨fv143_2, fa143_2⟩, trivial⟩, ⟨⟨fv152_0, fa152_0⟩, ⟨fv152_1, fa152_1⟩, ⟨fv152_2, fa152_2⟩, trivial⟩, ⟨⟨fv153_0, fa153_0⟩, ⟨fv153_1, fa153_1⟩, ⟨fv153_2, fa153_2⟩, trivial⟩, ⟨⟨fv205_0, fa205_0⟩, ⟨fv205_1, fa205_1⟩, trivial⟩, ⟨⟨fv206_0, fa206_0⟩, ⟨fv206_1, fa206_1⟩, trivial⟩, ⟨⟨fv209_0, fa209_0⟩, ⟨fv209_1, fa209_1⟩, ⟨fv209_2, fa209_2⟩, ⟨fv209_3, fa209_3⟩, trivial⟩, ⟨⟨fv210_0, fa210_0⟩, ⟨fv210_1, fa210_1⟩, ⟨fv210_2, fa210_2⟩, ⟨fv210_3, fa210_3⟩, trivial⟩, trivial⟩
instance : Tab Tryz.prog tb := Tab.mk' 221 (by kernel_rfl) (by kernel_rfl) (by kernel_rfl) (by kernel_rfl) (by kernel_rfl) tbFl
theorem mixed : Tryz.prog.follows .mixedOrders = true := by kernel_rfl
end Go.E
namespace Go.E
open Go.Proofs
section
variable {n : Nat} {D : List Deferred} {E : Env} {B : Base} {G : Gh} {L : List Own} {k : List Fr} {Q : Exit → Act → World → Prop} {K : Act → World → Prop}
theorem jT [PQ Q] {ops : List Oper} {G0 : Gh} {L0 : List Own} (fuel : Nat) (is : List Nat) {E' : Env} {p' : List Prop} {fuel' : Nat} {listed : Array Bool} (listed' : Array Bool) (hn : Nx n D E' B G L (xA Tryz.prog ops.toArray Q (Stab B G0 L0) fuel listed'))
    (hf : Nat.beq (fuel + is.length) fuel' = true := by exact rfl) (h : takeN tb n ops is E [] = some (E', p') := by exact rfl) (hsel : Region.noSelect ops.toArray = true := by kernel_rfl) (hb : tksB ops.toArray is listed listed' = true := by kernel_rfl)
    (hG : Gh.le G0 G := by first | exact Gh.le.refl _ | assumption) (hL : L0.Sublist L := by repeat (first | exact List.Sublist.refl _ | exact List.nil_sublist _ | apply List.Sublist.cons_cons | apply List.Sublist.cons)) (hp : AllP p' := by exact trivial) : Nx n D E B G L (xA Tryz.prog ops.toArray Q (Stab B G0 L0) fuel' listed) := x_tks is listed' hsel hb hf h hG hL hp hn
theorem jU [PQ Q] {ops : List Oper} {G0 : Gh} {L0 : List Own} (fuel : Nat) (is : List Nat) {E' : Env} {p' : List Prop} {fuel' : Nat} {listed : Array Bool} (listed' : Array Bool) (hp : AllP p') (hn : Nx n D E' B G L (xA Tryz.prog ops.toArray Q (Stab B G0 L0) fuel listed'))
    (hf : Nat.beq (fuel + is.length) fuel' = true := by exact rfl) (h : takeN tb n ops is E [] = some (E', p') := by exact rfl) (hsel : Region.noSelect ops.toArray = true := by kernel_rfl) (hb : tksB ops.toArray is listed listed' = true := by kernel_rfl)
    (hG : Gh.le G0 G := by first | exact Gh.le.refl _ | assumption) (hL : L0.Sublist L := by repeat (first | exact List.Sublist.refl _ | exact List.nil_sublist _ | apply List.Sublist.cons_cons | apply List.Sublist.cons)) : Nx n D E B G L (xA Tryz.prog ops.toArray Q (Stab B G0 L0) fuel' listed) := x_tks is listed' hsel hb hf h hG hL hp hn
theorem jN {ops : List Oper} {G0 : Gh} {L0 : List Own} {fuel : Nat} {listed : Array Bool} (listed' : Array Bool) [PQ Q] (i : Nat) {o : Oper} {d : Nat} (hi : ops.toArray[i]? = some o)
    (k : Nx n D ((d, undef) :: E) B G L (xA Tryz.prog ops.toArray Q (Stab B G0 L0) fuel listed')) (hb : tkB ops.toArray listed i listed' = true := by kernel_rfl) (hgu : gdL E ops o = some false := by exact rfl) (hG : Gh.le G0 G := by first | exact Gh.le.refl _ | assumption) (hL : L0.Sublist L := by repeat (first | exact List.Sublist.refl _ | exact List.nil_sublist _ | apply List.Sublist.cons_cons | apply List.Sublist.cons)) (hd : o.dst = some d := by exact rfl) (hlt : Nat.blt d n = true := by exact rfl) :
    Nx n D E B G L (xA Tryz.prog ops.toArray Q (Stab B G0 L0) (fuel + 1) listed) := x_tkn listed' i hi hb hgu hG hL hd hlt k
theorem jG {ops : List Oper} {G0 : Gh} {L0 : List Own} {fuel : Nat} {listed : Array Bool} (listed' : Array Bool) [PQ Q] (i : Nat) {o : Oper} {d : Nat} {v : Value} (hi : ops.toArray[i]? = some o) (hg : Gives Tryz.prog n D E (Stab B G0 L0) o v)
    (k : Nx n D ((d, v) :: E) B G L (xA Tryz.prog ops.toArray Q (Stab B G0 L0) fuel listed')) (hb : tkB ops.toArray listed i listed' = true := by kernel_rfl) (hgu : gdL E ops o = some true := by exact rfl) (hG : Gh.le G0 G := by first | exact Gh.le.refl _ | assumption) (hL : L0.Sublist L := by repeat (first | exact List.Sublist.refl _ | exact List.nil_sublist _ | apply List.Sublist.cons_cons | apply List.Sublist.cons)) (hd : o.dst = some d := by exact rfl) (hlt : Nat.blt d n = true := by exact rfl) :
    Nx n D E B G L (xA Tryz.prog ops.toArray Q (Stab B G0 L0) (fuel + 1) listed) := x_tkg listed' i hi hb hgu hG hL hg hd hlt k
theorem jV {o : Oper} {d : Nat} {v : Value} (hg : Gives Tryz.prog n D E (St B G L) o v) (k : Nx n D ((d, v) :: E) B G L K) (hd : o.dst = some d := by exact rfl) (hlt : Nat.blt d n = true := by exact rfl) : Nx n D E B G L (ow Tryz.prog o Q K) := v_op hg hd hlt k
theorem jR {E' : Env} {c c' : Cu} {k k' : List Fr} {p' : List Prop} (hn : Nx n D E' B G L (cu Tryz.prog c' k' Q)) (h : runN tb n 400 E c k = some ⟨E', c', k', p'⟩ := by exact rfl) (hp : AllP p' := by exact trivial) : Nx n D E B G L (cu Tryz.prog c k Q) := run 400 h hp hn
theorem jM {E' : Env} {c c' : Cu} {k k' : List Fr} {p' : List Prop} (hn : Nx n D E' B G L (cu Tryz.prog c' k' Q)) (h : runN tb n 400 E c k = some ⟨E', c', k', p'⟩ := by exact rfl) (hp : AllP p' := by (repeat' (first | exact trivial | apply And.intro | omega)); done) : Nx n D E B G L (cu Tryz.prog c k Q) := run 400 h hp hn
theorem jE {f : FuncId} {fn : Func} {c : Code} {args : List Value} {R : Value → Prop} (E0 : Env) (hf : Tryz.prog.funcs[f]? = some fn) (hn : fn.ntmps = n)
    (h : ∀ B, B.W = [] → Nx n [] E0 B G [] (cu Tryz.prog (.code c) [] (bp Tryz.prog fn (RPost B (fun v G' L' => G' = G ∧ L' = [] ∧ R v))))) (hb : fn.body = some c := by exact rfl) (hok : bodyOk Tryz.prog f = true := by kernel_rfl) (hlen : Nat.ble args.length n = true := by exact rfl) (hE : Sub E0 (params 0 args) := by repeat' constructor) : PuG Tryz.prog f args G R := p_enter E0 hf hok hn hb hlen hE h
theorem jB {f : FuncId} {fn : Func} {c : Code} {args : List Value} {Post : Value → Gh → List Own → Prop} (E0 : Env) (hf : Tryz.prog.funcs[f]? = some fn) (hn : fn.ntmps = n)
    (h : ∀ B, BOk B → B.G = G → B.W = bks L → Nx n [] E0 B G L (cu Tryz.prog (.code c) [] (bp Tryz.prog fn (RPost B Post)))) (hb : fn.body = some c := by exact rfl) (hok : bodyOk Tryz.prog f = true := by kernel_rfl) (hlen : Nat.ble args.length n = true := by exact rfl) (hE : Sub E0 (params 0 args) := by repeat' constructor) : Fn Tryz.prog f args G L Post := b_enter E0 hf hok hn hb hlen hE h
theorem jH {f : FuncId} {fn : Func} {c : Code} {args : List Value} {R : Value → List Own → Prop} (E0 : Env) (hf : Tryz.prog.funcs[f]? = some fn) (hn : fn.ntmps = n)
    (h : ∀ B, B.G = G → B.W = bks L → Nx n [] E0 B G L (cu Tryz.prog (.code c) [] (bp Tryz.prog fn (RPost B (fun v G' L' => G' = G ∧ R v L'))))) (hb : fn.body = some c := by exact rfl) (hok : bodyOk Tryz.prog f = true := by kernel_rfl) (hlen : Nat.ble args.length n = true := by exact rfl) (hE : Sub E0 (params 0 args) := by repeat' constructor) : FnG Tryz.prog f args G L R := g_enter E0 hf hok hn hb hlen hE h
theorem jK {ops : Array Oper} {G0 : Gh} {L0 : List Own} {fuel : Nat} {listed : Array Bool} (listed' : Array Bool) (h : Nx n D E B G L (xA Tryz.prog ops Q (Stab B G0 L0) fuel listed')) (hG : Gh.le G0 G := by first | exact Gh.le.refl _ | assumption) (hL : L0.Sublist L := by repeat (first | exact List.Sublist.refl _ | exact List.nil_sublist _ | apply List.Sublist.cons_cons | apply List.Sublist.cons)) (hl : (listed == listed') = true := by kernel_rfl) : Nx n D E B G L (xK Tryz.prog ops Q (Stab B G0 L0) fuel listed) := x_kk hG hL hl h
theorem jS {ops : Array Oper} {G0 : Gh} {L0 : List Own} {fuel : Nat} {listed : Array Bool} (listed' : Array Bool) (h : Nx n D E B G L (xA Tryz.prog ops Q (Stab B G L) fuel listed')) (hG : Gh.le G0 G := by first | exact Gh.le.refl _ | assumption) (hL : L0.Sublist L := by repeat (first | exact List.Sublist.refl _ | exact List.nil_sublist _ | apply List.Sublist.cons_cons | apply List.Sublist.cons)) (hl : (listed == listed') = true := by kernel_rfl) : Nx n D E B G L (xK Tryz.prog ops Q (Stab B G0 L0) fuel listed) := x_ks hG hL hl h
theorem jA {ops : List Oper} {S : World → Prop} {fuel : Nat} {listed : Array Bool} (i : Nat) {o : Oper} (hi : ops.toArray[i]? = some o) (h : Nx n D E B G L (ow Tryz.prog o Q (xK Tryz.prog ops.toArray Q S fuel (listed.setIfInBounds i true)))) (hr : Region.ready .any ops.toArray listed = [i] := by kernel_rfl) (hgu : gdL E ops o = some true := by exact rfl) : Nx n D E B G L (xA Tryz.prog ops.toArray Q S (fuel + 1) listed) :=
  x_all [i] hr (by simp) ⟨x_opg hi hgu h, trivial⟩
theorem jZ {fn : Func} {rs : List ResultVar} {vs : List Value} {v : Value} {L' : List Own} {Post : Value → Gh → List Own → Prop} (hr : fn.results = rs.toArray) (h : ResV Tryz.prog (St B G L) E rs vs) (hv : oneOf vs = v) (hP : Post v G L')
    (hL : L'.Sublist L := by exact List.nil_sublist _) : Nx n [] E B G L (cu Tryz.prog (.exit .ret) [] (bp Tryz.prog fn (RPost B Post))) := k_rr hr h hv hL hP
theorem zA {α : Type _} {a : α} {l m : List α} : a :: l ++ m = a :: (l ++ m) := rfl
theorem fA {α : Type _} {l : List α} : [] ++ l = l := rfl
end
end Go.E
namespace Go.E
set_option maxRecDepth 20000
set_option maxHeartbeats 2000000
theorem u8s_snoc (l : List UInt8) (c : UInt8) : u8s (l ++ [c]) = u8s l ++ [U8 c.toNat] := by simp [u8s]
def num (n : Nat) : List UInt8 := if h : n < 128 then [u8 n] else u8 (128 + n % 128 : Nat) :: num (n / 128)
termination_by n
decreasing_by omega
theorem num_lo {n : Nat} (h : n < 128) : num n = [u8 n] := by rw [num]; simp [h]
theorem num_hi {n : Nat} (h : ¬ n < 128) : num n = u8 (128 + n % 128 : Nat) :: num (n / 128) := by rw [num]; simp [h]
def numI (n : Int) : List UInt8 := num n.toNat
theorem numI_lo {n : Int} (h : n < 128) (h0 : 0 ≤ n) : numI n = [u8 n] := by
 unfold numI; rw [num_lo (by omega), Int.toNat_of_nonneg h0]
theorem numI_hi {n : Int} (h : ¬ n < 128) : numI n = u8 (128 + n % 128) :: numI (n / 128) := by
 unfold numI; rw [num_hi (by omega)]
 congr 2
 ·omega
 ·omega
theorem num_len (n : Nat) : ∀ k, n < 128 ^ (k + 1) → (num n).length ≤ k + 1 := by
 intro k
 induction k generalizing n with
 | zero => intro h; rw [num_lo (by simpa using h)]; simp
 | succ k ih =>
  intro h
  by_cases h1 : n < 128
  ·rw [num_lo h1]; simp
  ·rw [num_hi h1]
   have := ih (n / 128) (Nat.div_lt_of_lt_mul (by rw [Nat.pow_succ] at h; omega))
   simp; omega
theorem num_len9 (n : Nat) (h : n ≤ 9223372036854775807) : (num n).length ≤ 9 := num_len n 8 (by omega)
theorem numI_len (n : Int) (h : n ≤ 9223372036854775807) : (numI n).length ≤ 9 := num_len9 _ (by omega)
def sumF (n : Int) : List UInt8 → Int
 | [] => n
 | c :: l => sumF ((n * 31 + (c.toNat : Int)) % 9973) l
def sumB (l : List UInt8) : Int := sumF 1 l
theorem sumF_range (l : List UInt8) : ∀ n : Int, 0 ≤ n → n < 9973 → 0 ≤ sumF n l ∧ sumF n l < 9973 := by
 induction l with
 | nil => intro n h1 h2; exact ⟨h1, h2⟩
 | cons c l ih => intro n h1 h2; exact ih _ (Int.emod_nonneg _ (by decide)) (Int.emod_lt_of_pos _ (by decide))
theorem sumB_range (l : List UInt8) : 0 ≤ sumB l ∧ sumB l < 9973 := sumF_range l 1 (by decide) (by decide)
theorem drop_bt {l : List UInt8} {i : Nat} (h : i < l.length) : ∃ c : UInt8, l.drop i = c :: l.drop (i + 1) ∧ bt l i = c.toNat := by
 refine ⟨l[i], (List.getElem_cons_drop (h := h)).symm, ?_⟩
 simp [bt, List.getD, List.getElem?_eq_getElem h]
def frame (s : List UInt8) : List UInt8 := [u8 126] ++ numI s.length ++ s ++ numI (sumB s)
theorem numI_len3 {n : Int} (h : n ≤ 999999) : (numI n).length ≤ 3 := num_len _ 2 (by omega)
end Go.E
namespace Go.E
set_option maxRecDepth 20000
set_option maxHeartbeats 2000000
open Go.Proofs
variable {G : Gh}
theorem c_l6In {n lo hi : Int} : PuG Tryz.prog 87 [I n, I lo, I hi] G (· = Bo (decide (lo ≤ n) && decide (n ≤ hi))) := by
 refine jE [(0, _), (1, _), (2, _)] Tryz.func87 Tryz.ntmps87 fun B hB => ?_
 repeat' (first | (refine jR ?_) | (refine k_op rfl ?_; first | (refine jV (g_pickT rfl rfl rfl) ?_) | (refine jV (g_pickF rfl rfl rfl) ?_)) | refine k_g rfl rfl (fun _ => ?_) (fun _ => ?_))
 all_goals refine jZ (vs := [_]) rfl ⟨rfl, trivial⟩ rfl ⟨rfl, rfl, ?_⟩
 all_goals (rw [oneOf_one]; simp [*])
theorem c_l1Put' : ∀ (k : Nat) {n : Int}, n.toNat ≤ k → 0 ≤ n ∧ n ≤ 9223372036854775807 → PuG Tryz.prog 123 [I n] G (· = S (numI n)) := by
 intro k
 induction k with
 | zero =>
  intro n hk hn
  have h1 : n < 128 := by omega
  refine jE [(0, _)] Tryz.func123 Tryz.ntmps123 fun B hB => ?_
  repeat' (first | (refine jR ?_) | (refine k_op rfl ?_; first | refine c_bsl rfl rfl rfl rfl rfl rfl fun _ => ?_ | refine jV (g_bsB rfl rfl (by (repeat (first | exact BL.nil | apply BL.cons)); done)) ?_) | (refine k_tt rfl (dTt ‹_›) ?_))
  refine jZ (vs := [_]) rfl ⟨rfl, trivial⟩ rfl ⟨rfl, rfl, ?_⟩
  rw [oneOf_one, numI_lo h1 hn.1]
 | succ k ih =>
  intro n hk hn
  have hl := numI_len (n / 128) (by omega)
  refine jE [(0, _)] Tryz.func123 Tryz.ntmps123 fun B hB => ?_
  repeat' (first | (refine jR ?_) | (refine k_op rfl ?_; first | refine c_bsl rfl rfl rfl rfl rfl rfl fun _ => ?_ | refine jV (g_bsB rfl rfl (by (repeat (first | exact BL.nil | apply BL.cons)); done)) ?_) | refine k_if rfl (fun _ => ?_) (fun _ => ?_) | (refine k_any (s_any (id := 3) _ (fun _ h => h) mixed ?_); refine jU 5 [0, 1, 2, 3, 6, 7] (bts 11 207) ?_ ?_; (focus (repeat' (first | exact trivial | apply And.intro | omega))); refine x_all [4, 8] (by kernel_rfl) (by decide) ⟨?_, ?_, trivial⟩; (focus (refine x_opg rfl rfl ?_; (refine c_bsl rfl rfl rfl rfl rfl rfl fun _ => ?_); refine jS (bts 11 223) ?_; ((refine jG (bts 11 255) 5 rfl (g_bsB rfl rfl (by (repeat (first | exact BL.nil | apply BL.cons)); done)) ?_)); refine jA 8 rfl ?_; ((refine c_rt rfl rfl rfl (ih ?_ ?_) rfl ?_; (focus ((omega); done)); (focus ((omega); done)))); refine jS (bts 11 511) ?_; refine jU 0 [9, 10] (bts 11 2047) ?_ ?_; (focus (repeat' (first | exact trivial | apply And.intro | (simp only [List.length_append, List.length_cons, List.length_nil, Int.toNat_natCast]; omega)))); refine x_done (by kernel_rfl) (k_bk ?_))); rotate_left 1; (focus (refine x_opg rfl rfl ?_; ((refine c_rt rfl rfl rfl (ih ?_ ?_) rfl ?_; (focus ((omega); done)); (focus ((omega); done)))); refine jS (bts 11 463) ?_; refine jA 4 rfl ?_; (refine c_bsl rfl rfl rfl rfl rfl rfl fun _ => ?_); refine jS (bts 11 479) ?_; ((refine jG (bts 11 511) 5 rfl (g_bsB rfl rfl (by (repeat (first | exact BL.nil | apply BL.cons)); done)) ?_)); refine jU 0 [9, 10] (bts 11 2047) ?_ ?_; (focus (repeat' (first | exact trivial | apply And.intro | (simp only [List.length_append, List.length_cons, List.length_nil, Int.toNat_natCast]; omega)))); refine x_done (by kernel_rfl) (k_bk ?_))); rotate_left 1))
  ·refine jZ (vs := [_]) rfl ⟨rfl, trivial⟩ rfl ⟨rfl, rfl, ?_⟩
   rw [oneOf_one, numI_lo (by assumption) hn.1]
  all_goals refine jZ (vs := [_]) rfl ⟨rfl, trivial⟩ rfl ⟨rfl, rfl, ?_⟩
  all_goals (rw [oneOf_one, numI_hi (n := n) (by assumption)]; rfl)
theorem c_l1Put {n : Int} (hn : 0 ≤ n ∧ n ≤ 9223372036854775807) : PuG Tryz.prog 123 [I n] G (· = S (numI n)) := c_l1Put' n.toNat (Nat.le_refl _) hn
def strs (xs : List (List UInt8)) : List Value := xs.map fun x => S x
theorem strs_snoc (xs : List (List UInt8)) (x : List UInt8) : strs (xs ++ [x]) = strs xs ++ [S x] := by simp [strs]
abbrev tStr : TypeId := 9
theorem nth_mem {α : Type} [Inhabited α] {a : List α} {i : Nat} (h : i < a.length) : nth a i ∈ a := by rw [nth_eq h]; exact List.getElem_mem h
theorem mem_nth {α : Type} [Inhabited α] {a : List α} {x : α} (h : x ∈ a) : ∃ i, i < a.length ∧ nth a i = x := by
 obtain ⟨i, hi, e⟩ := List.mem_iff_getElem.1 h
 exact ⟨i, hi, by rw [nth_eq hi, e]⟩
theorem isPrefixOf_take (p s : List UInt8) : p.isPrefixOf s = decide (p.length ≤ s.length ∧ s.take p.length = p) := by
 by_cases h : p <+: s
 ·have h1 := List.isPrefixOf_iff_prefix.2 h
  rw [h1]; obtain ⟨r, rfl⟩ := h; simp
 ·have h1 : p.isPrefixOf s = false := by
   cases hb : p.isPrefixOf s with
   | false => rfl
   | true => exact absurd (List.isPrefixOf_iff_prefix.1 hb) h
  rw [h1]; symm; refine decide_eq_false fun ⟨_, h3⟩ => h ?_
  rw [← h3]; exact List.take_prefix _ _
theorem c_HasPrefix0 {s p : List UInt8} : PuG Tryz.prog 157 [S s, S p] G (· = Bo (p.isPrefixOf s)) := by
 rw [isPrefixOf_take]
 refine jE [(0, _), (1, _)] Tryz.func157 Tryz.ntmps157 fun B hB => ?_
 repeat' (first | refine jM ?_ | (refine k_op rfl ?_; first | (refine jV (g_pickT rfl rfl rfl) ?_) | (refine jV (g_pickF rfl rfl rfl) ?_)) | refine k_g rfl rfl (fun _ => ?_) (fun _ => ?_))
 all_goals refine jZ (vs := [_]) rfl ⟨rfl, trivial⟩ rfl ⟨rfl, rfl, ?_⟩
 all_goals (rw [oneOf_one]; simp; omega)
theorem c_HasPrefix {s p : List UInt8} : PuG Tryz.prog 113 [S s, S p] G (· = Bo (p.isPrefixOf s)) := by
 refine jE [(0, _), (1, _)] Tryz.func113 Tryz.ntmps113 fun B hB => ?_
 repeat' (first | (refine jR ?_) | (refine k_op rfl ?_; (refine c_rt rfl rfl rfl c_HasPrefix0 rfl ?_)))
 all_goals refine jZ (vs := [_]) rfl ⟨rfl, trivial⟩ rfl ⟨rfl, rfl, ?_⟩
 all_goals rfl
end Go.E
namespace Go.E
set_option maxRecDepth 20000
set_option maxHeartbeats 2000000
def isLow (c : UInt8) : Bool := decide (97 ≤ c.toNat ∧ c.toNat ≤ 122)
def isNm (s : List UInt8) : Bool := s.all isLow && decide (1 ≤ s.length ∧ s.length ≤ 3)
def kOk : List UInt8 → Bool
 | [] => false
 | c :: r => if c.toNat = 91 ∨ c.toNat = 63 then kOk r
  else if c.toNat = 64 then decide (((bt (c :: r) r.length : Nat) : Int) = 59) && isNm (r.take (r.length - 1))
  else decide (r = []) && (decide (c.toNat = 110) || decide (c.toNat = 116) || decide (c.toNat = 102))
def kindOk (s : List UInt8) : Bool := decide (s.length ≤ 12) && kOk s
def core : List UInt8 → List UInt8
 | [] => []
 | c :: r => if c.toNat = 91 ∨ c.toNat = 63 then core r else c :: r
theorem isNm_no {s : List UInt8} {i : Nat} (h : i < s.length) (h2 : ¬ (97 ≤ bt s i ∧ bt s i ≤ 122)) : isNm s = false := by
 have e : bt s i = (s[i]).toNat := by simp [bt, List.getD, List.getElem?_eq_getElem h]
 have : s.all isLow = false := by
  rw [List.all_eq_false]
  exact ⟨s[i], List.getElem_mem h, by rw [e] at h2; simpa [isLow] using h2⟩
 rw [isNm, this, Bool.false_and]
theorem isNm_all {s : List UInt8} (h : ∀ i, i < s.length → 97 ≤ bt s i ∧ bt s i ≤ 122) : isNm s = decide (1 ≤ s.length ∧ s.length ≤ 3) := by
 have : s.all isLow = true := by
  rw [List.all_eq_true]
  intro c hc
  obtain ⟨i, hi, rfl⟩ := List.mem_iff_getElem.1 hc
  have e : bt s i = (s[i]).toNat := by simp [bt, List.getD, List.getElem?_eq_getElem hi]
  have := h i hi
  rw [e] at this
  simpa [isLow] using this
 rw [isNm, this, Bool.true_and]
def dec (n : Nat) : List UInt8 := if h : n < 10 then [u8 (48 + n : Nat)] else dec (n / 10) ++ [u8 (48 + n % 10 : Nat)]
termination_by n
decreasing_by omega
def decI (n : Int) : List UInt8 := dec n.toNat
theorem decI_lo {n : Int} (h : n < 10) (h0 : 0 ≤ n) : decI n = [u8 (48 + n)] := by
 unfold decI; rw [dec, dif_pos (by omega)]; congr 1; congr 1; omega
theorem decI_hi {n : Int} (h : ¬ n < 10) : decI n = decI (n / 10) ++ [u8 (48 + n % 10)] := by
 unfold decI; rw [dec, dif_neg (by omega)]
 have e1 : n.toNat / 10 = (n / 10).toNat := by omega
 have e2 : ((48 + n.toNat % 10 : Nat) : Int) = 48 + n % 10 := by omega
 rw [e1, e2]
theorem dec_len (n : Nat) : ∀ k, n < 10 ^ (k + 1) → (dec n).length ≤ k + 1 := by
 intro k
 induction k generalizing n with
 | zero => intro h; rw [dec, dif_pos (by simpa using h)]; simp
 | succ k ih =>
  intro h
  by_cases h1 : n < 10
  ·rw [dec, dif_pos h1]; simp
  ·rw [dec, dif_neg h1]
   have := ih (n / 10) (Nat.div_lt_of_lt_mul (by rw [Nat.pow_succ] at h; omega))
   simp; omega
theorem decI_len {n : Int} (h : n ≤ 9223372036854775807) : (decI n).length ≤ 19 := dec_len _ 18 (by omega)
end Go.E
namespace Go.E
set_option maxRecDepth 20000
set_option maxHeartbeats 2000000
open Go.Proofs
variable {G : Gh}
theorem c_l2Name {s : List UInt8} (h : s.length ≤ 9000000000000000000) : PuG Tryz.prog 149 [S s] G (· = Bo (isNm s)) := by
 refine jE [(0, _)] Tryz.func149 Tryz.ntmps149 fun B hB => ?_
 repeat' (refine jR ?_)
 refine k_loop (ι := Nat) (fun i => i ≤ s.length ∧ ∀ k, k < i → 97 ≤ bt s k ∧ bt s k ≤ 122) (fun i => [(0, S s), (3, I i)]) (fun _ => G) (fun i => []) (fun i => s.length - i) 0 ?_ (by repeat' constructor) rfl sRr (fun i Hi => ?_)
 ·exact ⟨by omega, fun k hk => absurd hk (by omega)⟩
 by_cases hi : i < s.length
 ·repeat' (first | refine jM ?_ | (refine k_op rfl ?_; first | (refine jV (g_pickT rfl rfl rfl) ?_) | (refine jV (g_pickF rfl rfl rfl) ?_)) | refine k_g rfl rfl (fun _ => ?_) (fun _ => ?_) | (refine k_tt rfl (by first | rfl | (refine decide_eq_true ?_; (omega))) ?_) | refine k_if rfl (fun _ => ?_) (fun _ => ?_))
  ·rename_i hc
   refine jZ (vs := [_]) rfl ⟨rfl, trivial⟩ rfl ⟨rfl, rfl, ?_⟩
   have hc : ((bt s i : Nat) : Int) < 97 := hc
   rw [oneOf_one, isNm_no hi (by omega)]
  ·rename_i _ hc
   refine jZ (vs := [_]) rfl ⟨rfl, trivial⟩ rfl ⟨rfl, rfl, ?_⟩
   have hc : (122 : Int) < ((bt s i : Nat) : Int) := hc
   rw [oneOf_one, isNm_no hi (by omega)]
  ·rename_i h1 h2
   have h1 : ¬ ((bt s i : Nat) : Int) < 97 := h1
   have h2 : ¬ (122 : Int) < ((bt s i : Nat) : Int) := h2
   refine k_rd (i + 1) ⟨by omega, fun k hk => ?_⟩ (by omega) (by repeat' constructor) rfl sRr
   rcases Nat.lt_or_ge k i with h3 | h3
   ·exact Hi.2 k h3
   ·have : k = i := by omega
    subst this; omega
 ·repeat' (first | (refine jR ?_) | (refine k_op rfl ?_; (refine c_rt rfl rfl rfl c_l6In rfl ?_)) | (refine k_ff rfl (dFf (by omega)) ?_))
  refine jZ (vs := [_]) rfl ⟨rfl, trivial⟩ rfl ⟨rfl, rfl, ?_⟩
  rw [oneOf_one, isNm_all fun k hk => Hi.2 k (by omega)]
  refine congrArg Bo ?_
  rw [Bool.decide_and]
  exact congr (congrArg and (decide_eq_decide.2 (by omega))) (decide_eq_decide.2 (by omega))
theorem bt_c0 (c : UInt8) (r : List UInt8) : bt (c :: r) 0 = c.toNat := by simp [bt, List.getD]
theorem c_l2Ref {c : UInt8} {r : List UInt8} (h : r ≠ []) (hl : r.length ≤ 1000000) : PuG Tryz.prog 106 [S (c :: r)] G (· = Tu [S (if c.toNat = 64 then r.take (r.length - 1) else []), Bo (decide (c.toNat = 64))]) := by
 have hp := List.length_pos_iff.2 h
 have e0 := bt_c0 c r
 refine jE [(0, _)] Tryz.func106 Tryz.ntmps106 fun B hB => ?_
 repeat' (first | (refine run (t := tb) 400 rfl ?_ ?_; (focus (repeat' (first | exact trivial | apply And.intro | omega | (simp only [List.length_append, List.length_cons, List.length_nil, Int.toNat_natCast]; omega))))) | refine k_if rfl (fun _ => ?_) (fun _ => ?_))
 ·rename_i hc
  refine jZ (vs := [_, _]) rfl ⟨rfl, rfl, trivial⟩ rfl ⟨rfl, rfl, ?_⟩
  have hc : ((bt (c :: r) 0 : Nat) : Int) ≠ 64 := hc
  have hc : ¬ c.toNat = 64 := by omega
  rw [oneOf_two, if_neg hc, decide_eq_false hc]
 ·rename_i hc
  refine jZ (vs := [_, _]) rfl ⟨rfl, rfl, trivial⟩ rfl ⟨rfl, rfl, ?_⟩
  have hc : ¬ ((bt (c :: r) 0 : Nat) : Int) ≠ 64 := hc
  have hc : c.toNat = 64 := by omega
  have e : ((((c :: r).length : Nat) : Int) - 1).toNat = (r.length - 1) + 1 := by simp only [List.length_cons]; omega
  rw [oneOf_two, if_pos hc, decide_eq_true hc, e, List.take_succ_cons]; rfl
theorem c_KindOkS {s : List UInt8} : PuG Tryz.prog 105 [S s] G (· = Bo (kindOk s)) := by
 induction s with
 | nil =>
  refine jE [(0, _)] Tryz.func105 Tryz.ntmps105 fun B hB => ?_
  repeat' (first | (refine jR ?_) | (refine k_op rfl ?_; (refine jV (g_pickF rfl rfl rfl) ?_)) | (refine k_gf rfl rfl rfl ?_) | (refine k_tt rfl rfl ?_))
  all_goals refine jZ (vs := [_]) rfl ⟨rfl, trivial⟩ rfl ⟨rfl, rfl, ?_⟩
  all_goals rfl
 | cons c r ih =>
  have e0 : bt (c :: r) (Int.toNat 0) = c.toNat := bt_c0 c r
  by_cases hl : (c :: r).length ≤ 12
  ·have hl2 : r.length ≤ 12 := by simp at hl; omega
   rw [kindOk, decide_eq_true hl, Bool.true_and, kOk]
   rw [kindOk, decide_eq_true hl2, Bool.true_and] at ih
   have hcons : (c :: r).length = r.length + 1 := rfl
   by_cases h1 : c.toNat = 91
   ·rw [if_pos (.inl h1)]
    refine jE [(0, _)] Tryz.func105 Tryz.ntmps105 fun B hB => ?_
    repeat' (first | refine jM ?_ | (refine k_op rfl ?_; first | (refine jV (g_pickF rfl rfl rfl) ?_) | (refine c_rt rfl rfl rfl ih rfl ?_)) | (refine k_gf rfl rfl (dFf (by omega)) ?_) | (refine k_tt rfl (dTt (by omega)) ?_) | (refine k_ff rfl rfl ?_))
    refine jZ (vs := [_]) rfl ⟨rfl, trivial⟩ rfl ⟨rfl, rfl, ?_⟩
    rfl
   by_cases h2 : c.toNat = 63
   ·rw [if_pos (.inr h2)]
    refine jE [(0, _)] Tryz.func105 Tryz.ntmps105 fun B hB => ?_
    repeat' (first | refine jM ?_ | (refine k_op rfl ?_; first | (refine jV (g_pickF rfl rfl rfl) ?_) | (refine c_rt rfl rfl rfl ih rfl ?_)) | (refine k_gf rfl rfl (dFf (by omega)) ?_) | (refine k_tt rfl (dTt (by omega)) ?_) | (refine k_ff rfl (by first | rfl | (refine decide_eq_false ?_; (omega))) ?_))
    refine jZ (vs := [_]) rfl ⟨rfl, trivial⟩ rfl ⟨rfl, rfl, ?_⟩
    rfl
   rw [if_neg (by omega)]
   by_cases h3 : c.toNat = 64
   ·rw [if_pos h3]
    have h5 : ((((c :: r).length : Nat) : Int) - 1).toNat = r.length := by omega
    by_cases h4 : ((bt (c :: r) r.length : Nat) : Int) = 59
    ·have h6 : ((bt (c :: r) ((((c :: r).length : Nat) : Int) - 1).toNat : Nat) : Int) = 59 := by rw [h5]; exact h4
     have hp : 0 < r.length := by
      rcases Nat.eq_zero_or_pos r.length with h0 | h0
      ·have : r = [] := List.length_eq_zero_iff.1 h0
       subst this
       have : ((bt [c] (Int.toNat 0) : Nat) : Int) = 59 := h4
       omega
      ·exact h0
     have e1 : ((((c :: r).length : Nat) : Int) - 1).toNat = (r.length - 1) + 1 := by omega
     refine jE [(0, _)] Tryz.func105 Tryz.ntmps105 fun B hB => ?_
     repeat' (first | refine jM ?_ | (refine k_op rfl ?_; first | (refine jV (g_pickT rfl rfl rfl) ?_) | (refine jV (g_pickF rfl rfl rfl) ?_) | (refine c_rt rfl rfl rfl (c_l2Name ?_) rfl ?_; (focus ((simp; omega); done)))) | (refine k_gt rfl rfl (dTt ‹_›) ?_) | (refine k_gf rfl rfl (dFf (by omega)) ?_) | (refine k_tt rfl (dTt (by omega)) ?_) | (refine k_ff rfl (by first | rfl | (refine decide_eq_false ?_; (omega))) ?_))
     refine jZ (vs := [_]) rfl ⟨rfl, trivial⟩ rfl ⟨rfl, rfl, ?_⟩
     rw [oneOf_one, decide_eq_true h4, Bool.true_and, e1, List.take_succ_cons]; rfl
    ·have h6 : ¬ ((bt (c :: r) ((((c :: r).length : Nat) : Int) - 1).toNat : Nat) : Int) = 59 := by rw [h5]; exact h4
     refine jE [(0, _)] Tryz.func105 Tryz.ntmps105 fun B hB => ?_
     repeat' (first | refine jM ?_ | (refine k_op rfl ?_; (refine jV (g_pickF rfl rfl rfl) ?_)) | (refine k_gf rfl rfl (by refine decide_eq_false ?_; first | assumption | omega) ?_) | (refine k_tt rfl (dTt (by omega)) ?_) | (refine k_ff rfl (by first | rfl | (refine decide_eq_false ?_; (omega))) ?_))
     refine jZ (vs := [_]) rfl ⟨rfl, trivial⟩ rfl ⟨rfl, rfl, ?_⟩
     rw [oneOf_one, decide_eq_false h4, Bool.false_and]
   ·rw [if_neg h3]
    have n1 : ∀ x : UInt8, (c :: r = [x]) = (c.toNat = x.toNat ∧ r = []) := fun x => by
     rw [List.cons.injEq]; exact propext ⟨fun h => ⟨by rw [h.1], h.2⟩, fun h => ⟨UInt8.toNat_inj.1 h.1, h.2⟩⟩
    refine jE [(0, _)] Tryz.func105 Tryz.ntmps105 fun B hB => ?_
    repeat' (first | refine jM ?_ | (refine k_op rfl ?_; first | (refine jV (g_pickT rfl rfl rfl) ?_) | (refine jV (g_pickF rfl rfl rfl) ?_)) | (refine k_gt rfl rfl rfl ?_) | (refine k_gf rfl rfl (dFf (by omega)) ?_) | refine k_g rfl rfl (fun _ => ?_) (fun _ => ?_) | (refine k_ff rfl (by first | rfl | (refine decide_eq_false ?_; (omega))) ?_))
    all_goals refine jZ (vs := [_]) rfl ⟨rfl, trivial⟩ rfl ⟨rfl, rfl, ?_⟩
    all_goals rw [oneOf_one]
    ·rename_i h; rw [n1] at h; rw [decide_eq_true h.2, decide_eq_true (p := c.toNat = 110) h.1]; rfl
    ·rename_i h; rw [n1] at h; rw [decide_eq_true h.2, decide_eq_true (p := c.toNat = 116) h.1]; simp
    ·rename_i ha hb
     refine congrArg Bo ?_
     rw [n1] at ha hb
     simp only [n1]
     by_cases hr : r = []
     ·have hx : ¬ c.toNat = 110 := fun h => ha ⟨h, hr⟩
      have hy : ¬ c.toNat = 116 := fun h => hb ⟨h, hr⟩
      simp [hr, hx, hy]
     ·simp [hr]
  ·rw [kindOk, decide_eq_false hl, Bool.false_and]
   refine jE [(0, _)] Tryz.func105 Tryz.ntmps105 fun B hB => ?_
   repeat' (first | (refine jR ?_) | (refine k_op rfl ?_; (refine jV (g_pickT rfl rfl rfl) ?_)) | (refine k_gt rfl rfl (dTt (by omega)) ?_) | (refine k_tt rfl rfl ?_))
   all_goals refine jZ (vs := [_]) rfl ⟨rfl, trivial⟩ rfl ⟨rfl, rfl, ?_⟩
   all_goals rfl
theorem c_l2Core {s : List UInt8} (h : kOk s = true) : PuG Tryz.prog 107 [S s] G (· = S (core s)) := by
 refine jE [(0, _)] Tryz.func107 Tryz.ntmps107 fun B hB => ?_
 repeat' (refine jR ?_)
 refine k_loop (ι := List UInt8) (fun t => kOk t = true ∧ core t = core s) (fun t => [(0, S t)]) (fun _ => G) (fun t => []) (fun t => t.length) s ?_ (by repeat' constructor) rfl sRr (fun t Ht => ?_)
 ·exact ⟨h, rfl⟩
 match t, Ht with
 | c :: r, Ht =>
  have e0 : bt (c :: r) (Int.toNat 0) = c.toNat := bt_c0 c r
  have hcons : (c :: r).length = r.length + 1 := rfl
  by_cases h1 : c.toNat = 91 ∨ c.toNat = 63
  ·have hk : kOk r = true := by have := Ht.1; rw [kOk, if_pos h1] at this; exact this
   have hc : core r = core s := by rw [← Ht.2, core, if_pos h1]
   rcases h1 with h1 | h1
   all_goals repeat' (first | refine jM ?_ | (refine k_op rfl ?_; first | (refine jV (g_pickT rfl rfl rfl) ?_) | (refine jV (g_pickF rfl rfl rfl) ?_)) | (refine k_gt rfl rfl (dTt (by omega)) ?_) | (refine k_gf rfl rfl (dFf (by omega)) ?_) | (refine k_tt rfl (by first | rfl | (refine decide_eq_true ?_; (omega))) ?_))
   all_goals exact k_rd r ⟨hk, hc⟩ (by omega) (by repeat' constructor) rfl sRr
  ·repeat' (first | refine jM ?_ | (refine k_op rfl ?_; (refine jV (g_pickF rfl rfl rfl) ?_)) | (refine k_gf rfl rfl (dFf (by omega)) ?_) | (refine k_ff rfl (dFf (by omega)) ?_))
   refine jZ (vs := [_]) rfl ⟨rfl, trivial⟩ rfl ⟨rfl, rfl, ?_⟩
   rw [oneOf_one, ← Ht.2, core, if_neg h1]
theorem c_l6Dec' : ∀ (k : Nat) {n : Int}, n.toNat ≤ k → 0 ≤ n ∧ n ≤ 9223372036854775807 → PuG Tryz.prog 117 [I n] G (· = S (decI n)) := by
 intro k
 induction k with
 | zero =>
  intro n hk hn
  have h1 : n < 10 := by omega
  refine jE [(0, _)] Tryz.func117 Tryz.ntmps117 fun B hB => ?_
  repeat' (first | refine jM ?_ | (refine k_op rfl ?_; first | refine c_bsl rfl rfl rfl rfl rfl rfl fun _ => ?_ | refine jV (g_bsB rfl rfl (by (repeat (first | exact BL.nil | apply BL.cons)); done)) ?_) | (refine k_tt rfl (dTt ‹_›) ?_) | (refine k_ff rfl (dFf (by omega)) ?_))
  refine jZ (vs := [_]) rfl ⟨rfl, trivial⟩ rfl ⟨rfl, rfl, ?_⟩
  rw [oneOf_one, decI_lo h1 hn.1]
 | succ k ih =>
  intro n hk hn
  have hl := decI_len (n := n / 10) (by omega)
  by_cases h1 : n < 10
  ·refine jE [(0, _)] Tryz.func117 Tryz.ntmps117 fun B hB => ?_
   repeat' (first | refine jM ?_ | (refine k_op rfl ?_; first | refine c_bsl rfl rfl rfl rfl rfl rfl fun _ => ?_ | refine jV (g_bsB rfl rfl (by (repeat (first | exact BL.nil | apply BL.cons)); done)) ?_) | (refine k_tt rfl (dTt ‹_›) ?_) | (refine k_ff rfl (dFf (by omega)) ?_))
   refine jZ (vs := [_]) rfl ⟨rfl, trivial⟩ rfl ⟨rfl, rfl, ?_⟩
   rw [oneOf_one, decI_lo h1 hn.1]
  ·refine jE [(0, _)] Tryz.func117 Tryz.ntmps117 fun B hB => ?_
   repeat' (first | (refine jR ?_) | (refine k_ff rfl (by refine decide_eq_false ?_; first | assumption | omega) ?_) | (refine k_any (s_any (id := 7) _ (fun _ h => h) mixed ?_); refine jU 5 [0, 1, 3, 4, 5, 6] (bts 11 123) ?_ ?_; (focus (repeat' (first | exact trivial | apply And.intro | omega))); refine x_all [2, 7] (by kernel_rfl) (by decide) ⟨?_, ?_, trivial⟩; (focus (refine x_opg rfl rfl ?_; ((refine c_rt rfl rfl rfl (ih ?_ ?_) rfl ?_; (focus ((omega); done)); (focus ((omega); done)))); refine jS (bts 11 127) ?_; refine jA 7 rfl ?_; (refine c_bsl rfl rfl rfl rfl rfl rfl fun _ => ?_); refine jS (bts 11 255) ?_; ((refine jG (bts 11 511) 8 rfl (g_bsB rfl rfl (by (repeat (first | exact BL.nil | apply BL.cons)); done)) ?_)); refine jU 0 [9, 10] (bts 11 2047) ?_ ?_; (focus (repeat' (first | exact trivial | apply And.intro | (simp only [List.length_append, List.length_cons, List.length_nil, Int.toNat_natCast]; omega)))); refine x_done (by kernel_rfl) (k_bk ?_))); rotate_left 1; (focus (refine x_opg rfl rfl ?_; (refine c_bsl rfl rfl rfl rfl rfl rfl fun _ => ?_); refine jS (bts 11 251) ?_; ((refine jG (bts 11 507) 8 rfl (g_bsB rfl rfl (by (repeat (first | exact BL.nil | apply BL.cons)); done)) ?_)); refine jA 2 rfl ?_; ((refine c_rt rfl rfl rfl (ih ?_ ?_) rfl ?_; (focus ((omega); done)); (focus ((omega); done)))); refine jS (bts 11 511) ?_; refine jU 0 [9, 10] (bts 11 2047) ?_ ?_; (focus (repeat' (first | exact trivial | apply And.intro | (simp only [List.length_append, List.length_cons, List.length_nil, Int.toNat_natCast]; omega)))); refine x_done (by kernel_rfl) (k_bk ?_))); rotate_left 1))
   all_goals refine jZ (vs := [_]) rfl ⟨rfl, trivial⟩ rfl ⟨rfl, rfl, ?_⟩
   all_goals rw [oneOf_one, decI_hi (n := n) h1]
theorem c_l6Dec {n : Int} (hn : 0 ≤ n ∧ n ≤ 9223372036854775807) : PuG Tryz.prog 117 [I n] G (· = S (decI n)) := c_l6Dec' n.toNat (Nat.le_refl _) hn
def plainOf (s : List UInt8) : List UInt8 := if s = [110] then [48] else if s = [116] then [39, 39] else if s = [102] then [110, 111] else []
theorem c_l3Plain {s : List UInt8} : PuG Tryz.prog 167 [S s] G (· = S (plainOf s)) := by
 refine jE [(0, _)] Tryz.func167 Tryz.ntmps167 fun B hB => ?_
 repeat' (first | (refine jR ?_) | refine k_if rfl (fun _ => ?_) (fun _ => ?_))
 all_goals refine jZ (vs := [_]) rfl ⟨rfl, trivial⟩ rfl ⟨rfl, rfl, ?_⟩
 all_goals (rw [oneOf_one, plainOf]; simp [*])
def txN (x : Nat) : Prop := x = 32 ∨ (48 ≤ x ∧ x ≤ 57) ∨ (97 ≤ x ∧ x ≤ 122)
instance (x : Nat) : Decidable (txN x) := inferInstanceAs (Decidable (_ ∨ _))
def TxP (s : List UInt8) : Prop := (2 ≤ s.length ∧ s.length ≤ 14) ∧ bt s 0 = 39 ∧ bt s (s.length - 1) = 39 ∧ ∀ i, i < s.length - 1 → i = 0 ∨ txN (bt s i)
instance (s : List UInt8) : Decidable (TxP s) := inferInstanceAs (Decidable (_ ∧ _ ∧ _ ∧ _))
def isTx (s : List UInt8) : Bool := decide (TxP s)
theorem c_l3Text {s : List UInt8} (h : s.length ≤ 100000000) : PuG Tryz.prog 136 [S s] G (· = Bo (isTx s)) := by
 by_cases h1 : 2 ≤ s.length ∧ s.length ≤ 14
 case neg =>
  have e : isTx s = false := decide_eq_false fun x => h1 x.1
  rw [e]
  refine jE [(0, _)] Tryz.func136 Tryz.ntmps136 fun B hB => ?_
  repeat' (first | (refine jR ?_) | (refine k_op rfl ?_; first | (refine jV (g_pickT rfl rfl rfl) ?_) | (refine jV (g_pickF rfl rfl rfl) ?_)) | (refine k_gt rfl rfl (by first | rfl | (refine decide_eq_true ?_; (omega))) ?_) | refine k_g rfl rfl (fun _ => ?_) (fun _ => ?_) | (refine k_tt rfl rfl ?_))
  all_goals refine jZ (vs := [_]) rfl ⟨rfl, trivial⟩ rfl ⟨rfl, rfl, ?_⟩
  all_goals rfl
 by_cases h2 : bt s 0 = 39
 case neg =>
  have e : isTx s = false := decide_eq_false fun x => h2 x.2.1
  have h3 : ¬ bt s (Int.toNat 0) = 39 := h2
  rw [e]
  refine jE [(0, _)] Tryz.func136 Tryz.ntmps136 fun B hB => ?_
  repeat' (first | refine jM ?_ | (refine k_op rfl ?_; first | (refine jV (g_pickT rfl rfl rfl) ?_) | (refine jV (g_pickF rfl rfl rfl) ?_)) | (refine k_gt rfl rfl (dTt (by omega)) ?_) | (refine k_gf rfl rfl (dFf (by omega)) ?_) | (refine k_tt rfl rfl ?_))
  all_goals refine jZ (vs := [_]) rfl ⟨rfl, trivial⟩ rfl ⟨rfl, rfl, ?_⟩
  all_goals rfl
 have h3 : bt s (Int.toNat 0) = 39 := h2
 have h4 : (((s.length : Nat) : Int) - 1).toNat = s.length - 1 := by omega
 by_cases h5 : bt s (s.length - 1) = 39
 case neg =>
  have e : isTx s = false := decide_eq_false fun x => h5 x.2.2.1
  have h6 : ¬ bt s (((s.length : Nat) : Int) - 1).toNat = 39 := by rw [h4]; exact h5
  rw [e]
  refine jE [(0, _)] Tryz.func136 Tryz.ntmps136 fun B hB => ?_
  repeat' (first | refine jM ?_ | (refine k_op rfl ?_; (refine jV (g_pickF rfl rfl rfl) ?_)) | (refine k_gf rfl rfl (dFf (by omega)) ?_) | (refine k_tt rfl (dTt (by omega)) ?_))
  all_goals refine jZ (vs := [_]) rfl ⟨rfl, trivial⟩ rfl ⟨rfl, rfl, ?_⟩
  all_goals rfl
 have h6 : bt s (((s.length : Nat) : Int) - 1).toNat = 39 := by rw [h4]; exact h5
 refine jE [(0, _)] Tryz.func136 Tryz.ntmps136 fun B hB => ?_
 repeat' (first | refine jM ?_ | (refine k_op rfl ?_; (refine jV (g_pickF rfl rfl rfl) ?_)) | (refine k_gf rfl rfl (dFf (by omega)) ?_) | (refine k_ff rfl (dFf (by omega)) ?_))
 refine k_loop (ι := Nat) (fun i => (1 ≤ i ∧ i ≤ s.length - 1) ∧ ∀ k, k < i → k = 0 ∨ txN (bt s k)) (fun i => [(0, S s), (3, I i)]) (fun _ => G) (fun i => []) (fun i => s.length - i) 1 ?_ (by repeat' constructor) rfl sRr (fun i Hi => ?_)
 ·exact ⟨⟨Nat.le_refl _, by omega⟩, fun k hk => .inl (by omega)⟩
 by_cases hi : i < s.length - 1
 ·by_cases ht : txN (bt s i)
  ·have ht2 : txN (bt s ((i : Int).toNat)) := ht
   unfold txN at ht2
   repeat' (first | refine jM ?_ | (refine k_op rfl ?_; first | (refine jV (g_pickT rfl rfl rfl) ?_) | (refine jV (g_pickF rfl rfl rfl) ?_)) | (refine k_gf rfl rfl (by first | rfl | (refine decide_eq_false ?_; (omega))) ?_) | refine k_g rfl rfl (fun _ => ?_) (fun _ => ?_) | (refine k_tt rfl (dTt (by omega)) ?_) | (refine k_ff rfl (by first | rfl | (refine decide_eq_false ?_; (omega))) ?_))
   all_goals refine k_rd (i + 1) ⟨⟨by omega, by omega⟩, fun k hk => ?_⟩ (by omega) (by repeat' constructor) rfl sRr
   all_goals (rcases Nat.lt_or_ge k i with h7 | h7; · exact Hi.2 k h7)
   all_goals (have : k = i := by omega)
   all_goals (subst this; exact .inr ht)
  ·have ht2 : ¬ txN (bt s ((i : Int).toNat)) := ht
   unfold txN at ht2
   have e : isTx s = false := decide_eq_false fun x => (x.2.2.2 i hi).elim (fun h8 => by omega) ht
   rw [e]
   repeat' (first | refine jM ?_ | (refine k_op rfl ?_; first | (refine jV (g_pickT rfl rfl rfl) ?_) | (refine jV (g_pickF rfl rfl rfl) ?_)) | (refine k_gt rfl rfl (by first | rfl | (refine decide_eq_true ?_; (omega))) ?_) | refine k_g rfl rfl (fun _ => ?_) (fun _ => ?_) | (refine k_tt rfl (by first | rfl | (refine decide_eq_true ?_; (omega))) ?_))
   all_goals refine jZ (vs := [_]) rfl ⟨rfl, trivial⟩ rfl ⟨rfl, rfl, ?_⟩
   all_goals rfl
 ·have e : isTx s = true := decide_eq_true ⟨h1, h2, h5, fun k hk => Hi.2 k (by omega)⟩
  rw [e]
  repeat' (first | refine jM ?_ | (refine k_ff rfl (dFf (by omega)) ?_))
  refine jZ (vs := [_]) rfl ⟨rfl, trivial⟩ rfl ⟨rfl, rfl, ?_⟩
  rfl
def cutA (k : Nat) (acc : List UInt8) : List UInt8 → List (List UInt8)
 | [] => [acc]
 | c :: r => if c.toNat = k then acc :: cutA k [] r else cutA k (acc ++ [c]) r
def cut (k : Nat) (s : List UInt8) : List (List UInt8) := cutA k [] s
theorem c_l3Cut {s : List UInt8} {k : Nat} (h : s.length ≤ 100000000) : FnG Tryz.prog 88 [S s, U8 k] G [] (fun v L' => L' = [.acc v tStr 1 (cut k s).length (strs (cut k s))] ∧ Shp v (cut k s).length) := by
 refine jH [(0, _), (1, _)] Tryz.func88 Tryz.ntmps88 fun B hB hW => ?_
 repeat' (first | (refine jR ?_) | (refine k_op rfl ?_; (refine c_bsl rfl rfl rfl rfl rfl rfl fun _ => ?_)))
 rename_i x
 refine Nx.blkAcc (m := 0) (sz := 1) .here rfl ?_
 refine k_loop (ι := Value × List (List UInt8) × Nat × Nat) (fun i => (i.2.2.1 ≤ i.2.2.2 ∧ i.2.2.2 ≤ s.length ∧ i.2.1.length ≤ i.2.2.2) ∧ i.2.1 ++ cutA k ((s.take i.2.2.2).drop i.2.2.1) (s.drop i.2.2.2) = cut k s) (fun i => [(0, S s), (1, U8 k), (5, i.1), (6, I i.2.2.1), (7, I i.2.2.2)]) (fun _ => G) (fun i => [.acc i.1 tStr 1 i.2.1.length (strs i.2.1)]) (fun i => s.length - i.2.2.2) (.slice (some ⟨x, 0, none⟩) 0 0, [], 0, 0) ?_ (by repeat' constructor) rfl sRr (fun i Hi => ?_)
 ·exact ⟨⟨Nat.le_refl _, Nat.zero_le _, Nat.zero_le _⟩, rfl⟩
 obtain ⟨u, xs, fr, i⟩ := i
 dsimp only at Hi ⊢
 by_cases hi : i < s.length
 ·obtain ⟨c, hc1, hc2⟩ := drop_bt hi
  have hn : s.drop i ≠ [] := by rw [hc1]; simp
  have ht : (s.take (i + 1)).drop fr = (s.take i).drop fr ++ [c] := by
   have e : s[i] = c := by have := List.getElem_cons_drop (h := hi); rw [hc1] at this; exact (List.cons.inj this).1
   rw [List.take_succ_eq_append_getElem hi, e, List.drop_append_of_le_length (by simp; omega)]
  have hcut := Hi.2
  rw [hc1, cutA] at hcut
  by_cases hk : c.toNat = k
  ·have hk2 : bt s i = k := by omega
   rw [if_pos hk] at hcut
   repeat' (first | refine jM ?_ | (refine k_op rfl ?_; first | refine c_bsl rfl rfl rfl rfl rfl rfl fun _ => ?_ | (refine c_apB rfl rfl rfl rfl rfl rfl rfl rfl (by omega) fun _ => ?_)) | (refine k_tt rfl ?_ ?_; (focus ((first | (refine decide_eq_true ?_; (omega)) | (simp [*]; done)); done))))
   refine k_rd (_, xs ++ [(s.take i).drop fr], i + 1, i + 1) ⟨⟨by dsimp only; omega, by dsimp only; omega, by simp; omega⟩, ?_⟩ (by dsimp only; omega) (by repeat' constructor) rfl (by dsimp only; simp only [strs_snoc, List.length_append, List.length_cons, List.length_nil, Nat.zero_add]; repeat (first | exact List.nil_sublist _ | apply List.Sublist.cons_cons))
   have e0 : (s.take (i + 1)).drop (i + 1) = [] := by simp
   dsimp only; rw [e0, ← hcut]; simp
  ·have hk2 : ¬ bt s i = k := by omega
   rw [if_neg hk] at hcut
   repeat' (first | refine jM ?_ | (refine k_tt rfl (dTt (by omega)) ?_) | (refine k_ff rfl ?_ ?_; (focus ((simp; omega); done))))
   refine k_rd (u, xs, fr, i + 1) ⟨⟨by dsimp only; omega, by dsimp only; omega, by dsimp only; omega⟩, ?_⟩ (by dsimp only; omega) (by repeat' constructor) rfl sRr
   dsimp only; rw [ht]; exact hcut
 ·have e : cut k s = xs ++ [s.drop fr] := by
   have ei : i = s.length := by omega
   rw [← Hi.2, ei, List.take_length, List.drop_length]; rfl
  repeat' (first | refine jM ?_ | (refine k_op rfl ?_; first | refine c_bsl rfl rfl rfl rfl rfl rfl fun _ => ?_ | (refine c_apB rfl rfl rfl rfl rfl rfl rfl rfl (by omega) fun _ => ?_)) | (refine k_ff rfl (dFf (by omega)) ?_))
  refine Nx.shp (.head _) fun hsh => k_rr (vs := [_]) rfl ⟨rfl, trivial⟩ rfl (List.Sublist.cons_cons _ (List.nil_sublist _)) ⟨rfl, ?_, ?_⟩
  ·rw [e, strs_snoc, List.length_append]; rfl
  ·rw [e, List.length_append]; exact hsh
def digF (n : Int) : List UInt8 → Option Int
 | [] => some n
 | c :: r => if 48 ≤ c.toNat ∧ c.toNat ≤ 57 then digF (10 * n + ((c.toNat : Int) - 48)) r else none
def numOf (s : List UInt8) (top : Int) : Option Int :=
 if s.length ≤ 6 then
  match digF 0 s with
  | some n => if s = decI n ∧ n ≤ top then some n else none
  | none => none
 else none
theorem pow6 (i : Nat) (hi : i ≤ 5) : (10 : Int) ^ (i + 1) = 10 * 10 ^ i ∧ (10 : Int) ^ i ≤ 100000 ∧ (0 : Int) < 10 ^ i := by
 refine ⟨by rw [Int.pow_succ, Int.mul_comm], ?_⟩
 rcases (show i = 0 ∨ i = 1 ∨ i = 2 ∨ i = 3 ∨ i = 4 ∨ i = 5 by omega) with rfl | rfl | rfl | rfl | rfl | rfl <;> decide
theorem c_l3Num {s : List UInt8} {top : Int} (h : s.length ≤ 100000000) : PuG Tryz.prog 78 [S s, I top] G (fun v => ∃ n, v = Tu [I n, Bo (numOf s top).isSome] ∧ (∀ m, numOf s top = some m → n = m)) := by
 refine jE [(0, _), (1, _)] Tryz.func78 Tryz.ntmps78 fun B hB => ?_
 repeat' (refine jR ?_)
 refine k_loop (ι := Nat × Int) (fun i => (i.1 ≤ s.length ∧ i.1 ≤ 6) ∧ (0 ≤ i.2 ∧ i.2 + 1 ≤ 10 ^ i.1) ∧ digF i.2 (s.drop i.1) = digF 0 s) (fun i => [(0, S s), (1, I top), (6, I i.2), (7, I i.1)]) (fun _ => G) (fun i => []) (fun i => s.length - i.1) (0, 0) ?_ (by repeat' constructor) rfl sRr (fun i Hi => ?_)
 ·exact ⟨⟨by dsimp only; omega, by dsimp only; omega⟩, ⟨by dsimp only; omega, by dsimp only; decide⟩, rfl⟩
 obtain ⟨i, n⟩ := i
 dsimp only at Hi ⊢
 by_cases hi : i < s.length
 ·obtain ⟨c, hc1, hc2⟩ := drop_bt hi
  have hc3 : bt s ((i : Int).toNat) = c.toNat := hc2
  have hd := Hi.2.2
  rw [hc1, digF] at hd
  by_cases h5 : i ≤ 5
  ·have hp := pow6 i h5
   by_cases hdig : 48 ≤ c.toNat ∧ c.toNat ≤ 57
   ·rw [if_pos hdig] at hd
    repeat' (first | refine jM ?_ | (refine k_op rfl ?_; (refine jV (g_pickF rfl rfl rfl) ?_)) | (refine k_gf rfl rfl (dFf (by omega)) ?_) | (refine k_tt rfl (dTt (by omega)) ?_) | (refine k_ff rfl (dFf (by omega)) ?_))
    refine k_rd (i + 1, 10 * n + ((c.toNat : Int) - 48)) ⟨⟨by dsimp only; omega, by dsimp only; omega⟩, ⟨by dsimp only; omega, by dsimp only; rw [hp.1]; omega⟩, hd⟩ (by dsimp only; omega) ?_ rfl sRr
    rw [← hc2]; repeat (first | exact trivial | refine ⟨rfl, ?_⟩)
   ·rw [if_neg hdig] at hd
    have hno : numOf s top = none := by unfold numOf; rw [← hd]; split <;> rfl
    repeat' (first | refine jM ?_ | (refine k_op rfl ?_; first | (refine jV (g_pickT rfl rfl rfl) ?_) | (refine jV (g_pickF rfl rfl rfl) ?_)) | (refine k_gt rfl rfl (by first | rfl | (refine decide_eq_true ?_; (omega))) ?_) | refine k_g rfl rfl (fun _ => ?_) (fun _ => ?_) | (refine k_tt rfl (by first | rfl | (refine decide_eq_true ?_; (omega))) ?_))
    all_goals refine jZ (vs := [_, _]) rfl ⟨rfl, rfl, trivial⟩ rfl ⟨rfl, rfl, ?_⟩
    all_goals exact ⟨_, by rw [hno]; rfl, fun m hm => by rw [hno] at hm; cases hm⟩
  ·have hno : numOf s top = none := by unfold numOf; rw [if_neg (by omega)]
   have e6 : i = 6 := by omega
   subst e6
   repeat' (first | refine jM ?_ | (refine k_op rfl ?_; first | (refine jV (g_pickT rfl rfl rfl) ?_) | (refine jV (g_pickF rfl rfl rfl) ?_)) | (refine k_gt rfl rfl rfl ?_) | refine k_g rfl rfl (fun _ => ?_) (fun _ => ?_) | (refine k_tt rfl (by first | rfl | (refine decide_eq_true ?_; (omega))) ?_))
   all_goals refine jZ (vs := [_, _]) rfl ⟨rfl, rfl, trivial⟩ rfl ⟨rfl, rfl, ?_⟩
   all_goals exact ⟨_, by rw [hno]; rfl, fun m hm => by rw [hno] at hm; cases hm⟩
 ·have ei : i = s.length := by omega
  have hd := Hi.2.2
  rw [ei, List.drop_length, digF] at hd
  have hp : n ≤ 9223372036854775807 := by
   rcases Nat.lt_or_ge i 6 with h1 | h1
   ·have := pow6 i (by omega); omega
   ·have e6 : i = 6 := by omega
    subst e6
    have := Hi.2.1.2
    have e : (10 : Int) ^ 6 = 1000000 := by decide
    omega
  have hno : numOf s top = if s = decI n ∧ n ≤ top then some n else none := by unfold numOf; rw [if_pos (by omega), ← hd]
  repeat' (first | (refine jR ?_) | (refine k_op rfl ?_; first | (refine jV (g_pickT rfl rfl rfl) ?_) | (refine jV (g_pickF rfl rfl rfl) ?_) | (refine c_rt rfl rfl rfl (c_l6Dec (by omega)) rfl ?_)) | refine k_g rfl rfl (fun _ => ?_) (fun _ => ?_) | (refine k_ff rfl (dFf (by omega)) ?_))
  ·rename_i hs
   refine jZ (vs := [_, _]) rfl ⟨rfl, rfl, trivial⟩ rfl ⟨rfl, rfl, ?_⟩
   refine ⟨n, ?_, fun m hm => ?_⟩
   ·rw [hno, oneOf_two]
    by_cases ht : n ≤ top
    ·rw [if_pos ⟨hs, ht⟩, decide_eq_true ht]; rfl
    ·rw [if_neg (fun h => ht h.2), decide_eq_false ht]; rfl
   ·rw [hno] at hm
    split at hm
    ·exact Option.some.inj hm
    ·cases hm
  ·rename_i hs
   refine jZ (vs := [_, _]) rfl ⟨rfl, rfl, trivial⟩ rfl ⟨rfl, rfl, ?_⟩
   refine ⟨n, by rw [hno, if_neg (fun h => hs h.1)]; rfl, fun m hm => ?_⟩
   rw [hno, if_neg (fun h => hs h.1)] at hm; cases hm
def standOk (k s : List UInt8) : Bool :=
 if k = [110] then (numOf s 999999).isSome && decide (s ≠ [48])
 else if k = [116] then isTx s && decide (s ≠ [39, 39])
 else if k = [102] then decide (s = [121, 101, 115])
 else false
theorem c_l3Stand {k s : List UInt8} (h : s.length ≤ 100000000) : PuG Tryz.prog 184 [S k, S s] G (· = Bo (standOk k s)) := by
 by_cases h1 : k = [110]
 ·have e : standOk k s = ((numOf s 999999).isSome && decide (s ≠ [48])) := by rw [standOk, if_pos h1]
  rw [e]
  refine jE [(0, _), (1, _)] Tryz.func184 Tryz.ntmps184 fun B hB => ?_
  repeat' (first | (refine jR ?_) | (refine k_op rfl ?_; first | (refine jV (g_pickT rfl rfl rfl) ?_) | (refine jV (g_pickF rfl rfl rfl) ?_) | (refine c_pu rfl rfl rfl (c_l3Num (by omega)) rfl ?_; rintro _ ⟨n, rfl, hnum⟩)) | refine k_gb rfl rfl (fun _ => ?_) (fun _ => ?_) | (refine k_tt rfl (dTt ‹_›) ?_))
  all_goals refine jZ (vs := [_]) rfl ⟨rfl, trivial⟩ rfl ⟨rfl, rfl, ?_⟩
  all_goals (rw [oneOf_one]; simp [*])
 by_cases h2 : k = [116]
 ·have e : standOk k s = (isTx s && decide (s ≠ [39, 39])) := by rw [standOk, if_neg h1, if_pos h2]
  rw [e]
  refine jE [(0, _), (1, _)] Tryz.func184 Tryz.ntmps184 fun B hB => ?_
  repeat' (first | (refine jR ?_) | (refine k_op rfl ?_; first | (refine jV (g_pickT rfl rfl rfl) ?_) | (refine jV (g_pickF rfl rfl rfl) ?_) | (refine c_rt rfl rfl rfl (c_l3Text ‹_›) rfl ?_)) | refine k_g rfl rfl (fun _ => ?_) (fun _ => ?_) | (refine k_tt rfl (dTt ‹_›) ?_) | (refine k_ff rfl (dFf ‹_›) ?_))
  all_goals refine jZ (vs := [_]) rfl ⟨rfl, trivial⟩ rfl ⟨rfl, rfl, ?_⟩
  all_goals (rw [oneOf_one]; simp [*, isTx])
 by_cases h3 : k = [102]
 ·have e : standOk k s = decide (s = [121, 101, 115]) := by rw [standOk, if_neg h1, if_neg h2, if_pos h3]
  rw [e]
  refine jE [(0, _), (1, _)] Tryz.func184 Tryz.ntmps184 fun B hB => ?_
  repeat' (first | (refine jR ?_) | (refine k_tt rfl (dTt ‹_›) ?_) | (refine k_ff rfl (dFf ‹_›) ?_))
  all_goals refine jZ (vs := [_]) rfl ⟨rfl, trivial⟩ rfl ⟨rfl, rfl, ?_⟩
  all_goals rfl
 ·have e : standOk k s = false := by rw [standOk, if_neg h1, if_neg h2, if_neg h3]
  rw [e]
  refine jE [(0, _), (1, _)] Tryz.func184 Tryz.ntmps184 fun B hB => ?_
  repeat' (first | (refine jR ?_) | (refine k_ff rfl (dFf ‹_›) ?_))
  all_goals refine jZ (vs := [_]) rfl ⟨rfl, trivial⟩ rfl ⟨rfl, rfl, ?_⟩
  all_goals rfl
structure Fld where
 tag : Int
 name : List UInt8
 kind : List UInt8
 stand : List UInt8
deriving Inhabited
def fldF (f : Fld) : List Value := [I f.tag, S f.name, S f.kind, S f.stand]
instance : RowF fldF 4 := ⟨fun _ => rfl⟩
def fldOf (s : List UInt8) (k : Nat) : Option Fld :=
 match cut 58 s with
 | [a, b] => if k = 69 then
   match numOf a 200 with
   | some n => if 1 ≤ n ∧ isNm b = true then some ⟨n, b, [], []⟩ else none
   | none => none
  else none
 | [a, b, c] => if k = 69 then none else
   match numOf a 200 with
   | some n => if 1 ≤ n ∧ isNm b = true then
     match cut 61 c with
     | [d] => if kindOk d = true then some ⟨n, b, d, []⟩ else none
     | [d, e] => if k = 82 ∧ standOk d e = true then some ⟨n, b, d, e⟩ else none
     | _ => none
    else none
   | none => none
 | _ => none
theorem cut_lens {k : Nat} : ∀ {s acc : List UInt8} {x : List UInt8}, x ∈ cutA k acc s → x.length ≤ acc.length + s.length
 | [], acc, x, h => by simp [cutA] at h; subst h; simp
 | c :: r, acc, x, h => by
  unfold cutA at h
  split at h
  ·rcases List.mem_cons.1 h with rfl | h
   ·simp
   ·have := cut_lens h; simp at this ⊢; omega
  ·have := cut_lens h; simp at this ⊢; omega
theorem cut_len {k : Nat} {s x : List UInt8} (h : x ∈ cut k s) : x.length ≤ s.length := by have := cut_lens h; simpa using this
theorem cutA_pos {k : Nat} : ∀ {s acc : List UInt8}, 0 < (cutA k acc s).length
 | [], acc => by simp [cutA]
 | c :: r, acc => by
  unfold cutA
  split
  ·simp
  ·exact cutA_pos
theorem cut_pos {k : Nat} {s : List UInt8} : 0 < (cut k s).length := cutA_pos
theorem cut_length_le {k : Nat} : ∀ {s acc : List UInt8}, (cutA k acc s).length ≤ s.length + 1
 | [], acc => by simp [cutA]
 | c :: r, acc => by
  unfold cutA
  split
  ·have := cut_length_le (k := k) (s := r) (acc := []); simp; omega
  ·have := cut_length_le (k := k) (s := r) (acc := acc ++ [c]); simp; omega
theorem cut_count {k : Nat} {s : List UInt8} : (cut k s).length ≤ s.length + 1 := cut_length_le
end Go.E
namespace Go.E
set_option maxRecDepth 20000
set_option maxHeartbeats 2000000
def cut1 (k : Nat) : List UInt8 → List UInt8 × List UInt8 × Bool
 | [] => ([], [], false)
 | c :: r => if c.toNat = k then ([], r, true) else (c :: (cut1 k r).1, (cut1 k r).2.1, (cut1 k r).2.2)
theorem bt_succ (c : UInt8) (r : List UInt8) (i : Nat) : bt (c :: r) (i + 1) = bt r i := by simp [bt, List.getD]
theorem bt_zero (c : UInt8) (r : List UInt8) : bt (c :: r) 0 = c.toNat := by simp [bt, List.getD]
theorem cut1_no {k : Nat} : ∀ {s : List UInt8}, (∀ j, j < s.length → bt s j ≠ k) → cut1 k s = (s, [], false)
 | [], _ => rfl
 | c :: r, h => by
  have h0 := h 0 (by simp)
  rw [bt_zero] at h0
  have ih := cut1_no (k := k) (s := r) fun j hj => by have := h (j + 1) (by simpa using hj); rwa [bt_succ] at this
  rw [cut1, if_neg h0, ih]
theorem cut1_at {k : Nat} : ∀ {s : List UInt8} {i : Nat}, i < s.length → (∀ j, j < i → bt s j ≠ k) → bt s i = k → cut1 k s = (s.take i, s.drop (i + 1), true)
 | [], i, h, _, _ => by simp at h
 | c :: r, 0, _, _, h => by rw [bt_zero] at h; rw [cut1, if_pos h]; rfl
 | c :: r, i + 1, hl, h, hi => by
  have h0 := h 0 (by omega)
  rw [bt_zero] at h0
  rw [bt_succ] at hi
  have ih := cut1_at (k := k) (s := r) (i := i) (by simpa using hl) (fun j hj => by have := h (j + 1) (by omega); rwa [bt_succ] at this) hi
  rw [cut1, if_neg h0, ih]; rfl
structure Ty where
 sort : Nat
 name : List UInt8
 fields : List Fld
deriving Inhabited
def fresh (f : Fld) (fs : List Fld) : Bool := fs.all fun g => decide (g.tag < f.tag ∧ g.name ≠ f.name)
def fieldsOf (k : Nat) : List (List UInt8) → List Fld → Option (List Fld)
 | [], fs => some fs
 | x :: xs, fs => match fldOf x k with
  | none => none
  | some f => if fresh f fs = true then fieldsOf k xs (fs ++ [f]) else none
def sortOk (k : Nat) : Prop := k = 82 ∨ k = 85 ∨ k = 69
instance (k : Nat) : Decidable (sortOk k) := inferInstanceAs (Decidable (_ ∨ _ ∨ _))
def tyOf : List UInt8 → Option Ty
 | [] => none
 | c :: r => match cut1 61 r with
  | (name, rest, true) => if isNm name = true ∧ sortOk c.toNat then
    if rest = [] then (if c.toNat = 82 then some ⟨82, name, []⟩ else none)
    else match fieldsOf c.toNat (cut 44 rest) [] with
     | some fs => if fs.length ≤ 8 then some ⟨c.toNat, name, fs⟩ else none
     | none => none
   else none
  | _ => none
def refN : List UInt8 → Option (List UInt8)
 | [] => none
 | c :: r => if c.toNat = 64 then some (r.take (r.length - 1)) else none
def findT (ts : List Ty) (name : List UInt8) : Option Ty := ts.find? fun t => decide (t.name = name)
def refT (ts : List Ty) (k : List UInt8) : Option Ty := (refN k).bind (findT ts)
def kind0 (t : Ty) : List UInt8 := (t.fields.headD default).kind
def endsN (ts : List Ty) : Nat → Ty → Bool
 | 0, _ => false
 | n + 1, t => if t.sort ≠ 85 then true else match refT ts (kind0 t) with
  | none => true
  | some u => endsN ts n u
def hasK (ts : List Ty) (k : List UInt8) : Bool := match refN (core k) with
 | none => true
 | some n => (findT ts n).isSome
def NamesAt (ts : List Ty) (i : Nat) : Prop := ∀ k, k < i → (nth ts k).name ≠ (nth ts i).name
def KindsOk (ts : List Ty) (t : Ty) : Prop := t.sort = 69 ∨ ∀ j, j < t.fields.length → hasK ts (nth t.fields j).kind = true
def ValidT (ts : List Ty) : Prop := (∀ i, i < ts.length → NamesAt ts i ∧ KindsOk ts (nth ts i)) ∧ ∀ i, i < ts.length → endsN ts (ts.length + 1) (nth ts i) = true
instance (ts : List Ty) (i : Nat) : Decidable (NamesAt ts i) := inferInstanceAs (Decidable (∀ k, k < i → _))
instance (ts : List Ty) (t : Ty) : Decidable (KindsOk ts t) := inferInstanceAs (Decidable (_ ∨ ∀ j, j < t.fields.length → _))
instance (ts : List Ty) : Decidable (ValidT ts) := inferInstanceAs (Decidable ((∀ i, i < ts.length → _) ∧ ∀ i, i < ts.length → _))
def typesOf : List (List UInt8) → Option (List Ty)
 | [] => some []
 | x :: xs => match tyOf x with
  | none => none
  | some t => (typesOf xs).map (t :: ·)
def schemaOf (s : List UInt8) : Option (List Ty) :=
 if s.length ≤ 400 ∧ (cut 10 s).length ≤ 9 ∧ (cut 10 s).getLastD [] = [] then
  match typesOf (cut 10 s).dropLast with
  | some ts => if ValidT ts then some ts else none
  | none => none
 else none
structure FldW (k : Nat) (f : Fld) : Prop where
 tag : 1 ≤ f.tag ∧ f.tag ≤ 200
 name : isNm f.name = true
 kind : k ≠ 69 → kindOk f.kind = true
 enm : k = 69 → f.kind = [] ∧ f.stand = []
 stand : f.stand ≠ [] → k = 82 ∧ standOk f.kind f.stand = true
theorem numOf_le {s : List UInt8} {top n : Int} (h : numOf s top = some n) : n ≤ top ∧ s = decI n ∧ s.length ≤ 6 := by
 unfold numOf at h
 split at h
 ·split at h
  ·split at h
   ·rename_i h1 _ _ _ h2; simp only [Option.some.injEq] at h; subst h; exact ⟨h2.2, h2.1, h1⟩
   ·cases h
  ·cases h
 ·cases h
theorem standOk_kind {k s : List UInt8} (h : standOk k s = true) : kindOk k = true := by
 unfold standOk at h
 split at h
 ·subst_vars; decide
 ·split at h
  ·subst_vars; decide
  ·split at h
   ·subst_vars; decide
   ·cases h
theorem fldOf_w {s : List UInt8} {k : Nat} {f : Fld} (h : fldOf s k = some f) : FldW k f := by
 unfold fldOf at h
 split at h
 ·split at h
  ·rename_i hk
   split at h
   ·rename_i n hn
    split at h
    ·rename_i hg
     simp only [Option.some.injEq] at h; subst h
     exact ⟨⟨hg.1, (numOf_le hn).1⟩, hg.2, fun h => absurd hk h, fun _ => ⟨rfl, rfl⟩, fun h => absurd rfl h⟩
    ·cases h
   ·cases h
  ·cases h
 ·split at h
  ·cases h
  ·rename_i hk
   split at h
   ·rename_i n hn
    split at h
    ·rename_i hg
     split at h
     ·split at h
      ·rename_i hd
       simp only [Option.some.injEq] at h; subst h
       exact ⟨⟨hg.1, (numOf_le hn).1⟩, hg.2, fun _ => hd, fun h => absurd h hk, fun h => absurd rfl h⟩
      ·cases h
     ·split at h
      ·rename_i hd
       simp only [Option.some.injEq] at h; subst h
       exact ⟨⟨hg.1, (numOf_le hn).1⟩, hg.2, fun _ => standOk_kind hd.2, fun h => absurd h hk, fun _ => hd⟩
      ·cases h
     ·cases h
    ·cases h
   ·cases h
 ·cases h
structure TyW (t : Ty) : Prop where
 sort : sortOk t.sort
 name : isNm t.name = true
 ne : t.sort ≠ 82 → t.fields ≠ []
 len : t.fields.length ≤ 8
 fld : ∀ f ∈ t.fields, FldW t.sort f
 asc : t.fields.Pairwise fun g f => g.tag < f.tag ∧ g.name ≠ f.name
theorem fieldsOf_w {k : Nat} : ∀ {xs : List (List UInt8)} {fs gs : List Fld}, fieldsOf k xs fs = some gs → (∀ f ∈ fs, FldW k f) → fs.Pairwise (fun g f => g.tag < f.tag ∧ g.name ≠ f.name) →
  (∀ f ∈ gs, FldW k f) ∧ gs.Pairwise (fun g f => g.tag < f.tag ∧ g.name ≠ f.name) ∧ gs.length = fs.length + xs.length
 | [], fs, gs, h, h1, h2 => by
  simp only [fieldsOf, Option.some.injEq] at h; subst h; exact ⟨h1, h2, by simp⟩
 | x :: xs, fs, gs, h, h1, h2 => by
  unfold fieldsOf at h
  split at h
  ·cases h
  ·rename_i f hf
   split at h
   ·rename_i hfr
    simp only [fresh, List.all_eq_true, decide_eq_true_eq] at hfr
    have := fieldsOf_w h (fun g hg => by
     rcases List.mem_append.1 hg with hg | hg
     ·exact h1 g hg
     ·simp only [List.mem_singleton] at hg; subst hg; exact fldOf_w hf) (List.pairwise_append.2 ⟨h2, by simp, fun a ha b hb => by
      simp only [List.mem_singleton] at hb; subst hb; exact hfr a ha⟩)
    refine ⟨this.1, this.2.1, ?_⟩
    rw [this.2.2]; simp; omega
   ·cases h
theorem tyOf_w {s : List UInt8} {t : Ty} (h : tyOf s = some t) : TyW t := by
 unfold tyOf at h
 split at h
 ·cases h
 ·split at h
  ·split at h
   ·rename_i hn
    split at h
    ·split at h
     ·simp only [Option.some.injEq] at h; subst h
      exact ⟨.inl rfl, hn.1, fun h => absurd rfl h, by simp, by simp, by simp⟩
     ·cases h
    ·split at h
     ·rename_i fs hfs
      split at h
      ·rename_i hl
       simp only [Option.some.injEq] at h; subst h
       have hw := fieldsOf_w hfs (by simp) (by simp)
       refine ⟨hn.2, hn.1, fun _ h0 => ?_, hl, hw.1, hw.2.1⟩
       have := hw.2.2
       dsimp only at h0
       rw [h0] at this
       have := cut_pos (k := 44) (s := ‹List UInt8›)
       simp at *; omega
      ·cases h
     ·cases h
   ·cases h
  ·cases h
theorem typesOf_w : ∀ {xs : List (List UInt8)} {ts : List Ty}, typesOf xs = some ts → (∀ t ∈ ts, TyW t) ∧ ts.length = xs.length
 | [], ts, h => by simp only [typesOf, Option.some.injEq] at h; subst h; simp
 | x :: xs, ts, h => by
  unfold typesOf at h
  split at h
  ·cases h
  ·rename_i t ht
   cases hr : typesOf xs with
   | none => rw [hr] at h; cases h
   | some us =>
    rw [hr] at h
    simp only [Option.map_some, Option.some.injEq] at h; subst h
    have := typesOf_w hr
    exact ⟨fun u hu => by rcases List.mem_cons.1 hu with rfl | hu; exact tyOf_w ht; exact this.1 u hu, by simp [this.2]⟩
structure SchW (ts : List Ty) : Prop where
 ty : ∀ t ∈ ts, TyW t
 len : ts.length ≤ 8
 valid : ValidT ts
theorem schemaOf_w {s : List UInt8} {ts : List Ty} (h : schemaOf s = some ts) : SchW ts := by
 unfold schemaOf at h
 split at h
 ·rename_i hc
  split at h
  ·rename_i us hus
   split at h
   ·rename_i hv
    simp only [Option.some.injEq] at h; subst h
    have := typesOf_w hus
    exact ⟨this.1, by rw [this.2, List.length_dropLast]; omega, hv⟩
   ·cases h
  ·cases h
 ·cases h
def kindIn (ts : List Ty) (k : List UInt8) : Bool := kindOk k && hasK ts k
end Go.E
namespace Go.E
set_option maxRecDepth 20000
set_option maxHeartbeats 2000000
open Go.Proofs
variable {G : Gh}
def idx1 (k : Nat) (s : List UInt8) : Int := if (cut1 k s).2.2 = true then ((cut1 k s).1.length : Int) else -1
theorem cut1_some {k : Nat} : ∀ {s a b : List UInt8}, cut1 k s = (a, b, true) → ∃ c : UInt8, c.toNat = k ∧ s = a ++ c :: b
 | [], a, b, h => by simp [cut1] at h
 | c :: r, a, b, h => by
  unfold cut1 at h
  split at h
  ·rename_i hc
   simp only [Prod.mk.injEq, and_true] at h
   obtain ⟨rfl, rfl⟩ := h
   exact ⟨c, hc, rfl⟩
  ·simp only [Prod.mk.injEq] at h
   obtain ⟨rfl, h2, h3⟩ := h
   obtain ⟨d, hd, hr⟩ := cut1_some (k := k) (s := r) (a := (cut1 k r).1) (b := b) (by rw [← h2, ← h3])
   exact ⟨d, hd, by rw [List.cons_append, ← hr]⟩
theorem cut1_none {k : Nat} : ∀ {s : List UInt8}, (cut1 k s).2.2 = false → cut1 k s = (s, [], false)
 | [], h => rfl
 | c :: r, h => by
  unfold cut1 at h ⊢
  split at h
  ·cases h
  ·rename_i hc
   rw [if_neg hc, cut1_none (s := r) h]
theorem cut1_len {k : Nat} {s : List UInt8} : (cut1 k s).1.length ≤ s.length ∧ (cut1 k s).2.1.length ≤ s.length := by
 cases h : (cut1 k s).2.2 with
 | false => rw [cut1_none h]; simp
 | true =>
  obtain ⟨c, _, e⟩ := cut1_some (k := k) (s := s) (a := (cut1 k s).1) (b := (cut1 k s).2.1) (by rw [← h])
  have := congrArg List.length e
  simp at this
  omega
theorem indexByte_idx1 (s : List UInt8) (c : UInt8) : Lib.indexByte s c = idx1 c.toNat s := by
 induction s with
 | nil => rfl
 | cons b r ih =>
  unfold Lib.indexByte
  by_cases hb : b = c
  ·subst hb; simp [idx1, cut1]
  ·have hb2 : ¬ b.toNat = c.toNat := fun h => hb (UInt8.toNat_inj.1 h)
   have hb3 : (b == c) = false := by simpa using hb
   rw [hb3, ih]
   unfold idx1
   rw [cut1, if_neg hb2]
   dsimp only
   cases (cut1 c.toNat r).2.2 <;> simp
theorem c_IndexByteL {s : List UInt8} {c : UInt8} : PuG Tryz.prog 185 [S s, U8 c.toNat] G (· = I (idx1 c.toNat s)) := by
 have hx : ∀ w, (callFunc 193 [S s, U8 c.toNat].toArray).run Tryz.prog w = .ok (.value (I (idx1 c.toNat s))) w := fun w => by
  rw [run_callFunc_extern Tryz.func193 (by kernel_rfl) (by kernel_rfl) (by kernel_rfl) (e := Extern.BytealgIndexByte.indexByte) (by kernel_rfl)]
  have := Lib.run_indexByteString (P := Tryz.prog) ⟨s.toArray⟩ (c.toNat : Int) w
  rw [this]
  simp only [Result.andThen]
  rw [indexByte_idx1]
  simp
 refine jE [(0, _), (1, _)] Tryz.func185 Tryz.ntmps185 fun B hB => ?_
 repeat' (refine jR ?_)
 refine k_op rfl (v_op (g_extern rfl rfl rfl hx) rfl rfl ?_)
 repeat' (refine jR ?_)
 refine jZ (vs := [_]) rfl ⟨rfl, trivial⟩ rfl ⟨rfl, rfl, ?_⟩
 rfl
theorem idx1_self (c : UInt8) : idx1 c.toNat [c] = 0 := by simp [idx1, cut1]
theorem c_IndexL {s : List UInt8} {c : UInt8} : PuG Tryz.prog 172 [S s, S [c]] G (· = I (idx1 c.toNat s)) := by
 have e0 : ((bt [c] (Int.toNat 0) : Nat) : Int) = c.toNat := by rw [show Int.toNat 0 = 0 from rfl, bt_zero]
 by_cases hs : [c] = s
 ·subst hs
  rw [idx1_self]
  refine jE [(0, _), (1, _)] Tryz.func172 Tryz.ntmps172 fun B hB => ?_
  repeat' (first | (refine jR ?_) | (refine k_op rfl ?_; (refine jV (g_pickF rfl rfl rfl) ?_)) | (refine k_gf rfl rfl rfl ?_) | (refine k_tt rfl (dTt rfl) ?_))
  all_goals refine jZ (vs := [_]) rfl ⟨rfl, trivial⟩ rfl ⟨rfl, rfl, ?_⟩
  all_goals rfl
 ·have cx_ib : PuG Tryz.prog 185 [S s, U8 (bt [c] (Int.toNat 0))] G (· = I (idx1 c.toNat s)) := by rw [show (bt [c] (Int.toNat 0)) = c.toNat from bt_zero c []]; exact c_IndexByteL
  refine jE [(0, _), (1, _)] Tryz.func172 Tryz.ntmps172 fun B hB => ?_
  repeat' (first | (refine run (t := tb) 400 rfl ?_ ?_; (focus (repeat' (first | exact trivial | apply And.intro | omega | (simp only [List.length_append, List.length_cons, List.length_nil, Int.toNat_natCast]; omega))))) | (refine k_op rfl ?_; first | (refine jV (g_pickF rfl rfl rfl) ?_) | (refine c_rt rfl rfl rfl cx_ib rfl ?_)) | (refine k_gf rfl rfl rfl ?_) | (refine k_tt rfl rfl ?_) | (refine k_ff rfl (dFf ‹_›) ?_))
  all_goals refine jZ (vs := [_]) rfl ⟨rfl, trivial⟩ rfl ⟨rfl, rfl, ?_⟩
  all_goals rfl
theorem c_Index {s : List UInt8} {c : UInt8} : PuG Tryz.prog 164 [S s, S [c]] G (· = I (idx1 c.toNat s)) := by
 refine jE [(0, _), (1, _)] Tryz.func164 Tryz.ntmps164 fun B hB => ?_
 repeat' (first | (refine jR ?_) | (refine k_op rfl ?_; (refine c_rt rfl rfl rfl c_IndexL rfl ?_)))
 refine jZ (vs := [_]) rfl ⟨rfl, trivial⟩ rfl ⟨rfl, rfl, ?_⟩
 rfl
theorem idx1_cases (k : Nat) (s : List UInt8) : (idx1 k s = -1 ∧ cut1 k s = (s, [], false)) ∨ ∃ i : Nat, idx1 k s = i ∧ i < s.length ∧ cut1 k s = (s.take i, s.drop (i + 1), true) := by
 cases h : (cut1 k s).2.2 with
 | false => exact .inl ⟨by simp [idx1, h], cut1_none h⟩
 | true =>
  obtain ⟨c, _, e⟩ := cut1_some (k := k) (s := s) (a := (cut1 k s).1) (b := (cut1 k s).2.1) (by rw [← h])
  have h5 : cut1 k s = ((cut1 k s).1, (cut1 k s).2.1, true) := by rw [← h]
  have h6 : idx1 k s = ((cut1 k s).1.length : Int) := by simp [idx1, h]
  generalize (cut1 k s).1 = a at *
  generalize (cut1 k s).2.1 = b at *
  refine .inr ⟨a.length, h6, ?_, ?_⟩
  ·have := congrArg List.length e
   simp at this
   omega
  ·rw [h5, e]; simp
theorem c_CutL {s : List UInt8} {c : UInt8} (h : s.length ≤ 9000000000000000000) : PuG Tryz.prog 150 [S s, S [c]] G (· = Tu [S (cut1 c.toNat s).1, S (cut1 c.toNat s).2.1, Bo (cut1 c.toNat s).2.2]) := by
 have hix := c_IndexL (G := G) (s := s) (c := c)
 rcases idx1_cases c.toNat s with ⟨h1, h2⟩ | ⟨i, h1, h3, h2⟩
 ·rw [h2]
  have cx_ix : PuG Tryz.prog 172 [S s, S [c]] G (· = I (-1)) := by rwa [h1] at hix
  refine jE [(0, _), (1, _)] Tryz.func150 Tryz.ntmps150 fun B hB => ?_
  repeat' (first | (refine jR ?_) | (refine k_op rfl ?_; (refine c_rt rfl rfl rfl cx_ix rfl ?_)) | (refine k_ff rfl rfl ?_))
  all_goals refine jZ (vs := [_, _, _]) rfl ⟨rfl, rfl, rfl, trivial⟩ rfl ⟨rfl, rfl, ?_⟩
  all_goals rfl
 ·rw [h2]
  have cx_ix : PuG Tryz.prog 172 [S s, S [c]] G (· = I (i : Int)) := by rwa [h1] at hix
  have e2 : ((i : Int) + (([c] : List UInt8).length : Nat)).toNat = i + 1 := by simp only [List.length_cons, List.length_nil]; omega
  refine jE [(0, _), (1, _)] Tryz.func150 Tryz.ntmps150 fun B hB => ?_
  repeat' (first | (refine jR ?_) | (refine k_op rfl ?_; (refine c_rt rfl rfl rfl cx_ix rfl ?_)) | (refine k_tt rfl rfl ?_) | (refine k_any (s_any (id := 3) _ (fun _ h => h) mixed ?_); refine jU 0 [0, 1, 2, 3, 4, 5, 6, 7, 8, 9, 10, 11] (bts 12 4095) ?_ ?_; (focus (repeat' (first | exact trivial | apply And.intro | omega))); refine x_done (by kernel_rfl) (k_bk ?_)))
  all_goals refine jZ (vs := [_, _, _]) rfl ⟨rfl, rfl, rfl, trivial⟩ rfl ⟨rfl, rfl, ?_⟩
  all_goals (rfl)
theorem c_Cut {s : List UInt8} {c : UInt8} (h : s.length ≤ 9000000000000000000) : PuG Tryz.prog 109 [S s, S [c]] G (· = Tu [S (cut1 c.toNat s).1, S (cut1 c.toNat s).2.1, Bo (cut1 c.toNat s).2.2]) := by
 refine jE [(0, _), (1, _)] Tryz.func109 Tryz.ntmps109 fun B hB => ?_
 repeat' (first | (refine jR ?_) | (refine k_op rfl ?_; (refine c_rt rfl rfl rfl (c_CutL (by omega)) rfl ?_)))
 all_goals refine jZ (vs := [_, _, _]) rfl ⟨rfl, rfl, rfl, trivial⟩ rfl ⟨rfl, rfl, ?_⟩
 all_goals rfl
theorem c_Contains {s : List UInt8} {c : UInt8} : PuG Tryz.prog 151 [S s, S [c]] G (· = Bo (decide (0 ≤ idx1 c.toNat s))) := by
 refine jE [(0, _), (1, _)] Tryz.func151 Tryz.ntmps151 fun B hB => ?_
 repeat' (first | (refine jR ?_) | (refine k_op rfl ?_; (refine c_rt rfl rfl rfl c_Index rfl ?_)))
 all_goals refine jZ (vs := [_]) rfl ⟨rfl, trivial⟩ rfl ⟨rfl, rfl, ?_⟩
 all_goals rfl
end Go.E
namespace Go.E
set_option maxRecDepth 20000
set_option maxHeartbeats 2000000
def noB (k : Nat) (s : List UInt8) : Prop := ∀ c ∈ s, c.toNat ≠ k
def joinB (c : UInt8) : List (List UInt8) → List UInt8
 | [] => []
 | [x] => x
 | x :: y :: r => x ++ c :: joinB c (y :: r)
theorem joinB_cons (c : UInt8) (x : List UInt8) {xs : List (List UInt8)} (h : xs ≠ []) : joinB c (x :: xs) = x ++ c :: joinB c xs := by
 cases xs with
 | nil => exact absurd rfl h
 | cons y r => rfl
theorem cutA_spec {c : UInt8} : ∀ {s acc : List UInt8}, noB c.toNat acc → joinB c (cutA c.toNat acc s) = acc ++ s ∧ ∀ x ∈ cutA c.toNat acc s, noB c.toNat x
 | [], acc, h => by simp [cutA, joinB]; exact h
 | d :: r, acc, h => by
  unfold cutA
  split
  ·rename_i hd
   have hd : d = c := UInt8.toNat_inj.1 hd
   subst hd
   have ih := cutA_spec (c := d) (s := r) (acc := []) (by intro x hx; cases hx)
   have hp : cutA d.toNat [] r ≠ [] := fun e => by have := cutA_pos (k := d.toNat) (s := r) (acc := []); rw [e] at this; simp at this
   refine ⟨by rw [joinB_cons d acc hp, ih.1]; rfl, fun x hx => ?_⟩
   rcases List.mem_cons.1 hx with rfl | hx
   ·exact h
   ·exact ih.2 x hx
  ·rename_i hd
   have ih := cutA_spec (c := c) (s := r) (acc := acc ++ [d]) (by
    intro x hx
    rcases List.mem_append.1 hx with hx | hx
    ·exact h x hx
    ·simp only [List.mem_singleton] at hx; subst hx; exact hd)
   exact ⟨by rw [ih.1]; simp, ih.2⟩
theorem cut_join (c : UInt8) (s : List UInt8) : joinB c (cut c.toNat s) = s := by have := (cutA_spec (c := c) (s := s) (acc := []) (by intro x hx; cases hx)).1; simpa [cut] using this
theorem cut_noB {c : UInt8} {s x : List UInt8} (h : x ∈ cut c.toNat s) : noB c.toNat x := (cutA_spec (c := c) (s := s) (acc := []) (by intro x hx; cases hx)).2 x h
theorem cutA_pre {k : Nat} : ∀ {s acc t : List UInt8}, noB k s → cutA k acc (s ++ t) = cutA k (acc ++ s) t
 | [], acc, t, _ => by simp
 | d :: r, acc, t, h => by
  rw [List.cons_append, cutA, if_neg (h d (by simp)), cutA_pre (fun c hc => h c (by simp [hc]))]; simp
theorem cut_no {k : Nat} {s : List UInt8} (h : noB k s) : cut k s = [s] := by
 have := cutA_pre (k := k) (s := s) (acc := []) (t := []) h
 simpa [cut, cutA] using this
theorem cut_app {k : Nat} {s t : List UInt8} {c : UInt8} (h : noB k s) (hc : c.toNat = k) : cut k (s ++ c :: t) = s :: cut k t := by
 unfold cut
 rw [cutA_pre h, cutA, if_pos hc]; rfl
theorem join_cut {c : UInt8} : ∀ {xs : List (List UInt8)}, xs ≠ [] → (∀ x ∈ xs, noB c.toNat x) → cut c.toNat (joinB c xs) = xs
 | [], h, _ => absurd rfl h
 | [x], _, h => cut_no (h x (by simp))
 | x :: y :: r, _, h => by
  rw [joinB, cut_app (h x (by simp)) rfl, join_cut (by simp) fun z hz => h z (by simp at hz ⊢; exact .inr hz)]
theorem cut1_app {k : Nat} {s t : List UInt8} {c : UInt8} (h : noB k s) (hc : c.toNat = k) : cut1 k (s ++ c :: t) = (s, t, true) := by
 induction s with
 | nil => rw [List.nil_append, cut1, if_pos hc]
 | cons d r ih => rw [List.cons_append, cut1, if_neg (h d (by simp)), ih fun x hx => h x (by simp [hx])]
theorem cut1_noB {k : Nat} {s : List UInt8} (h : noB k s) : cut1 k s = (s, [], false) := by
 induction s with
 | nil => rfl
 | cons d r ih => rw [cut1, if_neg (h d (by simp)), ih fun x hx => h x (by simp [hx])]
theorem cut1_pre {k : Nat} : ∀ {s : List UInt8}, noB k (cut1 k s).1
 | [] => by intro c hc; cases hc
 | d :: r => by
  unfold cut1
  split
  ·intro c hc; cases hc
  ·rename_i hd
   intro c hc
   rcases List.mem_cons.1 hc with rfl | hc
   ·exact hd
   ·exact cut1_pre c hc
theorem cut_cut1 {k : Nat} (s : List UInt8) : cut k s = if (cut1 k s).2.2 = true then (cut1 k s).1 :: cut k (cut1 k s).2.1 else [s] := by
 cases h : (cut1 k s).2.2 with
 | false =>
  rw [if_neg (by simp)]
  have h1 := cut1_none h
  refine cut_no ?_
  have := cut1_pre (k := k) (s := s)
  rwa [h1] at this
 | true =>
  rw [if_pos rfl]
  obtain ⟨c, hc, e⟩ := cut1_some (k := k) (s := s) (a := (cut1 k s).1) (b := (cut1 k s).2.1) (by rw [← h])
  conv => { lhs; rw [e] }
  exact cut_app cut1_pre hc
theorem isNm_noB {s : List UInt8} {k : Nat} (h : isNm s = true) (hk : k < 97) : noB k s := by
 intro c hc
 simp only [isNm, Bool.and_eq_true, List.all_eq_true] at h
 have := h.1 c hc
 simp only [isLow, decide_eq_true_eq] at this
 omega
theorem digF_dig {n m : Int} : ∀ {s : List UInt8}, digF n s = some m → ∀ c ∈ s, 48 ≤ c.toNat ∧ c.toNat ≤ 57
 | [], _, c, hc => by cases hc
 | d :: r, h, c, hc => by
  unfold digF at h
  split at h
  ·rename_i hd
   rcases List.mem_cons.1 hc with rfl | hc
   ·exact hd
   ·exact digF_dig h c hc
  ·cases h
theorem numOf_dig {s : List UInt8} {top n : Int} (h : numOf s top = some n) : ∀ c ∈ s, 48 ≤ c.toNat ∧ c.toNat ≤ 57 := by
 unfold numOf at h
 split at h
 ·split at h
  ·rename_i hd; exact digF_dig hd
  ·cases h
 ·cases h
theorem numOf_noB {s : List UInt8} {top n : Int} {k : Nat} (h : numOf s top = some n) (hk : 57 < k) : noB k s := fun c hc => by
 have := numOf_dig h c hc; omega
theorem isTx_byte {s : List UInt8} (h : isTx s = true) {c : UInt8} (hc : c ∈ s) : c.toNat = 39 ∨ txN c.toNat := by
 unfold isTx at h
 simp only [decide_eq_true_eq] at h
 obtain ⟨h1, h2, h3, h4⟩ := h
 obtain ⟨i, hi, rfl⟩ := List.mem_iff_getElem.1 hc
 have e : bt s i = (s[i]).toNat := by simp [bt, List.getD, List.getElem?_eq_getElem hi]
 rw [← e]
 rcases Nat.lt_or_ge i (s.length - 1) with h5 | h5
 ·rcases h4 i h5 with h6 | h6
  ·subst h6; exact .inl h2
  ·exact .inr h6
 ·have : i = s.length - 1 := by omega
  subst this; exact .inl h3
theorem standOk_noB {d v : List UInt8} {k : Nat} (h : standOk d v = true) (hk : k = 58 ∨ k = 61) : noB k v := by
 intro c hc
 unfold standOk at h
 split at h
 ·simp only [Bool.and_eq_true] at h
  obtain ⟨n, hn⟩ := Option.isSome_iff_exists.1 h.1
  have := numOf_dig hn c hc; omega
 ·split at h
  ·simp only [Bool.and_eq_true] at h
   have := isTx_byte h.1 hc
   unfold txN at this; omega
  ·split at h
   ·simp only [decide_eq_true_eq] at h
    subst h
    simp only [List.mem_cons, List.not_mem_nil, or_false] at hc
    rcases hc with rfl | rfl | rfl <;> (rcases hk with rfl | rfl <;> decide)
   ·cases h
theorem core_len : ∀ s : List UInt8, (core s).length ≤ s.length
 | [] => Nat.le_refl _
 | c :: r => by
  unfold core
  split
  ·have := core_len r; simp; omega
  ·exact Nat.le_refl _
def sg (s : List UInt8) : List UInt8 := s.take (s.length - (core s).length)
def bsT : List UInt8 → List UInt8
 | [] => []
 | c :: r => if c.toNat = 64 then [64] else c :: r
def bs (s : List UInt8) : List UInt8 := bsT (core s)
def nm (s : List UInt8) : List UInt8 := (refN (core s)).getD []
theorem kOk_noB {k : Nat} (hk : k = 58 ∨ k = 61) : ∀ {s : List UInt8}, kOk s = true → noB k s
 | [], h => by cases h
 | c :: r, h => by
  unfold kOk at h
  split at h
  ·rename_i hc
   intro d hd
   rcases List.mem_cons.1 hd with rfl | hd
   ·omega
   ·exact kOk_noB hk h d hd
  ·split at h
   ·rename_i hc
    simp only [Bool.and_eq_true, decide_eq_true_eq] at h
    intro d hd
    rcases List.mem_cons.1 hd with rfl | hd
    ·omega
    ·obtain ⟨i, hi, rfl⟩ := List.mem_iff_getElem.1 hd
     rcases Nat.lt_or_ge i (r.length - 1) with h5 | h5
     ·refine isNm_noB h.2 (by omega) _ ?_
      exact List.mem_iff_getElem.2 ⟨i, by simp; omega, by simp⟩
     ·have h1 : bt (c :: r) r.length = 59 := by omega
      have e : i = r.length - 1 := by omega
      obtain ⟨m, hm⟩ : ∃ m, r.length = m + 1 := ⟨r.length - 1, by omega⟩
      rw [hm, bt_succ] at h1
      have : bt r m = (r[m]'(by omega)).toNat := by simp [bt, List.getD, List.getElem?_eq_getElem (show m < r.length by omega)]
      have e2 : i = m := by omega
      subst e2
      omega
   ·simp only [Bool.and_eq_true, Bool.or_eq_true, decide_eq_true_eq] at h
    intro d hd
    obtain ⟨rfl, h⟩ := h
    simp only [List.mem_singleton] at hd
    subst hd; omega
theorem kindOk_noB {k : Nat} (hk : k = 58 ∨ k = 61) {s : List UInt8} (h : kindOk s = true) : noB k s := by
 unfold kindOk at h; simp only [Bool.and_eq_true] at h; exact kOk_noB hk h.2
def fldI (s : List UInt8) (k : Nat) : Option Fld :=
 match cut 58 (cut1 61 s).1 with
 | [a, b] => if k = 69 ∧ (cut1 61 s).2.2 = false then
   match numOf a 200 with
   | some n => if 1 ≤ n ∧ isNm b = true then some ⟨n, b, [], []⟩ else none
   | none => none
  else none
 | [a, b, c] => if k = 69 then none else
   match numOf a 200 with
   | some n => if (1 ≤ n ∧ isNm b = true) ∧ kindOk c = true ∧ ((cut1 61 s).2.2 = true → k = 82 ∧ standOk c (cut1 61 s).2.1 = true) then some ⟨n, b, c, (cut1 61 s).2.1⟩ else none
   | none => none
 | _ => none
theorem noB_append {k : Nat} {a b : List UInt8} : noB k (a ++ b) ↔ noB k a ∧ noB k b := by
 constructor
 ·intro h; exact ⟨fun c hc => h c (by simp [hc]), fun c hc => h c (by simp [hc])⟩
 ·intro h c hc
  rcases List.mem_append.1 hc with hc | hc
  ·exact h.1 c hc
  ·exact h.2 c hc
theorem noB_cons {k : Nat} {c : UInt8} {b : List UInt8} : noB k (c :: b) ↔ c.toNat ≠ k ∧ noB k b := by
 constructor
 ·intro h; exact ⟨h c (by simp), fun d hd => h d (by simp [hd])⟩
 ·intro h d hd
  rcases List.mem_cons.1 hd with rfl | hd
  ·exact h.1
  ·exact h.2 d hd
theorem cut58 {s : List UInt8} {xs : List (List UInt8)} (h : cut 58 s = xs) : s = joinB 58 xs ∧ ∀ x ∈ xs, noB 58 x := by
 subst h
 exact ⟨(cut_join 58 s).symm, fun x hx => cut_noB (c := 58) hx⟩
theorem fldI_eq (s : List UInt8) (k : Nat) : fldI s k = fldOf s k := by
 apply Option.ext
 intro f
 constructor
 ·intro h
  unfold fldI at h
  split at h
  ·rename_i a b e
   split at h
   ·rename_i hk
    have hs := cut1_none hk.2
    rw [hs] at e
    unfold fldOf
    rw [e]
    simp only [hk.1, if_true]
    exact h
   ·cases h
  ·rename_i a b c e
   split at h
   ·cases h
   ·rename_i hk
    split at h
    ·rename_i n hn
     split at h
     ·rename_i hg
      simp only [Option.some.injEq] at h; subst h
      cases ht : (cut1 61 s).2.2 with
      | false =>
       have hs := cut1_none ht
       rw [hs] at e ⊢
       have hc61 : cut 61 c = [c] := cut_no (kindOk_noB (.inr rfl) hg.2.1)
       unfold fldOf
       rw [e]
       simp [hk, hn, hg.1.1, hg.1.2, hc61, hg.2.1]
      | true =>
       have hst := hg.2.2 ht
       obtain ⟨d, hd, es⟩ := cut1_some (k := 61) (s := s) (a := (cut1 61 s).1) (b := (cut1 61 s).2.1) (by rw [← ht])
       generalize (cut1 61 s).1 = hd1 at *
       generalize (cut1 61 s).2.1 = v at *
       have hd : d = 61 := UInt8.toNat_inj.1 hd
       subst hd
       obtain ⟨e1, e2⟩ := cut58 e
       have e3 : s = joinB 58 [a, b, c ++ 61 :: v] := by rw [es, e1]; simp [joinB]
       have e4 : cut 58 s = [a, b, c ++ 61 :: v] := by
        rw [e3]
        refine join_cut (c := 58) (by simp) fun x hx => ?_
        simp only [List.mem_cons, List.not_mem_nil, or_false] at hx
        rcases hx with rfl | rfl | rfl
        ·exact e2 _ (by simp)
        ·exact e2 _ (by simp)
        ·exact noB_append.2 ⟨e2 _ (by simp), noB_cons.2 ⟨by decide, standOk_noB hst.2 (.inl rfl)⟩⟩
       have e5 : cut 61 (c ++ 61 :: v) = [c, v] := by
        rw [cut_app (k := 61) (kindOk_noB (.inr rfl) hg.2.1) rfl, cut_no (standOk_noB hst.2 (.inr rfl))]
       unfold fldOf
       rw [e4]
       simp [hk, hn, hg.1.1, hg.1.2, e5, hst.1, hst.2]
     ·cases h
    ·cases h
  ·cases h
 ·intro h
  unfold fldOf at h
  split at h
  ·rename_i a b e
   split at h
   ·rename_i hk
    split at h
    ·rename_i n hn
     split at h
     ·rename_i hg
      obtain ⟨e1, e2⟩ := cut58 e
      have hno : noB 61 s := by rw [e1]; simp only [joinB]; exact noB_append.2 ⟨numOf_noB hn (by omega), noB_cons.2 ⟨by decide, isNm_noB hg.2 (by omega)⟩⟩
      unfold fldI
      rw [cut1_noB hno, e]
      simp only [hk, hn, hg, and_self, if_true]
      exact h
     ·cases h
    ·cases h
   ·cases h
  ·rename_i a b c e
   split at h
   ·cases h
   ·rename_i hk
    split at h
    ·rename_i n hn
     split at h
     ·rename_i hg
      obtain ⟨e1, e2⟩ := cut58 e
      split at h
      ·rename_i d e3
       split at h
       ·rename_i hd
        simp only [Option.some.injEq] at h; subst h
        have e4 : c = d := by have := cut_join 61 c; rw [show (61 : UInt8).toNat = 61 from rfl, e3] at this; exact this.symm
        subst e4
        have hno : noB 61 s := by rw [e1]; simp only [joinB]; exact noB_append.2 ⟨numOf_noB hn (by omega), noB_cons.2 ⟨by decide, noB_append.2 ⟨isNm_noB hg.2 (by omega), noB_cons.2 ⟨by decide, kindOk_noB (.inr rfl) hd⟩⟩⟩⟩
        unfold fldI
        rw [cut1_noB hno, e]
        simp [hk, hn, hg.1, hg.2, hd]
       ·cases h
      ·rename_i d v e3
       split at h
       ·rename_i hd
        simp only [Option.some.injEq] at h; subst h
        have e4 : c = d ++ 61 :: v := by have := cut_join 61 c; rw [show (61 : UInt8).toNat = 61 from rfl, e3] at this; exact this.symm
        subst e4
        have hkd := standOk_kind hd.2
        have es : s = joinB 58 [a, b, d] ++ 61 :: v := by rw [e1]; simp [joinB]
        have hno : noB 61 (joinB 58 [a, b, d]) := by simp only [joinB]; exact noB_append.2 ⟨numOf_noB hn (by omega), noB_cons.2 ⟨by decide, noB_append.2 ⟨isNm_noB hg.2 (by omega), noB_cons.2 ⟨by decide, kindOk_noB (.inr rfl) hkd⟩⟩⟩⟩
        have e5 : cut 58 (joinB 58 [a, b, d]) = [a, b, d] := by
         refine join_cut (c := 58) (by simp) fun x hx => ?_
         simp only [List.mem_cons, List.not_mem_nil, or_false] at hx
         rcases hx with rfl | rfl | rfl
         ·exact e2 _ (by simp)
         ·exact e2 _ (by simp)
         ·exact kindOk_noB (.inl rfl) hkd
        unfold fldI
        rw [es, cut1_app (k := 61) hno rfl, e5]
        simp [hn, hg.1, hg.2, hkd, hd.1, hd.2]
       ·cases h
      ·cases h
     ·cases h
    ·cases h
  ·cases h
end Go.E
namespace Go.E
set_option maxRecDepth 20000
set_option maxHeartbeats 2000000
open Go.Proofs
variable {G : Gh}
def inS (cs : List UInt8) (c : Nat) : Bool := cs.any fun d => d.toNat == c
def trimL (p : Nat → Bool) : List UInt8 → List UInt8
 | [] => []
 | c :: r => if p c.toNat = true then trimL p r else c :: r
def trimR (p : Nat → Bool) (s : List UInt8) : List UInt8 := (trimL p s.reverse).reverse
abbrev tAs : TypeId := 180
theorem c_asContains {b : Nat} {p : Nat → Bool} {c : Nat} (h : c < 256) : FnG Tryz.prog 174 [Pt b 0, U8 c] G [.blk b (.cells (bools p).toArray tAs (0, 0))] (fun v L' => v = Bo (p c) ∧ L' = [.blk b (.cells (bools p).toArray tAs (0, 0))]) := by
 refine jH [(0, _), (1, _)] Tryz.func174 Tryz.ntmps174 fun B hB hW => ?_
 repeat' (first | (refine jR ?_) | (refine k_op rfl ?_; first | (refine jV (g_iaddrA rfl rfl (by omega)) ?_) | refine jV (g_ldBo rfl rfl rfl (by assumption)) ?_))
 refine k_rr (vs := [_]) rfl ⟨rfl, trivial⟩ rfl (List.Sublist.refl _) ⟨rfl, rfl, rfl⟩
theorem c_trimLeftASCII {b : Nat} {p : Nat → Bool} {s : List UInt8} : FnG Tryz.prog 155 [S s, Pt b 0] G [.blk b (.cells (bools p).toArray tAs (0, 0))] (fun v L' => v = S (trimL p s) ∧ L' = [.blk b (.cells (bools p).toArray tAs (0, 0))]) := by
 refine jH [(0, _), (1, _)] Tryz.func155 Tryz.ntmps155 fun B hB hW => ?_
 repeat' (refine jR ?_)
 refine k_loop (ι := List UInt8) (fun t => trimL p t = trimL p s) (fun t => [(0, S t), (1, Pt b 0)]) (fun _ => G) (fun t => [.blk b (.cells (bools p).toArray tAs (0, 0))]) (fun t => t.length) s ?_ (by repeat' constructor) rfl sRr (fun t Ht => ?_)
 ·rfl
 match t, Ht with
 | [], Ht =>
  repeat' (first | (refine jR ?_) | (refine k_ff rfl rfl ?_))
  refine k_rr (vs := [_]) rfl ⟨rfl, trivial⟩ rfl (List.Sublist.refl _) ⟨rfl, by rw [← Ht]; rfl, rfl⟩
 | c :: r, Ht =>
  have hlt : bt (c :: r) (Int.toNat 0) < 256 := bt_lt _ _
  have e0 : bt (c :: r) (Int.toNat 0) = c.toNat := bt_zero c r
  have hcons : (c :: r).length = r.length + 1 := rfl
  rw [trimL] at Ht
  by_cases hp : p (bt (c :: r) (Int.toNat 0)) = true
  ·have hp2 : (!p (bt (c :: r) (Int.toNat 0))) = false := by rw [hp]; rfl
   repeat' (first | refine jM ?_ | (refine k_op rfl ?_; (refine c_m1g rfl rfl rfl (c_asContains (by (repeat (assumption)); done)) rfl ?_; rintro _ _ ⟨rfl, rfl⟩; dsimp only [zA, fA])) | (refine k_tt rfl (dTt (by omega)) ?_) | (refine k_ff rfl ‹_› ?_))
   refine k_rd r (by rw [← Ht, ← e0, if_pos hp]) (by omega) (by repeat' constructor) rfl sRr
  ·have hp2 : (!p (bt (c :: r) (Int.toNat 0))) = true := by simpa using hp
   repeat' (first | refine jM ?_ | (refine k_op rfl ?_; (refine c_m1g rfl rfl rfl (c_asContains (by (repeat (assumption)); done)) rfl ?_; rintro _ _ ⟨rfl, rfl⟩; dsimp only [zA, fA])) | (refine k_tt rfl (by first | assumption | (refine decide_eq_true ?_; (omega))) ?_))
   refine k_rr (vs := [_]) rfl ⟨rfl, trivial⟩ rfl (List.Sublist.refl _) ⟨rfl, by rw [← Ht, ← e0, if_neg hp]; rfl, rfl⟩
theorem trimL_len (p : Nat → Bool) : ∀ s : List UInt8, (trimL p s).length ≤ s.length
 | [] => Nat.le_refl _
 | c :: r => by
  unfold trimL
  split
  ·have := trimL_len p r; simp; omega
  ·exact Nat.le_refl _
theorem trimR_len (p : Nat → Bool) (s : List UInt8) : (trimR p s).length ≤ s.length := by have := trimL_len p s.reverse; simpa [trimR] using this
theorem trimR_snoc (p : Nat → Bool) (s : List UInt8) (c : UInt8) : trimR p (s ++ [c]) = if p c.toNat = true then trimR p s else s ++ [c] := by
 unfold trimR
 rw [List.reverse_append]
 simp only [List.reverse_cons, List.reverse_nil, List.nil_append, List.singleton_append, trimL]
 split <;> simp
theorem c_trimRightASCII {b : Nat} {p : Nat → Bool} {s : List UInt8} (hs : s.length ≤ 1000000000) : FnG Tryz.prog 178 [S s, Pt b 0] G [.blk b (.cells (bools p).toArray tAs (0, 0))] (fun v L' => v = S (trimR p s) ∧ L' = [.blk b (.cells (bools p).toArray tAs (0, 0))]) := by
 refine jH [(0, _), (1, _)] Tryz.func178 Tryz.ntmps178 fun B hB hW => ?_
 repeat' (refine jR ?_)
 refine k_loop (ι := List UInt8) (fun t => t.length ≤ 1000000000 ∧ trimR p t = trimR p s) (fun t => [(0, S t), (1, Pt b 0)]) (fun _ => G) (fun t => [.blk b (.cells (bools p).toArray tAs (0, 0))]) (fun t => t.length) s ?_ (by repeat' constructor) rfl sRr (fun t Ht => ?_)
 ·exact ⟨hs, rfl⟩
 have hcase : t = [] ∨ ∃ r c, t = r ++ [c] := by
  rcases List.eq_nil_or_concat t with h | ⟨r, c, h⟩
  ·exact .inl h
  ·exact .inr ⟨r, c, by rw [h, List.concat_eq_append]⟩
 rcases hcase with rfl | ⟨r, c, rfl⟩
 ·repeat' (first | (refine jR ?_) | (refine k_ff rfl rfl ?_))
  refine k_rr (vs := [_]) rfl ⟨rfl, trivial⟩ rfl (List.Sublist.refl _) ⟨rfl, by rw [← Ht.2]; rfl, rfl⟩
 ·have hcons : (r ++ [c]).length = r.length + 1 := by simp
  have e1 : (((r ++ [c]).length : Nat) : Int) - 1 = (r.length : Nat) := by omega
  have e2 : ((((r ++ [c]).length : Nat) : Int) - 1).toNat = r.length := by omega
  have e0 : bt (r ++ [c]) ((((r ++ [c]).length : Nat) : Int) - 1).toNat = c.toNat := by rw [e2]; simp [bt, List.getD]
  have hlt : bt (r ++ [c]) ((((r ++ [c]).length : Nat) : Int) - 1).toNat < 256 := bt_lt _ _
  have e3 : (r ++ [c]).take ((((r ++ [c]).length : Nat) : Int) - 1).toNat = r := by rw [e2]; simp
  have Ht2 := Ht.2
  rw [trimR_snoc] at Ht2
  have hne : r ++ [c] ≠ [] := by simp
  by_cases hp : p (bt (r ++ [c]) ((((r ++ [c]).length : Nat) : Int) - 1).toNat) = true
  ·have hp2 : (!p (bt (r ++ [c]) ((((r ++ [c]).length : Nat) : Int) - 1).toNat)) = false := by rw [hp]; rfl
   repeat' (first | refine jM ?_ | (refine k_op rfl ?_; (refine c_m1g rfl rfl rfl (c_asContains (by (repeat (assumption)); done)) rfl ?_; rintro _ _ ⟨rfl, rfl⟩; dsimp only [zA, fA])) | (refine k_tt rfl (dTt (by omega)) ?_) | (refine k_ff rfl ‹_› ?_))
   refine k_rd r ⟨by omega, by rw [← Ht2, ← e0, if_pos hp]⟩ (by omega) ?_ rfl sRr
   rw [e3]; repeat (first | exact trivial | refine ⟨rfl, ?_⟩)
  ·have hp2 : (!p (bt (r ++ [c]) ((((r ++ [c]).length : Nat) : Int) - 1).toNat)) = true := by simpa using hp
   repeat' (first | refine jM ?_ | (refine k_op rfl ?_; (refine c_m1g rfl rfl rfl (c_asContains (by (repeat (assumption)); done)) rfl ?_; rintro _ _ ⟨rfl, rfl⟩; dsimp only [zA, fA])) | (refine k_tt rfl (by first | assumption | (refine decide_eq_true ?_; (omega))) ?_))
   refine k_rr (vs := [_]) rfl ⟨rfl, trivial⟩ rfl (List.Sublist.refl _) ⟨rfl, by rw [← Ht2, ← e0, if_neg hp]; rfl, rfl⟩
theorem inS_snoc (cs : List UInt8) (i : Nat) (h : i < cs.length) : (fun x => inS (cs.take i) x || x == bt cs i) = inS (cs.take (i + 1)) := by
 funext x
 have e : bt cs i = (cs[i]).toNat := by simp [bt, List.getD, List.getElem?_eq_getElem h]
 have e2 : (x == (cs[i]).toNat) = ((cs[i]).toNat == x) := by rw [Bool.eq_iff_iff, beq_iff_eq, beq_iff_eq]; exact eq_comm
 rw [List.take_succ_eq_append_getElem h, e, e2]
 simp only [inS, List.any_append, List.any_cons, List.any_nil, Bool.or_false]
theorem all_bt {cs : List UInt8} (h : cs.all (fun c => decide (c.toNat < 128)) = true) : ∀ i, i < cs.length → bt cs i < 128 := fun i hi => by
 have e : bt cs i = (cs[i]).toNat := by simp [bt, List.getD, List.getElem?_eq_getElem hi]
 rw [List.all_eq_true] at h
 rw [e]
 simpa using h cs[i] (List.getElem_mem hi)
theorem c_makeASCIISet {cs : List UInt8} (hc : ∀ i, i < cs.length → bt cs i < 128) (hl : cs.length ≤ 1000) : PuG Tryz.prog 154 [S cs] G (· = Tu [Ag (bools (inS cs)), Bo true]) := by
 refine jE [(0, _)] Tryz.func154 Tryz.ntmps154 fun B hB => ?_
 repeat' (first | (refine jR ?_) | (refine k_op rfl ?_; (refine c_alBs rfl rfl fun _ => ?_)))
 rename_i x
 refine k_loop (ι := Nat) (fun i => i ≤ cs.length) (fun i => [(0, S cs), (2, Pt x 0), (4, I i)]) (fun _ => G) (fun i => [.blk x (.cells (bools (inS (cs.take i))).toArray tAs (0, 0))]) (fun i => cs.length - i) 0 ?_ (by repeat' constructor) rfl sRr (fun i Hi => ?_)
 ·exact Nat.zero_le _
 by_cases hi : i < cs.length
 ·have h1 : bt cs ((i : Int).toNat) < 128 := hc i hi
  have h2 : bt cs ((i : Int).toNat) < 256 := by omega
  repeat' (first | refine jM ?_ | (refine k_op rfl ?_; first | refine c_stBo rfl rfl rfl rfl (by assumption) ?_ | (refine jV (g_iaddrA rfl rfl (by omega)) ?_)) | (refine k_tt rfl (dTt (by omega)) ?_) | (refine k_ff rfl (dFf (by omega)) ?_))
  refine k_rd (i + 1) (by omega) (by omega) (by repeat' constructor) rfl (by rw [← inS_snoc cs i hi]; repeat (exact List.Sublist.refl _))
 ·have ei : i = cs.length := by omega
  subst ei
  repeat' (first | (refine jR ?_) | (refine k_op rfl ?_; first | refine jV (g_ldBs rfl rfl rfl rfl) ?_ | refine c_stBs rfl rfl rfl rfl ?_) | (refine k_ff rfl (dFf (by omega)) ?_))
  refine jZ (vs := [_, _]) rfl ⟨rc_Bs rfl rfl rfl rfl, rfl, trivial⟩ rfl ⟨rfl, rfl, ?_⟩
  rw [List.take_length]; rfl
theorem c_Trim {s cs : List UInt8} (h2 : Nat.ble 2 cs.length = true) (hc : cs.all (fun c => decide (c.toNat < 128)) = true) (hl : Nat.ble cs.length 1000 = true) (hs : s.length ≤ 2000000) : PuG Tryz.prog 159 [S s, S cs] G (· = S (trimL (inS cs) (trimR (inS cs) s))) := by
 have h2 := Nat.le_of_ble_eq_true h2
 have hl := Nat.le_of_ble_eq_true hl
 have cx_mkas := c_makeASCIISet (G := G) (all_bt hc) hl
 by_cases h0 : s = []
 ·subst h0
  refine jE [(0, _), (1, _)] Tryz.func159 Tryz.ntmps159 fun B hB => ?_
  repeat' (first | (refine jR ?_) | (refine k_op rfl ?_; (refine jV (g_pickT rfl rfl rfl) ?_)) | (refine k_gt rfl rfl rfl ?_) | (refine k_tt rfl rfl ?_))
  all_goals refine jZ (vs := [_]) rfl ⟨rfl, trivial⟩ rfl ⟨rfl, rfl, ?_⟩
  all_goals rfl
 have hn : ¬ cs = [] := by rintro rfl; simp at h2
 have hr := trimR_len (inS cs) s
 refine jE [(0, _), (1, _)] Tryz.func159 Tryz.ntmps159 fun B hB => ?_
 repeat' (first | (refine jR ?_) | (refine k_op rfl ?_; first | (refine jV (g_pickF rfl rfl rfl) ?_) | refine c_alBs rfl rfl fun _ => ?_ | refine c_stBs rfl rfl rfl rfl ?_ | (refine c_rt rfl rfl rfl cx_mkas rfl ?_) | (refine c_m1g rfl rfl rfl (c_trimRightASCII (by omega)) rfl ?_; rintro _ _ ⟨rfl, rfl⟩; dsimp only [zA, fA]) | (refine c_m1g rfl rfl rfl c_trimLeftASCII rfl ?_; rintro _ _ ⟨rfl, rfl⟩; dsimp only [zA, fA])) | (refine k_gf rfl rfl (by refine decide_eq_false ?_; first | assumption | omega) ?_) | (refine k_tt rfl rfl ?_) | (refine k_ff rfl (by first | rfl | (refine decide_eq_false ?_; (assumption))) ?_))
 all_goals refine jZ (vs := [_]) rfl ⟨rfl, trivial⟩ rfl ⟨rfl, rfl, ?_⟩
 all_goals rfl
theorem c_TrimLeft {s cs : List UInt8} (h2 : Nat.ble 2 cs.length = true) (hc : cs.all (fun c => decide (c.toNat < 128)) = true) (hl : Nat.ble cs.length 1000 = true) : PuG Tryz.prog 112 [S s, S cs] G (· = S (trimL (inS cs) s)) := by
 have h2 := Nat.le_of_ble_eq_true h2
 have hl := Nat.le_of_ble_eq_true hl
 have cx_mkas := c_makeASCIISet (G := G) (all_bt hc) hl
 by_cases h0 : s = []
 ·subst h0
  refine jE [(0, _), (1, _)] Tryz.func112 Tryz.ntmps112 fun B hB => ?_
  repeat' (first | (refine jR ?_) | (refine k_op rfl ?_; (refine jV (g_pickT rfl rfl rfl) ?_)) | (refine k_gt rfl rfl rfl ?_) | (refine k_tt rfl rfl ?_))
  all_goals refine jZ (vs := [_]) rfl ⟨rfl, trivial⟩ rfl ⟨rfl, rfl, ?_⟩
  all_goals rfl
 have hn : ¬ cs = [] := by rintro rfl; simp at h2
 refine jE [(0, _), (1, _)] Tryz.func112 Tryz.ntmps112 fun B hB => ?_
 repeat' (first | (refine jR ?_) | (refine k_op rfl ?_; first | (refine jV (g_pickF rfl rfl rfl) ?_) | refine c_alBs rfl rfl fun _ => ?_ | refine c_stBs rfl rfl rfl rfl ?_ | (refine c_rt rfl rfl rfl cx_mkas rfl ?_) | (refine c_m1g rfl rfl rfl c_trimLeftASCII rfl ?_; rintro _ _ ⟨rfl, rfl⟩; dsimp only [zA, fA])) | (refine k_gf rfl rfl (by refine decide_eq_false ?_; first | assumption | omega) ?_) | (refine k_tt rfl rfl ?_) | (refine k_ff rfl (by first | rfl | (refine decide_eq_false ?_; (assumption))) ?_))
 all_goals refine jZ (vs := [_]) rfl ⟨rfl, trivial⟩ rfl ⟨rfl, rfl, ?_⟩
 all_goals rfl
theorem trimL_nil {p : Nat → Bool} : ∀ {s : List UInt8}, trimL p s = [] ↔ ∀ c ∈ s, p c.toNat = true
 | [] => by simp [trimL]
 | c :: r => by
  unfold trimL
  by_cases h : p c.toNat = true
  ·rw [if_pos h, trimL_nil]; simp [h]
  ·rw [if_neg h]; simp [h]
theorem trimR_mem {p : Nat → Bool} {s : List UInt8} : (∀ c ∈ trimR p s, p c.toNat = true) ↔ ∀ c ∈ s, p c.toNat = true := by
 have key : ∀ l : List UInt8, (∀ c ∈ trimL p l, p c.toNat = true) ↔ ∀ c ∈ l, p c.toNat = true := by
  intro l
  induction l with
  | nil => simp [trimL]
  | cons c r ih =>
   unfold trimL
   by_cases h : p c.toNat = true
   ·rw [if_pos h, ih]; simp [h]
   ·rw [if_neg h]
 unfold trimR
 have := key s.reverse
 simpa using this
theorem trim_nil {p : Nat → Bool} {s : List UInt8} : trimL p (trimR p s) = [] ↔ ∀ c ∈ s, p c.toNat = true := by rw [trimL_nil, trimR_mem]
def azS : List UInt8 := [97, 98, 99, 100, 101, 102, 103, 104, 105, 106, 107, 108, 109, 110, 111, 112, 113, 114, 115, 116, 117, 118, 119, 120, 121, 122]
def txS : List UInt8 := azS ++ [48, 49, 50, 51, 52, 53, 54, 55, 56, 57, 32]
theorem az_in (c : UInt8) : inS azS c.toNat = isLow c := by
 have : ∀ n : Nat, n < 256 → inS azS n = decide (97 ≤ n ∧ n ≤ 122) := by decide +kernel
 rw [this _ c.toNat_lt]; rfl
theorem tx_in (c : UInt8) : inS txS c.toNat = decide (txN c.toNat) := by
 have : ∀ n : Nat, n < 256 → inS txS n = decide (txN n) := by decide +kernel
 exact this _ c.toNat_lt
theorem az_trim (s : List UInt8) : trimL (inS azS) (trimR (inS azS) s) = [] ↔ s.all isLow = true := by
 rw [trim_nil, List.all_eq_true]
 exact forall_congr' fun c => forall_congr' fun _ => by rw [az_in]
theorem c_isName {s : List UInt8} (h : s.length ≤ 2000000) : PuG Tryz.prog 115 [S s] G (· = Bo (isNm s)) := by
 have cx_trim := c_Trim (G := G) (s := s) (cs := azS) rfl (by kernel_rfl) rfl h
 by_cases hl : 1 ≤ s.length ∧ s.length ≤ 3
 ·refine jE [(0, _)] Tryz.func115 Tryz.ntmps115 fun B hB => ?_
  repeat' (first | (refine jR ?_) | (refine k_op rfl ?_; first | (refine jV (g_pickF rfl rfl rfl) ?_) | (refine c_rt rfl rfl rfl cx_trim rfl ?_)) | (refine k_gf rfl rfl (dFf (by omega)) ?_) | (refine k_ff rfl (dFf (by omega)) ?_))
  all_goals refine jZ (vs := [_]) rfl ⟨rfl, trivial⟩ rfl ⟨rfl, rfl, ?_⟩
  have := az_trim s
  unfold isNm
  rw [decide_eq_true hl, Bool.and_true]
  refine congrArg Bo ?_
  rw [Bool.eq_iff_iff]
  simpa using this
 ·have e : isNm s = false := by unfold isNm; rw [decide_eq_false hl, Bool.and_false]
  rw [e]
  refine jE [(0, _)] Tryz.func115 Tryz.ntmps115 fun B hB => ?_
  repeat' (first | (refine jR ?_) | (refine k_op rfl ?_; first | (refine jV (g_pickT rfl rfl rfl) ?_) | (refine jV (g_pickF rfl rfl rfl) ?_)) | refine k_g rfl rfl (fun _ => ?_) (fun _ => ?_) | (refine k_tt rfl (by first | rfl | (refine decide_eq_true ?_; (omega))) ?_))
  all_goals refine jZ (vs := [_]) rfl ⟨rfl, trivial⟩ rfl ⟨rfl, rfl, ?_⟩
  all_goals rfl
theorem core_trimL (s : List UInt8) : core s = trimL (inS [91, 63]) s := by
 induction s with
 | nil => rfl
 | cons c r ih =>
  have e : inS [91, 63] c.toNat = decide (c.toNat = 91 ∨ c.toNat = 63) := by
   have : ∀ n : Nat, n < 256 → inS [91, 63] n = decide (n = 91 ∨ n = 63) := by decide +kernel
   exact this _ c.toNat_lt
  unfold core trimL
  rw [e]
  by_cases h : c.toNat = 91 ∨ c.toNat = 63
  ·simp only [h, if_true, decide_true]; exact ih
  ·simp [h]
theorem kOk_core : ∀ {s : List UInt8}, kOk (core s) = kOk s
 | [] => rfl
 | c :: r => by
  unfold core
  split
  ·rename_i h; rw [kOk_core]; conv => { rhs; unfold kOk }; rw [if_pos h]
  ·rfl
def kdF (s : List UInt8) : List Value := [S (sg s), S (bs s), S (nm s)]
def KdPost (s : List UInt8) (v : Value) : Prop := ∃ a b c, v = Tu [Ag [S a, S b, S c], Bo (kindOk s)] ∧ (kindOk s = true → a = sg s ∧ b = bs s ∧ c = nm s)
theorem c_HasSuffixL {s p : List UInt8} (hp : p.length ≤ 1000000000) (hs : s.length ≤ 1000000000) : PuG Tryz.prog 158 [S s, S p] G (· = Bo (decide (p.length ≤ s.length ∧ s.drop (s.length - p.length) = p))) := by
 by_cases h : p.length ≤ s.length
 ·have e : (((s.length : Nat) : Int) - ((p.length : Nat) : Int)).toNat = s.length - p.length := by omega
  refine jE [(0, _), (1, _)] Tryz.func158 Tryz.ntmps158 fun B hB => ?_
  repeat' (first | refine jM ?_ | (refine k_op rfl ?_; (refine jV (g_pickT rfl rfl rfl) ?_)) | (refine k_gt rfl rfl (dTt (by omega)) ?_))
  all_goals refine jZ (vs := [_]) rfl ⟨rfl, trivial⟩ rfl ⟨rfl, rfl, ?_⟩
  all_goals (rw [e]; simp [h]; try rfl)
 ·refine jE [(0, _), (1, _)] Tryz.func158 Tryz.ntmps158 fun B hB => ?_
  repeat' (first | (refine jR ?_) | (refine k_op rfl ?_; (refine jV (g_pickF rfl rfl rfl) ?_)) | (refine k_gf rfl rfl (dFf (by omega)) ?_))
  all_goals refine jZ (vs := [_]) rfl ⟨rfl, trivial⟩ rfl ⟨rfl, rfl, ?_⟩
  all_goals (simp [h]; try rfl)
theorem c_HasSuffix {s p : List UInt8} (hp : p.length ≤ 1000000000) (hs : s.length ≤ 1000000000) : PuG Tryz.prog 114 [S s, S p] G (· = Bo (decide (p.length ≤ s.length ∧ s.drop (s.length - p.length) = p))) := by
 refine jE [(0, _), (1, _)] Tryz.func114 Tryz.ntmps114 fun B hB => ?_
 repeat' (first | (refine jR ?_) | (refine k_op rfl ?_; (refine c_rt rfl rfl rfl (c_HasSuffixL (by omega) (by omega)) rfl ?_)))
 all_goals refine jZ (vs := [_]) rfl ⟨rfl, trivial⟩ rfl ⟨rfl, rfl, ?_⟩
 all_goals rfl
theorem suf_bt {c : UInt8} {r : List UInt8} : (1 ≤ (c :: r).length ∧ (c :: r).drop ((c :: r).length - 1) = [59]) ↔ bt (c :: r) r.length = 59 := by
 have hl : (c :: r).length - 1 = r.length := by simp
 rw [hl]
 have hlt : r.length < (c :: r).length := by simp
 obtain ⟨d, h1, h2⟩ := drop_bt hlt
 rw [h1, h2]
 have h3 : (c :: r).drop (r.length + 1) = [] := by simp
 rw [h3]
 constructor
 ·rintro ⟨_, h⟩; simp only [List.cons.injEq, and_true] at h; rw [h]; rfl
 ·intro h; exact ⟨by simp, by rw [show d = 59 from UInt8.toNat_inj.1 h]⟩
theorem core_head : ∀ {s : List UInt8} {c : UInt8} {r : List UInt8}, core s = c :: r → ¬ (c.toNat = 91 ∨ c.toNat = 63)
 | [], c, r, h => by simp [core] at h
 | d :: s, c, r, h => by
  unfold core at h
  split at h
  ·exact core_head h
  ·rename_i hd
   simp only [List.cons.injEq] at h
   rw [← h.1]; exact hd
theorem c_readKindT {s t : List UInt8} (h : s.length ≤ 12) (ht : core s = t) : PuG Tryz.prog 66 [S s] G (KdPost s) := by
 have cx_triml : PuG Tryz.prog 112 [S s, S [91, 63]] G (· = S t) := by
  rw [← ht, core_trimL]
  exact c_TrimLeft rfl (by kernel_rfl) rfl
 have hcl := core_len s
 rw [ht] at hcl
 have ek : kindOk s = kOk t := by unfold kindOk; rw [decide_eq_true h, Bool.true_and, ← ht, kOk_core]
 have esg : s.take (((s.length : Nat) : Int) - ((t.length : Nat) : Int)).toNat = sg s := by
  unfold sg; rw [ht]; congr 1; omega
 have ebs : bs s = bsT t := by unfold bs; rw [ht]
 have enm : nm s = (refN t).getD [] := by unfold nm; rw [ht]
 have hns : ∀ c r, t = c :: r → ¬ (c.toNat = 91 ∨ c.toNat = 63) := fun c r e => core_head (ht.trans e)
 clear ht
 match t, hcl, ek, ebs, enm, cx_triml, esg, hns with
 | [], hcl, ek, ebs, enm, cx_triml, esg, hns =>
  have hno : kindOk s = false := by rw [ek]; rfl
  have cx_suf := c_HasSuffix (G := G) (s := []) (p := [59]) (by simp) (by simp)
  refine jE [(0, _)] Tryz.func66 Tryz.ntmps66 fun B hB => ?_
  repeat' (first | refine jM ?_ | (refine k_op rfl ?_; first | refine c_al rfl rfl fun _ => ?_ | refine jV (g_bld rfl rfl) ?_ | refine c_stA rfl rfl rfl rfl rfl rfl ?_ | (refine jV (g_pickF rfl rfl rfl) ?_) | (refine c_rt rfl rfl rfl cx_triml rfl ?_) | (refine c_rt rfl rfl rfl c_HasPrefix rfl ?_)) | (refine k_gf rfl rfl rfl ?_) | (refine k_ff rfl (by first | rfl | (refine decide_eq_false ?_; (omega))) ?_))
  all_goals refine jZ (vs := [_, _]) rfl ⟨rc_A rfl rfl rfl rfl, rfl, trivial⟩ rfl ⟨rfl, rfl, ?_⟩
  all_goals exact ⟨[], [], [], by rw [hno]; rfl, fun h => by rw [hno] at h; cases h⟩
 | c :: r, hcl, ek, ebs, enm, cx_triml, esg, hns =>
  by_cases hA : c :: r = [110] ∨ c :: r = [116] ∨ c :: r = [102]
  ·rcases hA with hA | hA | hA
   all_goals (simp only [List.cons.injEq] at hA; obtain ⟨rfl, rfl⟩ := hA)
   all_goals have hyes : kindOk s = true := by rw [ek]; rfl
   all_goals refine jE [(0, _)] Tryz.func66 Tryz.ntmps66 fun B hB => ?_
   all_goals repeat' (first | refine jM ?_ | (refine k_op rfl ?_; first | refine c_al rfl rfl fun _ => ?_ | refine jV (g_bld rfl rfl) ?_ | refine c_st1 rfl rfl rfl rfl ?_ | refine c_stA rfl rfl rfl rfl rfl rfl ?_ | (refine jV (g_pickT rfl rfl rfl) ?_) | (refine jV (g_pickF rfl rfl rfl) ?_) | refine jV (g_ldA rfl rfl rfl rfl) ?_ | (refine c_rt rfl rfl rfl cx_triml rfl ?_)) | (refine k_gt rfl rfl rfl ?_) | (refine k_gf rfl rfl rfl ?_) | (refine k_tt rfl rfl ?_) | (refine k_ff rfl (dFf (by omega)) ?_))
   all_goals refine jZ (vs := [_, _]) rfl ⟨rc_A rfl rfl rfl rfl, rfl, trivial⟩ rfl ⟨rfl, rfl, ?_⟩
   all_goals exact ⟨_, _, _, by rw [hyes]; rfl, fun _ => ⟨esg, by rw [ebs]; rfl, by rw [enm]; rfl⟩⟩
  simp only [not_or] at hA
  obtain ⟨hA1, hA2, hA3⟩ := hA
  by_cases hc : c = 64
  case neg =>
   have hc' : ¬ c.toNat = 64 := fun h => hc (UInt8.toNat_inj.1 h)
   have hno : kindOk s = false := by
    rw [ek, kOk, if_neg (hns c r rfl), if_neg hc']
    by_cases hr : r = []
    ·subst hr
     have n1 : ¬ c.toNat = 110 := fun h => hA1 (by rw [show c = 110 from UInt8.toNat_inj.1 h])
     have n2 : ¬ c.toNat = 116 := fun h => hA2 (by rw [show c = 116 from UInt8.toNat_inj.1 h])
     have n3 : ¬ c.toNat = 102 := fun h => hA3 (by rw [show c = 102 from UInt8.toNat_inj.1 h])
     simp [n1, n2, n3]
    ·simp [hr]
   have hp : ([64] : List UInt8).isPrefixOf (c :: r) = false := by simp [List.isPrefixOf]; exact fun h => hc h.symm
   refine jE [(0, _)] Tryz.func66 Tryz.ntmps66 fun B hB => ?_
   repeat' (first | refine jM ?_ | (refine k_op rfl ?_; first | refine c_al rfl rfl fun _ => ?_ | refine jV (g_bld rfl rfl) ?_ | refine c_stA rfl rfl rfl rfl rfl rfl ?_ | (refine jV (g_pickF rfl rfl rfl) ?_) | (refine c_rt rfl rfl rfl cx_triml rfl ?_) | (refine c_rt rfl rfl rfl c_HasPrefix rfl ?_)) | (refine k_gf rfl rfl (by first | assumption | (refine decide_eq_false ?_; (assumption))) ?_) | (refine k_ff rfl (by first | rfl | (refine decide_eq_false ?_; first | assumption | omega)) ?_))
   all_goals refine jZ (vs := [_, _]) rfl ⟨rc_A rfl rfl rfl rfl, rfl, trivial⟩ rfl ⟨rfl, rfl, ?_⟩
   all_goals exact ⟨[], [], [], by rw [hno]; rfl, fun h => by rw [hno] at h; cases h⟩
  subst hc
  have hp : ([64] : List UInt8).isPrefixOf (64 :: r) = true := by simp [List.isPrefixOf]
  have hsuf := c_HasSuffix (G := G) (s := 64 :: r) (p := [59]) (by simp) (by simp at hcl ⊢; omega)
  have ek2 : kindOk s = (decide (bt (64 :: r) r.length = 59) && isNm (r.take (r.length - 1))) := by
   rw [ek, kOk, if_neg (by decide), if_pos (by decide)]
   congr 1
   refine decide_eq_decide.2 ?_
   omega
  have hsb := suf_bt (c := 64) (r := r)
  by_cases hb : bt (64 :: r) r.length = 59
  case neg =>
   have cx_suf : PuG Tryz.prog 114 [S (64 :: r), S [59]] G (· = Bo false) := by
    have e : decide (([59] : List UInt8).length ≤ (64 :: r : List UInt8).length ∧ (64 :: r : List UInt8).drop ((64 :: r : List UInt8).length - ([59] : List UInt8).length) = [59]) = false := decide_eq_false fun h => hb (hsb.1 h)
    rwa [e] at hsuf
   have hno : kindOk s = false := by rw [ek2, decide_eq_false hb, Bool.false_and]
   refine jE [(0, _)] Tryz.func66 Tryz.ntmps66 fun B hB => ?_
   repeat' (first | refine jM ?_ | (refine k_op rfl ?_; first | refine c_al rfl rfl fun _ => ?_ | refine jV (g_bld rfl rfl) ?_ | refine c_stA rfl rfl rfl rfl rfl rfl ?_ | (refine jV (g_pickT rfl rfl rfl) ?_) | (refine jV (g_pickF rfl rfl rfl) ?_) | (refine c_rt rfl rfl rfl cx_triml rfl ?_) | (refine c_rt rfl rfl rfl c_HasPrefix rfl ?_) | (refine c_rt rfl rfl rfl cx_suf rfl ?_)) | (refine k_gt rfl rfl rfl ?_) | (refine k_gf rfl rfl rfl ?_) | (refine k_ff rfl (by first | rfl | (refine decide_eq_false ?_; (omega))) ?_))
   all_goals refine jZ (vs := [_, _]) rfl ⟨rc_A rfl rfl rfl rfl, rfl, trivial⟩ rfl ⟨rfl, rfl, ?_⟩
   all_goals exact ⟨[], [], [], by rw [hno]; rfl, fun h => by rw [hno] at h; cases h⟩
  have cx_suf : PuG Tryz.prog 114 [S (64 :: r), S [59]] G (· = Bo true) := by
   have e : decide (([59] : List UInt8).length ≤ (64 :: r : List UInt8).length ∧ (64 :: r : List UInt8).drop ((64 :: r : List UInt8).length - ([59] : List UInt8).length) = [59]) = true := decide_eq_true (hsb.2 hb)
   rwa [e] at hsuf
  have hr : 1 ≤ r.length := by
   cases r with
   | nil => exact absurd hb (by decide)
   | cons => simp
  have hl2 : (64 :: r : List UInt8).length = r.length + 1 := rfl
  have e1 : ((64 :: r : List UInt8).take ((((64 :: r : List UInt8).length : Nat) : Int) - 1).toNat).drop (Int.toNat 1) = r.take (r.length - 1) := by
   have e2 : ((((64 :: r : List UInt8).length : Nat) : Int) - 1).toNat = (r.length - 1) + 1 := by omega
   rw [e2, List.take_succ_cons]; rfl
  have hyes : kindOk s = isNm (r.take (r.length - 1)) := by rw [ek2, decide_eq_true hb, Bool.true_and]
  have cx_isnm : PuG Tryz.prog 115 [S (((64 :: r : List UInt8).take ((((64 :: r : List UInt8).length : Nat) : Int) - 1).toNat).drop (Int.toNat 1))] G (· = Bo (isNm (r.take (r.length - 1)))) := by
   rw [e1]; exact c_isName (by simp at hcl ⊢; omega)
  refine jE [(0, _)] Tryz.func66 Tryz.ntmps66 fun B hB => ?_
  repeat' (first | refine jM ?_ | (refine k_op rfl ?_; first | refine c_al rfl rfl fun _ => ?_ | refine jV (g_bld rfl rfl) ?_ | refine c_st1 rfl rfl rfl rfl ?_ | refine c_stA rfl rfl rfl rfl rfl rfl ?_ | (refine jV (g_pickT rfl rfl rfl) ?_) | (refine jV (g_pickF rfl rfl rfl) ?_) | (refine c_rt rfl rfl rfl cx_triml rfl ?_) | (refine c_rt rfl rfl rfl c_HasPrefix rfl ?_) | (refine c_rt rfl rfl rfl cx_suf rfl ?_)) | (refine k_gt rfl rfl rfl ?_) | (refine k_gf rfl rfl rfl ?_) | (refine k_tt rfl rfl ?_) | (refine k_ff rfl (by first | rfl | (refine decide_eq_false ?_; (omega))) ?_) | (refine k_any (s_anyD (id := 11) (tt := 2) rfl mixed ?_); refine jU 5 [1] (bts 6 2) ?_ ?_; (focus (repeat' (exact trivial))); (refine jG (bts 6 3) 0 rfl (g_ldA rfl rfl rfl rfl) ?_); (refine jG (bts 6 7) 2 rfl (g_ld rfl rfl rfl) ?_); refine jA 3 rfl ?_; (refine c_rt rfl rfl rfl cx_isnm rfl ?_); refine jK (bts 6 15) ?_; refine jA 4 rfl ?_; (refine c_stA rfl rfl rfl rfl rfl rfl ?_); refine jK (bts 6 31) ?_; refine jU 0 [5] (bts 6 63) ?_ ?_; (focus (repeat' (exact trivial))); refine x_done (by kernel_rfl) (k_bk ?_)))
  all_goals refine jZ (vs := [_, _]) rfl ⟨rc_A rfl rfl rfl rfl, rfl, trivial⟩ rfl ⟨rfl, rfl, ?_⟩
  all_goals exact ⟨_, _, _, by rw [hyes]; rfl, fun _ => ⟨esg, by rw [ebs]; rfl, by rw [enm, e1]; rfl⟩⟩
theorem c_readKind {s : List UInt8} (h : s.length ≤ 2000000) : PuG Tryz.prog 66 [S s] G (KdPost s) := by
 by_cases hl : s.length ≤ 12
 ·exact c_readKindT hl rfl
 have e : kindOk s = false := by unfold kindOk; rw [decide_eq_false hl, Bool.false_and]
 refine jE [(0, _)] Tryz.func66 Tryz.ntmps66 fun B hB => ?_
 repeat' (first | (refine jR ?_) | (refine k_op rfl ?_; first | refine c_al rfl rfl fun _ => ?_ | refine jV (g_bld rfl rfl) ?_ | refine c_stA rfl rfl rfl rfl rfl rfl ?_) | (refine k_tt rfl (dTt (by omega)) ?_))
 all_goals refine jZ (vs := [_, _]) rfl ⟨rc_A rfl rfl rfl rfl, rfl, trivial⟩ rfl ⟨rfl, rfl, ?_⟩
 all_goals exact ⟨[], [], [], by rw [e]; rfl, fun h => by rw [e] at h; cases h⟩
theorem u8_dig {c : UInt8} (h : 48 ≤ c.toNat) : u8 (48 + ((c.toNat : Int) - 48)) = c := by
 apply UInt8.toNat_inj.1
 have h2 := c.toNat_lt
 have := u8_val (a := 48 + ((c.toNat : Int) - 48)) (by omega)
 omega
theorem digF_dec : ∀ {s : List UInt8} {n m : Int}, 1 ≤ n → digF n s = some m → decI m = decI n ++ s ∧ n ≤ m
 | [], n, m, h0, h => by simp only [digF, Option.some.injEq] at h; subst h; simp
 | c :: r, n, m, h0, h => by
  unfold digF at h
  split at h
  ·rename_i hc
   have ih := digF_dec (s := r) (by omega) h
   refine ⟨?_, by omega⟩
   have e1 : (10 * n + ((c.toNat : Int) - 48)) / 10 = n := by omega
   have e2 : (10 * n + ((c.toNat : Int) - 48)) % 10 = (c.toNat : Int) - 48 := by omega
   rw [ih.1, decI_hi (n := 10 * n + ((c.toNat : Int) - 48)) (by omega), e1, e2, u8_dig hc.1]; simp
  ·cases h
theorem decI_head : ∀ (k : Nat) {m : Int}, m.toNat ≤ k → 1 ≤ m → ∃ c r, decI m = c :: r ∧ c.toNat ≠ 48
 | 0, m, h, h1 => by omega
 | k + 1, m, h, h1 => by
  by_cases hm : m < 10
  ·refine ⟨_, [], decI_lo hm (by omega), ?_⟩
   have := u8_val (a := 48 + m) (by omega)
   omega
  ·obtain ⟨c, r, e, hc⟩ := decI_head k (m := m / 10) (by omega) (by omega)
   exact ⟨c, r ++ [u8 (48 + m % 10)], by rw [decI_hi hm, e]; rfl, hc⟩
theorem digF_nn : ∀ {s : List UInt8} {n m : Int}, 0 ≤ n → digF n s = some m → 0 ≤ m
 | [], n, m, h0, h => by simp only [digF, Option.some.injEq] at h; omega
 | c :: r, n, m, h0, h => by
  unfold digF at h
  split at h
  ·exact digF_nn (s := r) (by omega) h
  ·cases h
theorem dec_iff {c : UInt8} {r : List UInt8} {m : Int} (h : digF 0 (c :: r) = some m) : c :: r = decI m ↔ ¬ (c.toNat = 48 ∧ r ≠ []) := by
 have h' := h
 unfold digF at h
 split at h
 ·rename_i hc
  by_cases h0 : c.toNat = 48
  ·have e0 : (10 * 0 + ((c.toNat : Int) - 48)) = 0 := by omega
   rw [e0] at h
   constructor
   ·rintro e ⟨_, hr⟩
    have hm := digF_nn (Int.le_refl 0) h
    rcases Int.lt_or_le m 1 with h1 | h1
    ·have : m = 0 := by omega
     subst this
     rw [decI_lo (by omega) (by omega)] at e
     simp only [List.cons.injEq] at e
     exact hr e.2
    ·obtain ⟨d, t, e2, hd⟩ := decI_head m.toNat (Nat.le_refl _) h1
     rw [e2] at e
     simp only [List.cons.injEq] at e
     exact hd (by rw [← e.1]; exact h0)
   ·intro hn
    have hr : r = [] := by
     by_cases hr : r = []
     ·exact hr
     ·exact absurd ⟨h0, hr⟩ hn
    subst hr
    simp only [digF, Option.some.injEq] at h
    subst h
    rw [decI_lo (by omega) (by omega)]
    congr 1
    apply UInt8.toNat_inj.1
    have := u8_val (a := 48 + 0) (by omega)
    omega
  ·have := digF_dec (by omega) h
   rw [this.1, decI_lo (by omega) (by omega)]
   have e : (10 * 0 + ((c.toNat : Int) - 48)) = (c.toNat : Int) - 48 := by omega
   rw [e, u8_dig hc.1]
   simp [h0]
 ·cases h
theorem c_plainNumberB {s : List UInt8} {top : Int} (h : s.length ≤ 100000000) : PuG Tryz.prog 74 [S s, I top] G (fun v => ∃ n, v = Tu [I n, Bo (numOf s top).isSome] ∧ (∀ m, numOf s top = some m → n = m) ∧ 0 ≤ n ∧ n ≤ 999999) := by
  by_cases hl : 1 ≤ s.length ∧ s.length ≤ 6
  case neg =>
    have hno : numOf s top = none := by
      unfold numOf
      by_cases h6 : s.length ≤ 6
      · have : s = [] := List.length_eq_zero_iff.1 (by omega)
        subst this
        rw [if_pos (by simp)]
        simp [digF, decI_lo]
      · rw [if_neg h6]
    refine jE [(0, _), (1, _)] Tryz.func74 Tryz.ntmps74 fun B hB => ?_
    repeat' (first | (refine jR ?_) | (refine k_op rfl ?_; first | (refine jV (g_pickT rfl rfl rfl) ?_) | (refine jV (g_pickF rfl rfl rfl) ?_)) | (refine k_gt rfl rfl (by first | rfl | (refine decide_eq_true ?_; (omega))) ?_) | refine k_g rfl rfl (fun _ => ?_) (fun _ => ?_) | (refine k_tt rfl rfl ?_))
    all_goals refine jZ (vs := [_, _]) rfl ⟨rfl, rfl, trivial⟩ rfl ⟨rfl, rfl, ?_⟩
    all_goals exact ⟨_, by rw [hno]; rfl, fun m hm => (by rw [hno] at hm; cases hm), by decide, by decide⟩
  by_cases hz : bt s 0 = 48 ∧ 1 < s.length
  · have hz0 : bt s (Int.toNat 0) = 48 := hz.1
    have hno : numOf s top = none := by
      match s, hz, hl with
      | c :: r, hz, hl =>
        unfold numOf
        rw [if_pos hl.2]
        split
        · rename_i n hn
          rw [if_neg]
          rintro ⟨e, _⟩
          rw [bt_zero] at hz
          exact (dec_iff hn).1 e ⟨hz.1, by rintro rfl; simp at hz⟩
        · rfl
    refine jE [(0, _), (1, _)] Tryz.func74 Tryz.ntmps74 fun B hB => ?_
    repeat' (first | refine jM ?_ | (refine k_op rfl ?_; first | (refine jV (g_pickT rfl rfl rfl) ?_) | (refine jV (g_pickF rfl rfl rfl) ?_)) | (refine k_gt rfl rfl (dTt (by omega)) ?_) | (refine k_gf rfl rfl (dFf (by omega)) ?_) | (refine k_tt rfl (dTt (by omega)) ?_))
    all_goals refine jZ (vs := [_, _]) rfl ⟨rfl, rfl, trivial⟩ rfl ⟨rfl, rfl, ?_⟩
    all_goals exact ⟨_, by rw [hno]; rfl, fun m hm => (by rw [hno] at hm; cases hm), by decide, by decide⟩
  have hz0 : ¬ (bt s (Int.toNat 0) = 48 ∧ 1 < s.length) := hz
  have key : numOf s top = match digF 0 s with
      | some n => if n ≤ top then some n else none
      | none => none := by
    match s, hz, hl with
    | c :: r, hz, hl =>
      unfold numOf
      rw [if_pos hl.2]
      cases hd : digF 0 (c :: r) with
      | some n =>
        have hn := hd
        have : c :: r = decI n := (dec_iff hn).2 (by rw [bt_zero] at hz; rintro ⟨h1, h2⟩; exact hz ⟨h1, by have := List.length_pos_iff.2 h2; simp; omega⟩)
        dsimp only
        rw [← this]
        simp
      | none => rfl
  refine jE [(0, _), (1, _)] Tryz.func74 Tryz.ntmps74 fun B hB => ?_
  repeat' (first | refine jM ?_ | (refine k_op rfl ?_; first | (refine jV (g_pickT rfl rfl rfl) ?_) | (refine jV (g_pickF rfl rfl rfl) ?_)) | (refine k_gf rfl rfl (dFf (by omega)) ?_) | refine k_g rfl rfl (fun _ => ?_) (fun _ => ?_) | (refine k_ff rfl (by first | rfl | (refine decide_eq_false ?_; (omega))) ?_))
  all_goals (refine k_loop (ι := Nat × Int) (fun i => (i.1 ≤ s.length ∧ i.1 ≤ 6) ∧ (0 ≤ i.2 ∧ i.2 + 1 ≤ 10 ^ i.1) ∧ digF i.2 (s.drop i.1) = digF 0 s) (fun i => [(0, S s), (1, I top), (6, I i.2), (27, I s.length), (28, I i.1)]) (fun _ => G) (fun i => []) (fun i => s.length - i.1) (0, 0) ?_ (by repeat' constructor) rfl sRr (fun i Hi => ?_))
  all_goals (first | exact ⟨⟨by dsimp only; omega, by dsimp only; omega⟩, ⟨by dsimp only; omega, by dsimp only; decide⟩, rfl⟩ | skip)
  all_goals obtain ⟨i, n⟩ := i
  all_goals dsimp only at Hi ⊢
  all_goals by_cases hi : i < s.length
  all_goals first
    | (obtain ⟨c, hc1, hc2⟩ := drop_bt hi
       have hc3 : bt s ((i : Int).toNat) = c.toNat := hc2
       have hd := Hi.2.2
       rw [hc1, digF] at hd
       have h5 : i ≤ 5 := by omega
       have hp := pow6 i h5
       by_cases hdig : 48 ≤ c.toNat ∧ c.toNat ≤ 57
       · rw [if_pos hdig] at hd
         repeat' (first | refine jM ?_ | (refine k_op rfl ?_; (refine jV (g_pickF rfl rfl rfl) ?_)) | (refine k_gf rfl rfl (dFf (by omega)) ?_) | (refine k_tt rfl (dTt (by omega)) ?_) | (refine k_ff rfl (dFf (by omega)) ?_))
         refine k_rd (i + 1, 10 * n + ((c.toNat : Int) - 48)) ⟨⟨by dsimp only; omega, by dsimp only; omega⟩, ⟨by dsimp only; omega, by dsimp only; rw [hp.1]; omega⟩, hd⟩ (by dsimp only; omega) ?_ rfl sRr
         rw [← hc2]; repeat (first | exact trivial | refine ⟨rfl, ?_⟩)
       · rw [if_neg hdig] at hd
         have hno : numOf s top = none := by rw [key, ← hd]
         repeat' (first | refine jM ?_ | (refine k_op rfl ?_; first | (refine jV (g_pickT rfl rfl rfl) ?_) | (refine jV (g_pickF rfl rfl rfl) ?_)) | refine k_g rfl rfl (fun _ => ?_) (fun _ => ?_) | (refine k_tt rfl (by first | rfl | (refine decide_eq_true ?_; (omega))) ?_))
         all_goals refine jZ (vs := [_, _]) rfl ⟨rfl, rfl, trivial⟩ rfl ⟨rfl, rfl, ?_⟩
         all_goals exact ⟨_, by rw [hno]; rfl, fun m hm => (by rw [hno] at hm; cases hm), by decide, by decide⟩)
    | (have ei : i = s.length := by omega
       have hd := Hi.2.2
       rw [ei, List.drop_length, digF] at hd
       have hno : numOf s top = if n ≤ top then some n else none := by rw [key, ← hd]
       repeat' (first | (refine jR ?_) | (refine k_ff rfl (dFf (by omega)) ?_))
       refine jZ (vs := [_, _]) rfl ⟨rfl, rfl, trivial⟩ rfl ⟨rfl, rfl, ?_⟩
       have hp6 : ∀ i : Nat, i ≤ 6 → (10 : Int) ^ i ≤ 1000000 := by decide
       have hp7 := hp6 i (by omega)
       have hlo := Hi.2.1.1
       have hhi := Hi.2.1.2
       refine ⟨n, ?_, fun m hm => ?_, by omega, by omega⟩
       · rw [hno, oneOf_two]
         by_cases ht : n ≤ top
         · rw [if_pos ht, decide_eq_true ht]; rfl
         · rw [if_neg ht, decide_eq_false ht]; rfl
       · rw [hno] at hm
         split at hm
         · exact Option.some.inj hm
         · cases hm)
theorem c_plainNumber {s : List UInt8} {top : Int} (h : s.length ≤ 100000000) : PuG Tryz.prog 74 [S s, I top] G (fun v => ∃ n, v = Tu [I n, Bo (numOf s top).isSome] ∧ (∀ m, numOf s top = some m → n = m)) := by
 refine (c_plainNumberB (G := G) h).mono ?_
 rintro v G' L' ⟨h1, h2, n, h3, h4, _⟩
 exact ⟨h1, h2, n, h3, h4⟩
theorem c_decimal : ∀ (k : Nat) {n : Int}, n.toNat ≤ k → 0 ≤ n ∧ n ≤ 9223372036854775807 → PuG Tryz.prog 69 [I n] G (· = S (decI n)) := by
 intro k
 induction k with
 | zero =>
  intro n hk hn
  have h1 : n < 10 := by omega
  refine jE [(0, _)] Tryz.func69 Tryz.ntmps69 fun B hB => ?_
  repeat' (first | refine jM ?_ | (refine k_op rfl ?_; first | refine c_bsl rfl rfl rfl rfl rfl rfl fun _ => ?_ | refine jV (g_bsB rfl rfl (by (repeat (first | exact BL.nil | apply BL.cons)); done)) ?_) | (refine k_tt rfl (dTt ‹_›) ?_))
  refine jZ (vs := [_]) rfl ⟨rfl, trivial⟩ rfl ⟨rfl, rfl, ?_⟩
  rw [oneOf_one, decI_lo h1 hn.1]
 | succ k ih =>
  intro n hk hn
  have hl := decI_len (n := n / 10) (by omega)
  have hl2 := decI_len (n := n % 10) (by omega)
  by_cases h1 : n < 10
  ·refine jE [(0, _)] Tryz.func69 Tryz.ntmps69 fun B hB => ?_
   repeat' (first | refine jM ?_ | (refine k_op rfl ?_; first | refine c_bsl rfl rfl rfl rfl rfl rfl fun _ => ?_ | refine jV (g_bsB rfl rfl (by (repeat (first | exact BL.nil | apply BL.cons)); done)) ?_) | (refine k_tt rfl (dTt ‹_›) ?_))
   refine jZ (vs := [_]) rfl ⟨rfl, trivial⟩ rfl ⟨rfl, rfl, ?_⟩
   rw [oneOf_one, decI_lo h1 hn.1]
  ·refine jE [(0, _)] Tryz.func69 Tryz.ntmps69 fun B hB => ?_
   repeat' (first | refine jM ?_ | (refine k_op rfl ?_; (refine c_rt rfl rfl rfl (ih (by omega) ?_) rfl ?_; (focus ((omega); done)))) | (refine k_ff rfl (dFf ‹_›) ?_))
   all_goals refine jZ (vs := [_]) rfl ⟨rfl, trivial⟩ rfl ⟨rfl, rfl, ?_⟩
   all_goals rw [oneOf_one, decI_hi (n := n) h1, decI_lo (n := n % 10) (by omega) (by omega)]
theorem c_decimalN {n : Int} (hn : 0 ≤ n ∧ n ≤ 9223372036854775807) : PuG Tryz.prog 69 [I n] G (· = S (decI n)) := c_decimal n.toNat (Nat.le_refl _) hn
theorem cut_count1 (c : UInt8) : ∀ s acc : List UInt8, (cutA c.toNat acc s).length = s.count c + 1
 | [], acc => by simp [cutA]
 | d :: r, acc => by
  unfold cutA
  by_cases h : d = c
  ·subst h
   rw [if_pos rfl, List.length_cons, cut_count1 d r []]; simp
  ·have h2 : ¬ d.toNat = c.toNat := fun e => h (UInt8.toNat_inj.1 e)
   rw [if_neg h2, cut_count1 c r _, List.count_cons]; simp [h]
theorem c_Count {s : List UInt8} {c : UInt8} : PuG Tryz.prog 163 [S s, S [c]] G (· = I (((cut c.toNat s).length : Int) - 1)) := by
 have hx : ∀ w, (callFunc 181 [S s, U8 (bt [c] (Int.toNat 0))].toArray).run Tryz.prog w = .ok (.value (I (((cut c.toNat s).length : Int) - 1))) w := fun w => by
  rw [show bt [c] (Int.toNat 0) = c.toNat from bt_zero c []]
  rw [run_callFunc_extern Tryz.func181 (by kernel_rfl) (by kernel_rfl) (by kernel_rfl) (e := Extern.BytealgCount.count) (by kernel_rfl)]
  have := Lib.run_countString (P := Tryz.prog) ⟨s.toArray⟩ (c.toNat : Int) w
  rw [this]
  simp only [Result.andThen]
  have e : (cut c.toNat s).length = s.count c + 1 := cut_count1 c s []
  rw [e]
  simp [Lib.countByte]
 refine jE [(0, _), (1, _)] Tryz.func163 Tryz.ntmps163 fun B hB => ?_
 repeat' (first | (refine run (t := tb) 400 rfl ?_ ?_; (focus (repeat' (first | exact trivial | apply And.intro | omega | (simp only [List.length_append, List.length_cons, List.length_nil, Int.toNat_natCast]; omega))))) | (refine k_tt rfl rfl ?_) | (refine k_ff rfl rfl ?_))
 refine k_op rfl (v_op (g_extern rfl rfl rfl hx) rfl rfl ?_)
 repeat' (refine jR ?_)
 refine jZ (vs := [_]) rfl ⟨rfl, trivial⟩ rfl ⟨rfl, rfl, ?_⟩
 rfl
theorem c_genSplit {s : List UInt8} {c : UInt8} (hs : s.length ≤ 100000000) : FnS Tryz.prog 128 [S s, S [c], I 0, I (-1)] G (fun v G' => SlV G' v 1 (cut c.toNat s).length (rows strF (cut c.toNat s))) := by
 have hlen := cut_count (k := c.toNat) (s := s)
 have hpos := cut_pos (k := c.toNat) (s := s)
 have emin : min (((cut c.toNat s).length : Int) - 1 + 1) ((s.length : Int) + 1) = ((cut c.toNat s).length : Nat) := by omega
 refine jB [(0, _), (1, _), (2, _), (3, _)] Tryz.func128 Tryz.ntmps128 fun B hok hB hW => ?_
 repeat' (first | refine jM ?_ | (refine k_op rfl ?_; first | refine jV (g_min rfl rfl) ?_ | (refine c_rt rfl rfl rfl c_Count rfl ?_)) | (refine k_tt rfl rfl ?_) | (refine k_ff rfl rfl ?_))
 rw [emin]
 repeat' (first | refine jM ?_ | (refine k_op rfl ?_; (refine c_mk rfl rfl rfl rfl (by omega) (fun _ => ?_))))
 rename_i x
 refine k_loop (ι := List (List UInt8) × List UInt8) (fun i => i.1.length + i.2.length ≤ s.length ∧ i.1.length < (cut c.toNat s).length ∧ i.1 ++ cut c.toNat i.2 = cut c.toNat s) (fun i => [(0, S i.2), (1, S [c]), (2, I 0), (3, I (((cut c.toNat s).length : Int) - 1)), (9, .slice (some ⟨x, 0, none⟩) (cut c.toNat s).length (cut c.toNat s).length), (10, I (i.1.length : Nat))]) (fun _ => G) (fun i => [.blk x (.cells (rows strF i.1 ++ zerosL [S []] ((cut c.toNat s).length - i.1.length)).toArray tStr (0, 0))]) (fun i => (cut c.toNat s).length - i.1.length) ([], s) ?_ (by repeat' constructor) rfl sRr (fun i Hi => ?_)
 ·exact ⟨by simp, hpos, rfl⟩
 obtain ⟨xs, t⟩ := i
 dsimp only at Hi ⊢
 obtain ⟨hl, hlt, he⟩ := Hi
 have hel := congrArg List.length he
 rw [List.length_append] at hel
 rcases idx1_cases c.toNat t with ⟨h1, h2⟩ | ⟨m, h1, h3, h2⟩
 ·have hc1 : cut c.toNat t = [t] := by rw [cut_cut1, h2]; rfl
  rw [hc1] at he hel
  simp only [List.length_cons, List.length_nil] at hel
  have hm : (cut c.toNat s).length - xs.length = 1 := by omega
  rw [hm]
  repeat' (first | refine jM ?_ | (refine k_op rfl ?_; first | (refine jV (g_iaddrN rfl rfl (by omega)) ?_) | (refine c_stRS rfl rfl rfl (by omega) ?_ ?_; (focus ((omega); done))) | (refine jV (g_slTo rfl rfl (by omega)) ?_)) | (refine k_ff rfl (dFf (by omega)) ?_))
  refine Nx.sealC (b := x) fun G' hle hseg => ?_
  refine jZ (vs := [_]) rfl ⟨rfl, trivial⟩ rfl ⟨hle, rfl, ?_⟩
  have e1 : (((xs.length : Nat) : Int) + 1).toNat = (cut c.toNat s).length := by omega
  have e2 : rows strF (xs ++ [t]) ++ zerosL [S []] (1 - 1) = rows strF (cut c.toNat s) := by rw [he]; simp [zerosL]
  rw [oneOf_one, e1]
  rw [e2] at hseg
  exact ⟨by rw [rows_len], .inr ⟨_, _, _, rfl, Nat.le_refl _, hseg⟩⟩
 ·have hc1 : cut c.toNat t = t.take m :: cut c.toNat (t.drop (m + 1)) := by rw [cut_cut1, h2]; rfl
  rw [hc1] at he hel
  have hp2 := cut_pos (k := c.toNat) (s := t.drop (m + 1))
  simp only [List.length_cons] at hel
  have cx_ix : PuG Tryz.prog 164 [S t, S [c]] G (· = I (m : Int)) := by have := c_Index (G := G) (s := t) (c := c); rwa [h1] at this
  obtain ⟨k, hk⟩ : ∃ k, (cut c.toNat s).length - xs.length = k + 1 := ⟨(cut c.toNat s).length - xs.length - 1, by omega⟩
  have hk2 : (cut c.toNat s).length = xs.length + k + 1 := by omega
  rw [hk]
  generalize (cut c.toNat s).length = N at *
  repeat' (first | (refine run (t := tb) 400 rfl ?_ ?_; (focus (repeat' (first | exact trivial | apply And.intro | omega | (simp only [List.length_append, List.length_cons, List.length_nil, Int.toNat_natCast]; omega))))) | (refine k_op rfl ?_; first | (refine jV (g_iaddrN rfl rfl (by omega)) ?_) | (refine c_stRS rfl rfl rfl (by omega) ?_ ?_; (focus ((omega); done))) | (refine c_rt rfl rfl rfl cx_ix rfl ?_)) | (refine k_tt rfl (dTt (by omega)) ?_) | (refine k_ff rfl rfl ?_))
  have e1 : rows strF (xs ++ [t.take ((m : Int) + 0).toNat]) ++ zerosL [S []] (k + 1 - 1) = rows strF (xs ++ [t.take m]) ++ zerosL [S []] (N - (xs ++ [t.take m]).length) := by
   have e2 : N - (xs ++ [t.take m]).length = k + 1 - 1 := by simp; omega
   rw [e2]
   have e3 : ((m : Int) + 0).toNat = m := by omega
   rw [e3]
  have e4 : ((m : Int) + (([c] : List UInt8).length : Nat)).toNat = m + 1 := by simp only [List.length_cons, List.length_nil]; omega
  have e5 : ((xs.length : Nat) : Int) + 1 = ((xs ++ [t.take m]).length : Nat) := by simp
  rw [e1, e4, e5]
  refine k_rd (xs ++ [t.take m], t.drop (m + 1)) ⟨by simp; omega, by simp; omega, by simpa using he⟩ (by simp; omega) (by repeat' constructor) rfl sRr
theorem c_Split {s : List UInt8} {c : UInt8} (hs : s.length ≤ 100000000) : FnS Tryz.prog 91 [S s, S [c]] G (fun v G' => SlV G' v 1 (cut c.toNat s).length (rows strF (cut c.toNat s))) := by
 have cx_gs := c_genSplit (G := G) (c := c) hs
 refine jB [(0, _), (1, _)] Tryz.func91 Tryz.ntmps91 fun B hok hB hW => ?_
 repeat' (first | (refine jR ?_) | (refine k_op rfl ?_; (refine c_fns rfl rfl rfl cx_gs rfl ?_; rintro _ G hle hspl; skip)))
 all_goals refine jZ (vs := [_]) rfl ⟨rfl, trivial⟩ rfl ⟨hle, rfl, ?_⟩
 all_goals exact hspl
def fiF (f : Fld) : List Value := [I f.tag, S f.name, S (sg f.kind), S (bs f.kind), S (nm f.kind), S f.stand]
instance : RowF fiF 6 := ⟨fun _ => rfl⟩
theorem tx_trim (s : List UInt8) : trimL (inS txS) (trimR (inS txS) s) = [] ↔ ∀ c ∈ s, txN c.toNat := by
 rw [trim_nil]
 exact forall_congr' fun c => forall_congr' fun _ => by rw [tx_in]; simp
def isTI (s : List UInt8) : Bool := decide (s.length ≤ 12) && s.all fun c => decide (txN c.toNat)
theorem c_isText {s : List UInt8} (h : s.length ≤ 2000000) : PuG Tryz.prog 189 [S s] G (· = Bo (isTI s)) := by
 have cx_trim := c_Trim (G := G) (s := s) (cs := txS) rfl (by kernel_rfl) rfl h
 have key := tx_trim s
 have e : isTI s = (decide (s.length ≤ 12) && decide (trimL (inS txS) (trimR (inS txS) s) = [])) := by
  unfold isTI
  congr 1
  rw [Bool.eq_iff_iff, List.all_eq_true, decide_eq_true_eq, key]
  simp
 rw [e]
 by_cases hl : s.length ≤ 12
 ·rw [decide_eq_true hl, Bool.true_and]
  refine jE [(0, _)] Tryz.func189 Tryz.ntmps189 fun B hB => ?_
  repeat' (first | (refine jR ?_) | (refine k_op rfl ?_; first | (refine jV (g_pickT rfl rfl rfl) ?_) | (refine c_rt rfl rfl rfl cx_trim rfl ?_)) | (refine k_gt rfl rfl (dTt (by omega)) ?_))
  all_goals refine jZ (vs := [_]) rfl ⟨rfl, trivial⟩ rfl ⟨rfl, rfl, ?_⟩
  all_goals rfl
 ·rw [decide_eq_false hl, Bool.false_and]
  refine jE [(0, _)] Tryz.func189 Tryz.ntmps189 fun B hB => ?_
  repeat' (first | (refine jR ?_) | (refine k_op rfl ?_; (refine jV (g_pickF rfl rfl rfl) ?_)) | (refine k_gf rfl rfl (dFf (by omega)) ?_))
  all_goals refine jZ (vs := [_]) rfl ⟨rfl, trivial⟩ rfl ⟨rfl, rfl, ?_⟩
  all_goals rfl
theorem isTx_in {s : List UInt8} : (isTx s && decide (s ≠ [39, 39])) = (decide (2 < s.length) && (decide (bt s 0 = 39) && (decide (bt s (s.length - 1) = 39) && isTI ((s.take (s.length - 1)).drop 1)))) := by
 rw [Bool.eq_iff_iff]
 simp only [Bool.and_eq_true, decide_eq_true_eq, isTx, isTI, List.all_eq_true]
 constructor
 ·rintro ⟨⟨h1, h2, h3, h4⟩, h5⟩
  have hl : 2 < s.length := by
   rcases Nat.lt_or_ge 2 s.length with h6 | h6
   ·exact h6
   ·exfalso
    match s, h1, h6, h2, h3 with
    | [a, b], _, _, h2, h3 =>
     rw [bt_zero] at h2
     simp only [List.length_cons, List.length_nil] at h3
     rw [show (0 + 1 + 1 - 1) = 0 + 1 from rfl, bt_succ, bt_zero] at h3
     have e1 : a = 39 := UInt8.toNat_inj.1 h2
     have e2 : b = 39 := UInt8.toNat_inj.1 h3
     subst e1; subst e2; exact h5 rfl
  refine ⟨hl, h2, h3, by simp; omega, fun c hc => ?_⟩
  obtain ⟨i, hi, rfl⟩ := List.mem_iff_getElem.1 hc
  simp only [List.length_drop, List.length_take] at hi
  have e : bt s (i + 1) = (((s.take (s.length - 1)).drop 1)[i]'(by simp; omega)).toNat := by
   simp [bt, List.getD, List.getElem?_eq_getElem (show i + 1 < s.length by omega)]
  rw [← e]
  rcases h4 (i + 1) (by omega) with h6 | h6
  ·omega
  ·exact h6
 ·rintro ⟨hl, h2, h3, h4, h5⟩
  simp only [List.length_drop, List.length_take] at h4
  refine ⟨⟨by omega, h2, h3, fun i hi => ?_⟩, fun e => by subst e; simp at hl⟩
  rcases Nat.eq_zero_or_pos i with h6 | h6
  ·exact .inl h6
  ·refine .inr ?_
   have e : bt s i = (((s.take (s.length - 1)).drop 1)[i - 1]'(by simp; omega)).toNat := by
    have e1 : i - 1 + 1 = i := by omega
    simp [bt, List.getD, List.getElem?_eq_getElem (show i < s.length by omega), e1]
   rw [e]
   exact h5 _ (List.getElem_mem _)
theorem c_standing {b v : List UInt8} (h : v.length ≤ 2000000) : PuG Tryz.prog 173 [S b, S v] G (· = Bo (standOk b v)) := by
 by_cases h1 : b = [110]
 ·have e : standOk b v = ((numOf v 999999).isSome && decide (v ≠ [48])) := by rw [standOk, if_pos h1]
  rw [e]
  rcases hn : numOf v 999999 with _ | m
  ·refine jE [(0, _), (1, _)] Tryz.func173 Tryz.ntmps173 fun B hB => ?_
   repeat' (first | (refine jR ?_) | (refine k_op rfl ?_; first | (refine jV (g_pickF rfl rfl rfl) ?_) | (refine c_pu rfl rfl rfl (c_plainNumber (by omega)) rfl ?_; rintro _ ⟨n, rfl, hnum⟩)) | (refine k_gf rfl rfl ?_ ?_; (focus ((simp [*]; done); done))) | (refine k_tt rfl (dTt ‹_›) ?_))
   all_goals refine jZ (vs := [_]) rfl ⟨rfl, trivial⟩ rfl ⟨rfl, rfl, ?_⟩
   all_goals (simp [*])
  ·have hm := numOf_le hn
   have h0 : 0 ≤ m := by
    unfold numOf at hn
    split at hn
    ·split at hn
     ·rename_i hd
      split at hn
      ·simp only [Option.some.injEq] at hn; subst hn; exact digF_nn (Int.le_refl 0) hd
      ·cases hn
     ·cases hn
    ·cases hn
   have ev : decide (v ≠ [48]) = decide (0 < m) := by
    refine decide_eq_decide.2 ?_
    rw [hm.2.1]
    constructor
    ·intro h2
     rcases Int.lt_or_le 0 m with h3 | h3
     ·exact h3
     ·have : m = 0 := by omega
      subst this
      exact absurd (by rw [decI_lo (by omega) (by omega)]; rfl) h2
    ·intro h2 h3
     obtain ⟨c, r, e2, hc⟩ := decI_head m.toNat (Nat.le_refl _) (by omega)
     rw [e2] at h3
     simp only [List.cons.injEq] at h3
     exact hc (by rw [h3.1]; rfl)
   have cx_pnum : PuG Tryz.prog 74 [S v, I 999999] G (· = Tu [I m, Bo true]) := by
    refine (c_plainNumber (G := G) (top := 999999) (s := v) (by omega)).mono ?_
    rintro w G' L' ⟨h2, h3, n, rfl, h4⟩
    exact ⟨h2, h3, by rw [hn, h4 m hn]; rfl⟩
   rw [ev]
   refine jE [(0, _), (1, _)] Tryz.func173 Tryz.ntmps173 fun B hB => ?_
   repeat' (first | (refine jR ?_) | (refine k_op rfl ?_; first | (refine jV (g_pickT rfl rfl rfl) ?_) | (refine c_rt rfl rfl rfl cx_pnum rfl ?_)) | (refine k_gt rfl rfl rfl ?_) | (refine k_tt rfl (dTt ‹_›) ?_))
   all_goals refine jZ (vs := [_]) rfl ⟨rfl, trivial⟩ rfl ⟨rfl, rfl, ?_⟩
   all_goals (simp [*])
 by_cases h2 : b = [116]
 ·have e : standOk b v = (isTx v && decide (v ≠ [39, 39])) := by rw [standOk, if_neg h1, if_pos h2]
  rw [e, isTx_in]
  have e4 : (((v.length : Nat) : Int) - 1).toNat = v.length - 1 := by omega
  by_cases hl : 2 < v.length
  case neg =>
   rw [decide_eq_false hl, Bool.false_and]
   refine jE [(0, _), (1, _)] Tryz.func173 Tryz.ntmps173 fun B hB => ?_
   repeat' (first | (refine jR ?_) | (refine k_op rfl ?_; (refine jV (g_pickF rfl rfl rfl) ?_)) | (refine k_gf rfl rfl (by first | rfl | (refine decide_eq_false ?_; (omega))) ?_) | (refine k_tt rfl (dTt ‹_›) ?_) | (refine k_ff rfl (dFf ‹_›) ?_))
   all_goals refine jZ (vs := [_]) rfl ⟨rfl, trivial⟩ rfl ⟨rfl, rfl, ?_⟩
   all_goals rfl
  rw [decide_eq_true hl, Bool.true_and]
  by_cases hq : bt v 0 = 39
  case neg =>
   have hq2 : ¬ bt v (Int.toNat 0) = 39 := hq
   rw [decide_eq_false hq, Bool.false_and]
   refine jE [(0, _), (1, _)] Tryz.func173 Tryz.ntmps173 fun B hB => ?_
   repeat' (first | refine jM ?_ | (refine k_op rfl ?_; first | (refine jV (g_pickT rfl rfl rfl) ?_) | (refine jV (g_pickF rfl rfl rfl) ?_)) | (refine k_gt rfl rfl (dTt (by omega)) ?_) | (refine k_gf rfl rfl (by first | rfl | (refine decide_eq_false ?_; (omega))) ?_) | (refine k_tt rfl (dTt ‹_›) ?_) | (refine k_ff rfl (dFf ‹_›) ?_))
   all_goals refine jZ (vs := [_]) rfl ⟨rfl, trivial⟩ rfl ⟨rfl, rfl, ?_⟩
   all_goals rfl
  have hq2 : bt v (Int.toNat 0) = 39 := hq
  rw [decide_eq_true hq, Bool.true_and]
  by_cases hr : bt v (v.length - 1) = 39
  case neg =>
   have hr2 : ¬ bt v (((v.length : Nat) : Int) - 1).toNat = 39 := by rw [e4]; exact hr
   rw [decide_eq_false hr, Bool.false_and]
   refine jE [(0, _), (1, _)] Tryz.func173 Tryz.ntmps173 fun B hB => ?_
   repeat' (first | refine jM ?_ | (refine k_op rfl ?_; first | (refine jV (g_pickT rfl rfl rfl) ?_) | (refine jV (g_pickF rfl rfl rfl) ?_)) | (refine k_gt rfl rfl (dTt (by omega)) ?_) | (refine k_gf rfl rfl (dFf (by omega)) ?_) | (refine k_tt rfl (dTt ‹_›) ?_) | (refine k_ff rfl (dFf ‹_›) ?_))
   all_goals refine jZ (vs := [_]) rfl ⟨rfl, trivial⟩ rfl ⟨rfl, rfl, ?_⟩
   all_goals rfl
  have hr2 : bt v (((v.length : Nat) : Int) - 1).toNat = 39 := by rw [e4]; exact hr
  rw [decide_eq_true hr, Bool.true_and]
  refine jE [(0, _), (1, _)] Tryz.func173 Tryz.ntmps173 fun B hB => ?_
  repeat' (first | refine jM ?_ | (refine k_op rfl ?_; first | (refine jV (g_pickT rfl rfl rfl) ?_) | (refine c_rt rfl rfl rfl (c_isText ?_) rfl ?_; (focus ((simp; omega); done)))) | (refine k_gt rfl rfl (dTt (by omega)) ?_) | (refine k_tt rfl (dTt ‹_›) ?_) | (refine k_ff rfl (dFf ‹_›) ?_))
  all_goals refine jZ (vs := [_]) rfl ⟨rfl, trivial⟩ rfl ⟨rfl, rfl, ?_⟩
  all_goals rw [e4]; rfl
 ·have e : standOk b v = (decide (b = [102]) && decide (v = [121, 101, 115])) := by
   rw [standOk, if_neg h1, if_neg h2]
   by_cases h3 : b = [102]
   ·rw [if_pos h3, decide_eq_true h3, Bool.true_and]
   ·rw [if_neg h3, decide_eq_false h3, Bool.false_and]
  rw [e]
  refine jE [(0, _), (1, _)] Tryz.func173 Tryz.ntmps173 fun B hB => ?_
  repeat' (first | (refine jR ?_) | (refine k_op rfl ?_; first | (refine jV (g_pickT rfl rfl rfl) ?_) | (refine jV (g_pickF rfl rfl rfl) ?_)) | refine k_g rfl rfl (fun _ => ?_) (fun _ => ?_) | (refine k_ff rfl (dFf ‹_›) ?_))
  all_goals refine jZ (vs := [_]) rfl ⟨rfl, trivial⟩ rfl ⟨rfl, rfl, ?_⟩
  all_goals (simp [*])
theorem stand_bs {c v : List UInt8} (h : kindOk c = true) : (decide (sg c = []) && standOk (bs c) v) = standOk c v := by
 match c, h with
 | x :: r, h =>
  by_cases h1 : x.toNat = 91 ∨ x.toNat = 63
  ·have hs : sg (x :: r) ≠ [] := by
    unfold sg
    rw [core, if_pos h1]
    have := core_len r
    intro e
    have e2 := congrArg List.length e
    simp only [List.length_take, List.length_cons, List.length_nil] at e2
    omega
   rw [decide_eq_false hs, Bool.false_and]
   unfold standOk
   rw [if_neg, if_neg, if_neg]
   all_goals (intro e; simp only [List.cons.injEq] at e; have := congrArg UInt8.toNat e.1; revert this; rcases h1 with h1 | h1 <;> rw [h1] <;> decide)
  ·have hc : core (x :: r) = x :: r := by rw [core, if_neg h1]
   have hs : sg (x :: r) = [] := by unfold sg; rw [hc]; simp
   rw [decide_eq_true hs, Bool.true_and]
   by_cases h2 : x.toNat = 64
   ·have hb : bs (x :: r) = [64] := by unfold bs; rw [hc]; simp [bsT, h2]
    rw [hb]
    have e1 : standOk [64] v = false := by unfold standOk; simp
    rw [e1]
    unfold standOk
    rw [if_neg, if_neg, if_neg]
    all_goals (intro e; simp only [List.cons.injEq] at e; have := congrArg UInt8.toNat e.1; revert this; rw [h2]; decide)
   ·have hb : bs (x :: r) = x :: r := by unfold bs; rw [hc]; simp [bsT, h2]
    rw [hb]
end Go.E
namespace Go.E
set_option maxRecDepth 20000
set_option maxHeartbeats 2000000
open Go.Proofs
variable {G : Gh}
def FiPost (s : List UInt8) (k : Nat) (v : Value) (_ : Gh) : Prop := ∃ f ok, v = Tu [Ag (fiF f), Bo ok] ∧ fldOf s k = if ok = true then some f else none
theorem c_splitX {s : List UInt8} {xs : List (List UInt8)} {k : Nat} {c : UInt8} (n : Nat) (h : s.length ≤ 100000000) (hc : c.toNat = k) (e : cut k s = xs) (hn : xs.length = n) (h0 : 0 < n) :
  FnS Tryz.prog 91 [S s, S [c]] G (fun v G' => ∃ b o cap, v = .slice (some ⟨b, o, none⟩) n cap ∧ Seg G' b o (rows strF xs)) := by
 subst hn; subst e; subst hc
 refine (c_Split (G := G) (s := s) (c := c) h).mono ?_
 rintro v G' L' ⟨h1, h2, h3⟩
 obtain ⟨b, o, cap, rfl, hs⟩ := h3.expl h0
 exact ⟨h1, h2, b, o, cap, rfl, hs⟩
theorem c_kindX {s : List UInt8} (h : s.length ≤ 2000000) (e : kindOk s = true) : PuG Tryz.prog 66 [S s] G (· = Tu [Ag (kdF s), Bo true]) := by
 refine (c_readKind (G := G) h).mono ?_
 rintro v G' L' ⟨h1, h2, a, b, c, rfl, h3⟩
 obtain ⟨rfl, rfl, rfl⟩ := h3 e
 exact ⟨h1, h2, by rw [e]; rfl⟩
theorem c_pnumX {s : List UInt8} {top m : Int} (h : s.length ≤ 100000000) (e : numOf s top = some m) : PuG Tryz.prog 74 [S s, I top] G (· = Tu [I m, Bo true]) := by
 refine (c_plainNumber (G := G) (top := top) h).mono ?_
 rintro v G' L' ⟨h1, h2, n, rfl, h3⟩
 exact ⟨h1, h2, by rw [e, h3 m e]; rfl⟩
theorem c_pnumN {s : List UInt8} {top : Int} (h : s.length ≤ 100000000) (e : numOf s top = none) : PuG Tryz.prog 74 [S s, I top] G (fun v => ∃ n, v = Tu [I n, Bo false]) := by
 refine (c_plainNumber (G := G) (top := top) h).mono ?_
 rintro v G' L' ⟨h1, h2, n, rfl, h3⟩
 exact ⟨h1, h2, n, by rw [e]; rfl⟩
theorem c_readField0 {s : List UInt8} {k : Nat} (h : s.length ≤ 1000) (e : (cut 58 (cut1 61 s).1).length ≠ if k = 69 then 2 else 3) : FnS Tryz.prog 152 [S s, U8 k] G (FiPost s k) := by
 have hcl := cut1_len (k := 61) (s := s)
 have cx_cut : PuG Tryz.prog 109 [S s, S [61]] G (· = Tu [S (cut1 61 s).1, S (cut1 61 s).2.1, Bo (cut1 61 s).2.2]) := c_Cut (c := 61) (by omega)
 have cx_split := c_splitX (G := G) (c := 58) (k := 58) _ (s := (cut1 61 s).1) (by omega) rfl rfl rfl cut_pos
 have hno : fldOf s k = none := by
  rw [← fldI_eq]
  unfold fldI
  split
  ·rename_i e2
   rw [e2] at e
   split
   ·rename_i hk; simp [hk.1] at e
   ·rfl
  ·rename_i e2
   rw [e2] at e
   split
   ·rfl
   ·rename_i hk; simp [hk] at e
  ·rfl
 have hpos := cut_pos (k := 58) (s := (cut1 61 s).1)
 generalize hn : (cut 58 (cut1 61 s).1).length = n at *
 by_cases hk : k = 69
 ·rw [if_pos hk] at e
  refine jB [(0, _), (1, _)] Tryz.func152 Tryz.ntmps152 fun B hok hB hW => ?_
  repeat' (first | (refine jR ?_) | (refine k_op rfl ?_; first | refine c_al rfl rfl fun _ => ?_ | refine jV (g_lenL rfl) ?_ | refine jV (g_bld rfl rfl) ?_ | refine c_stA rfl rfl rfl rfl rfl rfl ?_ | (refine c_rt rfl rfl rfl cx_cut rfl ?_) | (refine c_fns rfl rfl rfl cx_split rfl ?_; rintro _ G hle ⟨b1, o1, cap1, rfl, hseg⟩; skip)) | (refine k_tt rfl (dTt (by omega)) ?_))
  all_goals refine jZ (vs := [_, _]) rfl ⟨rc_A rfl rfl rfl rfl, rfl, trivial⟩ rfl ⟨hle, rfl, ?_⟩
  all_goals exact ⟨default, false, rfl, by rw [hno]; rfl⟩
 ·rw [if_neg hk] at e
  refine jB [(0, _), (1, _)] Tryz.func152 Tryz.ntmps152 fun B hok hB hW => ?_
  repeat' (first | (refine jR ?_) | (refine k_op rfl ?_; first | refine c_al rfl rfl fun _ => ?_ | refine jV (g_lenL rfl) ?_ | refine jV (g_bld rfl rfl) ?_ | refine c_stA rfl rfl rfl rfl rfl rfl ?_ | (refine c_rt rfl rfl rfl cx_cut rfl ?_) | (refine c_fns rfl rfl rfl cx_split rfl ?_; rintro _ G hle ⟨b1, o1, cap1, rfl, hseg⟩; skip)) | (refine k_tt rfl (dTt (by omega)) ?_) | (refine k_ff rfl (dFf (by omega)) ?_))
  all_goals refine jZ (vs := [_, _]) rfl ⟨rc_A rfl rfl rfl rfl, rfl, trivial⟩ rfl ⟨hle, rfl, ?_⟩
  all_goals exact ⟨default, false, rfl, by rw [hno]; rfl⟩
theorem c_readField2 {s a b : List UInt8} (h : s.length ≤ 1000) (e : cut 58 (cut1 61 s).1 = [a, b]) : FnS Tryz.prog 152 [S s, U8 (69 : Nat)] G (FiPost s 69) := by
  have hcl := cut1_len (k := 61) (s := s)
  have cx_cut : PuG Tryz.prog 109 [S s, S [61]] G (· = Tu [S (cut1 61 s).1, S (cut1 61 s).2.1, Bo (cut1 61 s).2.2]) := c_Cut (c := 61) (by omega)
  have cx_split := c_splitX (G := G) (c := 58) (k := 58) 2 (s := (cut1 61 s).1) (by omega) rfl e rfl (by omega)
  have ha : a.length ≤ 1000 := by have := cut_len (k := 58) (s := (cut1 61 s).1) (x := a) (by rw [e]; simp); omega
  have hb : b.length ≤ 1000 := by have := cut_len (k := 58) (s := (cut1 61 s).1) (x := b) (by rw [e]; simp); omega
  have hall : fldOf s 69 = if (cut1 61 s).2.2 = false then match numOf a 200 with
      | some n => if 1 ≤ n ∧ isNm b = true then some ⟨n, b, [], []⟩ else none
      | none => none else none := by
    rw [← fldI_eq]; unfold fldI; rw [e]; simp <;> rfl
  generalize hto : (cut1 61 s).2.2 = told at *
  generalize hva : (cut1 61 s).2.1 = val at *
  rcases hm : numOf a 200 with _ | m
  · have hno : fldOf s 69 = none := by rw [hall, hm]; simp
    have cx_pn : ∀ G, PuG Tryz.prog 74 [S a, I 200] G (fun v => ∃ n, v = Tu [I n, Bo false]) := fun G => c_pnumN (by omega) hm
    refine jB [(0, _), (1, _)] Tryz.func152 Tryz.ntmps152 fun B hok hB hW => ?_
    repeat' (first | (refine jR ?_) | (refine k_op rfl ?_; first | refine c_al rfl rfl fun _ => ?_ | refine jV (g_lenL rfl) ?_ | refine jV (g_bld rfl rfl) ?_ | refine c_stA rfl rfl rfl rfl rfl rfl ?_ | (refine jV (g_iaddr rfl rfl (by omega)) ?_) | refine jV (g_ldS rfl rfl (by assumption) rfl rfl) ?_ | (refine jV (g_pickT rfl rfl rfl) ?_) | (refine c_rt rfl rfl rfl cx_cut rfl ?_) | (refine c_fns rfl rfl rfl cx_split rfl ?_; rintro _ G hle ⟨b1, o1, cap1, rfl, hseg⟩; skip) | (refine c_pu rfl rfl rfl (cx_pn _) rfl ?_; rintro _ ⟨n, rfl⟩)) | (refine k_gt rfl rfl rfl ?_) | (refine k_tt rfl rfl ?_) | (refine k_ff rfl rfl ?_))
    all_goals refine jZ (vs := [_, _]) rfl ⟨rc_A rfl rfl rfl rfl, rfl, trivial⟩ rfl ⟨hle, rfl, ?_⟩
    all_goals exact ⟨default, false, rfl, by rw [hno]; rfl⟩
  have cx_pq : ∀ G, PuG Tryz.prog 74 [S a, I 200] G (· = Tu [I m, Bo true]) := fun G => c_pnumX (by omega) hm
  rw [hm] at hall
  dsimp only at hall
  by_cases hg : 1 ≤ m ∧ isNm b = true
  · rw [if_pos hg] at hall
    have hg1 := hg.1
    have hg2 : (!isNm b) = false := by rw [hg.2]; rfl
    cases told with
    | true =>
      refine jB [(0, _), (1, _)] Tryz.func152 Tryz.ntmps152 fun B hok hB hW => ?_
      repeat' (first | (refine jR ?_) | (refine k_op rfl ?_; first | refine c_al rfl rfl fun _ => ?_ | refine jV (g_lenL rfl) ?_ | refine jV (g_bld rfl rfl) ?_ | refine c_stA rfl rfl rfl rfl rfl rfl ?_ | (refine jV (g_iaddr rfl rfl (by omega)) ?_) | refine jV (g_ld rfl rfl rfl) ?_ | refine jV (g_ldS rfl rfl (by assumption) rfl rfl) ?_ | (refine jV (g_pickT rfl rfl rfl) ?_) | (refine jV (g_pickF rfl rfl rfl) ?_) | (refine c_rt rfl rfl rfl cx_cut rfl ?_) | (refine c_fns rfl rfl rfl cx_split rfl ?_; rintro _ G hle ⟨b1, o1, cap1, rfl, hseg⟩; skip) | (refine c_rt rfl rfl rfl (cx_pq _) rfl ?_) | (refine c_rt rfl rfl rfl (c_isName (by omega)) rfl ?_)) | (refine k_gt rfl rfl rfl ?_) | (refine k_gf rfl rfl (by first | rfl | (refine decide_eq_false ?_; (omega))) ?_) | (refine k_tt rfl rfl ?_) | (refine k_ff rfl (by first | rfl | assumption) ?_))
      all_goals refine jZ (vs := [_, _]) rfl ⟨rc_A rfl rfl rfl rfl, rfl, trivial⟩ rfl ⟨hle, rfl, ?_⟩
      all_goals exact ⟨default, false, rfl, by rw [hall]; rfl⟩
    | false =>
      have hv : val = [] := by have := cut1_none hto; rw [this] at hva; exact hva.symm
      refine jB [(0, _), (1, _)] Tryz.func152 Tryz.ntmps152 fun B hok hB hW => ?_
      repeat' (first | (refine jR ?_) | (refine k_op rfl ?_; first | refine c_al rfl rfl fun _ => ?_ | refine jV (g_lenL rfl) ?_ | refine jV (g_bld rfl rfl) ?_ | refine c_stA rfl rfl rfl rfl rfl rfl ?_ | (refine jV (g_iaddr rfl rfl (by omega)) ?_) | refine jV (g_ld rfl rfl rfl) ?_ | refine jV (g_ldA rfl rfl rfl rfl) ?_ | refine jV (g_ldS rfl rfl (by assumption) rfl rfl) ?_ | (refine jV (g_pickF rfl rfl rfl) ?_) | (refine c_rt rfl rfl rfl cx_cut rfl ?_) | (refine c_fns rfl rfl rfl cx_split rfl ?_; rintro _ G hle ⟨b1, o1, cap1, rfl, hseg⟩; skip) | (refine c_rt rfl rfl rfl (cx_pq _) rfl ?_) | (refine c_rt rfl rfl rfl (c_isName (by omega)) rfl ?_)) | (refine k_gf rfl rfl (by first | rfl | (refine decide_eq_false ?_; (omega))) ?_) | (refine k_tt rfl rfl ?_) | (refine k_ff rfl (by first | rfl | assumption) ?_))
      all_goals refine jZ (vs := [_, _]) rfl ⟨rc_A rfl rfl rfl rfl, rfl, trivial⟩ rfl ⟨hle, rfl, ?_⟩
      all_goals exact ⟨⟨m, b, [], []⟩, true, by rw [hv]; rfl, by rw [hall]; rfl⟩
  · rw [if_neg hg] at hall
    have hno : fldOf s 69 = none := by rw [hall]; simp
    by_cases h1 : m < 1
    case' neg => have hg2 : (!isNm b) = true := by
                  cases hb2 : isNm b with
                  | false => rfl
                  | true => exact absurd ⟨by omega, hb2⟩ hg
    all_goals refine jB [(0, _), (1, _)] Tryz.func152 Tryz.ntmps152 fun B hok hB hW => ?_
    all_goals repeat' (first | (refine jR ?_) | (refine k_op rfl ?_; first | refine c_al rfl rfl fun _ => ?_ | refine jV (g_lenL rfl) ?_ | refine jV (g_bld rfl rfl) ?_ | refine c_stA rfl rfl rfl rfl rfl rfl ?_ | (refine jV (g_iaddr rfl rfl (by omega)) ?_) | refine jV (g_ld rfl rfl rfl) ?_ | refine jV (g_ldS rfl rfl (by assumption) rfl rfl) ?_ | (refine jV (g_pickT rfl rfl rfl) ?_) | (refine jV (g_pickF rfl rfl rfl) ?_) | (refine c_rt rfl rfl rfl cx_cut rfl ?_) | (refine c_fns rfl rfl rfl cx_split rfl ?_; rintro _ G hle ⟨b1, o1, cap1, rfl, hseg⟩; skip) | (refine c_rt rfl rfl rfl (cx_pq _) rfl ?_) | (refine c_rt rfl rfl rfl (c_isName (by omega)) rfl ?_)) | (refine k_gt rfl rfl (dTt ‹_›) ?_) | (refine k_gf rfl rfl (by first | rfl | (refine decide_eq_false ?_; (assumption))) ?_) | (refine k_tt rfl (by first | rfl | assumption) ?_) | (refine k_ff rfl rfl ?_))
    all_goals refine jZ (vs := [_, _]) rfl ⟨rc_A rfl rfl rfl rfl, rfl, trivial⟩ rfl ⟨hle, rfl, ?_⟩
    all_goals exact ⟨default, false, rfl, by rw [hno]; rfl⟩
theorem c_readField3 {s a b c : List UInt8} {k : Nat} (h : s.length ≤ 1000) (hk : ¬ k = 69) (e : cut 58 (cut1 61 s).1 = [a, b, c]) : FnS Tryz.prog 152 [S s, U8 k] G (FiPost s k) := by
  have hcl := cut1_len (k := 61) (s := s)
  have cx_cut : PuG Tryz.prog 109 [S s, S [61]] G (· = Tu [S (cut1 61 s).1, S (cut1 61 s).2.1, Bo (cut1 61 s).2.2]) := c_Cut (c := 61) (by omega)
  have cx_split := c_splitX (G := G) (c := 58) (k := 58) 3 (s := (cut1 61 s).1) (by omega) rfl e rfl (by omega)
  have ha : a.length ≤ 1000 := by have := cut_len (k := 58) (s := (cut1 61 s).1) (x := a) (by rw [e]; simp); omega
  have hb : b.length ≤ 1000 := by have := cut_len (k := 58) (s := (cut1 61 s).1) (x := b) (by rw [e]; simp); omega
  have hc : c.length ≤ 1000 := by have := cut_len (k := 58) (s := (cut1 61 s).1) (x := c) (by rw [e]; simp); omega
  have hall : fldOf s k = match numOf a 200 with
      | some n => if (1 ≤ n ∧ isNm b = true) ∧ kindOk c = true ∧ ((cut1 61 s).2.2 = true → k = 82 ∧ standOk c (cut1 61 s).2.1 = true) then some ⟨n, b, c, (cut1 61 s).2.1⟩ else none
      | none => none := by
    rw [← fldI_eq]; unfold fldI; rw [e]; simp [hk] <;> rfl
  generalize hto : (cut1 61 s).2.2 = told at *
  generalize hva : (cut1 61 s).2.1 = val at *
  rcases hm : numOf a 200 with _ | m
  · have hno : fldOf s k = none := by rw [hall, hm]
    have cx_pn : ∀ G, PuG Tryz.prog 74 [S a, I 200] G (fun v => ∃ n, v = Tu [I n, Bo false]) := fun G => c_pnumN (by omega) hm
    refine jB [(0, _), (1, _)] Tryz.func152 Tryz.ntmps152 fun B hok hB hW => ?_
    repeat' (first | (refine jR ?_) | (refine k_op rfl ?_; first | refine c_al rfl rfl fun _ => ?_ | refine jV (g_lenL rfl) ?_ | refine jV (g_bld rfl rfl) ?_ | refine c_stA rfl rfl rfl rfl rfl rfl ?_ | (refine jV (g_iaddr rfl rfl (by omega)) ?_) | refine jV (g_ldS rfl rfl (by assumption) rfl rfl) ?_ | (refine jV (g_pickT rfl rfl rfl) ?_) | (refine c_rt rfl rfl rfl cx_cut rfl ?_) | (refine c_fns rfl rfl rfl cx_split rfl ?_; rintro _ G hle ⟨b1, o1, cap1, rfl, hseg⟩; skip) | (refine c_pu rfl rfl rfl (cx_pn _) rfl ?_; rintro _ ⟨n, rfl⟩)) | (refine k_gt rfl rfl rfl ?_) | (refine k_tt rfl rfl ?_) | (refine k_ff rfl (by first | rfl | (refine decide_eq_false ?_; (omega))) ?_))
    all_goals refine jZ (vs := [_, _]) rfl ⟨rc_A rfl rfl rfl rfl, rfl, trivial⟩ rfl ⟨hle, rfl, ?_⟩
    all_goals exact ⟨default, false, rfl, by rw [hno]; rfl⟩
  have cx_pq : ∀ G, PuG Tryz.prog 74 [S a, I 200] G (· = Tu [I m, Bo true]) := fun G => c_pnumX (by omega) hm
  rw [hm] at hall
  dsimp only at hall
  by_cases hg : 1 ≤ m ∧ isNm b = true
  case neg =>
    have hno : fldOf s k = none := by rw [hall, if_neg fun h => hg h.1]
    by_cases h1 : m < 1
    case' neg => have hg2 : (!isNm b) = true := by
                  cases hb2 : isNm b with
                  | false => rfl
                  | true => exact absurd ⟨by omega, hb2⟩ hg
    all_goals refine jB [(0, _), (1, _)] Tryz.func152 Tryz.ntmps152 fun B hok hB hW => ?_
    all_goals repeat' (first | (refine jR ?_) | (refine k_op rfl ?_; first | refine c_al rfl rfl fun _ => ?_ | refine jV (g_lenL rfl) ?_ | refine jV (g_bld rfl rfl) ?_ | refine c_stA rfl rfl rfl rfl rfl rfl ?_ | (refine jV (g_iaddr rfl rfl (by omega)) ?_) | refine jV (g_ld rfl rfl rfl) ?_ | refine jV (g_ldS rfl rfl (by assumption) rfl rfl) ?_ | (refine jV (g_pickT rfl rfl rfl) ?_) | (refine jV (g_pickF rfl rfl rfl) ?_) | (refine c_rt rfl rfl rfl cx_cut rfl ?_) | (refine c_fns rfl rfl rfl cx_split rfl ?_; rintro _ G hle ⟨b1, o1, cap1, rfl, hseg⟩; skip) | (refine c_rt rfl rfl rfl (cx_pq _) rfl ?_) | (refine c_rt rfl rfl rfl (c_isName (by omega)) rfl ?_)) | (refine k_gt rfl rfl (dTt ‹_›) ?_) | (refine k_gf rfl rfl (by first | rfl | (refine decide_eq_false ?_; (assumption))) ?_) | (refine k_tt rfl (by first | rfl | assumption) ?_) | (refine k_ff rfl (by first | rfl | (refine decide_eq_false ?_; (omega))) ?_))
    all_goals refine jZ (vs := [_, _]) rfl ⟨rc_A rfl rfl rfl rfl, rfl, trivial⟩ rfl ⟨hle, rfl, ?_⟩
    all_goals exact ⟨default, false, rfl, by rw [hno]; rfl⟩
  have hg1 := hg.1
  have hg2 : (!isNm b) = false := by rw [hg.2]; rfl
  by_cases hkc : kindOk c = true
  case neg =>
    have hkc2 : kindOk c = false := by simpa using hkc
    have hno : fldOf s k = none := by rw [hall, if_neg fun h => hkc h.2.1]
    have cx_kn : ∀ G, PuG Tryz.prog 66 [S c] G (fun v => ∃ x y z, v = Tu [Ag [S x, S y, S z], Bo false]) := fun G => by
      refine (c_readKind (G := G) (s := c) (by omega)).mono ?_
      rintro v G' L' ⟨h1, h2, x, y, z, rfl, _⟩
      exact ⟨h1, h2, x, y, z, by rw [hkc2]⟩
    refine jB [(0, _), (1, _)] Tryz.func152 Tryz.ntmps152 fun B hok hB hW => ?_
    repeat' (first | (refine jR ?_) | (refine k_op rfl ?_; first | refine c_al rfl rfl fun _ => ?_ | refine jV (g_lenL rfl) ?_ | refine jV (g_bld rfl rfl) ?_ | refine c_stA rfl rfl rfl rfl rfl rfl ?_ | (refine jV (g_iaddr rfl rfl (by omega)) ?_) | refine jV (g_ld rfl rfl rfl) ?_ | refine jV (g_ldS rfl rfl (by assumption) rfl rfl) ?_ | (refine jV (g_pickF rfl rfl rfl) ?_) | (refine c_rt rfl rfl rfl cx_cut rfl ?_) | (refine c_fns rfl rfl rfl cx_split rfl ?_; rintro _ G hle ⟨b1, o1, cap1, rfl, hseg⟩; skip) | (refine c_rt rfl rfl rfl (cx_pq _) rfl ?_) | (refine c_rt rfl rfl rfl (c_isName (by omega)) rfl ?_) | (refine c_pu rfl rfl rfl (cx_kn _) rfl ?_; rintro _ ⟨x, y, z, rfl⟩)) | (refine k_gf rfl rfl (by first | rfl | (refine decide_eq_false ?_; (omega))) ?_) | (refine k_tt rfl (by first | rfl | (refine decide_eq_true ?_; (omega))) ?_) | (refine k_ff rfl (by first | rfl | assumption | (refine decide_eq_false ?_; (omega))) ?_))
    all_goals refine jZ (vs := [_, _]) rfl ⟨rc_A rfl rfl rfl rfl, rfl, trivial⟩ rfl ⟨hle, rfl, ?_⟩
    all_goals exact ⟨default, false, rfl, by rw [hno]; rfl⟩
  have cx_kq : ∀ G, PuG Tryz.prog 66 [S c] G (· = Tu [Ag [S (sg c), S (bs c), S (nm c)], Bo true]) := fun G => c_kindX (by omega) hkc
  cases told with
  | false =>
    have hv : val = [] := by have := cut1_none hto; rw [this] at hva; exact hva.symm
    have hyes : fldOf s k = some ⟨m, b, c, val⟩ := by rw [hall, if_pos ⟨hg, hkc, fun h => by cases h⟩]
    refine jB [(0, _), (1, _)] Tryz.func152 Tryz.ntmps152 fun B hok hB hW => ?_
    repeat' (first | (refine jR ?_) | (refine k_op rfl ?_; first | refine c_al rfl rfl fun _ => ?_ | refine jV (g_lenL rfl) ?_ | refine jV (g_bld rfl rfl) ?_ | refine c_stA rfl rfl rfl rfl rfl rfl ?_ | (refine jV (g_iaddr rfl rfl (by omega)) ?_) | refine jV (g_ld rfl rfl rfl) ?_ | refine jV (g_ldA rfl rfl rfl rfl) ?_ | refine jV (g_ldS rfl rfl (by assumption) rfl rfl) ?_ | (refine jV (g_pickF rfl rfl rfl) ?_) | (refine c_rt rfl rfl rfl cx_cut rfl ?_) | (refine c_fns rfl rfl rfl cx_split rfl ?_; rintro _ G hle ⟨b1, o1, cap1, rfl, hseg⟩; skip) | (refine c_rt rfl rfl rfl (cx_pq _) rfl ?_) | (refine c_rt rfl rfl rfl (c_isName (by omega)) rfl ?_) | (refine c_rt rfl rfl rfl (cx_kq _) rfl ?_)) | (refine k_gf rfl rfl (by first | rfl | (refine decide_eq_false ?_; (omega))) ?_) | (refine k_tt rfl (dTt (by omega)) ?_) | (refine k_ff rfl (by first | rfl | assumption | (refine decide_eq_false ?_; (omega))) ?_))
    all_goals refine jZ (vs := [_, _]) rfl ⟨rc_A rfl rfl rfl rfl, rfl, trivial⟩ rfl ⟨hle, rfl, ?_⟩
    all_goals exact ⟨⟨m, b, c, val⟩, true, rfl, by rw [hyes]; rfl⟩
  | true =>
    have hst := stand_bs (v := val) hkc
    by_cases h82 : k = 82
    case neg =>
      have hno : fldOf s k = none := by rw [hall, if_neg fun h => h82 (h.2.2 rfl).1]
      have h83 : ¬ (k : Int) = 82 := by omega
      refine jB [(0, _), (1, _)] Tryz.func152 Tryz.ntmps152 fun B hok hB hW => ?_
      repeat' (first | (refine jR ?_) | (refine k_op rfl ?_; first | refine c_al rfl rfl fun _ => ?_ | refine jV (g_lenL rfl) ?_ | refine jV (g_bld rfl rfl) ?_ | refine c_stA rfl rfl rfl rfl rfl rfl ?_ | (refine jV (g_iaddr rfl rfl (by omega)) ?_) | refine jV (g_ld rfl rfl rfl) ?_ | refine jV (g_ldS rfl rfl (by assumption) rfl rfl) ?_ | (refine jV (g_pickT rfl rfl rfl) ?_) | (refine jV (g_pickF rfl rfl rfl) ?_) | (refine c_rt rfl rfl rfl cx_cut rfl ?_) | (refine c_fns rfl rfl rfl cx_split rfl ?_; rintro _ G hle ⟨b1, o1, cap1, rfl, hseg⟩; skip) | (refine c_rt rfl rfl rfl (cx_pq _) rfl ?_) | (refine c_rt rfl rfl rfl (c_isName (by omega)) rfl ?_) | (refine c_rt rfl rfl rfl (cx_kq _) rfl ?_)) | (refine k_gt rfl rfl (by first | rfl | (refine decide_eq_true ?_; (assumption))) ?_) | (refine k_gf rfl rfl (by first | rfl | (refine decide_eq_false ?_; (omega))) ?_) | (refine k_tt rfl (by first | rfl | (refine decide_eq_true ?_; (omega))) ?_) | (refine k_ff rfl (by first | rfl | assumption | (refine decide_eq_false ?_; (omega))) ?_))
      all_goals refine jZ (vs := [_, _]) rfl ⟨rc_A rfl rfl rfl rfl, rfl, trivial⟩ rfl ⟨hle, rfl, ?_⟩
      all_goals exact ⟨default, false, rfl, by rw [hno]; rfl⟩
    subst h82
    by_cases hsg : sg c = []
    · rw [decide_eq_true hsg, Bool.true_and] at hst
      by_cases hso : standOk c val = true
      · have hyes : fldOf s 82 = some ⟨m, b, c, val⟩ := by rw [hall, if_pos ⟨hg, hkc, fun _ => ⟨rfl, hso⟩⟩]
        have hso2 : (!standOk (bs c) val) = false := by rw [hst, hso]; rfl
        refine jB [(0, _), (1, _)] Tryz.func152 Tryz.ntmps152 fun B hok hB hW => ?_
        repeat' (first | (refine jR ?_) | (refine k_op rfl ?_; first | refine c_al rfl rfl fun _ => ?_ | refine jV (g_lenL rfl) ?_ | refine jV (g_bld rfl rfl) ?_ | refine c_stA rfl rfl rfl rfl rfl rfl ?_ | (refine jV (g_iaddr rfl rfl (by omega)) ?_) | refine jV (g_ld rfl rfl rfl) ?_ | refine jV (g_ldA rfl rfl rfl rfl) ?_ | refine jV (g_ldS rfl rfl (by assumption) rfl rfl) ?_ | (refine jV (g_pickT rfl rfl rfl) ?_) | (refine jV (g_pickF rfl rfl rfl) ?_) | (refine c_rt rfl rfl rfl cx_cut rfl ?_) | (refine c_fns rfl rfl rfl cx_split rfl ?_; rintro _ G hle ⟨b1, o1, cap1, rfl, hseg⟩; skip) | (refine c_rt rfl rfl rfl (cx_pq _) rfl ?_) | (refine c_rt rfl rfl rfl (c_isName (by omega)) rfl ?_) | (refine c_rt rfl rfl rfl (cx_kq _) rfl ?_) | (refine c_rt rfl rfl rfl (c_standing (by omega)) rfl ?_)) | (refine k_gt rfl rfl rfl ?_) | (refine k_gf rfl rfl ?_ ?_; (focus ((first | rfl | (refine decide_eq_false ?_; (omega)) | (simp [*]; done)); done))) | (refine k_tt rfl rfl ?_) | (refine k_ff rfl (by first | rfl | assumption) ?_))
        all_goals refine jZ (vs := [_, _]) rfl ⟨rc_A rfl rfl rfl rfl, rfl, trivial⟩ rfl ⟨hle, rfl, ?_⟩
        all_goals exact ⟨⟨m, b, c, val⟩, true, rfl, by rw [hyes]; rfl⟩
      · have hno : fldOf s 82 = none := by rw [hall, if_neg fun h => hso (h.2.2 rfl).2]
        have hso2 : (!standOk (bs c) val) = true := by rw [hst]; simpa using hso
        refine jB [(0, _), (1, _)] Tryz.func152 Tryz.ntmps152 fun B hok hB hW => ?_
        repeat' (first | (refine jR ?_) | (refine k_op rfl ?_; first | refine c_al rfl rfl fun _ => ?_ | refine jV (g_lenL rfl) ?_ | refine jV (g_bld rfl rfl) ?_ | refine c_stA rfl rfl rfl rfl rfl rfl ?_ | (refine jV (g_iaddr rfl rfl (by omega)) ?_) | refine jV (g_ld rfl rfl rfl) ?_ | refine jV (g_ldS rfl rfl (by assumption) rfl rfl) ?_ | (refine jV (g_pickT rfl rfl rfl) ?_) | (refine jV (g_pickF rfl rfl rfl) ?_) | (refine c_rt rfl rfl rfl cx_cut rfl ?_) | (refine c_fns rfl rfl rfl cx_split rfl ?_; rintro _ G hle ⟨b1, o1, cap1, rfl, hseg⟩; skip) | (refine c_rt rfl rfl rfl (cx_pq _) rfl ?_) | (refine c_rt rfl rfl rfl (c_isName (by omega)) rfl ?_) | (refine c_rt rfl rfl rfl (cx_kq _) rfl ?_) | (refine c_rt rfl rfl rfl (c_standing (by omega)) rfl ?_)) | (refine k_gt rfl rfl rfl ?_) | (refine k_gf rfl rfl ?_ ?_; (focus ((first | rfl | (refine decide_eq_false ?_; (omega)) | (simp [*]; done)); done))) | (refine k_tt rfl (by first | rfl | assumption) ?_) | (refine k_ff rfl (by first | rfl | assumption) ?_))
        all_goals refine jZ (vs := [_, _]) rfl ⟨rc_A rfl rfl rfl rfl, rfl, trivial⟩ rfl ⟨hle, rfl, ?_⟩
        all_goals exact ⟨default, false, rfl, by rw [hno]; rfl⟩
    · rw [decide_eq_false hsg, Bool.false_and] at hst
      have hno : fldOf s 82 = none := by rw [hall, if_neg fun h => by rw [(h.2.2 rfl).2] at hst; cases hst]
      refine jB [(0, _), (1, _)] Tryz.func152 Tryz.ntmps152 fun B hok hB hW => ?_
      repeat' (first | (refine jR ?_) | (refine k_op rfl ?_; first | refine c_al rfl rfl fun _ => ?_ | refine jV (g_lenL rfl) ?_ | refine jV (g_bld rfl rfl) ?_ | refine c_stA rfl rfl rfl rfl rfl rfl ?_ | (refine jV (g_iaddr rfl rfl (by omega)) ?_) | refine jV (g_ld rfl rfl rfl) ?_ | refine jV (g_ldS rfl rfl (by assumption) rfl rfl) ?_ | (refine jV (g_pickT rfl rfl rfl) ?_) | (refine jV (g_pickF rfl rfl rfl) ?_) | (refine c_rt rfl rfl rfl cx_cut rfl ?_) | (refine c_fns rfl rfl rfl cx_split rfl ?_; rintro _ G hle ⟨b1, o1, cap1, rfl, hseg⟩; skip) | (refine c_rt rfl rfl rfl (cx_pq _) rfl ?_) | (refine c_rt rfl rfl rfl (c_isName (by omega)) rfl ?_) | (refine c_rt rfl rfl rfl (cx_kq _) rfl ?_)) | (refine k_gt rfl rfl (by first | rfl | (refine decide_eq_true ?_; (assumption))) ?_) | (refine k_gf rfl rfl (by first | rfl | (refine decide_eq_false ?_; (omega))) ?_) | (refine k_tt rfl rfl ?_) | (refine k_ff rfl (by first | rfl | assumption) ?_))
      all_goals refine jZ (vs := [_, _]) rfl ⟨rc_A rfl rfl rfl rfl, rfl, trivial⟩ rfl ⟨hle, rfl, ?_⟩
      all_goals exact ⟨default, false, rfl, by rw [hno]; rfl⟩
theorem c_readField {s : List UInt8} {k : Nat} (h : s.length ≤ 1000) : FnS Tryz.prog 152 [S s, U8 k] G (FiPost s k) := by
 by_cases hk : k = 69
 ·subst hk
  by_cases h2 : (cut 58 (cut1 61 s).1).length = 2
  ·match e : cut 58 (cut1 61 s).1, h2 with
   | [a, b], _ => exact c_readField2 h e
  ·exact c_readField0 h (by simpa using h2)
 ·by_cases h3 : (cut 58 (cut1 61 s).1).length = 3
  ·match e : cut 58 (cut1 61 s).1, h3 with
   | [a, b, c], _ => exact c_readField3 h hk e
  ·exact c_readField0 h (by simpa [hk] using h3)
theorem c_cutX {s : List UInt8} {xs : List (List UInt8)} {k : Nat} (n : Nat) (h : s.length ≤ 100000000) (e : cut k s = xs) (hn : xs.length = n) (h0 : 0 < n) :
  FnG Tryz.prog 88 [S s, U8 k] G [] (fun v L' => ∃ b cap, v = .slice (some ⟨b, 0, none⟩) n cap ∧ L' = [.acc (.slice (some ⟨b, 0, none⟩) n cap) tStr 1 n (strs xs)]) := by
 subst hn; subst e
 refine (c_l3Cut (G := G) (k := k) h).mono ?_
 rintro v G' L' ⟨h1, h2, h3⟩
 obtain ⟨b, cap, rfl⟩ := h3.pos (by omega)
 exact ⟨h1, b, cap, rfl, h2⟩
theorem c_numX {s : List UInt8} {top m : Int} (h : s.length ≤ 100000000) (e : numOf s top = some m) : PuG Tryz.prog 78 [S s, I top] G (· = Tu [I m, Bo true]) := by
 refine (c_l3Num (G := G) (top := top) h).mono ?_
 rintro v G' L' ⟨h1, h2, n, rfl, h3⟩
 exact ⟨h1, h2, by rw [e, h3 m e]; rfl⟩
abbrev FldPost (s : List UInt8) (k : Nat) (v : Value) : Prop := ∃ f ok, v = Tu [Ag (fldF f), Bo ok] ∧ fldOf s k = if ok then some f else none
theorem fldOf_no {s : List UInt8} {k : Nat} (h : (cut 58 s).length ≠ 2) (h' : (cut 58 s).length ≠ 3) : fldOf s k = none := by
 unfold fldOf
 split
 ·rename_i e; rw [e] at h; simp at h
 ·rename_i e; rw [e] at h'; simp at h'
 ·rfl
theorem c_l3ReadField0 {s : List UInt8} {k : Nat} (h : s.length ≤ 1000) (e : (cut 58 s).length ≠ 2) (e' : (cut 58 s).length ≠ 3) : PuG Tryz.prog 170 [S s, U8 k] G (FldPost s k) := by
 have e0 : 0 < (cut 58 s).length := cut_pos
 generalize hn : (cut 58 s).length = n at *
 have cx_cut1 := c_cutX (G := G) (k := 58) n (by omega) rfl hn e0
 have hno : fldOf s k = none := fldOf_no (by omega) (by omega)
 refine jE [(0, _), (1, _)] Tryz.func170 Tryz.ntmps170 fun B hB => ?_
 repeat' (first | (refine jR ?_) | (refine k_op rfl ?_; first | refine c_al rfl rfl fun _ => ?_ | refine jV (g_lenL rfl) ?_ | (refine jV (g_pickT rfl rfl rfl) ?_) | (refine jV (g_pickF rfl rfl rfl) ?_) | refine jV (g_bld rfl rfl) ?_ | refine c_stA rfl rfl rfl rfl rfl rfl ?_ | (refine c_fng rfl rfl rfl cx_cut1 rfl ?_; rintro _ _ ⟨b1, cap1, rfl, rfl⟩; dsimp only [zA, fA])) | (refine k_gt rfl rfl (dTt (by omega)) ?_) | refine k_g rfl rfl (fun _ => ?_) (fun _ => ?_) | (refine k_tt rfl (by first | rfl | (refine decide_eq_true ?_; (omega))) ?_))
 all_goals refine jZ (vs := [_, _]) rfl ⟨rc_A rfl rfl rfl rfl, rfl, trivial⟩ rfl ⟨rfl, rfl, ?_⟩
 all_goals exact ⟨default, false, rfl, by rw [hno]; rfl⟩
theorem c_l3ReadField2 {s a b : List UInt8} {k : Nat} (h : s.length ≤ 1000) (e : cut 58 s = [a, b]) : PuG Tryz.prog 170 [S s, U8 k] G (FldPost s k) := by
 have ha : a.length ≤ 1000 := Nat.le_trans (cut_len (k := 58) (s := s) (by rw [e]; simp)) h
 have hb : b.length ≤ 1000 := Nat.le_trans (cut_len (k := 58) (s := s) (by rw [e]; simp)) h
 have cx_cut1 := c_cutX (G := G) (k := 58) 2 (by omega) e rfl (by omega)
 by_cases hk : k = 69
 case neg =>
  have hno : fldOf s k = none := by unfold fldOf; rw [e]; simp [hk]
  refine jE [(0, _), (1, _)] Tryz.func170 Tryz.ntmps170 fun B hB => ?_
  repeat' (first | (refine jR ?_) | (refine k_op rfl ?_; first | refine c_al rfl rfl fun _ => ?_ | refine jV (g_lenL rfl) ?_ | (refine jV (g_pickT rfl rfl rfl) ?_) | refine jV (g_bld rfl rfl) ?_ | refine c_stA rfl rfl rfl rfl rfl rfl ?_ | (refine c_fng rfl rfl rfl cx_cut1 rfl ?_; rintro _ _ ⟨b1, cap1, rfl, rfl⟩; dsimp only [zA, fA])) | (refine k_gt rfl rfl (by first | rfl | (refine decide_eq_true ?_; (omega))) ?_) | (refine k_tt rfl rfl ?_))
  all_goals refine jZ (vs := [_, _]) rfl ⟨rc_A rfl rfl rfl rfl, rfl, trivial⟩ rfl ⟨rfl, rfl, ?_⟩
  all_goals exact ⟨default, false, rfl, by rw [hno]; rfl⟩
 subst hk
 rcases hm : numOf a 200 with _ | m
 ·have hno : fldOf s 69 = none := by unfold fldOf; rw [e]; simp [hm]
  refine jE [(0, _), (1, _)] Tryz.func170 Tryz.ntmps170 fun B hB => ?_
  repeat' (first | (refine jR ?_) | (refine k_op rfl ?_; first | refine c_al rfl rfl fun _ => ?_ | refine jV (g_lenL rfl) ?_ | (refine jV (g_pickT rfl rfl rfl) ?_) | (refine jV (g_pickF rfl rfl rfl) ?_) | refine jV (g_bld rfl rfl) ?_ | refine c_stA rfl rfl rfl rfl rfl rfl ?_ | (refine jV (g_iaddr rfl rfl (by omega)) ?_) | refine jV (g_ldB rfl rfl rfl) ?_ | refine jV (g_ldA rfl rfl rfl rfl) ?_ | (refine c_fng rfl rfl rfl cx_cut1 rfl ?_; rintro _ _ ⟨b1, cap1, rfl, rfl⟩; dsimp only [zA, fA]) | (refine c_pu rfl rfl rfl (c_l3Num (by omega)) rfl ?_; rintro _ ⟨n, rfl, hnum⟩)) | (refine k_gt rfl rfl ?_ ?_; (focus ((first | rfl | (simp [*]; done)); done))) | (refine k_gf rfl rfl rfl ?_) | (refine k_tt rfl rfl ?_) | (refine k_ff rfl rfl ?_))
  all_goals refine jZ (vs := [_, _]) rfl ⟨rc_A rfl rfl rfl rfl, rfl, trivial⟩ rfl ⟨rfl, rfl, ?_⟩
  all_goals exact ⟨⟨_, _, _, _⟩, false, rfl, by rw [hno]; rfl⟩
 have cx_num := c_numX (G := G) (by omega) hm
 have hyes : fldOf s 69 = if 1 ≤ m ∧ isNm b = true then some ⟨m, b, [], []⟩ else none := by unfold fldOf; rw [e]; simp [hm]
 refine jE [(0, _), (1, _)] Tryz.func170 Tryz.ntmps170 fun B hB => ?_
 repeat' (first | (refine jR ?_) | (refine k_op rfl ?_; first | refine c_al rfl rfl fun _ => ?_ | refine jV (g_lenL rfl) ?_ | (refine jV (g_pickT rfl rfl rfl) ?_) | (refine jV (g_pickF rfl rfl rfl) ?_) | refine jV (g_bld rfl rfl) ?_ | refine c_stA rfl rfl rfl rfl rfl rfl ?_ | (refine jV (g_iaddr rfl rfl (by omega)) ?_) | refine jV (g_ld rfl rfl rfl) ?_ | refine jV (g_ldB rfl rfl rfl) ?_ | refine jV (g_ldA rfl rfl rfl rfl) ?_ | (refine c_fng rfl rfl rfl cx_cut1 rfl ?_; rintro _ _ ⟨b1, cap1, rfl, rfl⟩; dsimp only [zA, fA]) | (refine c_rt rfl rfl rfl cx_num rfl ?_) | (refine c_rt rfl rfl rfl (c_l2Name (by omega)) rfl ?_)) | (refine k_gt rfl rfl rfl ?_) | (refine k_gf rfl rfl rfl ?_) | refine k_g rfl rfl (fun _ => ?_) (fun _ => ?_) | (refine k_tt rfl rfl ?_) | (refine k_ff rfl rfl ?_) | refine k_cd rfl (fun _ => ?_) (fun _ => ?_))
 all_goals refine jZ (vs := [_, _]) rfl ⟨rc_A rfl rfl rfl rfl, rfl, trivial⟩ rfl ⟨rfl, rfl, ?_⟩
 all_goals first | exact ⟨⟨m, b, [], []⟩, true, rfl, by rw [hyes]; simp_all; try omega⟩ | exact ⟨⟨m, b, [], []⟩, false, rfl, by rw [hyes]; simp_all; try omega⟩
theorem c_l3ReadField3b {s a b c d f : List UInt8} {k : Nat} {m : Int} (h : s.length ≤ 1000) (e : cut 58 s = [a, b, c]) (hk : ¬ k = 69) (hm : numOf a 200 = some m) (hg1 : 1 ≤ m) (hg2 : isNm b = true) (e2 : cut 61 c = [d, f]) : PuG Tryz.prog 170 [S s, U8 k] G (FldPost s k) := by
 have ha : a.length ≤ 1000 := Nat.le_trans (cut_len (k := 58) (s := s) (by rw [e]; simp)) h
 have hb : b.length ≤ 1000 := Nat.le_trans (cut_len (k := 58) (s := s) (by rw [e]; simp)) h
 have hc : c.length ≤ 1000 := Nat.le_trans (cut_len (k := 58) (s := s) (by rw [e]; simp)) h
 have cx_cut1 := c_cutX (G := G) (k := 58) 3 (by omega) e rfl (by omega)
 have cx_num := c_numX (G := G) (by omega) hm
 have hyes : fldOf s k = if k = 82 ∧ standOk d f = true then some ⟨m, b, d, f⟩ else none := by
  unfold fldOf; rw [e]; simp [hm, hg1, hg2, hk, e2]
 have hd : d.length ≤ 1000 := Nat.le_trans (cut_len (k := 61) (s := c) (by rw [e2]; simp)) hc
 have hf : f.length ≤ 1000 := Nat.le_trans (cut_len (k := 61) (s := c) (by rw [e2]; simp)) hc
 have cx_cut2 := c_cutX (G := G) (k := 61) 2 (by omega) e2 rfl (by omega)
 by_cases h82 : k = 82
 ·have h83 : (k : Int) = 82 := by omega
  refine jE [(0, _), (1, _)] Tryz.func170 Tryz.ntmps170 fun B hB => ?_
  repeat' (first | (refine jR ?_) | (refine k_op rfl ?_; first | refine c_al rfl rfl fun _ => ?_ | refine jV (g_lenL rfl) ?_ | (refine jV (g_pickT rfl rfl rfl) ?_) | (refine jV (g_pickF rfl rfl rfl) ?_) | refine jV (g_bld rfl rfl) ?_ | refine c_st1 rfl rfl rfl rfl ?_ | refine c_stA rfl rfl rfl rfl rfl rfl ?_ | (refine jV (g_iaddr rfl rfl (by omega)) ?_) | refine jV (g_ld rfl rfl rfl) ?_ | refine jV (g_ldB rfl rfl rfl) ?_ | (refine c_fng rfl rfl rfl cx_cut1 rfl ?_; rintro _ _ ⟨b1, cap1, rfl, rfl⟩; dsimp only [zA, fA]) | (refine c_fng rfl rfl rfl cx_cut2 rfl ?_; rintro _ _ ⟨b2, cap2, rfl, rfl⟩; dsimp only [zA, fA]) | (refine c_rt rfl rfl rfl cx_num rfl ?_) | (refine c_rt rfl rfl rfl (c_l2Name (by omega)) rfl ?_)) | (refine k_gt rfl rfl rfl ?_) | (refine k_gf rfl rfl (by first | rfl | (refine decide_eq_false ?_; (omega))) ?_) | (refine k_tt rfl rfl ?_) | (refine k_ff rfl ?_ ?_; (focus ((first | (refine decide_eq_false ?_; (omega)) | (simp [*]; done)); done))) | (refine k_any (s_anyD (id := 14) (tt := 4) rfl mixed ?_); refine jU 9 [1, 2, 3] (bts 12 14) ?_ ?_; (focus (repeat' (exact trivial))); (try (refine Nx.re (d := 76) (v' := Bo true) rfl (congrArg Value.bool (dTt ‹_›)) ?_)); refine jU 7 [4, 6] (bts 12 94) ?_ ?_; (focus (repeat' (exact trivial))); (refine jG (bts 12 95) 0 rfl (g_ldA rfl rfl rfl rfl) ?_); (refine jG (bts 12 127) 5 rfl (g_ld rfl rfl rfl) ?_); (refine jG (bts 12 255) 7 rfl (g_ld rfl rfl rfl) ?_); ((refine jA 8 rfl ?_; (refine c_rt rfl rfl rfl (c_l3Stand (by omega)) rfl ?_); refine jK (bts 12 511) ?_)); ((refine jG (bts 12 1023) 9 rfl (g_pickT rfl rfl ?_) ?_; (focus ((rfl); done)))); refine jA 10 rfl ?_; (refine c_stA rfl rfl rfl rfl rfl rfl ?_); refine jK (bts 12 2047) ?_; refine jU 0 [11] (bts 12 4095) ?_ ?_; (focus (repeat' (exact trivial))); refine x_done (by kernel_rfl) (k_bk ?_)))
  all_goals refine jZ (vs := [_, _]) rfl ⟨rc_A rfl rfl rfl rfl, rfl, trivial⟩ rfl ⟨rfl, rfl, ?_⟩
  all_goals exact ⟨⟨m, b, d, f⟩, standOk d f, rfl, by rw [hyes]; simp [h82]⟩
 ·have h83 : ¬ (k : Int) = 82 := by omega
  refine jE [(0, _), (1, _)] Tryz.func170 Tryz.ntmps170 fun B hB => ?_
  repeat' (first | (refine jR ?_) | (refine k_op rfl ?_; first | refine c_al rfl rfl fun _ => ?_ | refine jV (g_lenL rfl) ?_ | (refine jV (g_pickT rfl rfl rfl) ?_) | (refine jV (g_pickF rfl rfl rfl) ?_) | refine jV (g_bld rfl rfl) ?_ | refine c_st1 rfl rfl rfl rfl ?_ | refine c_stA rfl rfl rfl rfl rfl rfl ?_ | (refine jV (g_iaddr rfl rfl (by omega)) ?_) | refine jV (g_ld rfl rfl rfl) ?_ | refine jV (g_ldB rfl rfl rfl) ?_ | (refine c_fng rfl rfl rfl cx_cut1 rfl ?_; rintro _ _ ⟨b1, cap1, rfl, rfl⟩; dsimp only [zA, fA]) | (refine c_fng rfl rfl rfl cx_cut2 rfl ?_; rintro _ _ ⟨b2, cap2, rfl, rfl⟩; dsimp only [zA, fA]) | (refine c_rt rfl rfl rfl cx_num rfl ?_) | (refine c_rt rfl rfl rfl (c_l2Name (by omega)) rfl ?_)) | (refine k_gt rfl rfl rfl ?_) | (refine k_gf rfl rfl (by first | rfl | (refine decide_eq_false ?_; (omega))) ?_) | (refine k_tt rfl rfl ?_) | (refine k_ff rfl ?_ ?_; (focus ((first | (refine decide_eq_false ?_; (omega)) | (simp [*]; done)); done))) | (refine k_any (s_anyD (id := 14) (tt := 4) rfl mixed ?_); refine jU 9 [1, 2, 3] (bts 12 14) ?_ ?_; (focus (repeat' (exact trivial))); (try (refine Nx.re (d := 76) (v' := Bo false) rfl (congrArg Value.bool (dFf ‹_›)) ?_)); refine jU 7 [4, 6] (bts 12 94) ?_ ?_; (focus (repeat' (exact trivial))); (refine jG (bts 12 95) 0 rfl (g_ldA rfl rfl rfl rfl) ?_); (refine jN (bts 12 127) 5 rfl ?_); (refine jN (bts 12 255) 7 rfl ?_); (refine jN (bts 12 511) 8 rfl ?_); ((refine jG (bts 12 1023) 9 rfl (g_pickF rfl rfl ?_) ?_; (focus ((rfl); done)))); refine jA 10 rfl ?_; (refine c_stA rfl rfl rfl rfl rfl rfl ?_); refine jK (bts 12 2047) ?_; refine jU 0 [11] (bts 12 4095) ?_ ?_; (focus (repeat' (exact trivial))); refine x_done (by kernel_rfl) (k_bk ?_)))
  all_goals refine jZ (vs := [_, _]) rfl ⟨rc_A rfl rfl rfl rfl, rfl, trivial⟩ rfl ⟨rfl, rfl, ?_⟩
  all_goals exact ⟨⟨m, b, d, f⟩, false, rfl, by rw [hyes]; simp [h82]⟩
theorem c_l3ReadField3 {s a b c : List UInt8} {k : Nat} (h : s.length ≤ 1000) (e : cut 58 s = [a, b, c]) : PuG Tryz.prog 170 [S s, U8 k] G (FldPost s k) := by
 have ha : a.length ≤ 1000 := Nat.le_trans (cut_len (k := 58) (s := s) (by rw [e]; simp)) h
 have hb : b.length ≤ 1000 := Nat.le_trans (cut_len (k := 58) (s := s) (by rw [e]; simp)) h
 have hc : c.length ≤ 1000 := Nat.le_trans (cut_len (k := 58) (s := s) (by rw [e]; simp)) h
 have cx_cut1 := c_cutX (G := G) (k := 58) 3 (by omega) e rfl (by omega)
 by_cases hk : k = 69
 case pos =>
  subst hk
  have hno : fldOf s 69 = none := by unfold fldOf; rw [e]; simp
  refine jE [(0, _), (1, _)] Tryz.func170 Tryz.ntmps170 fun B hB => ?_
  repeat' (first | (refine jR ?_) | (refine k_op rfl ?_; first | refine c_al rfl rfl fun _ => ?_ | refine jV (g_lenL rfl) ?_ | (refine jV (g_pickT rfl rfl rfl) ?_) | (refine jV (g_pickF rfl rfl rfl) ?_) | refine jV (g_bld rfl rfl) ?_ | refine c_stA rfl rfl rfl rfl rfl rfl ?_ | (refine c_fng rfl rfl rfl cx_cut1 rfl ?_; rintro _ _ ⟨b1, cap1, rfl, rfl⟩; dsimp only [zA, fA])) | (refine k_gt rfl rfl rfl ?_) | (refine k_gf rfl rfl rfl ?_) | (refine k_tt rfl rfl ?_))
  all_goals refine jZ (vs := [_, _]) rfl ⟨rc_A rfl rfl rfl rfl, rfl, trivial⟩ rfl ⟨rfl, rfl, ?_⟩
  all_goals exact ⟨default, false, rfl, by rw [hno]; rfl⟩
 rcases hm : numOf a 200 with _ | m
 ·have hno : fldOf s k = none := by unfold fldOf; rw [e]; simp [hm]
  refine jE [(0, _), (1, _)] Tryz.func170 Tryz.ntmps170 fun B hB => ?_
  repeat' (first | (refine jR ?_) | (refine k_op rfl ?_; first | refine c_al rfl rfl fun _ => ?_ | refine jV (g_lenL rfl) ?_ | (refine jV (g_pickT rfl rfl rfl) ?_) | (refine jV (g_pickF rfl rfl rfl) ?_) | refine jV (g_bld rfl rfl) ?_ | refine c_stA rfl rfl rfl rfl rfl rfl ?_ | (refine jV (g_iaddr rfl rfl (by omega)) ?_) | refine jV (g_ldB rfl rfl rfl) ?_ | refine jV (g_ldA rfl rfl rfl rfl) ?_ | (refine c_fng rfl rfl rfl cx_cut1 rfl ?_; rintro _ _ ⟨b1, cap1, rfl, rfl⟩; dsimp only [zA, fA]) | (refine c_pu rfl rfl rfl (c_l3Num (by omega)) rfl ?_; rintro _ ⟨n, rfl, hnum⟩)) | (refine k_gt rfl rfl ?_ ?_; (focus ((first | rfl | (simp [*]; done)); done))) | (refine k_gf rfl rfl rfl ?_) | (refine k_tt rfl rfl ?_) | (refine k_ff rfl (dFf (by omega)) ?_))
  all_goals refine jZ (vs := [_, _]) rfl ⟨rc_A rfl rfl rfl rfl, rfl, trivial⟩ rfl ⟨rfl, rfl, ?_⟩
  all_goals exact ⟨⟨_, _, _, _⟩, false, rfl, by rw [hno]; rfl⟩
 have cx_num := c_numX (G := G) (by omega) hm
 by_cases hg : 1 ≤ m ∧ isNm b = true
 case neg =>
  have hno : fldOf s k = none := by unfold fldOf; rw [e]; simp [hm, hg]
  have hg' : m < 1 ∨ isNm b = false := by
   by_cases h1 : m < 1
   ·exact .inl h1
   ·cases hb2 : isNm b with
    | false => exact .inr rfl
    | true => exact absurd ⟨by omega, hb2⟩ hg
  rcases hg' with hg' | hg'
  all_goals refine jE [(0, _), (1, _)] Tryz.func170 Tryz.ntmps170 fun B hB => ?_
  all_goals repeat' (first | (refine jR ?_) | (refine k_op rfl ?_; first | refine c_al rfl rfl fun _ => ?_ | refine jV (g_lenL rfl) ?_ | (refine jV (g_pickT rfl rfl rfl) ?_) | (refine jV (g_pickF rfl rfl rfl) ?_) | refine jV (g_bld rfl rfl) ?_ | refine c_stA rfl rfl rfl rfl rfl rfl ?_ | (refine jV (g_iaddr rfl rfl (by omega)) ?_) | refine jV (g_ld rfl rfl rfl) ?_ | refine jV (g_ldB rfl rfl rfl) ?_ | refine jV (g_ldA rfl rfl rfl rfl) ?_ | (refine c_fng rfl rfl rfl cx_cut1 rfl ?_; rintro _ _ ⟨b1, cap1, rfl, rfl⟩; dsimp only [zA, fA]) | (refine c_rt rfl rfl rfl cx_num rfl ?_) | (refine c_rt rfl rfl rfl (c_l2Name (by omega)) rfl ?_)) | (refine k_gt rfl rfl (by first | rfl | (refine decide_eq_true ?_; (assumption))) ?_) | (refine k_gf rfl rfl rfl ?_) | refine k_g rfl rfl (fun _ => ?_) (fun _ => ?_) | (refine k_tt rfl ?_ ?_; (focus ((first | rfl | (simp [*]; done)); done))) | (refine k_ff rfl (dFf (by omega)) ?_))
  all_goals refine jZ (vs := [_, _]) rfl ⟨rc_A rfl rfl rfl rfl, rfl, trivial⟩ rfl ⟨rfl, rfl, ?_⟩
  all_goals exact ⟨⟨_, _, _, _⟩, false, rfl, by rw [hno]; rfl⟩
 obtain ⟨hg1, hg2⟩ := hg
 have hyes : fldOf s k = match cut 61 c with
  | [d] => if kindOk d = true then some ⟨m, b, d, []⟩ else none
  | [d, e] => if k = 82 ∧ standOk d e = true then some ⟨m, b, d, e⟩ else none
  | _ => none := by
  unfold fldOf; rw [e]; simp only [hm, hg1, hg2, hk, if_false, if_true, and_self] <;> rfl
 have hp : 0 < (cut 61 c).length := cut_pos
 match e2 : cut 61 c, hp with
 | [d], _ =>
  rw [e2] at hyes
  have cx_cut2 := c_cutX (G := G) (k := 61) 1 (by omega) e2 rfl (by omega)
  refine jE [(0, _), (1, _)] Tryz.func170 Tryz.ntmps170 fun B hB => ?_
  repeat' (first | (refine jR ?_) | (refine k_op rfl ?_; first | refine c_al rfl rfl fun _ => ?_ | refine jV (g_lenL rfl) ?_ | (refine jV (g_pickT rfl rfl rfl) ?_) | (refine jV (g_pickF rfl rfl rfl) ?_) | refine jV (g_bld rfl rfl) ?_ | refine c_st1 rfl rfl rfl rfl ?_ | refine c_stA rfl rfl rfl rfl rfl rfl ?_ | (refine jV (g_iaddrN rfl rfl (by omega)) ?_) | (refine jV (g_iaddr rfl rfl (by omega)) ?_) | refine jV (g_ld rfl rfl rfl) ?_ | refine jV (g_ldB rfl rfl rfl) ?_ | (refine c_fng rfl rfl rfl cx_cut1 rfl ?_; rintro _ _ ⟨b1, cap1, rfl, rfl⟩; dsimp only [zA, fA]) | (refine c_fng rfl rfl rfl cx_cut2 rfl ?_; rintro _ _ ⟨b2, cap2, rfl, rfl⟩; dsimp only [zA, fA]) | (refine c_rt rfl rfl rfl cx_num rfl ?_) | (refine c_rt rfl rfl rfl (c_l2Name (by omega)) rfl ?_)) | (refine k_gt rfl rfl rfl ?_) | (refine k_gf rfl rfl (by first | rfl | (refine decide_eq_false ?_; (omega))) ?_) | (refine k_ff rfl ?_ ?_; (focus ((first | rfl | (refine decide_eq_false ?_; (omega)) | (simp [*]; done)); done))) | (refine k_any (s_anyD (id := 15) (tt := 4) rfl mixed ?_); refine jU 10 [1] (bts 11 2) ?_ ?_; (focus (repeat' (exact trivial))); (refine jG (bts 11 3) 0 rfl (g_ldA rfl rfl rfl rfl) ?_); (refine jG (bts 11 7) 2 rfl (g_lenL rfl) ?_); refine jU 6 [3, 4] (bts 11 31) ?_ ?_; (focus (repeat' (exact trivial))); (try (refine Nx.re (d := 87) (v' := Bo true) rfl (congrArg Value.bool rfl) ?_)); refine jU 5 [5] (bts 11 63) ?_ ?_; (focus (repeat' (exact trivial))); (refine jG (bts 11 127) 6 rfl (g_ld rfl rfl rfl) ?_); (refine jA 7 rfl ?_; (refine c_rt rfl rfl rfl c_KindOkS rfl ?_); refine jK (bts 11 255) ?_); ((refine jG (bts 11 511) 8 rfl (g_pickT rfl rfl ?_) ?_; (focus ((rfl); done)))); refine jA 9 rfl ?_; (refine c_stA rfl rfl rfl rfl rfl rfl ?_); refine jK (bts 11 1023) ?_; refine jU 0 [10] (bts 11 2047) ?_ ?_; (focus (repeat' (exact trivial))); refine x_done (by kernel_rfl) (k_bk ?_)))
  all_goals refine jZ (vs := [_, _]) rfl ⟨rc_A rfl rfl rfl rfl, rfl, trivial⟩ rfl ⟨rfl, rfl, ?_⟩
  all_goals exact ⟨⟨m, b, d, []⟩, kindOk d, rfl, hyes⟩
 | [d, f], _ => exact c_l3ReadField3b h e hk hm hg1 hg2 e2
 | d :: f :: g :: r, _ =>
  rw [e2] at hyes
  have cx_cut2 := c_cutX (G := G) (k := 61) (r.length + 3) (by omega) e2 (by simp) (by omega)
  refine jE [(0, _), (1, _)] Tryz.func170 Tryz.ntmps170 fun B hB => ?_
  repeat' (first | (refine jR ?_) | (refine k_op rfl ?_; first | refine c_al rfl rfl fun _ => ?_ | refine jV (g_lenL rfl) ?_ | (refine jV (g_pickT rfl rfl rfl) ?_) | (refine jV (g_pickF rfl rfl rfl) ?_) | refine jV (g_bld rfl rfl) ?_ | refine c_st1 rfl rfl rfl rfl ?_ | refine c_stA rfl rfl rfl rfl rfl rfl ?_ | (refine jV (g_iaddrN rfl rfl (by omega)) ?_) | (refine jV (g_iaddr rfl rfl (by omega)) ?_) | refine jV (g_ld rfl rfl rfl) ?_ | refine jV (g_ldB rfl rfl rfl) ?_ | (refine c_fng rfl rfl rfl cx_cut1 rfl ?_; rintro _ _ ⟨b1, cap1, rfl, rfl⟩; dsimp only [zA, fA]) | (refine c_fng rfl rfl rfl cx_cut2 rfl ?_; rintro _ _ ⟨b2, cap2, rfl, rfl⟩; dsimp only [zA, fA]) | (refine c_rt rfl rfl rfl cx_num rfl ?_) | (refine c_rt rfl rfl rfl (c_l2Name (by omega)) rfl ?_)) | (refine k_gt rfl rfl rfl ?_) | (refine k_gf rfl rfl (by first | rfl | (refine decide_eq_false ?_; (omega))) ?_) | (refine k_ff rfl ?_ ?_; (focus ((first | rfl | (refine decide_eq_false ?_; (omega)) | (simp [*]; done)); done))) | (refine k_any (s_anyD (id := 15) (tt := 4) rfl mixed ?_); refine jU 10 [1] (bts 11 2) ?_ ?_; (focus (repeat' (exact trivial))); (refine jG (bts 11 3) 0 rfl (g_ldA rfl rfl rfl rfl) ?_); (refine jG (bts 11 7) 2 rfl (g_lenL rfl) ?_); refine jU 6 [3, 4] (bts 11 31) ?_ ?_; (focus (repeat' (exact trivial))); (try (refine Nx.re (d := 87) (v' := Bo false) rfl (congrArg Value.bool rfl) ?_)); refine jU 5 [5] (bts 11 63) ?_ ?_; (focus (repeat' (exact trivial))); (refine jN (bts 11 127) 6 rfl ?_); (refine jN (bts 11 255) 7 rfl ?_); ((refine jG (bts 11 511) 8 rfl (g_pickF rfl rfl ?_) ?_; (focus ((rfl); done)))); refine jA 9 rfl ?_; (refine c_stA rfl rfl rfl rfl rfl rfl ?_); refine jK (bts 11 1023) ?_; refine jU 0 [10] (bts 11 2047) ?_ ?_; (focus (repeat' (exact trivial))); refine x_done (by kernel_rfl) (k_bk ?_)))
  all_goals refine jZ (vs := [_, _]) rfl ⟨rc_A rfl rfl rfl rfl, rfl, trivial⟩ rfl ⟨rfl, rfl, ?_⟩
  all_goals exact ⟨⟨m, b, d, []⟩, false, rfl, hyes⟩
theorem c_l3ReadField {s : List UInt8} {k : Nat} (h : s.length ≤ 1000) : PuG Tryz.prog 170 [S s, U8 k] G (FldPost s k) := by
 by_cases h2 : (cut 58 s).length = 2
 ·match e : cut 58 s, h2 with
  | [a, b], _ => exact c_l3ReadField2 h e
 by_cases h3 : (cut 58 s).length = 3
 ·match e : cut 58 s, h3 with
  | [a, b, c], _ => exact c_l3ReadField3 h e
 exact c_l3ReadField0 h h2 h3
end Go.E
