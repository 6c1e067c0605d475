/- The calculus of this seat's proofs: the rules of operations. Conditions: none. -/
import Derived.Test.YtcnkkjdnnajkbaaEngB
import Derived.Laws.Strings
import Derived.Laws.Cover1
import Derived.Laws.StructEq
import Derived.Lib.SmallJoins
namespace Go.E

/-! ## Values -/
abbrev S (l : List UInt8) : Value := .string ⟨l.toArray⟩
abbrev I (n : Int) : Value := .int .i64 n
abbrev U8 (n : Int) : Value := .int .u8 n
abbrev Bo (b : Bool) : Value := .bool b
abbrev Pt (b o : Nat) : Value := .pointer (some ⟨b, o, none⟩)
abbrev Ag (l : List Value) : Value := .agg l.toArray
abbrev Tu (l : List Value) : Value := .tuple l.toArray
abbrev nilS : Value := .slice none 0 0

theorem bsz (l : List UInt8) : (ByteArray.mk l.toArray).size = l.length := by simp [ByteArray.size]
theorem bext (l : List UInt8) (a b : Nat) : (ByteArray.mk l.toArray).extract a b = ⟨((l.take b).drop a).toArray⟩ := by
  have h : ((ByteArray.mk l.toArray).extract a b).data = (l.toArray).extract a b := by simp [ByteArray.data_extract]
  have : (ByteArray.mk l.toArray).extract a b = ⟨(l.toArray).extract a b⟩ := by
    cases hx : (ByteArray.mk l.toArray).extract a b; rw [hx] at h; simp only at h; rw [h]
  rw [this]; congr 1
  simp [List.take_drop]
  by_cases hab : a ≤ b
  · rw [show a + (b - a) = b by omega]
  · rw [List.drop_eq_nil_of_le (by simp; omega), List.drop_eq_nil_of_le (by simp; omega)]
theorem bapp (a b : List UInt8) : (ByteArray.mk a.toArray) ++ (ByteArray.mk b.toArray) = ⟨(a ++ b).toArray⟩ := by
  apply ByteArray.ext
  simp [ByteArray.data_append]

/-! ## Types -/
class TI (P : Program) (T : TypeId) (desc : outParam TypeDesc) (size bytes : outParam Nat) (zero : outParam Value) : Prop where
  und : P.underlying T = some desc
  inf : ∃ i, P.info? T = some i ∧ i.size = size ∧ i.bytes = bytes ∧ i.zero = some zero

section
variable {P : Program} {T : TypeId} {desc : TypeDesc} {size bytes : Nat} {zero : Value}
theorem run_und [h : TI P T desc size bytes zero] (w : World) : (underlying T).run P w = .ok desc w := by simp [underlying, h.und]
theorem run_sizeOf [h : TI P T desc size bytes zero] (w : World) : (sizeOf T).run P w = .ok size w := by
  obtain ⟨i, h1, h2, _, _⟩ := h.inf
  simp [sizeOf, typeInfo, h1, h2]
theorem run_zero [h : TI P T desc size bytes zero] (w : World) : (zeroValue T).run P w = .ok zero w := by
  obtain ⟨i, h1, _, _, h4⟩ := h.inf
  simp [zeroValue, typeInfo, h1, h4]
theorem run_bytes [h : TI P T desc size bytes zero] (w : World) : ∃ i, (typeInfo T).run P w = .ok i w ∧ i.bytes = bytes := by
  obtain ⟨i, h1, _, h3, _⟩ := h.inf
  exact ⟨i, by simp [typeInfo, h1], h3⟩
def aggD : TypeDesc → Bool
  | .struct _ | .array _ _ => true
  | _ => false
theorem run_isAgg [h : TI P T desc size bytes zero] (w : World) : (isAgg T).run P w = .ok (aggD desc) w := by
  unfold isAgg
  rw [Sem.run_bind, run_und (desc := desc) (size := size) (bytes := bytes) (zero := zero)]
  cases desc <;> rfl
end

/-- A struct's field lies at this offset (in cells). -/
class FA (P : Program) (T : TypeId) (f : Nat) (off : outParam Nat) : Prop where
  run : ∀ (b o : Nat) (w : World), (Instr.fieldAt T (.pointer (some ⟨b, o, none⟩)) f).run P w = .ok (.pointer (some ⟨b, o + off, none⟩)) w
def flds (P : Program) (T : TypeId) : Array Field :=
  match P.underlying T with
  | some (.struct fs) => fs
  | _ => #[]
theorem TI.mk' {P : Program} {T : TypeId} {desc : TypeDesc} {size bytes : Nat} {zero : Value} (h : P.underlying T = some desc) (h1 : (P.info? T).map (fun i => (i.size, i.bytes)) = some (size, bytes)) (h2 : (P.info? T).bind (·.zero) = some zero) : TI P T desc size bytes zero := ⟨h, by
  cases hi : P.info? T with
  | none => simp [hi] at h1
  | some i =>
    simp only [hi, Option.map_some, Option.some.injEq, Prod.mk.injEq] at h1
    simp only [hi, Option.bind_some] at h2
    exact ⟨i, rfl, h1.1, h1.2, h2⟩⟩
theorem FA.mk' {P : Program} {T : TypeId} {f off ft : Nat} {size bytes : Nat} {zero : Value} {desc' : TypeDesc} {size' bytes' : Nat} {zero' : Value} [TI P T (.struct (flds P T)) size bytes zero]
    (hf : ((flds P T)[f]?).map (fun fd => (fd.type, fd.offset)) = some (ft, off)) (_h' : TI P ft desc' size' bytes' zero') (hs : Nat.beq size' 0 = false) : FA P T f off := ⟨fun b o w => by
  have h0 : size' ≠ 0 := fun e => by subst e; simp at hs
  cases hfd : (flds P T)[f]? with
  | none => simp [hfd] at hf
  | some fd =>
    simp only [hfd, Option.map_some, Option.some.injEq, Prod.mk.injEq] at hf
    obtain ⟨rfl, rfl⟩ := hf
    simp [Instr.fieldAt, run_und (desc := .struct (flds P T)) (size := size) (bytes := bytes) (zero := zero), hfd, Instr.sureAddr, fieldPlace, run_sizeOf (desc := desc') (size := size') (bytes := bytes') (zero := zero'), h0, Addr.add]⟩

/-- A struct value's field: these cells (one, or some as an aggregate). -/
def cutF (agg : Bool) (off size : Nat) (cs : List Value) : Option Value :=
  match agg with
  | true => some (.agg ((cs.drop off).take size).toArray)
  | false => cs[off]?
class FV (P : Program) (T : TypeId) (f : Nat) (agg : outParam Bool) (off size : outParam Nat) : Prop where
  run : ∀ (cs : List Value) (v : Value) (w : World), cutF agg off size cs = some v → (Instr.field T (.agg cs.toArray) f).run P w = .ok v w
theorem run_part {P : Program} {T : TypeId} {desc : TypeDesc} {size bytes : Nat} {zero : Value} [TI P T desc size bytes zero] (cs : List Value) (off : Nat) (v : Value) (w : World) (hv : cutF (aggD desc) off size cs = some v) :
    (part T cs.toArray off).run P w = .ok v w := by
  unfold part
  rw [Sem.run_bind, run_isAgg (desc := desc) (size := size) (bytes := bytes) (zero := zero), Result.andThen_ok]
  cases hd : aggD desc with
  | true =>
    rw [hd] at hv
    simp only [cutF, Option.some.injEq] at hv
    simp only [if_true, Sem.run_bind, run_sizeOf (desc := desc) (size := size) (bytes := bytes) (zero := zero), Result.andThen_ok, Sem.run_pure]
    rw [← hv]
    congr 2
    simp [List.extract_eq_take_drop]
  | false =>
    rw [hd] at hv
    simp only [cutF] at hv
    simp [hv]
theorem FV.mk' {P : Program} {T : TypeId} {f off ft : Nat} {size bytes : Nat} {zero : Value} {desc' : TypeDesc} {size' bytes' : Nat} {zero' : Value} {agg : Bool} [TI P T (.struct (flds P T)) size bytes zero]
    (hf : ((flds P T)[f]?).map (fun fd => (fd.type, fd.offset)) = some (ft, off)) (_h' : TI P ft desc' size' bytes' zero') (ha : aggD desc' = agg) : FV P T f agg off size' := ⟨fun cs v w hv => by
  subst ha
  cases hfd : (flds P T)[f]? with
  | none => simp [hfd] at hf
  | some fd =>
    simp only [hfd, Option.map_some, Option.some.injEq, Prod.mk.injEq] at hf
    obtain ⟨rfl, rfl⟩ := hf
    simp [Instr.field, run_und (desc := .struct (flds P T)) (size := size) (bytes := bytes) (zero := zero), hfd, asAgg, run_part (desc := desc') (size := size') (bytes := bytes') (zero := zero') cs _ v w hv]⟩

/-! ## What is known of memory -/
class Kn (S : World → Prop) (G0 : outParam Gh) (L0 : outParam (List Own)) : Prop where
  kn : ∀ w, S w → ∃ B G L, Gh.le G0 G ∧ (∀ x ∈ L0, x ∈ L) ∧ St B G L w
instance (B : Base) (G : Gh) (L : List Own) : Kn (St B G L) G L := ⟨fun _ hw => ⟨B, G, L, Gh.le.refl G, fun _ h => h, hw⟩⟩
instance (B : Base) (G : Gh) (L : List Own) : Kn (Stab B G L) G L := ⟨fun _ ⟨G', L', h1, h2, h3⟩ => ⟨B, G', L', h1, h2, h3⟩⟩

structure CellOf (S : World → Prop) (b o : Nat) (v : Value) : Prop where
  go : ∀ w, S w → w.cell? ⟨b, o, none⟩ = some v
structure CellsOf (S : World → Prop) (b o : Nat) (vs : List Value) : Prop where
  go : ∀ (i : Nat) v, vs[i]? = some v → CellOf S b (o + i) v

theorem cell_of_heap {w : World} {b o : Nat} {cs : List Value} {ty : TypeId} {fr : Nat × Nat} {v : Value} (h : w.heap[b]? = some (.cells cs.toArray ty fr)) (hv : cs[o]? = some v) : w.cell? ⟨b, o, none⟩ = some v := by
  simp [World.cell?, h, hv]

theorem cells_own {S : World → Prop} {G0 : Gh} {L0 : List Own} [k : Kn S G0 L0] {b : Nat} {cs : List Value} {ty : TypeId} {fr : Nat × Nat} (hm : Own.blk b (.cells cs.toArray ty fr) ∈ L0) : CellsOf S b 0 cs := CellsOf.mk fun i v hv => CellOf.mk fun w hw => by
  obtain ⟨B, G, L, _, hL, hst⟩ := k.kn w hw
  have h := hst.own _ (hL _ hm)
  simp only [Nat.zero_add]
  exact cell_of_heap h hv
theorem cells_G {S : World → Prop} {G0 : Gh} {L0 : List Own} [k : Kn S G0 L0] {b : Nat} {cs : List Value} (hG : G0 b = some (.pre cs)) : CellsOf S b 0 cs := CellsOf.mk fun i v hv => CellOf.mk fun w hw => by
  obtain ⟨B, G, L, hle, _, hst⟩ := k.kn w hw
  obtain ⟨o, ho, hat⟩ := hst.ok b _ (hle b _ hG)
  cases o with
  | cells c ty fr =>
    obtain ⟨rest, rfl⟩ := hat
    simp only [Nat.zero_add]
    refine cell_of_heap ho ?_
    rw [List.getElem?_append_left (List.getElem?_eq_some_iff.1 hv).1]; exact hv
  | _ => exact hat.elim
def Seg (G : Gh) (b o : Nat) (vs : List Value) : Prop := ∃ cs, G b = some (.pre cs) ∧ ∀ i v, vs[i]? = some v → cs[o + i]? = some v
theorem Seg.mono {G G' : Gh} {b o : Nat} {vs : List Value} (h : Seg G b o vs) (hl : Gh.le G G') : Seg G' b o vs := ⟨h.choose, hl _ _ h.choose_spec.1, h.choose_spec.2⟩
theorem cells_seg {S : World → Prop} {G0 : Gh} {L0 : List Own} [Kn S G0 L0] {b o : Nat} {vs : List Value} (h : Seg G0 b o vs) : CellsOf S b o vs := CellsOf.mk fun i v hv => by
  obtain ⟨cs, h1, h2⟩ := h
  have := (cells_G (S := S) h1).go (o + i) v (h2 i v hv)
  simpa using this
theorem CellsOf.one {S : World → Prop} {b o : Nat} {vs : List Value} (h : CellsOf S b o vs) (i : Nat) {v : Value} (hv : vs[i]? = some v) : CellOf S b (o + i) v := h.go i v hv
theorem CellsOf.one0 {S : World → Prop} {b o : Nat} {vs : List Value} (h : CellsOf S b o vs) {v : Value} (hv : vs[0]? = some v) : CellOf S b o v := by have := h.go 0 v hv; simpa using this
theorem CellsOf.sub {S : World → Prop} {b o : Nat} {vs us : List Value} (h : CellsOf S b o vs) (i : Nat) (hu : ∀ j u, us[j]? = some u → vs[i + j]? = some u) : CellsOf S b (o + i) us := CellsOf.mk fun j u hj => by
  have := h.go (i + j) u (hu j u hj)
  rwa [← Nat.add_assoc] at this

theorem run_load {P : Program} {S : World → Prop} {b o : Nat} {v : Value} (h : CellOf S b o v) (w : World) (hw : S w) : (load ⟨b, o, none⟩).run P w = .ok v w := by
  rw [Go.run_load]; simp [h.go w hw]
theorem run_loadCellsFrom {P : Program} {S : World → Prop} {b o : Nat} : ∀ (vs : List Value) (i : Nat) (acc : Array Value) (w : World), CellsOf S b (o + i) vs → S w →
    (loadCellsFrom ⟨b, o, none⟩ i vs.length acc).run P w = .ok (acc ++ vs.toArray) w
  | [], i, acc, w, _, _ => by simp [loadCellsFrom]
  | v :: vs, i, acc, w, h, hw => by
    have h0 : CellOf S b (o + i) v := by have := h.go 0 v rfl; simpa using this
    have hadd : (⟨b, o, none⟩ : Addr).add i = ⟨b, o + i, none⟩ := by by_cases hi : i = 0 <;> simp [Addr.add, hi]
    simp only [List.length_cons, loadCellsFrom, hadd, Sem.run_bind, run_load h0 w hw, Result.andThen_ok]
    rw [run_loadCellsFrom vs (i + 1) _ w (CellsOf.mk fun j u hj => by have := h.go (j + 1) u (by simpa using hj); rw [show o + (i + 1) + j = o + i + (j + 1) by omega]; exact this) hw]
    simp
theorem run_loadCells {P : Program} {S : World → Prop} {b o : Nat} {vs : List Value} (h : CellsOf S b o vs) (w : World) (hw : S w) : (loadCells ⟨b, o, none⟩ vs.length).run P w = .ok vs.toArray w := by
  unfold loadCells
  rw [run_loadCellsFrom vs 0 #[] w (by simpa using h) hw]; simp
theorem run_loadVar1 {P : Program} {T : TypeId} {desc : TypeDesc} {size bytes : Nat} {zero : Value} [TI P T desc size bytes zero] {S : World → Prop} {b o : Nat} {v : Value} (ha : aggD desc = false) (h : CellOf S b o v) (w : World) (hw : S w) :
    (loadVar T ⟨b, o, none⟩).run P w = .ok v w := by
  unfold loadVar
  rw [Sem.run_bind, run_isAgg (desc := desc) (size := size) (bytes := bytes) (zero := zero), Result.andThen_ok, ha]
  exact run_load h w hw
theorem run_loadVarA {P : Program} {T : TypeId} {desc : TypeDesc} {size bytes : Nat} {zero : Value} [TI P T desc size bytes zero] {S : World → Prop} {b o : Nat} {vs : List Value} (ha : aggD desc = true) (hs : vs.length = size) (h : CellsOf S b o vs) (w : World) (hw : S w) :
    (loadVar T ⟨b, o, none⟩).run P w = .ok (.agg vs.toArray) w := by
  unfold loadVar
  rw [Sem.run_bind, run_isAgg (desc := desc) (size := size) (bytes := bytes) (zero := zero), Result.andThen_ok, ha]
  simp only [if_true, Sem.run_bind, run_sizeOf (desc := desc) (size := size) (bytes := bytes) (zero := zero), Result.andThen_ok]
  rw [← hs, run_loadCells h w hw]; rfl

/-! ## Operations that only yield -/
section
variable {n : Nat} {D : List Deferred} {E : Env} {P : Program} {M : World → Prop} {d : Option Nat} {ty : TypeId} {pos : String} {aft : Array Edge} {gd : Option (Nat × Bool)}

theorem g_move {x : Operand} {v : Value} (h : ev E x = some v) : Gives P n D E M ⟨d, .move x, ty, pos, aft, gd⟩ v := Gives.mk fun a w hs _ => by simp [execOp, hs.ev h]
theorem g_assign {x : Operand} {v : Value} (h : ev E x = some v) : Gives P n D E M ⟨d, .assign x, ty, pos, aft, gd⟩ v := Gives.mk fun a w hs _ => by simp [execOp, hs.ev h]
theorem g_pickT {c x y : Operand} {b : Bool} {v : Value} (hc : ev E c = some (.bool b)) (hx : ev E x = some v) (hb : b = true) : Gives P n D E M ⟨d, .pick c x y, ty, pos, aft, gd⟩ v := Gives.mk fun a w hs _ => by
  simp [execOp, hs.ev hc, hb, asBool, hs.ev hx]
theorem g_pickF {c x y : Operand} {b : Bool} {v : Value} (hc : ev E c = some (.bool b)) (hy : ev E y = some v) (hb : b = false) : Gives P n D E M ⟨d, .pick c x y, ty, pos, aft, gd⟩ v := Gives.mk fun a w hs _ => by
  simp [execOp, hs.ev hc, hb, asBool, hs.ev hy]
theorem g_nilc {x : Operand} {p : Addr} (h : ev E x = some (.pointer (some p))) : Gives P n D E M ⟨d, .nilCheck x, ty, pos, aft, gd⟩ (.pointer (some p)) := Gives.mk fun a w hs _ => by simp [execOp, hs.ev h]
theorem g_nilf {x : Operand} {f : FuncId} {fi ca : Array Value} (h : ev E x = some (.func (.func f) fi ca)) : Gives P n D E M ⟨d, .nilCheck x, ty, pos, aft, gd⟩ (.func (.func f) fi ca) := Gives.mk fun a w hs _ => by simp [execOp, hs.ev h]
theorem g_faddr {T : TypeId} {x : Operand} {f b o off : Nat} [h : FA P T f off] (hx : ev E x = some (Pt b o)) : Gives P n D E M ⟨d, .fieldAddr T x f, ty, pos, aft, gd⟩ (Pt b (o + off)) := Gives.mk fun a w hs _ => by
  simp [execOp, hs.ev hx, h.run b o w]
theorem g_field {T : TypeId} {x : Operand} {f off sz : Nat} {agg : Bool} {cs : List Value} {v : Value} [h : FV P T f agg off sz] (hx : ev E x = some (Ag cs)) (hv : cutF agg off sz cs = some v) : Gives P n D E M ⟨d, .field T x f, ty, pos, aft, gd⟩ v := Gives.mk fun a w hs _ => by
  simp [execOp, hs.ev hx, h.run cs v w hv]
theorem g_ext {x : Operand} {i : Nat} {vs : List Value} {v : Value} (hx : ev E x = some (Tu vs)) (hv : vs[i]? = some v) : Gives P n D E M ⟨d, .extract x i, ty, pos, aft, gd⟩ v := Gives.mk fun a w hs _ => by
  simp [execOp, hs.ev hx, Instr.extract, hv]
theorem g_load {T : TypeId} {x : Operand} {desc : TypeDesc} {size bytes : Nat} {zero : Value} {b o : Nat} {v : Value} [TI P T desc size bytes zero] (hx : ev E x = some (Pt b o)) (ha : aggD desc = false) (hc : CellOf M b o v) :
    Gives P n D E M ⟨d, .load T x, ty, pos, aft, gd⟩ v := Gives.mk fun a w hs hw => by
  simp [execOp, hs.ev hx, Instr.loadAt, Instr.sureAddr, run_loadVar1 (T := T) (desc := desc) (size := size) (bytes := bytes) (zero := zero) ha hc w hw]
theorem g_loadA {T : TypeId} {x : Operand} {desc : TypeDesc} {size bytes : Nat} {zero : Value} {b o : Nat} {vs : List Value} [TI P T desc size bytes zero] (hx : ev E x = some (Pt b o)) (ha : aggD desc = true) (hl : vs.length = size) (hc : CellsOf M b o vs) :
    Gives P n D E M ⟨d, .load T x, ty, pos, aft, gd⟩ (Ag vs) := Gives.mk fun a w hs hw => by
  simp [execOp, hs.ev hx, Instr.loadAt, Instr.sureAddr, run_loadVarA (T := T) (desc := desc) (size := size) (bytes := bytes) (zero := zero) ha hl hc w hw]
theorem g_iaddr {T el : TypeId} {x i : Operand} {desc' : TypeDesc} {size bytes size' bytes' : Nat} {zero zero' : Value} {k : IntKind} {m : Int} {b o len cap : Nat} [TI P T (.slice el) size bytes zero] [TI P el desc' size' bytes' zero']
    (hx : ev E x = some (.slice (some ⟨b, o, none⟩) len cap)) (hi : ev E i = some (.int k m)) (h0 : 0 ≤ m ∧ m < len) : Gives P n D E M ⟨d, .indexAddr T x i, ty, pos, aft, gd⟩ (Pt b (o + m.toNat * size')) := Gives.mk fun a w hs _ => by
  simp only [execOp, hs.ev hx, hs.ev hi, Instr.indexAt, asIntOf, Sem.run_bind, Sem.run_pure, Result.andThen_ok, run_und (desc := .slice el) (size := size) (bytes := bytes) (zero := zero)]
  rw [if_pos h0]
  simp only [Sem.run_bind, run_sizeOf (desc := desc') (size := size') (bytes := bytes') (zero := zero'), Result.andThen_ok, Sem.run_pure]
  by_cases hz : m.toNat * size' = 0 <;> simp [Addr.add, hz]
theorem g_iaddrN {T el : TypeId} {x i : Operand} {desc' : TypeDesc} {size bytes size' bytes' : Nat} {zero zero' : Value} {k : IntKind} {m : Nat} {b o len cap : Nat} [TI P T (.slice el) size bytes zero] [TI P el desc' size' bytes' zero']
    (hx : ev E x = some (.slice (some ⟨b, o, none⟩) len cap)) (hi : ev E i = some (.int k (m : Int))) (h0 : m < len) : Gives P n D E M ⟨d, .indexAddr T x i, ty, pos, aft, gd⟩ (Pt b (o + m * size')) := by
  have := g_iaddr (P := P) (n := n) (D := D) (M := M) (d := d) (ty := ty) (pos := pos) (aft := aft) (gd := gd) (T := T) (el := el) (desc' := desc') (size := size) (bytes := bytes) (size' := size') (bytes' := bytes') (zero := zero) (zero' := zero') hx hi (by omega)
  simpa using this
theorem g_sidx {T : TypeId} {x i : Operand} {size bytes : Nat} {zero : Value} {k : IntKind} {m : Int} {l : List UInt8} {c : UInt8} [TI P T .string size bytes zero] (hx : ev E x = some (S l)) (hi : ev E i = some (.int k m)) (h0 : 0 ≤ m) (hc : l[m.toNat]? = some c) :
    Gives P n D E M ⟨d, .index T x i, ty, pos, aft, gd⟩ (U8 c.toNat) := Gives.mk fun a w hs _ => by
  have h1 : (ByteArray.mk l.toArray)[m.toNat]? = some c := by
    have hlt : m.toNat < l.length := (List.getElem?_eq_some_iff.1 hc).1
    rw [getElem?_pos (ByteArray.mk l.toArray) m.toNat (by rw [bsz]; exact hlt)]
    have : l[m.toNat] = c := (List.getElem?_eq_some_iff.1 hc).2
    simp only [Option.some.injEq]
    rw [← this]; rfl
  simp [execOp, hs.ev hx, hs.ev hi, Instr.index, asIntOf, run_und (desc := .string) (size := size) (bytes := bytes) (zero := zero), h0, h1]

/-- slices of strings -/
theorem run_sliceBound {k : IntKind} {m : Int} {y : Nat} {code : BoundsCode} (h : 0 ≤ m ∧ m ≤ y) (w : World) : (Instr.sliceBound (.int k m) y code).run P w = .ok m.toNat w := by
  simp [Instr.sliceBound, asIntOf, h]
theorem g_sslFrom {T : TypeId} {x lo : Operand} {size bytes : Nat} {zero : Value} {k : IntKind} {m : Int} {l : List UInt8} [TI P T .string size bytes zero] (hx : ev E x = some (S l)) (hl : ev E lo = some (.int k m)) (h0 : 0 ≤ m ∧ m ≤ l.length) :
    Gives P n D E M ⟨d, .slice T x (some lo) none none, ty, pos, aft, gd⟩ (S (l.drop m.toNat)) := Gives.mk fun a w hs _ => by
  simp [execOp, hs.ev hx, hs.ev hl, Instr.sliceAt, Instr.slice, run_und (desc := .string) (size := size) (bytes := bytes) (zero := zero), Instr.sliceBounds, run_sliceBound (P := P) (m := m) (y := l.length) h0, bsz, bext]
theorem g_sslTo {T : TypeId} {x hi : Operand} {size bytes : Nat} {zero : Value} {k : IntKind} {m : Int} {l : List UInt8} [TI P T .string size bytes zero] (hx : ev E x = some (S l)) (hh : ev E hi = some (.int k m)) (h0 : 0 ≤ m ∧ m ≤ l.length) :
    Gives P n D E M ⟨d, .slice T x none (some hi) none, ty, pos, aft, gd⟩ (S (l.take m.toNat)) := Gives.mk fun a w hs _ => by
  simp [execOp, hs.ev hx, hs.ev hh, Instr.sliceAt, Instr.slice, run_und (desc := .string) (size := size) (bytes := bytes) (zero := zero), Instr.sliceBounds, run_sliceBound (P := P) (y := (ByteArray.mk l.toArray).size) (by rw [bsz]; exact h0), bext]
theorem g_sslBoth {T : TypeId} {x lo hi : Operand} {size bytes : Nat} {zero : Value} {k k' : IntKind} {m m' : Int} {l : List UInt8} [TI P T .string size bytes zero] (hx : ev E x = some (S l)) (hl : ev E lo = some (.int k m)) (hh : ev E hi = some (.int k' m'))
    (h0 : 0 ≤ m ∧ m ≤ m') (h1 : 0 ≤ m' ∧ m' ≤ l.length) : Gives P n D E M ⟨d, .slice T x (some lo) (some hi) none, ty, pos, aft, gd⟩ (S ((l.take m'.toNat).drop m.toNat)) := Gives.mk fun a w hs _ => by
  simp [execOp, hs.ev hx, hs.ev hl, hs.ev hh, Instr.sliceAt, Instr.slice, run_und (desc := .string) (size := size) (bytes := bytes) (zero := zero), Instr.sliceBounds, run_sliceBound (P := P) (m := m') (y := (ByteArray.mk l.toArray).size) (by rw [bsz]; exact h1),
    run_sliceBound (P := P) (m := m) (y := m'.toNat) (by omega), bext]
/-- slices of slices -/
def addO (b o k : Nat) : Option Addr := some ⟨b, o + k, none⟩
theorem g_slFrom {T el : TypeId} {x lo : Operand} {desc' : TypeDesc} {size bytes size' bytes' : Nat} {zero zero' : Value} {k : IntKind} {m : Int} {b o len cap : Nat} [TI P T (.slice el) size bytes zero] [TI P el desc' size' bytes' zero']
    (hx : ev E x = some (.slice (some ⟨b, o, none⟩) len cap)) (hl : ev E lo = some (.int k m)) (h0 : 0 ≤ m ∧ m ≤ len) : ∃ o', (m < cap → o' = o + m.toNat * size') ∧
    Gives P n D E M ⟨d, .slice T x (some lo) none none, ty, pos, aft, gd⟩ (.slice (some ⟨b, o', none⟩) (len - m.toNat) (cap - m.toNat)) := by
  refine ⟨if cap = m.toNat then o else o + m.toNat * size', fun hlt => by rw [if_neg (by omega)], Gives.mk fun a w hs _ => ?_⟩
  simp only [execOp, hs.ev hx, Option.map_some, Option.map_none, hs.ev hl, Instr.sliceAt, Instr.slice, Sem.run_bind, run_und (desc := .slice el) (size := size) (bytes := bytes) (zero := zero), Result.andThen_ok, Instr.sliceBounds, Sem.run_pure,
    run_sliceBound (P := P) (m := m) (y := len) h0, run_sizeOf (desc := desc') (size := size') (bytes := bytes') (zero := zero')]
  by_cases hc : cap = m.toNat
  · simp [hc]
  · rw [if_neg hc, if_neg hc]
    by_cases hz : m.toNat * size' = 0 <;> simp [Addr.add, hz]
theorem g_slTo {T el : TypeId} {x hi : Operand} {desc' : TypeDesc} {size bytes size' bytes' : Nat} {zero zero' : Value} {k : IntKind} {m : Int} {p : Option Addr} {len cap : Nat} [TI P T (.slice el) size bytes zero] [TI P el desc' size' bytes' zero']
    (hx : ev E x = some (.slice p len cap)) (hl : ev E hi = some (.int k m)) (h0 : 0 ≤ m ∧ m ≤ cap) :
    Gives P n D E M ⟨d, .slice T x none (some hi) none, ty, pos, aft, gd⟩ (.slice p m.toNat cap) := Gives.mk fun a w hs _ => by
  simp only [execOp, hs.ev hx, Option.map_some, Option.map_none, hs.ev hl, Instr.sliceAt, Instr.slice, Sem.run_bind, run_und (desc := .slice el) (size := size) (bytes := bytes) (zero := zero), Result.andThen_ok, Instr.sliceBounds, Sem.run_pure,
    run_sliceBound (P := P) (m := m) (y := cap) h0, run_sizeOf (desc := desc') (size := size') (bytes := bytes') (zero := zero')]
  by_cases hc : cap = 0
  · simp [hc]
  · rw [if_neg hc]
    cases p <;> simp [Addr.add]

/-! ### Integers -/
theorem lbeq (a b : List UInt8) : (a == b) = decide (a = b) := by rw [Bool.eq_iff_iff]; simp
theorem wrap_in {x : Int} (h : -9223372036854775808 ≤ x ∧ x ≤ 9223372036854775807) : IntKind.i64.wrap x = x := by
  simp only [IntKind.wrap, IntKind.bits, IntKind.signed]
  simp
  omega
theorem g_bin {op : BinOp} {T T' : TypeId} {x y : Operand} {u v r : Value} (hx : ev E x = some u) (hy : ev E y = some v) (h1 : eqGuard op T x y u v = pure ()) (h2 : ∀ w, (binOp op T u v).run P w = .ok r w) :
    Gives P n D E M ⟨d, .binOp op T x y T', ty, pos, aft, gd⟩ r := Gives.mk fun a w hs _ => by
  simp only [execOp, hs.ev hx, hs.ev hy, h1, Sem.run_bind, Sem.run_pure, Result.andThen_ok, h2]
theorem g_add {T T' : TypeId} {x y : Operand} {a b : Int} (hx : ev E x = some (I a)) (hy : ev E y = some (I b)) (h : -9223372036854775808 ≤ a + b ∧ a + b ≤ 9223372036854775807) : Gives P n D E M ⟨d, .binOp .add T x y T', ty, pos, aft, gd⟩ (I (a + b)) := g_bin hx hy rfl fun w => (show _ = Result.ok (I (IntKind.i64.wrap (a + b))) w from rfl).trans (by rw [wrap_in h])
theorem g_sub {T T' : TypeId} {x y : Operand} {a b : Int} (hx : ev E x = some (I a)) (hy : ev E y = some (I b)) (h : -9223372036854775808 ≤ a - b ∧ a - b ≤ 9223372036854775807) : Gives P n D E M ⟨d, .binOp .sub T x y T', ty, pos, aft, gd⟩ (I (a - b)) := g_bin hx hy rfl fun w => (show _ = Result.ok (I (IntKind.i64.wrap (a - b))) w from rfl).trans (by rw [wrap_in h])
theorem g_mul {T T' : TypeId} {x y : Operand} {a b : Int} (hx : ev E x = some (I a)) (hy : ev E y = some (I b)) (h : -9223372036854775808 ≤ a * b ∧ a * b ≤ 9223372036854775807) : Gives P n D E M ⟨d, .binOp .mul T x y T', ty, pos, aft, gd⟩ (I (a * b)) := g_bin hx hy rfl fun w => (show _ = Result.ok (I (IntKind.i64.wrap (a * b))) w from rfl).trans (by rw [wrap_in h])
theorem g_rem {T T' : TypeId} {x y : Operand} {a b : Int} (hx : ev E x = some (I a)) (hy : ev E y = some (I b)) (h : 0 ≤ a ∧ 0 < b) : Gives P n D E M ⟨d, .binOp .rem T x y T', ty, pos, aft, gd⟩ (I (a % b)) := g_bin hx hy rfl fun w => by
  have h1 : b ≠ 0 := by omega
  have h2 : binOp .rem T (I a) (I b) = Op.intDiv .rem .i64 a b := rfl
  rw [h2]; simp only [Op.intDiv, if_neg h1, Sem.run_pure, Int.tmod_eq_emod_of_nonneg h.1]
theorem g_quo {T T' : TypeId} {x y : Operand} {a b : Int} (hx : ev E x = some (I a)) (hy : ev E y = some (I b)) (h : 0 ≤ a ∧ 0 < b ∧ a ≤ 9223372036854775807) : Gives P n D E M ⟨d, .binOp .quo T x y T', ty, pos, aft, gd⟩ (I (a / b)) := g_bin hx hy rfl fun w => by
  have h1 : b ≠ 0 := by omega
  have h3 : 0 ≤ a / b := Int.ediv_nonneg h.1 (by omega)
  have h4 : a / b ≤ a := Int.ediv_le_self b h.1
  have h2 : binOp .quo T (I a) (I b) = Op.intDiv .quo .i64 a b := rfl
  rw [h2]; simp only [Op.intDiv, if_neg h1, Sem.run_pure, Int.tdiv_eq_ediv_of_nonneg h.1, wrap_in (x := a / b) (by omega)]
theorem g_addK {T T' : TypeId} {x y : Operand} {k : IntKind} {a b : Int} (hx : ev E x = some (.int k a)) (hy : ev E y = some (.int k b)) : Gives P n D E M ⟨d, .binOp .add T x y T', ty, pos, aft, gd⟩ (.int k (k.wrap (a + b))) := g_bin hx hy rfl fun w => by simp [binOp, Op.intArith]
theorem g_subK {T T' : TypeId} {x y : Operand} {k : IntKind} {a b : Int} (hx : ev E x = some (.int k a)) (hy : ev E y = some (.int k b)) : Gives P n D E M ⟨d, .binOp .sub T x y T', ty, pos, aft, gd⟩ (.int k (k.wrap (a - b))) := g_bin hx hy rfl fun w => by simp [binOp, Op.intArith]
theorem g_xorI {T T' : TypeId} {x y : Operand} {a b : Int} (hx : ev E x = some (I a)) (hy : ev E y = some (I b)) : Gives P n D E M ⟨d, .binOp .xor T x y T', ty, pos, aft, gd⟩ (I (IntKind.i64.wrap ((BitVec.ofInt 64 a ^^^ BitVec.ofInt 64 b).toNat))) := g_bin hx hy rfl fun _ => rfl
theorem g_shl {T T' : TypeId} {x y : Operand} {k k' : IntKind} {a b : Int} (hx : ev E x = some (.int k a)) (hy : ev E y = some (.int k' b)) (h : 0 ≤ b) : Gives P n D E M ⟨d, .binOp .shl T x y T', ty, pos, aft, gd⟩ (.int k (k.wrap (a * 2 ^ (min b.toNat k.bits)))) := g_bin hx hy rfl fun w => by
  have h2 : binOp .shl T (.int k a) (.int k' b) = Op.shift .shl k a k' b := rfl
  rw [h2]; simp only [Op.shift, if_neg (show ¬ b < 0 by omega), Sem.run_pure]
theorem g_shr {T T' : TypeId} {x y : Operand} {k k' : IntKind} {a b : Int} (hx : ev E x = some (.int k a)) (hy : ev E y = some (.int k' b)) (h : 0 ≤ b) : Gives P n D E M ⟨d, .binOp .shr T x y T', ty, pos, aft, gd⟩ (.int k (a.fdiv (2 ^ (min b.toNat k.bits)))) := g_bin hx hy rfl fun w => by
  have h2 : binOp .shr T (.int k a) (.int k' b) = Op.shift .shr k a k' b := rfl
  rw [h2]; simp only [Op.shift, if_neg (show ¬ b < 0 by omega), Sem.run_pure]
theorem g_eql {T T' : TypeId} {x y : Operand} {k : IntKind} {a b : Int} (hx : ev E x = some (.int k a)) (hy : ev E y = some (.int k b)) : Gives P n D E M ⟨d, .binOp .eql T x y T', ty, pos, aft, gd⟩ (Bo (decide (a = b))) := g_bin hx hy rfl fun w => by
  have h2 : binOp .eql T (.int k a) (.int k b) = Op.intCmp .eql a b := by simp [binOp]
  rw [h2]; simp [Op.intCmp]; rfl
theorem g_neq {T T' : TypeId} {x y : Operand} {k : IntKind} {a b : Int} (hx : ev E x = some (.int k a)) (hy : ev E y = some (.int k b)) : Gives P n D E M ⟨d, .binOp .neq T x y T', ty, pos, aft, gd⟩ (Bo (decide (a ≠ b))) := g_bin hx hy rfl fun w => by
  have h2 : binOp .neq T (.int k a) (.int k b) = Op.intCmp .neq a b := by simp [binOp]
  rw [h2]; simp [Op.intCmp]; rfl
theorem g_lss {T T' : TypeId} {x y : Operand} {k : IntKind} {a b : Int} (hx : ev E x = some (.int k a)) (hy : ev E y = some (.int k b)) : Gives P n D E M ⟨d, .binOp .lss T x y T', ty, pos, aft, gd⟩ (Bo (decide (a < b))) := g_bin hx hy rfl fun w => by
  have h2 : binOp .lss T (.int k a) (.int k b) = Op.intCmp .lss a b := by simp [binOp]
  rw [h2]; simp [Op.intCmp]
theorem g_leq {T T' : TypeId} {x y : Operand} {k : IntKind} {a b : Int} (hx : ev E x = some (.int k a)) (hy : ev E y = some (.int k b)) : Gives P n D E M ⟨d, .binOp .leq T x y T', ty, pos, aft, gd⟩ (Bo (decide (a ≤ b))) := g_bin hx hy rfl fun w => by
  have h2 : binOp .leq T (.int k a) (.int k b) = Op.intCmp .leq a b := by simp [binOp]
  rw [h2]; simp [Op.intCmp]
theorem g_gtr {T T' : TypeId} {x y : Operand} {k : IntKind} {a b : Int} (hx : ev E x = some (.int k a)) (hy : ev E y = some (.int k b)) : Gives P n D E M ⟨d, .binOp .gtr T x y T', ty, pos, aft, gd⟩ (Bo (decide (b < a))) := g_bin hx hy rfl fun w => by
  have h2 : binOp .gtr T (.int k a) (.int k b) = Op.intCmp .gtr a b := by simp [binOp]
  rw [h2]; simp [Op.intCmp]
theorem g_geq {T T' : TypeId} {x y : Operand} {k : IntKind} {a b : Int} (hx : ev E x = some (.int k a)) (hy : ev E y = some (.int k b)) : Gives P n D E M ⟨d, .binOp .geq T x y T', ty, pos, aft, gd⟩ (Bo (decide (b ≤ a))) := g_bin hx hy rfl fun w => by
  have h2 : binOp .geq T (.int k a) (.int k b) = Op.intCmp .geq a b := by simp [binOp]
  rw [h2]; simp [Op.intCmp]
theorem g_conv {T T' : TypeId} {x : Operand} {k k' : IntKind} {size bytes size' bytes' : Nat} {zero zero' : Value} {a : Int} [TI P T (.int k) size bytes zero] [TI P T' (.int k') size' bytes' zero'] (hx : ev E x = some (.int k a)) :
    Gives P n D E M ⟨d, .convert T T' x, ty, pos, aft, gd⟩ (.int k' (k'.wrap a)) := Gives.mk fun _ w hs _ => by
  simp [execOp, hs.ev hx, convert, run_und (T := T) (desc := .int k) (size := size) (bytes := bytes) (zero := zero), run_und (T := T') (desc := .int k') (size := size') (bytes := bytes') (zero := zero'), Conv.intToInt]
theorem g_convI {T T' : TypeId} {x : Operand} {k : IntKind} {size bytes size' bytes' : Nat} {zero zero' : Value} {a : Int} [TI P T (.int k) size bytes zero] [TI P T' (.int .i64) size' bytes' zero'] (hx : ev E x = some (.int k a)) (h : -9223372036854775808 ≤ a ∧ a ≤ 9223372036854775807) :
    Gives P n D E M ⟨d, .convert T T' x, ty, pos, aft, gd⟩ (I a) := Gives.mk fun _ w hs _ => by
  simp [execOp, hs.ev hx, convert, run_und (T := T) (desc := .int k) (size := size) (bytes := bytes) (zero := zero), run_und (T := T') (desc := .int .i64) (size := size') (bytes := bytes') (zero := zero'), Conv.intToInt, wrap_in h]
theorem g_neg {T : TypeId} {x : Operand} {a : Int} (hx : ev E x = some (I a)) (h : -9223372036854775808 ≤ 0 - a ∧ 0 - a ≤ 9223372036854775807) : Gives P n D E M ⟨d, .unOp .neg T x, ty, pos, aft, gd⟩ (I (-a)) := Gives.mk fun _ w hs _ => by
  have : IntKind.i64.wrap (-a) = -a := wrap_in (by omega)
  simp [execOp, hs.ev hx, Op.unary, Op.intArith, this]

/-! ### Bools, strings -/
theorem g_not {T : TypeId} {x : Operand} {b : Bool} (hx : ev E x = some (.bool b)) : Gives P n D E M ⟨d, .unOp .not T x, ty, pos, aft, gd⟩ (Bo (!b)) := Gives.mk fun _ w hs _ => by
  simp [execOp, hs.ev hx, Op.unary]
theorem g_seql {T T' : TypeId} {x y : Operand} {a b : List UInt8} (hx : ev E x = some (S a)) (hy : ev E y = some (S b)) : Gives P n D E M ⟨d, .binOp .eql T x y T', ty, pos, aft, gd⟩ (Bo (decide (a = b))) := g_bin hx hy rfl fun w => by
  have h2 : binOp .eql T (S a) (S b) = Op.stringOp .eql ⟨a.toArray⟩ ⟨b.toArray⟩ := rfl
  rw [h2]; simp [Op.stringOp, lbeq]
theorem g_sneq {T T' : TypeId} {x y : Operand} {a b : List UInt8} (hx : ev E x = some (S a)) (hy : ev E y = some (S b)) : Gives P n D E M ⟨d, .binOp .neq T x y T', ty, pos, aft, gd⟩ (Bo (decide (a ≠ b))) := g_bin hx hy rfl fun w => by
  have h2 : binOp .neq T (S a) (S b) = Op.stringOp .neq ⟨a.toArray⟩ ⟨b.toArray⟩ := rfl
  rw [h2]; simp [Op.stringOp, lbeq]
theorem g_slss {T T' : TypeId} {x y : Operand} {a b : List UInt8} (hx : ev E x = some (S a)) (hy : ev E y = some (S b)) : Gives P n D E M ⟨d, .binOp .lss T x y T', ty, pos, aft, gd⟩ (Bo (Op.bytesLess a b)) := g_bin hx hy rfl fun w => by
  have h2 : binOp .lss T (S a) (S b) = Op.stringOp .lss ⟨a.toArray⟩ ⟨b.toArray⟩ := rfl
  rw [h2]; simp [Op.stringOp]
theorem g_sgeq {T T' : TypeId} {x y : Operand} {a b : List UInt8} (hx : ev E x = some (S a)) (hy : ev E y = some (S b)) : Gives P n D E M ⟨d, .binOp .geq T x y T', ty, pos, aft, gd⟩ (Bo (!Op.bytesLess a b)) := g_bin hx hy rfl fun w => by
  have h2 : binOp .geq T (S a) (S b) = Op.stringOp .geq ⟨a.toArray⟩ ⟨b.toArray⟩ := rfl
  rw [h2]; simp [Op.stringOp]
theorem g_sgtr {T T' : TypeId} {x y : Operand} {a b : List UInt8} (hx : ev E x = some (S a)) (hy : ev E y = some (S b)) : Gives P n D E M ⟨d, .binOp .gtr T x y T', ty, pos, aft, gd⟩ (Bo (!(Op.bytesLess a b || decide (a = b)))) := g_bin hx hy rfl fun w => by
  have h2 : binOp .gtr T (S a) (S b) = Op.stringOp .gtr ⟨a.toArray⟩ ⟨b.toArray⟩ := rfl
  rw [h2]; simp [Op.stringOp, lbeq]
theorem g_sadd {T T' : TypeId} {x y : Operand} {a b : List UInt8} (hx : ev E x = some (S a)) (hy : ev E y = some (S b)) (h : a.length + b.length ≤ 9223372036854775807) : Gives P n D E M ⟨d, .binOp .add T x y T', ty, pos, aft, gd⟩ (S (a ++ b)) := g_bin hx hy rfl fun w => by
  have h2 : binOp .add T (S a) (S b) = Op.stringOp .add ⟨a.toArray⟩ ⟨b.toArray⟩ := rfl
  have h3 : ¬ ((((ByteArray.mk a.toArray).size + (ByteArray.mk b.toArray).size : Nat) : Int) > IntKind.i64.max) := by
    rw [bsz, bsz, show IntKind.i64.max = 9223372036854775807 from rfl]; omega
  rw [h2]; simp only [Op.stringOp, if_neg h3, Sem.run_pure, bapp]
theorem g_beql {T T' : TypeId} {x y : Operand} {size bytes : Nat} {zero : Value} {a b : Bool} [TI P T .bool size bytes zero] (hx : ev E x = some (.bool a)) (hy : ev E y = some (.bool b)) : Gives P n D E M ⟨d, .binOp .eql T x y T', ty, pos, aft, gd⟩ (Bo (decide (a = b))) := g_bin hx hy rfl fun w => by
  have h2 : binOp .eql T (.bool a) (.bool b) = (do pure (.bool ((← Op.equal T (.bool a) (.bool b))))) := rfl
  have h4 : ∀ m, (Op.equalIn (m + 1) T (.bool a) (.bool b)).run P w = .ok (a == b) w := fun m => by simp [Op.equalIn, run_und (T := T) (desc := .bool) (size := size) (bytes := bytes) (zero := zero)]
  have h3 : (Op.equal T (.bool a) (.bool b)).run P w = .ok (a == b) w := h4 9999
  rw [h2, Sem.run_bind, h3]
  cases a <;> cases b <;> rfl
theorem g_bneq {T T' : TypeId} {x y : Operand} {size bytes : Nat} {zero : Value} {a b : Bool} [TI P T .bool size bytes zero] (hx : ev E x = some (.bool a)) (hy : ev E y = some (.bool b)) : Gives P n D E M ⟨d, .binOp .neq T x y T', ty, pos, aft, gd⟩ (Bo (decide (a ≠ b))) := g_bin hx hy rfl fun w => by
  have h2 : binOp .neq T (.bool a) (.bool b) = (do pure (.bool (!(← Op.equal T (.bool a) (.bool b))))) := rfl
  have h4 : ∀ m, (Op.equalIn (m + 1) T (.bool a) (.bool b)).run P w = .ok (a == b) w := fun m => by simp [Op.equalIn, run_und (T := T) (desc := .bool) (size := size) (bytes := bytes) (zero := zero)]
  have h3 : (Op.equal T (.bool a) (.bool b)).run P w = .ok (a == b) w := h4 9999
  rw [h2, Sem.run_bind, h3]
  cases a <;> cases b <;> rfl
theorem g_peq0 {T T' el : TypeId} {x y : Operand} {size bytes : Nat} {zero : Value} {p : Option Addr} [TI P T (.pointer el) size bytes zero] (hx : ev E x = some (.pointer p)) (hy : ev E y = some (.pointer none)) : Gives P n D E M ⟨d, .binOp .eql T x y T', ty, pos, aft, gd⟩ (Bo p.isNone) := g_bin hx hy rfl fun w => by
  have h2 : binOp .eql T (.pointer p) (.pointer none) = (do pure (.bool ((← Op.equal T (.pointer p) (.pointer none))))) := rfl
  have h4 : ∀ m, (Op.equalIn (m + 1) T (.pointer p) (.pointer none)).run P w = .ok p.isNone w := fun m => by cases p <;> simp [Op.equalIn, run_und (T := T) (desc := .pointer el) (size := size) (bytes := bytes) (zero := zero)]
  have h3 : (Op.equal T (.pointer p) (.pointer none)).run P w = .ok p.isNone w := h4 9999
  rw [h2, Sem.run_bind, h3]
  cases p <;> rfl
theorem g_pne0 {T T' el : TypeId} {x y : Operand} {size bytes : Nat} {zero : Value} {p : Option Addr} [TI P T (.pointer el) size bytes zero] (hx : ev E x = some (.pointer p)) (hy : ev E y = some (.pointer none)) : Gives P n D E M ⟨d, .binOp .neq T x y T', ty, pos, aft, gd⟩ (Bo p.isSome) := g_bin hx hy rfl fun w => by
  have h2 : binOp .neq T (.pointer p) (.pointer none) = (do pure (.bool (!(← Op.equal T (.pointer p) (.pointer none))))) := rfl
  have h4 : ∀ m, (Op.equalIn (m + 1) T (.pointer p) (.pointer none)).run P w = .ok p.isNone w := fun m => by cases p <;> simp [Op.equalIn, run_und (T := T) (desc := .pointer el) (size := size) (bytes := bytes) (zero := zero)]
  have h3 : (Op.equal T (.pointer p) (.pointer none)).run P w = .ok p.isNone w := h4 9999
  rw [h2, Sem.run_bind, h3]
  cases p <;> rfl

/-! ### Builtins that only yield -/
theorem g_lenS {x : Operand} {T : TypeId} {size bytes : Nat} {zero : Value} {l : List UInt8} [TI P T .string size bytes zero] (hx : ev E x = some (S l)) : Gives P n D E M ⟨d, .call ⟨.builtin .len, [x].toArray, [T].toArray⟩, ty, pos, aft, gd⟩ (I l.length) := Gives.mk fun a w hs _ => by
  simp [execOp, resolve, hs.ev hx, invoke, builtin, Builtin.len_, run_und (T := T) (desc := .string) (size := size) (bytes := bytes) (zero := zero), goInt, bsz]
theorem g_lenL {x : Operand} {T el : TypeId} {size bytes : Nat} {zero : Value} {p : Option Addr} {len cap : Nat} [TI P T (.slice el) size bytes zero] (hx : ev E x = some (.slice p len cap)) : Gives P n D E M ⟨d, .call ⟨.builtin .len, [x].toArray, [T].toArray⟩, ty, pos, aft, gd⟩ (I len) := Gives.mk fun a w hs _ => by
  simp [execOp, resolve, hs.ev hx, invoke, builtin, Builtin.len_, run_und (T := T) (desc := .slice el) (size := size) (bytes := bytes) (zero := zero), goInt]
theorem g_mkf {f : FuncId} {fi ca : List Operand} {vf vc : List Value} (hf : evs E fi = some vf) (hc : evs E ca = some vc) : Gives P n D E M ⟨d, .makeFunc (.func f) fi.toArray ca.toArray, ty, pos, aft, gd⟩ (.func (.func f) vf.toArray vc.toArray) := Gives.mk fun a w hs _ => by
  simp [execOp, Instr.makeFunc, hs.evs hf, hs.evs hc]
end
end Go.E
