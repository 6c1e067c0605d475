/- The calculus of this seat's proofs: slices that a call appends to, memory that is sealed. Conditions: none. -/
import Derived.Test.YtcnkkjdnnajkbaaEngD
import Derived.Laws.AppendOwn
namespace Go.E

/-! ## Assertions that change their form -/
theorem St.conv {B G w x y R} (h : St B G (x :: R) w) (hbk : y.bk = x.bk) (hat : y.at w) : St B G (y :: R) w := by
  have e : bks (y :: R) = bks (x :: R) := by simp [bks, hbk]
  exact ⟨h.ok, fun z hz => by rcases List.mem_cons.1 hz with rfl | hz; exact hat; exact h.own z (List.mem_cons_of_mem _ hz), fun b hb => h.fresh b (e ▸ hb), e ▸ h.nd, h.os, h.tape, h.output, h.size, h.frame⟩
theorem St.addNil {B G w L} (h : St B G L w) (ty : TypeId) (sz : Nat) : St B G (.acc nilS ty sz 0 [] :: L) w := by
  have e : bks (.acc nilS ty sz 0 [] :: L) = bks L := by simp [bks, Own.bk, vbk]
  exact ⟨h.ok, fun z hz => by rcases List.mem_cons.1 hz with rfl | hz; exact ⟨by simp, .inl ⟨rfl, rfl⟩⟩; exact h.own z hz, fun b hb => h.fresh b (e ▸ hb), e ▸ h.nd, h.os, h.tape, h.output, h.size, h.frame⟩
/-- The block of an assertion is written. -/
theorem St.upd {B G R w w'} {x y : Own} {b : Nat} (h : St B G (x :: R) w) (hx : x.bk = [b]) (hy : y.bk = [b]) (hat : y.at w') (hs : ∀ c, c ≠ b → w'.heap[c]? = w.heap[c]?)
    (ho : w'.os = w.os) (ht : w'.tape = w.tape) (hou : w'.output = w.output) (hsz : w'.heap.size = w.heap.size) : St B G (y :: R) w' := by
  have e : bks (y :: R) = bks (x :: R) := by simp only [bks, List.flatMap_cons, hx, hy]
  have hfr := h.fresh b (mem_bks.2 ⟨x, List.mem_cons_self, by rw [hx]; exact List.mem_singleton.2 rfl⟩)
  have hnd : b ∉ bks R := by
    have := h.nd
    simp only [bks, List.flatMap_cons, hx, List.singleton_append, List.nodup_cons] at this
    exact this.1
  refine ⟨fun c g hc => ?_, fun z hz => ?_, fun c hc => h.fresh c (e ▸ hc), e ▸ h.nd, ho.trans h.os, ht.trans h.tape, hou.trans h.output, by rw [hsz]; exact h.size, fun c hc hW => ?_⟩
  · obtain ⟨o2, h3, h4⟩ := h.ok c g hc
    have : c ≠ b := fun e => by subst e; rw [hfr.1] at hc; cases hc
    exact ⟨o2, by rw [hs c this]; exact h3, h4⟩
  · rcases List.mem_cons.1 hz with rfl | hz
    · exact hat
    · refine Own.at_same (h.own z (List.mem_cons_of_mem _ hz)) fun c hc => hs c fun e => ?_
      have hzb := mem_bks.2 ⟨z, hz, hc⟩
      subst e
      exact hnd hzb
  · have : c ≠ b := fun e => by
      subst e
      rcases hfr.2 with h3 | h3
      · omega
      · exact hW h3
    rw [hs c this]; exact h.frame c hc hW

theorem AccAt.one {w v ty sz n xs} (h : AccAt w v ty sz n xs) : v.oneCell' = true := by
  obtain ⟨_, ⟨rfl, _⟩ | ⟨b, cap, rest, rfl, _⟩⟩ := h <;> rfl

section
variable {n : Nat} {D : List Deferred} {E : Env} {B : Base} {G : Gh} {L : List Own} {P : Program}
variable {Q : Exit → Act → World → Prop} {K : Act → World → Prop}
variable {d : Nat} {ty : TypeId} {pos : String} {aft : Array Edge} {gd : Option (Nat × Bool)}

theorem Nx.addNil (T : TypeId) (sz : Nat) (h : Nx n D E B G (.acc nilS T sz 0 [] :: L) K) : Nx n D E B G L K := Nx.mk fun a w hs hw => h.go a w hs (hw.addNil T sz)
/-- What an owned slice's value is. -/
theorem Nx.acc {v : Value} {T : TypeId} {sz m : Nat} {xs : List Value} (hm : Own.acc v T sz m xs ∈ L)
    (h : xs.length = m * sz → (v = nilS ∧ m = 0 ∨ ∃ b cap, v = .slice (some ⟨b, 0, none⟩) m cap ∧ m ≤ cap) → Nx n D E B G L K) : Nx n D E B G L K := Nx.mk fun a w hs hw => by
  obtain ⟨h1, h2⟩ : AccAt w v T sz m xs := hw.own _ hm
  exact (h h1 (h2.imp id fun ⟨b, cap, rest, e, hc, _⟩ => ⟨b, cap, e, hc⟩)).go a w hs hw
theorem Nx.acc1 {v : Value} {T : TypeId} {sz m : Nat} {xs : List Value} (hm : Own.acc v T sz m xs ∈ L) (h : v.oneCell' = true → Nx n D E B G L K) : Nx n D E B G L K :=
  Nx.fact (fun _ hw => AccAt.one (hw.own _ hm)) h

/-- A slice's own cells, as a source or as what is read. -/
def SrcOf (S : World → Prop) (size : Nat) (src : Value) (m : Nat) (news : List Value) : Prop :=
  (src = nilS ∧ m = 0 ∧ news = []) ∨ ∃ b o c, src = .slice (some ⟨b, o, none⟩) m c ∧ news.length = m * size ∧ CellsOf S b o news

theorem src_nil {S : World → Prop} {size : Nat} : SrcOf S size nilS 0 [] := .inl ⟨rfl, rfl, rfl⟩
theorem src_cells {S : World → Prop} {size b o m c : Nat} {news : List Value} (hl : Nat.beq news.length (m * size) = true) (h : CellsOf S b o news) : SrcOf S size (.slice (some ⟨b, o, none⟩) m c) m news := .inr ⟨b, o, c, rfl, Nat.eq_of_beq_eq_true hl, h⟩
theorem cells_acc {S : World → Prop} {G0 : Gh} {L0 : List Own} [k : Kn S G0 L0] {b m cap : Nat} {T : TypeId} {sz : Nat} {xs : List Value} (hm : Own.acc (.slice (some ⟨b, 0, none⟩) m cap) T sz m xs ∈ L0) : CellsOf S b 0 xs := CellsOf.mk fun i v hv => CellOf.mk fun w hw => by
  obtain ⟨B, G, L, _, hL, hst⟩ := k.kn w hw
  obtain ⟨_, ⟨h, _⟩ | ⟨b', cap', rest, h, _, _, h2⟩⟩ : AccAt w _ T sz m xs := hst.own _ (hL _ hm)
  · cases h
  · simp only [Value.slice.injEq, Option.some.injEq, Addr.mk.injEq] at h
    obtain ⟨⟨rfl, _, _⟩, _, _⟩ := h
    simp only [Nat.zero_add]
    refine cell_of_heap h2 ?_
    rw [List.getElem?_append_left (List.getElem?_eq_some_iff.1 hv).1]; exact hv
theorem src_acc {S : World → Prop} {G0 : Gh} {L0 : List Own} [k : Kn S G0 L0] {v : Value} {m : Nat} {T : TypeId} {sz : Nat} {xs : List Value} (hm : Own.acc v T sz m xs ∈ L0)
    (hv : v = nilS ∧ m = 0 ∨ ∃ b cap, v = .slice (some ⟨b, 0, none⟩) m cap ∧ m ≤ cap) (hl : xs.length = m * sz) : SrcOf S sz v m xs := by
  rcases hv with ⟨rfl, rfl⟩ | ⟨b, cap, rfl, _⟩
  · exact .inl ⟨rfl, rfl, by simpa using hl⟩
  · exact .inr ⟨b, 0, cap, rfl, hl, cells_acc hm⟩

theorem growBy_le (nl : Nat) : ∀ (r c : Nat), c ≤ 2 * nl + 768 → Builtin.growBy nl r c ≤ 2 * nl + 768
  | 0, c, h => h
  | r + 1, c, h => by
    simp only [Builtin.growBy]
    split
    · exact h
    · exact growBy_le nl r _ (by omega)
theorem nextslicecap_le (need cap : Nat) (h : cap < need) : Builtin.nextslicecap need cap ≤ 2 * need + 768 := by
  unfold Builtin.nextslicecap
  split
  · omega
  · split
    · omega
    · exact growBy_le _ _ _ (by omega)

theorem zeroCells_eq (zs : List Value) (k : Nat) : Builtin.zeroCells zs.toArray k = (zerosL zs k).toArray := by
  unfold Builtin.zeroCells
  have := range_zeros zs k
  simpa using this

theorem addr_add (b o k : Nat) : (⟨b, o, none⟩ : Addr).add k = ⟨b, o + k, none⟩ := by by_cases hi : k = 0 <;> simp [Addr.add, hi]

theorem run_append {v src : Value} {m k : Nat} {T el : TypeId} {desc : TypeDesc} {size bytes s1 b1 : Nat} {z1 zero : Value} {zs xs news : List Value} {w : World} [h1' : TI P T (.slice el) s1 b1 z1] [he : TI P el desc size bytes zero]
    (hz : zero.cells = zs.toArray) (hzl : zs.length = size) (hb0 : bytes ≠ 0) (hb : (2 * (m + k) + 768) * bytes ≤ 281474976710656)
    {R : List Own} (hw : St B G (.acc v el size m xs :: R) w) (hsrc : SrcOf (St B G (.acc v el size m xs :: R)) size src k news) (h1 : all1 news = true) :
    ∃ v' w', (Builtin.append_ #[T, T] ty #[v, src]).run P w = .ok v' w' ∧ St B G (.acc v' el size (m + k) (xs ++ news) :: R) w' := by
  obtain ⟨hxl, hacc⟩ : AccAt w v el size m xs := hw.own _ List.mem_cons_self
  obtain ⟨ie, hi, hsz, hby, hze⟩ := he.inf
  have ht := h1'.und
  have hsmall : m + k ≤ 281474976710656 := by
    have : (2 * (m + k) + 768) * 1 ≤ (2 * (m + k) + 768) * bytes := Nat.mul_le_mul_left _ (by omega)
    omega
  have h1s : ∀ u ∈ news, u.oneCell' = true := by
    clear hsrc
    induction news with
    | nil => intro u hu; cases hu
    | cons x r ih =>
      simp only [all1, Bool.and_eq_true] at h1
      intro u hu
      rcases List.mem_cons.1 hu with rfl | hu
      · exact h1.1
      · exact ih h1.2 u hu
  have mk : ∀ nc, m + k ≤ nc → (w.drew.alloc (.cells (xs ++ news ++ zerosL zs (nc - (m + k))).toArray el)).heap.size = w.heap.size + 1 → news.length = k * size →
      St B G (.acc (.slice (some ⟨w.heap.size, 0, none⟩) (m + k) nc) el size (m + k) (xs ++ news) :: R) (w.drew.alloc (.cells (xs ++ news ++ zerosL zs (nc - (m + k))).toArray el)) := by
    intro nc hnc _ hnl
    have h2 := hw.drew.alloc (.cells (xs ++ news ++ zerosL zs (nc - (m + k))).toArray el)
    have h3 : St B G (.blk w.drew.heap.size (.cells (xs ++ news ++ zerosL zs (nc - (m + k))).toArray el) :: R) _ := h2.weaken (.cons_cons _ (List.sublist_cons_self _ _))
    refine h3.conv rfl ⟨by simp [hxl, hnl, Nat.add_mul], .inr ⟨_, nc, zerosL zs (nc - (m + k)), rfl, hnc, ?_, h3.own _ List.mem_cons_self⟩⟩
    simp only [List.length_append, hxl, hnl, zerosL_length, hzl]
    rw [← Nat.add_mul, ← Nat.add_mul]; congr 1; omega
  rcases hsrc with ⟨rfl, rfl, rfl⟩ | ⟨sb, so, sc, rfl, hnl, hcs⟩
  · -- nothing is appended
    refine ⟨v, w, ?_, by simpa using hw⟩
    rcases hacc with ⟨rfl, rfl⟩ | ⟨b, cap, rest, rfl, hmc, hrl, hblk⟩
    · simp [Builtin.append_, run_underlying ht, sizeOf, typeInfo, hi, Builtin.lenOf, Builtin.firstCells]
    · simp [Builtin.append_, run_underlying ht, sizeOf, typeInfo, hi, Builtin.lenOf, Builtin.firstCells, hmc, storeCells]
  · have hnews : ∀ (w : World), St B G (.acc v el size m xs :: R) w → ∀ j u, news[j]? = some u → w.cell? ((⟨sb, so, none⟩ : Addr).add j) = some u := fun w hw j u hj => by
      rw [addr_add]; exact (hcs.go j u hj).go w hw
    rcases hacc with ⟨rfl, rfl⟩ | ⟨b, cap, rest, rfl, hmc, hrl, hblk⟩
    · have hx0 : xs = [] := by simpa using hxl
      subst hx0
      by_cases hk : k = 0
      · subst hk
        have hn0 : news = [] := by simpa using hnl
        subst hn0
        refine ⟨nilS, w, ?_, hw⟩
        simp [Builtin.append_, run_underlying ht, sizeOf, typeInfo, hi, Builtin.lenOf, Builtin.firstCells, loadCells, loadCellsFrom]
      · have hbb : k * ie.bytes ≤ 281474976710656 := by
          rw [hby]
          have : k * bytes ≤ (2 * (0 + k) + 768) * bytes := Nat.mul_le_mul_right _ (by omega)
          omega
        have hr := run_append_nil (P := P) w T ty el ie zero ht hi hze ⟨sb, so, none⟩ k sc news (by rw [hsz]; exact hnl) (hnews w hw) (by omega) (by omega) hbb
        rw [hz, zeroCells_eq] at hr
        have := mk (grownCap w k 0 el) (by simpa using grownCap_ge w k 0 el) (by simp) hnl
        simp only [Nat.zero_add, List.nil_append, List.append_toArray] at this hr ⊢
        exact ⟨_, _, hr, this⟩
    · by_cases hfit : m + k ≤ cap
      · have hrest : news.length ≤ rest.length := by
          have : (m + k) * size ≤ cap * size := Nat.mul_le_mul_right _ hfit
          simp only [List.length_append, hxl] at hrl
          rw [Nat.add_mul] at this
          omega
        have hr := run_append_room (P := P) w T ty el ie ht hi b m cap (xs ++ rest).toArray hblk ⟨sb, so, none⟩ k sc news (by rw [hsz]; exact hnl) (hnews w hw) h1s hfit (by rw [hsz, ← hxl]; simp; exact hrest)
        have hcells : (List.take (m * ie.size) (xs ++ rest) ++ news ++ List.drop (m * ie.size + news.length) (xs ++ rest)) = xs ++ news ++ rest.drop news.length := by
          rw [hsz, ← hxl]; simp [List.drop_append]
        simp only [hcells] at hr
        refine ⟨_, _, hr, hw.upd (b := b) rfl rfl ⟨by simp [hxl, hnl, Nat.add_mul], .inr ⟨b, cap, rest.drop news.length, rfl, hfit, ?_, setRow_heap w b _ _ el _ hblk⟩⟩ (fun c hc => setRow_other w b c _ hc) rfl rfl rfl (by simp)⟩
        simp only [List.length_append, List.length_drop] at *; omega
      · have hnsc := nextslicecap_le (m + k) cap (by omega)
        have hroom : Builtin.nextslicecap (m + k) cap * ie.bytes ≤ 281474976710656 := by
          have : Builtin.nextslicecap (m + k) cap * bytes ≤ (2 * (m + k) + 768) * bytes := Nat.mul_le_mul_right _ hnsc
          rw [hby]; omega
        have hold : ∀ j u, xs[j]? = some u → w.cell? ((⟨b, 0, none⟩ : Addr).add j) = some u := fun j u hj => by
          rw [addr_add]
          exact ((cells_acc (S := St B G (.acc (.slice (some ⟨b, 0, none⟩) m cap) el size m xs :: R)) (m := m) (cap := cap) (T := el) (sz := size) (xs := xs) List.mem_cons_self).go j u hj).go w hw
        have hr := run_append_grow (P := P) w T ty el ie zero ht hi hze ⟨b, 0, none⟩ m cap xs (by rw [hsz]; exact hxl) hold ⟨sb, so, none⟩ k sc news (by rw [hsz]; exact hnl) (hnews w hw) (by omega) (by omega) hroom
        rw [hz, zeroCells_eq] at hr
        have := mk (grownCap w (m + k) cap el) (grownCap_ge w (m + k) cap el) (by simp) hnl
        simp only [List.append_toArray] at this hr ⊢
        exact ⟨_, _, hr, this⟩

theorem c_append {v src : Value} {m k : Nat} {s x : Operand} {T el : TypeId} {desc : TypeDesc} {size bytes s1 b1 : Nat} {z1 zero : Value} {zs xs news : List Value} {L' : List Own} [TI P T (.slice el) s1 b1 z1] [TI P el desc size bytes zero]
    (hs : ev E s = some v) (hx : ev E x = some src) (hL : Del (.acc v el size m xs) L L') (hsrc : SrcOf (St B G L) size src k news) (h1 : all1 news = true)
    (hz : zero.cells = zs.toArray) (hzl : Nat.beq zs.length size = true) (hb0 : Nat.beq bytes 0 = false) (hb : (2 * (m + k) + 768) * bytes ≤ 281474976710656) (hlt : Nat.blt d n = true)
    (kk : ∀ v', Nx n D ((d, v') :: E) B G (.acc v' el size (m + k) (xs ++ news) :: L') K) :
    Nx n D E B G L (ow P ⟨some d, .call ⟨.builtin .append, [s, x].toArray, [T, T].toArray⟩, ty, pos, aft, gd⟩ Q K) := Nx.mk fun a w hsat hw => by
  have hw' := hw.perm hL.perm
  have hsrc' : SrcOf (St B G (.acc v el size m xs :: L')) size src k news := by
    rcases hsrc with h | ⟨b, o, c, e1, e2, e3⟩
    · exact .inl h
    · exact .inr ⟨b, o, c, e1, e2, CellsOf.mk fun i u hu => CellOf.mk fun w hw => (e3.go i u hu).go w (hw.perm hL.perm.symm)⟩
  obtain ⟨v', w', hr, hst⟩ := run_append (P := P) (ty := ty) (T := T) (el := el) (desc := desc) (size := size) (bytes := bytes) (s1 := s1) (b1 := b1) (z1 := z1) (zero := zero)
    hz (Nat.eq_of_beq_eq_true hzl) (fun e => by subst e; simp at hb0) hb hw' hsrc' h1
  have hrun : (execOp a.eval ⟨some d, .call ⟨.builtin .append, [s, x].toArray, [T, T].toArray⟩, ty, pos, aft, gd⟩).run P w = .ok (.value v') w' := by
    have e1 : ([s, x].toArray.map a.eval) = #[v, src] := by simp [hsat.ev hs, hsat.ev hx]
    simp only [execOp, resolve, e1, Sem.run_bind, Sem.run_pure, Result.andThen_ok, invoke, builtin, hr]
  unfold ow Oper.wp
  rw [hrun, Oper.upon_value]
  exact (kk v').go _ w' (hsat.put (by simpa using hlt)) hst

/-- The first append to a nil slice. -/
theorem c_append0 {src : Value} {k : Nat} {s x : Operand} {T el : TypeId} {desc : TypeDesc} {size bytes s1 b1 : Nat} {z1 zero : Value} {zs news : List Value} [TI P T (.slice el) s1 b1 z1] [TI P el desc size bytes zero]
    (hs : ev E s = some nilS) (hx : ev E x = some src) (hsrc : SrcOf (St B G L) size src k news) (h1 : all1 news = true)
    (hz : zero.cells = zs.toArray) (hzl : Nat.beq zs.length size = true) (hb0 : Nat.beq bytes 0 = false) (hb : (2 * k + 768) * bytes ≤ 281474976710656) (hlt : Nat.blt d n = true)
    (kk : ∀ v', Nx n D ((d, v') :: E) B G (.acc v' el size k news :: L) K) :
    Nx n D E B G L (ow P ⟨some d, .call ⟨.builtin .append, [s, x].toArray, [T, T].toArray⟩, ty, pos, aft, gd⟩ Q K) := by
  refine Nx.addNil el size (c_append (m := 0) (xs := []) hs hx .here ?_ h1 hz hzl hb0 (by simpa using hb) hlt (by simpa using kk))
  rcases hsrc with h | ⟨b, o, c, e1, e2, e3⟩
  · exact .inl h
  · exact .inr ⟨b, o, c, e1, e2, CellsOf.mk fun i u hu => CellOf.mk fun w hw => (e3.go i u hu).go w (hw.weaken (List.sublist_cons_self _ _))⟩

/-! ### What only yields, of owned slices -/
theorem g_lenA {M : World → Prop} {G0 : Gh} {L0 : List Own} [kn : Kn M G0 L0] {d : Option Nat} {x : Operand} {T el : TypeId} {size bytes : Nat} {zero v : Value} {sz m : Nat} {xs : List Value} [TI P T (.slice el) size bytes zero] (hx : ev E x = some v) (hm : Own.acc v el sz m xs ∈ L0) :
    Gives P n D E M ⟨d, .call ⟨.builtin .len, [x].toArray, [T].toArray⟩, ty, pos, aft, gd⟩ (I m) := Gives.mk fun a w hs hw => by
  obtain ⟨B, G, L, _, hL, hst⟩ := kn.kn w hw
  obtain ⟨_, ⟨rfl, rfl⟩ | ⟨b', cap', rest, rfl, _, _, h2⟩⟩ : AccAt w v el sz m xs := hst.own _ (hL _ hm)
  · exact (g_lenL (T := T) (el := el) (size := size) (bytes := bytes) (zero := zero) hx).go a w hs hw
  · exact (g_lenL (T := T) (el := el) (size := size) (bytes := bytes) (zero := zero) hx).go a w hs hw

def u8s (l : List UInt8) : List Value := l.map fun c => .int .u8 c.toNat
theorem foldl_push (l : List UInt8) : ∀ acc : List UInt8, (l.map fun c => ((c.toNat : Nat) : Int)).foldl (fun r n => r.push (UInt8.ofNat n.toNat)) (ByteArray.mk acc.toArray) = ByteArray.mk (acc ++ l).toArray := by
  induction l with
  | nil => intro acc; simp
  | cons c l ih =>
    intro acc
    simp only [List.map_cons, List.foldl_cons]
    have : (ByteArray.mk acc.toArray).push (UInt8.ofNat ((c.toNat : Int).toNat)) = ByteArray.mk (acc ++ [c]).toArray := by
      apply ByteArray.ext
      simp [ByteArray.push]
    rw [this, ih]
    simp
theorem run_b2s {M : World → Prop} {src : Value} {l : List UInt8} {m : Nat} (hsrc : SrcOf M 1 src m (u8s l)) (w : World) (hw : M w) : (Conv.bytesToString src).run P w = .ok (S l) w := by
  rcases hsrc with ⟨rfl, rfl, h⟩ | ⟨b, o, c, rfl, hl, hc⟩
  · have : l = [] := by simpa [u8s] using h
    subst this; rfl
  · have h1 := run_loadCells (P := P) hc w hw
    have h2 : (u8s l) = ((l.map fun c => ((c.toNat : Nat) : Int)).map (Value.int .u8)) := by simp [u8s]
    rw [hl, Nat.mul_one, h2] at h1
    rw [run_bytesToString w _ m c _ h1]
    have h3 := foldl_push l []
    simp only [List.nil_append] at h3
    exact congrArg (fun s => Result.ok (Value.string s) w) h3
theorem g_b2s {M : World → Prop} {d : Option Nat} {x : Operand} {T T' el : TypeId} {s1 b1 s2 b2 s3 b3 : Nat} {z1 z2 z3 src : Value} {l : List UInt8} {m : Nat} [TI P T (.slice el) s1 b1 z1] [TI P T' .string s2 b2 z2] [TI P el (.int .u8) s3 b3 z3]
    (hx : ev E x = some src) (hsrc : SrcOf M 1 src m (u8s l)) : Gives P n D E M ⟨d, .convert T T' x, ty, pos, aft, gd⟩ (S l) := Gives.mk fun a w hs hw => by
  have h1 : (convert T T' src).run P w = (Conv.bytesToString src).run P w := by
    rcases hsrc with ⟨rfl, _, _⟩ | ⟨b, o, c, rfl, _, _⟩ <;>
    simp [convert, run_und (T := T) (desc := .slice el) (size := s1) (bytes := b1) (zero := z1), run_und (T := T') (desc := .string) (size := s2) (bytes := b2) (zero := z2), run_und (T := el) (desc := .int .u8) (size := s3) (bytes := b3) (zero := z3)]
  simp only [execOp, hs.ev hx, Sem.run_bind, h1, run_b2s hsrc w hw, Result.andThen_ok, Sem.run_pure]

/-! ### Sealing -/
/-- A slice that will not turn any more. -/
def SlV (G : Gh) (v : Value) (sz m : Nat) (xs : List Value) : Prop :=
  xs.length = m * sz ∧ ((v = nilS ∧ m = 0) ∨ ∃ b o cap, v = .slice (some ⟨b, o, none⟩) m cap ∧ m ≤ cap ∧ Seg G b o xs)
theorem SlV.mono {G G' : Gh} {v : Value} {sz m : Nat} {xs : List Value} (h : SlV G v sz m xs) (hl : Gh.le G G') : SlV G' v sz m xs :=
  ⟨h.1, h.2.imp id fun ⟨b, o, cap, e, hc, hs⟩ => ⟨b, o, cap, e, hc, hs.mono hl⟩⟩
theorem SlV.one {G : Gh} {v : Value} {sz m : Nat} {xs : List Value} (h : SlV G v sz m xs) : v.oneCell' = true := by
  obtain ⟨_, ⟨rfl, _⟩ | ⟨b, o, cap, rfl, _⟩⟩ := h <;> rfl
theorem SlV.src {S : World → Prop} {G0 : Gh} {L0 : List Own} [Kn S G0 L0] {v : Value} {sz m : Nat} {xs : List Value} (h : SlV G0 v sz m xs) : SrcOf S sz v m xs := by
  obtain ⟨h1, ⟨rfl, rfl⟩ | ⟨b, o, cap, rfl, _, h2⟩⟩ := h
  · exact .inl ⟨rfl, rfl, by simpa using h1⟩
  · exact .inr ⟨b, o, cap, rfl, h1, cells_seg h2⟩
theorem g_lenV {M : World → Prop} {G0 : Gh} {d : Option Nat} {x : Operand} {T el : TypeId} {size bytes : Nat} {zero v : Value} {sz m : Nat} {xs : List Value} [TI P T (.slice el) size bytes zero] (hx : ev E x = some v) (hm : SlV G0 v sz m xs) :
    Gives P n D E M ⟨d, .call ⟨.builtin .len, [x].toArray, [T].toArray⟩, ty, pos, aft, gd⟩ (I m) := by
  obtain ⟨h1, ⟨rfl, rfl⟩ | ⟨b, o, cap, rfl, _, h2⟩⟩ := hm
  · exact g_lenL (T := T) (el := el) (size := size) (bytes := bytes) (zero := zero) hx
  · exact g_lenL (T := T) (el := el) (size := size) (bytes := bytes) (zero := zero) hx

theorem St.shutP {B G w b cs ty fr R} (xs : List Value) (h : St B G (.blk b (.cells cs ty fr) :: R) w) (hx : ∃ rest, cs = (xs ++ rest).toArray) :
    ∃ G', Gh.le G G' ∧ St B G' R w ∧ Seg G' b 0 xs := by
  have hfr := h.fresh b (by simp [bks, Own.bk])
  have hnd := h.nd
  simp only [bks, List.flatMap_cons, Own.bk, List.singleton_append, List.nodup_cons] at hnd
  refine ⟨fun c => if c = b then some (.pre xs) else G c, fun c g hc => ?_, ?_, ⟨xs, by simp, fun i v hv => by simpa using hv⟩⟩
  · have : c ≠ b := fun e => by subst e; rw [hfr.1] at hc; cases hc
    simp [this, hc]
  · refine ⟨fun c g hc => ?_, fun x hx' => h.own x (List.mem_cons_of_mem _ hx'), fun c hc => ?_, hnd.2, h.os, h.tape, h.output, h.size, fun c hc hW => ?_⟩
    · by_cases hcb : c = b
      · subst hcb
        simp only [↓reduceIte, Option.some.injEq] at hc
        subst hc
        exact ⟨_, h.own _ List.mem_cons_self, hx⟩
      · simp only [if_neg hcb] at hc
        exact h.ok c g hc
    · have hcb : c ≠ b := fun e => by subst e; exact hnd.1 hc
      have := h.fresh c (by simp only [bks, List.flatMap_cons, Own.bk, List.singleton_append]; exact List.mem_cons_of_mem _ hc)
      simp [hcb, this]
    · have hcb : c ≠ b := fun e => by
        subst e
        rcases hfr.2 with h3 | h3
        · omega
        · exact hW h3
      simp only [if_neg hcb]
      exact h.frame c hc hW
theorem Nx.sealB {b : Nat} {cs : List Value} {T : TypeId} {fr : Nat × Nat} {L' : List Own} (hL : Del (.blk b (.cells cs.toArray T fr)) L L') (h : ∀ G', Gh.le G G' → Seg G' b 0 cs → Nx n D E B G' L' K) : Nx n D E B G L K := Nx.mk fun a w hs hw => by
  obtain ⟨G', h1, h2, h3⟩ := (hw.perm hL.perm).shutP cs ⟨[], by simp⟩
  exact (h G' h1 h3).go a w hs h2
theorem Nx.sealA {v : Value} {T : TypeId} {sz m : Nat} {xs : List Value} {L' : List Own} (hL : Del (.acc v T sz m xs) L L') (h : ∀ G', Gh.le G G' → SlV G' v sz m xs → Nx n D E B G' L' K) : Nx n D E B G L K := Nx.mk fun a w hs hw => by
  have hw := hw.perm hL.perm
  obtain ⟨h1, ⟨rfl, rfl⟩ | ⟨b, cap, rest, rfl, hc, hl, hb⟩⟩ : AccAt w v T sz m xs := hw.own _ List.mem_cons_self
  · exact (h G (Gh.le.refl G) ⟨h1, .inl ⟨rfl, rfl⟩⟩).go a w hs (hw.weaken (List.sublist_cons_self _ _))
  · obtain ⟨G', h2, h3, h4⟩ := St.shutP xs (hw.conv (y := .blk b (.cells (xs ++ rest).toArray T (0, 0))) rfl hb) ⟨rest, rfl⟩
    exact (h G' h2 ⟨h1, .inr ⟨b, 0, cap, rfl, hc, h4⟩⟩).go a w hs h3
end
end Go.E
