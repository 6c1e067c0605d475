/- The calculus of this seat's proofs: operations that make or write memory. Conditions: none. -/
import Derived.Test.YtcnkkjdnnajkbaaEngC
import Derived.Laws.BytesString
namespace Go.E

/-! ## Lists -/
inductive Del (x : Own) : List Own → List Own → Prop where
  | here {r} : Del x (x :: r) r
  | there {y r r'} : Del x r r' → Del x (y :: r) (y :: r')
theorem Del.perm {x : Own} {L L' : List Own} (h : Del x L L') : L.Perm (x :: L') := by
  induction h with
  | here => exact .refl _
  | there _ ih => exact (List.Perm.cons _ ih).trans (List.Perm.swap _ _ _)
theorem Del.mem {x : Own} {L L' : List Own} (h : Del x L L') : x ∈ L := h.perm.symm.subset List.mem_cons_self
inductive UpdO (x y : Own) : List Own → List Own → Prop where
  | here {r} : UpdO x y (x :: r) (y :: r)
  | there {z r r'} : UpdO x y r r' → UpdO x y (z :: r) (z :: r')
theorem UpdO.split {x y : Own} {L L' : List Own} (h : UpdO x y L L') : ∃ R, L.Perm (x :: R) ∧ (y :: R).Perm L' := by
  induction h with
  | @here r => exact ⟨r, .refl _, .refl _⟩
  | @there z r r' _ ih => obtain ⟨R, h1, h2⟩ := ih; exact ⟨z :: R, (List.Perm.cons z h1).trans (List.Perm.swap _ _ _), (List.Perm.swap _ _ _).trans (List.Perm.cons z h2)⟩
theorem UpdO.mem {x y : Own} {L L' : List Own} (h : UpdO x y L L') : x ∈ L := by obtain ⟨R, h1, _⟩ := h.split; exact h1.symm.subset List.mem_cons_self
/-- vs written into cs from place o on. -/
inductive PutsR : List Value → Nat → List Value → List Value → Prop where
  | nil {cs} : PutsR cs 0 [] cs
  | here {x v cs vs cs'} : PutsR cs 0 vs cs' → PutsR (x :: cs) 0 (v :: vs) (v :: cs')
  | there {x cs n v vs cs'} : PutsR cs n (v :: vs) cs' → PutsR (x :: cs) (n + 1) (v :: vs) (x :: cs')
theorem PutsR.zero {cs o cs'} (h : PutsR cs o [] cs') : o = 0 ∧ cs' = cs := by
  generalize hw : ([] : List Value) = ws at h
  cases h with
  | nil => exact ⟨rfl, rfl⟩
  | here _ => cases hw
  | there _ => cases hw
theorem PutsR.step {cs o v vs cs'} (h : PutsR cs o (v :: vs) cs') : o < cs.length ∧ (PutsR (cs.set o v) (o + 1) vs cs' ∨ vs = [] ∧ cs' = cs.set o v) := by
  generalize hw : v :: vs = ws at h
  induction h with
  | nil => cases hw
  | @here x u cs us cs'' h ih =>
    simp only [List.cons.injEq] at hw
    obtain ⟨rfl, rfl⟩ := hw
    refine ⟨by simp, ?_⟩
    cases vs with
    | nil => obtain ⟨_, rfl⟩ := h.zero; right; simp
    | cons a b => left; exact .there h
  | @there x cs m u us cs'' h ih =>
    simp only [List.cons.injEq] at hw
    obtain ⟨rfl, rfl⟩ := hw
    obtain ⟨h1, h2⟩ := ih rfl
    refine ⟨by simpa using h1, ?_⟩
    rcases h2 with h2 | ⟨rfl, rfl⟩
    · cases vs with
      | nil => have := h2.zero.1; omega
      | cons a b => left; exact .there h2
    · right; exact ⟨rfl, by simp⟩

/-! ## Worlds -/
def setBlk (w : World) (b : Nat) (o : Obj) : World := { w with heap := w.heap.setIfInBounds b o }
theorem heap_setBlk (w : World) (b : Nat) (o : Obj) (c : Nat) : (setBlk w b o).heap[c]? = if b = c then (if b < w.heap.size then some o else none) else w.heap[c]? := by
  simp [setBlk, Array.getElem?_setIfInBounds]
theorem setBlk_setBlk (w : World) (b : Nat) (o o' : Obj) : setBlk (setBlk w b o) b o' = setBlk w b o' := by simp [setBlk]
theorem setCell_eq {w : World} {b i : Nat} {cs : List Value} {ty : TypeId} {fr : Nat × Nat} {v : Value} (h : w.heap[b]? = some (.cells cs.toArray ty fr)) : w.setCell ⟨b, i, none⟩ v = setBlk w b (.cells (cs.set i v).toArray ty fr) := by
  have hlt : b < w.heap.size := (Array.getElem?_eq_some_iff.1 h).1
  unfold World.setCell setBlk
  congr 1
  apply Array.ext'
  simp only [Array.toList_modify, Array.toList_setIfInBounds]
  apply List.ext_getElem?
  intro k
  rw [List.getElem?_modify, List.getElem?_set]
  by_cases hk : b = k
  · subst hk
    obtain ⟨_, hb'⟩ := Array.getElem?_eq_some_iff.1 h
    simp [hlt, hb']
  · simp [hk]

theorem St.setBlk {B G L L' w} {b : Nat} {o o' : Obj} (h : St B G L w) (hu : UpdO (.blk b o) (.blk b o') L L') : St B G L' (setBlk w b o') := by
  obtain ⟨R, h1, h2⟩ := hu.split
  have h := h.perm h1
  refine St.perm ?_ h2
  have hlt : b < w.heap.size := h.lt (by simp [bks, Own.bk])
  have hnd := h.nd
  simp only [bks, List.flatMap_cons, Own.bk, List.singleton_append, List.nodup_cons] at hnd
  have hfr := h.fresh b (by simp [bks, Own.bk])
  have hne : ∀ c, c ≠ b → (Go.E.setBlk w b o').heap[c]? = w.heap[c]? := fun c hc => by rw [heap_setBlk, if_neg (Ne.symm hc)]
  refine ⟨fun c g hc => ?_, fun x hx => ?_, h.fresh, h.nd, h.os, h.tape, h.output, by simpa [Go.E.setBlk] using h.size, fun c hc hW => ?_⟩
  · obtain ⟨o2, h3, h4⟩ := h.ok c g hc
    have : c ≠ b := fun e => by subst e; rw [hfr.1] at hc; cases hc
    exact ⟨o2, by rw [hne c this]; exact h3, h4⟩
  · rcases List.mem_cons.1 hx with rfl | hx
    · show (Go.E.setBlk w b o').heap[b]? = some o'
      rw [heap_setBlk, if_pos rfl, if_pos hlt]
    · refine Own.at_same (h.own x (List.mem_cons_of_mem _ hx)) fun c hc => hne c fun e => ?_
      have hxb := mem_bks.2 ⟨x, hx, hc⟩
      subst e
      exact hnd.1 hxb
  · have : c ≠ b := fun e => by
      subst e
      rcases hfr.2 with h3 | h3
      · omega
      · exact hW h3
    rw [hne c this]; exact h.frame c hc hW

def all1 : List Value → Bool
  | [] => true
  | v :: r => v.oneCell' && all1 r
theorem cells_one {v : Value} (h : v.oneCell' = true) : v.cells = [v].toArray := by cases v <;> first | rfl | cases h

theorem run_storeCells {P : Program} {b o : Nat} {ty : TypeId} : ∀ (vs cs cs' : List Value) (i : Nat) (w : World), w.heap[b]? = some (.cells cs.toArray ty (0, 0)) → PutsR cs (o + i) vs cs' → all1 vs = true →
    (storeCells ⟨b, o, none⟩ vs i).run P w = .ok () (setBlk w b (.cells cs'.toArray ty (0, 0))) ∨ vs = [] ∧ cs' = cs
  | [], cs, cs', i, w, _, hp, _ => by
    right
    generalize he : o + i = m at hp
    cases hp; exact ⟨rfl, rfl⟩
  | v :: vs, cs, cs', i, w, h, hp, h1 => by
    left
    simp only [all1, Bool.and_eq_true] at h1
    have hadd : (⟨b, o, none⟩ : Addr).add i = ⟨b, o + i, none⟩ := by by_cases hi : i = 0 <;> simp [Addr.add, hi]
    have hfz : w.frozen? ⟨b, o + i, none⟩ = false := by simp [World.frozen?, h]
    have hlt : o + i < cs.length := hp.step.1
    have hcell : w.cell? ⟨b, o + i, none⟩ = some cs[o + i] := by simp [World.cell?, h, hlt]
    have hst : (store ⟨b, o + i, none⟩ v).run P w = .ok () (w.setCell ⟨b, o + i, none⟩ v) := by rw [run_store P w _ v _ h1.1]; simp [hcell, hfz]
    simp only [storeCells, hadd, Sem.run_bind, hst, Result.andThen_ok, setCell_eq h]
    rcases hp.step.2 with h2 | ⟨rfl, rfl⟩
    · have hb' : (setBlk w b (.cells (cs.set (o + i) v).toArray ty (0, 0))).heap[b]? = some (.cells (cs.set (o + i) v).toArray ty (0, 0)) := by
        rw [heap_setBlk, if_pos rfl, if_pos (Array.getElem?_eq_some_iff.1 h).1]
      rcases run_storeCells vs _ cs' (i + 1) _ hb' h2 h1.2 with h3 | ⟨rfl, rfl⟩
      · rw [h3, setBlk_setBlk]
      · simp [storeCells]
    · simp [storeCells]

/-! ## Rules -/
section
variable {n : Nat} {D : List Deferred} {E : Env} {B : Base} {G : Gh} {L : List Own} {P : Program}
variable {Q : Exit → Act → World → Prop} {K : Act → World → Prop}
variable {d : Nat} {ty : TypeId} {pos : String} {aft : Array Edge} {gd : Option (Nat × Bool)}

theorem c_alloc {T : TypeId} {desc : TypeDesc} {size bytes : Nat} {zero : Value} {cs : List Value} [TI P T desc size bytes zero] (hz : zero.cells = cs.toArray) (hlt : Nat.blt d n = true)
    (k : ∀ b, Nx n D ((d, Pt b 0) :: E) B G (.blk b (.cells cs.toArray T (0, 0)) :: L) K) : Nx n D E B G L (ow P ⟨some d, .alloc T, ty, pos, aft, gd⟩ Q K) := Nx.mk fun a w hs hw => by
  unfold ow Oper.wp
  have : (execOp a.eval ⟨some d, .alloc T, ty, pos, aft, gd⟩).run P w = .ok (.value (Pt w.heap.size 0)) (w.alloc (.cells cs.toArray T (0, 0))) := by
    simp [execOp, Instr.alloc, run_zero (T := T) (desc := desc) (size := size) (bytes := bytes) (zero := zero), newVar, newRow, hz]
  rw [this, Oper.upon_value]
  exact (k _).go _ _ (hs.put (by simpa using hlt)) (hw.alloc _)

theorem c_box {T : TypeId} {x : Operand} {v : Value} {cs : List Value} (hx : ev E x = some v) (hz : v.cells = cs.toArray) (hlt : Nat.blt d n = true)
    (k : ∀ b, Nx n D ((d, Pt b 0) :: E) B G (.blk b (.cells cs.toArray T (0, 0)) :: L) K) : Nx n D E B G L (ow P ⟨some d, .box T x, ty, pos, aft, gd⟩ Q K) := Nx.mk fun a w hs hw => by
  unfold ow Oper.wp
  have : (execOp a.eval ⟨some d, .box T x, ty, pos, aft, gd⟩).run P w = .ok (.value (Pt w.heap.size 0)) (w.alloc (.cells cs.toArray T (0, 0))) := by
    simp [execOp, Instr.box, newVar, newRow, hs.ev hx, hz]
  rw [this, Oper.upon_value]
  exact (k _).go _ _ (hs.put (by simpa using hlt)) (hw.alloc _)

theorem c_store {T T0 : TypeId} {x y : Operand} {desc : TypeDesc} {size bytes : Nat} {zero v : Value} {b o : Nat} {cs vs cs' : List Value} {L' : List Own} [TI P T desc size bytes zero] (hx : ev E x = some (Pt b o)) (hy : ev E y = some v) (hv : v.cells = vs.toArray)
    (hl : Nat.beq vs.length size = true) (hne : vs.isEmpty = false) (h1 : all1 vs = true) (hu : UpdO (.blk b (.cells cs.toArray T0 (0, 0))) (.blk b (.cells cs'.toArray T0 (0, 0))) L L') (hp : PutsR cs o vs cs')
    (k : Nx n D E B G L' K) : Nx n D E B G L (ow P ⟨none, .store T x y, ty, pos, aft, gd⟩ Q K) := Nx.mk fun a w hs hw => by
  unfold ow Oper.wp
  have hb : w.heap[b]? = some (.cells cs.toArray T0 (0, 0)) := hw.own _ hu.mem
  have hst := run_storeCells (P := P) (o := o) vs cs cs' 0 w hb (by simpa using hp) h1
  rcases hst with hst | ⟨rfl, _⟩
  · have hsz : v.cells.size = size := by rw [hv]; simpa using hl
    have : (execOp a.eval ⟨none, .store T x y, ty, pos, aft, gd⟩).run P w = .ok .skip (setBlk w b (.cells cs'.toArray T0 (0, 0))) := by
      simp [execOp, hs.ev hx, hs.ev hy, Instr.storeAt, Instr.sureAddr, storeVar, run_sizeOf (T := T) (desc := desc) (size := size) (bytes := bytes) (zero := zero), hsz]
      rw [hv]; simp [hst]
    rw [this, Oper.upon_skip]
    exact k.go _ _ hs (hw.setBlk hu)
  · simp at hne

/-- One cell, of a value that is a letter. -/
theorem c_store1 {T T0 : TypeId} {x y : Operand} {desc : TypeDesc} {bytes : Nat} {zero v : Value} {b o : Nat} {cs cs' : List Value} {L' : List Own} [TI P T desc 1 bytes zero] (hx : ev E x = some (Pt b o)) (hy : ev E y = some v) (h1 : v.oneCell' = true)
    (hu : UpdO (.blk b (.cells cs.toArray T0 (0, 0))) (.blk b (.cells cs'.toArray T0 (0, 0))) L L') (hp : PutsR cs o [v] cs')
    (k : Nx n D E B G L' K) : Nx n D E B G L (ow P ⟨none, .store T x y, ty, pos, aft, gd⟩ Q K) :=
  c_store (T := T) (size := 1) (bytes := bytes) (zero := zero) (desc := desc) hx hy (cells_one h1) rfl rfl (by simp [all1, h1]) hu hp k

/-! ### Aggregates and slices written out -/
def CellsV (v : Value) (vc : List Value) : Prop := v.cells = vc.toArray
def evc (E : Env) : List (Nat × Operand) → List (Nat × List Value) → Prop
  | [], [] => True
  | (i, x) :: r, (j, vc) :: s => i = j ∧ (∃ v, ev E x = some v ∧ CellsV v vc) ∧ evc E r s
  | _, _ => False
def splice (cs : List Value) (off : Nat) (vs : List Value) : List Value := cs.take off ++ vs ++ cs.drop (off + vs.length)
def lfill (place : Nat → Option (Nat × Nat)) (cs : List Value) : List (Nat × List Value) → Option (List Value)
  | [] => some cs
  | (i, vc) :: rest => match place i with
    | none => none
    | some (off, size) => match Nat.beq vc.length size && Nat.ble (off + vc.length) cs.length with
      | true => lfill place (splice cs off vc) rest
      | false => none

theorem foldl_set (vs : List Value) : ∀ (cs : List Value) (off k : Nat), off + k + vs.length ≤ cs.length →
    ((vs.zipIdx k).foldl (fun (cs : Array Value) (p : Value × Nat) => cs.setIfInBounds (off + p.2) p.1) cs.toArray) = (cs.take (off + k) ++ vs ++ cs.drop (off + k + vs.length)).toArray := by
  induction vs with
  | nil => intro cs off k h; simp
  | cons v vs ih =>
    intro cs off k h
    simp only [List.length_cons] at h
    simp only [List.zipIdx_cons, List.foldl_cons, List.setIfInBounds_toArray]
    rw [ih _ off (k + 1) (by simp; omega)]
    congr 1
    have hlt : off + k < cs.length := by omega
    have h1 : (cs.set (off + k) v).take (off + (k + 1)) = cs.take (off + k) ++ [v] := by
      apply List.ext_getElem?
      intro j
      rw [List.getElem?_take, List.getElem?_set]
      by_cases hj : j < off + k
      · rw [if_pos (by omega), if_neg (by omega), List.getElem?_append_left (by simp; omega), List.getElem?_take, if_pos hj]
      · rw [List.getElem?_append_right (by simp; omega)]
        by_cases hj' : j = off + k
        · subst hj'; simp [hlt, show off + k < off + (k + 1) by omega, Nat.min_eq_left (Nat.le_of_lt hlt)]
        · rw [if_neg (by omega), List.getElem?_eq_none (by simp; omega)]
    have h2 : (cs.set (off + k) v).drop (off + (k + 1) + vs.length) = cs.drop (off + k + (vs.length + 1)) := by
      rw [List.drop_set, if_pos (by omega)]
      congr 1
      omega
    rw [h1, h2]
    simp

theorem fill_list (place : Nat → Option (Nat × Nat)) : ∀ (ps : List (Nat × Value)) (qs : List (Nat × List Value)) (cs cs' : List Value), ps.length = qs.length → (∀ (i : Nat) (p : Nat × Value) (q : Nat × List Value), ps[i]? = some p → qs[i]? = some q → p.1 = q.1 ∧ CellsV p.2 q.2) →
    lfill place cs qs = some cs' → Instr.fill place cs.toArray ps = some cs'.toArray
  | [], [], cs, cs', _, _, h => by simp only [lfill, Option.some.injEq] at h; subst h; rfl
  | [], _ :: _, _, _, hl, _, _ => by simp at hl
  | _ :: _, [], _, _, hl, _, _ => by simp at hl
  | (i, v) :: ps, (j, vc) :: qs, cs, cs', hl, hq, h => by
    obtain ⟨h1, h2⟩ := hq 0 (i, v) (j, vc) rfl rfl
    simp only at h1 h2; subst h1
    have h2 : v.cells = vc.toArray := h2
    simp only [lfill] at h
    simp only [Instr.fill]
    cases hp : place i with
    | none => simp [hp] at h
    | some q =>
      obtain ⟨off, size⟩ := q
      simp only [hp] at h
      cases hb : Nat.beq vc.length size && Nat.ble (off + vc.length) cs.length with
      | false => simp [hb] at h
      | true =>
        simp only [hb] at h
        simp only [Bool.and_eq_true] at hb
        have e1 : vc.length = size := Nat.eq_of_beq_eq_true hb.1
        have e2 : off + vc.length ≤ cs.length := Nat.le_of_ble_eq_true hb.2
        have hns : ¬ ((decide (v.cells.size ≠ size) || decide (off + v.cells.size > cs.toArray.size)) = true) := by rw [h2]; simp [e1]; omega
        show (if (decide (v.cells.size ≠ size) || decide (off + v.cells.size > cs.toArray.size)) = true then none else _) = _
        rw [if_neg hns, h2]
        have h5 := foldl_set vc cs off 0 (by omega)
        simp only [Nat.add_zero] at h5
        have h6 : (vc.toArray.zipIdx.foldl (fun (cs : Array Value) (p : Value × Nat) => cs.setIfInBounds (off + p.2) p.1) cs.toArray) = (splice cs off vc).toArray := by
          rw [← Array.foldl_toList]; simpa [splice] using h5
        have h7 : (vc.toArray.zipIdx.foldl (fun cs x => match x with | (c, j) => cs.setIfInBounds (off + j) c) cs.toArray) = (splice cs off vc).toArray := h6
        rw [h7]
        exact fill_list place ps qs _ cs' (by simpa using hl) (fun k p q hp hq' => hq (k + 1) p q (by simpa using hp) (by simpa using hq')) h

theorem evc_spec {a : Act} (hs : Sat n D E a) : ∀ {ps : List (Nat × Operand)} {qs : List (Nat × List Value)}, evc E ps qs →
    (ps.map fun (i, x) => (i, a.eval x)).length = qs.length ∧ ∀ (i : Nat) (p : Nat × Value) (q : Nat × List Value), (ps.map fun (i, x) => (i, a.eval x))[i]? = some p → qs[i]? = some q → p.1 = q.1 ∧ CellsV p.2 q.2
  | [], [], _ => ⟨rfl, fun i p q h => by simp at h⟩
  | [], _ :: _, h => h.elim
  | _ :: _, [], h => h.elim
  | (i, x) :: ps, (j, vc) :: qs, ⟨h1, ⟨v, hv, hc⟩, h3⟩ => by
    obtain ⟨e1, e2⟩ := evc_spec hs h3
    refine ⟨by simpa using e1, fun k p q hp hq => ?_⟩
    cases k with
    | zero =>
      simp only [List.map_cons, List.getElem?_cons_zero, Option.some.injEq] at hp hq
      subst hp hq
      exact ⟨h1, by simp only [hs.ev hv]; exact hc⟩
    | succ k => exact e2 k p q (by simpa using hp) (by simpa using hq)

/-- What a struct's fields take. -/
class BT (P : Program) (T : TypeId) (places : outParam (List (Nat × Nat))) (zs : outParam (List Value)) : Prop where
  run : ∀ (ps : Array (Nat × Value)) (cs : Array Value) (w : World), Instr.fill (fun (i : Nat) => places[i]?) zs.toArray ps.toList = some cs → (Instr.build T ps).run P w = .ok (.agg cs) w
theorem run_places {P : Program} : ∀ (fs : List Field) (tos : List (TypeId × Nat × Nat)), fs.map (fun f => (f.type, f.offset)) = tos.map (fun x => (x.1, x.2.1)) → tos.all (fun x => ((P.info? x.1).map (·.size)) == some x.2.2) = true → ∀ w,
    (fs.mapM fun (f : Field) => (do pure (f.offset, ← sizeOf f.type) : Sem (Nat × Nat))).run P w = .ok (tos.map (·.2)) w
  | [], [], _, _, _ => rfl
  | [], _ :: _, h, _, _ => by simp at h
  | _ :: _, [], h, _, _ => by simp at h
  | f :: fs, (T, o, s) :: tos, h, ha, w => by
    simp only [List.map_cons, List.cons.injEq, Prod.mk.injEq] at h
    obtain ⟨⟨rfl, rfl⟩, h⟩ := h
    simp only [List.all_cons, Bool.and_eq_true, beq_iff_eq] at ha
    have ih := run_places fs tos h ha.2 w
    have hs : (sizeOf f.type).run P w = .ok s w := by
      cases hi : P.info? f.type with
      | none => simp [hi] at ha
      | some i => simp only [hi, Option.map_some, Option.some.injEq] at ha; simp [sizeOf, typeInfo, hi, ha.1]
    rw [List.mapM_cons, Sem.run_bind, Sem.run_bind, hs]
    simp only [Result.andThen_ok, Sem.run_pure, Sem.run_bind, ih, List.map_cons]
theorem BT.mk' {P : Program} {T : TypeId} {size bytes : Nat} {zero : Value} {places : List (Nat × Nat)} {zs : List Value} [TI P T (.struct (flds P T)) size bytes zero] (tos : List (TypeId × Nat × Nat)) (hz : zero.cells = zs.toArray)
    (h1 : (flds P T).toList.map (fun f => (f.type, f.offset)) = tos.map (fun x => (x.1, x.2.1))) (h2 : tos.all (fun x => ((P.info? x.1).map (·.size)) == some x.2.2) = true) (hp : tos.map (·.2) = places) : BT P T places zs := ⟨fun ps cs w h => by
  subst hp
  have h2 : ∀ w, ((flds P T).mapM fun (f : Field) => (do pure (f.offset, ← sizeOf f.type) : Sem (Nat × Nat))).run P w = .ok (tos.map (·.2)).toArray w := fun w => by
    have := run_places _ tos h1 h2 w
    rw [← Array.toArray_toList (xs := flds P T), List.mapM_toArray, Sem.run_map, this]; rfl
  have h3 : (fun (x : Nat) => (tos.map (·.2)).toArray[x]?) = (fun (i : Nat) => (tos.map (·.2))[i]?) := by funext i; simp
  simp only [Instr.build, Sem.run_bind, run_zero (T := T) (desc := .struct (flds P T)) (size := size) (bytes := bytes) (zero := zero), Result.andThen_ok, run_und (T := T) (desc := .struct (flds P T)) (size := size) (bytes := bytes) (zero := zero), h2, hz, h3, h, Sem.run_pure]⟩

theorem g_build {M : World → Prop} {d : Option Nat} {T : TypeId} {ps : List (Nat × Operand)} {qs : List (Nat × List Value)} {places : List (Nat × Nat)} {zs cs : List Value} [h : BT P T places zs] (he : evc E ps qs) (hf : lfill (fun i => places[i]?) zs qs = some cs) :
    Gives P n D E M ⟨d, .build T ps.toArray, ty, pos, aft, gd⟩ (Ag cs) := Gives.mk fun a w hs _ => by
  obtain ⟨e1, e2⟩ := evc_spec hs he
  have h1 := fill_list (fun i => places[i]?) _ qs zs cs e1 e2 hf
  have := h.run (ps.map fun (i, x) => (i, a.eval x)).toArray cs.toArray w (by simpa using h1)
  simp only [execOp, List.map_toArray, Sem.run_bind]
  rw [this]; rfl

def zerosL (zs : List Value) : Nat → List Value
  | 0 => []
  | k + 1 => zs ++ zerosL zs k
theorem zerosL_length (zs : List Value) (k : Nat) : (zerosL zs k).length = k * zs.length := by
  induction k with
  | zero => simp [zerosL]
  | succ k ih => simp [zerosL, ih, Nat.succ_mul, Nat.add_comm]
theorem zerosL_get (zs : List Value) : ∀ (k j : Nat), j < k * zs.length → (zerosL zs k)[j]? = zs[j % zs.length]?
  | 0, j, h => by simp at h
  | k + 1, j, h => by
    simp only [zerosL]
    by_cases hj : j < zs.length
    · rw [List.getElem?_append_left hj, Nat.mod_eq_of_lt hj]
    · rw [List.getElem?_append_right (by omega), zerosL_get zs k (j - zs.length) (by rw [Nat.succ_mul] at h; omega)]
      rw [← Nat.mod_eq_sub_mod (by omega)]
theorem range_zeros (zs : List Value) (k : Nat) : (Array.range (k * zs.length)).map (fun j => zs.toArray[j % zs.toArray.size]!) = (zerosL zs k).toArray := by
  apply Array.ext'
  apply List.ext_getElem?
  intro j
  simp only [Array.toList_map, Array.toList_range, List.getElem?_map]
  by_cases hj : j < k * zs.length
  · have hpos : 0 < zs.length := Nat.pos_of_ne_zero fun e => by rw [e] at hj; simp at hj
    have hm : j % zs.length < zs.length := Nat.mod_lt _ hpos
    rw [List.getElem?_range hj, zerosL_get zs k j hj]
    simp [hm]
  · rw [List.getElem?_eq_none (by simp; omega), List.getElem?_eq_none (by rw [zerosL_length]; omega)]; rfl

def bplace (size : Nat) (i : Nat) : Option (Nat × Nat) := some (i * size, size)
theorem c_buildSlice {T el : TypeId} {len : Nat} {ps : List (Nat × Operand)} {qs : List (Nat × List Value)} {desc : TypeDesc} {size bytes size' bytes' : Nat} {zero zero' : Value} {zs cs : List Value} [TI P T (.slice el) size' bytes' zero'] [TI P el desc size bytes zero] (hz : zero.cells = zs.toArray)
    (hsz : Nat.beq zs.length size = true) (he : evc E ps qs) (hf : lfill (bplace size) (zerosL zs len) qs = some cs) (hsm : Nat.ble (len * size) 16777216 = true) (hlt : Nat.blt d n = true)
    (k : ∀ b, Nx n D ((d, .slice (some ⟨b, 0, none⟩) len len) :: E) B G (.blk b (.cells cs.toArray el (0, 0)) :: L) K) : Nx n D E B G L (ow P ⟨some d, .buildSlice T len ps.toArray, ty, pos, aft, gd⟩ Q K) := Nx.mk fun a w hs hw => by
  obtain ⟨e1, e2⟩ := evc_spec hs he
  have hsz : zs.length = size := Nat.eq_of_beq_eq_true hsz
  have h1 := fill_list (bplace size) _ qs (zerosL zs len) cs e1 e2 hf
  have hrun : (execOp a.eval ⟨some d, .buildSlice T len ps.toArray, ty, pos, aft, gd⟩).run P w = .ok (.value (.slice (some ⟨w.heap.size, 0, none⟩) len len)) (w.alloc (.cells cs.toArray el (0, 0))) := by
    have hle : ¬ (len * size > 2 ^ 24) := by have := Nat.le_of_ble_eq_true hsm; omega
    simp only [execOp, Instr.buildSlice, Sem.run_bind, run_und (T := T) (desc := .slice el) (size := size') (bytes := bytes') (zero := zero'), Result.andThen_ok, run_sizeOf (T := el) (desc := desc) (size := size) (bytes := bytes) (zero := zero), if_neg hle]
    have h5 : Instr.fill (fun i => some (i * size, size)) (zerosL zs len).toArray (Array.map (fun x => (x.fst, a.eval x.snd)) ps.toArray).toList = some cs.toArray := by
      have h6 : (Array.map (fun x => (x.fst, a.eval x.snd)) ps.toArray).toList = ps.map fun (i, x) => (i, a.eval x) := by simp
      rw [h6]; exact h1
    by_cases h0 : len * size = 0
    · have h3 : (Array.range (len * size)).map (fun x => (#[] : Array Value)[x % (#[] : Array Value).size]!) = (zerosL zs len).toArray := by
        have : (zerosL zs len).length = 0 := by rw [zerosL_length, hsz]; exact h0
        rw [List.length_eq_zero_iff.1 this, h0]; simp
      simp only [if_pos h0, Sem.run_bind, Sem.run_pure, Result.andThen_ok, h3, h5, newRow, run_newObj, World.alloc_eq]
    · have h3 : (Array.range (len * size)).map (fun x => zs.toArray[x % zs.toArray.size]!) = (zerosL zs len).toArray := by rw [← hsz]; exact range_zeros zs len
      simp only [if_neg h0, Sem.run_bind, Sem.run_pure, Result.andThen_ok, run_zero (T := el) (desc := desc) (size := size) (bytes := bytes) (zero := zero), hz, h3, h5, newRow, run_newObj, World.alloc_eq]
  unfold ow Oper.wp
  rw [hrun, Oper.upon_value]
  exact (k _).go _ _ (hs.put (by simpa using hlt)) (hw.alloc _)
end
end Go.E
