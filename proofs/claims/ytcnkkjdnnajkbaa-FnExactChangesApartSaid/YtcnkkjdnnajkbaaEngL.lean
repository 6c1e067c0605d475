/- The calculus of this seat's proofs: slices of structs, what seals while it runs. Conditions: none. -/
import Derived.Test.YtcnkkjdnnajkbaaEngK
import Derived.Laws.MakeOwn
namespace Go.E
/-! ### Rows of cells -/
def rows {α : Type} (f : α → List Value) (cs : List α) : List Value := cs.flatMap f
class RowF {α : Type} (f : α → List Value) (sz : outParam Nat) : Prop where
  len : ∀ c, (f c).length = sz
def nth {α : Type} [Inhabited α] (cs : List α) (i : Nat) : α := cs.getD i default
theorem nth_eq {α : Type} [Inhabited α] {cs : List α} {i : Nat} (h : i < cs.length) : nth cs i = cs[i] := by simp [nth, List.getD, List.getElem?_eq_getElem h]
theorem rows_len {α : Type} {f : α → List Value} {sz : Nat} [RowF f sz] (cs : List α) : (rows f cs).length = cs.length * sz := by
  induction cs with
  | nil => simp [rows]
  | cons c cs ih => simp only [rows, List.flatMap_cons, List.length_append, RowF.len, List.length_cons] at ih ⊢; rw [ih, Nat.succ_mul, Nat.add_comm]
theorem rows_get {α : Type} [Inhabited α] {f : α → List Value} {sz : Nat} [RowF f sz] : ∀ {cs : List α} {i k : Nat}, i < cs.length → k < sz → (rows f cs)[i * sz + k]? = (f (nth cs i))[k]?
  | [], i, _, h, _ => by simp at h
  | c :: cs, 0, k, _, hk => by
    have : k < (f c).length := by rw [RowF.len]; exact hk
    simp [rows, List.flatMap_cons, nth, List.getElem?_append_left this]
  | c :: cs, i + 1, k, h, hk => by
    have ih := rows_get (f := f) (cs := cs) (i := i) (k := k) (by simpa using h) hk
    have e : (i + 1) * sz + k = (f c).length + (i * sz + k) := by rw [RowF.len, Nat.succ_mul]; omega
    rw [rows, List.flatMap_cons, e, List.getElem?_append_right (Nat.le_add_right _ _), Nat.add_sub_cancel_left]
    exact ih
theorem rows_snoc {α : Type} (f : α → List Value) (xs : List α) (c : α) : rows f (xs ++ [c]) = rows f xs ++ f c := by simp [rows]
theorem take_nth {α : Type} [Inhabited α] {cs : List α} {i : Nat} (h : i < cs.length) : cs.take (i + 1) = cs.take i ++ [nth cs i] := by rw [nth_eq h, List.take_succ_eq_append_getElem h]

section
variable {P : Program} {n : Nat} {D : List Deferred} {E : Env} {M : World → Prop} {d : Option Nat} {ty : TypeId} {pos : String} {aft : Array Edge} {gd : Option (Nat × Bool)}
variable {α : Type} [Inhabited α] {f : α → List Value}
theorem g_ldR {T : TypeId} {x : Operand} {desc : TypeDesc} {sz bytes b o i : Nat} {zero : Value} {G0 : Gh} {L0 : List Own} {cs : List α} [TI P T desc sz bytes zero] [RowF f sz] [Kn M G0 L0] (hx : ev E x = some (Pt b (o + i * sz))) (ha : aggD desc = true) (hs : Seg G0 b o (rows f cs)) (hi : i < cs.length) :
    Gives P n D E M ⟨d, .load T x, ty, pos, aft, gd⟩ (Ag (f (nth cs i))) := g_loadA (size := sz) hx ha (RowF.len _) (CellsOf.mk fun k v hv => by
  have hk : k < sz := by have := (List.getElem?_eq_some_iff.1 hv).1; rwa [RowF.len] at this
  have := (cells_seg (S := M) hs).go (i * sz + k) v (by rw [rows_get hi hk]; exact hv)
  rwa [← Nat.add_assoc] at this)
theorem g_ldRF {T : TypeId} {x : Operand} {desc : TypeDesc} {size sz bytes b o i k : Nat} {zero v : Value} {G0 : Gh} {L0 : List Own} {cs : List α} [TI P T desc size bytes zero] [RowF f sz] [Kn M G0 L0] (hx : ev E x = some (Pt b (o + i * sz + k))) (ha : aggD desc = false) (hs : Seg G0 b o (rows f cs)) (hi : i < cs.length) (hk : Nat.blt k sz = true) (hv : (f (nth cs i))[k]? = some v) :
    Gives P n D E M ⟨d, .load T x, ty, pos, aft, gd⟩ v := g_load hx ha (by
  have := (cells_seg (S := M) hs).go (i * sz + k) v (by rw [rows_get hi (by simpa using hk)]; exact hv)
  rwa [← Nat.add_assoc] at this)
end

section
variable {P : Program} {n : Nat} {D : List Deferred} {E : Env} {B : Base} {G G0 : Gh} {L : List Own} {K : Act → World → Prop} {Q : Exit → Act → World → Prop} {ty : TypeId} {pos : String} {aft : Array Edge} {gd : Option (Nat × Bool)} {dd : Nat}
theorem c_mk {T el : TypeId} {x : Operand} {m : Nat} {desc : TypeDesc} {size bytes s1 b1 : Nat} {z1 zero : Value} {zs : List Value} [TI P T (.slice el) s1 b1 z1] [ti : TI P el desc size bytes zero] (hx : ev E x = some (I (m : Int))) (hz : cellsC zero = some zs) (hsz : Nat.beq zs.length size = true) (hlt : Nat.blt dd n = true)
    (hm : bytes * m ≤ 281474976710656 ∧ m ≤ 9223372036854775807)
    (k : ∀ b, Nx n D ((dd, .slice (some ⟨b, 0, none⟩) m m) :: E) B G (.blk b (.cells (zerosL zs m).toArray el (0, 0)) :: L) K) : Nx n D E B G L (ow P ⟨some dd, .makeSlice T x x, ty, pos, aft, gd⟩ Q K) := Nx.mk fun a w hs hw => by
  obtain ⟨i, hi1, hi2, hi3, hi4⟩ := ti.inf
  have hb' : (i.bytes : Int) * (m : Int) ≤ 281474976710656 := by
    have h : ((i.bytes * m : Nat) : Int) ≤ 281474976710656 := by rw [hi3]; omega
    rwa [Int.natCast_mul] at h
  have hr := run_make (P := P) w T el i zero (TI.und (P := P) (T := T)) hi1 hi4 .i64 .i64 m m (by omega) (Int.le_refl _) hb' (by omega)
  simp only [Int.toNat_natCast] at hr
  have hzs := cellsC_eq hz
  have hl := Nat.eq_of_beq_eq_true hsz
  have e : madeCells zero.cells (m * i.size) = (zerosL zs m).toArray := by
    rw [hi2, ← hl, hzs, ← range_zeros zs m]
    rfl
  unfold ow Oper.wp
  have : (execOp a.eval ⟨some dd, .makeSlice T x x, ty, pos, aft, gd⟩).run P w = .ok (.value (.slice (some ⟨w.heap.size, 0, none⟩) m m)) (w.alloc (.cells (zerosL zs m).toArray el (0, 0))) := by
    simp only [execOp, hs.ev hx, Sem.run_bind, hr, e, Result.andThen_ok, Sem.run_pure]
  rw [this, Oper.upon_value]
  exact (k _).go _ _ (hs.put (by simpa using hlt)) (hw.alloc _)
theorem puts_mid : ∀ (a : List Value) {z vs r : List Value}, z.length = vs.length → vs ≠ [] → PutsR (a ++ (z ++ r)) a.length vs (a ++ (vs ++ r))
  | [], [], [], _, _, h0 => absurd rfl h0
  | [], x :: z, v :: vs, r, h, _ => by
    cases vs with
    | nil =>
      have : z = [] := by simpa using h
      subst this; exact .here .nil
    | cons u vs => exact .here (puts_mid [] (z := z) (vs := u :: vs) (r := r) (by simpa using h) (by simp))
  | [], [], _ :: _, _, h, _ => by simp at h
  | [], _ :: _, [], _, _, h0 => absurd rfl h0
  | _ :: _, _, [], _, _, h0 => absurd rfl h0
  | x :: a, z, v :: vs, r, h, h0 => .there (puts_mid a (z := z) (vs := v :: vs) (r := r) h h0)
theorem all1_append {a b : List Value} : all1 (a ++ b) = (all1 a && all1 b) := by
  induction a with
  | nil => simp [all1]
  | cons v a ih => simp [all1, ih, Bool.and_assoc]
/-- The next row of a made slice is filled. -/
theorem c_stR {α : Type} {f : α → List Value} {xs : List α} {c : α} {T T0 : TypeId} {x y : Operand} {desc : TypeDesc} {sz bytes b o m : Nat} {zero : Value} {zs cs0 : List Value} {fr : Nat × Nat} {L' : List Own} [TI P T desc sz bytes zero] [RowF f sz] [BlkI L b (rows f xs ++ zerosL zs m) T0 fr] [hu : UpdI b (rows f (xs ++ [c]) ++ zerosL zs (m - 1)) L cs0 T0 L']
    (hx : ev E x = some (Pt b o)) (hy : ev E y = some (Ag (f c))) (h1 : all1 (f c) = true) (hz : Nat.beq zs.length sz = true) (hs0 : Nat.blt 0 sz = true) (he : cs0 = rows f xs ++ zerosL zs m) (ho : o = xs.length * sz) (hm : 0 < m)
    (k : Nx n D E B G L' K) : Nx n D E B G L (ow P ⟨none, .store T x y, ty, pos, aft, gd⟩ Q K) := by
  have hl : (f c).length = sz := RowF.len c
  have hs0 : 0 < sz := by simpa using hs0
  have hne : f c ≠ [] := fun h => by rw [h] at hl; simp at hl; omega
  refine c_store (vs := f c) hx hy rfl (by rw [hl]; simp) (by cases hfc : f c with | nil => exact absurd hfc hne | cons => rfl) h1 hu.upd ?_ k
  obtain ⟨m, rfl⟩ : ∃ k, m = k + 1 := ⟨m - 1, by omega⟩
  subst he
  have hlen := rows_len (f := f) xs
  rw [ho, ← hlen, rows_snoc]
  simp only [zerosL, Nat.add_sub_cancel, List.append_assoc]
  exact puts_mid _ (by rw [hl]; exact Nat.eq_of_beq_eq_true hz) hne

/-! ### Results that lie in cells -/
theorem rc_A {M : World → Prop} {T T0 : TypeId} {a b o : Nat} {desc : TypeDesc} {size bytes : Nat} {zero : Value} {vs cs : List Value} {fr : Nat × Nat} {G0 : Gh} {L0 : List Own} [TI P T desc size bytes zero] [Kn M G0 L0] [h : BlkI L0 b cs T0 fr] (hx : look E a = some (Pt b o)) (ha : aggD desc = true) (hc : takeC cs o size = some vs) (hl : Nat.beq vs.length size = true) :
    ∃ b o, look E a = some (.pointer (some ⟨b, o, none⟩)) ∧ ∀ w, M w → (loadVar T ⟨b, o, none⟩).run P w = .ok (Ag vs) w :=
  ⟨b, o, hx, fun w hw => run_loadVarA (desc := desc) (size := size) (bytes := bytes) (zero := zero) ha (Nat.eq_of_beq_eq_true hl) (by have := (cells_own (S := M) h.mem).take hc; simpa using this) w hw⟩
theorem rc_1 {M : World → Prop} {T T0 : TypeId} {a b o : Nat} {desc : TypeDesc} {size bytes : Nat} {zero v : Value} {cs : List Value} {fr : Nat × Nat} {G0 : Gh} {L0 : List Own} [TI P T desc size bytes zero] [Kn M G0 L0] [h : BlkI L0 b cs T0 fr] (hx : look E a = some (Pt b o)) (ha : aggD desc = false) (hc : cs[o]? = some v) :
    ∃ b o, look E a = some (.pointer (some ⟨b, o, none⟩)) ∧ ∀ w, M w → (loadVar T ⟨b, o, none⟩).run P w = .ok v w :=
  ⟨b, o, hx, fun w hw => run_loadVar1 (desc := desc) (size := size) (bytes := bytes) (zero := zero) ha (by have := (cells_own (S := M) h.mem).go o v hc; simpa using this) w hw⟩
theorem SlV.expl {G : Gh} {v : Value} {sz m : Nat} {xs : List Value} (h : SlV G v sz m xs) (hm : 0 < m) : ∃ b o cap, v = .slice (some ⟨b, o, none⟩) m cap ∧ Seg G b o xs := by
  obtain ⟨_, ⟨_, h0⟩ | ⟨b, o, cap, e, _, hs⟩⟩ := h
  · omega
  · exact ⟨b, o, cap, e, hs⟩
/-! ### What seals while it runs -/
structure BOk (B : Base) : Prop where
  ok : B.G.ok B.w
  fresh : ∀ b ∈ B.W, B.G b = none
theorem Nx.base (hb : BOk B) (hG : B.G = G0) (h : Nx n D E B G0 L K) : Nx n D E B G L K := Nx.mk fun a w hs hw => by
  subst hG
  have hle := hw.le hb.ok hb.fresh
  refine h.go a w hs ⟨fun b g h => hw.ok b g (hle b g h), hw.own, fun b hbb => ?_, hw.nd, hw.os, hw.tape, hw.output, hw.size, fun b h1 h2 => ⟨(hw.frame b h1 h2).1, rfl⟩⟩
  have h1 := hw.fresh b hbb
  refine ⟨?_, h1.2⟩
  cases hB : B.G b with
  | none => rfl
  | some g => rw [hle b g hB] at h1; exact absurd h1.1 (by simp)
theorem b_enter {f : FuncId} {fn : Func} {c : Code} {args : List Value} {Post : Value → Gh → List Own → Prop} (E0 : Env) (hf : P.funcs[f]? = some fn) (hok : bodyOk P f = true) (hn : fn.ntmps = n) (hb : fn.body = some c)
    (hlen : Nat.ble args.length n = true) (hE : Sub E0 (params 0 args))
    (h : ∀ B, BOk B → B.G = G → B.W = bks L → Nx n [] E0 B G L (cu P (.code c) [] (bp P fn (RPost B Post)))) : Fn P f args G L Post := by
  refine ⟨hok, fun w hw => calls_of_wp hf hb ?_⟩
  rw [hn]
  have := (h ⟨w, G, bks L⟩ ⟨hw.ok, fun b hb => (hw.fresh b hb).1⟩ rfl rfl).go _ w ((sat_params args (by simpa using hlen)).sub hE) hw
  unfold cu at this
  dsimp only at this
  unfold kk cw bp at this
  exact this
/-- It hands back a value on what it has sealed. -/
def FnS (P : Program) (f : FuncId) (args : List Value) (G : Gh) (R : Value → Gh → Prop) : Prop := Fn P f args G [] (fun v G' L' => Gh.le G G' ∧ L' = [] ∧ R v G')
theorem c_fns {fo : Operand} {l : List Operand} {tys : Array TypeId} {d : Nat} {g : Option (Nat × Bool)} {f : FuncId} {fi ca as vs : List Value} {R : Value → Gh → Prop}
    (hf : ev E fo = some (.func (.func f) fi.toArray ca.toArray)) (ha : evs E l = some as) (hv : fi ++ as ++ ca = vs) (hc : FnS P f vs G R) (hlt : Nat.blt d n = true)
    (k : ∀ v G', Gh.le G G' → R v G' → Nx n D ((d, v) :: E) B G' L K) : Nx n D E B G L (ow P ⟨some d, .call ⟨.value fo, l.toArray, tys⟩, ty, pos, aft, g⟩ Q K) :=
  c_fn hf ha hv hc hlt fun v G' L' h => by obtain ⟨h1, rfl, h2⟩ := h; exact k v G' h1 h2
end
end Go.E
