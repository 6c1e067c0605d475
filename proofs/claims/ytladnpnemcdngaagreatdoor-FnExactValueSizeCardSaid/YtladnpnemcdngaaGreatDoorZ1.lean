/- Contracts and plain laws that the statement rests on, part 1. Conditions: as each says. -/
import Derived.OrdersHeld
import Derived.Deep.Quiet
import Derived.Tactics
import Derived.KernelRfl
import Derived.Deep.LoopGhost
import Derived.Laws.Strings
import Derived.Laws.Cover1
import Derived.Laws.StructEq
import Derived.Lib.SmallJoins
import Derived.Laws.BytesString
import Derived.Laws.AppendOwn
set_option linter.unusedVariables false
set_option linter.unusedSimpArgs false
/-! EngA -/
namespace Go.E

/-! ## Frames -/
abbrev Env := List (Nat × Value)

def look : Env → Nat → Option Value
  | [], _ => none
  | (k, v) :: r, n => match Nat.beq k n with
    | true => some v
    | false => look r n

theorem look_cons (d : Nat) (v : Value) (E : Env) (t : Nat) : look ((d, v) :: E) t = if d = t then some v else look E t := by
  simp only [look]
  by_cases h : d = t
  · subst h; simp
  · have : Nat.beq d t = false := by cases hb : Nat.beq d t with | false => rfl | true => exact absurd (Nat.eq_of_beq_eq_true hb) h
    simp [this, h]

def ev (E : Env) : Operand → Option Value
  | .tmp t => look E t
  | .const v => some v
  | .global g => some (.pointer (some ⟨g, 0, none⟩))
  | .func f => some (.func (.func f) #[] #[])

def evs (E : Env) : List Operand → Option (List Value)
  | [] => some []
  | x :: r => match ev E x with
    | some v => (match evs E r with | some vs => some (v :: vs) | none => none)
    | none => none

structure Sat (n : Nat) (D : List Deferred) (E : Env) (a : Act) : Prop where
  size : a.tmps.size = n
  defers : a.defers = D
  at' : ∀ t v, look E t = some v → a.tmps[t]? = some v

theorem Sat.ev {n D E a} (h : Sat n D E a) {x : Operand} {v : Value} (hv : Go.E.ev E x = some v) : a.eval x = v := by
  cases x with
  | tmp t =>
    have := h.at' t v hv
    simp [Act.eval, this]
  | const u => simpa [Go.E.ev, Act.eval] using hv
  | global g => simpa [Go.E.ev, Act.eval] using hv
  | func f => simpa [Go.E.ev, Act.eval] using hv

theorem Sat.evs {n D E a} (h : Sat n D E a) : ∀ {xs : List Operand} {vs : List Value}, Go.E.evs E xs = some vs → xs.map a.eval = vs
  | [], vs, hv => by simpa [Go.E.evs] using hv
  | x :: xs, vs, hv => by
    simp only [Go.E.evs] at hv
    cases hx : Go.E.ev E x with
    | none => simp [hx] at hv
    | some v =>
      cases hr : Go.E.evs E xs with
      | none => simp [hx, hr] at hv
      | some ws =>
        simp only [hx, hr, Option.some.injEq] at hv
        subst hv
        simp [h.ev hx, Sat.evs h hr]

theorem Sat.put {n D E a} (h : Sat n D E a) {d : Nat} {v : Value} (hd : d < n) : Sat n D ((d, v) :: E) (a.put (some d) v) := by
  obtain ⟨h1, h2, h3⟩ := h
  refine ⟨by simp [Act.put, h1], by simp [Act.put, h2], fun t u hu => ?_⟩
  rw [look_cons] at hu
  by_cases hdt : d = t
  · subst hdt
    simp only [↓reduceIte, Option.some.injEq] at hu
    subst hu
    simp [Act.put, h1, hd]
  · rw [if_neg hdt] at hu
    simp [Act.put, Array.getElem?_setIfInBounds_ne hdt, h3 t u hu]

theorem Sat.putNone {n D E a} (h : Sat n D E a) {v : Value} : Sat n D E (a.put none v) := h

/-- E' is read off E. -/
def Sub : Env → Env → Prop
  | [], _ => True
  | (k, v) :: r, E => look E k = some v ∧ Sub r E

theorem Sub.look {E' E : Env} (h : Sub E' E) : ∀ t v, look E' t = some v → look E t = some v := by
  induction E' with
  | nil => intro t v hv; simp [Go.E.look] at hv
  | cons p r ih =>
    intro t v hv
    obtain ⟨k, u⟩ := p
    obtain ⟨h1, h2⟩ := h
    rw [look_cons] at hv
    by_cases hk : k = t
    · subst hk
      simp only [↓reduceIte, Option.some.injEq] at hv
      subst hv; exact h1
    · rw [if_neg hk] at hv; exact ih h2 t v hv

theorem Sat.sub {n D E E' a} (h : Sat n D E a) (hs : Sub E' E) : Sat n D E' a := ⟨h.size, h.defers, fun t v hv => h.at' t v (hs.look t v hv)⟩

/-! ## Memory -/
inductive GO where
  | pre (cs : List Value)
  | ex (o : Obj)

abbrev Gh := Nat → Option GO

def GO.at : GO → Obj → Prop
  | .pre cs, .cells c _ _ => ∃ rest, c = (cs ++ rest).toArray
  | .pre _, _ => False
  | .ex o, o' => o' = o

def Gh.ok (G : Gh) (w : World) : Prop := ∀ b g, G b = some g → ∃ o, w.heap[b]? = some o ∧ g.at o

def Gh.le (G G' : Gh) : Prop := ∀ b g, G b = some g → G' b = some g

theorem Gh.le.refl (G : Gh) : Gh.le G G := fun _ _ h => h
theorem Gh.le.trans {G G' G'' : Gh} (h : Gh.le G G') (h' : Gh.le G' G'') : Gh.le G G'' := fun b g hb => h' b g (h b g hb)

inductive Own where
  | blk (b : Nat) (o : Obj)
  | acc (v : Value) (ty : TypeId) (sz n : Nat) (xs : List Value)

def vbk : Value → List Nat
  | .slice (some a) _ _ => [a.block]
  | _ => []

def Own.bk : Own → List Nat
  | .blk b _ => [b]
  | .acc v _ _ _ _ => vbk v

def AccAt (w : World) (v : Value) (ty : TypeId) (sz n : Nat) (xs : List Value) : Prop :=
  xs.length = n * sz ∧ ((v = .slice none 0 0 ∧ n = 0) ∨
    ∃ b cap rest, v = .slice (some ⟨b, 0, none⟩) n cap ∧ n ≤ cap ∧ (xs ++ rest).length = cap * sz ∧ w.heap[b]? = some (.cells (xs ++ rest).toArray ty (0, 0)))

def Own.at (w : World) : Own → Prop
  | .blk b o => w.heap[b]? = some o
  | .acc v ty sz n xs => AccAt w v ty sz n xs

def bks (L : List Own) : List Nat := L.flatMap Own.bk

theorem mem_bks {L : List Own} {b : Nat} : b ∈ bks L ↔ ∃ x ∈ L, b ∈ x.bk := by simp [bks]

theorem Own.at_lt {w : World} {x : Own} (h : x.at w) : ∀ b ∈ x.bk, b < w.heap.size := by
  intro b hb
  cases x with
  | blk c o =>
    simp only [Own.bk, List.mem_singleton] at hb; subst hb
    exact (Array.getElem?_eq_some_iff.1 h).1
  | acc v ty sz n xs =>
    obtain ⟨_, ⟨rfl, rfl⟩ | ⟨c, cap, rest, rfl, _, _, h⟩⟩ := h
    · simp [Own.bk, vbk] at hb
    · simp only [Own.bk, vbk, List.mem_singleton] at hb; subst hb
      exact (Array.getElem?_eq_some_iff.1 h).1

/-- What an assertion says hangs on its own blocks alone. -/
theorem Own.at_same {w w' : World} {x : Own} (h : x.at w) (hs : ∀ b ∈ x.bk, w'.heap[b]? = w.heap[b]?) : x.at w' := by
  cases x with
  | blk c o => show w'.heap[c]? = some o; rw [hs c (by simp [Own.bk])]; exact h
  | acc v ty sz n xs =>
    obtain ⟨h1, h2 | ⟨c, cap, rest, rfl, h3, h4, h⟩⟩ := h
    · exact ⟨h1, .inl h2⟩
    · exact ⟨h1, .inr ⟨c, cap, rest, rfl, h3, h4, by rw [hs c (by simp [Own.bk, vbk])]; exact h⟩⟩

structure Base where
  w : World
  G : Gh
  W : List Nat

structure St (B : Base) (G : Gh) (L : List Own) (w : World) : Prop where
  ok : G.ok w
  own : ∀ x ∈ L, x.at w
  fresh : ∀ b ∈ bks L, G b = none ∧ (B.w.heap.size ≤ b ∨ b ∈ B.W)
  nd : (bks L).Nodup
  os : w.os = B.w.os
  tape : w.tape = B.w.tape
  output : w.output = B.w.output
  size : B.w.heap.size ≤ w.heap.size
  frame : ∀ b, b < B.w.heap.size → b ∉ B.W → w.heap[b]? = B.w.heap[b]? ∧ G b = B.G b

theorem St.drew {B G L w} (h : St B G L w) : St B G L w.drew := ⟨h.ok, h.own, h.fresh, h.nd, h.os, h.tape, h.output, h.size, h.frame⟩

theorem Gh.ok.lt {G : Gh} {w : World} (h : G.ok w) {b g} (hb : G b = some g) : b < w.heap.size := by
  obtain ⟨o, ho, _⟩ := h b g hb
  exact (Array.getElem?_eq_some_iff.1 ho).1

theorem heap_alloc_old (w : World) (o : Obj) {b : Nat} (h : b < w.heap.size) : (w.alloc o).heap[b]? = w.heap[b]? := by
  show (w.heap.push o)[b]? = _
  rw [Array.getElem?_push, if_neg (by omega)]
theorem heap_alloc_new (w : World) (o : Obj) : (w.alloc o).heap[w.heap.size]? = some o := by
  show (w.heap.push o)[w.heap.size]? = _
  simp

theorem St.lt {B G L w} (h : St B G L w) {b : Nat} (hb : b ∈ bks L) : b < w.heap.size := by
  obtain ⟨x, hx, hbx⟩ := mem_bks.1 hb
  exact Own.at_lt (h.own x hx) b hbx

/-- A new block. -/
theorem St.alloc {B G L w} (h : St B G L w) (o : Obj) : St B G (.blk w.heap.size o :: L) (w.alloc o) := by
  have hnew : w.heap.size ∉ bks L := fun hb => by have := h.lt hb; omega
  refine ⟨fun b g hb => ?_, fun x hx => ?_, fun b hb => ?_, ?_, h.os, h.tape, h.output, ?_, fun b hb hW => ?_⟩
  · obtain ⟨o', ho', hg⟩ := h.ok b g hb
    exact ⟨o', by rw [heap_alloc_old _ _ (h.ok.lt hb)]; exact ho', hg⟩
  · cases List.mem_cons.1 hx with
    | inl e => subst e; exact heap_alloc_new w o
    | inr hx => exact Own.at_same (h.own x hx) fun b hb => heap_alloc_old _ _ (Own.at_lt (h.own x hx) b hb)
  · simp only [bks, List.flatMap_cons, Own.bk, List.singleton_append, List.mem_cons] at hb
    rcases hb with rfl | hb
    · refine ⟨?_, .inl h.size⟩
      cases hG : G w.heap.size with
      | none => rfl
      | some g => have := h.ok.lt hG; omega
    · exact h.fresh b hb
  · simp only [bks, List.flatMap_cons, Own.bk, List.singleton_append, List.nodup_cons]
    exact ⟨hnew, h.nd⟩
  · simpa using Nat.le_succ_of_le h.size
  · obtain ⟨h1, h2⟩ := h.frame b hb hW
    exact ⟨by rw [heap_alloc_old _ _ (Nat.lt_of_lt_of_le hb h.size)]; exact h1, h2⟩

theorem bks_sub {L L' : List Own} (hs : L'.Sublist L) : (bks L').Sublist (bks L) := by
  induction hs with
  | slnil => exact .slnil
  | cons a _ ih => simp only [bks, List.flatMap_cons]; exact ih.trans (List.sublist_append_right _ _)
  | cons_cons a _ ih => simp only [bks, List.flatMap_cons]; exact List.Sublist.append (List.Sublist.refl _) ih

/-- Fewer assertions. -/
theorem St.weaken {B G L L' w} (h : St B G L w) (hs : L'.Sublist L) : St B G L' w := by
  have hb : (bks L').Sublist (bks L) := bks_sub hs
  exact ⟨h.ok, fun x hx => h.own x (hs.subset hx), fun b hx => h.fresh b (hb.subset hx), hb.nodup h.nd, h.os, h.tape, h.output, h.size, h.frame⟩

theorem St.perm {B G L L' w} (h : St B G L w) (hs : L.Perm L') : St B G L' w := by
  have hb : (bks L).Perm (bks L') := hs.flatMap_right _
  exact ⟨h.ok, fun x hx => h.own x (hs.symm.subset hx), fun b hx => h.fresh b (hb.symm.subset hx), hb.nodup_iff.1 h.nd, h.os, h.tape, h.output, h.size, h.frame⟩

theorem bks_append (L R : List Own) : bks (L ++ R) = bks L ++ bks R := by simp [bks]

/-- The state in which a callee begins. -/
theorem St.enter {B G L R w} (h : St B G (L ++ R) w) : St ⟨w, G, bks L⟩ G L w := by
  have h' := h.weaken (L' := L) (List.sublist_append_left L R)
  exact ⟨h'.ok, h'.own, fun b hb => ⟨(h'.fresh b hb).1, .inr hb⟩, h'.nd, rfl, rfl, rfl, Nat.le_refl _, fun _ _ _ => ⟨rfl, rfl⟩⟩

/-- And back. -/
theorem St.back {B G L R w G' L' w'} (h : St B G (L ++ R) w) (k : St ⟨w, G, bks L⟩ G' L' w') : St B G' (L' ++ R) w' := by
  have hnd := h.nd
  rw [bks_append] at hnd
  have hR : ∀ b ∈ bks R, b < w.heap.size ∧ b ∉ bks L := fun b hb =>
    ⟨h.lt (by rw [bks_append]; exact List.mem_append_right _ hb), fun hL => (List.nodup_append.1 hnd).2.2 b hL b hb rfl⟩
  have hL' : ∀ b ∈ bks L', b ∉ bks R := fun b hb hbR => by
    obtain ⟨h1, h2⟩ := hR b hbR
    rcases (k.fresh b hb).2 with h3 | h3
    · simp only at h3; omega
    · exact h2 h3
  refine ⟨k.ok, fun x hx => ?_, fun b hb => ?_, ?_, k.os.trans h.os, k.tape.trans h.tape, k.output.trans h.output, Nat.le_trans h.size k.size, fun b hb hW => ?_⟩
  · rcases List.mem_append.1 hx with hx | hx
    · exact k.own x hx
    · refine Own.at_same (h.own x (List.mem_append_right _ hx)) fun b hb => ?_
      obtain ⟨h1, h2⟩ := hR b (mem_bks.2 ⟨x, hx, hb⟩)
      exact (k.frame b h1 h2).1
  · rw [bks_append] at hb
    rcases List.mem_append.1 hb with hb | hb
    · refine ⟨(k.fresh b hb).1, ?_⟩
      rcases (k.fresh b hb).2 with h3 | h3
      · exact .inl (Nat.le_trans h.size h3)
      · exact (h.fresh b (by rw [bks_append]; exact List.mem_append_left _ h3)).2
    · obtain ⟨h1, h2⟩ := hR b hb
      have := h.fresh b (by rw [bks_append]; exact List.mem_append_right _ hb)
      exact ⟨by rw [(k.frame b h1 h2).2]; exact this.1, this.2⟩
  · rw [bks_append]
    refine List.nodup_append.2 ⟨k.nd, (List.nodup_append.1 hnd).2.1, fun a ha b hb e => ?_⟩
    subst e; exact hL' a ha hb
  · obtain ⟨h1, h2⟩ := h.frame b hb hW
    have hbL : b ∉ bks L := fun hbL => by
      rcases (h.fresh b (by rw [bks_append]; exact List.mem_append_left _ hbL)).2 with h3 | h3
      · omega
      · exact hW h3
    obtain ⟨h3, h4⟩ := k.frame b (Nat.lt_of_lt_of_le hb h.size) hbL
    exact ⟨h3.trans h1, h4.trans h2⟩

/-- What was known of memory that does not turn is still known. -/
theorem St.le {B G L w} (h : St B G L w) (h0 : B.G.ok B.w) (hB : ∀ b ∈ B.W, B.G b = none) : Gh.le B.G G := by
  intro b g hb
  by_cases hW : b ∈ B.W
  · rw [hB b hW] at hb; cases hb
  · rw [(h.frame b (h0.lt hb) hW).2]; exact hb

end Go.E
/-! EngB -/
namespace Go.E

structure Nx (n : Nat) (D : List Deferred) (E : Env) (B : Base) (G : Gh) (L : List Own) (K : Act → World → Prop) : Prop where
  go : ∀ a w, Sat n D E a → St B G L w → K a w
def cw (P : Program) (c : Code) (Q : Exit → Act → World → Prop) : Act → World → Prop := c.wp P Q
def lw (P : Program) (ops : Array Oper) (Q : Exit → Act → World → Prop) (l : List Oper) : Act → World → Prop := wpList P ops Q l
def tn (K : Act → World → Prop) (Q : Exit → Act → World → Prop) : Exit → Act → World → Prop := Exit.then K Q
def bl (id : Nat) (Q : Exit → Act → World → Prop) : Exit → Act → World → Prop := Exit.inBlock id Q
def bp (P : Program) (fn : Func) (R : Ending → World → Prop) : Exit → Act → World → Prop := bodyPost P fn R
def qw (P : Program) (ops : Array Oper) (C : World → Prop) (R : Act → Prop) (l : List Oper) : Act → Prop := wpQuiet P ops C R l
def qK (C : World → Prop) (K : Act → World → Prop) : Act → Prop := fun a' => ∀ w', C w' → K a' w'

def ow (P : Program) (o : Oper) (Q : Exit → Act → World → Prop) (K : Act → World → Prop) : Act → World → Prop := fun a w => o.wp P a w K Q

section
variable {n : Nat} {D : List Deferred} {E : Env} {B : Base} {G : Gh} {L : List Own} {P : Program}
variable {Q : Exit → Act → World → Prop} {K : Act → World → Prop}

theorem Nx.mono {K' : Act → World → Prop} (h : Nx n D E B G L K) (hk : ∀ a w, K a w → K' a w) : Nx n D E B G L K' := Nx.mk fun a w hs hw => hk a w (h.go a w hs hw)

theorem Nx.weak {E' : Env} {L' : List Own} (hE : Sub E' E) (hL : L'.Sublist L) (h : Nx n D E' B G L' K) : Nx n D E B G L K :=
  Nx.mk fun a w hs hw => h.go a w (hs.sub hE) (hw.weaken hL)
theorem Nx.env {E' : Env} (hE : Sub E' E) (h : Nx n D E' B G L K) : Nx n D E B G L K := Nx.mk fun a w hs hw => h.go a w (hs.sub hE) hw
theorem Nx.drop {L' : List Own} (hL : L'.Sublist L) (h : Nx n D E B G L' K) : Nx n D E B G L K := Nx.mk fun a w hs hw => h.go a w hs (hw.weaken hL)
theorem Nx.perm {L' : List Own} (hL : L.Perm L') (h : Nx n D E B G L' K) : Nx n D E B G L K := Nx.mk fun a w hs hw => h.go a w hs (hw.perm hL)
/-- A fact on worlds becomes a fact at hand. -/
theorem Nx.fact {p : Prop} (hp : ∀ w, St B G L w → p) (h : p → Nx n D E B G L K) : Nx n D E B G L K := Nx.mk fun a w hs hw => (h (hp w hw)).go a w hs hw

/-! ### Control -/
theorem s_seq {x y : Code} (h : Nx n D E B G L (cw P x (tn (cw P y Q) Q))) : Nx n D E B G L (cw P (.seq x y) Q) := Nx.mk fun a w hs hw => wp_seq (h.go a w hs hw)
theorem s_skip (h : Nx n D E B G L (Q .normal)) : Nx n D E B G L (cw P .skip Q) := Nx.mk fun a w hs hw => wp_skip (h.go a w hs hw)
theorem s_ret (h : Nx n D E B G L (Q .ret)) : Nx n D E B G L (cw P .ret Q) := Nx.mk fun a w hs hw => wp_ret (h.go a w hs hw)
theorem s_exit {id : Nat} (h : Nx n D E B G L (Q (.exit id))) : Nx n D E B G L (cw P (.exit id) Q) := Nx.mk fun a w hs hw => wp_exit (h.go a w hs hw)
theorem s_block {id : Nat} {c : Code} (h : Nx n D E B G L (cw P c (bl id Q))) : Nx n D E B G L (cw P (.block id c) Q) := Nx.mk fun a w hs hw => wp_block (h.go a w hs hw)
theorem s_cond {c : Operand} {x y : Code} {b : Bool} (hc : ev E c = some (.bool b)) (ht : b = true → Nx n D E B G L (cw P x Q)) (hf : b = false → Nx n D E B G L (cw P y Q)) :
    Nx n D E B G L (cw P (.cond c x y) Q) := Nx.mk fun a w hs hw =>
  wp_cond_split (hs.ev hc) (fun h => (ht h).go a w hs hw) (fun h => (hf h).go a w hs hw)
theorem s_if {c : Operand} {x y : Code} {p : Prop} [Decidable p] (hc : ev E c = some (.bool (decide p))) (ht : p → Nx n D E B G L (cw P x Q)) (hf : ¬ p → Nx n D E B G L (cw P y Q)) :
    Nx n D E B G L (cw P (.cond c x y) Q) := s_cond hc (fun h => ht (of_decide_eq_true h)) (fun h => hf (of_decide_eq_false h))
theorem s_true {c : Operand} {x y : Code} {b : Bool} (hc : ev E c = some (.bool b)) (hb : b = true) (ht : Nx n D E B G L (cw P x Q)) : Nx n D E B G L (cw P (.cond c x y) Q) :=
  s_cond hc (fun _ => ht) (fun h => absurd (hb.symm.trans h) (by decide))
theorem s_false {c : Operand} {x y : Code} {b : Bool} (hc : ev E c = some (.bool b)) (hb : b = false) (hf : Nx n D E B G L (cw P y Q)) : Nx n D E B G L (cw P (.cond c x y) Q) :=
  s_cond hc (fun h => absurd (hb.symm.trans h) (by decide)) (fun _ => hf)

/-! exits -/
theorem k_then (h : Nx n D E B G L K) : Nx n D E B G L (tn K Q .normal) := ⟨h.go⟩
theorem k_then_r (h : Nx n D E B G L (Q .ret)) : Nx n D E B G L (tn K Q .ret) := ⟨h.go⟩
theorem k_then_e {i : Nat} (h : Nx n D E B G L (Q (.exit i))) : Nx n D E B G L (tn K Q (.exit i)) := ⟨h.go⟩
theorem k_blk {id : Nat} (h : Nx n D E B G L (Q .normal)) : Nx n D E B G L (bl id Q .normal) := ⟨h.go⟩
theorem k_blk_r {id : Nat} (h : Nx n D E B G L (Q .ret)) : Nx n D E B G L (bl id Q .ret) := ⟨h.go⟩
theorem k_blk_hit {id : Nat} (h : Nx n D E B G L (Q .normal)) : Nx n D E B G L (bl id Q (.exit id)) := Nx.mk fun a w hs hw => by
  simp only [bl, Exit.inBlock, ↓reduceIte]; exact h.go a w hs hw
theorem k_blk_miss {id i : Nat} (hne : Nat.beq i id = false) (h : Nx n D E B G L (Q (.exit i))) : Nx n D E B G L (bl id Q (.exit i)) := Nx.mk fun a w hs hw => by
  have : i ≠ id := fun e => by subst e; simp at hne
  simp only [bl, Exit.inBlock, if_neg this]; exact h.go a w hs hw

/-! ### Loops and cuts -/
/-- What a round hands on: the family at an index of smaller measure. -/
def LI {ι : Type} (n : Nat) (D : List Deferred) (B : Base) (Pre : ι → Prop) (Ei : ι → Env) (Gi : ι → Gh) (Li : ι → List Own) (μ : ι → Nat) (m : Nat) : Act → World → Prop :=
  fun a w => ∃ j, Pre j ∧ μ j < m ∧ Sat n D (Ei j) a ∧ St B (Gi j) (Li j) w

theorem s_loop {ι : Type} {c : Code} (Pre : ι → Prop) (Ei : ι → Env) (Gi : ι → Gh) (Li : ι → List Own) (μ : ι → Nat) (i0 : ι) (h0 : Pre i0)
    (hE : Sub (Ei i0) E) (hG : Gi i0 = G) (hL : (Li i0).Sublist L)
    (round : ∀ i, Pre i → Nx n D (Ei i) B (Gi i) (Li i) (cw P c (tn (LI n D B Pre Ei Gi Li μ (μ i)) Q))) : Nx n D E B G L (cw P (.loop c) Q) := Nx.mk fun a w hs hw => by
  refine wp_loop_ghost (fun k a w => ∃ i, Pre i ∧ μ i = k ∧ Sat n D (Ei i) a ∧ St B (Gi i) (Li i) w) (μ i0) ⟨i0, h0, rfl, hs.sub hE, hG ▸ hw.weaken hL⟩ ?_
  rintro k a w ⟨i, hi, rfl, hs, hw⟩
  refine wp_mono ((round i hi).go a w hs hw) fun e a' w' q => ?_
  cases e with
  | normal =>
    obtain ⟨j, h1, h2, h3, h4⟩ := q
    exact ⟨μ j, h2, j, h1, rfl, h3, h4⟩
  | _ => exact q

theorem k_round {ι : Type} {Pre : ι → Prop} {Ei : ι → Env} {Gi : ι → Gh} {Li : ι → List Own} {μ : ι → Nat} {m : Nat} (j : ι) (h1 : Pre j) (h2 : μ j < m)
    (hE : Sub (Ei j) E) (hG : Gi j = G) (hL : (Li j).Sublist L) : Nx n D E B G L (LI n D B Pre Ei Gi Li μ m) := Nx.mk fun _ _ hs hw =>
  ⟨j, h1, h2, hs.sub hE, hG ▸ hw.weaken hL⟩

/-- A cut: what holds between two codes. -/
def CI {ι : Type} (n : Nat) (D : List Deferred) (B : Base) (Pre : ι → Prop) (Ei : ι → Env) (Gi : ι → Gh) (Li : ι → List Own) : Act → World → Prop :=
  fun a w => ∃ j, Pre j ∧ Sat n D (Ei j) a ∧ St B (Gi j) (Li j) w
theorem s_cut {ι : Type} {x y : Code} (Pre : ι → Prop) (Ei : ι → Env) (Gi : ι → Gh) (Li : ι → List Own)
    (hx : Nx n D E B G L (cw P x (tn (CI n D B Pre Ei Gi Li) Q))) (hy : ∀ i, Pre i → Nx n D (Ei i) B (Gi i) (Li i) (cw P y Q)) : Nx n D E B G L (cw P (.seq x y) Q) := Nx.mk fun a w hs hw => by
  refine wp_seq (wp_mono (hx.go a w hs hw) fun e a' w' q => ?_)
  cases e with
  | normal => obtain ⟨j, h1, h2, h3⟩ := q; exact (hy j h1).go a' w' h2 h3
  | _ => exact q
theorem k_cut {ι : Type} {Pre : ι → Prop} {Ei : ι → Env} {Gi : ι → Gh} {Li : ι → List Own} (j : ι) (h1 : Pre j)
    (hE : Sub (Ei j) E) (hG : Gi j = G) (hL : (Li j).Sublist L) : Nx n D E B G L (CI n D B Pre Ei Gi Li) := Nx.mk fun _ _ hs hw =>
  ⟨j, h1, hs.sub hE, hG ▸ hw.weaken hL⟩

/-! ### Regions in the order of the text -/
theorem s_region {id : Nat} {l : List Oper} (h : Nx n D E B G L (lw P l.toArray Q l)) : Nx n D E B G L (cw P (.region id l.toArray false) Q) := Nx.mk fun a w hs hw => wp_region_lit (h.go a w hs hw)
theorem l_nil {ops : Array Oper} (h : Nx n D E B G L (Q .normal)) : Nx n D E B G L (lw P ops Q []) := ⟨h.go⟩
theorem l_op {ops : Array Oper} {o : Oper} {rest : List Oper} (hg : o.guard = none) (h : Nx n D E B G L (ow P o Q (lw P ops Q rest))) : Nx n D E B G L (lw P ops Q (o :: rest)) := Nx.mk fun a w hs hw => by
  unfold lw wpList; rw [if_pos (by simp [Region.wanted, hg])]; exact .inl (h.go a w hs hw)

/-- The bool that a guard's operation has left. -/
def gb : Option Value → Option Bool
  | some (.bool b) => some b
  | _ => none
def isKnown : Option Value → Bool
  | some _ => true
  | none => false
theorem yielded_of {a : Act} {ops : Array Oper} {j dj : Nat} {g : Option Bool} (hs : Sat n D E a) (hj : (ops[j]?).bind (·.dst) = some dj) (hk : isKnown (look E dj) = true) (hy : gb (look E dj) = g) : yielded ops a.tmps j = g := by
  unfold yielded
  cases hv : look E dj with
  | none => rw [hv] at hk; simp [isKnown] at hk
  | some v =>
    have hx : ops[j]?.bind (fun o => o.dst) = some dj := hj
    rw [hx]
    simp only [Option.bind_some, hs.at' dj v hv]
    rw [hv] at hy
    cases v <;> simp_all [gb]
theorem l_yes {ops : Array Oper} {o : Oper} {rest : List Oper} {j dj : Nat} {want b : Bool} (hg : o.guard = some (j, want)) (hj : (ops[j]?).bind (·.dst) = some dj)
    (hk : isKnown (look E dj) = true) (hy : gb (look E dj) = some b) (hb : b = want) (h : Nx n D E B G L (ow P o Q (lw P ops Q rest))) : Nx n D E B G L (lw P ops Q (o :: rest)) := Nx.mk fun a w hs hw => by
  unfold lw wpList; rw [if_pos (by simp [Region.wanted, hg, yielded_of hs hj hk hy, hb])]; exact .inl (h.go a w hs hw)
theorem l_no' {ops : Array Oper} {o : Oper} {rest : List Oper} {j dj d : Nat} {want : Bool} {g : Option Bool} (hg : o.guard = some (j, want)) (hd : o.dst = some d) (hlt : Nat.blt d n = true) (hj : (ops[j]?).bind (·.dst) = some dj)
    (hk : isKnown (look E dj) = true) (hy : gb (look E dj) = g) (hb : g ≠ some want) (h : Nx n D ((d, undef) :: E) B G L (lw P ops Q rest)) : Nx n D E B G L (lw P ops Q (o :: rest)) := Nx.mk fun a w hs hw => by
  unfold lw wpList
  rw [if_neg (by simpa [Region.wanted, hg, yielded_of hs hj hk hy] using hb), hd]
  exact h.go _ w (hs.put (by simpa using hlt)) hw

theorem not_some {b want : Bool} (hb : b = !want) : (some b : Option Bool) ≠ some want := by subst hb; cases want <;> simp
theorem l_no {ops : Array Oper} {o : Oper} {rest : List Oper} {j dj d : Nat} {want b : Bool} (hg : o.guard = some (j, want)) (hd : o.dst = some d) (hlt : Nat.blt d n = true) (hj : (ops[j]?).bind (·.dst) = some dj)
    (hk : isKnown (look E dj) = true) (hy : gb (look E dj) = some b) (hb : b = !want) (h : Nx n D ((d, undef) :: E) B G L (lw P ops Q rest)) : Nx n D E B G L (lw P ops Q (o :: rest)) := l_no' hg hd hlt hj hk hy (not_some hb) h
theorem l_un {ops : Array Oper} {o : Oper} {rest : List Oper} {j dj d : Nat} {want : Bool} (hg : o.guard = some (j, want)) (hd : o.dst = some d) (hlt : Nat.blt d n = true) (hj : (ops[j]?).bind (·.dst) = some dj)
    (hk : isKnown (look E dj) = true) (hy : gb (look E dj) = none) (h : Nx n D ((d, undef) :: E) B G L (lw P ops Q rest)) : Nx n D E B G L (lw P ops Q (o :: rest)) := l_no' hg hd hlt hj hk hy (by simp) h
/-- A guard that is not decided parts the way. -/
theorem l_gs {ops : Array Oper} {o : Oper} {rest : List Oper} {j dj : Nat} {want : Bool} {p : Prop} [Decidable p] (_hg : o.guard = some (j, want)) (_hj : (ops[j]?).bind (·.dst) = some dj) (_hy : gb (look E dj) = some (decide p))
    (h1 : p → Nx n D E B G L (lw P ops Q (o :: rest))) (h2 : ¬ p → Nx n D E B G L (lw P ops Q (o :: rest))) : Nx n D E B G L (lw P ops Q (o :: rest)) := by
  by_cases h : p
  · exact h1 h
  · exact h2 h
theorem l_gn {ops : Array Oper} {o : Oper} {rest : List Oper} {j dj : Nat} {want : Bool} {b : Bool} (_hg : o.guard = some (j, want)) (_hj : (ops[j]?).bind (·.dst) = some dj) (_hy : gb (look E dj) = some b)
    (h1 : b = true → Nx n D E B G L (lw P ops Q (o :: rest))) (h2 : b = false → Nx n D E B G L (lw P ops Q (o :: rest))) : Nx n D E B G L (lw P ops Q (o :: rest)) := by
  cases b
  · exact h2 rfl
  · exact h1 rfl

/-! ### Operations that only yield -/
structure Gives (P : Program) (n : Nat) (D : List Deferred) (E : Env) (S : World → Prop) (o : Oper) (v : Value) : Prop where
  go : ∀ a w, Sat n D E a → S w → (execOp a.eval o).run P w = .ok (.value v) w

theorem v_op {o : Oper} {d : Nat} {v : Value} (hg : Gives P n D E (St B G L) o v) (hd : o.dst = some d) (hlt : Nat.blt d n = true) (k : Nx n D ((d, v) :: E) B G L K) :
    Nx n D E B G L (ow P o Q K) := Nx.mk fun a w hs hw => by
  unfold ow Oper.wp
  rw [hg.go a w hs hw]
  simp only [Oper.upon_value, hd]
  exact k.go _ w (hs.put (by simpa using hlt)) hw

/-! ### Regions that draw their order and only read -/
structure Nq (n : Nat) (D : List Deferred) (E : Env) (K : Act → Prop) : Prop where
  go : ∀ a, Sat n D E a → K a
def oq (P : Program) (o : Oper) (C : World → Prop) (K : Act → Prop) : Act → Prop := fun a => o.quiet P a C K

theorem s_quiet {id : Nat} {l : List Oper} (hm : P.follows .mixedOrders = true) (hB : Region.lexB .any l.toArray = true)
    (h : Nq n D E (qw P l.toArray (St B G L) (qK (St B G L) (Q .normal)) l)) : Nx n D E B G L (cw P (.region id l.toArray true) Q) := Nx.mk fun a w hs hw => by
  have h1 : wpQuiet P l.toArray (St B G L) (fun a' => ∀ w', St B G L w' → Q .normal a' w') l a := h.go a hs
  refine wp_region_quiet (C := St B G L) hm hB ?_ (by simpa using h1)
  exact hw.drew
theorem q_nil {ops : Array Oper} (h : Nx n D E B G L K) : Nq n D E (qw P ops (St B G L) (qK (St B G L) K) []) := Nq.mk fun a hs w hw => h.go a w hs hw
theorem q_op {ops : Array Oper} {C : World → Prop} {R : Act → Prop} {o : Oper} {rest : List Oper} (hg : o.guard = none) (h : Nq n D E (oq P o C (qw P ops C R rest))) : Nq n D E (qw P ops C R (o :: rest)) := Nq.mk fun a hs => by
  unfold qw wpQuiet; rw [if_pos (by simp [Region.wanted, hg])]; exact h.go a hs
theorem q_yes {ops : Array Oper} {C : World → Prop} {R : Act → Prop} {o : Oper} {rest : List Oper} {j dj : Nat} {want b : Bool} (hg : o.guard = some (j, want)) (hj : (ops[j]?).bind (·.dst) = some dj)
    (hk : isKnown (look E dj) = true) (hy : gb (look E dj) = some b) (hb : b = want) (h : Nq n D E (oq P o C (qw P ops C R rest))) : Nq n D E (qw P ops C R (o :: rest)) := Nq.mk fun a hs => by
  unfold qw wpQuiet; rw [if_pos (by simp [Region.wanted, hg, yielded_of hs hj hk hy, hb])]; exact h.go a hs
theorem q_no' {ops : Array Oper} {C : World → Prop} {R : Act → Prop} {o : Oper} {rest : List Oper} {j dj d : Nat} {want : Bool} {g : Option Bool} (hg : o.guard = some (j, want)) (hd : o.dst = some d) (hlt : Nat.blt d n = true)
    (hj : (ops[j]?).bind (·.dst) = some dj) (hk : isKnown (look E dj) = true) (hy : gb (look E dj) = g) (hb : g ≠ some want) (h : Nq n D ((d, undef) :: E) (qw P ops C R rest)) : Nq n D E (qw P ops C R (o :: rest)) := Nq.mk fun a hs => by
  unfold qw wpQuiet
  rw [if_neg (by simpa [Region.wanted, hg, yielded_of hs hj hk hy] using hb), hd]
  exact h.go _ (hs.put (by simpa using hlt))
theorem q_no {ops : Array Oper} {C : World → Prop} {R : Act → Prop} {o : Oper} {rest : List Oper} {j dj d : Nat} {want b : Bool} (hg : o.guard = some (j, want)) (hd : o.dst = some d) (hlt : Nat.blt d n = true)
    (hj : (ops[j]?).bind (·.dst) = some dj) (hk : isKnown (look E dj) = true) (hy : gb (look E dj) = some b) (hb : b = !want) (h : Nq n D ((d, undef) :: E) (qw P ops C R rest)) : Nq n D E (qw P ops C R (o :: rest)) := q_no' hg hd hlt hj hk hy (not_some hb) h
theorem q_un {ops : Array Oper} {C : World → Prop} {R : Act → Prop} {o : Oper} {rest : List Oper} {j dj d : Nat} {want : Bool} (hg : o.guard = some (j, want)) (hd : o.dst = some d) (hlt : Nat.blt d n = true)
    (hj : (ops[j]?).bind (·.dst) = some dj) (hk : isKnown (look E dj) = true) (hy : gb (look E dj) = none) (h : Nq n D ((d, undef) :: E) (qw P ops C R rest)) : Nq n D E (qw P ops C R (o :: rest)) := q_no' hg hd hlt hj hk hy (by simp) h
theorem q_gs {ops : Array Oper} {C : World → Prop} {R : Act → Prop} {o : Oper} {rest : List Oper} {j dj : Nat} {want : Bool} {p : Prop} [Decidable p] (_hg : o.guard = some (j, want)) (_hj : (ops[j]?).bind (·.dst) = some dj) (_hy : gb (look E dj) = some (decide p))
    (h1 : p → Nq n D E (qw P ops C R (o :: rest))) (h2 : ¬ p → Nq n D E (qw P ops C R (o :: rest))) : Nq n D E (qw P ops C R (o :: rest)) := by
  by_cases h : p
  · exact h1 h
  · exact h2 h
theorem q_gn {ops : Array Oper} {C : World → Prop} {R : Act → Prop} {o : Oper} {rest : List Oper} {j dj : Nat} {want b : Bool} (_hg : o.guard = some (j, want)) (_hj : (ops[j]?).bind (·.dst) = some dj) (_hy : gb (look E dj) = some b)
    (h1 : b = true → Nq n D E (qw P ops C R (o :: rest))) (h2 : b = false → Nq n D E (qw P ops C R (o :: rest))) : Nq n D E (qw P ops C R (o :: rest)) := by
  cases b
  · exact h2 rfl
  · exact h1 rfl
theorem q_val {C : World → Prop} {R : Act → Prop} {o : Oper} {d : Nat} {v : Value} (hg : Gives P n D E C o v) (hd : o.dst = some d) (hlt : Nat.blt d n = true) (k : Nq n D ((d, v) :: E) R) : Nq n D E (oq P o C R) := Nq.mk fun a hs => by
  refine ⟨v, fun w hw => ?_, ?_⟩
  · unfold Oper.quietAt; rw [hg.go a w hs hw]; exact ⟨rfl, rfl⟩
  · rw [hd]; exact k.go _ (hs.put (by simpa using hlt))

/-! ### Regions that draw their order and do more -/
/-- A state of memory that has at least what is laid down at the region's start. -/
def Stab (B : Base) (G0 : Gh) (L0 : List Own) (w : World) : Prop := ∃ G L, Gh.le G0 G ∧ (∀ x ∈ L0, x ∈ L) ∧ St B G L w
theorem Stab.of {G0 : Gh} {L0 : List Own} {w : World} (h : St B G L w) (hG : Gh.le G0 G) (hL : ∀ x ∈ L0, x ∈ L) : Stab B G0 L0 w := ⟨G, L, hG, hL, h⟩

def xA (P : Program) (ops : Array Oper) (Q : Exit → Act → World → Prop) (S : World → Prop) (fuel : Nat) (listed : Array Bool) : Act → World → Prop := wpAnyH P .any ops Q S fuel listed
def xK (P : Program) (ops : Array Oper) (Q : Exit → Act → World → Prop) (S : World → Prop) (fuel : Nat) (listed : Array Bool) : Act → World → Prop := fun a w => S w ∧ wpAnyH P .any ops Q S fuel listed a w
def xO (P : Program) (ops : Array Oper) (Q : Exit → Act → World → Prop) (i : Nat) (K : Act → World → Prop) : Act → World → Prop := wpOp P ops Q i K

theorem s_any {id : Nat} {l : List Oper} (L0 : List Own) (_hL : ∀ x ∈ L0, x ∈ L) (hm : P.follows .mixedOrders = true)
    (h : Nx n D E B G L (xA P l.toArray Q (Stab B G L0) l.length (List.replicate l.length false).toArray)) : Nx n D E B G L (cw P (.region id l.toArray true) Q) := Nx.mk fun a w hs hw => by
  refine wp_region_held (S := Stab B G L0) hm ?_
  have := h.go a w.drew hs hw.drew
  simpa [xA] using this
theorem x_done {ops : Array Oper} {S : World → Prop} {fuel : Nat} {listed : Array Bool} (hr : Region.ready .any ops listed = []) (h : Nx n D E B G L (Q .normal)) : Nx n D E B G L (xA P ops Q S fuel listed) := Nx.mk fun a w hs hw =>
  wpAnyH_done hr (h.go a w hs hw) fuel
/-- Operation number i is carried out first. -/
theorem x_take {ops : Array Oper} {G0 : Gh} {L0 : List Own} {fuel : Nat} {listed listed' : Array Bool} (i : Nat) {o : Oper} {d : Nat} {v : Value} (hi : ops[i]? = some o)
    (hs : Region.noSelect ops = true) (hf : Region.free .any ops listed i = true) (hr : (Region.ready .any ops listed).contains i = true)
    (hQ : ∀ c a w, Q (.panic c) (a.put o.dst v) w → Q (.panic c) a w) (hg : Gives P n D E (Stab B G0 L0) o v) (hgu : o.guard = none) (hd : o.dst = some d) (hlt : Nat.blt d n = true)
    (hG : Gh.le G0 G) (hL : ∀ x ∈ L0, x ∈ L) (hl : listed.setIfInBounds i true = listed')
    (k : Nx n D ((d, v) :: E) B G L (xA P ops Q (Stab B G0 L0) fuel listed')) : Nx n D E B G L (xA P ops Q (Stab B G0 L0) (fuel + 1) listed) := Nx.mk fun a w hs' hw => by
  refine wpAnyH_take hi hs hf hr hQ (.inl ⟨by simp [Region.wanted, hgu], fun w' hw' => hg.go a w' hs' hw'⟩) (Stab.of hw hG hL) ?_
  rw [hl, hd]
  exact k.go _ w (hs'.put (by simpa using hlt)) hw
theorem x_takeY {ops : Array Oper} {G0 : Gh} {L0 : List Own} {fuel : Nat} {listed listed' : Array Bool} (i : Nat) {o : Oper} {j dj d : Nat} {want b : Bool} {v : Value} (hi : ops[i]? = some o)
    (hs : Region.noSelect ops = true) (hf : Region.free .any ops listed i = true) (hr : (Region.ready .any ops listed).contains i = true)
    (hQ : ∀ c a w, Q (.panic c) (a.put o.dst v) w → Q (.panic c) a w) (hg : Gives P n D E (Stab B G0 L0) o v) (hgu : o.guard = some (j, want)) (hj : (ops[j]?).bind (·.dst) = some dj)
    (hk : isKnown (look E dj) = true) (hy : gb (look E dj) = some b) (hb : b = want) (hd : o.dst = some d) (hlt : Nat.blt d n = true)
    (hG : Gh.le G0 G) (hL : ∀ x ∈ L0, x ∈ L) (hl : listed.setIfInBounds i true = listed')
    (k : Nx n D ((d, v) :: E) B G L (xA P ops Q (Stab B G0 L0) fuel listed')) : Nx n D E B G L (xA P ops Q (Stab B G0 L0) (fuel + 1) listed) := Nx.mk fun a w hs' hw => by
  refine wpAnyH_take hi hs hf hr hQ (.inl ⟨by simp [Region.wanted, hgu, yielded_of hs' hj hk hy, hb], fun w' hw' => hg.go a w' hs' hw'⟩) (Stab.of hw hG hL) ?_
  rw [hl, hd]
  exact k.go _ w (hs'.put (by simpa using hlt)) hw
theorem x_takeN {ops : Array Oper} {G0 : Gh} {L0 : List Own} {fuel : Nat} {listed listed' : Array Bool} (i : Nat) {o : Oper} {j dj d : Nat} {want : Bool} {g : Option Bool} (hi : ops[i]? = some o)
    (hs : Region.noSelect ops = true) (hf : Region.free .any ops listed i = true) (hr : (Region.ready .any ops listed).contains i = true)
    (hQ : ∀ c a w, Q (.panic c) (a.put o.dst undef) w → Q (.panic c) a w) (hgu : o.guard = some (j, want)) (hj : (ops[j]?).bind (·.dst) = some dj)
    (hk : isKnown (look E dj) = true) (hy : gb (look E dj) = g) (hb : g ≠ some want) (hd : o.dst = some d) (hlt : Nat.blt d n = true)
    (hG : Gh.le G0 G) (hL : ∀ x ∈ L0, x ∈ L) (hl : listed.setIfInBounds i true = listed')
    (k : Nx n D ((d, undef) :: E) B G L (xA P ops Q (Stab B G0 L0) fuel listed')) : Nx n D E B G L (xA P ops Q (Stab B G0 L0) (fuel + 1) listed) := Nx.mk fun a w hs' hw => by
  refine wpAnyH_take hi hs hf hr hQ (.inr ⟨by simpa [Region.wanted, hgu, yielded_of hs' hj hk hy] using hb, rfl⟩) (Stab.of hw hG hL) ?_
  rw [hl, hd]
  exact k.go _ w (hs'.put (by simpa using hlt)) hw

def xAll (n : Nat) (D : List Deferred) (E : Env) (B : Base) (G : Gh) (L : List Own) (P : Program) (ops : Array Oper) (Q : Exit → Act → World → Prop) (S : World → Prop) (fuel : Nat) (listed : Array Bool) : List Nat → Prop
  | [] => True
  | i :: r => Nx n D E B G L (xO P ops Q i (xK P ops Q S fuel (listed.setIfInBounds i true))) ∧ xAll n D E B G L P ops Q S fuel listed r
theorem x_all {ops : Array Oper} {S : World → Prop} {fuel : Nat} {listed : Array Bool} (rs : List Nat) (hr : Region.ready .any ops listed = rs) (hne : rs ≠ []) (h : xAll n D E B G L P ops Q S fuel listed rs) : Nx n D E B G L (xA P ops Q S (fuel + 1) listed) := Nx.mk fun a w hs hw => by
  refine wpAnyH_all hr hne ?_
  clear hr hne
  intro i hi
  induction rs with
  | nil => cases hi
  | cons j r ih =>
    obtain ⟨h1, h2⟩ := h
    cases List.mem_cons.1 hi with
    | inl e => subst e; exact h1.go a w hs hw
    | inr hi => exact ih h2 hi
theorem x_op {ops : Array Oper} {i : Nat} {o : Oper} (hi : ops[i]? = some o) (hg : o.guard = none) (h : Nx n D E B G L (ow P o Q K)) : Nx n D E B G L (xO P ops Q i K) := Nx.mk fun a w hs hw => by
  unfold xO wpOp; simp only [hi]; rw [if_pos (by simp [Region.wanted, hg])]; exact .inl (h.go a w hs hw)
theorem x_opY {ops : Array Oper} {i j dj : Nat} {want b : Bool} {o : Oper} (hi : ops[i]? = some o) (hg : o.guard = some (j, want)) (hj : (ops[j]?).bind (·.dst) = some dj)
    (hk : isKnown (look E dj) = true) (hy : gb (look E dj) = some b) (hb : b = want) (h : Nx n D E B G L (ow P o Q K)) : Nx n D E B G L (xO P ops Q i K) := Nx.mk fun a w hs hw => by
  unfold xO wpOp; simp only [hi]; rw [if_pos (by simp [Region.wanted, hg, yielded_of hs hj hk hy, hb])]; exact .inl (h.go a w hs hw)
theorem x_opN {ops : Array Oper} {i j dj d : Nat} {want : Bool} {g : Option Bool} {o : Oper} (hi : ops[i]? = some o) (hg : o.guard = some (j, want)) (hj : (ops[j]?).bind (·.dst) = some dj)
    (hk : isKnown (look E dj) = true) (hy : gb (look E dj) = g) (hb : g ≠ some want) (hd : o.dst = some d) (hlt : Nat.blt d n = true) (h : Nx n D ((d, undef) :: E) B G L K) : Nx n D E B G L (xO P ops Q i K) := Nx.mk fun a w hs hw => by
  unfold xO wpOp; simp only [hi]; rw [if_neg (by simpa [Region.wanted, hg, yielded_of hs hj hk hy] using hb), hd]
  exact h.go _ w (hs.put (by simpa using hlt)) hw
theorem x_k {ops : Array Oper} {G0 : Gh} {L0 : List Own} {fuel : Nat} {listed listed' : Array Bool} (hG : Gh.le G0 G) (hL : ∀ x ∈ L0, x ∈ L) (hl : listed = listed')
    (h : Nx n D E B G L (xA P ops Q (Stab B G0 L0) fuel listed')) : Nx n D E B G L (xK P ops Q (Stab B G0 L0) fuel listed) := Nx.mk fun a w hs hw =>
  ⟨Stab.of hw hG hL, by rw [hl]; exact h.go a w hs hw⟩

/-! ### Calls -/
def bodyOk (P : Program) (f : FuncId) : Bool :=
  match P.funcs[f]? with
  | some fn => !(fn.name == "runtime.NumGoroutine") && fn.body.isSome
  | none => false
theorem run_callFunc {f : FuncId} {vs : Array Value} (h : bodyOk P f = true) (w : World) : (callFunc f vs).run P w = .ok (.enter f vs) w := by
  unfold bodyOk at h
  cases hf : P.funcs[f]? with
  | none => simp [hf] at h
  | some fn =>
    simp only [hf, Bool.and_eq_true, Bool.not_eq_true', beq_eq_false_iff_ne, ne_eq] at h
    obtain ⟨h1, h2⟩ := h
    cases hb : fn.body with
    | none => simp [hb] at h2
    | some c => simp [callFunc, hf, h1, hb]

def RPost (B : Base) (Post : Value → Gh → List Own → Prop) : Ending → World → Prop :=
  fun e w' => ∃ v G' L', e = .returned v ∧ St B G' L' w' ∧ Post v G' L'

/-- A contract: what the call of a function comes to. -/
structure Fn (P : Program) (f : FuncId) (args : List Value) (G : Gh) (L : List Own) (Post : Value → Gh → List Own → Prop) : Prop where
  ok : bodyOk P f = true
  go : ∀ w, St ⟨w, G, bks L⟩ G L w → Calls P f args.toArray w (RPost ⟨w, G, bks L⟩ Post)
def Pu (P : Program) (f : FuncId) (args : List Value) (R : Value → Prop) : Prop := ∀ G, Fn P f args G [] (fun v G' L' => G' = G ∧ L' = [] ∧ R v)
def Rt (P : Program) (f : FuncId) (args : List Value) (v : Value) : Prop := Pu P f args (· = v)
/-- It hands back a value that hangs on G. -/
def PuG (P : Program) (f : FuncId) (args : List Value) (G : Gh) (R : Value → Prop) : Prop := Fn P f args G [] (fun v G' L' => G' = G ∧ L' = [] ∧ R v)

theorem Fn.mono {f : FuncId} {args : List Value} {Post Post' : Value → Gh → List Own → Prop} (h : Fn P f args G L Post) (hp : ∀ v G' L', Post v G' L' → Post' v G' L') : Fn P f args G L Post' :=
  ⟨h.ok, fun w hw => (h.go w hw).mono fun _ _ ⟨v, G', L', h1, h2, h3⟩ => ⟨v, G', L', h1, h2, hp _ _ _ h3⟩⟩

theorem run_call {fo : Operand} {l : List Operand} {tys : Array TypeId} {dst : Option Nat} {ty : TypeId} {pos : String} {aft : Array Edge} {g : Option (Nat × Bool)} {f : FuncId} {fi ca az : List Value} {a : Act} (hs : Sat n D E a)
    (hf : ev E fo = some (.func (.func f) fi.toArray ca.toArray)) (ha : evs E l = some az) (hb : bodyOk P f = true) (w : World) :
    (execOp a.eval ⟨dst, .call ⟨.value fo, l.toArray, tys⟩, ty, pos, aft, g⟩).run P w = .ok (.enter f (fi ++ az ++ ca).toArray) w := by
  have h1 : l.toArray.map a.eval = az.toArray := by rw [List.map_toArray, hs.evs ha]
  simp only [execOp, resolve, hs.ev hf, h1, Deferred.ofValue, Sem.run_bind, Sem.run_pure, Result.andThen_ok, invoke]
  rw [run_callFunc hb]
  simp

theorem c_call {fo : Operand} {l : List Operand} {tys : Array TypeId} {d : Nat} {ty : TypeId} {pos : String} {aft : Array Edge} {g : Option (Nat × Bool)} {f : FuncId} {fi ca az vs : List Value} {Lp R : List Own} {Post : Value → Gh → List Own → Prop}
    (hf : ev E fo = some (.func (.func f) fi.toArray ca.toArray)) (ha : evs E l = some az) (hv : fi ++ az ++ ca = vs) (hc : Fn P f vs G Lp Post) (hL : L.Perm (Lp ++ R)) (hlt : Nat.blt d n = true)
    (k : ∀ v G' L', Post v G' L' → Nx n D ((d, v) :: E) B G' (L' ++ R) K) : Nx n D E B G L (ow P ⟨some d, .call ⟨.value fo, l.toArray, tys⟩, ty, pos, aft, g⟩ Q K) := Nx.mk fun a w hs hw => by
  unfold ow Oper.wp
  rw [run_call hs hf ha hc.ok w, Oper.upon_enter, hv]
  have hw' := hw.perm hL
  refine (hc.go w hw'.enter).mono ?_
  rintro e w' ⟨v, G', L', rfl, h2, h3⟩
  exact (k v G' L' h3).go _ w' (hs.put (by simpa using hlt)) (hw'.back h2)
/-- No memory is handed over. -/
theorem c_fn {fo : Operand} {l : List Operand} {tys : Array TypeId} {d : Nat} {ty : TypeId} {pos : String} {aft : Array Edge} {g : Option (Nat × Bool)} {f : FuncId} {fi ca az vs : List Value} {Post : Value → Gh → List Own → Prop}
    (hf : ev E fo = some (.func (.func f) fi.toArray ca.toArray)) (ha : evs E l = some az) (hv : fi ++ az ++ ca = vs) (hc : Fn P f vs G [] Post) (hlt : Nat.blt d n = true)
    (k : ∀ v G' L', Post v G' L' → Nx n D ((d, v) :: E) B G' (L' ++ L) K) : Nx n D E B G L (ow P ⟨some d, .call ⟨.value fo, l.toArray, tys⟩, ty, pos, aft, g⟩ Q K) :=
  c_call (Lp := []) (R := L) hf ha hv hc (List.Perm.refl _) hlt k
theorem c_pu {fo : Operand} {l : List Operand} {tys : Array TypeId} {d : Nat} {ty : TypeId} {pos : String} {aft : Array Edge} {g : Option (Nat × Bool)} {f : FuncId} {fi ca az vs : List Value} {R : Value → Prop}
    (hf : ev E fo = some (.func (.func f) fi.toArray ca.toArray)) (ha : evs E l = some az) (hv : fi ++ az ++ ca = vs) (hc : PuG P f vs G R) (hlt : Nat.blt d n = true)
    (k : ∀ v, R v → Nx n D ((d, v) :: E) B G L K) : Nx n D E B G L (ow P ⟨some d, .call ⟨.value fo, l.toArray, tys⟩, ty, pos, aft, g⟩ Q K) :=
  c_fn hf ha hv hc hlt fun v _ _ ⟨h1, h2, h3⟩ => by subst h1; subst h2; exact k v h3
theorem c_rt {fo : Operand} {l : List Operand} {tys : Array TypeId} {d : Nat} {ty : TypeId} {pos : String} {aft : Array Edge} {g : Option (Nat × Bool)} {f : FuncId} {fi ca az vs : List Value} {v : Value}
    (hf : ev E fo = some (.func (.func f) fi.toArray ca.toArray)) (ha : evs E l = some az) (hv : fi ++ az ++ ca = vs) (hc : PuG P f vs G (· = v)) (hlt : Nat.blt d n = true)
    (k : Nx n D ((d, v) :: E) B G L K) : Nx n D E B G L (ow P ⟨some d, .call ⟨.value fo, l.toArray, tys⟩, ty, pos, aft, g⟩ Q K) :=
  c_pu hf ha hv hc hlt fun u hu => by subst hu; exact k
theorem q_rt {fo : Operand} {l : List Operand} {tys : Array TypeId} {d : Nat} {ty : TypeId} {pos : String} {aft : Array Edge} {g : Option (Nat × Bool)} {f : FuncId} {fi ca az vs : List Value} {v : Value} {R : Act → Prop}
    (hf : ev E fo = some (.func (.func f) fi.toArray ca.toArray)) (ha : evs E l = some az) (hv : fi ++ az ++ ca = vs) (hc : PuG P f vs G (· = v)) (hlt : Nat.blt d n = true)
    (k : Nq n D ((d, v) :: E) R) : Nq n D E (oq P ⟨some d, .call ⟨.value fo, l.toArray, tys⟩, ty, pos, aft, g⟩ (St B G L) R) := Nq.mk fun a hs => by
  refine ⟨v, fun w hw => ?_, k.go _ (hs.put (by simpa using hlt))⟩
  unfold Oper.quietAt
  rw [run_call hs hf ha hc.ok w, hv]
  refine ⟨rfl, ?_⟩
  have hw' : St B G ([] ++ L) w := hw
  refine (hc.go w hw'.enter).mono ?_
  rintro e w' ⟨u, G', L', rfl, h2, rfl, rfl, rfl⟩
  exact ⟨rfl, hw'.back h2⟩

/-! ### Entering and leaving a function -/
def ResV (P : Program) (S : World → Prop) (E : Env) : List ResultVar → List Value → Prop
  | [], [] => True
  | .tmp t :: r, v :: vs => look E t = some v ∧ ResV P S E r vs
  | .cell a T :: r, v :: vs => (∃ b o, look E a = some (.pointer (some ⟨b, o, none⟩)) ∧ ∀ w, S w → (loadVar T ⟨b, o, none⟩).run P w = .ok v w) ∧ ResV P S E r vs
  | _, _ => False

def rF (a : Act) : ResultVar → Sem Value
  | .tmp t => pure (a.tmps.getD t undef)
  | .cell x t => do loadVar t (← asAddr (a.tmps.getD x undef))

theorem run_resV {S : World → Prop} {a : Act} {w : World} (hs : Sat n D E a) (hw : S w) : ∀ {rs : List ResultVar} {vs : List Value}, ResV P S E rs vs →
    (rs.mapM (rF a)).run P w = .ok vs w
  | [], [], _ => rfl
  | [], _ :: _, h => h.elim
  | .tmp t :: r, v :: vs, ⟨h1, h2⟩ => by
    have h3 : (rF a (.tmp t)).run P w = .ok v w := by simp [rF, hs.at' t v h1]
    have ih := run_resV hs hw h2
    rw [List.mapM_cons, Sem.run_bind, h3]
    simp only [Result.andThen_ok, Sem.run_bind, ih, Sem.run_pure]
  | .cell x T :: r, v :: vs, ⟨⟨b, o, h1, h1'⟩, h2⟩ => by
    have h3 : (rF a (.cell x T)).run P w = .ok v w := by simp [rF, hs.at' x _ h1, asAddr, h1' w hw]
    have ih := run_resV hs hw h2
    rw [List.mapM_cons, Sem.run_bind, h3]
    simp only [Result.andThen_ok, Sem.run_bind, ih, Sem.run_pure]
  | .tmp _ :: _, [], h => h.elim
  | .cell _ _ :: _, [], h => h.elim

def oneOf : List Value → Value
  | [v] => v
  | vs => .tuple vs.toArray

theorem run_results {S : World → Prop} {a : Act} {w : World} {fn : Func} {rs : List ResultVar} {vs : List Value} (hs : Sat n D E a) (hw : S w) (hr : fn.results = rs.toArray) (h : ResV P S E rs vs) :
    (results fn a.tmps).run P w = .ok (oneOf vs) w := by
  have h1 := run_resV hs hw h
  have h2 : results fn a.tmps = (do let vs ← fn.results.mapM (rF a); pure (if h : vs.size = 1 then vs[0] else .tuple vs)) := by
    unfold results
    congr 1
  rw [h2, hr, List.mapM_toArray]
  have h3 : (Functor.map List.toArray (rs.mapM (rF a))).run P w = .ok vs.toArray w := by rw [Sem.run_map, h1]; rfl
  rw [Sem.run_bind, h3]
  match vs with
  | [] => simp [oneOf]
  | [v] => simp [oneOf]
  | u :: v :: r => simp [oneOf]

theorem r_ret {fn : Func} {rs : List ResultVar} {vs : List Value} {v : Value} {L' : List Own} {Post : Value → Gh → List Own → Prop} (hr : fn.results = rs.toArray) (h : ResV P (St B G L) E rs vs) (hv : oneOf vs = v) (hL : L'.Sublist L) (hp : Post v G L') :
    Nx n [] E B G L (bp P fn (RPost B Post) .ret) := Nx.mk fun a w hs hw =>
  ⟨hs.defers, v, by rw [run_results hs hw hr h, hv], v, G, L', rfl, hw.weaken hL, hp⟩
theorem r_end {fn : Func} {rs : List ResultVar} {vs : List Value} {v : Value} {L' : List Own} {Post : Value → Gh → List Own → Prop} (hr : fn.results = rs.toArray) (h : ResV P (St B G L) E rs vs) (hv : oneOf vs = v) (hL : L'.Sublist L) (hp : Post v G L') :
    Nx n [] E B G L (bp P fn (RPost B Post) .normal) := Nx.mk fun a w hs hw =>
  ⟨hs.defers, v, by rw [run_results hs hw hr h, hv], v, G, L', rfl, hw.weaken hL, hp⟩

def params : Nat → List Value → Env
  | _, [] => []
  | i, v :: r => (i, v) :: params (i + 1) r

theorem sat_params {n : Nat} (args : List Value) (hn : args.length ≤ n) :
    Sat n [] (params 0 args) { tmps := args.toArray ++ Array.replicate (n - args.toArray.size) undef, defers := [] } := by
  refine ⟨by simp; omega, rfl, fun t v hv => ?_⟩
  have key : ∀ (l : List Value) (i : Nat), look (params i l) t = some v → i ≤ t ∧ l[t - i]? = some v := by
    intro l
    induction l with
    | nil => intro i h; simp [params, look] at h
    | cons u r ih =>
      intro i h
      rw [params, look_cons] at h
      by_cases hit : i = t
      · subst hit; simpa using h
      · rw [if_neg hit] at h
        obtain ⟨h1, h2⟩ := ih (i + 1) h
        refine ⟨by omega, ?_⟩
        rw [show t - i = (t - (i + 1)) + 1 by omega]
        simpa using h2
  have h := (key args 0 hv).2
  have hlt : t < args.length := (List.getElem?_eq_some_iff.1 h).1
  rw [Array.getElem?_append_left (by simpa using hlt)]
  simpa using h

theorem fn_enter {f : FuncId} {fn : Func} {c : Code} {args : List Value} {Post : Value → Gh → List Own → Prop} (E0 : Env) (hf : P.funcs[f]? = some fn) (hok : bodyOk P f = true) (hn : fn.ntmps = n) (hb : fn.body = some c)
    (hlen : Nat.ble args.length n = true) (hE : Sub E0 (params 0 args))
    (h : ∀ B, B.G = G → B.W = bks L → Nx n [] E0 B G L (cw P c (bp P fn (RPost B Post)))) : Fn P f args G L Post := by
  refine ⟨hok, fun w hw => calls_of_wp hf hb ?_⟩
  rw [hn]
  exact (h ⟨w, G, bks L⟩ rfl rfl).go _ w ((sat_params args (by simpa using hlen)).sub hE) hw

theorem pu_enter {f : FuncId} {fn : Func} {c : Code} {args : List Value} {R : Value → Prop} (E0 : Env) (hf : P.funcs[f]? = some fn) (hok : bodyOk P f = true) (hn : fn.ntmps = n) (hb : fn.body = some c)
    (hlen : Nat.ble args.length n = true) (hE : Sub E0 (params 0 args))
    (h : ∀ B, B.W = [] → Nx n [] E0 B G [] (cw P c (bp P fn (RPost B (fun v G' L' => G' = G ∧ L' = [] ∧ R v))))) : PuG P f args G R :=
  fn_enter E0 hf hok hn hb hlen hE fun B _ hW => h B hW

/-! ### Orders, in fewer words -/
class PQ (Q : Exit → Act → World → Prop) : Prop where
  hq : ∀ c (a : Act) w d v, Q (.panic c) (a.put d v) w → Q (.panic c) a w
instance {fn : Func} {R : Ending → World → Prop} : PQ (bp P fn R) := ⟨fun c a w d v h => by
  unfold bp at h ⊢; simp only [bodyPost] at h ⊢; cases d <;> exact h⟩
instance {K : Act → World → Prop} {Q : Exit → Act → World → Prop} [h : PQ Q] : PQ (tn K Q) := ⟨fun c a w d v q => h.hq c a w d v q⟩
instance {id : Nat} {Q : Exit → Act → World → Prop} [h : PQ Q] : PQ (bl id Q) := ⟨fun c a w d v q => h.hq c a w d v q⟩

def tkB (ops : Array Oper) (listed : Array Bool) (i : Nat) (listed' : Array Bool) : Bool :=
  Region.noSelect ops && Region.free .any ops listed i && (Region.ready .any ops listed).contains i && (listed.setIfInBounds i true == listed')
theorem x_tk {ops : Array Oper} {G0 : Gh} {L0 : List Own} {fuel : Nat} {listed listed' : Array Bool} [PQ Q] (i : Nat) {o : Oper} {d : Nat} {v : Value} (hi : ops[i]? = some o)
    (hb : tkB ops listed i listed' = true) (hgu : o.guard = none) (hG : Gh.le G0 G) (hL : L0.Sublist L) (hg : Gives P n D E (Stab B G0 L0) o v) (hd : o.dst = some d) (hlt : Nat.blt d n = true)
    (k : Nx n D ((d, v) :: E) B G L (xA P ops Q (Stab B G0 L0) fuel listed')) : Nx n D E B G L (xA P ops Q (Stab B G0 L0) (fuel + 1) listed) := by
  simp only [tkB, Bool.and_eq_true] at hb
  exact x_take i hi hb.1.1.1 hb.1.1.2 hb.1.2 (fun c a w q => PQ.hq c a w _ _ q) hg hgu hd hlt hG (fun _ h => hL.subset h) (eq_of_beq hb.2) k
theorem wpAnyH_weaken {ops : Array Oper} {S S' : World → Prop} (hS : ∀ w, S' w → S w) : ∀ (fuel : Nat) (listed : Array Bool) (a : Act) (w : World), wpAnyH P .any ops Q S' fuel listed a w → wpAnyH P .any ops Q S fuel listed a w
  | 0, _, _, _, h => h
  | fuel + 1, _, _, _, h => ⟨h.1, fun i hi => wpOp_mono (fun a' w' h' => ⟨hS w' h'.1, wpAnyH_weaken hS fuel _ a' w' h'.2⟩) (h.2 i hi)⟩
/-- What is laid down meanwhile is kept from here on. -/
theorem x_ks {ops : Array Oper} {G0 : Gh} {L0 : List Own} {fuel : Nat} {listed listed' : Array Bool} (hG : Gh.le G0 G) (hL : L0.Sublist L) (hl : (listed == listed') = true)
    (h : Nx n D E B G L (xA P ops Q (Stab B G L) fuel listed')) : Nx n D E B G L (xK P ops Q (Stab B G0 L0) fuel listed) := Nx.mk fun a w hs hw =>
  ⟨Stab.of hw hG (fun _ h => hL.subset h), wpAnyH_weaken (S := Stab B G0 L0) (S' := Stab B G L) (fun w' hw' => by obtain ⟨G', L', h1, h2, h3⟩ := hw'; exact ⟨G', L', hG.trans h1, fun x hx => h2 x (hL.subset hx), h3⟩) _ _ _ _ (by rw [eq_of_beq hl]; exact h.go a w hs hw)⟩
theorem x_kk {ops : Array Oper} {G0 : Gh} {L0 : List Own} {fuel : Nat} {listed listed' : Array Bool} (hG : Gh.le G0 G) (hL : L0.Sublist L) (hl : (listed == listed') = true)
    (h : Nx n D E B G L (xA P ops Q (Stab B G0 L0) fuel listed')) : Nx n D E B G L (xK P ops Q (Stab B G0 L0) fuel listed) := x_k hG (fun _ h => hL.subset h) (eq_of_beq hl) h

end
attribute [irreducible] cw lw tn bl bp qw qK ow oq xA xK xO LI CI
end Go.E
/-! EngC -/
namespace Go.E

/-! ## Values -/
abbrev S (l : List UInt8) : Value := .string ⟨l.toArray⟩
abbrev I (n : Int) : Value := .int .i64 n
abbrev U8 (n : Int) : Value := .int .u8 n
abbrev Bo (b : Bool) : Value := .bool b
abbrev Pt (b o : Nat) : Value := .pointer (some ⟨b, o, none⟩)
abbrev Ag (l : List Value) : Value := .agg l.toArray
abbrev Tu (l : List Value) : Value := .tuple l.toArray
abbrev nilS : Value := .slice none 0 0

theorem bsz (l : List UInt8) : (ByteArray.mk l.toArray).size = l.length := by simp [ByteArray.size]
theorem bext (l : List UInt8) (a b : Nat) : (ByteArray.mk l.toArray).extract a b = ⟨((l.take b).drop a).toArray⟩ := by
  have h : ((ByteArray.mk l.toArray).extract a b).data = (l.toArray).extract a b := by simp [ByteArray.data_extract]
  have : (ByteArray.mk l.toArray).extract a b = ⟨(l.toArray).extract a b⟩ := by
    cases hx : (ByteArray.mk l.toArray).extract a b; rw [hx] at h; simp only at h; rw [h]
  rw [this]; congr 1
  simp [List.take_drop]
  by_cases hab : a ≤ b
  · rw [show a + (b - a) = b by omega]
  · rw [List.drop_eq_nil_of_le (by simp; omega), List.drop_eq_nil_of_le (by simp; omega)]
theorem bapp (a b : List UInt8) : (ByteArray.mk a.toArray) ++ (ByteArray.mk b.toArray) = ⟨(a ++ b).toArray⟩ := by
  apply ByteArray.ext
  simp [ByteArray.data_append]

/-! ## Types -/
class TI (P : Program) (T : TypeId) (desc : outParam TypeDesc) (size bytes : outParam Nat) (zero : outParam Value) : Prop where
  und : P.underlying T = some desc
  inf : ∃ i, P.info? T = some i ∧ i.size = size ∧ i.bytes = bytes ∧ i.zero = some zero

section
variable {P : Program} {T : TypeId} {desc : TypeDesc} {size bytes : Nat} {zero : Value}
theorem run_und [h : TI P T desc size bytes zero] (w : World) : (underlying T).run P w = .ok desc w := by simp [underlying, h.und]
theorem run_sizeOf [h : TI P T desc size bytes zero] (w : World) : (sizeOf T).run P w = .ok size w := by
  obtain ⟨i, h1, h2, _, _⟩ := h.inf
  simp [sizeOf, typeInfo, h1, h2]
theorem run_zero [h : TI P T desc size bytes zero] (w : World) : (zeroValue T).run P w = .ok zero w := by
  obtain ⟨i, h1, _, _, h4⟩ := h.inf
  simp [zeroValue, typeInfo, h1, h4]
theorem run_bytes [h : TI P T desc size bytes zero] (w : World) : ∃ i, (typeInfo T).run P w = .ok i w ∧ i.bytes = bytes := by
  obtain ⟨i, h1, _, h3, _⟩ := h.inf
  exact ⟨i, by simp [typeInfo, h1], h3⟩
def aggD : TypeDesc → Bool
  | .struct _ | .array _ _ => true
  | _ => false
theorem run_isAgg [h : TI P T desc size bytes zero] (w : World) : (isAgg T).run P w = .ok (aggD desc) w := by
  unfold isAgg
  rw [Sem.run_bind, run_und (desc := desc) (size := size) (bytes := bytes) (zero := zero)]
  cases desc <;> rfl
end

/-- A struct's field lies at this offset (in cells). -/
class FA (P : Program) (T : TypeId) (f : Nat) (off : outParam Nat) : Prop where
  run : ∀ (b o : Nat) (w : World), (Instr.fieldAt T (.pointer (some ⟨b, o, none⟩)) f).run P w = .ok (.pointer (some ⟨b, o + off, none⟩)) w
def flds (P : Program) (T : TypeId) : Array Field :=
  match P.underlying T with
  | some (.struct fs) => fs
  | _ => #[]
theorem TI.mk' {P : Program} {T : TypeId} {desc : TypeDesc} {size bytes : Nat} {zero : Value} (h : P.underlying T = some desc) (h1 : (P.info? T).map (fun i => (i.size, i.bytes)) = some (size, bytes)) (h2 : (P.info? T).bind (·.zero) = some zero) : TI P T desc size bytes zero := ⟨h, by
  cases hi : P.info? T with
  | none => simp [hi] at h1
  | some i =>
    simp only [hi, Option.map_some, Option.some.injEq, Prod.mk.injEq] at h1
    simp only [hi, Option.bind_some] at h2
    exact ⟨i, rfl, h1.1, h1.2, h2⟩⟩
theorem FA.mk' {P : Program} {T : TypeId} {f off ft : Nat} {size bytes : Nat} {zero : Value} {desc' : TypeDesc} {size' bytes' : Nat} {zero' : Value} [TI P T (.struct (flds P T)) size bytes zero]
    (hf : ((flds P T)[f]?).map (fun fd => (fd.type, fd.offset)) = some (ft, off)) (_h' : TI P ft desc' size' bytes' zero') (hs : Nat.beq size' 0 = false) : FA P T f off := ⟨fun b o w => by
  have h0 : size' ≠ 0 := fun e => by subst e; simp at hs
  cases hfd : (flds P T)[f]? with
  | none => simp [hfd] at hf
  | some fd =>
    simp only [hfd, Option.map_some, Option.some.injEq, Prod.mk.injEq] at hf
    obtain ⟨rfl, rfl⟩ := hf
    simp [Instr.fieldAt, run_und (desc := .struct (flds P T)) (size := size) (bytes := bytes) (zero := zero), hfd, Instr.sureAddr, fieldPlace, run_sizeOf (desc := desc') (size := size') (bytes := bytes') (zero := zero'), h0, Addr.add]⟩

/-- A struct value's field: these cells (one, or some as an aggregate). -/
def cutF (agg : Bool) (off size : Nat) (cs : List Value) : Option Value :=
  match agg with
  | true => some (.agg ((cs.drop off).take size).toArray)
  | false => cs[off]?
class FV (P : Program) (T : TypeId) (f : Nat) (agg : outParam Bool) (off size : outParam Nat) : Prop where
  run : ∀ (cs : List Value) (v : Value) (w : World), cutF agg off size cs = some v → (Instr.field T (.agg cs.toArray) f).run P w = .ok v w
theorem run_part {P : Program} {T : TypeId} {desc : TypeDesc} {size bytes : Nat} {zero : Value} [TI P T desc size bytes zero] (cs : List Value) (off : Nat) (v : Value) (w : World) (hv : cutF (aggD desc) off size cs = some v) :
    (part T cs.toArray off).run P w = .ok v w := by
  unfold part
  rw [Sem.run_bind, run_isAgg (desc := desc) (size := size) (bytes := bytes) (zero := zero), Result.andThen_ok]
  cases hd : aggD desc with
  | true =>
    rw [hd] at hv
    simp only [cutF, Option.some.injEq] at hv
    simp only [if_true, Sem.run_bind, run_sizeOf (desc := desc) (size := size) (bytes := bytes) (zero := zero), Result.andThen_ok, Sem.run_pure]
    rw [← hv]
    congr 2
    simp [List.extract_eq_take_drop]
  | false =>
    rw [hd] at hv
    simp only [cutF] at hv
    simp [hv]
theorem FV.mk' {P : Program} {T : TypeId} {f off ft : Nat} {size bytes : Nat} {zero : Value} {desc' : TypeDesc} {size' bytes' : Nat} {zero' : Value} {agg : Bool} [TI P T (.struct (flds P T)) size bytes zero]
    (hf : ((flds P T)[f]?).map (fun fd => (fd.type, fd.offset)) = some (ft, off)) (_h' : TI P ft desc' size' bytes' zero') (ha : aggD desc' = agg) : FV P T f agg off size' := ⟨fun cs v w hv => by
  subst ha
  cases hfd : (flds P T)[f]? with
  | none => simp [hfd] at hf
  | some fd =>
    simp only [hfd, Option.map_some, Option.some.injEq, Prod.mk.injEq] at hf
    obtain ⟨rfl, rfl⟩ := hf
    simp [Instr.field, run_und (desc := .struct (flds P T)) (size := size) (bytes := bytes) (zero := zero), hfd, asAgg, run_part (desc := desc') (size := size') (bytes := bytes') (zero := zero') cs _ v w hv]⟩

/-! ## What is known of memory -/
class Kn (S : World → Prop) (G0 : outParam Gh) (L0 : outParam (List Own)) : Prop where
  kn : ∀ w, S w → ∃ B G L, Gh.le G0 G ∧ (∀ x ∈ L0, x ∈ L) ∧ St B G L w
instance (B : Base) (G : Gh) (L : List Own) : Kn (St B G L) G L := ⟨fun _ hw => ⟨B, G, L, Gh.le.refl G, fun _ h => h, hw⟩⟩
instance (B : Base) (G : Gh) (L : List Own) : Kn (Stab B G L) G L := ⟨fun _ ⟨G', L', h1, h2, h3⟩ => ⟨B, G', L', h1, h2, h3⟩⟩

structure CellOf (S : World → Prop) (b o : Nat) (v : Value) : Prop where
  go : ∀ w, S w → w.cell? ⟨b, o, none⟩ = some v
structure CellsOf (S : World → Prop) (b o : Nat) (vs : List Value) : Prop where
  go : ∀ (i : Nat) v, vs[i]? = some v → CellOf S b (o + i) v

theorem cell_of_heap {w : World} {b o : Nat} {cs : List Value} {ty : TypeId} {fr : Nat × Nat} {v : Value} (h : w.heap[b]? = some (.cells cs.toArray ty fr)) (hv : cs[o]? = some v) : w.cell? ⟨b, o, none⟩ = some v := by
  simp [World.cell?, h, hv]

theorem cells_own {S : World → Prop} {G0 : Gh} {L0 : List Own} [k : Kn S G0 L0] {b : Nat} {cs : List Value} {ty : TypeId} {fr : Nat × Nat} (hm : Own.blk b (.cells cs.toArray ty fr) ∈ L0) : CellsOf S b 0 cs := CellsOf.mk fun i v hv => CellOf.mk fun w hw => by
  obtain ⟨B, G, L, _, hL, hst⟩ := k.kn w hw
  have h := hst.own _ (hL _ hm)
  simp only [Nat.zero_add]
  exact cell_of_heap h hv
theorem cells_G {S : World → Prop} {G0 : Gh} {L0 : List Own} [k : Kn S G0 L0] {b : Nat} {cs : List Value} (hG : G0 b = some (.pre cs)) : CellsOf S b 0 cs := CellsOf.mk fun i v hv => CellOf.mk fun w hw => by
  obtain ⟨B, G, L, hle, _, hst⟩ := k.kn w hw
  obtain ⟨o, ho, hat⟩ := hst.ok b _ (hle b _ hG)
  cases o with
  | cells c ty fr =>
    obtain ⟨rest, rfl⟩ := hat
    simp only [Nat.zero_add]
    refine cell_of_heap ho ?_
    rw [List.getElem?_append_left (List.getElem?_eq_some_iff.1 hv).1]; exact hv
  | _ => exact hat.elim
def Seg (G : Gh) (b o : Nat) (vs : List Value) : Prop := ∃ cs, G b = some (.pre cs) ∧ ∀ i v, vs[i]? = some v → cs[o + i]? = some v
theorem Seg.mono {G G' : Gh} {b o : Nat} {vs : List Value} (h : Seg G b o vs) (hl : Gh.le G G') : Seg G' b o vs := ⟨h.choose, hl _ _ h.choose_spec.1, h.choose_spec.2⟩
theorem cells_seg {S : World → Prop} {G0 : Gh} {L0 : List Own} [Kn S G0 L0] {b o : Nat} {vs : List Value} (h : Seg G0 b o vs) : CellsOf S b o vs := CellsOf.mk fun i v hv => by
  obtain ⟨cs, h1, h2⟩ := h
  have := (cells_G (S := S) h1).go (o + i) v (h2 i v hv)
  simpa using this
theorem CellsOf.one {S : World → Prop} {b o : Nat} {vs : List Value} (h : CellsOf S b o vs) (i : Nat) {v : Value} (hv : vs[i]? = some v) : CellOf S b (o + i) v := h.go i v hv
theorem CellsOf.one0 {S : World → Prop} {b o : Nat} {vs : List Value} (h : CellsOf S b o vs) {v : Value} (hv : vs[0]? = some v) : CellOf S b o v := by have := h.go 0 v hv; simpa using this
theorem CellsOf.sub {S : World → Prop} {b o : Nat} {vs us : List Value} (h : CellsOf S b o vs) (i : Nat) (hu : ∀ j u, us[j]? = some u → vs[i + j]? = some u) : CellsOf S b (o + i) us := CellsOf.mk fun j u hj => by
  have := h.go (i + j) u (hu j u hj)
  rwa [← Nat.add_assoc] at this

theorem run_load {P : Program} {S : World → Prop} {b o : Nat} {v : Value} (h : CellOf S b o v) (w : World) (hw : S w) : (load ⟨b, o, none⟩).run P w = .ok v w := by
  rw [Go.run_load]; simp [h.go w hw]
theorem run_loadCellsFrom {P : Program} {S : World → Prop} {b o : Nat} : ∀ (vs : List Value) (i : Nat) (acc : Array Value) (w : World), CellsOf S b (o + i) vs → S w →
    (loadCellsFrom ⟨b, o, none⟩ i vs.length acc).run P w = .ok (acc ++ vs.toArray) w
  | [], i, acc, w, _, _ => by simp [loadCellsFrom]
  | v :: vs, i, acc, w, h, hw => by
    have h0 : CellOf S b (o + i) v := by have := h.go 0 v rfl; simpa using this
    have hadd : (⟨b, o, none⟩ : Addr).add i = ⟨b, o + i, none⟩ := by by_cases hi : i = 0 <;> simp [Addr.add, hi]
    simp only [List.length_cons, loadCellsFrom, hadd, Sem.run_bind, run_load h0 w hw, Result.andThen_ok]
    rw [run_loadCellsFrom vs (i + 1) _ w (CellsOf.mk fun j u hj => by have := h.go (j + 1) u (by simpa using hj); rw [show o + (i + 1) + j = o + i + (j + 1) by omega]; exact this) hw]
    simp
theorem run_loadCells {P : Program} {S : World → Prop} {b o : Nat} {vs : List Value} (h : CellsOf S b o vs) (w : World) (hw : S w) : (loadCells ⟨b, o, none⟩ vs.length).run P w = .ok vs.toArray w := by
  unfold loadCells
  rw [run_loadCellsFrom vs 0 #[] w (by simpa using h) hw]; simp
theorem run_loadVar1 {P : Program} {T : TypeId} {desc : TypeDesc} {size bytes : Nat} {zero : Value} [TI P T desc size bytes zero] {S : World → Prop} {b o : Nat} {v : Value} (ha : aggD desc = false) (h : CellOf S b o v) (w : World) (hw : S w) :
    (loadVar T ⟨b, o, none⟩).run P w = .ok v w := by
  unfold loadVar
  rw [Sem.run_bind, run_isAgg (desc := desc) (size := size) (bytes := bytes) (zero := zero), Result.andThen_ok, ha]
  exact run_load h w hw
theorem run_loadVarA {P : Program} {T : TypeId} {desc : TypeDesc} {size bytes : Nat} {zero : Value} [TI P T desc size bytes zero] {S : World → Prop} {b o : Nat} {vs : List Value} (ha : aggD desc = true) (hs : vs.length = size) (h : CellsOf S b o vs) (w : World) (hw : S w) :
    (loadVar T ⟨b, o, none⟩).run P w = .ok (.agg vs.toArray) w := by
  unfold loadVar
  rw [Sem.run_bind, run_isAgg (desc := desc) (size := size) (bytes := bytes) (zero := zero), Result.andThen_ok, ha]
  simp only [if_true, Sem.run_bind, run_sizeOf (desc := desc) (size := size) (bytes := bytes) (zero := zero), Result.andThen_ok]
  rw [← hs, run_loadCells h w hw]; rfl

/-! ## Operations that only yield -/
section
variable {n : Nat} {D : List Deferred} {E : Env} {P : Program} {M : World → Prop} {d : Option Nat} {ty : TypeId} {pos : String} {aft : Array Edge} {gd : Option (Nat × Bool)}

theorem g_move {x : Operand} {v : Value} (h : ev E x = some v) : Gives P n D E M ⟨d, .move x, ty, pos, aft, gd⟩ v := Gives.mk fun a w hs _ => by simp [execOp, hs.ev h]
theorem g_assign {x : Operand} {v : Value} (h : ev E x = some v) : Gives P n D E M ⟨d, .assign x, ty, pos, aft, gd⟩ v := Gives.mk fun a w hs _ => by simp [execOp, hs.ev h]
theorem g_pickT {c x y : Operand} {b : Bool} {v : Value} (hc : ev E c = some (.bool b)) (hx : ev E x = some v) (hb : b = true) : Gives P n D E M ⟨d, .pick c x y, ty, pos, aft, gd⟩ v := Gives.mk fun a w hs _ => by
  simp [execOp, hs.ev hc, hb, asBool, hs.ev hx]
theorem g_pickF {c x y : Operand} {b : Bool} {v : Value} (hc : ev E c = some (.bool b)) (hy : ev E y = some v) (hb : b = false) : Gives P n D E M ⟨d, .pick c x y, ty, pos, aft, gd⟩ v := Gives.mk fun a w hs _ => by
  simp [execOp, hs.ev hc, hb, asBool, hs.ev hy]
theorem g_nilc {x : Operand} {p : Addr} (h : ev E x = some (.pointer (some p))) : Gives P n D E M ⟨d, .nilCheck x, ty, pos, aft, gd⟩ (.pointer (some p)) := Gives.mk fun a w hs _ => by simp [execOp, hs.ev h]
theorem g_nilf {x : Operand} {f : FuncId} {fi ca : Array Value} (h : ev E x = some (.func (.func f) fi ca)) : Gives P n D E M ⟨d, .nilCheck x, ty, pos, aft, gd⟩ (.func (.func f) fi ca) := Gives.mk fun a w hs _ => by simp [execOp, hs.ev h]
theorem g_faddr {T : TypeId} {x : Operand} {f b o off : Nat} [h : FA P T f off] (hx : ev E x = some (Pt b o)) : Gives P n D E M ⟨d, .fieldAddr T x f, ty, pos, aft, gd⟩ (Pt b (o + off)) := Gives.mk fun a w hs _ => by
  simp [execOp, hs.ev hx, h.run b o w]
theorem g_field {T : TypeId} {x : Operand} {f off sz : Nat} {agg : Bool} {cs : List Value} {v : Value} [h : FV P T f agg off sz] (hx : ev E x = some (Ag cs)) (hv : cutF agg off sz cs = some v) : Gives P n D E M ⟨d, .field T x f, ty, pos, aft, gd⟩ v := Gives.mk fun a w hs _ => by
  simp [execOp, hs.ev hx, h.run cs v w hv]
theorem g_ext {x : Operand} {i : Nat} {vs : List Value} {v : Value} (hx : ev E x = some (Tu vs)) (hv : vs[i]? = some v) : Gives P n D E M ⟨d, .extract x i, ty, pos, aft, gd⟩ v := Gives.mk fun a w hs _ => by
  simp [execOp, hs.ev hx, Instr.extract, hv]
theorem g_load {T : TypeId} {x : Operand} {desc : TypeDesc} {size bytes : Nat} {zero : Value} {b o : Nat} {v : Value} [TI P T desc size bytes zero] (hx : ev E x = some (Pt b o)) (ha : aggD desc = false) (hc : CellOf M b o v) :
    Gives P n D E M ⟨d, .load T x, ty, pos, aft, gd⟩ v := Gives.mk fun a w hs hw => by
  simp [execOp, hs.ev hx, Instr.loadAt, Instr.sureAddr, run_loadVar1 (T := T) (desc := desc) (size := size) (bytes := bytes) (zero := zero) ha hc w hw]
theorem g_loadA {T : TypeId} {x : Operand} {desc : TypeDesc} {size bytes : Nat} {zero : Value} {b o : Nat} {vs : List Value} [TI P T desc size bytes zero] (hx : ev E x = some (Pt b o)) (ha : aggD desc = true) (hl : vs.length = size) (hc : CellsOf M b o vs) :
    Gives P n D E M ⟨d, .load T x, ty, pos, aft, gd⟩ (Ag vs) := Gives.mk fun a w hs hw => by
  simp [execOp, hs.ev hx, Instr.loadAt, Instr.sureAddr, run_loadVarA (T := T) (desc := desc) (size := size) (bytes := bytes) (zero := zero) ha hl hc w hw]
theorem g_iaddr {T el : TypeId} {x i : Operand} {desc' : TypeDesc} {size bytes size' bytes' : Nat} {zero zero' : Value} {k : IntKind} {m : Int} {b o len cap : Nat} [TI P T (.slice el) size bytes zero] [TI P el desc' size' bytes' zero']
    (hx : ev E x = some (.slice (some ⟨b, o, none⟩) len cap)) (hi : ev E i = some (.int k m)) (h0 : 0 ≤ m ∧ m < len) : Gives P n D E M ⟨d, .indexAddr T x i, ty, pos, aft, gd⟩ (Pt b (o + m.toNat * size')) := Gives.mk fun a w hs _ => by
  simp only [execOp, hs.ev hx, hs.ev hi, Instr.indexAt, asIntOf, Sem.run_bind, Sem.run_pure, Result.andThen_ok, run_und (desc := .slice el) (size := size) (bytes := bytes) (zero := zero)]
  rw [if_pos h0]
  simp only [Sem.run_bind, run_sizeOf (desc := desc') (size := size') (bytes := bytes') (zero := zero'), Result.andThen_ok, Sem.run_pure]
  by_cases hz : m.toNat * size' = 0 <;> simp [Addr.add, hz]
theorem g_iaddrN {T el : TypeId} {x i : Operand} {desc' : TypeDesc} {size bytes size' bytes' : Nat} {zero zero' : Value} {k : IntKind} {m : Nat} {b o len cap : Nat} [TI P T (.slice el) size bytes zero] [TI P el desc' size' bytes' zero']
    (hx : ev E x = some (.slice (some ⟨b, o, none⟩) len cap)) (hi : ev E i = some (.int k (m : Int))) (h0 : m < len) : Gives P n D E M ⟨d, .indexAddr T x i, ty, pos, aft, gd⟩ (Pt b (o + m * size')) := by
  have := g_iaddr (P := P) (n := n) (D := D) (M := M) (d := d) (ty := ty) (pos := pos) (aft := aft) (gd := gd) (T := T) (el := el) (desc' := desc') (size := size) (bytes := bytes) (size' := size') (bytes' := bytes') (zero := zero) (zero' := zero') hx hi (by omega)
  simpa using this
theorem g_sidx {T : TypeId} {x i : Operand} {size bytes : Nat} {zero : Value} {k : IntKind} {m : Int} {l : List UInt8} {c : UInt8} [TI P T .string size bytes zero] (hx : ev E x = some (S l)) (hi : ev E i = some (.int k m)) (h0 : 0 ≤ m) (hc : l[m.toNat]? = some c) :
    Gives P n D E M ⟨d, .index T x i, ty, pos, aft, gd⟩ (U8 c.toNat) := Gives.mk fun a w hs _ => by
  have h1 : (ByteArray.mk l.toArray)[m.toNat]? = some c := by
    have hlt : m.toNat < l.length := (List.getElem?_eq_some_iff.1 hc).1
    rw [getElem?_pos (ByteArray.mk l.toArray) m.toNat (by rw [bsz]; exact hlt)]
    have : l[m.toNat] = c := (List.getElem?_eq_some_iff.1 hc).2
    simp only [Option.some.injEq]
    rw [← this]; rfl
  simp [execOp, hs.ev hx, hs.ev hi, Instr.index, asIntOf, run_und (desc := .string) (size := size) (bytes := bytes) (zero := zero), h0, h1]

/-- slices of strings -/
theorem run_sliceBound {k : IntKind} {m : Int} {y : Nat} {code : BoundsCode} (h : 0 ≤ m ∧ m ≤ y) (w : World) : (Instr.sliceBound (.int k m) y code).run P w = .ok m.toNat w := by
  simp [Instr.sliceBound, asIntOf, h]
theorem g_sslFrom {T : TypeId} {x lo : Operand} {size bytes : Nat} {zero : Value} {k : IntKind} {m : Int} {l : List UInt8} [TI P T .string size bytes zero] (hx : ev E x = some (S l)) (hl : ev E lo = some (.int k m)) (h0 : 0 ≤ m ∧ m ≤ l.length) :
    Gives P n D E M ⟨d, .slice T x (some lo) none none, ty, pos, aft, gd⟩ (S (l.drop m.toNat)) := Gives.mk fun a w hs _ => by
  simp [execOp, hs.ev hx, hs.ev hl, Instr.sliceAt, Instr.slice, run_und (desc := .string) (size := size) (bytes := bytes) (zero := zero), Instr.sliceBounds, run_sliceBound (P := P) (m := m) (y := l.length) h0, bsz, bext]
theorem g_sslTo {T : TypeId} {x hi : Operand} {size bytes : Nat} {zero : Value} {k : IntKind} {m : Int} {l : List UInt8} [TI P T .string size bytes zero] (hx : ev E x = some (S l)) (hh : ev E hi = some (.int k m)) (h0 : 0 ≤ m ∧ m ≤ l.length) :
    Gives P n D E M ⟨d, .slice T x none (some hi) none, ty, pos, aft, gd⟩ (S (l.take m.toNat)) := Gives.mk fun a w hs _ => by
  simp [execOp, hs.ev hx, hs.ev hh, Instr.sliceAt, Instr.slice, run_und (desc := .string) (size := size) (bytes := bytes) (zero := zero), Instr.sliceBounds, run_sliceBound (P := P) (y := (ByteArray.mk l.toArray).size) (by rw [bsz]; exact h0), bext]
theorem g_sslBoth {T : TypeId} {x lo hi : Operand} {size bytes : Nat} {zero : Value} {k k' : IntKind} {m m' : Int} {l : List UInt8} [TI P T .string size bytes zero] (hx : ev E x = some (S l)) (hl : ev E lo = some (.int k m)) (hh : ev E hi = some (.int k' m'))
    (h0 : 0 ≤ m ∧ m ≤ m') (h1 : 0 ≤ m' ∧ m' ≤ l.length) : Gives P n D E M ⟨d, .slice T x (some lo) (some hi) none, ty, pos, aft, gd⟩ (S ((l.take m'.toNat).drop m.toNat)) := Gives.mk fun a w hs _ => by
  simp [execOp, hs.ev hx, hs.ev hl, hs.ev hh, Instr.sliceAt, Instr.slice, run_und (desc := .string) (size := size) (bytes := bytes) (zero := zero), Instr.sliceBounds, run_sliceBound (P := P) (m := m') (y := (ByteArray.mk l.toArray).size) (by rw [bsz]; exact h1),
    run_sliceBound (P := P) (m := m) (y := m'.toNat) (by omega), bext]
/-- slices of slices -/
def addO (b o k : Nat) : Option Addr := some ⟨b, o + k, none⟩
theorem g_slFrom {T el : TypeId} {x lo : Operand} {desc' : TypeDesc} {size bytes size' bytes' : Nat} {zero zero' : Value} {k : IntKind} {m : Int} {b o len cap : Nat} [TI P T (.slice el) size bytes zero] [TI P el desc' size' bytes' zero']
    (hx : ev E x = some (.slice (some ⟨b, o, none⟩) len cap)) (hl : ev E lo = some (.int k m)) (h0 : 0 ≤ m ∧ m ≤ len) : ∃ o', (m < cap → o' = o + m.toNat * size') ∧
    Gives P n D E M ⟨d, .slice T x (some lo) none none, ty, pos, aft, gd⟩ (.slice (some ⟨b, o', none⟩) (len - m.toNat) (cap - m.toNat)) := by
  refine ⟨if cap = m.toNat then o else o + m.toNat * size', fun hlt => by rw [if_neg (by omega)], Gives.mk fun a w hs _ => ?_⟩
  simp only [execOp, hs.ev hx, Option.map_some, Option.map_none, hs.ev hl, Instr.sliceAt, Instr.slice, Sem.run_bind, run_und (desc := .slice el) (size := size) (bytes := bytes) (zero := zero), Result.andThen_ok, Instr.sliceBounds, Sem.run_pure,
    run_sliceBound (P := P) (m := m) (y := len) h0, run_sizeOf (desc := desc') (size := size') (bytes := bytes') (zero := zero')]
  by_cases hc : cap = m.toNat
  · simp [hc]
  · rw [if_neg hc, if_neg hc]
    by_cases hz : m.toNat * size' = 0 <;> simp [Addr.add, hz]
theorem g_slTo {T el : TypeId} {x hi : Operand} {desc' : TypeDesc} {size bytes size' bytes' : Nat} {zero zero' : Value} {k : IntKind} {m : Int} {p : Option Addr} {len cap : Nat} [TI P T (.slice el) size bytes zero] [TI P el desc' size' bytes' zero']
    (hx : ev E x = some (.slice p len cap)) (hl : ev E hi = some (.int k m)) (h0 : 0 ≤ m ∧ m ≤ cap) :
    Gives P n D E M ⟨d, .slice T x none (some hi) none, ty, pos, aft, gd⟩ (.slice p m.toNat cap) := Gives.mk fun a w hs _ => by
  simp only [execOp, hs.ev hx, Option.map_some, Option.map_none, hs.ev hl, Instr.sliceAt, Instr.slice, Sem.run_bind, run_und (desc := .slice el) (size := size) (bytes := bytes) (zero := zero), Result.andThen_ok, Instr.sliceBounds, Sem.run_pure,
    run_sliceBound (P := P) (m := m) (y := cap) h0, run_sizeOf (desc := desc') (size := size') (bytes := bytes') (zero := zero')]
  by_cases hc : cap = 0
  · simp [hc]
  · rw [if_neg hc]
    cases p <;> simp [Addr.add]

/-! ### Integers -/
theorem lbeq (a b : List UInt8) : (a == b) = decide (a = b) := by rw [Bool.eq_iff_iff]; simp
theorem wrap_in {x : Int} (h : -9223372036854775808 ≤ x ∧ x ≤ 9223372036854775807) : IntKind.i64.wrap x = x := by
  simp only [IntKind.wrap, IntKind.bits, IntKind.signed]
  simp
  omega
theorem g_bin {op : BinOp} {T T' : TypeId} {x y : Operand} {u v r : Value} (hx : ev E x = some u) (hy : ev E y = some v) (h1 : eqGuard op T x y u v = pure ()) (h2 : ∀ w, (binOp op T u v).run P w = .ok r w) :
    Gives P n D E M ⟨d, .binOp op T x y T', ty, pos, aft, gd⟩ r := Gives.mk fun a w hs _ => by
  simp only [execOp, hs.ev hx, hs.ev hy, h1, Sem.run_bind, Sem.run_pure, Result.andThen_ok, h2]
theorem g_add {T T' : TypeId} {x y : Operand} {a b : Int} (hx : ev E x = some (I a)) (hy : ev E y = some (I b)) (h : -9223372036854775808 ≤ a + b ∧ a + b ≤ 9223372036854775807) : Gives P n D E M ⟨d, .binOp .add T x y T', ty, pos, aft, gd⟩ (I (a + b)) := g_bin hx hy rfl fun w => (show _ = Result.ok (I (IntKind.i64.wrap (a + b))) w from rfl).trans (by rw [wrap_in h])
theorem g_sub {T T' : TypeId} {x y : Operand} {a b : Int} (hx : ev E x = some (I a)) (hy : ev E y = some (I b)) (h : -9223372036854775808 ≤ a - b ∧ a - b ≤ 9223372036854775807) : Gives P n D E M ⟨d, .binOp .sub T x y T', ty, pos, aft, gd⟩ (I (a - b)) := g_bin hx hy rfl fun w => (show _ = Result.ok (I (IntKind.i64.wrap (a - b))) w from rfl).trans (by rw [wrap_in h])
theorem g_mul {T T' : TypeId} {x y : Operand} {a b : Int} (hx : ev E x = some (I a)) (hy : ev E y = some (I b)) (h : -9223372036854775808 ≤ a * b ∧ a * b ≤ 9223372036854775807) : Gives P n D E M ⟨d, .binOp .mul T x y T', ty, pos, aft, gd⟩ (I (a * b)) := g_bin hx hy rfl fun w => (show _ = Result.ok (I (IntKind.i64.wrap (a * b))) w from rfl).trans (by rw [wrap_in h])
theorem g_rem {T T' : TypeId} {x y : Operand} {a b : Int} (hx : ev E x = some (I a)) (hy : ev E y = some (I b)) (h : 0 ≤ a ∧ 0 < b) : Gives P n D E M ⟨d, .binOp .rem T x y T', ty, pos, aft, gd⟩ (I (a % b)) := g_bin hx hy rfl fun w => by
  have h1 : b ≠ 0 := by omega
  have h2 : binOp .rem T (I a) (I b) = Op.intDiv .rem .i64 a b := rfl
  rw [h2]; simp only [Op.intDiv, if_neg h1, Sem.run_pure, Int.tmod_eq_emod_of_nonneg h.1]
theorem g_quo {T T' : TypeId} {x y : Operand} {a b : Int} (hx : ev E x = some (I a)) (hy : ev E y = some (I b)) (h : 0 ≤ a ∧ 0 < b ∧ a ≤ 9223372036854775807) : Gives P n D E M ⟨d, .binOp .quo T x y T', ty, pos, aft, gd⟩ (I (a / b)) := g_bin hx hy rfl fun w => by
  have h1 : b ≠ 0 := by omega
  have h3 : 0 ≤ a / b := Int.ediv_nonneg h.1 (by omega)
  have h4 : a / b ≤ a := Int.ediv_le_self b h.1
  have h2 : binOp .quo T (I a) (I b) = Op.intDiv .quo .i64 a b := rfl
  rw [h2]; simp only [Op.intDiv, if_neg h1, Sem.run_pure, Int.tdiv_eq_ediv_of_nonneg h.1, wrap_in (x := a / b) (by omega)]
theorem g_addK {T T' : TypeId} {x y : Operand} {k : IntKind} {a b : Int} (hx : ev E x = some (.int k a)) (hy : ev E y = some (.int k b)) : Gives P n D E M ⟨d, .binOp .add T x y T', ty, pos, aft, gd⟩ (.int k (k.wrap (a + b))) := g_bin hx hy rfl fun w => by simp [binOp, Op.intArith]
theorem g_subK {T T' : TypeId} {x y : Operand} {k : IntKind} {a b : Int} (hx : ev E x = some (.int k a)) (hy : ev E y = some (.int k b)) : Gives P n D E M ⟨d, .binOp .sub T x y T', ty, pos, aft, gd⟩ (.int k (k.wrap (a - b))) := g_bin hx hy rfl fun w => by simp [binOp, Op.intArith]
theorem g_xorI {T T' : TypeId} {x y : Operand} {a b : Int} (hx : ev E x = some (I a)) (hy : ev E y = some (I b)) : Gives P n D E M ⟨d, .binOp .xor T x y T', ty, pos, aft, gd⟩ (I (IntKind.i64.wrap ((BitVec.ofInt 64 a ^^^ BitVec.ofInt 64 b).toNat))) := g_bin hx hy rfl fun _ => rfl
theorem g_shl {T T' : TypeId} {x y : Operand} {k k' : IntKind} {a b : Int} (hx : ev E x = some (.int k a)) (hy : ev E y = some (.int k' b)) (h : 0 ≤ b) : Gives P n D E M ⟨d, .binOp .shl T x y T', ty, pos, aft, gd⟩ (.int k (k.wrap (a * 2 ^ (min b.toNat k.bits)))) := g_bin hx hy rfl fun w => by
  have h2 : binOp .shl T (.int k a) (.int k' b) = Op.shift .shl k a k' b := rfl
  rw [h2]; simp only [Op.shift, if_neg (show ¬ b < 0 by omega), Sem.run_pure]
theorem g_shr {T T' : TypeId} {x y : Operand} {k k' : IntKind} {a b : Int} (hx : ev E x = some (.int k a)) (hy : ev E y = some (.int k' b)) (h : 0 ≤ b) : Gives P n D E M ⟨d, .binOp .shr T x y T', ty, pos, aft, gd⟩ (.int k (a.fdiv (2 ^ (min b.toNat k.bits)))) := g_bin hx hy rfl fun w => by
  have h2 : binOp .shr T (.int k a) (.int k' b) = Op.shift .shr k a k' b := rfl
  rw [h2]; simp only [Op.shift, if_neg (show ¬ b < 0 by omega), Sem.run_pure]
theorem g_eql {T T' : TypeId} {x y : Operand} {k : IntKind} {a b : Int} (hx : ev E x = some (.int k a)) (hy : ev E y = some (.int k b)) : Gives P n D E M ⟨d, .binOp .eql T x y T', ty, pos, aft, gd⟩ (Bo (decide (a = b))) := g_bin hx hy rfl fun w => by
  have h2 : binOp .eql T (.int k a) (.int k b) = Op.intCmp .eql a b := by simp [binOp]
  rw [h2]; simp [Op.intCmp]; rfl
theorem g_neq {T T' : TypeId} {x y : Operand} {k : IntKind} {a b : Int} (hx : ev E x = some (.int k a)) (hy : ev E y = some (.int k b)) : Gives P n D E M ⟨d, .binOp .neq T x y T', ty, pos, aft, gd⟩ (Bo (decide (a ≠ b))) := g_bin hx hy rfl fun w => by
  have h2 : binOp .neq T (.int k a) (.int k b) = Op.intCmp .neq a b := by simp [binOp]
  rw [h2]; simp [Op.intCmp]; rfl
theorem g_lss {T T' : TypeId} {x y : Operand} {k : IntKind} {a b : Int} (hx : ev E x = some (.int k a)) (hy : ev E y = some (.int k b)) : Gives P n D E M ⟨d, .binOp .lss T x y T', ty, pos, aft, gd⟩ (Bo (decide (a < b))) := g_bin hx hy rfl fun w => by
  have h2 : binOp .lss T (.int k a) (.int k b) = Op.intCmp .lss a b := by simp [binOp]
  rw [h2]; simp [Op.intCmp]
theorem g_leq {T T' : TypeId} {x y : Operand} {k : IntKind} {a b : Int} (hx : ev E x = some (.int k a)) (hy : ev E y = some (.int k b)) : Gives P n D E M ⟨d, .binOp .leq T x y T', ty, pos, aft, gd⟩ (Bo (decide (a ≤ b))) := g_bin hx hy rfl fun w => by
  have h2 : binOp .leq T (.int k a) (.int k b) = Op.intCmp .leq a b := by simp [binOp]
  rw [h2]; simp [Op.intCmp]
theorem g_gtr {T T' : TypeId} {x y : Operand} {k : IntKind} {a b : Int} (hx : ev E x = some (.int k a)) (hy : ev E y = some (.int k b)) : Gives P n D E M ⟨d, .binOp .gtr T x y T', ty, pos, aft, gd⟩ (Bo (decide (b < a))) := g_bin hx hy rfl fun w => by
  have h2 : binOp .gtr T (.int k a) (.int k b) = Op.intCmp .gtr a b := by simp [binOp]
  rw [h2]; simp [Op.intCmp]
theorem g_geq {T T' : TypeId} {x y : Operand} {k : IntKind} {a b : Int} (hx : ev E x = some (.int k a)) (hy : ev E y = some (.int k b)) : Gives P n D E M ⟨d, .binOp .geq T x y T', ty, pos, aft, gd⟩ (Bo (decide (b ≤ a))) := g_bin hx hy rfl fun w => by
  have h2 : binOp .geq T (.int k a) (.int k b) = Op.intCmp .geq a b := by simp [binOp]
  rw [h2]; simp [Op.intCmp]
theorem g_conv {T T' : TypeId} {x : Operand} {k k' : IntKind} {size bytes size' bytes' : Nat} {zero zero' : Value} {a : Int} [TI P T (.int k) size bytes zero] [TI P T' (.int k') size' bytes' zero'] (hx : ev E x = some (.int k a)) :
    Gives P n D E M ⟨d, .convert T T' x, ty, pos, aft, gd⟩ (.int k' (k'.wrap a)) := Gives.mk fun _ w hs _ => by
  simp [execOp, hs.ev hx, convert, run_und (T := T) (desc := .int k) (size := size) (bytes := bytes) (zero := zero), run_und (T := T') (desc := .int k') (size := size') (bytes := bytes') (zero := zero'), Conv.intToInt]
theorem g_convI {T T' : TypeId} {x : Operand} {k : IntKind} {size bytes size' bytes' : Nat} {zero zero' : Value} {a : Int} [TI P T (.int k) size bytes zero] [TI P T' (.int .i64) size' bytes' zero'] (hx : ev E x = some (.int k a)) (h : -9223372036854775808 ≤ a ∧ a ≤ 9223372036854775807) :
    Gives P n D E M ⟨d, .convert T T' x, ty, pos, aft, gd⟩ (I a) := Gives.mk fun _ w hs _ => by
  simp [execOp, hs.ev hx, convert, run_und (T := T) (desc := .int k) (size := size) (bytes := bytes) (zero := zero), run_und (T := T') (desc := .int .i64) (size := size') (bytes := bytes') (zero := zero'), Conv.intToInt, wrap_in h]
theorem g_neg {T : TypeId} {x : Operand} {a : Int} (hx : ev E x = some (I a)) (h : -9223372036854775808 ≤ 0 - a ∧ 0 - a ≤ 9223372036854775807) : Gives P n D E M ⟨d, .unOp .neg T x, ty, pos, aft, gd⟩ (I (-a)) := Gives.mk fun _ w hs _ => by
  have : IntKind.i64.wrap (-a) = -a := wrap_in (by omega)
  simp [execOp, hs.ev hx, Op.unary, Op.intArith, this]

/-! ### Bools, strings -/
theorem g_not {T : TypeId} {x : Operand} {b : Bool} (hx : ev E x = some (.bool b)) : Gives P n D E M ⟨d, .unOp .not T x, ty, pos, aft, gd⟩ (Bo (!b)) := Gives.mk fun _ w hs _ => by
  simp [execOp, hs.ev hx, Op.unary]
theorem g_seql {T T' : TypeId} {x y : Operand} {a b : List UInt8} (hx : ev E x = some (S a)) (hy : ev E y = some (S b)) : Gives P n D E M ⟨d, .binOp .eql T x y T', ty, pos, aft, gd⟩ (Bo (decide (a = b))) := g_bin hx hy rfl fun w => by
  have h2 : binOp .eql T (S a) (S b) = Op.stringOp .eql ⟨a.toArray⟩ ⟨b.toArray⟩ := rfl
  rw [h2]; simp [Op.stringOp, lbeq]
theorem g_sneq {T T' : TypeId} {x y : Operand} {a b : List UInt8} (hx : ev E x = some (S a)) (hy : ev E y = some (S b)) : Gives P n D E M ⟨d, .binOp .neq T x y T', ty, pos, aft, gd⟩ (Bo (decide (a ≠ b))) := g_bin hx hy rfl fun w => by
  have h2 : binOp .neq T (S a) (S b) = Op.stringOp .neq ⟨a.toArray⟩ ⟨b.toArray⟩ := rfl
  rw [h2]; simp [Op.stringOp, lbeq]
theorem g_slss {T T' : TypeId} {x y : Operand} {a b : List UInt8} (hx : ev E x = some (S a)) (hy : ev E y = some (S b)) : Gives P n D E M ⟨d, .binOp .lss T x y T', ty, pos, aft, gd⟩ (Bo (Op.bytesLess a b)) := g_bin hx hy rfl fun w => by
  have h2 : binOp .lss T (S a) (S b) = Op.stringOp .lss ⟨a.toArray⟩ ⟨b.toArray⟩ := rfl
  rw [h2]; simp [Op.stringOp]
theorem g_sgeq {T T' : TypeId} {x y : Operand} {a b : List UInt8} (hx : ev E x = some (S a)) (hy : ev E y = some (S b)) : Gives P n D E M ⟨d, .binOp .geq T x y T', ty, pos, aft, gd⟩ (Bo (!Op.bytesLess a b)) := g_bin hx hy rfl fun w => by
  have h2 : binOp .geq T (S a) (S b) = Op.stringOp .geq ⟨a.toArray⟩ ⟨b.toArray⟩ := rfl
  rw [h2]; simp [Op.stringOp]
theorem g_sgtr {T T' : TypeId} {x y : Operand} {a b : List UInt8} (hx : ev E x = some (S a)) (hy : ev E y = some (S b)) : Gives P n D E M ⟨d, .binOp .gtr T x y T', ty, pos, aft, gd⟩ (Bo (!(Op.bytesLess a b || decide (a = b)))) := g_bin hx hy rfl fun w => by
  have h2 : binOp .gtr T (S a) (S b) = Op.stringOp .gtr ⟨a.toArray⟩ ⟨b.toArray⟩ := rfl
  rw [h2]; simp [Op.stringOp, lbeq]
theorem g_sadd {T T' : TypeId} {x y : Operand} {a b : List UInt8} (hx : ev E x = some (S a)) (hy : ev E y = some (S b)) (h : a.length + b.length ≤ 9223372036854775807) : Gives P n D E M ⟨d, .binOp .add T x y T', ty, pos, aft, gd⟩ (S (a ++ b)) := g_bin hx hy rfl fun w => by
  have h2 : binOp .add T (S a) (S b) = Op.stringOp .add ⟨a.toArray⟩ ⟨b.toArray⟩ := rfl
  have h3 : ¬ ((((ByteArray.mk a.toArray).size + (ByteArray.mk b.toArray).size : Nat) : Int) > IntKind.i64.max) := by
    rw [bsz, bsz, show IntKind.i64.max = 9223372036854775807 from rfl]; omega
  rw [h2]; simp only [Op.stringOp, if_neg h3, Sem.run_pure, bapp]
theorem g_beql {T T' : TypeId} {x y : Operand} {size bytes : Nat} {zero : Value} {a b : Bool} [TI P T .bool size bytes zero] (hx : ev E x = some (.bool a)) (hy : ev E y = some (.bool b)) : Gives P n D E M ⟨d, .binOp .eql T x y T', ty, pos, aft, gd⟩ (Bo (decide (a = b))) := g_bin hx hy rfl fun w => by
  have h2 : binOp .eql T (.bool a) (.bool b) = (do pure (.bool ((← Op.equal T (.bool a) (.bool b))))) := rfl
  have h4 : ∀ m, (Op.equalIn (m + 1) T (.bool a) (.bool b)).run P w = .ok (a == b) w := fun m => by simp [Op.equalIn, run_und (T := T) (desc := .bool) (size := size) (bytes := bytes) (zero := zero)]
  have h3 : (Op.equal T (.bool a) (.bool b)).run P w = .ok (a == b) w := h4 9999
  rw [h2, Sem.run_bind, h3]
  cases a <;> cases b <;> rfl
theorem g_bneq {T T' : TypeId} {x y : Operand} {size bytes : Nat} {zero : Value} {a b : Bool} [TI P T .bool size bytes zero] (hx : ev E x = some (.bool a)) (hy : ev E y = some (.bool b)) : Gives P n D E M ⟨d, .binOp .neq T x y T', ty, pos, aft, gd⟩ (Bo (decide (a ≠ b))) := g_bin hx hy rfl fun w => by
  have h2 : binOp .neq T (.bool a) (.bool b) = (do pure (.bool (!(← Op.equal T (.bool a) (.bool b))))) := rfl
  have h4 : ∀ m, (Op.equalIn (m + 1) T (.bool a) (.bool b)).run P w = .ok (a == b) w := fun m => by simp [Op.equalIn, run_und (T := T) (desc := .bool) (size := size) (bytes := bytes) (zero := zero)]
  have h3 : (Op.equal T (.bool a) (.bool b)).run P w = .ok (a == b) w := h4 9999
  rw [h2, Sem.run_bind, h3]
  cases a <;> cases b <;> rfl
theorem g_peq0 {T T' el : TypeId} {x y : Operand} {size bytes : Nat} {zero : Value} {p : Option Addr} [TI P T (.pointer el) size bytes zero] (hx : ev E x = some (.pointer p)) (hy : ev E y = some (.pointer none)) : Gives P n D E M ⟨d, .binOp .eql T x y T', ty, pos, aft, gd⟩ (Bo p.isNone) := g_bin hx hy rfl fun w => by
  have h2 : binOp .eql T (.pointer p) (.pointer none) = (do pure (.bool ((← Op.equal T (.pointer p) (.pointer none))))) := rfl
  have h4 : ∀ m, (Op.equalIn (m + 1) T (.pointer p) (.pointer none)).run P w = .ok p.isNone w := fun m => by cases p <;> simp [Op.equalIn, run_und (T := T) (desc := .pointer el) (size := size) (bytes := bytes) (zero := zero)]
  have h3 : (Op.equal T (.pointer p) (.pointer none)).run P w = .ok p.isNone w := h4 9999
  rw [h2, Sem.run_bind, h3]
  cases p <;> rfl
theorem g_pne0 {T T' el : TypeId} {x y : Operand} {size bytes : Nat} {zero : Value} {p : Option Addr} [TI P T (.pointer el) size bytes zero] (hx : ev E x = some (.pointer p)) (hy : ev E y = some (.pointer none)) : Gives P n D E M ⟨d, .binOp .neq T x y T', ty, pos, aft, gd⟩ (Bo p.isSome) := g_bin hx hy rfl fun w => by
  have h2 : binOp .neq T (.pointer p) (.pointer none) = (do pure (.bool (!(← Op.equal T (.pointer p) (.pointer none))))) := rfl
  have h4 : ∀ m, (Op.equalIn (m + 1) T (.pointer p) (.pointer none)).run P w = .ok p.isNone w := fun m => by cases p <;> simp [Op.equalIn, run_und (T := T) (desc := .pointer el) (size := size) (bytes := bytes) (zero := zero)]
  have h3 : (Op.equal T (.pointer p) (.pointer none)).run P w = .ok p.isNone w := h4 9999
  rw [h2, Sem.run_bind, h3]
  cases p <;> rfl

/-! ### Builtins that only yield -/
theorem g_lenS {x : Operand} {T : TypeId} {size bytes : Nat} {zero : Value} {l : List UInt8} [TI P T .string size bytes zero] (hx : ev E x = some (S l)) : Gives P n D E M ⟨d, .call ⟨.builtin .len, [x].toArray, [T].toArray⟩, ty, pos, aft, gd⟩ (I l.length) := Gives.mk fun a w hs _ => by
  simp [execOp, resolve, hs.ev hx, invoke, builtin, Builtin.len_, run_und (T := T) (desc := .string) (size := size) (bytes := bytes) (zero := zero), goInt, bsz]
theorem g_lenL {x : Operand} {T el : TypeId} {size bytes : Nat} {zero : Value} {p : Option Addr} {len cap : Nat} [TI P T (.slice el) size bytes zero] (hx : ev E x = some (.slice p len cap)) : Gives P n D E M ⟨d, .call ⟨.builtin .len, [x].toArray, [T].toArray⟩, ty, pos, aft, gd⟩ (I len) := Gives.mk fun a w hs _ => by
  simp [execOp, resolve, hs.ev hx, invoke, builtin, Builtin.len_, run_und (T := T) (desc := .slice el) (size := size) (bytes := bytes) (zero := zero), goInt]
theorem g_mkf {f : FuncId} {fi ca : List Operand} {vf vc : List Value} (hf : evs E fi = some vf) (hc : evs E ca = some vc) : Gives P n D E M ⟨d, .makeFunc (.func f) fi.toArray ca.toArray, ty, pos, aft, gd⟩ (.func (.func f) vf.toArray vc.toArray) := Gives.mk fun a w hs _ => by
  simp [execOp, Instr.makeFunc, hs.evs hf, hs.evs hc]
end
end Go.E
/-! EngD -/
namespace Go.E

/-! ## Lists -/
inductive Del (x : Own) : List Own → List Own → Prop where
  | here {r} : Del x (x :: r) r
  | there {y r r'} : Del x r r' → Del x (y :: r) (y :: r')
theorem Del.perm {x : Own} {L L' : List Own} (h : Del x L L') : L.Perm (x :: L') := by
  induction h with
  | here => exact .refl _
  | there _ ih => exact (List.Perm.cons _ ih).trans (List.Perm.swap _ _ _)
theorem Del.mem {x : Own} {L L' : List Own} (h : Del x L L') : x ∈ L := h.perm.symm.subset List.mem_cons_self
inductive UpdO (x y : Own) : List Own → List Own → Prop where
  | here {r} : UpdO x y (x :: r) (y :: r)
  | there {z r r'} : UpdO x y r r' → UpdO x y (z :: r) (z :: r')
theorem UpdO.split {x y : Own} {L L' : List Own} (h : UpdO x y L L') : ∃ R, L.Perm (x :: R) ∧ (y :: R).Perm L' := by
  induction h with
  | @here r => exact ⟨r, .refl _, .refl _⟩
  | @there z r r' _ ih => obtain ⟨R, h1, h2⟩ := ih; exact ⟨z :: R, (List.Perm.cons z h1).trans (List.Perm.swap _ _ _), (List.Perm.swap _ _ _).trans (List.Perm.cons z h2)⟩
theorem UpdO.mem {x y : Own} {L L' : List Own} (h : UpdO x y L L') : x ∈ L := by obtain ⟨R, h1, _⟩ := h.split; exact h1.symm.subset List.mem_cons_self
/-- vs written into cs from place o on. -/
inductive PutsR : List Value → Nat → List Value → List Value → Prop where
  | nil {cs} : PutsR cs 0 [] cs
  | here {x v cs vs cs'} : PutsR cs 0 vs cs' → PutsR (x :: cs) 0 (v :: vs) (v :: cs')
  | there {x cs n v vs cs'} : PutsR cs n (v :: vs) cs' → PutsR (x :: cs) (n + 1) (v :: vs) (x :: cs')
theorem PutsR.zero {cs o cs'} (h : PutsR cs o [] cs') : o = 0 ∧ cs' = cs := by
  generalize hw : ([] : List Value) = ws at h
  cases h with
  | nil => exact ⟨rfl, rfl⟩
  | here _ => cases hw
  | there _ => cases hw
theorem PutsR.step {cs o v vs cs'} (h : PutsR cs o (v :: vs) cs') : o < cs.length ∧ (PutsR (cs.set o v) (o + 1) vs cs' ∨ vs = [] ∧ cs' = cs.set o v) := by
  generalize hw : v :: vs = ws at h
  induction h with
  | nil => cases hw
  | @here x u cs us cs'' h ih =>
    simp only [List.cons.injEq] at hw
    obtain ⟨rfl, rfl⟩ := hw
    refine ⟨by simp, ?_⟩
    cases vs with
    | nil => obtain ⟨_, rfl⟩ := h.zero; right; simp
    | cons a b => left; exact .there h
  | @there x cs m u us cs'' h ih =>
    simp only [List.cons.injEq] at hw
    obtain ⟨rfl, rfl⟩ := hw
    obtain ⟨h1, h2⟩ := ih rfl
    refine ⟨by simpa using h1, ?_⟩
    rcases h2 with h2 | ⟨rfl, rfl⟩
    · cases vs with
      | nil => have := h2.zero.1; omega
      | cons a b => left; exact .there h2
    · right; exact ⟨rfl, by simp⟩

/-! ## Worlds -/
def setBlk (w : World) (b : Nat) (o : Obj) : World := { w with heap := w.heap.setIfInBounds b o }
theorem heap_setBlk (w : World) (b : Nat) (o : Obj) (c : Nat) : (setBlk w b o).heap[c]? = if b = c then (if b < w.heap.size then some o else none) else w.heap[c]? := by
  simp [setBlk, Array.getElem?_setIfInBounds]
theorem setBlk_setBlk (w : World) (b : Nat) (o o' : Obj) : setBlk (setBlk w b o) b o' = setBlk w b o' := by simp [setBlk]
theorem setCell_eq {w : World} {b i : Nat} {cs : List Value} {ty : TypeId} {fr : Nat × Nat} {v : Value} (h : w.heap[b]? = some (.cells cs.toArray ty fr)) : w.setCell ⟨b, i, none⟩ v = setBlk w b (.cells (cs.set i v).toArray ty fr) := by
  have hlt : b < w.heap.size := (Array.getElem?_eq_some_iff.1 h).1
  unfold World.setCell setBlk
  congr 1
  apply Array.ext'
  simp only [Array.toList_modify, Array.toList_setIfInBounds]
  apply List.ext_getElem?
  intro k
  rw [List.getElem?_modify, List.getElem?_set]
  by_cases hk : b = k
  · subst hk
    obtain ⟨_, hb'⟩ := Array.getElem?_eq_some_iff.1 h
    simp [hlt, hb']
  · simp [hk]

theorem St.setBlk {B G L L' w} {b : Nat} {o o' : Obj} (h : St B G L w) (hu : UpdO (.blk b o) (.blk b o') L L') : St B G L' (setBlk w b o') := by
  obtain ⟨R, h1, h2⟩ := hu.split
  have h := h.perm h1
  refine St.perm ?_ h2
  have hlt : b < w.heap.size := h.lt (by simp [bks, Own.bk])
  have hnd := h.nd
  simp only [bks, List.flatMap_cons, Own.bk, List.singleton_append, List.nodup_cons] at hnd
  have hfr := h.fresh b (by simp [bks, Own.bk])
  have hne : ∀ c, c ≠ b → (Go.E.setBlk w b o').heap[c]? = w.heap[c]? := fun c hc => by rw [heap_setBlk, if_neg (Ne.symm hc)]
  refine ⟨fun c g hc => ?_, fun x hx => ?_, h.fresh, h.nd, h.os, h.tape, h.output, by simpa [Go.E.setBlk] using h.size, fun c hc hW => ?_⟩
  · obtain ⟨o2, h3, h4⟩ := h.ok c g hc
    have : c ≠ b := fun e => by subst e; rw [hfr.1] at hc; cases hc
    exact ⟨o2, by rw [hne c this]; exact h3, h4⟩
  · rcases List.mem_cons.1 hx with rfl | hx
    · show (Go.E.setBlk w b o').heap[b]? = some o'
      rw [heap_setBlk, if_pos rfl, if_pos hlt]
    · refine Own.at_same (h.own x (List.mem_cons_of_mem _ hx)) fun c hc => hne c fun e => ?_
      have hxb := mem_bks.2 ⟨x, hx, hc⟩
      subst e
      exact hnd.1 hxb
  · have : c ≠ b := fun e => by
      subst e
      rcases hfr.2 with h3 | h3
      · omega
      · exact hW h3
    rw [hne c this]; exact h.frame c hc hW

def all1 : List Value → Bool
  | [] => true
  | v :: r => v.oneCell' && all1 r
theorem cells_one {v : Value} (h : v.oneCell' = true) : v.cells = [v].toArray := by cases v <;> first | rfl | cases h

theorem run_storeCells {P : Program} {b o : Nat} {ty : TypeId} : ∀ (vs cs cs' : List Value) (i : Nat) (w : World), w.heap[b]? = some (.cells cs.toArray ty (0, 0)) → PutsR cs (o + i) vs cs' → all1 vs = true →
    (storeCells ⟨b, o, none⟩ vs i).run P w = .ok () (setBlk w b (.cells cs'.toArray ty (0, 0))) ∨ vs = [] ∧ cs' = cs
  | [], cs, cs', i, w, _, hp, _ => by
    right
    generalize he : o + i = m at hp
    cases hp; exact ⟨rfl, rfl⟩
  | v :: vs, cs, cs', i, w, h, hp, h1 => by
    left
    simp only [all1, Bool.and_eq_true] at h1
    have hadd : (⟨b, o, none⟩ : Addr).add i = ⟨b, o + i, none⟩ := by by_cases hi : i = 0 <;> simp [Addr.add, hi]
    have hfz : w.frozen? ⟨b, o + i, none⟩ = false := by simp [World.frozen?, h]
    have hlt : o + i < cs.length := hp.step.1
    have hcell : w.cell? ⟨b, o + i, none⟩ = some cs[o + i] := by simp [World.cell?, h, hlt]
    have hst : (store ⟨b, o + i, none⟩ v).run P w = .ok () (w.setCell ⟨b, o + i, none⟩ v) := by rw [run_store P w _ v _ h1.1]; simp [hcell, hfz]
    simp only [storeCells, hadd, Sem.run_bind, hst, Result.andThen_ok, setCell_eq h]
    rcases hp.step.2 with h2 | ⟨rfl, rfl⟩
    · have hb' : (setBlk w b (.cells (cs.set (o + i) v).toArray ty (0, 0))).heap[b]? = some (.cells (cs.set (o + i) v).toArray ty (0, 0)) := by
        rw [heap_setBlk, if_pos rfl, if_pos (Array.getElem?_eq_some_iff.1 h).1]
      rcases run_storeCells vs _ cs' (i + 1) _ hb' h2 h1.2 with h3 | ⟨rfl, rfl⟩
      · rw [h3, setBlk_setBlk]
      · simp [storeCells]
    · simp [storeCells]

/-! ## Rules -/
section
variable {n : Nat} {D : List Deferred} {E : Env} {B : Base} {G : Gh} {L : List Own} {P : Program}
variable {Q : Exit → Act → World → Prop} {K : Act → World → Prop}
variable {d : Nat} {ty : TypeId} {pos : String} {aft : Array Edge} {gd : Option (Nat × Bool)}

theorem c_alloc {T : TypeId} {desc : TypeDesc} {size bytes : Nat} {zero : Value} {cs : List Value} [TI P T desc size bytes zero] (hz : zero.cells = cs.toArray) (hlt : Nat.blt d n = true)
    (k : ∀ b, Nx n D ((d, Pt b 0) :: E) B G (.blk b (.cells cs.toArray T (0, 0)) :: L) K) : Nx n D E B G L (ow P ⟨some d, .alloc T, ty, pos, aft, gd⟩ Q K) := Nx.mk fun a w hs hw => by
  unfold ow Oper.wp
  have : (execOp a.eval ⟨some d, .alloc T, ty, pos, aft, gd⟩).run P w = .ok (.value (Pt w.heap.size 0)) (w.alloc (.cells cs.toArray T (0, 0))) := by
    simp [execOp, Instr.alloc, run_zero (T := T) (desc := desc) (size := size) (bytes := bytes) (zero := zero), newVar, newRow, hz]
  rw [this, Oper.upon_value]
  exact (k _).go _ _ (hs.put (by simpa using hlt)) (hw.alloc _)

theorem c_box {T : TypeId} {x : Operand} {v : Value} {cs : List Value} (hx : ev E x = some v) (hz : v.cells = cs.toArray) (hlt : Nat.blt d n = true)
    (k : ∀ b, Nx n D ((d, Pt b 0) :: E) B G (.blk b (.cells cs.toArray T (0, 0)) :: L) K) : Nx n D E B G L (ow P ⟨some d, .box T x, ty, pos, aft, gd⟩ Q K) := Nx.mk fun a w hs hw => by
  unfold ow Oper.wp
  have : (execOp a.eval ⟨some d, .box T x, ty, pos, aft, gd⟩).run P w = .ok (.value (Pt w.heap.size 0)) (w.alloc (.cells cs.toArray T (0, 0))) := by
    simp [execOp, Instr.box, newVar, newRow, hs.ev hx, hz]
  rw [this, Oper.upon_value]
  exact (k _).go _ _ (hs.put (by simpa using hlt)) (hw.alloc _)

theorem c_store {T T0 : TypeId} {x y : Operand} {desc : TypeDesc} {size bytes : Nat} {zero v : Value} {b o : Nat} {cs vs cs' : List Value} {L' : List Own} [TI P T desc size bytes zero] (hx : ev E x = some (Pt b o)) (hy : ev E y = some v) (hv : v.cells = vs.toArray)
    (hl : Nat.beq vs.length size = true) (hne : vs.isEmpty = false) (h1 : all1 vs = true) (hu : UpdO (.blk b (.cells cs.toArray T0 (0, 0))) (.blk b (.cells cs'.toArray T0 (0, 0))) L L') (hp : PutsR cs o vs cs')
    (k : Nx n D E B G L' K) : Nx n D E B G L (ow P ⟨none, .store T x y, ty, pos, aft, gd⟩ Q K) := Nx.mk fun a w hs hw => by
  unfold ow Oper.wp
  have hb : w.heap[b]? = some (.cells cs.toArray T0 (0, 0)) := hw.own _ hu.mem
  have hst := run_storeCells (P := P) (o := o) vs cs cs' 0 w hb (by simpa using hp) h1
  rcases hst with hst | ⟨rfl, _⟩
  · have hsz : v.cells.size = size := by rw [hv]; simpa using hl
    have : (execOp a.eval ⟨none, .store T x y, ty, pos, aft, gd⟩).run P w = .ok .skip (setBlk w b (.cells cs'.toArray T0 (0, 0))) := by
      simp [execOp, hs.ev hx, hs.ev hy, Instr.storeAt, Instr.sureAddr, storeVar, run_sizeOf (T := T) (desc := desc) (size := size) (bytes := bytes) (zero := zero), hsz]
      rw [hv]; simp [hst]
    rw [this, Oper.upon_skip]
    exact k.go _ _ hs (hw.setBlk hu)
  · simp at hne

/-- One cell, of a value that is a letter. -/
theorem c_store1 {T T0 : TypeId} {x y : Operand} {desc : TypeDesc} {bytes : Nat} {zero v : Value} {b o : Nat} {cs cs' : List Value} {L' : List Own} [TI P T desc 1 bytes zero] (hx : ev E x = some (Pt b o)) (hy : ev E y = some v) (h1 : v.oneCell' = true)
    (hu : UpdO (.blk b (.cells cs.toArray T0 (0, 0))) (.blk b (.cells cs'.toArray T0 (0, 0))) L L') (hp : PutsR cs o [v] cs')
    (k : Nx n D E B G L' K) : Nx n D E B G L (ow P ⟨none, .store T x y, ty, pos, aft, gd⟩ Q K) :=
  c_store (T := T) (size := 1) (bytes := bytes) (zero := zero) (desc := desc) hx hy (cells_one h1) rfl rfl (by simp [all1, h1]) hu hp k

/-! ### Aggregates and slices written out -/
def CellsV (v : Value) (vc : List Value) : Prop := v.cells = vc.toArray
def evc (E : Env) : List (Nat × Operand) → List (Nat × List Value) → Prop
  | [], [] => True
  | (i, x) :: r, (j, vc) :: s => i = j ∧ (∃ v, ev E x = some v ∧ CellsV v vc) ∧ evc E r s
  | _, _ => False
def splice (cs : List Value) (off : Nat) (vs : List Value) : List Value := cs.take off ++ vs ++ cs.drop (off + vs.length)
def lfill (place : Nat → Option (Nat × Nat)) (cs : List Value) : List (Nat × List Value) → Option (List Value)
  | [] => some cs
  | (i, vc) :: rest => match place i with
    | none => none
    | some (off, size) => match Nat.beq vc.length size && Nat.ble (off + vc.length) cs.length with
      | true => lfill place (splice cs off vc) rest
      | false => none

theorem foldl_set (vs : List Value) : ∀ (cs : List Value) (off k : Nat), off + k + vs.length ≤ cs.length →
    ((vs.zipIdx k).foldl (fun (cs : Array Value) (p : Value × Nat) => cs.setIfInBounds (off + p.2) p.1) cs.toArray) = (cs.take (off + k) ++ vs ++ cs.drop (off + k + vs.length)).toArray := by
  induction vs with
  | nil => intro cs off k h; simp
  | cons v vs ih =>
    intro cs off k h
    simp only [List.length_cons] at h
    simp only [List.zipIdx_cons, List.foldl_cons, List.setIfInBounds_toArray]
    rw [ih _ off (k + 1) (by simp; omega)]
    congr 1
    have hlt : off + k < cs.length := by omega
    have h1 : (cs.set (off + k) v).take (off + (k + 1)) = cs.take (off + k) ++ [v] := by
      apply List.ext_getElem?
      intro j
      rw [List.getElem?_take, List.getElem?_set]
      by_cases hj : j < off + k
      · rw [if_pos (by omega), if_neg (by omega), List.getElem?_append_left (by simp; omega), List.getElem?_take, if_pos hj]
      · rw [List.getElem?_append_right (by simp; omega)]
        by_cases hj' : j = off + k
        · subst hj'; simp [hlt, show off + k < off + (k + 1) by omega, Nat.min_eq_left (Nat.le_of_lt hlt)]
        · rw [if_neg (by omega), List.getElem?_eq_none (by simp; omega)]
    have h2 : (cs.set (off + k) v).drop (off + (k + 1) + vs.length) = cs.drop (off + k + (vs.length + 1)) := by
      rw [List.drop_set, if_pos (by omega)]
      congr 1
      omega
    rw [h1, h2]
    simp

theorem fill_list (place : Nat → Option (Nat × Nat)) : ∀ (ps : List (Nat × Value)) (qs : List (Nat × List Value)) (cs cs' : List Value), ps.length = qs.length → (∀ (i : Nat) (p : Nat × Value) (q : Nat × List Value), ps[i]? = some p → qs[i]? = some q → p.1 = q.1 ∧ CellsV p.2 q.2) →
    lfill place cs qs = some cs' → Instr.fill place cs.toArray ps = some cs'.toArray
  | [], [], cs, cs', _, _, h => by simp only [lfill, Option.some.injEq] at h; subst h; rfl
  | [], _ :: _, _, _, hl, _, _ => by simp at hl
  | _ :: _, [], _, _, hl, _, _ => by simp at hl
  | (i, v) :: ps, (j, vc) :: qs, cs, cs', hl, hq, h => by
    obtain ⟨h1, h2⟩ := hq 0 (i, v) (j, vc) rfl rfl
    simp only at h1 h2; subst h1
    have h2 : v.cells = vc.toArray := h2
    simp only [lfill] at h
    simp only [Instr.fill]
    cases hp : place i with
    | none => simp [hp] at h
    | some q =>
      obtain ⟨off, size⟩ := q
      simp only [hp] at h
      cases hb : Nat.beq vc.length size && Nat.ble (off + vc.length) cs.length with
      | false => simp [hb] at h
      | true =>
        simp only [hb] at h
        simp only [Bool.and_eq_true] at hb
        have e1 : vc.length = size := Nat.eq_of_beq_eq_true hb.1
        have e2 : off + vc.length ≤ cs.length := Nat.le_of_ble_eq_true hb.2
        have hns : ¬ ((decide (v.cells.size ≠ size) || decide (off + v.cells.size > cs.toArray.size)) = true) := by rw [h2]; simp [e1]; omega
        show (if (decide (v.cells.size ≠ size) || decide (off + v.cells.size > cs.toArray.size)) = true then none else _) = _
        rw [if_neg hns, h2]
        have h5 := foldl_set vc cs off 0 (by omega)
        simp only [Nat.add_zero] at h5
        have h6 : (vc.toArray.zipIdx.foldl (fun (cs : Array Value) (p : Value × Nat) => cs.setIfInBounds (off + p.2) p.1) cs.toArray) = (splice cs off vc).toArray := by
          rw [← Array.foldl_toList]; simpa [splice] using h5
        have h7 : (vc.toArray.zipIdx.foldl (fun cs x => match x with | (c, j) => cs.setIfInBounds (off + j) c) cs.toArray) = (splice cs off vc).toArray := h6
        rw [h7]
        exact fill_list place ps qs _ cs' (by simpa using hl) (fun k p q hp hq' => hq (k + 1) p q (by simpa using hp) (by simpa using hq')) h

theorem evc_spec {a : Act} (hs : Sat n D E a) : ∀ {ps : List (Nat × Operand)} {qs : List (Nat × List Value)}, evc E ps qs →
    (ps.map fun (i, x) => (i, a.eval x)).length = qs.length ∧ ∀ (i : Nat) (p : Nat × Value) (q : Nat × List Value), (ps.map fun (i, x) => (i, a.eval x))[i]? = some p → qs[i]? = some q → p.1 = q.1 ∧ CellsV p.2 q.2
  | [], [], _ => ⟨rfl, fun i p q h => by simp at h⟩
  | [], _ :: _, h => h.elim
  | _ :: _, [], h => h.elim
  | (i, x) :: ps, (j, vc) :: qs, ⟨h1, ⟨v, hv, hc⟩, h3⟩ => by
    obtain ⟨e1, e2⟩ := evc_spec hs h3
    refine ⟨by simpa using e1, fun k p q hp hq => ?_⟩
    cases k with
    | zero =>
      simp only [List.map_cons, List.getElem?_cons_zero, Option.some.injEq] at hp hq
      subst hp hq
      exact ⟨h1, by simp only [hs.ev hv]; exact hc⟩
    | succ k => exact e2 k p q (by simpa using hp) (by simpa using hq)

/-- What a struct's fields take. -/
class BT (P : Program) (T : TypeId) (places : outParam (List (Nat × Nat))) (zs : outParam (List Value)) : Prop where
  run : ∀ (ps : Array (Nat × Value)) (cs : Array Value) (w : World), Instr.fill (fun (i : Nat) => places[i]?) zs.toArray ps.toList = some cs → (Instr.build T ps).run P w = .ok (.agg cs) w
theorem run_places {P : Program} : ∀ (fs : List Field) (tos : List (TypeId × Nat × Nat)), fs.map (fun f => (f.type, f.offset)) = tos.map (fun x => (x.1, x.2.1)) → tos.all (fun x => ((P.info? x.1).map (·.size)) == some x.2.2) = true → ∀ w,
    (fs.mapM fun (f : Field) => (do pure (f.offset, ← sizeOf f.type) : Sem (Nat × Nat))).run P w = .ok (tos.map (·.2)) w
  | [], [], _, _, _ => rfl
  | [], _ :: _, h, _, _ => by simp at h
  | _ :: _, [], h, _, _ => by simp at h
  | f :: fs, (T, o, s) :: tos, h, ha, w => by
    simp only [List.map_cons, List.cons.injEq, Prod.mk.injEq] at h
    obtain ⟨⟨rfl, rfl⟩, h⟩ := h
    simp only [List.all_cons, Bool.and_eq_true, beq_iff_eq] at ha
    have ih := run_places fs tos h ha.2 w
    have hs : (sizeOf f.type).run P w = .ok s w := by
      cases hi : P.info? f.type with
      | none => simp [hi] at ha
      | some i => simp only [hi, Option.map_some, Option.some.injEq] at ha; simp [sizeOf, typeInfo, hi, ha.1]
    rw [List.mapM_cons, Sem.run_bind, Sem.run_bind, hs]
    simp only [Result.andThen_ok, Sem.run_pure, Sem.run_bind, ih, List.map_cons]
theorem BT.mk' {P : Program} {T : TypeId} {size bytes : Nat} {zero : Value} {places : List (Nat × Nat)} {zs : List Value} [TI P T (.struct (flds P T)) size bytes zero] (tos : List (TypeId × Nat × Nat)) (hz : zero.cells = zs.toArray)
    (h1 : (flds P T).toList.map (fun f => (f.type, f.offset)) = tos.map (fun x => (x.1, x.2.1))) (h2 : tos.all (fun x => ((P.info? x.1).map (·.size)) == some x.2.2) = true) (hp : tos.map (·.2) = places) : BT P T places zs := ⟨fun ps cs w h => by
  subst hp
  have h2 : ∀ w, ((flds P T).mapM fun (f : Field) => (do pure (f.offset, ← sizeOf f.type) : Sem (Nat × Nat))).run P w = .ok (tos.map (·.2)).toArray w := fun w => by
    have := run_places _ tos h1 h2 w
    rw [← Array.toArray_toList (xs := flds P T), List.mapM_toArray, Sem.run_map, this]; rfl
  have h3 : (fun (x : Nat) => (tos.map (·.2)).toArray[x]?) = (fun (i : Nat) => (tos.map (·.2))[i]?) := by funext i; simp
  simp only [Instr.build, Sem.run_bind, run_zero (T := T) (desc := .struct (flds P T)) (size := size) (bytes := bytes) (zero := zero), Result.andThen_ok, run_und (T := T) (desc := .struct (flds P T)) (size := size) (bytes := bytes) (zero := zero), h2, hz, h3, h, Sem.run_pure]⟩

theorem g_build {M : World → Prop} {d : Option Nat} {T : TypeId} {ps : List (Nat × Operand)} {qs : List (Nat × List Value)} {places : List (Nat × Nat)} {zs cs : List Value} [h : BT P T places zs] (he : evc E ps qs) (hf : lfill (fun i => places[i]?) zs qs = some cs) :
    Gives P n D E M ⟨d, .build T ps.toArray, ty, pos, aft, gd⟩ (Ag cs) := Gives.mk fun a w hs _ => by
  obtain ⟨e1, e2⟩ := evc_spec hs he
  have h1 := fill_list (fun i => places[i]?) _ qs zs cs e1 e2 hf
  have := h.run (ps.map fun (i, x) => (i, a.eval x)).toArray cs.toArray w (by simpa using h1)
  simp only [execOp, List.map_toArray, Sem.run_bind]
  rw [this]; rfl

def zerosL (zs : List Value) : Nat → List Value
  | 0 => []
  | k + 1 => zs ++ zerosL zs k
theorem zerosL_length (zs : List Value) (k : Nat) : (zerosL zs k).length = k * zs.length := by
  induction k with
  | zero => simp [zerosL]
  | succ k ih => simp [zerosL, ih, Nat.succ_mul, Nat.add_comm]
theorem zerosL_get (zs : List Value) : ∀ (k j : Nat), j < k * zs.length → (zerosL zs k)[j]? = zs[j % zs.length]?
  | 0, j, h => by simp at h
  | k + 1, j, h => by
    simp only [zerosL]
    by_cases hj : j < zs.length
    · rw [List.getElem?_append_left hj, Nat.mod_eq_of_lt hj]
    · rw [List.getElem?_append_right (by omega), zerosL_get zs k (j - zs.length) (by rw [Nat.succ_mul] at h; omega)]
      rw [← Nat.mod_eq_sub_mod (by omega)]
theorem range_zeros (zs : List Value) (k : Nat) : (Array.range (k * zs.length)).map (fun j => zs.toArray[j % zs.toArray.size]!) = (zerosL zs k).toArray := by
  apply Array.ext'
  apply List.ext_getElem?
  intro j
  simp only [Array.toList_map, Array.toList_range, List.getElem?_map]
  by_cases hj : j < k * zs.length
  · have hpos : 0 < zs.length := Nat.pos_of_ne_zero fun e => by rw [e] at hj; simp at hj
    have hm : j % zs.length < zs.length := Nat.mod_lt _ hpos
    rw [List.getElem?_range hj, zerosL_get zs k j hj]
    simp [hm]
  · rw [List.getElem?_eq_none (by simp; omega), List.getElem?_eq_none (by rw [zerosL_length]; omega)]; rfl

def bplace (size : Nat) (i : Nat) : Option (Nat × Nat) := some (i * size, size)
theorem c_buildSlice {T el : TypeId} {len : Nat} {ps : List (Nat × Operand)} {qs : List (Nat × List Value)} {desc : TypeDesc} {size bytes size' bytes' : Nat} {zero zero' : Value} {zs cs : List Value} [TI P T (.slice el) size' bytes' zero'] [TI P el desc size bytes zero] (hz : zero.cells = zs.toArray)
    (hsz : Nat.beq zs.length size = true) (he : evc E ps qs) (hf : lfill (bplace size) (zerosL zs len) qs = some cs) (hsm : Nat.ble (len * size) 16777216 = true) (hlt : Nat.blt d n = true)
    (k : ∀ b, Nx n D ((d, .slice (some ⟨b, 0, none⟩) len len) :: E) B G (.blk b (.cells cs.toArray el (0, 0)) :: L) K) : Nx n D E B G L (ow P ⟨some d, .buildSlice T len ps.toArray, ty, pos, aft, gd⟩ Q K) := Nx.mk fun a w hs hw => by
  obtain ⟨e1, e2⟩ := evc_spec hs he
  have hsz : zs.length = size := Nat.eq_of_beq_eq_true hsz
  have h1 := fill_list (bplace size) _ qs (zerosL zs len) cs e1 e2 hf
  have hrun : (execOp a.eval ⟨some d, .buildSlice T len ps.toArray, ty, pos, aft, gd⟩).run P w = .ok (.value (.slice (some ⟨w.heap.size, 0, none⟩) len len)) (w.alloc (.cells cs.toArray el (0, 0))) := by
    have hle : ¬ (len * size > 2 ^ 24) := by have := Nat.le_of_ble_eq_true hsm; omega
    simp only [execOp, Instr.buildSlice, Sem.run_bind, run_und (T := T) (desc := .slice el) (size := size') (bytes := bytes') (zero := zero'), Result.andThen_ok, run_sizeOf (T := el) (desc := desc) (size := size) (bytes := bytes) (zero := zero), if_neg hle]
    have h5 : Instr.fill (fun i => some (i * size, size)) (zerosL zs len).toArray (Array.map (fun x => (x.fst, a.eval x.snd)) ps.toArray).toList = some cs.toArray := by
      have h6 : (Array.map (fun x => (x.fst, a.eval x.snd)) ps.toArray).toList = ps.map fun (i, x) => (i, a.eval x) := by simp
      rw [h6]; exact h1
    by_cases h0 : len * size = 0
    · have h3 : (Array.range (len * size)).map (fun x => (#[] : Array Value)[x % (#[] : Array Value).size]!) = (zerosL zs len).toArray := by
        have : (zerosL zs len).length = 0 := by rw [zerosL_length, hsz]; exact h0
        rw [List.length_eq_zero_iff.1 this, h0]; simp
      simp only [if_pos h0, Sem.run_bind, Sem.run_pure, Result.andThen_ok, h3, h5, newRow, run_newObj, World.alloc_eq]
    · have h3 : (Array.range (len * size)).map (fun x => zs.toArray[x % zs.toArray.size]!) = (zerosL zs len).toArray := by rw [← hsz]; exact range_zeros zs len
      simp only [if_neg h0, Sem.run_bind, Sem.run_pure, Result.andThen_ok, run_zero (T := el) (desc := desc) (size := size) (bytes := bytes) (zero := zero), hz, h3, h5, newRow, run_newObj, World.alloc_eq]
  unfold ow Oper.wp
  rw [hrun, Oper.upon_value]
  exact (k _).go _ _ (hs.put (by simpa using hlt)) (hw.alloc _)
end
end Go.E
/-! EngE -/
namespace Go.E

/-! ## Assertions that change their form -/
theorem St.conv {B G w x y R} (h : St B G (x :: R) w) (hbk : y.bk = x.bk) (hat : y.at w) : St B G (y :: R) w := by
  have e : bks (y :: R) = bks (x :: R) := by simp [bks, hbk]
  exact ⟨h.ok, fun z hz => by rcases List.mem_cons.1 hz with rfl | hz; exact hat; exact h.own z (List.mem_cons_of_mem _ hz), fun b hb => h.fresh b (e ▸ hb), e ▸ h.nd, h.os, h.tape, h.output, h.size, h.frame⟩
theorem St.addNil {B G w L} (h : St B G L w) (ty : TypeId) (sz : Nat) : St B G (.acc nilS ty sz 0 [] :: L) w := by
  have e : bks (.acc nilS ty sz 0 [] :: L) = bks L := by simp [bks, Own.bk, vbk]
  exact ⟨h.ok, fun z hz => by rcases List.mem_cons.1 hz with rfl | hz; exact ⟨by simp, .inl ⟨rfl, rfl⟩⟩; exact h.own z hz, fun b hb => h.fresh b (e ▸ hb), e ▸ h.nd, h.os, h.tape, h.output, h.size, h.frame⟩
/-- The block of an assertion is written. -/
theorem St.upd {B G R w w'} {x y : Own} {b : Nat} (h : St B G (x :: R) w) (hx : x.bk = [b]) (hy : y.bk = [b]) (hat : y.at w') (hs : ∀ c, c ≠ b → w'.heap[c]? = w.heap[c]?)
    (ho : w'.os = w.os) (ht : w'.tape = w.tape) (hou : w'.output = w.output) (hsz : w'.heap.size = w.heap.size) : St B G (y :: R) w' := by
  have e : bks (y :: R) = bks (x :: R) := by simp only [bks, List.flatMap_cons, hx, hy]
  have hfr := h.fresh b (mem_bks.2 ⟨x, List.mem_cons_self, by rw [hx]; exact List.mem_singleton.2 rfl⟩)
  have hnd : b ∉ bks R := by
    have := h.nd
    simp only [bks, List.flatMap_cons, hx, List.singleton_append, List.nodup_cons] at this
    exact this.1
  refine ⟨fun c g hc => ?_, fun z hz => ?_, fun c hc => h.fresh c (e ▸ hc), e ▸ h.nd, ho.trans h.os, ht.trans h.tape, hou.trans h.output, by rw [hsz]; exact h.size, fun c hc hW => ?_⟩
  · obtain ⟨o2, h3, h4⟩ := h.ok c g hc
    have : c ≠ b := fun e => by subst e; rw [hfr.1] at hc; cases hc
    exact ⟨o2, by rw [hs c this]; exact h3, h4⟩
  · rcases List.mem_cons.1 hz with rfl | hz
    · exact hat
    · refine Own.at_same (h.own z (List.mem_cons_of_mem _ hz)) fun c hc => hs c fun e => ?_
      have hzb := mem_bks.2 ⟨z, hz, hc⟩
      subst e
      exact hnd hzb
  · have : c ≠ b := fun e => by
      subst e
      rcases hfr.2 with h3 | h3
      · omega
      · exact hW h3
    rw [hs c this]; exact h.frame c hc hW

theorem AccAt.one {w v ty sz n xs} (h : AccAt w v ty sz n xs) : v.oneCell' = true := by
  obtain ⟨_, ⟨rfl, _⟩ | ⟨b, cap, rest, rfl, _⟩⟩ := h <;> rfl

section
variable {n : Nat} {D : List Deferred} {E : Env} {B : Base} {G : Gh} {L : List Own} {P : Program}
variable {Q : Exit → Act → World → Prop} {K : Act → World → Prop}
variable {d : Nat} {ty : TypeId} {pos : String} {aft : Array Edge} {gd : Option (Nat × Bool)}

theorem Nx.addNil (T : TypeId) (sz : Nat) (h : Nx n D E B G (.acc nilS T sz 0 [] :: L) K) : Nx n D E B G L K := Nx.mk fun a w hs hw => h.go a w hs (hw.addNil T sz)
/-- What an owned slice's value is. -/
theorem Nx.acc {v : Value} {T : TypeId} {sz m : Nat} {xs : List Value} (hm : Own.acc v T sz m xs ∈ L)
    (h : xs.length = m * sz → (v = nilS ∧ m = 0 ∨ ∃ b cap, v = .slice (some ⟨b, 0, none⟩) m cap ∧ m ≤ cap) → Nx n D E B G L K) : Nx n D E B G L K := Nx.mk fun a w hs hw => by
  obtain ⟨h1, h2⟩ : AccAt w v T sz m xs := hw.own _ hm
  exact (h h1 (h2.imp id fun ⟨b, cap, rest, e, hc, _⟩ => ⟨b, cap, e, hc⟩)).go a w hs hw
theorem Nx.acc1 {v : Value} {T : TypeId} {sz m : Nat} {xs : List Value} (hm : Own.acc v T sz m xs ∈ L) (h : v.oneCell' = true → Nx n D E B G L K) : Nx n D E B G L K :=
  Nx.fact (fun _ hw => AccAt.one (hw.own _ hm)) h

/-- A slice's own cells, as a source or as what is read. -/
def SrcOf (S : World → Prop) (size : Nat) (src : Value) (m : Nat) (news : List Value) : Prop :=
  (src = nilS ∧ m = 0 ∧ news = []) ∨ ∃ b o c, src = .slice (some ⟨b, o, none⟩) m c ∧ news.length = m * size ∧ CellsOf S b o news

theorem src_nil {S : World → Prop} {size : Nat} : SrcOf S size nilS 0 [] := .inl ⟨rfl, rfl, rfl⟩
theorem src_cells {S : World → Prop} {size b o m c : Nat} {news : List Value} (hl : Nat.beq news.length (m * size) = true) (h : CellsOf S b o news) : SrcOf S size (.slice (some ⟨b, o, none⟩) m c) m news := .inr ⟨b, o, c, rfl, Nat.eq_of_beq_eq_true hl, h⟩
theorem cells_acc {S : World → Prop} {G0 : Gh} {L0 : List Own} [k : Kn S G0 L0] {b m cap : Nat} {T : TypeId} {sz : Nat} {xs : List Value} (hm : Own.acc (.slice (some ⟨b, 0, none⟩) m cap) T sz m xs ∈ L0) : CellsOf S b 0 xs := CellsOf.mk fun i v hv => CellOf.mk fun w hw => by
  obtain ⟨B, G, L, _, hL, hst⟩ := k.kn w hw
  obtain ⟨_, ⟨h, _⟩ | ⟨b', cap', rest, h, _, _, h2⟩⟩ : AccAt w _ T sz m xs := hst.own _ (hL _ hm)
  · cases h
  · simp only [Value.slice.injEq, Option.some.injEq, Addr.mk.injEq] at h
    obtain ⟨⟨rfl, _, _⟩, _, _⟩ := h
    simp only [Nat.zero_add]
    refine cell_of_heap h2 ?_
    rw [List.getElem?_append_left (List.getElem?_eq_some_iff.1 hv).1]; exact hv
theorem src_acc {S : World → Prop} {G0 : Gh} {L0 : List Own} [k : Kn S G0 L0] {v : Value} {m : Nat} {T : TypeId} {sz : Nat} {xs : List Value} (hm : Own.acc v T sz m xs ∈ L0)
    (hv : v = nilS ∧ m = 0 ∨ ∃ b cap, v = .slice (some ⟨b, 0, none⟩) m cap ∧ m ≤ cap) (hl : xs.length = m * sz) : SrcOf S sz v m xs := by
  rcases hv with ⟨rfl, rfl⟩ | ⟨b, cap, rfl, _⟩
  · exact .inl ⟨rfl, rfl, by simpa using hl⟩
  · exact .inr ⟨b, 0, cap, rfl, hl, cells_acc hm⟩

theorem growBy_le (nl : Nat) : ∀ (r c : Nat), c ≤ 2 * nl + 768 → Builtin.growBy nl r c ≤ 2 * nl + 768
  | 0, c, h => h
  | r + 1, c, h => by
    simp only [Builtin.growBy]
    split
    · exact h
    · exact growBy_le nl r _ (by omega)
theorem nextslicecap_le (need cap : Nat) (h : cap < need) : Builtin.nextslicecap need cap ≤ 2 * need + 768 := by
  unfold Builtin.nextslicecap
  split
  · omega
  · split
    · omega
    · exact growBy_le _ _ _ (by omega)

theorem zeroCells_eq (zs : List Value) (k : Nat) : Builtin.zeroCells zs.toArray k = (zerosL zs k).toArray := by
  unfold Builtin.zeroCells
  have := range_zeros zs k
  simpa using this

theorem addr_add (b o k : Nat) : (⟨b, o, none⟩ : Addr).add k = ⟨b, o + k, none⟩ := by by_cases hi : k = 0 <;> simp [Addr.add, hi]

theorem run_append {v src : Value} {m k : Nat} {T el : TypeId} {desc : TypeDesc} {size bytes s1 b1 : Nat} {z1 zero : Value} {zs xs news : List Value} {w : World} [h1' : TI P T (.slice el) s1 b1 z1] [he : TI P el desc size bytes zero]
    (hz : zero.cells = zs.toArray) (hzl : zs.length = size) (hb0 : bytes ≠ 0) (hb : (2 * (m + k) + 768) * bytes ≤ 281474976710656)
    {R : List Own} (hw : St B G (.acc v el size m xs :: R) w) (hsrc : SrcOf (St B G (.acc v el size m xs :: R)) size src k news) (h1 : all1 news = true) :
    ∃ v' w', (Builtin.append_ #[T, T] ty #[v, src]).run P w = .ok v' w' ∧ St B G (.acc v' el size (m + k) (xs ++ news) :: R) w' := by
  obtain ⟨hxl, hacc⟩ : AccAt w v el size m xs := hw.own _ List.mem_cons_self
  obtain ⟨ie, hi, hsz, hby, hze⟩ := he.inf
  have ht := h1'.und
  have hsmall : m + k ≤ 281474976710656 := by
    have : (2 * (m + k) + 768) * 1 ≤ (2 * (m + k) + 768) * bytes := Nat.mul_le_mul_left _ (by omega)
    omega
  have h1s : ∀ u ∈ news, u.oneCell' = true := by
    clear hsrc
    induction news with
    | nil => intro u hu; cases hu
    | cons x r ih =>
      simp only [all1, Bool.and_eq_true] at h1
      intro u hu
      rcases List.mem_cons.1 hu with rfl | hu
      · exact h1.1
      · exact ih h1.2 u hu
  have mk : ∀ nc, m + k ≤ nc → (w.drew.alloc (.cells (xs ++ news ++ zerosL zs (nc - (m + k))).toArray el)).heap.size = w.heap.size + 1 → news.length = k * size →
      St B G (.acc (.slice (some ⟨w.heap.size, 0, none⟩) (m + k) nc) el size (m + k) (xs ++ news) :: R) (w.drew.alloc (.cells (xs ++ news ++ zerosL zs (nc - (m + k))).toArray el)) := by
    intro nc hnc _ hnl
    have h2 := hw.drew.alloc (.cells (xs ++ news ++ zerosL zs (nc - (m + k))).toArray el)
    have h3 : St B G (.blk w.drew.heap.size (.cells (xs ++ news ++ zerosL zs (nc - (m + k))).toArray el) :: R) _ := h2.weaken (.cons_cons _ (List.sublist_cons_self _ _))
    refine h3.conv rfl ⟨by simp [hxl, hnl, Nat.add_mul], .inr ⟨_, nc, zerosL zs (nc - (m + k)), rfl, hnc, ?_, h3.own _ List.mem_cons_self⟩⟩
    simp only [List.length_append, hxl, hnl, zerosL_length, hzl]
    rw [← Nat.add_mul, ← Nat.add_mul]; congr 1; omega
  rcases hsrc with ⟨rfl, rfl, rfl⟩ | ⟨sb, so, sc, rfl, hnl, hcs⟩
  · -- nothing is appended
    refine ⟨v, w, ?_, by simpa using hw⟩
    rcases hacc with ⟨rfl, rfl⟩ | ⟨b, cap, rest, rfl, hmc, hrl, hblk⟩
    · simp [Builtin.append_, run_underlying ht, sizeOf, typeInfo, hi, Builtin.lenOf, Builtin.firstCells]
    · simp [Builtin.append_, run_underlying ht, sizeOf, typeInfo, hi, Builtin.lenOf, Builtin.firstCells, hmc, storeCells]
  · have hnews : ∀ (w : World), St B G (.acc v el size m xs :: R) w → ∀ j u, news[j]? = some u → w.cell? ((⟨sb, so, none⟩ : Addr).add j) = some u := fun w hw j u hj => by
      rw [addr_add]; exact (hcs.go j u hj).go w hw
    rcases hacc with ⟨rfl, rfl⟩ | ⟨b, cap, rest, rfl, hmc, hrl, hblk⟩
    · have hx0 : xs = [] := by simpa using hxl
      subst hx0
      by_cases hk : k = 0
      · subst hk
        have hn0 : news = [] := by simpa using hnl
        subst hn0
        refine ⟨nilS, w, ?_, hw⟩
        simp [Builtin.append_, run_underlying ht, sizeOf, typeInfo, hi, Builtin.lenOf, Builtin.firstCells, loadCells, loadCellsFrom]
      · have hbb : k * ie.bytes ≤ 281474976710656 := by
          rw [hby]
          have : k * bytes ≤ (2 * (0 + k) + 768) * bytes := Nat.mul_le_mul_right _ (by omega)
          omega
        have hr := run_append_nil (P := P) w T ty el ie zero ht hi hze ⟨sb, so, none⟩ k sc news (by rw [hsz]; exact hnl) (hnews w hw) (by omega) (by omega) hbb
        rw [hz, zeroCells_eq] at hr
        have := mk (grownCap w k 0 el) (by simpa using grownCap_ge w k 0 el) (by simp) hnl
        simp only [Nat.zero_add, List.nil_append, List.append_toArray] at this hr ⊢
        exact ⟨_, _, hr, this⟩
    · by_cases hfit : m + k ≤ cap
      · have hrest : news.length ≤ rest.length := by
          have : (m + k) * size ≤ cap * size := Nat.mul_le_mul_right _ hfit
          simp only [List.length_append, hxl] at hrl
          rw [Nat.add_mul] at this
          omega
        have hr := run_append_room (P := P) w T ty el ie ht hi b m cap (xs ++ rest).toArray hblk ⟨sb, so, none⟩ k sc news (by rw [hsz]; exact hnl) (hnews w hw) h1s hfit (by rw [hsz, ← hxl]; simp; exact hrest)
        have hcells : (List.take (m * ie.size) (xs ++ rest) ++ news ++ List.drop (m * ie.size + news.length) (xs ++ rest)) = xs ++ news ++ rest.drop news.length := by
          rw [hsz, ← hxl]; simp [List.drop_append]
        simp only [hcells] at hr
        refine ⟨_, _, hr, hw.upd (b := b) rfl rfl ⟨by simp [hxl, hnl, Nat.add_mul], .inr ⟨b, cap, rest.drop news.length, rfl, hfit, ?_, setRow_heap w b _ _ el _ hblk⟩⟩ (fun c hc => setRow_other w b c _ hc) rfl rfl rfl (by simp)⟩
        simp only [List.length_append, List.length_drop] at *; omega
      · have hnsc := nextslicecap_le (m + k) cap (by omega)
        have hroom : Builtin.nextslicecap (m + k) cap * ie.bytes ≤ 281474976710656 := by
          have : Builtin.nextslicecap (m + k) cap * bytes ≤ (2 * (m + k) + 768) * bytes := Nat.mul_le_mul_right _ hnsc
          rw [hby]; omega
        have hold : ∀ j u, xs[j]? = some u → w.cell? ((⟨b, 0, none⟩ : Addr).add j) = some u := fun j u hj => by
          rw [addr_add]
          exact ((cells_acc (S := St B G (.acc (.slice (some ⟨b, 0, none⟩) m cap) el size m xs :: R)) (m := m) (cap := cap) (T := el) (sz := size) (xs := xs) List.mem_cons_self).go j u hj).go w hw
        have hr := run_append_grow (P := P) w T ty el ie zero ht hi hze ⟨b, 0, none⟩ m cap xs (by rw [hsz]; exact hxl) hold ⟨sb, so, none⟩ k sc news (by rw [hsz]; exact hnl) (hnews w hw) (by omega) (by omega) hroom
        rw [hz, zeroCells_eq] at hr
        have := mk (grownCap w (m + k) cap el) (grownCap_ge w (m + k) cap el) (by simp) hnl
        simp only [List.append_toArray] at this hr ⊢
        exact ⟨_, _, hr, this⟩

theorem c_append {v src : Value} {m k : Nat} {s x : Operand} {T el : TypeId} {desc : TypeDesc} {size bytes s1 b1 : Nat} {z1 zero : Value} {zs xs news : List Value} {L' : List Own} [TI P T (.slice el) s1 b1 z1] [TI P el desc size bytes zero]
    (hs : ev E s = some v) (hx : ev E x = some src) (hL : Del (.acc v el size m xs) L L') (hsrc : SrcOf (St B G L) size src k news) (h1 : all1 news = true)
    (hz : zero.cells = zs.toArray) (hzl : Nat.beq zs.length size = true) (hb0 : Nat.beq bytes 0 = false) (hb : (2 * (m + k) + 768) * bytes ≤ 281474976710656) (hlt : Nat.blt d n = true)
    (kk : ∀ v', Nx n D ((d, v') :: E) B G (.acc v' el size (m + k) (xs ++ news) :: L') K) :
    Nx n D E B G L (ow P ⟨some d, .call ⟨.builtin .append, [s, x].toArray, [T, T].toArray⟩, ty, pos, aft, gd⟩ Q K) := Nx.mk fun a w hsat hw => by
  have hw' := hw.perm hL.perm
  have hsrc' : SrcOf (St B G (.acc v el size m xs :: L')) size src k news := by
    rcases hsrc with h | ⟨b, o, c, e1, e2, e3⟩
    · exact .inl h
    · exact .inr ⟨b, o, c, e1, e2, CellsOf.mk fun i u hu => CellOf.mk fun w hw => (e3.go i u hu).go w (hw.perm hL.perm.symm)⟩
  obtain ⟨v', w', hr, hst⟩ := run_append (P := P) (ty := ty) (T := T) (el := el) (desc := desc) (size := size) (bytes := bytes) (s1 := s1) (b1 := b1) (z1 := z1) (zero := zero)
    hz (Nat.eq_of_beq_eq_true hzl) (fun e => by subst e; simp at hb0) hb hw' hsrc' h1
  have hrun : (execOp a.eval ⟨some d, .call ⟨.builtin .append, [s, x].toArray, [T, T].toArray⟩, ty, pos, aft, gd⟩).run P w = .ok (.value v') w' := by
    have e1 : ([s, x].toArray.map a.eval) = #[v, src] := by simp [hsat.ev hs, hsat.ev hx]
    simp only [execOp, resolve, e1, Sem.run_bind, Sem.run_pure, Result.andThen_ok, invoke, builtin, hr]
  unfold ow Oper.wp
  rw [hrun, Oper.upon_value]
  exact (kk v').go _ w' (hsat.put (by simpa using hlt)) hst

/-- The first append to a nil slice. -/
theorem c_append0 {src : Value} {k : Nat} {s x : Operand} {T el : TypeId} {desc : TypeDesc} {size bytes s1 b1 : Nat} {z1 zero : Value} {zs news : List Value} [TI P T (.slice el) s1 b1 z1] [TI P el desc size bytes zero]
    (hs : ev E s = some nilS) (hx : ev E x = some src) (hsrc : SrcOf (St B G L) size src k news) (h1 : all1 news = true)
    (hz : zero.cells = zs.toArray) (hzl : Nat.beq zs.length size = true) (hb0 : Nat.beq bytes 0 = false) (hb : (2 * k + 768) * bytes ≤ 281474976710656) (hlt : Nat.blt d n = true)
    (kk : ∀ v', Nx n D ((d, v') :: E) B G (.acc v' el size k news :: L) K) :
    Nx n D E B G L (ow P ⟨some d, .call ⟨.builtin .append, [s, x].toArray, [T, T].toArray⟩, ty, pos, aft, gd⟩ Q K) := by
  refine Nx.addNil el size (c_append (m := 0) (xs := []) hs hx .here ?_ h1 hz hzl hb0 (by simpa using hb) hlt (by simpa using kk))
  rcases hsrc with h | ⟨b, o, c, e1, e2, e3⟩
  · exact .inl h
  · exact .inr ⟨b, o, c, e1, e2, CellsOf.mk fun i u hu => CellOf.mk fun w hw => (e3.go i u hu).go w (hw.weaken (List.sublist_cons_self _ _))⟩

/-! ### What only yields, of owned slices -/
theorem g_lenA {M : World → Prop} {G0 : Gh} {L0 : List Own} [kn : Kn M G0 L0] {d : Option Nat} {x : Operand} {T el : TypeId} {size bytes : Nat} {zero v : Value} {sz m : Nat} {xs : List Value} [TI P T (.slice el) size bytes zero] (hx : ev E x = some v) (hm : Own.acc v el sz m xs ∈ L0) :
    Gives P n D E M ⟨d, .call ⟨.builtin .len, [x].toArray, [T].toArray⟩, ty, pos, aft, gd⟩ (I m) := Gives.mk fun a w hs hw => by
  obtain ⟨B, G, L, _, hL, hst⟩ := kn.kn w hw
  obtain ⟨_, ⟨rfl, rfl⟩ | ⟨b', cap', rest, rfl, _, _, h2⟩⟩ : AccAt w v el sz m xs := hst.own _ (hL _ hm)
  · exact (g_lenL (T := T) (el := el) (size := size) (bytes := bytes) (zero := zero) hx).go a w hs hw
  · exact (g_lenL (T := T) (el := el) (size := size) (bytes := bytes) (zero := zero) hx).go a w hs hw

def u8s (l : List UInt8) : List Value := l.map fun c => .int .u8 c.toNat
theorem foldl_push (l : List UInt8) : ∀ acc : List UInt8, (l.map fun c => ((c.toNat : Nat) : Int)).foldl (fun r n => r.push (UInt8.ofNat n.toNat)) (ByteArray.mk acc.toArray) = ByteArray.mk (acc ++ l).toArray := by
  induction l with
  | nil => intro acc; simp
  | cons c l ih =>
    intro acc
    simp only [List.map_cons, List.foldl_cons]
    have : (ByteArray.mk acc.toArray).push (UInt8.ofNat ((c.toNat : Int).toNat)) = ByteArray.mk (acc ++ [c]).toArray := by
      apply ByteArray.ext
      simp [ByteArray.push]
    rw [this, ih]
    simp
theorem run_b2s {M : World → Prop} {src : Value} {l : List UInt8} {m : Nat} (hsrc : SrcOf M 1 src m (u8s l)) (w : World) (hw : M w) : (Conv.bytesToString src).run P w = .ok (S l) w := by
  rcases hsrc with ⟨rfl, rfl, h⟩ | ⟨b, o, c, rfl, hl, hc⟩
  · have : l = [] := by simpa [u8s] using h
    subst this; rfl
  · have h1 := run_loadCells (P := P) hc w hw
    have h2 : (u8s l) = ((l.map fun c => ((c.toNat : Nat) : Int)).map (Value.int .u8)) := by simp [u8s]
    rw [hl, Nat.mul_one, h2] at h1
    rw [run_bytesToString w _ m c _ h1]
    have h3 := foldl_push l []
    simp only [List.nil_append] at h3
    exact congrArg (fun s => Result.ok (Value.string s) w) h3
theorem g_b2s {M : World → Prop} {d : Option Nat} {x : Operand} {T T' el : TypeId} {s1 b1 s2 b2 s3 b3 : Nat} {z1 z2 z3 src : Value} {l : List UInt8} {m : Nat} [TI P T (.slice el) s1 b1 z1] [TI P T' .string s2 b2 z2] [TI P el (.int .u8) s3 b3 z3]
    (hx : ev E x = some src) (hsrc : SrcOf M 1 src m (u8s l)) : Gives P n D E M ⟨d, .convert T T' x, ty, pos, aft, gd⟩ (S l) := Gives.mk fun a w hs hw => by
  have h1 : (convert T T' src).run P w = (Conv.bytesToString src).run P w := by
    rcases hsrc with ⟨rfl, _, _⟩ | ⟨b, o, c, rfl, _, _⟩ <;>
    simp [convert, run_und (T := T) (desc := .slice el) (size := s1) (bytes := b1) (zero := z1), run_und (T := T') (desc := .string) (size := s2) (bytes := b2) (zero := z2), run_und (T := el) (desc := .int .u8) (size := s3) (bytes := b3) (zero := z3)]
  simp only [execOp, hs.ev hx, Sem.run_bind, h1, run_b2s hsrc w hw, Result.andThen_ok, Sem.run_pure]

/-! ### Sealing -/
/-- A slice that will not turn any more. -/
def SlV (G : Gh) (v : Value) (sz m : Nat) (xs : List Value) : Prop :=
  xs.length = m * sz ∧ ((v = nilS ∧ m = 0) ∨ ∃ b o cap, v = .slice (some ⟨b, o, none⟩) m cap ∧ m ≤ cap ∧ Seg G b o xs)
theorem SlV.mono {G G' : Gh} {v : Value} {sz m : Nat} {xs : List Value} (h : SlV G v sz m xs) (hl : Gh.le G G') : SlV G' v sz m xs :=
  ⟨h.1, h.2.imp id fun ⟨b, o, cap, e, hc, hs⟩ => ⟨b, o, cap, e, hc, hs.mono hl⟩⟩
theorem SlV.one {G : Gh} {v : Value} {sz m : Nat} {xs : List Value} (h : SlV G v sz m xs) : v.oneCell' = true := by
  obtain ⟨_, ⟨rfl, _⟩ | ⟨b, o, cap, rfl, _⟩⟩ := h <;> rfl
theorem SlV.src {S : World → Prop} {G0 : Gh} {L0 : List Own} [Kn S G0 L0] {v : Value} {sz m : Nat} {xs : List Value} (h : SlV G0 v sz m xs) : SrcOf S sz v m xs := by
  obtain ⟨h1, ⟨rfl, rfl⟩ | ⟨b, o, cap, rfl, _, h2⟩⟩ := h
  · exact .inl ⟨rfl, rfl, by simpa using h1⟩
  · exact .inr ⟨b, o, cap, rfl, h1, cells_seg h2⟩
theorem g_lenV {M : World → Prop} {G0 : Gh} {d : Option Nat} {x : Operand} {T el : TypeId} {size bytes : Nat} {zero v : Value} {sz m : Nat} {xs : List Value} [TI P T (.slice el) size bytes zero] (hx : ev E x = some v) (hm : SlV G0 v sz m xs) :
    Gives P n D E M ⟨d, .call ⟨.builtin .len, [x].toArray, [T].toArray⟩, ty, pos, aft, gd⟩ (I m) := by
  obtain ⟨h1, ⟨rfl, rfl⟩ | ⟨b, o, cap, rfl, _, h2⟩⟩ := hm
  · exact g_lenL (T := T) (el := el) (size := size) (bytes := bytes) (zero := zero) hx
  · exact g_lenL (T := T) (el := el) (size := size) (bytes := bytes) (zero := zero) hx

theorem St.shutP {B G w b cs ty fr R} (xs : List Value) (h : St B G (.blk b (.cells cs ty fr) :: R) w) (hx : ∃ rest, cs = (xs ++ rest).toArray) :
    ∃ G', Gh.le G G' ∧ St B G' R w ∧ Seg G' b 0 xs := by
  have hfr := h.fresh b (by simp [bks, Own.bk])
  have hnd := h.nd
  simp only [bks, List.flatMap_cons, Own.bk, List.singleton_append, List.nodup_cons] at hnd
  refine ⟨fun c => if c = b then some (.pre xs) else G c, fun c g hc => ?_, ?_, ⟨xs, by simp, fun i v hv => by simpa using hv⟩⟩
  · have : c ≠ b := fun e => by subst e; rw [hfr.1] at hc; cases hc
    simp [this, hc]
  · refine ⟨fun c g hc => ?_, fun x hx' => h.own x (List.mem_cons_of_mem _ hx'), fun c hc => ?_, hnd.2, h.os, h.tape, h.output, h.size, fun c hc hW => ?_⟩
    · by_cases hcb : c = b
      · subst hcb
        simp only [↓reduceIte, Option.some.injEq] at hc
        subst hc
        exact ⟨_, h.own _ List.mem_cons_self, hx⟩
      · simp only [if_neg hcb] at hc
        exact h.ok c g hc
    · have hcb : c ≠ b := fun e => by subst e; exact hnd.1 hc
      have := h.fresh c (by simp only [bks, List.flatMap_cons, Own.bk, List.singleton_append]; exact List.mem_cons_of_mem _ hc)
      simp [hcb, this]
    · have hcb : c ≠ b := fun e => by
        subst e
        rcases hfr.2 with h3 | h3
        · omega
        · exact hW h3
      simp only [if_neg hcb]
      exact h.frame c hc hW
theorem Nx.sealB {b : Nat} {cs : List Value} {T : TypeId} {fr : Nat × Nat} {L' : List Own} (hL : Del (.blk b (.cells cs.toArray T fr)) L L') (h : ∀ G', Gh.le G G' → Seg G' b 0 cs → Nx n D E B G' L' K) : Nx n D E B G L K := Nx.mk fun a w hs hw => by
  obtain ⟨G', h1, h2, h3⟩ := (hw.perm hL.perm).shutP cs ⟨[], by simp⟩
  exact (h G' h1 h3).go a w hs h2
theorem Nx.sealA {v : Value} {T : TypeId} {sz m : Nat} {xs : List Value} {L' : List Own} (hL : Del (.acc v T sz m xs) L L') (h : ∀ G', Gh.le G G' → SlV G' v sz m xs → Nx n D E B G' L' K) : Nx n D E B G L K := Nx.mk fun a w hs hw => by
  have hw := hw.perm hL.perm
  obtain ⟨h1, ⟨rfl, rfl⟩ | ⟨b, cap, rest, rfl, hc, hl, hb⟩⟩ : AccAt w v T sz m xs := hw.own _ List.mem_cons_self
  · exact (h G (Gh.le.refl G) ⟨h1, .inl ⟨rfl, rfl⟩⟩).go a w hs (hw.weaken (List.sublist_cons_self _ _))
  · obtain ⟨G', h2, h3, h4⟩ := St.shutP xs (hw.conv (y := .blk b (.cells (xs ++ rest).toArray T (0, 0))) rfl hb) ⟨rest, rfl⟩
    exact (h G' h2 ⟨h1, .inr ⟨b, 0, cap, rfl, hc, h4⟩⟩).go a w hs h3
end
end Go.E
/-! EngF -/
namespace Go.E
def bts (n m : Nat) : Array Bool := ((List.range n).map fun i => m.testBit i).toArray
@[simp] theorem oneOf_one (v : Value) : oneOf [v] = v := rfl
theorem oneOf_two (u v : Value) : oneOf [u, v] = Tu [u, v] := rfl
theorem oneOf_three (u v x : Value) : oneOf [u, v, x] = Tu [u, v, x] := rfl
theorem oneOf_four (u v x y : Value) : oneOf [u, v, x, y] = Tu [u, v, x, y] := rfl

/-! ### Bytes -/
def bt (l : List UInt8) (i : Nat) : Nat := (l.getD i 0).toNat
def u8 (a : Int) : UInt8 := UInt8.ofNat (a % 256).toNat
theorem bt_lt (l : List UInt8) (i : Nat) : bt l i < 256 := (l.getD i 0).toNat_lt
theorem bt_le (l : List UInt8) (i : Nat) : -9223372036854775808 ≤ ((bt l i : Nat) : Int) ∧ ((bt l i : Nat) : Int) ≤ 9223372036854775807 := by have := bt_lt l i; omega
theorem u8_wrap (a : Int) : IntKind.u8.wrap a = ((u8 a).toNat : Int) := by
  have h : 0 ≤ a % 256 ∧ a % 256 < 256 := ⟨Int.emod_nonneg _ (by decide), Int.emod_lt_of_pos _ (by decide)⟩
  have h2 : (u8 a).toNat = (a % 256).toNat := by
    unfold u8; rw [UInt8.toNat_ofNat']; exact Nat.mod_eq_of_lt (by omega)
  rw [h2, Int.toNat_of_nonneg h.1]
  simp [IntKind.wrap, IntKind.bits, IntKind.signed]
@[simp] theorem u8_toNat (c : UInt8) : u8 (c.toNat : Int) = c := by
  unfold u8
  have := c.toNat_lt
  have h : (((c.toNat : Nat) : Int) % 256).toNat = c.toNat := by omega
  rw [h]; simp
theorem u8_val {a : Int} (h : 0 ≤ a ∧ a ≤ 255) : ((u8 a).toNat : Int) = a := by
  unfold u8; rw [UInt8.toNat_ofNat', Nat.mod_eq_of_lt (by omega)]; omega

/-! ### What fills what -/
theorem PutsR.spl {cs o vs cs'} (h : PutsR cs o vs cs') : cs' = splice cs o vs ∧ o + vs.length ≤ cs.length := by
  induction h with
  | nil => simp [splice]
  | here _ ih => obtain ⟨rfl, h2⟩ := ih; simp [splice] at h2 ⊢; omega
  | there _ ih => obtain ⟨rfl, h2⟩ := ih; refine ⟨?_, by simp at h2 ⊢; omega⟩; rename_i x cs k v vs _; simp [splice, show k + 1 + (vs.length + 1) = (k + (vs.length + 1)) + 1 by omega]
inductive LF (place : Nat → Option (Nat × Nat)) : List Value → List (Nat × List Value) → List Value → Prop where
  | nil {cs} : LF place cs [] cs
  | cons {i vc off size rest cs cs1 cs2} : place i = some (off, size) → Nat.beq vc.length size = true → PutsR cs off vc cs1 → LF place cs1 rest cs2 → LF place cs ((i, vc) :: rest) cs2
theorem LF.fill {place cs qs cs'} (h : LF place cs qs cs') : lfill place cs qs = some cs' := by
  induction h with
  | nil => rfl
  | cons h1 h2 h3 _ ih =>
    obtain ⟨rfl, h4⟩ := h3.spl
    simp only [lfill, h1, h2, Nat.ble_eq_true_of_le h4, Bool.and_self]
    exact ih
section
variable {B : Base} {G : Gh} {L : List Own} {K : Act → World → Prop} {Q : Exit → Act → World → Prop}
variable {P : Program} {n : Nat} {D : List Deferred} {E : Env} {M : World → Prop} {d : Option Nat} {ty : TypeId} {pos : String} {aft : Array Edge} {gd : Option (Nat × Bool)}
theorem g_sidxN {T : TypeId} {x i : Operand} {size bytes : Nat} {zero : Value} {k : IntKind} {m : Nat} {l : List UInt8} [TI P T .string size bytes zero] (hx : ev E x = some (S l)) (hi : ev E i = some (.int k (m : Int))) (h : m < l.length) :
    Gives P n D E M ⟨d, .index T x i, ty, pos, aft, gd⟩ (U8 (bt l m)) := by
  have : bt l m = (l[m]'h).toNat := by simp [bt, List.getD, List.getElem?_eq_getElem h]
  rw [this]
  exact g_sidx hx hi (by omega) (by simp [List.getElem?_eq_getElem h])
theorem g_sidxI {T : TypeId} {x i : Operand} {size bytes : Nat} {zero : Value} {k : IntKind} {m : Int} {l : List UInt8} [TI P T .string size bytes zero] (hx : ev E x = some (S l)) (hi : ev E i = some (.int k m)) (h : 0 ≤ m ∧ m < l.length) :
    Gives P n D E M ⟨d, .index T x i, ty, pos, aft, gd⟩ (U8 (bt l m.toNat)) :=
  g_sidxN hx (by rw [Int.toNat_of_nonneg h.1]; exact hi) (by omega)
theorem g_convB {T T' : TypeId} {x : Operand} {size bytes size' bytes' : Nat} {zero zero' : Value} {l : List UInt8} {i : Nat} [TI P T (.int .u8) size bytes zero] [TI P T' (.int .i64) size' bytes' zero'] (hx : ev E x = some (U8 (bt l i))) :
    Gives P n D E M ⟨d, .convert T T' x, ty, pos, aft, gd⟩ (I (bt l i)) := g_convI hx (bt_le l i)
theorem g_convC {T T' : TypeId} {x : Operand} {size bytes size' bytes' : Nat} {zero zero' : Value} {c : UInt8} [TI P T (.int .u8) size bytes zero] [TI P T' (.int .i64) size' bytes' zero'] (hx : ev E x = some (U8 c.toNat)) :
    Gives P n D E M ⟨d, .convert T T' x, ty, pos, aft, gd⟩ (I c.toNat) := g_convI hx (by have := c.toNat_lt; omega)
theorem g_convU {T T' : TypeId} {x : Operand} {size bytes size' bytes' : Nat} {zero zero' : Value} {a : Int} [TI P T (.int .i64) size bytes zero] [TI P T' (.int .u8) size' bytes' zero'] (hx : ev E x = some (I a)) :
    Gives P n D E M ⟨d, .convert T T' x, ty, pos, aft, gd⟩ (U8 (u8 a).toNat) := by rw [← u8_wrap]; exact g_conv hx

/-- The cells are bytes. -/
inductive BL : List Value → List UInt8 → Prop where
  | nil : BL [] []
  | cons {c vs l} : BL vs l → BL (.int .u8 (UInt8.toNat c) :: vs) (c :: l)
  | bt {s : List UInt8} {i : Nat} {vs l} : BL vs l → BL (.int .u8 (bt s i) :: vs) (u8 (bt s i) :: l)
  | lit {k : Nat} {vs l} : Nat.blt k 256 = true → BL vs l → BL (.int .u8 (Int.ofNat k) :: vs) (u8 k :: l)
  | of {l} : BL (u8s l) l
  | ap {l m : List UInt8} {vs} : BL vs m → BL (u8s l ++ vs) (l ++ m)
theorem BL.eq {vs : List Value} {l : List UInt8} (h : BL vs l) : vs = u8s l := by
  induction h with
  | nil => rfl
  | cons _ ih => simp [u8s, ih]
  | bt _ ih => rename_i s i _ _ _; have := bt_lt s i; simp [u8s, ih, u8_val (a := (Go.E.bt s i : Nat)) (by omega)]
  | lit hk _ ih => rename_i k _ _ _; have : k < 256 := by simpa using hk
                   have h2 := u8_val (a := (k : Nat)) (by omega)
                   simp only [u8s, List.map_cons, h2]; rw [ih]; rfl
  | of => rfl
  | ap _ ih => rw [ih]; simp [u8s]
theorem g_b2sL {x : Operand} {T T' el : TypeId} {s1 b1 s2 b2 s3 b3 : Nat} {z1 z2 z3 src : Value} {l : List UInt8} {vs : List Value} {m : Nat} [TI P T (.slice el) s1 b1 z1] [TI P T' .string s2 b2 z2] [TI P el (.int .u8) s3 b3 z3]
    (hx : ev E x = some src) (hsrc : SrcOf M 1 src m vs) (hb : BL vs l) : Gives P n D E M ⟨d, .convert T T' x, ty, pos, aft, gd⟩ (S l) := by
  rw [hb.eq] at hsrc; exact g_b2s hx hsrc
theorem c_bs {T el : TypeId} {len : Nat} {ps : List (Nat × Operand)} {qs : List (Nat × List Value)} {desc : TypeDesc} {size bytes size' bytes' : Nat} {zero zero' : Value} {zs cs : List Value} {dd : Nat} [TI P T (.slice el) size' bytes' zero'] [TI P el desc size bytes zero] (hz : zero.cells = zs.toArray)
    (hsz : Nat.beq zs.length size = true) (hsm : Nat.ble (len * size) 16777216 = true) (hlt : Nat.blt dd n = true) (he : evc E ps qs) (hf : LF (bplace size) (zerosL zs len) qs cs)
    (k : ∀ b, Nx n D ((dd, .slice (some ⟨b, 0, none⟩) len len) :: E) B G (.blk b (.cells cs.toArray el (0, 0)) :: L) K) : Nx n D E B G L (ow P ⟨some dd, .buildSlice T len ps.toArray, ty, pos, aft, gd⟩ Q K) :=
  c_buildSlice hz hsz he hf.fill hsm hlt k
theorem g_bd {T : TypeId} {ps : List (Nat × Operand)} {qs : List (Nat × List Value)} {places : List (Nat × Nat)} {zs cs : List Value} [h : BT P T places zs] (he : evc E ps qs) (hf : LF (fun i => places[i]?) zs qs cs) :
    Gives P n D E M ⟨d, .build T ps.toArray, ty, pos, aft, gd⟩ (Ag cs) := g_build he hf.fill
end
end Go.E
/-! EngG -/
namespace Go.E
/-! ### Lists that come out clean -/
def clean : List Value → Option (List Value)
  | [] => some []
  | x :: r => match clean r with | some l => some (x :: l) | none => none
theorem clean_eq : ∀ {l l' : List Value}, clean l = some l' → l = l'
  | [], l', h => by simpa [clean] using h
  | x :: r, l', h => by
    unfold clean at h
    cases hr : clean r with
    | none => rw [hr] at h; cases h
    | some l => rw [hr] at h; simp only [Option.some.injEq] at h; rw [← h, clean_eq hr]
def cleanO : Option (List Value) → Option (List Value)
  | some l => clean l
  | none => none
theorem cleanO_eq {o : Option (List Value)} {l : List Value} (h : cleanO o = some l) : o = some l := by
  cases o with
  | none => cases h
  | some x => rw [clean_eq h]
def cellsC : Value → Option (List Value)
  | .agg cs => clean cs.toList
  | v => some [v]
theorem cellsC_eq {v : Value} {l : List Value} (h : cellsC v = some l) : v.cells = l.toArray := by
  unfold cellsC at h
  split at h
  · rename_i cs; rw [← clean_eq h]; simp [Value.cells]
  · rename_i hv; simp only [Option.some.injEq] at h; subst h; unfold Value.cells; split
    · rename_i cs; exact absurd rfl (hv cs)
    · rfl
def evF (E : Env) : List (Nat × Operand) → Option (List (Nat × List Value))
  | [] => some []
  | (i, x) :: r => match ev E x with
    | none => none
    | some v => match cellsC v with
      | none => none
      | some vc => match evF E r with
        | none => none
        | some s => some ((i, vc) :: s)
theorem evF_eq {E : Env} : ∀ {ps : List (Nat × Operand)} {qs : List (Nat × List Value)}, evF E ps = some qs → evc E ps qs
  | [], qs, h => by simp only [evF, Option.some.injEq] at h; subst h; trivial
  | (i, x) :: r, qs, h => by
    unfold evF at h
    cases hx : ev E x with
    | none => rw [hx] at h; cases h
    | some v =>
      cases hv : cellsC v with
      | none => simp only [hx, hv] at h; cases h
      | some vc =>
        cases hr : evF E r with
        | none => simp only [hx, hv, hr] at h; cases h
        | some s =>
          simp only [hx, hv, hr, Option.some.injEq] at h
          subst h
          exact ⟨rfl, ⟨v, hx, cellsC_eq hv⟩, evF_eq hr⟩
def putC : List Value → Nat → List Value → Option (List Value)
  | cs, 0, [] => some cs
  | _ :: cs, 0, v :: vs => match putC cs 0 vs with | some r => some (v :: r) | none => none
  | x :: cs, n + 1, v :: vs => match putC cs n (v :: vs) with | some r => some (x :: r) | none => none
  | _, _, _ => none
theorem putC_eq : ∀ {cs : List Value} {o : Nat} {vs cs' : List Value}, putC cs o vs = some cs' → PutsR cs o vs cs'
  | cs, 0, [], cs', h => by simp only [putC, Option.some.injEq] at h; subst h; exact .nil
  | _ :: cs, 0, v :: vs, cs', h => by
    unfold putC at h
    cases hr : putC cs 0 vs with
    | none => rw [hr] at h; cases h
    | some r => rw [hr] at h; simp only [Option.some.injEq] at h; subst h; exact .here (putC_eq hr)
  | _ :: cs, n + 1, v :: vs, cs', h => by
    unfold putC at h
    cases hr : putC cs n (v :: vs) with
    | none => rw [hr] at h; cases h
    | some r => rw [hr] at h; simp only [Option.some.injEq] at h; subst h; exact .there (putC_eq hr)
  | [], n + 1, v :: vs, cs', h => by simp [putC] at h
  | [], 0, v :: vs, cs', h => by simp [putC] at h
  | cs, n + 1, [], cs', h => by cases cs <;> simp [putC] at h

/-! ### Search -/
class BlkI (L : List Own) (b : Nat) (cs : outParam (List Value)) (T0 : outParam TypeId) (fr : outParam (Nat × Nat)) : Prop where
  mem : Own.blk b (.cells cs.toArray T0 fr) ∈ L
instance {b cs T0 fr r} : BlkI (.blk b (.cells (List.toArray cs) T0 fr) :: r) b cs T0 fr := ⟨.head _⟩
instance {b cs T0 fr z r} [h : BlkI r b cs T0 fr] : BlkI (z :: r) b cs T0 fr := ⟨.tail _ h.mem⟩
class AccI (L : List Own) (v : Value) (T : outParam TypeId) (sz m : outParam Nat) (xs : outParam (List Value)) (L' : outParam (List Own)) : Prop where
  del : Del (.acc v T sz m xs) L L'
instance {v T sz m xs r} : AccI (.acc v T sz m xs :: r) v T sz m xs r := ⟨.here⟩
instance {v T sz m xs z r r'} [h : AccI r v T sz m xs r'] : AccI (z :: r) v T sz m xs (z :: r') := ⟨.there h.del⟩
class UpdI (b : Nat) (cs' : List Value) (L : List Own) (cs : outParam (List Value)) (T0 : outParam TypeId) (L' : outParam (List Own)) : Prop where
  upd : UpdO (.blk b (.cells cs.toArray T0 (0, 0))) (.blk b (.cells cs'.toArray T0 (0, 0))) L L'
instance {b cs T0 cs' r} : UpdI b cs' (.blk b (.cells (List.toArray cs) T0 (0, 0)) :: r) cs T0 (.blk b (.cells (List.toArray cs') T0 (0, 0)) :: r) := ⟨.here⟩
instance {b cs T0 cs' z r r'} [h : UpdI b cs' r cs T0 r'] : UpdI b cs' (z :: r) cs T0 (z :: r') := ⟨.there h.upd⟩

section
variable {B : Base} {G : Gh} {L : List Own} {K : Act → World → Prop} {Q : Exit → Act → World → Prop}
variable {P : Program} {n : Nat} {D : List Deferred} {E : Env} {M : World → Prop} {d : Option Nat} {ty : TypeId} {pos : String} {aft : Array Edge} {gd : Option (Nat × Bool)} {dd : Nat}

theorem c_al {T : TypeId} {desc : TypeDesc} {size bytes : Nat} {zero : Value} {cs : List Value} [TI P T desc size bytes zero] (hz : cellsC zero = some cs) (hlt : Nat.blt dd n = true)
    (k : ∀ b, Nx n D ((dd, Pt b 0) :: E) B G (.blk b (.cells cs.toArray T (0, 0)) :: L) K) : Nx n D E B G L (ow P ⟨some dd, .alloc T, ty, pos, aft, gd⟩ Q K) := c_alloc (cellsC_eq hz) hlt k
theorem c_bx {T : TypeId} {x : Operand} {v : Value} {cs : List Value} (hx : ev E x = some v) (hz : cellsC v = some cs) (hlt : Nat.blt dd n = true)
    (k : ∀ b, Nx n D ((dd, Pt b 0) :: E) B G (.blk b (.cells cs.toArray T (0, 0)) :: L) K) : Nx n D E B G L (ow P ⟨some dd, .box T x, ty, pos, aft, gd⟩ Q K) := c_box hx (cellsC_eq hz) hlt k
theorem c_st1 {T T0 : TypeId} {x y : Operand} {desc : TypeDesc} {bytes : Nat} {zero v : Value} {b o : Nat} {cs cs' : List Value} {fr : Nat × Nat} {L' : List Own} [TI P T desc 1 bytes zero] [BlkI L b cs T0 fr] [hu : UpdI b cs' L cs T0 L'] (hx : ev E x = some (Pt b o)) (hy : ev E y = some v) (h1 : v.oneCell' = true)
    (hp : putC cs o [v] = some cs')
    (k : Nx n D E B G L' K) : Nx n D E B G L (ow P ⟨none, .store T x y, ty, pos, aft, gd⟩ Q K) := c_store1 hx hy h1 hu.upd (putC_eq hp) k
theorem c_stA {T T0 : TypeId} {x y : Operand} {desc : TypeDesc} {size bytes : Nat} {zero : Value} {b o : Nat} {cs vs cs' : List Value} {fr : Nat × Nat} {L' : List Own} [TI P T desc size bytes zero] [BlkI L b cs T0 fr] [hu : UpdI b cs' L cs T0 L'] (hx : ev E x = some (Pt b o)) (hy : ev E y = some (Ag vs)) (hl : Nat.beq vs.length size = true) (hne : vs.isEmpty = false) (h1 : all1 vs = true)
    (hp : putC cs o vs = some cs')
    (k : Nx n D E B G L' K) : Nx n D E B G L (ow P ⟨none, .store T x y, ty, pos, aft, gd⟩ Q K) := c_store hx hy rfl hl hne h1 hu.upd (putC_eq hp) k
theorem c_bsl {T el : TypeId} {len : Nat} {ps : List (Nat × Operand)} {qs : List (Nat × List Value)} {desc : TypeDesc} {size bytes size' bytes' : Nat} {zero zero' : Value} {zs cs : List Value} [TI P T (.slice el) size' bytes' zero'] [TI P el desc size bytes zero] (hz : cellsC zero = some zs)
    (hsz : Nat.beq zs.length size = true) (hsm : Nat.ble (len * size) 16777216 = true) (hlt : Nat.blt dd n = true) (he : evF E ps = some qs) (hf : cleanO (lfill (bplace size) (zerosL zs len) qs) = some cs)
    (k : ∀ b, Nx n D ((dd, .slice (some ⟨b, 0, none⟩) len len) :: E) B G (.blk b (.cells cs.toArray el (0, 0)) :: L) K) : Nx n D E B G L (ow P ⟨some dd, .buildSlice T len ps.toArray, ty, pos, aft, gd⟩ Q K) :=
  c_buildSlice (cellsC_eq hz) hsz (evF_eq he) (cleanO_eq hf) hsm hlt k
theorem g_bld {T : TypeId} {ps : List (Nat × Operand)} {qs : List (Nat × List Value)} {places : List (Nat × Nat)} {zs cs : List Value} [h : BT P T places zs] (he : evF E ps = some qs) (hf : cleanO (lfill (fun i => places[i]?) zs qs) = some cs) :
    Gives P n D E M ⟨d, .build T ps.toArray, ty, pos, aft, gd⟩ (Ag cs) := g_build (evF_eq he) (cleanO_eq hf)

/-! Reading -/
theorem g_ld {T T0 : TypeId} {x : Operand} {desc : TypeDesc} {size bytes : Nat} {zero : Value} {b o : Nat} {v : Value} {G0 : Gh} {L0 : List Own} {cs : List Value} {fr : Nat × Nat} [TI P T desc size bytes zero] [Kn M G0 L0] [h : BlkI L0 b cs T0 fr] (hx : ev E x = some (Pt b o)) (ha : aggD desc = false) (hc : cs[o]? = some v) :
    Gives P n D E M ⟨d, .load T x, ty, pos, aft, gd⟩ v := g_load hx ha (by have := (cells_own (S := M) h.mem).go o v hc; simpa using this)
def takeC (cs : List Value) (o k : Nat) : Option (List Value) := clean ((cs.drop o).take k)
theorem CellsOf.take {S : World → Prop} {b o k o' : Nat} {cs vs : List Value} (h : CellsOf S b o cs) (e : takeC cs o' k = some vs) : CellsOf S b (o + o') vs := CellsOf.mk fun i u hu => by
  have e1 := clean_eq e
  subst e1
  have hi : i < k := by
    rcases Nat.lt_or_ge i k with h1 | h1
    · exact h1
    · rw [List.getElem?_take] at hu; simp [Nat.not_lt.2 h1] at hu
  rw [List.getElem?_take_of_lt hi, List.getElem?_drop] at hu
  have := h.go (o' + i) u hu
  rwa [← Nat.add_assoc] at this
theorem g_ldA {T T0 : TypeId} {x : Operand} {desc : TypeDesc} {size bytes : Nat} {zero : Value} {b o : Nat} {vs : List Value} {G0 : Gh} {L0 : List Own} {cs : List Value} {fr : Nat × Nat} [TI P T desc size bytes zero] [Kn M G0 L0] [h : BlkI L0 b cs T0 fr] (hx : ev E x = some (Pt b o)) (ha : aggD desc = true) (hc : takeC cs o size = some vs) (hl : Nat.beq vs.length size = true) :
    Gives P n D E M ⟨d, .load T x, ty, pos, aft, gd⟩ (Ag vs) := g_loadA hx ha (Nat.eq_of_beq_eq_true hl) (by have := (cells_own (S := M) h.mem).take hc; simpa using this)
theorem g_ldS {T : TypeId} {x : Operand} {desc : TypeDesc} {size bytes : Nat} {zero : Value} {b o o' i : Nat} {v : Value} {G0 : Gh} {L0 : List Own} {cs : List Value} [TI P T desc size bytes zero] [Kn M G0 L0] (hx : ev E x = some (Pt b o)) (ha : aggD desc = false) (hs : Seg G0 b o' cs) (ho : o = o' + i) (hc : cs[i]? = some v) :
    Gives P n D E M ⟨d, .load T x, ty, pos, aft, gd⟩ v := g_load hx ha (by subst ho; exact (cells_seg hs).go i v hc)
theorem g_ldSA {T : TypeId} {x : Operand} {desc : TypeDesc} {size bytes : Nat} {zero : Value} {b o o' i : Nat} {vs : List Value} {G0 : Gh} {L0 : List Own} {cs : List Value} [TI P T desc size bytes zero] [Kn M G0 L0] (hx : ev E x = some (Pt b o)) (ha : aggD desc = true) (hs : Seg G0 b o' cs) (ho : o = o' + i) (hc : takeC cs i size = some vs) (hl : Nat.beq vs.length size = true) :
    Gives P n D E M ⟨d, .load T x, ty, pos, aft, gd⟩ (Ag vs) := g_loadA hx ha (Nat.eq_of_beq_eq_true hl) (by subst ho; exact (cells_seg hs).take hc)
theorem g_lnA {x : Operand} {T el : TypeId} {size bytes : Nat} {zero v : Value} {sz m : Nat} {xs : List Value} {G0 : Gh} {L0 L1 : List Own} [TI P T (.slice el) size bytes zero] [Kn M G0 L0] [h : AccI L0 v el sz m xs L1] (hx : ev E x = some v) :
    Gives P n D E M ⟨d, .call ⟨.builtin .len, [x].toArray, [T].toArray⟩, ty, pos, aft, gd⟩ (I m) := g_lenA (P := P) (G0 := G0) (T := T) (el := el) (size := size) (bytes := bytes) (zero := zero) hx h.del.mem
/-! Bytes to strings -/
theorem g_bsB {x : Operand} {T T' el T0 : TypeId} {s1 b1 s2 b2 s3 b3 b m c : Nat} {z1 z2 z3 : Value} {l : List UInt8} {G0 : Gh} {L0 : List Own} {cs : List Value} {fr : Nat × Nat} [TI P T (.slice el) s1 b1 z1] [TI P T' .string s2 b2 z2] [TI P el (.int .u8) s3 b3 z3] [Kn M G0 L0] [h : BlkI L0 b cs T0 fr]
    (hx : ev E x = some (.slice (some ⟨b, 0, none⟩) m c)) (hl : Nat.beq cs.length (m * 1) = true) (hb : BL cs l) : Gives P n D E M ⟨d, .convert T T' x, ty, pos, aft, gd⟩ (S l) :=
  g_b2sL (s1 := s1) (b1 := b1) (z1 := z1) (s2 := s2) (b2 := b2) (z2 := z2) (s3 := s3) (b3 := b3) (z3 := z3) (el := el) hx (src_cells hl (cells_own h.mem)) hb
theorem g_bsA {x : Operand} {T T' el : TypeId} {s1 b1 s2 b2 s3 b3 m : Nat} {z1 z2 z3 v : Value} {l : List UInt8} {G0 : Gh} {L0 L1 : List Own} {xs : List Value} [TI P T (.slice el) s1 b1 z1] [TI P T' .string s2 b2 z2] [TI P el (.int .u8) s3 b3 z3] [kn : Kn M G0 L0] [h : AccI L0 v el 1 m xs L1]
    (hx : ev E x = some v) (hb : BL xs l) : Gives P n D E M ⟨d, .convert T T' x, ty, pos, aft, gd⟩ (S l) := Gives.mk fun a w hs hw => by
  obtain ⟨B, G, L, _, hL, hst⟩ := kn.kn w hw
  obtain ⟨h1, h2⟩ : AccAt w v el 1 m xs := hst.own _ (hL _ h.del.mem)
  refine (g_b2sL (P := P) (s1 := s1) (b1 := b1) (z1 := z1) (s2 := s2) (b2 := b2) (z2 := z2) (s3 := s3) (b3 := b3) (z3 := z3) (el := el) hx (src_acc h.del.mem ?_ h1) hb).go a w hs hw
  rcases h2 with h2 | ⟨b', cap', rest, rfl, h3, _⟩
  · exact .inl h2
  · exact .inr ⟨b', cap', rfl, h3⟩
theorem g_bsN {x : Operand} {T T' el : TypeId} {s1 b1 s2 b2 s3 b3 : Nat} {z1 z2 z3 : Value} [TI P T (.slice el) s1 b1 z1] [TI P T' .string s2 b2 z2] [TI P el (.int .u8) s3 b3 z3]
    (hx : ev E x = some nilS) : Gives P n D E M ⟨d, .convert T T' x, ty, pos, aft, gd⟩ (S []) :=
  g_b2sL (s1 := s1) (b1 := b1) (z1 := z1) (s2 := s2) (b2 := b2) (z2 := z2) (s3 := s3) (b3 := b3) (z3 := z3) (el := el) hx src_nil .nil
/-! Appending -/
theorem c_apB {v : Value} {m k b c : Nat} {s x : Operand} {T el T0 : TypeId} {desc : TypeDesc} {size bytes s1 b1 : Nat} {z1 zero : Value} {zs xs news : List Value} {fr : Nat × Nat} {L' : List Own} [TI P T (.slice el) s1 b1 z1] [TI P el desc size bytes zero] [ha : AccI L v el size m xs L'] [hb' : BlkI L b news T0 fr]
    (hs : ev E s = some v) (hx : ev E x = some (.slice (some ⟨b, 0, none⟩) k c)) (hl : Nat.beq news.length (k * size) = true) (h1 : all1 news = true)
    (hz : cellsC zero = some zs) (hzl : Nat.beq zs.length size = true) (hb0 : Nat.beq bytes 0 = false) (hlt : Nat.blt dd n = true) (hb : (2 * (m + k) + 768) * bytes ≤ 281474976710656)
    (kk : ∀ v', Nx n D ((dd, v') :: E) B G (.acc v' el size (m + k) (xs ++ news) :: L') K) :
    Nx n D E B G L (ow P ⟨some dd, .call ⟨.builtin .append, [s, x].toArray, [T, T].toArray⟩, ty, pos, aft, gd⟩ Q K) :=
  c_append hs hx ha.del (src_cells hl (cells_own hb'.mem)) h1 (cellsC_eq hz) hzl hb0 hb hlt kk
theorem c_ap0B {k b c : Nat} {s x : Operand} {T el T0 : TypeId} {desc : TypeDesc} {size bytes s1 b1 : Nat} {z1 zero : Value} {zs news : List Value} {fr : Nat × Nat} [TI P T (.slice el) s1 b1 z1] [TI P el desc size bytes zero] [hb' : BlkI L b news T0 fr]
    (hs : ev E s = some nilS) (hx : ev E x = some (.slice (some ⟨b, 0, none⟩) k c)) (hl : Nat.beq news.length (k * size) = true) (h1 : all1 news = true)
    (hz : cellsC zero = some zs) (hzl : Nat.beq zs.length size = true) (hb0 : Nat.beq bytes 0 = false) (hlt : Nat.blt dd n = true) (hb : (2 * k + 768) * bytes ≤ 281474976710656)
    (kk : ∀ v', Nx n D ((dd, v') :: E) B G (.acc v' el size k news :: L) K) :
    Nx n D E B G L (ow P ⟨some dd, .call ⟨.builtin .append, [s, x].toArray, [T, T].toArray⟩, ty, pos, aft, gd⟩ Q K) :=
  c_append0 hs hx (src_cells hl (cells_own hb'.mem)) h1 (cellsC_eq hz) hzl hb0 hb hlt kk
theorem c_apV {v src : Value} {m k sz : Nat} {s x : Operand} {T el : TypeId} {desc : TypeDesc} {size bytes s1 b1 : Nat} {z1 zero : Value} {zs xs news : List Value} {L' : List Own} [TI P T (.slice el) s1 b1 z1] [TI P el desc size bytes zero] [ha : AccI L v el size m xs L']
    (hs : ev E s = some v) (hx : ev E x = some src) (hsrc : SlV G src sz k news) (he : Nat.beq sz size = true) (h1 : all1 news = true)
    (hz : cellsC zero = some zs) (hzl : Nat.beq zs.length size = true) (hb0 : Nat.beq bytes 0 = false) (hlt : Nat.blt dd n = true) (hb : (2 * (m + k) + 768) * bytes ≤ 281474976710656)
    (kk : ∀ v', Nx n D ((dd, v') :: E) B G (.acc v' el size (m + k) (xs ++ news) :: L') K) :
    Nx n D E B G L (ow P ⟨some dd, .call ⟨.builtin .append, [s, x].toArray, [T, T].toArray⟩, ty, pos, aft, gd⟩ Q K) := by
  have := Nat.eq_of_beq_eq_true he; subst this
  exact c_append hs hx ha.del hsrc.src h1 (cellsC_eq hz) hzl hb0 hb hlt kk
end
end Go.E
/-! EngH -/
namespace Go.E
/-- What kinds of types there are (a bit a type), and where fields lie. -/
structure Tbl where
  mi : Nat
  mu : Nat
  mb : Nat
  ms : Nat
  mp : Nat
  fl : List (Nat × List (Bool × Nat × Nat))
def fieldOf : List (Nat × List (Bool × Nat × Nat)) → Nat → Nat → Option (Bool × Nat × Nat)
  | [], _, _ => none
  | (T, fs) :: r, U, f => match Nat.beq T U with
    | true => fs[f]?
    | false => fieldOf r U f
class Tab (P : Program) (t : Tbl) : Prop where
  hi : ∀ T, t.mi.testBit T = true → ∃ s b z, TI P T (.int .i64) s b z
  hu : ∀ T, t.mu.testBit T = true → ∃ s b z, TI P T (.int .u8) s b z
  hb : ∀ T, t.mb.testBit T = true → ∃ s b z, TI P T .bool s b z
  hs : ∀ T, t.ms.testBit T = true → ∃ s b z, TI P T .string s b z
  hp : ∀ T, t.mp.testBit T = true → ∃ e s b z, TI P T (.pointer e) s b z
  hf : ∀ T f a o s, fieldOf t.fl T f = some (a, o, s) → FV P T f a o s ∧ FA P T f o
def isD (P : Program) (ok : TypeDesc → Bool) (T : Nat) : Bool :=
  match P.underlying T with
  | some d => match P.info? T with
    | some i => match i.zero with
      | some _ => ok d
      | none => false
    | none => false
  | none => false
theorem isD_spec {P : Program} {ok : TypeDesc → Bool} {T : Nat} (h : isD P ok T = true) : ∃ d s b z, ok d = true ∧ TI P T d s b z := by
  unfold isD at h
  cases hu : P.underlying T with
  | none => rw [hu] at h; cases h
  | some d =>
    cases hi : P.info? T with
    | none => rw [hu, hi] at h; cases h
    | some i =>
      cases hz : i.zero with
      | none => simp only [hu, hi, hz] at h; cases h
      | some z => simp only [hu, hi, hz] at h; exact ⟨d, i.size, i.bytes, z, h, hu, i, hi, rfl, rfl, hz⟩
def mOk (P : Program) (m : Nat) (ok : TypeDesc → Bool) (N : Nat) : Bool := Nat.blt m (2 ^ N) && (List.range N).all fun T => !m.testBit T || isD P ok T
theorem mOk_spec {P : Program} {m N : Nat} {ok : TypeDesc → Bool} (h : mOk P m ok N = true) (T : Nat) (hT : m.testBit T = true) : ∃ d s b z, ok d = true ∧ TI P T d s b z := by
  simp only [mOk, Bool.and_eq_true, List.all_eq_true, List.mem_range, Bool.or_eq_true, Bool.not_eq_true'] at h
  have hlt : T < N := by
    rcases Nat.lt_or_ge T N with h1 | h1
    · exact h1
    · have : m < 2 ^ T := Nat.lt_of_lt_of_le (by simpa using h.1) (Nat.pow_le_pow_right (by decide) h1)
      rw [Nat.testBit_lt_two_pow this] at hT; cases hT
  rcases h.2 T hlt with h1 | h1
  · rw [h1] at hT; cases hT
  · exact isD_spec h1
def okI : TypeDesc → Bool | .int .i64 => true | _ => false
def okU : TypeDesc → Bool | .int .u8 => true | _ => false
def okB : TypeDesc → Bool | .bool => true | _ => false
def okS : TypeDesc → Bool | .string => true | _ => false
def okP : TypeDesc → Bool | .pointer _ => true | _ => false
def fsOk (P : Program) (T : Nat) : Nat → List (Bool × Nat × Nat) → Prop
  | _, [] => True
  | k, (a, o, s) :: r => (FV P T k a o s ∧ FA P T k o) ∧ fsOk P T (k + 1) r
def flOk (P : Program) : List (Nat × List (Bool × Nat × Nat)) → Prop
  | [] => True
  | (T, fs) :: r => fsOk P T 0 fs ∧ flOk P r
theorem fsOk_spec {P : Program} {T : Nat} : ∀ (fs : List (Bool × Nat × Nat)) (k f : Nat) {a o s}, fsOk P T k fs → fs[f]? = some (a, o, s) → FV P T (k + f) a o s ∧ FA P T (k + f) o
  | [], _, _, _, _, _, _, h => by simp at h
  | (a, o, s) :: r, k, 0, _, _, _, h, e => by
    simp only [List.getElem?_cons_zero, Option.some.injEq, Prod.mk.injEq] at e
    obtain ⟨rfl, rfl, rfl⟩ := e; exact h.1
  | _ :: r, k, f + 1, _, _, _, h, e => by
    have := fsOk_spec r (k + 1) f h.2 (by simpa using e)
    rwa [Nat.add_assoc, Nat.add_comm 1 f] at this
theorem flOk_spec {P : Program} : ∀ (fl : List (Nat × List (Bool × Nat × Nat))) (T f : Nat) {a o s}, flOk P fl → fieldOf fl T f = some (a, o, s) → FV P T f a o s ∧ FA P T f o
  | [], _, _, _, _, _, _, e => by simp [fieldOf] at e
  | (U, fs) :: r, T, f, _, _, _, h, e => by
    unfold fieldOf at e
    cases hb : Nat.beq U T with
    | true => rw [hb] at e; have := Nat.eq_of_beq_eq_true hb; subst this; have h2 := fsOk_spec fs 0 f h.1 e; rwa [Nat.zero_add] at h2
    | false => rw [hb] at e; exact flOk_spec r T f h.2 e
theorem Tab.mk' {P : Program} {t : Tbl} (N : Nat) (h1 : mOk P t.mi okI N = true) (h2 : mOk P t.mu okU N = true) (h3 : mOk P t.mb okB N = true) (h4 : mOk P t.ms okS N = true) (h5 : mOk P t.mp okP N = true) (h6 : flOk P t.fl) : Tab P t where
  hi T hT := by
    obtain ⟨d, s, b, z, h, h'⟩ := mOk_spec h1 T hT
    unfold okI at h; split at h; exact ⟨s, b, z, h'⟩; cases h
  hu T hT := by
    obtain ⟨d, s, b, z, h, h'⟩ := mOk_spec h2 T hT
    unfold okU at h; split at h; exact ⟨s, b, z, h'⟩; cases h
  hb T hT := by
    obtain ⟨d, s, b, z, h, h'⟩ := mOk_spec h3 T hT
    unfold okB at h; split at h; exact ⟨s, b, z, h'⟩; cases h
  hs T hT := by
    obtain ⟨d, s, b, z, h, h'⟩ := mOk_spec h4 T hT
    unfold okS at h; split at h; exact ⟨s, b, z, h'⟩; cases h
  hp T hT := by
    obtain ⟨d, s, b, z, h, h'⟩ := mOk_spec h5 T hT
    unfold okP at h; split at h; exact ⟨_, s, b, z, h'⟩; cases h
  hf T f a o s h := flOk_spec t.fl T f h6 h

/-! ### One operation -/
def evI (op : BinOp) (a b : Int) : Option (Value × Option Prop) :=
  match op with
  | .add => some (I (a + b), some (-9223372036854775808 ≤ a + b ∧ a + b ≤ 9223372036854775807))
  | .sub => some (I (a - b), some (-9223372036854775808 ≤ a - b ∧ a - b ≤ 9223372036854775807))
  | .mul => some (I (a * b), some (-9223372036854775808 ≤ a * b ∧ a * b ≤ 9223372036854775807))
  | .rem => some (I (a % b), some (0 ≤ a ∧ 0 < b))
  | .quo => some (I (a / b), some (0 ≤ a ∧ 0 < b ∧ a ≤ 9223372036854775807))
  | .eql => some (Bo (decide (a = b)), none)
  | .neq => some (Bo (decide (a ≠ b)), none)
  | .lss => some (Bo (decide (a < b)), none)
  | .leq => some (Bo (decide (a ≤ b)), none)
  | .gtr => some (Bo (decide (b < a)), none)
  | .geq => some (Bo (decide (b ≤ a)), none)
  | _ => none
def evU (op : BinOp) (a b : Int) : Option (Value × Option Prop) :=
  match op with
  | .add => some (U8 (a + b), some (0 ≤ a + b ∧ a + b ≤ 255))
  | .sub => some (U8 (a - b), some (0 ≤ a - b ∧ a - b ≤ 255))
  | .eql => some (Bo (decide (a = b)), none)
  | .neq => some (Bo (decide (a ≠ b)), none)
  | .lss => some (Bo (decide (a < b)), none)
  | .leq => some (Bo (decide (a ≤ b)), none)
  | .gtr => some (Bo (decide (b < a)), none)
  | .geq => some (Bo (decide (b ≤ a)), none)
  | _ => none
def evS (op : BinOp) (a b : List UInt8) : Option (Value × Option Prop) :=
  match op with
  | .add => some (S (a ++ b), some (a.length + b.length ≤ 9223372036854775807))
  | .eql => some (Bo (decide (a = b)), none)
  | .neq => some (Bo (decide (a ≠ b)), none)
  | .lss => some (Bo (Op.bytesLess a b), none)
  | .geq => some (Bo (!Op.bytesLess a b), none)
  | .gtr => some (Bo (!(Op.bytesLess a b || decide (a = b))), none)
  | _ => none
def evB (op : BinOp) (a b : Bool) : Option (Value × Option Prop) :=
  match op with
  | .eql => some (Bo (decide (a = b)), none)
  | .neq => some (Bo (decide (a ≠ b)), none)
  | _ => none
def evOp (t : Tbl) (E : Env) : Op → Option (Value × Option Prop)
  | .move x => match ev E x with
    | some v => some (v, none)
    | none => none
  | .assign x => match ev E x with
    | some v => some (v, none)
    | none => none
  | .extract x i => match ev E x with
    | some (.tuple ⟨vs⟩) => match vs[i]? with
      | some v => some (v, none)
      | none => none
    | _ => none
  | .nilCheck x => match ev E x with
    | some (.pointer (some p)) => some (.pointer (some p), none)
    | _ => none
  | .fieldAddr T x f => match ev E x with
    | some (.pointer (some ⟨b, o, none⟩)) => match fieldOf t.fl T f with
      | some (_, off, _) => some (Pt b (o + off), none)
      | none => none
    | _ => none
  | .field T x f => match ev E x with
    | some (.agg ⟨cs⟩) => match fieldOf t.fl T f with
      | some (true, off, sz) => match takeC cs off sz with
        | some vs => some (Ag vs, none)
        | none => none
      | some (false, off, _) => match cs[off]? with
        | some v => some (v, none)
        | none => none
      | none => none
    | _ => none
  | .index T x i => match t.ms.testBit T with
    | true => match ev E x with
      | some (.string ⟨⟨l⟩⟩) => match ev E i with
        | some (.int _ m) => some (U8 (bt l m.toNat), some (0 ≤ m ∧ m < l.length))
        | _ => none
      | _ => none
    | false => none
  | .slice T x lo hi mx => match t.ms.testBit T with
    | true => match ev E x with
      | some (.string ⟨⟨l⟩⟩) => match lo, hi, mx with
        | some a, none, none => match ev E a with
          | some (.int _ m) => some (S (l.drop m.toNat), some (0 ≤ m ∧ m ≤ l.length))
          | _ => none
        | none, some b, none => match ev E b with
          | some (.int _ m) => some (S (l.take m.toNat), some (0 ≤ m ∧ m ≤ l.length))
          | _ => none
        | some a, some b, none => match ev E a with
          | some (.int _ m) => match ev E b with
            | some (.int _ m') => some (S ((l.take m'.toNat).drop m.toNat), some ((0 ≤ m ∧ m ≤ m') ∧ 0 ≤ m' ∧ m' ≤ l.length))
            | _ => none
          | _ => none
        | _, _, _ => none
      | _ => none
    | false => none
  | .binOp op T x y _ => match ev E x with
    | some (.int .i64 a) => match ev E y with
      | some (.int .i64 b) => evI op a b
      | _ => none
    | some (.int .u8 a) => match ev E y with
      | some (.int .u8 b) => evU op a b
      | _ => none
    | some (.string ⟨⟨a⟩⟩) => match ev E y with
      | some (.string ⟨⟨b⟩⟩) => evS op a b
      | _ => none
    | some (.bool a) => match t.mb.testBit T with
      | true => match ev E y with
        | some (.bool b) => evB op a b
        | _ => none
      | false => none
    | _ => none
  | .unOp op _ x => match op with
    | .not => match ev E x with
      | some (.bool b) => some (Bo (!b), none)
      | _ => none
    | .neg => match ev E x with
      | some (.int .i64 a) => some (I (-a), some (-9223372036854775808 ≤ 0 - a ∧ 0 - a ≤ 9223372036854775807))
      | _ => none
    | _ => none
  | .convert T T' x => match t.mu.testBit T, t.mi.testBit T' with
    | true, true => match ev E x with
      | some (.int .u8 a) => some (I a, some (-9223372036854775808 ≤ a ∧ a ≤ 9223372036854775807))
      | _ => none
    | _, _ => match t.mi.testBit T, t.mu.testBit T' with
      | true, true => match ev E x with
        | some (.int .i64 a) => some (U8 (u8 a).toNat, none)
        | _ => none
      | _, _ => none
  | .call ⟨.builtin .len, ⟨[x]⟩, ⟨[T]⟩⟩ => match t.ms.testBit T with
    | true => match ev E x with
      | some (.string ⟨⟨l⟩⟩) => some (I l.length, none)
      | _ => none
    | false => none
  | _ => none
@[reducible] def holdsO : Option Prop → Prop
  | none => True
  | some p => p

section
variable {P : Program} {n : Nat} {D : List Deferred} {E : Env} {M : World → Prop} {d : Option Nat} {ty : TypeId} {pos : String} {aft : Array Edge} {gd : Option (Nat × Bool)}
theorem evI_ok {op : BinOp} {T T' : TypeId} {x y : Operand} {a b : Int} {v : Value} {c : Option Prop} (h : evI op a b = some (v, c)) (hc : holdsO c) (hx : ev E x = some (I a)) (hy : ev E y = some (I b)) :
    Gives P n D E M ⟨d, .binOp op T x y T', ty, pos, aft, gd⟩ v := by
  cases op <;> simp only [evI, Option.some.injEq, Prod.mk.injEq, reduceCtorEq] at h <;> obtain ⟨rfl, rfl⟩ := h
  · exact g_add hx hy hc
  · exact g_sub hx hy hc
  · exact g_mul hx hy hc
  · exact g_quo hx hy hc
  · exact g_rem hx hy hc
  · exact g_eql hx hy
  · exact g_neq hx hy
  · exact g_lss hx hy
  · exact g_leq hx hy
  · exact g_gtr hx hy
  · exact g_geq hx hy
theorem wrap_u8 {a : Int} (h : 0 ≤ a ∧ a ≤ 255) : IntKind.u8.wrap a = a := by rw [u8_wrap, u8_val h]
theorem evU_ok {op : BinOp} {T T' : TypeId} {x y : Operand} {a b : Int} {v : Value} {c : Option Prop} (h : evU op a b = some (v, c)) (hc : holdsO c) (hx : ev E x = some (U8 a)) (hy : ev E y = some (U8 b)) :
    Gives P n D E M ⟨d, .binOp op T x y T', ty, pos, aft, gd⟩ v := by
  cases op <;> simp only [evU, Option.some.injEq, Prod.mk.injEq, reduceCtorEq] at h <;> obtain ⟨rfl, rfl⟩ := h
  · rw [← wrap_u8 hc]; exact g_addK hx hy
  · rw [← wrap_u8 hc]; exact g_subK hx hy
  · exact g_eql hx hy
  · exact g_neq hx hy
  · exact g_lss hx hy
  · exact g_leq hx hy
  · exact g_gtr hx hy
  · exact g_geq hx hy
theorem evS_ok {op : BinOp} {T T' : TypeId} {x y : Operand} {a b : List UInt8} {v : Value} {c : Option Prop} (h : evS op a b = some (v, c)) (hc : holdsO c) (hx : ev E x = some (S a)) (hy : ev E y = some (S b)) :
    Gives P n D E M ⟨d, .binOp op T x y T', ty, pos, aft, gd⟩ v := by
  cases op <;> simp only [evS, Option.some.injEq, Prod.mk.injEq, reduceCtorEq] at h <;> obtain ⟨rfl, rfl⟩ := h
  · exact g_sadd hx hy hc
  · exact g_seql hx hy
  · exact g_sneq hx hy
  · exact g_slss hx hy
  · exact g_sgtr hx hy
  · exact g_sgeq hx hy
theorem evB_ok {op : BinOp} {T T' : TypeId} {x y : Operand} {s by' : Nat} {z : Value} {a b : Bool} {v : Value} {c : Option Prop} [TI P T .bool s by' z] (h : evB op a b = some (v, c)) (hx : ev E x = some (.bool a)) (hy : ev E y = some (.bool b)) :
    Gives P n D E M ⟨d, .binOp op T x y T', ty, pos, aft, gd⟩ v := by
  cases op <;> simp only [evB, Option.some.injEq, Prod.mk.injEq, reduceCtorEq] at h <;> obtain ⟨rfl, rfl⟩ := h
  · exact g_beql (size := s) (bytes := by') (zero := z) hx hy
  · exact g_bneq (size := s) (bytes := by') (zero := z) hx hy
theorem evOp_ok {t : Tbl} [tb : Tab P t] {op : Op} {v : Value} {c : Option Prop} (h : evOp t E op = some (v, c)) (hc : holdsO c) : Gives P n D E M ⟨d, op, ty, pos, aft, gd⟩ v := by
  unfold evOp at h
  split at h
  · split at h
    · rename_i hx; simp only [Option.some.injEq, Prod.mk.injEq] at h; obtain ⟨rfl, rfl⟩ := h; exact g_move hx
    · cases h
  · split at h
    · rename_i hx; simp only [Option.some.injEq, Prod.mk.injEq] at h; obtain ⟨rfl, rfl⟩ := h; exact g_assign hx
    · cases h
  · split at h
    · rename_i hx
      split at h
      · rename_i hv; simp only [Option.some.injEq, Prod.mk.injEq] at h; obtain ⟨rfl, rfl⟩ := h; exact g_ext hx hv
      · cases h
    · cases h
  · split at h
    · rename_i hx; simp only [Option.some.injEq, Prod.mk.injEq] at h; obtain ⟨rfl, rfl⟩ := h; exact g_nilc hx
    · cases h
  · split at h
    · rename_i hx
      split at h
      · rename_i hf; simp only [Option.some.injEq, Prod.mk.injEq] at h; obtain ⟨rfl, rfl⟩ := h
        have := (tb.hf _ _ _ _ _ hf).2
        exact g_faddr hx
      · cases h
    · cases h
  · split at h
    · rename_i hx
      split at h
      · rename_i hf
        split at h
        · rename_i hv; simp only [Option.some.injEq, Prod.mk.injEq] at h; obtain ⟨rfl, rfl⟩ := h
          have := (tb.hf _ _ _ _ _ hf).1
          exact g_field hx (by simp only [cutF]; rw [clean_eq hv])
        · cases h
      · rename_i hf
        split at h
        · rename_i hv; simp only [Option.some.injEq, Prod.mk.injEq] at h; obtain ⟨rfl, rfl⟩ := h
          have := (tb.hf _ _ _ _ _ hf).1
          exact g_field hx (by simp only [cutF]; exact hv)
        · cases h
      · cases h
    · cases h
  · split at h
    · rename_i ht
      obtain ⟨_, _, _, _⟩ := tb.hs _ ht
      split at h
      · rename_i hx
        split at h
        · rename_i hi; simp only [Option.some.injEq, Prod.mk.injEq] at h; obtain ⟨rfl, rfl⟩ := h
          exact g_sidxI hx hi hc
        · cases h
      · cases h
    · cases h
  · split at h
    · rename_i ht
      obtain ⟨_, _, _, _⟩ := tb.hs _ ht
      split at h
      · rename_i hx
        split at h
        · split at h
          · rename_i hi; simp only [Option.some.injEq, Prod.mk.injEq] at h; obtain ⟨rfl, rfl⟩ := h
            exact g_sslFrom hx hi hc
          · cases h
        · split at h
          · rename_i hi; simp only [Option.some.injEq, Prod.mk.injEq] at h; obtain ⟨rfl, rfl⟩ := h
            exact g_sslTo hx hi hc
          · cases h
        · split at h
          · rename_i hi
            split at h
            · rename_i hj; simp only [Option.some.injEq, Prod.mk.injEq] at h; obtain ⟨rfl, rfl⟩ := h
              exact g_sslBoth hx hi hj hc.1 hc.2
            · cases h
          · cases h
        · cases h
      · cases h
    · cases h
  · split at h
    · rename_i hx
      split at h
      · rename_i hy; exact evI_ok h hc hx hy
      · cases h
    · rename_i hx
      split at h
      · rename_i hy; exact evU_ok h hc hx hy
      · cases h
    · rename_i hx
      split at h
      · rename_i hy; exact evS_ok h hc hx hy
      · cases h
    · rename_i hx
      split at h
      · rename_i ht
        obtain ⟨_, _, _, _⟩ := tb.hb _ ht
        split at h
        · rename_i hy; exact evB_ok h hx hy
        · cases h
      · cases h
    · cases h
  · split at h
    · split at h
      · rename_i hx; simp only [Option.some.injEq, Prod.mk.injEq] at h; obtain ⟨rfl, rfl⟩ := h; exact g_not hx
      · cases h
    · split at h
      · rename_i hx; simp only [Option.some.injEq, Prod.mk.injEq] at h; obtain ⟨rfl, rfl⟩ := h; exact g_neg hx hc
      · cases h
    · cases h
  · split at h
    · rename_i h1 h2
      obtain ⟨_, _, _, _⟩ := tb.hu _ h1
      obtain ⟨_, _, _, _⟩ := tb.hi _ h2
      split at h
      · rename_i hx; simp only [Option.some.injEq, Prod.mk.injEq] at h; obtain ⟨rfl, rfl⟩ := h; exact g_convI hx hc
      · cases h
    · split at h
      · rename_i h1 h2
        obtain ⟨_, _, _, _⟩ := tb.hi _ h1
        obtain ⟨_, _, _, _⟩ := tb.hu _ h2
        split at h
        · rename_i hx; simp only [Option.some.injEq, Prod.mk.injEq] at h; obtain ⟨rfl, rfl⟩ := h; exact g_convU hx
        · cases h
      · cases h
  · split at h
    · rename_i ht
      obtain ⟨_, _, _, _⟩ := tb.hs _ ht
      split at h
      · rename_i hx; simp only [Option.some.injEq, Prod.mk.injEq] at h; obtain ⟨rfl, rfl⟩ := h; exact g_lenS hx
      · cases h
    · cases h
  · cases h
end
end Go.E
