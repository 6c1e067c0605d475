/- The calculus of this seat's proofs: assertions on frames and on memory, and the rules of control. Conditions: none. -/
import Derived.OrdersHeld
import Derived.Deep.Quiet
import Derived.Tactics
import Derived.KernelRfl
namespace Go.E

/-! ## Frames -/
abbrev Env := List (Nat × Value)

def look : Env → Nat → Option Value
  | [], _ => none
  | (k, v) :: r, n => match Nat.beq k n with
    | true => some v
    | false => look r n

theorem look_cons (d : Nat) (v : Value) (E : Env) (t : Nat) : look ((d, v) :: E) t = if d = t then some v else look E t := by
  simp only [look]
  by_cases h : d = t
  · subst h; simp
  · have : Nat.beq d t = false := by cases hb : Nat.beq d t with | false => rfl | true => exact absurd (Nat.eq_of_beq_eq_true hb) h
    simp [this, h]

def ev (E : Env) : Operand → Option Value
  | .tmp t => look E t
  | .const v => some v
  | .global g => some (.pointer (some ⟨g, 0, none⟩))
  | .func f => some (.func (.func f) #[] #[])

def evs (E : Env) : List Operand → Option (List Value)
  | [] => some []
  | x :: r => match ev E x with
    | some v => (match evs E r with | some vs => some (v :: vs) | none => none)
    | none => none

structure Sat (n : Nat) (D : List Deferred) (E : Env) (a : Act) : Prop where
  size : a.tmps.size = n
  defers : a.defers = D
  at' : ∀ t v, look E t = some v → a.tmps[t]? = some v

theorem Sat.ev {n D E a} (h : Sat n D E a) {x : Operand} {v : Value} (hv : Go.E.ev E x = some v) : a.eval x = v := by
  cases x with
  | tmp t =>
    have := h.at' t v hv
    simp [Act.eval, this]
  | const u => simpa [Go.E.ev, Act.eval] using hv
  | global g => simpa [Go.E.ev, Act.eval] using hv
  | func f => simpa [Go.E.ev, Act.eval] using hv

theorem Sat.evs {n D E a} (h : Sat n D E a) : ∀ {xs : List Operand} {vs : List Value}, Go.E.evs E xs = some vs → xs.map a.eval = vs
  | [], vs, hv => by simpa [Go.E.evs] using hv
  | x :: xs, vs, hv => by
    simp only [Go.E.evs] at hv
    cases hx : Go.E.ev E x with
    | none => simp [hx] at hv
    | some v =>
      cases hr : Go.E.evs E xs with
      | none => simp [hx, hr] at hv
      | some ws =>
        simp only [hx, hr, Option.some.injEq] at hv
        subst hv
        simp [h.ev hx, Sat.evs h hr]

theorem Sat.put {n D E a} (h : Sat n D E a) {d : Nat} {v : Value} (hd : d < n) : Sat n D ((d, v) :: E) (a.put (some d) v) := by
  obtain ⟨h1, h2, h3⟩ := h
  refine ⟨by simp [Act.put, h1], by simp [Act.put, h2], fun t u hu => ?_⟩
  rw [look_cons] at hu
  by_cases hdt : d = t
  · subst hdt
    simp only [↓reduceIte, Option.some.injEq] at hu
    subst hu
    simp [Act.put, h1, hd]
  · rw [if_neg hdt] at hu
    simp [Act.put, Array.getElem?_setIfInBounds_ne hdt, h3 t u hu]

theorem Sat.putNone {n D E a} (h : Sat n D E a) {v : Value} : Sat n D E (a.put none v) := h

/-- E' is read off E. -/
def Sub : Env → Env → Prop
  | [], _ => True
  | (k, v) :: r, E => look E k = some v ∧ Sub r E

theorem Sub.look {E' E : Env} (h : Sub E' E) : ∀ t v, look E' t = some v → look E t = some v := by
  induction E' with
  | nil => intro t v hv; simp [Go.E.look] at hv
  | cons p r ih =>
    intro t v hv
    obtain ⟨k, u⟩ := p
    obtain ⟨h1, h2⟩ := h
    rw [look_cons] at hv
    by_cases hk : k = t
    · subst hk
      simp only [↓reduceIte, Option.some.injEq] at hv
      subst hv; exact h1
    · rw [if_neg hk] at hv; exact ih h2 t v hv

theorem Sat.sub {n D E E' a} (h : Sat n D E a) (hs : Sub E' E) : Sat n D E' a := ⟨h.size, h.defers, fun t v hv => h.at' t v (hs.look t v hv)⟩

/-! ## Memory -/
inductive GO where
  | pre (cs : List Value)
  | ex (o : Obj)

abbrev Gh := Nat → Option GO

def GO.at : GO → Obj → Prop
  | .pre cs, .cells c _ _ => ∃ rest, c = (cs ++ rest).toArray
  | .pre _, _ => False
  | .ex o, o' => o' = o

def Gh.ok (G : Gh) (w : World) : Prop := ∀ b g, G b = some g → ∃ o, w.heap[b]? = some o ∧ g.at o

def Gh.le (G G' : Gh) : Prop := ∀ b g, G b = some g → G' b = some g

theorem Gh.le.refl (G : Gh) : Gh.le G G := fun _ _ h => h
theorem Gh.le.trans {G G' G'' : Gh} (h : Gh.le G G') (h' : Gh.le G' G'') : Gh.le G G'' := fun b g hb => h' b g (h b g hb)

inductive Own where
  | blk (b : Nat) (o : Obj)
  | acc (v : Value) (ty : TypeId) (sz n : Nat) (xs : List Value)

def vbk : Value → List Nat
  | .slice (some a) _ _ => [a.block]
  | _ => []

def Own.bk : Own → List Nat
  | .blk b _ => [b]
  | .acc v _ _ _ _ => vbk v

def AccAt (w : World) (v : Value) (ty : TypeId) (sz n : Nat) (xs : List Value) : Prop :=
  xs.length = n * sz ∧ ((v = .slice none 0 0 ∧ n = 0) ∨
    ∃ b cap rest, v = .slice (some ⟨b, 0, none⟩) n cap ∧ n ≤ cap ∧ (xs ++ rest).length = cap * sz ∧ w.heap[b]? = some (.cells (xs ++ rest).toArray ty (0, 0)))

def Own.at (w : World) : Own → Prop
  | .blk b o => w.heap[b]? = some o
  | .acc v ty sz n xs => AccAt w v ty sz n xs

def bks (L : List Own) : List Nat := L.flatMap Own.bk

theorem mem_bks {L : List Own} {b : Nat} : b ∈ bks L ↔ ∃ x ∈ L, b ∈ x.bk := by simp [bks]

theorem Own.at_lt {w : World} {x : Own} (h : x.at w) : ∀ b ∈ x.bk, b < w.heap.size := by
  intro b hb
  cases x with
  | blk c o =>
    simp only [Own.bk, List.mem_singleton] at hb; subst hb
    exact (Array.getElem?_eq_some_iff.1 h).1
  | acc v ty sz n xs =>
    obtain ⟨_, ⟨rfl, rfl⟩ | ⟨c, cap, rest, rfl, _, _, h⟩⟩ := h
    · simp [Own.bk, vbk] at hb
    · simp only [Own.bk, vbk, List.mem_singleton] at hb; subst hb
      exact (Array.getElem?_eq_some_iff.1 h).1

/-- What an assertion says hangs on its own blocks alone. -/
theorem Own.at_same {w w' : World} {x : Own} (h : x.at w) (hs : ∀ b ∈ x.bk, w'.heap[b]? = w.heap[b]?) : x.at w' := by
  cases x with
  | blk c o => show w'.heap[c]? = some o; rw [hs c (by simp [Own.bk])]; exact h
  | acc v ty sz n xs =>
    obtain ⟨h1, h2 | ⟨c, cap, rest, rfl, h3, h4, h⟩⟩ := h
    · exact ⟨h1, .inl h2⟩
    · exact ⟨h1, .inr ⟨c, cap, rest, rfl, h3, h4, by rw [hs c (by simp [Own.bk, vbk])]; exact h⟩⟩

structure Base where
  w : World
  G : Gh
  W : List Nat

structure St (B : Base) (G : Gh) (L : List Own) (w : World) : Prop where
  ok : G.ok w
  own : ∀ x ∈ L, x.at w
  fresh : ∀ b ∈ bks L, G b = none ∧ (B.w.heap.size ≤ b ∨ b ∈ B.W)
  nd : (bks L).Nodup
  os : w.os = B.w.os
  tape : w.tape = B.w.tape
  output : w.output = B.w.output
  size : B.w.heap.size ≤ w.heap.size
  frame : ∀ b, b < B.w.heap.size → b ∉ B.W → w.heap[b]? = B.w.heap[b]? ∧ G b = B.G b

theorem St.drew {B G L w} (h : St B G L w) : St B G L w.drew := ⟨h.ok, h.own, h.fresh, h.nd, h.os, h.tape, h.output, h.size, h.frame⟩

theorem Gh.ok.lt {G : Gh} {w : World} (h : G.ok w) {b g} (hb : G b = some g) : b < w.heap.size := by
  obtain ⟨o, ho, _⟩ := h b g hb
  exact (Array.getElem?_eq_some_iff.1 ho).1

theorem heap_alloc_old (w : World) (o : Obj) {b : Nat} (h : b < w.heap.size) : (w.alloc o).heap[b]? = w.heap[b]? := by
  show (w.heap.push o)[b]? = _
  rw [Array.getElem?_push, if_neg (by omega)]
theorem heap_alloc_new (w : World) (o : Obj) : (w.alloc o).heap[w.heap.size]? = some o := by
  show (w.heap.push o)[w.heap.size]? = _
  simp

theorem St.lt {B G L w} (h : St B G L w) {b : Nat} (hb : b ∈ bks L) : b < w.heap.size := by
  obtain ⟨x, hx, hbx⟩ := mem_bks.1 hb
  exact Own.at_lt (h.own x hx) b hbx

/-- A new block. -/
theorem St.alloc {B G L w} (h : St B G L w) (o : Obj) : St B G (.blk w.heap.size o :: L) (w.alloc o) := by
  have hnew : w.heap.size ∉ bks L := fun hb => by have := h.lt hb; omega
  refine ⟨fun b g hb => ?_, fun x hx => ?_, fun b hb => ?_, ?_, h.os, h.tape, h.output, ?_, fun b hb hW => ?_⟩
  · obtain ⟨o', ho', hg⟩ := h.ok b g hb
    exact ⟨o', by rw [heap_alloc_old _ _ (h.ok.lt hb)]; exact ho', hg⟩
  · cases List.mem_cons.1 hx with
    | inl e => subst e; exact heap_alloc_new w o
    | inr hx => exact Own.at_same (h.own x hx) fun b hb => heap_alloc_old _ _ (Own.at_lt (h.own x hx) b hb)
  · simp only [bks, List.flatMap_cons, Own.bk, List.singleton_append, List.mem_cons] at hb
    rcases hb with rfl | hb
    · refine ⟨?_, .inl h.size⟩
      cases hG : G w.heap.size with
      | none => rfl
      | some g => have := h.ok.lt hG; omega
    · exact h.fresh b hb
  · simp only [bks, List.flatMap_cons, Own.bk, List.singleton_append, List.nodup_cons]
    exact ⟨hnew, h.nd⟩
  · simpa using Nat.le_succ_of_le h.size
  · obtain ⟨h1, h2⟩ := h.frame b hb hW
    exact ⟨by rw [heap_alloc_old _ _ (Nat.lt_of_lt_of_le hb h.size)]; exact h1, h2⟩

theorem bks_sub {L L' : List Own} (hs : L'.Sublist L) : (bks L').Sublist (bks L) := by
  induction hs with
  | slnil => exact .slnil
  | cons a _ ih => simp only [bks, List.flatMap_cons]; exact ih.trans (List.sublist_append_right _ _)
  | cons_cons a _ ih => simp only [bks, List.flatMap_cons]; exact List.Sublist.append (List.Sublist.refl _) ih

/-- Fewer assertions. -/
theorem St.weaken {B G L L' w} (h : St B G L w) (hs : L'.Sublist L) : St B G L' w := by
  have hb : (bks L').Sublist (bks L) := bks_sub hs
  exact ⟨h.ok, fun x hx => h.own x (hs.subset hx), fun b hx => h.fresh b (hb.subset hx), hb.nodup h.nd, h.os, h.tape, h.output, h.size, h.frame⟩

theorem St.perm {B G L L' w} (h : St B G L w) (hs : L.Perm L') : St B G L' w := by
  have hb : (bks L).Perm (bks L') := hs.flatMap_right _
  exact ⟨h.ok, fun x hx => h.own x (hs.symm.subset hx), fun b hx => h.fresh b (hb.symm.subset hx), hb.nodup_iff.1 h.nd, h.os, h.tape, h.output, h.size, h.frame⟩

theorem bks_append (L R : List Own) : bks (L ++ R) = bks L ++ bks R := by simp [bks]

/-- The state in which a callee begins. -/
theorem St.enter {B G L R w} (h : St B G (L ++ R) w) : St ⟨w, G, bks L⟩ G L w := by
  have h' := h.weaken (L' := L) (List.sublist_append_left L R)
  exact ⟨h'.ok, h'.own, fun b hb => ⟨(h'.fresh b hb).1, .inr hb⟩, h'.nd, rfl, rfl, rfl, Nat.le_refl _, fun _ _ _ => ⟨rfl, rfl⟩⟩

/-- And back. -/
theorem St.back {B G L R w G' L' w'} (h : St B G (L ++ R) w) (k : St ⟨w, G, bks L⟩ G' L' w') : St B G' (L' ++ R) w' := by
  have hnd := h.nd
  rw [bks_append] at hnd
  have hR : ∀ b ∈ bks R, b < w.heap.size ∧ b ∉ bks L := fun b hb =>
    ⟨h.lt (by rw [bks_append]; exact List.mem_append_right _ hb), fun hL => (List.nodup_append.1 hnd).2.2 b hL b hb rfl⟩
  have hL' : ∀ b ∈ bks L', b ∉ bks R := fun b hb hbR => by
    obtain ⟨h1, h2⟩ := hR b hbR
    rcases (k.fresh b hb).2 with h3 | h3
    · simp only at h3; omega
    · exact h2 h3
  refine ⟨k.ok, fun x hx => ?_, fun b hb => ?_, ?_, k.os.trans h.os, k.tape.trans h.tape, k.output.trans h.output, Nat.le_trans h.size k.size, fun b hb hW => ?_⟩
  · rcases List.mem_append.1 hx with hx | hx
    · exact k.own x hx
    · refine Own.at_same (h.own x (List.mem_append_right _ hx)) fun b hb => ?_
      obtain ⟨h1, h2⟩ := hR b (mem_bks.2 ⟨x, hx, hb⟩)
      exact (k.frame b h1 h2).1
  · rw [bks_append] at hb
    rcases List.mem_append.1 hb with hb | hb
    · refine ⟨(k.fresh b hb).1, ?_⟩
      rcases (k.fresh b hb).2 with h3 | h3
      · exact .inl (Nat.le_trans h.size h3)
      · exact (h.fresh b (by rw [bks_append]; exact List.mem_append_left _ h3)).2
    · obtain ⟨h1, h2⟩ := hR b hb
      have := h.fresh b (by rw [bks_append]; exact List.mem_append_right _ hb)
      exact ⟨by rw [(k.frame b h1 h2).2]; exact this.1, this.2⟩
  · rw [bks_append]
    refine List.nodup_append.2 ⟨k.nd, (List.nodup_append.1 hnd).2.1, fun a ha b hb e => ?_⟩
    subst e; exact hL' a ha hb
  · obtain ⟨h1, h2⟩ := h.frame b hb hW
    have hbL : b ∉ bks L := fun hbL => by
      rcases (h.fresh b (by rw [bks_append]; exact List.mem_append_left _ hbL)).2 with h3 | h3
      · omega
      · exact hW h3
    obtain ⟨h3, h4⟩ := k.frame b (Nat.lt_of_lt_of_le hb h.size) hbL
    exact ⟨h3.trans h1, h4.trans h2⟩

/-- What was known of memory that does not turn is still known. -/
theorem St.le {B G L w} (h : St B G L w) (h0 : B.G.ok B.w) (hB : ∀ b ∈ B.W, B.G b = none) : Gh.le B.G G := by
  intro b g hb
  by_cases hW : b ∈ B.W
  · rw [hB b hW] at hb; cases hb
  · rw [(h.frame b (h0.lt hb) hW).2]; exact hb

end Go.E
