/- The calculus of this seat's proofs: the rules of control, of regions, of calls and returns. Conditions: none. -/
import Derived.Test.YtcnkkjdnnajkbaaEngA
import Derived.Deep.LoopGhost
namespace Go.E

structure Nx (n : Nat) (D : List Deferred) (E : Env) (B : Base) (G : Gh) (L : List Own) (K : Act → World → Prop) : Prop where
  go : ∀ a w, Sat n D E a → St B G L w → K a w
def cw (P : Program) (c : Code) (Q : Exit → Act → World → Prop) : Act → World → Prop := c.wp P Q
def lw (P : Program) (ops : Array Oper) (Q : Exit → Act → World → Prop) (l : List Oper) : Act → World → Prop := wpList P ops Q l
def tn (K : Act → World → Prop) (Q : Exit → Act → World → Prop) : Exit → Act → World → Prop := Exit.then K Q
def bl (id : Nat) (Q : Exit → Act → World → Prop) : Exit → Act → World → Prop := Exit.inBlock id Q
def bp (P : Program) (fn : Func) (R : Ending → World → Prop) : Exit → Act → World → Prop := bodyPost P fn R
def qw (P : Program) (ops : Array Oper) (C : World → Prop) (R : Act → Prop) (l : List Oper) : Act → Prop := wpQuiet P ops C R l
def qK (C : World → Prop) (K : Act → World → Prop) : Act → Prop := fun a' => ∀ w', C w' → K a' w'

def ow (P : Program) (o : Oper) (Q : Exit → Act → World → Prop) (K : Act → World → Prop) : Act → World → Prop := fun a w => o.wp P a w K Q

section
variable {n : Nat} {D : List Deferred} {E : Env} {B : Base} {G : Gh} {L : List Own} {P : Program}
variable {Q : Exit → Act → World → Prop} {K : Act → World → Prop}

theorem Nx.mono {K' : Act → World → Prop} (h : Nx n D E B G L K) (hk : ∀ a w, K a w → K' a w) : Nx n D E B G L K' := Nx.mk fun a w hs hw => hk a w (h.go a w hs hw)

theorem Nx.weak {E' : Env} {L' : List Own} (hE : Sub E' E) (hL : L'.Sublist L) (h : Nx n D E' B G L' K) : Nx n D E B G L K :=
  Nx.mk fun a w hs hw => h.go a w (hs.sub hE) (hw.weaken hL)
theorem Nx.env {E' : Env} (hE : Sub E' E) (h : Nx n D E' B G L K) : Nx n D E B G L K := Nx.mk fun a w hs hw => h.go a w (hs.sub hE) hw
theorem Nx.drop {L' : List Own} (hL : L'.Sublist L) (h : Nx n D E B G L' K) : Nx n D E B G L K := Nx.mk fun a w hs hw => h.go a w hs (hw.weaken hL)
theorem Nx.perm {L' : List Own} (hL : L.Perm L') (h : Nx n D E B G L' K) : Nx n D E B G L K := Nx.mk fun a w hs hw => h.go a w hs (hw.perm hL)
/-- A fact on worlds becomes a fact at hand. -/
theorem Nx.fact {p : Prop} (hp : ∀ w, St B G L w → p) (h : p → Nx n D E B G L K) : Nx n D E B G L K := Nx.mk fun a w hs hw => (h (hp w hw)).go a w hs hw

/-! ### Control -/
theorem s_seq {x y : Code} (h : Nx n D E B G L (cw P x (tn (cw P y Q) Q))) : Nx n D E B G L (cw P (.seq x y) Q) := Nx.mk fun a w hs hw => wp_seq (h.go a w hs hw)
theorem s_skip (h : Nx n D E B G L (Q .normal)) : Nx n D E B G L (cw P .skip Q) := Nx.mk fun a w hs hw => wp_skip (h.go a w hs hw)
theorem s_ret (h : Nx n D E B G L (Q .ret)) : Nx n D E B G L (cw P .ret Q) := Nx.mk fun a w hs hw => wp_ret (h.go a w hs hw)
theorem s_exit {id : Nat} (h : Nx n D E B G L (Q (.exit id))) : Nx n D E B G L (cw P (.exit id) Q) := Nx.mk fun a w hs hw => wp_exit (h.go a w hs hw)
theorem s_block {id : Nat} {c : Code} (h : Nx n D E B G L (cw P c (bl id Q))) : Nx n D E B G L (cw P (.block id c) Q) := Nx.mk fun a w hs hw => wp_block (h.go a w hs hw)
theorem s_cond {c : Operand} {x y : Code} {b : Bool} (hc : ev E c = some (.bool b)) (ht : b = true → Nx n D E B G L (cw P x Q)) (hf : b = false → Nx n D E B G L (cw P y Q)) :
    Nx n D E B G L (cw P (.cond c x y) Q) := Nx.mk fun a w hs hw =>
  wp_cond_split (hs.ev hc) (fun h => (ht h).go a w hs hw) (fun h => (hf h).go a w hs hw)
theorem s_if {c : Operand} {x y : Code} {p : Prop} [Decidable p] (hc : ev E c = some (.bool (decide p))) (ht : p → Nx n D E B G L (cw P x Q)) (hf : ¬ p → Nx n D E B G L (cw P y Q)) :
    Nx n D E B G L (cw P (.cond c x y) Q) := s_cond hc (fun h => ht (of_decide_eq_true h)) (fun h => hf (of_decide_eq_false h))
theorem s_true {c : Operand} {x y : Code} {b : Bool} (hc : ev E c = some (.bool b)) (hb : b = true) (ht : Nx n D E B G L (cw P x Q)) : Nx n D E B G L (cw P (.cond c x y) Q) :=
  s_cond hc (fun _ => ht) (fun h => absurd (hb.symm.trans h) (by decide))
theorem s_false {c : Operand} {x y : Code} {b : Bool} (hc : ev E c = some (.bool b)) (hb : b = false) (hf : Nx n D E B G L (cw P y Q)) : Nx n D E B G L (cw P (.cond c x y) Q) :=
  s_cond hc (fun h => absurd (hb.symm.trans h) (by decide)) (fun _ => hf)

/-! exits -/
theorem k_then (h : Nx n D E B G L K) : Nx n D E B G L (tn K Q .normal) := ⟨h.go⟩
theorem k_then_r (h : Nx n D E B G L (Q .ret)) : Nx n D E B G L (tn K Q .ret) := ⟨h.go⟩
theorem k_then_e {i : Nat} (h : Nx n D E B G L (Q (.exit i))) : Nx n D E B G L (tn K Q (.exit i)) := ⟨h.go⟩
theorem k_blk {id : Nat} (h : Nx n D E B G L (Q .normal)) : Nx n D E B G L (bl id Q .normal) := ⟨h.go⟩
theorem k_blk_r {id : Nat} (h : Nx n D E B G L (Q .ret)) : Nx n D E B G L (bl id Q .ret) := ⟨h.go⟩
theorem k_blk_hit {id : Nat} (h : Nx n D E B G L (Q .normal)) : Nx n D E B G L (bl id Q (.exit id)) := Nx.mk fun a w hs hw => by
  simp only [bl, Exit.inBlock, ↓reduceIte]; exact h.go a w hs hw
theorem k_blk_miss {id i : Nat} (hne : Nat.beq i id = false) (h : Nx n D E B G L (Q (.exit i))) : Nx n D E B G L (bl id Q (.exit i)) := Nx.mk fun a w hs hw => by
  have : i ≠ id := fun e => by subst e; simp at hne
  simp only [bl, Exit.inBlock, if_neg this]; exact h.go a w hs hw

/-! ### Loops and cuts -/
/-- What a round hands on: the family at an index of smaller measure. -/
def LI {ι : Type} (n : Nat) (D : List Deferred) (B : Base) (Pre : ι → Prop) (Ei : ι → Env) (Gi : ι → Gh) (Li : ι → List Own) (μ : ι → Nat) (m : Nat) : Act → World → Prop :=
  fun a w => ∃ j, Pre j ∧ μ j < m ∧ Sat n D (Ei j) a ∧ St B (Gi j) (Li j) w

theorem s_loop {ι : Type} {c : Code} (Pre : ι → Prop) (Ei : ι → Env) (Gi : ι → Gh) (Li : ι → List Own) (μ : ι → Nat) (i0 : ι) (h0 : Pre i0)
    (hE : Sub (Ei i0) E) (hG : Gi i0 = G) (hL : (Li i0).Sublist L)
    (round : ∀ i, Pre i → Nx n D (Ei i) B (Gi i) (Li i) (cw P c (tn (LI n D B Pre Ei Gi Li μ (μ i)) Q))) : Nx n D E B G L (cw P (.loop c) Q) := Nx.mk fun a w hs hw => by
  refine wp_loop_ghost (fun k a w => ∃ i, Pre i ∧ μ i = k ∧ Sat n D (Ei i) a ∧ St B (Gi i) (Li i) w) (μ i0) ⟨i0, h0, rfl, hs.sub hE, hG ▸ hw.weaken hL⟩ ?_
  rintro k a w ⟨i, hi, rfl, hs, hw⟩
  refine wp_mono ((round i hi).go a w hs hw) fun e a' w' q => ?_
  cases e with
  | normal =>
    obtain ⟨j, h1, h2, h3, h4⟩ := q
    exact ⟨μ j, h2, j, h1, rfl, h3, h4⟩
  | _ => exact q

theorem k_round {ι : Type} {Pre : ι → Prop} {Ei : ι → Env} {Gi : ι → Gh} {Li : ι → List Own} {μ : ι → Nat} {m : Nat} (j : ι) (h1 : Pre j) (h2 : μ j < m)
    (hE : Sub (Ei j) E) (hG : Gi j = G) (hL : (Li j).Sublist L) : Nx n D E B G L (LI n D B Pre Ei Gi Li μ m) := Nx.mk fun _ _ hs hw =>
  ⟨j, h1, h2, hs.sub hE, hG ▸ hw.weaken hL⟩

/-- A cut: what holds between two codes. -/
def CI {ι : Type} (n : Nat) (D : List Deferred) (B : Base) (Pre : ι → Prop) (Ei : ι → Env) (Gi : ι → Gh) (Li : ι → List Own) : Act → World → Prop :=
  fun a w => ∃ j, Pre j ∧ Sat n D (Ei j) a ∧ St B (Gi j) (Li j) w
theorem s_cut {ι : Type} {x y : Code} (Pre : ι → Prop) (Ei : ι → Env) (Gi : ι → Gh) (Li : ι → List Own)
    (hx : Nx n D E B G L (cw P x (tn (CI n D B Pre Ei Gi Li) Q))) (hy : ∀ i, Pre i → Nx n D (Ei i) B (Gi i) (Li i) (cw P y Q)) : Nx n D E B G L (cw P (.seq x y) Q) := Nx.mk fun a w hs hw => by
  refine wp_seq (wp_mono (hx.go a w hs hw) fun e a' w' q => ?_)
  cases e with
  | normal => obtain ⟨j, h1, h2, h3⟩ := q; exact (hy j h1).go a' w' h2 h3
  | _ => exact q
theorem k_cut {ι : Type} {Pre : ι → Prop} {Ei : ι → Env} {Gi : ι → Gh} {Li : ι → List Own} (j : ι) (h1 : Pre j)
    (hE : Sub (Ei j) E) (hG : Gi j = G) (hL : (Li j).Sublist L) : Nx n D E B G L (CI n D B Pre Ei Gi Li) := Nx.mk fun _ _ hs hw =>
  ⟨j, h1, hs.sub hE, hG ▸ hw.weaken hL⟩

/-! ### Regions in the order of the text -/
theorem s_region {id : Nat} {l : List Oper} (h : Nx n D E B G L (lw P l.toArray Q l)) : Nx n D E B G L (cw P (.region id l.toArray false) Q) := Nx.mk fun a w hs hw => wp_region_lit (h.go a w hs hw)
theorem l_nil {ops : Array Oper} (h : Nx n D E B G L (Q .normal)) : Nx n D E B G L (lw P ops Q []) := ⟨h.go⟩
theorem l_op {ops : Array Oper} {o : Oper} {rest : List Oper} (hg : o.guard = none) (h : Nx n D E B G L (ow P o Q (lw P ops Q rest))) : Nx n D E B G L (lw P ops Q (o :: rest)) := Nx.mk fun a w hs hw => by
  unfold lw wpList; rw [if_pos (by simp [Region.wanted, hg])]; exact .inl (h.go a w hs hw)

/-- The bool that a guard's operation has left. -/
def gb : Option Value → Option Bool
  | some (.bool b) => some b
  | _ => none
def isKnown : Option Value → Bool
  | some _ => true
  | none => false
theorem yielded_of {a : Act} {ops : Array Oper} {j dj : Nat} {g : Option Bool} (hs : Sat n D E a) (hj : (ops[j]?).bind (·.dst) = some dj) (hk : isKnown (look E dj) = true) (hy : gb (look E dj) = g) : yielded ops a.tmps j = g := by
  unfold yielded
  cases hv : look E dj with
  | none => rw [hv] at hk; simp [isKnown] at hk
  | some v =>
    have hx : ops[j]?.bind (fun o => o.dst) = some dj := hj
    rw [hx]
    simp only [Option.bind_some, hs.at' dj v hv]
    rw [hv] at hy
    cases v <;> simp_all [gb]
theorem l_yes {ops : Array Oper} {o : Oper} {rest : List Oper} {j dj : Nat} {want b : Bool} (hg : o.guard = some (j, want)) (hj : (ops[j]?).bind (·.dst) = some dj)
    (hk : isKnown (look E dj) = true) (hy : gb (look E dj) = some b) (hb : b = want) (h : Nx n D E B G L (ow P o Q (lw P ops Q rest))) : Nx n D E B G L (lw P ops Q (o :: rest)) := Nx.mk fun a w hs hw => by
  unfold lw wpList; rw [if_pos (by simp [Region.wanted, hg, yielded_of hs hj hk hy, hb])]; exact .inl (h.go a w hs hw)
theorem l_no' {ops : Array Oper} {o : Oper} {rest : List Oper} {j dj d : Nat} {want : Bool} {g : Option Bool} (hg : o.guard = some (j, want)) (hd : o.dst = some d) (hlt : Nat.blt d n = true) (hj : (ops[j]?).bind (·.dst) = some dj)
    (hk : isKnown (look E dj) = true) (hy : gb (look E dj) = g) (hb : g ≠ some want) (h : Nx n D ((d, undef) :: E) B G L (lw P ops Q rest)) : Nx n D E B G L (lw P ops Q (o :: rest)) := Nx.mk fun a w hs hw => by
  unfold lw wpList
  rw [if_neg (by simpa [Region.wanted, hg, yielded_of hs hj hk hy] using hb), hd]
  exact h.go _ w (hs.put (by simpa using hlt)) hw

theorem not_some {b want : Bool} (hb : b = !want) : (some b : Option Bool) ≠ some want := by subst hb; cases want <;> simp
theorem l_no {ops : Array Oper} {o : Oper} {rest : List Oper} {j dj d : Nat} {want b : Bool} (hg : o.guard = some (j, want)) (hd : o.dst = some d) (hlt : Nat.blt d n = true) (hj : (ops[j]?).bind (·.dst) = some dj)
    (hk : isKnown (look E dj) = true) (hy : gb (look E dj) = some b) (hb : b = !want) (h : Nx n D ((d, undef) :: E) B G L (lw P ops Q rest)) : Nx n D E B G L (lw P ops Q (o :: rest)) := l_no' hg hd hlt hj hk hy (not_some hb) h
theorem l_un {ops : Array Oper} {o : Oper} {rest : List Oper} {j dj d : Nat} {want : Bool} (hg : o.guard = some (j, want)) (hd : o.dst = some d) (hlt : Nat.blt d n = true) (hj : (ops[j]?).bind (·.dst) = some dj)
    (hk : isKnown (look E dj) = true) (hy : gb (look E dj) = none) (h : Nx n D ((d, undef) :: E) B G L (lw P ops Q rest)) : Nx n D E B G L (lw P ops Q (o :: rest)) := l_no' hg hd hlt hj hk hy (by simp) h
/-- A guard that is not decided parts the way. -/
theorem l_gs {ops : Array Oper} {o : Oper} {rest : List Oper} {j dj : Nat} {want : Bool} {p : Prop} [Decidable p] (_hg : o.guard = some (j, want)) (_hj : (ops[j]?).bind (·.dst) = some dj) (_hy : gb (look E dj) = some (decide p))
    (h1 : p → Nx n D E B G L (lw P ops Q (o :: rest))) (h2 : ¬ p → Nx n D E B G L (lw P ops Q (o :: rest))) : Nx n D E B G L (lw P ops Q (o :: rest)) := by
  by_cases h : p
  · exact h1 h
  · exact h2 h
theorem l_gn {ops : Array Oper} {o : Oper} {rest : List Oper} {j dj : Nat} {want : Bool} {b : Bool} (_hg : o.guard = some (j, want)) (_hj : (ops[j]?).bind (·.dst) = some dj) (_hy : gb (look E dj) = some b)
    (h1 : b = true → Nx n D E B G L (lw P ops Q (o :: rest))) (h2 : b = false → Nx n D E B G L (lw P ops Q (o :: rest))) : Nx n D E B G L (lw P ops Q (o :: rest)) := by
  cases b
  · exact h2 rfl
  · exact h1 rfl

/-! ### Operations that only yield -/
structure Gives (P : Program) (n : Nat) (D : List Deferred) (E : Env) (S : World → Prop) (o : Oper) (v : Value) : Prop where
  go : ∀ a w, Sat n D E a → S w → (execOp a.eval o).run P w = .ok (.value v) w

theorem v_op {o : Oper} {d : Nat} {v : Value} (hg : Gives P n D E (St B G L) o v) (hd : o.dst = some d) (hlt : Nat.blt d n = true) (k : Nx n D ((d, v) :: E) B G L K) :
    Nx n D E B G L (ow P o Q K) := Nx.mk fun a w hs hw => by
  unfold ow Oper.wp
  rw [hg.go a w hs hw]
  simp only [Oper.upon_value, hd]
  exact k.go _ w (hs.put (by simpa using hlt)) hw

/-! ### Regions that draw their order and only read -/
structure Nq (n : Nat) (D : List Deferred) (E : Env) (K : Act → Prop) : Prop where
  go : ∀ a, Sat n D E a → K a
def oq (P : Program) (o : Oper) (C : World → Prop) (K : Act → Prop) : Act → Prop := fun a => o.quiet P a C K

theorem s_quiet {id : Nat} {l : List Oper} (hm : P.follows .mixedOrders = true) (hB : Region.lexB .any l.toArray = true)
    (h : Nq n D E (qw P l.toArray (St B G L) (qK (St B G L) (Q .normal)) l)) : Nx n D E B G L (cw P (.region id l.toArray true) Q) := Nx.mk fun a w hs hw => by
  have h1 : wpQuiet P l.toArray (St B G L) (fun a' => ∀ w', St B G L w' → Q .normal a' w') l a := h.go a hs
  refine wp_region_quiet (C := St B G L) hm hB ?_ (by simpa using h1)
  exact hw.drew
theorem q_nil {ops : Array Oper} (h : Nx n D E B G L K) : Nq n D E (qw P ops (St B G L) (qK (St B G L) K) []) := Nq.mk fun a hs w hw => h.go a w hs hw
theorem q_op {ops : Array Oper} {C : World → Prop} {R : Act → Prop} {o : Oper} {rest : List Oper} (hg : o.guard = none) (h : Nq n D E (oq P o C (qw P ops C R rest))) : Nq n D E (qw P ops C R (o :: rest)) := Nq.mk fun a hs => by
  unfold qw wpQuiet; rw [if_pos (by simp [Region.wanted, hg])]; exact h.go a hs
theorem q_yes {ops : Array Oper} {C : World → Prop} {R : Act → Prop} {o : Oper} {rest : List Oper} {j dj : Nat} {want b : Bool} (hg : o.guard = some (j, want)) (hj : (ops[j]?).bind (·.dst) = some dj)
    (hk : isKnown (look E dj) = true) (hy : gb (look E dj) = some b) (hb : b = want) (h : Nq n D E (oq P o C (qw P ops C R rest))) : Nq n D E (qw P ops C R (o :: rest)) := Nq.mk fun a hs => by
  unfold qw wpQuiet; rw [if_pos (by simp [Region.wanted, hg, yielded_of hs hj hk hy, hb])]; exact h.go a hs
theorem q_no' {ops : Array Oper} {C : World → Prop} {R : Act → Prop} {o : Oper} {rest : List Oper} {j dj d : Nat} {want : Bool} {g : Option Bool} (hg : o.guard = some (j, want)) (hd : o.dst = some d) (hlt : Nat.blt d n = true)
    (hj : (ops[j]?).bind (·.dst) = some dj) (hk : isKnown (look E dj) = true) (hy : gb (look E dj) = g) (hb : g ≠ some want) (h : Nq n D ((d, undef) :: E) (qw P ops C R rest)) : Nq n D E (qw P ops C R (o :: rest)) := Nq.mk fun a hs => by
  unfold qw wpQuiet
  rw [if_neg (by simpa [Region.wanted, hg, yielded_of hs hj hk hy] using hb), hd]
  exact h.go _ (hs.put (by simpa using hlt))
theorem q_no {ops : Array Oper} {C : World → Prop} {R : Act → Prop} {o : Oper} {rest : List Oper} {j dj d : Nat} {want b : Bool} (hg : o.guard = some (j, want)) (hd : o.dst = some d) (hlt : Nat.blt d n = true)
    (hj : (ops[j]?).bind (·.dst) = some dj) (hk : isKnown (look E dj) = true) (hy : gb (look E dj) = some b) (hb : b = !want) (h : Nq n D ((d, undef) :: E) (qw P ops C R rest)) : Nq n D E (qw P ops C R (o :: rest)) := q_no' hg hd hlt hj hk hy (not_some hb) h
theorem q_un {ops : Array Oper} {C : World → Prop} {R : Act → Prop} {o : Oper} {rest : List Oper} {j dj d : Nat} {want : Bool} (hg : o.guard = some (j, want)) (hd : o.dst = some d) (hlt : Nat.blt d n = true)
    (hj : (ops[j]?).bind (·.dst) = some dj) (hk : isKnown (look E dj) = true) (hy : gb (look E dj) = none) (h : Nq n D ((d, undef) :: E) (qw P ops C R rest)) : Nq n D E (qw P ops C R (o :: rest)) := q_no' hg hd hlt hj hk hy (by simp) h
theorem q_gs {ops : Array Oper} {C : World → Prop} {R : Act → Prop} {o : Oper} {rest : List Oper} {j dj : Nat} {want : Bool} {p : Prop} [Decidable p] (_hg : o.guard = some (j, want)) (_hj : (ops[j]?).bind (·.dst) = some dj) (_hy : gb (look E dj) = some (decide p))
    (h1 : p → Nq n D E (qw P ops C R (o :: rest))) (h2 : ¬ p → Nq n D E (qw P ops C R (o :: rest))) : Nq n D E (qw P ops C R (o :: rest)) := by
  by_cases h : p
  · exact h1 h
  · exact h2 h
theorem q_gn {ops : Array Oper} {C : World → Prop} {R : Act → Prop} {o : Oper} {rest : List Oper} {j dj : Nat} {want b : Bool} (_hg : o.guard = some (j, want)) (_hj : (ops[j]?).bind (·.dst) = some dj) (_hy : gb (look E dj) = some b)
    (h1 : b = true → Nq n D E (qw P ops C R (o :: rest))) (h2 : b = false → Nq n D E (qw P ops C R (o :: rest))) : Nq n D E (qw P ops C R (o :: rest)) := by
  cases b
  · exact h2 rfl
  · exact h1 rfl
theorem q_val {C : World → Prop} {R : Act → Prop} {o : Oper} {d : Nat} {v : Value} (hg : Gives P n D E C o v) (hd : o.dst = some d) (hlt : Nat.blt d n = true) (k : Nq n D ((d, v) :: E) R) : Nq n D E (oq P o C R) := Nq.mk fun a hs => by
  refine ⟨v, fun w hw => ?_, ?_⟩
  · unfold Oper.quietAt; rw [hg.go a w hs hw]; exact ⟨rfl, rfl⟩
  · rw [hd]; exact k.go _ (hs.put (by simpa using hlt))

/-! ### Regions that draw their order and do more -/
/-- A state of memory that has at least what is laid down at the region's start. -/
def Stab (B : Base) (G0 : Gh) (L0 : List Own) (w : World) : Prop := ∃ G L, Gh.le G0 G ∧ (∀ x ∈ L0, x ∈ L) ∧ St B G L w
theorem Stab.of {G0 : Gh} {L0 : List Own} {w : World} (h : St B G L w) (hG : Gh.le G0 G) (hL : ∀ x ∈ L0, x ∈ L) : Stab B G0 L0 w := ⟨G, L, hG, hL, h⟩

def xA (P : Program) (ops : Array Oper) (Q : Exit → Act → World → Prop) (S : World → Prop) (fuel : Nat) (listed : Array Bool) : Act → World → Prop := wpAnyH P .any ops Q S fuel listed
def xK (P : Program) (ops : Array Oper) (Q : Exit → Act → World → Prop) (S : World → Prop) (fuel : Nat) (listed : Array Bool) : Act → World → Prop := fun a w => S w ∧ wpAnyH P .any ops Q S fuel listed a w
def xO (P : Program) (ops : Array Oper) (Q : Exit → Act → World → Prop) (i : Nat) (K : Act → World → Prop) : Act → World → Prop := wpOp P ops Q i K

theorem s_any {id : Nat} {l : List Oper} (L0 : List Own) (_hL : ∀ x ∈ L0, x ∈ L) (hm : P.follows .mixedOrders = true)
    (h : Nx n D E B G L (xA P l.toArray Q (Stab B G L0) l.length (List.replicate l.length false).toArray)) : Nx n D E B G L (cw P (.region id l.toArray true) Q) := Nx.mk fun a w hs hw => by
  refine wp_region_held (S := Stab B G L0) hm ?_
  have := h.go a w.drew hs hw.drew
  simpa [xA] using this
theorem x_done {ops : Array Oper} {S : World → Prop} {fuel : Nat} {listed : Array Bool} (hr : Region.ready .any ops listed = []) (h : Nx n D E B G L (Q .normal)) : Nx n D E B G L (xA P ops Q S fuel listed) := Nx.mk fun a w hs hw =>
  wpAnyH_done hr (h.go a w hs hw) fuel
/-- Operation number i is carried out first. -/
theorem x_take {ops : Array Oper} {G0 : Gh} {L0 : List Own} {fuel : Nat} {listed listed' : Array Bool} (i : Nat) {o : Oper} {d : Nat} {v : Value} (hi : ops[i]? = some o)
    (hs : Region.noSelect ops = true) (hf : Region.free .any ops listed i = true) (hr : (Region.ready .any ops listed).contains i = true)
    (hQ : ∀ c a w, Q (.panic c) (a.put o.dst v) w → Q (.panic c) a w) (hg : Gives P n D E (Stab B G0 L0) o v) (hgu : o.guard = none) (hd : o.dst = some d) (hlt : Nat.blt d n = true)
    (hG : Gh.le G0 G) (hL : ∀ x ∈ L0, x ∈ L) (hl : listed.setIfInBounds i true = listed')
    (k : Nx n D ((d, v) :: E) B G L (xA P ops Q (Stab B G0 L0) fuel listed')) : Nx n D E B G L (xA P ops Q (Stab B G0 L0) (fuel + 1) listed) := Nx.mk fun a w hs' hw => by
  refine wpAnyH_take hi hs hf hr hQ (.inl ⟨by simp [Region.wanted, hgu], fun w' hw' => hg.go a w' hs' hw'⟩) (Stab.of hw hG hL) ?_
  rw [hl, hd]
  exact k.go _ w (hs'.put (by simpa using hlt)) hw
theorem x_takeY {ops : Array Oper} {G0 : Gh} {L0 : List Own} {fuel : Nat} {listed listed' : Array Bool} (i : Nat) {o : Oper} {j dj d : Nat} {want b : Bool} {v : Value} (hi : ops[i]? = some o)
    (hs : Region.noSelect ops = true) (hf : Region.free .any ops listed i = true) (hr : (Region.ready .any ops listed).contains i = true)
    (hQ : ∀ c a w, Q (.panic c) (a.put o.dst v) w → Q (.panic c) a w) (hg : Gives P n D E (Stab B G0 L0) o v) (hgu : o.guard = some (j, want)) (hj : (ops[j]?).bind (·.dst) = some dj)
    (hk : isKnown (look E dj) = true) (hy : gb (look E dj) = some b) (hb : b = want) (hd : o.dst = some d) (hlt : Nat.blt d n = true)
    (hG : Gh.le G0 G) (hL : ∀ x ∈ L0, x ∈ L) (hl : listed.setIfInBounds i true = listed')
    (k : Nx n D ((d, v) :: E) B G L (xA P ops Q (Stab B G0 L0) fuel listed')) : Nx n D E B G L (xA P ops Q (Stab B G0 L0) (fuel + 1) listed) := Nx.mk fun a w hs' hw => by
  refine wpAnyH_take hi hs hf hr hQ (.inl ⟨by simp [Region.wanted, hgu, yielded_of hs' hj hk hy, hb], fun w' hw' => hg.go a w' hs' hw'⟩) (Stab.of hw hG hL) ?_
  rw [hl, hd]
  exact k.go _ w (hs'.put (by simpa using hlt)) hw
theorem x_takeN {ops : Array Oper} {G0 : Gh} {L0 : List Own} {fuel : Nat} {listed listed' : Array Bool} (i : Nat) {o : Oper} {j dj d : Nat} {want : Bool} {g : Option Bool} (hi : ops[i]? = some o)
    (hs : Region.noSelect ops = true) (hf : Region.free .any ops listed i = true) (hr : (Region.ready .any ops listed).contains i = true)
    (hQ : ∀ c a w, Q (.panic c) (a.put o.dst undef) w → Q (.panic c) a w) (hgu : o.guard = some (j, want)) (hj : (ops[j]?).bind (·.dst) = some dj)
    (hk : isKnown (look E dj) = true) (hy : gb (look E dj) = g) (hb : g ≠ some want) (hd : o.dst = some d) (hlt : Nat.blt d n = true)
    (hG : Gh.le G0 G) (hL : ∀ x ∈ L0, x ∈ L) (hl : listed.setIfInBounds i true = listed')
    (k : Nx n D ((d, undef) :: E) B G L (xA P ops Q (Stab B G0 L0) fuel listed')) : Nx n D E B G L (xA P ops Q (Stab B G0 L0) (fuel + 1) listed) := Nx.mk fun a w hs' hw => by
  refine wpAnyH_take hi hs hf hr hQ (.inr ⟨by simpa [Region.wanted, hgu, yielded_of hs' hj hk hy] using hb, rfl⟩) (Stab.of hw hG hL) ?_
  rw [hl, hd]
  exact k.go _ w (hs'.put (by simpa using hlt)) hw

def xAll (n : Nat) (D : List Deferred) (E : Env) (B : Base) (G : Gh) (L : List Own) (P : Program) (ops : Array Oper) (Q : Exit → Act → World → Prop) (S : World → Prop) (fuel : Nat) (listed : Array Bool) : List Nat → Prop
  | [] => True
  | i :: r => Nx n D E B G L (xO P ops Q i (xK P ops Q S fuel (listed.setIfInBounds i true))) ∧ xAll n D E B G L P ops Q S fuel listed r
theorem x_all {ops : Array Oper} {S : World → Prop} {fuel : Nat} {listed : Array Bool} (rs : List Nat) (hr : Region.ready .any ops listed = rs) (hne : rs ≠ []) (h : xAll n D E B G L P ops Q S fuel listed rs) : Nx n D E B G L (xA P ops Q S (fuel + 1) listed) := Nx.mk fun a w hs hw => by
  refine wpAnyH_all hr hne ?_
  clear hr hne
  intro i hi
  induction rs with
  | nil => cases hi
  | cons j r ih =>
    obtain ⟨h1, h2⟩ := h
    cases List.mem_cons.1 hi with
    | inl e => subst e; exact h1.go a w hs hw
    | inr hi => exact ih h2 hi
theorem x_op {ops : Array Oper} {i : Nat} {o : Oper} (hi : ops[i]? = some o) (hg : o.guard = none) (h : Nx n D E B G L (ow P o Q K)) : Nx n D E B G L (xO P ops Q i K) := Nx.mk fun a w hs hw => by
  unfold xO wpOp; simp only [hi]; rw [if_pos (by simp [Region.wanted, hg])]; exact .inl (h.go a w hs hw)
theorem x_opY {ops : Array Oper} {i j dj : Nat} {want b : Bool} {o : Oper} (hi : ops[i]? = some o) (hg : o.guard = some (j, want)) (hj : (ops[j]?).bind (·.dst) = some dj)
    (hk : isKnown (look E dj) = true) (hy : gb (look E dj) = some b) (hb : b = want) (h : Nx n D E B G L (ow P o Q K)) : Nx n D E B G L (xO P ops Q i K) := Nx.mk fun a w hs hw => by
  unfold xO wpOp; simp only [hi]; rw [if_pos (by simp [Region.wanted, hg, yielded_of hs hj hk hy, hb])]; exact .inl (h.go a w hs hw)
theorem x_opN {ops : Array Oper} {i j dj d : Nat} {want : Bool} {g : Option Bool} {o : Oper} (hi : ops[i]? = some o) (hg : o.guard = some (j, want)) (hj : (ops[j]?).bind (·.dst) = some dj)
    (hk : isKnown (look E dj) = true) (hy : gb (look E dj) = g) (hb : g ≠ some want) (hd : o.dst = some d) (hlt : Nat.blt d n = true) (h : Nx n D ((d, undef) :: E) B G L K) : Nx n D E B G L (xO P ops Q i K) := Nx.mk fun a w hs hw => by
  unfold xO wpOp; simp only [hi]; rw [if_neg (by simpa [Region.wanted, hg, yielded_of hs hj hk hy] using hb), hd]
  exact h.go _ w (hs.put (by simpa using hlt)) hw
theorem x_k {ops : Array Oper} {G0 : Gh} {L0 : List Own} {fuel : Nat} {listed listed' : Array Bool} (hG : Gh.le G0 G) (hL : ∀ x ∈ L0, x ∈ L) (hl : listed = listed')
    (h : Nx n D E B G L (xA P ops Q (Stab B G0 L0) fuel listed')) : Nx n D E B G L (xK P ops Q (Stab B G0 L0) fuel listed) := Nx.mk fun a w hs hw =>
  ⟨Stab.of hw hG hL, by rw [hl]; exact h.go a w hs hw⟩

/-! ### Calls -/
def bodyOk (P : Program) (f : FuncId) : Bool :=
  match P.funcs[f]? with
  | some fn => !(fn.name == "runtime.NumGoroutine") && fn.body.isSome
  | none => false
theorem run_callFunc {f : FuncId} {vs : Array Value} (h : bodyOk P f = true) (w : World) : (callFunc f vs).run P w = .ok (.enter f vs) w := by
  unfold bodyOk at h
  cases hf : P.funcs[f]? with
  | none => simp [hf] at h
  | some fn =>
    simp only [hf, Bool.and_eq_true, Bool.not_eq_true', beq_eq_false_iff_ne, ne_eq] at h
    obtain ⟨h1, h2⟩ := h
    cases hb : fn.body with
    | none => simp [hb] at h2
    | some c => simp [callFunc, hf, h1, hb]

def RPost (B : Base) (Post : Value → Gh → List Own → Prop) : Ending → World → Prop :=
  fun e w' => ∃ v G' L', e = .returned v ∧ St B G' L' w' ∧ Post v G' L'

/-- A contract: what the call of a function comes to. -/
structure Fn (P : Program) (f : FuncId) (args : List Value) (G : Gh) (L : List Own) (Post : Value → Gh → List Own → Prop) : Prop where
  ok : bodyOk P f = true
  go : ∀ w, St ⟨w, G, bks L⟩ G L w → Calls P f args.toArray w (RPost ⟨w, G, bks L⟩ Post)
def Pu (P : Program) (f : FuncId) (args : List Value) (R : Value → Prop) : Prop := ∀ G, Fn P f args G [] (fun v G' L' => G' = G ∧ L' = [] ∧ R v)
def Rt (P : Program) (f : FuncId) (args : List Value) (v : Value) : Prop := Pu P f args (· = v)
/-- It hands back a value that hangs on G. -/
def PuG (P : Program) (f : FuncId) (args : List Value) (G : Gh) (R : Value → Prop) : Prop := Fn P f args G [] (fun v G' L' => G' = G ∧ L' = [] ∧ R v)

theorem Fn.mono {f : FuncId} {args : List Value} {Post Post' : Value → Gh → List Own → Prop} (h : Fn P f args G L Post) (hp : ∀ v G' L', Post v G' L' → Post' v G' L') : Fn P f args G L Post' :=
  ⟨h.ok, fun w hw => (h.go w hw).mono fun _ _ ⟨v, G', L', h1, h2, h3⟩ => ⟨v, G', L', h1, h2, hp _ _ _ h3⟩⟩

theorem run_call {fo : Operand} {l : List Operand} {tys : Array TypeId} {dst : Option Nat} {ty : TypeId} {pos : String} {aft : Array Edge} {g : Option (Nat × Bool)} {f : FuncId} {fi ca as : List Value} {a : Act} (hs : Sat n D E a)
    (hf : ev E fo = some (.func (.func f) fi.toArray ca.toArray)) (ha : evs E l = some as) (hb : bodyOk P f = true) (w : World) :
    (execOp a.eval ⟨dst, .call ⟨.value fo, l.toArray, tys⟩, ty, pos, aft, g⟩).run P w = .ok (.enter f (fi ++ as ++ ca).toArray) w := by
  have h1 : l.toArray.map a.eval = as.toArray := by rw [List.map_toArray, hs.evs ha]
  simp only [execOp, resolve, hs.ev hf, h1, Deferred.ofValue, Sem.run_bind, Sem.run_pure, Result.andThen_ok, invoke]
  rw [run_callFunc hb]
  simp

theorem c_call {fo : Operand} {l : List Operand} {tys : Array TypeId} {d : Nat} {ty : TypeId} {pos : String} {aft : Array Edge} {g : Option (Nat × Bool)} {f : FuncId} {fi ca as vs : List Value} {Lp R : List Own} {Post : Value → Gh → List Own → Prop}
    (hf : ev E fo = some (.func (.func f) fi.toArray ca.toArray)) (ha : evs E l = some as) (hv : fi ++ as ++ ca = vs) (hc : Fn P f vs G Lp Post) (hL : L.Perm (Lp ++ R)) (hlt : Nat.blt d n = true)
    (k : ∀ v G' L', Post v G' L' → Nx n D ((d, v) :: E) B G' (L' ++ R) K) : Nx n D E B G L (ow P ⟨some d, .call ⟨.value fo, l.toArray, tys⟩, ty, pos, aft, g⟩ Q K) := Nx.mk fun a w hs hw => by
  unfold ow Oper.wp
  rw [run_call hs hf ha hc.ok w, Oper.upon_enter, hv]
  have hw' := hw.perm hL
  refine (hc.go w hw'.enter).mono ?_
  rintro e w' ⟨v, G', L', rfl, h2, h3⟩
  exact (k v G' L' h3).go _ w' (hs.put (by simpa using hlt)) (hw'.back h2)
/-- No memory is handed over. -/
theorem c_fn {fo : Operand} {l : List Operand} {tys : Array TypeId} {d : Nat} {ty : TypeId} {pos : String} {aft : Array Edge} {g : Option (Nat × Bool)} {f : FuncId} {fi ca as vs : List Value} {Post : Value → Gh → List Own → Prop}
    (hf : ev E fo = some (.func (.func f) fi.toArray ca.toArray)) (ha : evs E l = some as) (hv : fi ++ as ++ ca = vs) (hc : Fn P f vs G [] Post) (hlt : Nat.blt d n = true)
    (k : ∀ v G' L', Post v G' L' → Nx n D ((d, v) :: E) B G' (L' ++ L) K) : Nx n D E B G L (ow P ⟨some d, .call ⟨.value fo, l.toArray, tys⟩, ty, pos, aft, g⟩ Q K) :=
  c_call (Lp := []) (R := L) hf ha hv hc (List.Perm.refl _) hlt k
theorem c_pu {fo : Operand} {l : List Operand} {tys : Array TypeId} {d : Nat} {ty : TypeId} {pos : String} {aft : Array Edge} {g : Option (Nat × Bool)} {f : FuncId} {fi ca as vs : List Value} {R : Value → Prop}
    (hf : ev E fo = some (.func (.func f) fi.toArray ca.toArray)) (ha : evs E l = some as) (hv : fi ++ as ++ ca = vs) (hc : PuG P f vs G R) (hlt : Nat.blt d n = true)
    (k : ∀ v, R v → Nx n D ((d, v) :: E) B G L K) : Nx n D E B G L (ow P ⟨some d, .call ⟨.value fo, l.toArray, tys⟩, ty, pos, aft, g⟩ Q K) :=
  c_fn hf ha hv hc hlt fun v _ _ ⟨h1, h2, h3⟩ => by subst h1; subst h2; exact k v h3
theorem c_rt {fo : Operand} {l : List Operand} {tys : Array TypeId} {d : Nat} {ty : TypeId} {pos : String} {aft : Array Edge} {g : Option (Nat × Bool)} {f : FuncId} {fi ca as vs : List Value} {v : Value}
    (hf : ev E fo = some (.func (.func f) fi.toArray ca.toArray)) (ha : evs E l = some as) (hv : fi ++ as ++ ca = vs) (hc : PuG P f vs G (· = v)) (hlt : Nat.blt d n = true)
    (k : Nx n D ((d, v) :: E) B G L K) : Nx n D E B G L (ow P ⟨some d, .call ⟨.value fo, l.toArray, tys⟩, ty, pos, aft, g⟩ Q K) :=
  c_pu hf ha hv hc hlt fun u hu => by subst hu; exact k
theorem q_rt {fo : Operand} {l : List Operand} {tys : Array TypeId} {d : Nat} {ty : TypeId} {pos : String} {aft : Array Edge} {g : Option (Nat × Bool)} {f : FuncId} {fi ca as vs : List Value} {v : Value} {R : Act → Prop}
    (hf : ev E fo = some (.func (.func f) fi.toArray ca.toArray)) (ha : evs E l = some as) (hv : fi ++ as ++ ca = vs) (hc : PuG P f vs G (· = v)) (hlt : Nat.blt d n = true)
    (k : Nq n D ((d, v) :: E) R) : Nq n D E (oq P ⟨some d, .call ⟨.value fo, l.toArray, tys⟩, ty, pos, aft, g⟩ (St B G L) R) := Nq.mk fun a hs => by
  refine ⟨v, fun w hw => ?_, k.go _ (hs.put (by simpa using hlt))⟩
  unfold Oper.quietAt
  rw [run_call hs hf ha hc.ok w, hv]
  refine ⟨rfl, ?_⟩
  have hw' : St B G ([] ++ L) w := hw
  refine (hc.go w hw'.enter).mono ?_
  rintro e w' ⟨u, G', L', rfl, h2, rfl, rfl, rfl⟩
  exact ⟨rfl, hw'.back h2⟩

/-! ### Entering and leaving a function -/
def ResV (P : Program) (S : World → Prop) (E : Env) : List ResultVar → List Value → Prop
  | [], [] => True
  | .tmp t :: r, v :: vs => look E t = some v ∧ ResV P S E r vs
  | .cell a T :: r, v :: vs => (∃ b o, look E a = some (.pointer (some ⟨b, o, none⟩)) ∧ ∀ w, S w → (loadVar T ⟨b, o, none⟩).run P w = .ok v w) ∧ ResV P S E r vs
  | _, _ => False

def rF (a : Act) : ResultVar → Sem Value
  | .tmp t => pure (a.tmps.getD t undef)
  | .cell x t => do loadVar t (← asAddr (a.tmps.getD x undef))

theorem run_resV {S : World → Prop} {a : Act} {w : World} (hs : Sat n D E a) (hw : S w) : ∀ {rs : List ResultVar} {vs : List Value}, ResV P S E rs vs →
    (rs.mapM (rF a)).run P w = .ok vs w
  | [], [], _ => rfl
  | [], _ :: _, h => h.elim
  | .tmp t :: r, v :: vs, ⟨h1, h2⟩ => by
    have h3 : (rF a (.tmp t)).run P w = .ok v w := by simp [rF, hs.at' t v h1]
    have ih := run_resV hs hw h2
    rw [List.mapM_cons, Sem.run_bind, h3]
    simp only [Result.andThen_ok, Sem.run_bind, ih, Sem.run_pure]
  | .cell x T :: r, v :: vs, ⟨⟨b, o, h1, h1'⟩, h2⟩ => by
    have h3 : (rF a (.cell x T)).run P w = .ok v w := by simp [rF, hs.at' x _ h1, asAddr, h1' w hw]
    have ih := run_resV hs hw h2
    rw [List.mapM_cons, Sem.run_bind, h3]
    simp only [Result.andThen_ok, Sem.run_bind, ih, Sem.run_pure]
  | .tmp _ :: _, [], h => h.elim
  | .cell _ _ :: _, [], h => h.elim

def oneOf : List Value → Value
  | [v] => v
  | vs => .tuple vs.toArray

theorem run_results {S : World → Prop} {a : Act} {w : World} {fn : Func} {rs : List ResultVar} {vs : List Value} (hs : Sat n D E a) (hw : S w) (hr : fn.results = rs.toArray) (h : ResV P S E rs vs) :
    (results fn a.tmps).run P w = .ok (oneOf vs) w := by
  have h1 := run_resV hs hw h
  have h2 : results fn a.tmps = (do let vs ← fn.results.mapM (rF a); pure (if h : vs.size = 1 then vs[0] else .tuple vs)) := by
    unfold results
    congr 1
  rw [h2, hr, List.mapM_toArray]
  have h3 : (Functor.map List.toArray (rs.mapM (rF a))).run P w = .ok vs.toArray w := by rw [Sem.run_map, h1]; rfl
  rw [Sem.run_bind, h3]
  match vs with
  | [] => simp [oneOf]
  | [v] => simp [oneOf]
  | u :: v :: r => simp [oneOf]

theorem r_ret {fn : Func} {rs : List ResultVar} {vs : List Value} {v : Value} {L' : List Own} {Post : Value → Gh → List Own → Prop} (hr : fn.results = rs.toArray) (h : ResV P (St B G L) E rs vs) (hv : oneOf vs = v) (hL : L'.Sublist L) (hp : Post v G L') :
    Nx n [] E B G L (bp P fn (RPost B Post) .ret) := Nx.mk fun a w hs hw =>
  ⟨hs.defers, v, by rw [run_results hs hw hr h, hv], v, G, L', rfl, hw.weaken hL, hp⟩
theorem r_end {fn : Func} {rs : List ResultVar} {vs : List Value} {v : Value} {L' : List Own} {Post : Value → Gh → List Own → Prop} (hr : fn.results = rs.toArray) (h : ResV P (St B G L) E rs vs) (hv : oneOf vs = v) (hL : L'.Sublist L) (hp : Post v G L') :
    Nx n [] E B G L (bp P fn (RPost B Post) .normal) := Nx.mk fun a w hs hw =>
  ⟨hs.defers, v, by rw [run_results hs hw hr h, hv], v, G, L', rfl, hw.weaken hL, hp⟩

def params : Nat → List Value → Env
  | _, [] => []
  | i, v :: r => (i, v) :: params (i + 1) r

theorem sat_params {n : Nat} (args : List Value) (hn : args.length ≤ n) :
    Sat n [] (params 0 args) { tmps := args.toArray ++ Array.replicate (n - args.toArray.size) undef, defers := [] } := by
  refine ⟨by simp; omega, rfl, fun t v hv => ?_⟩
  have key : ∀ (l : List Value) (i : Nat), look (params i l) t = some v → i ≤ t ∧ l[t - i]? = some v := by
    intro l
    induction l with
    | nil => intro i h; simp [params, look] at h
    | cons u r ih =>
      intro i h
      rw [params, look_cons] at h
      by_cases hit : i = t
      · subst hit; simpa using h
      · rw [if_neg hit] at h
        obtain ⟨h1, h2⟩ := ih (i + 1) h
        refine ⟨by omega, ?_⟩
        rw [show t - i = (t - (i + 1)) + 1 by omega]
        simpa using h2
  have h := (key args 0 hv).2
  have hlt : t < args.length := (List.getElem?_eq_some_iff.1 h).1
  rw [Array.getElem?_append_left (by simpa using hlt)]
  simpa using h

theorem fn_enter {f : FuncId} {fn : Func} {c : Code} {args : List Value} {Post : Value → Gh → List Own → Prop} (E0 : Env) (hf : P.funcs[f]? = some fn) (hok : bodyOk P f = true) (hn : fn.ntmps = n) (hb : fn.body = some c)
    (hlen : Nat.ble args.length n = true) (hE : Sub E0 (params 0 args))
    (h : ∀ B, B.G = G → B.W = bks L → Nx n [] E0 B G L (cw P c (bp P fn (RPost B Post)))) : Fn P f args G L Post := by
  refine ⟨hok, fun w hw => calls_of_wp hf hb ?_⟩
  rw [hn]
  exact (h ⟨w, G, bks L⟩ rfl rfl).go _ w ((sat_params args (by simpa using hlen)).sub hE) hw

theorem pu_enter {f : FuncId} {fn : Func} {c : Code} {args : List Value} {R : Value → Prop} (E0 : Env) (hf : P.funcs[f]? = some fn) (hok : bodyOk P f = true) (hn : fn.ntmps = n) (hb : fn.body = some c)
    (hlen : Nat.ble args.length n = true) (hE : Sub E0 (params 0 args))
    (h : ∀ B, B.W = [] → Nx n [] E0 B G [] (cw P c (bp P fn (RPost B (fun v G' L' => G' = G ∧ L' = [] ∧ R v))))) : PuG P f args G R :=
  fn_enter E0 hf hok hn hb hlen hE fun B _ hW => h B hW

/-! ### Orders, in fewer words -/
class PQ (Q : Exit → Act → World → Prop) : Prop where
  hq : ∀ c (a : Act) w d v, Q (.panic c) (a.put d v) w → Q (.panic c) a w
instance {fn : Func} {R : Ending → World → Prop} : PQ (bp P fn R) := ⟨fun c a w d v h => by
  unfold bp at h ⊢; simp only [bodyPost] at h ⊢; cases d <;> exact h⟩
instance {K : Act → World → Prop} {Q : Exit → Act → World → Prop} [h : PQ Q] : PQ (tn K Q) := ⟨fun c a w d v q => h.hq c a w d v q⟩
instance {id : Nat} {Q : Exit → Act → World → Prop} [h : PQ Q] : PQ (bl id Q) := ⟨fun c a w d v q => h.hq c a w d v q⟩

def tkB (ops : Array Oper) (listed : Array Bool) (i : Nat) (listed' : Array Bool) : Bool :=
  Region.noSelect ops && Region.free .any ops listed i && (Region.ready .any ops listed).contains i && (listed.setIfInBounds i true == listed')
theorem x_tk {ops : Array Oper} {G0 : Gh} {L0 : List Own} {fuel : Nat} {listed listed' : Array Bool} [PQ Q] (i : Nat) {o : Oper} {d : Nat} {v : Value} (hi : ops[i]? = some o)
    (hb : tkB ops listed i listed' = true) (hgu : o.guard = none) (hG : Gh.le G0 G) (hL : L0.Sublist L) (hg : Gives P n D E (Stab B G0 L0) o v) (hd : o.dst = some d) (hlt : Nat.blt d n = true)
    (k : Nx n D ((d, v) :: E) B G L (xA P ops Q (Stab B G0 L0) fuel listed')) : Nx n D E B G L (xA P ops Q (Stab B G0 L0) (fuel + 1) listed) := by
  simp only [tkB, Bool.and_eq_true] at hb
  exact x_take i hi hb.1.1.1 hb.1.1.2 hb.1.2 (fun c a w q => PQ.hq c a w _ _ q) hg hgu hd hlt hG (fun _ h => hL.subset h) (eq_of_beq hb.2) k
theorem wpAnyH_weaken {ops : Array Oper} {S S' : World → Prop} (hS : ∀ w, S' w → S w) : ∀ (fuel : Nat) (listed : Array Bool) (a : Act) (w : World), wpAnyH P .any ops Q S' fuel listed a w → wpAnyH P .any ops Q S fuel listed a w
  | 0, _, _, _, h => h
  | fuel + 1, _, _, _, h => ⟨h.1, fun i hi => wpOp_mono (fun a' w' h' => ⟨hS w' h'.1, wpAnyH_weaken hS fuel _ a' w' h'.2⟩) (h.2 i hi)⟩
/-- What is laid down meanwhile is kept from here on. -/
theorem x_ks {ops : Array Oper} {G0 : Gh} {L0 : List Own} {fuel : Nat} {listed listed' : Array Bool} (hG : Gh.le G0 G) (hL : L0.Sublist L) (hl : (listed == listed') = true)
    (h : Nx n D E B G L (xA P ops Q (Stab B G L) fuel listed')) : Nx n D E B G L (xK P ops Q (Stab B G0 L0) fuel listed) := Nx.mk fun a w hs hw =>
  ⟨Stab.of hw hG (fun _ h => hL.subset h), wpAnyH_weaken (S := Stab B G0 L0) (S' := Stab B G L) (fun w' hw' => by obtain ⟨G', L', h1, h2, h3⟩ := hw'; exact ⟨G', L', hG.trans h1, fun x hx => h2 x (hL.subset hx), h3⟩) _ _ _ _ (by rw [eq_of_beq hl]; exact h.go a w hs hw)⟩
theorem x_kk {ops : Array Oper} {G0 : Gh} {L0 : List Own} {fuel : Nat} {listed listed' : Array Bool} (hG : Gh.le G0 G) (hL : L0.Sublist L) (hl : (listed == listed') = true)
    (h : Nx n D E B G L (xA P ops Q (Stab B G0 L0) fuel listed')) : Nx n D E B G L (xK P ops Q (Stab B G0 L0) fuel listed) := x_k hG (fun _ h => hL.subset h) (eq_of_beq hl) h

end
attribute [irreducible] cw lw tn bl bp qw qK ow oq xA xK xO LI CI
end Go.E
