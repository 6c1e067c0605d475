/- Contracts and plain laws that the statement rests on, part 2. Conditions: as each says. -/
import Derived.Test.YtladnpnemcdngaaGreatDoorZ1
import Derived.Test.YtladnpnemcdngaaGreatDoorRows
import Derived.Below
import Derived.Laws.MakeOwn
import Derived.Laws.Externs
import Derived.MapKept
import Derived.Lib.MinMax
set_option linter.unusedVariables false
set_option linter.unusedSimpArgs false
/-! EngI -/
namespace Go.E
inductive Fr where
  | seq (c : Code)
  | blk (id : Nat)
  | lp (K : Act → World → Prop)
inductive Cu where
  | code (c : Code)
  | exit (e : Exit)
  | ops (a l : List Oper) (i : Nat) (pm : List Nat)
def kk (P : Program) : List Fr → (Exit → Act → World → Prop) → Exit → Act → World → Prop
  | [], Q => Q
  | .seq c :: k, Q => tn (cw P c (kk P k Q)) (kk P k Q)
  | .blk id :: k, Q => bl id (kk P k Q)
  | .lp K :: k, Q => tn K (kk P k Q)
def cu (P : Program) (c : Cu) (k : List Fr) (Q : Exit → Act → World → Prop) : Act → World → Prop :=
  match c with
  | .code c => cw P c (kk P k Q)
  | .exit e => kk P k Q e
  | .ops a l _ _ => lw P a.toArray (kk P k Q) l
structure Ms where
  E : Env
  c : Cu
  k : List Fr
  p : Option Prop
def elemN (j : Nat) : List Nat → Bool
  | [] => false
  | x :: r => match Nat.beq x j with
    | true => true
    | false => elemN j r
def eqb : Bool → Bool → Bool
  | true, true => true
  | false, false => true
  | _, _ => false
/-- Is the operation wanted (its guard is decided)? -/
def gdO (E : Env) (a : List Oper) (pm : List Nat) (o : Oper) : Option Bool :=
  match o.guard with
  | none => some true
  | some (j, w) => match elemN j pm with
    | false => none
    | true => match a[j]? with
      | some oj => match oj.dst with
        | some dj => match look E dj with
          | some (.bool b) => some (eqb b w)
          | some (.tuple _) => some false
          | _ => none
        | none => none
      | none => none
def step (t : Tbl) (n : Nat) (E : Env) (c : Cu) (k : List Fr) : Option Ms :=
  match c with
  | .code c => match c with
    | .skip => some ⟨E, .exit .normal, k, none⟩
    | .region _ ⟨l⟩ dr => match dr with
      | false => some ⟨E, .ops l l 0 [], k, none⟩
      | true => none
    | .seq x y => some ⟨E, .code x, .seq y :: k, none⟩
    | .block id x => some ⟨E, .code x, .blk id :: k, none⟩
    | .exit id => some ⟨E, .exit (.exit id), k, none⟩
    | .ret => some ⟨E, .exit .ret, k, none⟩
    | _ => none
  | .exit e => match k with
    | .seq y :: k => match e with
      | .normal => some ⟨E, .code y, k, none⟩
      | .ret => some ⟨E, .exit .ret, k, none⟩
      | .exit i => some ⟨E, .exit (.exit i), k, none⟩
      | _ => none
    | .blk id :: k => match e with
      | .normal => some ⟨E, .exit .normal, k, none⟩
      | .ret => some ⟨E, .exit .ret, k, none⟩
      | .exit i => match Nat.beq i id with
        | true => some ⟨E, .exit .normal, k, none⟩
        | false => some ⟨E, .exit (.exit i), k, none⟩
      | _ => none
    | .lp _ :: k => match e with
      | .ret => some ⟨E, .exit .ret, k, none⟩
      | .exit i => some ⟨E, .exit (.exit i), k, none⟩
      | _ => none
    | [] => none
  | .ops a l i pm => match l with
    | [] => some ⟨E, .exit .normal, k, none⟩
    | o :: r => match gdO E a pm o with
      | some true => match evOp t E o.op with
        | some (v, p) => match o.dst with
          | some d => match Nat.blt d n with
            | true => some ⟨(d, v) :: E, .ops a r (i + 1) pm, k, p⟩
            | false => none
          | none => none
        | none => none
      | some false => match o.dst with
        | some d => match Nat.blt d n with
          | true => some ⟨(d, undef) :: E, .ops a r (i + 1) (i :: pm), k, none⟩
          | false => none
        | none => none
      | none => none
structure Rs where
  E : Env
  c : Cu
  k : List Fr
  p : List Prop
def goN (t : Tbl) (n : Nat) : Nat → Env → Cu → List Fr → List Prop → Rs
  | 0, E, c, k, p => ⟨E, c, k, p⟩
  | f + 1, E, c, k, p => match step t n E c k with
    | none => ⟨E, c, k, p⟩
    | some ⟨E', c', k', none⟩ => goN t n f E' c' k' p
    | some ⟨E', c', k', some q⟩ => goN t n f E' c' k' (q :: p)
/-- At least one step. -/
def runN (t : Tbl) (n f : Nat) (E : Env) (c : Cu) (k : List Fr) : Option Rs :=
  match step t n E c k with
  | none => none
  | some ⟨E', c', k', none⟩ => some (goN t n f E' c' k' [])
  | some ⟨E', c', k', some q⟩ => some (goN t n f E' c' k' [q])
def AllP : List Prop → Prop
  | [] => True
  | p :: r => p ∧ AllP r

section
variable {P : Program} {t : Tbl} {n : Nat} {D : List Deferred} {E : Env} {B : Base} {G : Gh} {L : List Own} {k : List Fr} {Q : Exit → Act → World → Prop} {K : Act → World → Prop}
theorem eqb_true {b w : Bool} (h : eqb b w = true) : b = w := by cases b <;> cases w <;> simp_all [eqb]
theorem eqb_false {b w : Bool} (h : eqb b w = false) : b ≠ w := by cases b <;> cases w <;> simp_all [eqb]
theorem gdO_true {a l : List Oper} {pm : List Nat} {o : Oper} (h : gdO E a pm o = some true) (k : Nx n D E B G L (ow P o Q (lw P a.toArray Q l))) : Nx n D E B G L (lw P a.toArray Q (o :: l)) := by
  unfold gdO at h
  split at h
  · rename_i hg; exact l_op hg k
  · rename_i j w hg
    split at h
    · cases h
    · split at h
      · rename_i oj hj
        split at h
        · rename_i dj hdj
          have hjj : (a.toArray[j]?).bind (·.dst) = some dj := by simp [hj, hdj]
          split at h
          · rename_i b hb
            simp only [Option.some.injEq] at h
            exact l_yes hg hjj (by rw [hb]; rfl) (by rw [hb]; rfl) (eqb_true h) k
          · cases h
          · cases h
        · cases h
      · cases h
theorem gdO_false {a l : List Oper} {pm : List Nat} {o : Oper} {d : Nat} (h : gdO E a pm o = some false) (hd : o.dst = some d) (hlt : Nat.blt d n = true) (k : Nx n D ((d, undef) :: E) B G L (lw P a.toArray Q l)) : Nx n D E B G L (lw P a.toArray Q (o :: l)) := by
  unfold gdO at h
  split at h
  · cases h
  · rename_i j w hg
    split at h
    · cases h
    · split at h
      · rename_i oj hj
        split at h
        · rename_i dj hdj
          have hjj : (a.toArray[j]?).bind (·.dst) = some dj := by simp [hj, hdj]
          split at h
          · rename_i b hb
            simp only [Option.some.injEq] at h
            exact l_no' hg hd hlt hjj (by rw [hb]; rfl) (g := some b) (by rw [hb]; rfl) (by simpa using eqb_false h) k
          · rename_i u hb
            exact l_no' hg hd hlt hjj (by rw [hb]; rfl) (g := none) (by rw [hb]; rfl) (by simp) k
          · cases h
        · cases h
      · cases h
theorem step_ok [Tab P t] {c c' : Cu} {k k' : List Fr} {E' : Env} {p : Option Prop} (h : step t n E c k = some ⟨E', c', k', p⟩) (hp : holdsO p) (hn : Nx n D E' B G L (cu P c' k' Q)) : Nx n D E B G L (cu P c k Q) := by
  unfold step at h
  split at h
  · split at h
    · simp only [Option.some.injEq, Ms.mk.injEq] at h; obtain ⟨rfl, rfl, rfl, rfl⟩ := h; exact s_skip hn
    · split at h
      · simp only [Option.some.injEq, Ms.mk.injEq] at h; obtain ⟨rfl, rfl, rfl, rfl⟩ := h; exact s_region hn
      · cases h
    · simp only [Option.some.injEq, Ms.mk.injEq] at h; obtain ⟨rfl, rfl, rfl, rfl⟩ := h; exact s_seq hn
    · simp only [Option.some.injEq, Ms.mk.injEq] at h; obtain ⟨rfl, rfl, rfl, rfl⟩ := h; exact s_block hn
    · simp only [Option.some.injEq, Ms.mk.injEq] at h; obtain ⟨rfl, rfl, rfl, rfl⟩ := h; exact s_exit hn
    · simp only [Option.some.injEq, Ms.mk.injEq] at h; obtain ⟨rfl, rfl, rfl, rfl⟩ := h; exact s_ret hn
    · cases h
  · split at h
    · split at h
      · simp only [Option.some.injEq, Ms.mk.injEq] at h; obtain ⟨rfl, rfl, rfl, rfl⟩ := h; exact k_then hn
      · simp only [Option.some.injEq, Ms.mk.injEq] at h; obtain ⟨rfl, rfl, rfl, rfl⟩ := h; exact k_then_r hn
      · simp only [Option.some.injEq, Ms.mk.injEq] at h; obtain ⟨rfl, rfl, rfl, rfl⟩ := h; exact k_then_e hn
      · cases h
    · split at h
      · simp only [Option.some.injEq, Ms.mk.injEq] at h; obtain ⟨rfl, rfl, rfl, rfl⟩ := h; exact k_blk hn
      · simp only [Option.some.injEq, Ms.mk.injEq] at h; obtain ⟨rfl, rfl, rfl, rfl⟩ := h; exact k_blk_r hn
      · split at h
        · rename_i hb; have := Nat.eq_of_beq_eq_true hb; subst this
          simp only [Option.some.injEq, Ms.mk.injEq] at h; obtain ⟨rfl, rfl, rfl, rfl⟩ := h; exact k_blk_hit hn
        · rename_i hb
          simp only [Option.some.injEq, Ms.mk.injEq] at h; obtain ⟨rfl, rfl, rfl, rfl⟩ := h; exact k_blk_miss hb hn
      · cases h
    · split at h
      · simp only [Option.some.injEq, Ms.mk.injEq] at h; obtain ⟨rfl, rfl, rfl, rfl⟩ := h; exact k_then_r hn
      · simp only [Option.some.injEq, Ms.mk.injEq] at h; obtain ⟨rfl, rfl, rfl, rfl⟩ := h; exact k_then_e hn
      · cases h
    · cases h
  · split at h
    · simp only [Option.some.injEq, Ms.mk.injEq] at h; obtain ⟨rfl, rfl, rfl, rfl⟩ := h; exact l_nil hn
    · rename_i o r
      split at h
      · rename_i hg
        split at h
        · rename_i v q hv
          split at h
          · rename_i d hd
            split at h
            · rename_i hlt
              simp only [Option.some.injEq, Ms.mk.injEq] at h; obtain ⟨rfl, rfl, rfl, rfl⟩ := h
              refine gdO_true hg ?_
              obtain ⟨dst, op, ty, pos, aft, gd⟩ := o
              exact v_op (evOp_ok (t := t) hv hp) hd hlt hn
            · cases h
          · cases h
        · cases h
      · rename_i hg
        split at h
        · rename_i d hd
          split at h
          · rename_i hlt
            simp only [Option.some.injEq, Ms.mk.injEq] at h; obtain ⟨rfl, rfl, rfl, rfl⟩ := h
            exact gdO_false hg hd hlt hn
          · cases h
        · cases h
      · cases h
theorem goN_ok [Tab P t] : ∀ (f : Nat) {E E' : Env} {c c' : Cu} {k k' : List Fr} {p p' : List Prop}, goN t n f E c k p = ⟨E', c', k', p'⟩ → AllP p' → Nx n D E' B G L (cu P c' k' Q) → AllP p ∧ Nx n D E B G L (cu P c k Q)
  | 0, E, E', c, c', k, k', p, p', h, hp, hn => by
    simp only [goN, Rs.mk.injEq] at h; obtain ⟨rfl, rfl, rfl, rfl⟩ := h; exact ⟨hp, hn⟩
  | f + 1, E, E', c, c', k, k', p, p', h, hp, hn => by
    unfold goN at h
    split at h
    · simp only [Rs.mk.injEq] at h; obtain ⟨rfl, rfl, rfl, rfl⟩ := h; exact ⟨hp, hn⟩
    · rename_i E1 c1 k1 hs
      have := goN_ok f h hp hn
      exact ⟨this.1, step_ok hs trivial this.2⟩
    · rename_i E1 c1 k1 q hs
      have := goN_ok f h hp hn
      exact ⟨this.1.2, step_ok hs this.1.1 this.2⟩
theorem run [Tab P t] {E' : Env} {c c' : Cu} {k k' : List Fr} {p' : List Prop} (f : Nat) (h : runN t n f E c k = some ⟨E', c', k', p'⟩) (hp : AllP p') (hn : Nx n D E' B G L (cu P c' k' Q)) : Nx n D E B G L (cu P c k Q) := by
  unfold runN at h
  split at h
  · cases h
  · rename_i E1 c1 k1 hs
    simp only [Option.some.injEq] at h
    exact step_ok hs trivial (goN_ok f h hp hn).2
  · rename_i E1 c1 k1 q hs
    simp only [Option.some.injEq] at h
    have := goN_ok f h hp hn
    exact step_ok hs this.1.1 this.2

/-! ### The stops -/
theorem k_op {a l : List Oper} {i : Nat} {pm : List Nat} {o : Oper} (hg : gdO E a pm o = some true) (h : Nx n D E B G L (ow P o (kk P k Q) (cu P (.ops a l (i + 1) pm) k Q))) : Nx n D E B G L (cu P (.ops a (o :: l) i pm) k Q) := gdO_true hg h
theorem k_if {c : Operand} {x y : Code} {p : Prop} [Decidable p] (hc : ev E c = some (.bool (decide p))) (h1 : p → Nx n D E B G L (cu P (.code x) k Q)) (h2 : ¬ p → Nx n D E B G L (cu P (.code y) k Q)) : Nx n D E B G L (cu P (.code (.cond c x y)) k Q) := s_if hc h1 h2
theorem k_cd {c : Operand} {x y : Code} {b : Bool} (hc : ev E c = some (.bool b)) (h1 : b = true → Nx n D E B G L (cu P (.code x) k Q)) (h2 : b = false → Nx n D E B G L (cu P (.code y) k Q)) : Nx n D E B G L (cu P (.code (.cond c x y)) k Q) := s_cond hc h1 h2
theorem k_tt {c : Operand} {x y : Code} {b : Bool} (hc : ev E c = some (.bool b)) (hb : b = true) (h1 : Nx n D E B G L (cu P (.code x) k Q)) : Nx n D E B G L (cu P (.code (.cond c x y)) k Q) := s_true hc hb h1
theorem k_ff {c : Operand} {x y : Code} {b : Bool} (hc : ev E c = some (.bool b)) (hb : b = false) (h1 : Nx n D E B G L (cu P (.code y) k Q)) : Nx n D E B G L (cu P (.code (.cond c x y)) k Q) := s_false hc hb h1
theorem Nx.re {d : Nat} {v v' : Value} (hd : look E d = some v) (hv : v = v') (h : Nx n D ((d, v') :: E) B G L K) : Nx n D E B G L K := Nx.mk fun a w hs hw => by
  subst hv
  refine h.go a w ⟨hs.size, hs.defers, fun t u hu => ?_⟩ hw
  rw [look_cons] at hu
  by_cases hdt : d = t
  · subst hdt; rw [if_pos rfl, Option.some.injEq] at hu; subst hu; exact hs.at' _ _ hd
  · rw [if_neg hdt] at hu; exact hs.at' _ _ hu
/-- The guard's index and place. -/
def gdJ (a : List Oper) (o : Oper) : Option (Nat × Nat) :=
  match o.guard with
  | some (j, _) => match a[j]? with
    | some oj => match oj.dst with
      | some dj => some (j, dj)
      | none => none
    | none => none
  | none => none
theorem k_g {a l : List Oper} {i j dj : Nat} {pm : List Nat} {o : Oper} {p : Prop} [Decidable p] (_hg : gdJ a o = some (j, dj)) (hy : look E dj = some (.bool (decide p)))
    (h1 : p → Nx n D ((dj, .bool true) :: E) B G L (cu P (.ops a (o :: l) i (j :: pm)) k Q)) (h2 : ¬ p → Nx n D ((dj, .bool false) :: E) B G L (cu P (.ops a (o :: l) i (j :: pm)) k Q)) : Nx n D E B G L (cu P (.ops a (o :: l) i pm) k Q) := by
  by_cases h : p
  · exact Nx.re hy (by simp [h]) (h1 h)
  · exact Nx.re hy (by simp [h]) (h2 h)
theorem k_gt {a l : List Oper} {i j dj : Nat} {pm : List Nat} {o : Oper} {b : Bool} (_hg : gdJ a o = some (j, dj)) (hy : look E dj = some (.bool b)) (hb : b = true)
    (h1 : Nx n D ((dj, .bool true) :: E) B G L (cu P (.ops a (o :: l) i (j :: pm)) k Q)) : Nx n D E B G L (cu P (.ops a (o :: l) i pm) k Q) := Nx.re hy (by rw [hb]) h1
theorem k_gf {a l : List Oper} {i j dj : Nat} {pm : List Nat} {o : Oper} {b : Bool} (_hg : gdJ a o = some (j, dj)) (hy : look E dj = some (.bool b)) (hb : b = false)
    (h1 : Nx n D ((dj, .bool false) :: E) B G L (cu P (.ops a (o :: l) i (j :: pm)) k Q)) : Nx n D E B G L (cu P (.ops a (o :: l) i pm) k Q) := Nx.re hy (by rw [hb]) h1
theorem k_gb {a l : List Oper} {i j dj : Nat} {pm : List Nat} {o : Oper} {b : Bool} (_hg : gdJ a o = some (j, dj)) (hy : look E dj = some (.bool b))
    (h1 : b = true → Nx n D ((dj, .bool true) :: E) B G L (cu P (.ops a (o :: l) i (j :: pm)) k Q)) (h2 : b = false → Nx n D ((dj, .bool false) :: E) B G L (cu P (.ops a (o :: l) i (j :: pm)) k Q)) : Nx n D E B G L (cu P (.ops a (o :: l) i pm) k Q) := by
  cases b with
  | true => exact Nx.re hy rfl (h1 rfl)
  | false => exact Nx.re hy rfl (h2 rfl)
theorem k_any {c : Code} (h : Nx n D E B G L (cw P c (kk P k Q))) : Nx n D E B G L (cu P (.code c) k Q) := h
theorem k_bk {e : Exit} (h : Nx n D E B G L (cu P (.exit e) k Q)) : Nx n D E B G L (kk P k Q e) := h
instance kkPQ [h : PQ Q] : PQ (kk P k Q) := by
  induction k with
  | nil => exact h
  | cons f k ih => cases f <;> (unfold kk; infer_instance)
theorem k_loop {ι : Type} {c : Code} (Pre : ι → Prop) (Ei : ι → Env) (Gi : ι → Gh) (Li : ι → List Own) (μ : ι → Nat) (i0 : ι) (h0 : Pre i0)
    (hE : Sub (Ei i0) E) (hG : Gi i0 = G) (hL : (Li i0).Sublist L)
    (round : ∀ i, Pre i → Nx n D (Ei i) B (Gi i) (Li i) (cu P (.code c) (.lp (LI n D B Pre Ei Gi Li μ (μ i)) :: k) Q)) : Nx n D E B G L (cu P (.code (.loop c)) k Q) :=
  s_loop Pre Ei Gi Li μ i0 h0 hE hG hL round
theorem k_rd {ι : Type} {Pre : ι → Prop} {Ei : ι → Env} {Gi : ι → Gh} {Li : ι → List Own} {μ : ι → Nat} {m : Nat} (j : ι) (h1 : Pre j) (h2 : μ j < m)
    (hE : Sub (Ei j) E) (hG : Gi j = G) (hL : (Li j).Sublist L) : Nx n D E B G L (cu P (.exit .normal) (.lp (LI n D B Pre Ei Gi Li μ m) :: k) Q) := k_then (k_round j h1 h2 hE hG hL)
theorem k_rr {fn : Func} {rs : List ResultVar} {vs : List Value} {v : Value} {L' : List Own} {Post : Value → Gh → List Own → Prop} (hr : fn.results = rs.toArray) (h : ResV P (St B G L) E rs vs)
    (hv : oneOf vs = v) (hL : L'.Sublist L) (hP : Post v G L') : Nx n [] E B G L (cu P (.exit .ret) [] (bp P fn (RPost B Post))) := r_ret hr h hv hL hP
theorem k_re {fn : Func} {rs : List ResultVar} {vs : List Value} {v : Value} {L' : List Own} {Post : Value → Gh → List Own → Prop} (hr : fn.results = rs.toArray) (h : ResV P (St B G L) E rs vs)
    (hv : oneOf vs = v) (hL : L'.Sublist L) (hP : Post v G L') : Nx n [] E B G L (cu P (.exit .normal) [] (bp P fn (RPost B Post))) := r_end hr h hv hL hP

/-! ### Any order: many at once -/
def pmO (o : Oper) : List Nat :=
  match o.guard with
  | some (j, _) => [j]
  | none => []
def gdL (E : Env) (a : List Oper) (o : Oper) : Option Bool := gdO E a (pmO o) o
theorem gdO_cases {a : List Oper} {pm : List Nat} {o : Oper} {x : Bool} (h : gdO E a pm o = some x) :
    (o.guard = none ∧ x = true) ∨ ∃ j w dj, o.guard = some (j, w) ∧ (a.toArray[j]?).bind (·.dst) = some dj ∧ isKnown (look E dj) = true ∧ ((∃ b, gb (look E dj) = some b ∧ x = eqb b w) ∨ (gb (look E dj) = none ∧ x = false)) := by
  unfold gdO at h
  split at h
  · rename_i hg; simp only [Option.some.injEq] at h; exact .inl ⟨hg, h.symm⟩
  · rename_i j w hg
    split at h
    · cases h
    · split at h
      · rename_i oj hj
        split at h
        · rename_i dj hdj
          have hjj : (a.toArray[j]?).bind (·.dst) = some dj := by simp [hj, hdj]
          split at h
          · rename_i b hb
            simp only [Option.some.injEq] at h
            exact .inr ⟨j, w, dj, hg, hjj, by rw [hb]; rfl, .inl ⟨b, by rw [hb]; rfl, h.symm⟩⟩
          · rename_i u hb
            simp only [Option.some.injEq] at h
            exact .inr ⟨j, w, dj, hg, hjj, by rw [hb]; rfl, .inr ⟨by rw [hb]; rfl, h.symm⟩⟩
          · cases h
        · cases h
      · cases h
theorem x_tkg {ops : List Oper} {G0 : Gh} {L0 : List Own} {fuel : Nat} {listed : Array Bool} (listed' : Array Bool) [PQ Q] (i : Nat) {o : Oper} {d : Nat} {v : Value} (hi : ops.toArray[i]? = some o)
    (hb : tkB ops.toArray listed i listed' = true) (hgu : gdL E ops o = some true) (hG : Gh.le G0 G) (hL : L0.Sublist L) (hg : Gives P n D E (Stab B G0 L0) o v) (hd : o.dst = some d) (hlt : Nat.blt d n = true)
    (k : Nx n D ((d, v) :: E) B G L (xA P ops.toArray Q (Stab B G0 L0) fuel listed')) : Nx n D E B G L (xA P ops.toArray Q (Stab B G0 L0) (fuel + 1) listed) := by
  rcases gdO_cases hgu with ⟨h1, _⟩ | ⟨j, w, dj, h1, h2, h3, ⟨b, h4, h5⟩ | ⟨_, h5⟩⟩
  · exact x_tk i hi hb h1 hG hL hg hd hlt k
  · simp only [tkB, Bool.and_eq_true] at hb
    exact x_takeY i hi hb.1.1.1 hb.1.1.2 hb.1.2 (fun c a w q => PQ.hq c a w _ _ q) hg h1 h2 h3 h4 (eqb_true h5.symm) hd hlt hG (fun _ h => hL.subset h) (eq_of_beq hb.2) k
  · cases h5
theorem x_tkn {ops : List Oper} {G0 : Gh} {L0 : List Own} {fuel : Nat} {listed : Array Bool} (listed' : Array Bool) [PQ Q] (i : Nat) {o : Oper} {d : Nat} (hi : ops.toArray[i]? = some o)
    (hb : tkB ops.toArray listed i listed' = true) (hgu : gdL E ops o = some false) (hG : Gh.le G0 G) (hL : L0.Sublist L) (hd : o.dst = some d) (hlt : Nat.blt d n = true)
    (k : Nx n D ((d, undef) :: E) B G L (xA P ops.toArray Q (Stab B G0 L0) fuel listed')) : Nx n D E B G L (xA P ops.toArray Q (Stab B G0 L0) (fuel + 1) listed) := by
  simp only [tkB, Bool.and_eq_true] at hb
  rcases gdO_cases hgu with ⟨_, h1⟩ | ⟨j, w, dj, h1, h2, h3, ⟨b, h4, h5⟩ | ⟨h4, _⟩⟩
  · cases h1
  · exact x_takeN i hi hb.1.1.1 hb.1.1.2 hb.1.2 (fun c a w q => PQ.hq c a w _ _ q) h1 h2 h3 h4 (by simpa using eqb_false h5.symm) hd hlt hG (fun _ h => hL.subset h) (eq_of_beq hb.2) k
  · exact x_takeN i hi hb.1.1.1 hb.1.1.2 hb.1.2 (fun c a w q => PQ.hq c a w _ _ q) h1 h2 h3 h4 (by simp) hd hlt hG (fun _ h => hL.subset h) (eq_of_beq hb.2) k
theorem x_opg {ops : List Oper} {i : Nat} {o : Oper} (hi : ops.toArray[i]? = some o) (hgu : gdL E ops o = some true) (h : Nx n D E B G L (ow P o Q K)) : Nx n D E B G L (xO P ops.toArray Q i K) := by
  rcases gdO_cases hgu with ⟨h1, _⟩ | ⟨j, w, dj, h1, h2, h3, ⟨b, h4, h5⟩ | ⟨_, h5⟩⟩
  · exact x_op hi h1 h
  · exact x_opY hi h1 h2 h3 h4 (eqb_true h5.symm) h
  · cases h5
def tksB (ops : Array Oper) : List Nat → Array Bool → Array Bool → Bool
  | [], l, l' => l == l'
  | i :: r, l, l' => Region.free .any ops l i && (Region.ready .any ops l).contains i && tksB ops r (l.setIfInBounds i true) l'
def takeN (t : Tbl) (n : Nat) (ops : List Oper) : List Nat → Env → List Prop → Option (Env × List Prop)
  | [], E, p => some (E, p)
  | i :: r, E, p => match ops[i]? with
    | none => none
    | some o => match o.dst with
      | none => none
      | some d => match Nat.blt d n with
        | false => none
        | true => match gdL E ops o with
          | none => none
          | some false => takeN t n ops r ((d, undef) :: E) p
          | some true => match evOp t E o.op with
            | none => none
            | some (v, none) => takeN t n ops r ((d, v) :: E) p
            | some (v, some q) => takeN t n ops r ((d, v) :: E) (q :: p)
theorem takeN_ok [PQ Q] [Tab P t] {ops : List Oper} {G0 : Gh} {L0 : List Own} (hsel : Region.noSelect ops.toArray = true) (hG : Gh.le G0 G) (hL : L0.Sublist L) : ∀ (is : List Nat) {E E' : Env} {p p' : List Prop} {fuel : Nat} {listed listed' : Array Bool},
    tksB ops.toArray is listed listed' = true → takeN t n ops is E p = some (E', p') → AllP p' → Nx n D E' B G L (xA P ops.toArray Q (Stab B G0 L0) fuel listed') → AllP p ∧ Nx n D E B G L (xA P ops.toArray Q (Stab B G0 L0) (fuel + is.length) listed)
  | [], E, E', p, p', fuel, listed, listed', hb, h, hp, hn => by
    simp only [takeN, Option.some.injEq, Prod.mk.injEq] at h; obtain ⟨rfl, rfl⟩ := h
    have := eq_of_beq (a := listed) (b := listed') (by simpa [tksB] using hb); subst this; exact ⟨hp, hn⟩
  | i :: r, E, E', p, p', fuel, listed, listed', hb, h, hp, hn => by
    simp only [tksB, Bool.and_eq_true] at hb
    have tk : tkB ops.toArray listed i (listed.setIfInBounds i true) = true := by simp only [tkB, Bool.and_eq_true]; exact ⟨⟨⟨hsel, hb.1.1⟩, hb.1.2⟩, beq_self_eq_true _⟩
    unfold takeN at h
    split at h
    · cases h
    · rename_i o ho
      have hi : ops.toArray[i]? = some o := by simpa using ho
      split at h
      · cases h
      · rename_i d hd
        split at h
        · cases h
        · rename_i hlt
          split at h
          · cases h
          · rename_i hg
            have ih := takeN_ok hsel hG hL r hb.2 h hp hn
            exact ⟨ih.1, x_tkn _ i hi tk hg hG hL hd hlt ih.2⟩
          · rename_i hg
            obtain ⟨dst, op, ty, pos, aft, gd⟩ := o
            split at h
            · cases h
            · rename_i v hv
              have ih := takeN_ok hsel hG hL r hb.2 h hp hn
              exact ⟨ih.1, x_tkg _ i hi tk hg hG hL (evOp_ok (t := t) hv trivial) hd hlt ih.2⟩
            · rename_i v q hv
              have ih := takeN_ok hsel hG hL r hb.2 h hp hn
              exact ⟨ih.1.2, x_tkg _ i hi tk hg hG hL (evOp_ok (t := t) hv ih.1.1) hd hlt ih.2⟩
theorem x_tks [PQ Q] [Tab P t] {ops : List Oper} {G0 : Gh} {L0 : List Own} (is : List Nat) {E' : Env} {p' : List Prop} {fuel fuel' : Nat} {listed : Array Bool} (listed' : Array Bool) (hsel : Region.noSelect ops.toArray = true) (hb : tksB ops.toArray is listed listed' = true)
    (hf : Nat.beq (fuel + is.length) fuel' = true) (h : takeN t n ops is E [] = some (E', p')) (hG : Gh.le G0 G) (hL : L0.Sublist L) (hp : AllP p') (hn : Nx n D E' B G L (xA P ops.toArray Q (Stab B G0 L0) fuel listed')) : Nx n D E B G L (xA P ops.toArray Q (Stab B G0 L0) fuel' listed) := by
  have := Nat.eq_of_beq_eq_true hf; subst this
  exact (takeN_ok hsel hG hL is hb h hp hn).2
/-! Memory handed over, one block -/
class DelB (L : List Own) (b : Nat) (cs : outParam (List Value)) (T : outParam TypeId) (R : outParam (List Own)) : Prop where
  del : Del (.blk b (.cells cs.toArray T (0, 0))) L R
instance {b : Nat} {cs : List Value} {T : TypeId} {r : List Own} : DelB (.blk b (.cells (List.toArray cs) T (0, 0)) :: r) b cs T r := ⟨.here⟩
instance {b : Nat} {cs : List Value} {T : TypeId} {z : Own} {r r' : List Own} [h : DelB r b cs T r'] : DelB (z :: r) b cs T (z :: r') := ⟨.there h.del⟩
theorem c_m1 {fo : Operand} {l : List Operand} {tys : Array TypeId} {d : Nat} {ty : TypeId} {pos : String} {aft : Array Edge} {g : Option (Nat × Bool)} {f : FuncId} {fi ca az vs : List Value} {b : Nat} {cs : List Value} {T : TypeId} {R : List Own} {Post : Value → Gh → List Own → Prop}
    [hd : DelB L b cs T R] (hf : ev E fo = some (.func (.func f) fi.toArray ca.toArray)) (ha : evs E l = some az) (hv : fi ++ az ++ ca = vs) (hc : Fn P f vs G [.blk b (.cells cs.toArray T (0, 0))] Post) (hlt : Nat.blt d n = true)
    (k : ∀ v G' L', Post v G' L' → Nx n D ((d, v) :: E) B G' (L' ++ R) K) : Nx n D E B G L (ow P ⟨some d, .call ⟨.value fo, l.toArray, tys⟩, ty, pos, aft, g⟩ Q K) :=
  c_call (Lp := [.blk b (.cells cs.toArray T (0, 0))]) hf ha hv hc hd.del.perm hlt k
/-- One of the cells, which is not known. -/
theorem c_ldM {T T0 : TypeId} {x : Operand} {desc : TypeDesc} {size bytes : Nat} {zero : Value} {b o d : Nat} {cs : List Value} {fr : Nat × Nat} {ty : TypeId} {pos : String} {aft : Array Edge} {g : Option (Nat × Bool)} [TI P T desc size bytes zero] [h : BlkI L b cs T0 fr] (hx : ev E x = some (Pt b o)) (ha : aggD desc = false) (hlt : Nat.blt d n = true) (ho : o < cs.length)
    (k : ∀ v, v ∈ cs → Nx n D ((d, v) :: E) B G L K) : Nx n D E B G L (ow P ⟨some d, .load T x, ty, pos, aft, g⟩ Q K) := by
  refine v_op (g_load (T := T) (desc := desc) (size := size) (bytes := bytes) (zero := zero) hx ha (v := cs[o]) ?_) rfl hlt (k _ (List.getElem_mem ho))
  have := (cells_own (S := St B G L) h.mem).go o cs[o] (List.getElem?_eq_getElem ho)
  simpa using this
theorem c_enter {f : FuncId} {fn : Func} {c : Code} {args : List Value} {Post : Value → Gh → List Own → Prop} (E0 : Env) (hf : P.funcs[f]? = some fn) (hok : bodyOk P f = true) (hn : fn.ntmps = n) (hb : fn.body = some c)
    (hlen : Nat.ble args.length n = true) (hE : Sub E0 (params 0 args))
    (h : ∀ B, B.G = G → B.W = bks L → Nx n [] E0 B G L (cu P (.code c) [] (bp P fn (RPost B Post)))) : Fn P f args G L Post := fn_enter E0 hf hok hn hb hlen hE fun B h1 h2 => h B h1 h2
theorem p_enter {f : FuncId} {fn : Func} {c : Code} {args : List Value} {R : Value → Prop} (E0 : Env) (hf : P.funcs[f]? = some fn) (hok : bodyOk P f = true) (hn : fn.ntmps = n) (hb : fn.body = some c)
    (hlen : Nat.ble args.length n = true) (hE : Sub E0 (params 0 args))
    (h : ∀ B, B.W = [] → Nx n [] E0 B G [] (cu P (.code c) [] (bp P fn (RPost B (fun v G' L' => G' = G ∧ L' = [] ∧ R v))))) : PuG P f args G R := pu_enter E0 hf hok hn hb hlen hE fun B h1 => h B h1
end
attribute [irreducible] cu
end Go.E
/-! Ty -/
namespace Go.E
open Go.Proofs
theorem ti2 : TI Tryz.prog 2 (.int .i64) 1 8 (.int .i64 0) := TI.mk' (by kernel_rfl) (by kernel_rfl) (by kernel_rfl)
instance : TI Tryz.prog 2 (.int .i64) 1 8 (.int .i64 0) := ti2
theorem ti3 : TI Tryz.prog 3 (.int .i64) 1 8 (.int .i64 0) := TI.mk' (by kernel_rfl) (by kernel_rfl) (by kernel_rfl)
instance : TI Tryz.prog 3 (.int .i64) 1 8 (.int .i64 0) := ti3
theorem ti4 : TI Tryz.prog 4 .bool 1 1 (.bool false) := TI.mk' (by kernel_rfl) (by kernel_rfl) (by kernel_rfl)
instance : TI Tryz.prog 4 .bool 1 1 (.bool false) := ti4
theorem ti5 : TI Tryz.prog 5 (.int .u8) 1 1 (.int .u8 0) := TI.mk' (by kernel_rfl) (by kernel_rfl) (by kernel_rfl)
instance : TI Tryz.prog 5 (.int .u8) 1 1 (.int .u8 0) := ti5
theorem ti6 : TI Tryz.prog 6 (.int .u8) 1 1 (.int .u8 0) := TI.mk' (by kernel_rfl) (by kernel_rfl) (by kernel_rfl)
instance : TI Tryz.prog 6 (.int .u8) 1 1 (.int .u8 0) := ti6
theorem ti7 : TI Tryz.prog 7 (.struct (flds Tryz.prog 7)) 4 24 (Ag [(.int .i64 0), (.int .i64 0), (.bool false), (.int .u8 0)]) := TI.mk' (by kernel_rfl) (by kernel_rfl) (by kernel_rfl)
instance : TI Tryz.prog 7 (.struct (flds Tryz.prog 7)) 4 24 (Ag [(.int .i64 0), (.int .i64 0), (.bool false), (.int .u8 0)]) := ti7
theorem ti8 : TI Tryz.prog 8 (.struct (flds Tryz.prog 8)) 4 24 (Ag [(.int .i64 0), (.int .i64 0), (.bool false), (.int .u8 0)]) := TI.mk' (by kernel_rfl) (by kernel_rfl) (by kernel_rfl)
instance : TI Tryz.prog 8 (.struct (flds Tryz.prog 8)) 4 24 (Ag [(.int .i64 0), (.int .i64 0), (.bool false), (.int .u8 0)]) := ti8
theorem ti9 : TI Tryz.prog 9 .string 1 16 (S []) := TI.mk' (by kernel_rfl) (by kernel_rfl) (by kernel_rfl)
instance : TI Tryz.prog 9 .string 1 16 (S []) := ti9
theorem ti10 : TI Tryz.prog 10 .string 1 16 (S []) := TI.mk' (by kernel_rfl) (by kernel_rfl) (by kernel_rfl)
instance : TI Tryz.prog 10 .string 1 16 (S []) := ti10
theorem ti11 : TI Tryz.prog 11 .string 1 16 (S []) := TI.mk' (by kernel_rfl) (by kernel_rfl) (by kernel_rfl)
instance : TI Tryz.prog 11 .string 1 16 (S []) := ti11
theorem ti12 : TI Tryz.prog 12 (.int .u64) 1 8 (.int .u64 0) := TI.mk' (by kernel_rfl) (by kernel_rfl) (by kernel_rfl)
instance : TI Tryz.prog 12 (.int .u64) 1 8 (.int .u64 0) := ti12
theorem ti13 : TI Tryz.prog 13 (.struct (flds Tryz.prog 13)) 2 24 (Ag [(S []), (.int .u64 0)]) := TI.mk' (by kernel_rfl) (by kernel_rfl) (by kernel_rfl)
instance : TI Tryz.prog 13 (.struct (flds Tryz.prog 13)) 2 24 (Ag [(S []), (.int .u64 0)]) := ti13
theorem ti14 : TI Tryz.prog 14 (.struct (flds Tryz.prog 14)) 2 24 (Ag [(S []), (.int .u64 0)]) := TI.mk' (by kernel_rfl) (by kernel_rfl) (by kernel_rfl)
instance : TI Tryz.prog 14 (.struct (flds Tryz.prog 14)) 2 24 (Ag [(S []), (.int .u64 0)]) := ti14
theorem ti15 : TI Tryz.prog 15 (.pointer 163) 1 8 (.pointer none) := TI.mk' (by kernel_rfl) (by kernel_rfl) (by kernel_rfl)
instance : TI Tryz.prog 15 (.pointer 163) 1 8 (.pointer none) := ti15
theorem ti16 : TI Tryz.prog 16 (.pointer 166) 1 8 (.pointer none) := TI.mk' (by kernel_rfl) (by kernel_rfl) (by kernel_rfl)
instance : TI Tryz.prog 16 (.pointer 166) 1 8 (.pointer none) := ti16
theorem ti17 : TI Tryz.prog 17 (.pointer 173) 1 8 (.pointer none) := TI.mk' (by kernel_rfl) (by kernel_rfl) (by kernel_rfl)
instance : TI Tryz.prog 17 (.pointer 173) 1 8 (.pointer none) := ti17
theorem ti18 : TI Tryz.prog 18 (.struct (flds Tryz.prog 18)) 1 8 (Ag [(.pointer none)]) := TI.mk' (by kernel_rfl) (by kernel_rfl) (by kernel_rfl)
instance : TI Tryz.prog 18 (.struct (flds Tryz.prog 18)) 1 8 (Ag [(.pointer none)]) := ti18
theorem ti19 : TI Tryz.prog 19 (.struct (flds Tryz.prog 19)) 1 8 (Ag [(.pointer none)]) := TI.mk' (by kernel_rfl) (by kernel_rfl) (by kernel_rfl)
instance : TI Tryz.prog 19 (.struct (flds Tryz.prog 19)) 1 8 (Ag [(.pointer none)]) := ti19
theorem ti21 : TI Tryz.prog 21 (.int .i32) 1 4 (.int .i32 0) := TI.mk' (by kernel_rfl) (by kernel_rfl) (by kernel_rfl)
instance : TI Tryz.prog 21 (.int .i32) 1 4 (.int .i32 0) := ti21
theorem ti24 : TI Tryz.prog 24 (.slice 59) 1 24 nilS := TI.mk' (by kernel_rfl) (by kernel_rfl) (by kernel_rfl)
instance : TI Tryz.prog 24 (.slice 59) 1 24 nilS := ti24
theorem ti25 : TI Tryz.prog 25 (.slice 59) 1 24 nilS := TI.mk' (by kernel_rfl) (by kernel_rfl) (by kernel_rfl)
instance : TI Tryz.prog 25 (.slice 59) 1 24 nilS := ti25
theorem ti26 : TI Tryz.prog 26 (.pointer 47) 1 8 (.pointer none) := TI.mk' (by kernel_rfl) (by kernel_rfl) (by kernel_rfl)
instance : TI Tryz.prog 26 (.pointer 47) 1 8 (.pointer none) := ti26
theorem ti30 : TI Tryz.prog 30 (.pointer 86) 1 8 (.pointer none) := TI.mk' (by kernel_rfl) (by kernel_rfl) (by kernel_rfl)
instance : TI Tryz.prog 30 (.pointer 86) 1 8 (.pointer none) := ti30
theorem ti31 : TI Tryz.prog 31 (.struct (flds Tryz.prog 31)) 3 48 (Ag [(S []), (S []), (S [])]) := TI.mk' (by kernel_rfl) (by kernel_rfl) (by kernel_rfl)
instance : TI Tryz.prog 31 (.struct (flds Tryz.prog 31)) 3 48 (Ag [(S []), (S []), (S [])]) := ti31
theorem ti32 : TI Tryz.prog 32 (.struct (flds Tryz.prog 32)) 3 48 (Ag [(S []), (S []), (S [])]) := TI.mk' (by kernel_rfl) (by kernel_rfl) (by kernel_rfl)
instance : TI Tryz.prog 32 (.struct (flds Tryz.prog 32)) 3 48 (Ag [(S []), (S []), (S [])]) := ti32
theorem ti33 : TI Tryz.prog 33 (.slice 35) 1 24 nilS := TI.mk' (by kernel_rfl) (by kernel_rfl) (by kernel_rfl)
instance : TI Tryz.prog 33 (.slice 35) 1 24 nilS := ti33
theorem ti34 : TI Tryz.prog 34 (.struct (flds Tryz.prog 34)) 4 56 (Ag [(.int .u8 0), (S []), (.int .i64 0), nilS]) := TI.mk' (by kernel_rfl) (by kernel_rfl) (by kernel_rfl)
instance : TI Tryz.prog 34 (.struct (flds Tryz.prog 34)) 4 56 (Ag [(.int .u8 0), (S []), (.int .i64 0), nilS]) := ti34
theorem ti35 : TI Tryz.prog 35 (.struct (flds Tryz.prog 35)) 4 56 (Ag [(.int .u8 0), (S []), (.int .i64 0), nilS]) := TI.mk' (by kernel_rfl) (by kernel_rfl) (by kernel_rfl)
instance : TI Tryz.prog 35 (.struct (flds Tryz.prog 35)) 4 56 (Ag [(.int .u8 0), (S []), (.int .i64 0), nilS]) := ti35
theorem ti41 : TI Tryz.prog 41 (.struct (flds Tryz.prog 41)) 1 24 (Ag [nilS]) := TI.mk' (by kernel_rfl) (by kernel_rfl) (by kernel_rfl)
instance : TI Tryz.prog 41 (.struct (flds Tryz.prog 41)) 1 24 (Ag [nilS]) := ti41
theorem ti42 : TI Tryz.prog 42 (.struct (flds Tryz.prog 42)) 1 24 (Ag [nilS]) := TI.mk' (by kernel_rfl) (by kernel_rfl) (by kernel_rfl)
instance : TI Tryz.prog 42 (.struct (flds Tryz.prog 42)) 1 24 (Ag [nilS]) := ti42
theorem ti44 : TI Tryz.prog 44 (.slice 3) 1 24 nilS := TI.mk' (by kernel_rfl) (by kernel_rfl) (by kernel_rfl)
instance : TI Tryz.prog 44 (.slice 3) 1 24 nilS := ti44
theorem ti45 : TI Tryz.prog 45 (.slice 26) 1 24 nilS := TI.mk' (by kernel_rfl) (by kernel_rfl) (by kernel_rfl)
instance : TI Tryz.prog 45 (.slice 26) 1 24 nilS := ti45
theorem ti46 : TI Tryz.prog 46 (.struct (flds Tryz.prog 46)) 4 80 (Ag [(S []), (S []), nilS, nilS]) := TI.mk' (by kernel_rfl) (by kernel_rfl) (by kernel_rfl)
instance : TI Tryz.prog 46 (.struct (flds Tryz.prog 46)) 4 80 (Ag [(S []), (S []), nilS, nilS]) := ti46
theorem ti47 : TI Tryz.prog 47 (.struct (flds Tryz.prog 47)) 4 80 (Ag [(S []), (S []), nilS, nilS]) := TI.mk' (by kernel_rfl) (by kernel_rfl) (by kernel_rfl)
instance : TI Tryz.prog 47 (.struct (flds Tryz.prog 47)) 4 80 (Ag [(S []), (S []), nilS, nilS]) := ti47
theorem ti57 : TI Tryz.prog 57 (.slice 77) 1 24 nilS := TI.mk' (by kernel_rfl) (by kernel_rfl) (by kernel_rfl)
instance : TI Tryz.prog 57 (.slice 77) 1 24 nilS := ti57
theorem ti58 : TI Tryz.prog 58 (.struct (flds Tryz.prog 58)) 3 48 (Ag [(.int .u8 0), (S []), nilS]) := TI.mk' (by kernel_rfl) (by kernel_rfl) (by kernel_rfl)
instance : TI Tryz.prog 58 (.struct (flds Tryz.prog 58)) 3 48 (Ag [(.int .u8 0), (S []), nilS]) := ti58
theorem ti59 : TI Tryz.prog 59 (.struct (flds Tryz.prog 59)) 3 48 (Ag [(.int .u8 0), (S []), nilS]) := TI.mk' (by kernel_rfl) (by kernel_rfl) (by kernel_rfl)
instance : TI Tryz.prog 59 (.struct (flds Tryz.prog 59)) 3 48 (Ag [(.int .u8 0), (S []), nilS]) := ti59
theorem ti68 : TI Tryz.prog 68 (.pointer 70) 1 8 (.pointer none) := TI.mk' (by kernel_rfl) (by kernel_rfl) (by kernel_rfl)
instance : TI Tryz.prog 68 (.pointer 70) 1 8 (.pointer none) := ti68
theorem ti69 : TI Tryz.prog 69 (.struct (flds Tryz.prog 69)) 3 32 (Ag [(.pointer none), (S []), (.bool false)]) := TI.mk' (by kernel_rfl) (by kernel_rfl) (by kernel_rfl)
instance : TI Tryz.prog 69 (.struct (flds Tryz.prog 69)) 3 32 (Ag [(.pointer none), (S []), (.bool false)]) := ti69
theorem ti70 : TI Tryz.prog 70 (.struct (flds Tryz.prog 70)) 3 32 (Ag [(.pointer none), (S []), (.bool false)]) := TI.mk' (by kernel_rfl) (by kernel_rfl) (by kernel_rfl)
instance : TI Tryz.prog 70 (.struct (flds Tryz.prog 70)) 3 32 (Ag [(.pointer none), (S []), (.bool false)]) := ti70
theorem ti72 : TI Tryz.prog 72 (.slice 9) 1 24 nilS := TI.mk' (by kernel_rfl) (by kernel_rfl) (by kernel_rfl)
instance : TI Tryz.prog 72 (.slice 9) 1 24 nilS := ti72
theorem ti76 : TI Tryz.prog 76 (.struct (flds Tryz.prog 76)) 4 56 (Ag [(.int .i64 0), (S []), (S []), (S [])]) := TI.mk' (by kernel_rfl) (by kernel_rfl) (by kernel_rfl)
instance : TI Tryz.prog 76 (.struct (flds Tryz.prog 76)) 4 56 (Ag [(.int .i64 0), (S []), (S []), (S [])]) := ti76
theorem ti77 : TI Tryz.prog 77 (.struct (flds Tryz.prog 77)) 4 56 (Ag [(.int .i64 0), (S []), (S []), (S [])]) := TI.mk' (by kernel_rfl) (by kernel_rfl) (by kernel_rfl)
instance : TI Tryz.prog 77 (.struct (flds Tryz.prog 77)) 4 56 (Ag [(.int .i64 0), (S []), (S []), (S [])]) := ti77
theorem ti83 : TI Tryz.prog 83 (.map 9 89) 1 8 (.map none) := TI.mk' (by kernel_rfl) (by kernel_rfl) (by kernel_rfl)
instance : TI Tryz.prog 83 (.map 9 89) 1 8 (.map none) := ti83
theorem ti84 : TI Tryz.prog 84 (.slice 89) 1 24 nilS := TI.mk' (by kernel_rfl) (by kernel_rfl) (by kernel_rfl)
instance : TI Tryz.prog 84 (.slice 89) 1 24 nilS := ti84
theorem ti85 : TI Tryz.prog 85 (.struct (flds Tryz.prog 85)) 2 32 (Ag [nilS, (.map none)]) := TI.mk' (by kernel_rfl) (by kernel_rfl) (by kernel_rfl)
instance : TI Tryz.prog 85 (.struct (flds Tryz.prog 85)) 2 32 (Ag [nilS, (.map none)]) := ti85
theorem ti86 : TI Tryz.prog 86 (.struct (flds Tryz.prog 86)) 2 32 (Ag [nilS, (.map none)]) := TI.mk' (by kernel_rfl) (by kernel_rfl) (by kernel_rfl)
instance : TI Tryz.prog 86 (.struct (flds Tryz.prog 86)) 2 32 (Ag [nilS, (.map none)]) := ti86
theorem ti89 : TI Tryz.prog 89 (.pointer 94) 1 8 (.pointer none) := TI.mk' (by kernel_rfl) (by kernel_rfl) (by kernel_rfl)
instance : TI Tryz.prog 89 (.pointer 94) 1 8 (.pointer none) := ti89
theorem ti92 : TI Tryz.prog 92 (.slice 96) 1 24 nilS := TI.mk' (by kernel_rfl) (by kernel_rfl) (by kernel_rfl)
instance : TI Tryz.prog 92 (.slice 96) 1 24 nilS := ti92
theorem ti93 : TI Tryz.prog 93 (.struct (flds Tryz.prog 93)) 4 64 (Ag [(.int .u8 0), (S []), nilS, (S [])]) := TI.mk' (by kernel_rfl) (by kernel_rfl) (by kernel_rfl)
instance : TI Tryz.prog 93 (.struct (flds Tryz.prog 93)) 4 64 (Ag [(.int .u8 0), (S []), nilS, (S [])]) := ti93
theorem ti94 : TI Tryz.prog 94 (.struct (flds Tryz.prog 94)) 4 64 (Ag [(.int .u8 0), (S []), nilS, (S [])]) := TI.mk' (by kernel_rfl) (by kernel_rfl) (by kernel_rfl)
instance : TI Tryz.prog 94 (.struct (flds Tryz.prog 94)) 4 64 (Ag [(.int .u8 0), (S []), nilS, (S [])]) := ti94
theorem ti95 : TI Tryz.prog 95 (.struct (flds Tryz.prog 95)) 6 88 (Ag [(.int .i64 0), (S []), (S []), (S []), (S []), (S [])]) := TI.mk' (by kernel_rfl) (by kernel_rfl) (by kernel_rfl)
instance : TI Tryz.prog 95 (.struct (flds Tryz.prog 95)) 6 88 (Ag [(.int .i64 0), (S []), (S []), (S []), (S []), (S [])]) := ti95
theorem ti96 : TI Tryz.prog 96 (.struct (flds Tryz.prog 96)) 6 88 (Ag [(.int .i64 0), (S []), (S []), (S []), (S []), (S [])]) := TI.mk' (by kernel_rfl) (by kernel_rfl) (by kernel_rfl)
instance : TI Tryz.prog 96 (.struct (flds Tryz.prog 96)) 6 88 (Ag [(.int .i64 0), (S []), (S []), (S []), (S []), (S [])]) := ti96
theorem ti117 : TI Tryz.prog 117 (.array 256 4) 256 256 (Ag [(.bool false), (.bool false), (.bool false), (.bool false), (.bool false), (.bool false), (.bool false), (.bool false), (.bool false), (.bool false), (.bool false), (.bool false), (.bool false), (.bool false), (.bool false), (.bool false), (.bool false), (.bool false), (.bool false), (.bool false), (.bool false), (.bool false), (.bool false), (.bool false), (.bool false), (.bool false), (.bool false), (.bool false), (.bool false), (.bool false), (.bool false), (.bool false), (.bool false), (.bool false), (.bool false), (.bool false), (.bool false), (.bool false), (.bool false), (.bool false), (.bool false), (.bool false), (.bool false), (.bool false), (.bool false), (.bool false), (.bool false), (.bool false), (.bool false), (.bool false), (.bool false), (.bool false), (.bool false), (.bool false), (.bool false), (.bool false), (.bool false), (.bool false), (.bool false), (.bool false), (.bool false), (.bool false), (.bool false), (.bool false), (.bool false), (.bool false), (.bool false), (.bool false), (.bool false), (.bool false), (.bool false), (.bool false), (.bool false), (.bool false), (.bool false), (.bool false), (.bool false), (.bool false), (.bool false), (.bool false), (.bool false), (.bool false), (.bool false), (.bool false), (.bool false), (.bool false), (.bool false), (.bool false), (.bool false), (.bool false), (.bool false), (.bool false), (.bool false), (.bool false), (.bool false), (.bool false), (.bool false), (.bool false), (.bool false), (.bool false), (.bool false), (.bool false), (.bool false), (.bool false), (.bool false), (.bool false), (.bool false), (.bool false), (.bool false), (.bool false), (.bool false), (.bool false), (.bool false), (.bool false), (.bool false), (.bool false), (.bool false), (.bool false), (.bool false), (.bool false), (.bool false), (.bool false), (.bool false), (.bool false), (.bool false), (.bool false), (.bool false), (.bool false), (.bool false), (.bool false), (.bool false), (.bool false), (.bool false), (.bool false), (.bool false), (.bool false), (.bool false), (.bool false), (.bool false), (.bool false), (.bool false), (.bool false), (.bool false), (.bool false), (.bool false), (.bool false), (.bool false), (.bool false), (.bool false), (.bool false), (.bool false), (.bool false), (.bool false), (.bool false), (.bool false), (.bool false), (.bool false), (.bool false), (.bool false), (.bool false), (.bool false), (.bool false), (.bool false), (.bool false), (.bool false), (.bool false), (.bool false), (.bool false), (.bool false), (.bool false), (.bool false), (.bool false), (.bool false), (.bool false), (.bool false), (.bool false), (.bool false), (.bool false), (.bool false), (.bool false), (.bool false), (.bool false), (.bool false), (.bool false), (.bool false), (.bool false), (.bool false), (.bool false), (.bool false), (.bool false), (.bool false), (.bool false), (.bool false), (.bool false), (.bool false), (.bool false), (.bool false), (.bool false), (.bool false), (.bool false), (.bool false), (.bool false), (.bool false), (.bool false), (.bool false), (.bool false), (.bool false), (.bool false), (.bool false), (.bool false), (.bool false), (.bool false), (.bool false), (.bool false), (.bool false), (.bool false), (.bool false), (.bool false), (.bool false), (.bool false), (.bool false), (.bool false), (.bool false), (.bool false), (.bool false), (.bool false), (.bool false), (.bool false), (.bool false), (.bool false), (.bool false), (.bool false), (.bool false), (.bool false), (.bool false), (.bool false), (.bool false), (.bool false), (.bool false), (.bool false), (.bool false), (.bool false), (.bool false), (.bool false), (.bool false), (.bool false), (.bool false), (.bool false), (.bool false), (.bool false), (.bool false), (.bool false), (.bool false), (.bool false), (.bool false), (.bool false)]) := TI.mk' (by kernel_rfl) (by kernel_rfl) (by kernel_rfl)
instance : TI Tryz.prog 117 (.array 256 4) 256 256 (Ag [(.bool false), (.bool false), (.bool false), (.bool false), (.bool false), (.bool false), (.bool false), (.bool false), (.bool false), (.bool false), (.bool false), (.bool false), (.bool false), (.bool false), (.bool false), (.bool false), (.bool false), (.bool false), (.bool false), (.bool false), (.bool false), (.bool false), (.bool false), (.bool false), (.bool false), (.bool false), (.bool false), (.bool false), (.bool false), (.bool false), (.bool false), (.bool false), (.bool false), (.bool false), (.bool false), (.bool false), (.bool false), (.bool false), (.bool false), (.bool false), (.bool false), (.bool false), (.bool false), (.bool false), (.bool false), (.bool false), (.bool false), (.bool false), (.bool false), (.bool false), (.bool false), (.bool false), (.bool false), (.bool false), (.bool false), (.bool false), (.bool false), (.bool false), (.bool false), (.bool false), (.bool false), (.bool false), (.bool false), (.bool false), (.bool false), (.bool false), (.bool false), (.bool false), (.bool false), (.bool false), (.bool false), (.bool false), (.bool false), (.bool false), (.bool false), (.bool false), (.bool false), (.bool false), (.bool false), (.bool false), (.bool false), (.bool false), (.bool false), (.bool false), (.bool false), (.bool false), (.bool false), (.bool false), (.bool false), (.bool false), (.bool false), (.bool false), (.bool false), (.bool false), (.bool false), (.bool false), (.bool false), (.bool false), (.bool false), (.bool false), (.bool false), (.bool false), (.bool false), (.bool false), (.bool false), (.bool false), (.bool false), (.bool false), (.bool false), (.bool false), (.bool false), (.bool false), (.bool false), (.bool false), (.bool false), (.bool false), (.bool false), (.bool false), (.bool false), (.bool false), (.bool false), (.bool false), (.bool false), (.bool false), (.bool false), (.bool false), (.bool false), (.bool false), (.bool false), (.bool false), (.bool false), (.bool false), (.bool false), (.bool false), (.bool false), (.bool false), (.bool false), (.bool false), (.bool false), (.bool false), (.bool false), (.bool false), (.bool false), (.bool false), (.bool false), (.bool false), (.bool false), (.bool false), (.bool false), (.bool false), (.bool false), (.bool false), (.bool false), (.bool false), (.bool false), (.bool false), (.bool false), (.bool false), (.bool false), (.bool false), (.bool false), (.bool false), (.bool false), (.bool false), (.bool false), (.bool false), (.bool false), (.bool false), (.bool false), (.bool false), (.bool false), (.bool false), (.bool false), (.bool false), (.bool false), (.bool false), (.bool false), (.bool false), (.bool false), (.bool false), (.bool false), (.bool false), (.bool false), (.bool false), (.bool false), (.bool false), (.bool false), (.bool false), (.bool false), (.bool false), (.bool false), (.bool false), (.bool false), (.bool false), (.bool false), (.bool false), (.bool false), (.bool false), (.bool false), (.bool false), (.bool false), (.bool false), (.bool false), (.bool false), (.bool false), (.bool false), (.bool false), (.bool false), (.bool false), (.bool false), (.bool false), (.bool false), (.bool false), (.bool false), (.bool false), (.bool false), (.bool false), (.bool false), (.bool false), (.bool false), (.bool false), (.bool false), (.bool false), (.bool false), (.bool false), (.bool false), (.bool false), (.bool false), (.bool false), (.bool false), (.bool false), (.bool false), (.bool false), (.bool false), (.bool false), (.bool false), (.bool false), (.bool false), (.bool false), (.bool false), (.bool false), (.bool false), (.bool false), (.bool false), (.bool false), (.bool false), (.bool false), (.bool false), (.bool false), (.bool false), (.bool false), (.bool false), (.bool false), (.bool false), (.bool false), (.bool false)]) := ti117
theorem ti118 : TI Tryz.prog 118 (.array 256 4) 256 256 (Ag [(.bool false), (.bool false), (.bool false), (.bool false), (.bool false), (.bool false), (.bool false), (.bool false), (.bool false), (.bool false), (.bool false), (.bool false), (.bool false), (.bool false), (.bool false), (.bool false), (.bool false), (.bool false), (.bool false), (.bool false), (.bool false), (.bool false), (.bool false), (.bool false), (.bool false), (.bool false), (.bool false), (.bool false), (.bool false), (.bool false), (.bool false), (.bool false), (.bool false), (.bool false), (.bool false), (.bool false), (.bool false), (.bool false), (.bool false), (.bool false), (.bool false), (.bool false), (.bool false), (.bool false), (.bool false), (.bool false), (.bool false), (.bool false), (.bool false), (.bool false), (.bool false), (.bool false), (.bool false), (.bool false), (.bool false), (.bool false), (.bool false), (.bool false), (.bool false), (.bool false), (.bool false), (.bool false), (.bool false), (.bool false), (.bool false), (.bool false), (.bool false), (.bool false), (.bool false), (.bool false), (.bool false), (.bool false), (.bool false), (.bool false), (.bool false), (.bool false), (.bool false), (.bool false), (.bool false), (.bool false), (.bool false), (.bool false), (.bool false), (.bool false), (.bool false), (.bool false), (.bool false), (.bool false), (.bool false), (.bool false), (.bool false), (.bool false), (.bool false), (.bool false), (.bool false), (.bool false), (.bool false), (.bool false), (.bool false), (.bool false), (.bool false), (.bool false), (.bool false), (.bool false), (.bool false), (.bool false), (.bool false), (.bool false), (.bool false), (.bool false), (.bool false), (.bool false), (.bool false), (.bool false), (.bool false), (.bool false), (.bool false), (.bool false), (.bool false), (.bool false), (.bool false), (.bool false), (.bool false), (.bool false), (.bool false), (.bool false), (.bool false), (.bool false), (.bool false), (.bool false), (.bool false), (.bool false), (.bool false), (.bool false), (.bool false), (.bool false), (.bool false), (.bool false), (.bool false), (.bool false), (.bool false), (.bool false), (.bool false), (.bool false), (.bool false), (.bool false), (.bool false), (.bool false), (.bool false), (.bool false), (.bool false), (.bool false), (.bool false), (.bool false), (.bool false), (.bool false), (.bool false), (.bool false), (.bool false), (.bool false), (.bool false), (.bool false), (.bool false), (.bool false), (.bool false), (.bool false), (.bool false), (.bool false), (.bool false), (.bool false), (.bool false), (.bool false), (.bool false), (.bool false), (.bool false), (.bool false), (.bool false), (.bool false), (.bool false), (.bool false), (.bool false), (.bool false), (.bool false), (.bool false), (.bool false), (.bool false), (.bool false), (.bool false), (.bool false), (.bool false), (.bool false), (.bool false), (.bool false), (.bool false), (.bool false), (.bool false), (.bool false), (.bool false), (.bool false), (.bool false), (.bool false), (.bool false), (.bool false), (.bool false), (.bool false), (.bool false), (.bool false), (.bool false), (.bool false), (.bool false), (.bool false), (.bool false), (.bool false), (.bool false), (.bool false), (.bool false), (.bool false), (.bool false), (.bool false), (.bool false), (.bool false), (.bool false), (.bool false), (.bool false), (.bool false), (.bool false), (.bool false), (.bool false), (.bool false), (.bool false), (.bool false), (.bool false), (.bool false), (.bool false), (.bool false), (.bool false), (.bool false), (.bool false), (.bool false), (.bool false), (.bool false), (.bool false), (.bool false), (.bool false), (.bool false), (.bool false), (.bool false), (.bool false), (.bool false), (.bool false), (.bool false), (.bool false), (.bool false), (.bool false), (.bool false), (.bool false)]) := TI.mk' (by kernel_rfl) (by kernel_rfl) (by kernel_rfl)
instance : TI Tryz.prog 118 (.array 256 4) 256 256 (Ag [(.bool false), (.bool false), (.bool false), (.bool false), (.bool false), (.bool false), (.bool false), (.bool false), (.bool false), (.bool false), (.bool false), (.bool false), (.bool false), (.bool false), (.bool false), (.bool false), (.bool false), (.bool false), (.bool false), (.bool false), (.bool false), (.bool false), (.bool false), (.bool false), (.bool false), (.bool false), (.bool false), (.bool false), (.bool false), (.bool false), (.bool false), (.bool false), (.bool false), (.bool false), (.bool false), (.bool false), (.bool false), (.bool false), (.bool false), (.bool false), (.bool false), (.bool false), (.bool false), (.bool false), (.bool false), (.bool false), (.bool false), (.bool false), (.bool false), (.bool false), (.bool false), (.bool false), (.bool false), (.bool false), (.bool false), (.bool false), (.bool false), (.bool false), (.bool false), (.bool false), (.bool false), (.bool false), (.bool false), (.bool false), (.bool false), (.bool false), (.bool false), (.bool false), (.bool false), (.bool false), (.bool false), (.bool false), (.bool false), (.bool false), (.bool false), (.bool false), (.bool false), (.bool false), (.bool false), (.bool false), (.bool false), (.bool false), (.bool false), (.bool false), (.bool false), (.bool false), (.bool false), (.bool false), (.bool false), (.bool false), (.bool false), (.bool false), (.bool false), (.bool false), (.bool false), (.bool false), (.bool false), (.bool false), (.bool false), (.bool false), (.bool false), (.bool false), (.bool false), (.bool false), (.bool false), (.bool false), (.bool false), (.bool false), (.bool false), (.bool false), (.bool false), (.bool false), (.bool false), (.bool false), (.bool false), (.bool false), (.bool false), (.bool false), (.bool false), (.bool false), (.bool false), (.bool false), (.bool false), (.bool false), (.bool false), (.bool false), (.bool false), (.bool false), (.bool false), (.bool false), (.bool false), (.bool false), (.bool false), (.bool false), (.bool false), (.bool false), (.bool false), (.bool false), (.bool false), (.bool false), (.bool false), (.bool false), (.bool false), (.bool false), (.bool false), (.bool false), (.bool false), (.bool false), (.bool false), (.bool false), (.bool false), (.bool false), (.bool false), (.bool false), (.bool false), (.bool false), (.bool false), (.bool false), (.bool false), (.bool false), (.bool false), (.bool false), (.bool false), (.bool false), (.bool false), (.bool false), (.bool false), (.bool false), (.bool false), (.bool false), (.bool false), (.bool false), (.bool false), (.bool false), (.bool false), (.bool false), (.bool false), (.bool false), (.bool false), (.bool false), (.bool false), (.bool false), (.bool false), (.bool false), (.bool false), (.bool false), (.bool false), (.bool false), (.bool false), (.bool false), (.bool false), (.bool false), (.bool false), (.bool false), (.bool false), (.bool false), (.bool false), (.bool false), (.bool false), (.bool false), (.bool false), (.bool false), (.bool false), (.bool false), (.bool false), (.bool false), (.bool false), (.bool false), (.bool false), (.bool false), (.bool false), (.bool false), (.bool false), (.bool false), (.bool false), (.bool false), (.bool false), (.bool false), (.bool false), (.bool false), (.bool false), (.bool false), (.bool false), (.bool false), (.bool false), (.bool false), (.bool false), (.bool false), (.bool false), (.bool false), (.bool false), (.bool false), (.bool false), (.bool false), (.bool false), (.bool false), (.bool false), (.bool false), (.bool false), (.bool false), (.bool false), (.bool false), (.bool false), (.bool false), (.bool false), (.bool false), (.bool false), (.bool false), (.bool false), (.bool false), (.bool false), (.bool false), (.bool false), (.bool false), (.bool false), (.bool false)]) := ti118
theorem ti122 : TI Tryz.prog 122 (.pointer 118) 1 8 (.pointer none) := TI.mk' (by kernel_rfl) (by kernel_rfl) (by kernel_rfl)
instance : TI Tryz.prog 122 (.pointer 118) 1 8 (.pointer none) := ti122
theorem ti124 : TI Tryz.prog 124 (.slice 5) 1 24 nilS := TI.mk' (by kernel_rfl) (by kernel_rfl) (by kernel_rfl)
instance : TI Tryz.prog 124 (.slice 5) 1 24 nilS := ti124
theorem ti125 : TI Tryz.prog 125 (.pointer 96) 1 8 (.pointer none) := TI.mk' (by kernel_rfl) (by kernel_rfl) (by kernel_rfl)
instance : TI Tryz.prog 125 (.pointer 96) 1 8 (.pointer none) := ti125
theorem ti139 : TI Tryz.prog 139 (.int .u64) 1 8 (.int .u64 0) := TI.mk' (by kernel_rfl) (by kernel_rfl) (by kernel_rfl)
instance : TI Tryz.prog 139 (.int .u64) 1 8 (.int .u64 0) := ti139
theorem ti142 : TI Tryz.prog 142 (.pointer 144) 1 8 (.pointer none) := TI.mk' (by kernel_rfl) (by kernel_rfl) (by kernel_rfl)
instance : TI Tryz.prog 142 (.pointer 144) 1 8 (.pointer none) := ti142
theorem ti143 : TI Tryz.prog 143 (.struct (flds Tryz.prog 143)) 2 32 (Ag [(.pointer none), nilS]) := TI.mk' (by kernel_rfl) (by kernel_rfl) (by kernel_rfl)
instance : TI Tryz.prog 143 (.struct (flds Tryz.prog 143)) 2 32 (Ag [(.pointer none), nilS]) := ti143
theorem ti144 : TI Tryz.prog 144 (.struct (flds Tryz.prog 144)) 2 32 (Ag [(.pointer none), nilS]) := TI.mk' (by kernel_rfl) (by kernel_rfl) (by kernel_rfl)
instance : TI Tryz.prog 144 (.struct (flds Tryz.prog 144)) 2 32 (Ag [(.pointer none), nilS]) := ti144
theorem ti150 : TI Tryz.prog 150 (.int .u32) 1 4 (.int .u32 0) := TI.mk' (by kernel_rfl) (by kernel_rfl) (by kernel_rfl)
instance : TI Tryz.prog 150 (.int .u32) 1 4 (.int .u32 0) := ti150
theorem ti153 : TI Tryz.prog 153 (.array 256 5) 256 256 (Ag [(.int .u8 0), (.int .u8 0), (.int .u8 0), (.int .u8 0), (.int .u8 0), (.int .u8 0), (.int .u8 0), (.int .u8 0), (.int .u8 0), (.int .u8 0), (.int .u8 0), (.int .u8 0), (.int .u8 0), (.int .u8 0), (.int .u8 0), (.int .u8 0), (.int .u8 0), (.int .u8 0), (.int .u8 0), (.int .u8 0), (.int .u8 0), (.int .u8 0), (.int .u8 0), (.int .u8 0), (.int .u8 0), (.int .u8 0), (.int .u8 0), (.int .u8 0), (.int .u8 0), (.int .u8 0), (.int .u8 0), (.int .u8 0), (.int .u8 0), (.int .u8 0), (.int .u8 0), (.int .u8 0), (.int .u8 0), (.int .u8 0), (.int .u8 0), (.int .u8 0), (.int .u8 0), (.int .u8 0), (.int .u8 0), (.int .u8 0), (.int .u8 0), (.int .u8 0), (.int .u8 0), (.int .u8 0), (.int .u8 0), (.int .u8 0), (.int .u8 0), (.int .u8 0), (.int .u8 0), (.int .u8 0), (.int .u8 0), (.int .u8 0), (.int .u8 0), (.int .u8 0), (.int .u8 0), (.int .u8 0), (.int .u8 0), (.int .u8 0), (.int .u8 0), (.int .u8 0), (.int .u8 0), (.int .u8 0), (.int .u8 0), (.int .u8 0), (.int .u8 0), (.int .u8 0), (.int .u8 0), (.int .u8 0), (.int .u8 0), (.int .u8 0), (.int .u8 0), (.int .u8 0), (.int .u8 0), (.int .u8 0), (.int .u8 0), (.int .u8 0), (.int .u8 0), (.int .u8 0), (.int .u8 0), (.int .u8 0), (.int .u8 0), (.int .u8 0), (.int .u8 0), (.int .u8 0), (.int .u8 0), (.int .u8 0), (.int .u8 0), (.int .u8 0), (.int .u8 0), (.int .u8 0), (.int .u8 0), (.int .u8 0), (.int .u8 0), (.int .u8 0), (.int .u8 0), (.int .u8 0), (.int .u8 0), (.int .u8 0), (.int .u8 0), (.int .u8 0), (.int .u8 0), (.int .u8 0), (.int .u8 0), (.int .u8 0), (.int .u8 0), (.int .u8 0), (.int .u8 0), (.int .u8 0), (.int .u8 0), (.int .u8 0), (.int .u8 0), (.int .u8 0), (.int .u8 0), (.int .u8 0), (.int .u8 0), (.int .u8 0), (.int .u8 0), (.int .u8 0), (.int .u8 0), (.int .u8 0), (.int .u8 0), (.int .u8 0), (.int .u8 0), (.int .u8 0), (.int .u8 0), (.int .u8 0), (.int .u8 0), (.int .u8 0), (.int .u8 0), (.int .u8 0), (.int .u8 0), (.int .u8 0), (.int .u8 0), (.int .u8 0), (.int .u8 0), (.int .u8 0), (.int .u8 0), (.int .u8 0), (.int .u8 0), (.int .u8 0), (.int .u8 0), (.int .u8 0), (.int .u8 0), (.int .u8 0), (.int .u8 0), (.int .u8 0), (.int .u8 0), (.int .u8 0), (.int .u8 0), (.int .u8 0), (.int .u8 0), (.int .u8 0), (.int .u8 0), (.int .u8 0), (.int .u8 0), (.int .u8 0), (.int .u8 0), (.int .u8 0), (.int .u8 0), (.int .u8 0), (.int .u8 0), (.int .u8 0), (.int .u8 0), (.int .u8 0), (.int .u8 0), (.int .u8 0), (.int .u8 0), (.int .u8 0), (.int .u8 0), (.int .u8 0), (.int .u8 0), (.int .u8 0), (.int .u8 0), (.int .u8 0), (.int .u8 0), (.int .u8 0), (.int .u8 0), (.int .u8 0), (.int .u8 0), (.int .u8 0), (.int .u8 0), (.int .u8 0), (.int .u8 0), (.int .u8 0), (.int .u8 0), (.int .u8 0), (.int .u8 0), (.int .u8 0), (.int .u8 0), (.int .u8 0), (.int .u8 0), (.int .u8 0), (.int .u8 0), (.int .u8 0), (.int .u8 0), (.int .u8 0), (.int .u8 0), (.int .u8 0), (.int .u8 0), (.int .u8 0), (.int .u8 0), (.int .u8 0), (.int .u8 0), (.int .u8 0), (.int .u8 0), (.int .u8 0), (.int .u8 0), (.int .u8 0), (.int .u8 0), (.int .u8 0), (.int .u8 0), (.int .u8 0), (.int .u8 0), (.int .u8 0), (.int .u8 0), (.int .u8 0), (.int .u8 0), (.int .u8 0), (.int .u8 0), (.int .u8 0), (.int .u8 0), (.int .u8 0), (.int .u8 0), (.int .u8 0), (.int .u8 0), (.int .u8 0), (.int .u8 0), (.int .u8 0), (.int .u8 0), (.int .u8 0), (.int .u8 0), (.int .u8 0), (.int .u8 0), (.int .u8 0), (.int .u8 0), (.int .u8 0), (.int .u8 0), (.int .u8 0), (.int .u8 0), (.int .u8 0), (.int .u8 0), (.int .u8 0), (.int .u8 0), (.int .u8 0), (.int .u8 0), (.int .u8 0), (.int .u8 0), (.int .u8 0), (.int .u8 0), (.int .u8 0), (.int .u8 0), (.int .u8 0)]) := TI.mk' (by kernel_rfl) (by kernel_rfl) (by kernel_rfl)
instance : TI Tryz.prog 153 (.array 256 5) 256 256 (Ag [(.int .u8 0), (.int .u8 0), (.int .u8 0), (.int .u8 0), (.int .u8 0), (.int .u8 0), (.int .u8 0), (.int .u8 0), (.int .u8 0), (.int .u8 0), (.int .u8 0), (.int .u8 0), (.int .u8 0), (.int .u8 0), (.int .u8 0), (.int .u8 0), (.int .u8 0), (.int .u8 0), (.int .u8 0), (.int .u8 0), (.int .u8 0), (.int .u8 0), (.int .u8 0), (.int .u8 0), (.int .u8 0), (.int .u8 0), (.int .u8 0), (.int .u8 0), (.int .u8 0), (.int .u8 0), (.int .u8 0), (.int .u8 0), (.int .u8 0), (.int .u8 0), (.int .u8 0), (.int .u8 0), (.int .u8 0), (.int .u8 0), (.int .u8 0), (.int .u8 0), (.int .u8 0), (.int .u8 0), (.int .u8 0), (.int .u8 0), (.int .u8 0), (.int .u8 0), (.int .u8 0), (.int .u8 0), (.int .u8 0), (.int .u8 0), (.int .u8 0), (.int .u8 0), (.int .u8 0), (.int .u8 0), (.int .u8 0), (.int .u8 0), (.int .u8 0), (.int .u8 0), (.int .u8 0), (.int .u8 0), (.int .u8 0), (.int .u8 0), (.int .u8 0), (.int .u8 0), (.int .u8 0), (.int .u8 0), (.int .u8 0), (.int .u8 0), (.int .u8 0), (.int .u8 0), (.int .u8 0), (.int .u8 0), (.int .u8 0), (.int .u8 0), (.int .u8 0), (.int .u8 0), (.int .u8 0), (.int .u8 0), (.int .u8 0), (.int .u8 0), (.int .u8 0), (.int .u8 0), (.int .u8 0), (.int .u8 0), (.int .u8 0), (.int .u8 0), (.int .u8 0), (.int .u8 0), (.int .u8 0), (.int .u8 0), (.int .u8 0), (.int .u8 0), (.int .u8 0), (.int .u8 0), (.int .u8 0), (.int .u8 0), (.int .u8 0), (.int .u8 0), (.int .u8 0), (.int .u8 0), (.int .u8 0), (.int .u8 0), (.int .u8 0), (.int .u8 0), (.int .u8 0), (.int .u8 0), (.int .u8 0), (.int .u8 0), (.int .u8 0), (.int .u8 0), (.int .u8 0), (.int .u8 0), (.int .u8 0), (.int .u8 0), (.int .u8 0), (.int .u8 0), (.int .u8 0), (.int .u8 0), (.int .u8 0), (.int .u8 0), (.int .u8 0), (.int .u8 0), (.int .u8 0), (.int .u8 0), (.int .u8 0), (.int .u8 0), (.int .u8 0), (.int .u8 0), (.int .u8 0), (.int .u8 0), (.int .u8 0), (.int .u8 0), (.int .u8 0), (.int .u8 0), (.int .u8 0), (.int .u8 0), (.int .u8 0), (.int .u8 0), (.int .u8 0), (.int .u8 0), (.int .u8 0), (.int .u8 0), (.int .u8 0), (.int .u8 0), (.int .u8 0), (.int .u8 0), (.int .u8 0), (.int .u8 0), (.int .u8 0), (.int .u8 0), (.int .u8 0), (.int .u8 0), (.int .u8 0), (.int .u8 0), (.int .u8 0), (.int .u8 0), (.int .u8 0), (.int .u8 0), (.int .u8 0), (.int .u8 0), (.int .u8 0), (.int .u8 0), (.int .u8 0), (.int .u8 0), (.int .u8 0), (.int .u8 0), (.int .u8 0), (.int .u8 0), (.int .u8 0), (.int .u8 0), (.int .u8 0), (.int .u8 0), (.int .u8 0), (.int .u8 0), (.int .u8 0), (.int .u8 0), (.int .u8 0), (.int .u8 0), (.int .u8 0), (.int .u8 0), (.int .u8 0), (.int .u8 0), (.int .u8 0), (.int .u8 0), (.int .u8 0), (.int .u8 0), (.int .u8 0), (.int .u8 0), (.int .u8 0), (.int .u8 0), (.int .u8 0), (.int .u8 0), (.int .u8 0), (.int .u8 0), (.int .u8 0), (.int .u8 0), (.int .u8 0), (.int .u8 0), (.int .u8 0), (.int .u8 0), (.int .u8 0), (.int .u8 0), (.int .u8 0), (.int .u8 0), (.int .u8 0), (.int .u8 0), (.int .u8 0), (.int .u8 0), (.int .u8 0), (.int .u8 0), (.int .u8 0), (.int .u8 0), (.int .u8 0), (.int .u8 0), (.int .u8 0), (.int .u8 0), (.int .u8 0), (.int .u8 0), (.int .u8 0), (.int .u8 0), (.int .u8 0), (.int .u8 0), (.int .u8 0), (.int .u8 0), (.int .u8 0), (.int .u8 0), (.int .u8 0), (.int .u8 0), (.int .u8 0), (.int .u8 0), (.int .u8 0), (.int .u8 0), (.int .u8 0), (.int .u8 0), (.int .u8 0), (.int .u8 0), (.int .u8 0), (.int .u8 0), (.int .u8 0), (.int .u8 0), (.int .u8 0), (.int .u8 0), (.int .u8 0), (.int .u8 0), (.int .u8 0), (.int .u8 0), (.int .u8 0), (.int .u8 0), (.int .u8 0), (.int .u8 0), (.int .u8 0), (.int .u8 0), (.int .u8 0), (.int .u8 0), (.int .u8 0), (.int .u8 0)]) := ti153
theorem ti154 : TI Tryz.prog 154 (.struct (flds Tryz.prog 154)) 2 2 (Ag [(.int .u8 0), (.int .u8 0)]) := TI.mk' (by kernel_rfl) (by kernel_rfl) (by kernel_rfl)
instance : TI Tryz.prog 154 (.struct (flds Tryz.prog 154)) 2 2 (Ag [(.int .u8 0), (.int .u8 0)]) := ti154
theorem ti155 : TI Tryz.prog 155 (.struct (flds Tryz.prog 155)) 2 2 (Ag [(.int .u8 0), (.int .u8 0)]) := TI.mk' (by kernel_rfl) (by kernel_rfl) (by kernel_rfl)
instance : TI Tryz.prog 155 (.struct (flds Tryz.prog 155)) 2 2 (Ag [(.int .u8 0), (.int .u8 0)]) := ti155
theorem ti156 : TI Tryz.prog 156 (.array 16 155) 32 32 (Ag [(.int .u8 0), (.int .u8 0), (.int .u8 0), (.int .u8 0), (.int .u8 0), (.int .u8 0), (.int .u8 0), (.int .u8 0), (.int .u8 0), (.int .u8 0), (.int .u8 0), (.int .u8 0), (.int .u8 0), (.int .u8 0), (.int .u8 0), (.int .u8 0), (.int .u8 0), (.int .u8 0), (.int .u8 0), (.int .u8 0), (.int .u8 0), (.int .u8 0), (.int .u8 0), (.int .u8 0), (.int .u8 0), (.int .u8 0), (.int .u8 0), (.int .u8 0), (.int .u8 0), (.int .u8 0), (.int .u8 0), (.int .u8 0)]) := TI.mk' (by kernel_rfl) (by kernel_rfl) (by kernel_rfl)
instance : TI Tryz.prog 156 (.array 16 155) 32 32 (Ag [(.int .u8 0), (.int .u8 0), (.int .u8 0), (.int .u8 0), (.int .u8 0), (.int .u8 0), (.int .u8 0), (.int .u8 0), (.int .u8 0), (.int .u8 0), (.int .u8 0), (.int .u8 0), (.int .u8 0), (.int .u8 0), (.int .u8 0), (.int .u8 0), (.int .u8 0), (.int .u8 0), (.int .u8 0), (.int .u8 0), (.int .u8 0), (.int .u8 0), (.int .u8 0), (.int .u8 0), (.int .u8 0), (.int .u8 0), (.int .u8 0), (.int .u8 0), (.int .u8 0), (.int .u8 0), (.int .u8 0), (.int .u8 0)]) := ti156
theorem ti158 : TI Tryz.prog 158 (.pointer 5) 1 8 (.pointer none) := TI.mk' (by kernel_rfl) (by kernel_rfl) (by kernel_rfl)
instance : TI Tryz.prog 158 (.pointer 5) 1 8 (.pointer none) := ti158
theorem ti162 : TI Tryz.prog 162 (.struct (flds Tryz.prog 162)) 4 40 (Ag [(.pointer none), (.pointer none), (.pointer none), (S [])]) := TI.mk' (by kernel_rfl) (by kernel_rfl) (by kernel_rfl)
instance : TI Tryz.prog 162 (.struct (flds Tryz.prog 162)) 4 40 (Ag [(.pointer none), (.pointer none), (.pointer none), (S [])]) := ti162
theorem ti163 : TI Tryz.prog 163 (.struct (flds Tryz.prog 163)) 4 40 (Ag [(.pointer none), (.pointer none), (.pointer none), (S [])]) := TI.mk' (by kernel_rfl) (by kernel_rfl) (by kernel_rfl)
instance : TI Tryz.prog 163 (.struct (flds Tryz.prog 163)) 4 40 (Ag [(.pointer none), (.pointer none), (.pointer none), (S [])]) := ti163
theorem ti164 : TI Tryz.prog 164 (.array 0 16) 0 0 (Ag []) := TI.mk' (by kernel_rfl) (by kernel_rfl) (by kernel_rfl)
instance : TI Tryz.prog 164 (.array 0 16) 0 0 (Ag []) := ti164
theorem ti165 : TI Tryz.prog 165 (.struct (flds Tryz.prog 165)) 0 0 (Ag []) := TI.mk' (by kernel_rfl) (by kernel_rfl) (by kernel_rfl)
instance : TI Tryz.prog 165 (.struct (flds Tryz.prog 165)) 0 0 (Ag []) := ti165
theorem ti166 : TI Tryz.prog 166 (.struct (flds Tryz.prog 166)) 0 0 (Ag []) := TI.mk' (by kernel_rfl) (by kernel_rfl) (by kernel_rfl)
instance : TI Tryz.prog 166 (.struct (flds Tryz.prog 166)) 0 0 (Ag []) := ti166
theorem ti167 : TI Tryz.prog 167 (.int .u8) 1 1 (.int .u8 0) := TI.mk' (by kernel_rfl) (by kernel_rfl) (by kernel_rfl)
instance : TI Tryz.prog 167 (.int .u8) 1 1 (.int .u8 0) := ti167
theorem ti168 : TI Tryz.prog 168 (.int .u8) 1 1 (.int .u8 0) := TI.mk' (by kernel_rfl) (by kernel_rfl) (by kernel_rfl)
instance : TI Tryz.prog 168 (.int .u8) 1 1 (.int .u8 0) := ti168
theorem ti170 : TI Tryz.prog 170 (.int .i32) 1 4 (.int .i32 0) := TI.mk' (by kernel_rfl) (by kernel_rfl) (by kernel_rfl)
instance : TI Tryz.prog 170 (.int .i32) 1 4 (.int .i32 0) := ti170
theorem ti171 : TI Tryz.prog 171 (.int .i32) 1 4 (.int .i32 0) := TI.mk' (by kernel_rfl) (by kernel_rfl) (by kernel_rfl)
instance : TI Tryz.prog 171 (.int .i32) 1 4 (.int .i32 0) := ti171
theorem ti172 : TI Tryz.prog 172 (.struct (flds Tryz.prog 172)) 11 48 (Ag [(.int .u64 0), (.int .u64 0), (.int .u32 0), (.int .u8 0), (.int .u8 0), (.int .u8 0), (.int .u8 0), .nilFunc, (.pointer none), (.int .i32 0), (.int .i32 0)]) := TI.mk' (by kernel_rfl) (by kernel_rfl) (by kernel_rfl)
instance : TI Tryz.prog 172 (.struct (flds Tryz.prog 172)) 11 48 (Ag [(.int .u64 0), (.int .u64 0), (.int .u32 0), (.int .u8 0), (.int .u8 0), (.int .u8 0), (.int .u8 0), .nilFunc, (.pointer none), (.int .i32 0), (.int .i32 0)]) := ti172
theorem ti173 : TI Tryz.prog 173 (.struct (flds Tryz.prog 173)) 11 48 (Ag [(.int .u64 0), (.int .u64 0), (.int .u32 0), (.int .u8 0), (.int .u8 0), (.int .u8 0), (.int .u8 0), .nilFunc, (.pointer none), (.int .i32 0), (.int .i32 0)]) := TI.mk' (by kernel_rfl) (by kernel_rfl) (by kernel_rfl)
instance : TI Tryz.prog 173 (.struct (flds Tryz.prog 173)) 11 48 (Ag [(.int .u64 0), (.int .u64 0), (.int .u32 0), (.int .u8 0), (.int .u8 0), (.int .u8 0), (.int .u8 0), .nilFunc, (.pointer none), (.int .i32 0), (.int .i32 0)]) := ti173
instance fa7_0 : FA Tryz.prog 7 0 0 := FA.mk' (by kernel_rfl) ti2 rfl
instance fv7_0 : FV Tryz.prog 7 0 false 0 1 := FV.mk' (by kernel_rfl) ti2 rfl
instance fa7_1 : FA Tryz.prog 7 1 1 := FA.mk' (by kernel_rfl) ti3 rfl
instance fv7_1 : FV Tryz.prog 7 1 false 1 1 := FV.mk' (by kernel_rfl) ti3 rfl
instance fa7_2 : FA Tryz.prog 7 2 2 := FA.mk' (by kernel_rfl) ti4 rfl
instance fv7_2 : FV Tryz.prog 7 2 false 2 1 := FV.mk' (by kernel_rfl) ti4 rfl
instance fa7_3 : FA Tryz.prog 7 3 3 := FA.mk' (by kernel_rfl) ti6 rfl
instance fv7_3 : FV Tryz.prog 7 3 false 3 1 := FV.mk' (by kernel_rfl) ti6 rfl
instance : BT Tryz.prog 7 [(0, 1), (1, 1), (2, 1), (3, 1)] [(.int .i64 0), (.int .i64 0), (.bool false), (.int .u8 0)] := BT.mk' [(2, 0, 1), (3, 1, 1), (4, 2, 1), (6, 3, 1)] rfl (by kernel_rfl) (by kernel_rfl) rfl
instance fa8_0 : FA Tryz.prog 8 0 0 := FA.mk' (by kernel_rfl) ti2 rfl
instance fv8_0 : FV Tryz.prog 8 0 false 0 1 := FV.mk' (by kernel_rfl) ti2 rfl
instance fa8_1 : FA Tryz.prog 8 1 1 := FA.mk' (by kernel_rfl) ti3 rfl
instance fv8_1 : FV Tryz.prog 8 1 false 1 1 := FV.mk' (by kernel_rfl) ti3 rfl
instance fa8_2 : FA Tryz.prog 8 2 2 := FA.mk' (by kernel_rfl) ti4 rfl
instance fv8_2 : FV Tryz.prog 8 2 false 2 1 := FV.mk' (by kernel_rfl) ti4 rfl
instance fa8_3 : FA Tryz.prog 8 3 3 := FA.mk' (by kernel_rfl) ti6 rfl
instance fv8_3 : FV Tryz.prog 8 3 false 3 1 := FV.mk' (by kernel_rfl) ti6 rfl
instance : BT Tryz.prog 8 [(0, 1), (1, 1), (2, 1), (3, 1)] [(.int .i64 0), (.int .i64 0), (.bool false), (.int .u8 0)] := BT.mk' [(2, 0, 1), (3, 1, 1), (4, 2, 1), (6, 3, 1)] rfl (by kernel_rfl) (by kernel_rfl) rfl
instance fa13_0 : FA Tryz.prog 13 0 0 := FA.mk' (by kernel_rfl) ti9 rfl
instance fv13_0 : FV Tryz.prog 13 0 false 0 1 := FV.mk' (by kernel_rfl) ti9 rfl
instance fa13_1 : FA Tryz.prog 13 1 1 := FA.mk' (by kernel_rfl) ti12 rfl
instance fv13_1 : FV Tryz.prog 13 1 false 1 1 := FV.mk' (by kernel_rfl) ti12 rfl
instance : BT Tryz.prog 13 [(0, 1), (1, 1)] [(S []), (.int .u64 0)] := BT.mk' [(9, 0, 1), (12, 1, 1)] rfl (by kernel_rfl) (by kernel_rfl) rfl
instance fa14_0 : FA Tryz.prog 14 0 0 := FA.mk' (by kernel_rfl) ti9 rfl
instance fv14_0 : FV Tryz.prog 14 0 false 0 1 := FV.mk' (by kernel_rfl) ti9 rfl
instance fa14_1 : FA Tryz.prog 14 1 1 := FA.mk' (by kernel_rfl) ti12 rfl
instance fv14_1 : FV Tryz.prog 14 1 false 1 1 := FV.mk' (by kernel_rfl) ti12 rfl
instance : BT Tryz.prog 14 [(0, 1), (1, 1)] [(S []), (.int .u64 0)] := BT.mk' [(9, 0, 1), (12, 1, 1)] rfl (by kernel_rfl) (by kernel_rfl) rfl
instance fa18_0 : FA Tryz.prog 18 0 0 := FA.mk' (by kernel_rfl) ti17 rfl
instance fv18_0 : FV Tryz.prog 18 0 false 0 1 := FV.mk' (by kernel_rfl) ti17 rfl
instance : BT Tryz.prog 18 [(0, 1)] [(.pointer none)] := BT.mk' [(17, 0, 1)] rfl (by kernel_rfl) (by kernel_rfl) rfl
instance fa19_0 : FA Tryz.prog 19 0 0 := FA.mk' (by kernel_rfl) ti17 rfl
instance fv19_0 : FV Tryz.prog 19 0 false 0 1 := FV.mk' (by kernel_rfl) ti17 rfl
instance : BT Tryz.prog 19 [(0, 1)] [(.pointer none)] := BT.mk' [(17, 0, 1)] rfl (by kernel_rfl) (by kernel_rfl) rfl
instance fa31_0 : FA Tryz.prog 31 0 0 := FA.mk' (by kernel_rfl) ti9 rfl
instance fv31_0 : FV Tryz.prog 31 0 false 0 1 := FV.mk' (by kernel_rfl) ti9 rfl
instance fa31_1 : FA Tryz.prog 31 1 1 := FA.mk' (by kernel_rfl) ti9 rfl
instance fv31_1 : FV Tryz.prog 31 1 false 1 1 := FV.mk' (by kernel_rfl) ti9 rfl
instance fa31_2 : FA Tryz.prog 31 2 2 := FA.mk' (by kernel_rfl) ti9 rfl
instance fv31_2 : FV Tryz.prog 31 2 false 2 1 := FV.mk' (by kernel_rfl) ti9 rfl
instance : BT Tryz.prog 31 [(0, 1), (1, 1), (2, 1)] [(S []), (S []), (S [])] := BT.mk' [(9, 0, 1), (9, 1, 1), (9, 2, 1)] rfl (by kernel_rfl) (by kernel_rfl) rfl
instance fa32_0 : FA Tryz.prog 32 0 0 := FA.mk' (by kernel_rfl) ti9 rfl
instance fv32_0 : FV Tryz.prog 32 0 false 0 1 := FV.mk' (by kernel_rfl) ti9 rfl
instance fa32_1 : FA Tryz.prog 32 1 1 := FA.mk' (by kernel_rfl) ti9 rfl
instance fv32_1 : FV Tryz.prog 32 1 false 1 1 := FV.mk' (by kernel_rfl) ti9 rfl
instance fa32_2 : FA Tryz.prog 32 2 2 := FA.mk' (by kernel_rfl) ti9 rfl
instance fv32_2 : FV Tryz.prog 32 2 false 2 1 := FV.mk' (by kernel_rfl) ti9 rfl
instance : BT Tryz.prog 32 [(0, 1), (1, 1), (2, 1)] [(S []), (S []), (S [])] := BT.mk' [(9, 0, 1), (9, 1, 1), (9, 2, 1)] rfl (by kernel_rfl) (by kernel_rfl) rfl
instance fa34_0 : FA Tryz.prog 34 0 0 := FA.mk' (by kernel_rfl) ti5 rfl
instance fv34_0 : FV Tryz.prog 34 0 false 0 1 := FV.mk' (by kernel_rfl) ti5 rfl
instance fa34_1 : FA Tryz.prog 34 1 1 := FA.mk' (by kernel_rfl) ti9 rfl
instance fv34_1 : FV Tryz.prog 34 1 false 1 1 := FV.mk' (by kernel_rfl) ti9 rfl
instance fa34_2 : FA Tryz.prog 34 2 2 := FA.mk' (by kernel_rfl) ti3 rfl
instance fv34_2 : FV Tryz.prog 34 2 false 2 1 := FV.mk' (by kernel_rfl) ti3 rfl
instance fa34_3 : FA Tryz.prog 34 3 3 := FA.mk' (by kernel_rfl) ti33 rfl
instance fv34_3 : FV Tryz.prog 34 3 false 3 1 := FV.mk' (by kernel_rfl) ti33 rfl
instance : BT Tryz.prog 34 [(0, 1), (1, 1), (2, 1), (3, 1)] [(.int .u8 0), (S []), (.int .i64 0), nilS] := BT.mk' [(5, 0, 1), (9, 1, 1), (3, 2, 1), (33, 3, 1)] rfl (by kernel_rfl) (by kernel_rfl) rfl
instance fa35_0 : FA Tryz.prog 35 0 0 := FA.mk' (by kernel_rfl) ti5 rfl
instance fv35_0 : FV Tryz.prog 35 0 false 0 1 := FV.mk' (by kernel_rfl) ti5 rfl
instance fa35_1 : FA Tryz.prog 35 1 1 := FA.mk' (by kernel_rfl) ti9 rfl
instance fv35_1 : FV Tryz.prog 35 1 false 1 1 := FV.mk' (by kernel_rfl) ti9 rfl
instance fa35_2 : FA Tryz.prog 35 2 2 := FA.mk' (by kernel_rfl) ti3 rfl
instance fv35_2 : FV Tryz.prog 35 2 false 2 1 := FV.mk' (by kernel_rfl) ti3 rfl
instance fa35_3 : FA Tryz.prog 35 3 3 := FA.mk' (by kernel_rfl) ti33 rfl
instance fv35_3 : FV Tryz.prog 35 3 false 3 1 := FV.mk' (by kernel_rfl) ti33 rfl
instance : BT Tryz.prog 35 [(0, 1), (1, 1), (2, 1), (3, 1)] [(.int .u8 0), (S []), (.int .i64 0), nilS] := BT.mk' [(5, 0, 1), (9, 1, 1), (3, 2, 1), (33, 3, 1)] rfl (by kernel_rfl) (by kernel_rfl) rfl
instance fa41_0 : FA Tryz.prog 41 0 0 := FA.mk' (by kernel_rfl) ti25 rfl
instance fv41_0 : FV Tryz.prog 41 0 false 0 1 := FV.mk' (by kernel_rfl) ti25 rfl
instance : BT Tryz.prog 41 [(0, 1)] [nilS] := BT.mk' [(25, 0, 1)] rfl (by kernel_rfl) (by kernel_rfl) rfl
instance fa42_0 : FA Tryz.prog 42 0 0 := FA.mk' (by kernel_rfl) ti25 rfl
instance fv42_0 : FV Tryz.prog 42 0 false 0 1 := FV.mk' (by kernel_rfl) ti25 rfl
instance : BT Tryz.prog 42 [(0, 1)] [nilS] := BT.mk' [(25, 0, 1)] rfl (by kernel_rfl) (by kernel_rfl) rfl
instance fa46_0 : FA Tryz.prog 46 0 0 := FA.mk' (by kernel_rfl) ti9 rfl
instance fv46_0 : FV Tryz.prog 46 0 false 0 1 := FV.mk' (by kernel_rfl) ti9 rfl
instance fa46_1 : FA Tryz.prog 46 1 1 := FA.mk' (by kernel_rfl) ti9 rfl
instance fv46_1 : FV Tryz.prog 46 1 false 1 1 := FV.mk' (by kernel_rfl) ti9 rfl
instance fa46_2 : FA Tryz.prog 46 2 2 := FA.mk' (by kernel_rfl) ti44 rfl
instance fv46_2 : FV Tryz.prog 46 2 false 2 1 := FV.mk' (by kernel_rfl) ti44 rfl
instance fa46_3 : FA Tryz.prog 46 3 3 := FA.mk' (by kernel_rfl) ti45 rfl
instance fv46_3 : FV Tryz.prog 46 3 false 3 1 := FV.mk' (by kernel_rfl) ti45 rfl
instance : BT Tryz.prog 46 [(0, 1), (1, 1), (2, 1), (3, 1)] [(S []), (S []), nilS, nilS] := BT.mk' [(9, 0, 1), (9, 1, 1), (44, 2, 1), (45, 3, 1)] rfl (by kernel_rfl) (by kernel_rfl) rfl
instance fa47_0 : FA Tryz.prog 47 0 0 := FA.mk' (by kernel_rfl) ti9 rfl
instance fv47_0 : FV Tryz.prog 47 0 false 0 1 := FV.mk' (by kernel_rfl) ti9 rfl
instance fa47_1 : FA Tryz.prog 47 1 1 := FA.mk' (by kernel_rfl) ti9 rfl
instance fv47_1 : FV Tryz.prog 47 1 false 1 1 := FV.mk' (by kernel_rfl) ti9 rfl
instance fa47_2 : FA Tryz.prog 47 2 2 := FA.mk' (by kernel_rfl) ti44 rfl
instance fv47_2 : FV Tryz.prog 47 2 false 2 1 := FV.mk' (by kernel_rfl) ti44 rfl
instance fa47_3 : FA Tryz.prog 47 3 3 := FA.mk' (by kernel_rfl) ti45 rfl
instance fv47_3 : FV Tryz.prog 47 3 false 3 1 := FV.mk' (by kernel_rfl) ti45 rfl
instance : BT Tryz.prog 47 [(0, 1), (1, 1), (2, 1), (3, 1)] [(S []), (S []), nilS, nilS] := BT.mk' [(9, 0, 1), (9, 1, 1), (44, 2, 1), (45, 3, 1)] rfl (by kernel_rfl) (by kernel_rfl) rfl
instance fa58_0 : FA Tryz.prog 58 0 0 := FA.mk' (by kernel_rfl) ti5 rfl
instance fv58_0 : FV Tryz.prog 58 0 false 0 1 := FV.mk' (by kernel_rfl) ti5 rfl
instance fa58_1 : FA Tryz.prog 58 1 1 := FA.mk' (by kernel_rfl) ti9 rfl
instance fv58_1 : FV Tryz.prog 58 1 false 1 1 := FV.mk' (by kernel_rfl) ti9 rfl
instance fa58_2 : FA Tryz.prog 58 2 2 := FA.mk' (by kernel_rfl) ti57 rfl
instance fv58_2 : FV Tryz.prog 58 2 false 2 1 := FV.mk' (by kernel_rfl) ti57 rfl
instance : BT Tryz.prog 58 [(0, 1), (1, 1), (2, 1)] [(.int .u8 0), (S []), nilS] := BT.mk' [(5, 0, 1), (9, 1, 1), (57, 2, 1)] rfl (by kernel_rfl) (by kernel_rfl) rfl
instance fa59_0 : FA Tryz.prog 59 0 0 := FA.mk' (by kernel_rfl) ti5 rfl
instance fv59_0 : FV Tryz.prog 59 0 false 0 1 := FV.mk' (by kernel_rfl) ti5 rfl
instance fa59_1 : FA Tryz.prog 59 1 1 := FA.mk' (by kernel_rfl) ti9 rfl
instance fv59_1 : FV Tryz.prog 59 1 false 1 1 := FV.mk' (by kernel_rfl) ti9 rfl
instance fa59_2 : FA Tryz.prog 59 2 2 := FA.mk' (by kernel_rfl) ti57 rfl
instance fv59_2 : FV Tryz.prog 59 2 false 2 1 := FV.mk' (by kernel_rfl) ti57 rfl
instance : BT Tryz.prog 59 [(0, 1), (1, 1), (2, 1)] [(.int .u8 0), (S []), nilS] := BT.mk' [(5, 0, 1), (9, 1, 1), (57, 2, 1)] rfl (by kernel_rfl) (by kernel_rfl) rfl
instance fa69_0 : FA Tryz.prog 69 0 0 := FA.mk' (by kernel_rfl) ti30 rfl
instance fv69_0 : FV Tryz.prog 69 0 false 0 1 := FV.mk' (by kernel_rfl) ti30 rfl
instance fa69_1 : FA Tryz.prog 69 1 1 := FA.mk' (by kernel_rfl) ti9 rfl
instance fv69_1 : FV Tryz.prog 69 1 false 1 1 := FV.mk' (by kernel_rfl) ti9 rfl
instance fa69_2 : FA Tryz.prog 69 2 2 := FA.mk' (by kernel_rfl) ti4 rfl
instance fv69_2 : FV Tryz.prog 69 2 false 2 1 := FV.mk' (by kernel_rfl) ti4 rfl
instance : BT Tryz.prog 69 [(0, 1), (1, 1), (2, 1)] [(.pointer none), (S []), (.bool false)] := BT.mk' [(30, 0, 1), (9, 1, 1), (4, 2, 1)] rfl (by kernel_rfl) (by kernel_rfl) rfl
instance fa70_0 : FA Tryz.prog 70 0 0 := FA.mk' (by kernel_rfl) ti30 rfl
instance fv70_0 : FV Tryz.prog 70 0 false 0 1 := FV.mk' (by kernel_rfl) ti30 rfl
instance fa70_1 : FA Tryz.prog 70 1 1 := FA.mk' (by kernel_rfl) ti9 rfl
instance fv70_1 : FV Tryz.prog 70 1 false 1 1 := FV.mk' (by kernel_rfl) ti9 rfl
instance fa70_2 : FA Tryz.prog 70 2 2 := FA.mk' (by kernel_rfl) ti4 rfl
instance fv70_2 : FV Tryz.prog 70 2 false 2 1 := FV.mk' (by kernel_rfl) ti4 rfl
instance : BT Tryz.prog 70 [(0, 1), (1, 1), (2, 1)] [(.pointer none), (S []), (.bool false)] := BT.mk' [(30, 0, 1), (9, 1, 1), (4, 2, 1)] rfl (by kernel_rfl) (by kernel_rfl) rfl
instance fa76_0 : FA Tryz.prog 76 0 0 := FA.mk' (by kernel_rfl) ti3 rfl
instance fv76_0 : FV Tryz.prog 76 0 false 0 1 := FV.mk' (by kernel_rfl) ti3 rfl
instance fa76_1 : FA Tryz.prog 76 1 1 := FA.mk' (by kernel_rfl) ti9 rfl
instance fv76_1 : FV Tryz.prog 76 1 false 1 1 := FV.mk' (by kernel_rfl) ti9 rfl
instance fa76_2 : FA Tryz.prog 76 2 2 := FA.mk' (by kernel_rfl) ti9 rfl
instance fv76_2 : FV Tryz.prog 76 2 false 2 1 := FV.mk' (by kernel_rfl) ti9 rfl
instance fa76_3 : FA Tryz.prog 76 3 3 := FA.mk' (by kernel_rfl) ti9 rfl
instance fv76_3 : FV Tryz.prog 76 3 false 3 1 := FV.mk' (by kernel_rfl) ti9 rfl
instance : BT Tryz.prog 76 [(0, 1), (1, 1), (2, 1), (3, 1)] [(.int .i64 0), (S []), (S []), (S [])] := BT.mk' [(3, 0, 1), (9, 1, 1), (9, 2, 1), (9, 3, 1)] rfl (by kernel_rfl) (by kernel_rfl) rfl
instance fa77_0 : FA Tryz.prog 77 0 0 := FA.mk' (by kernel_rfl) ti3 rfl
instance fv77_0 : FV Tryz.prog 77 0 false 0 1 := FV.mk' (by kernel_rfl) ti3 rfl
instance fa77_1 : FA Tryz.prog 77 1 1 := FA.mk' (by kernel_rfl) ti9 rfl
instance fv77_1 : FV Tryz.prog 77 1 false 1 1 := FV.mk' (by kernel_rfl) ti9 rfl
instance fa77_2 : FA Tryz.prog 77 2 2 := FA.mk' (by kernel_rfl) ti9 rfl
instance fv77_2 : FV Tryz.prog 77 2 false 2 1 := FV.mk' (by kernel_rfl) ti9 rfl
instance fa77_3 : FA Tryz.prog 77 3 3 := FA.mk' (by kernel_rfl) ti9 rfl
instance fv77_3 : FV Tryz.prog 77 3 false 3 1 := FV.mk' (by kernel_rfl) ti9 rfl
instance : BT Tryz.prog 77 [(0, 1), (1, 1), (2, 1), (3, 1)] [(.int .i64 0), (S []), (S []), (S [])] := BT.mk' [(3, 0, 1), (9, 1, 1), (9, 2, 1), (9, 3, 1)] rfl (by kernel_rfl) (by kernel_rfl) rfl
instance fa85_0 : FA Tryz.prog 85 0 0 := FA.mk' (by kernel_rfl) ti84 rfl
instance fv85_0 : FV Tryz.prog 85 0 false 0 1 := FV.mk' (by kernel_rfl) ti84 rfl
instance fa85_1 : FA Tryz.prog 85 1 1 := FA.mk' (by kernel_rfl) ti83 rfl
instance fv85_1 : FV Tryz.prog 85 1 false 1 1 := FV.mk' (by kernel_rfl) ti83 rfl
instance : BT Tryz.prog 85 [(0, 1), (1, 1)] [nilS, (.map none)] := BT.mk' [(84, 0, 1), (83, 1, 1)] rfl (by kernel_rfl) (by kernel_rfl) rfl
instance fa86_0 : FA Tryz.prog 86 0 0 := FA.mk' (by kernel_rfl) ti84 rfl
instance fv86_0 : FV Tryz.prog 86 0 false 0 1 := FV.mk' (by kernel_rfl) ti84 rfl
instance fa86_1 : FA Tryz.prog 86 1 1 := FA.mk' (by kernel_rfl) ti83 rfl
instance fv86_1 : FV Tryz.prog 86 1 false 1 1 := FV.mk' (by kernel_rfl) ti83 rfl
instance : BT Tryz.prog 86 [(0, 1), (1, 1)] [nilS, (.map none)] := BT.mk' [(84, 0, 1), (83, 1, 1)] rfl (by kernel_rfl) (by kernel_rfl) rfl
instance fa93_0 : FA Tryz.prog 93 0 0 := FA.mk' (by kernel_rfl) ti5 rfl
instance fv93_0 : FV Tryz.prog 93 0 false 0 1 := FV.mk' (by kernel_rfl) ti5 rfl
instance fa93_1 : FA Tryz.prog 93 1 1 := FA.mk' (by kernel_rfl) ti9 rfl
instance fv93_1 : FV Tryz.prog 93 1 false 1 1 := FV.mk' (by kernel_rfl) ti9 rfl
instance fa93_2 : FA Tryz.prog 93 2 2 := FA.mk' (by kernel_rfl) ti92 rfl
instance fv93_2 : FV Tryz.prog 93 2 false 2 1 := FV.mk' (by kernel_rfl) ti92 rfl
instance fa93_3 : FA Tryz.prog 93 3 3 := FA.mk' (by kernel_rfl) ti9 rfl
instance fv93_3 : FV Tryz.prog 93 3 false 3 1 := FV.mk' (by kernel_rfl) ti9 rfl
instance : BT Tryz.prog 93 [(0, 1), (1, 1), (2, 1), (3, 1)] [(.int .u8 0), (S []), nilS, (S [])] := BT.mk' [(5, 0, 1), (9, 1, 1), (92, 2, 1), (9, 3, 1)] rfl (by kernel_rfl) (by kernel_rfl) rfl
instance fa94_0 : FA Tryz.prog 94 0 0 := FA.mk' (by kernel_rfl) ti5 rfl
instance fv94_0 : FV Tryz.prog 94 0 false 0 1 := FV.mk' (by kernel_rfl) ti5 rfl
instance fa94_1 : FA Tryz.prog 94 1 1 := FA.mk' (by kernel_rfl) ti9 rfl
instance fv94_1 : FV Tryz.prog 94 1 false 1 1 := FV.mk' (by kernel_rfl) ti9 rfl
instance fa94_2 : FA Tryz.prog 94 2 2 := FA.mk' (by kernel_rfl) ti92 rfl
instance fv94_2 : FV Tryz.prog 94 2 false 2 1 := FV.mk' (by kernel_rfl) ti92 rfl
instance fa94_3 : FA Tryz.prog 94 3 3 := FA.mk' (by kernel_rfl) ti9 rfl
instance fv94_3 : FV Tryz.prog 94 3 false 3 1 := FV.mk' (by kernel_rfl) ti9 rfl
instance : BT Tryz.prog 94 [(0, 1), (1, 1), (2, 1), (3, 1)] [(.int .u8 0), (S []), nilS, (S [])] := BT.mk' [(5, 0, 1), (9, 1, 1), (92, 2, 1), (9, 3, 1)] rfl (by kernel_rfl) (by kernel_rfl) rfl
instance fa95_0 : FA Tryz.prog 95 0 0 := FA.mk' (by kernel_rfl) ti3 rfl
instance fv95_0 : FV Tryz.prog 95 0 false 0 1 := FV.mk' (by kernel_rfl) ti3 rfl
instance fa95_1 : FA Tryz.prog 95 1 1 := FA.mk' (by kernel_rfl) ti9 rfl
instance fv95_1 : FV Tryz.prog 95 1 false 1 1 := FV.mk' (by kernel_rfl) ti9 rfl
instance fa95_2 : FA Tryz.prog 95 2 2 := FA.mk' (by kernel_rfl) ti32 rfl
instance fv95_2 : FV Tryz.prog 95 2 true 2 3 := FV.mk' (by kernel_rfl) ti32 rfl
instance fa95_3 : FA Tryz.prog 95 3 5 := FA.mk' (by kernel_rfl) ti9 rfl
instance fv95_3 : FV Tryz.prog 95 3 false 5 1 := FV.mk' (by kernel_rfl) ti9 rfl
instance : BT Tryz.prog 95 [(0, 1), (1, 1), (2, 3), (5, 1)] [(.int .i64 0), (S []), (S []), (S []), (S []), (S [])] := BT.mk' [(3, 0, 1), (9, 1, 1), (32, 2, 3), (9, 5, 1)] rfl (by kernel_rfl) (by kernel_rfl) rfl
instance fa96_0 : FA Tryz.prog 96 0 0 := FA.mk' (by kernel_rfl) ti3 rfl
instance fv96_0 : FV Tryz.prog 96 0 false 0 1 := FV.mk' (by kernel_rfl) ti3 rfl
instance fa96_1 : FA Tryz.prog 96 1 1 := FA.mk' (by kernel_rfl) ti9 rfl
instance fv96_1 : FV Tryz.prog 96 1 false 1 1 := FV.mk' (by kernel_rfl) ti9 rfl
instance fa96_2 : FA Tryz.prog 96 2 2 := FA.mk' (by kernel_rfl) ti32 rfl
instance fv96_2 : FV Tryz.prog 96 2 true 2 3 := FV.mk' (by kernel_rfl) ti32 rfl
instance fa96_3 : FA Tryz.prog 96 3 5 := FA.mk' (by kernel_rfl) ti9 rfl
instance fv96_3 : FV Tryz.prog 96 3 false 5 1 := FV.mk' (by kernel_rfl) ti9 rfl
instance : BT Tryz.prog 96 [(0, 1), (1, 1), (2, 3), (5, 1)] [(.int .i64 0), (S []), (S []), (S []), (S []), (S [])] := BT.mk' [(3, 0, 1), (9, 1, 1), (32, 2, 3), (9, 5, 1)] rfl (by kernel_rfl) (by kernel_rfl) rfl
instance fa143_0 : FA Tryz.prog 143 0 0 := FA.mk' (by kernel_rfl) ti142 rfl
instance fv143_0 : FV Tryz.prog 143 0 false 0 1 := FV.mk' (by kernel_rfl) ti142 rfl
instance fa143_1 : FA Tryz.prog 143 1 1 := FA.mk' (by kernel_rfl) ti124 rfl
instance fv143_1 : FV Tryz.prog 143 1 false 1 1 := FV.mk' (by kernel_rfl) ti124 rfl
instance : BT Tryz.prog 143 [(0, 1), (1, 1)] [(.pointer none), nilS] := BT.mk' [(142, 0, 1), (124, 1, 1)] rfl (by kernel_rfl) (by kernel_rfl) rfl
instance fa144_0 : FA Tryz.prog 144 0 0 := FA.mk' (by kernel_rfl) ti142 rfl
instance fv144_0 : FV Tryz.prog 144 0 false 0 1 := FV.mk' (by kernel_rfl) ti142 rfl
instance fa144_1 : FA Tryz.prog 144 1 1 := FA.mk' (by kernel_rfl) ti124 rfl
instance fv144_1 : FV Tryz.prog 144 1 false 1 1 := FV.mk' (by kernel_rfl) ti124 rfl
instance : BT Tryz.prog 144 [(0, 1), (1, 1)] [(.pointer none), nilS] := BT.mk' [(142, 0, 1), (124, 1, 1)] rfl (by kernel_rfl) (by kernel_rfl) rfl
instance fa154_0 : FA Tryz.prog 154 0 0 := FA.mk' (by kernel_rfl) ti5 rfl
instance fv154_0 : FV Tryz.prog 154 0 false 0 1 := FV.mk' (by kernel_rfl) ti5 rfl
instance fa154_1 : FA Tryz.prog 154 1 1 := FA.mk' (by kernel_rfl) ti5 rfl
instance fv154_1 : FV Tryz.prog 154 1 false 1 1 := FV.mk' (by kernel_rfl) ti5 rfl
instance : BT Tryz.prog 154 [(0, 1), (1, 1)] [(.int .u8 0), (.int .u8 0)] := BT.mk' [(5, 0, 1), (5, 1, 1)] rfl (by kernel_rfl) (by kernel_rfl) rfl
instance fa155_0 : FA Tryz.prog 155 0 0 := FA.mk' (by kernel_rfl) ti5 rfl
instance fv155_0 : FV Tryz.prog 155 0 false 0 1 := FV.mk' (by kernel_rfl) ti5 rfl
instance fa155_1 : FA Tryz.prog 155 1 1 := FA.mk' (by kernel_rfl) ti5 rfl
instance fv155_1 : FV Tryz.prog 155 1 false 1 1 := FV.mk' (by kernel_rfl) ti5 rfl
instance : BT Tryz.prog 155 [(0, 1), (1, 1)] [(.int .u8 0), (.int .u8 0)] := BT.mk' [(5, 0, 1), (5, 1, 1)] rfl (by kernel_rfl) (by kernel_rfl) rfl
instance fa162_0 : FA Tryz.prog 162 0 0 := FA.mk' (by kernel_rfl) ti17 rfl
instance fv162_0 : FV Tryz.prog 162 0 false 0 1 := FV.mk' (by kernel_rfl) ti17 rfl
instance fa162_1 : FA Tryz.prog 162 1 1 := FA.mk' (by kernel_rfl) ti17 rfl
instance fv162_1 : FV Tryz.prog 162 1 false 1 1 := FV.mk' (by kernel_rfl) ti17 rfl
instance fa162_2 : FA Tryz.prog 162 2 2 := FA.mk' (by kernel_rfl) ti17 rfl
instance fv162_2 : FV Tryz.prog 162 2 false 2 1 := FV.mk' (by kernel_rfl) ti17 rfl
instance fa162_3 : FA Tryz.prog 162 3 3 := FA.mk' (by kernel_rfl) ti9 rfl
instance fv162_3 : FV Tryz.prog 162 3 false 3 1 := FV.mk' (by kernel_rfl) ti9 rfl
instance : BT Tryz.prog 162 [(0, 1), (1, 1), (2, 1), (3, 1)] [(.pointer none), (.pointer none), (.pointer none), (S [])] := BT.mk' [(17, 0, 1), (17, 1, 1), (17, 2, 1), (9, 3, 1)] rfl (by kernel_rfl) (by kernel_rfl) rfl
instance fa163_0 : FA Tryz.prog 163 0 0 := FA.mk' (by kernel_rfl) ti17 rfl
instance fv163_0 : FV Tryz.prog 163 0 false 0 1 := FV.mk' (by kernel_rfl) ti17 rfl
instance fa163_1 : FA Tryz.prog 163 1 1 := FA.mk' (by kernel_rfl) ti17 rfl
instance fv163_1 : FV Tryz.prog 163 1 false 1 1 := FV.mk' (by kernel_rfl) ti17 rfl
instance fa163_2 : FA Tryz.prog 163 2 2 := FA.mk' (by kernel_rfl) ti17 rfl
instance fv163_2 : FV Tryz.prog 163 2 false 2 1 := FV.mk' (by kernel_rfl) ti17 rfl
instance fa163_3 : FA Tryz.prog 163 3 3 := FA.mk' (by kernel_rfl) ti9 rfl
instance fv163_3 : FV Tryz.prog 163 3 false 3 1 := FV.mk' (by kernel_rfl) ti9 rfl
instance : BT Tryz.prog 163 [(0, 1), (1, 1), (2, 1), (3, 1)] [(.pointer none), (.pointer none), (.pointer none), (S [])] := BT.mk' [(17, 0, 1), (17, 1, 1), (17, 2, 1), (9, 3, 1)] rfl (by kernel_rfl) (by kernel_rfl) rfl
instance : BT Tryz.prog 165 [(0, 0)] [] := BT.mk' [(164, 0, 0)] rfl (by kernel_rfl) (by kernel_rfl) rfl
instance : BT Tryz.prog 166 [(0, 0)] [] := BT.mk' [(164, 0, 0)] rfl (by kernel_rfl) (by kernel_rfl) rfl
def tb : Tbl := ⟨12, 561216628735066720590214975763052679547878096502880, 16, 3584, 365380984566877570055582533847966566492395503616, [(7, [(false, 0, 1), (false, 1, 1), (false, 2, 1), (false, 3, 1)]), (8, [(false, 0, 1), (false, 1, 1), (false, 2, 1), (false, 3, 1)]), (13, [(false, 0, 1), (false, 1, 1)]), (14, [(false, 0, 1), (false, 1, 1)]), (18, [(false, 0, 1)]), (19, [(false, 0, 1)]), (31, [(false, 0, 1), (false, 1, 1), (false, 2, 1)]), (32, [(false, 0, 1), (false, 1, 1), (false, 2, 1)]), (34, [(false, 0, 1), (false, 1, 1), (false, 2, 1), (false, 3, 1)]), (35, [(false, 0, 1), (false, 1, 1), (false, 2, 1), (false, 3, 1)]), (41, [(false, 0, 1)]), (42, [(false, 0, 1)]), (46, [(false, 0, 1), (false, 1, 1), (false, 2, 1), (false, 3, 1)]), (47, [(false, 0, 1), (false, 1, 1), (false, 2, 1), (false, 3, 1)]), (58, [(false, 0, 1), (false, 1, 1), (false, 2, 1)]), (59, [(false, 0, 1), (false, 1, 1), (false, 2, 1)]), (69, [(false, 0, 1), (false, 1, 1), (false, 2, 1)]), (70, [(false, 0, 1), (false, 1, 1), (false, 2, 1)]), (76, [(false, 0, 1), (false, 1, 1), (false, 2, 1), (false, 3, 1)]), (77, [(false, 0, 1), (false, 1, 1), (false, 2, 1), (false, 3, 1)]), (85, [(false, 0, 1), (false, 1, 1)]), (86, [(false, 0, 1), (false, 1, 1)]), (93, [(false, 0, 1), (false, 1, 1), (false, 2, 1), (false, 3, 1)]), (94, [(false, 0, 1), (false, 1, 1), (false, 2, 1), (false, 3, 1)]), (95, [(false, 0, 1), (false, 1, 1), (true, 2, 3), (false, 5, 1)]), (96, [(false, 0, 1), (false, 1, 1), (true, 2, 3), (false, 5, 1)]), (143, [(false, 0, 1), (false, 1, 1)]), (144, [(false, 0, 1), (false, 1, 1)]), (154, [(false, 0, 1), (false, 1, 1)]), (155, [(false, 0, 1), (false, 1, 1)]), (162, [(false, 0, 1), (false, 1, 1), (false, 2, 1), (false, 3, 1)]), (163, [(false, 0, 1), (false, 1, 1), (false, 2, 1), (false, 3, 1)])]⟩
theorem tbFl : flOk Tryz.prog tb.fl := ⟨⟨⟨fv7_0, fa7_0⟩, ⟨fv7_1, fa7_1⟩, ⟨fv7_2, fa7_2⟩, ⟨fv7_3, fa7_3⟩, trivial⟩, ⟨⟨fv8_0, fa8_0⟩, ⟨fv8_1, fa8_1⟩, ⟨fv8_2, fa8_2⟩, ⟨fv8_3, fa8_3⟩, trivial⟩, ⟨⟨fv13_0, fa13_0⟩, ⟨fv13_1, fa13_1⟩, trivial⟩, ⟨⟨fv14_0, fa14_0⟩, ⟨fv14_1, fa14_1⟩, trivial⟩, ⟨⟨fv18_0, fa18_0⟩, trivial⟩, ⟨⟨fv19_0, fa19_0⟩, trivial⟩, ⟨⟨fv31_0, fa31_0⟩, ⟨fv31_1, fa31_1⟩, ⟨fv31_2, fa31_2⟩, trivial⟩, ⟨⟨fv32_0, fa32_0⟩, ⟨fv32_1, fa32_1⟩, ⟨fv32_2, fa32_2⟩, trivial⟩, ⟨⟨fv34_0, fa34_0⟩, ⟨fv34_1, fa34_1⟩, ⟨fv34_2, fa34_2⟩, ⟨fv34_3, fa34_3⟩, trivial⟩, ⟨⟨fv35_0, fa35_0⟩, ⟨fv35_1, fa35_1⟩, ⟨fv35_2, fa35_2⟩, ⟨fv35_3, fa35_3⟩, trivial⟩, ⟨⟨fv41_0, fa41_0⟩, trivial⟩, ⟨⟨fv42_0, fa42_0⟩, trivial⟩, ⟨⟨fv46_0, fa46_0⟩, ⟨fv46_1, fa46_1⟩, ⟨fv46_2, fa46_2⟩, ⟨fv46_3, fa46_3⟩, trivial⟩, ⟨⟨fv47_0, fa47_0⟩, ⟨fv47_1, fa47_1⟩, ⟨fv47_2, fa47_2⟩, ⟨fv47_3, fa47_3⟩, trivial⟩, ⟨⟨fv58_0, fa58_0⟩, ⟨fv58_1, fa58_1⟩, ⟨fv58_2, fa58_2⟩, trivial⟩, ⟨⟨fv59_0, fa59_0⟩, ⟨fv59_1, fa59_1⟩, ⟨fv59_2, fa59_2⟩, trivial⟩, ⟨⟨fv69_0, fa69_0⟩, ⟨fv69_1, fa69_1⟩, ⟨fv69_2, fa69_2⟩, trivial⟩, ⟨⟨fv70_0, fa70_0⟩, ⟨fv70_1, fa70_1⟩, ⟨fv70_2, fa70_2⟩, trivial⟩, ⟨⟨fv76_0, fa76_0⟩, ⟨fv76_1, fa76_1⟩, ⟨fv76_2, fa76_2⟩, ⟨fv76_3, fa76_3⟩, trivial⟩, ⟨⟨fv77_0, fa77_0⟩, ⟨fv77_1, fa77_1⟩, ⟨fv77_2, fa77_2⟩, ⟨fv77_3, fa77_3⟩, trivial⟩, ⟨⟨fv85_0, fa85_0⟩, ⟨fv85_1, fa85_1⟩, trivial⟩, ⟨⟨fv86_0, fa86_0⟩, ⟨fv86_1, fa86_1⟩, trivial⟩, ⟨⟨fv93_0, fa93_0⟩, ⟨fv93_1, fa93_1⟩, ⟨fv93_2, fa93_2⟩, ⟨fv93_3, fa93_3⟩, trivial⟩, ⟨⟨fv94_0, fa94_0⟩, ⟨fv94_1, fa94_1⟩, ⟨fv94_2, fa94_2⟩, ⟨fv94_3, fa94_3⟩, trivial⟩, ⟨⟨fv95_0, fa95_0⟩, ⟨fv95_1, fa95_1⟩, ⟨fv95_2, fa95_2⟩, ⟨fv95_3, fa95_3⟩, trivial⟩, ⟨⟨fv96_0, fa96_0⟩, ⟨fv96_1, fa96_1⟩, ⟨fv96_2, fa96_2⟩, ⟨fv96_3, fa96_3⟩, trivial⟩, ⟨⟨fv143_0, fa143_0⟩, ⟨fv143_1, fa143_1⟩, trivial⟩, ⟨⟨fv144_0, fa144_0⟩, ⟨fv144_1, fa144_1⟩, trivial⟩, ⟨⟨fv154_0, fa154_0⟩, ⟨fv154_1, fa154_1⟩, trivial⟩, ⟨⟨fv155_0, fa155_0⟩, ⟨fv155_1, fa155_1⟩, trivial⟩, ⟨⟨fv162_0, fa162_0⟩, ⟨fv162_1, fa162_1⟩, ⟨fv162_2, fa162_2⟩, ⟨fv162_3, fa162_3⟩, trivial⟩, ⟨⟨fv163_0, fa163_0⟩, ⟨fv163_1, fa163_1⟩, ⟨fv163_2, fa163_2⟩, ⟨fv163_3, fa163_3⟩, trivial⟩, trivial⟩
instance : Tab Tryz.prog tb := Tab.mk' 174 (by kernel_rfl) (by kernel_rfl) (by kernel_rfl) (by kernel_rfl) (by kernel_rfl) tbFl
theorem mixed : Tryz.prog.follows .mixedOrders = true := by kernel_rfl
end Go.E
/-! Pa -/
namespace Go.E
set_option maxRecDepth 20000
set_option maxHeartbeats 2000000
theorem u8s_snoc (l : List UInt8) (c : UInt8) : u8s (l ++ [c]) = u8s l ++ [U8 c.toNat] := by simp [u8s]
/-- The bytes of a number. -/
def num (n : Nat) : List UInt8 := if h : n < 128 then [u8 n] else u8 (128 + n % 128 : Nat) :: num (n / 128)
termination_by n
decreasing_by omega
theorem num_lo {n : Nat} (h : n < 128) : num n = [u8 n] := by rw [num]; simp [h]
theorem num_hi {n : Nat} (h : ¬ n < 128) : num n = u8 (128 + n % 128 : Nat) :: num (n / 128) := by rw [num]; simp [h]
def numI (n : Int) : List UInt8 := num n.toNat
theorem numI_lo {n : Int} (h : n < 128) (h0 : 0 ≤ n) : numI n = [u8 n] := by
  unfold numI; rw [num_lo (by omega), Int.toNat_of_nonneg h0]
theorem numI_hi {n : Int} (h : ¬ n < 128) : numI n = u8 (128 + n % 128) :: numI (n / 128) := by
  unfold numI; rw [num_hi (by omega)]
  congr 2
  · omega
  · omega
theorem num_len (n : Nat) : ∀ k, n < 128 ^ (k + 1) → (num n).length ≤ k + 1 := by
  intro k
  induction k generalizing n with
  | zero => intro h; rw [num_lo (by simpa using h)]; simp
  | succ k ih =>
    intro h
    by_cases h1 : n < 128
    · rw [num_lo h1]; simp
    · rw [num_hi h1]
      have := ih (n / 128) (Nat.div_lt_of_lt_mul (by rw [Nat.pow_succ] at h; omega))
      simp; omega
theorem num_len9 (n : Nat) (h : n ≤ 9223372036854775807) : (num n).length ≤ 9 := num_len n 8 (by omega)
theorem numI_len (n : Int) (h : n ≤ 9223372036854775807) : (numI n).length ≤ 9 := num_len9 _ (by omega)
def sumF (n : Int) : List UInt8 → Int
  | [] => n
  | c :: l => sumF ((n * 31 + (c.toNat : Int)) % 9973) l
def sumB (l : List UInt8) : Int := sumF 1 l
theorem sumF_range (l : List UInt8) : ∀ n : Int, 0 ≤ n → n < 9973 → 0 ≤ sumF n l ∧ sumF n l < 9973 := by
  induction l with
  | nil => intro n h1 h2; exact ⟨h1, h2⟩
  | cons c l ih => intro n h1 h2; exact ih _ (Int.emod_nonneg _ (by decide)) (Int.emod_lt_of_pos _ (by decide))
theorem sumB_range (l : List UInt8) : 0 ≤ sumB l ∧ sumB l < 9973 := sumF_range l 1 (by decide) (by decide)
theorem drop_bt {l : List UInt8} {i : Nat} (h : i < l.length) : ∃ c : UInt8, l.drop i = c :: l.drop (i + 1) ∧ bt l i = c.toNat := by
  refine ⟨l[i], (List.getElem_cons_drop (h := h)).symm, ?_⟩
  simp [bt, List.getD, List.getElem?_eq_getElem h]
def frame (s : List UInt8) : List UInt8 := [u8 126] ++ numI s.length ++ s ++ numI (sumB s)
theorem numI_len3 {n : Int} (h : n ≤ 999999) : (numI n).length ≤ 3 := num_len _ 2 (by omega)
theorem sumB_len (l : List UInt8) : (numI (sumB l)).length ≤ 3 := numI_len3 (by have := sumB_range l; omega)
theorem frame_len (s : List UInt8) (h : s.length ≤ 999999) : (frame s).length ≤ s.length + 7 := by
  have h1 := numI_len3 (n := s.length) (by omega)
  have h2 := sumB_len s
  simp [frame]; omega
def fpS (s : List UInt8) : List UInt8 := if s.length ≤ 100 then frame s else []
def fpB (s : List UInt8) : Bool := decide (s.length ≤ 100)
theorem fp_no {s : List UInt8} (h : ¬ s.length ≤ 100) : Tu [S [], Bo false] = Tu [S (fpS s), Bo (fpB s)] := by simp [fpS, fpB, h]
theorem fp_yes {s : List UInt8} (h : s.length ≤ 100) : Tu [S (frame s), Bo true] = Tu [S (fpS s), Bo (fpB s)] := by simp [fpS, fpB, h]
end Go.E
/-! Ca -/
namespace Go.E
set_option maxRecDepth 20000
set_option maxHeartbeats 2000000
open Go.Proofs
variable {G : Gh}
theorem c_l6In {n lo hi : Int} : PuG Tryz.prog 55 [I n, I lo, I hi] G (· = Bo (decide (lo ≤ n) && decide (n ≤ hi))) := by
  refine p_enter [(0, _), (1, _), (2, _)] Tryz.func55 (by kernel_rfl) Tryz.ntmps55 rfl rfl (by repeat (first | exact trivial | refine ⟨rfl, ?_⟩)) fun B hB => ?_
  repeat' (first | (refine run (t := tb) 400 rfl ?_ ?_; (focus (repeat' ((exact trivial))))) | (refine k_op rfl ?_; first | (refine v_op (g_pickT rfl rfl ?_) rfl rfl ?_; (focus (((rfl)); done))) | (refine v_op (g_pickF rfl rfl ?_) rfl rfl ?_; (focus (((rfl)); done)))) | refine k_g rfl rfl (fun _ => ?_) (fun _ => ?_))
  all_goals refine k_rr (vs := [_]) rfl ⟨rfl, trivial⟩ rfl (List.nil_sublist _) ⟨rfl, rfl, ?_⟩
  all_goals (rw [oneOf_one]; simp [*])
end Go.E
/-! EngJ -/
namespace Go.E
open Go.RowKit Go.WideShapes
variable {P : Program}
def G0 : Gh := fun _ => none
theorem PuG.belowG {f : FuncId} {args : List Value} {v : Value} {G : Gh} {w : World} (hG : G.ok w) (h : PuG P f args G (· = v)) : Calls P f args.toArray w fun e w' => e = .returned v ∧ Below w.heap.size w w' := by
  have hst : St ⟨w, G, bks []⟩ G [] w := ⟨hG, by simp, by simp [bks], by simp [bks], rfl, rfl, rfl, Nat.le_refl _, fun _ _ _ => ⟨rfl, rfl⟩⟩
  refine (h.go w hst).mono ?_
  rintro e w' ⟨u, G', L', rfl, hs, _, _, rfl⟩
  exact ⟨rfl, hs.os, hs.tape, hs.output, hs.size, fun k hk => (hs.frame k hk (by simp [bks])).1⟩
theorem G0.ok (w : World) : Gh.ok G0 w := fun b g h => by cases h
theorem PuG.below {f : FuncId} {args : List Value} {v : Value} (h : PuG P f args G0 (· = v)) (w : World) : Calls P f args.toArray w fun e w' => e = .returned v ∧ Below w.heap.size w w' := PuG.belowG (G0.ok w) h
/-- All that lies there, sealed. -/
def GA (w : World) : Gh := fun b => match w.heap[b]? with
  | some (.cells c _ _) => some (.pre c.toList)
  | _ => none
theorem GA.ok (w : World) : Gh.ok (GA w) w := fun b g h => by
  unfold GA at h
  split at h
  · rename_i c e fr hb
    simp only [Option.some.injEq] at h; subst h
    exact ⟨_, hb, [], by simp⟩
  · cases h
theorem seg_GA {w : World} {b o : Nat} {c : Array Value} {e : TypeId} {fr : Nat × Nat} {vs : List Value} (hb : w.heap[b]? = some (.cells c e fr)) (h : ∀ i v, vs[i]? = some v → c[o + i]? = some v) : Seg (GA w) b o vs :=
  ⟨c.toList, by unfold GA; rw [hb], fun i v hv => by simpa using h i v hv⟩
theorem okW_slice {w : World} {base : Nat} {T e : TypeId} {a : Addr} {len cap : Nat} (hT : P.underlying T = some (.slice e)) (h : Value.okWide P w .any base T (.slice (some a) len cap)) :
    a.spot = none ∧ ∃ c el fr, w.heap[a.block]? = some (.cells c el fr) := by
  simp only [Value.okWide, hT, Cell.okWide, Cell.ok] at h
  obtain ⟨_, _, _, h1, row, cells, h2, _⟩ := h
  refine ⟨h1, ?_⟩
  unfold World.shape? at h2
  split at h2
  · rename_i c el fr hb; exact ⟨c, el, fr, hb⟩
  · cases h2
theorem cell_GA {w : World} {a : Addr} {c : Array Value} {el : TypeId} {fr : Nat × Nat} {i : Nat} {v : Value} (hs : a.spot = none) (hb : w.heap[a.block]? = some (.cells c el fr)) (h : w.cell? (a.add i) = some v) : c[a.off + i]? = some v := by
  obtain ⟨b, o, sp⟩ := a
  simp only at hs hb; subst hs
  by_cases hi : i = 0
  · subst hi; simpa [Addr.add, World.cell?, hb] using h
  · simpa [Addr.add, World.cell?, hb, hi] using h
theorem SlV.row {w : World} {a : Addr} {len cap : Nat} {zs : List Int} (hl : len ≤ cap) (hz : zs.length = cap) (hc : ∀ i, i < zs.length → w.cell? (a.add i) = some (.int .u8 (zs.getD i 0))) (hw : ∀ n ∈ zs, (Lit.int .u8 n).wf = true)
    (hs : a.spot = none ∧ ∃ c el fr, w.heap[a.block]? = some (.cells c el fr)) : ∃ l : List UInt8, SlV (GA w) (.slice (some a) len cap) 1 l.length (u8s l) := by
  obtain ⟨hs, c, el, fr, hb⟩ := hs
  have hlen : ((zs.take len).map u8).length = len := by simp; omega
  refine ⟨(zs.take len).map u8, by simp [u8s], .inr ⟨a.block, a.off, cap, ?_, by omega, seg_GA hb fun i v hv => ?_⟩⟩
  · rw [hlen]; obtain ⟨b, o, sp⟩ := a; simp only at hs; subst hs; rfl
  · have hi : i < len := by
      have := (List.getElem?_eq_some_iff.1 hv).1
      simp [u8s] at this; omega
    have hcz := cell_GA hs hb (hc i (by omega))
    rw [hcz]
    have hget : zs.getD i 0 = zs[i]'(by omega) := by simp [List.getD, List.getElem?_eq_getElem (show i < zs.length by omega)]
    have hr := hw _ (List.getElem_mem (show i < zs.length by omega))
    simp only [Lit.wf, Bool.and_eq_true, decide_eq_true_eq] at hr
    have h1 : IntKind.u8.min = 0 := rfl
    have h2 : IntKind.u8.max = 255 := rfl
    simp only [u8s, List.getElem?_map, List.getElem?_take_of_lt hi, List.getElem?_eq_getElem (show i < zs.length by omega), Option.map_some] at hv
    rw [← hv, hget, u8_val (by omega)]
theorem SlV.nil (w : World) : ∃ l : List UInt8, SlV (GA w) nilS 1 l.length (u8s l) := ⟨[], by simp [u8s], .inl ⟨rfl, rfl⟩⟩
theorem PuG.belowA {f : FuncId} {args : List Value} {v : Value} {w : World} (h : PuG P f args (GA w) (· = v)) : Calls P f args.toArray w fun e w' => e = .returned v ∧ Below w.heap.size w w' := PuG.belowG (GA.ok w) h
end Go.E
/-! EngK -/
namespace Go.E
section
variable {P : Program} {n : Nat} {D : List Deferred} {E : Env} {M : World → Prop} {d : Option Nat} {ty : TypeId} {pos : String} {aft : Array Edge} {gd : Option (Nat × Bool)}
theorem u8s_get {l : List UInt8} {i : Nat} (h : i < l.length) : (u8s l)[i]? = some (U8 (bt l i)) := by
  simp [u8s, bt, List.getD, List.getElem?_eq_getElem h]
theorem g_ldU {T : TypeId} {x : Operand} {size bytes : Nat} {zero : Value} {b o i : Nat} {G0 : Gh} {L0 : List Own} {l : List UInt8} [TI P T (.int .u8) size bytes zero] [Kn M G0 L0] (hx : ev E x = some (Pt b (o + i * 1))) (hs : Seg G0 b o (u8s l)) (hi : i < l.length) :
    Gives P n D E M ⟨d, .load T x, ty, pos, aft, gd⟩ (U8 (bt l i)) := g_load (desc := .int .u8) (size := size) (bytes := bytes) (zero := zero) hx rfl (by rw [Nat.mul_one]; exact (cells_seg hs).go i _ (u8s_get hi))
def xorI (a b : Int) : Int := ((a.toNat ^^^ b.toNat : Nat) : Int)
theorem xorI_nn (a b : Int) : 0 ≤ xorI a b := Int.natCast_nonneg _
theorem xorI_lt {a b : Int} (ha : a < 4611686018427387904) (hb : b < 4611686018427387904) : 0 ≤ xorI a b ∧ xorI a b < 4611686018427387904 := by
  have := Nat.xor_lt_two_pow (x := a.toNat) (y := b.toNat) (n := 62) (by omega) (by omega)
  unfold xorI; omega
theorem g_xorP {T T' : TypeId} {x y : Operand} {a b : Int} (hx : ev E x = some (I a)) (hy : ev E y = some (I b)) (h : (0 ≤ a ∧ a < 4611686018427387904) ∧ 0 ≤ b ∧ b < 4611686018427387904) : Gives P n D E M ⟨d, .binOp .xor T x y T', ty, pos, aft, gd⟩ (I (xorI a b)) := by
  have e : IntKind.i64.wrap ((BitVec.ofInt 64 a ^^^ BitVec.ofInt 64 b).toNat) = xorI a b := by
    have h1 : (BitVec.ofInt 64 a ^^^ BitVec.ofInt 64 b).toNat = a.toNat ^^^ b.toNat := by
      rw [BitVec.toNat_xor, BitVec.toNat_ofInt, BitVec.toNat_ofInt]
      congr 1 <;> omega
    have h2 := xorI_lt h.1.2 h.2.2
    rw [h1]
    exact wrap_in (x := xorI a b) (by omega)
  rw [← e]; exact g_xorI hx hy
end
theorem Seg.take {G : Gh} {b o : Nat} {vs : List Value} (h : Seg G b o vs) (k : Nat) : Seg G b o (vs.take k) := by
  obtain ⟨cs, h1, h2⟩ := h
  refine ⟨cs, h1, fun i v hv => ?_⟩
  have hi : i < k := by
    rcases Nat.lt_or_ge i k with h3 | h3
    · exact h3
    · rw [List.getElem?_take] at hv; simp [Nat.not_lt.2 h3] at hv
  rw [List.getElem?_take_of_lt hi] at hv
  exact h2 i v hv
/-- What an owned slice's value looks like. -/
def Shp (v : Value) (m : Nat) : Prop := v = nilS ∧ m = 0 ∨ ∃ b cap, v = .slice (some ⟨b, 0, none⟩) m cap ∧ m ≤ cap
theorem Shp.pos {v : Value} {m : Nat} (h : Shp v m) (hm : m ≠ 0) : ∃ b cap, v = .slice (some ⟨b, 0, none⟩) m cap := by
  rcases h with ⟨_, h⟩ | ⟨b, cap, h, _⟩
  · exact absurd h hm
  · exact ⟨b, cap, h⟩
class AccB (L : List Own) (b : Nat) (m cap : outParam Nat) (T : outParam TypeId) (sz : outParam Nat) (xs : outParam (List Value)) : Prop where
  mem : Own.acc (.slice (some ⟨b, 0, none⟩) m cap) T sz m xs ∈ L
instance {b m cap : Nat} {T : TypeId} {sz : Nat} {xs : List Value} {r : List Own} : AccB (.acc (.slice (some ⟨b, 0, none⟩) m cap) T sz m xs :: r) b m cap T sz xs := ⟨.head _⟩
instance {b m cap : Nat} {T : TypeId} {sz : Nat} {xs : List Value} {z : Own} {r : List Own} [h : AccB r b m cap T sz xs] : AccB (z :: r) b m cap T sz xs := ⟨.tail _ h.mem⟩
section
variable {P : Program} {n : Nat} {D : List Deferred} {E : Env} {M : World → Prop} {d : Option Nat} {ty : TypeId} {pos : String} {aft : Array Edge} {gd : Option (Nat × Bool)}
theorem g_ldB {T T0 : TypeId} {x : Operand} {desc : TypeDesc} {size bytes : Nat} {zero : Value} {b o m cap sz : Nat} {v : Value} {G0 : Gh} {L0 : List Own} {xs : List Value} [TI P T desc size bytes zero] [Kn M G0 L0] [h : AccB L0 b m cap T0 sz xs] (hx : ev E x = some (Pt b o)) (ha : aggD desc = false) (hc : xs[o]? = some v) :
    Gives P n D E M ⟨d, .load T x, ty, pos, aft, gd⟩ v := g_load hx ha (by have := (cells_acc (S := M) h.mem).go o v hc; simpa using this)
theorem g_ldBA {T T0 : TypeId} {x : Operand} {desc : TypeDesc} {size bytes : Nat} {zero : Value} {b o m cap sz : Nat} {vs : List Value} {G0 : Gh} {L0 : List Own} {xs : List Value} [TI P T desc size bytes zero] [Kn M G0 L0] [h : AccB L0 b m cap T0 sz xs] (hx : ev E x = some (Pt b o)) (ha : aggD desc = true) (hc : takeC xs o size = some vs) (hl : Nat.beq vs.length size = true) :
    Gives P n D E M ⟨d, .load T x, ty, pos, aft, gd⟩ (Ag vs) := g_loadA hx ha (Nat.eq_of_beq_eq_true hl) (by have := (cells_acc (S := M) h.mem).take hc; simpa using this)
end
theorem Nx.shp {n : Nat} {D : List Deferred} {E : Env} {B : Base} {G : Gh} {L : List Own} {K : Act → World → Prop} {v : Value} {T : TypeId} {sz m : Nat} {xs : List Value} (hm : Own.acc v T sz m xs ∈ L) (h : Shp v m → Nx n D E B G L K) : Nx n D E B G L K :=
  Nx.acc hm fun _ hs => h hs
/-- A contract that leaves what is sealed as it is. -/
def FnG (P : Program) (f : FuncId) (args : List Value) (G : Gh) (L : List Own) (R : Value → List Own → Prop) : Prop := Fn P f args G L (fun v G' L' => G' = G ∧ R v L')
section
variable {P : Program} {n : Nat} {D : List Deferred} {E : Env} {B : Base} {G : Gh} {L : List Own} {K : Act → World → Prop} {Q : Exit → Act → World → Prop}
theorem c_m1g {fo : Operand} {l : List Operand} {tys : Array TypeId} {d : Nat} {ty : TypeId} {pos : String} {aft : Array Edge} {g : Option (Nat × Bool)} {f : FuncId} {fi ca az vs : List Value} {b : Nat} {cs : List Value} {T : TypeId} {R : List Own} {Post : Value → List Own → Prop}
    [hd : DelB L b cs T R] (hf : ev E fo = some (.func (.func f) fi.toArray ca.toArray)) (ha : evs E l = some az) (hv : fi ++ az ++ ca = vs) (hc : FnG P f vs G [.blk b (.cells cs.toArray T (0, 0))] Post) (hlt : Nat.blt d n = true)
    (k : ∀ v L', Post v L' → Nx n D ((d, v) :: E) B G (L' ++ R) K) : Nx n D E B G L (ow P ⟨some d, .call ⟨.value fo, l.toArray, tys⟩, ty, pos, aft, g⟩ Q K) :=
  c_m1 hf ha hv hc hlt fun v G' L' h => by obtain ⟨rfl, h⟩ := h; exact k v L' h
theorem c_fng {fo : Operand} {l : List Operand} {tys : Array TypeId} {d : Nat} {ty : TypeId} {pos : String} {aft : Array Edge} {g : Option (Nat × Bool)} {f : FuncId} {fi ca az vs : List Value} {Post : Value → List Own → Prop}
    (hf : ev E fo = some (.func (.func f) fi.toArray ca.toArray)) (ha : evs E l = some az) (hv : fi ++ az ++ ca = vs) (hc : FnG P f vs G [] Post) (hlt : Nat.blt d n = true)
    (k : ∀ v L', Post v L' → Nx n D ((d, v) :: E) B G (L' ++ L) K) : Nx n D E B G L (ow P ⟨some d, .call ⟨.value fo, l.toArray, tys⟩, ty, pos, aft, g⟩ Q K) :=
  c_fn hf ha hv hc hlt fun v G' L' h => by obtain ⟨rfl, h⟩ := h; exact k v L' h
theorem g_enter {f : FuncId} {fn : Func} {c : Code} {args : List Value} {R : Value → List Own → Prop} (E0 : Env) (hf : P.funcs[f]? = some fn) (hok : bodyOk P f = true) (hn : fn.ntmps = n) (hb : fn.body = some c)
    (hlen : Nat.ble args.length n = true) (hE : Sub E0 (params 0 args))
    (h : ∀ B, B.G = G → B.W = bks L → Nx n [] E0 B G L (cu P (.code c) [] (bp P fn (RPost B (fun v G' L' => G' = G ∧ R v L'))))) : FnG P f args G L R := c_enter E0 hf hok hn hb hlen hE h
end
/-- A reader of drawn bytes. -/
abbrev rdO (b : Nat) (code : Value) (p : Int) (T : TypeId) : Own := .blk b (.cells (List.toArray [code, I p]) T (0, 0))
end Go.E
/-! EngL -/
namespace Go.E
/-! ### Rows of cells -/
def rows {α : Type} (f : α → List Value) (cs : List α) : List Value := cs.flatMap f
class RowF {α : Type} (f : α → List Value) (sz : outParam Nat) : Prop where
  len : ∀ c, (f c).length = sz
def nth {α : Type} [Inhabited α] (cs : List α) (i : Nat) : α := cs.getD i default
theorem nth_eq {α : Type} [Inhabited α] {cs : List α} {i : Nat} (h : i < cs.length) : nth cs i = cs[i] := by simp [nth, List.getD, List.getElem?_eq_getElem h]
theorem rows_len {α : Type} {f : α → List Value} {sz : Nat} [RowF f sz] (cs : List α) : (rows f cs).length = cs.length * sz := by
  induction cs with
  | nil => simp [rows]
  | cons c cs ih => simp only [rows, List.flatMap_cons, List.length_append, RowF.len, List.length_cons] at ih ⊢; rw [ih, Nat.succ_mul, Nat.add_comm]
theorem rows_get {α : Type} [Inhabited α] {f : α → List Value} {sz : Nat} [RowF f sz] : ∀ {cs : List α} {i k : Nat}, i < cs.length → k < sz → (rows f cs)[i * sz + k]? = (f (nth cs i))[k]?
  | [], i, _, h, _ => by simp at h
  | c :: cs, 0, k, _, hk => by
    have : k < (f c).length := by rw [RowF.len]; exact hk
    simp [rows, List.flatMap_cons, nth, List.getElem?_append_left this]
  | c :: cs, i + 1, k, h, hk => by
    have ih := rows_get (f := f) (cs := cs) (i := i) (k := k) (by simpa using h) hk
    have e : (i + 1) * sz + k = (f c).length + (i * sz + k) := by rw [RowF.len, Nat.succ_mul]; omega
    rw [rows, List.flatMap_cons, e, List.getElem?_append_right (Nat.le_add_right _ _), Nat.add_sub_cancel_left]
    exact ih
theorem rows_snoc {α : Type} (f : α → List Value) (xs : List α) (c : α) : rows f (xs ++ [c]) = rows f xs ++ f c := by simp [rows]
theorem take_nth {α : Type} [Inhabited α] {cs : List α} {i : Nat} (h : i < cs.length) : cs.take (i + 1) = cs.take i ++ [nth cs i] := by rw [nth_eq h, List.take_succ_eq_append_getElem h]

section
variable {P : Program} {n : Nat} {D : List Deferred} {E : Env} {M : World → Prop} {d : Option Nat} {ty : TypeId} {pos : String} {aft : Array Edge} {gd : Option (Nat × Bool)}
variable {α : Type} [Inhabited α] {f : α → List Value}
theorem g_ldR {T : TypeId} {x : Operand} {desc : TypeDesc} {sz bytes b o i : Nat} {zero : Value} {G0 : Gh} {L0 : List Own} {cs : List α} [TI P T desc sz bytes zero] [RowF f sz] [Kn M G0 L0] (hx : ev E x = some (Pt b (o + i * sz))) (ha : aggD desc = true) (hs : Seg G0 b o (rows f cs)) (hi : i < cs.length) :
    Gives P n D E M ⟨d, .load T x, ty, pos, aft, gd⟩ (Ag (f (nth cs i))) := g_loadA (size := sz) hx ha (RowF.len _) (CellsOf.mk fun k v hv => by
  have hk : k < sz := by have := (List.getElem?_eq_some_iff.1 hv).1; rwa [RowF.len] at this
  have := (cells_seg (S := M) hs).go (i * sz + k) v (by rw [rows_get hi hk]; exact hv)
  rwa [← Nat.add_assoc] at this)
theorem g_ldRF {T : TypeId} {x : Operand} {desc : TypeDesc} {size sz bytes b o i k : Nat} {zero v : Value} {G0 : Gh} {L0 : List Own} {cs : List α} [TI P T desc size bytes zero] [RowF f sz] [Kn M G0 L0] (hx : ev E x = some (Pt b (o + i * sz + k))) (ha : aggD desc = false) (hs : Seg G0 b o (rows f cs)) (hi : i < cs.length) (hk : Nat.blt k sz = true) (hv : (f (nth cs i))[k]? = some v) :
    Gives P n D E M ⟨d, .load T x, ty, pos, aft, gd⟩ v := g_load hx ha (by
  have := (cells_seg (S := M) hs).go (i * sz + k) v (by rw [rows_get hi (by simpa using hk)]; exact hv)
  rwa [← Nat.add_assoc] at this)
end

section
variable {P : Program} {n : Nat} {D : List Deferred} {E : Env} {B : Base} {G G0 : Gh} {L : List Own} {K : Act → World → Prop} {Q : Exit → Act → World → Prop} {ty : TypeId} {pos : String} {aft : Array Edge} {gd : Option (Nat × Bool)} {dd : Nat}
theorem c_mk {T el : TypeId} {x : Operand} {m : Nat} {desc : TypeDesc} {size bytes s1 b1 : Nat} {z1 zero : Value} {zs : List Value} [TI P T (.slice el) s1 b1 z1] [ti : TI P el desc size bytes zero] (hx : ev E x = some (I (m : Int))) (hz : cellsC zero = some zs) (hsz : Nat.beq zs.length size = true) (hlt : Nat.blt dd n = true)
    (hm : bytes * m ≤ 281474976710656 ∧ m ≤ 9223372036854775807)
    (k : ∀ b, Nx n D ((dd, .slice (some ⟨b, 0, none⟩) m m) :: E) B G (.blk b (.cells (zerosL zs m).toArray el (0, 0)) :: L) K) : Nx n D E B G L (ow P ⟨some dd, .makeSlice T x x, ty, pos, aft, gd⟩ Q K) := Nx.mk fun a w hs hw => by
  obtain ⟨i, hi1, hi2, hi3, hi4⟩ := ti.inf
  have hb' : (i.bytes : Int) * (m : Int) ≤ 281474976710656 := by
    have h : ((i.bytes * m : Nat) : Int) ≤ 281474976710656 := by rw [hi3]; omega
    rwa [Int.natCast_mul] at h
  have hr := run_make (P := P) w T el i zero (TI.und (P := P) (T := T)) hi1 hi4 .i64 .i64 m m (by omega) (Int.le_refl _) hb' (by omega)
  simp only [Int.toNat_natCast] at hr
  have hzs := cellsC_eq hz
  have hl := Nat.eq_of_beq_eq_true hsz
  have e : madeCells zero.cells (m * i.size) = (zerosL zs m).toArray := by
    rw [hi2, ← hl, hzs, ← range_zeros zs m]
    rfl
  unfold ow Oper.wp
  have : (execOp a.eval ⟨some dd, .makeSlice T x x, ty, pos, aft, gd⟩).run P w = .ok (.value (.slice (some ⟨w.heap.size, 0, none⟩) m m)) (w.alloc (.cells (zerosL zs m).toArray el (0, 0))) := by
    simp only [execOp, hs.ev hx, Sem.run_bind, hr, e, Result.andThen_ok, Sem.run_pure]
  rw [this, Oper.upon_value]
  exact (k _).go _ _ (hs.put (by simpa using hlt)) (hw.alloc _)
theorem puts_mid : ∀ (a : List Value) {z vs r : List Value}, z.length = vs.length → vs ≠ [] → PutsR (a ++ (z ++ r)) a.length vs (a ++ (vs ++ r))
  | [], [], [], _, _, h0 => absurd rfl h0
  | [], x :: z, v :: vs, r, h, _ => by
    cases vs with
    | nil =>
      have : z = [] := by simpa using h
      subst this; exact .here .nil
    | cons u vs => exact .here (puts_mid [] (z := z) (vs := u :: vs) (r := r) (by simpa using h) (by simp))
  | [], [], _ :: _, _, h, _ => by simp at h
  | [], _ :: _, [], _, _, h0 => absurd rfl h0
  | _ :: _, _, [], _, _, h0 => absurd rfl h0
  | x :: a, z, v :: vs, r, h, h0 => .there (puts_mid a (z := z) (vs := v :: vs) (r := r) h h0)
theorem all1_append {a b : List Value} : all1 (a ++ b) = (all1 a && all1 b) := by
  induction a with
  | nil => simp [all1]
  | cons v a ih => simp [all1, ih, Bool.and_assoc]
/-- The next row of a made slice is filled. -/
theorem c_stR {α : Type} {f : α → List Value} {xs : List α} {c : α} {T T0 : TypeId} {x y : Operand} {desc : TypeDesc} {sz bytes b o m : Nat} {zero : Value} {zs cs0 : List Value} {fr : Nat × Nat} {L' : List Own} [TI P T desc sz bytes zero] [RowF f sz] [BlkI L b (rows f xs ++ zerosL zs m) T0 fr] [hu : UpdI b (rows f (xs ++ [c]) ++ zerosL zs (m - 1)) L cs0 T0 L']
    (hx : ev E x = some (Pt b o)) (hy : ev E y = some (Ag (f c))) (h1 : all1 (f c) = true) (hz : Nat.beq zs.length sz = true) (hs0 : Nat.blt 0 sz = true) (he : cs0 = rows f xs ++ zerosL zs m) (ho : o = xs.length * sz) (hm : 0 < m)
    (k : Nx n D E B G L' K) : Nx n D E B G L (ow P ⟨none, .store T x y, ty, pos, aft, gd⟩ Q K) := by
  have hl : (f c).length = sz := RowF.len c
  have hs0 : 0 < sz := by simpa using hs0
  have hne : f c ≠ [] := fun h => by rw [h] at hl; simp at hl; omega
  refine c_store (vs := f c) hx hy rfl (by rw [hl]; simp) (by cases hfc : f c with | nil => exact absurd hfc hne | cons => rfl) h1 hu.upd ?_ k
  obtain ⟨m, rfl⟩ : ∃ k, m = k + 1 := ⟨m - 1, by omega⟩
  subst he
  have hlen := rows_len (f := f) xs
  rw [ho, ← hlen, rows_snoc]
  simp only [zerosL, Nat.add_sub_cancel, List.append_assoc]
  exact puts_mid _ (by rw [hl]; exact Nat.eq_of_beq_eq_true hz) hne

/-- A block that is a slice's whole row, as a slice that may be appended to. -/
theorem Nx.blkAcc {b m sz : Nat} {cs : List Value} {T : TypeId} {L' : List Own} (hd : Del (.blk b (.cells cs.toArray T (0, 0))) L L') (hl : cs.length = m * sz) (h : Nx n D E B G (.acc (.slice (some ⟨b, 0, none⟩) m m) T sz m cs :: L') K) : Nx n D E B G L K := Nx.mk fun a w hs hw => by
  have hw := hw.perm hd.perm
  refine h.go a w hs (hw.conv rfl ⟨hl, .inr ⟨b, m, [], rfl, Nat.le_refl _, by simpa using hl, ?_⟩⟩)
  have := hw.own _ List.mem_cons_self
  simpa [Own.at] using this
/-- A region of any order that writes a block: that block is not kept. -/
theorem s_anyD {id : Nat} {l : List Oper} {b o tt : Nat} {cs : List Value} {T : TypeId} {R : List Own} [hd : DelB L b cs T R] (_hx : look E tt = some (Pt b o)) (hm : P.follows .mixedOrders = true)
    (h : Nx n D E B G L (xA P l.toArray Q (Stab B G R) l.length (List.replicate l.length false).toArray)) : Nx n D E B G L (cw P (.region id l.toArray true) Q) :=
  s_any R (fun _ hx => hd.del.perm.symm.subset (List.mem_cons_of_mem _ hx)) hm h
/-! ### Results that lie in cells -/
theorem rc_A {M : World → Prop} {T T0 : TypeId} {a b o : Nat} {desc : TypeDesc} {size bytes : Nat} {zero : Value} {vs cs : List Value} {fr : Nat × Nat} {G0 : Gh} {L0 : List Own} [TI P T desc size bytes zero] [Kn M G0 L0] [h : BlkI L0 b cs T0 fr] (hx : look E a = some (Pt b o)) (ha : aggD desc = true) (hc : takeC cs o size = some vs) (hl : Nat.beq vs.length size = true) :
    ∃ b o, look E a = some (.pointer (some ⟨b, o, none⟩)) ∧ ∀ w, M w → (loadVar T ⟨b, o, none⟩).run P w = .ok (Ag vs) w :=
  ⟨b, o, hx, fun w hw => run_loadVarA (desc := desc) (size := size) (bytes := bytes) (zero := zero) ha (Nat.eq_of_beq_eq_true hl) (by have := (cells_own (S := M) h.mem).take hc; simpa using this) w hw⟩
theorem rc_1 {M : World → Prop} {T T0 : TypeId} {a b o : Nat} {desc : TypeDesc} {size bytes : Nat} {zero v : Value} {cs : List Value} {fr : Nat × Nat} {G0 : Gh} {L0 : List Own} [TI P T desc size bytes zero] [Kn M G0 L0] [h : BlkI L0 b cs T0 fr] (hx : look E a = some (Pt b o)) (ha : aggD desc = false) (hc : cs[o]? = some v) :
    ∃ b o, look E a = some (.pointer (some ⟨b, o, none⟩)) ∧ ∀ w, M w → (loadVar T ⟨b, o, none⟩).run P w = .ok v w :=
  ⟨b, o, hx, fun w hw => run_loadVar1 (desc := desc) (size := size) (bytes := bytes) (zero := zero) ha (by have := (cells_own (S := M) h.mem).go o v hc; simpa using this) w hw⟩
theorem SlV.expl {G : Gh} {v : Value} {sz m : Nat} {xs : List Value} (h : SlV G v sz m xs) (hm : 0 < m) : ∃ b o cap, v = .slice (some ⟨b, o, none⟩) m cap ∧ Seg G b o xs := by
  obtain ⟨_, ⟨_, h0⟩ | ⟨b, o, cap, e, _, hs⟩⟩ := h
  · omega
  · exact ⟨b, o, cap, e, hs⟩
/-! ### What seals while it runs -/
structure BOk (B : Base) : Prop where
  ok : B.G.ok B.w
  fresh : ∀ b ∈ B.W, B.G b = none
theorem Nx.base (hb : BOk B) (hG : B.G = G0) (h : Nx n D E B G0 L K) : Nx n D E B G L K := Nx.mk fun a w hs hw => by
  subst hG
  have hle := hw.le hb.ok hb.fresh
  refine h.go a w hs ⟨fun b g h => hw.ok b g (hle b g h), hw.own, fun b hbb => ?_, hw.nd, hw.os, hw.tape, hw.output, hw.size, fun b h1 h2 => ⟨(hw.frame b h1 h2).1, rfl⟩⟩
  have h1 := hw.fresh b hbb
  refine ⟨?_, h1.2⟩
  cases hB : B.G b with
  | none => rfl
  | some g => rw [hle b g hB] at h1; exact absurd h1.1 (by simp)
theorem b_enter {f : FuncId} {fn : Func} {c : Code} {args : List Value} {Post : Value → Gh → List Own → Prop} (E0 : Env) (hf : P.funcs[f]? = some fn) (hok : bodyOk P f = true) (hn : fn.ntmps = n) (hb : fn.body = some c)
    (hlen : Nat.ble args.length n = true) (hE : Sub E0 (params 0 args))
    (h : ∀ B, BOk B → B.G = G → B.W = bks L → Nx n [] E0 B G L (cu P (.code c) [] (bp P fn (RPost B Post)))) : Fn P f args G L Post := by
  refine ⟨hok, fun w hw => calls_of_wp hf hb ?_⟩
  rw [hn]
  have := (h ⟨w, G, bks L⟩ ⟨hw.ok, fun b hb => (hw.fresh b hb).1⟩ rfl rfl).go _ w ((sat_params args (by simpa using hlen)).sub hE) hw
  unfold cu at this
  dsimp only at this
  unfold kk cw bp at this
  exact this
/-- It hands back a value on what it has sealed. -/
def FnS (P : Program) (f : FuncId) (args : List Value) (G : Gh) (R : Value → Gh → Prop) : Prop := Fn P f args G [] (fun v G' L' => Gh.le G G' ∧ L' = [] ∧ R v G')
theorem c_fns {fo : Operand} {l : List Operand} {tys : Array TypeId} {d : Nat} {g : Option (Nat × Bool)} {f : FuncId} {fi ca az vs : List Value} {R : Value → Gh → Prop}
    (hf : ev E fo = some (.func (.func f) fi.toArray ca.toArray)) (ha : evs E l = some az) (hv : fi ++ az ++ ca = vs) (hc : FnS P f vs G R) (hlt : Nat.blt d n = true)
    (k : ∀ v G', Gh.le G G' → R v G' → Nx n D ((d, v) :: E) B G' L K) : Nx n D E B G L (ow P ⟨some d, .call ⟨.value fo, l.toArray, tys⟩, ty, pos, aft, g⟩ Q K) :=
  c_fn hf ha hv hc hlt fun v G' L' h => by obtain ⟨h1, rfl, h2⟩ := h; exact k v G' h1 h2
end
end Go.E
/-! EngN -/
namespace Go.E
/-- Texts as rows. -/
def strF (x : List UInt8) : List Value := [S x]
instance : RowF strF 1 := ⟨fun _ => rfl⟩
section
variable {P : Program} {n : Nat} {D : List Deferred} {E : Env} {M : World → Prop} {d : Option Nat} {ty : TypeId} {pos : String} {aft : Array Edge} {gd : Option (Nat × Bool)}
theorem g_ldRS {T : TypeId} {x : Operand} {desc : TypeDesc} {size bytes b o i : Nat} {zero : Value} {G0 : Gh} {L0 : List Own} {cs : List (List UInt8)} [TI P T desc size bytes zero] [Kn M G0 L0] (hx : ev E x = some (Pt b (o + i * 1))) (ha : aggD desc = false) (hs : Seg G0 b o (rows strF cs)) (hi : i < cs.length) :
    Gives P n D E M ⟨d, .load T x, ty, pos, aft, gd⟩ (S (nth cs i)) := g_load hx ha (by
  have := (cells_seg (S := M) hs).go (i * 1 + 0) (S (nth cs i)) (by rw [rows_get hi (by omega)]; rfl)
  simpa using this)
variable {α : Type} [Inhabited α] {f : α → List Value}
/-- One cell of a row of an owned slice. -/
theorem g_ldBRF {T T0 : TypeId} {x : Operand} {desc : TypeDesc} {size sz bytes b m cap i k : Nat} {zero v : Value} {G0 : Gh} {L0 : List Own} {cs : List α} {xs : List Value} [TI P T desc size bytes zero] [RowF f sz] [Kn M G0 L0] [h : AccB L0 b m cap T0 sz xs] (hx : ev E x = some (Pt b (0 + i * sz + k))) (ha : aggD desc = false) (hxs : xs = rows f cs) (hi : i < cs.length) (hk : Nat.blt k sz = true) (hv : (f (nth cs i))[k]? = some v) :
    Gives P n D E M ⟨d, .load T x, ty, pos, aft, gd⟩ v := g_load hx ha (by
  have := (cells_acc (S := M) h.mem).go (i * sz + k) v (by rw [hxs, rows_get hi (by simpa using hk)]; exact hv)
  rwa [← Nat.add_assoc] at this)
/-- A row of an owned slice. -/
theorem g_ldBR {T T0 : TypeId} {x : Operand} {desc : TypeDesc} {sz bytes b m cap i : Nat} {zero : Value} {G0 : Gh} {L0 : List Own} {cs : List α} {xs : List Value} [TI P T desc sz bytes zero] [RowF f sz] [Kn M G0 L0] [h : AccB L0 b m cap T0 sz xs] (hx : ev E x = some (Pt b (0 + i * sz))) (ha : aggD desc = true) (hxs : xs = rows f cs) (hi : i < cs.length) :
    Gives P n D E M ⟨d, .load T x, ty, pos, aft, gd⟩ (Ag (f (nth cs i))) := g_loadA (size := sz) hx ha (RowF.len _) (CellsOf.mk fun k v hv => by
  have hk : k < sz := by have := (List.getElem?_eq_some_iff.1 hv).1; rwa [RowF.len] at this
  have := (cells_acc (S := M) h.mem).go (i * sz + k) v (by rw [hxs, rows_get hi hk]; exact hv)
  rwa [← Nat.add_assoc] at this)
end
theorem St.sealA {B : Base} {G : Gh} {w : World} {v : Value} {T : TypeId} {sz m : Nat} {xs : List Value} {R : List Own} (hw : St B G (.acc v T sz m xs :: R) w) : ∃ G', Gh.le G G' ∧ St B G' R w ∧ SlV G' v sz m xs := by
  obtain ⟨h1, ⟨rfl, rfl⟩ | ⟨b, cap, rest, rfl, hc, hl, hb⟩⟩ : AccAt w v T sz m xs := hw.own _ List.mem_cons_self
  · exact ⟨G, Gh.le.refl G, hw.weaken (List.sublist_cons_self _ _), h1, .inl ⟨rfl, rfl⟩⟩
  · obtain ⟨G', h2, h3, h4⟩ := St.shutP xs (hw.conv (y := .blk b (.cells (xs ++ rest).toArray T (0, 0))) rfl hb) ⟨rest, rfl⟩
    exact ⟨G', h2, h3, h1, .inr ⟨b, 0, cap, rfl, hc, h4⟩⟩
/-- What a contract hands back, sealed. -/
theorem FnG.shutP {P : Program} {f : FuncId} {args : List Value} {G : Gh} {R : Value → Gh → Prop} (h : FnG P f args G [] (fun v L' => ∃ u T sz m xs, L' = [.acc u T sz m xs] ∧ ∀ G', Gh.le G G' → SlV G' u sz m xs → R v G')) : FnS P f args G R :=
  ⟨h.ok, fun w hw => (h.go w hw).mono fun _ _ ⟨v, G1, L1, h1, h2, h3, u, T, sz, m, xs, h4, h5⟩ => by
    subst h3; subst h4
    obtain ⟨G', h6, h7, h8⟩ := h2.sealA
    exact ⟨v, G', [], h1, h7, h6, rfl, h5 G' h6 h8⟩⟩
theorem strs_rows (xs : List (List UInt8)) : xs.map (fun x => S x) = rows strF xs := by induction xs with
  | nil => rfl
  | cons x xs ih => simp only [List.map_cons, rows, List.flatMap_cons] at ih ⊢; rw [ih]; rfl
/-! ### Functions of the library that have no text -/
theorem g_extern {P : Program} {n : Nat} {D : List Deferred} {E : Env} {M : World → Prop} {d : Option Nat} {fo : Operand} {l : List Operand} {tys : Array TypeId} {ty : TypeId} {pos : String} {aft : Array Edge} {g : Option (Nat × Bool)} {f : FuncId} {fi ca az vs : List Value} {v : Value}
    (hf : ev E fo = some (.func (.func f) fi.toArray ca.toArray)) (ha : evs E l = some az) (hv : fi ++ az ++ ca = vs) (hx : ∀ w, (callFunc f vs.toArray).run P w = .ok (.value v) w) :
    Gives P n D E M ⟨d, .call ⟨.value fo, l.toArray, tys⟩, ty, pos, aft, g⟩ v := Gives.mk fun a w hs _ => by
  have h1 : l.toArray.map a.eval = az.toArray := by rw [List.map_toArray, hs.evs ha]
  subst hv
  simp only [execOp, resolve, hs.ev hf, h1, Deferred.ofValue, Sem.run_bind, Sem.run_pure, Result.andThen_ok, invoke]
  have := hx w
  simp only [List.append_toArray] at this ⊢
  rw [this]
end Go.E
/-! EngO -/
namespace Go.E
/-! ### Maps by texts -/
def mkEs : List (List UInt8 × Value) → Nat → List MapEntry
  | [], _ => []
  | (k, v) :: r, i => { key := S k, val := v, born := i } :: mkEs r (i + 1)
theorem mkEs_snoc (k : List UInt8) (v : Value) : ∀ (kvs : List (List UInt8 × Value)) (i : Nat), mkEs (kvs ++ [(k, v)]) i = mkEs kvs i ++ [{ key := S k, val := v, born := i + kvs.length }]
  | [], i => rfl
  | (k', v') :: r, i => by
    have := mkEs_snoc k v r (i + 1)
    simp only [List.cons_append, mkEs, this, List.length_cons]
    rw [show i + 1 + r.length = i + (r.length + 1) by omega]
def mapO (kvs : List (List UInt8 × Value)) : Obj := .map (mkEs kvs 0).toArray kvs.length
def kvF (kvs : List (List UInt8 × Value)) (k : List UInt8) : Option Value := (kvs.find? fun x => decide (k = x.1)).map (·.2)
theorem findNow_kv (k : List UInt8) : ∀ (kvs : List (List UInt8 × Value)) (i j : Nat), ∃ r, Instr.findNow .string (S k) (mkEs kvs i) j = some r ∧ r.map (·.2) = kvF kvs k
  | [], _, _ => ⟨none, rfl, rfl⟩
  | (k', v) :: r, i, j => by
    simp only [mkEs, Instr.findNow, Instr.sameNow]
    have e : ((⟨k.toArray⟩ : ByteArray) == ⟨k'.toArray⟩) = decide (k = k') := by
      show (k.toArray == k'.toArray) = decide (k = k')
      rw [Bool.eq_iff_iff]; simp
    rw [e]
    by_cases h : k = k'
    · subst h
      simp only [decide_true]
      exact ⟨_, rfl, by simp [kvF]⟩
    · simp only [h, decide_false]
      obtain ⟨q, h1, h2⟩ := findNow_kv k r (i + 1) (j + 1)
      exact ⟨q, h1, by rw [h2]; simp [kvF, h]⟩
section
variable {P : Program} {n : Nat} {D : List Deferred} {E : Env} {M : World → Prop} {d : Option Nat} {ty : TypeId} {pos : String} {aft : Array Edge} {gd : Option (Nat × Bool)}
/-- Where a map lies. -/
structure MapAt (S : World → Prop) (b : Nat) (kvs : List (List UInt8 × Value)) : Prop where
  go : ∀ w, S w → w.heap[b]? = some (mapO kvs)
theorem map_own {S : World → Prop} {G0 : Gh} {L0 : List Own} [k : Kn S G0 L0] {b : Nat} {kvs : List (List UInt8 × Value)} (hm : Own.blk b (mapO kvs) ∈ L0) : MapAt S b kvs := ⟨fun w hw => by
  obtain ⟨B, G, L, _, h2, h3⟩ := k.kn w hw
  exact h3.own _ (h2 _ hm)⟩
theorem map_G {S : World → Prop} {G0 : Gh} {L0 : List Own} [k : Kn S G0 L0] {b : Nat} {kvs : List (List UInt8 × Value)} (hm : G0 b = some (.ex (mapO kvs))) : MapAt S b kvs := ⟨fun w hw => by
  obtain ⟨B, G, L, h1, _, h3⟩ := k.kn w hw
  obtain ⟨o, h4, h5⟩ := h3.ok b _ (h1 _ _ hm)
  rw [h4]; exact congrArg some h5⟩
theorem g_lookup {T kt et : TypeId} {x i : Operand} {b : Nat} {k : List UInt8} {kvs : List (List UInt8 × Value)} {s1 b1 s2 b2 s3 b3 : Nat} {z1 z2 z3 : Value} {de : TypeDesc} [TI P T (.map kt et) s1 b1 z1] [TI P kt .string s2 b2 z2] [TI P et de s3 b3 z3]
    (hx : ev E x = some (.map (some b))) (hi : ev E i = some (S k)) (hm : MapAt M b kvs) : Gives P n D E M ⟨d, .lookup T x i false, ty, pos, aft, gd⟩ ((kvF kvs k).getD z3) := Gives.mk fun a w hs hw => by
  have hb := hm.go w hw
  obtain ⟨r, hf, hr⟩ := findNow_kv k kvs 0 0
  have hkt : P.underlying kt = some .string := TI.und
  have hc : ∀ e, (Instr.checkKey e 10000 kt (S k)).run P w = .ok () w := fun e => MapKept.run_checkKey (k := S k) hkt (by simp [MapKept.IsKey]) e 9999
  have hfk := MapKept.run_findKey (w := w) hkt hf
  simp only [execOp, hs.ev hx, hs.ev hi, Instr.lookup, Sem.run_bind, run_und (T := T) (desc := .map kt et) (size := s1) (bytes := b1) (zero := z1), Result.andThen_ok, MapKept.run_getObj_map hb, Sem.run_pure, hc, hfk]
  rw [← hr]
  cases r with
  | none => simp [run_zero (T := et) (desc := de) (size := s3) (bytes := b3) (zero := z3)]
  | some q => simp
end
section
variable {P : Program} {n : Nat} {D : List Deferred} {E : Env} {B : Base} {G G0 : Gh} {L : List Own} {K : Act → World → Prop} {Q : Exit → Act → World → Prop} {ty : TypeId} {pos : String} {aft : Array Edge} {gd : Option (Nat × Bool)} {dd : Nat}
theorem c_mkm {T : TypeId} (hlt : Nat.blt dd n = true)
    (k : ∀ b, Nx n D ((dd, .map (some b)) :: E) B G (.blk b (mapO []) :: L) K) : Nx n D E B G L (ow P ⟨some dd, .makeMap T none, ty, pos, aft, gd⟩ Q K) := Nx.mk fun a w hs hw => by
  unfold ow Oper.wp
  have : (execOp a.eval ⟨some dd, .makeMap T none, ty, pos, aft, gd⟩).run P w = .ok (.value (.map (some w.heap.size))) (w.alloc (mapO [])) := by
    simp [execOp, Instr.makeMap, mapO, mkEs]
  rw [this, Oper.upon_value]
  exact (k _).go _ _ (hs.put (by simpa using hlt)) (hw.alloc _)
class MapI (L : List Own) (b : Nat) (kvs : outParam (List (List UInt8 × Value))) : Prop where
  mem : Own.blk b (mapO kvs) ∈ L
instance {b : Nat} {kvs : List (List UInt8 × Value)} {r : List Own} : MapI (.blk b (mapO kvs) :: r) b kvs := ⟨.head _⟩
instance {b : Nat} {kvs : List (List UInt8 × Value)} {z : Own} {r : List Own} [h : MapI r b kvs] : MapI (z :: r) b kvs := ⟨.tail _ h.mem⟩
class UpdM (b : Nat) (kvs' : List (List UInt8 × Value)) (L : List Own) (kvs : outParam (List (List UInt8 × Value))) (L' : outParam (List Own)) : Prop where
  upd : UpdO (.blk b (mapO kvs)) (.blk b (mapO kvs')) L L'
instance {b : Nat} {kvs kvs' : List (List UInt8 × Value)} {r : List Own} : UpdM b kvs' (.blk b (mapO kvs) :: r) kvs (.blk b (mapO kvs') :: r) := ⟨.here⟩
instance {b : Nat} {kvs kvs' : List (List UInt8 × Value)} {z : Own} {r r' : List Own} [h : UpdM b kvs' r kvs r'] : UpdM b kvs' (z :: r) kvs (z :: r') := ⟨.there h.upd⟩
/-- A new key. -/
theorem c_mup {T kt et : TypeId} {x i y : Operand} {b : Nat} {k : List UInt8} {v : Value} {kvs kvs0 : List (List UInt8 × Value)} {s1 b1 s2 b2 : Nat} {z1 z2 : Value} {L' : List Own} [TI P T (.map kt et) s1 b1 z1] [TI P kt .string s2 b2 z2] [MapI L b kvs] [hu : UpdM b (kvs ++ [(k, v)]) L kvs0 L']
    (hx : ev E x = some (.map (some b))) (hi : ev E i = some (S k)) (hy : ev E y = some v) (he : kvs0 = kvs) (hno : kvF kvs k = none)
    (h : Nx n D E B G L' K) : Nx n D E B G L (ow P ⟨none, .mapUpdate T x i y, ty, pos, aft, gd⟩ Q K) := Nx.mk fun a w hs hw => by
  subst he
  unfold ow Oper.wp
  have hb : w.heap[b]? = some (mapO kvs0) := hw.own _ hu.upd.mem
  obtain ⟨r, hf, hr⟩ := findNow_kv k kvs0 0 0
  rw [hno] at hr
  have hr0 : r = none := by cases r with
    | none => rfl
    | some q => simp at hr
  subst hr0
  have hkt : P.underlying kt = some .string := TI.und
  have hc : ∀ e, (Instr.checkKey e 10000 kt (S k)).run P w = .ok () w := fun e => MapKept.run_checkKey (k := S k) hkt (by simp [MapKept.IsKey]) e 9999
  have hfk := MapKept.run_findKey (w := w) hkt hf
  have e : mapO (kvs0 ++ [(k, v)]) = .map ((mkEs kvs0 0).toArray.push { key := S k, val := v, born := kvs0.length }) (kvs0.length + 1) := by
    unfold mapO; rw [mkEs_snoc]; simp
  have : (execOp a.eval ⟨none, .mapUpdate T x i y, ty, pos, aft, gd⟩).run P w = .ok .skip (setBlk w b (mapO (kvs0 ++ [(k, v)]))) := by
    rw [e]
    have hb' : w.heap[b]? = some (.map (mkEs kvs0 0).toArray kvs0.length) := hb
    simp only [execOp, hs.ev hx, hs.ev hi, hs.ev hy, Instr.mapUpdate, Sem.run_bind, run_und (T := T) (desc := .map kt et) (size := s1) (bytes := b1) (zero := z1), Result.andThen_ok, MapKept.run_getObj_map hb', hc, hfk, MapKept.run_setObj_map _ hb', Sem.run_pure]
    rfl
  rw [this, Oper.upon_skip]
  exact h.go _ _ hs (hw.setBlk hu.upd)
theorem St.sealX {w : World} {b : Nat} {o : Obj} {R : List Own} (h : St B G (.blk b o :: R) w) : ∃ G', Gh.le G G' ∧ St B G' R w ∧ G' b = some (.ex o) := by
  have hfr := h.fresh b (by simp [bks, Own.bk])
  have hnd := h.nd
  simp only [bks, List.flatMap_cons, Own.bk, List.singleton_append, List.nodup_cons] at hnd
  refine ⟨fun c => if c = b then some (.ex o) else G c, fun c g hc => ?_, ?_, by simp⟩
  · have : c ≠ b := fun e => by subst e; rw [hfr.1] at hc; cases hc
    simp [this, hc]
  · refine ⟨fun c g hc => ?_, fun x hx' => h.own x (List.mem_cons_of_mem _ hx'), fun c hc => ?_, hnd.2, h.os, h.tape, h.output, h.size, fun c hc hW => ?_⟩
    · by_cases hcb : c = b
      · subst hcb
        simp only [↓reduceIte, Option.some.injEq] at hc
        subst hc
        exact ⟨_, h.own _ List.mem_cons_self, rfl⟩
      · simp only [if_neg hcb] at hc
        exact h.ok c g hc
    · have hcb : c ≠ b := fun e => by subst e; exact hnd.1 hc
      have := h.fresh c (by simp only [bks, List.flatMap_cons, Own.bk, List.singleton_append]; exact List.mem_cons_of_mem _ hc)
      simp [hcb, this]
    · have hcb : c ≠ b := fun e => by
        subst e
        rcases hfr.2 with h3 | h3
        · omega
        · exact hW h3
      simp only [if_neg hcb]
      exact h.frame c hc hW
class DelM (L : List Own) (b : Nat) (kvs : outParam (List (List UInt8 × Value))) (R : outParam (List Own)) : Prop where
  del : Del (.blk b (mapO kvs)) L R
instance {b : Nat} {kvs : List (List UInt8 × Value)} {r : List Own} : DelM (.blk b (mapO kvs) :: r) b kvs r := ⟨.here⟩
instance {b : Nat} {kvs : List (List UInt8 × Value)} {z : Own} {r r' : List Own} [h : DelM r b kvs r'] : DelM (z :: r) b kvs (z :: r') := ⟨.there h.del⟩
theorem Nx.sealM {b : Nat} {kvs : List (List UInt8 × Value)} {L' : List Own} [hL : DelM L b kvs L'] (h : ∀ G', Gh.le G G' → G' b = some (.ex (mapO kvs)) → Nx n D E B G' L' K) : Nx n D E B G L K := Nx.mk fun a w hs hw => by
  obtain ⟨G', h1, h2, h3⟩ := (hw.perm hL.del.perm).sealX
  exact (h G' h1 h3).go a w hs h2
/-- A block, sealed. -/
theorem Nx.sealC {b : Nat} {cs : List Value} {T : TypeId} {L' : List Own} [hL : DelB L b cs T L'] (h : ∀ G', Gh.le G G' → Seg G' b 0 cs → Nx n D E B G' L' K) : Nx n D E B G L K := Nx.sealB hL.del h
/-- An owned slice, sealed. -/
theorem Nx.sealS {v : Value} {T : TypeId} {sz m : Nat} {xs : List Value} {L' : List Own} [hL : AccI L v T sz m xs L'] (h : ∀ G', Gh.le G G' → SlV G' v sz m xs → Nx n D E B G' L' K) : Nx n D E B G L K := Nx.sealA hL.del h
end
/-! ### The lesser, the greater -/
section
variable {P : Program} {n : Nat} {D : List Deferred} {E : Env} {M : World → Prop} {d : Option Nat} {ty : TypeId} {pos : String} {aft : Array Edge} {gd : Option (Nat × Bool)}
theorem g_min {x y : Operand} {T T' : TypeId} {a b : Int} (hx : ev E x = some (I a)) (hy : ev E y = some (I b)) : Gives P n D E M ⟨d, .call ⟨.builtin .min, [x, y].toArray, [T, T'].toArray⟩, ty, pos, aft, gd⟩ (I (min a b)) := Gives.mk fun a' w hs _ => by
  have e : (if b < a then b else a) = min a b := by rw [Int.min_def]; split <;> split <;> omega
  simp [execOp, resolve, hs.ev hx, hs.ev hy, invoke, builtin, Lib.run_min_ints, e]
theorem g_max {x y : Operand} {T T' : TypeId} {a b : Int} (hx : ev E x = some (I a)) (hy : ev E y = some (I b)) : Gives P n D E M ⟨d, .call ⟨.builtin .max, [x, y].toArray, [T, T'].toArray⟩, ty, pos, aft, gd⟩ (I (max a b)) := Gives.mk fun a' w hs _ => by
  have e : (if b > a then b else a) = max a b := by rw [Int.max_def]; split <;> split <;> omega
  simp [execOp, resolve, hs.ev hx, hs.ev hy, invoke, builtin, Lib.run_max_ints, e]
end
section
variable {P : Program} {n : Nat} {D : List Deferred} {E : Env} {B : Base} {G G0 : Gh} {L : List Own} {K : Act → World → Prop} {Q : Exit → Act → World → Prop} {ty : TypeId} {pos : String} {aft : Array Edge} {gd : Option (Nat × Bool)} {dd : Nat}
/-- The next text of a made slice. -/
theorem c_stRS {xs : List (List UInt8)} {c : List UInt8} {T T0 : TypeId} {x y : Operand} {desc : TypeDesc} {bytes b o m : Nat} {zero : Value} {cs0 : List Value} {fr : Nat × Nat} {L' : List Own} [TI P T desc 1 bytes zero] [BlkI L b (rows strF xs ++ zerosL [S []] m) T0 fr] [hu : UpdI b (rows strF (xs ++ [c]) ++ zerosL [S []] (m - 1)) L cs0 T0 L']
    (hx : ev E x = some (Pt b o)) (hy : ev E y = some (S c)) (he : cs0 = rows strF xs ++ zerosL [S []] m) (ho : o = xs.length) (hm : 0 < m)
    (k : Nx n D E B G L' K) : Nx n D E B G L (ow P ⟨none, .store T x y, ty, pos, aft, gd⟩ Q K) := by
  refine c_store1 hx hy rfl hu.upd ?_ k
  obtain ⟨m, rfl⟩ : ∃ k, m = k + 1 := ⟨m - 1, by omega⟩
  subst he
  have hlen := rows_len (f := strF) xs
  rw [Nat.mul_one] at hlen
  rw [ho, ← hlen, rows_snoc]
  simp only [zerosL, Nat.add_sub_cancel, List.append_assoc]
  exact puts_mid _ (z := [S []]) (vs := strF c) rfl (by simp [strF])
end
/-! ### Rows of flags -/
def bools (p : Nat → Bool) : List Value := (List.range 256).map fun c => Bo (p c)
theorem bools_len (p : Nat → Bool) : (bools p).length = 256 := by simp [bools]
theorem bools_get {p : Nat → Bool} {c : Nat} (h : c < 256) : (bools p)[c]? = some (Bo (p c)) := by simp [bools, h]
theorem bools_set {p : Nat → Bool} {c : Nat} : (bools p).set c (Bo true) = bools (fun x => p x || x == c) := by
  apply List.ext_getElem?
  intro i
  rw [List.getElem?_set]
  by_cases h : i < 256
  · rw [bools_get h, bools_get h, bools_len]
    by_cases hc : c = i
    · subst hc; simp [h]
    · have : (i == c) = false := by simp; omega
      simp [hc, this]
  · have h1 : (bools p)[i]? = none := List.getElem?_eq_none (by rw [bools_len]; omega)
    have h2 : (bools fun x => p x || x == c)[i]? = none := List.getElem?_eq_none (by rw [bools_len]; omega)
    rw [h1, h2, bools_len]
    by_cases hc : c = i <;> simp [hc, h]
theorem puts_one {v : Value} : ∀ {cs : List Value} {o : Nat}, o < cs.length → PutsR cs o [v] (cs.set o v)
  | _ :: cs, 0, _ => .here .nil
  | _ :: cs, o + 1, h => .there (puts_one (by simpa using h))
theorem puts_all : ∀ {cs vs : List Value}, cs.length = vs.length → vs ≠ [] → PutsR cs 0 vs vs
  | [], [], _, h => absurd rfl h
  | _ :: cs, v :: vs, h, _ => by
    by_cases h0 : vs = []
    · subst h0
      have : cs = [] := by simpa using h
      subst this; exact .here .nil
    · exact .here (puts_all (by simpa using h) h0)
  | [], _ :: _, h, _ => by simp at h
  | _ :: _, [], _, h => absurd rfl h
theorem all1_bools (p : Nat → Bool) : all1 (bools p) = true := by
  have : ∀ l : List Nat, all1 (l.map fun c => Bo (p c)) = true := fun l => by
    induction l with
    | nil => rfl
    | cons a l ih => simp only [List.map_cons, all1, ih, Bool.and_true]; rfl
  exact this _
section
variable {P : Program} {n : Nat} {D : List Deferred} {E : Env} {M : World → Prop} {d : Option Nat} {ty : TypeId} {pos : String} {aft : Array Edge} {gd : Option (Nat × Bool)}
theorem g_iaddrA {T el : TypeId} {x i : Operand} {desc' : TypeDesc} {size bytes size' bytes' len : Nat} {zero zero' : Value} {k : IntKind} {m b o : Nat} [TI P T (.array len el) size bytes zero] [TI P el desc' size' bytes' zero']
    (hx : ev E x = some (Pt b o)) (hi : ev E i = some (.int k (m : Int))) (h0 : m < len) : Gives P n D E M ⟨d, .indexAddr T x i, ty, pos, aft, gd⟩ (Pt b (o + m * size')) := Gives.mk fun a w hs _ => by
  simp only [execOp, hs.ev hx, hs.ev hi, Instr.indexAt, Instr.sureAddr, asIntOf, Sem.run_bind, Sem.run_pure, Result.andThen_ok, run_und (desc := .array len el) (size := size) (bytes := bytes) (zero := zero)]
  rw [if_pos ⟨by omega, by omega⟩]
  simp only [Sem.run_bind, run_sizeOf (desc := desc') (size := size') (bytes := bytes') (zero := zero'), Result.andThen_ok, Sem.run_pure]
  by_cases hz : m * size' = 0 <;> simp [Addr.add, hz]
theorem g_ldBo {T T0 : TypeId} {x : Operand} {desc : TypeDesc} {size bytes : Nat} {zero : Value} {b c : Nat} {p : Nat → Bool} {G0 : Gh} {L0 : List Own} {cs : List Value} {fr : Nat × Nat} [TI P T desc size bytes zero] [Kn M G0 L0] [h : BlkI L0 b cs T0 fr] (hx : ev E x = some (Pt b (0 + c * 1))) (ha : aggD desc = false) (hcs : cs = bools p) (hc : c < 256) :
    Gives P n D E M ⟨d, .load T x, ty, pos, aft, gd⟩ (Bo (p c)) := g_load hx ha (by have := (cells_own (S := M) h.mem).go (0 + c * 1) (Bo (p c)) (by rw [hcs]; simp [bools_get hc]); simpa using this)
theorem g_ldBs {T T0 : TypeId} {x : Operand} {desc : TypeDesc} {size bytes : Nat} {zero : Value} {b : Nat} {p : Nat → Bool} {G0 : Gh} {L0 : List Own} {cs : List Value} {fr : Nat × Nat} [TI P T desc size bytes zero] [Kn M G0 L0] [h : BlkI L0 b cs T0 fr] (hx : ev E x = some (Pt b 0)) (ha : aggD desc = true) (hcs : cs = bools p) (hz : Nat.beq size 256 = true) :
    Gives P n D E M ⟨d, .load T x, ty, pos, aft, gd⟩ (Ag (bools p)) := g_loadA hx ha (by rw [bools_len]; exact (Nat.eq_of_beq_eq_true hz).symm) (by rw [← hcs]; exact cells_own (S := M) h.mem)
theorem rc_Bs {M : World → Prop} {T T0 : TypeId} {a b : Nat} {desc : TypeDesc} {size bytes : Nat} {zero : Value} {p : Nat → Bool} {cs : List Value} {fr : Nat × Nat} {G0 : Gh} {L0 : List Own} [TI P T desc size bytes zero] [Kn M G0 L0] [h : BlkI L0 b cs T0 fr] (hx : look E a = some (Pt b 0)) (ha : aggD desc = true) (hcs : cs = bools p) (hz : Nat.beq size 256 = true) :
    ∃ b o, look E a = some (.pointer (some ⟨b, o, none⟩)) ∧ ∀ w, M w → (loadVar T ⟨b, o, none⟩).run P w = .ok (Ag (bools p)) w :=
  ⟨b, 0, hx, fun w hw => run_loadVarA (desc := desc) (size := size) (bytes := bytes) (zero := zero) ha (by rw [bools_len]; exact (Nat.eq_of_beq_eq_true hz).symm) (by rw [← hcs]; exact cells_own (S := M) h.mem) w hw⟩
end
section
variable {P : Program} {n : Nat} {D : List Deferred} {E : Env} {B : Base} {G G0 : Gh} {L : List Own} {K : Act → World → Prop} {Q : Exit → Act → World → Prop} {ty : TypeId} {pos : String} {aft : Array Edge} {gd : Option (Nat × Bool)} {dd : Nat}
theorem c_stBo {T T0 : TypeId} {x y : Operand} {desc : TypeDesc} {bytes : Nat} {zero : Value} {b c : Nat} {p : Nat → Bool} {cs cs0 : List Value} {fr : Nat × Nat} {L' : List Own} [TI P T desc 1 bytes zero] [BlkI L b cs T0 fr] [hu : UpdI b (bools fun x => p x || x == c) L cs0 T0 L'] (hx : ev E x = some (Pt b (0 + c * 1))) (hy : ev E y = some (Bo true)) (hcs : cs = bools p) (hcs0 : cs0 = bools p) (hc : c < 256)
    (k : Nx n D E B G L' K) : Nx n D E B G L (ow P ⟨none, .store T x y, ty, pos, aft, gd⟩ Q K) := c_store1 hx hy rfl hu.upd (by
  subst hcs0
  have := puts_one (v := Bo true) (cs := bools p) (o := c) (by rw [bools_len]; exact hc)
  rw [bools_set] at this
  simpa using this) k
theorem c_stBs {T T0 : TypeId} {x y : Operand} {desc : TypeDesc} {size bytes : Nat} {zero : Value} {b : Nat} {p q : Nat → Bool} {cs cs0 : List Value} {fr : Nat × Nat} {L' : List Own} [TI P T desc size bytes zero] [BlkI L b cs T0 fr] [hu : UpdI b (bools p) L cs0 T0 L'] (hx : ev E x = some (Pt b 0)) (hy : ev E y = some (Ag (bools p))) (hcs0 : cs0 = bools q) (hz : Nat.beq size 256 = true)
    (k : Nx n D E B G L' K) : Nx n D E B G L (ow P ⟨none, .store T x y, ty, pos, aft, gd⟩ Q K) := c_store (vs := bools p) hx hy rfl (by rw [bools_len]; simpa using (Nat.eq_of_beq_eq_true hz).symm) (by have := bools_len p; cases h : bools p with | nil => rw [h] at this; simp at this | cons => rfl) (all1_bools p) hu.upd (by
  subst hcs0
  exact puts_all (by rw [bools_len, bools_len]) (fun h => by have := bools_len p; rw [h] at this; simp at this)) k
end
def noneB : Nat → Bool := fun _ => false
def nones : List Value := (List.range 256).map fun _ => Bo false
theorem bools_none : bools noneB = nones := rfl
theorem c_alBs {P : Program} {n : Nat} {D : List Deferred} {E : Env} {B : Base} {G : Gh} {L : List Own} {K : Act → World → Prop} {Q : Exit → Act → World → Prop} {ty : TypeId} {pos : String} {aft : Array Edge} {gd : Option (Nat × Bool)} {dd : Nat}
    {T : TypeId} {desc : TypeDesc} {size bytes : Nat} {zero : Value} [TI P T desc size bytes zero] (hz : zero = Ag nones) (hlt : Nat.blt dd n = true)
    (k : ∀ b, Nx n D ((dd, Pt b 0) :: E) B G (.blk b (.cells (bools noneB).toArray T (0, 0)) :: L) K) : Nx n D E B G L (ow P ⟨some dd, .alloc T, ty, pos, aft, gd⟩ Q K) := c_alloc (by rw [hz, bools_none]; rfl) hlt k
attribute [irreducible] bools
end Go.E
/-! Ba -/
namespace Go.E
set_option maxRecDepth 20000
set_option maxHeartbeats 2000000
open Go.Proofs
variable {G : Gh}
def strs (xs : List (List UInt8)) : List Value := xs.map fun x => S x
theorem strs_snoc (xs : List (List UInt8)) (x : List UInt8) : strs (xs ++ [x]) = strs xs ++ [S x] := by simp [strs]
abbrev tStr : TypeId := 9
theorem nth_mem {α : Type} [Inhabited α] {a : List α} {i : Nat} (h : i < a.length) : nth a i ∈ a := by rw [nth_eq h]; exact List.getElem_mem h
theorem mem_nth {α : Type} [Inhabited α] {a : List α} {x : α} (h : x ∈ a) : ∃ i, i < a.length ∧ nth a i = x := by
  obtain ⟨i, hi, e⟩ := List.mem_iff_getElem.1 h
  exact ⟨i, hi, by rw [nth_eq hi, e]⟩
theorem isPrefixOf_take (p s : List UInt8) : p.isPrefixOf s = decide (p.length ≤ s.length ∧ s.take p.length = p) := by
  by_cases h : p <+: s
  · have h1 := List.isPrefixOf_iff_prefix.2 h
    rw [h1]; obtain ⟨r, rfl⟩ := h; simp
  · have h1 : p.isPrefixOf s = false := by
      cases hb : p.isPrefixOf s with
      | false => rfl
      | true => exact absurd (List.isPrefixOf_iff_prefix.1 hb) h
    rw [h1]; symm; refine decide_eq_false fun ⟨_, h3⟩ => h ?_
    rw [← h3]; exact List.take_prefix _ _
theorem c_HasPrefix0 {s p : List UInt8} : PuG Tryz.prog 68 [S s, S p] G (· = Bo (p.isPrefixOf s)) := by
  rw [isPrefixOf_take]
  refine p_enter [(0, _), (1, _)] Tryz.func68 (by kernel_rfl) Tryz.ntmps68 rfl rfl (by repeat (first | exact trivial | refine ⟨rfl, ?_⟩)) fun B hB => ?_
  repeat' (first | (refine run (t := tb) 400 rfl ?_ ?_; (focus (repeat' (first | exact trivial | apply And.intro | omega)))) | (refine k_op rfl ?_; first | (refine v_op (g_pickT rfl rfl ?_) rfl rfl ?_; (focus (((rfl)); done))) | (refine v_op (g_pickF rfl rfl ?_) rfl rfl ?_; (focus (((rfl)); done)))) | refine k_g rfl rfl (fun _ => ?_) (fun _ => ?_))
  all_goals refine k_rr (vs := [_]) rfl ⟨rfl, trivial⟩ rfl (List.nil_sublist _) ⟨rfl, rfl, ?_⟩
  all_goals (rw [oneOf_one]; simp; omega)
theorem c_HasPrefix {s p : List UInt8} : PuG Tryz.prog 41 [S s, S p] G (· = Bo (p.isPrefixOf s)) := by
  refine p_enter [(0, _), (1, _)] Tryz.func41 (by kernel_rfl) Tryz.ntmps41 rfl rfl (by repeat (first | exact trivial | refine ⟨rfl, ?_⟩)) fun B hB => ?_
  repeat' (first | (refine run (t := tb) 400 rfl ?_ ?_; (focus (repeat' ((exact trivial))))) | (refine k_op rfl ?_; (refine c_rt rfl rfl rfl c_HasPrefix0 rfl ?_)))
  all_goals refine k_rr (vs := [_]) rfl ⟨rfl, trivial⟩ rfl (List.nil_sublist _) ⟨rfl, rfl, ?_⟩
  all_goals rfl
end Go.E
/-! Ps -/
namespace Go.E
set_option maxRecDepth 20000
set_option maxHeartbeats 2000000
def isLow (c : UInt8) : Bool := decide (97 ≤ c.toNat ∧ c.toNat ≤ 122)
/-- A name: one to three letters. -/
def isNm (s : List UInt8) : Bool := s.all isLow && decide (1 ≤ s.length ∧ s.length ≤ 3)
def kOk : List UInt8 → Bool
  | [] => false
  | c :: r => if c.toNat = 91 ∨ c.toNat = 63 then kOk r
    else if c.toNat = 64 then decide (((bt (c :: r) r.length : Nat) : Int) = 59) && isNm (r.take (r.length - 1))
    else decide (r = []) && (decide (c.toNat = 110) || decide (c.toNat = 116) || decide (c.toNat = 102))
/-- A kind. -/
def kindOk (s : List UInt8) : Bool := decide (s.length ≤ 12) && kOk s
/-- A kind without the signs ahead. -/
def core : List UInt8 → List UInt8
  | [] => []
  | c :: r => if c.toNat = 91 ∨ c.toNat = 63 then core r else c :: r
theorem isNm_no {s : List UInt8} {i : Nat} (h : i < s.length) (h2 : ¬ (97 ≤ bt s i ∧ bt s i ≤ 122)) : isNm s = false := by
  have e : bt s i = (s[i]).toNat := by simp [bt, List.getD, List.getElem?_eq_getElem h]
  have : s.all isLow = false := by
    rw [List.all_eq_false]
    exact ⟨s[i], List.getElem_mem h, by rw [e] at h2; simpa [isLow] using h2⟩
  rw [isNm, this, Bool.false_and]
theorem isNm_all {s : List UInt8} (h : ∀ i, i < s.length → 97 ≤ bt s i ∧ bt s i ≤ 122) : isNm s = decide (1 ≤ s.length ∧ s.length ≤ 3) := by
  have : s.all isLow = true := by
    rw [List.all_eq_true]
    intro c hc
    obtain ⟨i, hi, rfl⟩ := List.mem_iff_getElem.1 hc
    have e : bt s i = (s[i]).toNat := by simp [bt, List.getD, List.getElem?_eq_getElem hi]
    have := h i hi
    rw [e] at this
    simpa [isLow] using this
  rw [isNm, this, Bool.true_and]
theorem isNm_len {s : List UInt8} (h : isNm s = true) : s.length ≤ 3 := by
  unfold isNm at h; simp only [Bool.and_eq_true, decide_eq_true_eq] at h; exact h.2.2
/-- A number in decimals. -/
def dec (n : Nat) : List UInt8 := if h : n < 10 then [u8 (48 + n : Nat)] else dec (n / 10) ++ [u8 (48 + n % 10 : Nat)]
termination_by n
decreasing_by omega
def decI (n : Int) : List UInt8 := dec n.toNat
theorem decI_lo {n : Int} (h : n < 10) (h0 : 0 ≤ n) : decI n = [u8 (48 + n)] := by
  unfold decI; rw [dec, dif_pos (by omega)]; congr 1; congr 1; omega
theorem decI_hi {n : Int} (h : ¬ n < 10) : decI n = decI (n / 10) ++ [u8 (48 + n % 10)] := by
  unfold decI; rw [dec, dif_neg (by omega)]
  have e1 : n.toNat / 10 = (n / 10).toNat := by omega
  have e2 : ((48 + n.toNat % 10 : Nat) : Int) = 48 + n % 10 := by omega
  rw [e1, e2]
theorem dec_len (n : Nat) : ∀ k, n < 10 ^ (k + 1) → (dec n).length ≤ k + 1 := by
  intro k
  induction k generalizing n with
  | zero => intro h; rw [dec, dif_pos (by simpa using h)]; simp
  | succ k ih =>
    intro h
    by_cases h1 : n < 10
    · rw [dec, dif_pos h1]; simp
    · rw [dec, dif_neg h1]
      have := ih (n / 10) (Nat.div_lt_of_lt_mul (by rw [Nat.pow_succ] at h; omega))
      simp; omega
theorem decI_len {n : Int} (h : n ≤ 9223372036854775807) : (decI n).length ≤ 19 := dec_len _ 18 (by omega)
end Go.E
/-! Ka -/
namespace Go.E
set_option maxRecDepth 20000
set_option maxHeartbeats 2000000
open Go.Proofs
variable {G : Gh}
theorem c_l2Name {s : List UInt8} (h : s.length ≤ 9000000000000000000) : PuG Tryz.prog 30 [S s] G (· = Bo (isNm s)) := by
  refine p_enter [(0, _)] Tryz.func30 (by kernel_rfl) Tryz.ntmps30 rfl rfl (by repeat (first | exact trivial | refine ⟨rfl, ?_⟩)) fun B hB => ?_
  repeat' ((refine run (t := tb) 400 rfl ?_ ?_; (focus (repeat' ((exact trivial))))))
  refine k_loop (ι := Nat) (fun i => i ≤ s.length ∧ ∀ k, k < i → 97 ≤ bt s k ∧ bt s k ≤ 122) (fun i => [(0, S s), (3, I i)]) (fun _ => G) (fun i => []) (fun i => s.length - i) 0 ?_ (by repeat (first | exact trivial | refine ⟨rfl, ?_⟩)) rfl (by repeat ((exact List.Sublist.refl _))) (fun i Hi => ?_)
  · exact ⟨by omega, fun k hk => absurd hk (by omega)⟩
  by_cases hi : i < s.length
  · repeat' (first | (refine run (t := tb) 400 rfl ?_ ?_; (focus (repeat' (first | exact trivial | apply And.intro | omega)))) | (refine k_op rfl ?_; first | (refine v_op (g_pickT rfl rfl ?_) rfl rfl ?_; (focus (((rfl)); done))) | (refine v_op (g_pickF rfl rfl ?_) rfl rfl ?_; (focus (((rfl)); done)))) | refine k_g rfl rfl (fun _ => ?_) (fun _ => ?_) | (refine k_tt rfl ?_ ?_; (focus ((first | rfl | (refine decide_eq_true ?_; (omega))); done))) | refine k_if rfl (fun _ => ?_) (fun _ => ?_))
    · rename_i hc
      refine k_rr (vs := [_]) rfl ⟨rfl, trivial⟩ rfl (List.nil_sublist _) ⟨rfl, rfl, ?_⟩
      have hc : ((bt s i : Nat) : Int) < 97 := hc
      rw [oneOf_one, isNm_no hi (by omega)]
    · rename_i _ hc
      refine k_rr (vs := [_]) rfl ⟨rfl, trivial⟩ rfl (List.nil_sublist _) ⟨rfl, rfl, ?_⟩
      have hc : (122 : Int) < ((bt s i : Nat) : Int) := hc
      rw [oneOf_one, isNm_no hi (by omega)]
    · rename_i h1 h2
      have h1 : ¬ ((bt s i : Nat) : Int) < 97 := h1
      have h2 : ¬ (122 : Int) < ((bt s i : Nat) : Int) := h2
      refine k_rd (i + 1) ⟨by omega, fun k hk => ?_⟩ (by omega) (by repeat (first | exact trivial | refine ⟨rfl, ?_⟩)) rfl (by repeat ((exact List.Sublist.refl _)))
      rcases Nat.lt_or_ge k i with h3 | h3
      · exact Hi.2 k h3
      · have : k = i := by omega
        subst this; omega
  · repeat' (first | (refine run (t := tb) 400 rfl ?_ ?_; (focus (repeat' ((exact trivial))))) | (refine k_op rfl ?_; (refine c_rt rfl rfl rfl c_l6In rfl ?_)) | (refine k_ff rfl ?_ ?_; (focus (((refine decide_eq_false ?_; (omega))); done))))
    refine k_rr (vs := [_]) rfl ⟨rfl, trivial⟩ rfl (List.nil_sublist _) ⟨rfl, rfl, ?_⟩
    rw [oneOf_one, isNm_all fun k hk => Hi.2 k (by omega)]
    refine congrArg Bo ?_
    rw [Bool.decide_and]
    exact congr (congrArg and (decide_eq_decide.2 (by omega))) (decide_eq_decide.2 (by omega))
theorem bt_c0 (c : UInt8) (r : List UInt8) : bt (c :: r) 0 = c.toNat := by simp [bt, List.getD]
theorem c_l2Ref {c : UInt8} {r : List UInt8} (h : r ≠ []) (hl : r.length ≤ 1000000) : PuG Tryz.prog 16 [S (c :: r)] G (· = Tu [S (if c.toNat = 64 then r.take (r.length - 1) else []), Bo (decide (c.toNat = 64))]) := by
  have hp := List.length_pos_iff.2 h
  have e0 := bt_c0 c r
  refine p_enter [(0, _)] Tryz.func16 (by kernel_rfl) Tryz.ntmps16 rfl rfl (by repeat (first | exact trivial | refine ⟨rfl, ?_⟩)) fun B hB => ?_
  repeat' (first | (refine run (t := tb) 400 rfl ?_ ?_; (focus (repeat' (first | exact trivial | apply And.intro | omega | (simp only [List.length_append, List.length_cons, List.length_nil, Int.toNat_natCast]; omega))))) | refine k_if rfl (fun _ => ?_) (fun _ => ?_))
  · rename_i hc
    refine k_rr (vs := [_, _]) rfl ⟨rfl, rfl, trivial⟩ rfl (List.nil_sublist _) ⟨rfl, rfl, ?_⟩
    have hc : ((bt (c :: r) 0 : Nat) : Int) ≠ 64 := hc
    have hc : ¬ c.toNat = 64 := by omega
    rw [oneOf_two, if_neg hc, decide_eq_false hc]
  · rename_i hc
    refine k_rr (vs := [_, _]) rfl ⟨rfl, rfl, trivial⟩ rfl (List.nil_sublist _) ⟨rfl, rfl, ?_⟩
    have hc : ¬ ((bt (c :: r) 0 : Nat) : Int) ≠ 64 := hc
    have hc : c.toNat = 64 := by omega
    have e : ((((c :: r).length : Nat) : Int) - 1).toNat = (r.length - 1) + 1 := by simp only [List.length_cons]; omega
    rw [oneOf_two, if_pos hc, decide_eq_true hc, e, List.take_succ_cons]; rfl
theorem kOk_ref {s : List UInt8} (h : kOk s = true) : s ≠ [] := fun e => by subst e; cases h
theorem c_KindOkS {s : List UInt8} : PuG Tryz.prog 15 [S s] G (· = Bo (kindOk s)) := by
  induction s with
  | nil =>
    refine p_enter [(0, _)] Tryz.func15 (by kernel_rfl) Tryz.ntmps15 rfl rfl (by repeat (first | exact trivial | refine ⟨rfl, ?_⟩)) fun B hB => ?_
    repeat' (first | (refine run (t := tb) 400 rfl ?_ ?_; (focus (repeat' ((exact trivial))))) | (refine k_op rfl ?_; (refine v_op (g_pickF rfl rfl ?_) rfl rfl ?_; (focus (((rfl)); done)))) | (refine k_gf rfl rfl ?_ ?_; (focus (((rfl)); done))) | (refine k_tt rfl ?_ ?_; (focus (((rfl)); done))))
    all_goals refine k_rr (vs := [_]) rfl ⟨rfl, trivial⟩ rfl (List.nil_sublist _) ⟨rfl, rfl, ?_⟩
    all_goals rfl
  | cons c r ih =>
    have e0 : bt (c :: r) (Int.toNat 0) = c.toNat := bt_c0 c r
    by_cases hl : (c :: r).length ≤ 12
    · have hl2 : r.length ≤ 12 := by simp at hl; omega
      rw [kindOk, decide_eq_true hl, Bool.true_and, kOk]
      rw [kindOk, decide_eq_true hl2, Bool.true_and] at ih
      have hcons : (c :: r).length = r.length + 1 := rfl
      by_cases h1 : c.toNat = 91
      · rw [if_pos (.inl h1)]
        refine p_enter [(0, _)] Tryz.func15 (by kernel_rfl) Tryz.ntmps15 rfl rfl (by repeat (first | exact trivial | refine ⟨rfl, ?_⟩)) fun B hB => ?_
        repeat' (first | (refine run (t := tb) 400 rfl ?_ ?_; (focus (repeat' (first | exact trivial | apply And.intro | omega)))) | (refine k_op rfl ?_; first | (refine v_op (g_pickF rfl rfl ?_) rfl rfl ?_; (focus (((rfl)); done))) | (refine c_rt rfl rfl rfl ih rfl ?_)) | (refine k_gf rfl rfl ?_ ?_; (focus (((refine decide_eq_false ?_; (omega))); done))) | (refine k_tt rfl ?_ ?_; (focus (((refine decide_eq_true ?_; (omega))); done))) | (refine k_ff rfl ?_ ?_; (focus (((rfl)); done))))
        refine k_rr (vs := [_]) rfl ⟨rfl, trivial⟩ rfl (List.nil_sublist _) ⟨rfl, rfl, ?_⟩
        rfl
      by_cases h2 : c.toNat = 63
      · rw [if_pos (.inr h2)]
        refine p_enter [(0, _)] Tryz.func15 (by kernel_rfl) Tryz.ntmps15 rfl rfl (by repeat (first | exact trivial | refine ⟨rfl, ?_⟩)) fun B hB => ?_
        repeat' (first | (refine run (t := tb) 400 rfl ?_ ?_; (focus (repeat' (first | exact trivial | apply And.intro | omega)))) | (refine k_op rfl ?_; first | (refine v_op (g_pickF rfl rfl ?_) rfl rfl ?_; (focus (((rfl)); done))) | (refine c_rt rfl rfl rfl ih rfl ?_)) | (refine k_gf rfl rfl ?_ ?_; (focus (((refine decide_eq_false ?_; (omega))); done))) | (refine k_tt rfl ?_ ?_; (focus (((refine decide_eq_true ?_; (omega))); done))) | (refine k_ff rfl ?_ ?_; (focus ((first | rfl | (refine decide_eq_false ?_; (omega))); done))))
        refine k_rr (vs := [_]) rfl ⟨rfl, trivial⟩ rfl (List.nil_sublist _) ⟨rfl, rfl, ?_⟩
        rfl
      rw [if_neg (by omega)]
      by_cases h3 : c.toNat = 64
      · rw [if_pos h3]
        have h5 : ((((c :: r).length : Nat) : Int) - 1).toNat = r.length := by omega
        by_cases h4 : ((bt (c :: r) r.length : Nat) : Int) = 59
        · have h6 : ((bt (c :: r) ((((c :: r).length : Nat) : Int) - 1).toNat : Nat) : Int) = 59 := by rw [h5]; exact h4
          have hp : 0 < r.length := by
            rcases Nat.eq_zero_or_pos r.length with h0 | h0
            · have : r = [] := List.length_eq_zero_iff.1 h0
              subst this
              have : ((bt [c] (Int.toNat 0) : Nat) : Int) = 59 := h4
              omega
            · exact h0
          have e1 : ((((c :: r).length : Nat) : Int) - 1).toNat = (r.length - 1) + 1 := by omega
          refine p_enter [(0, _)] Tryz.func15 (by kernel_rfl) Tryz.ntmps15 rfl rfl (by repeat (first | exact trivial | refine ⟨rfl, ?_⟩)) fun B hB => ?_
          repeat' (first | (refine run (t := tb) 400 rfl ?_ ?_; (focus (repeat' (first | exact trivial | apply And.intro | omega)))) | (refine k_op rfl ?_; first | (refine v_op (g_pickT rfl rfl ?_) rfl rfl ?_; (focus (((rfl)); done))) | (refine v_op (g_pickF rfl rfl ?_) rfl rfl ?_; (focus (((rfl)); done))) | (refine c_rt rfl rfl rfl (c_l2Name ?_) rfl ?_; (focus (((simp; omega)); done)))) | (refine k_gt rfl rfl ?_ ?_; (focus (((refine decide_eq_true ?_; (assumption))); done))) | (refine k_gf rfl rfl ?_ ?_; (focus (((refine decide_eq_false ?_; (omega))); done))) | (refine k_tt rfl ?_ ?_; (focus (((refine decide_eq_true ?_; (omega))); done))) | (refine k_ff rfl ?_ ?_; (focus ((first | rfl | (refine decide_eq_false ?_; (omega))); done))))
          refine k_rr (vs := [_]) rfl ⟨rfl, trivial⟩ rfl (List.nil_sublist _) ⟨rfl, rfl, ?_⟩
          rw [oneOf_one, decide_eq_true h4, Bool.true_and, e1, List.take_succ_cons]; rfl
        · have h6 : ¬ ((bt (c :: r) ((((c :: r).length : Nat) : Int) - 1).toNat : Nat) : Int) = 59 := by rw [h5]; exact h4
          refine p_enter [(0, _)] Tryz.func15 (by kernel_rfl) Tryz.ntmps15 rfl rfl (by repeat (first | exact trivial | refine ⟨rfl, ?_⟩)) fun B hB => ?_
          repeat' (first | (refine run (t := tb) 400 rfl ?_ ?_; (focus (repeat' (first | exact trivial | apply And.intro | omega)))) | (refine k_op rfl ?_; (refine v_op (g_pickF rfl rfl ?_) rfl rfl ?_; (focus (((rfl)); done)))) | (refine k_gf rfl rfl ?_ ?_; (focus (((refine decide_eq_false ?_; first | assumption | omega)); done))) | (refine k_tt rfl ?_ ?_; (focus (((refine decide_eq_true ?_; (omega))); done))) | (refine k_ff rfl ?_ ?_; (focus ((first | rfl | (refine decide_eq_false ?_; (omega))); done))))
          refine k_rr (vs := [_]) rfl ⟨rfl, trivial⟩ rfl (List.nil_sublist _) ⟨rfl, rfl, ?_⟩
          rw [oneOf_one, decide_eq_false h4, Bool.false_and]
      · rw [if_neg h3]
        have n1 : ∀ x : UInt8, (c :: r = [x]) = (c.toNat = x.toNat ∧ r = []) := fun x => by
          rw [List.cons.injEq]; exact propext ⟨fun h => ⟨by rw [h.1], h.2⟩, fun h => ⟨UInt8.toNat_inj.1 h.1, h.2⟩⟩
        refine p_enter [(0, _)] Tryz.func15 (by kernel_rfl) Tryz.ntmps15 rfl rfl (by repeat (first | exact trivial | refine ⟨rfl, ?_⟩)) fun B hB => ?_
        repeat' (first | (refine run (t := tb) 400 rfl ?_ ?_; (focus (repeat' (first | exact trivial | apply And.intro | omega)))) | (refine k_op rfl ?_; first | (refine v_op (g_pickT rfl rfl ?_) rfl rfl ?_; (focus (((rfl)); done))) | (refine v_op (g_pickF rfl rfl ?_) rfl rfl ?_; (focus (((rfl)); done)))) | (refine k_gt rfl rfl ?_ ?_; (focus (((rfl)); done))) | (refine k_gf rfl rfl ?_ ?_; (focus (((refine decide_eq_false ?_; (omega))); done))) | refine k_g rfl rfl (fun _ => ?_) (fun _ => ?_) | (refine k_ff rfl ?_ ?_; (focus ((first | rfl | (refine decide_eq_false ?_; (omega))); done))))
        all_goals refine k_rr (vs := [_]) rfl ⟨rfl, trivial⟩ rfl (List.nil_sublist _) ⟨rfl, rfl, ?_⟩
        all_goals rw [oneOf_one]
        · rename_i h; rw [n1] at h; rw [decide_eq_true h.2, decide_eq_true (p := c.toNat = 110) h.1]; rfl
        · rename_i h; rw [n1] at h; rw [decide_eq_true h.2, decide_eq_true (p := c.toNat = 116) h.1]; simp
        · rename_i ha hb
          refine congrArg Bo ?_
          rw [n1] at ha hb
          simp only [n1]
          by_cases hr : r = []
          · have hx : ¬ c.toNat = 110 := fun h => ha ⟨h, hr⟩
            have hy : ¬ c.toNat = 116 := fun h => hb ⟨h, hr⟩
            simp [hr, hx, hy]
          · simp [hr]
    · rw [kindOk, decide_eq_false hl, Bool.false_and]
      refine p_enter [(0, _)] Tryz.func15 (by kernel_rfl) Tryz.ntmps15 rfl rfl (by repeat (first | exact trivial | refine ⟨rfl, ?_⟩)) fun B hB => ?_
      repeat' (first | (refine run (t := tb) 400 rfl ?_ ?_; (focus (repeat' ((exact trivial))))) | (refine k_op rfl ?_; (refine v_op (g_pickT rfl rfl ?_) rfl rfl ?_; (focus (((rfl)); done)))) | (refine k_gt rfl rfl ?_ ?_; (focus (((refine decide_eq_true ?_; (omega))); done))) | (refine k_tt rfl ?_ ?_; (focus (((rfl)); done))))
      all_goals refine k_rr (vs := [_]) rfl ⟨rfl, trivial⟩ rfl (List.nil_sublist _) ⟨rfl, rfl, ?_⟩
      all_goals rfl
end Go.E
/-! Kb -/
namespace Go.E
set_option maxRecDepth 20000
set_option maxHeartbeats 2000000
open Go.Proofs
variable {G : Gh}
theorem c_l2Core {s : List UInt8} (h : kOk s = true) : PuG Tryz.prog 17 [S s] G (· = S (core s)) := by
  refine p_enter [(0, _)] Tryz.func17 (by kernel_rfl) Tryz.ntmps17 rfl rfl (by repeat (first | exact trivial | refine ⟨rfl, ?_⟩)) fun B hB => ?_
  repeat' ((refine run (t := tb) 400 rfl ?_ ?_; (focus (repeat' ((exact trivial))))))
  refine k_loop (ι := List UInt8) (fun t => kOk t = true ∧ core t = core s) (fun t => [(0, S t)]) (fun _ => G) (fun t => []) (fun t => t.length) s ?_ (by repeat (first | exact trivial | refine ⟨rfl, ?_⟩)) rfl (by repeat ((exact List.Sublist.refl _))) (fun t Ht => ?_)
  · exact ⟨h, rfl⟩
  match t, Ht with
  | c :: r, Ht =>
    have e0 : bt (c :: r) (Int.toNat 0) = c.toNat := bt_c0 c r
    have hcons : (c :: r).length = r.length + 1 := rfl
    by_cases h1 : c.toNat = 91 ∨ c.toNat = 63
    · have hk : kOk r = true := by have := Ht.1; rw [kOk, if_pos h1] at this; exact this
      have hc : core r = core s := by rw [← Ht.2, core, if_pos h1]
      rcases h1 with h1 | h1
      all_goals repeat' (first | (refine run (t := tb) 400 rfl ?_ ?_; (focus (repeat' (first | exact trivial | apply And.intro | omega)))) | (refine k_op rfl ?_; first | (refine v_op (g_pickT rfl rfl ?_) rfl rfl ?_; (focus (((rfl)); done))) | (refine v_op (g_pickF rfl rfl ?_) rfl rfl ?_; (focus (((rfl)); done)))) | (refine k_gt rfl rfl ?_ ?_; (focus (((refine decide_eq_true ?_; (omega))); done))) | (refine k_gf rfl rfl ?_ ?_; (focus (((refine decide_eq_false ?_; (omega))); done))) | (refine k_tt rfl ?_ ?_; (focus ((first | rfl | (refine decide_eq_true ?_; (omega))); done))))
      all_goals exact k_rd r ⟨hk, hc⟩ (by omega) (by repeat (first | exact trivial | refine ⟨rfl, ?_⟩)) rfl (by repeat ((exact List.Sublist.refl _)))
    · repeat' (first | (refine run (t := tb) 400 rfl ?_ ?_; (focus (repeat' (first | exact trivial | apply And.intro | omega)))) | (refine k_op rfl ?_; (refine v_op (g_pickF rfl rfl ?_) rfl rfl ?_; (focus (((rfl)); done)))) | (refine k_gf rfl rfl ?_ ?_; (focus (((refine decide_eq_false ?_; (omega))); done))) | (refine k_ff rfl ?_ ?_; (focus (((refine decide_eq_false ?_; (omega))); done))))
      refine k_rr (vs := [_]) rfl ⟨rfl, trivial⟩ rfl (List.nil_sublist _) ⟨rfl, rfl, ?_⟩
      rw [oneOf_one, ← Ht.2, core, if_neg h1]
theorem c_l6Dec' : ∀ (k : Nat) {n : Int}, n.toNat ≤ k → 0 ≤ n ∧ n ≤ 9223372036854775807 → PuG Tryz.prog 59 [I n] G (· = S (decI n)) := by
  intro k
  induction k with
  | zero =>
    intro n hk hn
    have h1 : n < 10 := by omega
    refine p_enter [(0, _)] Tryz.func59 (by kernel_rfl) Tryz.ntmps59 rfl rfl (by repeat (first | exact trivial | refine ⟨rfl, ?_⟩)) fun B hB => ?_
    repeat' (first | (refine run (t := tb) 400 rfl ?_ ?_; (focus (repeat' (first | exact trivial | apply And.intro | omega)))) | (refine k_op rfl ?_; first | refine c_bsl rfl rfl rfl rfl rfl rfl fun _ => ?_ | refine v_op (g_bsB rfl rfl (by (repeat (first | exact BL.nil | apply BL.cons)); done)) rfl rfl ?_) | (refine k_tt rfl ?_ ?_; (focus (((refine decide_eq_true ?_; (assumption))); done))) | (refine k_ff rfl ?_ ?_; (focus (((refine decide_eq_false ?_; (omega))); done))))
    refine k_rr (vs := [_]) rfl ⟨rfl, trivial⟩ rfl (List.nil_sublist _) ⟨rfl, rfl, ?_⟩
    rw [oneOf_one, decI_lo h1 hn.1]
  | succ k ih =>
    intro n hk hn
    have hl := decI_len (n := n / 10) (by omega)
    by_cases h1 : n < 10
    · refine p_enter [(0, _)] Tryz.func59 (by kernel_rfl) Tryz.ntmps59 rfl rfl (by repeat (first | exact trivial | refine ⟨rfl, ?_⟩)) fun B hB => ?_
      repeat' (first | (refine run (t := tb) 400 rfl ?_ ?_; (focus (repeat' (first | exact trivial | apply And.intro | omega)))) | (refine k_op rfl ?_; first | refine c_bsl rfl rfl rfl rfl rfl rfl fun _ => ?_ | refine v_op (g_bsB rfl rfl (by (repeat (first | exact BL.nil | apply BL.cons)); done)) rfl rfl ?_) | (refine k_tt rfl ?_ ?_; (focus (((refine decide_eq_true ?_; (assumption))); done))) | (refine k_ff rfl ?_ ?_; (focus (((refine decide_eq_false ?_; (omega))); done))))
      refine k_rr (vs := [_]) rfl ⟨rfl, trivial⟩ rfl (List.nil_sublist _) ⟨rfl, rfl, ?_⟩
      rw [oneOf_one, decI_lo h1 hn.1]
    · refine p_enter [(0, _)] Tryz.func59 (by kernel_rfl) Tryz.ntmps59 rfl rfl (by repeat (first | exact trivial | refine ⟨rfl, ?_⟩)) fun B hB => ?_
      repeat' (first | (refine run (t := tb) 400 rfl ?_ ?_; (focus (repeat' ((exact trivial))))) | (refine k_ff rfl ?_ ?_; (focus (((refine decide_eq_false ?_; first | assumption | omega)); done))) | (refine k_any (s_any (id := 7) _ (fun _ h => h) mixed ?_); refine x_tks (t := tb) (fuel := 5) [0, 1, 3, 4, 5, 6] (bts 11 123) (by kernel_rfl) (by kernel_rfl) rfl rfl (Gh.le.refl _) (by repeat ((exact List.Sublist.refl _))) ?_ ?_; (focus (repeat' (first | exact trivial | apply And.intro | omega))); refine x_all [2, 7] (by kernel_rfl) (by decide) ⟨?_, ?_, trivial⟩; (focus (refine x_opg rfl rfl ?_; ((refine c_rt rfl rfl rfl (ih ?_ ?_) rfl ?_; (focus (((omega)); done)); (focus (((omega)); done)))); refine x_ks (by (exact Gh.le.refl _)) (by repeat ((exact List.Sublist.refl _))) (listed' := (bts 11 127)) (by kernel_rfl) ?_; refine x_all [7] (by kernel_rfl) (by decide) ⟨?_, trivial⟩; refine x_opg rfl rfl ?_; ((refine c_bsl rfl rfl rfl rfl rfl rfl fun _ => ?_)); refine x_ks (by (exact Gh.le.refl _)) (by repeat ((exact List.nil_sublist _))) (listed' := (bts 11 255)) (by kernel_rfl) ?_; ((refine (x_tkg (bts 11 511) 8 rfl (by kernel_rfl) rfl (Gh.le.refl _) (by repeat ((exact List.Sublist.refl _)))) (g_bsB rfl rfl (by (repeat (first | exact BL.nil | apply BL.cons)); done)) rfl rfl ?_)); refine x_tks (t := tb) (fuel := 0) [9, 10] (bts 11 2047) (by kernel_rfl) (by kernel_rfl) rfl rfl (Gh.le.refl _) (by repeat ((exact List.Sublist.refl _))) ?_ ?_; (focus (repeat' (first | exact trivial | apply And.intro | (simp only [List.length_append, List.length_cons, List.length_nil, Int.toNat_natCast]; omega)))); refine x_done (by kernel_rfl) (k_bk ?_))); rotate_left 1; (focus (refine x_opg rfl rfl ?_; ((refine c_bsl rfl rfl rfl rfl rfl rfl fun _ => ?_)); refine x_ks (by (exact Gh.le.refl _)) (by repeat ((exact List.nil_sublist _))) (listed' := (bts 11 251)) (by kernel_rfl) ?_; ((refine (x_tkg (bts 11 507) 8 rfl (by kernel_rfl) rfl (Gh.le.refl _) (by repeat ((exact List.Sublist.refl _)))) (g_bsB rfl rfl (by (repeat (first | exact BL.nil | apply BL.cons)); done)) rfl rfl ?_)); refine x_all [2] (by kernel_rfl) (by decide) ⟨?_, trivial⟩; refine x_opg rfl rfl ?_; ((refine c_rt rfl rfl rfl (ih ?_ ?_) rfl ?_; (focus (((omega)); done)); (focus (((omega)); done)))); refine x_ks (by (exact Gh.le.refl _)) (by repeat ((exact List.Sublist.refl _))) (listed' := (bts 11 511)) (by kernel_rfl) ?_; refine x_tks (t := tb) (fuel := 0) [9, 10] (bts 11 2047) (by kernel_rfl) (by kernel_rfl) rfl rfl (Gh.le.refl _) (by repeat ((exact List.Sublist.refl _))) ?_ ?_; (focus (repeat' (first | exact trivial | apply And.intro | (simp only [List.length_append, List.length_cons, List.length_nil, Int.toNat_natCast]; omega)))); refine x_done (by kernel_rfl) (k_bk ?_))); rotate_left 1))
      all_goals refine k_rr (vs := [_]) rfl ⟨rfl, trivial⟩ rfl (List.nil_sublist _) ⟨rfl, rfl, ?_⟩
      all_goals rw [oneOf_one, decI_hi (n := n) h1]
theorem c_l6Dec {n : Int} (hn : 0 ≤ n ∧ n ≤ 9223372036854775807) : PuG Tryz.prog 59 [I n] G (· = S (decI n)) := c_l6Dec' n.toNat (Nat.le_refl _) hn
def plainOf (s : List UInt8) : List UInt8 := if s = [110] then [48] else if s = [116] then [39, 39] else if s = [102] then [110, 111] else []
theorem c_l3Plain {s : List UInt8} : PuG Tryz.prog 93 [S s] G (· = S (plainOf s)) := by
  refine p_enter [(0, _)] Tryz.func93 (by kernel_rfl) Tryz.ntmps93 rfl rfl (by repeat (first | exact trivial | refine ⟨rfl, ?_⟩)) fun B hB => ?_
  repeat' (first | (refine run (t := tb) 400 rfl ?_ ?_; (focus (repeat' ((exact trivial))))) | refine k_if rfl (fun _ => ?_) (fun _ => ?_))
  all_goals refine k_rr (vs := [_]) rfl ⟨rfl, trivial⟩ rfl (List.nil_sublist _) ⟨rfl, rfl, ?_⟩
  all_goals (rw [oneOf_one, plainOf]; simp [*])
def txN (x : Nat) : Prop := x = 32 ∨ (48 ≤ x ∧ x ≤ 57) ∨ (97 ≤ x ∧ x ≤ 122)
instance (x : Nat) : Decidable (txN x) := inferInstanceAs (Decidable (_ ∨ _))
/-- A text between two strokes. -/
def TxP (s : List UInt8) : Prop := (2 ≤ s.length ∧ s.length ≤ 14) ∧ bt s 0 = 39 ∧ bt s (s.length - 1) = 39 ∧ ∀ i, i < s.length - 1 → i = 0 ∨ txN (bt s i)
instance (s : List UInt8) : Decidable (TxP s) := inferInstanceAs (Decidable (_ ∧ _ ∧ _ ∧ _))
def isTx (s : List UInt8) : Bool := decide (TxP s)
theorem c_l3Text {s : List UInt8} (h : s.length ≤ 100000000) : PuG Tryz.prog 36 [S s] G (· = Bo (isTx s)) := by
  by_cases h1 : 2 ≤ s.length ∧ s.length ≤ 14
  case neg =>
    have e : isTx s = false := decide_eq_false fun x => h1 x.1
    rw [e]
    refine p_enter [(0, _)] Tryz.func36 (by kernel_rfl) Tryz.ntmps36 rfl rfl (by repeat (first | exact trivial | refine ⟨rfl, ?_⟩)) fun B hB => ?_
    repeat' (first | (refine run (t := tb) 400 rfl ?_ ?_; (focus (repeat' ((exact trivial))))) | (refine k_op rfl ?_; first | (refine v_op (g_pickT rfl rfl ?_) rfl rfl ?_; (focus (((rfl)); done))) | (refine v_op (g_pickF rfl rfl ?_) rfl rfl ?_; (focus (((rfl)); done)))) | (refine k_gt rfl rfl ?_ ?_; (focus ((first | rfl | (refine decide_eq_true ?_; (omega))); done))) | refine k_g rfl rfl (fun _ => ?_) (fun _ => ?_) | (refine k_tt rfl ?_ ?_; (focus (((rfl)); done))))
    all_goals refine k_rr (vs := [_]) rfl ⟨rfl, trivial⟩ rfl (List.nil_sublist _) ⟨rfl, rfl, ?_⟩
    all_goals rfl
  by_cases h2 : bt s 0 = 39
  case neg =>
    have e : isTx s = false := decide_eq_false fun x => h2 x.2.1
    have h3 : ¬ bt s (Int.toNat 0) = 39 := h2
    rw [e]
    refine p_enter [(0, _)] Tryz.func36 (by kernel_rfl) Tryz.ntmps36 rfl rfl (by repeat (first | exact trivial | refine ⟨rfl, ?_⟩)) fun B hB => ?_
    repeat' (first | (refine run (t := tb) 400 rfl ?_ ?_; (focus (repeat' (first | exact trivial | apply And.intro | omega)))) | (refine k_op rfl ?_; first | (refine v_op (g_pickT rfl rfl ?_) rfl rfl ?_; (focus (((rfl)); done))) | (refine v_op (g_pickF rfl rfl ?_) rfl rfl ?_; (focus (((rfl)); done)))) | (refine k_gt rfl rfl ?_ ?_; (focus (((refine decide_eq_true ?_; (omega))); done))) | (refine k_gf rfl rfl ?_ ?_; (focus (((refine decide_eq_false ?_; (omega))); done))) | (refine k_tt rfl ?_ ?_; (focus (((rfl)); done))))
    all_goals refine k_rr (vs := [_]) rfl ⟨rfl, trivial⟩ rfl (List.nil_sublist _) ⟨rfl, rfl, ?_⟩
    all_goals rfl
  have h3 : bt s (Int.toNat 0) = 39 := h2
  have h4 : (((s.length : Nat) : Int) - 1).toNat = s.length - 1 := by omega
  by_cases h5 : bt s (s.length - 1) = 39
  case neg =>
    have e : isTx s = false := decide_eq_false fun x => h5 x.2.2.1
    have h6 : ¬ bt s (((s.length : Nat) : Int) - 1).toNat = 39 := by rw [h4]; exact h5
    rw [e]
    refine p_enter [(0, _)] Tryz.func36 (by kernel_rfl) Tryz.ntmps36 rfl rfl (by repeat (first | exact trivial | refine ⟨rfl, ?_⟩)) fun B hB => ?_
    repeat' (first | (refine run (t := tb) 400 rfl ?_ ?_; (focus (repeat' (first | exact trivial | apply And.intro | omega)))) | (refine k_op rfl ?_; (refine v_op (g_pickF rfl rfl ?_) rfl rfl ?_; (focus (((rfl)); done)))) | (refine k_gf rfl rfl ?_ ?_; (focus (((refine decide_eq_false ?_; (omega))); done))) | (refine k_tt rfl ?_ ?_; (focus (((refine decide_eq_true ?_; (omega))); done))))
    all_goals refine k_rr (vs := [_]) rfl ⟨rfl, trivial⟩ rfl (List.nil_sublist _) ⟨rfl, rfl, ?_⟩
    all_goals rfl
  have h6 : bt s (((s.length : Nat) : Int) - 1).toNat = 39 := by rw [h4]; exact h5
  refine p_enter [(0, _)] Tryz.func36 (by kernel_rfl) Tryz.ntmps36 rfl rfl (by repeat (first | exact trivial | refine ⟨rfl, ?_⟩)) fun B hB => ?_
  repeat' (first | (refine run (t := tb) 400 rfl ?_ ?_; (focus (repeat' (first | exact trivial | apply And.intro | omega)))) | (refine k_op rfl ?_; (refine v_op (g_pickF rfl rfl ?_) rfl rfl ?_; (focus (((rfl)); done)))) | (refine k_gf rfl rfl ?_ ?_; (focus (((refine decide_eq_false ?_; (omega))); done))) | (refine k_ff rfl ?_ ?_; (focus (((refine decide_eq_false ?_; (omega))); done))))
  refine k_loop (ι := Nat) (fun i => (1 ≤ i ∧ i ≤ s.length - 1) ∧ ∀ k, k < i → k = 0 ∨ txN (bt s k)) (fun i => [(0, S s), (3, I i)]) (fun _ => G) (fun i => []) (fun i => s.length - i) 1 ?_ (by repeat (first | exact trivial | refine ⟨rfl, ?_⟩)) rfl (by repeat ((exact List.Sublist.refl _))) (fun i Hi => ?_)
  · exact ⟨⟨Nat.le_refl _, by omega⟩, fun k hk => .inl (by omega)⟩
  by_cases hi : i < s.length - 1
  · by_cases ht : txN (bt s i)
    · have ht2 : txN (bt s ((i : Int).toNat)) := ht
      unfold txN at ht2
      repeat' (first | (refine run (t := tb) 400 rfl ?_ ?_; (focus (repeat' (first | exact trivial | apply And.intro | omega)))) | (refine k_op rfl ?_; first | (refine v_op (g_pickT rfl rfl ?_) rfl rfl ?_; (focus (((rfl)); done))) | (refine v_op (g_pickF rfl rfl ?_) rfl rfl ?_; (focus (((rfl)); done)))) | (refine k_gf rfl rfl ?_ ?_; (focus ((first | rfl | (refine decide_eq_false ?_; (omega))); done))) | refine k_g rfl rfl (fun _ => ?_) (fun _ => ?_) | (refine k_tt rfl ?_ ?_; (focus (((refine decide_eq_true ?_; (omega))); done))) | (refine k_ff rfl ?_ ?_; (focus ((first | rfl | (refine decide_eq_false ?_; (omega))); done))))
      all_goals refine k_rd (i + 1) ⟨⟨by omega, by omega⟩, fun k hk => ?_⟩ (by omega) (by repeat (first | exact trivial | refine ⟨rfl, ?_⟩)) rfl (by repeat ((exact List.Sublist.refl _)))
      all_goals (rcases Nat.lt_or_ge k i with h7 | h7; · exact Hi.2 k h7)
      all_goals (have : k = i := by omega)
      all_goals (subst this; exact .inr ht)
    · have ht2 : ¬ txN (bt s ((i : Int).toNat)) := ht
      unfold txN at ht2
      have e : isTx s = false := decide_eq_false fun x => (x.2.2.2 i hi).elim (fun h8 => by omega) ht
      rw [e]
      repeat' (first | (refine run (t := tb) 400 rfl ?_ ?_; (focus (repeat' (first | exact trivial | apply And.intro | omega)))) | (refine k_op rfl ?_; first | (refine v_op (g_pickT rfl rfl ?_) rfl rfl ?_; (focus (((rfl)); done))) | (refine v_op (g_pickF rfl rfl ?_) rfl rfl ?_; (focus (((rfl)); done)))) | (refine k_gt rfl rfl ?_ ?_; (focus ((first | rfl | (refine decide_eq_true ?_; (omega))); done))) | refine k_g rfl rfl (fun _ => ?_) (fun _ => ?_) | (refine k_tt rfl ?_ ?_; (focus ((first | rfl | (refine decide_eq_true ?_; (omega))); done))))
      all_goals refine k_rr (vs := [_]) rfl ⟨rfl, trivial⟩ rfl (List.nil_sublist _) ⟨rfl, rfl, ?_⟩
      all_goals rfl
  · have e : isTx s = true := decide_eq_true ⟨h1, h2, h5, fun k hk => Hi.2 k (by omega)⟩
    rw [e]
    repeat' (first | (refine run (t := tb) 400 rfl ?_ ?_; (focus (repeat' (first | exact trivial | apply And.intro | omega)))) | (refine k_ff rfl ?_ ?_; (focus (((refine decide_eq_false ?_; (omega))); done))))
    refine k_rr (vs := [_]) rfl ⟨rfl, trivial⟩ rfl (List.nil_sublist _) ⟨rfl, rfl, ?_⟩
    rfl
end Go.E
/-! Kc -/
namespace Go.E
set_option maxRecDepth 20000
set_option maxHeartbeats 2000000
open Go.Proofs
variable {G : Gh}
def cutA (k : Nat) (acc : List UInt8) : List UInt8 → List (List UInt8)
  | [] => [acc]
  | c :: r => if c.toNat = k then acc :: cutA k [] r else cutA k (acc ++ [c]) r
/-- A text cut at a byte. -/
def cut (k : Nat) (s : List UInt8) : List (List UInt8) := cutA k [] s
theorem c_l3Cut {s : List UInt8} {k : Nat} (h : s.length ≤ 100000000) : FnG Tryz.prog 27 [S s, U8 k] G [] (fun v L' => L' = [.acc v tStr 1 (cut k s).length (strs (cut k s))] ∧ Shp v (cut k s).length) := by
  refine g_enter [(0, _), (1, _)] Tryz.func27 (by kernel_rfl) Tryz.ntmps27 rfl rfl (by repeat (first | exact trivial | refine ⟨rfl, ?_⟩)) fun B hB hW => ?_
  repeat' (first | (refine run (t := tb) 400 rfl ?_ ?_; (focus (repeat' ((exact trivial))))) | (refine k_op rfl ?_; (refine c_bsl rfl rfl rfl rfl rfl rfl fun _ => ?_)))
  rename_i x
  refine Nx.blkAcc (m := 0) (sz := 1) .here rfl ?_
  refine k_loop (ι := Value × List (List UInt8) × Nat × Nat) (fun i => (i.2.2.1 ≤ i.2.2.2 ∧ i.2.2.2 ≤ s.length ∧ i.2.1.length ≤ i.2.2.2) ∧ i.2.1 ++ cutA k ((s.take i.2.2.2).drop i.2.2.1) (s.drop i.2.2.2) = cut k s) (fun i => [(0, S s), (1, U8 k), (5, i.1), (6, I i.2.2.1), (7, I i.2.2.2)]) (fun _ => G) (fun i => [.acc i.1 tStr 1 i.2.1.length (strs i.2.1)]) (fun i => s.length - i.2.2.2) (.slice (some ⟨x, 0, none⟩) 0 0, [], 0, 0) ?_ (by repeat (first | exact trivial | refine ⟨rfl, ?_⟩)) rfl (by repeat ((exact List.Sublist.refl _))) (fun i Hi => ?_)
  · exact ⟨⟨Nat.le_refl _, Nat.zero_le _, Nat.zero_le _⟩, rfl⟩
  obtain ⟨u, xs, fr, i⟩ := i
  dsimp only at Hi ⊢
  by_cases hi : i < s.length
  · obtain ⟨c, hc1, hc2⟩ := drop_bt hi
    have hn : s.drop i ≠ [] := by rw [hc1]; simp
    have ht : (s.take (i + 1)).drop fr = (s.take i).drop fr ++ [c] := by
      have e : s[i] = c := by have := List.getElem_cons_drop (h := hi); rw [hc1] at this; exact (List.cons.inj this).1
      rw [List.take_succ_eq_append_getElem hi, e, List.drop_append_of_le_length (by simp; omega)]
    have hcut := Hi.2
    rw [hc1, cutA] at hcut
    by_cases hk : c.toNat = k
    · have hk2 : bt s i = k := by omega
      rw [if_pos hk] at hcut
      repeat' (first | (refine run (t := tb) 400 rfl ?_ ?_; (focus (repeat' (first | exact trivial | apply And.intro | omega)))) | (refine k_op rfl ?_; first | refine c_bsl rfl rfl rfl rfl rfl rfl fun _ => ?_ | (refine c_apB rfl rfl rfl rfl rfl rfl rfl rfl ?_ fun _ => ?_; (focus ((omega); done)))) | (refine k_tt rfl ?_ ?_; (focus ((first | (refine decide_eq_true ?_; (omega)) | (simp [*]; done)); done))))
      refine k_rd (_, xs ++ [(s.take i).drop fr], i + 1, i + 1) ⟨⟨by dsimp only; omega, by dsimp only; omega, by simp; omega⟩, ?_⟩ (by dsimp only; omega) (by repeat (first | exact trivial | refine ⟨rfl, ?_⟩)) rfl (by dsimp only; simp only [strs_snoc, List.length_append, List.length_cons, List.length_nil, Nat.zero_add]; repeat (first | exact List.nil_sublist _ | apply List.Sublist.cons_cons))
      have e0 : (s.take (i + 1)).drop (i + 1) = [] := by simp
      dsimp only; rw [e0, ← hcut]; simp
    · have hk2 : ¬ bt s i = k := by omega
      rw [if_neg hk] at hcut
      repeat' (first | (refine run (t := tb) 400 rfl ?_ ?_; (focus (repeat' (first | exact trivial | apply And.intro | omega)))) | (refine k_tt rfl ?_ ?_; (focus (((refine decide_eq_true ?_; (omega))); done))) | (refine k_ff rfl ?_ ?_; (focus (((simp; omega)); done))))
      refine k_rd (u, xs, fr, i + 1) ⟨⟨by dsimp only; omega, by dsimp only; omega, by dsimp only; omega⟩, ?_⟩ (by dsimp only; omega) (by repeat (first | exact trivial | refine ⟨rfl, ?_⟩)) rfl (by repeat ((exact List.Sublist.refl _)))
      dsimp only; rw [ht]; exact hcut
  · have e : cut k s = xs ++ [s.drop fr] := by
      have ei : i = s.length := by omega
      rw [← Hi.2, ei, List.take_length, List.drop_length]; rfl
    repeat' (first | (refine run (t := tb) 400 rfl ?_ ?_; (focus (repeat' (first | exact trivial | apply And.intro | omega)))) | (refine k_op rfl ?_; first | refine c_bsl rfl rfl rfl rfl rfl rfl fun _ => ?_ | (refine c_apB rfl rfl rfl rfl rfl rfl rfl rfl ?_ fun _ => ?_; (focus ((omega); done)))) | (refine k_ff rfl ?_ ?_; (focus (((refine decide_eq_false ?_; (omega))); done))))
    refine Nx.shp (.head _) fun hsh => k_rr (vs := [_]) rfl ⟨rfl, trivial⟩ rfl (List.Sublist.cons_cons _ (List.nil_sublist _)) ⟨rfl, ?_, ?_⟩
    · rw [e, strs_snoc, List.length_append]; rfl
    · rw [e, List.length_append]; exact hsh
end Go.E
/-! Kd -/
namespace Go.E
set_option maxRecDepth 20000
set_option maxHeartbeats 2000000
open Go.Proofs
variable {G : Gh}
/-- The value of digits, from a start. -/
def digF (n : Int) : List UInt8 → Option Int
  | [] => some n
  | c :: r => if 48 ≤ c.toNat ∧ c.toNat ≤ 57 then digF (10 * n + ((c.toNat : Int) - 48)) r else none
/-- A number in decimals, up to a greatest one. -/
def numOf (s : List UInt8) (top : Int) : Option Int :=
  if s.length ≤ 6 then
    match digF 0 s with
    | some n => if s = decI n ∧ n ≤ top then some n else none
    | none => none
  else none
theorem pow6 (i : Nat) (hi : i ≤ 5) : (10 : Int) ^ (i + 1) = 10 * 10 ^ i ∧ (10 : Int) ^ i ≤ 100000 ∧ (0 : Int) < 10 ^ i := by
  refine ⟨by rw [Int.pow_succ, Int.mul_comm], ?_⟩
  rcases (show i = 0 ∨ i = 1 ∨ i = 2 ∨ i = 3 ∨ i = 4 ∨ i = 5 by omega) with rfl | rfl | rfl | rfl | rfl | rfl <;> decide
theorem c_l3Num {s : List UInt8} {top : Int} (h : s.length ≤ 100000000) : PuG Tryz.prog 35 [S s, I top] G (fun v => ∃ n, v = Tu [I n, Bo (numOf s top).isSome] ∧ (∀ m, numOf s top = some m → n = m)) := by
  refine p_enter [(0, _), (1, _)] Tryz.func35 (by kernel_rfl) Tryz.ntmps35 rfl rfl (by repeat (first | exact trivial | refine ⟨rfl, ?_⟩)) fun B hB => ?_
  repeat' ((refine run (t := tb) 400 rfl ?_ ?_; (focus (repeat' ((exact trivial))))))
  refine k_loop (ι := Nat × Int) (fun i => (i.1 ≤ s.length ∧ i.1 ≤ 6) ∧ (0 ≤ i.2 ∧ i.2 + 1 ≤ 10 ^ i.1) ∧ digF i.2 (s.drop i.1) = digF 0 s) (fun i => [(0, S s), (1, I top), (6, I i.2), (7, I i.1)]) (fun _ => G) (fun i => []) (fun i => s.length - i.1) (0, 0) ?_ (by repeat (first | exact trivial | refine ⟨rfl, ?_⟩)) rfl (by repeat ((exact List.Sublist.refl _))) (fun i Hi => ?_)
  · exact ⟨⟨by dsimp only; omega, by dsimp only; omega⟩, ⟨by dsimp only; omega, by dsimp only; decide⟩, rfl⟩
  obtain ⟨i, n⟩ := i
  dsimp only at Hi ⊢
  by_cases hi : i < s.length
  · obtain ⟨c, hc1, hc2⟩ := drop_bt hi
    have hc3 : bt s ((i : Int).toNat) = c.toNat := hc2
    have hd := Hi.2.2
    rw [hc1, digF] at hd
    by_cases h5 : i ≤ 5
    · have hp := pow6 i h5
      by_cases hdig : 48 ≤ c.toNat ∧ c.toNat ≤ 57
      · rw [if_pos hdig] at hd
        repeat' (first | (refine run (t := tb) 400 rfl ?_ ?_; (focus (repeat' (first | exact trivial | apply And.intro | omega)))) | (refine k_op rfl ?_; (refine v_op (g_pickF rfl rfl ?_) rfl rfl ?_; (focus (((rfl)); done)))) | (refine k_gf rfl rfl ?_ ?_; (focus (((refine decide_eq_false ?_; (omega))); done))) | (refine k_tt rfl ?_ ?_; (focus (((refine decide_eq_true ?_; (omega))); done))) | (refine k_ff rfl ?_ ?_; (focus (((refine decide_eq_false ?_; (omega))); done))))
        refine k_rd (i + 1, 10 * n + ((c.toNat : Int) - 48)) ⟨⟨by dsimp only; omega, by dsimp only; omega⟩, ⟨by dsimp only; omega, by dsimp only; rw [hp.1]; omega⟩, hd⟩ (by dsimp only; omega) ?_ rfl (by repeat ((exact List.Sublist.refl _)))
        rw [← hc2]; repeat (first | exact trivial | refine ⟨rfl, ?_⟩)
      · rw [if_neg hdig] at hd
        have hno : numOf s top = none := by unfold numOf; rw [← hd]; split <;> rfl
        repeat' (first | (refine run (t := tb) 400 rfl ?_ ?_; (focus (repeat' (first | exact trivial | apply And.intro | omega)))) | (refine k_op rfl ?_; first | (refine v_op (g_pickT rfl rfl ?_) rfl rfl ?_; (focus (((rfl)); done))) | (refine v_op (g_pickF rfl rfl ?_) rfl rfl ?_; (focus (((rfl)); done)))) | (refine k_gt rfl rfl ?_ ?_; (focus ((first | rfl | (refine decide_eq_true ?_; (omega))); done))) | refine k_g rfl rfl (fun _ => ?_) (fun _ => ?_) | (refine k_tt rfl ?_ ?_; (focus ((first | rfl | (refine decide_eq_true ?_; (omega))); done))))
        all_goals refine k_rr (vs := [_, _]) rfl ⟨rfl, rfl, trivial⟩ rfl (List.nil_sublist _) ⟨rfl, rfl, ?_⟩
        all_goals exact ⟨_, by rw [hno]; rfl, fun m hm => by rw [hno] at hm; cases hm⟩
    · have hno : numOf s top = none := by unfold numOf; rw [if_neg (by omega)]
      have e6 : i = 6 := by omega
      subst e6
      repeat' (first | (refine run (t := tb) 400 rfl ?_ ?_; (focus (repeat' (first | exact trivial | apply And.intro | omega)))) | (refine k_op rfl ?_; first | (refine v_op (g_pickT rfl rfl ?_) rfl rfl ?_; (focus (((rfl)); done))) | (refine v_op (g_pickF rfl rfl ?_) rfl rfl ?_; (focus (((rfl)); done)))) | (refine k_gt rfl rfl ?_ ?_; (focus (((rfl)); done))) | refine k_g rfl rfl (fun _ => ?_) (fun _ => ?_) | (refine k_tt rfl ?_ ?_; (focus ((first | rfl | (refine decide_eq_true ?_; (omega))); done))))
      all_goals refine k_rr (vs := [_, _]) rfl ⟨rfl, rfl, trivial⟩ rfl (List.nil_sublist _) ⟨rfl, rfl, ?_⟩
      all_goals exact ⟨_, by rw [hno]; rfl, fun m hm => by rw [hno] at hm; cases hm⟩
  · have ei : i = s.length := by omega
    have hd := Hi.2.2
    rw [ei, List.drop_length, digF] at hd
    have hp : n ≤ 9223372036854775807 := by
      rcases Nat.lt_or_ge i 6 with h1 | h1
      · have := pow6 i (by omega); omega
      · have e6 : i = 6 := by omega
        subst e6
        have := Hi.2.1.2
        have e : (10 : Int) ^ 6 = 1000000 := by decide
        omega
    have hno : numOf s top = if s = decI n ∧ n ≤ top then some n else none := by unfold numOf; rw [if_pos (by omega), ← hd]
    repeat' (first | (refine run (t := tb) 400 rfl ?_ ?_; (focus (repeat' ((exact trivial))))) | (refine k_op rfl ?_; first | (refine v_op (g_pickT rfl rfl ?_) rfl rfl ?_; (focus (((rfl)); done))) | (refine v_op (g_pickF rfl rfl ?_) rfl rfl ?_; (focus (((rfl)); done))) | (refine c_rt rfl rfl rfl (c_l6Dec ?_) rfl ?_; (focus (((omega)); done)))) | refine k_g rfl rfl (fun _ => ?_) (fun _ => ?_) | (refine k_ff rfl ?_ ?_; (focus (((refine decide_eq_false ?_; (omega))); done))))
    · rename_i hs
      refine k_rr (vs := [_, _]) rfl ⟨rfl, rfl, trivial⟩ rfl (List.nil_sublist _) ⟨rfl, rfl, ?_⟩
      refine ⟨n, ?_, fun m hm => ?_⟩
      · rw [hno, oneOf_two]
        by_cases ht : n ≤ top
        · rw [if_pos ⟨hs, ht⟩, decide_eq_true ht]; rfl
        · rw [if_neg (fun h => ht h.2), decide_eq_false ht]; rfl
      · rw [hno] at hm
        split at hm
        · exact Option.some.inj hm
        · cases hm
    · rename_i hs
      refine k_rr (vs := [_, _]) rfl ⟨rfl, rfl, trivial⟩ rfl (List.nil_sublist _) ⟨rfl, rfl, ?_⟩
      refine ⟨n, by rw [hno, if_neg (fun h => hs h.1)]; rfl, fun m hm => ?_⟩
      rw [hno, if_neg (fun h => hs h.1)] at hm; cases hm
end Go.E
/-! Ke -/
namespace Go.E
set_option maxRecDepth 20000
set_option maxHeartbeats 2000000
open Go.Proofs
variable {G : Gh}
/-- May a text be told as a standing value of a plain kind? -/
def standOk (k s : List UInt8) : Bool :=
  if k = [110] then (numOf s 999999).isSome && decide (s ≠ [48])
  else if k = [116] then isTx s && decide (s ≠ [39, 39])
  else if k = [102] then decide (s = [121, 101, 115])
  else false
theorem c_l3Stand {k s : List UInt8} (h : s.length ≤ 100000000) : PuG Tryz.prog 77 [S k, S s] G (· = Bo (standOk k s)) := by
  by_cases h1 : k = [110]
  · have e : standOk k s = ((numOf s 999999).isSome && decide (s ≠ [48])) := by rw [standOk, if_pos h1]
    rw [e]
    refine p_enter [(0, _), (1, _)] Tryz.func77 (by kernel_rfl) Tryz.ntmps77 rfl rfl (by repeat (first | exact trivial | refine ⟨rfl, ?_⟩)) fun B hB => ?_
    repeat' (first | (refine run (t := tb) 400 rfl ?_ ?_; (focus (repeat' ((exact trivial))))) | (refine k_op rfl ?_; first | (refine v_op (g_pickT rfl rfl ?_) rfl rfl ?_; (focus (((rfl)); done))) | (refine v_op (g_pickF rfl rfl ?_) rfl rfl ?_; (focus (((rfl)); done))) | (refine c_pu rfl rfl rfl (c_l3Num (by omega)) rfl ?_; rintro _ ⟨n, rfl, hnum⟩)) | refine k_gb rfl rfl (fun _ => ?_) (fun _ => ?_) | (refine k_tt rfl ?_ ?_; (focus (((refine decide_eq_true ?_; (assumption))); done))))
    all_goals refine k_rr (vs := [_]) rfl ⟨rfl, trivial⟩ rfl (List.nil_sublist _) ⟨rfl, rfl, ?_⟩
    all_goals (rw [oneOf_one]; simp [*])
  by_cases h2 : k = [116]
  · have e : standOk k s = (isTx s && decide (s ≠ [39, 39])) := by rw [standOk, if_neg h1, if_pos h2]
    rw [e]
    refine p_enter [(0, _), (1, _)] Tryz.func77 (by kernel_rfl) Tryz.ntmps77 rfl rfl (by repeat (first | exact trivial | refine ⟨rfl, ?_⟩)) fun B hB => ?_
    repeat' (first | (refine run (t := tb) 400 rfl ?_ ?_; (focus (repeat' ((exact trivial))))) | (refine k_op rfl ?_; first | (refine v_op (g_pickT rfl rfl ?_) rfl rfl ?_; (focus (((rfl)); done))) | (refine v_op (g_pickF rfl rfl ?_) rfl rfl ?_; (focus (((rfl)); done))) | (refine c_rt rfl rfl rfl (c_l3Text ?_) rfl ?_; (focus (((assumption)); done)))) | refine k_g rfl rfl (fun _ => ?_) (fun _ => ?_) | (refine k_tt rfl ?_ ?_; (focus (((refine decide_eq_true ?_; (assumption))); done))) | (refine k_ff rfl ?_ ?_; (focus (((refine decide_eq_false ?_; (assumption))); done))))
    all_goals refine k_rr (vs := [_]) rfl ⟨rfl, trivial⟩ rfl (List.nil_sublist _) ⟨rfl, rfl, ?_⟩
    all_goals (rw [oneOf_one]; simp [*, isTx])
  by_cases h3 : k = [102]
  · have e : standOk k s = decide (s = [121, 101, 115]) := by rw [standOk, if_neg h1, if_neg h2, if_pos h3]
    rw [e]
    refine p_enter [(0, _), (1, _)] Tryz.func77 (by kernel_rfl) Tryz.ntmps77 rfl rfl (by repeat (first | exact trivial | refine ⟨rfl, ?_⟩)) fun B hB => ?_
    repeat' (first | (refine run (t := tb) 400 rfl ?_ ?_; (focus (repeat' ((exact trivial))))) | (refine k_tt rfl ?_ ?_; (focus (((refine decide_eq_true ?_; (assumption))); done))) | (refine k_ff rfl ?_ ?_; (focus (((refine decide_eq_false ?_; (assumption))); done))))
    all_goals refine k_rr (vs := [_]) rfl ⟨rfl, trivial⟩ rfl (List.nil_sublist _) ⟨rfl, rfl, ?_⟩
    all_goals rfl
  · have e : standOk k s = false := by rw [standOk, if_neg h1, if_neg h2, if_neg h3]
    rw [e]
    refine p_enter [(0, _), (1, _)] Tryz.func77 (by kernel_rfl) Tryz.ntmps77 rfl rfl (by repeat (first | exact trivial | refine ⟨rfl, ?_⟩)) fun B hB => ?_
    repeat' (first | (refine run (t := tb) 400 rfl ?_ ?_; (focus (repeat' ((exact trivial))))) | (refine k_ff rfl ?_ ?_; (focus (((refine decide_eq_false ?_; (assumption))); done))))
    all_goals refine k_rr (vs := [_]) rfl ⟨rfl, trivial⟩ rfl (List.nil_sublist _) ⟨rfl, rfl, ?_⟩
    all_goals rfl
end Go.E
/-! Kf -/
namespace Go.E
set_option maxRecDepth 20000
set_option maxHeartbeats 2000000
open Go.Proofs
variable {G : Gh}
structure Fld where
  tag : Int
  name : List UInt8
  kind : List UInt8
  stand : List UInt8
deriving Inhabited
def fldF (f : Fld) : List Value := [I f.tag, S f.name, S f.kind, S f.stand]
instance : RowF fldF 4 := ⟨fun _ => rfl⟩
/-- A field of a type of a sort, read. -/
def fldOf (s : List UInt8) (k : Nat) : Option Fld :=
  match cut 58 s with
  | [a, b] => if k = 69 then
      match numOf a 200 with
      | some n => if 1 ≤ n ∧ isNm b = true then some ⟨n, b, [], []⟩ else none
      | none => none
    else none
  | [a, b, c] => if k = 69 then none else
      match numOf a 200 with
      | some n => if 1 ≤ n ∧ isNm b = true then
          match cut 61 c with
          | [d] => if kindOk d = true then some ⟨n, b, d, []⟩ else none
          | [d, e] => if k = 82 ∧ standOk d e = true then some ⟨n, b, d, e⟩ else none
          | _ => none
        else none
      | none => none
  | _ => none
/-- The parts of a cut text, each at its place. -/
theorem cut_lens {k : Nat} : ∀ {s acc : List UInt8} {x : List UInt8}, x ∈ cutA k acc s → x.length ≤ acc.length + s.length
  | [], acc, x, h => by simp [cutA] at h; subst h; simp
  | c :: r, acc, x, h => by
    unfold cutA at h
    split at h
    · rcases List.mem_cons.1 h with rfl | h
      · simp
      · have := cut_lens h; simp at this ⊢; omega
    · have := cut_lens h; simp at this ⊢; omega
theorem cut_len {k : Nat} {s x : List UInt8} (h : x ∈ cut k s) : x.length ≤ s.length := by have := cut_lens h; simpa using this
theorem cutA_pos {k : Nat} : ∀ {s acc : List UInt8}, 0 < (cutA k acc s).length
  | [], acc => by simp [cutA]
  | c :: r, acc => by
    unfold cutA
    split
    · simp
    · exact cutA_pos
theorem cut_pos {k : Nat} {s : List UInt8} : 0 < (cut k s).length := cutA_pos
theorem cut_length_le {k : Nat} : ∀ {s acc : List UInt8}, (cutA k acc s).length ≤ s.length + 1
  | [], acc => by simp [cutA]
  | c :: r, acc => by
    unfold cutA
    split
    · have := cut_length_le (k := k) (s := r) (acc := []); simp; omega
    · have := cut_length_le (k := k) (s := r) (acc := acc ++ [c]); simp; omega
theorem cut_count {k : Nat} {s : List UInt8} : (cut k s).length ≤ s.length + 1 := cut_length_le
end Go.E
