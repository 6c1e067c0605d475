/- The calculus of this seat's proofs: control is reckoned up to the next place that asks for a lemma. Conditions: none. -/
import Derived.Test.YtcnkkjdnnajkbaaEngH
namespace Go.E
inductive Fr where
  | seq (c : Code)
  | blk (id : Nat)
  | lp (K : Act → World → Prop)
inductive Cu where
  | code (c : Code)
  | exit (e : Exit)
  | ops (a l : List Oper) (i : Nat) (pm : List Nat)
def kk (P : Program) : List Fr → (Exit → Act → World → Prop) → Exit → Act → World → Prop
  | [], Q => Q
  | .seq c :: k, Q => tn (cw P c (kk P k Q)) (kk P k Q)
  | .blk id :: k, Q => bl id (kk P k Q)
  | .lp K :: k, Q => tn K (kk P k Q)
def cu (P : Program) (c : Cu) (k : List Fr) (Q : Exit → Act → World → Prop) : Act → World → Prop :=
  match c with
  | .code c => cw P c (kk P k Q)
  | .exit e => kk P k Q e
  | .ops a l _ _ => lw P a.toArray (kk P k Q) l
structure Ms where
  E : Env
  c : Cu
  k : List Fr
  p : Option Prop
def elemN (j : Nat) : List Nat → Bool
  | [] => false
  | x :: r => match Nat.beq x j with
    | true => true
    | false => elemN j r
def eqb : Bool → Bool → Bool
  | true, true => true
  | false, false => true
  | _, _ => false
/-- Is the operation wanted (its guard is decided)? -/
def gdO (E : Env) (a : List Oper) (pm : List Nat) (o : Oper) : Option Bool :=
  match o.guard with
  | none => some true
  | some (j, w) => match elemN j pm with
    | false => none
    | true => match a[j]? with
      | some oj => match oj.dst with
        | some dj => match look E dj with
          | some (.bool b) => some (eqb b w)
          | some (.tuple _) => some false
          | _ => none
        | none => none
      | none => none
def step (t : Tbl) (n : Nat) (E : Env) (c : Cu) (k : List Fr) : Option Ms :=
  match c with
  | .code c => match c with
    | .skip => some ⟨E, .exit .normal, k, none⟩
    | .region _ ⟨l⟩ dr => match dr with
      | false => some ⟨E, .ops l l 0 [], k, none⟩
      | true => none
    | .seq x y => some ⟨E, .code x, .seq y :: k, none⟩
    | .block id x => some ⟨E, .code x, .blk id :: k, none⟩
    | .exit id => some ⟨E, .exit (.exit id), k, none⟩
    | .ret => some ⟨E, .exit .ret, k, none⟩
    | _ => none
  | .exit e => match k with
    | .seq y :: k => match e with
      | .normal => some ⟨E, .code y, k, none⟩
      | .ret => some ⟨E, .exit .ret, k, none⟩
      | .exit i => some ⟨E, .exit (.exit i), k, none⟩
      | _ => none
    | .blk id :: k => match e with
      | .normal => some ⟨E, .exit .normal, k, none⟩
      | .ret => some ⟨E, .exit .ret, k, none⟩
      | .exit i => match Nat.beq i id with
        | true => some ⟨E, .exit .normal, k, none⟩
        | false => some ⟨E, .exit (.exit i), k, none⟩
      | _ => none
    | .lp _ :: k => match e with
      | .ret => some ⟨E, .exit .ret, k, none⟩
      | .exit i => some ⟨E, .exit (.exit i), k, none⟩
      | _ => none
    | [] => none
  | .ops a l i pm => match l with
    | [] => some ⟨E, .exit .normal, k, none⟩
    | o :: r => match gdO E a pm o with
      | some true => match evOp t E o.op with
        | some (v, p) => match o.dst with
          | some d => match Nat.blt d n with
            | true => some ⟨(d, v) :: E, .ops a r (i + 1) pm, k, p⟩
            | false => none
          | none => none
        | none => none
      | some false => match o.dst with
        | some d => match Nat.blt d n with
          | true => some ⟨(d, undef) :: E, .ops a r (i + 1) (i :: pm), k, none⟩
          | false => none
        | none => none
      | none => none
structure Rs where
  E : Env
  c : Cu
  k : List Fr
  p : List Prop
def goN (t : Tbl) (n : Nat) : Nat → Env → Cu → List Fr → List Prop → Rs
  | 0, E, c, k, p => ⟨E, c, k, p⟩
  | f + 1, E, c, k, p => match step t n E c k with
    | none => ⟨E, c, k, p⟩
    | some ⟨E', c', k', none⟩ => goN t n f E' c' k' p
    | some ⟨E', c', k', some q⟩ => goN t n f E' c' k' (q :: p)
/-- At least one step. -/
def runN (t : Tbl) (n f : Nat) (E : Env) (c : Cu) (k : List Fr) : Option Rs :=
  match step t n E c k with
  | none => none
  | some ⟨E', c', k', none⟩ => some (goN t n f E' c' k' [])
  | some ⟨E', c', k', some q⟩ => some (goN t n f E' c' k' [q])
def AllP : List Prop → Prop
  | [] => True
  | p :: r => p ∧ AllP r

section
variable {P : Program} {t : Tbl} {n : Nat} {D : List Deferred} {E : Env} {B : Base} {G : Gh} {L : List Own} {k : List Fr} {Q : Exit → Act → World → Prop} {K : Act → World → Prop}
theorem eqb_true {b w : Bool} (h : eqb b w = true) : b = w := by cases b <;> cases w <;> simp_all [eqb]
theorem eqb_false {b w : Bool} (h : eqb b w = false) : b ≠ w := by cases b <;> cases w <;> simp_all [eqb]
theorem gdO_true {a l : List Oper} {pm : List Nat} {o : Oper} (h : gdO E a pm o = some true) (k : Nx n D E B G L (ow P o Q (lw P a.toArray Q l))) : Nx n D E B G L (lw P a.toArray Q (o :: l)) := by
  unfold gdO at h
  split at h
  · rename_i hg; exact l_op hg k
  · rename_i j w hg
    split at h
    · cases h
    · split at h
      · rename_i oj hj
        split at h
        · rename_i dj hdj
          have hjj : (a.toArray[j]?).bind (·.dst) = some dj := by simp [hj, hdj]
          split at h
          · rename_i b hb
            simp only [Option.some.injEq] at h
            exact l_yes hg hjj (by rw [hb]; rfl) (by rw [hb]; rfl) (eqb_true h) k
          · cases h
          · cases h
        · cases h
      · cases h
theorem gdO_false {a l : List Oper} {pm : List Nat} {o : Oper} {d : Nat} (h : gdO E a pm o = some false) (hd : o.dst = some d) (hlt : Nat.blt d n = true) (k : Nx n D ((d, undef) :: E) B G L (lw P a.toArray Q l)) : Nx n D E B G L (lw P a.toArray Q (o :: l)) := by
  unfold gdO at h
  split at h
  · cases h
  · rename_i j w hg
    split at h
    · cases h
    · split at h
      · rename_i oj hj
        split at h
        · rename_i dj hdj
          have hjj : (a.toArray[j]?).bind (·.dst) = some dj := by simp [hj, hdj]
          split at h
          · rename_i b hb
            simp only [Option.some.injEq] at h
            exact l_no' hg hd hlt hjj (by rw [hb]; rfl) (g := some b) (by rw [hb]; rfl) (by simpa using eqb_false h) k
          · rename_i u hb
            exact l_no' hg hd hlt hjj (by rw [hb]; rfl) (g := none) (by rw [hb]; rfl) (by simp) k
          · cases h
        · cases h
      · cases h
theorem step_ok [Tab P t] {c c' : Cu} {k k' : List Fr} {E' : Env} {p : Option Prop} (h : step t n E c k = some ⟨E', c', k', p⟩) (hp : holdsO p) (hn : Nx n D E' B G L (cu P c' k' Q)) : Nx n D E B G L (cu P c k Q) := by
  unfold step at h
  split at h
  · split at h
    · simp only [Option.some.injEq, Ms.mk.injEq] at h; obtain ⟨rfl, rfl, rfl, rfl⟩ := h; exact s_skip hn
    · split at h
      · simp only [Option.some.injEq, Ms.mk.injEq] at h; obtain ⟨rfl, rfl, rfl, rfl⟩ := h; exact s_region hn
      · cases h
    · simp only [Option.some.injEq, Ms.mk.injEq] at h; obtain ⟨rfl, rfl, rfl, rfl⟩ := h; exact s_seq hn
    · simp only [Option.some.injEq, Ms.mk.injEq] at h; obtain ⟨rfl, rfl, rfl, rfl⟩ := h; exact s_block hn
    · simp only [Option.some.injEq, Ms.mk.injEq] at h; obtain ⟨rfl, rfl, rfl, rfl⟩ := h; exact s_exit hn
    · simp only [Option.some.injEq, Ms.mk.injEq] at h; obtain ⟨rfl, rfl, rfl, rfl⟩ := h; exact s_ret hn
    · cases h
  · split at h
    · split at h
      · simp only [Option.some.injEq, Ms.mk.injEq] at h; obtain ⟨rfl, rfl, rfl, rfl⟩ := h; exact k_then hn
      · simp only [Option.some.injEq, Ms.mk.injEq] at h; obtain ⟨rfl, rfl, rfl, rfl⟩ := h; exact k_then_r hn
      · simp only [Option.some.injEq, Ms.mk.injEq] at h; obtain ⟨rfl, rfl, rfl, rfl⟩ := h; exact k_then_e hn
      · cases h
    · split at h
      · simp only [Option.some.injEq, Ms.mk.injEq] at h; obtain ⟨rfl, rfl, rfl, rfl⟩ := h; exact k_blk hn
      · simp only [Option.some.injEq, Ms.mk.injEq] at h; obtain ⟨rfl, rfl, rfl, rfl⟩ := h; exact k_blk_r hn
      · split at h
        · rename_i hb; have := Nat.eq_of_beq_eq_true hb; subst this
          simp only [Option.some.injEq, Ms.mk.injEq] at h; obtain ⟨rfl, rfl, rfl, rfl⟩ := h; exact k_blk_hit hn
        · rename_i hb
          simp only [Option.some.injEq, Ms.mk.injEq] at h; obtain ⟨rfl, rfl, rfl, rfl⟩ := h; exact k_blk_miss hb hn
      · cases h
    · split at h
      · simp only [Option.some.injEq, Ms.mk.injEq] at h; obtain ⟨rfl, rfl, rfl, rfl⟩ := h; exact k_then_r hn
      · simp only [Option.some.injEq, Ms.mk.injEq] at h; obtain ⟨rfl, rfl, rfl, rfl⟩ := h; exact k_then_e hn
      · cases h
    · cases h
  · split at h
    · simp only [Option.some.injEq, Ms.mk.injEq] at h; obtain ⟨rfl, rfl, rfl, rfl⟩ := h; exact l_nil hn
    · rename_i o r
      split at h
      · rename_i hg
        split at h
        · rename_i v q hv
          split at h
          · rename_i d hd
            split at h
            · rename_i hlt
              simp only [Option.some.injEq, Ms.mk.injEq] at h; obtain ⟨rfl, rfl, rfl, rfl⟩ := h
              refine gdO_true hg ?_
              obtain ⟨dst, op, ty, pos, aft, gd⟩ := o
              exact v_op (evOp_ok (t := t) hv hp) hd hlt hn
            · cases h
          · cases h
        · cases h
      · rename_i hg
        split at h
        · rename_i d hd
          split at h
          · rename_i hlt
            simp only [Option.some.injEq, Ms.mk.injEq] at h; obtain ⟨rfl, rfl, rfl, rfl⟩ := h
            exact gdO_false hg hd hlt hn
          · cases h
        · cases h
      · cases h
theorem goN_ok [Tab P t] : ∀ (f : Nat) {E E' : Env} {c c' : Cu} {k k' : List Fr} {p p' : List Prop}, goN t n f E c k p = ⟨E', c', k', p'⟩ → AllP p' → Nx n D E' B G L (cu P c' k' Q) → AllP p ∧ Nx n D E B G L (cu P c k Q)
  | 0, E, E', c, c', k, k', p, p', h, hp, hn => by
    simp only [goN, Rs.mk.injEq] at h; obtain ⟨rfl, rfl, rfl, rfl⟩ := h; exact ⟨hp, hn⟩
  | f + 1, E, E', c, c', k, k', p, p', h, hp, hn => by
    unfold goN at h
    split at h
    · simp only [Rs.mk.injEq] at h; obtain ⟨rfl, rfl, rfl, rfl⟩ := h; exact ⟨hp, hn⟩
    · rename_i E1 c1 k1 hs
      have := goN_ok f h hp hn
      exact ⟨this.1, step_ok hs trivial this.2⟩
    · rename_i E1 c1 k1 q hs
      have := goN_ok f h hp hn
      exact ⟨this.1.2, step_ok hs this.1.1 this.2⟩
theorem run [Tab P t] {E' : Env} {c c' : Cu} {k k' : List Fr} {p' : List Prop} (f : Nat) (h : runN t n f E c k = some ⟨E', c', k', p'⟩) (hp : AllP p') (hn : Nx n D E' B G L (cu P c' k' Q)) : Nx n D E B G L (cu P c k Q) := by
  unfold runN at h
  split at h
  · cases h
  · rename_i E1 c1 k1 hs
    simp only [Option.some.injEq] at h
    exact step_ok hs trivial (goN_ok f h hp hn).2
  · rename_i E1 c1 k1 q hs
    simp only [Option.some.injEq] at h
    have := goN_ok f h hp hn
    exact step_ok hs this.1.1 this.2

/-! ### The stops -/
theorem k_op {a l : List Oper} {i : Nat} {pm : List Nat} {o : Oper} (hg : gdO E a pm o = some true) (h : Nx n D E B G L (ow P o (kk P k Q) (cu P (.ops a l (i + 1) pm) k Q))) : Nx n D E B G L (cu P (.ops a (o :: l) i pm) k Q) := gdO_true hg h
theorem k_if {c : Operand} {x y : Code} {p : Prop} [Decidable p] (hc : ev E c = some (.bool (decide p))) (h1 : p → Nx n D E B G L (cu P (.code x) k Q)) (h2 : ¬ p → Nx n D E B G L (cu P (.code y) k Q)) : Nx n D E B G L (cu P (.code (.cond c x y)) k Q) := s_if hc h1 h2
theorem k_cd {c : Operand} {x y : Code} {b : Bool} (hc : ev E c = some (.bool b)) (h1 : b = true → Nx n D E B G L (cu P (.code x) k Q)) (h2 : b = false → Nx n D E B G L (cu P (.code y) k Q)) : Nx n D E B G L (cu P (.code (.cond c x y)) k Q) := s_cond hc h1 h2
theorem k_tt {c : Operand} {x y : Code} {b : Bool} (hc : ev E c = some (.bool b)) (hb : b = true) (h1 : Nx n D E B G L (cu P (.code x) k Q)) : Nx n D E B G L (cu P (.code (.cond c x y)) k Q) := s_true hc hb h1
theorem k_ff {c : Operand} {x y : Code} {b : Bool} (hc : ev E c = some (.bool b)) (hb : b = false) (h1 : Nx n D E B G L (cu P (.code y) k Q)) : Nx n D E B G L (cu P (.code (.cond c x y)) k Q) := s_false hc hb h1
theorem Nx.re {d : Nat} {v v' : Value} (hd : look E d = some v) (hv : v = v') (h : Nx n D ((d, v') :: E) B G L K) : Nx n D E B G L K := Nx.mk fun a w hs hw => by
  subst hv
  refine h.go a w ⟨hs.size, hs.defers, fun t u hu => ?_⟩ hw
  rw [look_cons] at hu
  by_cases hdt : d = t
  · subst hdt; rw [if_pos rfl, Option.some.injEq] at hu; subst hu; exact hs.at' _ _ hd
  · rw [if_neg hdt] at hu; exact hs.at' _ _ hu
/-- The guard's index and place. -/
def gdJ (a : List Oper) (o : Oper) : Option (Nat × Nat) :=
  match o.guard with
  | some (j, _) => match a[j]? with
    | some oj => match oj.dst with
      | some dj => some (j, dj)
      | none => none
    | none => none
  | none => none
theorem k_g {a l : List Oper} {i j dj : Nat} {pm : List Nat} {o : Oper} {p : Prop} [Decidable p] (_hg : gdJ a o = some (j, dj)) (hy : look E dj = some (.bool (decide p)))
    (h1 : p → Nx n D ((dj, .bool true) :: E) B G L (cu P (.ops a (o :: l) i (j :: pm)) k Q)) (h2 : ¬ p → Nx n D ((dj, .bool false) :: E) B G L (cu P (.ops a (o :: l) i (j :: pm)) k Q)) : Nx n D E B G L (cu P (.ops a (o :: l) i pm) k Q) := by
  by_cases h : p
  · exact Nx.re hy (by simp [h]) (h1 h)
  · exact Nx.re hy (by simp [h]) (h2 h)
theorem k_gt {a l : List Oper} {i j dj : Nat} {pm : List Nat} {o : Oper} {b : Bool} (_hg : gdJ a o = some (j, dj)) (hy : look E dj = some (.bool b)) (hb : b = true)
    (h1 : Nx n D ((dj, .bool true) :: E) B G L (cu P (.ops a (o :: l) i (j :: pm)) k Q)) : Nx n D E B G L (cu P (.ops a (o :: l) i pm) k Q) := Nx.re hy (by rw [hb]) h1
theorem k_gf {a l : List Oper} {i j dj : Nat} {pm : List Nat} {o : Oper} {b : Bool} (_hg : gdJ a o = some (j, dj)) (hy : look E dj = some (.bool b)) (hb : b = false)
    (h1 : Nx n D ((dj, .bool false) :: E) B G L (cu P (.ops a (o :: l) i (j :: pm)) k Q)) : Nx n D E B G L (cu P (.ops a (o :: l) i pm) k Q) := Nx.re hy (by rw [hb]) h1
theorem k_gb {a l : List Oper} {i j dj : Nat} {pm : List Nat} {o : Oper} {b : Bool} (_hg : gdJ a o = some (j, dj)) (hy : look E dj = some (.bool b))
    (h1 : b = true → Nx n D ((dj, .bool true) :: E) B G L (cu P (.ops a (o :: l) i (j :: pm)) k Q)) (h2 : b = false → Nx n D ((dj, .bool false) :: E) B G L (cu P (.ops a (o :: l) i (j :: pm)) k Q)) : Nx n D E B G L (cu P (.ops a (o :: l) i pm) k Q) := by
  cases b with
  | true => exact Nx.re hy rfl (h1 rfl)
  | false => exact Nx.re hy rfl (h2 rfl)
theorem k_any {c : Code} (h : Nx n D E B G L (cw P c (kk P k Q))) : Nx n D E B G L (cu P (.code c) k Q) := h
theorem k_bk {e : Exit} (h : Nx n D E B G L (cu P (.exit e) k Q)) : Nx n D E B G L (kk P k Q e) := h
instance kkPQ [h : PQ Q] : PQ (kk P k Q) := by
  induction k with
  | nil => exact h
  | cons f k ih => cases f <;> (unfold kk; infer_instance)
theorem k_loop {ι : Type} {c : Code} (Pre : ι → Prop) (Ei : ι → Env) (Gi : ι → Gh) (Li : ι → List Own) (μ : ι → Nat) (i0 : ι) (h0 : Pre i0)
    (hE : Sub (Ei i0) E) (hG : Gi i0 = G) (hL : (Li i0).Sublist L)
    (round : ∀ i, Pre i → Nx n D (Ei i) B (Gi i) (Li i) (cu P (.code c) (.lp (LI n D B Pre Ei Gi Li μ (μ i)) :: k) Q)) : Nx n D E B G L (cu P (.code (.loop c)) k Q) :=
  s_loop Pre Ei Gi Li μ i0 h0 hE hG hL round
theorem k_rd {ι : Type} {Pre : ι → Prop} {Ei : ι → Env} {Gi : ι → Gh} {Li : ι → List Own} {μ : ι → Nat} {m : Nat} (j : ι) (h1 : Pre j) (h2 : μ j < m)
    (hE : Sub (Ei j) E) (hG : Gi j = G) (hL : (Li j).Sublist L) : Nx n D E B G L (cu P (.exit .normal) (.lp (LI n D B Pre Ei Gi Li μ m) :: k) Q) := k_then (k_round j h1 h2 hE hG hL)
theorem k_rr {fn : Func} {rs : List ResultVar} {vs : List Value} {v : Value} {L' : List Own} {Post : Value → Gh → List Own → Prop} (hr : fn.results = rs.toArray) (h : ResV P (St B G L) E rs vs)
    (hv : oneOf vs = v) (hL : L'.Sublist L) (hP : Post v G L') : Nx n [] E B G L (cu P (.exit .ret) [] (bp P fn (RPost B Post))) := r_ret hr h hv hL hP
theorem k_re {fn : Func} {rs : List ResultVar} {vs : List Value} {v : Value} {L' : List Own} {Post : Value → Gh → List Own → Prop} (hr : fn.results = rs.toArray) (h : ResV P (St B G L) E rs vs)
    (hv : oneOf vs = v) (hL : L'.Sublist L) (hP : Post v G L') : Nx n [] E B G L (cu P (.exit .normal) [] (bp P fn (RPost B Post))) := r_end hr h hv hL hP

/-! ### Any order: many at once -/
def pmO (o : Oper) : List Nat :=
  match o.guard with
  | some (j, _) => [j]
  | none => []
def gdL (E : Env) (a : List Oper) (o : Oper) : Option Bool := gdO E a (pmO o) o
theorem gdO_cases {a : List Oper} {pm : List Nat} {o : Oper} {x : Bool} (h : gdO E a pm o = some x) :
    (o.guard = none ∧ x = true) ∨ ∃ j w dj, o.guard = some (j, w) ∧ (a.toArray[j]?).bind (·.dst) = some dj ∧ isKnown (look E dj) = true ∧ ((∃ b, gb (look E dj) = some b ∧ x = eqb b w) ∨ (gb (look E dj) = none ∧ x = false)) := by
  unfold gdO at h
  split at h
  · rename_i hg; simp only [Option.some.injEq] at h; exact .inl ⟨hg, h.symm⟩
  · rename_i j w hg
    split at h
    · cases h
    · split at h
      · rename_i oj hj
        split at h
        · rename_i dj hdj
          have hjj : (a.toArray[j]?).bind (·.dst) = some dj := by simp [hj, hdj]
          split at h
          · rename_i b hb
            simp only [Option.some.injEq] at h
            exact .inr ⟨j, w, dj, hg, hjj, by rw [hb]; rfl, .inl ⟨b, by rw [hb]; rfl, h.symm⟩⟩
          · rename_i u hb
            simp only [Option.some.injEq] at h
            exact .inr ⟨j, w, dj, hg, hjj, by rw [hb]; rfl, .inr ⟨by rw [hb]; rfl, h.symm⟩⟩
          · cases h
        · cases h
      · cases h
theorem x_tkg {ops : List Oper} {G0 : Gh} {L0 : List Own} {fuel : Nat} {listed : Array Bool} (listed' : Array Bool) [PQ Q] (i : Nat) {o : Oper} {d : Nat} {v : Value} (hi : ops.toArray[i]? = some o)
    (hb : tkB ops.toArray listed i listed' = true) (hgu : gdL E ops o = some true) (hG : Gh.le G0 G) (hL : L0.Sublist L) (hg : Gives P n D E (Stab B G0 L0) o v) (hd : o.dst = some d) (hlt : Nat.blt d n = true)
    (k : Nx n D ((d, v) :: E) B G L (xA P ops.toArray Q (Stab B G0 L0) fuel listed')) : Nx n D E B G L (xA P ops.toArray Q (Stab B G0 L0) (fuel + 1) listed) := by
  rcases gdO_cases hgu with ⟨h1, _⟩ | ⟨j, w, dj, h1, h2, h3, ⟨b, h4, h5⟩ | ⟨_, h5⟩⟩
  · exact x_tk i hi hb h1 hG hL hg hd hlt k
  · simp only [tkB, Bool.and_eq_true] at hb
    exact x_takeY i hi hb.1.1.1 hb.1.1.2 hb.1.2 (fun c a w q => PQ.hq c a w _ _ q) hg h1 h2 h3 h4 (eqb_true h5.symm) hd hlt hG (fun _ h => hL.subset h) (eq_of_beq hb.2) k
  · cases h5
theorem x_tkn {ops : List Oper} {G0 : Gh} {L0 : List Own} {fuel : Nat} {listed : Array Bool} (listed' : Array Bool) [PQ Q] (i : Nat) {o : Oper} {d : Nat} (hi : ops.toArray[i]? = some o)
    (hb : tkB ops.toArray listed i listed' = true) (hgu : gdL E ops o = some false) (hG : Gh.le G0 G) (hL : L0.Sublist L) (hd : o.dst = some d) (hlt : Nat.blt d n = true)
    (k : Nx n D ((d, undef) :: E) B G L (xA P ops.toArray Q (Stab B G0 L0) fuel listed')) : Nx n D E B G L (xA P ops.toArray Q (Stab B G0 L0) (fuel + 1) listed) := by
  simp only [tkB, Bool.and_eq_true] at hb
  rcases gdO_cases hgu with ⟨_, h1⟩ | ⟨j, w, dj, h1, h2, h3, ⟨b, h4, h5⟩ | ⟨h4, _⟩⟩
  · cases h1
  · exact x_takeN i hi hb.1.1.1 hb.1.1.2 hb.1.2 (fun c a w q => PQ.hq c a w _ _ q) h1 h2 h3 h4 (by simpa using eqb_false h5.symm) hd hlt hG (fun _ h => hL.subset h) (eq_of_beq hb.2) k
  · exact x_takeN i hi hb.1.1.1 hb.1.1.2 hb.1.2 (fun c a w q => PQ.hq c a w _ _ q) h1 h2 h3 h4 (by simp) hd hlt hG (fun _ h => hL.subset h) (eq_of_beq hb.2) k
theorem x_opg {ops : List Oper} {i : Nat} {o : Oper} (hi : ops.toArray[i]? = some o) (hgu : gdL E ops o = some true) (h : Nx n D E B G L (ow P o Q K)) : Nx n D E B G L (xO P ops.toArray Q i K) := by
  rcases gdO_cases hgu with ⟨h1, _⟩ | ⟨j, w, dj, h1, h2, h3, ⟨b, h4, h5⟩ | ⟨_, h5⟩⟩
  · exact x_op hi h1 h
  · exact x_opY hi h1 h2 h3 h4 (eqb_true h5.symm) h
  · cases h5
def tksB (ops : Array Oper) : List Nat → Array Bool → Array Bool → Bool
  | [], l, l' => l == l'
  | i :: r, l, l' => Region.free .any ops l i && (Region.ready .any ops l).contains i && tksB ops r (l.setIfInBounds i true) l'
def takeN (t : Tbl) (n : Nat) (ops : List Oper) : List Nat → Env → List Prop → Option (Env × List Prop)
  | [], E, p => some (E, p)
  | i :: r, E, p => match ops[i]? with
    | none => none
    | some o => match o.dst with
      | none => none
      | some d => match Nat.blt d n with
        | false => none
        | true => match gdL E ops o with
          | none => none
          | some false => takeN t n ops r ((d, undef) :: E) p
          | some true => match evOp t E o.op with
            | none => none
            | some (v, none) => takeN t n ops r ((d, v) :: E) p
            | some (v, some q) => takeN t n ops r ((d, v) :: E) (q :: p)
theorem takeN_ok [PQ Q] [Tab P t] {ops : List Oper} {G0 : Gh} {L0 : List Own} (hsel : Region.noSelect ops.toArray = true) (hG : Gh.le G0 G) (hL : L0.Sublist L) : ∀ (is : List Nat) {E E' : Env} {p p' : List Prop} {fuel : Nat} {listed listed' : Array Bool},
    tksB ops.toArray is listed listed' = true → takeN t n ops is E p = some (E', p') → AllP p' → Nx n D E' B G L (xA P ops.toArray Q (Stab B G0 L0) fuel listed') → AllP p ∧ Nx n D E B G L (xA P ops.toArray Q (Stab B G0 L0) (fuel + is.length) listed)
  | [], E, E', p, p', fuel, listed, listed', hb, h, hp, hn => by
    simp only [takeN, Option.some.injEq, Prod.mk.injEq] at h; obtain ⟨rfl, rfl⟩ := h
    have := eq_of_beq (a := listed) (b := listed') (by simpa [tksB] using hb); subst this; exact ⟨hp, hn⟩
  | i :: r, E, E', p, p', fuel, listed, listed', hb, h, hp, hn => by
    simp only [tksB, Bool.and_eq_true] at hb
    have tk : tkB ops.toArray listed i (listed.setIfInBounds i true) = true := by simp only [tkB, Bool.and_eq_true]; exact ⟨⟨⟨hsel, hb.1.1⟩, hb.1.2⟩, beq_self_eq_true _⟩
    unfold takeN at h
    split at h
    · cases h
    · rename_i o ho
      have hi : ops.toArray[i]? = some o := by simpa using ho
      split at h
      · cases h
      · rename_i d hd
        split at h
        · cases h
        · rename_i hlt
          split at h
          · cases h
          · rename_i hg
            have ih := takeN_ok hsel hG hL r hb.2 h hp hn
            exact ⟨ih.1, x_tkn _ i hi tk hg hG hL hd hlt ih.2⟩
          · rename_i hg
            obtain ⟨dst, op, ty, pos, aft, gd⟩ := o
            split at h
            · cases h
            · rename_i v hv
              have ih := takeN_ok hsel hG hL r hb.2 h hp hn
              exact ⟨ih.1, x_tkg _ i hi tk hg hG hL (evOp_ok (t := t) hv trivial) hd hlt ih.2⟩
            · rename_i v q hv
              have ih := takeN_ok hsel hG hL r hb.2 h hp hn
              exact ⟨ih.1.2, x_tkg _ i hi tk hg hG hL (evOp_ok (t := t) hv ih.1.1) hd hlt ih.2⟩
theorem x_tks [PQ Q] [Tab P t] {ops : List Oper} {G0 : Gh} {L0 : List Own} (is : List Nat) {E' : Env} {p' : List Prop} {fuel fuel' : Nat} {listed : Array Bool} (listed' : Array Bool) (hsel : Region.noSelect ops.toArray = true) (hb : tksB ops.toArray is listed listed' = true)
    (hf : Nat.beq (fuel + is.length) fuel' = true) (h : takeN t n ops is E [] = some (E', p')) (hG : Gh.le G0 G) (hL : L0.Sublist L) (hp : AllP p') (hn : Nx n D E' B G L (xA P ops.toArray Q (Stab B G0 L0) fuel listed')) : Nx n D E B G L (xA P ops.toArray Q (Stab B G0 L0) fuel' listed) := by
  have := Nat.eq_of_beq_eq_true hf; subst this
  exact (takeN_ok hsel hG hL is hb h hp hn).2
/-! Memory handed over, one block -/
class DelB (L : List Own) (b : Nat) (cs : outParam (List Value)) (T : outParam TypeId) (R : outParam (List Own)) : Prop where
  del : Del (.blk b (.cells cs.toArray T (0, 0))) L R
instance {b : Nat} {cs : List Value} {T : TypeId} {r : List Own} : DelB (.blk b (.cells (List.toArray cs) T (0, 0)) :: r) b cs T r := ⟨.here⟩
instance {b : Nat} {cs : List Value} {T : TypeId} {z : Own} {r r' : List Own} [h : DelB r b cs T r'] : DelB (z :: r) b cs T (z :: r') := ⟨.there h.del⟩
theorem c_m1 {fo : Operand} {l : List Operand} {tys : Array TypeId} {d : Nat} {ty : TypeId} {pos : String} {aft : Array Edge} {g : Option (Nat × Bool)} {f : FuncId} {fi ca as vs : List Value} {b : Nat} {cs : List Value} {T : TypeId} {R : List Own} {Post : Value → Gh → List Own → Prop}
    [hd : DelB L b cs T R] (hf : ev E fo = some (.func (.func f) fi.toArray ca.toArray)) (ha : evs E l = some as) (hv : fi ++ as ++ ca = vs) (hc : Fn P f vs G [.blk b (.cells cs.toArray T (0, 0))] Post) (hlt : Nat.blt d n = true)
    (k : ∀ v G' L', Post v G' L' → Nx n D ((d, v) :: E) B G' (L' ++ R) K) : Nx n D E B G L (ow P ⟨some d, .call ⟨.value fo, l.toArray, tys⟩, ty, pos, aft, g⟩ Q K) :=
  c_call (Lp := [.blk b (.cells cs.toArray T (0, 0))]) hf ha hv hc hd.del.perm hlt k
/-- One of the cells, which is not known. -/
theorem c_ldM {T T0 : TypeId} {x : Operand} {desc : TypeDesc} {size bytes : Nat} {zero : Value} {b o d : Nat} {cs : List Value} {fr : Nat × Nat} {ty : TypeId} {pos : String} {aft : Array Edge} {g : Option (Nat × Bool)} [TI P T desc size bytes zero] [h : BlkI L b cs T0 fr] (hx : ev E x = some (Pt b o)) (ha : aggD desc = false) (hlt : Nat.blt d n = true) (ho : o < cs.length)
    (k : ∀ v, v ∈ cs → Nx n D ((d, v) :: E) B G L K) : Nx n D E B G L (ow P ⟨some d, .load T x, ty, pos, aft, g⟩ Q K) := by
  refine v_op (g_load (T := T) (desc := desc) (size := size) (bytes := bytes) (zero := zero) hx ha (v := cs[o]) ?_) rfl hlt (k _ (List.getElem_mem ho))
  have := (cells_own (S := St B G L) h.mem).go o cs[o] (List.getElem?_eq_getElem ho)
  simpa using this
theorem c_enter {f : FuncId} {fn : Func} {c : Code} {args : List Value} {Post : Value → Gh → List Own → Prop} (E0 : Env) (hf : P.funcs[f]? = some fn) (hok : bodyOk P f = true) (hn : fn.ntmps = n) (hb : fn.body = some c)
    (hlen : Nat.ble args.length n = true) (hE : Sub E0 (params 0 args))
    (h : ∀ B, B.G = G → B.W = bks L → Nx n [] E0 B G L (cu P (.code c) [] (bp P fn (RPost B Post)))) : Fn P f args G L Post := fn_enter E0 hf hok hn hb hlen hE fun B h1 h2 => h B h1 h2
theorem p_enter {f : FuncId} {fn : Func} {c : Code} {args : List Value} {R : Value → Prop} (E0 : Env) (hf : P.funcs[f]? = some fn) (hok : bodyOk P f = true) (hn : fn.ntmps = n) (hb : fn.body = some c)
    (hlen : Nat.ble args.length n = true) (hE : Sub E0 (params 0 args))
    (h : ∀ B, B.W = [] → Nx n [] E0 B G [] (cu P (.code c) [] (bp P fn (RPost B (fun v G' L' => G' = G ∧ L' = [] ∧ R v))))) : PuG P f args G R := pu_enter E0 hf hok hn hb hlen hE fun B h1 => h B h1
end
attribute [irreducible] cu
end Go.E
