/- Contracts and plain laws that the statement rests on, part 3. Conditions: as each says. -/
import Derived.Test.YtifffndbgheghaaGreatDoorZ2
import Derived.Lib.Bytealg
import Derived.DeepKeys5
set_option linter.unusedVariables false
set_option linter.unusedSimpArgs false
/-! Kf -/
namespace Go.E
set_option maxRecDepth 20000
set_option maxHeartbeats 2000000
open Go.Proofs
variable {G : Gh}
structure Fld where
  tag : Int
  name : List UInt8
  kind : List UInt8
  stand : List UInt8
deriving Inhabited
def fldF (f : Fld) : List Value := [I f.tag, S f.name, S f.kind, S f.stand]
instance : RowF fldF 4 := ⟨fun _ => rfl⟩
/-- A field of a type of a sort, read. -/
def fldOf (s : List UInt8) (k : Nat) : Option Fld :=
  match cut 58 s with
  | [a, b] => if k = 69 then
      match numOf a 200 with
      | some n => if 1 ≤ n ∧ isNm b = true then some ⟨n, b, [], []⟩ else none
      | none => none
    else none
  | [a, b, c] => if k = 69 then none else
      match numOf a 200 with
      | some n => if 1 ≤ n ∧ isNm b = true then
          match cut 61 c with
          | [d] => if kindOk d = true then some ⟨n, b, d, []⟩ else none
          | [d, e] => if k = 82 ∧ standOk d e = true then some ⟨n, b, d, e⟩ else none
          | _ => none
        else none
      | none => none
  | _ => none
/-- The parts of a cut text, each at its place. -/
theorem cut_lens {k : Nat} : ∀ {s acc : List UInt8} {x : List UInt8}, x ∈ cutA k acc s → x.length ≤ acc.length + s.length
  | [], acc, x, h => by simp [cutA] at h; subst h; simp
  | c :: r, acc, x, h => by
    unfold cutA at h
    split at h
    · rcases List.mem_cons.1 h with rfl | h
      · simp
      · have := cut_lens h; simp at this ⊢; omega
    · have := cut_lens h; simp at this ⊢; omega
theorem cut_len {k : Nat} {s x : List UInt8} (h : x ∈ cut k s) : x.length ≤ s.length := by have := cut_lens h; simpa using this
theorem cutA_pos {k : Nat} : ∀ {s acc : List UInt8}, 0 < (cutA k acc s).length
  | [], acc => by simp [cutA]
  | c :: r, acc => by
    unfold cutA
    split
    · simp
    · exact cutA_pos
theorem cut_pos {k : Nat} {s : List UInt8} : 0 < (cut k s).length := cutA_pos
theorem cut_length_le {k : Nat} : ∀ {s acc : List UInt8}, (cutA k acc s).length ≤ s.length + 1
  | [], acc => by simp [cutA]
  | c :: r, acc => by
    unfold cutA
    split
    · have := cut_length_le (k := k) (s := r) (acc := []); simp; omega
    · have := cut_length_le (k := k) (s := r) (acc := acc ++ [c]); simp; omega
theorem cut_count {k : Nat} {s : List UInt8} : (cut k s).length ≤ s.length + 1 := cut_length_le
end Go.E
/-! Ma -/
namespace Go.E
set_option maxRecDepth 20000
set_option maxHeartbeats 2000000
/-- A text cut at the first byte of a kind. -/
def cut1 (k : Nat) : List UInt8 → List UInt8 × List UInt8 × Bool
  | [] => ([], [], false)
  | c :: r => if c.toNat = k then ([], r, true) else (c :: (cut1 k r).1, (cut1 k r).2.1, (cut1 k r).2.2)
theorem bt_succ (c : UInt8) (r : List UInt8) (i : Nat) : bt (c :: r) (i + 1) = bt r i := by simp [bt, List.getD]
theorem bt_zero (c : UInt8) (r : List UInt8) : bt (c :: r) 0 = c.toNat := by simp [bt, List.getD]
theorem cut1_no {k : Nat} : ∀ {s : List UInt8}, (∀ j, j < s.length → bt s j ≠ k) → cut1 k s = (s, [], false)
  | [], _ => rfl
  | c :: r, h => by
    have h0 := h 0 (by simp)
    rw [bt_zero] at h0
    have ih := cut1_no (k := k) (s := r) fun j hj => by have := h (j + 1) (by simpa using hj); rwa [bt_succ] at this
    rw [cut1, if_neg h0, ih]
theorem cut1_at {k : Nat} : ∀ {s : List UInt8} {i : Nat}, i < s.length → (∀ j, j < i → bt s j ≠ k) → bt s i = k → cut1 k s = (s.take i, s.drop (i + 1), true)
  | [], i, h, _, _ => by simp at h
  | c :: r, 0, _, _, h => by rw [bt_zero] at h; rw [cut1, if_pos h]; rfl
  | c :: r, i + 1, hl, h, hi => by
    have h0 := h 0 (by omega)
    rw [bt_zero] at h0
    rw [bt_succ] at hi
    have ih := cut1_at (k := k) (s := r) (i := i) (by simpa using hl) (fun j hj => by have := h (j + 1) (by omega); rwa [bt_succ] at this) hi
    rw [cut1, if_neg h0, ih]; rfl
/-- A type of a schema. -/
structure Ty where
  sort : Nat
  name : List UInt8
  fields : List Fld
deriving Inhabited
def fresh (f : Fld) (fs : List Fld) : Bool := fs.all fun g => decide (g.tag < f.tag ∧ g.name ≠ f.name)
def fieldsOf (k : Nat) : List (List UInt8) → List Fld → Option (List Fld)
  | [], fs => some fs
  | x :: xs, fs => match fldOf x k with
    | none => none
    | some f => if fresh f fs = true then fieldsOf k xs (fs ++ [f]) else none
def sortOk (k : Nat) : Prop := k = 82 ∨ k = 85 ∨ k = 69
instance (k : Nat) : Decidable (sortOk k) := inferInstanceAs (Decidable (_ ∨ _ ∨ _))
/-- A type, read from its line. -/
def tyOf : List UInt8 → Option Ty
  | [] => none
  | c :: r => match cut1 61 r with
    | (name, rest, true) => if isNm name = true ∧ sortOk c.toNat then
        if rest = [] then (if c.toNat = 82 then some ⟨82, name, []⟩ else none)
        else match fieldsOf c.toNat (cut 44 rest) [] with
          | some fs => if fs.length ≤ 8 then some ⟨c.toNat, name, fs⟩ else none
          | none => none
      else none
    | _ => none
/-- The name that a kind without signs begins with. -/
def refN : List UInt8 → Option (List UInt8)
  | [] => none
  | c :: r => if c.toNat = 64 then some (r.take (r.length - 1)) else none
def findT (ts : List Ty) (name : List UInt8) : Option Ty := ts.find? fun t => decide (t.name = name)
def refT (ts : List Ty) (k : List UInt8) : Option Ty := (refN k).bind (findT ts)
def kind0 (t : Ty) : List UInt8 := (t.fields.headD default).kind
/-- Do first fields of unions end, in so many steps? -/
def endsN (ts : List Ty) : Nat → Ty → Bool
  | 0, _ => false
  | n + 1, t => if t.sort ≠ 85 then true else match refT ts (kind0 t) with
    | none => true
    | some u => endsN ts n u
def hasK (ts : List Ty) (k : List UInt8) : Bool := match refN (core k) with
  | none => true
  | some n => (findT ts n).isSome
def NamesAt (ts : List Ty) (i : Nat) : Prop := ∀ k, k < i → (nth ts k).name ≠ (nth ts i).name
def KindsOk (ts : List Ty) (t : Ty) : Prop := t.sort = 69 ∨ ∀ j, j < t.fields.length → hasK ts (nth t.fields j).kind = true
def ValidT (ts : List Ty) : Prop := (∀ i, i < ts.length → NamesAt ts i ∧ KindsOk ts (nth ts i)) ∧ ∀ i, i < ts.length → endsN ts (ts.length + 1) (nth ts i) = true
instance (ts : List Ty) (i : Nat) : Decidable (NamesAt ts i) := inferInstanceAs (Decidable (∀ k, k < i → _))
instance (ts : List Ty) (t : Ty) : Decidable (KindsOk ts t) := inferInstanceAs (Decidable (_ ∨ ∀ j, j < t.fields.length → _))
instance (ts : List Ty) : Decidable (ValidT ts) := inferInstanceAs (Decidable ((∀ i, i < ts.length → _) ∧ ∀ i, i < ts.length → _))
def typesOf : List (List UInt8) → Option (List Ty)
  | [] => some []
  | x :: xs => match tyOf x with
    | none => none
    | some t => (typesOf xs).map (t :: ·)
/-- A schema, read. -/
def schemaOf (s : List UInt8) : Option (List Ty) :=
  if s.length ≤ 400 ∧ (cut 10 s).length ≤ 9 ∧ (cut 10 s).getLastD [] = [] then
    match typesOf (cut 10 s).dropLast with
    | some ts => if ValidT ts then some ts else none
    | none => none
  else none
/-- What is known of a field of a type of a sort. -/
structure FldW (k : Nat) (f : Fld) : Prop where
  tag : 1 ≤ f.tag ∧ f.tag ≤ 200
  name : isNm f.name = true
  kind : k ≠ 69 → kindOk f.kind = true
  enm : k = 69 → f.kind = [] ∧ f.stand = []
  stand : f.stand ≠ [] → k = 82 ∧ standOk f.kind f.stand = true
theorem numOf_le {s : List UInt8} {top n : Int} (h : numOf s top = some n) : n ≤ top ∧ s = decI n ∧ s.length ≤ 6 := by
  unfold numOf at h
  split at h
  · split at h
    · split at h
      · rename_i h1 _ _ _ h2; simp only [Option.some.injEq] at h; subst h; exact ⟨h2.2, h2.1, h1⟩
      · cases h
    · cases h
  · cases h
theorem standOk_kind {k s : List UInt8} (h : standOk k s = true) : kindOk k = true := by
  unfold standOk at h
  split at h
  · subst_vars; decide
  · split at h
    · subst_vars; decide
    · split at h
      · subst_vars; decide
      · cases h
theorem standOk_ne {k s : List UInt8} (h : standOk k s = true) : s ≠ [] := by
  rintro rfl
  revert h
  have e : numOf [] 999999 = none := by
    unfold numOf
    simp [digF, decI_lo]
  unfold standOk
  rw [e]
  split
  · simp
  · split
    · simp [isTx, TxP]
    · split <;> simp
theorem fldOf_w {s : List UInt8} {k : Nat} {f : Fld} (h : fldOf s k = some f) : FldW k f := by
  unfold fldOf at h
  split at h
  · split at h
    · rename_i hk
      split at h
      · rename_i n hn
        split at h
        · rename_i hg
          simp only [Option.some.injEq] at h; subst h
          exact ⟨⟨hg.1, (numOf_le hn).1⟩, hg.2, fun h => absurd hk h, fun _ => ⟨rfl, rfl⟩, fun h => absurd rfl h⟩
        · cases h
      · cases h
    · cases h
  · split at h
    · cases h
    · rename_i hk
      split at h
      · rename_i n hn
        split at h
        · rename_i hg
          split at h
          · split at h
            · rename_i hd
              simp only [Option.some.injEq] at h; subst h
              exact ⟨⟨hg.1, (numOf_le hn).1⟩, hg.2, fun _ => hd, fun h => absurd h hk, fun h => absurd rfl h⟩
            · cases h
          · split at h
            · rename_i hd
              simp only [Option.some.injEq] at h; subst h
              exact ⟨⟨hg.1, (numOf_le hn).1⟩, hg.2, fun _ => standOk_kind hd.2, fun h => absurd h hk, fun _ => hd⟩
            · cases h
          · cases h
        · cases h
      · cases h
  · cases h
/-- What is known of a type. -/
structure TyW (t : Ty) : Prop where
  sort : sortOk t.sort
  name : isNm t.name = true
  ne : t.sort ≠ 82 → t.fields ≠ []
  len : t.fields.length ≤ 8
  fld : ∀ f ∈ t.fields, FldW t.sort f
  asc : t.fields.Pairwise fun g f => g.tag < f.tag ∧ g.name ≠ f.name
theorem fieldsOf_w {k : Nat} : ∀ {xs : List (List UInt8)} {fs gs : List Fld}, fieldsOf k xs fs = some gs → (∀ f ∈ fs, FldW k f) → fs.Pairwise (fun g f => g.tag < f.tag ∧ g.name ≠ f.name) →
    (∀ f ∈ gs, FldW k f) ∧ gs.Pairwise (fun g f => g.tag < f.tag ∧ g.name ≠ f.name) ∧ gs.length = fs.length + xs.length
  | [], fs, gs, h, h1, h2 => by
    simp only [fieldsOf, Option.some.injEq] at h; subst h; exact ⟨h1, h2, by simp⟩
  | x :: xs, fs, gs, h, h1, h2 => by
    unfold fieldsOf at h
    split at h
    · cases h
    · rename_i f hf
      split at h
      · rename_i hfr
        simp only [fresh, List.all_eq_true, decide_eq_true_eq] at hfr
        have := fieldsOf_w h (fun g hg => by
          rcases List.mem_append.1 hg with hg | hg
          · exact h1 g hg
          · simp only [List.mem_singleton] at hg; subst hg; exact fldOf_w hf) (List.pairwise_append.2 ⟨h2, by simp, fun a ha b hb => by
            simp only [List.mem_singleton] at hb; subst hb; exact hfr a ha⟩)
        refine ⟨this.1, this.2.1, ?_⟩
        rw [this.2.2]; simp; omega
      · cases h
theorem tyOf_w {s : List UInt8} {t : Ty} (h : tyOf s = some t) : TyW t := by
  unfold tyOf at h
  split at h
  · cases h
  · split at h
    · split at h
      · rename_i hn
        split at h
        · split at h
          · simp only [Option.some.injEq] at h; subst h
            exact ⟨.inl rfl, hn.1, fun h => absurd rfl h, by simp, by simp, by simp⟩
          · cases h
        · split at h
          · rename_i fs hfs
            split at h
            · rename_i hl
              simp only [Option.some.injEq] at h; subst h
              have hw := fieldsOf_w hfs (by simp) (by simp)
              refine ⟨hn.2, hn.1, fun _ h0 => ?_, hl, hw.1, hw.2.1⟩
              have := hw.2.2
              dsimp only at h0
              rw [h0] at this
              have := cut_pos (k := 44) (s := ‹List UInt8›)
              simp at *; omega
            · cases h
          · cases h
      · cases h
    · cases h
theorem typesOf_w : ∀ {xs : List (List UInt8)} {ts : List Ty}, typesOf xs = some ts → (∀ t ∈ ts, TyW t) ∧ ts.length = xs.length
  | [], ts, h => by simp only [typesOf, Option.some.injEq] at h; subst h; simp
  | x :: xs, ts, h => by
    unfold typesOf at h
    split at h
    · cases h
    · rename_i t ht
      cases hr : typesOf xs with
      | none => rw [hr] at h; cases h
      | some us =>
        rw [hr] at h
        simp only [Option.map_some, Option.some.injEq] at h; subst h
        have := typesOf_w hr
        exact ⟨fun u hu => by rcases List.mem_cons.1 hu with rfl | hu; exact tyOf_w ht; exact this.1 u hu, by simp [this.2]⟩
/-- A schema that is valid. -/
structure SchW (ts : List Ty) : Prop where
  ty : ∀ t ∈ ts, TyW t
  len : ts.length ≤ 8
  valid : ValidT ts
theorem schemaOf_w {s : List UInt8} {ts : List Ty} (h : schemaOf s = some ts) : SchW ts := by
  unfold schemaOf at h
  split at h
  · rename_i hc
    split at h
    · rename_i us hus
      split at h
      · rename_i hv
        simp only [Option.some.injEq] at h; subst h
        have := typesOf_w hus
        exact ⟨this.1, by rw [this.2, List.length_dropLast]; omega, hv⟩
      · cases h
    · cases h
  · cases h
/-- A kind of a schema. -/
def kindIn (ts : List Ty) (k : List UInt8) : Bool := kindOk k && hasK ts k
end Go.E
/-! Mn -/
namespace Go.E
set_option maxRecDepth 20000
set_option maxHeartbeats 2000000
theorem findT_mem {ts : List Ty} {n : List UInt8} {t : Ty} (h : findT ts n = some t) : t ∈ ts := List.mem_of_find?_eq_some h
theorem refT_mem {ts : List Ty} {k : List UInt8} {t : Ty} (h : refT ts k = some t) : t ∈ ts := by
  unfold refT at h
  cases hr : refN k with
  | none => rw [hr] at h; cases h
  | some n => rw [hr] at h; exact findT_mem h
theorem endsN_mono (ts : List Ty) : ∀ (k : Nat) (t : Ty), endsN ts k t = true → endsN ts (k + 1) t = true
  | 0, t, h => by cases h
  | k + 1, t, h => by
    unfold endsN at h ⊢
    split
    · rfl
    · rename_i hs
      rw [if_neg hs] at h
      cases hr : refT ts (kind0 t) with
      | none => rfl
      | some u => rw [hr] at h; exact endsN_mono ts k u h
def stableAt (ts : List Ty) (k : Nat) : Prop := ∀ t ∈ ts, endsN ts (k + 1) t = endsN ts k t
theorem stable_next {ts : List Ty} {k : Nat} (h : stableAt ts k) : stableAt ts (k + 1) := by
  intro t ht
  rw [endsN, endsN]
  split
  · rfl
  · cases hr : refT ts (kind0 t) with
    | none => rfl
    | some u => exact h u (refT_mem hr)
theorem stable_all {ts : List Ty} {k : Nat} (h : stableAt ts k) : ∀ (m : Nat) (t : Ty), t ∈ ts → endsN ts (k + m) t = endsN ts k t := by
  have hs : ∀ m, stableAt ts (k + m) := fun m => by
    induction m with
    | zero => exact h
    | succ m ih => exact stable_next ih
  intro m t ht
  induction m with
  | zero => rfl
  | succ m ih => rw [← ih]; exact hs m t ht
theorem count_lt {α : Type} {p q : α → Bool} : ∀ {l : List α}, (∀ x ∈ l, p x = true → q x = true) → (∃ x ∈ l, q x = true ∧ p x = false) → l.countP p < l.countP q
  | [], _, h => by obtain ⟨x, hx, _⟩ := h; cases hx
  | a :: l, h1, h2 => by
    have hle : ∀ l : List α, (∀ x ∈ l, p x = true → q x = true) → l.countP p ≤ l.countP q := fun l h => List.countP_mono_left h
    rw [List.countP_cons, List.countP_cons]
    have h3 := hle l fun x hx => h1 x (List.mem_cons_of_mem _ hx)
    obtain ⟨x, hx, h4, h5⟩ := h2
    rcases List.mem_cons.1 hx with rfl | hx
    · simp [h4, h5]; omega
    · have h6 := count_lt (fun x hx => h1 x (List.mem_cons_of_mem _ hx)) ⟨x, hx, h4, h5⟩
      by_cases hp : p a = true
      · simp [hp, h1 a (List.mem_cons_self ..) hp]; exact h6
      · simp [hp]; split <;> omega
theorem unstable_lt {ts : List Ty} {k : Nat} (h : ¬ stableAt ts k) : ts.countP (endsN ts k) < ts.countP (endsN ts (k + 1)) := by
  refine count_lt (fun x _ => endsN_mono ts k x) ?_
  unfold stableAt at h
  simp only [Classical.not_forall] at h
  obtain ⟨t, ht, hne⟩ := h
  refine ⟨t, ht, ?_⟩
  cases h1 : endsN ts k t with
  | false =>
    refine ⟨?_, rfl⟩
    cases h2 : endsN ts (k + 1) t with
    | false => rw [h1, h2] at hne; exact absurd rfl hne
    | true => rfl
  | true => rw [endsN_mono ts k t h1, h1] at hne; exact absurd rfl hne
theorem stable_or (ts : List Ty) (k : Nat) : stableAt ts k ∨ k + 1 ≤ ts.countP (endsN ts (k + 1)) := by
  induction k with
  | zero =>
    by_cases h : stableAt ts 0
    · exact .inl h
    · have := unstable_lt h; exact .inr (by omega)
  | succ k ih =>
    by_cases h : stableAt ts (k + 1)
    · exact .inl h
    · have := unstable_lt h
      rcases ih with h3 | h3
      · exact absurd (stable_next h3) h
      · exact .inr (by omega)
theorem ends_eq {ts : List Ty} {t : Ty} (hl : ts.length ≤ 8) (ht : t ∈ ts) : endsN ts 9 t = endsN ts (ts.length + 1) t := by
  have hs : stableAt ts ts.length := by
    rcases stable_or ts ts.length with h | h
    · exact h
    · have := List.countP_le_length (p := endsN ts (ts.length + 1)) (l := ts)
      omega
  have h1 := stable_all hs (9 - ts.length) t ht
  have h2 := stable_all hs 1 t ht
  rw [show ts.length + (9 - ts.length) = 9 by omega] at h1
  rw [h1, h2]
end Go.E
/-! Na -/
namespace Go.E
set_option maxRecDepth 20000
set_option maxHeartbeats 2000000
open Go.Proofs
variable {G : Gh}
def idx1 (k : Nat) (s : List UInt8) : Int := if (cut1 k s).2.2 = true then ((cut1 k s).1.length : Int) else -1
theorem cut1_some {k : Nat} : ∀ {s a b : List UInt8}, cut1 k s = (a, b, true) → ∃ c : UInt8, c.toNat = k ∧ s = a ++ c :: b
  | [], a, b, h => by simp [cut1] at h
  | c :: r, a, b, h => by
    unfold cut1 at h
    split at h
    · rename_i hc
      simp only [Prod.mk.injEq, and_true] at h
      obtain ⟨rfl, rfl⟩ := h
      exact ⟨c, hc, rfl⟩
    · simp only [Prod.mk.injEq] at h
      obtain ⟨rfl, h2, h3⟩ := h
      obtain ⟨d, hd, hr⟩ := cut1_some (k := k) (s := r) (a := (cut1 k r).1) (b := b) (by rw [← h2, ← h3])
      exact ⟨d, hd, by rw [List.cons_append, ← hr]⟩
theorem cut1_none {k : Nat} : ∀ {s : List UInt8}, (cut1 k s).2.2 = false → cut1 k s = (s, [], false)
  | [], h => rfl
  | c :: r, h => by
    unfold cut1 at h ⊢
    split at h
    · cases h
    · rename_i hc
      rw [if_neg hc, cut1_none (s := r) h]
theorem cut1_len {k : Nat} {s : List UInt8} : (cut1 k s).1.length ≤ s.length ∧ (cut1 k s).2.1.length ≤ s.length := by
  cases h : (cut1 k s).2.2 with
  | false => rw [cut1_none h]; simp
  | true =>
    obtain ⟨c, _, e⟩ := cut1_some (k := k) (s := s) (a := (cut1 k s).1) (b := (cut1 k s).2.1) (by rw [← h])
    have := congrArg List.length e
    simp at this
    omega
theorem indexByte_idx1 (s : List UInt8) (c : UInt8) : Lib.indexByte s c = idx1 c.toNat s := by
  induction s with
  | nil => rfl
  | cons b r ih =>
    unfold Lib.indexByte
    by_cases hb : b = c
    · subst hb; simp [idx1, cut1]
    · have hb2 : ¬ b.toNat = c.toNat := fun h => hb (UInt8.toNat_inj.1 h)
      have hb3 : (b == c) = false := by simpa using hb
      rw [hb3, ih]
      unfold idx1
      rw [cut1, if_neg hb2]
      dsimp only
      cases (cut1 c.toNat r).2.2 <;> simp
theorem c_IndexByteL {s : List UInt8} {c : UInt8} : PuG Tryz.prog 91 [S s, U8 c.toNat] G (· = I (idx1 c.toNat s)) := by
  have hx : ∀ w, (callFunc 102 [S s, U8 c.toNat].toArray).run Tryz.prog w = .ok (.value (I (idx1 c.toNat s))) w := fun w => by
    rw [run_callFunc_extern Tryz.func102 (by kernel_rfl) (by kernel_rfl) (by kernel_rfl) (e := Extern.BytealgIndexByte.indexByte) (by kernel_rfl)]
    have := Lib.run_indexByteString (P := Tryz.prog) ⟨s.toArray⟩ (c.toNat : Int) w
    rw [this]
    simp only [Result.andThen]
    rw [indexByte_idx1]
    simp
  refine p_enter [(0, _), (1, _)] Tryz.func91 (by kernel_rfl) Tryz.ntmps91 rfl rfl (by repeat (first | exact trivial | refine ⟨rfl, ?_⟩)) fun B hB => ?_
  repeat' ((refine run (t := tb) 400 rfl ?_ ?_; (focus (repeat' ((exact trivial))))))
  refine k_op rfl (v_op (g_extern rfl rfl rfl hx) rfl rfl ?_)
  repeat' ((refine run (t := tb) 400 rfl ?_ ?_; (focus (repeat' ((exact trivial))))))
  refine k_rr (vs := [_]) rfl ⟨rfl, trivial⟩ rfl (List.nil_sublist _) ⟨rfl, rfl, ?_⟩
  rfl
theorem c_IndexByte {s : List UInt8} {c : UInt8} : PuG Tryz.prog 98 [S s, U8 c.toNat] G (· = I (idx1 c.toNat s)) := by
  refine p_enter [(0, _), (1, _)] Tryz.func98 (by kernel_rfl) Tryz.ntmps98 rfl rfl (by repeat (first | exact trivial | refine ⟨rfl, ?_⟩)) fun B hB => ?_
  repeat' (first | (refine run (t := tb) 400 rfl ?_ ?_; (focus (repeat' ((exact trivial))))) | (refine k_op rfl ?_; (refine c_rt rfl rfl rfl c_IndexByteL rfl ?_)))
  refine k_rr (vs := [_]) rfl ⟨rfl, trivial⟩ rfl (List.nil_sublist _) ⟨rfl, rfl, ?_⟩
  rfl
theorem idx1_self (c : UInt8) : idx1 c.toNat [c] = 0 := by simp [idx1, cut1]
theorem c_IndexL {s : List UInt8} {c : UInt8} : PuG Tryz.prog 79 [S s, S [c]] G (· = I (idx1 c.toNat s)) := by
  have e0 : ((bt [c] (Int.toNat 0) : Nat) : Int) = c.toNat := by rw [show Int.toNat 0 = 0 from rfl, bt_zero]
  by_cases hs : [c] = s
  · subst hs
    rw [idx1_self]
    refine p_enter [(0, _), (1, _)] Tryz.func79 (by kernel_rfl) Tryz.ntmps79 rfl rfl (by repeat (first | exact trivial | refine ⟨rfl, ?_⟩)) fun B hB => ?_
    repeat' (first | (refine run (t := tb) 400 rfl ?_ ?_; (focus (repeat' ((exact trivial))))) | (refine k_op rfl ?_; (refine v_op (g_pickF rfl rfl ?_) rfl rfl ?_; (focus (((rfl)); done)))) | (refine k_gf rfl rfl ?_ ?_; (focus (((rfl)); done))) | (refine k_tt rfl ?_ ?_; (focus (((refine decide_eq_true ?_; (rfl))); done))))
    all_goals refine k_rr (vs := [_]) rfl ⟨rfl, trivial⟩ rfl (List.nil_sublist _) ⟨rfl, rfl, ?_⟩
    all_goals rfl
  · have cx_ib : PuG Tryz.prog 91 [S s, U8 (bt [c] (Int.toNat 0))] G (· = I (idx1 c.toNat s)) := by rw [show (bt [c] (Int.toNat 0)) = c.toNat from bt_zero c []]; exact c_IndexByteL
    refine p_enter [(0, _), (1, _)] Tryz.func79 (by kernel_rfl) Tryz.ntmps79 rfl rfl (by repeat (first | exact trivial | refine ⟨rfl, ?_⟩)) fun B hB => ?_
    repeat' (first | (refine run (t := tb) 400 rfl ?_ ?_; (focus (repeat' (first | exact trivial | apply And.intro | omega | (simp only [List.length_append, List.length_cons, List.length_nil, Int.toNat_natCast]; omega))))) | (refine k_op rfl ?_; first | (refine v_op (g_pickF rfl rfl ?_) rfl rfl ?_; (focus (((rfl)); done))) | (refine c_rt rfl rfl rfl cx_ib rfl ?_)) | (refine k_gf rfl rfl ?_ ?_; (focus (((rfl)); done))) | (refine k_tt rfl ?_ ?_; (focus (((rfl)); done))) | (refine k_ff rfl ?_ ?_; (focus (((refine decide_eq_false ?_; (assumption))); done))))
    all_goals refine k_rr (vs := [_]) rfl ⟨rfl, trivial⟩ rfl (List.nil_sublist _) ⟨rfl, rfl, ?_⟩
    all_goals rfl
theorem c_Index {s : List UInt8} {c : UInt8} : PuG Tryz.prog 80 [S s, S [c]] G (· = I (idx1 c.toNat s)) := by
  refine p_enter [(0, _), (1, _)] Tryz.func80 (by kernel_rfl) Tryz.ntmps80 rfl rfl (by repeat (first | exact trivial | refine ⟨rfl, ?_⟩)) fun B hB => ?_
  repeat' (first | (refine run (t := tb) 400 rfl ?_ ?_; (focus (repeat' ((exact trivial))))) | (refine k_op rfl ?_; (refine c_rt rfl rfl rfl c_IndexL rfl ?_)))
  refine k_rr (vs := [_]) rfl ⟨rfl, trivial⟩ rfl (List.nil_sublist _) ⟨rfl, rfl, ?_⟩
  rfl
theorem idx1_cases (k : Nat) (s : List UInt8) : (idx1 k s = -1 ∧ cut1 k s = (s, [], false)) ∨ ∃ i : Nat, idx1 k s = i ∧ i < s.length ∧ cut1 k s = (s.take i, s.drop (i + 1), true) := by
  cases h : (cut1 k s).2.2 with
  | false => exact .inl ⟨by simp [idx1, h], cut1_none h⟩
  | true =>
    obtain ⟨c, _, e⟩ := cut1_some (k := k) (s := s) (a := (cut1 k s).1) (b := (cut1 k s).2.1) (by rw [← h])
    have h5 : cut1 k s = ((cut1 k s).1, (cut1 k s).2.1, true) := by rw [← h]
    have h6 : idx1 k s = ((cut1 k s).1.length : Int) := by simp [idx1, h]
    generalize (cut1 k s).1 = a at *
    generalize (cut1 k s).2.1 = b at *
    refine .inr ⟨a.length, h6, ?_, ?_⟩
    · have := congrArg List.length e
      simp at this
      omega
    · rw [h5, e]; simp
theorem c_CutL {s : List UInt8} {c : UInt8} (h : s.length ≤ 9000000000000000000) : PuG Tryz.prog 64 [S s, S [c]] G (· = Tu [S (cut1 c.toNat s).1, S (cut1 c.toNat s).2.1, Bo (cut1 c.toNat s).2.2]) := by
  have hix := c_IndexL (G := G) (s := s) (c := c)
  rcases idx1_cases c.toNat s with ⟨h1, h2⟩ | ⟨i, h1, h3, h2⟩
  · rw [h2]
    have cx_ix : PuG Tryz.prog 79 [S s, S [c]] G (· = I (-1)) := by rwa [h1] at hix
    refine p_enter [(0, _), (1, _)] Tryz.func64 (by kernel_rfl) Tryz.ntmps64 rfl rfl (by repeat (first | exact trivial | refine ⟨rfl, ?_⟩)) fun B hB => ?_
    repeat' (first | (refine run (t := tb) 400 rfl ?_ ?_; (focus (repeat' ((exact trivial))))) | (refine k_op rfl ?_; (refine c_rt rfl rfl rfl cx_ix rfl ?_)) | (refine k_ff rfl ?_ ?_; (focus (((rfl)); done))))
    all_goals refine k_rr (vs := [_, _, _]) rfl ⟨rfl, rfl, rfl, trivial⟩ rfl (List.nil_sublist _) ⟨rfl, rfl, ?_⟩
    all_goals rfl
  · rw [h2]
    have cx_ix : PuG Tryz.prog 79 [S s, S [c]] G (· = I (i : Int)) := by rwa [h1] at hix
    have e2 : ((i : Int) + (([c] : List UInt8).length : Nat)).toNat = i + 1 := by simp only [List.length_cons, List.length_nil]; omega
    refine p_enter [(0, _), (1, _)] Tryz.func64 (by kernel_rfl) Tryz.ntmps64 rfl rfl (by repeat (first | exact trivial | refine ⟨rfl, ?_⟩)) fun B hB => ?_
    repeat' (first | (refine run (t := tb) 400 rfl ?_ ?_; (focus (repeat' ((exact trivial))))) | (refine k_op rfl ?_; (refine c_rt rfl rfl rfl cx_ix rfl ?_)) | (refine k_tt rfl ?_ ?_; (focus (((rfl)); done))) | (refine k_any (s_any (id := 3) _ (fun _ h => h) mixed ?_); refine x_tks (t := tb) (fuel := 0) [0, 1, 2, 3, 4, 5, 6, 7, 8, 9, 10, 11] (bts 12 4095) (by kernel_rfl) (by kernel_rfl) rfl rfl (Gh.le.refl _) (by repeat ((exact List.Sublist.refl _))) ?_ ?_; (focus (repeat' (first | exact trivial | apply And.intro | omega))); refine x_done (by kernel_rfl) (k_bk ?_)))
    all_goals refine k_rr (vs := [_, _, _]) rfl ⟨rfl, rfl, rfl, trivial⟩ rfl (List.nil_sublist _) ⟨rfl, rfl, ?_⟩
    all_goals (rfl)
theorem c_Cut {s : List UInt8} {c : UInt8} (h : s.length ≤ 9000000000000000000) : PuG Tryz.prog 46 [S s, S [c]] G (· = Tu [S (cut1 c.toNat s).1, S (cut1 c.toNat s).2.1, Bo (cut1 c.toNat s).2.2]) := by
  refine p_enter [(0, _), (1, _)] Tryz.func46 (by kernel_rfl) Tryz.ntmps46 rfl rfl (by repeat (first | exact trivial | refine ⟨rfl, ?_⟩)) fun B hB => ?_
  repeat' (first | (refine run (t := tb) 400 rfl ?_ ?_; (focus (repeat' ((exact trivial))))) | (refine k_op rfl ?_; (refine c_rt rfl rfl rfl (c_CutL (by omega)) rfl ?_)))
  all_goals refine k_rr (vs := [_, _, _]) rfl ⟨rfl, rfl, rfl, trivial⟩ rfl (List.nil_sublist _) ⟨rfl, rfl, ?_⟩
  all_goals rfl
theorem c_Contains {s : List UInt8} {c : UInt8} : PuG Tryz.prog 65 [S s, S [c]] G (· = Bo (decide (0 ≤ idx1 c.toNat s))) := by
  refine p_enter [(0, _), (1, _)] Tryz.func65 (by kernel_rfl) Tryz.ntmps65 rfl rfl (by repeat (first | exact trivial | refine ⟨rfl, ?_⟩)) fun B hB => ?_
  repeat' (first | (refine run (t := tb) 400 rfl ?_ ?_; (focus (repeat' ((exact trivial))))) | (refine k_op rfl ?_; (refine c_rt rfl rfl rfl c_Index rfl ?_)))
  all_goals refine k_rr (vs := [_]) rfl ⟨rfl, trivial⟩ rfl (List.nil_sublist _) ⟨rfl, rfl, ?_⟩
  all_goals rfl
end Go.E
/-! Me -/
namespace Go.E
set_option maxRecDepth 20000
set_option maxHeartbeats 2000000
def noB (k : Nat) (s : List UInt8) : Prop := ∀ c ∈ s, c.toNat ≠ k
def joinB (c : UInt8) : List (List UInt8) → List UInt8
  | [] => []
  | [x] => x
  | x :: y :: r => x ++ c :: joinB c (y :: r)
theorem joinB_cons (c : UInt8) (x : List UInt8) {xs : List (List UInt8)} (h : xs ≠ []) : joinB c (x :: xs) = x ++ c :: joinB c xs := by
  cases xs with
  | nil => exact absurd rfl h
  | cons y r => rfl
theorem cutA_spec {c : UInt8} : ∀ {s acc : List UInt8}, noB c.toNat acc → joinB c (cutA c.toNat acc s) = acc ++ s ∧ ∀ x ∈ cutA c.toNat acc s, noB c.toNat x
  | [], acc, h => by simp [cutA, joinB]; exact h
  | d :: r, acc, h => by
    unfold cutA
    split
    · rename_i hd
      have hd : d = c := UInt8.toNat_inj.1 hd
      subst hd
      have ih := cutA_spec (c := d) (s := r) (acc := []) (by intro x hx; cases hx)
      have hp : cutA d.toNat [] r ≠ [] := fun e => by have := cutA_pos (k := d.toNat) (s := r) (acc := []); rw [e] at this; simp at this
      refine ⟨by rw [joinB_cons d acc hp, ih.1]; rfl, fun x hx => ?_⟩
      rcases List.mem_cons.1 hx with rfl | hx
      · exact h
      · exact ih.2 x hx
    · rename_i hd
      have ih := cutA_spec (c := c) (s := r) (acc := acc ++ [d]) (by
        intro x hx
        rcases List.mem_append.1 hx with hx | hx
        · exact h x hx
        · simp only [List.mem_singleton] at hx; subst hx; exact hd)
      exact ⟨by rw [ih.1]; simp, ih.2⟩
theorem cut_join (c : UInt8) (s : List UInt8) : joinB c (cut c.toNat s) = s := by have := (cutA_spec (c := c) (s := s) (acc := []) (by intro x hx; cases hx)).1; simpa [cut] using this
theorem cut_noB {c : UInt8} {s x : List UInt8} (h : x ∈ cut c.toNat s) : noB c.toNat x := (cutA_spec (c := c) (s := s) (acc := []) (by intro x hx; cases hx)).2 x h
theorem cutA_pre {k : Nat} : ∀ {s acc t : List UInt8}, noB k s → cutA k acc (s ++ t) = cutA k (acc ++ s) t
  | [], acc, t, _ => by simp
  | d :: r, acc, t, h => by
    rw [List.cons_append, cutA, if_neg (h d (by simp)), cutA_pre (fun c hc => h c (by simp [hc]))]; simp
theorem cut_no {k : Nat} {s : List UInt8} (h : noB k s) : cut k s = [s] := by
  have := cutA_pre (k := k) (s := s) (acc := []) (t := []) h
  simpa [cut, cutA] using this
theorem cut_app {k : Nat} {s t : List UInt8} {c : UInt8} (h : noB k s) (hc : c.toNat = k) : cut k (s ++ c :: t) = s :: cut k t := by
  unfold cut
  rw [cutA_pre h, cutA, if_pos hc]; rfl
theorem join_cut {c : UInt8} : ∀ {xs : List (List UInt8)}, xs ≠ [] → (∀ x ∈ xs, noB c.toNat x) → cut c.toNat (joinB c xs) = xs
  | [], h, _ => absurd rfl h
  | [x], _, h => cut_no (h x (by simp))
  | x :: y :: r, _, h => by
    rw [joinB, cut_app (h x (by simp)) rfl, join_cut (by simp) fun z hz => h z (by simp at hz ⊢; exact .inr hz)]
theorem cut1_app {k : Nat} {s t : List UInt8} {c : UInt8} (h : noB k s) (hc : c.toNat = k) : cut1 k (s ++ c :: t) = (s, t, true) := by
  induction s with
  | nil => rw [List.nil_append, cut1, if_pos hc]
  | cons d r ih => rw [List.cons_append, cut1, if_neg (h d (by simp)), ih fun x hx => h x (by simp [hx])]
theorem cut1_noB {k : Nat} {s : List UInt8} (h : noB k s) : cut1 k s = (s, [], false) := by
  induction s with
  | nil => rfl
  | cons d r ih => rw [cut1, if_neg (h d (by simp)), ih fun x hx => h x (by simp [hx])]
theorem cut1_pre {k : Nat} : ∀ {s : List UInt8}, noB k (cut1 k s).1
  | [] => by intro c hc; cases hc
  | d :: r => by
    unfold cut1
    split
    · intro c hc; cases hc
    · rename_i hd
      intro c hc
      rcases List.mem_cons.1 hc with rfl | hc
      · exact hd
      · exact cut1_pre c hc
theorem cut_cut1 {k : Nat} (s : List UInt8) : cut k s = if (cut1 k s).2.2 = true then (cut1 k s).1 :: cut k (cut1 k s).2.1 else [s] := by
  cases h : (cut1 k s).2.2 with
  | false =>
    rw [if_neg (by simp)]
    have h1 := cut1_none h
    refine cut_no ?_
    have := cut1_pre (k := k) (s := s)
    rwa [h1] at this
  | true =>
    rw [if_pos rfl]
    obtain ⟨c, hc, e⟩ := cut1_some (k := k) (s := s) (a := (cut1 k s).1) (b := (cut1 k s).2.1) (by rw [← h])
    conv => { lhs; rw [e] }
    exact cut_app cut1_pre hc
/-! ### What holds no sign -/
theorem isNm_noB {s : List UInt8} {k : Nat} (h : isNm s = true) (hk : k < 97) : noB k s := by
  intro c hc
  simp only [isNm, Bool.and_eq_true, List.all_eq_true] at h
  have := h.1 c hc
  simp only [isLow, decide_eq_true_eq] at this
  omega
theorem digF_dig {n m : Int} : ∀ {s : List UInt8}, digF n s = some m → ∀ c ∈ s, 48 ≤ c.toNat ∧ c.toNat ≤ 57
  | [], _, c, hc => by cases hc
  | d :: r, h, c, hc => by
    unfold digF at h
    split at h
    · rename_i hd
      rcases List.mem_cons.1 hc with rfl | hc
      · exact hd
      · exact digF_dig h c hc
    · cases h
theorem numOf_dig {s : List UInt8} {top n : Int} (h : numOf s top = some n) : ∀ c ∈ s, 48 ≤ c.toNat ∧ c.toNat ≤ 57 := by
  unfold numOf at h
  split at h
  · split at h
    · rename_i hd; exact digF_dig hd
    · cases h
  · cases h
theorem numOf_noB {s : List UInt8} {top n : Int} {k : Nat} (h : numOf s top = some n) (hk : 57 < k) : noB k s := fun c hc => by
  have := numOf_dig h c hc; omega
theorem isTx_byte {s : List UInt8} (h : isTx s = true) {c : UInt8} (hc : c ∈ s) : c.toNat = 39 ∨ txN c.toNat := by
  unfold isTx at h
  simp only [decide_eq_true_eq] at h
  obtain ⟨h1, h2, h3, h4⟩ := h
  obtain ⟨i, hi, rfl⟩ := List.mem_iff_getElem.1 hc
  have e : bt s i = (s[i]).toNat := by simp [bt, List.getD, List.getElem?_eq_getElem hi]
  rw [← e]
  rcases Nat.lt_or_ge i (s.length - 1) with h5 | h5
  · rcases h4 i h5 with h6 | h6
    · subst h6; exact .inl h2
    · exact .inr h6
  · have : i = s.length - 1 := by omega
    subst this; exact .inl h3
theorem standOk_noB {d v : List UInt8} {k : Nat} (h : standOk d v = true) (hk : k = 58 ∨ k = 61) : noB k v := by
  intro c hc
  unfold standOk at h
  split at h
  · simp only [Bool.and_eq_true] at h
    obtain ⟨n, hn⟩ := Option.isSome_iff_exists.1 h.1
    have := numOf_dig hn c hc; omega
  · split at h
    · simp only [Bool.and_eq_true] at h
      have := isTx_byte h.1 hc
      unfold txN at this; omega
    · split at h
      · simp only [decide_eq_true_eq] at h
        subst h
        simp only [List.mem_cons, List.not_mem_nil, or_false] at hc
        rcases hc with rfl | rfl | rfl <;> (rcases hk with rfl | rfl <;> decide)
      · cases h
theorem core_len : ∀ s : List UInt8, (core s).length ≤ s.length
  | [] => Nat.le_refl _
  | c :: r => by
    unfold core
    split
    · have := core_len r; simp; omega
    · exact Nat.le_refl _
/-- A kind's signs, its letter, its name. -/
def sg (s : List UInt8) : List UInt8 := s.take (s.length - (core s).length)
def bsT : List UInt8 → List UInt8
  | [] => []
  | c :: r => if c.toNat = 64 then [64] else c :: r
def bs (s : List UInt8) : List UInt8 := bsT (core s)
def nm (s : List UInt8) : List UInt8 := (refN (core s)).getD []
theorem kOk_noB {k : Nat} (hk : k = 58 ∨ k = 61) : ∀ {s : List UInt8}, kOk s = true → noB k s
  | [], h => by cases h
  | c :: r, h => by
    unfold kOk at h
    split at h
    · rename_i hc
      intro d hd
      rcases List.mem_cons.1 hd with rfl | hd
      · omega
      · exact kOk_noB hk h d hd
    · split at h
      · rename_i hc
        simp only [Bool.and_eq_true, decide_eq_true_eq] at h
        intro d hd
        rcases List.mem_cons.1 hd with rfl | hd
        · omega
        · obtain ⟨i, hi, rfl⟩ := List.mem_iff_getElem.1 hd
          rcases Nat.lt_or_ge i (r.length - 1) with h5 | h5
          · refine isNm_noB h.2 (by omega) _ ?_
            exact List.mem_iff_getElem.2 ⟨i, by simp; omega, by simp⟩
          · have h1 : bt (c :: r) r.length = 59 := by omega
            have e : i = r.length - 1 := by omega
            obtain ⟨m, hm⟩ : ∃ m, r.length = m + 1 := ⟨r.length - 1, by omega⟩
            rw [hm, bt_succ] at h1
            have : bt r m = (r[m]'(by omega)).toNat := by simp [bt, List.getD, List.getElem?_eq_getElem (show m < r.length by omega)]
            have e2 : i = m := by omega
            subst e2
            omega
      · simp only [Bool.and_eq_true, Bool.or_eq_true, decide_eq_true_eq] at h
        intro d hd
        obtain ⟨rfl, h⟩ := h
        simp only [List.mem_singleton] at hd
        subst hd; omega
theorem kindOk_noB {k : Nat} (hk : k = 58 ∨ k = 61) {s : List UInt8} (h : kindOk s = true) : noB k s := by
  unfold kindOk at h; simp only [Bool.and_eq_true] at h; exact kOk_noB hk h.2
/-- A field read the program's way. -/
def fldI (s : List UInt8) (k : Nat) : Option Fld :=
  match cut 58 (cut1 61 s).1 with
  | [a, b] => if k = 69 ∧ (cut1 61 s).2.2 = false then
      match numOf a 200 with
      | some n => if 1 ≤ n ∧ isNm b = true then some ⟨n, b, [], []⟩ else none
      | none => none
    else none
  | [a, b, c] => if k = 69 then none else
      match numOf a 200 with
      | some n => if (1 ≤ n ∧ isNm b = true) ∧ kindOk c = true ∧ ((cut1 61 s).2.2 = true → k = 82 ∧ standOk c (cut1 61 s).2.1 = true) then some ⟨n, b, c, (cut1 61 s).2.1⟩ else none
      | none => none
  | _ => none
theorem noB_append {k : Nat} {a b : List UInt8} : noB k (a ++ b) ↔ noB k a ∧ noB k b := by
  constructor
  · intro h; exact ⟨fun c hc => h c (by simp [hc]), fun c hc => h c (by simp [hc])⟩
  · intro h c hc
    rcases List.mem_append.1 hc with hc | hc
    · exact h.1 c hc
    · exact h.2 c hc
theorem noB_cons {k : Nat} {c : UInt8} {b : List UInt8} : noB k (c :: b) ↔ c.toNat ≠ k ∧ noB k b := by
  constructor
  · intro h; exact ⟨h c (by simp), fun d hd => h d (by simp [hd])⟩
  · intro h d hd
    rcases List.mem_cons.1 hd with rfl | hd
    · exact h.1
    · exact h.2 d hd
theorem cut58 {s : List UInt8} {xs : List (List UInt8)} (h : cut 58 s = xs) : s = joinB 58 xs ∧ ∀ x ∈ xs, noB 58 x := by
  subst h
  exact ⟨(cut_join 58 s).symm, fun x hx => cut_noB (c := 58) hx⟩
theorem fldI_eq (s : List UInt8) (k : Nat) : fldI s k = fldOf s k := by
  apply Option.ext
  intro f
  constructor
  · intro h
    unfold fldI at h
    split at h
    · rename_i a b e
      split at h
      · rename_i hk
        have hs := cut1_none hk.2
        rw [hs] at e
        unfold fldOf
        rw [e]
        simp only [hk.1, if_true]
        exact h
      · cases h
    · rename_i a b c e
      split at h
      · cases h
      · rename_i hk
        split at h
        · rename_i n hn
          split at h
          · rename_i hg
            simp only [Option.some.injEq] at h; subst h
            cases ht : (cut1 61 s).2.2 with
            | false =>
              have hs := cut1_none ht
              rw [hs] at e ⊢
              have hc61 : cut 61 c = [c] := cut_no (kindOk_noB (.inr rfl) hg.2.1)
              unfold fldOf
              rw [e]
              simp [hk, hn, hg.1.1, hg.1.2, hc61, hg.2.1]
            | true =>
              have hst := hg.2.2 ht
              obtain ⟨d, hd, es⟩ := cut1_some (k := 61) (s := s) (a := (cut1 61 s).1) (b := (cut1 61 s).2.1) (by rw [← ht])
              generalize (cut1 61 s).1 = hd1 at *
              generalize (cut1 61 s).2.1 = v at *
              have hd : d = 61 := UInt8.toNat_inj.1 hd
              subst hd
              obtain ⟨e1, e2⟩ := cut58 e
              have e3 : s = joinB 58 [a, b, c ++ 61 :: v] := by rw [es, e1]; simp [joinB]
              have e4 : cut 58 s = [a, b, c ++ 61 :: v] := by
                rw [e3]
                refine join_cut (c := 58) (by simp) fun x hx => ?_
                simp only [List.mem_cons, List.not_mem_nil, or_false] at hx
                rcases hx with rfl | rfl | rfl
                · exact e2 _ (by simp)
                · exact e2 _ (by simp)
                · exact noB_append.2 ⟨e2 _ (by simp), noB_cons.2 ⟨by decide, standOk_noB hst.2 (.inl rfl)⟩⟩
              have e5 : cut 61 (c ++ 61 :: v) = [c, v] := by
                rw [cut_app (k := 61) (kindOk_noB (.inr rfl) hg.2.1) rfl, cut_no (standOk_noB hst.2 (.inr rfl))]
              unfold fldOf
              rw [e4]
              simp [hk, hn, hg.1.1, hg.1.2, e5, hst.1, hst.2]
          · cases h
        · cases h
    · cases h
  · intro h
    unfold fldOf at h
    split at h
    · rename_i a b e
      split at h
      · rename_i hk
        split at h
        · rename_i n hn
          split at h
          · rename_i hg
            obtain ⟨e1, e2⟩ := cut58 e
            have hno : noB 61 s := by rw [e1]; simp only [joinB]; exact noB_append.2 ⟨numOf_noB hn (by omega), noB_cons.2 ⟨by decide, isNm_noB hg.2 (by omega)⟩⟩
            unfold fldI
            rw [cut1_noB hno, e]
            simp only [hk, hn, hg, and_self, if_true]
            exact h
          · cases h
        · cases h
      · cases h
    · rename_i a b c e
      split at h
      · cases h
      · rename_i hk
        split at h
        · rename_i n hn
          split at h
          · rename_i hg
            obtain ⟨e1, e2⟩ := cut58 e
            split at h
            · rename_i d e3
              split at h
              · rename_i hd
                simp only [Option.some.injEq] at h; subst h
                have e4 : c = d := by have := cut_join 61 c; rw [show (61 : UInt8).toNat = 61 from rfl, e3] at this; exact this.symm
                subst e4
                have hno : noB 61 s := by rw [e1]; simp only [joinB]; exact noB_append.2 ⟨numOf_noB hn (by omega), noB_cons.2 ⟨by decide, noB_append.2 ⟨isNm_noB hg.2 (by omega), noB_cons.2 ⟨by decide, kindOk_noB (.inr rfl) hd⟩⟩⟩⟩
                unfold fldI
                rw [cut1_noB hno, e]
                simp [hk, hn, hg.1, hg.2, hd]
              · cases h
            · rename_i d v e3
              split at h
              · rename_i hd
                simp only [Option.some.injEq] at h; subst h
                have e4 : c = d ++ 61 :: v := by have := cut_join 61 c; rw [show (61 : UInt8).toNat = 61 from rfl, e3] at this; exact this.symm
                subst e4
                have hkd := standOk_kind hd.2
                have es : s = joinB 58 [a, b, d] ++ 61 :: v := by rw [e1]; simp [joinB]
                have hno : noB 61 (joinB 58 [a, b, d]) := by simp only [joinB]; exact noB_append.2 ⟨numOf_noB hn (by omega), noB_cons.2 ⟨by decide, noB_append.2 ⟨isNm_noB hg.2 (by omega), noB_cons.2 ⟨by decide, kindOk_noB (.inr rfl) hkd⟩⟩⟩⟩
                have e5 : cut 58 (joinB 58 [a, b, d]) = [a, b, d] := by
                  refine join_cut (c := 58) (by simp) fun x hx => ?_
                  simp only [List.mem_cons, List.not_mem_nil, or_false] at hx
                  rcases hx with rfl | rfl | rfl
                  · exact e2 _ (by simp)
                  · exact e2 _ (by simp)
                  · exact kindOk_noB (.inl rfl) hkd
                unfold fldI
                rw [es, cut1_app (k := 61) hno rfl, e5]
                simp [hn, hg.1, hg.2, hkd, hd.1, hd.2]
              · cases h
            · cases h
          · cases h
        · cases h
    · cases h
end Go.E
/-! EngP -/
namespace Go.E
section
variable {P : Program} {n : Nat} {D : List Deferred} {E : Env} {M : World → Prop} {d : Option Nat} {ty : TypeId} {pos : String} {aft : Array Edge} {gd : Option (Nat × Bool)}
variable {α : Type} [Inhabited α] {f : α → List Value}
theorem g_ldRFx {T : TypeId} {x : Operand} {desc : TypeDesc} {size sz bytes b o i k : Nat} {zero v : Value} {G0 : Gh} {L0 : List Own} {cs : List α} {y : α} [TI P T desc size bytes zero] [RowF f sz] [Kn M G0 L0] (hx : ev E x = some (Pt b (o + i * sz + k))) (ha : aggD desc = false) (hs : Seg G0 b o (rows f cs)) (hi : i < cs.length) (hy : nth cs i = y) (hk : Nat.blt k sz = true) (hv : (f y)[k]? = some v) :
    Gives P n D E M ⟨d, .load T x, ty, pos, aft, gd⟩ v := g_ldRF hx ha hs hi hk (by rw [hy]; exact hv)
theorem g_ldRx {T : TypeId} {x : Operand} {desc : TypeDesc} {sz bytes b o i : Nat} {zero : Value} {G0 : Gh} {L0 : List Own} {cs : List α} {y : α} [TI P T desc sz bytes zero] [RowF f sz] [Kn M G0 L0] (hx : ev E x = some (Pt b (o + i * sz))) (ha : aggD desc = true) (hs : Seg G0 b o (rows f cs)) (hi : i < cs.length) (hy : nth cs i = y) :
    Gives P n D E M ⟨d, .load T x, ty, pos, aft, gd⟩ (Ag (f y)) := by rw [← hy]; exact g_ldR hx ha hs hi
end
section
variable {P : Program} {n : Nat} {D : List Deferred} {E : Env} {B : Base} {G : Gh} {L : List Own} {K : Act → World → Prop} {Q : Exit → Act → World → Prop} {ty : TypeId} {pos : String} {aft : Array Edge} {gd : Option (Nat × Bool)} {dd : Nat}
/-- What an append hands back, written out. -/
theorem c_apX {v : Value} {m k b c : Nat} {s x : Operand} {T el T0 : TypeId} {desc : TypeDesc} {size bytes s1 b1 : Nat} {z1 zero : Value} {zs xs news : List Value} {fr : Nat × Nat} {L' : List Own} [TI P T (.slice el) s1 b1 z1] [TI P el desc size bytes zero] [ha : AccI L v el size m xs L'] [hb' : BlkI L b news T0 fr]
    (hs : ev E s = some v) (hx : ev E x = some (.slice (some ⟨b, 0, none⟩) k c)) (hl : Nat.beq news.length (k * size) = true) (h1 : all1 news = true)
    (hz : cellsC zero = some zs) (hzl : Nat.beq zs.length size = true) (hb0 : Nat.beq bytes 0 = false) (hlt : Nat.blt dd n = true) (hk : Nat.blt 0 k = true) (hb : (2 * (m + k) + 768) * bytes ≤ 281474976710656)
    (kk : ∀ b' c', Nx n D ((dd, .slice (some ⟨b', 0, none⟩) (m + k) c') :: E) B G (.acc (.slice (some ⟨b', 0, none⟩) (m + k) c') el size (m + k) (xs ++ news) :: L') K) :
    Nx n D E B G L (ow P ⟨some dd, .call ⟨.builtin .append, [s, x].toArray, [T, T].toArray⟩, ty, pos, aft, gd⟩ Q K) :=
  c_append hs hx ha.del (src_cells hl (cells_own hb'.mem)) h1 (cellsC_eq hz) hzl hb0 hb hlt fun v' => Nx.shp (.head _) fun hsh => by
    have hk' : 0 < k := by simpa using hk
    obtain ⟨b', c', rfl⟩ := hsh.pos (by omega)
    exact kk b' c'
end
section
variable {P : Program} {n : Nat} {D : List Deferred} {E : Env} {M : World → Prop} {d : Option Nat} {ty : TypeId} {pos : String} {aft : Array Edge} {gd : Option (Nat × Bool)}
theorem g_lookupX {T kt et : TypeId} {x i : Operand} {b : Nat} {k : List UInt8} {r : Option Value} {kvs : List (List UInt8 × Value)} {s1 b1 s2 b2 s3 b3 : Nat} {z1 z2 z3 v : Value} {de : TypeDesc} [TI P T (.map kt et) s1 b1 z1] [TI P kt .string s2 b2 z2] [TI P et de s3 b3 z3]
    (hx : ev E x = some (.map (some b))) (hi : ev E i = some (S k)) (hm : MapAt M b kvs) (hk : kvF kvs k = r) (hv : r.getD z3 = v) : Gives P n D E M ⟨d, .lookup T x i false, ty, pos, aft, gd⟩ v := by
  subst hv; subst hk; exact g_lookup hx hi hm
end
section
variable {P : Program} {n : Nat} {D : List Deferred} {E : Env} {M : World → Prop} {d : Option Nat} {ty : TypeId} {pos : String} {aft : Array Edge} {gd : Option (Nat × Bool)}
variable {α : Type} [Inhabited α] {f : α → List Value}
/-- A part of a row. -/
theorem g_ldRA {T : TypeId} {x : Operand} {desc : TypeDesc} {size sz bytes b o i k : Nat} {zero : Value} {vs : List Value} {G0 : Gh} {L0 : List Own} {cs : List α} [TI P T desc size bytes zero] [RowF f sz] [Kn M G0 L0] (hx : ev E x = some (Pt b (o + i * sz + k))) (ha : aggD desc = true) (hs : Seg G0 b o (rows f cs)) (hi : i < cs.length) (hv : takeC (f (nth cs i)) k size = some vs) (hl : Nat.beq vs.length size = true) :
    Gives P n D E M ⟨d, .load T x, ty, pos, aft, gd⟩ (Ag vs) := g_loadA (size := size) hx ha (Nat.eq_of_beq_eq_true hl) (by
  have h : CellsOf M b (o + i * sz) (f (nth cs i)) := CellsOf.mk fun j v hj => by
    have hlt : j < sz := by have := (List.getElem?_eq_some_iff.1 hj).1; rwa [RowF.len] at this
    have := (cells_seg (S := M) hs).go (i * sz + j) v (by rw [rows_get hi hlt]; exact hj)
    rwa [← Nat.add_assoc] at this
  exact h.take hv)
end
section
variable {P : Program} {n : Nat} {D : List Deferred} {E : Env} {M : World → Prop} {d : Option Nat} {ty : TypeId} {pos : String} {aft : Array Edge} {gd : Option (Nat × Bool)}
variable {α : Type} [Inhabited α] {f : α → List Value}
/-- Rows of one cell. -/
theorem g_ldR1x {T : TypeId} {x : Operand} {desc : TypeDesc} {size bytes b o i : Nat} {zero v : Value} {G0 : Gh} {L0 : List Own} {cs : List α} {y : α} [TI P T desc size bytes zero] [RowF f 1] [Kn M G0 L0] (hx : ev E x = some (Pt b (o + i * 1))) (ha : aggD desc = false) (hs : Seg G0 b o (rows f cs)) (hi : i < cs.length) (hy : nth cs i = y) (hv : (f y)[0]? = some v) :
    Gives P n D E M ⟨d, .load T x, ty, pos, aft, gd⟩ v := g_load hx ha (by
  have := (cells_seg (S := M) hs).go (i * 1 + 0) v (by rw [rows_get hi (by omega), hy]; exact hv)
  simpa using this)
end
end Go.E
/-! EngR -/
namespace Go.E
abbrev Pr := List UInt8 × List UInt8
def mkPs : List Pr → Nat → List MapEntry
  | [], _ => []
  | p :: r, i => { key := Ag [S p.1, S p.2], val := Bo true, born := i } :: mkPs r (i + 1)
theorem mkPs_snoc (p : Pr) : ∀ (ps : List Pr) (i : Nat), mkPs (ps ++ [p]) i = mkPs ps i ++ [{ key := Ag [S p.1, S p.2], val := Bo true, born := i + ps.length }]
  | [], i => rfl
  | q :: r, i => by
    have := mkPs_snoc p r (i + 1)
    simp only [List.cons_append, mkPs, this, List.length_cons]
    rw [show i + 1 + r.length = i + (r.length + 1) by omega]
theorem mkPs_mem {e : MapEntry} : ∀ {ps : List Pr} {i : Nat}, e ∈ mkPs ps i → ∃ p ∈ ps, e.key = Ag [S p.1, S p.2] ∧ e.val = Bo true
  | [], _, h => by simp [mkPs] at h
  | p :: r, i, h => by
    rcases List.mem_cons.1 h with rfl | h
    · exact ⟨p, .head _, rfl, rfl⟩
    · obtain ⟨q, h1, h2⟩ := mkPs_mem h
      exact ⟨q, .tail _ h1, h2⟩
theorem mkPs_has {p : Pr} : ∀ {ps : List Pr} {i : Nat}, p ∈ ps → ∃ e ∈ mkPs ps i, e.key = Ag [S p.1, S p.2]
  | [], _, h => by simp at h
  | q :: r, i, h => by
    rcases List.mem_cons.1 h with rfl | h
    · exact ⟨_, .head _, rfl⟩
    · obtain ⟨e, h1, h2⟩ := mkPs_has (i := i + 1) h
      exact ⟨e, .tail _ h1, h2⟩
def mapP (ps : List Pr) : Obj := .map (mkPs ps 0).toArray ps.length
theorem AgS_inj {a b c d : List UInt8} (h : Ag [S a, S b] = Ag [S c, S d]) : a = c ∧ b = d := by
  simp only [Value.agg.injEq] at h
  have h2 := congrArg Array.toList h
  simp only [List.cons.injEq, and_true] at h2
  obtain ⟨h3, h4⟩ := h2
  exact ⟨by have := h3; simp only [Value.string.injEq, ByteArray.mk.injEq] at this; simpa using congrArg Array.toList this, by have := h4; simp only [Value.string.injEq, ByteArray.mk.injEq] at this; simpa using congrArg Array.toList this⟩
/-- A type of keys that are pairs of texts. -/
class PK (P : Program) (kt : TypeId) : Prop where
  law : WideMaps.KeyLaw P kt
  some' : ∀ a b : List UInt8, a.length ≤ 1000000 → b.length ≤ 1000000 → ∃ l, keyOf P kt (Ag [S a, S b]) = some l
  gd : P.eqGuardType P.depth kt = false
  eq' : ∀ (w : World) (a b c d : List UInt8), (a.length ≤ 1000000 ∧ b.length ≤ 1000000) → (c.length ≤ 1000000 ∧ d.length ≤ 1000000) → (Op.equal kt (Ag [S a, S b]) (Ag [S c, S d])).run P w = .ok (decide (a = c ∧ b = d)) w
theorem keyOf_pair {P : Program} {kt st N : Nat} {fs : Array Field} (hT : P.underlying kt = some (.struct fs)) (hf : fs.toList.map (fun f => (f.type, f.offset)) = [(st, 0), (st, 1)]) (hn : fs.all (·.name != "_") = true) (hs : P.underlying st = some .string) (c2 : P.cellsOf kt = 2) (c1 : P.cellsOf st = 1) (hk : P.keyType kt = true) (hN : P.types.size = N + 1)
    {a b : List UInt8} (ha : a.length ≤ 1000000) (hb : b.length ≤ 1000000) : ∃ l, keyOf P kt (Ag [S a, S b]) = some l := by
  obtain ⟨l⟩ := fs
  have hlen : l.length = 2 := by have := congrArg List.length hf; simpa using this
  match l, hlen, hf with
  | [f0, f1], _, hf =>
    simp only [List.map_cons, List.map_nil, List.cons.injEq, Prod.mk.injEq, and_true] at hf
    obtain ⟨⟨t0, o0⟩, t1, o1⟩ := hf
    have hm : ∀ x : List UInt8, x.length ≤ 1000000 → (⟨x.toArray⟩ : ByteArray).size ≤ maxLen := fun x hx => by
      have e : (⟨x.toArray⟩ : ByteArray).size = x.length := by show x.toArray.size = _; simp
      have hm2 : maxLen = 9223372036854775807 := rfl
      omega
    have e1 : ∀ x : List UInt8, x.length ≤ 1000000 → P.keyLits (N + 1) st [S x] = some [.string x] := fun x hx => by
      rw [Program.keyLits]
      all_goals first | exact hs | rw [if_pos (hm x hx)]
    refine ⟨.string (keyBytes [.string a, .string b]), ?_⟩
    unfold keyOf
    rw [hT]
    dsimp only
    have hfo : (Ag [S a, S b]).formed P kt = true := by simp [Value.formed, hT, c2]
    rw [hk, hfo, hN]
    simp only [Bool.and_self, if_true]
    have e2 : P.keyLits (N + 1 + 1) kt [S a, S b] = some [.string a, .string b] := by
      unfold Program.keyLits
      rw [hT]
      dsimp only
      rw [if_pos ⟨by rw [c2]; rfl, hn⟩]
      simp only [List.mapM_cons, List.mapM_nil, t0, o0, t1, o1, c1, List.drop_zero, List.take_succ_cons, List.take_zero, List.drop_succ_cons, e1 a ha, e1 b hb]
      rfl
    show (P.keyLits (N + 1 + 1) kt [S a, S b]).map _ = _
    rw [e2]; rfl
theorem PK.mk' {P : Program} {kt st N : Nat} {fs : Array Field} (hl : laidOutB P = true) (hT : P.underlying kt = some (.struct fs)) (hf : fs.toList.map (fun f => (f.type, f.offset)) = [(st, 0), (st, 1)]) (hn : fs.all (·.name != "_") = true) (hs : P.underlying st = some .string) (c2 : P.cellsOf kt = 2) (c1 : P.cellsOf st = 1) (hk : P.keyType kt = true) (hN : P.types.size = N + 1) (hN2 : Nat.ble (N + 3) 10000 = true) (hrow : Nat.blt kt (N + 1) = true) (hgd : P.eqGuardType P.depth kt = false) : PK P kt := by
  have hwide : (match P.underlying kt with | some (.array _ _) | some (.struct _) => true | _ => false) = true := by rw [hT]
  have hN3 : N + 3 ≤ 10000 := by simpa using hN2
  have hlaw := deep_law_gate hl (by rw [hN]; omega) (k := kt) (by rw [hN]; simpa using hrow) hk hwide
  refine ⟨hlaw, fun a b ha hb => keyOf_pair hT hf hn hs c2 c1 hk hN ha hb, hgd, fun w a b c d h1 h2 => ?_⟩
  obtain ⟨l1, e1⟩ := keyOf_pair hT hf hn hs c2 c1 hk hN h1.1 h1.2
  obtain ⟨l2, e2⟩ := keyOf_pair hT hf hn hs c2 c1 hk hN h2.1 h2.2
  obtain ⟨r, hr, hiff⟩ := run_equal_deep w (m := P.types.size + 1) (by rw [hN]; omega) hk hwide e1 e2
  rw [hr]
  congr 1
  rw [Bool.eq_iff_iff, hiff, decide_eq_true_eq]
  constructor
  · intro e; subst e; exact AgS_inj (hlaw.inj e1 e2)
  · rintro ⟨rfl, rfl⟩; rw [e1] at e2; exact Option.some.inj e2
def PsW (ps : List Pr) : Prop := ∀ p ∈ ps, p.1.length ≤ 1000000 ∧ p.2.length ≤ 1000000
section
variable {P : Program} {n : Nat} {D : List Deferred} {E : Env} {M : World → Prop} {d : Option Nat} {ty : TypeId} {pos : String} {aft : Array Edge} {gd : Option (Nat × Bool)}
theorem findP {kt : TypeId} [hk : PK P kt] {w : World} {p : Pr} {ps : List Pr} (hp : p.1.length ≤ 1000000 ∧ p.2.length ≤ 1000000) (hs : PsW ps) :
    (p ∉ ps ∧ (Instr.findKey kt (Ag [S p.1, S p.2]) (mkPs ps 0)).run P w = .ok none w) ∨ (p ∈ ps ∧ ∃ j, (Instr.findKey kt (Ag [S p.1, S p.2]) (mkPs ps 0)).run P w = .ok (some (j, Bo true)) w) := by
  obtain ⟨l, hl⟩ := hk.some' p.1 p.2 hp.1 hp.2
  rcases hk.law.find w hl (mkPs ps 0) (fun e he => by
    obtain ⟨q, h1, h2, _⟩ := mkPs_mem he
    rw [h2]; exact hk.some' q.1 q.2 (hs q h1).1 (hs q h1).2) with ⟨h1, h2⟩ | ⟨j, e, h1, h2, h3⟩
  · refine .inl ⟨fun hm => ?_, h1⟩
    obtain ⟨e, he, hke⟩ := mkPs_has (i := 0) hm
    exact h2 e he hke
  · have hm := List.mem_of_getElem? h2
    obtain ⟨q, hq, hk1, hv⟩ := mkPs_mem hm
    rw [h3] at hk1
    obtain ⟨e1, e2⟩ := AgS_inj hk1
    refine .inr ⟨?_, j, by rw [h1, hv]⟩
    have : p = q := Prod.ext e1 e2
    rw [this]; exact hq
theorem g_eqP {T T' : TypeId} {x y : Operand} {a b c e : List UInt8} [hk : PK P T] (hx : ev E x = some (Ag [S a, S b])) (hy : ev E y = some (Ag [S c, S e])) (hb : (a.length ≤ 1000000 ∧ b.length ≤ 1000000) ∧ c.length ≤ 1000000 ∧ e.length ≤ 1000000) : Gives P n D E M ⟨d, .binOp .eql T x y T', ty, pos, aft, gd⟩ (Bo (decide (a = c ∧ b = e))) := Gives.mk fun a' w hs _ => by
  have h1 : (eqGuard .eql T x y (Ag [S a, S b]) (Ag [S c, S e])).run P w = .ok () w := by
    simp [eqGuard, hk.gd]
  have h2 : binOp .eql T (Ag [S a, S b]) (Ag [S c, S e]) = (do pure (.bool ((← Op.equal T (Ag [S a, S b]) (Ag [S c, S e]))))) := rfl
  simp only [execOp, hs.ev hx, hs.ev hy, Sem.run_bind, h1, Result.andThen_ok, h2, hk.eq' w a b c e hb.1 hb.2, Sem.run_pure]
theorem g_lookP {T kt et : TypeId} {x i : Operand} {b : Nat} {p q : List UInt8} {ps : List Pr} {s1 b1 s3 b3 : Nat} {z1 : Value} {G0 : Gh} {L0 : List Own} [TI P T (.map kt et) s1 b1 z1] [hk : PK P kt] [TI P et .bool s3 b3 (Bo false)] [kn : Kn M G0 L0]
    (hx : ev E x = some (.map (some b))) (hi : ev E i = some (Ag [S p, S q])) (hm : Own.blk b (mapP ps) ∈ L0) (hp : (p.length ≤ 1000000 ∧ q.length ≤ 1000000) ∧ PsW ps) : Gives P n D E M ⟨d, .lookup T x i false, ty, pos, aft, gd⟩ (Bo (decide ((p, q) ∈ ps))) := Gives.mk fun a w hs hw => by
  obtain ⟨B, G, L, _, h2, h3⟩ := kn.kn w hw
  have hb : w.heap[b]? = some (.map (mkPs ps 0).toArray ps.length) := h3.own _ (h2 _ hm)
  obtain ⟨l, hl⟩ := hk.some' p q hp.1.1 hp.1.2
  have hc : ∀ e, (Instr.checkKey e 10000 kt (Ag [S p, S q])).run P w = .ok () w := fun e => hk.law.check w e hl
  simp only [execOp, hs.ev hx, hs.ev hi, Instr.lookup, Sem.run_bind, run_und (T := T) (desc := .map kt et) (size := s1) (bytes := b1) (zero := z1), Result.andThen_ok, MapKept.run_getObj_map hb, Sem.run_pure, hc]
  rcases findP (P := P) (kt := kt) (w := w) (p := (p, q)) hp.1 hp.2 with ⟨h4, h5⟩ | ⟨h4, j, h5⟩
  · dsimp only at h5
    rw [h5]; simp [run_zero (T := et) (desc := .bool) (size := s3) (bytes := b3) (zero := Bo false), h4]
  · dsimp only at h5
    rw [h5]; simp [h4]
end
section
variable {P : Program} {n : Nat} {D : List Deferred} {E : Env} {B : Base} {G G0 : Gh} {L : List Own} {K : Act → World → Prop} {Q : Exit → Act → World → Prop} {ty : TypeId} {pos : String} {aft : Array Edge} {gd : Option (Nat × Bool)} {dd : Nat}
class MapIP (L : List Own) (b : Nat) (ps : outParam (List Pr)) : Prop where
  mem : Own.blk b (mapP ps) ∈ L
instance {b : Nat} {ps : List Pr} {r : List Own} : MapIP (.blk b (mapP ps) :: r) b ps := ⟨.head _⟩
instance {b : Nat} {ps : List Pr} {z : Own} {r : List Own} [h : MapIP r b ps] : MapIP (z :: r) b ps := ⟨.tail _ h.mem⟩
class UpdP (b : Nat) (ps' : List Pr) (L : List Own) (ps : outParam (List Pr)) (L' : outParam (List Own)) : Prop where
  upd : UpdO (.blk b (mapP ps)) (.blk b (mapP ps')) L L'
instance {b : Nat} {ps ps' : List Pr} {r : List Own} : UpdP b ps' (.blk b (mapP ps) :: r) ps (.blk b (mapP ps') :: r) := ⟨.here⟩
instance {b : Nat} {ps ps' : List Pr} {z : Own} {r r' : List Own} [h : UpdP b ps' r ps r'] : UpdP b ps' (z :: r) ps (z :: r') := ⟨.there h.upd⟩
class DelP (L : List Own) (b : Nat) (ps : outParam (List Pr)) (R : outParam (List Own)) : Prop where
  del : Del (.blk b (mapP ps)) L R
instance {b : Nat} {ps : List Pr} {r : List Own} : DelP (.blk b (mapP ps) :: r) b ps r := ⟨.here⟩
instance {b : Nat} {ps : List Pr} {z : Own} {r r' : List Own} [h : DelP r b ps r'] : DelP (z :: r) b ps (z :: r') := ⟨.there h.del⟩
theorem c_mkp {T : TypeId} (hlt : Nat.blt dd n = true)
    (k : ∀ b, Nx n D ((dd, .map (some b)) :: E) B G (.blk b (mapP []) :: L) K) : Nx n D E B G L (ow P ⟨some dd, .makeMap T none, ty, pos, aft, gd⟩ Q K) := c_mkm hlt k
/-- A new key. -/
theorem c_mupP {T kt et : TypeId} {x i y : Operand} {b : Nat} {p q : List UInt8} {ps ps0 : List Pr} {s1 b1 : Nat} {z1 : Value} {L' : List Own} [TI P T (.map kt et) s1 b1 z1] [hk : PK P kt] [MapIP L b ps] [hu : UpdP b (ps ++ [(p, q)]) L ps0 L']
    (hx : ev E x = some (.map (some b))) (hi : ev E i = some (Ag [S p, S q])) (hy : ev E y = some (Bo true)) (he : ps0 = ps) (hp : (p.length ≤ 1000000 ∧ q.length ≤ 1000000) ∧ PsW ps) (hno : (p, q) ∉ ps)
    (h : Nx n D E B G L' K) : Nx n D E B G L (ow P ⟨none, .mapUpdate T x i y, ty, pos, aft, gd⟩ Q K) := Nx.mk fun a w hs hw => by
  subst he
  unfold ow Oper.wp
  have hb : w.heap[b]? = some (mapP ps0) := hw.own _ hu.upd.mem
  obtain ⟨l, hl⟩ := hk.some' p q hp.1.1 hp.1.2
  have hc : ∀ e, (Instr.checkKey e 10000 kt (Ag [S p, S q])).run P w = .ok () w := fun e => hk.law.check w e hl
  have hfk : (Instr.findKey kt (Ag [S p, S q]) (mkPs ps0 0)).run P w = .ok none w := by
    rcases findP (P := P) (kt := kt) (w := w) (p := (p, q)) hp.1 hp.2 with ⟨_, h5⟩ | ⟨h4, _⟩
    · exact h5
    · exact absurd h4 hno
  have e : mapP (ps0 ++ [(p, q)]) = .map ((mkPs ps0 0).toArray.push { key := Ag [S p, S q], val := Bo true, born := ps0.length }) (ps0.length + 1) := by
    unfold mapP; rw [mkPs_snoc]; simp
  have : (execOp a.eval ⟨none, .mapUpdate T x i y, ty, pos, aft, gd⟩).run P w = .ok .skip (setBlk w b (mapP (ps0 ++ [(p, q)]))) := by
    rw [e]
    have hb' : w.heap[b]? = some (.map (mkPs ps0 0).toArray ps0.length) := hb
    simp only [execOp, hs.ev hx, hs.ev hi, hs.ev hy, Instr.mapUpdate, Sem.run_bind, run_und (T := T) (desc := .map kt et) (size := s1) (bytes := b1) (zero := z1), Result.andThen_ok, MapKept.run_getObj_map hb', hc, hfk, MapKept.run_setObj_map _ hb', Sem.run_pure]
    rfl
  rw [this, Oper.upon_skip]
  exact h.go _ _ hs (hw.setBlk hu.upd)
/-- A callee is handed a map. -/
theorem c_mapg {fo : Operand} {l : List Operand} {tys : Array TypeId} {d : Nat} {g : Option (Nat × Bool)} {f : FuncId} {fi ca az vs : List Value} {b : Nat} {ps : List Pr} {R : List Own} {Post : Value → List Own → Prop}
    [hd : DelP L b ps R] (hf : ev E fo = some (.func (.func f) fi.toArray ca.toArray)) (ha : evs E l = some az) (hv : fi ++ az ++ ca = vs) (hc : FnG P f vs G [.blk b (mapP ps)] Post) (hlt : Nat.blt d n = true)
    (k : ∀ v L', Post v L' → Nx n D ((d, v) :: E) B G (L' ++ R) K) : Nx n D E B G L (ow P ⟨some d, .call ⟨.value fo, l.toArray, tys⟩, ty, pos, aft, g⟩ Q K) :=
  c_call (Lp := [.blk b (mapP ps)]) hf ha hv hc hd.del.perm hlt fun v G' L' h => by obtain ⟨rfl, h⟩ := h; exact k v L' h
/-- A callee is handed a block and an own slice. -/
theorem c_m2g {fo : Operand} {l : List Operand} {tys : Array TypeId} {d : Nat} {g : Option (Nat × Bool)} {f : FuncId} {fi ca az vs : List Value} {b : Nat} {cs xs : List Value} {T el : TypeId} {u : Value} {sz m : Nat} {R1 R : List Own} {Post : Value → List Own → Prop}
    [hd : DelB L b cs T R1] [ha2 : AccI R1 u el sz m xs R] (hf : ev E fo = some (.func (.func f) fi.toArray ca.toArray)) (ha : evs E l = some az) (hv : fi ++ az ++ ca = vs) (hc : FnG P f vs G [.blk b (.cells cs.toArray T (0, 0)), .acc u el sz m xs] Post) (hlt : Nat.blt d n = true)
    (k : ∀ v L', Post v L' → Nx n D ((d, v) :: E) B G (L' ++ R) K) : Nx n D E B G L (ow P ⟨some d, .call ⟨.value fo, l.toArray, tys⟩, ty, pos, aft, g⟩ Q K) :=
  c_call (Lp := [.blk b (.cells cs.toArray T (0, 0)), .acc u el sz m xs]) hf ha hv hc (hd.del.perm.trans (ha2.del.perm.cons _)) hlt fun v G' L' h => by obtain ⟨rfl, h⟩ := h; exact k v L' h
end
end Go.E
/-! Oa -/
namespace Go.E
set_option maxRecDepth 20000
set_option maxHeartbeats 2000000
def tag0 (t : Ty) : Int := (t.fields.headD default).tag
/-- The standing value of a kind; the number bounds the steps. -/
def standN (ts : List Ty) : Nat → List UInt8 → List UInt8
  | 0, _ => []
  | _ + 1, [] => []
  | n + 1, c :: r => if c.toNat = 91 then [91, 93] else if c.toNat = 63 then [45] else
      match refT ts (c :: r) with
      | none => plainOf (c :: r)
      | some t => if t.sort = 82 then [123, 125] else if t.sort = 69 then 35 :: decI (tag0 t) else 60 :: (decI (tag0 t) ++ 61 :: (standN ts n (kind0 t) ++ [62]))
def standK (ts : List Ty) (k : List UInt8) : List UInt8 := standN ts (ts.length + 2) k
def standF (ts : List Ty) (f : Fld) : List UInt8 := if f.stand = [] then standK ts f.kind else f.stand
def fldT (fs : List Fld) (tag : Int) : Option Fld := fs.find? fun f => decide (f.tag = tag)
/-- The fields of an older type, one after the other. -/
def evoF (ts us : List Ty) (kk : List UInt8 → List UInt8 → List Pr → Bool × List Pr) (t u : Ty) : List Fld → List Pr → Bool × List Pr
  | [], m => (true, m)
  | g :: gs, m => match fldT t.fields g.tag with
    | none => if u.sort = 82 then evoF ts us kk t u gs m else (false, m)
    | some f => if u.sort = 69 then evoF ts us kk t u gs m
        else if (kk f.kind g.kind m).1 = false then (false, (kk f.kind g.kind m).2)
        else if u.sort = 82 ∧ standF ts f ≠ standF us g then (false, (kk f.kind g.kind m).2)
        else evoF ts us kk t u gs (kk f.kind g.kind m).2
def evoT (ts us : List Ty) (kk : List UInt8 → List UInt8 → List Pr → Bool × List Pr) (t u : Ty) (m : List Pr) : Bool × List Pr :=
  if t.sort ≠ u.sort then (false, m) else evoF ts us kk t u u.fields m
def evoP (ts us : List Ty) (kk : List UInt8 → List UInt8 → List Pr → Bool × List Pr) (t u : Ty) (m : List Pr) : Bool × List Pr :=
  if (t.name, u.name) ∈ m then (true, m) else evoT ts us kk t u (m ++ [(t.name, u.name)])
def evoK (ts us : List Ty) : Nat → List UInt8 → List UInt8 → List Pr → Bool × List Pr
  | 0, _, _, m => (false, m)
  | n + 1, k1, k2, m => if sg k1 ≠ sg k2 then (false, m)
    else match refT ts (core k1), refT us (core k2) with
      | some t, some u => evoP ts us (evoK ts us n) t u m
      | _, _ => (decide (core k1 = core k2), m)
/-- What has been asked for so far. -/
structure AskW (ts us : List Ty) (m : List Pr) : Prop where
  nd : m.Nodup
  mem : ∀ p ∈ m, (∃ t ∈ ts, t.name = p.1) ∧ ∃ u ∈ us, u.name = p.2
theorem AskW.nil {ts us : List Ty} : AskW ts us [] := ⟨List.nodup_nil, by simp⟩
theorem AskW.snoc {ts us : List Ty} {m : List Pr} {t u : Ty} (h : AskW ts us m) (ht : t ∈ ts) (hu : u ∈ us) (hn : (t.name, u.name) ∉ m) : AskW ts us (m ++ [(t.name, u.name)]) :=
  ⟨List.nodup_append.2 ⟨h.nd, by simp, fun a ha b hb e => by simp only [List.mem_singleton] at hb; subst hb; subst e; exact hn ha⟩, fun p hp => by
    rcases List.mem_append.1 hp with hp | hp
    · exact h.mem p hp
    · simp only [List.mem_singleton] at hp; subst hp; exact ⟨⟨t, ht, rfl⟩, u, hu, rfl⟩⟩
theorem nodup_le {α : Type} [DecidableEq α] : ∀ {l l' : List α}, l.Nodup → (∀ x ∈ l, x ∈ l') → l.length ≤ l'.length
  | [], _, _, _ => Nat.zero_le _
  | a :: l, l', hn, hs => by
    rw [List.nodup_cons] at hn
    have ha := hs a (.head _)
    have := nodup_le (l := l) (l' := l'.erase a) hn.2 fun x hx => by
      have hx' := hs x (.tail _ hx)
      exact (List.mem_erase_of_ne (fun e => hn.1 (by rw [← e]; exact hx))).2 hx'
    rw [List.length_erase_of_mem ha] at this
    have hp : 0 < l'.length := List.length_pos_of_mem ha
    simp only [List.length_cons]; omega
theorem AskW.len {ts us : List Ty} {m : List Pr} (h : AskW ts us m) : m.length ≤ ts.length * us.length := by
  have h1 : m.length ≤ (ts.flatMap fun t => us.map fun u => (t.name, u.name)).length := nodup_le h.nd fun p hp => by
    obtain ⟨⟨t, ht, e1⟩, u, hu, e2⟩ := h.mem p hp
    exact List.mem_flatMap.2 ⟨t, ht, List.mem_map.2 ⟨u, hu, by rw [e1, e2]⟩⟩
  have h2 : ∀ ts : List Ty, (ts.flatMap fun t => us.map fun u => (t.name, u.name)).length = ts.length * us.length := fun ts => by
    induction ts with
    | nil => simp
    | cons t ts ih => rw [List.flatMap_cons, List.length_append, ih, List.length_map, List.length_cons, Nat.succ_mul, Nat.add_comm]
  rw [h2] at h1; exact h1
/-- What an answer leaves behind. -/
def Grows (ts us : List Ty) (m m' : List Pr) : Prop := AskW ts us m' ∧ m.length ≤ m'.length
theorem evoF_grows {ts us : List Ty} {kk : List UInt8 → List UInt8 → List Pr → Bool × List Pr} {t u : Ty} (hk : ∀ (f g : Fld) (m : List Pr), AskW ts us m → Grows ts us m (kk f.kind g.kind m).2) :
    ∀ (gs : List Fld) (m : List Pr), AskW ts us m → Grows ts us m (evoF ts us kk t u gs m).2
  | [], m, h => ⟨h, Nat.le_refl _⟩
  | g :: gs, m, h => by
    unfold evoF
    split
    · split
      · exact evoF_grows hk gs m h
      · exact ⟨h, Nat.le_refl _⟩
    · rename_i f _
      have h1 := hk f g m h
      split
      · exact evoF_grows hk gs m h
      · split
        · exact h1
        · split
          · exact h1
          · have h2 := evoF_grows (t := t) (u := u) hk gs _ h1.1
            exact ⟨h2.1, Nat.le_trans h1.2 h2.2⟩
theorem evoP_grows {ts us : List Ty} {kk : List UInt8 → List UInt8 → List Pr → Bool × List Pr} {t u : Ty} (hk : ∀ (f g : Fld) (m : List Pr), AskW ts us m → Grows ts us m (kk f.kind g.kind m).2) (ht : t ∈ ts) (hu : u ∈ us) (m : List Pr) (h : AskW ts us m) : Grows ts us m (evoP ts us kk t u m).2 := by
  unfold evoP
  split
  · exact ⟨h, Nat.le_refl _⟩
  · rename_i hn
    have h1 := h.snoc ht hu hn
    unfold evoT
    split
    · exact ⟨h1, by simp⟩
    · have h2 := evoF_grows (t := t) (u := u) hk u.fields _ h1
      exact ⟨h2.1, by have := h2.2; simp at this ⊢; omega⟩
theorem evoK_grows {ts us : List Ty} : ∀ (n : Nat) (k1 k2 : List UInt8) (m : List Pr), AskW ts us m → Grows ts us m (evoK ts us n k1 k2 m).2
  | 0, _, _, m, h => ⟨h, Nat.le_refl _⟩
  | n + 1, k1, k2, m, h => by
    unfold evoK
    split
    · exact ⟨h, Nat.le_refl _⟩
    · split
      · rename_i t u ht hu
        exact evoP_grows (fun f g m h => evoK_grows n f.kind g.kind m h) (refT_mem ht) (refT_mem hu) m h
      · exact ⟨h, Nat.le_refl _⟩
/-- A newer kind reads an older one. -/
def evReads (s k r l : List UInt8) : Bool := match schemaOf s, schemaOf r with
  | some ts, some us => (kindIn ts k && kindIn us l) && (evoK ts us (ts.length * us.length + 1) k l []).1
  | _, _ => false
theorem kind_refT {ts : List Ty} {k : List UInt8} (h : kindIn ts k = true) (hr : (refN (core k)).isSome = true) : ∃ t, refT ts (core k) = some t := by
  unfold kindIn hasK at h
  unfold refT
  cases hc : refN (core k) with
  | none => rw [hc] at hr; cases hr
  | some n =>
    rw [hc] at h
    simp only [Bool.and_eq_true] at h
    obtain ⟨_, h⟩ := h
    exact Option.isSome_iff_exists.1 h
end Go.E
/-! Nb -/
namespace Go.E
set_option maxRecDepth 20000
set_option maxHeartbeats 2000000
open Go.Proofs
variable {G : Gh}
/-- Is a byte one of a text? -/
def inS (cs : List UInt8) (c : Nat) : Bool := cs.any fun d => d.toNat == c
def trimL (p : Nat → Bool) : List UInt8 → List UInt8
  | [] => []
  | c :: r => if p c.toNat = true then trimL p r else c :: r
def trimR (p : Nat → Bool) (s : List UInt8) : List UInt8 := (trimL p s.reverse).reverse
abbrev tAs : TypeId := 109
abbrev bT : TypeId := 4
def asO (b : Nat) (p : Nat → Bool) : Own := .blk b (.cells (bools p).toArray tAs (0, 0))
theorem c_asContains {b : Nat} {p : Nat → Bool} {c : Nat} (h : c < 256) : FnG Tryz.prog 70 [Pt b 0, U8 c] G [.blk b (.cells (bools p).toArray tAs (0, 0))] (fun v L' => v = Bo (p c) ∧ L' = [.blk b (.cells (bools p).toArray tAs (0, 0))]) := by
  refine g_enter [(0, _), (1, _)] Tryz.func70 (by kernel_rfl) Tryz.ntmps70 rfl rfl (by repeat (first | exact trivial | refine ⟨rfl, ?_⟩)) fun B hB hW => ?_
  repeat' (first | (refine run (t := tb) 400 rfl ?_ ?_; (focus (repeat' ((exact trivial))))) | (refine k_op rfl ?_; first | (refine v_op (g_iaddrA rfl rfl ?_) rfl rfl ?_; (focus ((omega); done))) | refine v_op (g_ldBo rfl rfl rfl (by assumption)) rfl rfl ?_))
  refine k_rr (vs := [_]) rfl ⟨rfl, trivial⟩ rfl (List.Sublist.refl _) ⟨rfl, rfl, rfl⟩
theorem bt0_cons {s : List UInt8} (h : s ≠ []) : ∃ c r, s = c :: r ∧ bt s 0 = c.toNat := by
  cases s with
  | nil => exact absurd rfl h
  | cons c r => exact ⟨c, r, rfl, bt_zero c r⟩
theorem c_trimLeftASCII {b : Nat} {p : Nat → Bool} {s : List UInt8} : FnG Tryz.prog 55 [S s, Pt b 0] G [.blk b (.cells (bools p).toArray tAs (0, 0))] (fun v L' => v = S (trimL p s) ∧ L' = [.blk b (.cells (bools p).toArray tAs (0, 0))]) := by
  refine g_enter [(0, _), (1, _)] Tryz.func55 (by kernel_rfl) Tryz.ntmps55 rfl rfl (by repeat (first | exact trivial | refine ⟨rfl, ?_⟩)) fun B hB hW => ?_
  repeat' ((refine run (t := tb) 400 rfl ?_ ?_; (focus (repeat' ((exact trivial))))))
  refine k_loop (ι := List UInt8) (fun t => trimL p t = trimL p s) (fun t => [(0, S t), (1, Pt b 0)]) (fun _ => G) (fun t => [.blk b (.cells (bools p).toArray tAs (0, 0))]) (fun t => t.length) s ?_ (by repeat (first | exact trivial | refine ⟨rfl, ?_⟩)) rfl (by repeat ((exact List.Sublist.refl _))) (fun t Ht => ?_)
  · rfl
  match t, Ht with
  | [], Ht =>
    repeat' (first | (refine run (t := tb) 400 rfl ?_ ?_; (focus (repeat' ((exact trivial))))) | (refine k_ff rfl ?_ ?_; (focus (((rfl)); done))))
    refine k_rr (vs := [_]) rfl ⟨rfl, trivial⟩ rfl (List.Sublist.refl _) ⟨rfl, by rw [← Ht]; rfl, rfl⟩
  | c :: r, Ht =>
    have hlt : bt (c :: r) (Int.toNat 0) < 256 := bt_lt _ _
    have e0 : bt (c :: r) (Int.toNat 0) = c.toNat := bt_zero c r
    have hcons : (c :: r).length = r.length + 1 := rfl
    rw [trimL] at Ht
    by_cases hp : p (bt (c :: r) (Int.toNat 0)) = true
    · have hp2 : (!p (bt (c :: r) (Int.toNat 0))) = false := by rw [hp]; rfl
      repeat' (first | (refine run (t := tb) 400 rfl ?_ ?_; (focus (repeat' (first | exact trivial | apply And.intro | omega)))) | (refine k_op rfl ?_; (refine c_m1g rfl rfl rfl (c_asContains (by (repeat ((assumption))); done)) rfl ?_; rintro _ _ ⟨rfl, rfl⟩; dsimp only [List.cons_append, List.nil_append])) | (refine k_tt rfl ?_ ?_; (focus (((refine decide_eq_true ?_; (omega))); done))) | (refine k_ff rfl ?_ ?_; (focus (((assumption)); done))))
      refine k_rd r (by rw [← Ht, ← e0, if_pos hp]) (by omega) (by repeat (first | exact trivial | refine ⟨rfl, ?_⟩)) rfl (by repeat ((exact List.Sublist.refl _)))
    · have hp2 : (!p (bt (c :: r) (Int.toNat 0))) = true := by simpa using hp
      repeat' (first | (refine run (t := tb) 400 rfl ?_ ?_; (focus (repeat' (first | exact trivial | apply And.intro | omega)))) | (refine k_op rfl ?_; (refine c_m1g rfl rfl rfl (c_asContains (by (repeat ((assumption))); done)) rfl ?_; rintro _ _ ⟨rfl, rfl⟩; dsimp only [List.cons_append, List.nil_append])) | (refine k_tt rfl ?_ ?_; (focus ((first | assumption | (refine decide_eq_true ?_; (omega))); done))))
      refine k_rr (vs := [_]) rfl ⟨rfl, trivial⟩ rfl (List.Sublist.refl _) ⟨rfl, by rw [← Ht, ← e0, if_neg hp]; rfl, rfl⟩
theorem trimL_len (p : Nat → Bool) : ∀ s : List UInt8, (trimL p s).length ≤ s.length
  | [] => Nat.le_refl _
  | c :: r => by
    unfold trimL
    split
    · have := trimL_len p r; simp; omega
    · exact Nat.le_refl _
theorem trimR_len (p : Nat → Bool) (s : List UInt8) : (trimR p s).length ≤ s.length := by have := trimL_len p s.reverse; simpa [trimR] using this
theorem trimR_snoc (p : Nat → Bool) (s : List UInt8) (c : UInt8) : trimR p (s ++ [c]) = if p c.toNat = true then trimR p s else s ++ [c] := by
  unfold trimR
  rw [List.reverse_append]
  simp only [List.reverse_cons, List.reverse_nil, List.nil_append, List.singleton_append, trimL]
  split <;> simp
theorem c_trimRightASCII {b : Nat} {p : Nat → Bool} {s : List UInt8} (hs : s.length ≤ 1000000000) : FnG Tryz.prog 56 [S s, Pt b 0] G [.blk b (.cells (bools p).toArray tAs (0, 0))] (fun v L' => v = S (trimR p s) ∧ L' = [.blk b (.cells (bools p).toArray tAs (0, 0))]) := by
  refine g_enter [(0, _), (1, _)] Tryz.func56 (by kernel_rfl) Tryz.ntmps56 rfl rfl (by repeat (first | exact trivial | refine ⟨rfl, ?_⟩)) fun B hB hW => ?_
  repeat' ((refine run (t := tb) 400 rfl ?_ ?_; (focus (repeat' ((exact trivial))))))
  refine k_loop (ι := List UInt8) (fun t => t.length ≤ 1000000000 ∧ trimR p t = trimR p s) (fun t => [(0, S t), (1, Pt b 0)]) (fun _ => G) (fun t => [.blk b (.cells (bools p).toArray tAs (0, 0))]) (fun t => t.length) s ?_ (by repeat (first | exact trivial | refine ⟨rfl, ?_⟩)) rfl (by repeat ((exact List.Sublist.refl _))) (fun t Ht => ?_)
  · exact ⟨hs, rfl⟩
  have hcase : t = [] ∨ ∃ r c, t = r ++ [c] := by
    rcases List.eq_nil_or_concat t with h | ⟨r, c, h⟩
    · exact .inl h
    · exact .inr ⟨r, c, by rw [h, List.concat_eq_append]⟩
  rcases hcase with rfl | ⟨r, c, rfl⟩
  · repeat' (first | (refine run (t := tb) 400 rfl ?_ ?_; (focus (repeat' ((exact trivial))))) | (refine k_ff rfl ?_ ?_; (focus (((rfl)); done))))
    refine k_rr (vs := [_]) rfl ⟨rfl, trivial⟩ rfl (List.Sublist.refl _) ⟨rfl, by rw [← Ht.2]; rfl, rfl⟩
  · have hcons : (r ++ [c]).length = r.length + 1 := by simp
    have e1 : (((r ++ [c]).length : Nat) : Int) - 1 = (r.length : Nat) := by omega
    have e2 : ((((r ++ [c]).length : Nat) : Int) - 1).toNat = r.length := by omega
    have e0 : bt (r ++ [c]) ((((r ++ [c]).length : Nat) : Int) - 1).toNat = c.toNat := by rw [e2]; simp [bt, List.getD]
    have hlt : bt (r ++ [c]) ((((r ++ [c]).length : Nat) : Int) - 1).toNat < 256 := bt_lt _ _
    have e3 : (r ++ [c]).take ((((r ++ [c]).length : Nat) : Int) - 1).toNat = r := by rw [e2]; simp
    have Ht2 := Ht.2
    rw [trimR_snoc] at Ht2
    have hne : r ++ [c] ≠ [] := by simp
    by_cases hp : p (bt (r ++ [c]) ((((r ++ [c]).length : Nat) : Int) - 1).toNat) = true
    · have hp2 : (!p (bt (r ++ [c]) ((((r ++ [c]).length : Nat) : Int) - 1).toNat)) = false := by rw [hp]; rfl
      repeat' (first | (refine run (t := tb) 400 rfl ?_ ?_; (focus (repeat' (first | exact trivial | apply And.intro | omega)))) | (refine k_op rfl ?_; (refine c_m1g rfl rfl rfl (c_asContains (by (repeat ((assumption))); done)) rfl ?_; rintro _ _ ⟨rfl, rfl⟩; dsimp only [List.cons_append, List.nil_append])) | (refine k_tt rfl ?_ ?_; (focus (((refine decide_eq_true ?_; (omega))); done))) | (refine k_ff rfl ?_ ?_; (focus (((assumption)); done))))
      refine k_rd r ⟨by omega, by rw [← Ht2, ← e0, if_pos hp]⟩ (by omega) ?_ rfl (by repeat ((exact List.Sublist.refl _)))
      rw [e3]; repeat (first | exact trivial | refine ⟨rfl, ?_⟩)
    · have hp2 : (!p (bt (r ++ [c]) ((((r ++ [c]).length : Nat) : Int) - 1).toNat)) = true := by simpa using hp
      repeat' (first | (refine run (t := tb) 400 rfl ?_ ?_; (focus (repeat' (first | exact trivial | apply And.intro | omega)))) | (refine k_op rfl ?_; (refine c_m1g rfl rfl rfl (c_asContains (by (repeat ((assumption))); done)) rfl ?_; rintro _ _ ⟨rfl, rfl⟩; dsimp only [List.cons_append, List.nil_append])) | (refine k_tt rfl ?_ ?_; (focus ((first | assumption | (refine decide_eq_true ?_; (omega))); done))))
      refine k_rr (vs := [_]) rfl ⟨rfl, trivial⟩ rfl (List.Sublist.refl _) ⟨rfl, by rw [← Ht2, ← e0, if_neg hp]; rfl, rfl⟩
theorem inS_snoc (cs : List UInt8) (i : Nat) (h : i < cs.length) : (fun x => inS (cs.take i) x || x == bt cs i) = inS (cs.take (i + 1)) := by
  funext x
  have e : bt cs i = (cs[i]).toNat := by simp [bt, List.getD, List.getElem?_eq_getElem h]
  have e2 : (x == (cs[i]).toNat) = ((cs[i]).toNat == x) := by rw [Bool.eq_iff_iff, beq_iff_eq, beq_iff_eq]; exact eq_comm
  rw [List.take_succ_eq_append_getElem h, e, e2]
  simp only [inS, List.any_append, List.any_cons, List.any_nil, Bool.or_false]
theorem inS_nil : inS [] = noneB := rfl
theorem all_bt {cs : List UInt8} (h : cs.all (fun c => decide (c.toNat < 128)) = true) : ∀ i, i < cs.length → bt cs i < 128 := fun i hi => by
  have e : bt cs i = (cs[i]).toNat := by simp [bt, List.getD, List.getElem?_eq_getElem hi]
  rw [List.all_eq_true] at h
  rw [e]
  simpa using h cs[i] (List.getElem_mem hi)
theorem c_makeASCIISet {cs : List UInt8} (hc : ∀ i, i < cs.length → bt cs i < 128) (hl : cs.length ≤ 1000) : PuG Tryz.prog 54 [S cs] G (· = Tu [Ag (bools (inS cs)), Bo true]) := by
  refine p_enter [(0, _)] Tryz.func54 (by kernel_rfl) Tryz.ntmps54 rfl rfl (by repeat (first | exact trivial | refine ⟨rfl, ?_⟩)) fun B hB => ?_
  repeat' (first | (refine run (t := tb) 400 rfl ?_ ?_; (focus (repeat' ((exact trivial))))) | (refine k_op rfl ?_; (refine c_alBs rfl rfl fun _ => ?_)))
  rename_i x
  refine k_loop (ι := Nat) (fun i => i ≤ cs.length) (fun i => [(0, S cs), (2, Pt x 0), (4, I i)]) (fun _ => G) (fun i => [.blk x (.cells (bools (inS (cs.take i))).toArray tAs (0, 0))]) (fun i => cs.length - i) 0 ?_ (by repeat (first | exact trivial | refine ⟨rfl, ?_⟩)) rfl (by repeat ((exact List.Sublist.refl _))) (fun i Hi => ?_)
  · exact Nat.zero_le _
  by_cases hi : i < cs.length
  · have h1 : bt cs ((i : Int).toNat) < 128 := hc i hi
    have h2 : bt cs ((i : Int).toNat) < 256 := by omega
    repeat' (first | (refine run (t := tb) 400 rfl ?_ ?_; (focus (repeat' (first | exact trivial | apply And.intro | omega)))) | (refine k_op rfl ?_; first | refine c_stBo rfl rfl rfl rfl (by assumption) ?_ | (refine v_op (g_iaddrA rfl rfl ?_) rfl rfl ?_; (focus ((omega); done)))) | (refine k_tt rfl ?_ ?_; (focus (((refine decide_eq_true ?_; (omega))); done))) | (refine k_ff rfl ?_ ?_; (focus (((refine decide_eq_false ?_; (omega))); done))))
    refine k_rd (i + 1) (by omega) (by omega) (by repeat (first | exact trivial | refine ⟨rfl, ?_⟩)) rfl (by rw [← inS_snoc cs i hi]; repeat ((exact List.Sublist.refl _)))
  · have ei : i = cs.length := by omega
    subst ei
    repeat' (first | (refine run (t := tb) 400 rfl ?_ ?_; (focus (repeat' ((exact trivial))))) | (refine k_op rfl ?_; first | refine v_op (g_ldBs rfl rfl rfl rfl) rfl rfl ?_ | refine c_stBs rfl rfl rfl rfl ?_) | (refine k_ff rfl ?_ ?_; (focus (((refine decide_eq_false ?_; (omega))); done))))
    refine k_rr (vs := [_, _]) rfl ⟨rc_Bs rfl rfl rfl rfl, rfl, trivial⟩ rfl (List.nil_sublist _) ⟨rfl, rfl, ?_⟩
    rw [List.take_length]; rfl
/-- A text without the bytes of another one at its ends. -/
theorem c_Trim {s cs : List UInt8} (h2 : Nat.ble 2 cs.length = true) (hc : cs.all (fun c => decide (c.toNat < 128)) = true) (hl : Nat.ble cs.length 1000 = true) (hs : s.length ≤ 2000000) : PuG Tryz.prog 39 [S s, S cs] G (· = S (trimL (inS cs) (trimR (inS cs) s))) := by
  have h2 := Nat.le_of_ble_eq_true h2
  have hl := Nat.le_of_ble_eq_true hl
  have cx_mkas := c_makeASCIISet (G := G) (all_bt hc) hl
  by_cases h0 : s = []
  · subst h0
    refine p_enter [(0, _), (1, _)] Tryz.func39 (by kernel_rfl) Tryz.ntmps39 rfl rfl (by repeat (first | exact trivial | refine ⟨rfl, ?_⟩)) fun B hB => ?_
    repeat' (first | (refine run (t := tb) 400 rfl ?_ ?_; (focus (repeat' ((exact trivial))))) | (refine k_op rfl ?_; (refine v_op (g_pickT rfl rfl ?_) rfl rfl ?_; (focus (((rfl)); done)))) | (refine k_gt rfl rfl ?_ ?_; (focus (((rfl)); done))) | (refine k_tt rfl ?_ ?_; (focus (((rfl)); done))))
    all_goals refine k_rr (vs := [_]) rfl ⟨rfl, trivial⟩ rfl (List.nil_sublist _) ⟨rfl, rfl, ?_⟩
    all_goals rfl
  have hn : ¬ cs = [] := by rintro rfl; simp at h2
  have hr := trimR_len (inS cs) s
  refine p_enter [(0, _), (1, _)] Tryz.func39 (by kernel_rfl) Tryz.ntmps39 rfl rfl (by repeat (first | exact trivial | refine ⟨rfl, ?_⟩)) fun B hB => ?_
  repeat' (first | (refine run (t := tb) 400 rfl ?_ ?_; (focus (repeat' ((exact trivial))))) | (refine k_op rfl ?_; first | (refine v_op (g_pickF rfl rfl ?_) rfl rfl ?_; (focus (((rfl)); done))) | refine c_alBs rfl rfl fun _ => ?_ | refine c_stBs rfl rfl rfl rfl ?_ | (refine c_rt rfl rfl rfl cx_mkas rfl ?_) | (refine c_m1g rfl rfl rfl (c_trimRightASCII (by omega)) rfl ?_; rintro _ _ ⟨rfl, rfl⟩; dsimp only [List.cons_append, List.nil_append]) | (refine c_m1g rfl rfl rfl c_trimLeftASCII rfl ?_; rintro _ _ ⟨rfl, rfl⟩; dsimp only [List.cons_append, List.nil_append])) | (refine k_gf rfl rfl ?_ ?_; (focus (((refine decide_eq_false ?_; first | assumption | omega)); done))) | (refine k_tt rfl ?_ ?_; (focus (((rfl)); done))) | (refine k_ff rfl ?_ ?_; (focus ((first | rfl | (refine decide_eq_false ?_; (assumption))); done))))
  all_goals refine k_rr (vs := [_]) rfl ⟨rfl, trivial⟩ rfl (List.nil_sublist _) ⟨rfl, rfl, ?_⟩
  all_goals rfl
theorem c_TrimLeft {s cs : List UInt8} (h2 : Nat.ble 2 cs.length = true) (hc : cs.all (fun c => decide (c.toNat < 128)) = true) (hl : Nat.ble cs.length 1000 = true) : PuG Tryz.prog 49 [S s, S cs] G (· = S (trimL (inS cs) s)) := by
  have h2 := Nat.le_of_ble_eq_true h2
  have hl := Nat.le_of_ble_eq_true hl
  have cx_mkas := c_makeASCIISet (G := G) (all_bt hc) hl
  by_cases h0 : s = []
  · subst h0
    refine p_enter [(0, _), (1, _)] Tryz.func49 (by kernel_rfl) Tryz.ntmps49 rfl rfl (by repeat (first | exact trivial | refine ⟨rfl, ?_⟩)) fun B hB => ?_
    repeat' (first | (refine run (t := tb) 400 rfl ?_ ?_; (focus (repeat' ((exact trivial))))) | (refine k_op rfl ?_; (refine v_op (g_pickT rfl rfl ?_) rfl rfl ?_; (focus (((rfl)); done)))) | (refine k_gt rfl rfl ?_ ?_; (focus (((rfl)); done))) | (refine k_tt rfl ?_ ?_; (focus (((rfl)); done))))
    all_goals refine k_rr (vs := [_]) rfl ⟨rfl, trivial⟩ rfl (List.nil_sublist _) ⟨rfl, rfl, ?_⟩
    all_goals rfl
  have hn : ¬ cs = [] := by rintro rfl; simp at h2
  refine p_enter [(0, _), (1, _)] Tryz.func49 (by kernel_rfl) Tryz.ntmps49 rfl rfl (by repeat (first | exact trivial | refine ⟨rfl, ?_⟩)) fun B hB => ?_
  repeat' (first | (refine run (t := tb) 400 rfl ?_ ?_; (focus (repeat' ((exact trivial))))) | (refine k_op rfl ?_; first | (refine v_op (g_pickF rfl rfl ?_) rfl rfl ?_; (focus (((rfl)); done))) | refine c_alBs rfl rfl fun _ => ?_ | refine c_stBs rfl rfl rfl rfl ?_ | (refine c_rt rfl rfl rfl cx_mkas rfl ?_) | (refine c_m1g rfl rfl rfl c_trimLeftASCII rfl ?_; rintro _ _ ⟨rfl, rfl⟩; dsimp only [List.cons_append, List.nil_append])) | (refine k_gf rfl rfl ?_ ?_; (focus (((refine decide_eq_false ?_; first | assumption | omega)); done))) | (refine k_tt rfl ?_ ?_; (focus (((rfl)); done))) | (refine k_ff rfl ?_ ?_; (focus ((first | rfl | (refine decide_eq_false ?_; (assumption))); done))))
  all_goals refine k_rr (vs := [_]) rfl ⟨rfl, trivial⟩ rfl (List.nil_sublist _) ⟨rfl, rfl, ?_⟩
  all_goals rfl
end Go.E
/-! Mf -/
namespace Go.E
set_option maxRecDepth 20000
set_option maxHeartbeats 2000000
open Go.Proofs
variable {G : Gh}
theorem trimL_nil {p : Nat → Bool} : ∀ {s : List UInt8}, trimL p s = [] ↔ ∀ c ∈ s, p c.toNat = true
  | [] => by simp [trimL]
  | c :: r => by
    unfold trimL
    by_cases h : p c.toNat = true
    · rw [if_pos h, trimL_nil]; simp [h]
    · rw [if_neg h]; simp [h]
theorem trimR_mem {p : Nat → Bool} {s : List UInt8} : (∀ c ∈ trimR p s, p c.toNat = true) ↔ ∀ c ∈ s, p c.toNat = true := by
  have key : ∀ l : List UInt8, (∀ c ∈ trimL p l, p c.toNat = true) ↔ ∀ c ∈ l, p c.toNat = true := by
    intro l
    induction l with
    | nil => simp [trimL]
    | cons c r ih =>
      unfold trimL
      by_cases h : p c.toNat = true
      · rw [if_pos h, ih]; simp [h]
      · rw [if_neg h]
  unfold trimR
  have := key s.reverse
  simpa using this
theorem trim_nil {p : Nat → Bool} {s : List UInt8} : trimL p (trimR p s) = [] ↔ ∀ c ∈ s, p c.toNat = true := by rw [trimL_nil, trimR_mem]
def azS : List UInt8 := [97, 98, 99, 100, 101, 102, 103, 104, 105, 106, 107, 108, 109, 110, 111, 112, 113, 114, 115, 116, 117, 118, 119, 120, 121, 122]
def txS : List UInt8 := azS ++ [48, 49, 50, 51, 52, 53, 54, 55, 56, 57, 32]
def dgS : List UInt8 := [48, 49, 50, 51, 52, 53, 54, 55, 56, 57]
theorem az_in (c : UInt8) : inS azS c.toNat = isLow c := by
  have : ∀ n : Nat, n < 256 → inS azS n = decide (97 ≤ n ∧ n ≤ 122) := by decide +kernel
  rw [this _ c.toNat_lt]; rfl
theorem tx_in (c : UInt8) : inS txS c.toNat = decide (txN c.toNat) := by
  have : ∀ n : Nat, n < 256 → inS txS n = decide (txN n) := by decide +kernel
  exact this _ c.toNat_lt
theorem dg_in (c : UInt8) : inS dgS c.toNat = decide (48 ≤ c.toNat ∧ c.toNat ≤ 57) := by
  have : ∀ n : Nat, n < 256 → inS dgS n = decide (48 ≤ n ∧ n ≤ 57) := by decide +kernel
  exact this _ c.toNat_lt
theorem az_trim (s : List UInt8) : trimL (inS azS) (trimR (inS azS) s) = [] ↔ s.all isLow = true := by
  rw [trim_nil, List.all_eq_true]
  exact forall_congr' fun c => forall_congr' fun _ => by rw [az_in]
theorem c_isName {s : List UInt8} (h : s.length ≤ 2000000) : PuG Tryz.prog 26 [S s] G (· = Bo (isNm s)) := by
  have cx_trim := c_Trim (G := G) (s := s) (cs := azS) rfl (by kernel_rfl) rfl h
  by_cases hl : 1 ≤ s.length ∧ s.length ≤ 3
  · refine p_enter [(0, _)] Tryz.func26 (by kernel_rfl) Tryz.ntmps26 rfl rfl (by repeat (first | exact trivial | refine ⟨rfl, ?_⟩)) fun B hB => ?_
    repeat' (first | (refine run (t := tb) 400 rfl ?_ ?_; (focus (repeat' ((exact trivial))))) | (refine k_op rfl ?_; first | (refine v_op (g_pickF rfl rfl ?_) rfl rfl ?_; (focus (((rfl)); done))) | (refine c_rt rfl rfl rfl cx_trim rfl ?_)) | (refine k_gf rfl rfl ?_ ?_; (focus (((refine decide_eq_false ?_; (omega))); done))) | (refine k_ff rfl ?_ ?_; (focus (((refine decide_eq_false ?_; (omega))); done))))
    all_goals refine k_rr (vs := [_]) rfl ⟨rfl, trivial⟩ rfl (List.nil_sublist _) ⟨rfl, rfl, ?_⟩
    have := az_trim s
    unfold isNm
    rw [decide_eq_true hl, Bool.and_true]
    refine congrArg Bo ?_
    rw [Bool.eq_iff_iff]
    simpa using this
  · have e : isNm s = false := by unfold isNm; rw [decide_eq_false hl, Bool.and_false]
    rw [e]
    refine p_enter [(0, _)] Tryz.func26 (by kernel_rfl) Tryz.ntmps26 rfl rfl (by repeat (first | exact trivial | refine ⟨rfl, ?_⟩)) fun B hB => ?_
    repeat' (first | (refine run (t := tb) 400 rfl ?_ ?_; (focus (repeat' ((exact trivial))))) | (refine k_op rfl ?_; first | (refine v_op (g_pickT rfl rfl ?_) rfl rfl ?_; (focus (((rfl)); done))) | (refine v_op (g_pickF rfl rfl ?_) rfl rfl ?_; (focus (((rfl)); done)))) | refine k_g rfl rfl (fun _ => ?_) (fun _ => ?_) | (refine k_tt rfl ?_ ?_; (focus ((first | rfl | (refine decide_eq_true ?_; (omega))); done))))
    all_goals refine k_rr (vs := [_]) rfl ⟨rfl, trivial⟩ rfl (List.nil_sublist _) ⟨rfl, rfl, ?_⟩
    all_goals rfl
theorem core_trimL (s : List UInt8) : core s = trimL (inS [91, 63]) s := by
  induction s with
  | nil => rfl
  | cons c r ih =>
    have e : inS [91, 63] c.toNat = decide (c.toNat = 91 ∨ c.toNat = 63) := by
      have : ∀ n : Nat, n < 256 → inS [91, 63] n = decide (n = 91 ∨ n = 63) := by decide +kernel
      exact this _ c.toNat_lt
    unfold core trimL
    rw [e]
    by_cases h : c.toNat = 91 ∨ c.toNat = 63
    · simp only [h, if_true, decide_true]; exact ih
    · simp [h]
theorem kOk_core : ∀ {s : List UInt8}, kOk (core s) = kOk s
  | [] => rfl
  | c :: r => by
    unfold core
    split
    · rename_i h; rw [kOk_core]; conv => { rhs; unfold kOk }; rw [if_pos h]
    · rfl
def kdF (s : List UInt8) : List Value := [S (sg s), S (bs s), S (nm s)]
def KdPost (s : List UInt8) (v : Value) : Prop := ∃ a b c, v = Tu [Ag [S a, S b, S c], Bo (kindOk s)] ∧ (kindOk s = true → a = sg s ∧ b = bs s ∧ c = nm s)
theorem c_HasSuffixL {s p : List UInt8} (hp : p.length ≤ 1000000000) (hs : s.length ≤ 1000000000) : PuG Tryz.prog 69 [S s, S p] G (· = Bo (decide (p.length ≤ s.length ∧ s.drop (s.length - p.length) = p))) := by
  by_cases h : p.length ≤ s.length
  · have e : (((s.length : Nat) : Int) - ((p.length : Nat) : Int)).toNat = s.length - p.length := by omega
    refine p_enter [(0, _), (1, _)] Tryz.func69 (by kernel_rfl) Tryz.ntmps69 rfl rfl (by repeat (first | exact trivial | refine ⟨rfl, ?_⟩)) fun B hB => ?_
    repeat' (first | (refine run (t := tb) 400 rfl ?_ ?_; (focus (repeat' (first | exact trivial | apply And.intro | omega)))) | (refine k_op rfl ?_; (refine v_op (g_pickT rfl rfl ?_) rfl rfl ?_; (focus (((rfl)); done)))) | (refine k_gt rfl rfl ?_ ?_; (focus (((refine decide_eq_true ?_; (omega))); done))))
    all_goals refine k_rr (vs := [_]) rfl ⟨rfl, trivial⟩ rfl (List.nil_sublist _) ⟨rfl, rfl, ?_⟩
    all_goals (rw [e]; simp [h]; try rfl)
  · refine p_enter [(0, _), (1, _)] Tryz.func69 (by kernel_rfl) Tryz.ntmps69 rfl rfl (by repeat (first | exact trivial | refine ⟨rfl, ?_⟩)) fun B hB => ?_
    repeat' (first | (refine run (t := tb) 400 rfl ?_ ?_; (focus (repeat' ((exact trivial))))) | (refine k_op rfl ?_; (refine v_op (g_pickF rfl rfl ?_) rfl rfl ?_; (focus (((rfl)); done)))) | (refine k_gf rfl rfl ?_ ?_; (focus (((refine decide_eq_false ?_; (omega))); done))))
    all_goals refine k_rr (vs := [_]) rfl ⟨rfl, trivial⟩ rfl (List.nil_sublist _) ⟨rfl, rfl, ?_⟩
    all_goals (simp [h]; try rfl)
theorem c_HasSuffix {s p : List UInt8} (hp : p.length ≤ 1000000000) (hs : s.length ≤ 1000000000) : PuG Tryz.prog 51 [S s, S p] G (· = Bo (decide (p.length ≤ s.length ∧ s.drop (s.length - p.length) = p))) := by
  refine p_enter [(0, _), (1, _)] Tryz.func51 (by kernel_rfl) Tryz.ntmps51 rfl rfl (by repeat (first | exact trivial | refine ⟨rfl, ?_⟩)) fun B hB => ?_
  repeat' (first | (refine run (t := tb) 400 rfl ?_ ?_; (focus (repeat' ((exact trivial))))) | (refine k_op rfl ?_; (refine c_rt rfl rfl rfl (c_HasSuffixL (by omega) (by omega)) rfl ?_)))
  all_goals refine k_rr (vs := [_]) rfl ⟨rfl, trivial⟩ rfl (List.nil_sublist _) ⟨rfl, rfl, ?_⟩
  all_goals rfl
theorem suf_bt {c : UInt8} {r : List UInt8} : (1 ≤ (c :: r).length ∧ (c :: r).drop ((c :: r).length - 1) = [59]) ↔ bt (c :: r) r.length = 59 := by
  have hl : (c :: r).length - 1 = r.length := by simp
  rw [hl]
  have hlt : r.length < (c :: r).length := by simp
  obtain ⟨d, h1, h2⟩ := drop_bt hlt
  rw [h1, h2]
  have h3 : (c :: r).drop (r.length + 1) = [] := by simp
  rw [h3]
  constructor
  · rintro ⟨_, h⟩; simp only [List.cons.injEq, and_true] at h; rw [h]; rfl
  · intro h; exact ⟨by simp, by rw [show d = 59 from UInt8.toNat_inj.1 h]⟩
theorem core_head : ∀ {s : List UInt8} {c : UInt8} {r : List UInt8}, core s = c :: r → ¬ (c.toNat = 91 ∨ c.toNat = 63)
  | [], c, r, h => by simp [core] at h
  | d :: s, c, r, h => by
    unfold core at h
    split at h
    · exact core_head h
    · rename_i hd
      simp only [List.cons.injEq] at h
      rw [← h.1]; exact hd
theorem c_readKindT {s t : List UInt8} (h : s.length ≤ 12) (ht : core s = t) : PuG Tryz.prog 37 [S s] G (KdPost s) := by
  have cx_triml : PuG Tryz.prog 49 [S s, S [91, 63]] G (· = S t) := by
    rw [← ht, core_trimL]
    exact c_TrimLeft rfl (by kernel_rfl) rfl
  have hcl := core_len s
  rw [ht] at hcl
  have ek : kindOk s = kOk t := by unfold kindOk; rw [decide_eq_true h, Bool.true_and, ← ht, kOk_core]
  have esg : s.take (((s.length : Nat) : Int) - ((t.length : Nat) : Int)).toNat = sg s := by
    unfold sg; rw [ht]; congr 1; omega
  have ebs : bs s = bsT t := by unfold bs; rw [ht]
  have enm : nm s = (refN t).getD [] := by unfold nm; rw [ht]
  have hns : ∀ c r, t = c :: r → ¬ (c.toNat = 91 ∨ c.toNat = 63) := fun c r e => core_head (ht.trans e)
  clear ht
  match t, hcl, ek, ebs, enm, cx_triml, esg, hns with
  | [], hcl, ek, ebs, enm, cx_triml, esg, hns =>
    have hno : kindOk s = false := by rw [ek]; rfl
    have cx_suf := c_HasSuffix (G := G) (s := []) (p := [59]) (by simp) (by simp)
    refine p_enter [(0, _)] Tryz.func37 (by kernel_rfl) Tryz.ntmps37 rfl rfl (by repeat (first | exact trivial | refine ⟨rfl, ?_⟩)) fun B hB => ?_
    repeat' (first | (refine run (t := tb) 400 rfl ?_ ?_; (focus (repeat' (first | exact trivial | apply And.intro | omega)))) | (refine k_op rfl ?_; first | refine c_al rfl rfl fun _ => ?_ | refine v_op (g_bld rfl rfl) rfl rfl ?_ | refine c_stA rfl rfl rfl rfl rfl rfl ?_ | (refine v_op (g_pickF rfl rfl ?_) rfl rfl ?_; (focus (((rfl)); done))) | (refine c_rt rfl rfl rfl cx_triml rfl ?_) | (refine c_rt rfl rfl rfl c_HasPrefix rfl ?_)) | (refine k_gf rfl rfl ?_ ?_; (focus (((rfl)); done))) | (refine k_ff rfl ?_ ?_; (focus ((first | rfl | (refine decide_eq_false ?_; (omega))); done))))
    all_goals refine k_rr (vs := [_, _]) rfl ⟨rc_A rfl rfl rfl rfl, rfl, trivial⟩ rfl (List.nil_sublist _) ⟨rfl, rfl, ?_⟩
    all_goals exact ⟨[], [], [], by rw [hno]; rfl, fun h => by rw [hno] at h; cases h⟩
  | c :: r, hcl, ek, ebs, enm, cx_triml, esg, hns =>
    by_cases hA : c :: r = [110] ∨ c :: r = [116] ∨ c :: r = [102]
    · rcases hA with hA | hA | hA
      all_goals (simp only [List.cons.injEq] at hA; obtain ⟨rfl, rfl⟩ := hA)
      all_goals have hyes : kindOk s = true := by rw [ek]; rfl
      all_goals refine p_enter [(0, _)] Tryz.func37 (by kernel_rfl) Tryz.ntmps37 rfl rfl (by repeat (first | exact trivial | refine ⟨rfl, ?_⟩)) fun B hB => ?_
      all_goals repeat' (first | (refine run (t := tb) 400 rfl ?_ ?_; (focus (repeat' (first | exact trivial | apply And.intro | omega)))) | (refine k_op rfl ?_; first | refine c_al rfl rfl fun _ => ?_ | refine v_op (g_bld rfl rfl) rfl rfl ?_ | refine c_st1 rfl rfl rfl rfl ?_ | refine c_stA rfl rfl rfl rfl rfl rfl ?_ | (refine v_op (g_pickT rfl rfl ?_) rfl rfl ?_; (focus (((rfl)); done))) | (refine v_op (g_pickF rfl rfl ?_) rfl rfl ?_; (focus (((rfl)); done))) | refine v_op (g_ldA rfl rfl rfl rfl) rfl rfl ?_ | (refine c_rt rfl rfl rfl cx_triml rfl ?_)) | (refine k_gt rfl rfl ?_ ?_; (focus (((rfl)); done))) | (refine k_gf rfl rfl ?_ ?_; (focus (((rfl)); done))) | (refine k_tt rfl ?_ ?_; (focus (((rfl)); done))) | (refine k_ff rfl ?_ ?_; (focus (((refine decide_eq_false ?_; (omega))); done))))
      all_goals refine k_rr (vs := [_, _]) rfl ⟨rc_A rfl rfl rfl rfl, rfl, trivial⟩ rfl (List.nil_sublist _) ⟨rfl, rfl, ?_⟩
      all_goals exact ⟨_, _, _, by rw [hyes]; rfl, fun _ => ⟨esg, by rw [ebs]; rfl, by rw [enm]; rfl⟩⟩
    simp only [not_or] at hA
    obtain ⟨hA1, hA2, hA3⟩ := hA
    by_cases hc : c = 64
    case neg =>
      have hc' : ¬ c.toNat = 64 := fun h => hc (UInt8.toNat_inj.1 h)
      have hno : kindOk s = false := by
        rw [ek, kOk, if_neg (hns c r rfl), if_neg hc']
        by_cases hr : r = []
        · subst hr
          have n1 : ¬ c.toNat = 110 := fun h => hA1 (by rw [show c = 110 from UInt8.toNat_inj.1 h])
          have n2 : ¬ c.toNat = 116 := fun h => hA2 (by rw [show c = 116 from UInt8.toNat_inj.1 h])
          have n3 : ¬ c.toNat = 102 := fun h => hA3 (by rw [show c = 102 from UInt8.toNat_inj.1 h])
          simp [n1, n2, n3]
        · simp [hr]
      have hp : ([64] : List UInt8).isPrefixOf (c :: r) = false := by simp [List.isPrefixOf]; exact fun h => hc h.symm
      refine p_enter [(0, _)] Tryz.func37 (by kernel_rfl) Tryz.ntmps37 rfl rfl (by repeat (first | exact trivial | refine ⟨rfl, ?_⟩)) fun B hB => ?_
      repeat' (first | (refine run (t := tb) 400 rfl ?_ ?_; (focus (repeat' (first | exact trivial | apply And.intro | omega)))) | (refine k_op rfl ?_; first | refine c_al rfl rfl fun _ => ?_ | refine v_op (g_bld rfl rfl) rfl rfl ?_ | refine c_stA rfl rfl rfl rfl rfl rfl ?_ | (refine v_op (g_pickF rfl rfl ?_) rfl rfl ?_; (focus (((rfl)); done))) | (refine c_rt rfl rfl rfl cx_triml rfl ?_) | (refine c_rt rfl rfl rfl c_HasPrefix rfl ?_)) | (refine k_gf rfl rfl ?_ ?_; (focus ((first | assumption | (refine decide_eq_false ?_; (assumption))); done))) | (refine k_ff rfl ?_ ?_; (focus ((first | rfl | (refine decide_eq_false ?_; first | assumption | omega)); done))))
      all_goals refine k_rr (vs := [_, _]) rfl ⟨rc_A rfl rfl rfl rfl, rfl, trivial⟩ rfl (List.nil_sublist _) ⟨rfl, rfl, ?_⟩
      all_goals exact ⟨[], [], [], by rw [hno]; rfl, fun h => by rw [hno] at h; cases h⟩
    subst hc
    have hp : ([64] : List UInt8).isPrefixOf (64 :: r) = true := by simp [List.isPrefixOf]
    have hsuf := c_HasSuffix (G := G) (s := 64 :: r) (p := [59]) (by simp) (by simp at hcl ⊢; omega)
    have ek2 : kindOk s = (decide (bt (64 :: r) r.length = 59) && isNm (r.take (r.length - 1))) := by
      rw [ek, kOk, if_neg (by decide), if_pos (by decide)]
      congr 1
      refine decide_eq_decide.2 ?_
      omega
    have hsb := suf_bt (c := 64) (r := r)
    by_cases hb : bt (64 :: r) r.length = 59
    case neg =>
      have cx_suf : PuG Tryz.prog 51 [S (64 :: r), S [59]] G (· = Bo false) := by
        have e : decide (([59] : List UInt8).length ≤ (64 :: r : List UInt8).length ∧ (64 :: r : List UInt8).drop ((64 :: r : List UInt8).length - ([59] : List UInt8).length) = [59]) = false := decide_eq_false fun h => hb (hsb.1 h)
        rwa [e] at hsuf
      have hno : kindOk s = false := by rw [ek2, decide_eq_false hb, Bool.false_and]
      refine p_enter [(0, _)] Tryz.func37 (by kernel_rfl) Tryz.ntmps37 rfl rfl (by repeat (first | exact trivial | refine ⟨rfl, ?_⟩)) fun B hB => ?_
      repeat' (first | (refine run (t := tb) 400 rfl ?_ ?_; (focus (repeat' (first | exact trivial | apply And.intro | omega)))) | (refine k_op rfl ?_; first | refine c_al rfl rfl fun _ => ?_ | refine v_op (g_bld rfl rfl) rfl rfl ?_ | refine c_stA rfl rfl rfl rfl rfl rfl ?_ | (refine v_op (g_pickT rfl rfl ?_) rfl rfl ?_; (focus (((rfl)); done))) | (refine v_op (g_pickF rfl rfl ?_) rfl rfl ?_; (focus (((rfl)); done))) | (refine c_rt rfl rfl rfl cx_triml rfl ?_) | (refine c_rt rfl rfl rfl c_HasPrefix rfl ?_) | (refine c_rt rfl rfl rfl cx_suf rfl ?_)) | (refine k_gt rfl rfl ?_ ?_; (focus (((rfl)); done))) | (refine k_gf rfl rfl ?_ ?_; (focus (((rfl)); done))) | (refine k_ff rfl ?_ ?_; (focus ((first | rfl | (refine decide_eq_false ?_; (omega))); done))))
      all_goals refine k_rr (vs := [_, _]) rfl ⟨rc_A rfl rfl rfl rfl, rfl, trivial⟩ rfl (List.nil_sublist _) ⟨rfl, rfl, ?_⟩
      all_goals exact ⟨[], [], [], by rw [hno]; rfl, fun h => by rw [hno] at h; cases h⟩
    have cx_suf : PuG Tryz.prog 51 [S (64 :: r), S [59]] G (· = Bo true) := by
      have e : decide (([59] : List UInt8).length ≤ (64 :: r : List UInt8).length ∧ (64 :: r : List UInt8).drop ((64 :: r : List UInt8).length - ([59] : List UInt8).length) = [59]) = true := decide_eq_true (hsb.2 hb)
      rwa [e] at hsuf
    have hr : 1 ≤ r.length := by
      cases r with
      | nil => exact absurd hb (by decide)
      | cons => simp
    have hl2 : (64 :: r : List UInt8).length = r.length + 1 := rfl
    have e1 : ((64 :: r : List UInt8).take ((((64 :: r : List UInt8).length : Nat) : Int) - 1).toNat).drop (Int.toNat 1) = r.take (r.length - 1) := by
      have e2 : ((((64 :: r : List UInt8).length : Nat) : Int) - 1).toNat = (r.length - 1) + 1 := by omega
      rw [e2, List.take_succ_cons]; rfl
    have hyes : kindOk s = isNm (r.take (r.length - 1)) := by rw [ek2, decide_eq_true hb, Bool.true_and]
    have cx_isnm : PuG Tryz.prog 26 [S (((64 :: r : List UInt8).take ((((64 :: r : List UInt8).length : Nat) : Int) - 1).toNat).drop (Int.toNat 1))] G (· = Bo (isNm (r.take (r.length - 1)))) := by
      rw [e1]; exact c_isName (by simp at hcl ⊢; omega)
    refine p_enter [(0, _)] Tryz.func37 (by kernel_rfl) Tryz.ntmps37 rfl rfl (by repeat (first | exact trivial | refine ⟨rfl, ?_⟩)) fun B hB => ?_
    repeat' (first | (refine run (t := tb) 400 rfl ?_ ?_; (focus (repeat' (first | exact trivial | apply And.intro | omega)))) | (refine k_op rfl ?_; first | refine c_al rfl rfl fun _ => ?_ | refine v_op (g_bld rfl rfl) rfl rfl ?_ | refine c_st1 rfl rfl rfl rfl ?_ | refine c_stA rfl rfl rfl rfl rfl rfl ?_ | (refine v_op (g_pickT rfl rfl ?_) rfl rfl ?_; (focus (((rfl)); done))) | (refine v_op (g_pickF rfl rfl ?_) rfl rfl ?_; (focus (((rfl)); done))) | (refine c_rt rfl rfl rfl cx_triml rfl ?_) | (refine c_rt rfl rfl rfl c_HasPrefix rfl ?_) | (refine c_rt rfl rfl rfl cx_suf rfl ?_)) | (refine k_gt rfl rfl ?_ ?_; (focus (((rfl)); done))) | (refine k_gf rfl rfl ?_ ?_; (focus (((rfl)); done))) | (refine k_tt rfl ?_ ?_; (focus (((rfl)); done))) | (refine k_ff rfl ?_ ?_; (focus ((first | rfl | (refine decide_eq_false ?_; (omega))); done))) | (refine k_any (s_anyD (id := 11) (tt := 2) rfl mixed ?_); refine x_tks (t := tb) (fuel := 5) [1] (bts 6 2) (by kernel_rfl) (by kernel_rfl) rfl rfl (Gh.le.refl _) (by repeat (first | exact List.nil_sublist _ | apply List.Sublist.cons_cons)) ?_ ?_; (focus (repeat' ((exact trivial)))); ((refine (x_tkg (bts 6 3) 0 rfl (by kernel_rfl) rfl (Gh.le.refl _) (by repeat (first | exact List.nil_sublist _ | apply List.Sublist.cons_cons))) (g_ldA rfl rfl rfl rfl) rfl rfl ?_)); ((refine (x_tkg (bts 6 7) 2 rfl (by kernel_rfl) rfl (Gh.le.refl _) (by repeat (first | exact List.nil_sublist _ | apply List.Sublist.cons_cons))) (g_ld rfl rfl rfl) rfl rfl ?_)); refine x_all [3] (by kernel_rfl) (by decide) ⟨?_, trivial⟩; refine x_opg rfl rfl ?_; ((refine c_rt rfl rfl rfl cx_isnm rfl ?_)); refine x_kk (by (exact Gh.le.refl _)) (by repeat (first | exact List.nil_sublist _ | apply List.Sublist.cons_cons)) (listed' := (bts 6 15)) (by kernel_rfl) ?_; refine x_all [4] (by kernel_rfl) (by decide) ⟨?_, trivial⟩; refine x_opg rfl rfl ?_; ((refine c_stA rfl rfl rfl rfl rfl rfl ?_)); refine x_kk (by (exact Gh.le.refl _)) (by repeat (first | exact List.nil_sublist _ | apply List.Sublist.cons_cons)) (listed' := (bts 6 31)) (by kernel_rfl) ?_; refine x_tks (t := tb) (fuel := 0) [5] (bts 6 63) (by kernel_rfl) (by kernel_rfl) rfl rfl (Gh.le.refl _) (by repeat (first | exact List.nil_sublist _ | apply List.Sublist.cons_cons)) ?_ ?_; (focus (repeat' ((exact trivial)))); refine x_done (by kernel_rfl) (k_bk ?_)))
    all_goals refine k_rr (vs := [_, _]) rfl ⟨rc_A rfl rfl rfl rfl, rfl, trivial⟩ rfl (List.nil_sublist _) ⟨rfl, rfl, ?_⟩
    all_goals exact ⟨_, _, _, by rw [hyes]; rfl, fun _ => ⟨esg, by rw [ebs]; rfl, by rw [enm, e1]; rfl⟩⟩
theorem c_readKind {s : List UInt8} (h : s.length ≤ 2000000) : PuG Tryz.prog 37 [S s] G (KdPost s) := by
  by_cases hl : s.length ≤ 12
  · exact c_readKindT hl rfl
  have e : kindOk s = false := by unfold kindOk; rw [decide_eq_false hl, Bool.false_and]
  refine p_enter [(0, _)] Tryz.func37 (by kernel_rfl) Tryz.ntmps37 rfl rfl (by repeat (first | exact trivial | refine ⟨rfl, ?_⟩)) fun B hB => ?_
  repeat' (first | (refine run (t := tb) 400 rfl ?_ ?_; (focus (repeat' ((exact trivial))))) | (refine k_op rfl ?_; first | refine c_al rfl rfl fun _ => ?_ | refine v_op (g_bld rfl rfl) rfl rfl ?_ | refine c_stA rfl rfl rfl rfl rfl rfl ?_) | (refine k_tt rfl ?_ ?_; (focus (((refine decide_eq_true ?_; (omega))); done))))
  all_goals refine k_rr (vs := [_, _]) rfl ⟨rc_A rfl rfl rfl rfl, rfl, trivial⟩ rfl (List.nil_sublist _) ⟨rfl, rfl, ?_⟩
  all_goals exact ⟨[], [], [], by rw [e]; rfl, fun h => by rw [e] at h; cases h⟩
end Go.E
/-! Mg -/
namespace Go.E
set_option maxRecDepth 20000
set_option maxHeartbeats 2000000
open Go.Proofs
variable {G : Gh}
theorem u8_dig {c : UInt8} (h : 48 ≤ c.toNat) : u8 (48 + ((c.toNat : Int) - 48)) = c := by
  apply UInt8.toNat_inj.1
  have h2 := c.toNat_lt
  have := u8_val (a := 48 + ((c.toNat : Int) - 48)) (by omega)
  omega
theorem digF_dec : ∀ {s : List UInt8} {n m : Int}, 1 ≤ n → digF n s = some m → decI m = decI n ++ s ∧ n ≤ m
  | [], n, m, h0, h => by simp only [digF, Option.some.injEq] at h; subst h; simp
  | c :: r, n, m, h0, h => by
    unfold digF at h
    split at h
    · rename_i hc
      have ih := digF_dec (s := r) (by omega) h
      refine ⟨?_, by omega⟩
      have e1 : (10 * n + ((c.toNat : Int) - 48)) / 10 = n := by omega
      have e2 : (10 * n + ((c.toNat : Int) - 48)) % 10 = (c.toNat : Int) - 48 := by omega
      rw [ih.1, decI_hi (n := 10 * n + ((c.toNat : Int) - 48)) (by omega), e1, e2, u8_dig hc.1]; simp
    · cases h
theorem decI_head : ∀ (k : Nat) {m : Int}, m.toNat ≤ k → 1 ≤ m → ∃ c r, decI m = c :: r ∧ c.toNat ≠ 48
  | 0, m, h, h1 => by omega
  | k + 1, m, h, h1 => by
    by_cases hm : m < 10
    · refine ⟨_, [], decI_lo hm (by omega), ?_⟩
      have := u8_val (a := 48 + m) (by omega)
      omega
    · obtain ⟨c, r, e, hc⟩ := decI_head k (m := m / 10) (by omega) (by omega)
      exact ⟨c, r ++ [u8 (48 + m % 10)], by rw [decI_hi hm, e]; rfl, hc⟩
theorem digF_nn : ∀ {s : List UInt8} {n m : Int}, 0 ≤ n → digF n s = some m → 0 ≤ m
  | [], n, m, h0, h => by simp only [digF, Option.some.injEq] at h; omega
  | c :: r, n, m, h0, h => by
    unfold digF at h
    split at h
    · exact digF_nn (s := r) (by omega) h
    · cases h
/-- Digits without needless zeros. -/
theorem dec_iff {c : UInt8} {r : List UInt8} {m : Int} (h : digF 0 (c :: r) = some m) : c :: r = decI m ↔ ¬ (c.toNat = 48 ∧ r ≠ []) := by
  have h' := h
  unfold digF at h
  split at h
  · rename_i hc
    by_cases h0 : c.toNat = 48
    · have e0 : (10 * 0 + ((c.toNat : Int) - 48)) = 0 := by omega
      rw [e0] at h
      constructor
      · rintro e ⟨_, hr⟩
        have hm := digF_nn (Int.le_refl 0) h
        rcases Int.lt_or_le m 1 with h1 | h1
        · have : m = 0 := by omega
          subst this
          rw [decI_lo (by omega) (by omega)] at e
          simp only [List.cons.injEq] at e
          exact hr e.2
        · obtain ⟨d, t, e2, hd⟩ := decI_head m.toNat (Nat.le_refl _) h1
          rw [e2] at e
          simp only [List.cons.injEq] at e
          exact hd (by rw [← e.1]; exact h0)
      · intro hn
        have hr : r = [] := by
          by_cases hr : r = []
          · exact hr
          · exact absurd ⟨h0, hr⟩ hn
        subst hr
        simp only [digF, Option.some.injEq] at h
        subst h
        rw [decI_lo (by omega) (by omega)]
        congr 1
        apply UInt8.toNat_inj.1
        have := u8_val (a := 48 + 0) (by omega)
        omega
    · have := digF_dec (by omega) h
      rw [this.1, decI_lo (by omega) (by omega)]
      have e : (10 * 0 + ((c.toNat : Int) - 48)) = (c.toNat : Int) - 48 := by omega
      rw [e, u8_dig hc.1]
      simp [h0]
  · cases h
theorem c_plainNumber {s : List UInt8} {top : Int} (h : s.length ≤ 100000000) : PuG Tryz.prog 82 [S s, I top] G (fun v => ∃ n, v = Tu [I n, Bo (numOf s top).isSome] ∧ (∀ m, numOf s top = some m → n = m)) := by
  by_cases hl : 1 ≤ s.length ∧ s.length ≤ 6
  case neg =>
    have hno : numOf s top = none := by
      unfold numOf
      by_cases h6 : s.length ≤ 6
      · have : s = [] := List.length_eq_zero_iff.1 (by omega)
        subst this
        rw [if_pos (by simp)]
        simp [digF, decI_lo]
      · rw [if_neg h6]
    refine p_enter [(0, _), (1, _)] Tryz.func82 (by kernel_rfl) Tryz.ntmps82 rfl rfl (by repeat (first | exact trivial | refine ⟨rfl, ?_⟩)) fun B hB => ?_
    repeat' (first | (refine run (t := tb) 400 rfl ?_ ?_; (focus (repeat' ((exact trivial))))) | (refine k_op rfl ?_; first | (refine v_op (g_pickT rfl rfl ?_) rfl rfl ?_; (focus (((rfl)); done))) | (refine v_op (g_pickF rfl rfl ?_) rfl rfl ?_; (focus (((rfl)); done)))) | (refine k_gt rfl rfl ?_ ?_; (focus ((first | rfl | (refine decide_eq_true ?_; (omega))); done))) | refine k_g rfl rfl (fun _ => ?_) (fun _ => ?_) | (refine k_tt rfl ?_ ?_; (focus (((rfl)); done))))
    all_goals refine k_rr (vs := [_, _]) rfl ⟨rfl, rfl, trivial⟩ rfl (List.nil_sublist _) ⟨rfl, rfl, ?_⟩
    all_goals exact ⟨_, by rw [hno]; rfl, fun m hm => by rw [hno] at hm; cases hm⟩
  by_cases hz : bt s 0 = 48 ∧ 1 < s.length
  · have hz0 : bt s (Int.toNat 0) = 48 := hz.1
    have hno : numOf s top = none := by
      match s, hz, hl with
      | c :: r, hz, hl =>
        unfold numOf
        rw [if_pos hl.2]
        split
        · rename_i n hn
          rw [if_neg]
          rintro ⟨e, _⟩
          rw [bt_zero] at hz
          exact (dec_iff hn).1 e ⟨hz.1, by rintro rfl; simp at hz⟩
        · rfl
    refine p_enter [(0, _), (1, _)] Tryz.func82 (by kernel_rfl) Tryz.ntmps82 rfl rfl (by repeat (first | exact trivial | refine ⟨rfl, ?_⟩)) fun B hB => ?_
    repeat' (first | (refine run (t := tb) 400 rfl ?_ ?_; (focus (repeat' (first | exact trivial | apply And.intro | omega)))) | (refine k_op rfl ?_; first | (refine v_op (g_pickT rfl rfl ?_) rfl rfl ?_; (focus (((rfl)); done))) | (refine v_op (g_pickF rfl rfl ?_) rfl rfl ?_; (focus (((rfl)); done)))) | (refine k_gt rfl rfl ?_ ?_; (focus (((refine decide_eq_true ?_; (omega))); done))) | (refine k_gf rfl rfl ?_ ?_; (focus (((refine decide_eq_false ?_; (omega))); done))) | (refine k_tt rfl ?_ ?_; (focus (((refine decide_eq_true ?_; (omega))); done))))
    all_goals refine k_rr (vs := [_, _]) rfl ⟨rfl, rfl, trivial⟩ rfl (List.nil_sublist _) ⟨rfl, rfl, ?_⟩
    all_goals exact ⟨_, by rw [hno]; rfl, fun m hm => by rw [hno] at hm; cases hm⟩
  have hz0 : ¬ (bt s (Int.toNat 0) = 48 ∧ 1 < s.length) := hz
  have key : numOf s top = match digF 0 s with
      | some n => if n ≤ top then some n else none
      | none => none := by
    match s, hz, hl with
    | c :: r, hz, hl =>
      unfold numOf
      rw [if_pos hl.2]
      cases hd : digF 0 (c :: r) with
      | some n =>
        have hn := hd
        have : c :: r = decI n := (dec_iff hn).2 (by rw [bt_zero] at hz; rintro ⟨h1, h2⟩; exact hz ⟨h1, by have := List.length_pos_iff.2 h2; simp; omega⟩)
        dsimp only
        rw [← this]
        simp
      | none => rfl
  refine p_enter [(0, _), (1, _)] Tryz.func82 (by kernel_rfl) Tryz.ntmps82 rfl rfl (by repeat (first | exact trivial | refine ⟨rfl, ?_⟩)) fun B hB => ?_
  repeat' (first | (refine run (t := tb) 400 rfl ?_ ?_; (focus (repeat' (first | exact trivial | apply And.intro | omega)))) | (refine k_op rfl ?_; first | (refine v_op (g_pickT rfl rfl ?_) rfl rfl ?_; (focus (((rfl)); done))) | (refine v_op (g_pickF rfl rfl ?_) rfl rfl ?_; (focus (((rfl)); done)))) | (refine k_gf rfl rfl ?_ ?_; (focus (((refine decide_eq_false ?_; (omega))); done))) | refine k_g rfl rfl (fun _ => ?_) (fun _ => ?_) | (refine k_ff rfl ?_ ?_; (focus ((first | rfl | (refine decide_eq_false ?_; (omega))); done))))
  all_goals (refine k_loop (ι := Nat × Int) (fun i => (i.1 ≤ s.length ∧ i.1 ≤ 6) ∧ (0 ≤ i.2 ∧ i.2 + 1 ≤ 10 ^ i.1) ∧ digF i.2 (s.drop i.1) = digF 0 s) (fun i => [(0, S s), (1, I top), (6, I i.2), (27, I s.length), (28, I i.1)]) (fun _ => G) (fun i => []) (fun i => s.length - i.1) (0, 0) ?_ (by repeat (first | exact trivial | refine ⟨rfl, ?_⟩)) rfl (by repeat ((exact List.Sublist.refl _))) (fun i Hi => ?_))
  all_goals (first | exact ⟨⟨by dsimp only; omega, by dsimp only; omega⟩, ⟨by dsimp only; omega, by dsimp only; decide⟩, rfl⟩ | skip)
  all_goals obtain ⟨i, n⟩ := i
  all_goals dsimp only at Hi ⊢
  all_goals by_cases hi : i < s.length
  all_goals first
    | (obtain ⟨c, hc1, hc2⟩ := drop_bt hi
       have hc3 : bt s ((i : Int).toNat) = c.toNat := hc2
       have hd := Hi.2.2
       rw [hc1, digF] at hd
       have h5 : i ≤ 5 := by omega
       have hp := pow6 i h5
       by_cases hdig : 48 ≤ c.toNat ∧ c.toNat ≤ 57
       · rw [if_pos hdig] at hd
         repeat' (first | (refine run (t := tb) 400 rfl ?_ ?_; (focus (repeat' (first | exact trivial | apply And.intro | omega)))) | (refine k_op rfl ?_; (refine v_op (g_pickF rfl rfl ?_) rfl rfl ?_; (focus (((rfl)); done)))) | (refine k_gf rfl rfl ?_ ?_; (focus (((refine decide_eq_false ?_; (omega))); done))) | (refine k_tt rfl ?_ ?_; (focus (((refine decide_eq_true ?_; (omega))); done))) | (refine k_ff rfl ?_ ?_; (focus (((refine decide_eq_false ?_; (omega))); done))))
         refine k_rd (i + 1, 10 * n + ((c.toNat : Int) - 48)) ⟨⟨by dsimp only; omega, by dsimp only; omega⟩, ⟨by dsimp only; omega, by dsimp only; rw [hp.1]; omega⟩, hd⟩ (by dsimp only; omega) ?_ rfl (by repeat ((exact List.Sublist.refl _)))
         rw [← hc2]; repeat (first | exact trivial | refine ⟨rfl, ?_⟩)
       · rw [if_neg hdig] at hd
         have hno : numOf s top = none := by rw [key, ← hd]
         repeat' (first | (refine run (t := tb) 400 rfl ?_ ?_; (focus (repeat' (first | exact trivial | apply And.intro | omega)))) | (refine k_op rfl ?_; first | (refine v_op (g_pickT rfl rfl ?_) rfl rfl ?_; (focus (((rfl)); done))) | (refine v_op (g_pickF rfl rfl ?_) rfl rfl ?_; (focus (((rfl)); done)))) | refine k_g rfl rfl (fun _ => ?_) (fun _ => ?_) | (refine k_tt rfl ?_ ?_; (focus ((first | rfl | (refine decide_eq_true ?_; (omega))); done))))
         all_goals refine k_rr (vs := [_, _]) rfl ⟨rfl, rfl, trivial⟩ rfl (List.nil_sublist _) ⟨rfl, rfl, ?_⟩
         all_goals exact ⟨_, by rw [hno]; rfl, fun m hm => by rw [hno] at hm; cases hm⟩)
    | (have ei : i = s.length := by omega
       have hd := Hi.2.2
       rw [ei, List.drop_length, digF] at hd
       have hno : numOf s top = if n ≤ top then some n else none := by rw [key, ← hd]
       repeat' (first | (refine run (t := tb) 400 rfl ?_ ?_; (focus (repeat' ((exact trivial))))) | (refine k_ff rfl ?_ ?_; (focus (((refine decide_eq_false ?_; (omega))); done))))
       refine k_rr (vs := [_, _]) rfl ⟨rfl, rfl, trivial⟩ rfl (List.nil_sublist _) ⟨rfl, rfl, ?_⟩
       refine ⟨n, ?_, fun m hm => ?_⟩
       · rw [hno, oneOf_two]
         by_cases ht : n ≤ top
         · rw [if_pos ht, decide_eq_true ht]; rfl
         · rw [if_neg ht, decide_eq_false ht]; rfl
       · rw [hno] at hm
         split at hm
         · exact Option.some.inj hm
         · cases hm)
theorem c_decimal : ∀ (k : Nat) {n : Int}, n.toNat ≤ k → 0 ≤ n ∧ n ≤ 9223372036854775807 → PuG Tryz.prog 101 [I n] G (· = S (decI n)) := by
  intro k
  induction k with
  | zero =>
    intro n hk hn
    have h1 : n < 10 := by omega
    refine p_enter [(0, _)] Tryz.func101 (by kernel_rfl) Tryz.ntmps101 rfl rfl (by repeat (first | exact trivial | refine ⟨rfl, ?_⟩)) fun B hB => ?_
    repeat' (first | (refine run (t := tb) 400 rfl ?_ ?_; (focus (repeat' (first | exact trivial | apply And.intro | omega)))) | (refine k_op rfl ?_; first | refine c_bsl rfl rfl rfl rfl rfl rfl fun _ => ?_ | refine v_op (g_bsB rfl rfl (by (repeat (first | exact BL.nil | apply BL.cons)); done)) rfl rfl ?_) | (refine k_tt rfl ?_ ?_; (focus (((refine decide_eq_true ?_; (assumption))); done))))
    refine k_rr (vs := [_]) rfl ⟨rfl, trivial⟩ rfl (List.nil_sublist _) ⟨rfl, rfl, ?_⟩
    rw [oneOf_one, decI_lo h1 hn.1]
  | succ k ih =>
    intro n hk hn
    have hl := decI_len (n := n / 10) (by omega)
    have hl2 := decI_len (n := n % 10) (by omega)
    by_cases h1 : n < 10
    · refine p_enter [(0, _)] Tryz.func101 (by kernel_rfl) Tryz.ntmps101 rfl rfl (by repeat (first | exact trivial | refine ⟨rfl, ?_⟩)) fun B hB => ?_
      repeat' (first | (refine run (t := tb) 400 rfl ?_ ?_; (focus (repeat' (first | exact trivial | apply And.intro | omega)))) | (refine k_op rfl ?_; first | refine c_bsl rfl rfl rfl rfl rfl rfl fun _ => ?_ | refine v_op (g_bsB rfl rfl (by (repeat (first | exact BL.nil | apply BL.cons)); done)) rfl rfl ?_) | (refine k_tt rfl ?_ ?_; (focus (((refine decide_eq_true ?_; (assumption))); done))))
      refine k_rr (vs := [_]) rfl ⟨rfl, trivial⟩ rfl (List.nil_sublist _) ⟨rfl, rfl, ?_⟩
      rw [oneOf_one, decI_lo h1 hn.1]
    · refine p_enter [(0, _)] Tryz.func101 (by kernel_rfl) Tryz.ntmps101 rfl rfl (by repeat (first | exact trivial | refine ⟨rfl, ?_⟩)) fun B hB => ?_
      repeat' (first | (refine run (t := tb) 400 rfl ?_ ?_; (focus (repeat' (first | exact trivial | apply And.intro | omega)))) | (refine k_op rfl ?_; (refine c_rt rfl rfl rfl (ih ?_ ?_) rfl ?_; (focus (((omega)); done)); (focus (((omega)); done)))) | (refine k_ff rfl ?_ ?_; (focus (((refine decide_eq_false ?_; (assumption))); done))))
      all_goals refine k_rr (vs := [_]) rfl ⟨rfl, trivial⟩ rfl (List.nil_sublist _) ⟨rfl, rfl, ?_⟩
      all_goals rw [oneOf_one, decI_hi (n := n) h1, decI_lo (n := n % 10) (by omega) (by omega)]
theorem c_decimalN {n : Int} (hn : 0 ≤ n ∧ n ≤ 9223372036854775807) : PuG Tryz.prog 101 [I n] G (· = S (decI n)) := c_decimal n.toNat (Nat.le_refl _) hn
end Go.E
/-! Nc -/
namespace Go.E
set_option maxRecDepth 20000
set_option maxHeartbeats 2000000
open Go.Proofs
variable {G : Gh}
theorem cut_count1 (c : UInt8) : ∀ s acc : List UInt8, (cutA c.toNat acc s).length = s.count c + 1
  | [], acc => by simp [cutA]
  | d :: r, acc => by
    unfold cutA
    by_cases h : d = c
    · subst h
      rw [if_pos rfl, List.length_cons, cut_count1 d r []]; simp
    · have h2 : ¬ d.toNat = c.toNat := fun e => h (UInt8.toNat_inj.1 e)
      rw [if_neg h2, cut_count1 c r _, List.count_cons]; simp [h]
theorem c_Count {s : List UInt8} {c : UInt8} : PuG Tryz.prog 96 [S s, S [c]] G (· = I (((cut c.toNat s).length : Int) - 1)) := by
  have hx : ∀ w, (callFunc 105 [S s, U8 (bt [c] (Int.toNat 0))].toArray).run Tryz.prog w = .ok (.value (I (((cut c.toNat s).length : Int) - 1))) w := fun w => by
    rw [show bt [c] (Int.toNat 0) = c.toNat from bt_zero c []]
    rw [run_callFunc_extern Tryz.func105 (by kernel_rfl) (by kernel_rfl) (by kernel_rfl) (e := Extern.BytealgCount.count) (by kernel_rfl)]
    have := Lib.run_countString (P := Tryz.prog) ⟨s.toArray⟩ (c.toNat : Int) w
    rw [this]
    simp only [Result.andThen]
    have e : (cut c.toNat s).length = s.count c + 1 := cut_count1 c s []
    rw [e]
    simp [Lib.countByte]
  refine p_enter [(0, _), (1, _)] Tryz.func96 (by kernel_rfl) Tryz.ntmps96 rfl rfl (by repeat (first | exact trivial | refine ⟨rfl, ?_⟩)) fun B hB => ?_
  repeat' (first | (refine run (t := tb) 400 rfl ?_ ?_; (focus (repeat' (first | exact trivial | apply And.intro | omega | (simp only [List.length_append, List.length_cons, List.length_nil, Int.toNat_natCast]; omega))))) | (refine k_tt rfl ?_ ?_; (focus (((rfl)); done))) | (refine k_ff rfl ?_ ?_; (focus (((rfl)); done))))
  refine k_op rfl (v_op (g_extern rfl rfl rfl hx) rfl rfl ?_)
  repeat' ((refine run (t := tb) 400 rfl ?_ ?_; (focus (repeat' ((exact trivial))))))
  refine k_rr (vs := [_]) rfl ⟨rfl, trivial⟩ rfl (List.nil_sublist _) ⟨rfl, rfl, ?_⟩
  rfl
theorem c_genSplit {s : List UInt8} {c : UInt8} (hs : s.length ≤ 100000000) : FnS Tryz.prog 81 [S s, S [c], I 0, I (-1)] G (fun v G' => SlV G' v 1 (cut c.toNat s).length (rows strF (cut c.toNat s))) := by
  have hlen := cut_count (k := c.toNat) (s := s)
  have hpos := cut_pos (k := c.toNat) (s := s)
  have emin : min (((cut c.toNat s).length : Int) - 1 + 1) ((s.length : Int) + 1) = ((cut c.toNat s).length : Nat) := by omega
  refine b_enter [(0, _), (1, _), (2, _), (3, _)] Tryz.func81 (by kernel_rfl) Tryz.ntmps81 rfl rfl (by repeat (first | exact trivial | refine ⟨rfl, ?_⟩)) fun B hok hB hW => ?_
  repeat' (first | (refine run (t := tb) 400 rfl ?_ ?_; (focus (repeat' (first | exact trivial | apply And.intro | omega)))) | (refine k_op rfl ?_; first | refine v_op (g_min rfl rfl) rfl rfl ?_ | (refine c_rt rfl rfl rfl c_Count rfl ?_)) | (refine k_tt rfl ?_ ?_; (focus (((rfl)); done))) | (refine k_ff rfl ?_ ?_; (focus (((rfl)); done))))
  rw [emin]
  repeat' (first | (refine run (t := tb) 400 rfl ?_ ?_; (focus (repeat' (first | exact trivial | apply And.intro | omega)))) | (refine k_op rfl ?_; (refine c_mk rfl rfl rfl rfl ?_ (fun _ => ?_); (focus (((omega)); done)))))
  rename_i x
  refine k_loop (ι := List (List UInt8) × List UInt8) (fun i => i.1.length + i.2.length ≤ s.length ∧ i.1.length < (cut c.toNat s).length ∧ i.1 ++ cut c.toNat i.2 = cut c.toNat s) (fun i => [(0, S i.2), (1, S [c]), (2, I 0), (3, I (((cut c.toNat s).length : Int) - 1)), (9, .slice (some ⟨x, 0, none⟩) (cut c.toNat s).length (cut c.toNat s).length), (10, I (i.1.length : Nat))]) (fun _ => G) (fun i => [.blk x (.cells (rows strF i.1 ++ zerosL [S []] ((cut c.toNat s).length - i.1.length)).toArray tStr (0, 0))]) (fun i => (cut c.toNat s).length - i.1.length) ([], s) ?_ (by repeat (first | exact trivial | refine ⟨rfl, ?_⟩)) rfl (by repeat ((exact List.Sublist.refl _))) (fun i Hi => ?_)
  · exact ⟨by simp, hpos, rfl⟩
  obtain ⟨xs, t⟩ := i
  dsimp only at Hi ⊢
  obtain ⟨hl, hlt, he⟩ := Hi
  have hel := congrArg List.length he
  rw [List.length_append] at hel
  rcases idx1_cases c.toNat t with ⟨h1, h2⟩ | ⟨m, h1, h3, h2⟩
  · have hc1 : cut c.toNat t = [t] := by rw [cut_cut1, h2]; rfl
    rw [hc1] at he hel
    simp only [List.length_cons, List.length_nil] at hel
    have hm : (cut c.toNat s).length - xs.length = 1 := by omega
    rw [hm]
    repeat' (first | (refine run (t := tb) 400 rfl ?_ ?_; (focus (repeat' (first | exact trivial | apply And.intro | omega)))) | (refine k_op rfl ?_; first | (refine v_op (g_iaddrN rfl rfl ?_) rfl rfl ?_; (focus ((omega); done))) | (refine c_stRS rfl rfl rfl ?_ ?_ ?_; (focus (((omega)); done)); (focus (((omega)); done))) | (refine v_op (g_slTo rfl rfl ?_) rfl rfl ?_; (focus ((omega); done)))) | (refine k_ff rfl ?_ ?_; (focus (((refine decide_eq_false ?_; (omega))); done))))
    refine Nx.sealC (b := x) fun G' hle hseg => ?_
    refine k_rr (vs := [_]) rfl ⟨rfl, trivial⟩ rfl (List.nil_sublist _) ⟨hle, rfl, ?_⟩
    have e1 : (((xs.length : Nat) : Int) + 1).toNat = (cut c.toNat s).length := by omega
    have e2 : rows strF (xs ++ [t]) ++ zerosL [S []] (1 - 1) = rows strF (cut c.toNat s) := by rw [he]; simp [zerosL]
    rw [oneOf_one, e1]
    rw [e2] at hseg
    exact ⟨by rw [rows_len], .inr ⟨_, _, _, rfl, Nat.le_refl _, hseg⟩⟩
  · have hc1 : cut c.toNat t = t.take m :: cut c.toNat (t.drop (m + 1)) := by rw [cut_cut1, h2]; rfl
    rw [hc1] at he hel
    have hp2 := cut_pos (k := c.toNat) (s := t.drop (m + 1))
    simp only [List.length_cons] at hel
    have cx_ix : PuG Tryz.prog 80 [S t, S [c]] G (· = I (m : Int)) := by have := c_Index (G := G) (s := t) (c := c); rwa [h1] at this
    obtain ⟨k, hk⟩ : ∃ k, (cut c.toNat s).length - xs.length = k + 1 := ⟨(cut c.toNat s).length - xs.length - 1, by omega⟩
    have hk2 : (cut c.toNat s).length = xs.length + k + 1 := by omega
    rw [hk]
    generalize (cut c.toNat s).length = N at *
    repeat' (first | (refine run (t := tb) 400 rfl ?_ ?_; (focus (repeat' (first | exact trivial | apply And.intro | omega | (simp only [List.length_append, List.length_cons, List.length_nil, Int.toNat_natCast]; omega))))) | (refine k_op rfl ?_; first | (refine v_op (g_iaddrN rfl rfl ?_) rfl rfl ?_; (focus ((omega); done))) | (refine c_stRS rfl rfl rfl ?_ ?_ ?_; (focus (((omega)); done)); (focus (((omega)); done))) | (refine c_rt rfl rfl rfl cx_ix rfl ?_)) | (refine k_tt rfl ?_ ?_; (focus (((refine decide_eq_true ?_; (omega))); done))) | (refine k_ff rfl ?_ ?_; (focus (((rfl)); done))))
    have e1 : rows strF (xs ++ [t.take ((m : Int) + 0).toNat]) ++ zerosL [S []] (k + 1 - 1) = rows strF (xs ++ [t.take m]) ++ zerosL [S []] (N - (xs ++ [t.take m]).length) := by
      have e2 : N - (xs ++ [t.take m]).length = k + 1 - 1 := by simp; omega
      rw [e2]
      have e3 : ((m : Int) + 0).toNat = m := by omega
      rw [e3]
    have e4 : ((m : Int) + (([c] : List UInt8).length : Nat)).toNat = m + 1 := by simp only [List.length_cons, List.length_nil]; omega
    have e5 : ((xs.length : Nat) : Int) + 1 = ((xs ++ [t.take m]).length : Nat) := by simp
    rw [e1, e4, e5]
    refine k_rd (xs ++ [t.take m], t.drop (m + 1)) ⟨by simp; omega, by simp; omega, by simpa using he⟩ (by simp; omega) (by repeat (first | exact trivial | refine ⟨rfl, ?_⟩)) rfl (by repeat ((exact List.Sublist.refl _)))
theorem c_Split {s : List UInt8} {c : UInt8} (hs : s.length ≤ 100000000) : FnS Tryz.prog 66 [S s, S [c]] G (fun v G' => SlV G' v 1 (cut c.toNat s).length (rows strF (cut c.toNat s))) := by
  have cx_gs := c_genSplit (G := G) (c := c) hs
  refine b_enter [(0, _), (1, _)] Tryz.func66 (by kernel_rfl) Tryz.ntmps66 rfl rfl (by repeat (first | exact trivial | refine ⟨rfl, ?_⟩)) fun B hok hB hW => ?_
  repeat' (first | (refine run (t := tb) 400 rfl ?_ ?_; (focus (repeat' ((exact trivial))))) | (refine k_op rfl ?_; (refine c_fns rfl rfl rfl cx_gs rfl ?_; rintro _ G hle hspl; skip)))
  all_goals refine k_rr (vs := [_]) rfl ⟨rfl, trivial⟩ rfl (List.nil_sublist _) ⟨hle, rfl, ?_⟩
  all_goals exact hspl
end Go.E
/-! Mh -/
namespace Go.E
set_option maxRecDepth 20000
set_option maxHeartbeats 2000000
open Go.Proofs
variable {G : Gh}
def fiF (f : Fld) : List Value := [I f.tag, S f.name, S (sg f.kind), S (bs f.kind), S (nm f.kind), S f.stand]
instance : RowF fiF 6 := ⟨fun _ => rfl⟩
theorem tx_trim (s : List UInt8) : trimL (inS txS) (trimR (inS txS) s) = [] ↔ ∀ c ∈ s, txN c.toNat := by
  rw [trim_nil]
  exact forall_congr' fun c => forall_congr' fun _ => by rw [tx_in]; simp
/-- The inside of a text. -/
def isTI (s : List UInt8) : Bool := decide (s.length ≤ 12) && s.all fun c => decide (txN c.toNat)
theorem c_isText {s : List UInt8} (h : s.length ≤ 2000000) : PuG Tryz.prog 97 [S s] G (· = Bo (isTI s)) := by
  have cx_trim := c_Trim (G := G) (s := s) (cs := txS) rfl (by kernel_rfl) rfl h
  have key := tx_trim s
  have e : isTI s = (decide (s.length ≤ 12) && decide (trimL (inS txS) (trimR (inS txS) s) = [])) := by
    unfold isTI
    congr 1
    rw [Bool.eq_iff_iff, List.all_eq_true, decide_eq_true_eq, key]
    simp
  rw [e]
  by_cases hl : s.length ≤ 12
  · rw [decide_eq_true hl, Bool.true_and]
    refine p_enter [(0, _)] Tryz.func97 (by kernel_rfl) Tryz.ntmps97 rfl rfl (by repeat (first | exact trivial | refine ⟨rfl, ?_⟩)) fun B hB => ?_
    repeat' (first | (refine run (t := tb) 400 rfl ?_ ?_; (focus (repeat' ((exact trivial))))) | (refine k_op rfl ?_; first | (refine v_op (g_pickT rfl rfl ?_) rfl rfl ?_; (focus (((rfl)); done))) | (refine c_rt rfl rfl rfl cx_trim rfl ?_)) | (refine k_gt rfl rfl ?_ ?_; (focus (((refine decide_eq_true ?_; (omega))); done))))
    all_goals refine k_rr (vs := [_]) rfl ⟨rfl, trivial⟩ rfl (List.nil_sublist _) ⟨rfl, rfl, ?_⟩
    all_goals rfl
  · rw [decide_eq_false hl, Bool.false_and]
    refine p_enter [(0, _)] Tryz.func97 (by kernel_rfl) Tryz.ntmps97 rfl rfl (by repeat (first | exact trivial | refine ⟨rfl, ?_⟩)) fun B hB => ?_
    repeat' (first | (refine run (t := tb) 400 rfl ?_ ?_; (focus (repeat' ((exact trivial))))) | (refine k_op rfl ?_; (refine v_op (g_pickF rfl rfl ?_) rfl rfl ?_; (focus (((rfl)); done)))) | (refine k_gf rfl rfl ?_ ?_; (focus (((refine decide_eq_false ?_; (omega))); done))))
    all_goals refine k_rr (vs := [_]) rfl ⟨rfl, trivial⟩ rfl (List.nil_sublist _) ⟨rfl, rfl, ?_⟩
    all_goals rfl
theorem isTx_in {s : List UInt8} : (isTx s && decide (s ≠ [39, 39])) = (decide (2 < s.length) && (decide (bt s 0 = 39) && (decide (bt s (s.length - 1) = 39) && isTI ((s.take (s.length - 1)).drop 1)))) := by
  rw [Bool.eq_iff_iff]
  simp only [Bool.and_eq_true, decide_eq_true_eq, isTx, isTI, List.all_eq_true]
  constructor
  · rintro ⟨⟨h1, h2, h3, h4⟩, h5⟩
    have hl : 2 < s.length := by
      rcases Nat.lt_or_ge 2 s.length with h6 | h6
      · exact h6
      · exfalso
        match s, h1, h6, h2, h3 with
        | [a, b], _, _, h2, h3 =>
          rw [bt_zero] at h2
          simp only [List.length_cons, List.length_nil] at h3
          rw [show (0 + 1 + 1 - 1) = 0 + 1 from rfl, bt_succ, bt_zero] at h3
          have e1 : a = 39 := UInt8.toNat_inj.1 h2
          have e2 : b = 39 := UInt8.toNat_inj.1 h3
          subst e1; subst e2; exact h5 rfl
    refine ⟨hl, h2, h3, by simp; omega, fun c hc => ?_⟩
    obtain ⟨i, hi, rfl⟩ := List.mem_iff_getElem.1 hc
    simp only [List.length_drop, List.length_take] at hi
    have e : bt s (i + 1) = (((s.take (s.length - 1)).drop 1)[i]'(by simp; omega)).toNat := by
      simp [bt, List.getD, List.getElem?_eq_getElem (show i + 1 < s.length by omega)]
    rw [← e]
    rcases h4 (i + 1) (by omega) with h6 | h6
    · omega
    · exact h6
  · rintro ⟨hl, h2, h3, h4, h5⟩
    simp only [List.length_drop, List.length_take] at h4
    refine ⟨⟨by omega, h2, h3, fun i hi => ?_⟩, fun e => by subst e; simp at hl⟩
    rcases Nat.eq_zero_or_pos i with h6 | h6
    · exact .inl h6
    · refine .inr ?_
      have e : bt s i = (((s.take (s.length - 1)).drop 1)[i - 1]'(by simp; omega)).toNat := by
        have e1 : i - 1 + 1 = i := by omega
        simp [bt, List.getD, List.getElem?_eq_getElem (show i < s.length by omega), e1]
      rw [e]
      exact h5 _ (List.getElem_mem _)
theorem c_standing {b v : List UInt8} (h : v.length ≤ 2000000) : PuG Tryz.prog 83 [S b, S v] G (· = Bo (standOk b v)) := by
  by_cases h1 : b = [110]
  · have e : standOk b v = ((numOf v 999999).isSome && decide (v ≠ [48])) := by rw [standOk, if_pos h1]
    rw [e]
    rcases hn : numOf v 999999 with _ | m
    · refine p_enter [(0, _), (1, _)] Tryz.func83 (by kernel_rfl) Tryz.ntmps83 rfl rfl (by repeat (first | exact trivial | refine ⟨rfl, ?_⟩)) fun B hB => ?_
      repeat' (first | (refine run (t := tb) 400 rfl ?_ ?_; (focus (repeat' ((exact trivial))))) | (refine k_op rfl ?_; first | (refine v_op (g_pickF rfl rfl ?_) rfl rfl ?_; (focus (((rfl)); done))) | (refine c_pu rfl rfl rfl (c_plainNumber (by omega)) rfl ?_; rintro _ ⟨n, rfl, hnum⟩)) | (refine k_gf rfl rfl ?_ ?_; (focus (((simp [*]; done)); done))) | (refine k_tt rfl ?_ ?_; (focus (((refine decide_eq_true ?_; (assumption))); done))))
      all_goals refine k_rr (vs := [_]) rfl ⟨rfl, trivial⟩ rfl (List.nil_sublist _) ⟨rfl, rfl, ?_⟩
      all_goals (simp [*])
    · have hm := numOf_le hn
      have h0 : 0 ≤ m := by
        unfold numOf at hn
        split at hn
        · split at hn
          · rename_i hd
            split at hn
            · simp only [Option.some.injEq] at hn; subst hn; exact digF_nn (Int.le_refl 0) hd
            · cases hn
          · cases hn
        · cases hn
      have ev : decide (v ≠ [48]) = decide (0 < m) := by
        refine decide_eq_decide.2 ?_
        rw [hm.2.1]
        constructor
        · intro h2
          rcases Int.lt_or_le 0 m with h3 | h3
          · exact h3
          · have : m = 0 := by omega
            subst this
            exact absurd (by rw [decI_lo (by omega) (by omega)]; rfl) h2
        · intro h2 h3
          obtain ⟨c, r, e2, hc⟩ := decI_head m.toNat (Nat.le_refl _) (by omega)
          rw [e2] at h3
          simp only [List.cons.injEq] at h3
          exact hc (by rw [h3.1]; rfl)
      have cx_pnum : PuG Tryz.prog 82 [S v, I 999999] G (· = Tu [I m, Bo true]) := by
        refine (c_plainNumber (G := G) (top := 999999) (s := v) (by omega)).mono ?_
        rintro w G' L' ⟨h2, h3, n, rfl, h4⟩
        exact ⟨h2, h3, by rw [hn, h4 m hn]; rfl⟩
      rw [ev]
      refine p_enter [(0, _), (1, _)] Tryz.func83 (by kernel_rfl) Tryz.ntmps83 rfl rfl (by repeat (first | exact trivial | refine ⟨rfl, ?_⟩)) fun B hB => ?_
      repeat' (first | (refine run (t := tb) 400 rfl ?_ ?_; (focus (repeat' ((exact trivial))))) | (refine k_op rfl ?_; first | (refine v_op (g_pickT rfl rfl ?_) rfl rfl ?_; (focus (((rfl)); done))) | (refine c_rt rfl rfl rfl cx_pnum rfl ?_)) | (refine k_gt rfl rfl ?_ ?_; (focus (((rfl)); done))) | (refine k_tt rfl ?_ ?_; (focus (((refine decide_eq_true ?_; (assumption))); done))))
      all_goals refine k_rr (vs := [_]) rfl ⟨rfl, trivial⟩ rfl (List.nil_sublist _) ⟨rfl, rfl, ?_⟩
      all_goals (simp [*])
  by_cases h2 : b = [116]
  · have e : standOk b v = (isTx v && decide (v ≠ [39, 39])) := by rw [standOk, if_neg h1, if_pos h2]
    rw [e, isTx_in]
    have e4 : (((v.length : Nat) : Int) - 1).toNat = v.length - 1 := by omega
    by_cases hl : 2 < v.length
    case neg =>
      rw [decide_eq_false hl, Bool.false_and]
      refine p_enter [(0, _), (1, _)] Tryz.func83 (by kernel_rfl) Tryz.ntmps83 rfl rfl (by repeat (first | exact trivial | refine ⟨rfl, ?_⟩)) fun B hB => ?_
      repeat' (first | (refine run (t := tb) 400 rfl ?_ ?_; (focus (repeat' ((exact trivial))))) | (refine k_op rfl ?_; (refine v_op (g_pickF rfl rfl ?_) rfl rfl ?_; (focus (((rfl)); done)))) | (refine k_gf rfl rfl ?_ ?_; (focus ((first | rfl | (refine decide_eq_false ?_; (omega))); done))) | (refine k_tt rfl ?_ ?_; (focus (((refine decide_eq_true ?_; (assumption))); done))) | (refine k_ff rfl ?_ ?_; (focus (((refine decide_eq_false ?_; (assumption))); done))))
      all_goals refine k_rr (vs := [_]) rfl ⟨rfl, trivial⟩ rfl (List.nil_sublist _) ⟨rfl, rfl, ?_⟩
      all_goals rfl
    rw [decide_eq_true hl, Bool.true_and]
    by_cases hq : bt v 0 = 39
    case neg =>
      have hq2 : ¬ bt v (Int.toNat 0) = 39 := hq
      rw [decide_eq_false hq, Bool.false_and]
      refine p_enter [(0, _), (1, _)] Tryz.func83 (by kernel_rfl) Tryz.ntmps83 rfl rfl (by repeat (first | exact trivial | refine ⟨rfl, ?_⟩)) fun B hB => ?_
      repeat' (first | (refine run (t := tb) 400 rfl ?_ ?_; (focus (repeat' (first | exact trivial | apply And.intro | omega)))) | (refine k_op rfl ?_; first | (refine v_op (g_pickT rfl rfl ?_) rfl rfl ?_; (focus (((rfl)); done))) | (refine v_op (g_pickF rfl rfl ?_) rfl rfl ?_; (focus (((rfl)); done)))) | (refine k_gt rfl rfl ?_ ?_; (focus (((refine decide_eq_true ?_; (omega))); done))) | (refine k_gf rfl rfl ?_ ?_; (focus ((first | rfl | (refine decide_eq_false ?_; (omega))); done))) | (refine k_tt rfl ?_ ?_; (focus (((refine decide_eq_true ?_; (assumption))); done))) | (refine k_ff rfl ?_ ?_; (focus (((refine decide_eq_false ?_; (assumption))); done))))
      all_goals refine k_rr (vs := [_]) rfl ⟨rfl, trivial⟩ rfl (List.nil_sublist _) ⟨rfl, rfl, ?_⟩
      all_goals rfl
    have hq2 : bt v (Int.toNat 0) = 39 := hq
    rw [decide_eq_true hq, Bool.true_and]
    by_cases hr : bt v (v.length - 1) = 39
    case neg =>
      have hr2 : ¬ bt v (((v.length : Nat) : Int) - 1).toNat = 39 := by rw [e4]; exact hr
      rw [decide_eq_false hr, Bool.false_and]
      refine p_enter [(0, _), (1, _)] Tryz.func83 (by kernel_rfl) Tryz.ntmps83 rfl rfl (by repeat (first | exact trivial | refine ⟨rfl, ?_⟩)) fun B hB => ?_
      repeat' (first | (refine run (t := tb) 400 rfl ?_ ?_; (focus (repeat' (first | exact trivial | apply And.intro | omega)))) | (refine k_op rfl ?_; first | (refine v_op (g_pickT rfl rfl ?_) rfl rfl ?_; (focus (((rfl)); done))) | (refine v_op (g_pickF rfl rfl ?_) rfl rfl ?_; (focus (((rfl)); done)))) | (refine k_gt rfl rfl ?_ ?_; (focus (((refine decide_eq_true ?_; (omega))); done))) | (refine k_gf rfl rfl ?_ ?_; (focus (((refine decide_eq_false ?_; (omega))); done))) | (refine k_tt rfl ?_ ?_; (focus (((refine decide_eq_true ?_; (assumption))); done))) | (refine k_ff rfl ?_ ?_; (focus (((refine decide_eq_false ?_; (assumption))); done))))
      all_goals refine k_rr (vs := [_]) rfl ⟨rfl, trivial⟩ rfl (List.nil_sublist _) ⟨rfl, rfl, ?_⟩
      all_goals rfl
    have hr2 : bt v (((v.length : Nat) : Int) - 1).toNat = 39 := by rw [e4]; exact hr
    rw [decide_eq_true hr, Bool.true_and]
    refine p_enter [(0, _), (1, _)] Tryz.func83 (by kernel_rfl) Tryz.ntmps83 rfl rfl (by repeat (first | exact trivial | refine ⟨rfl, ?_⟩)) fun B hB => ?_
    repeat' (first | (refine run (t := tb) 400 rfl ?_ ?_; (focus (repeat' (first | exact trivial | apply And.intro | omega)))) | (refine k_op rfl ?_; first | (refine v_op (g_pickT rfl rfl ?_) rfl rfl ?_; (focus (((rfl)); done))) | (refine c_rt rfl rfl rfl (c_isText ?_) rfl ?_; (focus (((simp; omega)); done)))) | (refine k_gt rfl rfl ?_ ?_; (focus (((refine decide_eq_true ?_; (omega))); done))) | (refine k_tt rfl ?_ ?_; (focus (((refine decide_eq_true ?_; (assumption))); done))) | (refine k_ff rfl ?_ ?_; (focus (((refine decide_eq_false ?_; (assumption))); done))))
    all_goals refine k_rr (vs := [_]) rfl ⟨rfl, trivial⟩ rfl (List.nil_sublist _) ⟨rfl, rfl, ?_⟩
    all_goals rw [e4]; rfl
  · have e : standOk b v = (decide (b = [102]) && decide (v = [121, 101, 115])) := by
      rw [standOk, if_neg h1, if_neg h2]
      by_cases h3 : b = [102]
      · rw [if_pos h3, decide_eq_true h3, Bool.true_and]
      · rw [if_neg h3, decide_eq_false h3, Bool.false_and]
    rw [e]
    refine p_enter [(0, _), (1, _)] Tryz.func83 (by kernel_rfl) Tryz.ntmps83 rfl rfl (by repeat (first | exact trivial | refine ⟨rfl, ?_⟩)) fun B hB => ?_
    repeat' (first | (refine run (t := tb) 400 rfl ?_ ?_; (focus (repeat' ((exact trivial))))) | (refine k_op rfl ?_; first | (refine v_op (g_pickT rfl rfl ?_) rfl rfl ?_; (focus (((rfl)); done))) | (refine v_op (g_pickF rfl rfl ?_) rfl rfl ?_; (focus (((rfl)); done)))) | refine k_g rfl rfl (fun _ => ?_) (fun _ => ?_) | (refine k_ff rfl ?_ ?_; (focus (((refine decide_eq_false ?_; (assumption))); done))))
    all_goals refine k_rr (vs := [_]) rfl ⟨rfl, trivial⟩ rfl (List.nil_sublist _) ⟨rfl, rfl, ?_⟩
    all_goals (simp [*])
theorem stand_bs {c v : List UInt8} (h : kindOk c = true) : (decide (sg c = []) && standOk (bs c) v) = standOk c v := by
  match c, h with
  | x :: r, h =>
    by_cases h1 : x.toNat = 91 ∨ x.toNat = 63
    · have hs : sg (x :: r) ≠ [] := by
        unfold sg
        rw [core, if_pos h1]
        have := core_len r
        intro e
        have e2 := congrArg List.length e
        simp only [List.length_take, List.length_cons, List.length_nil] at e2
        omega
      rw [decide_eq_false hs, Bool.false_and]
      unfold standOk
      rw [if_neg, if_neg, if_neg]
      all_goals (intro e; simp only [List.cons.injEq] at e; have := congrArg UInt8.toNat e.1; revert this; rcases h1 with h1 | h1 <;> rw [h1] <;> decide)
    · have hc : core (x :: r) = x :: r := by rw [core, if_neg h1]
      have hs : sg (x :: r) = [] := by unfold sg; rw [hc]; simp
      rw [decide_eq_true hs, Bool.true_and]
      by_cases h2 : x.toNat = 64
      · have hb : bs (x :: r) = [64] := by unfold bs; rw [hc]; simp [bsT, h2]
        rw [hb]
        have e1 : standOk [64] v = false := by unfold standOk; simp
        rw [e1]
        unfold standOk
        rw [if_neg, if_neg, if_neg]
        all_goals (intro e; simp only [List.cons.injEq] at e; have := congrArg UInt8.toNat e.1; revert this; rw [h2]; decide)
      · have hb : bs (x :: r) = x :: r := by unfold bs; rw [hc]; simp [bsT, h2]
        rw [hb]
end Go.E
/-! Mi -/
namespace Go.E
set_option maxRecDepth 20000
set_option maxHeartbeats 2000000
open Go.Proofs
variable {G : Gh}
def FiPost (s : List UInt8) (k : Nat) (v : Value) (_ : Gh) : Prop := ∃ f ok, v = Tu [Ag (fiF f), Bo ok] ∧ fldOf s k = if ok = true then some f else none
theorem c_splitX {s : List UInt8} {xs : List (List UInt8)} {k : Nat} {c : UInt8} (n : Nat) (h : s.length ≤ 100000000) (hc : c.toNat = k) (e : cut k s = xs) (hn : xs.length = n) (h0 : 0 < n) :
    FnS Tryz.prog 66 [S s, S [c]] G (fun v G' => ∃ b o cap, v = .slice (some ⟨b, o, none⟩) n cap ∧ Seg G' b o (rows strF xs)) := by
  subst hn; subst e; subst hc
  refine (c_Split (G := G) (s := s) (c := c) h).mono ?_
  rintro v G' L' ⟨h1, h2, h3⟩
  obtain ⟨b, o, cap, rfl, hs⟩ := h3.expl h0
  exact ⟨h1, h2, b, o, cap, rfl, hs⟩
theorem c_kindX {s : List UInt8} (h : s.length ≤ 2000000) (e : kindOk s = true) : PuG Tryz.prog 37 [S s] G (· = Tu [Ag (kdF s), Bo true]) := by
  refine (c_readKind (G := G) h).mono ?_
  rintro v G' L' ⟨h1, h2, a, b, c, rfl, h3⟩
  obtain ⟨rfl, rfl, rfl⟩ := h3 e
  exact ⟨h1, h2, by rw [e]; rfl⟩
theorem c_pnumX {s : List UInt8} {top m : Int} (h : s.length ≤ 100000000) (e : numOf s top = some m) : PuG Tryz.prog 82 [S s, I top] G (· = Tu [I m, Bo true]) := by
  refine (c_plainNumber (G := G) (top := top) h).mono ?_
  rintro v G' L' ⟨h1, h2, n, rfl, h3⟩
  exact ⟨h1, h2, by rw [e, h3 m e]; rfl⟩
theorem c_pnumN {s : List UInt8} {top : Int} (h : s.length ≤ 100000000) (e : numOf s top = none) : PuG Tryz.prog 82 [S s, I top] G (fun v => ∃ n, v = Tu [I n, Bo false]) := by
  refine (c_plainNumber (G := G) (top := top) h).mono ?_
  rintro v G' L' ⟨h1, h2, n, rfl, h3⟩
  exact ⟨h1, h2, n, by rw [e]; rfl⟩
theorem c_readField0 {s : List UInt8} {k : Nat} (h : s.length ≤ 1000) (e : (cut 58 (cut1 61 s).1).length ≠ if k = 69 then 2 else 3) : FnS Tryz.prog 67 [S s, U8 k] G (FiPost s k) := by
  have hcl := cut1_len (k := 61) (s := s)
  have cx_cut : PuG Tryz.prog 46 [S s, S [61]] G (· = Tu [S (cut1 61 s).1, S (cut1 61 s).2.1, Bo (cut1 61 s).2.2]) := c_Cut (c := 61) (by omega)
  have cx_split := c_splitX (G := G) (c := 58) (k := 58) _ (s := (cut1 61 s).1) (by omega) rfl rfl rfl cut_pos
  have hno : fldOf s k = none := by
    rw [← fldI_eq]
    unfold fldI
    split
    · rename_i e2
      rw [e2] at e
      split
      · rename_i hk; simp [hk.1] at e
      · rfl
    · rename_i e2
      rw [e2] at e
      split
      · rfl
      · rename_i hk; simp [hk] at e
    · rfl
  have hpos := cut_pos (k := 58) (s := (cut1 61 s).1)
  generalize hn : (cut 58 (cut1 61 s).1).length = n at *
  by_cases hk : k = 69
  · rw [if_pos hk] at e
    refine b_enter [(0, _), (1, _)] Tryz.func67 (by kernel_rfl) Tryz.ntmps67 rfl rfl (by repeat (first | exact trivial | refine ⟨rfl, ?_⟩)) fun B hok hB hW => ?_
    repeat' (first | (refine run (t := tb) 400 rfl ?_ ?_; (focus (repeat' ((exact trivial))))) | (refine k_op rfl ?_; first | refine c_al rfl rfl fun _ => ?_ | refine v_op (g_lenL rfl) rfl rfl ?_ | refine v_op (g_bld rfl rfl) rfl rfl ?_ | refine c_stA rfl rfl rfl rfl rfl rfl ?_ | (refine c_rt rfl rfl rfl cx_cut rfl ?_) | (refine c_fns rfl rfl rfl cx_split rfl ?_; rintro _ G hle ⟨b1, o1, cap1, rfl, hseg⟩; skip)) | (refine k_tt rfl ?_ ?_; (focus (((refine decide_eq_true ?_; (omega))); done))))
    all_goals refine k_rr (vs := [_, _]) rfl ⟨rc_A rfl rfl rfl rfl, rfl, trivial⟩ rfl (List.nil_sublist _) ⟨hle, rfl, ?_⟩
    all_goals exact ⟨default, false, rfl, by rw [hno]; rfl⟩
  · rw [if_neg hk] at e
    refine b_enter [(0, _), (1, _)] Tryz.func67 (by kernel_rfl) Tryz.ntmps67 rfl rfl (by repeat (first | exact trivial | refine ⟨rfl, ?_⟩)) fun B hok hB hW => ?_
    repeat' (first | (refine run (t := tb) 400 rfl ?_ ?_; (focus (repeat' ((exact trivial))))) | (refine k_op rfl ?_; first | refine c_al rfl rfl fun _ => ?_ | refine v_op (g_lenL rfl) rfl rfl ?_ | refine v_op (g_bld rfl rfl) rfl rfl ?_ | refine c_stA rfl rfl rfl rfl rfl rfl ?_ | (refine c_rt rfl rfl rfl cx_cut rfl ?_) | (refine c_fns rfl rfl rfl cx_split rfl ?_; rintro _ G hle ⟨b1, o1, cap1, rfl, hseg⟩; skip)) | (refine k_tt rfl ?_ ?_; (focus (((refine decide_eq_true ?_; (omega))); done))) | (refine k_ff rfl ?_ ?_; (focus (((refine decide_eq_false ?_; (omega))); done))))
    all_goals refine k_rr (vs := [_, _]) rfl ⟨rc_A rfl rfl rfl rfl, rfl, trivial⟩ rfl (List.nil_sublist _) ⟨hle, rfl, ?_⟩
    all_goals exact ⟨default, false, rfl, by rw [hno]; rfl⟩
theorem c_readField2 {s a b : List UInt8} (h : s.length ≤ 1000) (e : cut 58 (cut1 61 s).1 = [a, b]) : FnS Tryz.prog 67 [S s, U8 (69 : Nat)] G (FiPost s 69) := by
  have hcl := cut1_len (k := 61) (s := s)
  have cx_cut : PuG Tryz.prog 46 [S s, S [61]] G (· = Tu [S (cut1 61 s).1, S (cut1 61 s).2.1, Bo (cut1 61 s).2.2]) := c_Cut (c := 61) (by omega)
  have cx_split := c_splitX (G := G) (c := 58) (k := 58) 2 (s := (cut1 61 s).1) (by omega) rfl e rfl (by omega)
  have ha : a.length ≤ 1000 := by have := cut_len (k := 58) (s := (cut1 61 s).1) (x := a) (by rw [e]; simp); omega
  have hb : b.length ≤ 1000 := by have := cut_len (k := 58) (s := (cut1 61 s).1) (x := b) (by rw [e]; simp); omega
  have hall : fldOf s 69 = if (cut1 61 s).2.2 = false then match numOf a 200 with
      | some n => if 1 ≤ n ∧ isNm b = true then some ⟨n, b, [], []⟩ else none
      | none => none else none := by
    rw [← fldI_eq]; unfold fldI; rw [e]; simp <;> rfl
  generalize hto : (cut1 61 s).2.2 = told at *
  generalize hva : (cut1 61 s).2.1 = val at *
  rcases hm : numOf a 200 with _ | m
  · have hno : fldOf s 69 = none := by rw [hall, hm]; simp
    have cx_pn : ∀ G, PuG Tryz.prog 82 [S a, I 200] G (fun v => ∃ n, v = Tu [I n, Bo false]) := fun G => c_pnumN (by omega) hm
    refine b_enter [(0, _), (1, _)] Tryz.func67 (by kernel_rfl) Tryz.ntmps67 rfl rfl (by repeat (first | exact trivial | refine ⟨rfl, ?_⟩)) fun B hok hB hW => ?_
    repeat' (first | (refine run (t := tb) 400 rfl ?_ ?_; (focus (repeat' ((exact trivial))))) | (refine k_op rfl ?_; first | refine c_al rfl rfl fun _ => ?_ | refine v_op (g_lenL rfl) rfl rfl ?_ | refine v_op (g_bld rfl rfl) rfl rfl ?_ | refine c_stA rfl rfl rfl rfl rfl rfl ?_ | (refine v_op (g_iaddr rfl rfl ?_) rfl rfl ?_; (focus ((omega); done))) | refine v_op (g_ldS rfl rfl (by assumption) rfl rfl) rfl rfl ?_ | (refine v_op (g_pickT rfl rfl ?_) rfl rfl ?_; (focus (((rfl)); done))) | (refine c_rt rfl rfl rfl cx_cut rfl ?_) | (refine c_fns rfl rfl rfl cx_split rfl ?_; rintro _ G hle ⟨b1, o1, cap1, rfl, hseg⟩; skip) | (refine c_pu rfl rfl rfl (cx_pn _) rfl ?_; rintro _ ⟨n, rfl⟩)) | (refine k_gt rfl rfl ?_ ?_; (focus (((rfl)); done))) | (refine k_tt rfl ?_ ?_; (focus (((rfl)); done))) | (refine k_ff rfl ?_ ?_; (focus (((rfl)); done))))
    all_goals refine k_rr (vs := [_, _]) rfl ⟨rc_A rfl rfl rfl rfl, rfl, trivial⟩ rfl (List.nil_sublist _) ⟨hle, rfl, ?_⟩
    all_goals exact ⟨default, false, rfl, by rw [hno]; rfl⟩
  have cx_pq : ∀ G, PuG Tryz.prog 82 [S a, I 200] G (· = Tu [I m, Bo true]) := fun G => c_pnumX (by omega) hm
  rw [hm] at hall
  dsimp only at hall
  by_cases hg : 1 ≤ m ∧ isNm b = true
  · rw [if_pos hg] at hall
    have hg1 := hg.1
    have hg2 : (!isNm b) = false := by rw [hg.2]; rfl
    cases told with
    | true =>
      refine b_enter [(0, _), (1, _)] Tryz.func67 (by kernel_rfl) Tryz.ntmps67 rfl rfl (by repeat (first | exact trivial | refine ⟨rfl, ?_⟩)) fun B hok hB hW => ?_
      repeat' (first | (refine run (t := tb) 400 rfl ?_ ?_; (focus (repeat' ((exact trivial))))) | (refine k_op rfl ?_; first | refine c_al rfl rfl fun _ => ?_ | refine v_op (g_lenL rfl) rfl rfl ?_ | refine v_op (g_bld rfl rfl) rfl rfl ?_ | refine c_stA rfl rfl rfl rfl rfl rfl ?_ | (refine v_op (g_iaddr rfl rfl ?_) rfl rfl ?_; (focus ((omega); done))) | refine v_op (g_ld rfl rfl rfl) rfl rfl ?_ | refine v_op (g_ldS rfl rfl (by assumption) rfl rfl) rfl rfl ?_ | (refine v_op (g_pickT rfl rfl ?_) rfl rfl ?_; (focus (((rfl)); done))) | (refine v_op (g_pickF rfl rfl ?_) rfl rfl ?_; (focus (((rfl)); done))) | (refine c_rt rfl rfl rfl cx_cut rfl ?_) | (refine c_fns rfl rfl rfl cx_split rfl ?_; rintro _ G hle ⟨b1, o1, cap1, rfl, hseg⟩; skip) | (refine c_rt rfl rfl rfl (cx_pq _) rfl ?_) | (refine c_rt rfl rfl rfl (c_isName ?_) rfl ?_; (focus (((omega)); done)))) | (refine k_gt rfl rfl ?_ ?_; (focus (((rfl)); done))) | (refine k_gf rfl rfl ?_ ?_; (focus ((first | rfl | (refine decide_eq_false ?_; (omega))); done))) | (refine k_tt rfl ?_ ?_; (focus (((rfl)); done))) | (refine k_ff rfl ?_ ?_; (focus ((first | rfl | assumption); done))))
      all_goals refine k_rr (vs := [_, _]) rfl ⟨rc_A rfl rfl rfl rfl, rfl, trivial⟩ rfl (List.nil_sublist _) ⟨hle, rfl, ?_⟩
      all_goals exact ⟨default, false, rfl, by rw [hall]; rfl⟩
    | false =>
      have hv : val = [] := by have := cut1_none hto; rw [this] at hva; exact hva.symm
      refine b_enter [(0, _), (1, _)] Tryz.func67 (by kernel_rfl) Tryz.ntmps67 rfl rfl (by repeat (first | exact trivial | refine ⟨rfl, ?_⟩)) fun B hok hB hW => ?_
      repeat' (first | (refine run (t := tb) 400 rfl ?_ ?_; (focus (repeat' ((exact trivial))))) | (refine k_op rfl ?_; first | refine c_al rfl rfl fun _ => ?_ | refine v_op (g_lenL rfl) rfl rfl ?_ | refine v_op (g_bld rfl rfl) rfl rfl ?_ | refine c_stA rfl rfl rfl rfl rfl rfl ?_ | (refine v_op (g_iaddr rfl rfl ?_) rfl rfl ?_; (focus ((omega); done))) | refine v_op (g_ld rfl rfl rfl) rfl rfl ?_ | refine v_op (g_ldA rfl rfl rfl rfl) rfl rfl ?_ | refine v_op (g_ldS rfl rfl (by assumption) rfl rfl) rfl rfl ?_ | (refine v_op (g_pickF rfl rfl ?_) rfl rfl ?_; (focus (((rfl)); done))) | (refine c_rt rfl rfl rfl cx_cut rfl ?_) | (refine c_fns rfl rfl rfl cx_split rfl ?_; rintro _ G hle ⟨b1, o1, cap1, rfl, hseg⟩; skip) | (refine c_rt rfl rfl rfl (cx_pq _) rfl ?_) | (refine c_rt rfl rfl rfl (c_isName ?_) rfl ?_; (focus (((omega)); done)))) | (refine k_gf rfl rfl ?_ ?_; (focus ((first | rfl | (refine decide_eq_false ?_; (omega))); done))) | (refine k_tt rfl ?_ ?_; (focus (((rfl)); done))) | (refine k_ff rfl ?_ ?_; (focus ((first | rfl | assumption); done))))
      all_goals refine k_rr (vs := [_, _]) rfl ⟨rc_A rfl rfl rfl rfl, rfl, trivial⟩ rfl (List.nil_sublist _) ⟨hle, rfl, ?_⟩
      all_goals exact ⟨⟨m, b, [], []⟩, true, by rw [hv]; rfl, by rw [hall]; rfl⟩
  · rw [if_neg hg] at hall
    have hno : fldOf s 69 = none := by rw [hall]; simp
    by_cases h1 : m < 1
    case' neg => have hg2 : (!isNm b) = true := by
                  cases hb2 : isNm b with
                  | false => rfl
                  | true => exact absurd ⟨by omega, hb2⟩ hg
    all_goals refine b_enter [(0, _), (1, _)] Tryz.func67 (by kernel_rfl) Tryz.ntmps67 rfl rfl (by repeat (first | exact trivial | refine ⟨rfl, ?_⟩)) fun B hok hB hW => ?_
    all_goals repeat' (first | (refine run (t := tb) 400 rfl ?_ ?_; (focus (repeat' ((exact trivial))))) | (refine k_op rfl ?_; first | refine c_al rfl rfl fun _ => ?_ | refine v_op (g_lenL rfl) rfl rfl ?_ | refine v_op (g_bld rfl rfl) rfl rfl ?_ | refine c_stA rfl rfl rfl rfl rfl rfl ?_ | (refine v_op (g_iaddr rfl rfl ?_) rfl rfl ?_; (focus ((omega); done))) | refine v_op (g_ld rfl rfl rfl) rfl rfl ?_ | refine v_op (g_ldS rfl rfl (by assumption) rfl rfl) rfl rfl ?_ | (refine v_op (g_pickT rfl rfl ?_) rfl rfl ?_; (focus (((rfl)); done))) | (refine v_op (g_pickF rfl rfl ?_) rfl rfl ?_; (focus (((rfl)); done))) | (refine c_rt rfl rfl rfl cx_cut rfl ?_) | (refine c_fns rfl rfl rfl cx_split rfl ?_; rintro _ G hle ⟨b1, o1, cap1, rfl, hseg⟩; skip) | (refine c_rt rfl rfl rfl (cx_pq _) rfl ?_) | (refine c_rt rfl rfl rfl (c_isName ?_) rfl ?_; (focus (((omega)); done)))) | (refine k_gt rfl rfl ?_ ?_; (focus (((refine decide_eq_true ?_; (assumption))); done))) | (refine k_gf rfl rfl ?_ ?_; (focus ((first | rfl | (refine decide_eq_false ?_; (assumption))); done))) | (refine k_tt rfl ?_ ?_; (focus ((first | rfl | assumption); done))) | (refine k_ff rfl ?_ ?_; (focus (((rfl)); done))))
    all_goals refine k_rr (vs := [_, _]) rfl ⟨rc_A rfl rfl rfl rfl, rfl, trivial⟩ rfl (List.nil_sublist _) ⟨hle, rfl, ?_⟩
    all_goals exact ⟨default, false, rfl, by rw [hno]; rfl⟩
theorem c_readField3 {s a b c : List UInt8} {k : Nat} (h : s.length ≤ 1000) (hk : ¬ k = 69) (e : cut 58 (cut1 61 s).1 = [a, b, c]) : FnS Tryz.prog 67 [S s, U8 k] G (FiPost s k) := by
  have hcl := cut1_len (k := 61) (s := s)
  have cx_cut : PuG Tryz.prog 46 [S s, S [61]] G (· = Tu [S (cut1 61 s).1, S (cut1 61 s).2.1, Bo (cut1 61 s).2.2]) := c_Cut (c := 61) (by omega)
  have cx_split := c_splitX (G := G) (c := 58) (k := 58) 3 (s := (cut1 61 s).1) (by omega) rfl e rfl (by omega)
  have ha : a.length ≤ 1000 := by have := cut_len (k := 58) (s := (cut1 61 s).1) (x := a) (by rw [e]; simp); omega
  have hb : b.length ≤ 1000 := by have := cut_len (k := 58) (s := (cut1 61 s).1) (x := b) (by rw [e]; simp); omega
  have hc : c.length ≤ 1000 := by have := cut_len (k := 58) (s := (cut1 61 s).1) (x := c) (by rw [e]; simp); omega
  have hall : fldOf s k = match numOf a 200 with
      | some n => if (1 ≤ n ∧ isNm b = true) ∧ kindOk c = true ∧ ((cut1 61 s).2.2 = true → k = 82 ∧ standOk c (cut1 61 s).2.1 = true) then some ⟨n, b, c, (cut1 61 s).2.1⟩ else none
      | none => none := by
    rw [← fldI_eq]; unfold fldI; rw [e]; simp [hk] <;> rfl
  generalize hto : (cut1 61 s).2.2 = told at *
  generalize hva : (cut1 61 s).2.1 = val at *
  rcases hm : numOf a 200 with _ | m
  · have hno : fldOf s k = none := by rw [hall, hm]
    have cx_pn : ∀ G, PuG Tryz.prog 82 [S a, I 200] G (fun v => ∃ n, v = Tu [I n, Bo false]) := fun G => c_pnumN (by omega) hm
    refine b_enter [(0, _), (1, _)] Tryz.func67 (by kernel_rfl) Tryz.ntmps67 rfl rfl (by repeat (first | exact trivial | refine ⟨rfl, ?_⟩)) fun B hok hB hW => ?_
    repeat' (first | (refine run (t := tb) 400 rfl ?_ ?_; (focus (repeat' ((exact trivial))))) | (refine k_op rfl ?_; first | refine c_al rfl rfl fun _ => ?_ | refine v_op (g_lenL rfl) rfl rfl ?_ | refine v_op (g_bld rfl rfl) rfl rfl ?_ | refine c_stA rfl rfl rfl rfl rfl rfl ?_ | (refine v_op (g_iaddr rfl rfl ?_) rfl rfl ?_; (focus ((omega); done))) | refine v_op (g_ldS rfl rfl (by assumption) rfl rfl) rfl rfl ?_ | (refine v_op (g_pickT rfl rfl ?_) rfl rfl ?_; (focus (((rfl)); done))) | (refine c_rt rfl rfl rfl cx_cut rfl ?_) | (refine c_fns rfl rfl rfl cx_split rfl ?_; rintro _ G hle ⟨b1, o1, cap1, rfl, hseg⟩; skip) | (refine c_pu rfl rfl rfl (cx_pn _) rfl ?_; rintro _ ⟨n, rfl⟩)) | (refine k_gt rfl rfl ?_ ?_; (focus (((rfl)); done))) | (refine k_tt rfl ?_ ?_; (focus (((rfl)); done))) | (refine k_ff rfl ?_ ?_; (focus ((first | rfl | (refine decide_eq_false ?_; (omega))); done))))
    all_goals refine k_rr (vs := [_, _]) rfl ⟨rc_A rfl rfl rfl rfl, rfl, trivial⟩ rfl (List.nil_sublist _) ⟨hle, rfl, ?_⟩
    all_goals exact ⟨default, false, rfl, by rw [hno]; rfl⟩
  have cx_pq : ∀ G, PuG Tryz.prog 82 [S a, I 200] G (· = Tu [I m, Bo true]) := fun G => c_pnumX (by omega) hm
  rw [hm] at hall
  dsimp only at hall
  by_cases hg : 1 ≤ m ∧ isNm b = true
  case neg =>
    have hno : fldOf s k = none := by rw [hall, if_neg fun h => hg h.1]
    by_cases h1 : m < 1
    case' neg => have hg2 : (!isNm b) = true := by
                  cases hb2 : isNm b with
                  | false => rfl
                  | true => exact absurd ⟨by omega, hb2⟩ hg
    all_goals refine b_enter [(0, _), (1, _)] Tryz.func67 (by kernel_rfl) Tryz.ntmps67 rfl rfl (by repeat (first | exact trivial | refine ⟨rfl, ?_⟩)) fun B hok hB hW => ?_
    all_goals repeat' (first | (refine run (t := tb) 400 rfl ?_ ?_; (focus (repeat' ((exact trivial))))) | (refine k_op rfl ?_; first | refine c_al rfl rfl fun _ => ?_ | refine v_op (g_lenL rfl) rfl rfl ?_ | refine v_op (g_bld rfl rfl) rfl rfl ?_ | refine c_stA rfl rfl rfl rfl rfl rfl ?_ | (refine v_op (g_iaddr rfl rfl ?_) rfl rfl ?_; (focus ((omega); done))) | refine v_op (g_ld rfl rfl rfl) rfl rfl ?_ | refine v_op (g_ldS rfl rfl (by assumption) rfl rfl) rfl rfl ?_ | (refine v_op (g_pickT rfl rfl ?_) rfl rfl ?_; (focus (((rfl)); done))) | (refine v_op (g_pickF rfl rfl ?_) rfl rfl ?_; (focus (((rfl)); done))) | (refine c_rt rfl rfl rfl cx_cut rfl ?_) | (refine c_fns rfl rfl rfl cx_split rfl ?_; rintro _ G hle ⟨b1, o1, cap1, rfl, hseg⟩; skip) | (refine c_rt rfl rfl rfl (cx_pq _) rfl ?_) | (refine c_rt rfl rfl rfl (c_isName ?_) rfl ?_; (focus (((omega)); done)))) | (refine k_gt rfl rfl ?_ ?_; (focus (((refine decide_eq_true ?_; (assumption))); done))) | (refine k_gf rfl rfl ?_ ?_; (focus ((first | rfl | (refine decide_eq_false ?_; (assumption))); done))) | (refine k_tt rfl ?_ ?_; (focus ((first | rfl | assumption); done))) | (refine k_ff rfl ?_ ?_; (focus ((first | rfl | (refine decide_eq_false ?_; (omega))); done))))
    all_goals refine k_rr (vs := [_, _]) rfl ⟨rc_A rfl rfl rfl rfl, rfl, trivial⟩ rfl (List.nil_sublist _) ⟨hle, rfl, ?_⟩
    all_goals exact ⟨default, false, rfl, by rw [hno]; rfl⟩
  have hg1 := hg.1
  have hg2 : (!isNm b) = false := by rw [hg.2]; rfl
  by_cases hkc : kindOk c = true
  case neg =>
    have hkc2 : kindOk c = false := by simpa using hkc
    have hno : fldOf s k = none := by rw [hall, if_neg fun h => hkc h.2.1]
    have cx_kn : ∀ G, PuG Tryz.prog 37 [S c] G (fun v => ∃ x y z, v = Tu [Ag [S x, S y, S z], Bo false]) := fun G => by
      refine (c_readKind (G := G) (s := c) (by omega)).mono ?_
      rintro v G' L' ⟨h1, h2, x, y, z, rfl, _⟩
      exact ⟨h1, h2, x, y, z, by rw [hkc2]⟩
    refine b_enter [(0, _), (1, _)] Tryz.func67 (by kernel_rfl) Tryz.ntmps67 rfl rfl (by repeat (first | exact trivial | refine ⟨rfl, ?_⟩)) fun B hok hB hW => ?_
    repeat' (first | (refine run (t := tb) 400 rfl ?_ ?_; (focus (repeat' ((exact trivial))))) | (refine k_op rfl ?_; first | refine c_al rfl rfl fun _ => ?_ | refine v_op (g_lenL rfl) rfl rfl ?_ | refine v_op (g_bld rfl rfl) rfl rfl ?_ | refine c_stA rfl rfl rfl rfl rfl rfl ?_ | (refine v_op (g_iaddr rfl rfl ?_) rfl rfl ?_; (focus ((omega); done))) | refine v_op (g_ld rfl rfl rfl) rfl rfl ?_ | refine v_op (g_ldS rfl rfl (by assumption) rfl rfl) rfl rfl ?_ | (refine v_op (g_pickF rfl rfl ?_) rfl rfl ?_; (focus (((rfl)); done))) | (refine c_rt rfl rfl rfl cx_cut rfl ?_) | (refine c_fns rfl rfl rfl cx_split rfl ?_; rintro _ G hle ⟨b1, o1, cap1, rfl, hseg⟩; skip) | (refine c_rt rfl rfl rfl (cx_pq _) rfl ?_) | (refine c_rt rfl rfl rfl (c_isName ?_) rfl ?_; (focus (((omega)); done))) | (refine c_pu rfl rfl rfl (cx_kn _) rfl ?_; rintro _ ⟨x, y, z, rfl⟩)) | (refine k_gf rfl rfl ?_ ?_; (focus ((first | rfl | (refine decide_eq_false ?_; (omega))); done))) | (refine k_tt rfl ?_ ?_; (focus ((first | rfl | (refine decide_eq_true ?_; (omega))); done))) | (refine k_ff rfl ?_ ?_; (focus ((first | rfl | assumption | (refine decide_eq_false ?_; (omega))); done))))
    all_goals refine k_rr (vs := [_, _]) rfl ⟨rc_A rfl rfl rfl rfl, rfl, trivial⟩ rfl (List.nil_sublist _) ⟨hle, rfl, ?_⟩
    all_goals exact ⟨default, false, rfl, by rw [hno]; rfl⟩
  have cx_kq : ∀ G, PuG Tryz.prog 37 [S c] G (· = Tu [Ag [S (sg c), S (bs c), S (nm c)], Bo true]) := fun G => c_kindX (by omega) hkc
  cases told with
  | false =>
    have hv : val = [] := by have := cut1_none hto; rw [this] at hva; exact hva.symm
    have hyes : fldOf s k = some ⟨m, b, c, val⟩ := by rw [hall, if_pos ⟨hg, hkc, fun h => by cases h⟩]
    refine b_enter [(0, _), (1, _)] Tryz.func67 (by kernel_rfl) Tryz.ntmps67 rfl rfl (by repeat (first | exact trivial | refine ⟨rfl, ?_⟩)) fun B hok hB hW => ?_
    repeat' (first | (refine run (t := tb) 400 rfl ?_ ?_; (focus (repeat' ((exact trivial))))) | (refine k_op rfl ?_; first | refine c_al rfl rfl fun _ => ?_ | refine v_op (g_lenL rfl) rfl rfl ?_ | refine v_op (g_bld rfl rfl) rfl rfl ?_ | refine c_stA rfl rfl rfl rfl rfl rfl ?_ | (refine v_op (g_iaddr rfl rfl ?_) rfl rfl ?_; (focus ((omega); done))) | refine v_op (g_ld rfl rfl rfl) rfl rfl ?_ | refine v_op (g_ldA rfl rfl rfl rfl) rfl rfl ?_ | refine v_op (g_ldS rfl rfl (by assumption) rfl rfl) rfl rfl ?_ | (refine v_op (g_pickF rfl rfl ?_) rfl rfl ?_; (focus (((rfl)); done))) | (refine c_rt rfl rfl rfl cx_cut rfl ?_) | (refine c_fns rfl rfl rfl cx_split rfl ?_; rintro _ G hle ⟨b1, o1, cap1, rfl, hseg⟩; skip) | (refine c_rt rfl rfl rfl (cx_pq _) rfl ?_) | (refine c_rt rfl rfl rfl (c_isName ?_) rfl ?_; (focus (((omega)); done))) | (refine c_rt rfl rfl rfl (cx_kq _) rfl ?_)) | (refine k_gf rfl rfl ?_ ?_; (focus ((first | rfl | (refine decide_eq_false ?_; (omega))); done))) | (refine k_tt rfl ?_ ?_; (focus (((refine decide_eq_true ?_; (omega))); done))) | (refine k_ff rfl ?_ ?_; (focus ((first | rfl | assumption | (refine decide_eq_false ?_; (omega))); done))))
    all_goals refine k_rr (vs := [_, _]) rfl ⟨rc_A rfl rfl rfl rfl, rfl, trivial⟩ rfl (List.nil_sublist _) ⟨hle, rfl, ?_⟩
    all_goals exact ⟨⟨m, b, c, val⟩, true, rfl, by rw [hyes]; rfl⟩
  | true =>
    have hst := stand_bs (v := val) hkc
    by_cases h82 : k = 82
    case neg =>
      have hno : fldOf s k = none := by rw [hall, if_neg fun h => h82 (h.2.2 rfl).1]
      have h83 : ¬ (k : Int) = 82 := by omega
      refine b_enter [(0, _), (1, _)] Tryz.func67 (by kernel_rfl) Tryz.ntmps67 rfl rfl (by repeat (first | exact trivial | refine ⟨rfl, ?_⟩)) fun B hok hB hW => ?_
      repeat' (first | (refine run (t := tb) 400 rfl ?_ ?_; (focus (repeat' ((exact trivial))))) | (refine k_op rfl ?_; first | refine c_al rfl rfl fun _ => ?_ | refine v_op (g_lenL rfl) rfl rfl ?_ | refine v_op (g_bld rfl rfl) rfl rfl ?_ | refine c_stA rfl rfl rfl rfl rfl rfl ?_ | (refine v_op (g_iaddr rfl rfl ?_) rfl rfl ?_; (focus ((omega); done))) | refine v_op (g_ld rfl rfl rfl) rfl rfl ?_ | refine v_op (g_ldS rfl rfl (by assumption) rfl rfl) rfl rfl ?_ | (refine v_op (g_pickT rfl rfl ?_) rfl rfl ?_; (focus (((rfl)); done))) | (refine v_op (g_pickF rfl rfl ?_) rfl rfl ?_; (focus (((rfl)); done))) | (refine c_rt rfl rfl rfl cx_cut rfl ?_) | (refine c_fns rfl rfl rfl cx_split rfl ?_; rintro _ G hle ⟨b1, o1, cap1, rfl, hseg⟩; skip) | (refine c_rt rfl rfl rfl (cx_pq _) rfl ?_) | (refine c_rt rfl rfl rfl (c_isName ?_) rfl ?_; (focus (((omega)); done))) | (refine c_rt rfl rfl rfl (cx_kq _) rfl ?_)) | (refine k_gt rfl rfl ?_ ?_; (focus ((first | rfl | (refine decide_eq_true ?_; (assumption))); done))) | (refine k_gf rfl rfl ?_ ?_; (focus ((first | rfl | (refine decide_eq_false ?_; (omega))); done))) | (refine k_tt rfl ?_ ?_; (focus ((first | rfl | (refine decide_eq_true ?_; (omega))); done))) | (refine k_ff rfl ?_ ?_; (focus ((first | rfl | assumption | (refine decide_eq_false ?_; (omega))); done))))
      all_goals refine k_rr (vs := [_, _]) rfl ⟨rc_A rfl rfl rfl rfl, rfl, trivial⟩ rfl (List.nil_sublist _) ⟨hle, rfl, ?_⟩
      all_goals exact ⟨default, false, rfl, by rw [hno]; rfl⟩
    subst h82
    by_cases hsg : sg c = []
    · rw [decide_eq_true hsg, Bool.true_and] at hst
      by_cases hso : standOk c val = true
      · have hyes : fldOf s 82 = some ⟨m, b, c, val⟩ := by rw [hall, if_pos ⟨hg, hkc, fun _ => ⟨rfl, hso⟩⟩]
        have hso2 : (!standOk (bs c) val) = false := by rw [hst, hso]; rfl
        refine b_enter [(0, _), (1, _)] Tryz.func67 (by kernel_rfl) Tryz.ntmps67 rfl rfl (by repeat (first | exact trivial | refine ⟨rfl, ?_⟩)) fun B hok hB hW => ?_
        repeat' (first | (refine run (t := tb) 400 rfl ?_ ?_; (focus (repeat' ((exact trivial))))) | (refine k_op rfl ?_; first | refine c_al rfl rfl fun _ => ?_ | refine v_op (g_lenL rfl) rfl rfl ?_ | refine v_op (g_bld rfl rfl) rfl rfl ?_ | refine c_stA rfl rfl rfl rfl rfl rfl ?_ | (refine v_op (g_iaddr rfl rfl ?_) rfl rfl ?_; (focus ((omega); done))) | refine v_op (g_ld rfl rfl rfl) rfl rfl ?_ | refine v_op (g_ldA rfl rfl rfl rfl) rfl rfl ?_ | refine v_op (g_ldS rfl rfl (by assumption) rfl rfl) rfl rfl ?_ | (refine v_op (g_pickT rfl rfl ?_) rfl rfl ?_; (focus (((rfl)); done))) | (refine v_op (g_pickF rfl rfl ?_) rfl rfl ?_; (focus (((rfl)); done))) | (refine c_rt rfl rfl rfl cx_cut rfl ?_) | (refine c_fns rfl rfl rfl cx_split rfl ?_; rintro _ G hle ⟨b1, o1, cap1, rfl, hseg⟩; skip) | (refine c_rt rfl rfl rfl (cx_pq _) rfl ?_) | (refine c_rt rfl rfl rfl (c_isName ?_) rfl ?_; (focus (((omega)); done))) | (refine c_rt rfl rfl rfl (cx_kq _) rfl ?_) | (refine c_rt rfl rfl rfl (c_standing (by omega)) rfl ?_)) | (refine k_gt rfl rfl ?_ ?_; (focus (((rfl)); done))) | (refine k_gf rfl rfl ?_ ?_; (focus ((first | rfl | (refine decide_eq_false ?_; (omega)) | (simp [*]; done)); done))) | (refine k_tt rfl ?_ ?_; (focus (((rfl)); done))) | (refine k_ff rfl ?_ ?_; (focus ((first | rfl | assumption); done))))
        all_goals refine k_rr (vs := [_, _]) rfl ⟨rc_A rfl rfl rfl rfl, rfl, trivial⟩ rfl (List.nil_sublist _) ⟨hle, rfl, ?_⟩
        all_goals exact ⟨⟨m, b, c, val⟩, true, rfl, by rw [hyes]; rfl⟩
      · have hno : fldOf s 82 = none := by rw [hall, if_neg fun h => hso (h.2.2 rfl).2]
        have hso2 : (!standOk (bs c) val) = true := by rw [hst]; simpa using hso
        refine b_enter [(0, _), (1, _)] Tryz.func67 (by kernel_rfl) Tryz.ntmps67 rfl rfl (by repeat (first | exact trivial | refine ⟨rfl, ?_⟩)) fun B hok hB hW => ?_
        repeat' (first | (refine run (t := tb) 400 rfl ?_ ?_; (focus (repeat' ((exact trivial))))) | (refine k_op rfl ?_; first | refine c_al rfl rfl fun _ => ?_ | refine v_op (g_lenL rfl) rfl rfl ?_ | refine v_op (g_bld rfl rfl) rfl rfl ?_ | refine c_stA rfl rfl rfl rfl rfl rfl ?_ | (refine v_op (g_iaddr rfl rfl ?_) rfl rfl ?_; (focus ((omega); done))) | refine v_op (g_ld rfl rfl rfl) rfl rfl ?_ | refine v_op (g_ldS rfl rfl (by assumption) rfl rfl) rfl rfl ?_ | (refine v_op (g_pickT rfl rfl ?_) rfl rfl ?_; (focus (((rfl)); done))) | (refine v_op (g_pickF rfl rfl ?_) rfl rfl ?_; (focus (((rfl)); done))) | (refine c_rt rfl rfl rfl cx_cut rfl ?_) | (refine c_fns rfl rfl rfl cx_split rfl ?_; rintro _ G hle ⟨b1, o1, cap1, rfl, hseg⟩; skip) | (refine c_rt rfl rfl rfl (cx_pq _) rfl ?_) | (refine c_rt rfl rfl rfl (c_isName ?_) rfl ?_; (focus (((omega)); done))) | (refine c_rt rfl rfl rfl (cx_kq _) rfl ?_) | (refine c_rt rfl rfl rfl (c_standing (by omega)) rfl ?_)) | (refine k_gt rfl rfl ?_ ?_; (focus (((rfl)); done))) | (refine k_gf rfl rfl ?_ ?_; (focus ((first | rfl | (refine decide_eq_false ?_; (omega)) | (simp [*]; done)); done))) | (refine k_tt rfl ?_ ?_; (focus ((first | rfl | assumption); done))) | (refine k_ff rfl ?_ ?_; (focus ((first | rfl | assumption); done))))
        all_goals refine k_rr (vs := [_, _]) rfl ⟨rc_A rfl rfl rfl rfl, rfl, trivial⟩ rfl (List.nil_sublist _) ⟨hle, rfl, ?_⟩
        all_goals exact ⟨default, false, rfl, by rw [hno]; rfl⟩
    · rw [decide_eq_false hsg, Bool.false_and] at hst
      have hno : fldOf s 82 = none := by rw [hall, if_neg fun h => by rw [(h.2.2 rfl).2] at hst; cases hst]
      refine b_enter [(0, _), (1, _)] Tryz.func67 (by kernel_rfl) Tryz.ntmps67 rfl rfl (by repeat (first | exact trivial | refine ⟨rfl, ?_⟩)) fun B hok hB hW => ?_
      repeat' (first | (refine run (t := tb) 400 rfl ?_ ?_; (focus (repeat' ((exact trivial))))) | (refine k_op rfl ?_; first | refine c_al rfl rfl fun _ => ?_ | refine v_op (g_lenL rfl) rfl rfl ?_ | refine v_op (g_bld rfl rfl) rfl rfl ?_ | refine c_stA rfl rfl rfl rfl rfl rfl ?_ | (refine v_op (g_iaddr rfl rfl ?_) rfl rfl ?_; (focus ((omega); done))) | refine v_op (g_ld rfl rfl rfl) rfl rfl ?_ | refine v_op (g_ldS rfl rfl (by assumption) rfl rfl) rfl rfl ?_ | (refine v_op (g_pickT rfl rfl ?_) rfl rfl ?_; (focus (((rfl)); done))) | (refine v_op (g_pickF rfl rfl ?_) rfl rfl ?_; (focus (((rfl)); done))) | (refine c_rt rfl rfl rfl cx_cut rfl ?_) | (refine c_fns rfl rfl rfl cx_split rfl ?_; rintro _ G hle ⟨b1, o1, cap1, rfl, hseg⟩; skip) | (refine c_rt rfl rfl rfl (cx_pq _) rfl ?_) | (refine c_rt rfl rfl rfl (c_isName ?_) rfl ?_; (focus (((omega)); done))) | (refine c_rt rfl rfl rfl (cx_kq _) rfl ?_)) | (refine k_gt rfl rfl ?_ ?_; (focus ((first | rfl | (refine decide_eq_true ?_; (assumption))); done))) | (refine k_gf rfl rfl ?_ ?_; (focus ((first | rfl | (refine decide_eq_false ?_; (omega))); done))) | (refine k_tt rfl ?_ ?_; (focus (((rfl)); done))) | (refine k_ff rfl ?_ ?_; (focus ((first | rfl | assumption); done))))
      all_goals refine k_rr (vs := [_, _]) rfl ⟨rc_A rfl rfl rfl rfl, rfl, trivial⟩ rfl (List.nil_sublist _) ⟨hle, rfl, ?_⟩
      all_goals exact ⟨default, false, rfl, by rw [hno]; rfl⟩
theorem c_readField {s : List UInt8} {k : Nat} (h : s.length ≤ 1000) : FnS Tryz.prog 67 [S s, U8 k] G (FiPost s k) := by
  by_cases hk : k = 69
  · subst hk
    by_cases h2 : (cut 58 (cut1 61 s).1).length = 2
    · match e : cut 58 (cut1 61 s).1, h2 with
      | [a, b], _ => exact c_readField2 h e
    · exact c_readField0 h (by simpa using h2)
  · by_cases h3 : (cut 58 (cut1 61 s).1).length = 3
    · match e : cut 58 (cut1 61 s).1, h3 with
      | [a, b, c], _ => exact c_readField3 h hk e
    · exact c_readField0 h (by simpa [hk] using h3)
end Go.E
