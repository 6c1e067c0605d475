/- Contracts and plain laws that the statement rests on, part 3. Conditions: as each says. -/
import Derived.Test.YtladnpnemcdngaaGreatDoorZ2
import Derived.Lib.Bytealg
import Derived.DeepKeys5
import Derived.Lib.Builder
import Derived.Lib.UnsafeStr
import Derived.Lib.MakeNoZero
import Derived.Laws.CopyRow
set_option linter.unusedVariables false
set_option linter.unusedSimpArgs false
/-! Ma -/
namespace Go.E
set_option maxRecDepth 20000
set_option maxHeartbeats 2000000
/-- A text cut at the first byte of a kind. -/
def cut1 (k : Nat) : List UInt8 → List UInt8 × List UInt8 × Bool
  | [] => ([], [], false)
  | c :: r => if c.toNat = k then ([], r, true) else (c :: (cut1 k r).1, (cut1 k r).2.1, (cut1 k r).2.2)
theorem bt_succ (c : UInt8) (r : List UInt8) (i : Nat) : bt (c :: r) (i + 1) = bt r i := by simp [bt, List.getD]
theorem bt_zero (c : UInt8) (r : List UInt8) : bt (c :: r) 0 = c.toNat := by simp [bt, List.getD]
theorem cut1_no {k : Nat} : ∀ {s : List UInt8}, (∀ j, j < s.length → bt s j ≠ k) → cut1 k s = (s, [], false)
  | [], _ => rfl
  | c :: r, h => by
    have h0 := h 0 (by simp)
    rw [bt_zero] at h0
    have ih := cut1_no (k := k) (s := r) fun j hj => by have := h (j + 1) (by simpa using hj); rwa [bt_succ] at this
    rw [cut1, if_neg h0, ih]
theorem cut1_at {k : Nat} : ∀ {s : List UInt8} {i : Nat}, i < s.length → (∀ j, j < i → bt s j ≠ k) → bt s i = k → cut1 k s = (s.take i, s.drop (i + 1), true)
  | [], i, h, _, _ => by simp at h
  | c :: r, 0, _, _, h => by rw [bt_zero] at h; rw [cut1, if_pos h]; rfl
  | c :: r, i + 1, hl, h, hi => by
    have h0 := h 0 (by omega)
    rw [bt_zero] at h0
    rw [bt_succ] at hi
    have ih := cut1_at (k := k) (s := r) (i := i) (by simpa using hl) (fun j hj => by have := h (j + 1) (by omega); rwa [bt_succ] at this) hi
    rw [cut1, if_neg h0, ih]; rfl
/-- A type of a schema. -/
structure Ty where
  sort : Nat
  name : List UInt8
  fields : List Fld
deriving Inhabited
def fresh (f : Fld) (fs : List Fld) : Bool := fs.all fun g => decide (g.tag < f.tag ∧ g.name ≠ f.name)
def fieldsOf (k : Nat) : List (List UInt8) → List Fld → Option (List Fld)
  | [], fs => some fs
  | x :: xs, fs => match fldOf x k with
    | none => none
    | some f => if fresh f fs = true then fieldsOf k xs (fs ++ [f]) else none
def sortOk (k : Nat) : Prop := k = 82 ∨ k = 85 ∨ k = 69
instance (k : Nat) : Decidable (sortOk k) := inferInstanceAs (Decidable (_ ∨ _ ∨ _))
/-- A type, read from its line. -/
def tyOf : List UInt8 → Option Ty
  | [] => none
  | c :: r => match cut1 61 r with
    | (name, rest, true) => if isNm name = true ∧ sortOk c.toNat then
        if rest = [] then (if c.toNat = 82 then some ⟨82, name, []⟩ else none)
        else match fieldsOf c.toNat (cut 44 rest) [] with
          | some fs => if fs.length ≤ 8 then some ⟨c.toNat, name, fs⟩ else none
          | none => none
      else none
    | _ => none
/-- The name that a kind without signs begins with. -/
def refN : List UInt8 → Option (List UInt8)
  | [] => none
  | c :: r => if c.toNat = 64 then some (r.take (r.length - 1)) else none
def findT (ts : List Ty) (name : List UInt8) : Option Ty := ts.find? fun t => decide (t.name = name)
def refT (ts : List Ty) (k : List UInt8) : Option Ty := (refN k).bind (findT ts)
def kind0 (t : Ty) : List UInt8 := (t.fields.headD default).kind
/-- Do first fields of unions end, in so many steps? -/
def endsN (ts : List Ty) : Nat → Ty → Bool
  | 0, _ => false
  | n + 1, t => if t.sort ≠ 85 then true else match refT ts (kind0 t) with
    | none => true
    | some u => endsN ts n u
def hasK (ts : List Ty) (k : List UInt8) : Bool := match refN (core k) with
  | none => true
  | some n => (findT ts n).isSome
def NamesAt (ts : List Ty) (i : Nat) : Prop := ∀ k, k < i → (nth ts k).name ≠ (nth ts i).name
def KindsOk (ts : List Ty) (t : Ty) : Prop := t.sort = 69 ∨ ∀ j, j < t.fields.length → hasK ts (nth t.fields j).kind = true
def ValidT (ts : List Ty) : Prop := (∀ i, i < ts.length → NamesAt ts i ∧ KindsOk ts (nth ts i)) ∧ ∀ i, i < ts.length → endsN ts (ts.length + 1) (nth ts i) = true
instance (ts : List Ty) (i : Nat) : Decidable (NamesAt ts i) := inferInstanceAs (Decidable (∀ k, k < i → _))
instance (ts : List Ty) (t : Ty) : Decidable (KindsOk ts t) := inferInstanceAs (Decidable (_ ∨ ∀ j, j < t.fields.length → _))
instance (ts : List Ty) : Decidable (ValidT ts) := inferInstanceAs (Decidable ((∀ i, i < ts.length → _) ∧ ∀ i, i < ts.length → _))
def typesOf : List (List UInt8) → Option (List Ty)
  | [] => some []
  | x :: xs => match tyOf x with
    | none => none
    | some t => (typesOf xs).map (t :: ·)
/-- A schema, read. -/
def schemaOf (s : List UInt8) : Option (List Ty) :=
  if s.length ≤ 400 ∧ (cut 10 s).length ≤ 9 ∧ (cut 10 s).getLastD [] = [] then
    match typesOf (cut 10 s).dropLast with
    | some ts => if ValidT ts then some ts else none
    | none => none
  else none
/-- What is known of a field of a type of a sort. -/
structure FldW (k : Nat) (f : Fld) : Prop where
  tag : 1 ≤ f.tag ∧ f.tag ≤ 200
  name : isNm f.name = true
  kind : k ≠ 69 → kindOk f.kind = true
  enm : k = 69 → f.kind = [] ∧ f.stand = []
  stand : f.stand ≠ [] → k = 82 ∧ standOk f.kind f.stand = true
theorem numOf_le {s : List UInt8} {top n : Int} (h : numOf s top = some n) : n ≤ top ∧ s = decI n ∧ s.length ≤ 6 := by
  unfold numOf at h
  split at h
  · split at h
    · split at h
      · rename_i h1 _ _ _ h2; simp only [Option.some.injEq] at h; subst h; exact ⟨h2.2, h2.1, h1⟩
      · cases h
    · cases h
  · cases h
theorem standOk_kind {k s : List UInt8} (h : standOk k s = true) : kindOk k = true := by
  unfold standOk at h
  split at h
  · subst_vars; decide
  · split at h
    · subst_vars; decide
    · split at h
      · subst_vars; decide
      · cases h
theorem standOk_ne {k s : List UInt8} (h : standOk k s = true) : s ≠ [] := by
  rintro rfl
  revert h
  have e : numOf [] 999999 = none := by
    unfold numOf
    simp [digF, decI_lo]
  unfold standOk
  rw [e]
  split
  · simp
  · split
    · simp [isTx, TxP]
    · split <;> simp
theorem fldOf_w {s : List UInt8} {k : Nat} {f : Fld} (h : fldOf s k = some f) : FldW k f := by
  unfold fldOf at h
  split at h
  · split at h
    · rename_i hk
      split at h
      · rename_i n hn
        split at h
        · rename_i hg
          simp only [Option.some.injEq] at h; subst h
          exact ⟨⟨hg.1, (numOf_le hn).1⟩, hg.2, fun h => absurd hk h, fun _ => ⟨rfl, rfl⟩, fun h => absurd rfl h⟩
        · cases h
      · cases h
    · cases h
  · split at h
    · cases h
    · rename_i hk
      split at h
      · rename_i n hn
        split at h
        · rename_i hg
          split at h
          · split at h
            · rename_i hd
              simp only [Option.some.injEq] at h; subst h
              exact ⟨⟨hg.1, (numOf_le hn).1⟩, hg.2, fun _ => hd, fun h => absurd h hk, fun h => absurd rfl h⟩
            · cases h
          · split at h
            · rename_i hd
              simp only [Option.some.injEq] at h; subst h
              exact ⟨⟨hg.1, (numOf_le hn).1⟩, hg.2, fun _ => standOk_kind hd.2, fun h => absurd h hk, fun _ => hd⟩
            · cases h
          · cases h
        · cases h
      · cases h
  · cases h
/-- What is known of a type. -/
structure TyW (t : Ty) : Prop where
  sort : sortOk t.sort
  name : isNm t.name = true
  ne : t.sort ≠ 82 → t.fields ≠ []
  len : t.fields.length ≤ 8
  fld : ∀ f ∈ t.fields, FldW t.sort f
  asc : t.fields.Pairwise fun g f => g.tag < f.tag ∧ g.name ≠ f.name
theorem fieldsOf_w {k : Nat} : ∀ {xs : List (List UInt8)} {fs gs : List Fld}, fieldsOf k xs fs = some gs → (∀ f ∈ fs, FldW k f) → fs.Pairwise (fun g f => g.tag < f.tag ∧ g.name ≠ f.name) →
    (∀ f ∈ gs, FldW k f) ∧ gs.Pairwise (fun g f => g.tag < f.tag ∧ g.name ≠ f.name) ∧ gs.length = fs.length + xs.length
  | [], fs, gs, h, h1, h2 => by
    simp only [fieldsOf, Option.some.injEq] at h; subst h; exact ⟨h1, h2, by simp⟩
  | x :: xs, fs, gs, h, h1, h2 => by
    unfold fieldsOf at h
    split at h
    · cases h
    · rename_i f hf
      split at h
      · rename_i hfr
        simp only [fresh, List.all_eq_true, decide_eq_true_eq] at hfr
        have := fieldsOf_w h (fun g hg => by
          rcases List.mem_append.1 hg with hg | hg
          · exact h1 g hg
          · simp only [List.mem_singleton] at hg; subst hg; exact fldOf_w hf) (List.pairwise_append.2 ⟨h2, by simp, fun a ha b hb => by
            simp only [List.mem_singleton] at hb; subst hb; exact hfr a ha⟩)
        refine ⟨this.1, this.2.1, ?_⟩
        rw [this.2.2]; simp; omega
      · cases h
theorem tyOf_w {s : List UInt8} {t : Ty} (h : tyOf s = some t) : TyW t := by
  unfold tyOf at h
  split at h
  · cases h
  · split at h
    · split at h
      · rename_i hn
        split at h
        · split at h
          · simp only [Option.some.injEq] at h; subst h
            exact ⟨.inl rfl, hn.1, fun h => absurd rfl h, by simp, by simp, by simp⟩
          · cases h
        · split at h
          · rename_i fs hfs
            split at h
            · rename_i hl
              simp only [Option.some.injEq] at h; subst h
              have hw := fieldsOf_w hfs (by simp) (by simp)
              refine ⟨hn.2, hn.1, fun _ h0 => ?_, hl, hw.1, hw.2.1⟩
              have := hw.2.2
              dsimp only at h0
              rw [h0] at this
              have := cut_pos (k := 44) (s := ‹List UInt8›)
              simp at *; omega
            · cases h
          · cases h
      · cases h
    · cases h
theorem typesOf_w : ∀ {xs : List (List UInt8)} {ts : List Ty}, typesOf xs = some ts → (∀ t ∈ ts, TyW t) ∧ ts.length = xs.length
  | [], ts, h => by simp only [typesOf, Option.some.injEq] at h; subst h; simp
  | x :: xs, ts, h => by
    unfold typesOf at h
    split at h
    · cases h
    · rename_i t ht
      cases hr : typesOf xs with
      | none => rw [hr] at h; cases h
      | some us =>
        rw [hr] at h
        simp only [Option.map_some, Option.some.injEq] at h; subst h
        have := typesOf_w hr
        exact ⟨fun u hu => by rcases List.mem_cons.1 hu with rfl | hu; exact tyOf_w ht; exact this.1 u hu, by simp [this.2]⟩
/-- A schema that is valid. -/
structure SchW (ts : List Ty) : Prop where
  ty : ∀ t ∈ ts, TyW t
  len : ts.length ≤ 8
  valid : ValidT ts
theorem schemaOf_w {s : List UInt8} {ts : List Ty} (h : schemaOf s = some ts) : SchW ts := by
  unfold schemaOf at h
  split at h
  · rename_i hc
    split at h
    · rename_i us hus
      split at h
      · rename_i hv
        simp only [Option.some.injEq] at h; subst h
        have := typesOf_w hus
        exact ⟨this.1, by rw [this.2, List.length_dropLast]; omega, hv⟩
      · cases h
    · cases h
  · cases h
/-- A kind of a schema. -/
def kindIn (ts : List Ty) (k : List UInt8) : Bool := kindOk k && hasK ts k
end Go.E
/-! Mn -/
namespace Go.E
set_option maxRecDepth 20000
set_option maxHeartbeats 2000000
theorem findT_mem {ts : List Ty} {n : List UInt8} {t : Ty} (h : findT ts n = some t) : t ∈ ts := List.mem_of_find?_eq_some h
theorem refT_mem {ts : List Ty} {k : List UInt8} {t : Ty} (h : refT ts k = some t) : t ∈ ts := by
  unfold refT at h
  cases hr : refN k with
  | none => rw [hr] at h; cases h
  | some n => rw [hr] at h; exact findT_mem h
theorem endsN_mono (ts : List Ty) : ∀ (k : Nat) (t : Ty), endsN ts k t = true → endsN ts (k + 1) t = true
  | 0, t, h => by cases h
  | k + 1, t, h => by
    unfold endsN at h ⊢
    split
    · rfl
    · rename_i hs
      rw [if_neg hs] at h
      cases hr : refT ts (kind0 t) with
      | none => rfl
      | some u => rw [hr] at h; exact endsN_mono ts k u h
def stableAt (ts : List Ty) (k : Nat) : Prop := ∀ t ∈ ts, endsN ts (k + 1) t = endsN ts k t
theorem stable_next {ts : List Ty} {k : Nat} (h : stableAt ts k) : stableAt ts (k + 1) := by
  intro t ht
  rw [endsN, endsN]
  split
  · rfl
  · cases hr : refT ts (kind0 t) with
    | none => rfl
    | some u => exact h u (refT_mem hr)
theorem stable_all {ts : List Ty} {k : Nat} (h : stableAt ts k) : ∀ (m : Nat) (t : Ty), t ∈ ts → endsN ts (k + m) t = endsN ts k t := by
  have hs : ∀ m, stableAt ts (k + m) := fun m => by
    induction m with
    | zero => exact h
    | succ m ih => exact stable_next ih
  intro m t ht
  induction m with
  | zero => rfl
  | succ m ih => rw [← ih]; exact hs m t ht
theorem count_lt {α : Type} {p q : α → Bool} : ∀ {l : List α}, (∀ x ∈ l, p x = true → q x = true) → (∃ x ∈ l, q x = true ∧ p x = false) → l.countP p < l.countP q
  | [], _, h => by obtain ⟨x, hx, _⟩ := h; cases hx
  | a :: l, h1, h2 => by
    have hle : ∀ l : List α, (∀ x ∈ l, p x = true → q x = true) → l.countP p ≤ l.countP q := fun l h => List.countP_mono_left h
    rw [List.countP_cons, List.countP_cons]
    have h3 := hle l fun x hx => h1 x (List.mem_cons_of_mem _ hx)
    obtain ⟨x, hx, h4, h5⟩ := h2
    rcases List.mem_cons.1 hx with rfl | hx
    · simp [h4, h5]; omega
    · have h6 := count_lt (fun x hx => h1 x (List.mem_cons_of_mem _ hx)) ⟨x, hx, h4, h5⟩
      by_cases hp : p a = true
      · simp [hp, h1 a (List.mem_cons_self ..) hp]; exact h6
      · simp [hp]; split <;> omega
theorem unstable_lt {ts : List Ty} {k : Nat} (h : ¬ stableAt ts k) : ts.countP (endsN ts k) < ts.countP (endsN ts (k + 1)) := by
  refine count_lt (fun x _ => endsN_mono ts k x) ?_
  unfold stableAt at h
  simp only [Classical.not_forall] at h
  obtain ⟨t, ht, hne⟩ := h
  refine ⟨t, ht, ?_⟩
  cases h1 : endsN ts k t with
  | false =>
    refine ⟨?_, rfl⟩
    cases h2 : endsN ts (k + 1) t with
    | false => rw [h1, h2] at hne; exact absurd rfl hne
    | true => rfl
  | true => rw [endsN_mono ts k t h1, h1] at hne; exact absurd rfl hne
theorem stable_or (ts : List Ty) (k : Nat) : stableAt ts k ∨ k + 1 ≤ ts.countP (endsN ts (k + 1)) := by
  induction k with
  | zero =>
    by_cases h : stableAt ts 0
    · exact .inl h
    · have := unstable_lt h; exact .inr (by omega)
  | succ k ih =>
    by_cases h : stableAt ts (k + 1)
    · exact .inl h
    · have := unstable_lt h
      rcases ih with h3 | h3
      · exact absurd (stable_next h3) h
      · exact .inr (by omega)
theorem ends_eq {ts : List Ty} {t : Ty} (hl : ts.length ≤ 8) (ht : t ∈ ts) : endsN ts 9 t = endsN ts (ts.length + 1) t := by
  have hs : stableAt ts ts.length := by
    rcases stable_or ts ts.length with h | h
    · exact h
    · have := List.countP_le_length (p := endsN ts (ts.length + 1)) (l := ts)
      omega
  have h1 := stable_all hs (9 - ts.length) t ht
  have h2 := stable_all hs 1 t ht
  rw [show ts.length + (9 - ts.length) = 9 by omega] at h1
  rw [h1, h2]
end Go.E
/-! Na -/
namespace Go.E
set_option maxRecDepth 20000
set_option maxHeartbeats 2000000
open Go.Proofs
variable {G : Gh}
def idx1 (k : Nat) (s : List UInt8) : Int := if (cut1 k s).2.2 = true then ((cut1 k s).1.length : Int) else -1
theorem cut1_some {k : Nat} : ∀ {s a b : List UInt8}, cut1 k s = (a, b, true) → ∃ c : UInt8, c.toNat = k ∧ s = a ++ c :: b
  | [], a, b, h => by simp [cut1] at h
  | c :: r, a, b, h => by
    unfold cut1 at h
    split at h
    · rename_i hc
      simp only [Prod.mk.injEq, and_true] at h
      obtain ⟨rfl, rfl⟩ := h
      exact ⟨c, hc, rfl⟩
    · simp only [Prod.mk.injEq] at h
      obtain ⟨rfl, h2, h3⟩ := h
      obtain ⟨d, hd, hr⟩ := cut1_some (k := k) (s := r) (a := (cut1 k r).1) (b := b) (by rw [← h2, ← h3])
      exact ⟨d, hd, by rw [List.cons_append, ← hr]⟩
theorem cut1_none {k : Nat} : ∀ {s : List UInt8}, (cut1 k s).2.2 = false → cut1 k s = (s, [], false)
  | [], h => rfl
  | c :: r, h => by
    unfold cut1 at h ⊢
    split at h
    · cases h
    · rename_i hc
      rw [if_neg hc, cut1_none (s := r) h]
theorem cut1_len {k : Nat} {s : List UInt8} : (cut1 k s).1.length ≤ s.length ∧ (cut1 k s).2.1.length ≤ s.length := by
  cases h : (cut1 k s).2.2 with
  | false => rw [cut1_none h]; simp
  | true =>
    obtain ⟨c, _, e⟩ := cut1_some (k := k) (s := s) (a := (cut1 k s).1) (b := (cut1 k s).2.1) (by rw [← h])
    have := congrArg List.length e
    simp at this
    omega
theorem indexByte_idx1 (s : List UInt8) (c : UInt8) : Lib.indexByte s c = idx1 c.toNat s := by
  induction s with
  | nil => rfl
  | cons b r ih =>
    unfold Lib.indexByte
    by_cases hb : b = c
    · subst hb; simp [idx1, cut1]
    · have hb2 : ¬ b.toNat = c.toNat := fun h => hb (UInt8.toNat_inj.1 h)
      have hb3 : (b == c) = false := by simpa using hb
      rw [hb3, ih]
      unfold idx1
      rw [cut1, if_neg hb2]
      dsimp only
      cases (cut1 c.toNat r).2.2 <;> simp
theorem c_IndexByteL {s : List UInt8} {c : UInt8} : PuG Tryz.prog 94 [S s, U8 c.toNat] G (· = I (idx1 c.toNat s)) := by
  have hx : ∀ w, (callFunc 107 [S s, U8 c.toNat].toArray).run Tryz.prog w = .ok (.value (I (idx1 c.toNat s))) w := fun w => by
    rw [run_callFunc_extern Tryz.func107 (by kernel_rfl) (by kernel_rfl) (by kernel_rfl) (e := Extern.BytealgIndexByte.indexByte) (by kernel_rfl)]
    have := Lib.run_indexByteString (P := Tryz.prog) ⟨s.toArray⟩ (c.toNat : Int) w
    rw [this]
    simp only [Result.andThen]
    rw [indexByte_idx1]
    simp
  refine p_enter [(0, _), (1, _)] Tryz.func94 (by kernel_rfl) Tryz.ntmps94 rfl rfl (by repeat (first | exact trivial | refine ⟨rfl, ?_⟩)) fun B hB => ?_
  repeat' ((refine run (t := tb) 400 rfl ?_ ?_; (focus (repeat' ((exact trivial))))))
  refine k_op rfl (v_op (g_extern rfl rfl rfl hx) rfl rfl ?_)
  repeat' ((refine run (t := tb) 400 rfl ?_ ?_; (focus (repeat' ((exact trivial))))))
  refine k_rr (vs := [_]) rfl ⟨rfl, trivial⟩ rfl (List.nil_sublist _) ⟨rfl, rfl, ?_⟩
  rfl
theorem c_IndexByte {s : List UInt8} {c : UInt8} : PuG Tryz.prog 111 [S s, U8 c.toNat] G (· = I (idx1 c.toNat s)) := by
  refine p_enter [(0, _), (1, _)] Tryz.func111 (by kernel_rfl) Tryz.ntmps111 rfl rfl (by repeat (first | exact trivial | refine ⟨rfl, ?_⟩)) fun B hB => ?_
  repeat' (first | (refine run (t := tb) 400 rfl ?_ ?_; (focus (repeat' ((exact trivial))))) | (refine k_op rfl ?_; (refine c_rt rfl rfl rfl c_IndexByteL rfl ?_)))
  refine k_rr (vs := [_]) rfl ⟨rfl, trivial⟩ rfl (List.nil_sublist _) ⟨rfl, rfl, ?_⟩
  rfl
theorem idx1_self (c : UInt8) : idx1 c.toNat [c] = 0 := by simp [idx1, cut1]
theorem c_IndexL {s : List UInt8} {c : UInt8} : PuG Tryz.prog 80 [S s, S [c]] G (· = I (idx1 c.toNat s)) := by
  have e0 : ((bt [c] (Int.toNat 0) : Nat) : Int) = c.toNat := by rw [show Int.toNat 0 = 0 from rfl, bt_zero]
  by_cases hs : [c] = s
  · subst hs
    rw [idx1_self]
    refine p_enter [(0, _), (1, _)] Tryz.func80 (by kernel_rfl) Tryz.ntmps80 rfl rfl (by repeat (first | exact trivial | refine ⟨rfl, ?_⟩)) fun B hB => ?_
    repeat' (first | (refine run (t := tb) 400 rfl ?_ ?_; (focus (repeat' ((exact trivial))))) | (refine k_op rfl ?_; (refine v_op (g_pickF rfl rfl ?_) rfl rfl ?_; (focus (((rfl)); done)))) | (refine k_gf rfl rfl ?_ ?_; (focus (((rfl)); done))) | (refine k_tt rfl ?_ ?_; (focus (((refine decide_eq_true ?_; (rfl))); done))))
    all_goals refine k_rr (vs := [_]) rfl ⟨rfl, trivial⟩ rfl (List.nil_sublist _) ⟨rfl, rfl, ?_⟩
    all_goals rfl
  · have cx_ib : PuG Tryz.prog 94 [S s, U8 (bt [c] (Int.toNat 0))] G (· = I (idx1 c.toNat s)) := by rw [show (bt [c] (Int.toNat 0)) = c.toNat from bt_zero c []]; exact c_IndexByteL
    refine p_enter [(0, _), (1, _)] Tryz.func80 (by kernel_rfl) Tryz.ntmps80 rfl rfl (by repeat (first | exact trivial | refine ⟨rfl, ?_⟩)) fun B hB => ?_
    repeat' (first | (refine run (t := tb) 400 rfl ?_ ?_; (focus (repeat' (first | exact trivial | apply And.intro | omega | (simp only [List.length_append, List.length_cons, List.length_nil, Int.toNat_natCast]; omega))))) | (refine k_op rfl ?_; first | (refine v_op (g_pickF rfl rfl ?_) rfl rfl ?_; (focus (((rfl)); done))) | (refine c_rt rfl rfl rfl cx_ib rfl ?_)) | (refine k_gf rfl rfl ?_ ?_; (focus (((rfl)); done))) | (refine k_tt rfl ?_ ?_; (focus (((rfl)); done))) | (refine k_ff rfl ?_ ?_; (focus (((refine decide_eq_false ?_; (assumption))); done))))
    all_goals refine k_rr (vs := [_]) rfl ⟨rfl, trivial⟩ rfl (List.nil_sublist _) ⟨rfl, rfl, ?_⟩
    all_goals rfl
theorem c_Index {s : List UInt8} {c : UInt8} : PuG Tryz.prog 81 [S s, S [c]] G (· = I (idx1 c.toNat s)) := by
  refine p_enter [(0, _), (1, _)] Tryz.func81 (by kernel_rfl) Tryz.ntmps81 rfl rfl (by repeat (first | exact trivial | refine ⟨rfl, ?_⟩)) fun B hB => ?_
  repeat' (first | (refine run (t := tb) 400 rfl ?_ ?_; (focus (repeat' ((exact trivial))))) | (refine k_op rfl ?_; (refine c_rt rfl rfl rfl c_IndexL rfl ?_)))
  refine k_rr (vs := [_]) rfl ⟨rfl, trivial⟩ rfl (List.nil_sublist _) ⟨rfl, rfl, ?_⟩
  rfl
theorem idx1_cases (k : Nat) (s : List UInt8) : (idx1 k s = -1 ∧ cut1 k s = (s, [], false)) ∨ ∃ i : Nat, idx1 k s = i ∧ i < s.length ∧ cut1 k s = (s.take i, s.drop (i + 1), true) := by
  cases h : (cut1 k s).2.2 with
  | false => exact .inl ⟨by simp [idx1, h], cut1_none h⟩
  | true =>
    obtain ⟨c, _, e⟩ := cut1_some (k := k) (s := s) (a := (cut1 k s).1) (b := (cut1 k s).2.1) (by rw [← h])
    have h5 : cut1 k s = ((cut1 k s).1, (cut1 k s).2.1, true) := by rw [← h]
    have h6 : idx1 k s = ((cut1 k s).1.length : Int) := by simp [idx1, h]
    generalize (cut1 k s).1 = a at *
    generalize (cut1 k s).2.1 = b at *
    refine .inr ⟨a.length, h6, ?_, ?_⟩
    · have := congrArg List.length e
      simp at this
      omega
    · rw [h5, e]; simp
theorem c_CutL {s : List UInt8} {c : UInt8} (h : s.length ≤ 9000000000000000000) : PuG Tryz.prog 60 [S s, S [c]] G (· = Tu [S (cut1 c.toNat s).1, S (cut1 c.toNat s).2.1, Bo (cut1 c.toNat s).2.2]) := by
  have hix := c_IndexL (G := G) (s := s) (c := c)
  rcases idx1_cases c.toNat s with ⟨h1, h2⟩ | ⟨i, h1, h3, h2⟩
  · rw [h2]
    have cx_ix : PuG Tryz.prog 80 [S s, S [c]] G (· = I (-1)) := by rwa [h1] at hix
    refine p_enter [(0, _), (1, _)] Tryz.func60 (by kernel_rfl) Tryz.ntmps60 rfl rfl (by repeat (first | exact trivial | refine ⟨rfl, ?_⟩)) fun B hB => ?_
    repeat' (first | (refine run (t := tb) 400 rfl ?_ ?_; (focus (repeat' ((exact trivial))))) | (refine k_op rfl ?_; (refine c_rt rfl rfl rfl cx_ix rfl ?_)) | (refine k_ff rfl ?_ ?_; (focus (((rfl)); done))))
    all_goals refine k_rr (vs := [_, _, _]) rfl ⟨rfl, rfl, rfl, trivial⟩ rfl (List.nil_sublist _) ⟨rfl, rfl, ?_⟩
    all_goals rfl
  · rw [h2]
    have cx_ix : PuG Tryz.prog 80 [S s, S [c]] G (· = I (i : Int)) := by rwa [h1] at hix
    have e2 : ((i : Int) + (([c] : List UInt8).length : Nat)).toNat = i + 1 := by simp only [List.length_cons, List.length_nil]; omega
    refine p_enter [(0, _), (1, _)] Tryz.func60 (by kernel_rfl) Tryz.ntmps60 rfl rfl (by repeat (first | exact trivial | refine ⟨rfl, ?_⟩)) fun B hB => ?_
    repeat' (first | (refine run (t := tb) 400 rfl ?_ ?_; (focus (repeat' ((exact trivial))))) | (refine k_op rfl ?_; (refine c_rt rfl rfl rfl cx_ix rfl ?_)) | (refine k_tt rfl ?_ ?_; (focus (((rfl)); done))) | (refine k_any (s_any (id := 3) _ (fun _ h => h) mixed ?_); refine x_tks (t := tb) (fuel := 0) [0, 1, 2, 3, 4, 5, 6, 7, 8, 9, 10, 11] (bts 12 4095) (by kernel_rfl) (by kernel_rfl) rfl rfl (Gh.le.refl _) (by repeat ((exact List.Sublist.refl _))) ?_ ?_; (focus (repeat' (first | exact trivial | apply And.intro | omega))); refine x_done (by kernel_rfl) (k_bk ?_)))
    all_goals refine k_rr (vs := [_, _, _]) rfl ⟨rfl, rfl, rfl, trivial⟩ rfl (List.nil_sublist _) ⟨rfl, rfl, ?_⟩
    all_goals (rfl)
theorem c_Cut {s : List UInt8} {c : UInt8} (h : s.length ≤ 9000000000000000000) : PuG Tryz.prog 37 [S s, S [c]] G (· = Tu [S (cut1 c.toNat s).1, S (cut1 c.toNat s).2.1, Bo (cut1 c.toNat s).2.2]) := by
  refine p_enter [(0, _), (1, _)] Tryz.func37 (by kernel_rfl) Tryz.ntmps37 rfl rfl (by repeat (first | exact trivial | refine ⟨rfl, ?_⟩)) fun B hB => ?_
  repeat' (first | (refine run (t := tb) 400 rfl ?_ ?_; (focus (repeat' ((exact trivial))))) | (refine k_op rfl ?_; (refine c_rt rfl rfl rfl (c_CutL (by omega)) rfl ?_)))
  all_goals refine k_rr (vs := [_, _, _]) rfl ⟨rfl, rfl, rfl, trivial⟩ rfl (List.nil_sublist _) ⟨rfl, rfl, ?_⟩
  all_goals rfl
theorem c_Contains {s : List UInt8} {c : UInt8} : PuG Tryz.prog 61 [S s, S [c]] G (· = Bo (decide (0 ≤ idx1 c.toNat s))) := by
  refine p_enter [(0, _), (1, _)] Tryz.func61 (by kernel_rfl) Tryz.ntmps61 rfl rfl (by repeat (first | exact trivial | refine ⟨rfl, ?_⟩)) fun B hB => ?_
  repeat' (first | (refine run (t := tb) 400 rfl ?_ ?_; (focus (repeat' ((exact trivial))))) | (refine k_op rfl ?_; (refine c_rt rfl rfl rfl c_Index rfl ?_)))
  all_goals refine k_rr (vs := [_]) rfl ⟨rfl, trivial⟩ rfl (List.nil_sublist _) ⟨rfl, rfl, ?_⟩
  all_goals rfl
end Go.E
/-! Me -/
namespace Go.E
set_option maxRecDepth 20000
set_option maxHeartbeats 2000000
def noB (k : Nat) (s : List UInt8) : Prop := ∀ c ∈ s, c.toNat ≠ k
def joinB (c : UInt8) : List (List UInt8) → List UInt8
  | [] => []
  | [x] => x
  | x :: y :: r => x ++ c :: joinB c (y :: r)
theorem joinB_cons (c : UInt8) (x : List UInt8) {xs : List (List UInt8)} (h : xs ≠ []) : joinB c (x :: xs) = x ++ c :: joinB c xs := by
  cases xs with
  | nil => exact absurd rfl h
  | cons y r => rfl
theorem cutA_spec {c : UInt8} : ∀ {s acc : List UInt8}, noB c.toNat acc → joinB c (cutA c.toNat acc s) = acc ++ s ∧ ∀ x ∈ cutA c.toNat acc s, noB c.toNat x
  | [], acc, h => by simp [cutA, joinB]; exact h
  | d :: r, acc, h => by
    unfold cutA
    split
    · rename_i hd
      have hd : d = c := UInt8.toNat_inj.1 hd
      subst hd
      have ih := cutA_spec (c := d) (s := r) (acc := []) (by intro x hx; cases hx)
      have hp : cutA d.toNat [] r ≠ [] := fun e => by have := cutA_pos (k := d.toNat) (s := r) (acc := []); rw [e] at this; simp at this
      refine ⟨by rw [joinB_cons d acc hp, ih.1]; rfl, fun x hx => ?_⟩
      rcases List.mem_cons.1 hx with rfl | hx
      · exact h
      · exact ih.2 x hx
    · rename_i hd
      have ih := cutA_spec (c := c) (s := r) (acc := acc ++ [d]) (by
        intro x hx
        rcases List.mem_append.1 hx with hx | hx
        · exact h x hx
        · simp only [List.mem_singleton] at hx; subst hx; exact hd)
      exact ⟨by rw [ih.1]; simp, ih.2⟩
theorem cut_join (c : UInt8) (s : List UInt8) : joinB c (cut c.toNat s) = s := by have := (cutA_spec (c := c) (s := s) (acc := []) (by intro x hx; cases hx)).1; simpa [cut] using this
theorem cut_noB {c : UInt8} {s x : List UInt8} (h : x ∈ cut c.toNat s) : noB c.toNat x := (cutA_spec (c := c) (s := s) (acc := []) (by intro x hx; cases hx)).2 x h
theorem cutA_pre {k : Nat} : ∀ {s acc t : List UInt8}, noB k s → cutA k acc (s ++ t) = cutA k (acc ++ s) t
  | [], acc, t, _ => by simp
  | d :: r, acc, t, h => by
    rw [List.cons_append, cutA, if_neg (h d (by simp)), cutA_pre (fun c hc => h c (by simp [hc]))]; simp
theorem cut_no {k : Nat} {s : List UInt8} (h : noB k s) : cut k s = [s] := by
  have := cutA_pre (k := k) (s := s) (acc := []) (t := []) h
  simpa [cut, cutA] using this
theorem cut_app {k : Nat} {s t : List UInt8} {c : UInt8} (h : noB k s) (hc : c.toNat = k) : cut k (s ++ c :: t) = s :: cut k t := by
  unfold cut
  rw [cutA_pre h, cutA, if_pos hc]; rfl
theorem join_cut {c : UInt8} : ∀ {xs : List (List UInt8)}, xs ≠ [] → (∀ x ∈ xs, noB c.toNat x) → cut c.toNat (joinB c xs) = xs
  | [], h, _ => absurd rfl h
  | [x], _, h => cut_no (h x (by simp))
  | x :: y :: r, _, h => by
    rw [joinB, cut_app (h x (by simp)) rfl, join_cut (by simp) fun z hz => h z (by simp at hz ⊢; exact .inr hz)]
theorem cut1_app {k : Nat} {s t : List UInt8} {c : UInt8} (h : noB k s) (hc : c.toNat = k) : cut1 k (s ++ c :: t) = (s, t, true) := by
  induction s with
  | nil => rw [List.nil_append, cut1, if_pos hc]
  | cons d r ih => rw [List.cons_append, cut1, if_neg (h d (by simp)), ih fun x hx => h x (by simp [hx])]
theorem cut1_noB {k : Nat} {s : List UInt8} (h : noB k s) : cut1 k s = (s, [], false) := by
  induction s with
  | nil => rfl
  | cons d r ih => rw [cut1, if_neg (h d (by simp)), ih fun x hx => h x (by simp [hx])]
theorem cut1_pre {k : Nat} : ∀ {s : List UInt8}, noB k (cut1 k s).1
  | [] => by intro c hc; cases hc
  | d :: r => by
    unfold cut1
    split
    · intro c hc; cases hc
    · rename_i hd
      intro c hc
      rcases List.mem_cons.1 hc with rfl | hc
      · exact hd
      · exact cut1_pre c hc
theorem cut_cut1 {k : Nat} (s : List UInt8) : cut k s = if (cut1 k s).2.2 = true then (cut1 k s).1 :: cut k (cut1 k s).2.1 else [s] := by
  cases h : (cut1 k s).2.2 with
  | false =>
    rw [if_neg (by simp)]
    have h1 := cut1_none h
    refine cut_no ?_
    have := cut1_pre (k := k) (s := s)
    rwa [h1] at this
  | true =>
    rw [if_pos rfl]
    obtain ⟨c, hc, e⟩ := cut1_some (k := k) (s := s) (a := (cut1 k s).1) (b := (cut1 k s).2.1) (by rw [← h])
    conv => { lhs; rw [e] }
    exact cut_app cut1_pre hc
/-! ### What holds no sign -/
theorem isNm_noB {s : List UInt8} {k : Nat} (h : isNm s = true) (hk : k < 97) : noB k s := by
  intro c hc
  simp only [isNm, Bool.and_eq_true, List.all_eq_true] at h
  have := h.1 c hc
  simp only [isLow, decide_eq_true_eq] at this
  omega
theorem digF_dig {n m : Int} : ∀ {s : List UInt8}, digF n s = some m → ∀ c ∈ s, 48 ≤ c.toNat ∧ c.toNat ≤ 57
  | [], _, c, hc => by cases hc
  | d :: r, h, c, hc => by
    unfold digF at h
    split at h
    · rename_i hd
      rcases List.mem_cons.1 hc with rfl | hc
      · exact hd
      · exact digF_dig h c hc
    · cases h
theorem numOf_dig {s : List UInt8} {top n : Int} (h : numOf s top = some n) : ∀ c ∈ s, 48 ≤ c.toNat ∧ c.toNat ≤ 57 := by
  unfold numOf at h
  split at h
  · split at h
    · rename_i hd; exact digF_dig hd
    · cases h
  · cases h
theorem numOf_noB {s : List UInt8} {top n : Int} {k : Nat} (h : numOf s top = some n) (hk : 57 < k) : noB k s := fun c hc => by
  have := numOf_dig h c hc; omega
theorem isTx_byte {s : List UInt8} (h : isTx s = true) {c : UInt8} (hc : c ∈ s) : c.toNat = 39 ∨ txN c.toNat := by
  unfold isTx at h
  simp only [decide_eq_true_eq] at h
  obtain ⟨h1, h2, h3, h4⟩ := h
  obtain ⟨i, hi, rfl⟩ := List.mem_iff_getElem.1 hc
  have e : bt s i = (s[i]).toNat := by simp [bt, List.getD, List.getElem?_eq_getElem hi]
  rw [← e]
  rcases Nat.lt_or_ge i (s.length - 1) with h5 | h5
  · rcases h4 i h5 with h6 | h6
    · subst h6; exact .inl h2
    · exact .inr h6
  · have : i = s.length - 1 := by omega
    subst this; exact .inl h3
theorem standOk_noB {d v : List UInt8} {k : Nat} (h : standOk d v = true) (hk : k = 58 ∨ k = 61) : noB k v := by
  intro c hc
  unfold standOk at h
  split at h
  · simp only [Bool.and_eq_true] at h
    obtain ⟨n, hn⟩ := Option.isSome_iff_exists.1 h.1
    have := numOf_dig hn c hc; omega
  · split at h
    · simp only [Bool.and_eq_true] at h
      have := isTx_byte h.1 hc
      unfold txN at this; omega
    · split at h
      · simp only [decide_eq_true_eq] at h
        subst h
        simp only [List.mem_cons, List.not_mem_nil, or_false] at hc
        rcases hc with rfl | rfl | rfl <;> (rcases hk with rfl | rfl <;> decide)
      · cases h
theorem core_len : ∀ s : List UInt8, (core s).length ≤ s.length
  | [] => Nat.le_refl _
  | c :: r => by
    unfold core
    split
    · have := core_len r; simp; omega
    · exact Nat.le_refl _
/-- A kind's signs, its letter, its name. -/
def sg (s : List UInt8) : List UInt8 := s.take (s.length - (core s).length)
def bsT : List UInt8 → List UInt8
  | [] => []
  | c :: r => if c.toNat = 64 then [64] else c :: r
def bs (s : List UInt8) : List UInt8 := bsT (core s)
def nm (s : List UInt8) : List UInt8 := (refN (core s)).getD []
theorem kOk_noB {k : Nat} (hk : k = 58 ∨ k = 61) : ∀ {s : List UInt8}, kOk s = true → noB k s
  | [], h => by cases h
  | c :: r, h => by
    unfold kOk at h
    split at h
    · rename_i hc
      intro d hd
      rcases List.mem_cons.1 hd with rfl | hd
      · omega
      · exact kOk_noB hk h d hd
    · split at h
      · rename_i hc
        simp only [Bool.and_eq_true, decide_eq_true_eq] at h
        intro d hd
        rcases List.mem_cons.1 hd with rfl | hd
        · omega
        · obtain ⟨i, hi, rfl⟩ := List.mem_iff_getElem.1 hd
          rcases Nat.lt_or_ge i (r.length - 1) with h5 | h5
          · refine isNm_noB h.2 (by omega) _ ?_
            exact List.mem_iff_getElem.2 ⟨i, by simp; omega, by simp⟩
          · have h1 : bt (c :: r) r.length = 59 := by omega
            have e : i = r.length - 1 := by omega
            obtain ⟨m, hm⟩ : ∃ m, r.length = m + 1 := ⟨r.length - 1, by omega⟩
            rw [hm, bt_succ] at h1
            have : bt r m = (r[m]'(by omega)).toNat := by simp [bt, List.getD, List.getElem?_eq_getElem (show m < r.length by omega)]
            have e2 : i = m := by omega
            subst e2
            omega
      · simp only [Bool.and_eq_true, Bool.or_eq_true, decide_eq_true_eq] at h
        intro d hd
        obtain ⟨rfl, h⟩ := h
        simp only [List.mem_singleton] at hd
        subst hd; omega
theorem kindOk_noB {k : Nat} (hk : k = 58 ∨ k = 61) {s : List UInt8} (h : kindOk s = true) : noB k s := by
  unfold kindOk at h; simp only [Bool.and_eq_true] at h; exact kOk_noB hk h.2
/-- A field read the program's way. -/
def fldI (s : List UInt8) (k : Nat) : Option Fld :=
  match cut 58 (cut1 61 s).1 with
  | [a, b] => if k = 69 ∧ (cut1 61 s).2.2 = false then
      match numOf a 200 with
      | some n => if 1 ≤ n ∧ isNm b = true then some ⟨n, b, [], []⟩ else none
      | none => none
    else none
  | [a, b, c] => if k = 69 then none else
      match numOf a 200 with
      | some n => if (1 ≤ n ∧ isNm b = true) ∧ kindOk c = true ∧ ((cut1 61 s).2.2 = true → k = 82 ∧ standOk c (cut1 61 s).2.1 = true) then some ⟨n, b, c, (cut1 61 s).2.1⟩ else none
      | none => none
  | _ => none
theorem noB_append {k : Nat} {a b : List UInt8} : noB k (a ++ b) ↔ noB k a ∧ noB k b := by
  constructor
  · intro h; exact ⟨fun c hc => h c (by simp [hc]), fun c hc => h c (by simp [hc])⟩
  · intro h c hc
    rcases List.mem_append.1 hc with hc | hc
    · exact h.1 c hc
    · exact h.2 c hc
theorem noB_cons {k : Nat} {c : UInt8} {b : List UInt8} : noB k (c :: b) ↔ c.toNat ≠ k ∧ noB k b := by
  constructor
  · intro h; exact ⟨h c (by simp), fun d hd => h d (by simp [hd])⟩
  · intro h d hd
    rcases List.mem_cons.1 hd with rfl | hd
    · exact h.1
    · exact h.2 d hd
theorem cut58 {s : List UInt8} {xs : List (List UInt8)} (h : cut 58 s = xs) : s = joinB 58 xs ∧ ∀ x ∈ xs, noB 58 x := by
  subst h
  exact ⟨(cut_join 58 s).symm, fun x hx => cut_noB (c := 58) hx⟩
theorem fldI_eq (s : List UInt8) (k : Nat) : fldI s k = fldOf s k := by
  apply Option.ext
  intro f
  constructor
  · intro h
    unfold fldI at h
    split at h
    · rename_i a b e
      split at h
      · rename_i hk
        have hs := cut1_none hk.2
        rw [hs] at e
        unfold fldOf
        rw [e]
        simp only [hk.1, if_true]
        exact h
      · cases h
    · rename_i a b c e
      split at h
      · cases h
      · rename_i hk
        split at h
        · rename_i n hn
          split at h
          · rename_i hg
            simp only [Option.some.injEq] at h; subst h
            cases ht : (cut1 61 s).2.2 with
            | false =>
              have hs := cut1_none ht
              rw [hs] at e ⊢
              have hc61 : cut 61 c = [c] := cut_no (kindOk_noB (.inr rfl) hg.2.1)
              unfold fldOf
              rw [e]
              simp [hk, hn, hg.1.1, hg.1.2, hc61, hg.2.1]
            | true =>
              have hst := hg.2.2 ht
              obtain ⟨d, hd, es⟩ := cut1_some (k := 61) (s := s) (a := (cut1 61 s).1) (b := (cut1 61 s).2.1) (by rw [← ht])
              generalize (cut1 61 s).1 = hd1 at *
              generalize (cut1 61 s).2.1 = v at *
              have hd : d = 61 := UInt8.toNat_inj.1 hd
              subst hd
              obtain ⟨e1, e2⟩ := cut58 e
              have e3 : s = joinB 58 [a, b, c ++ 61 :: v] := by rw [es, e1]; simp [joinB]
              have e4 : cut 58 s = [a, b, c ++ 61 :: v] := by
                rw [e3]
                refine join_cut (c := 58) (by simp) fun x hx => ?_
                simp only [List.mem_cons, List.not_mem_nil, or_false] at hx
                rcases hx with rfl | rfl | rfl
                · exact e2 _ (by simp)
                · exact e2 _ (by simp)
                · exact noB_append.2 ⟨e2 _ (by simp), noB_cons.2 ⟨by decide, standOk_noB hst.2 (.inl rfl)⟩⟩
              have e5 : cut 61 (c ++ 61 :: v) = [c, v] := by
                rw [cut_app (k := 61) (kindOk_noB (.inr rfl) hg.2.1) rfl, cut_no (standOk_noB hst.2 (.inr rfl))]
              unfold fldOf
              rw [e4]
              simp [hk, hn, hg.1.1, hg.1.2, e5, hst.1, hst.2]
          · cases h
        · cases h
    · cases h
  · intro h
    unfold fldOf at h
    split at h
    · rename_i a b e
      split at h
      · rename_i hk
        split at h
        · rename_i n hn
          split at h
          · rename_i hg
            obtain ⟨e1, e2⟩ := cut58 e
            have hno : noB 61 s := by rw [e1]; simp only [joinB]; exact noB_append.2 ⟨numOf_noB hn (by omega), noB_cons.2 ⟨by decide, isNm_noB hg.2 (by omega)⟩⟩
            unfold fldI
            rw [cut1_noB hno, e]
            simp only [hk, hn, hg, and_self, if_true]
            exact h
          · cases h
        · cases h
      · cases h
    · rename_i a b c e
      split at h
      · cases h
      · rename_i hk
        split at h
        · rename_i n hn
          split at h
          · rename_i hg
            obtain ⟨e1, e2⟩ := cut58 e
            split at h
            · rename_i d e3
              split at h
              · rename_i hd
                simp only [Option.some.injEq] at h; subst h
                have e4 : c = d := by have := cut_join 61 c; rw [show (61 : UInt8).toNat = 61 from rfl, e3] at this; exact this.symm
                subst e4
                have hno : noB 61 s := by rw [e1]; simp only [joinB]; exact noB_append.2 ⟨numOf_noB hn (by omega), noB_cons.2 ⟨by decide, noB_append.2 ⟨isNm_noB hg.2 (by omega), noB_cons.2 ⟨by decide, kindOk_noB (.inr rfl) hd⟩⟩⟩⟩
                unfold fldI
                rw [cut1_noB hno, e]
                simp [hk, hn, hg.1, hg.2, hd]
              · cases h
            · rename_i d v e3
              split at h
              · rename_i hd
                simp only [Option.some.injEq] at h; subst h
                have e4 : c = d ++ 61 :: v := by have := cut_join 61 c; rw [show (61 : UInt8).toNat = 61 from rfl, e3] at this; exact this.symm
                subst e4
                have hkd := standOk_kind hd.2
                have es : s = joinB 58 [a, b, d] ++ 61 :: v := by rw [e1]; simp [joinB]
                have hno : noB 61 (joinB 58 [a, b, d]) := by simp only [joinB]; exact noB_append.2 ⟨numOf_noB hn (by omega), noB_cons.2 ⟨by decide, noB_append.2 ⟨isNm_noB hg.2 (by omega), noB_cons.2 ⟨by decide, kindOk_noB (.inr rfl) hkd⟩⟩⟩⟩
                have e5 : cut 58 (joinB 58 [a, b, d]) = [a, b, d] := by
                  refine join_cut (c := 58) (by simp) fun x hx => ?_
                  simp only [List.mem_cons, List.not_mem_nil, or_false] at hx
                  rcases hx with rfl | rfl | rfl
                  · exact e2 _ (by simp)
                  · exact e2 _ (by simp)
                  · exact kindOk_noB (.inl rfl) hkd
                unfold fldI
                rw [es, cut1_app (k := 61) hno rfl, e5]
                simp [hn, hg.1, hg.2, hkd, hd.1, hd.2]
              · cases h
            · cases h
          · cases h
        · cases h
    · cases h
end Go.E
/-! EngP -/
namespace Go.E
section
variable {P : Program} {n : Nat} {D : List Deferred} {E : Env} {M : World → Prop} {d : Option Nat} {ty : TypeId} {pos : String} {aft : Array Edge} {gd : Option (Nat × Bool)}
variable {α : Type} [Inhabited α] {f : α → List Value}
theorem g_ldRFx {T : TypeId} {x : Operand} {desc : TypeDesc} {size sz bytes b o i k : Nat} {zero v : Value} {G0 : Gh} {L0 : List Own} {cs : List α} {y : α} [TI P T desc size bytes zero] [RowF f sz] [Kn M G0 L0] (hx : ev E x = some (Pt b (o + i * sz + k))) (ha : aggD desc = false) (hs : Seg G0 b o (rows f cs)) (hi : i < cs.length) (hy : nth cs i = y) (hk : Nat.blt k sz = true) (hv : (f y)[k]? = some v) :
    Gives P n D E M ⟨d, .load T x, ty, pos, aft, gd⟩ v := g_ldRF hx ha hs hi hk (by rw [hy]; exact hv)
theorem g_ldRx {T : TypeId} {x : Operand} {desc : TypeDesc} {sz bytes b o i : Nat} {zero : Value} {G0 : Gh} {L0 : List Own} {cs : List α} {y : α} [TI P T desc sz bytes zero] [RowF f sz] [Kn M G0 L0] (hx : ev E x = some (Pt b (o + i * sz))) (ha : aggD desc = true) (hs : Seg G0 b o (rows f cs)) (hi : i < cs.length) (hy : nth cs i = y) :
    Gives P n D E M ⟨d, .load T x, ty, pos, aft, gd⟩ (Ag (f y)) := by rw [← hy]; exact g_ldR hx ha hs hi
end
section
variable {P : Program} {n : Nat} {D : List Deferred} {E : Env} {B : Base} {G : Gh} {L : List Own} {K : Act → World → Prop} {Q : Exit → Act → World → Prop} {ty : TypeId} {pos : String} {aft : Array Edge} {gd : Option (Nat × Bool)} {dd : Nat}
/-- What an append hands back, written out. -/
theorem c_apX {v : Value} {m k b c : Nat} {s x : Operand} {T el T0 : TypeId} {desc : TypeDesc} {size bytes s1 b1 : Nat} {z1 zero : Value} {zs xs news : List Value} {fr : Nat × Nat} {L' : List Own} [TI P T (.slice el) s1 b1 z1] [TI P el desc size bytes zero] [ha : AccI L v el size m xs L'] [hb' : BlkI L b news T0 fr]
    (hs : ev E s = some v) (hx : ev E x = some (.slice (some ⟨b, 0, none⟩) k c)) (hl : Nat.beq news.length (k * size) = true) (h1 : all1 news = true)
    (hz : cellsC zero = some zs) (hzl : Nat.beq zs.length size = true) (hb0 : Nat.beq bytes 0 = false) (hlt : Nat.blt dd n = true) (hk : Nat.blt 0 k = true) (hb : (2 * (m + k) + 768) * bytes ≤ 281474976710656)
    (kk : ∀ b' c', Nx n D ((dd, .slice (some ⟨b', 0, none⟩) (m + k) c') :: E) B G (.acc (.slice (some ⟨b', 0, none⟩) (m + k) c') el size (m + k) (xs ++ news) :: L') K) :
    Nx n D E B G L (ow P ⟨some dd, .call ⟨.builtin .append, [s, x].toArray, [T, T].toArray⟩, ty, pos, aft, gd⟩ Q K) :=
  c_append hs hx ha.del (src_cells hl (cells_own hb'.mem)) h1 (cellsC_eq hz) hzl hb0 hb hlt fun v' => Nx.shp (.head _) fun hsh => by
    have hk' : 0 < k := by simpa using hk
    obtain ⟨b', c', rfl⟩ := hsh.pos (by omega)
    exact kk b' c'
end
section
variable {P : Program} {n : Nat} {D : List Deferred} {E : Env} {M : World → Prop} {d : Option Nat} {ty : TypeId} {pos : String} {aft : Array Edge} {gd : Option (Nat × Bool)}
theorem g_lookupX {T kt et : TypeId} {x i : Operand} {b : Nat} {k : List UInt8} {r : Option Value} {kvs : List (List UInt8 × Value)} {s1 b1 s2 b2 s3 b3 : Nat} {z1 z2 z3 v : Value} {de : TypeDesc} [TI P T (.map kt et) s1 b1 z1] [TI P kt .string s2 b2 z2] [TI P et de s3 b3 z3]
    (hx : ev E x = some (.map (some b))) (hi : ev E i = some (S k)) (hm : MapAt M b kvs) (hk : kvF kvs k = r) (hv : r.getD z3 = v) : Gives P n D E M ⟨d, .lookup T x i false, ty, pos, aft, gd⟩ v := by
  subst hv; subst hk; exact g_lookup hx hi hm
end
section
variable {P : Program} {n : Nat} {D : List Deferred} {E : Env} {M : World → Prop} {d : Option Nat} {ty : TypeId} {pos : String} {aft : Array Edge} {gd : Option (Nat × Bool)}
variable {α : Type} [Inhabited α] {f : α → List Value}
/-- A part of a row. -/
theorem g_ldRA {T : TypeId} {x : Operand} {desc : TypeDesc} {size sz bytes b o i k : Nat} {zero : Value} {vs : List Value} {G0 : Gh} {L0 : List Own} {cs : List α} [TI P T desc size bytes zero] [RowF f sz] [Kn M G0 L0] (hx : ev E x = some (Pt b (o + i * sz + k))) (ha : aggD desc = true) (hs : Seg G0 b o (rows f cs)) (hi : i < cs.length) (hv : takeC (f (nth cs i)) k size = some vs) (hl : Nat.beq vs.length size = true) :
    Gives P n D E M ⟨d, .load T x, ty, pos, aft, gd⟩ (Ag vs) := g_loadA (size := size) hx ha (Nat.eq_of_beq_eq_true hl) (by
  have h : CellsOf M b (o + i * sz) (f (nth cs i)) := CellsOf.mk fun j v hj => by
    have hlt : j < sz := by have := (List.getElem?_eq_some_iff.1 hj).1; rwa [RowF.len] at this
    have := (cells_seg (S := M) hs).go (i * sz + j) v (by rw [rows_get hi hlt]; exact hj)
    rwa [← Nat.add_assoc] at this
  exact h.take hv)
end
section
variable {P : Program} {n : Nat} {D : List Deferred} {E : Env} {M : World → Prop} {d : Option Nat} {ty : TypeId} {pos : String} {aft : Array Edge} {gd : Option (Nat × Bool)}
variable {α : Type} [Inhabited α] {f : α → List Value}
/-- Rows of one cell. -/
theorem g_ldR1x {T : TypeId} {x : Operand} {desc : TypeDesc} {size bytes b o i : Nat} {zero v : Value} {G0 : Gh} {L0 : List Own} {cs : List α} {y : α} [TI P T desc size bytes zero] [RowF f 1] [Kn M G0 L0] (hx : ev E x = some (Pt b (o + i * 1))) (ha : aggD desc = false) (hs : Seg G0 b o (rows f cs)) (hi : i < cs.length) (hy : nth cs i = y) (hv : (f y)[0]? = some v) :
    Gives P n D E M ⟨d, .load T x, ty, pos, aft, gd⟩ v := g_load hx ha (by
  have := (cells_seg (S := M) hs).go (i * 1 + 0) v (by rw [rows_get hi (by omega), hy]; exact hv)
  simpa using this)
end
end Go.E
/-! EngR -/
namespace Go.E
abbrev Pr := List UInt8 × List UInt8
def mkPs : List Pr → Nat → List MapEntry
  | [], _ => []
  | p :: r, i => { key := Ag [S p.1, S p.2], val := Bo true, born := i } :: mkPs r (i + 1)
theorem mkPs_snoc (p : Pr) : ∀ (ps : List Pr) (i : Nat), mkPs (ps ++ [p]) i = mkPs ps i ++ [{ key := Ag [S p.1, S p.2], val := Bo true, born := i + ps.length }]
  | [], i => rfl
  | q :: r, i => by
    have := mkPs_snoc p r (i + 1)
    simp only [List.cons_append, mkPs, this, List.length_cons]
    rw [show i + 1 + r.length = i + (r.length + 1) by omega]
theorem mkPs_mem {e : MapEntry} : ∀ {ps : List Pr} {i : Nat}, e ∈ mkPs ps i → ∃ p ∈ ps, e.key = Ag [S p.1, S p.2] ∧ e.val = Bo true
  | [], _, h => by simp [mkPs] at h
  | p :: r, i, h => by
    rcases List.mem_cons.1 h with rfl | h
    · exact ⟨p, .head _, rfl, rfl⟩
    · obtain ⟨q, h1, h2⟩ := mkPs_mem h
      exact ⟨q, .tail _ h1, h2⟩
theorem mkPs_has {p : Pr} : ∀ {ps : List Pr} {i : Nat}, p ∈ ps → ∃ e ∈ mkPs ps i, e.key = Ag [S p.1, S p.2]
  | [], _, h => by simp at h
  | q :: r, i, h => by
    rcases List.mem_cons.1 h with rfl | h
    · exact ⟨_, .head _, rfl⟩
    · obtain ⟨e, h1, h2⟩ := mkPs_has (i := i + 1) h
      exact ⟨e, .tail _ h1, h2⟩
def mapP (ps : List Pr) : Obj := .map (mkPs ps 0).toArray ps.length
theorem AgS_inj {a b c d : List UInt8} (h : Ag [S a, S b] = Ag [S c, S d]) : a = c ∧ b = d := by
  simp only [Value.agg.injEq] at h
  have h2 := congrArg Array.toList h
  simp only [List.cons.injEq, and_true] at h2
  obtain ⟨h3, h4⟩ := h2
  exact ⟨by have := h3; simp only [Value.string.injEq, ByteArray.mk.injEq] at this; simpa using congrArg Array.toList this, by have := h4; simp only [Value.string.injEq, ByteArray.mk.injEq] at this; simpa using congrArg Array.toList this⟩
/-- A type of keys that are pairs of texts. -/
class PK (P : Program) (kt : TypeId) : Prop where
  law : WideMaps.KeyLaw P kt
  some' : ∀ a b : List UInt8, a.length ≤ 1000000 → b.length ≤ 1000000 → ∃ l, keyOf P kt (Ag [S a, S b]) = some l
  gd : P.eqGuardType P.depth kt = false
  eq' : ∀ (w : World) (a b c d : List UInt8), (a.length ≤ 1000000 ∧ b.length ≤ 1000000) → (c.length ≤ 1000000 ∧ d.length ≤ 1000000) → (Op.equal kt (Ag [S a, S b]) (Ag [S c, S d])).run P w = .ok (decide (a = c ∧ b = d)) w
theorem keyOf_pair {P : Program} {kt st N : Nat} {fs : Array Field} (hT : P.underlying kt = some (.struct fs)) (hf : fs.toList.map (fun f => (f.type, f.offset)) = [(st, 0), (st, 1)]) (hn : fs.all (·.name != "_") = true) (hs : P.underlying st = some .string) (c2 : P.cellsOf kt = 2) (c1 : P.cellsOf st = 1) (hk : P.keyType kt = true) (hN : P.types.size = N + 1)
    {a b : List UInt8} (ha : a.length ≤ 1000000) (hb : b.length ≤ 1000000) : ∃ l, keyOf P kt (Ag [S a, S b]) = some l := by
  obtain ⟨l⟩ := fs
  have hlen : l.length = 2 := by have := congrArg List.length hf; simpa using this
  match l, hlen, hf with
  | [f0, f1], _, hf =>
    simp only [List.map_cons, List.map_nil, List.cons.injEq, Prod.mk.injEq, and_true] at hf
    obtain ⟨⟨t0, o0⟩, t1, o1⟩ := hf
    have hm : ∀ x : List UInt8, x.length ≤ 1000000 → (⟨x.toArray⟩ : ByteArray).size ≤ maxLen := fun x hx => by
      have e : (⟨x.toArray⟩ : ByteArray).size = x.length := by show x.toArray.size = _; simp
      have hm2 : maxLen = 9223372036854775807 := rfl
      omega
    have e1 : ∀ x : List UInt8, x.length ≤ 1000000 → P.keyLits (N + 1) st [S x] = some [.string x] := fun x hx => by
      rw [Program.keyLits]
      all_goals first | exact hs | rw [if_pos (hm x hx)]
    refine ⟨.string (keyBytes [.string a, .string b]), ?_⟩
    unfold keyOf
    rw [hT]
    dsimp only
    have hfo : (Ag [S a, S b]).formed P kt = true := by simp [Value.formed, hT, c2]
    rw [hk, hfo, hN]
    simp only [Bool.and_self, if_true]
    have e2 : P.keyLits (N + 1 + 1) kt [S a, S b] = some [.string a, .string b] := by
      unfold Program.keyLits
      rw [hT]
      dsimp only
      rw [if_pos ⟨by rw [c2]; rfl, hn⟩]
      simp only [List.mapM_cons, List.mapM_nil, t0, o0, t1, o1, c1, List.drop_zero, List.take_succ_cons, List.take_zero, List.drop_succ_cons, e1 a ha, e1 b hb]
      rfl
    show (P.keyLits (N + 1 + 1) kt [S a, S b]).map _ = _
    rw [e2]; rfl
theorem PK.mk' {P : Program} {kt st N : Nat} {fs : Array Field} (hl : laidOutB P = true) (hT : P.underlying kt = some (.struct fs)) (hf : fs.toList.map (fun f => (f.type, f.offset)) = [(st, 0), (st, 1)]) (hn : fs.all (·.name != "_") = true) (hs : P.underlying st = some .string) (c2 : P.cellsOf kt = 2) (c1 : P.cellsOf st = 1) (hk : P.keyType kt = true) (hN : P.types.size = N + 1) (hN2 : Nat.ble (N + 3) 10000 = true) (hrow : Nat.blt kt (N + 1) = true) (hgd : P.eqGuardType P.depth kt = false) : PK P kt := by
  have hwide : (match P.underlying kt with | some (.array _ _) | some (.struct _) => true | _ => false) = true := by rw [hT]
  have hN3 : N + 3 ≤ 10000 := by simpa using hN2
  have hlaw := deep_law_gate hl (by rw [hN]; omega) (k := kt) (by rw [hN]; simpa using hrow) hk hwide
  refine ⟨hlaw, fun a b ha hb => keyOf_pair hT hf hn hs c2 c1 hk hN ha hb, hgd, fun w a b c d h1 h2 => ?_⟩
  obtain ⟨l1, e1⟩ := keyOf_pair hT hf hn hs c2 c1 hk hN h1.1 h1.2
  obtain ⟨l2, e2⟩ := keyOf_pair hT hf hn hs c2 c1 hk hN h2.1 h2.2
  obtain ⟨r, hr, hiff⟩ := run_equal_deep w (m := P.types.size + 1) (by rw [hN]; omega) hk hwide e1 e2
  rw [hr]
  congr 1
  rw [Bool.eq_iff_iff, hiff, decide_eq_true_eq]
  constructor
  · intro e; subst e; exact AgS_inj (hlaw.inj e1 e2)
  · rintro ⟨rfl, rfl⟩; rw [e1] at e2; exact Option.some.inj e2
def PsW (ps : List Pr) : Prop := ∀ p ∈ ps, p.1.length ≤ 1000000 ∧ p.2.length ≤ 1000000
section
variable {P : Program} {n : Nat} {D : List Deferred} {E : Env} {M : World → Prop} {d : Option Nat} {ty : TypeId} {pos : String} {aft : Array Edge} {gd : Option (Nat × Bool)}
theorem findP {kt : TypeId} [hk : PK P kt] {w : World} {p : Pr} {ps : List Pr} (hp : p.1.length ≤ 1000000 ∧ p.2.length ≤ 1000000) (hs : PsW ps) :
    (p ∉ ps ∧ (Instr.findKey kt (Ag [S p.1, S p.2]) (mkPs ps 0)).run P w = .ok none w) ∨ (p ∈ ps ∧ ∃ j, (Instr.findKey kt (Ag [S p.1, S p.2]) (mkPs ps 0)).run P w = .ok (some (j, Bo true)) w) := by
  obtain ⟨l, hl⟩ := hk.some' p.1 p.2 hp.1 hp.2
  rcases hk.law.find w hl (mkPs ps 0) (fun e he => by
    obtain ⟨q, h1, h2, _⟩ := mkPs_mem he
    rw [h2]; exact hk.some' q.1 q.2 (hs q h1).1 (hs q h1).2) with ⟨h1, h2⟩ | ⟨j, e, h1, h2, h3⟩
  · refine .inl ⟨fun hm => ?_, h1⟩
    obtain ⟨e, he, hke⟩ := mkPs_has (i := 0) hm
    exact h2 e he hke
  · have hm := List.mem_of_getElem? h2
    obtain ⟨q, hq, hk1, hv⟩ := mkPs_mem hm
    rw [h3] at hk1
    obtain ⟨e1, e2⟩ := AgS_inj hk1
    refine .inr ⟨?_, j, by rw [h1, hv]⟩
    have : p = q := Prod.ext e1 e2
    rw [this]; exact hq
theorem g_eqP {T T' : TypeId} {x y : Operand} {a b c e : List UInt8} [hk : PK P T] (hx : ev E x = some (Ag [S a, S b])) (hy : ev E y = some (Ag [S c, S e])) (hb : (a.length ≤ 1000000 ∧ b.length ≤ 1000000) ∧ c.length ≤ 1000000 ∧ e.length ≤ 1000000) : Gives P n D E M ⟨d, .binOp .eql T x y T', ty, pos, aft, gd⟩ (Bo (decide (a = c ∧ b = e))) := Gives.mk fun a' w hs _ => by
  have h1 : (eqGuard .eql T x y (Ag [S a, S b]) (Ag [S c, S e])).run P w = .ok () w := by
    simp [eqGuard, hk.gd]
  have h2 : binOp .eql T (Ag [S a, S b]) (Ag [S c, S e]) = (do pure (.bool ((← Op.equal T (Ag [S a, S b]) (Ag [S c, S e]))))) := rfl
  simp only [execOp, hs.ev hx, hs.ev hy, Sem.run_bind, h1, Result.andThen_ok, h2, hk.eq' w a b c e hb.1 hb.2, Sem.run_pure]
theorem g_lookP {T kt et : TypeId} {x i : Operand} {b : Nat} {p q : List UInt8} {ps : List Pr} {s1 b1 s3 b3 : Nat} {z1 : Value} {G0 : Gh} {L0 : List Own} [TI P T (.map kt et) s1 b1 z1] [hk : PK P kt] [TI P et .bool s3 b3 (Bo false)] [kn : Kn M G0 L0]
    (hx : ev E x = some (.map (some b))) (hi : ev E i = some (Ag [S p, S q])) (hm : Own.blk b (mapP ps) ∈ L0) (hp : (p.length ≤ 1000000 ∧ q.length ≤ 1000000) ∧ PsW ps) : Gives P n D E M ⟨d, .lookup T x i false, ty, pos, aft, gd⟩ (Bo (decide ((p, q) ∈ ps))) := Gives.mk fun a w hs hw => by
  obtain ⟨B, G, L, _, h2, h3⟩ := kn.kn w hw
  have hb : w.heap[b]? = some (.map (mkPs ps 0).toArray ps.length) := h3.own _ (h2 _ hm)
  obtain ⟨l, hl⟩ := hk.some' p q hp.1.1 hp.1.2
  have hc : ∀ e, (Instr.checkKey e 10000 kt (Ag [S p, S q])).run P w = .ok () w := fun e => hk.law.check w e hl
  simp only [execOp, hs.ev hx, hs.ev hi, Instr.lookup, Sem.run_bind, run_und (T := T) (desc := .map kt et) (size := s1) (bytes := b1) (zero := z1), Result.andThen_ok, MapKept.run_getObj_map hb, Sem.run_pure, hc]
  rcases findP (P := P) (kt := kt) (w := w) (p := (p, q)) hp.1 hp.2 with ⟨h4, h5⟩ | ⟨h4, j, h5⟩
  · dsimp only at h5
    rw [h5]; simp [run_zero (T := et) (desc := .bool) (size := s3) (bytes := b3) (zero := Bo false), h4]
  · dsimp only at h5
    rw [h5]; simp [h4]
end
section
variable {P : Program} {n : Nat} {D : List Deferred} {E : Env} {B : Base} {G G0 : Gh} {L : List Own} {K : Act → World → Prop} {Q : Exit → Act → World → Prop} {ty : TypeId} {pos : String} {aft : Array Edge} {gd : Option (Nat × Bool)} {dd : Nat}
class MapIP (L : List Own) (b : Nat) (ps : outParam (List Pr)) : Prop where
  mem : Own.blk b (mapP ps) ∈ L
instance {b : Nat} {ps : List Pr} {r : List Own} : MapIP (.blk b (mapP ps) :: r) b ps := ⟨.head _⟩
instance {b : Nat} {ps : List Pr} {z : Own} {r : List Own} [h : MapIP r b ps] : MapIP (z :: r) b ps := ⟨.tail _ h.mem⟩
class UpdP (b : Nat) (ps' : List Pr) (L : List Own) (ps : outParam (List Pr)) (L' : outParam (List Own)) : Prop where
  upd : UpdO (.blk b (mapP ps)) (.blk b (mapP ps')) L L'
instance {b : Nat} {ps ps' : List Pr} {r : List Own} : UpdP b ps' (.blk b (mapP ps) :: r) ps (.blk b (mapP ps') :: r) := ⟨.here⟩
instance {b : Nat} {ps ps' : List Pr} {z : Own} {r r' : List Own} [h : UpdP b ps' r ps r'] : UpdP b ps' (z :: r) ps (z :: r') := ⟨.there h.upd⟩
class DelP (L : List Own) (b : Nat) (ps : outParam (List Pr)) (R : outParam (List Own)) : Prop where
  del : Del (.blk b (mapP ps)) L R
instance {b : Nat} {ps : List Pr} {r : List Own} : DelP (.blk b (mapP ps) :: r) b ps r := ⟨.here⟩
instance {b : Nat} {ps : List Pr} {z : Own} {r r' : List Own} [h : DelP r b ps r'] : DelP (z :: r) b ps (z :: r') := ⟨.there h.del⟩
theorem c_mkp {T : TypeId} (hlt : Nat.blt dd n = true)
    (k : ∀ b, Nx n D ((dd, .map (some b)) :: E) B G (.blk b (mapP []) :: L) K) : Nx n D E B G L (ow P ⟨some dd, .makeMap T none, ty, pos, aft, gd⟩ Q K) := c_mkm hlt k
/-- A new key. -/
theorem c_mupP {T kt et : TypeId} {x i y : Operand} {b : Nat} {p q : List UInt8} {ps ps0 : List Pr} {s1 b1 : Nat} {z1 : Value} {L' : List Own} [TI P T (.map kt et) s1 b1 z1] [hk : PK P kt] [MapIP L b ps] [hu : UpdP b (ps ++ [(p, q)]) L ps0 L']
    (hx : ev E x = some (.map (some b))) (hi : ev E i = some (Ag [S p, S q])) (hy : ev E y = some (Bo true)) (he : ps0 = ps) (hp : (p.length ≤ 1000000 ∧ q.length ≤ 1000000) ∧ PsW ps) (hno : (p, q) ∉ ps)
    (h : Nx n D E B G L' K) : Nx n D E B G L (ow P ⟨none, .mapUpdate T x i y, ty, pos, aft, gd⟩ Q K) := Nx.mk fun a w hs hw => by
  subst he
  unfold ow Oper.wp
  have hb : w.heap[b]? = some (mapP ps0) := hw.own _ hu.upd.mem
  obtain ⟨l, hl⟩ := hk.some' p q hp.1.1 hp.1.2
  have hc : ∀ e, (Instr.checkKey e 10000 kt (Ag [S p, S q])).run P w = .ok () w := fun e => hk.law.check w e hl
  have hfk : (Instr.findKey kt (Ag [S p, S q]) (mkPs ps0 0)).run P w = .ok none w := by
    rcases findP (P := P) (kt := kt) (w := w) (p := (p, q)) hp.1 hp.2 with ⟨_, h5⟩ | ⟨h4, _⟩
    · exact h5
    · exact absurd h4 hno
  have e : mapP (ps0 ++ [(p, q)]) = .map ((mkPs ps0 0).toArray.push { key := Ag [S p, S q], val := Bo true, born := ps0.length }) (ps0.length + 1) := by
    unfold mapP; rw [mkPs_snoc]; simp
  have : (execOp a.eval ⟨none, .mapUpdate T x i y, ty, pos, aft, gd⟩).run P w = .ok .skip (setBlk w b (mapP (ps0 ++ [(p, q)]))) := by
    rw [e]
    have hb' : w.heap[b]? = some (.map (mkPs ps0 0).toArray ps0.length) := hb
    simp only [execOp, hs.ev hx, hs.ev hi, hs.ev hy, Instr.mapUpdate, Sem.run_bind, run_und (T := T) (desc := .map kt et) (size := s1) (bytes := b1) (zero := z1), Result.andThen_ok, MapKept.run_getObj_map hb', hc, hfk, MapKept.run_setObj_map _ hb', Sem.run_pure]
    rfl
  rw [this, Oper.upon_skip]
  exact h.go _ _ hs (hw.setBlk hu.upd)
/-- A callee is handed a map. -/
theorem c_mapg {fo : Operand} {l : List Operand} {tys : Array TypeId} {d : Nat} {g : Option (Nat × Bool)} {f : FuncId} {fi ca az vs : List Value} {b : Nat} {ps : List Pr} {R : List Own} {Post : Value → List Own → Prop}
    [hd : DelP L b ps R] (hf : ev E fo = some (.func (.func f) fi.toArray ca.toArray)) (ha : evs E l = some az) (hv : fi ++ az ++ ca = vs) (hc : FnG P f vs G [.blk b (mapP ps)] Post) (hlt : Nat.blt d n = true)
    (k : ∀ v L', Post v L' → Nx n D ((d, v) :: E) B G (L' ++ R) K) : Nx n D E B G L (ow P ⟨some d, .call ⟨.value fo, l.toArray, tys⟩, ty, pos, aft, g⟩ Q K) :=
  c_call (Lp := [.blk b (mapP ps)]) hf ha hv hc hd.del.perm hlt fun v G' L' h => by obtain ⟨rfl, h⟩ := h; exact k v L' h
/-- A callee is handed a block and an own slice. -/
theorem c_m2g {fo : Operand} {l : List Operand} {tys : Array TypeId} {d : Nat} {g : Option (Nat × Bool)} {f : FuncId} {fi ca az vs : List Value} {b : Nat} {cs xs : List Value} {T el : TypeId} {u : Value} {sz m : Nat} {R1 R : List Own} {Post : Value → List Own → Prop}
    [hd : DelB L b cs T R1] [ha2 : AccI R1 u el sz m xs R] (hf : ev E fo = some (.func (.func f) fi.toArray ca.toArray)) (ha : evs E l = some az) (hv : fi ++ az ++ ca = vs) (hc : FnG P f vs G [.blk b (.cells cs.toArray T (0, 0)), .acc u el sz m xs] Post) (hlt : Nat.blt d n = true)
    (k : ∀ v L', Post v L' → Nx n D ((d, v) :: E) B G (L' ++ R) K) : Nx n D E B G L (ow P ⟨some d, .call ⟨.value fo, l.toArray, tys⟩, ty, pos, aft, g⟩ Q K) :=
  c_call (Lp := [.blk b (.cells cs.toArray T (0, 0)), .acc u el sz m xs]) hf ha hv hc (hd.del.perm.trans (ha2.del.perm.cons _)) hlt fun v G' L' h => by obtain ⟨rfl, h⟩ := h; exact k v L' h
end
end Go.E
/-! Oa -/
namespace Go.E
set_option maxRecDepth 20000
set_option maxHeartbeats 2000000
def tag0 (t : Ty) : Int := (t.fields.headD default).tag
/-- The standing value of a kind; the number bounds the steps. -/
def standN (ts : List Ty) : Nat → List UInt8 → List UInt8
  | 0, _ => []
  | _ + 1, [] => []
  | n + 1, c :: r => if c.toNat = 91 then [91, 93] else if c.toNat = 63 then [45] else
      match refT ts (c :: r) with
      | none => plainOf (c :: r)
      | some t => if t.sort = 82 then [123, 125] else if t.sort = 69 then 35 :: decI (tag0 t) else 60 :: (decI (tag0 t) ++ 61 :: (standN ts n (kind0 t) ++ [62]))
def standK (ts : List Ty) (k : List UInt8) : List UInt8 := standN ts (ts.length + 2) k
def standF (ts : List Ty) (f : Fld) : List UInt8 := if f.stand = [] then standK ts f.kind else f.stand
def fldT (fs : List Fld) (tag : Int) : Option Fld := fs.find? fun f => decide (f.tag = tag)
/-- The fields of an older type, one after the other. -/
def evoF (ts us : List Ty) (kk : List UInt8 → List UInt8 → List Pr → Bool × List Pr) (t u : Ty) : List Fld → List Pr → Bool × List Pr
  | [], m => (true, m)
  | g :: gs, m => match fldT t.fields g.tag with
    | none => if u.sort = 82 then evoF ts us kk t u gs m else (false, m)
    | some f => if u.sort = 69 then evoF ts us kk t u gs m
        else if (kk f.kind g.kind m).1 = false then (false, (kk f.kind g.kind m).2)
        else if u.sort = 82 ∧ standF ts f ≠ standF us g then (false, (kk f.kind g.kind m).2)
        else evoF ts us kk t u gs (kk f.kind g.kind m).2
def evoT (ts us : List Ty) (kk : List UInt8 → List UInt8 → List Pr → Bool × List Pr) (t u : Ty) (m : List Pr) : Bool × List Pr :=
  if t.sort ≠ u.sort then (false, m) else evoF ts us kk t u u.fields m
def evoP (ts us : List Ty) (kk : List UInt8 → List UInt8 → List Pr → Bool × List Pr) (t u : Ty) (m : List Pr) : Bool × List Pr :=
  if (t.name, u.name) ∈ m then (true, m) else evoT ts us kk t u (m ++ [(t.name, u.name)])
def evoK (ts us : List Ty) : Nat → List UInt8 → List UInt8 → List Pr → Bool × List Pr
  | 0, _, _, m => (false, m)
  | n + 1, k1, k2, m => if sg k1 ≠ sg k2 then (false, m)
    else match refT ts (core k1), refT us (core k2) with
      | some t, some u => evoP ts us (evoK ts us n) t u m
      | _, _ => (decide (core k1 = core k2), m)
/-- What has been asked for so far. -/
structure AskW (ts us : List Ty) (m : List Pr) : Prop where
  nd : m.Nodup
  mem : ∀ p ∈ m, (∃ t ∈ ts, t.name = p.1) ∧ ∃ u ∈ us, u.name = p.2
theorem AskW.nil {ts us : List Ty} : AskW ts us [] := ⟨List.nodup_nil, by simp⟩
theorem AskW.snoc {ts us : List Ty} {m : List Pr} {t u : Ty} (h : AskW ts us m) (ht : t ∈ ts) (hu : u ∈ us) (hn : (t.name, u.name) ∉ m) : AskW ts us (m ++ [(t.name, u.name)]) :=
  ⟨List.nodup_append.2 ⟨h.nd, by simp, fun a ha b hb e => by simp only [List.mem_singleton] at hb; subst hb; subst e; exact hn ha⟩, fun p hp => by
    rcases List.mem_append.1 hp with hp | hp
    · exact h.mem p hp
    · simp only [List.mem_singleton] at hp; subst hp; exact ⟨⟨t, ht, rfl⟩, u, hu, rfl⟩⟩
theorem nodup_le {α : Type} [DecidableEq α] : ∀ {l l' : List α}, l.Nodup → (∀ x ∈ l, x ∈ l') → l.length ≤ l'.length
  | [], _, _, _ => Nat.zero_le _
  | a :: l, l', hn, hs => by
    rw [List.nodup_cons] at hn
    have ha := hs a (.head _)
    have := nodup_le (l := l) (l' := l'.erase a) hn.2 fun x hx => by
      have hx' := hs x (.tail _ hx)
      exact (List.mem_erase_of_ne (fun e => hn.1 (by rw [← e]; exact hx))).2 hx'
    rw [List.length_erase_of_mem ha] at this
    have hp : 0 < l'.length := List.length_pos_of_mem ha
    simp only [List.length_cons]; omega
theorem AskW.len {ts us : List Ty} {m : List Pr} (h : AskW ts us m) : m.length ≤ ts.length * us.length := by
  have h1 : m.length ≤ (ts.flatMap fun t => us.map fun u => (t.name, u.name)).length := nodup_le h.nd fun p hp => by
    obtain ⟨⟨t, ht, e1⟩, u, hu, e2⟩ := h.mem p hp
    exact List.mem_flatMap.2 ⟨t, ht, List.mem_map.2 ⟨u, hu, by rw [e1, e2]⟩⟩
  have h2 : ∀ ts : List Ty, (ts.flatMap fun t => us.map fun u => (t.name, u.name)).length = ts.length * us.length := fun ts => by
    induction ts with
    | nil => simp
    | cons t ts ih => rw [List.flatMap_cons, List.length_append, ih, List.length_map, List.length_cons, Nat.succ_mul, Nat.add_comm]
  rw [h2] at h1; exact h1
/-- What an answer leaves behind. -/
def Grows (ts us : List Ty) (m m' : List Pr) : Prop := AskW ts us m' ∧ m.length ≤ m'.length
theorem evoF_grows {ts us : List Ty} {kk : List UInt8 → List UInt8 → List Pr → Bool × List Pr} {t u : Ty} (hk : ∀ (f g : Fld) (m : List Pr), AskW ts us m → Grows ts us m (kk f.kind g.kind m).2) :
    ∀ (gs : List Fld) (m : List Pr), AskW ts us m → Grows ts us m (evoF ts us kk t u gs m).2
  | [], m, h => ⟨h, Nat.le_refl _⟩
  | g :: gs, m, h => by
    unfold evoF
    split
    · split
      · exact evoF_grows hk gs m h
      · exact ⟨h, Nat.le_refl _⟩
    · rename_i f _
      have h1 := hk f g m h
      split
      · exact evoF_grows hk gs m h
      · split
        · exact h1
        · split
          · exact h1
          · have h2 := evoF_grows (t := t) (u := u) hk gs _ h1.1
            exact ⟨h2.1, Nat.le_trans h1.2 h2.2⟩
theorem evoP_grows {ts us : List Ty} {kk : List UInt8 → List UInt8 → List Pr → Bool × List Pr} {t u : Ty} (hk : ∀ (f g : Fld) (m : List Pr), AskW ts us m → Grows ts us m (kk f.kind g.kind m).2) (ht : t ∈ ts) (hu : u ∈ us) (m : List Pr) (h : AskW ts us m) : Grows ts us m (evoP ts us kk t u m).2 := by
  unfold evoP
  split
  · exact ⟨h, Nat.le_refl _⟩
  · rename_i hn
    have h1 := h.snoc ht hu hn
    unfold evoT
    split
    · exact ⟨h1, by simp⟩
    · have h2 := evoF_grows (t := t) (u := u) hk u.fields _ h1
      exact ⟨h2.1, by have := h2.2; simp at this ⊢; omega⟩
theorem evoK_grows {ts us : List Ty} : ∀ (n : Nat) (k1 k2 : List UInt8) (m : List Pr), AskW ts us m → Grows ts us m (evoK ts us n k1 k2 m).2
  | 0, _, _, m, h => ⟨h, Nat.le_refl _⟩
  | n + 1, k1, k2, m, h => by
    unfold evoK
    split
    · exact ⟨h, Nat.le_refl _⟩
    · split
      · rename_i t u ht hu
        exact evoP_grows (fun f g m h => evoK_grows n f.kind g.kind m h) (refT_mem ht) (refT_mem hu) m h
      · exact ⟨h, Nat.le_refl _⟩
/-- A newer kind reads an older one. -/
def evReads (s k r l : List UInt8) : Bool := match schemaOf s, schemaOf r with
  | some ts, some us => (kindIn ts k && kindIn us l) && (evoK ts us (ts.length * us.length + 1) k l []).1
  | _, _ => false
theorem kind_refT {ts : List Ty} {k : List UInt8} (h : kindIn ts k = true) (hr : (refN (core k)).isSome = true) : ∃ t, refT ts (core k) = some t := by
  unfold kindIn hasK at h
  unfold refT
  cases hc : refN (core k) with
  | none => rw [hc] at hr; cases hr
  | some n =>
    rw [hc] at h
    simp only [Bool.and_eq_true] at h
    obtain ⟨_, h⟩ := h
    exact Option.isSome_iff_exists.1 h
end Go.E
/-! Va -/
namespace Go.E
set_option maxRecDepth 20000
set_option maxHeartbeats 2000000
/-- A value: what it is (a letter or a sign), a text, a tag, parts. Fields of a record are parts with the sign =. -/
inductive V where
  | nd (what : Nat) (text : List UInt8) (tag : Int) (kids : List V)
instance : Inhabited V := ⟨.nd 0 [] 0 []⟩
def V.what : V → Nat | .nd w _ _ _ => w
def V.text : V → List UInt8 | .nd _ x _ _ => x
def V.tag : V → Int | .nd _ _ t _ => t
def V.kids : V → List V | .nd _ _ _ ks => ks
/-- The text of a node, its parts' texts being joined. -/
def outW (w : Nat) (x : List UInt8) (t : Int) (e : Bool) (j : List UInt8) : List UInt8 :=
  if w = 116 then 39 :: (x ++ [39]) else if w = 91 then 91 :: (j ++ [93]) else if w = 63 then (if e = true then [45] else 43 :: j)
  else if w = 61 then decI t ++ 61 :: j else if w = 82 then 123 :: (j ++ [125]) else if w = 85 then 60 :: (decI t ++ 61 :: (j ++ [62])) else if w = 69 then 35 :: decI t else x
mutual
def V.out : V → List UInt8
  | .nd w x t ks => outW w x t ks.isEmpty (joinB 44 (V.outs ks))
def V.outs : List V → List (List UInt8)
  | [] => []
  | v :: r => V.out v :: V.outs r
end
mutual
def V.deep : V → Nat
  | .nd w _ _ ks => if w = 61 then V.deeps ks else V.deeps ks + 1
def V.deeps : List V → Nat
  | [] => 0
  | v :: r => max (V.deep v) (V.deeps r)
end
def leafW (w : Nat) (e : Bool) : Bool := (decide (w = 110) || decide (w = 116) || decide (w = 102) || decide (w = 69)) || (decide (w = 63) && e)
mutual
def V.size : V → Nat
  | .nd w _ _ ks => if leafW w ks.isEmpty = true then 1 else V.sizes ks
def V.sizes : List V → Nat
  | [] => 0
  | v :: r => V.size v + V.sizes r
end
theorem V.outs_map : ∀ ks : List V, V.outs ks = ks.map V.out
  | [] => rfl
  | v :: r => by rw [V.outs, V.outs_map r]; rfl
def isDg (c : UInt8) : Bool := decide (48 ≤ c.toNat ∧ c.toNat ≤ 57)
/-- A number at the beginning of a text. -/
def rdNum (top : Int) (s : List UInt8) : Option (Int × List UInt8) := (numOf (s.takeWhile isDg) top).map fun n => (n, s.dropWhile isDg)
/-- Items behind the sign of a list. -/
def rdItems (f : List UInt8 → Option (V × List UInt8)) : Nat → List UInt8 → List V → Option (List V × List UInt8)
  | 0, _, _ => none
  | m + 1, s, acc => match f s with
    | none => none
    | some (v, r) => match r with
      | [] => none
      | c :: r' => if c.toNat = 44 then rdItems f m r' (acc ++ [v]) else if c.toNat = 93 then some (acc ++ [v], r') else none
/-- A tag, the sign =, a value of the field's kind. -/
def rdField (f : List UInt8 → List UInt8 → Option (V × List UInt8)) (t : Ty) (s : List UInt8) : Option ((Fld × V) × List UInt8) :=
  match rdNum 200 s with
  | none => none
  | some (n, r) => match fldT t.fields n with
    | none => none
    | some d => match r with
      | [] => none
      | c :: r' => if c.toNat = 61 then (f d.kind r').map fun x => ((d, x.1), x.2) else none
/-- Fields behind the sign of a record. -/
def rdFlds (ts : List Ty) (f : List UInt8 → List UInt8 → Option (V × List UInt8)) (t : Ty) : Nat → Int → List UInt8 → List V → Option (List V × List UInt8)
  | 0, _, _, _ => none
  | m + 1, last, s, acc => match rdField f t s with
    | none => none
    | some ((d, v), r) => if d.tag ≤ last ∨ v.out = standF ts d then none else match r with
      | [] => none
      | c :: r' => if c.toNat = 44 then rdFlds ts f t m d.tag r' (acc ++ [.nd 61 [] d.tag [v]]) else if c.toNat = 125 then some (acc ++ [.nd 61 [] d.tag [v]], r') else none
def rdTyped (ts : List Ty) (f : List UInt8 → List UInt8 → Option (V × List UInt8)) (t : Ty) : List UInt8 → Option (V × List UInt8)
  | [] => none
  | c :: s => if t.sort = 82 then
      (if c.toNat = 123 then (match s with
        | [] => none
        | c' :: r => if c'.toNat = 125 then some (.nd 82 [] 0 [], r) else (rdFlds ts f t (s.length + 1) 0 s []).map fun x => (.nd 82 [] 0 x.1, x.2)) else none)
    else if t.sort = 69 then
      (if c.toNat = 35 then (match rdNum 200 s with
        | none => none
        | some (n, r) => if (fldT t.fields n).isSome = true then some (.nd 69 [] n [], r) else none) else none)
    else if c.toNat = 60 then (match rdField f t s with
        | none => none
        | some ((d, v), r) => match r with
          | [] => none
          | c' :: r' => if c'.toNat = 62 then some (.nd 85 [] d.tag [v], r') else none)
      else none
/-- A text between two strokes. -/
def rdQuote : List UInt8 → Option (V × List UInt8)
  | [] => none
  | c :: s => if c.toNat = 39 then (match cut1 39 s with
      | (x, r, true) => if isTx (39 :: (x ++ [39])) = true then some (.nd 116 x 0 [], r) else none
      | _ => none) else none
def rdFlag (s : List UInt8) : Option (V × List UInt8) :=
  if [121, 101, 115].isPrefixOf s = true then some (.nd 102 [121, 101, 115] 0 [], s.drop 3) else if [110, 111].isPrefixOf s = true then some (.nd 102 [110, 111] 0 [], s.drop 2) else none
/-- A value of a kind at the beginning of a text, its parts being read by f. -/
def rdK (ts : List Ty) (f : List UInt8 → List UInt8 → Option (V × List UInt8)) : List UInt8 → List UInt8 → Option (V × List UInt8)
  | [], _ => none
  | c :: k, s =>
    if c.toNat = 91 then (match s with
      | [] => none
      | d :: s' => if d.toNat = 91 then (match s' with
          | [] => none
          | e :: r => if e.toNat = 93 then some (.nd 91 [] 0 [], r) else (rdItems (f k) 20 s' []).map fun x => (.nd 91 [] 0 x.1, x.2)) else none)
    else if c.toNat = 63 then (match s with
      | [] => none
      | d :: s' => if d.toNat = 45 then some (.nd 63 [] 0 [], s') else if d.toNat = 43 then (f k s').map fun x => (.nd 63 [] 0 [x.1], x.2) else none)
    else match refT ts (c :: k) with
      | some t => rdTyped ts f t s
      | none => if c.toNat = 110 then (rdNum 999999 s).map fun x => (.nd 110 (decI x.1) 0 [], x.2) else if c.toNat = 116 then rdQuote s else if c.toNat = 102 then rdFlag s else none
/-- A value of a kind at the beginning of a text, at most so deep. -/
def rd (ts : List Ty) : Nat → List UInt8 → List UInt8 → Option (V × List UInt8)
  | 0, _, _ => none
  | n + 1, k, s => rdK ts (rd ts n) k s
/-- A text that is a value of a kind. -/
def valOf (ts : List Ty) (k s : List UInt8) : Option V := if s.length ≤ 400 then (match rd ts 12 k s with
  | some (v, []) => some v
  | _ => none) else none
/-! ### More depth tells the same -/
theorem rdItems_mono {f g : List UInt8 → Option (V × List UInt8)} (h : ∀ s x, f s = some x → g s = some x) : ∀ (m : Nat) (s : List UInt8) (acc : List V) {x : List V × List UInt8}, rdItems f m s acc = some x → rdItems g m s acc = some x
  | 0, _, _, _, e => by cases e
  | m + 1, s, acc, x, e => by
    unfold rdItems at e ⊢
    cases hf : f s with
    | none => rw [hf] at e; cases e
    | some y =>
      rw [hf] at e
      rw [h s y hf]
      obtain ⟨v, r⟩ := y
      cases r with
      | nil => exact e
      | cons c r =>
        dsimp only at e ⊢
        split at e
        · rename_i hc; rw [if_pos hc]; exact rdItems_mono h m r _ e
        · rename_i hc; rw [if_neg hc]; exact e
theorem rdField_mono {f g : List UInt8 → List UInt8 → Option (V × List UInt8)} (h : ∀ k s x, f k s = some x → g k s = some x) (t : Ty) (s : List UInt8) {x : (Fld × V) × List UInt8} (e : rdField f t s = some x) : rdField g t s = some x := by
  unfold rdField at e ⊢
  cases hn : rdNum 200 s with
  | none => rw [hn] at e; cases e
  | some y =>
    rw [hn] at e
    obtain ⟨n, r⟩ := y
    dsimp only at e ⊢
    cases hd : fldT t.fields n with
    | none => rw [hd] at e; cases e
    | some d =>
      rw [hd] at e
      cases r with
      | nil => cases e
      | cons c r' =>
        dsimp only at e ⊢
        by_cases hc : c.toNat = 61
        · rw [if_pos hc] at e ⊢
          cases hf : f d.kind r' with
          | none => rw [hf] at e; cases e
          | some y => rw [hf] at e; rw [h _ _ y hf]; exact e
        · rw [if_neg hc] at e; cases e
theorem rdFlds_mono {ts : List Ty} {f g : List UInt8 → List UInt8 → Option (V × List UInt8)} (h : ∀ k s x, f k s = some x → g k s = some x) (t : Ty) : ∀ (m : Nat) (last : Int) (s : List UInt8) (acc : List V) {x : List V × List UInt8}, rdFlds ts f t m last s acc = some x → rdFlds ts g t m last s acc = some x
  | 0, _, _, _, _, e => by cases e
  | m + 1, last, s, acc, x, e => by
    unfold rdFlds at e ⊢
    cases hf : rdField f t s with
    | none => rw [hf] at e; cases e
    | some y =>
      rw [hf] at e
      rw [rdField_mono h t s hf]
      obtain ⟨⟨d, v⟩, r⟩ := y
      dsimp only at e ⊢
      split at e
      · cases e
      · rename_i hd
        rw [if_neg hd]
        cases r with
        | nil => exact e
        | cons c r =>
          dsimp only at e ⊢
          split at e
          · rename_i hc; rw [if_pos hc]; exact rdFlds_mono h t m _ r _ e
          · rename_i hc; rw [if_neg hc]; exact e
theorem rdTyped_mono {ts : List Ty} {f g : List UInt8 → List UInt8 → Option (V × List UInt8)} (h : ∀ k s x, f k s = some x → g k s = some x) (t : Ty) : ∀ (s : List UInt8) {x : V × List UInt8}, rdTyped ts f t s = some x → rdTyped ts g t s = some x
  | [], _, e => by cases e
  | c :: s, x, e => by
    unfold rdTyped at e ⊢
    dsimp only at e ⊢
    by_cases h82 : t.sort = 82
    · rw [if_pos h82] at e ⊢
      by_cases hc : c.toNat = 123
      · rw [if_pos hc] at e ⊢
        cases s with
        | nil => exact e
        | cons c' r =>
          dsimp only at e ⊢
          by_cases hc' : c'.toNat = 125
          · rw [if_pos hc'] at e ⊢; exact e
          · rw [if_neg hc'] at e ⊢
            cases hf : rdFlds ts f t ((c' :: r).length + 1) 0 (c' :: r) [] with
            | none => rw [hf] at e; cases e
            | some y => rw [hf] at e; rw [rdFlds_mono h t _ _ _ _ hf]; exact e
      · rw [if_neg hc] at e; cases e
    · rw [if_neg h82] at e ⊢
      by_cases h69 : t.sort = 69
      · rw [if_pos h69] at e ⊢; exact e
      · rw [if_neg h69] at e ⊢
        by_cases hc : c.toNat = 60
        · rw [if_pos hc] at e ⊢
          cases hf : rdField f t s with
          | none => rw [hf] at e; cases e
          | some y => rw [hf] at e; rw [rdField_mono h t s hf]; exact e
        · rw [if_neg hc] at e; cases e
theorem rdK_mono {ts : List Ty} {f g : List UInt8 → List UInt8 → Option (V × List UInt8)} (ih : ∀ k s x, f k s = some x → g k s = some x) : ∀ (k s : List UInt8) {x : V × List UInt8}, rdK ts f k s = some x → rdK ts g k s = some x
  | [], _, _, e => by cases e
  | c :: k, s, x, e => by
    unfold rdK at e ⊢
    dsimp only at e ⊢
    by_cases h91 : c.toNat = 91
    · rw [if_pos h91] at e ⊢
      cases s with
      | nil => exact e
      | cons d s' =>
        dsimp only at e ⊢
        by_cases hd : d.toNat = 91
        · rw [if_pos hd] at e ⊢
          cases s' with
          | nil => exact e
          | cons e' r =>
            dsimp only at e ⊢
            by_cases he : e'.toNat = 93
            · rw [if_pos he] at e ⊢; exact e
            · rw [if_neg he] at e ⊢
              cases hf : rdItems (f k) 20 (e' :: r) [] with
              | none => rw [hf] at e; cases e
              | some y => rw [hf] at e; rw [rdItems_mono (ih k) _ _ _ hf]; exact e
        · rw [if_neg hd] at e; cases e
    · rw [if_neg h91] at e ⊢
      by_cases h63 : c.toNat = 63
      · rw [if_pos h63] at e ⊢
        cases s with
        | nil => exact e
        | cons d s' =>
          dsimp only at e ⊢
          by_cases hd : d.toNat = 45
          · rw [if_pos hd] at e ⊢; exact e
          · rw [if_neg hd] at e ⊢
            by_cases hd2 : d.toNat = 43
            · rw [if_pos hd2] at e ⊢
              cases hf : f k s' with
              | none => rw [hf] at e; cases e
              | some y => rw [hf] at e; rw [ih k s' y hf]; exact e
            · rw [if_neg hd2] at e; cases e
      · rw [if_neg h63] at e ⊢
        cases hr : refT ts (c :: k) with
        | none => rw [hr] at e; exact e
        | some t => rw [hr] at e; exact rdTyped_mono ih t s e
theorem rd_mono {ts : List Ty} : ∀ (n : Nat) (k s : List UInt8) {x : V × List UInt8}, rd ts n k s = some x → rd ts (n + 1) k s = some x
  | 0, _, _, _, e => by cases e
  | n + 1, k, s, _, e => rdK_mono (fun k s _ e => rd_mono n k s e) k s e
theorem rd_le {ts : List Ty} {n m : Nat} (h : n ≤ m) {k s : List UInt8} {x : V × List UInt8} (e : rd ts n k s = some x) : rd ts m k s = some x := by
  induction m with
  | zero => have : n = 0 := by omega
            subst this; exact e
  | succ m ih =>
    by_cases hn : n = m + 1
    · subst hn; exact e
    · exact rd_mono m k s (ih (by omega))
end Go.E
/-! Vb -/
namespace Go.E
set_option maxRecDepth 20000
set_option maxHeartbeats 2000000
theorem V.deep_mem : ∀ {ks : List V} {v : V}, v ∈ ks → V.deep v ≤ V.deeps ks
  | [], _, h => by cases h
  | u :: ks, v, h => by
    rw [V.deeps]
    rcases List.mem_cons.1 h with rfl | h
    · exact Nat.le_max_left _ _
    · exact Nat.le_trans (V.deep_mem h) (Nat.le_max_right _ _)
theorem V.deeps_le : ∀ {ks : List V} {n : Nat}, (∀ v ∈ ks, V.deep v ≤ n) → V.deeps ks ≤ n
  | [], _, _ => by rw [V.deeps]; exact Nat.zero_le _
  | u :: ks, n, h => by
    rw [V.deeps]
    exact Nat.max_le.2 ⟨h u (.head _), V.deeps_le fun v hv => h v (.tail _ hv)⟩
theorem deep_nd {w : Nat} {x : List UInt8} {t : Int} {ks : List V} (h : ¬ w = 61) : V.deep (.nd w x t ks) = V.deeps ks + 1 := by rw [V.deep, if_neg h]
theorem deep_fld {t : Int} {v : V} : V.deep (.nd 61 [] t [v]) = V.deep v := by rw [V.deep, if_pos rfl, V.deeps, V.deeps, Nat.max_zero]
/-- What holds of each item read holds of all. -/
theorem rdItems_all {f : List UInt8 → Option (V × List UInt8)} {p : V → Prop} (h : ∀ s x, f s = some x → p x.1) : ∀ (m : Nat) (s : List UInt8) (acc : List V) {x : List V × List UInt8}, rdItems f m s acc = some x → (∀ v ∈ acc, p v) → ∀ v ∈ x.1, p v
  | 0, _, _, _, e, _ => by cases e
  | m + 1, s, acc, x, e, ha => by
    unfold rdItems at e
    cases hf : f s with
    | none => rw [hf] at e; cases e
    | some y =>
      rw [hf] at e
      have hy := h s y hf
      obtain ⟨v, r⟩ := y
      have ha' : ∀ u ∈ acc ++ [v], p u := fun u hu => by
        rcases List.mem_append.1 hu with hu | hu
        · exact ha u hu
        · simp only [List.mem_singleton] at hu; subst hu; exact hy
      cases r with
      | nil => cases e
      | cons c r =>
        dsimp only at e
        split at e
        · exact rdItems_all h m r _ e ha'
        · split at e
          · simp only [Option.some.injEq] at e; subst e; exact ha'
          · cases e
/-- Another way of reading that reads the same items. -/
theorem rdItems_loc {f g : List UInt8 → Option (V × List UInt8)} : ∀ (m : Nat) (s : List UInt8) (acc : List V) {x : List V × List UInt8}, rdItems f m s acc = some x → (∀ s y, f s = some y → y.1 ∈ x.1 → g s = some y) → rdItems g m s acc = some x ∧ ∀ v ∈ acc, v ∈ x.1
  | 0, _, _, _, e, _ => by cases e
  | m + 1, s, acc, x, e, h => by
    unfold rdItems at e ⊢
    cases hf : f s with
    | none => rw [hf] at e; cases e
    | some y =>
      rw [hf] at e
      have hy := h s y hf
      obtain ⟨v, r⟩ := y
      cases r with
      | nil => cases e
      | cons c r =>
        dsimp only at e hy
        split at e
        · rename_i hc
          obtain ⟨h1, h2⟩ := rdItems_loc m r _ e h
          rw [hy (h2 v (by simp))]
          dsimp only
          rw [if_pos hc]
          exact ⟨h1, fun u hu => h2 u (List.mem_append_left _ hu)⟩
        · rename_i hc
          split at e
          · rename_i hc2
            simp only [Option.some.injEq] at e; subst e
            rw [hy (by simp)]
            dsimp only
            rw [if_neg hc, if_pos hc2]
            exact ⟨rfl, fun u hu => List.mem_append_left _ hu⟩
          · cases e
theorem rdField_inv {f : List UInt8 → List UInt8 → Option (V × List UInt8)} {t : Ty} {s : List UInt8} {x : (Fld × V) × List UInt8} (e : rdField f t s = some x) : x.1.1 ∈ t.fields ∧ ∃ s', f x.1.1.kind s' = some (x.1.2, x.2) := by
  unfold rdField at e
  cases hn : rdNum 200 s with
  | none => rw [hn] at e; cases e
  | some y =>
    rw [hn] at e
    obtain ⟨n, r⟩ := y
    dsimp only at e
    cases hd : fldT t.fields n with
    | none => rw [hd] at e; cases e
    | some d =>
      rw [hd] at e
      cases r with
      | nil => cases e
      | cons c r' =>
        dsimp only at e
        by_cases hc : c.toNat = 61
        · rw [if_pos hc] at e
          cases hf : f d.kind r' with
          | none => rw [hf] at e; cases e
          | some y =>
            rw [hf] at e
            simp only [Option.map_some, Option.some.injEq] at e
            subst e
            exact ⟨List.mem_of_find?_eq_some hd, r', hf⟩
        · rw [if_neg hc] at e; cases e
theorem rdField_loc {f g : List UInt8 → List UInt8 → Option (V × List UInt8)} {t : Ty} {s : List UInt8} {x : (Fld × V) × List UInt8} (e : rdField f t s = some x) (h : ∀ k s y, f k s = some y → y.1 = x.1.2 → g k s = some y) : rdField g t s = some x := by
  unfold rdField at e ⊢
  cases hn : rdNum 200 s with
  | none => rw [hn] at e; cases e
  | some y =>
    rw [hn] at e
    obtain ⟨n, r⟩ := y
    dsimp only at e ⊢
    cases hd : fldT t.fields n with
    | none => rw [hd] at e; cases e
    | some d =>
      rw [hd] at e
      cases r with
      | nil => cases e
      | cons c r' =>
        dsimp only at e ⊢
        by_cases hc : c.toNat = 61
        · rw [if_pos hc] at e ⊢
          cases hf : f d.kind r' with
          | none => rw [hf] at e; cases e
          | some y =>
            rw [hf] at e
            simp only [Option.map_some, Option.some.injEq] at e
            subst e
            rw [h _ _ _ hf rfl]; rfl
        · rw [if_neg hc] at e; cases e
theorem rdFlds_all {ts : List Ty} {f : List UInt8 → List UInt8 → Option (V × List UInt8)} {t : Ty} {p : V → Prop} (h : ∀ k s x, f k s = some x → ∀ n, p (.nd 61 [] n [x.1])) : ∀ (m : Nat) (last : Int) (s : List UInt8) (acc : List V) {x : List V × List UInt8}, rdFlds ts f t m last s acc = some x → (∀ v ∈ acc, p v) → ∀ v ∈ x.1, p v
  | 0, _, _, _, _, e, _ => by cases e
  | m + 1, last, s, acc, x, e, ha => by
    unfold rdFlds at e
    cases hf : rdField f t s with
    | none => rw [hf] at e; cases e
    | some y =>
      rw [hf] at e
      obtain ⟨_, s', hs'⟩ := rdField_inv hf
      have hy := h _ s' _ hs'
      obtain ⟨⟨d, v⟩, r⟩ := y
      dsimp only at e hy
      have ha' : ∀ u ∈ acc ++ [V.nd 61 [] d.tag [v]], p u := fun u hu => by
        rcases List.mem_append.1 hu with hu | hu
        · exact ha u hu
        · simp only [List.mem_singleton] at hu; subst hu; exact hy d.tag
      split at e
      · cases e
      · cases r with
        | nil => cases e
        | cons c r =>
          dsimp only at e
          split at e
          · exact rdFlds_all h m _ r _ e ha'
          · split at e
            · simp only [Option.some.injEq] at e; subst e; exact ha'
            · cases e
theorem rdFlds_loc {ts : List Ty} {f g : List UInt8 → List UInt8 → Option (V × List UInt8)} {t : Ty} : ∀ (m : Nat) (last : Int) (s : List UInt8) (acc : List V) {x : List V × List UInt8}, rdFlds ts f t m last s acc = some x → (∀ k s y, f k s = some y → (∃ n, V.nd 61 [] n [y.1] ∈ x.1) → g k s = some y) → rdFlds ts g t m last s acc = some x ∧ ∀ v ∈ acc, v ∈ x.1
  | 0, _, _, _, _, e, _ => by cases e
  | m + 1, last, s, acc, x, e, h => by
    unfold rdFlds at e ⊢
    cases hf : rdField f t s with
    | none => rw [hf] at e; cases e
    | some y =>
      rw [hf] at e
      obtain ⟨⟨d, v⟩, r⟩ := y
      dsimp only at e
      split at e
      · cases e
      · rename_i hd
        cases r with
        | nil => cases e
        | cons c r =>
          dsimp only at e
          split at e
          · rename_i hc
            obtain ⟨h1, h2⟩ := rdFlds_loc m _ r _ e h
            have hg := rdField_loc (g := g) hf (fun k s y hy e2 => h k s y hy ⟨d.tag, by rw [e2]; exact h2 _ (by simp)⟩)
            rw [hg]
            dsimp only
            rw [if_neg hd, if_pos hc]
            exact ⟨h1, fun u hu => h2 u (List.mem_append_left _ hu)⟩
          · rename_i hc
            split at e
            · rename_i hc2
              simp only [Option.some.injEq] at e; subst e
              have hg := rdField_loc (g := g) hf (fun k s y hy e2 => h k s y hy ⟨d.tag, by rw [e2]; simp⟩)
              rw [hg]
              dsimp only
              rw [if_neg hd, if_neg hc, if_pos hc2]
              exact ⟨rfl, fun u hu => List.mem_append_left _ hu⟩
            · cases e
end Go.E
/-! Vc -/
namespace Go.E
set_option maxRecDepth 20000
set_option maxHeartbeats 2000000
/-- A way of reading that reads the parts alike reads the whole alike. -/
theorem rdK_loc {ts : List Ty} {f g : List UInt8 → List UInt8 → Option (V × List UInt8)} : ∀ (k s : List UInt8) {x : V × List UInt8}, rdK ts f k s = some x → ∃ w tx tg ks, x.1 = .nd w tx tg ks ∧ ¬ w = 61 ∧ ((∀ k s y, f k s = some y → V.deep y.1 ≤ V.deeps ks → g k s = some y) → rdK ts g k s = some x) ∧ ∀ n, (∀ k s y, f k s = some y → V.deep y.1 ≤ n) → V.deeps ks ≤ n
  | [], _, _, e => by cases e
  | c :: k, s, x, e => by
    unfold rdK at e ⊢
    dsimp only at e ⊢
    have leaf : ∀ {w : Nat} {tx : List UInt8} {tg : Int} {q : Prop}, x.1 = .nd w tx tg [] → ¬ w = 61 → q → ∃ w tx tg ks, x.1 = .nd w tx tg ks ∧ ¬ w = 61 ∧ ((∀ k s y, f k s = some y → V.deep y.1 ≤ V.deeps ks → g k s = some y) → q) ∧ ∀ n, (∀ k s y, f k s = some y → V.deep y.1 ≤ n) → V.deeps ks ≤ n :=
      fun h1 h2 h3 => ⟨_, _, _, [], h1, h2, fun _ => h3, fun n _ => by rw [V.deeps]; exact Nat.zero_le n⟩
    by_cases h91 : c.toNat = 91
    · simp only [if_pos h91] at e ⊢
      cases s with
      | nil => cases e
      | cons d s' =>
        dsimp only at e ⊢
        by_cases hd : d.toNat = 91
        · simp only [if_pos hd] at e ⊢
          cases s' with
          | nil => cases e
          | cons e' r =>
            dsimp only at e ⊢
            by_cases he : e'.toNat = 93
            · simp only [if_pos he] at e ⊢
              have e2 := e
              simp only [Option.some.injEq] at e2; subst e2
              exact leaf rfl (by decide) rfl
            · simp only [if_neg he] at e ⊢
              cases hf : rdItems (f k) 20 (e' :: r) [] with
              | none => rw [hf] at e; cases e
              | some y =>
                rw [hf] at e
                simp only [Option.map_some, Option.some.injEq] at e; subst e
                refine ⟨91, [], 0, y.1, rfl, by decide, fun h => ?_, fun n h => ?_⟩
                · rw [(rdItems_loc (g := g k) _ _ _ hf fun s u hu hm => h k s u hu (V.deep_mem hm)).1]; rfl
                · exact V.deeps_le fun v hv => rdItems_all (p := fun v => V.deep v ≤ n) (fun s u hu => h k s u hu) _ _ _ hf (by simp) v hv
        · simp only [if_neg hd] at e; cases e
    · simp only [if_neg h91] at e ⊢
      by_cases h63 : c.toNat = 63
      · simp only [if_pos h63] at e ⊢
        cases s with
        | nil => cases e
        | cons d s' =>
          dsimp only at e ⊢
          by_cases hd : d.toNat = 45
          · simp only [if_pos hd] at e ⊢
            have e2 := e
            simp only [Option.some.injEq] at e2; subst e2
            exact leaf rfl (by decide) rfl
          · simp only [if_neg hd] at e ⊢
            by_cases hd2 : d.toNat = 43
            · simp only [if_pos hd2] at e ⊢
              cases hf : f k s' with
              | none => rw [hf] at e; cases e
              | some y =>
                rw [hf] at e
                simp only [Option.map_some, Option.some.injEq] at e; subst e
                refine ⟨63, [], 0, [y.1], rfl, by decide, fun h => ?_, fun n h => ?_⟩
                · rw [h k s' y hf (V.deep_mem (by simp))]; rfl
                · exact V.deeps_le fun v hv => by simp only [List.mem_singleton] at hv; subst hv; exact h k s' y hf
            · simp only [if_neg hd2] at e; cases e
      · simp only [if_neg h63] at e ⊢
        cases hr : refT ts (c :: k) with
        | none =>
          rw [hr] at e
          dsimp only at e ⊢
          by_cases h1 : c.toNat = 110
          · simp only [if_pos h1] at e ⊢
            cases hn : rdNum 999999 s with
            | none => rw [hn] at e; cases e
            | some y =>
              rw [hn] at e
              have e2 := e
              simp only [Option.map_some, Option.some.injEq] at e2; subst e2
              exact leaf rfl (by decide) rfl
          · simp only [if_neg h1] at e ⊢
            by_cases h2 : c.toNat = 116
            · simp only [if_pos h2] at e ⊢
              refine leaf (w := 116) (tx := x.1.text) (tg := 0) ?_ (by decide) e
              unfold rdQuote at e
              split at e
              · cases e
              · split at e
                · split at e
                  · split at e
                    · simp only [Option.some.injEq] at e; subst e; rfl
                    · cases e
                  · cases e
                · cases e
            · simp only [if_neg h2] at e ⊢
              by_cases h3 : c.toNat = 102
              · simp only [if_pos h3] at e ⊢
                refine leaf (w := 102) (tx := x.1.text) (tg := 0) ?_ (by decide) e
                unfold rdFlag at e
                split at e
                · simp only [Option.some.injEq] at e; subst e; rfl
                · split at e
                  · simp only [Option.some.injEq] at e; subst e; rfl
                  · cases e
              · simp only [if_neg h3] at e; cases e
        | some t =>
          rw [hr] at e
          dsimp only at e ⊢
          unfold rdTyped at e ⊢
          cases s with
          | nil => cases e
          | cons d s =>
            dsimp only at e ⊢
            by_cases h82 : t.sort = 82
            · simp only [if_pos h82] at e ⊢
              by_cases hd : d.toNat = 123
              · simp only [if_pos hd] at e ⊢
                cases s with
                | nil => cases e
                | cons d' r =>
                  dsimp only at e ⊢
                  by_cases hd' : d'.toNat = 125
                  · simp only [if_pos hd'] at e ⊢
                    have e2 := e
                    simp only [Option.some.injEq] at e2; subst e2
                    exact leaf rfl (by decide) rfl
                  · simp only [if_neg hd'] at e ⊢
                    cases hf : rdFlds ts f t ((d' :: r).length + 1) 0 (d' :: r) [] with
                    | none => rw [hf] at e; cases e
                    | some y =>
                      rw [hf] at e
                      simp only [Option.map_some, Option.some.injEq] at e; subst e
                      refine ⟨82, [], 0, y.1, rfl, by decide, fun h => ?_, fun n h => ?_⟩
                      · rw [(rdFlds_loc (g := g) _ _ _ _ hf fun k s u hu hm => h k s u hu (by obtain ⟨n, hm⟩ := hm; have := V.deep_mem hm; rwa [deep_fld] at this)).1]; rfl
                      · exact V.deeps_le fun v hv => rdFlds_all (p := fun v => V.deep v ≤ n) (fun k s u hu m => by rw [deep_fld]; exact h k s u hu) _ _ _ _ hf (by simp) v hv
              · simp only [if_neg hd] at e; cases e
            · simp only [if_neg h82] at e ⊢
              by_cases h69 : t.sort = 69
              · simp only [if_pos h69] at e ⊢
                refine leaf (w := 69) (tx := []) (tg := x.1.tag) ?_ (by decide) e
                split at e
                · split at e
                  · cases e
                  · split at e
                    · simp only [Option.some.injEq] at e; subst e; rfl
                    · cases e
                · cases e
              · simp only [if_neg h69] at e ⊢
                by_cases hd : d.toNat = 60
                · simp only [if_pos hd] at e ⊢
                  cases hf : rdField f t s with
                  | none => rw [hf] at e; cases e
                  | some y =>
                    rw [hf] at e
                    obtain ⟨⟨fd, v⟩, r⟩ := y
                    cases r with
                    | nil => cases e
                    | cons c' r =>
                      dsimp only at e
                      by_cases hc' : c'.toNat = 62
                      · simp only [if_pos hc', Option.some.injEq] at e; subst e
                        refine ⟨85, [], fd.tag, [v], rfl, by decide, fun h => ?_, fun n h => ?_⟩
                        · rw [rdField_loc (g := g) hf fun k s u hu e2 => h k s u hu (by rw [e2]; exact V.deep_mem (by simp))]
                          dsimp only
                          rw [if_pos hc']
                        · obtain ⟨_, s', hs'⟩ := rdField_inv hf
                          exact V.deeps_le fun u hu => by simp only [List.mem_singleton] at hu; subst hu; exact h _ _ _ hs'
                      · simp only [if_neg hc'] at e; cases e
                · simp only [if_neg hd] at e; cases e
theorem rd_deep_le {ts : List Ty} : ∀ (n : Nat) (k s : List UInt8) (x : V × List UInt8), rd ts n k s = some x → V.deep x.1 ≤ n
  | 0, _, _, _, e => by cases e
  | n + 1, k, s, x, e => by
    obtain ⟨w, tx, tg, ks, h1, h2, _, h4⟩ := rdK_loc (g := rd ts n) k s e
    rw [h1, deep_nd h2]
    have := h4 n fun k s y hy => rd_deep_le n k s y hy
    omega
/-- Read at any depth that its own does not pass. -/
theorem rd_at {ts : List Ty} : ∀ (n m : Nat) (k s : List UInt8) (x : V × List UInt8), rd ts n k s = some x → V.deep x.1 ≤ m → rd ts m k s = some x
  | 0, _, _, _, _, e, _ => by cases e
  | n + 1, m, k, s, x, e, hm => by
    obtain ⟨w, tx, tg, ks, h1, h2, h3, _⟩ := rdK_loc (g := rd ts (m - 1)) k s e
    rw [h1, deep_nd h2] at hm
    obtain ⟨m, rfl⟩ : ∃ j, m = j + 1 := ⟨m - 1, by omega⟩
    exact h3 fun k s y hy hd => rd_at n m k s y hy (by omega)
end Go.E
/-! Vd -/
namespace Go.E
set_option maxRecDepth 20000
set_option maxHeartbeats 2000000
theorem u8_eq {c : UInt8} {n : Nat} (h : c.toNat = n) (hn : n < 256) : c = UInt8.ofNat n := by
  apply UInt8.toNat_inj.1; rw [h, UInt8.toNat_ofNat']; omega
theorem rdNum_out {top : Int} {s r : List UInt8} {n : Int} (h : rdNum top s = some (n, r)) : s = decI n ++ r := by
  unfold rdNum at h
  cases hn : numOf (s.takeWhile isDg) top with
  | none => rw [hn] at h; cases h
  | some q =>
    rw [hn] at h
    simp only [Option.map_some, Option.some.injEq, Prod.mk.injEq] at h
    obtain ⟨rfl, rfl⟩ := h
    rw [← (numOf_le hn).2.1, List.takeWhile_append_dropWhile]
theorem rdItems_out {f : List UInt8 → Option (V × List UInt8)} (h : ∀ s y, f s = some y → s = y.1.out ++ y.2) : ∀ (m : Nat) (s : List UInt8) (acc : List V) {x : List V × List UInt8}, rdItems f m s acc = some x → ∃ vs, vs ≠ [] ∧ x.1 = acc ++ vs ∧ s = joinB 44 (vs.map V.out) ++ 93 :: x.2
  | 0, _, _, _, e => by cases e
  | m + 1, s, acc, x, e => by
    unfold rdItems at e
    cases hf : f s with
    | none => rw [hf] at e; cases e
    | some y =>
      rw [hf] at e
      have hy := h s y hf
      obtain ⟨v, r⟩ := y
      cases r with
      | nil => cases e
      | cons c r =>
        dsimp only at e hy
        split at e
        · rename_i hc
          obtain ⟨vs, h1, h2, h3⟩ := rdItems_out h m r _ e
          have hc2 := u8_eq hc (by decide)
          refine ⟨v :: vs, by simp, by rw [h2]; simp, ?_⟩
          rw [hy, h3, List.map_cons, joinB_cons _ _ (by simpa using h1), hc2]
          simp
        · split at e
          · rename_i hc2
            have hc3 := u8_eq hc2 (by decide)
            simp only [Option.some.injEq] at e; subst e
            exact ⟨[v], by simp, rfl, by rw [hy, hc3]; rfl⟩
          · cases e
theorem out_fld {t : Int} {v : V} : V.out (.nd 61 [] t [v]) = decI t ++ 61 :: v.out := by
  rw [V.out, V.outs, V.outs]; simp [outW, joinB]
theorem rdField_out {f : List UInt8 → List UInt8 → Option (V × List UInt8)} (h : ∀ k s y, f k s = some y → s = y.1.out ++ y.2) {t : Ty} {s : List UInt8} {x : (Fld × V) × List UInt8} (e : rdField f t s = some x) : s = decI x.1.1.tag ++ 61 :: (x.1.2.out ++ x.2) := by
  unfold rdField at e
  cases hn : rdNum 200 s with
  | none => rw [hn] at e; cases e
  | some y =>
    rw [hn] at e
    obtain ⟨n, r⟩ := y
    have h1 := rdNum_out hn
    dsimp only at e
    cases hd : fldT t.fields n with
    | none => rw [hd] at e; cases e
    | some d =>
      rw [hd] at e
      have h2 : d.tag = n := by have := List.find?_some hd; simpa using this
      cases r with
      | nil => cases e
      | cons c r' =>
        dsimp only at e
        by_cases hc : c.toNat = 61
        · rw [if_pos hc] at e
          cases hf : f d.kind r' with
          | none => rw [hf] at e; cases e
          | some y =>
            rw [hf] at e
            simp only [Option.map_some, Option.some.injEq] at e
            subst e
            have h3 := h _ _ _ hf
            dsimp only
            rw [h1, h2, h3, u8_eq hc (by decide)]; rfl
        · rw [if_neg hc] at e; cases e
theorem rdFlds_out {ts : List Ty} {f : List UInt8 → List UInt8 → Option (V × List UInt8)} (h : ∀ k s y, f k s = some y → s = y.1.out ++ y.2) {t : Ty} : ∀ (m : Nat) (last : Int) (s : List UInt8) (acc : List V) {x : List V × List UInt8}, rdFlds ts f t m last s acc = some x → ∃ vs, vs ≠ [] ∧ x.1 = acc ++ vs ∧ s = joinB 44 (vs.map V.out) ++ 125 :: x.2
  | 0, _, _, _, _, e => by cases e
  | m + 1, last, s, acc, x, e => by
    unfold rdFlds at e
    cases hf : rdField f t s with
    | none => rw [hf] at e; cases e
    | some y =>
      rw [hf] at e
      have hy := rdField_out h hf
      obtain ⟨⟨d, v⟩, r⟩ := y
      dsimp only at e hy
      split at e
      · cases e
      · cases r with
        | nil => cases e
        | cons c r =>
          dsimp only at e
          split at e
          · rename_i hc
            obtain ⟨vs, h1, h2, h3⟩ := rdFlds_out h m _ r _ e
            have hc2 := u8_eq hc (by decide)
            refine ⟨V.nd 61 [] d.tag [v] :: vs, by simp, by rw [h2]; simp, ?_⟩
            rw [hy, h3, List.map_cons, joinB_cons _ _ (by simpa using h1), hc2, out_fld]
            simp
          · split at e
            · rename_i hc2
              have hc3 := u8_eq hc2 (by decide)
              simp only [Option.some.injEq] at e; subst e
              exact ⟨[V.nd 61 [] d.tag [v]], by simp, rfl, by rw [hy, hc3]; simp [joinB, out_fld]⟩
            · cases e
end Go.E
/-! Ve -/
namespace Go.E
set_option maxRecDepth 20000
set_option maxHeartbeats 2000000
theorem cut1_join {k : Nat} {c : UInt8} (hc : c.toNat = k) : ∀ {s x r : List UInt8}, cut1 k s = (x, r, true) → s = x ++ c :: r
  | [], _, _, h => by cases h
  | d :: s, x, r, h => by
    unfold cut1 at h
    split at h
    · rename_i hd
      simp only [Prod.mk.injEq, and_true] at h
      obtain ⟨rfl, rfl⟩ := h
      have : d = c := UInt8.toNat_inj.1 (by rw [hd, hc])
      rw [this]; rfl
    · simp only [Prod.mk.injEq] at h
      obtain ⟨h1, h2, h3⟩ := h
      have ih := cut1_join hc (s := s) (x := (cut1 k s).1) (r := (cut1 k s).2.1) (by rw [← h3])
      rw [← h1, ← h2, List.cons_append, ← ih]
theorem pre_out {p s : List UInt8} (h : p.isPrefixOf s = true) : s = p ++ s.drop p.length := by
  rw [List.isPrefixOf_iff_prefix] at h
  obtain ⟨t, rfl⟩ := h
  simp
theorem rdQuote_out {s : List UInt8} {x : V × List UInt8} (e : rdQuote s = some x) : s = x.1.out ++ x.2 := by
  unfold rdQuote at e
  cases s with
  | nil => cases e
  | cons c s =>
    dsimp only at e
    by_cases hc : c.toNat = 39
    · rw [if_pos hc] at e
      rcases hq : cut1 39 s with ⟨y, r, b⟩
      rw [hq] at e
      cases b with
      | false => cases e
      | true =>
        dsimp only at e
        split at e
        · simp only [Option.some.injEq] at e; subst e
          have h1 := cut1_join (c := 39) rfl hq
          rw [h1, u8_eq hc (by decide)]
          simp [V.out, outW]
        · cases e
    · rw [if_neg hc] at e; cases e
theorem rdFlag_out {s : List UInt8} {x : V × List UInt8} (e : rdFlag s = some x) : s = x.1.out ++ x.2 := by
  unfold rdFlag at e
  split at e
  · rename_i h
    simp only [Option.some.injEq] at e; subst e
    have := pre_out h
    simpa [V.out, outW] using this
  · split at e
    · rename_i h
      simp only [Option.some.injEq] at e; subst e
      have := pre_out h
      simpa [V.out, outW] using this
    · cases e
theorem out_list {ks : List V} {r : List UInt8} : V.out (.nd 91 [] 0 ks) ++ r = 91 :: (joinB 44 (ks.map V.out) ++ 93 :: r) := by
  rw [V.out, V.outs_map]; simp [outW]
theorem out_rec {ks : List V} {r : List UInt8} : V.out (.nd 82 [] 0 ks) ++ r = 123 :: (joinB 44 (ks.map V.out) ++ 125 :: r) := by
  rw [V.out, V.outs_map]; simp [outW]
theorem out_opt {v : V} {r : List UInt8} : V.out (.nd 63 [] 0 [v]) ++ r = 43 :: (v.out ++ r) := by
  rw [V.out, V.outs_map]; simp [outW, joinB]
theorem out_uni {v : V} {n : Int} {r : List UInt8} : V.out (.nd 85 [] n [v]) ++ r = 60 :: (decI n ++ 61 :: (v.out ++ 62 :: r)) := by
  rw [V.out, V.outs_map]; simp [outW, joinB]
theorem rdK_out {ts : List Ty} {f : List UInt8 → List UInt8 → Option (V × List UInt8)} (h : ∀ k s y, f k s = some y → s = y.1.out ++ y.2) : ∀ (k s : List UInt8) {x : V × List UInt8}, rdK ts f k s = some x → s = x.1.out ++ x.2
  | [], _, _, e => by cases e
  | c :: k, s, x, e => by
    unfold rdK at e
    dsimp only at e
    by_cases h91 : c.toNat = 91
    · simp only [if_pos h91] at e
      cases s with
      | nil => cases e
      | cons d s' =>
        dsimp only at e
        by_cases hd : d.toNat = 91
        · simp only [if_pos hd] at e
          cases s' with
          | nil => cases e
          | cons e' r =>
            dsimp only at e
            by_cases he : e'.toNat = 93
            · simp only [if_pos he, Option.some.injEq] at e; subst e
              rw [out_list, u8_eq hd (by decide), u8_eq he (by decide)]; rfl
            · simp only [if_neg he] at e
              cases hf : rdItems (f k) 20 (e' :: r) [] with
              | none => rw [hf] at e; cases e
              | some y =>
                rw [hf] at e
                simp only [Option.map_some, Option.some.injEq] at e; subst e
                obtain ⟨vs, _, h2, h3⟩ := rdItems_out (h k) _ _ _ hf
                rw [out_list, h2, h3, u8_eq hd (by decide)]; rfl
        · simp only [if_neg hd] at e; cases e
    · simp only [if_neg h91] at e
      by_cases h63 : c.toNat = 63
      · simp only [if_pos h63] at e
        cases s with
        | nil => cases e
        | cons d s' =>
          dsimp only at e
          by_cases hd : d.toNat = 45
          · simp only [if_pos hd, Option.some.injEq] at e; subst e
            rw [u8_eq hd (by decide)]; simp [V.out, outW]
          · simp only [if_neg hd] at e
            by_cases hd2 : d.toNat = 43
            · simp only [if_pos hd2] at e
              cases hf : f k s' with
              | none => rw [hf] at e; cases e
              | some y =>
                rw [hf] at e
                simp only [Option.map_some, Option.some.injEq] at e; subst e
                rw [out_opt, ← h k s' y hf, u8_eq hd2 (by decide)]; rfl
            · simp only [if_neg hd2] at e; cases e
      · simp only [if_neg h63] at e
        cases hr : refT ts (c :: k) with
        | none =>
          rw [hr] at e
          dsimp only at e
          by_cases h1 : c.toNat = 110
          · simp only [if_pos h1] at e
            cases hn : rdNum 999999 s with
            | none => rw [hn] at e; cases e
            | some y =>
              rw [hn] at e
              simp only [Option.map_some, Option.some.injEq] at e; subst e
              rw [rdNum_out hn]; simp [V.out, outW]
          · simp only [if_neg h1] at e
            by_cases h2 : c.toNat = 116
            · simp only [if_pos h2] at e; exact rdQuote_out e
            · simp only [if_neg h2] at e
              by_cases h3 : c.toNat = 102
              · simp only [if_pos h3] at e; exact rdFlag_out e
              · simp only [if_neg h3] at e; cases e
        | some t =>
          rw [hr] at e
          dsimp only at e
          unfold rdTyped at e
          cases s with
          | nil => cases e
          | cons d s =>
            dsimp only at e
            by_cases h82 : t.sort = 82
            · simp only [if_pos h82] at e
              by_cases hd : d.toNat = 123
              · simp only [if_pos hd] at e
                cases s with
                | nil => cases e
                | cons d' r =>
                  dsimp only at e
                  by_cases hd' : d'.toNat = 125
                  · simp only [if_pos hd', Option.some.injEq] at e; subst e
                    rw [out_rec, u8_eq hd (by decide), u8_eq hd' (by decide)]; rfl
                  · simp only [if_neg hd'] at e
                    cases hf : rdFlds ts f t ((d' :: r).length + 1) 0 (d' :: r) [] with
                    | none => rw [hf] at e; cases e
                    | some y =>
                      rw [hf] at e
                      simp only [Option.map_some, Option.some.injEq] at e; subst e
                      obtain ⟨vs, _, h2, h3⟩ := rdFlds_out h _ _ _ _ hf
                      rw [out_rec, h2, h3, u8_eq hd (by decide)]; rfl
              · simp only [if_neg hd] at e; cases e
            · simp only [if_neg h82] at e
              by_cases h69 : t.sort = 69
              · simp only [if_pos h69] at e
                by_cases hd : d.toNat = 35
                · simp only [if_pos hd] at e
                  cases hn : rdNum 200 s with
                  | none => rw [hn] at e; cases e
                  | some y =>
                    rw [hn] at e
                    obtain ⟨n, r⟩ := y
                    dsimp only at e
                    split at e
                    · simp only [Option.some.injEq] at e; subst e
                      rw [rdNum_out hn, u8_eq hd (by decide)]; simp [V.out, outW]
                    · cases e
                · simp only [if_neg hd] at e; cases e
              · simp only [if_neg h69] at e
                by_cases hd : d.toNat = 60
                · simp only [if_pos hd] at e
                  cases hf : rdField f t s with
                  | none => rw [hf] at e; cases e
                  | some y =>
                    rw [hf] at e
                    have h3 := rdField_out h hf
                    obtain ⟨⟨fd, v⟩, r⟩ := y
                    cases r with
                    | nil => cases e
                    | cons c' r =>
                      dsimp only at e h3
                      by_cases hc' : c'.toNat = 62
                      · simp only [if_pos hc', Option.some.injEq] at e; subst e
                        rw [out_uni, h3, u8_eq hd (by decide), u8_eq hc' (by decide)]; rfl
                      · simp only [if_neg hc'] at e; cases e
                · simp only [if_neg hd] at e; cases e
/-- A value's text is what was read. -/
theorem rd_out {ts : List Ty} : ∀ (n : Nat) (k s : List UInt8) (x : V × List UInt8), rd ts n k s = some x → s = x.1.out ++ x.2
  | 0, _, _, _, e => by cases e
  | n + 1, k, s, x, e => rdK_out (fun k s y hy => rd_out n k s y hy) k s e
theorem valOf_out {ts : List Ty} {k s : List UInt8} {v : V} (h : valOf ts k s = some v) : v.out = s ∧ s.length ≤ 400 ∧ V.deep v ≤ 12 := by
  unfold valOf at h
  split at h
  · rename_i hl
    split at h
    · rename_i w hw
      simp only [Option.some.injEq] at h; subst h
      have h1 := rd_out _ _ _ _ hw
      have h2 := rd_deep_le _ _ _ _ hw
      simp only [List.append_nil] at h1
      exact ⟨h1.symm, hl, h2⟩
    · cases h
  · cases h
end Go.E
/-! Wa -/
namespace Go.E
set_option maxRecDepth 20000
set_option maxHeartbeats 2000000
inductive RdK (ts : List Ty) (f : List UInt8 → List UInt8 → Option (V × List UInt8)) : List UInt8 → List UInt8 → V → List UInt8 → Prop
  | lst0 (k r : List UInt8) : RdK ts f (91 :: k) (91 :: 93 :: r) (.nd 91 [] 0 []) r
  | lst (k s r : List UInt8) (vs : List V) : rdItems (f k) 20 s [] = some (vs, r) → RdK ts f (91 :: k) (91 :: s) (.nd 91 [] 0 vs) r
  | non (k r : List UInt8) : RdK ts f (63 :: k) (45 :: r) (.nd 63 [] 0 []) r
  | opt (k s r : List UInt8) (v : V) : f k s = some (v, r) → RdK ts f (63 :: k) (43 :: s) (.nd 63 [] 0 [v]) r
  | num (k s r : List UInt8) (n : Int) : refT ts (110 :: k) = none → rdNum 999999 s = some (n, r) → RdK ts f (110 :: k) s (.nd 110 (decI n) 0 []) r
  | txt (k s r : List UInt8) (v : V) : refT ts (116 :: k) = none → rdQuote s = some (v, r) → RdK ts f (116 :: k) s v r
  | flg (k s r : List UInt8) (v : V) : refT ts (102 :: k) = none → rdFlag s = some (v, r) → RdK ts f (102 :: k) s v r
  | recd0 (k r : List UInt8) (t : Ty) : refT ts k = some t → t.sort = 82 → RdK ts f k (123 :: 125 :: r) (.nd 82 [] 0 []) r
  | recd (k s r : List UInt8) (t : Ty) (vs : List V) : refT ts k = some t → t.sort = 82 → rdFlds ts f t (s.length + 1) 0 s [] = some (vs, r) → RdK ts f k (123 :: s) (.nd 82 [] 0 vs) r
  | enm (k s r : List UInt8) (t : Ty) (n : Int) : refT ts k = some t → t.sort = 69 → rdNum 200 s = some (n, r) → (fldT t.fields n).isSome = true → RdK ts f k (35 :: s) (.nd 69 [] n []) r
  | uni (k s r : List UInt8) (t : Ty) (d : Fld) (v : V) : refT ts k = some t → t.sort ≠ 82 → t.sort ≠ 69 → rdField f t s = some ((d, v), 62 :: r) → RdK ts f k (60 :: s) (.nd 85 [] d.tag [v]) r
theorem rdK_inv {ts : List Ty} {f : List UInt8 → List UInt8 → Option (V × List UInt8)} : ∀ (k s : List UInt8) {x : V × List UInt8}, rdK ts f k s = some x → RdK ts f k s x.1 x.2
  | [], _, _, e => by cases e
  | c :: k, s, x, e => by
    unfold rdK at e
    dsimp only at e
    by_cases h91 : c.toNat = 91
    · simp only [if_pos h91] at e
      obtain rfl := u8_eq h91 (by decide)
      cases s with
      | nil => cases e
      | cons d s' =>
        dsimp only at e
        by_cases hd : d.toNat = 91
        · simp only [if_pos hd] at e
          obtain rfl := u8_eq hd (by decide)
          cases s' with
          | nil => cases e
          | cons e' r =>
            dsimp only at e
            by_cases he : e'.toNat = 93
            · simp only [if_pos he, Option.some.injEq] at e; subst e
              obtain rfl := u8_eq he (by decide)
              exact .lst0 _ _
            · simp only [if_neg he] at e
              cases hf : rdItems (f k) 20 (e' :: r) [] with
              | none => rw [hf] at e; cases e
              | some y =>
                rw [hf] at e
                simp only [Option.map_some, Option.some.injEq] at e; subst e
                exact .lst _ _ _ _ hf
        · simp only [if_neg hd] at e; cases e
    · simp only [if_neg h91] at e
      by_cases h63 : c.toNat = 63
      · simp only [if_pos h63] at e
        obtain rfl := u8_eq h63 (by decide)
        cases s with
        | nil => cases e
        | cons d s' =>
          dsimp only at e
          by_cases hd : d.toNat = 45
          · simp only [if_pos hd, Option.some.injEq] at e; subst e
            obtain rfl := u8_eq hd (by decide)
            exact .non _ _
          · simp only [if_neg hd] at e
            by_cases hd2 : d.toNat = 43
            · simp only [if_pos hd2] at e
              obtain rfl := u8_eq hd2 (by decide)
              cases hf : f k s' with
              | none => rw [hf] at e; cases e
              | some y =>
                rw [hf] at e
                simp only [Option.map_some, Option.some.injEq] at e; subst e
                exact .opt _ _ _ _ hf
            · simp only [if_neg hd2] at e; cases e
      · simp only [if_neg h63] at e
        cases hr : refT ts (c :: k) with
        | none =>
          rw [hr] at e
          dsimp only at e
          by_cases h1 : c.toNat = 110
          · simp only [if_pos h1] at e
            obtain rfl := u8_eq h1 (by decide)
            cases hn : rdNum 999999 s with
            | none => rw [hn] at e; cases e
            | some y =>
              rw [hn] at e
              simp only [Option.map_some, Option.some.injEq] at e; subst e
              exact .num _ _ _ _ hr hn
          · simp only [if_neg h1] at e
            by_cases h2 : c.toNat = 116
            · simp only [if_pos h2] at e
              obtain rfl := u8_eq h2 (by decide)
              exact .txt _ _ _ _ hr e
            · simp only [if_neg h2] at e
              by_cases h3 : c.toNat = 102
              · simp only [if_pos h3] at e
                obtain rfl := u8_eq h3 (by decide)
                exact .flg _ _ _ _ hr e
              · simp only [if_neg h3] at e; cases e
        | some t =>
          rw [hr] at e
          dsimp only at e
          unfold rdTyped at e
          cases s with
          | nil => cases e
          | cons d s =>
            dsimp only at e
            by_cases h82 : t.sort = 82
            · simp only [if_pos h82] at e
              by_cases hd : d.toNat = 123
              · simp only [if_pos hd] at e
                obtain rfl := u8_eq hd (by decide)
                cases s with
                | nil => cases e
                | cons d' r =>
                  dsimp only at e
                  by_cases hd' : d'.toNat = 125
                  · simp only [if_pos hd', Option.some.injEq] at e; subst e
                    obtain rfl := u8_eq hd' (by decide)
                    exact .recd0 _ _ t hr h82
                  · simp only [if_neg hd'] at e
                    cases hf : rdFlds ts f t ((d' :: r).length + 1) 0 (d' :: r) [] with
                    | none => rw [hf] at e; cases e
                    | some y =>
                      rw [hf] at e
                      simp only [Option.map_some, Option.some.injEq] at e; subst e
                      exact .recd _ _ _ t _ hr h82 hf
              · simp only [if_neg hd] at e; cases e
            · simp only [if_neg h82] at e
              by_cases h69 : t.sort = 69
              · simp only [if_pos h69] at e
                by_cases hd : d.toNat = 35
                · simp only [if_pos hd] at e
                  obtain rfl := u8_eq hd (by decide)
                  cases hn : rdNum 200 s with
                  | none => rw [hn] at e; cases e
                  | some y =>
                    rw [hn] at e
                    obtain ⟨n, r⟩ := y
                    dsimp only at e
                    split at e
                    · rename_i hs
                      simp only [Option.some.injEq] at e; subst e
                      exact .enm _ _ _ t _ hr h69 hn hs
                    · cases e
                · simp only [if_neg hd] at e; cases e
              · simp only [if_neg h69] at e
                by_cases hd : d.toNat = 60
                · simp only [if_pos hd] at e
                  obtain rfl := u8_eq hd (by decide)
                  cases hf : rdField f t s with
                  | none => rw [hf] at e; cases e
                  | some y =>
                    rw [hf] at e
                    obtain ⟨⟨fd, v⟩, r⟩ := y
                    cases r with
                    | nil => cases e
                    | cons c' r =>
                      dsimp only at e
                      by_cases hc' : c'.toNat = 62
                      · simp only [if_pos hc', Option.some.injEq] at e; subst e
                        obtain rfl := u8_eq hc' (by decide)
                        exact .uni _ _ _ t _ _ hr h82 h69 hf
                      · simp only [if_neg hc'] at e; cases e
                · simp only [if_neg hd] at e; cases e
/-! ### How great a value is -/
mutual
def V.tot : V → Nat
  | .nd _ x _ ks => 20 + x.length + V.tots ks
def V.tots : List V → Nat
  | [] => 0
  | v :: r => V.tot v + V.tots r
end
theorem tots_app : ∀ (a b : List V), V.tots (a ++ b) = V.tots a + V.tots b
  | [], b => by simp [V.tots]
  | v :: a, b => by simp only [List.cons_append, V.tots, tots_app a b]; omega
theorem tot_pos (v : V) : 20 ≤ v.tot := by obtain ⟨w, x, t, ks⟩ := v; rw [V.tot]; omega
theorem tots_mem : ∀ {ks : List V} {v : V}, v ∈ ks → V.tot v ≤ V.tots ks
  | u :: ks, v, h => by
    rw [V.tots]
    rcases List.mem_cons.1 h with rfl | h
    · omega
    · have := tots_mem h; omega
theorem tots_len : ∀ (ks : List V), 20 * ks.length ≤ V.tots ks
  | [] => by simp [V.tots]
  | u :: ks => by rw [V.tots, List.length_cons]; have := tots_len ks; have := tot_pos u; omega
theorem decI_pos (n : Int) : 1 ≤ (decI n).length := by
  by_cases h : n < 10
  · by_cases h0 : 0 ≤ n
    · rw [decI_lo h h0]; simp
    · have : n.toNat = (0 : Int).toNat := by omega
      have e : decI n = decI 0 := by unfold decI; rw [this]
      rw [e, decI_lo (by decide) (by decide)]; simp
  · rw [decI_hi h]; simp
theorem rdNum_tot {top : Int} {s r : List UInt8} {n : Int} (h : rdNum top s = some (n, r)) : (decI n).length + r.length = s.length ∧ 1 ≤ (decI n).length := by
  have := rdNum_out h
  exact ⟨by rw [this]; simp, decI_pos n⟩
theorem rdItems_tot {f : List UInt8 → Option (V × List UInt8)} (h : ∀ s y, f s = some y → y.1.tot + 100 * y.2.length ≤ 100 * s.length) : ∀ (m : Nat) (s : List UInt8) (acc : List V) {x : List V × List UInt8}, rdItems f m s acc = some x → V.tots x.1 + 100 * (x.2.length + 1) ≤ V.tots acc + 100 * s.length
  | 0, _, _, _, e => by cases e
  | m + 1, s, acc, x, e => by
    unfold rdItems at e
    cases hf : f s with
    | none => rw [hf] at e; cases e
    | some y =>
      rw [hf] at e
      have hy := h s y hf
      obtain ⟨v, r⟩ := y
      cases r with
      | nil => cases e
      | cons c r =>
        dsimp only at e hy
        have e2 : V.tots (acc ++ [v]) = V.tots acc + v.tot := by simp [tots_app, V.tots]
        rw [List.length_cons] at hy
        split at e
        · have := rdItems_tot h m r _ e
          omega
        · split at e
          · simp only [Option.some.injEq] at e; subst e
            dsimp only; omega
          · cases e
theorem rdField_tot {f : List UInt8 → List UInt8 → Option (V × List UInt8)} (h : ∀ k s y, f k s = some y → y.1.tot + 100 * y.2.length ≤ 100 * s.length) {t : Ty} {s : List UInt8} {x : (Fld × V) × List UInt8} (e : rdField f t s = some x) : x.1.2.tot + 100 * x.2.length + 200 ≤ 100 * s.length := by
  unfold rdField at e
  cases hn : rdNum 200 s with
  | none => rw [hn] at e; cases e
  | some y =>
    rw [hn] at e
    obtain ⟨n, r⟩ := y
    obtain ⟨h1, h2⟩ := rdNum_tot hn
    dsimp only at e
    cases hd : fldT t.fields n with
    | none => rw [hd] at e; cases e
    | some d =>
      rw [hd] at e
      cases r with
      | nil => cases e
      | cons c r' =>
        dsimp only at e
        rw [List.length_cons] at h1
        by_cases hc : c.toNat = 61
        · rw [if_pos hc] at e
          cases hf : f d.kind r' with
          | none => rw [hf] at e; cases e
          | some y =>
            rw [hf] at e
            simp only [Option.map_some, Option.some.injEq] at e
            subst e
            have h3 := h _ _ _ hf
            dsimp only
            omega
        · rw [if_neg hc] at e; cases e
theorem rdFlds_tot {ts : List Ty} {f : List UInt8 → List UInt8 → Option (V × List UInt8)} (h : ∀ k s y, f k s = some y → y.1.tot + 100 * y.2.length ≤ 100 * s.length) {t : Ty} : ∀ (m : Nat) (last : Int) (s : List UInt8) (acc : List V) {x : List V × List UInt8}, rdFlds ts f t m last s acc = some x → V.tots x.1 + 100 * (x.2.length + 1) ≤ V.tots acc + 100 * s.length
  | 0, _, _, _, _, e => by cases e
  | m + 1, last, s, acc, x, e => by
    unfold rdFlds at e
    cases hf : rdField f t s with
    | none => rw [hf] at e; cases e
    | some y =>
      rw [hf] at e
      have hy := rdField_tot h hf
      obtain ⟨⟨d, v⟩, r⟩ := y
      dsimp only at e hy
      split at e
      · cases e
      · cases r with
        | nil => cases e
        | cons c r =>
          dsimp only at e
          have e2 : V.tots (acc ++ [V.nd 61 [] d.tag [v]]) = V.tots acc + (20 + v.tot) := by simp [tots_app, V.tots, V.tot]
          rw [List.length_cons] at hy
          split at e
          · have := rdFlds_tot h m _ r _ e
            omega
          · split at e
            · simp only [Option.some.injEq] at e; subst e
              dsimp only; omega
            · cases e
theorem rd_tot {ts : List Ty} : ∀ (n : Nat) (k s : List UInt8) (x : V × List UInt8), rd ts n k s = some x → x.1.tot + 100 * x.2.length ≤ 100 * s.length
  | 0, _, _, _, e => by cases e
  | n + 1, k, s, x, e => by
    have ih : ∀ k s y, rd ts n k s = some y → y.1.tot + 100 * y.2.length ≤ 100 * s.length := fun k s y hy => rd_tot n k s y hy
    have h := rdK_inv k s (x := x) e
    obtain ⟨v, r⟩ := x
    dsimp only at h ⊢
    cases h with
    | lst0 => simp only [V.tot, V.tots, List.length_cons, List.length_nil]; omega
    | lst k s r vs h =>
      have := rdItems_tot (ih k) _ _ _ h
      simp only [V.tot, V.tots, List.length_cons, List.length_nil] at this ⊢; omega
    | non => simp only [V.tot, V.tots, List.length_cons, List.length_nil]; omega
    | opt k s r v h =>
      have := ih _ _ _ h
      simp only [V.tot, V.tots, List.length_cons, List.length_nil] at this ⊢; omega
    | num k s r n _ h =>
      have := rdNum_tot h
      simp only [V.tot, V.tots]; omega
    | txt k s r v _ h =>
      have e1 := rdQuote_out h
      have h2 : v.out.length = 2 + v.text.length ∧ v.tot = 20 + v.text.length := by
        unfold rdQuote at h
        split at h
        · cases h
        · split at h
          · split at h
            · split at h
              · simp only [Option.some.injEq, Prod.mk.injEq] at h
                obtain ⟨rfl, _⟩ := h
                simp [V.out, outW, V.text, V.tot, V.tots]; omega
              · cases h
            · cases h
          · cases h
      rw [e1]
      simp only [List.length_append]
      omega
    | flg k s r v _ h =>
      have e1 := rdFlag_out h
      have h2 : 2 ≤ v.out.length ∧ v.tot ≤ 23 := by
        unfold rdFlag at h
        split at h
        · simp only [Option.some.injEq, Prod.mk.injEq] at h
          obtain ⟨rfl, _⟩ := h
          simp [V.out, outW, V.tot, V.tots]
        · split at h
          · simp only [Option.some.injEq, Prod.mk.injEq] at h
            obtain ⟨rfl, _⟩ := h
            simp [V.out, outW, V.tot, V.tots]
          · cases h
      rw [e1]
      simp only [List.length_append]
      omega
    | recd0 => simp only [V.tot, V.tots, List.length_cons, List.length_nil]; omega
    | recd k s r t vs _ _ h =>
      have := rdFlds_tot ih _ _ _ _ h
      simp only [V.tot, V.tots, List.length_cons, List.length_nil] at this ⊢; omega
    | enm k s r t n _ _ h _ =>
      have := rdNum_tot h
      simp only [V.tot, V.tots, List.length_cons, List.length_nil]; omega
    | uni k s r t d v _ _ _ h =>
      have := rdField_tot ih h
      simp only [V.tot, V.tots, List.length_cons, List.length_nil] at this ⊢; omega
end Go.E
/-! EngS -/
namespace Go.E
section
variable {P : Program} {n : Nat} {D : List Deferred} {E : Env} {M : World → Prop} {d : Option Nat} {ty : TypeId} {pos : String} {aft : Array Edge} {gd : Option (Nat × Bool)}
theorem g_cap {x : Operand} {T el : TypeId} {size bytes : Nat} {zero : Value} {p : Option Addr} {len cap : Nat} [TI P T (.slice el) size bytes zero] (hx : ev E x = some (.slice p len cap)) : Gives P n D E M ⟨d, .call ⟨.builtin .cap, [x].toArray, [T].toArray⟩, ty, pos, aft, gd⟩ (I cap) := Gives.mk fun a w hs _ => by
  simp [execOp, resolve, hs.ev hx, invoke, builtin, Builtin.cap_, run_und (T := T) (desc := .slice el) (size := size) (bytes := bytes) (zero := zero), goInt]
theorem g_slF {T el : TypeId} {x lo : Operand} {desc' : TypeDesc} {size bytes size' bytes' : Nat} {zero zero' : Value} {k : IntKind} {m : Int} {b o len cap : Nat} [TI P T (.slice el) size bytes zero] [TI P el desc' size' bytes' zero']
    (hx : ev E x = some (.slice (some ⟨b, o, none⟩) len cap)) (hl : ev E lo = some (.int k m)) (h0 : 0 ≤ m ∧ m ≤ len ∧ m < cap) :
    Gives P n D E M ⟨d, .slice T x (some lo) none none, ty, pos, aft, gd⟩ (.slice (some ⟨b, o + m.toNat * size', none⟩) (len - m.toNat) (cap - m.toNat)) := by
  obtain ⟨o', h1, h2⟩ := g_slFrom (P := P) (n := n) (D := D) (M := M) (d := d) (ty := ty) (pos := pos) (aft := aft) (gd := gd) (T := T) (el := el) (desc' := desc') (size' := size') (bytes' := bytes') (zero' := zero') (size := size) (bytes := bytes) (zero := zero) hx hl ⟨h0.1, h0.2.1⟩
  rw [← h1 h0.2.2]; exact h2
theorem shape_own {S : World → Prop} {G0 : Gh} {L0 : List Own} [k : Kn S G0 L0] {b : Nat} {cs : List Value} {T0 : TypeId} {fr : Nat × Nat} (hm : Own.blk b (.cells cs.toArray T0 fr) ∈ L0) {w : World} (hw : S w) : w.shape? b = some (T0, cs.length) := by
  obtain ⟨B, G, L, _, hL, hst⟩ := k.kn w hw
  have h : w.heap[b]? = some (.cells cs.toArray T0 fr) := hst.own _ (hL _ hm)
  simp [World.shape?, h]
theorem g_toU {T T' t T0 : TypeId} {x : Operand} {b s1 b1 js jb : Nat} {z1 jz : Value} {jd : TypeDesc} {G0 : Gh} {L0 : List Own} {cs : List Value} {fr : Nat × Nat} [t1 : TI P T (.pointer t) s1 b1 z1] [t2 : TI P t jd js jb jz] [Kn M G0 L0] [h : BlkI L0 b cs T0 fr]
    (hd : P.underlying T' = some .unsafePointer) (hx : ev E x = some (Pt b 0)) (hj : Nat.beq js 0 = false) (hc : cs.isEmpty = false) : Gives P n D E M ⟨d, .convert T T' x, ty, pos, aft, gd⟩ (Pt b 0) := Gives.mk fun a w hs hw => by
  obtain ⟨j, hj1, hj2, _, _⟩ := t2.inf
  have hl : 0 < cs.length := by cases cs with | nil => cases hc | cons => simp
  have := Lib.run_to_unsafe (P := P) w (src := T) (dst := T') (t := t) (j := j) ⟨b, 0, none⟩ t1.und hd hj1 (by rw [hj2]; intro e; subst e; simp at hj) (shape_own (S := M) h.mem hw) hl
  simp only [execOp, hs.ev hx, Sem.run_bind, this, Result.andThen_ok, Sem.run_pure]
theorem g_fromU {T T' t T0 : TypeId} {x : Operand} {b s1 b1 js jb : Nat} {z1 jz : Value} {jd : TypeDesc} {G0 : Gh} {L0 : List Own} {cs : List Value} {fr : Nat × Nat} [t1 : TI P T' (.pointer t) s1 b1 z1] [t2 : TI P t jd js jb jz] [Kn M G0 L0] [h : BlkI L0 b cs T0 fr]
    (hd : P.underlying T = some .unsafePointer) (hx : ev E x = some (Pt b 0)) (hl : liesAt P P.depth T0 (cs.length / P.cellsOf T0) 0 t 1 = true) : Gives P n D E M ⟨d, .convert T T' x, ty, pos, aft, gd⟩ (Pt b 0) := Gives.mk fun a w hs hw => by
  obtain ⟨j, hj1, _, _, _⟩ := t2.inf
  have := Lib.run_from_unsafe (P := P) w (src := T) (dst := T') (u := t) (j := j) ⟨b, 0, none⟩ hd t1.und hj1 (shape_own (S := M) h.mem hw) hl
  simp only [execOp, hs.ev hx, Sem.run_bind, this, Result.andThen_ok, Sem.run_pure]
theorem g_pneS {T T' el : TypeId} {x y : Operand} {size bytes js jb : Nat} {zero jz : Value} {jd : TypeDesc} {p : Addr} [t1 : TI P T (.pointer el) size bytes zero] [t2 : TI P el jd js jb jz] (hx : ev E x = some (.pointer (some p))) (hy : ev E y = some (.pointer (some p))) : Gives P n D E M ⟨d, .binOp .neq T x y T', ty, pos, aft, gd⟩ (Bo false) := g_bin hx hy rfl fun w => by
  obtain ⟨j, hj1, _, _, _⟩ := t2.inf
  exact Lib.run_neq_ptr_same w p t1.und hj1
theorem g_copy0 {T T' el : TypeId} {x y : Operand} {s1 b1 js jb : Nat} {z1 jz : Value} {jd : TypeDesc} {b o m c : Nat} [t1 : TI P T (.slice el) s1 b1 z1] [t2 : TI P el jd js jb jz] (hx : ev E x = some (.slice (some ⟨b, o, none⟩) m c)) (hy : ev E y = some nilS) :
    Gives P n D E M ⟨d, .call ⟨.builtin .copy, [x, y].toArray, [T, T'].toArray⟩, ty, pos, aft, gd⟩ (I (0 : Nat)) := Gives.mk fun a w hs _ => by
  obtain ⟨j, hj1, _, _, _⟩ := t2.inf
  have h1 := run_copy_nil (P := P) w T T' ty el ⟨b, o, none⟩ m c t1.und (by rw [hj1]; rfl)
  have e1 : ([x, y].toArray.map a.eval) = #[.slice (some ⟨b, o, none⟩) m c, nilS] := by simp [hs.ev hx, hs.ev hy]
  simp only [execOp, resolve, e1, Sem.run_bind, Sem.run_pure, Result.andThen_ok, invoke, builtin, h1]
  rfl
theorem g_sdat {T : TypeId} {x : Operand} {b o m c : Nat} (hx : ev E x = some (.slice (some ⟨b, o, none⟩) m c)) (hc : Nat.beq c 0 = false) : Gives P n D E M ⟨d, .call ⟨.builtin .unsafeSliceData, [x].toArray, [T].toArray⟩, ty, pos, aft, gd⟩ (Pt b o) := Gives.mk fun a w hs _ => by
  have h1 := Lib.run_unsafeSliceData_row (P := P) w #[T] ty ⟨b, o, none⟩ m c (by rintro rfl; simp at hc)
  have e1 : ([x].toArray.map a.eval) = #[.slice (some ⟨b, o, none⟩) m c] := by simp [hs.ev hx]
  simp only [execOp, resolve, e1, Sem.run_bind, Sem.run_pure, Result.andThen_ok, invoke, builtin, h1]
theorem g_sdat0 {T : TypeId} {x : Operand} (hx : ev E x = some nilS) : Gives P n D E M ⟨d, .call ⟨.builtin .unsafeSliceData, [x].toArray, [T].toArray⟩, ty, pos, aft, gd⟩ (.pointer none) := Gives.mk fun a w hs _ => by
  have h1 := Lib.run_unsafeSliceData_nil (P := P) w #[T] ty 0 0
  have e1 : ([x].toArray.map a.eval) = #[nilS] := by simp [hs.ev hx]
  simp only [execOp, resolve, e1, Sem.run_bind, Sem.run_pure, Result.andThen_ok, invoke, builtin, h1]
theorem g_ustr0 {T T' : TypeId} {x y : Operand} {p : Option Addr} (hx : ev E x = some (.pointer p)) (hy : ev E y = some (I (0 : Nat))) : Gives P n D E M ⟨d, .call ⟨.builtin .unsafeString, [x, y].toArray, [T, T'].toArray⟩, ty, pos, aft, gd⟩ (S []) := Gives.mk fun a w hs _ => by
  have h1 := Lib.run_unsafeString_none (P := P) w T T' ty p
  have e1 : ([x, y].toArray.map a.eval) = #[.pointer p, .int .i64 0] := by simp [hs.ev hx, hs.ev hy]
  simp only [execOp, resolve, e1, Sem.run_bind, Sem.run_pure, Result.andThen_ok, invoke, builtin, h1]
  rfl
end
section
variable {P : Program} {n : Nat} {D : List Deferred} {E : Env} {B : Base} {G : Gh} {L : List Own} {K : Act → World → Prop} {Q : Exit → Act → World → Prop} {ty : TypeId} {pos : String} {aft : Array Edge} {gd : Option (Nat × Bool)} {d : Nat}
theorem St.freeze {w : World} {b m cap : Nat} {T : TypeId} {xs : List Value} (h : St B G (.acc (.slice (some ⟨b, 0, none⟩) m cap) T 1 m xs :: L) w) (k : Nat) : St B G L (w.freeze ⟨b, 0, none⟩ k) := by
  obtain ⟨h1, ⟨h2, _⟩ | ⟨b', cap', rest, e, hc, hl, hb⟩⟩ : AccAt w _ T 1 m xs := h.own _ List.mem_cons_self
  · cases h2
  simp only [Value.slice.injEq, Option.some.injEq, Addr.mk.injEq, and_true, true_and] at e
  obtain ⟨rfl, rfl⟩ := e
  unfold World.freeze
  by_cases hk : k = 0
  · rw [if_pos hk]; exact h.weaken (List.sublist_cons_self _ _)
  · rw [if_neg hk]
    have h2 := h.upd (y := .blk b (.cells (xs ++ rest).toArray T (0, k))) (w' := { w with heap := w.heap.modify b fun | .cells c elem (lo, hi) => .cells c elem (if lo == hi then (0, 0 + k) else (min lo 0, max hi (0 + k))) | o => o }) (b := b) rfl rfl (by
      show (w.heap.modify b _)[b]? = _
      rw [Array.getElem?_modify, if_pos rfl, hb]
      simp) (fun c hc => by
        show (w.heap.modify b _)[c]? = _
        rw [Array.getElem?_modify, if_neg (fun e => hc e.symm)]) rfl rfl rfl (by simp)
    exact h2.weaken (List.sublist_cons_self _ _)
class AccD (L : List Own) (b : Nat) (m cap : outParam Nat) (T : outParam TypeId) (sz : outParam Nat) (xs : outParam (List Value)) (L' : outParam (List Own)) : Prop where
  del : Del (.acc (.slice (some ⟨b, 0, none⟩) m cap) T sz m xs) L L'
instance {b m cap : Nat} {T : TypeId} {sz : Nat} {xs : List Value} {r : List Own} : AccD (.acc (.slice (some ⟨b, 0, none⟩) m cap) T sz m xs :: r) b m cap T sz xs r := ⟨.here⟩
instance {b m cap : Nat} {T : TypeId} {sz : Nat} {xs : List Value} {z : Own} {r r' : List Own} [h : AccD r b m cap T sz xs r'] : AccD (z :: r) b m cap T sz xs (z :: r') := ⟨.there h.del⟩
theorem byteCells_u8s (l : List UInt8) : Lib.byteCells l = u8s l := rfl
/-- The text of a builder's bytes. -/
theorem c_ustr {T T' el : TypeId} {x y : Operand} {b m cap s1 b1 s2 b2 : Nat} {z1 z2 : Value} {l : List UInt8} {L' : List Own} [t1 : TI P T (.pointer el) s1 b1 z1] [t2 : TI P el (.int .u8) s2 b2 z2] [ha : AccD L b m cap el 1 (u8s l) L']
    (hc1 : P.cellsOf el = 1) (hx : ev E x = some (Pt b 0)) (hy : ev E y = some (I (m : Nat))) (hlt : Nat.blt d n = true) (hm : m ≤ 9223372036854775807)
    (k : Nx n D ((d, S l) :: E) B G L' K) : Nx n D E B G L (ow P ⟨some d, .call ⟨.builtin .unsafeString, [x, y].toArray, [T, T'].toArray⟩, ty, pos, aft, gd⟩ Q K) := Nx.mk fun a w hs hw => by
  have hw1 := hw.perm ha.del.perm
  have hat : AccAt w (.slice (some ⟨b, 0, none⟩) m cap) el 1 m (u8s l) := hw1.own _ List.mem_cons_self
  obtain ⟨h1, ⟨h2, _⟩ | ⟨b', cap', rest, e, hc, hl, hb⟩⟩ := hat
  · cases h2
  simp only [Value.slice.injEq, Option.some.injEq, Addr.mk.injEq, and_true, true_and] at e
  obtain ⟨rfl, rfl⟩ := e
  have hlm : l.length = m := by simpa [u8s] using h1
  have e1 : ([x, y].toArray.map a.eval) = #[.pointer (some ⟨b, 0, none⟩), .int .i64 (m : Nat)] := by simp [hs.ev hx, hs.ev hy]
  unfold ow Oper.wp
  by_cases h0 : l = []
  · subst h0
    have hm0 : m = 0 := by simpa using hlm.symm
    subst hm0
    have hr := Lib.run_unsafeString_none (P := P) w T T' ty (some ⟨b, 0, none⟩)
    have : (execOp a.eval ⟨some d, .call ⟨.builtin .unsafeString, [x, y].toArray, [T, T'].toArray⟩, ty, pos, aft, gd⟩).run P w = .ok (.value (S [])) w := by
      simp only [execOp, resolve, e1, Sem.run_bind, Sem.run_pure, Result.andThen_ok, invoke, builtin]
      have hr' : (Builtin.unsafeString_ [T, T'].toArray ty #[.pointer (some ⟨b, 0, none⟩), .int .i64 ((0 : Nat) : Int)]).run P w = .ok (.string .empty) w := hr
      rw [hr']; rfl
    rw [this, Oper.upon_value]
    exact k.go _ w (hs.put (by simpa using hlt)) (hw1.weaken (List.sublist_cons_self _ _))
  · have hcell : ∀ j x, l[j]? = some x → w.cell? ((⟨b, 0, none⟩ : Addr).add j) = some (.int .u8 x.toNat) := fun j x hj => by
      have hv : (u8s l)[j]? = some (.int .u8 x.toNat) := by simp [u8s, hj]
      rw [addr_add]
      exact ((cells_acc (S := St B G (.acc (.slice (some ⟨b, 0, none⟩) m cap) el 1 m (u8s l) :: L')) (m := m) (cap := cap) (T := el) (sz := 1) (xs := u8s l) List.mem_cons_self).go j _ hv).go w hw1
    have hsh : w.shape? b = some (el, (u8s l ++ rest).length) := by simp [World.shape?, hb]
    have hr := Lib.run_unsafeString_row (P := P) w T T' ty el t1.und hc1 b _ hsh l h0 (by simp [u8s]) (by omega) hcell
    have : (execOp a.eval ⟨some d, .call ⟨.builtin .unsafeString, [x, y].toArray, [T, T'].toArray⟩, ty, pos, aft, gd⟩).run P w = .ok (.value (S l)) (w.freeze ⟨b, 0, none⟩ l.length) := by
      simp only [execOp, resolve, e1, Sem.run_bind, Sem.run_pure, Result.andThen_ok, invoke, builtin]
      have hr' : (Builtin.unsafeString_ [T, T'].toArray ty #[.pointer (some ⟨b, 0, none⟩), .int .i64 (m : Nat)]).run P w = .ok (S l) (w.freeze ⟨b, 0, none⟩ l.length) := by rw [← hlm]; exact hr
      rw [hr']; rfl
    rw [this, Oper.upon_value]
    exact k.go _ _ (hs.put (by simpa using hlt)) (hw1.freeze _)
theorem strCells_u8s (l : List UInt8) : Lib.strCells ⟨l.toArray⟩ = u8s l := by simp [Lib.strCells, u8s]
theorem run_apS {v : Value} {m : Nat} {T T2 el : TypeId} {s1 b1 s2 b2 : Nat} {z1 z2 : Value} {xs : List Value} {l : List UInt8} {w : World} {R : List Own} [h1' : TI P T (.slice el) s1 b1 z1] [h2' : TI P T2 .string s2 b2 z2] [he : TI P el (.int .u8) 1 1 (.int .u8 0)]
    (hb : m + l.length ≤ 1000000000) (hw : St B G (.acc v el 1 m xs :: R) w) :
    ∃ v' w', (Builtin.append_ #[T, T2] ty #[v, S l]).run P w = .ok v' w' ∧ St B G (.acc v' el 1 (m + l.length) (xs ++ u8s l) :: R) w' ∧ (v = nilS → l = [] → v' = nilS) ∧ ((v ≠ nilS ∨ l ≠ []) → ∃ b cap, v' = .slice (some ⟨b, 0, none⟩) (m + l.length) cap ∧ ((∀ p q, v ≠ .slice p q 0) ∨ l ≠ [] → 0 < cap)) := by
  obtain ⟨hxl, hacc⟩ : AccAt w v el 1 m xs := hw.own _ List.mem_cons_self
  obtain ⟨ie, hi, hsz, hby, hze⟩ := he.inf
  have ht := h1'.und
  have hu := h2'.und
  have hss : (⟨l.toArray⟩ : ByteArray).size = l.length := bsz l
  have hul : (u8s l).length = l.length := by simp [u8s]
  have mk : ∀ nc, m + l.length ≤ nc →
      St B G (.acc (.slice (some ⟨w.heap.size, 0, none⟩) (m + l.length) nc) el 1 (m + l.length) (xs ++ u8s l) :: R) (w.drew.alloc (.cells (xs ++ u8s l ++ zerosL [.int .u8 0] (nc - (m + l.length))).toArray el)) := by
    intro nc hnc
    have h2 := hw.drew.alloc (.cells (xs ++ u8s l ++ zerosL [.int .u8 0] (nc - (m + l.length))).toArray el)
    have h3 : St B G (.blk w.drew.heap.size (.cells (xs ++ u8s l ++ zerosL [.int .u8 0] (nc - (m + l.length))).toArray el) :: R) _ := h2.weaken (.cons_cons _ (List.sublist_cons_self _ _))
    refine h3.conv rfl ⟨by simp [hxl, hul], .inr ⟨_, nc, zerosL [.int .u8 0] (nc - (m + l.length)), rfl, hnc, ?_, h3.own _ List.mem_cons_self⟩⟩
    simp only [List.length_append, hxl, hul, zerosL_length, List.length_cons, List.length_nil]
    omega
  have ez : (Builtin.zeroCells (Value.int .u8 0).cells) = fun k => (zerosL [.int .u8 0] k).toArray := by
    funext k; rw [← zeroCells_eq]; rfl
  rcases hacc with ⟨rfl, rfl⟩ | ⟨b, cap, rest, rfl, hmc, hrl, hblk⟩
  · have hx0 : xs = [] := by simpa using hxl
    subst hx0
    by_cases hk : l = []
    · subst hk
      refine ⟨nilS, w, ?_, by simpa [u8s] using hw, fun _ _ => rfl, fun h => by rcases h with h | h <;> exact absurd rfl h⟩
      have hf : (Builtin.firstCells 1 0 (S [])).run P w = .ok #[] w := by
        have := Lib.run_firstCells_string (P := P) w 1 ⟨([] : List UInt8).toArray⟩
        rw [bsz] at this; simpa [Lib.strCells] using this
      simp [Builtin.append_, run_underlying ht, run_underlying hu, sizeOf, typeInfo, hi, hsz, Builtin.lenOf, bsz, hf]
    · have hpos : 0 < l.length := List.length_pos_iff.2 hk
      have hr := run_append_nil_string (P := P) w T T2 ty el ie (.int .u8 0) ht hu hi hze ⟨l.toArray⟩ (by rw [hss]; exact hpos) (by rw [hss]; omega) (by rw [hss, hby]; omega)
      rw [hss] at hr
      have hg := grownCap_ge w l.length 0 el
      have := mk (grownCap w l.length 0 el) (by simpa using hg)
      have e1 : (⟨l.toArray⟩ : ByteArray).data.map (fun b => Value.int .u8 b.toNat) ++ Builtin.zeroCells (Value.int .u8 0).cells (grownCap w l.length 0 el - l.length) = (u8s l ++ zerosL [.int .u8 0] (grownCap w l.length 0 el - l.length)).toArray := by
        rw [ez]; simp [u8s]
      rw [e1] at hr
      simp only [Nat.zero_add, List.nil_append] at this ⊢
      exact ⟨_, _, hr, this, fun _ h => absurd h hk, fun _ => ⟨_, _, rfl, fun _ => by omega⟩⟩
  · by_cases hfit : m + l.length ≤ cap
    · have hr := Lib.run_append_room_string (P := P) w T T2 ty el ie ht hu hi hsz b m cap (xs ++ rest).toArray hblk ⟨l.toArray⟩ (by rw [hss]; exact hfit) (by rw [hss]; simp only [List.size_toArray]; omega)
      have hcells : (List.take m (xs ++ rest) ++ u8s l ++ List.drop (m + l.length) (xs ++ rest)) = xs ++ u8s l ++ rest.drop l.length := by
        have : m = xs.length := by omega
        rw [this]; simp [List.drop_append]
      rw [hss, strCells_u8s] at hr
      simp only [hcells] at hr
      refine ⟨_, _, hr, hw.upd (b := b) rfl rfl ⟨by simp [hxl, hul], .inr ⟨b, cap, rest.drop l.length, rfl, hfit, ?_, setRow_heap w b _ _ el _ hblk⟩⟩ (fun c hc => setRow_other w b c _ hc) rfl rfl rfl (by simp), fun h => (by cases h), fun _ => ⟨b, cap, rfl, fun h => ?_⟩⟩
      · simp only [List.length_append, List.length_drop] at *; omega
      · rcases h with h | h
        · rcases Nat.eq_zero_or_pos cap with h0 | h0
          · subst h0; exact absurd rfl (h _ _)
          · exact h0
        · have := List.length_pos_iff.2 h; omega
    · have hnsc := nextslicecap_le (m + l.length) cap (by omega)
      have hold : ∀ j u, xs[j]? = some u → w.cell? ((⟨b, 0, none⟩ : Addr).add j) = some u := fun j u hj => by
        rw [addr_add]
        exact ((cells_acc (S := St B G (.acc (.slice (some ⟨b, 0, none⟩) m cap) el 1 m xs :: R)) (m := m) (cap := cap) (T := el) (sz := 1) (xs := xs) List.mem_cons_self).go j u hj).go w hw
      have hr := Lib.run_append_grow_string (P := P) w T T2 ty el ie (.int .u8 0) ht hu hi hze ⟨b, 0, none⟩ m cap xs (by rw [hsz]; simpa using hxl) hold ⟨l.toArray⟩ (by rw [hss]; omega) (by rw [hss]; omega) (by rw [hss, hby]; omega)
      rw [hss, strCells_u8s, ez] at hr
      have hg := grownCap_ge w (m + l.length) cap el
      have := mk (grownCap w (m + l.length) cap el) hg
      simp only [List.append_toArray] at hr this ⊢
      exact ⟨_, _, hr, this, fun h => (by cases h), fun _ => ⟨_, _, rfl, fun _ => by omega⟩⟩
/-- A text is appended to a builder's bytes. -/
theorem c_apS {m b cap : Nat} {s x : Operand} {T T2 el : TypeId} {s1 b1 s2 b2 : Nat} {z1 z2 : Value} {xs : List Value} {l : List UInt8} {L' : List Own} [TI P T (.slice el) s1 b1 z1] [TI P T2 .string s2 b2 z2] [TI P el (.int .u8) 1 1 (.int .u8 0)] [ha : AccI L (.slice (some ⟨b, 0, none⟩) m (cap + 1)) el 1 m xs L']
    (hs : ev E s = some (.slice (some ⟨b, 0, none⟩) m (cap + 1))) (hx : ev E x = some (S l)) (hlt : Nat.blt d n = true) (hb : m + l.length ≤ 1000000000)
    (kk : ∀ b' cap', Nx n D ((d, .slice (some ⟨b', 0, none⟩) (m + l.length) (cap' + 1)) :: E) B G (.acc (.slice (some ⟨b', 0, none⟩) (m + l.length) (cap' + 1)) el 1 (m + l.length) (xs ++ u8s l) :: L') K) :
    Nx n D E B G L (ow P ⟨some d, .call ⟨.builtin .append, [s, x].toArray, [T, T2].toArray⟩, ty, pos, aft, gd⟩ Q K) := Nx.mk fun a w hsat hw => by
  obtain ⟨v', w', hr, hst, _, h2⟩ := run_apS (P := P) (ty := ty) (T := T) (T2 := T2) (el := el) (s1 := s1) (b1 := b1) (z1 := z1) (s2 := s2) (b2 := b2) (z2 := z2) hb (hw.perm ha.del.perm)
  obtain ⟨b', cap', rfl, h3⟩ := h2 (.inl (by simp))
  obtain ⟨c, rfl⟩ : ∃ c, cap' = c + 1 := ⟨cap' - 1, by have := h3 (.inl (by simp)); omega⟩
  have hrun : (execOp a.eval ⟨some d, .call ⟨.builtin .append, [s, x].toArray, [T, T2].toArray⟩, ty, pos, aft, gd⟩).run P w = .ok (.value (.slice (some ⟨b', 0, none⟩) (m + l.length) (c + 1))) w' := by
    have e1 : ([s, x].toArray.map a.eval) = #[.slice (some ⟨b, 0, none⟩) m (cap + 1), S l] := by simp [hsat.ev hs, hsat.ev hx]
    simp only [execOp, resolve, e1, Sem.run_bind, Sem.run_pure, Result.andThen_ok, invoke, builtin, hr]
  unfold ow Oper.wp
  rw [hrun, Oper.upon_value]
  exact (kk b' c).go _ w' (hsat.put (by simpa using hlt)) hst
/-- A builder's new bytes. -/
theorem c_mnz {fo x : Operand} {tys : Array TypeId} {f : FuncId} {fn : Func} {t el : TypeId} {m : Nat} {ps : Array TypeId}
    (hf : ev E fo = some (.func (.func f) #[] #[])) (hx : ev E x = some (I (m : Nat))) (hlt : Nat.blt d n = true) (hfn : P.funcs[f]? = some fn) (hname : (fn.name == "runtime.NumGoroutine") = false) (hbd : fn.body.isNone = true) (hnx : Extern.findNext fn = none) (he : Extern.find fn = some (Extern.BytealgMakeNoZero.makeNoZero ps #[t])) (ht : P.underlying t = some (.slice el)) (hm : 0 < m ∧ m ≤ 1000000000)
    (k : ∀ b cap, m ≤ cap + 1 → Nx n D ((d, .slice (some ⟨b, 0, none⟩) m (cap + 1)) :: E) B G (.acc (.slice (some ⟨b, 0, none⟩) 0 (cap + 1)) el 1 0 [] :: L) K) : Nx n D E B G L (ow P ⟨some d, .call ⟨.value fo, [x].toArray, tys⟩, ty, pos, aft, gd⟩ Q K) := Nx.mk fun a w hs hw => by
  obtain ⟨cs, hr, hcs, _⟩ := Lib.run_makeNoZero (P := P) w ps t el ht m (by omega)
  have e1 : ([x].toArray.map a.eval) = #[.int .i64 (m : Nat)] := by simp [hs.ev hx]
  have hrun : (execOp a.eval ⟨some d, .call ⟨.value fo, [x].toArray, tys⟩, ty, pos, aft, gd⟩).run P w = .ok (.value (.slice (some ⟨w.heap.size, 0, none⟩) m cs.size)) (w.drew.drew.alloc (.cells cs el)) := by
    simp only [execOp, resolve, hs.ev hf, e1, Deferred.ofValue, Sem.run_bind, Sem.run_pure, Result.andThen_ok, invoke]
    rw [show (#[] ++ #[Value.int .i64 (m : Nat)] ++ #[] : Array Value) = #[Value.int .i64 (m : Nat)] from rfl, run_callFunc_extern hfn hname hbd hnx he, hr]
    rfl
  unfold ow Oper.wp
  rw [hrun, Oper.upon_value]
  have h1 := hw.drew.drew.alloc (.cells cs el)
  obtain ⟨c, hc⟩ : ∃ c, cs.size = c + 1 := ⟨cs.size - 1, by omega⟩
  have h2 : St B G (.acc (.slice (some ⟨w.heap.size, 0, none⟩) 0 (c + 1)) el 1 0 [] :: L) (w.drew.drew.alloc (.cells cs el)) := h1.conv rfl ⟨rfl, .inr ⟨w.heap.size, c + 1, cs.toList, rfl, Nat.zero_le _, by simp [hc], h1.own _ List.mem_cons_self⟩⟩
  rw [hc]
  exact (k w.heap.size c (by omega)).go _ _ (hs.put (by simpa using hlt)) h2
end
end Go.E
/-! Pj -/
namespace Go.E
set_option maxRecDepth 20000
set_option maxHeartbeats 2000000
open Go.Proofs
variable {G : Gh}
abbrev tBld : TypeId := 144
abbrev tByt : TypeId := 5
theorem c_mnzT {n : Nat} {D : List Deferred} {E : Env} {B : Base} {L : List Own} {K : Act → World → Prop} {Q : Exit → Act → World → Prop} {ty : TypeId} {pos : String} {aft : Array Edge} {gd : Option (Nat × Bool)} {d : Nat} {fo x : Operand} {tys : Array TypeId} {m : Nat}
    (hf : ev E fo = some (.func (.func 117) #[] #[])) (hx : ev E x = some (I (m : Nat))) (hlt : Nat.blt d n = true) (hm : 0 < m ∧ m ≤ 1000000000)
    (k : ∀ b cap, m ≤ cap + 1 → Nx n D ((d, .slice (some ⟨b, 0, none⟩) m (cap + 1)) :: E) B G (.acc (.slice (some ⟨b, 0, none⟩) 0 (cap + 1)) tByt 1 0 [] :: L) K) : Nx n D E B G L (ow Tryz.prog ⟨some d, .call ⟨.value fo, [x].toArray, tys⟩, ty, pos, aft, gd⟩ Q K) :=
  c_mnz (ps := #[3]) hf hx hlt Tryz.func117 (by kernel_rfl) (by kernel_rfl) (by kernel_rfl) (by kernel_rfl) (TI.und (T := 124)) hm k
theorem c_ccF {b : Nat} {v : Value} : FnG Tryz.prog 114 [Pt b 0] G [.blk b (.cells (List.toArray [.pointer none, v]) tBld (0, 0))] (fun r L' => L' = [.blk b (.cells (List.toArray [Pt b 0, v]) tBld (0, 0))]) := by
  have hx : ∀ w, (callFunc 116 [Pt b 0].toArray).run Tryz.prog w = .ok (.value (Pt b 0)) w := fun w => by
    rw [run_callFunc_extern Tryz.func116 (by kernel_rfl) (by kernel_rfl) (by kernel_rfl) (e := Extern.AbiNoEscape.same) (by kernel_rfl)]
    rw [Lib.run_noEscape]; rfl
  refine g_enter [(0, _)] Tryz.func114 (by kernel_rfl) Tryz.ntmps114 rfl rfl (by repeat (first | exact trivial | refine ⟨rfl, ?_⟩)) fun B hB hW => ?_
  repeat' (first | (refine run (t := tb) 400 rfl ?_ ?_; (focus (repeat' ((exact trivial))))) | (refine k_op rfl ?_; first | refine v_op (g_ld rfl rfl rfl) rfl rfl ?_ | refine v_op (g_peq0 rfl rfl) rfl rfl ?_ | refine v_op (g_toU (by kernel_rfl) rfl rfl rfl) rfl rfl ?_) | (refine k_tt rfl ?_ ?_; (focus (((rfl)); done))))
  refine k_op rfl (v_op (g_extern rfl rfl rfl hx) rfl rfl ?_)
  repeat' (first | (refine run (t := tb) 400 rfl ?_ ?_; (focus (repeat' ((exact trivial))))) | (refine k_op rfl ?_; first | refine v_op (g_fromU (by kernel_rfl) rfl (by kernel_rfl)) rfl rfl ?_ | refine c_st1 rfl rfl rfl rfl ?_))
  exact k_re (vs := []) rfl trivial rfl (by repeat ((exact List.Sublist.refl _))) ⟨rfl, rfl⟩
theorem c_ccU {b : Nat} {v : Value} : FnG Tryz.prog 114 [Pt b 0] G [.blk b (.cells (List.toArray [Pt b 0, v]) tBld (0, 0))] (fun r L' => L' = [.blk b (.cells (List.toArray [Pt b 0, v]) tBld (0, 0))]) := by
  refine g_enter [(0, _)] Tryz.func114 (by kernel_rfl) Tryz.ntmps114 rfl rfl (by repeat (first | exact trivial | refine ⟨rfl, ?_⟩)) fun B hB hW => ?_
  repeat' (first | (refine run (t := tb) 400 rfl ?_ ?_; (focus (repeat' ((exact trivial))))) | (refine k_op rfl ?_; first | refine v_op (g_ld rfl rfl rfl) rfl rfl ?_ | refine v_op (g_peq0 rfl rfl) rfl rfl ?_ | refine v_op (g_pneS rfl rfl) rfl rfl ?_) | (refine k_ff rfl ?_ ?_; (focus (((rfl)); done))))
  exact k_re (vs := []) rfl trivial rfl (by repeat ((exact List.Sublist.refl _))) ⟨rfl, rfl⟩
theorem c_growB {b m : Nat} (hm : 0 < m ∧ m ≤ 1000000000) : FnG Tryz.prog 115 [Pt b 0, I (m : Nat)] G [.blk b (.cells (List.toArray [Pt b 0, nilS]) tBld (0, 0))] (fun r L' => ∃ b2 c2, L' = [.acc (.slice (some ⟨b2, 0, none⟩) 0 (c2 + 1)) tByt 1 0 [], .blk b (.cells (List.toArray [Pt b 0, .slice (some ⟨b2, 0, none⟩) 0 (c2 + 1)]) tBld (0, 0))]) := by
  refine g_enter [(0, _), (1, _)] Tryz.func115 (by kernel_rfl) Tryz.ntmps115 rfl rfl (by repeat (first | exact trivial | refine ⟨rfl, ?_⟩)) fun B hB hW => ?_
  repeat' (first | (refine run (t := tb) 400 rfl ?_ ?_; (focus (repeat' ((exact trivial))))) | (refine k_op rfl ?_; first | refine v_op (g_ld rfl rfl rfl) rfl rfl ?_ | refine v_op (g_copy0 rfl rfl) rfl rfl ?_ | refine c_st1 rfl rfl rfl rfl ?_) | (refine k_any (s_any (id := 0) _ (fun _ h => h) mixed ?_); refine x_tks (t := tb) (fuel := 9) [0, 1, 2, 6, 9, 10, 11] (bts 16 3655) (by kernel_rfl) (by kernel_rfl) rfl rfl (Gh.le.refl _) (by repeat ((exact List.Sublist.refl _))) ?_ ?_; (focus (repeat' ((exact trivial)))); ((refine (x_tkg (bts 16 3663) 3 rfl (by kernel_rfl) rfl (Gh.le.refl _) (by repeat ((exact List.Sublist.refl _)))) (g_ld rfl rfl rfl) rfl rfl ?_)); ((refine (x_tkg (bts 16 3679) 4 rfl (by kernel_rfl) rfl (Gh.le.refl _) (by repeat ((exact List.Sublist.refl _)))) (g_cap rfl) rfl rfl ?_)); refine x_tks (t := tb) (fuel := 5) [5, 7] (bts 16 3839) (by kernel_rfl) (by kernel_rfl) rfl rfl (Gh.le.refl _) (by repeat ((exact List.Sublist.refl _))) ?_ ?_; (focus (repeat' (first | exact trivial | apply And.intro | omega))); ((refine (x_tkg (bts 16 7935) 12 rfl (by kernel_rfl) rfl (Gh.le.refl _) (by repeat ((exact List.Sublist.refl _)))) (g_ld rfl rfl rfl) rfl rfl ?_)); ((refine (x_tkg (bts 16 16127) 13 rfl (by kernel_rfl) rfl (Gh.le.refl _) (by repeat ((exact List.Sublist.refl _)))) (g_lenL rfl) rfl rfl ?_)); refine x_all [8] (by kernel_rfl) (by decide) ⟨?_, trivial⟩; refine x_opg rfl rfl ?_; ((refine c_mnzT rfl rfl rfl ?_ (fun _ _ _ => ?_); (focus (((omega)); done)))); refine x_ks (by (exact Gh.le.refl _)) (by repeat (first | exact List.Sublist.refl _ | apply List.Sublist.cons)) (listed' := (bts 16 16383)) (by kernel_rfl) ?_; ((refine (x_tkg (bts 16 32767) 14 rfl (by kernel_rfl) rfl (Gh.le.refl _) (by repeat ((exact List.Sublist.refl _)))) (g_slTo rfl rfl ?_) rfl rfl ?_; (focus ((omega); done)))); refine x_tks (t := tb) (fuel := 0) [15] (bts 16 65535) (by kernel_rfl) (by kernel_rfl) rfl rfl (Gh.le.refl _) (by repeat ((exact List.Sublist.refl _))) ?_ ?_; (focus (repeat' ((exact trivial)))); refine x_done (by kernel_rfl) (k_bk ?_)))
  exact k_re (vs := []) rfl trivial rfl (List.Sublist.refl _) ⟨rfl, _, _, rfl⟩
theorem c_GrowB {b m : Nat} (hm : 0 < m ∧ m ≤ 1000000000) : FnG Tryz.prog 104 [Pt b 0, I (m : Nat)] G [.blk b (.cells (List.toArray [.pointer none, nilS]) tBld (0, 0))] (fun r L' => ∃ b2 c2, L' = [.acc (.slice (some ⟨b2, 0, none⟩) 0 (c2 + 1)) tByt 1 0 [], .blk b (.cells (List.toArray [Pt b 0, .slice (some ⟨b2, 0, none⟩) 0 (c2 + 1)]) tBld (0, 0))]) := by
  refine g_enter [(0, _), (1, _)] Tryz.func104 (by kernel_rfl) Tryz.ntmps104 rfl rfl (by repeat (first | exact trivial | refine ⟨rfl, ?_⟩)) fun B hB hW => ?_
  repeat' (first | (refine run (t := tb) 400 rfl ?_ ?_; (focus (repeat' ((exact trivial))))) | (refine k_op rfl ?_; first | (refine c_m1g rfl rfl rfl c_ccF rfl ?_; rintro _ _ rfl; dsimp only [List.cons_append, List.nil_append]) | (refine c_m1g rfl rfl rfl (c_growB (by omega)) rfl ?_; rintro _ _ ⟨b2, c2, hb2, rfl⟩; dsimp only [List.cons_append, List.nil_append])) | (refine k_tt rfl ?_ ?_; (focus (((refine decide_eq_true ?_; (omega))); done))) | (refine k_ff rfl ?_ ?_; (focus (((rfl)); done))) | (refine k_any (s_any (id := 3) _ (fun _ h => h) mixed ?_); refine x_tks (t := tb) (fuel := 6) [0, 1, 2, 5, 6, 7, 11] (bts 13 2279) (by kernel_rfl) (by kernel_rfl) rfl rfl (Gh.le.refl _) (by repeat ((exact List.Sublist.refl _))) ?_ ?_; (focus (repeat' ((exact trivial)))); ((refine (x_tkg (bts 13 2287) 3 rfl (by kernel_rfl) rfl (Gh.le.refl _) (by repeat ((exact List.Sublist.refl _)))) (g_ld rfl rfl rfl) rfl rfl ?_)); ((refine (x_tkg (bts 13 2303) 4 rfl (by kernel_rfl) rfl (Gh.le.refl _) (by repeat ((exact List.Sublist.refl _)))) (g_cap rfl) rfl rfl ?_)); ((refine (x_tkg (bts 13 2559) 8 rfl (by kernel_rfl) rfl (Gh.le.refl _) (by repeat ((exact List.Sublist.refl _)))) (g_ld rfl rfl rfl) rfl rfl ?_)); ((refine (x_tkg (bts 13 3071) 9 rfl (by kernel_rfl) rfl (Gh.le.refl _) (by repeat ((exact List.Sublist.refl _)))) (g_lenL rfl) rfl rfl ?_)); refine x_tks (t := tb) (fuel := 0) [10, 12] (bts 13 8191) (by kernel_rfl) (by kernel_rfl) rfl rfl (Gh.le.refl _) (by repeat ((exact List.Sublist.refl _))) ?_ ?_; (focus (repeat' (first | exact trivial | apply And.intro | omega))); refine x_done (by kernel_rfl) (k_bk ?_)))
  exact k_re (vs := []) rfl trivial rfl (List.Sublist.refl _) ⟨rfl, _, _, rfl⟩
theorem c_wstr {b b1 c1 m : Nat} {xs : List Value} {l : List UInt8} (hm : m + l.length ≤ 1000000000) : FnG Tryz.prog 105 [Pt b 0, S l] G [.blk b (.cells (List.toArray [Pt b 0, .slice (some ⟨b1, 0, none⟩) m (c1 + 1)]) tBld (0, 0)), .acc (.slice (some ⟨b1, 0, none⟩) m (c1 + 1)) tByt 1 m xs]
    (fun r L' => ∃ b2 c2, r = Tu [I l.length, .nilIface] ∧ L' = [.acc (.slice (some ⟨b2, 0, none⟩) (m + l.length) (c2 + 1)) tByt 1 (m + l.length) (xs ++ u8s l), .blk b (.cells (List.toArray [Pt b 0, .slice (some ⟨b2, 0, none⟩) (m + l.length) (c2 + 1)]) tBld (0, 0))]) := by
  refine g_enter [(0, _), (1, _)] Tryz.func105 (by kernel_rfl) Tryz.ntmps105 rfl rfl (by repeat (first | exact trivial | refine ⟨rfl, ?_⟩)) fun B hB hW => ?_
  repeat' (first | (refine run (t := tb) 400 rfl ?_ ?_; (focus (repeat' ((exact trivial))))) | (refine k_op rfl ?_; first | refine v_op (g_ld rfl rfl rfl) rfl rfl ?_ | (refine c_apS rfl rfl rfl ?_ fun _ _ => ?_; (focus ((omega); done))) | refine c_st1 rfl rfl rfl rfl ?_ | (refine c_m1g rfl rfl rfl c_ccU rfl ?_; rintro _ _ rfl; dsimp only [List.cons_append, List.nil_append])))
  exact k_rr (vs := [_, _]) rfl ⟨rfl, rfl, trivial⟩ rfl (List.Sublist.refl _) ⟨rfl, _, _, rfl, rfl⟩
theorem c_bstr {b b1 c1 m : Nat} {l : List UInt8} (hm : m ≤ 1000000000) : FnG Tryz.prog 106 [Pt b 0] G [.blk b (.cells (List.toArray [Pt b 0, .slice (some ⟨b1, 0, none⟩) m (c1 + 1)]) tBld (0, 0)), .acc (.slice (some ⟨b1, 0, none⟩) m (c1 + 1)) tByt 1 m (u8s l)]
    (fun r L' => r = S l ∧ L' = []) := by
  refine g_enter [(0, _)] Tryz.func106 (by kernel_rfl) Tryz.ntmps106 rfl rfl (by repeat (first | exact trivial | refine ⟨rfl, ?_⟩)) fun B hB hW => ?_
  
  repeat' ((refine run (t := tb) 400 rfl ?_ ?_; (focus (repeat' ((exact trivial))))))
  (refine k_any (s_any (id := 1) [.blk b (.cells (List.toArray [Pt b 0, .slice (some ⟨b1, 0, none⟩) m (c1 + 1)]) tBld (0, 0))] (by intro y hy; simp only [List.mem_cons, List.not_mem_nil, or_false] at hy ⊢; simp [hy]) mixed ?_); refine x_tks (t := tb) (fuel := 6) [0, 1, 2, 5, 6, 7] (bts 12 231) (by kernel_rfl) (by kernel_rfl) rfl rfl (Gh.le.refl _) (by repeat (first | exact List.nil_sublist _ | apply List.Sublist.cons_cons)) ?_ ?_; (focus (repeat' ((exact trivial)))); ((refine (x_tkg (bts 12 239) 3 rfl (by kernel_rfl) rfl (Gh.le.refl _) (by repeat (first | exact List.nil_sublist _ | apply List.Sublist.cons_cons))) (g_ld rfl rfl rfl) rfl rfl ?_)); ((refine (x_tkg (bts 12 255) 4 rfl (by kernel_rfl) rfl (Gh.le.refl _) (by repeat (first | exact List.nil_sublist _ | apply List.Sublist.cons_cons))) (g_sdat rfl rfl) rfl rfl ?_)); ((refine (x_tkg (bts 12 511) 8 rfl (by kernel_rfl) rfl (Gh.le.refl _) (by repeat (first | exact List.nil_sublist _ | apply List.Sublist.cons_cons))) (g_ld rfl rfl rfl) rfl rfl ?_)); ((refine (x_tkg (bts 12 1023) 9 rfl (by kernel_rfl) rfl (Gh.le.refl _) (by repeat (first | exact List.nil_sublist _ | apply List.Sublist.cons_cons))) (g_lenL rfl) rfl rfl ?_)); refine x_all [10] (by kernel_rfl) (by decide) ⟨?_, trivial⟩; refine x_opg rfl rfl ?_; ((refine c_ustr (by kernel_rfl) rfl rfl rfl ?_ ?_; (focus ((omega); done)))); refine x_ks (by (exact Gh.le.refl _)) (by repeat ((exact List.Sublist.refl _))) (listed' := (bts 12 2047)) (by kernel_rfl) ?_; refine x_tks (t := tb) (fuel := 0) [11] (bts 12 4095) (by kernel_rfl) (by kernel_rfl) rfl rfl (Gh.le.refl _) (by repeat ((exact List.Sublist.refl _))) ?_ ?_; (focus (repeat' ((exact trivial)))); refine x_done (by kernel_rfl) (k_bk ?_))
  
  repeat' ((refine run (t := tb) 400 rfl ?_ ?_; (focus (repeat' ((exact trivial))))))
  refine k_rr (vs := [_]) rfl ⟨rfl, trivial⟩ rfl (List.nil_sublist _) ⟨rfl, rfl, ?_⟩
  rfl
def lensT (xs : List (List UInt8)) : Nat := (xs.map List.length).sum
theorem lensT_snoc (xs : List (List UInt8)) (x : List UInt8) : lensT (xs ++ [x]) = lensT xs + x.length := by simp [lensT]
theorem lensT_take : ∀ (xs : List (List UInt8)) (i : Nat), lensT (xs.take i) ≤ lensT xs
  | [], i => by simp [lensT]
  | x :: xs, 0 => by simp [lensT]
  | x :: xs, i + 1 => by
    have := lensT_take xs i
    simp only [lensT, List.take_succ_cons, List.map_cons, List.sum_cons] at this ⊢; omega
theorem joinB_snoc (c : UInt8) (y : List UInt8) : ∀ (xs : List (List UInt8)), xs ≠ [] → joinB c (xs ++ [y]) = joinB c xs ++ c :: y
  | [], h => absurd rfl h
  | [x], _ => by simp [joinB]
  | x :: z :: r, _ => by
    have := joinB_snoc c y (z :: r) (by simp)
    simp only [List.cons_append, joinB] at this ⊢
    rw [this]; simp
theorem joinB_len (c : UInt8) : ∀ (xs : List (List UInt8)), (joinB c xs).length ≤ lensT xs + xs.length
  | [] => by simp [joinB]
  | [x] => by simp [joinB, lensT]
  | x :: z :: r => by
    have := joinB_len c (z :: r)
    simp only [joinB, lensT, List.map_cons, List.sum_cons, List.length_append, List.length_cons] at this ⊢; omega
theorem Nx.cast {n : Nat} {D : List Deferred} {E : Env} {B : Base} {L L' : List Own} {K : Act → World → Prop} (e : L = L') (h : Nx n D E B G L' K) : Nx n D E B G L K := by subst e; exact h
theorem SlV.cap {G : Gh} {p : Option Addr} {c sz m : Nat} {xs : List Value} (h : SlV G (.slice p m c) sz m xs) : m ≤ c := by
  obtain ⟨_, ⟨h1, h2⟩ | ⟨b, o, cap, e, h1, _⟩⟩ := h
  · omega
  · simp only [Value.slice.injEq, true_and] at e; omega
theorem Seg.tailS {G : Gh} {b o : Nat} {xs : List (List UInt8)} (h : Seg G b o (rows strF xs)) : Seg G b (o + 1) (rows strF (xs.drop 1)) := by
  cases xs with
  | nil => obtain ⟨cs, h1, _⟩ := h; exact ⟨cs, h1, fun i v hv => by simp [rows] at hv⟩
  | cons x r =>
    obtain ⟨cs, h1, h2⟩ := h
    refine ⟨cs, h1, fun i v hv => ?_⟩
    have := h2 (i + 1) v (by simpa [rows, strF] using hv)
    rw [show o + 1 + i = o + (i + 1) by omega]; exact this
theorem nth_drop1 (xs : List (List UInt8)) (i : Nat) : nth (xs.drop 1) i = nth xs (i + 1) := by
  cases xs with
  | nil => simp [nth]
  | cons x r => simp [nth, List.getD]
theorem lensT_nth {xs : List (List UInt8)} {i : Nat} (h : i < xs.length) : lensT (xs.take (i + 1)) = lensT (xs.take i) + (nth xs i).length := by
  rw [take_nth h, lensT_snoc]
theorem c_Join {v : Value} {xs : List (List UInt8)} {c : UInt8} (hs : SlV G v 1 xs.length (rows strF xs)) (hl : lensT xs + xs.length ≤ 100000000) : PuG Tryz.prog 91 [v, S [c]] G (· = S (joinB c xs)) := by
  by_cases h0 : xs = []
  · subst h0
    refine p_enter [(0, _), (1, _)] Tryz.func91 (by kernel_rfl) Tryz.ntmps91 rfl rfl (by repeat (first | exact trivial | refine ⟨rfl, ?_⟩)) fun B hB => ?_
    repeat' (first | (refine run (t := tb) 400 rfl ?_ ?_; (focus (repeat' ((exact trivial))))) | (refine k_op rfl ?_; (refine v_op (g_lenV rfl (by assumption)) rfl rfl ?_)) | (refine k_tt rfl ?_ ?_; (focus (((rfl)); done))))
    refine k_rr (vs := [_]) rfl ⟨rfl, trivial⟩ rfl (List.nil_sublist _) ⟨rfl, rfl, ?_⟩
    rfl
  have hpos := List.length_pos_iff.2 h0
  obtain ⟨bv, ov, cv, rfl, hsv⟩ := hs.expl (by omega)
  by_cases h1 : xs.length = 1
  · obtain ⟨x, rfl⟩ := List.length_eq_one_iff.1 h1
    refine p_enter [(0, _), (1, _)] Tryz.func91 (by kernel_rfl) Tryz.ntmps91 rfl rfl (by repeat (first | exact trivial | refine ⟨rfl, ?_⟩)) fun B hB => ?_
    repeat' (first | (refine run (t := tb) 400 rfl ?_ ?_; (focus (repeat' ((exact trivial))))) | (refine k_op rfl ?_; first | refine v_op (g_lenL rfl) rfl rfl ?_ | (refine v_op (g_iaddrN rfl rfl ?_) rfl rfl ?_; (focus ((omega); done))) | refine v_op (g_ldS rfl rfl (by assumption) rfl rfl) rfl rfl ?_) | (refine k_tt rfl ?_ ?_; (focus (((rfl)); done))) | (refine k_ff rfl ?_ ?_; (focus (((rfl)); done))))
    refine k_rr (vs := [_]) rfl ⟨rfl, trivial⟩ rfl (List.nil_sublist _) ⟨rfl, rfl, ?_⟩
    rfl
  have hcap := hs.cap
  have hq : ¬ (9223372036854775807 / ((xs.length : Int) - 1) ≤ ((([c] : List UInt8).length : Nat) : Int)) := by
    have : (2 : Int) ≤ 9223372036854775807 / ((xs.length : Int) - 1) := Int.le_ediv_of_mul_le (by omega) (by omega)
    have e : ((([c] : List UInt8).length : Nat) : Int) = 1 := rfl
    omega
  have e1 : ((([c] : List UInt8).length : Nat) : Int) * ((xs.length : Int) - 1) = (xs.length : Int) - 1 := by
    have e : ((([c] : List UInt8).length : Nat) : Int) = 1 := rfl
    rw [e]; omega
  have p1 : ((([c] : List UInt8).length : Nat) : Int) * ((xs.length : Int) - 1) ≤ 9223372036854775807 := by rw [e1]; omega
  have p2 : -9223372036854775808 ≤ ((([c] : List UInt8).length : Nat) : Int) * ((xs.length : Int) - 1) := by rw [e1]; omega
  have p3 : 0 + ((([c] : List UInt8).length : Nat) : Int) * ((xs.length : Int) - 1) ≤ 9223372036854775807 := by rw [e1]; omega
  have p4 : -9223372036854775808 ≤ 0 + ((([c] : List UInt8).length : Nat) : Int) * ((xs.length : Int) - 1) := by rw [e1]; omega
  refine p_enter [(0, _), (1, _)] Tryz.func91 (by kernel_rfl) Tryz.ntmps91 rfl rfl (by repeat (first | exact trivial | refine ⟨rfl, ?_⟩)) fun B hB => ?_
  repeat' (first | (refine run (t := tb) 400 rfl ?_ ?_; (focus (repeat' (first | exact trivial | apply And.intro | omega)))) | (refine k_op rfl ?_; (refine v_op (g_lenL rfl) rfl rfl ?_)) | (refine k_tt rfl ?_ ?_; (focus (((rfl)); done))) | (refine k_ff rfl ?_ ?_; (focus (((refine decide_eq_false ?_; first | assumption | omega)); done))))
  refine Nx.re (d := 5) (v' := I ((xs.length : Int) - 1 + (lensT (xs.take 0) : Nat))) rfl (congrArg (Value.int .i64) (by rw [e1]; simp [lensT])) ?_
  refine k_loop (ι := Nat) (fun i => i ≤ xs.length) (fun i => [(0, .slice (some ⟨bv, ov, none⟩) xs.length cv), (1, S [c]), (39, .slice (some ⟨bv, ov, none⟩) xs.length cv), (40, I xs.length), (41, I i), (5, I ((xs.length : Int) - 1 + (lensT (xs.take i) : Nat)))]) (fun _ => G) (fun i => []) (fun i => xs.length - i) 0 ?_ (by repeat (first | exact trivial | refine ⟨rfl, ?_⟩)) rfl (by repeat ((exact List.Sublist.refl _))) (fun i Hi => ?_)
  · exact Nat.zero_le _
  have hb1 := lensT_take xs i
  by_cases hi : i < xs.length
  · have hb2 := lensT_nth hi
    have hb3 := lensT_take xs (i + 1)
    repeat' (first | (refine run (t := tb) 400 rfl ?_ ?_; (focus (repeat' (first | exact trivial | apply And.intro | omega)))) | (refine k_op rfl ?_; first | (refine v_op (g_iaddrN rfl rfl ?_) rfl rfl ?_; (focus ((omega); done))) | (refine v_op (g_ldRS rfl rfl (by assumption) ?_) rfl rfl ?_; (focus (((omega)); done)))) | (refine k_tt rfl ?_ ?_; (focus (((refine decide_eq_true ?_; (omega))); done))) | (refine k_ff rfl ?_ ?_; (focus (((refine decide_eq_false ?_; (omega))); done))))
    refine Nx.re (d := 5) (v' := I ((xs.length : Int) - 1 + (lensT (xs.take (i + 1)) : Nat))) rfl (congrArg (Value.int .i64) (by rw [hb2]; omega)) ?_
    exact k_rd (i + 1) (by omega) (by omega) (by repeat (first | exact trivial | refine ⟨rfl, ?_⟩)) rfl (by repeat ((exact List.Sublist.refl _)))
  have hin : i = xs.length := by omega
  subst hin
  rw [List.take_length] at *
  refine Nx.re (d := 5) (v' := I ((xs.length - 1 + lensT xs : Nat) : Int)) rfl (congrArg (Value.int .i64) (by omega)) ?_
  have hb0 : (nth xs 0).length ≤ lensT xs := by have := lensT_nth (i := 0) hpos; have := lensT_take xs (0 + 1); omega
  have hw0 : 0 + (nth xs 0).length ≤ 1000000000 := by omega
  have hsv1 := hsv.tailS
  have hdl : (xs.drop 1).length = xs.length - 1 := by rw [List.length_drop]
  have eJ0 : joinB c (xs.take (0 + 1)) = nth xs 0 := by rw [take_nth hpos]; rfl
  repeat' (first | (refine run (t := tb) 400 rfl ?_ ?_; (focus (repeat' ((exact trivial))))) | (refine k_op rfl ?_; first | refine v_op (g_lenL rfl) rfl rfl ?_ | (refine v_op (g_iaddrN rfl rfl ?_) rfl rfl ?_; (focus ((omega); done))) | (refine v_op (g_ldRS rfl rfl (by assumption) ?_) rfl rfl ?_; (focus (((omega)); done))) | refine c_al rfl rfl fun _ => ?_ | (refine v_op (g_slF rfl rfl ?_) rfl rfl ?_; (focus ((omega); done))) | (refine c_m1g rfl rfl rfl (c_GrowB (by omega)) rfl ?_; rintro _ _ ⟨b2, c2, rfl⟩; dsimp only [List.cons_append, List.nil_append]) | (refine c_m2g rfl rfl rfl (c_wstr (by (repeat ((assumption))); done)) rfl ?_; rintro _ _ ⟨b3, c3, rfl, rfl⟩; dsimp only [List.cons_append, List.nil_append])) | (refine k_ff rfl ?_ ?_; (focus (((refine decide_eq_false ?_; (omega))); done))))
  rename_i x _
  refine Nx.cast (L' := [.acc (.slice (some ⟨b3, 0, none⟩) (joinB c (xs.take (0 + 1))).length (c3 + 1)) tByt 1 (joinB c (xs.take (0 + 1))).length (u8s (joinB c (xs.take (0 + 1)))), .blk x (.cells (List.toArray [Pt x 0, .slice (some ⟨b3, 0, none⟩) (joinB c (xs.take (0 + 1))).length (c3 + 1)]) tBld (0, 0))]) (by rw [eJ0]; simp only [Nat.zero_add]) ?_
  refine k_loop (ι := Nat × Nat × Nat) (fun q => q.1 ≤ xs.length - 1) (fun q => [(1, S [c]), (63, .slice (some ⟨bv, ov + 1, none⟩) (xs.length - 1) (cv - 1)), (64, I (xs.length - 1 : Nat)), (65, I q.1), (8, Pt x 0)]) (fun _ => G) (fun q => [.acc (.slice (some ⟨q.2.1, 0, none⟩) (joinB c (xs.take (q.1 + 1))).length (q.2.2 + 1)) tByt 1 (joinB c (xs.take (q.1 + 1))).length (u8s (joinB c (xs.take (q.1 + 1)))), .blk x (.cells (List.toArray [Pt x 0, .slice (some ⟨q.2.1, 0, none⟩) (joinB c (xs.take (q.1 + 1))).length (q.2.2 + 1)]) tBld (0, 0))]) (fun q => xs.length - q.1) (0, b3, c3) ?_ (by repeat (first | exact trivial | refine ⟨rfl, ?_⟩)) rfl (by repeat ((exact List.Sublist.refl _))) (fun q Hq => ?_)
  · exact Nat.zero_le _
  obtain ⟨i, b4, c4⟩ := q
  dsimp only at Hq ⊢
  have hj1 := joinB_len c (xs.take (i + 1))
  have hj2 := lensT_take xs (i + 1)
  have hj3 : (xs.take (i + 1)).length ≤ xs.length := by rw [List.length_take]; omega
  by_cases hi2 : i < xs.length - 1
  · have hwA : (joinB c (xs.take (i + 1))).length + ([c] : List UInt8).length ≤ 1000000000 := by rw [List.length_singleton]; omega
    have hy1 := lensT_nth (xs := xs) (i := i + 1) (by omega)
    have hy2 := lensT_take xs (i + 1 + 1)
    have hwB : (joinB c (xs.take (i + 1))).length + ([c] : List UInt8).length + (nth (xs.drop 1) i).length ≤ 1000000000 := by rw [nth_drop1, List.length_singleton]; omega
    have ej : joinB c (xs.take (i + 1 + 1)) = joinB c (xs.take (i + 1)) ++ c :: nth (xs.drop 1) i := by
      rw [take_nth (by omega), joinB_snoc c _ _ (by rw [ne_eq, List.take_eq_nil_iff]; simp [h0]), nth_drop1]
    repeat' (first | (refine run (t := tb) 400 rfl ?_ ?_; (focus (repeat' (first | exact trivial | apply And.intro | omega)))) | (refine k_op rfl ?_; first | (refine v_op (g_iaddrN rfl rfl ?_) rfl rfl ?_; (focus ((omega); done))) | (refine v_op (g_ldRS rfl rfl (by assumption) ?_) rfl rfl ?_; (focus (((omega)); done))) | (refine c_m2g rfl rfl rfl (c_wstr (by (repeat ((assumption))); done)) rfl ?_; rintro _ _ ⟨b3, c3, rfl, rfl⟩; dsimp only [List.cons_append, List.nil_append])) | (refine k_tt rfl ?_ ?_; (focus (((refine decide_eq_true ?_; (omega))); done))))
    refine Nx.cast (L' := [.acc (.slice (some ⟨b3, 0, none⟩) (joinB c (xs.take (i + 1 + 1))).length (c3 + 1)) tByt 1 (joinB c (xs.take (i + 1 + 1))).length (u8s (joinB c (xs.take (i + 1 + 1)))), .blk x (.cells (List.toArray [Pt x 0, .slice (some ⟨b3, 0, none⟩) (joinB c (xs.take (i + 1 + 1))).length (c3 + 1)]) tBld (0, 0))]) (by
      have e2 : (joinB c (xs.take (i + 1 + 1))).length = (joinB c (xs.take (i + 1))).length + ([c] : List UInt8).length + (nth (xs.drop 1) i).length := by rw [ej]; simp; omega
      have e3 : u8s (joinB c (xs.take (i + 1 + 1))) = u8s (joinB c (xs.take (i + 1))) ++ u8s [c] ++ u8s (nth (xs.drop 1) i) := by rw [ej]; simp [u8s]
      rw [e2, e3]) ?_
    exact k_rd (i + 1, b3, c3) (by dsimp only; omega) (by dsimp only; omega) (by repeat (first | exact trivial | refine ⟨rfl, ?_⟩)) rfl (by repeat ((exact List.Sublist.refl _)))
  · have ei : xs.take (i + 1) = xs := List.take_of_length_le (by omega)
    rw [ei] at hj1 ⊢
    repeat' (first | (refine run (t := tb) 400 rfl ?_ ?_; (focus (repeat' ((exact trivial))))) | (refine k_op rfl ?_; (refine c_m2g rfl rfl rfl (c_bstr (by omega)) rfl ?_; rintro _ _ ⟨rfl, rfl⟩; dsimp only [List.cons_append, List.nil_append])) | (refine k_ff rfl ?_ ?_; (focus (((refine decide_eq_false ?_; (omega))); done))))
    refine k_rr (vs := [_]) rfl ⟨rfl, trivial⟩ rfl (List.nil_sublist _) ⟨rfl, rfl, ?_⟩
    rfl
end Go.E
/-! Wb -/
namespace Go.E
set_option maxRecDepth 20000
set_option maxHeartbeats 2000000
open Go.Proofs
/-- A value of the program, laid down. -/
structure VC where
  what : Nat
  text : List UInt8
  tag : Int
  a : Option Addr
  n : Nat
  c : Nat
instance : Inhabited VC := ⟨⟨0, [], 0, none, 0, 0⟩⟩
abbrev VC.sl (v : VC) : Value := .slice v.a v.n v.c
def vcF (v : VC) : List Value := [U8 (v.what : Nat), S v.text, I v.tag, v.sl]
instance : RowF vcF 4 := ⟨fun _ => rfl⟩
mutual
def V.rep (G : Gh) : V → VC → Prop
  | .nd w x t ks, c => (c.what = w ∧ w ≤ 255) ∧ c.text = x ∧ (c.tag = t ∧ 0 ≤ t ∧ t ≤ 999999) ∧ (c.n = ks.length ∧ (w = 61 → ks.length = 1)) ∧ ∃ cs, SlV G c.sl 4 cs.length (rows vcF cs) ∧ V.reps G ks cs
def V.reps (G : Gh) : List V → List VC → Prop
  | [], cs => cs = []
  | v :: r, cs => ∃ c cs', cs = c :: cs' ∧ V.rep G v c ∧ V.reps G r cs'
end
theorem reps_len {G : Gh} : ∀ {ks : List V} {cs : List VC}, V.reps G ks cs → cs.length = ks.length
  | [], cs, h => by rw [V.reps] at h; subst h; rfl
  | v :: r, cs, h => by
    rw [V.reps] at h
    obtain ⟨c, cs', rfl, _, h2⟩ := h
    rw [List.length_cons, List.length_cons, reps_len h2]
theorem reps_nth {G : Gh} : ∀ {ks : List V} {cs : List VC}, V.reps G ks cs → ∀ i, i < ks.length → V.rep G (nth ks i) (nth cs i)
  | [], _, _, i, hi => by simp at hi
  | v :: r, cs, h, i, hi => by
    rw [V.reps] at h
    obtain ⟨c, cs', rfl, h1, h2⟩ := h
    cases i with
    | zero => exact h1
    | succ i => exact reps_nth h2 i (by simpa using hi)
theorem reps_snoc {G : Gh} {v : V} {c : VC} (h2 : V.rep G v c) : ∀ {ks : List V} {cs : List VC}, V.reps G ks cs → V.reps G (ks ++ [v]) (cs ++ [c])
  | [], cs, h => by
    rw [V.reps] at h; subst h
    exact ⟨c, [], rfl, h2, rfl⟩
  | u :: r, cs, h => by
    rw [V.reps] at h
    obtain ⟨d, cs', rfl, h1, h3⟩ := h
    exact ⟨d, cs' ++ [c], rfl, h1, reps_snoc h2 h3⟩
mutual
theorem rep_mono {G G' : Gh} (hl : Gh.le G G') : ∀ {v : V} {c : VC}, V.rep G v c → V.rep G' v c
  | .nd w x t ks, c, h => by
    rw [V.rep] at h ⊢
    obtain ⟨h1, h2, h3, h4, cs, h5, h6⟩ := h
    exact ⟨h1, h2, h3, h4, cs, h5.mono hl, reps_mono hl h6⟩
theorem reps_mono {G G' : Gh} (hl : Gh.le G G') : ∀ {ks : List V} {cs : List VC}, V.reps G ks cs → V.reps G' ks cs
  | [], cs, h => h
  | v :: r, cs, h => by
    rw [V.reps] at h ⊢
    obtain ⟨c, cs', e, h1, h2⟩ := h
    exact ⟨c, cs', e, rep_mono hl h1, reps_mono hl h2⟩
end
/-- A value that lies there, opened. -/
theorem rep_inv {G : Gh} {w : Nat} {x : List UInt8} {t : Int} {ks : List V} {c : VC} (h : V.rep G (.nd w x t ks) c) : ∃ (a : Option Addr) (k : Nat) (cs : List VC), c = ⟨w, x, t, a, ks.length, k⟩ ∧ w ≤ 255 ∧ (0 ≤ t ∧ t ≤ 999999) ∧ (w = 61 → ks.length = 1) ∧ cs.length = ks.length ∧ SlV G (.slice a ks.length k) 4 cs.length (rows vcF cs) ∧ V.reps G ks cs := by
  rw [V.rep] at h
  obtain ⟨⟨h1, h1'⟩, h2, ⟨h3, h3'⟩, ⟨h4, h4'⟩, cs, h5, h6⟩ := h
  obtain ⟨w', x', t', a, n, k⟩ := c
  dsimp only at h1 h2 h3 h4 h5
  subst h1; subst h2; subst h3; subst h4
  exact ⟨a, k, cs, rfl, h1', h3', h4', reps_len h6, h5, h6⟩
theorem rep_mk {G : Gh} {w : Nat} {x : List UInt8} {t : Int} {ks : List V} {a : Option Addr} {k m : Nat} {cs : List VC} (hw : w ≤ 255) (ht : 0 ≤ t ∧ t ≤ 999999) (h61 : w = 61 → ks.length = 1) (hm : m = ks.length) (hs : SlV G (.slice a m k) 4 cs.length (rows vcF cs)) (hk : V.reps G ks cs) : V.rep G (.nd w x t ks) ⟨w, x, t, a, m, k⟩ := by
  rw [V.rep]; exact ⟨⟨rfl, hw⟩, rfl, ⟨rfl, ht⟩, ⟨hm, h61⟩, cs, hs, hk⟩
theorem slv_nil {G : Gh} : SlV G nilS 4 ([] : List VC).length (rows vcF []) := ⟨rfl, .inl ⟨rfl, rfl⟩⟩
/-- A value without parts. -/
theorem rep_leaf {G : Gh} {w : Nat} {x : List UInt8} {t : Int} (hw : w ≤ 255 ∧ w ≠ 61) (ht : 0 ≤ t ∧ t ≤ 999999) : V.rep G (.nd w x t []) ⟨w, x, t, none, 0, 0⟩ := rep_mk hw.1 ht (fun h => absurd h hw.2) rfl slv_nil rfl
theorem outs_get : ∀ {ks : List V} {i : Nat}, i < ks.length → nth (V.outs ks) i = (nth ks i).out
  | [], i, h => by simp at h
  | v :: r, 0, _ => rfl
  | v :: r, i + 1, h => by
    have := outs_get (ks := r) (i := i) (by simpa using h)
    simpa [V.outs, nth] using this
theorem outs_len (ks : List V) : (V.outs ks).length = ks.length := by rw [V.outs_map]; simp
theorem tot_nth {ks : List V} {i : Nat} (h : i < ks.length) : V.tot (nth ks i) ≤ V.tots ks := by
  rw [nth_eq h]; exact tots_mem (List.getElem_mem h)
theorem decI_len6' {t : Int} (h : t ≤ 999999) : (decI t).length ≤ 19 := decI_len (by omega)
/-- A text is no longer than its value is great. -/
theorem outW_len {w : Nat} {x : List UInt8} {t : Int} {e : Bool} {j : List UInt8} (ht : t ≤ 999999) : (outW w x t e j).length ≤ 25 + x.length + j.length := by
  have hd := decI_len6' ht
  unfold outW
  split
  · simp; omega
  split
  · simp; omega
  split
  · split
    · simp; omega
    · simp; omega
  split
  · simp; omega
  split
  · simp; omega
  split
  · simp; omega
  split
  · simp; omega
  · omega
mutual
theorem out_tot {G : Gh} : ∀ {v : V} {c : VC}, V.rep G v c → v.out.length + 1 ≤ 2 * v.tot
  | .nd w x t ks, c, h => by
    rw [V.rep] at h
    obtain ⟨_, _, ⟨_, h3⟩, _, cs, _, h6⟩ := h
    have h1 := outs_tot h6
    have h2 := joinB_len 44 (V.outs ks)
    rw [outs_len] at h2
    have h4 := outW_len (w := w) (x := x) (e := ks.isEmpty) (j := joinB 44 (V.outs ks)) h3.2
    have h5 := tots_len ks
    rw [V.out, V.tot]
    omega
theorem outs_tot {G : Gh} : ∀ {ks : List V} {cs : List VC}, V.reps G ks cs → lensT (V.outs ks) + ks.length ≤ 2 * V.tots ks
  | [], cs, h => by simp [V.outs, lensT]
  | v :: r, cs, h => by
    rw [V.reps] at h
    obtain ⟨c, cs', _, h1, h2⟩ := h
    have h3 := out_tot h1
    have h4 := outs_tot h2
    simp only [V.outs, lensT, List.map_cons, List.sum_cons, V.tots, List.length_cons] at *
    omega
end
end Go.E
/-! Nb -/
namespace Go.E
set_option maxRecDepth 20000
set_option maxHeartbeats 2000000
open Go.Proofs
variable {G : Gh}
/-- Is a byte one of a text? -/
def inS (cs : List UInt8) (c : Nat) : Bool := cs.any fun d => d.toNat == c
def trimL (p : Nat → Bool) : List UInt8 → List UInt8
  | [] => []
  | c :: r => if p c.toNat = true then trimL p r else c :: r
def trimR (p : Nat → Bool) (s : List UInt8) : List UInt8 := (trimL p s.reverse).reverse
abbrev tAs : TypeId := 118
abbrev bT : TypeId := 4
def asO (b : Nat) (p : Nat → Bool) : Own := .blk b (.cells (bools p).toArray tAs (0, 0))
theorem c_asContains {b : Nat} {p : Nat → Bool} {c : Nat} (h : c < 256) : FnG Tryz.prog 84 [Pt b 0, U8 c] G [.blk b (.cells (bools p).toArray tAs (0, 0))] (fun v L' => v = Bo (p c) ∧ L' = [.blk b (.cells (bools p).toArray tAs (0, 0))]) := by
  refine g_enter [(0, _), (1, _)] Tryz.func84 (by kernel_rfl) Tryz.ntmps84 rfl rfl (by repeat (first | exact trivial | refine ⟨rfl, ?_⟩)) fun B hB hW => ?_
  repeat' (first | (refine run (t := tb) 400 rfl ?_ ?_; (focus (repeat' ((exact trivial))))) | (refine k_op rfl ?_; first | (refine v_op (g_iaddrA rfl rfl ?_) rfl rfl ?_; (focus ((omega); done))) | refine v_op (g_ldBo rfl rfl rfl (by assumption)) rfl rfl ?_))
  refine k_rr (vs := [_]) rfl ⟨rfl, trivial⟩ rfl (List.Sublist.refl _) ⟨rfl, rfl, rfl⟩
theorem bt0_cons {s : List UInt8} (h : s ≠ []) : ∃ c r, s = c :: r ∧ bt s 0 = c.toNat := by
  cases s with
  | nil => exact absurd rfl h
  | cons c r => exact ⟨c, r, rfl, bt_zero c r⟩
theorem c_trimLeftASCII {b : Nat} {p : Nat → Bool} {s : List UInt8} : FnG Tryz.prog 66 [S s, Pt b 0] G [.blk b (.cells (bools p).toArray tAs (0, 0))] (fun v L' => v = S (trimL p s) ∧ L' = [.blk b (.cells (bools p).toArray tAs (0, 0))]) := by
  refine g_enter [(0, _), (1, _)] Tryz.func66 (by kernel_rfl) Tryz.ntmps66 rfl rfl (by repeat (first | exact trivial | refine ⟨rfl, ?_⟩)) fun B hB hW => ?_
  repeat' ((refine run (t := tb) 400 rfl ?_ ?_; (focus (repeat' ((exact trivial))))))
  refine k_loop (ι := List UInt8) (fun t => trimL p t = trimL p s) (fun t => [(0, S t), (1, Pt b 0)]) (fun _ => G) (fun t => [.blk b (.cells (bools p).toArray tAs (0, 0))]) (fun t => t.length) s ?_ (by repeat (first | exact trivial | refine ⟨rfl, ?_⟩)) rfl (by repeat ((exact List.Sublist.refl _))) (fun t Ht => ?_)
  · rfl
  match t, Ht with
  | [], Ht =>
    repeat' (first | (refine run (t := tb) 400 rfl ?_ ?_; (focus (repeat' ((exact trivial))))) | (refine k_ff rfl ?_ ?_; (focus (((rfl)); done))))
    refine k_rr (vs := [_]) rfl ⟨rfl, trivial⟩ rfl (List.Sublist.refl _) ⟨rfl, by rw [← Ht]; rfl, rfl⟩
  | c :: r, Ht =>
    have hlt : bt (c :: r) (Int.toNat 0) < 256 := bt_lt _ _
    have e0 : bt (c :: r) (Int.toNat 0) = c.toNat := bt_zero c r
    have hcons : (c :: r).length = r.length + 1 := rfl
    rw [trimL] at Ht
    by_cases hp : p (bt (c :: r) (Int.toNat 0)) = true
    · have hp2 : (!p (bt (c :: r) (Int.toNat 0))) = false := by rw [hp]; rfl
      repeat' (first | (refine run (t := tb) 400 rfl ?_ ?_; (focus (repeat' (first | exact trivial | apply And.intro | omega)))) | (refine k_op rfl ?_; (refine c_m1g rfl rfl rfl (c_asContains (by (repeat ((assumption))); done)) rfl ?_; rintro _ _ ⟨rfl, rfl⟩; dsimp only [List.cons_append, List.nil_append])) | (refine k_tt rfl ?_ ?_; (focus (((refine decide_eq_true ?_; (omega))); done))) | (refine k_ff rfl ?_ ?_; (focus (((assumption)); done))))
      refine k_rd r (by rw [← Ht, ← e0, if_pos hp]) (by omega) (by repeat (first | exact trivial | refine ⟨rfl, ?_⟩)) rfl (by repeat ((exact List.Sublist.refl _)))
    · have hp2 : (!p (bt (c :: r) (Int.toNat 0))) = true := by simpa using hp
      repeat' (first | (refine run (t := tb) 400 rfl ?_ ?_; (focus (repeat' (first | exact trivial | apply And.intro | omega)))) | (refine k_op rfl ?_; (refine c_m1g rfl rfl rfl (c_asContains (by (repeat ((assumption))); done)) rfl ?_; rintro _ _ ⟨rfl, rfl⟩; dsimp only [List.cons_append, List.nil_append])) | (refine k_tt rfl ?_ ?_; (focus ((first | assumption | (refine decide_eq_true ?_; (omega))); done))))
      refine k_rr (vs := [_]) rfl ⟨rfl, trivial⟩ rfl (List.Sublist.refl _) ⟨rfl, by rw [← Ht, ← e0, if_neg hp]; rfl, rfl⟩
theorem trimL_len (p : Nat → Bool) : ∀ s : List UInt8, (trimL p s).length ≤ s.length
  | [] => Nat.le_refl _
  | c :: r => by
    unfold trimL
    split
    · have := trimL_len p r; simp; omega
    · exact Nat.le_refl _
theorem trimR_len (p : Nat → Bool) (s : List UInt8) : (trimR p s).length ≤ s.length := by have := trimL_len p s.reverse; simpa [trimR] using this
theorem trimR_snoc (p : Nat → Bool) (s : List UInt8) (c : UInt8) : trimR p (s ++ [c]) = if p c.toNat = true then trimR p s else s ++ [c] := by
  unfold trimR
  rw [List.reverse_append]
  simp only [List.reverse_cons, List.reverse_nil, List.nil_append, List.singleton_append, trimL]
  split <;> simp
theorem c_trimRightASCII {b : Nat} {p : Nat → Bool} {s : List UInt8} (hs : s.length ≤ 1000000000) : FnG Tryz.prog 88 [S s, Pt b 0] G [.blk b (.cells (bools p).toArray tAs (0, 0))] (fun v L' => v = S (trimR p s) ∧ L' = [.blk b (.cells (bools p).toArray tAs (0, 0))]) := by
  refine g_enter [(0, _), (1, _)] Tryz.func88 (by kernel_rfl) Tryz.ntmps88 rfl rfl (by repeat (first | exact trivial | refine ⟨rfl, ?_⟩)) fun B hB hW => ?_
  repeat' ((refine run (t := tb) 400 rfl ?_ ?_; (focus (repeat' ((exact trivial))))))
  refine k_loop (ι := List UInt8) (fun t => t.length ≤ 1000000000 ∧ trimR p t = trimR p s) (fun t => [(0, S t), (1, Pt b 0)]) (fun _ => G) (fun t => [.blk b (.cells (bools p).toArray tAs (0, 0))]) (fun t => t.length) s ?_ (by repeat (first | exact trivial | refine ⟨rfl, ?_⟩)) rfl (by repeat ((exact List.Sublist.refl _))) (fun t Ht => ?_)
  · exact ⟨hs, rfl⟩
  have hcase : t = [] ∨ ∃ r c, t = r ++ [c] := by
    rcases List.eq_nil_or_concat t with h | ⟨r, c, h⟩
    · exact .inl h
    · exact .inr ⟨r, c, by rw [h, List.concat_eq_append]⟩
  rcases hcase with rfl | ⟨r, c, rfl⟩
  · repeat' (first | (refine run (t := tb) 400 rfl ?_ ?_; (focus (repeat' ((exact trivial))))) | (refine k_ff rfl ?_ ?_; (focus (((rfl)); done))))
    refine k_rr (vs := [_]) rfl ⟨rfl, trivial⟩ rfl (List.Sublist.refl _) ⟨rfl, by rw [← Ht.2]; rfl, rfl⟩
  · have hcons : (r ++ [c]).length = r.length + 1 := by simp
    have e1 : (((r ++ [c]).length : Nat) : Int) - 1 = (r.length : Nat) := by omega
    have e2 : ((((r ++ [c]).length : Nat) : Int) - 1).toNat = r.length := by omega
    have e0 : bt (r ++ [c]) ((((r ++ [c]).length : Nat) : Int) - 1).toNat = c.toNat := by rw [e2]; simp [bt, List.getD]
    have hlt : bt (r ++ [c]) ((((r ++ [c]).length : Nat) : Int) - 1).toNat < 256 := bt_lt _ _
    have e3 : (r ++ [c]).take ((((r ++ [c]).length : Nat) : Int) - 1).toNat = r := by rw [e2]; simp
    have Ht2 := Ht.2
    rw [trimR_snoc] at Ht2
    have hne : r ++ [c] ≠ [] := by simp
    by_cases hp : p (bt (r ++ [c]) ((((r ++ [c]).length : Nat) : Int) - 1).toNat) = true
    · have hp2 : (!p (bt (r ++ [c]) ((((r ++ [c]).length : Nat) : Int) - 1).toNat)) = false := by rw [hp]; rfl
      repeat' (first | (refine run (t := tb) 400 rfl ?_ ?_; (focus (repeat' (first | exact trivial | apply And.intro | omega)))) | (refine k_op rfl ?_; (refine c_m1g rfl rfl rfl (c_asContains (by (repeat ((assumption))); done)) rfl ?_; rintro _ _ ⟨rfl, rfl⟩; dsimp only [List.cons_append, List.nil_append])) | (refine k_tt rfl ?_ ?_; (focus (((refine decide_eq_true ?_; (omega))); done))) | (refine k_ff rfl ?_ ?_; (focus (((assumption)); done))))
      refine k_rd r ⟨by omega, by rw [← Ht2, ← e0, if_pos hp]⟩ (by omega) ?_ rfl (by repeat ((exact List.Sublist.refl _)))
      rw [e3]; repeat (first | exact trivial | refine ⟨rfl, ?_⟩)
    · have hp2 : (!p (bt (r ++ [c]) ((((r ++ [c]).length : Nat) : Int) - 1).toNat)) = true := by simpa using hp
      repeat' (first | (refine run (t := tb) 400 rfl ?_ ?_; (focus (repeat' (first | exact trivial | apply And.intro | omega)))) | (refine k_op rfl ?_; (refine c_m1g rfl rfl rfl (c_asContains (by (repeat ((assumption))); done)) rfl ?_; rintro _ _ ⟨rfl, rfl⟩; dsimp only [List.cons_append, List.nil_append])) | (refine k_tt rfl ?_ ?_; (focus ((first | assumption | (refine decide_eq_true ?_; (omega))); done))))
      refine k_rr (vs := [_]) rfl ⟨rfl, trivial⟩ rfl (List.Sublist.refl _) ⟨rfl, by rw [← Ht2, ← e0, if_neg hp]; rfl, rfl⟩
theorem inS_snoc (cs : List UInt8) (i : Nat) (h : i < cs.length) : (fun x => inS (cs.take i) x || x == bt cs i) = inS (cs.take (i + 1)) := by
  funext x
  have e : bt cs i = (cs[i]).toNat := by simp [bt, List.getD, List.getElem?_eq_getElem h]
  have e2 : (x == (cs[i]).toNat) = ((cs[i]).toNat == x) := by rw [Bool.eq_iff_iff, beq_iff_eq, beq_iff_eq]; exact eq_comm
  rw [List.take_succ_eq_append_getElem h, e, e2]
  simp only [inS, List.any_append, List.any_cons, List.any_nil, Bool.or_false]
theorem inS_nil : inS [] = noneB := rfl
theorem all_bt {cs : List UInt8} (h : cs.all (fun c => decide (c.toNat < 128)) = true) : ∀ i, i < cs.length → bt cs i < 128 := fun i hi => by
  have e : bt cs i = (cs[i]).toNat := by simp [bt, List.getD, List.getElem?_eq_getElem hi]
  rw [List.all_eq_true] at h
  rw [e]
  simpa using h cs[i] (List.getElem_mem hi)
theorem c_makeASCIISet {cs : List UInt8} (hc : ∀ i, i < cs.length → bt cs i < 128) (hl : cs.length ≤ 1000) : PuG Tryz.prog 65 [S cs] G (· = Tu [Ag (bools (inS cs)), Bo true]) := by
  refine p_enter [(0, _)] Tryz.func65 (by kernel_rfl) Tryz.ntmps65 rfl rfl (by repeat (first | exact trivial | refine ⟨rfl, ?_⟩)) fun B hB => ?_
  repeat' (first | (refine run (t := tb) 400 rfl ?_ ?_; (focus (repeat' ((exact trivial))))) | (refine k_op rfl ?_; (refine c_alBs rfl rfl fun _ => ?_)))
  rename_i x
  refine k_loop (ι := Nat) (fun i => i ≤ cs.length) (fun i => [(0, S cs), (2, Pt x 0), (4, I i)]) (fun _ => G) (fun i => [.blk x (.cells (bools (inS (cs.take i))).toArray tAs (0, 0))]) (fun i => cs.length - i) 0 ?_ (by repeat (first | exact trivial | refine ⟨rfl, ?_⟩)) rfl (by repeat ((exact List.Sublist.refl _))) (fun i Hi => ?_)
  · exact Nat.zero_le _
  by_cases hi : i < cs.length
  · have h1 : bt cs ((i : Int).toNat) < 128 := hc i hi
    have h2 : bt cs ((i : Int).toNat) < 256 := by omega
    repeat' (first | (refine run (t := tb) 400 rfl ?_ ?_; (focus (repeat' (first | exact trivial | apply And.intro | omega)))) | (refine k_op rfl ?_; first | refine c_stBo rfl rfl rfl rfl (by assumption) ?_ | (refine v_op (g_iaddrA rfl rfl ?_) rfl rfl ?_; (focus ((omega); done)))) | (refine k_tt rfl ?_ ?_; (focus (((refine decide_eq_true ?_; (omega))); done))) | (refine k_ff rfl ?_ ?_; (focus (((refine decide_eq_false ?_; (omega))); done))))
    refine k_rd (i + 1) (by omega) (by omega) (by repeat (first | exact trivial | refine ⟨rfl, ?_⟩)) rfl (by rw [← inS_snoc cs i hi]; repeat ((exact List.Sublist.refl _)))
  · have ei : i = cs.length := by omega
    subst ei
    repeat' (first | (refine run (t := tb) 400 rfl ?_ ?_; (focus (repeat' ((exact trivial))))) | (refine k_op rfl ?_; first | refine v_op (g_ldBs rfl rfl rfl rfl) rfl rfl ?_ | refine c_stBs rfl rfl rfl rfl ?_) | (refine k_ff rfl ?_ ?_; (focus (((refine decide_eq_false ?_; (omega))); done))))
    refine k_rr (vs := [_, _]) rfl ⟨rc_Bs rfl rfl rfl rfl, rfl, trivial⟩ rfl (List.nil_sublist _) ⟨rfl, rfl, ?_⟩
    rw [List.take_length]; rfl
/-- A text without the bytes of another one at its ends. -/
theorem c_Trim {s cs : List UInt8} (h2 : Nat.ble 2 cs.length = true) (hc : cs.all (fun c => decide (c.toNat < 128)) = true) (hl : Nat.ble cs.length 1000 = true) (hs : s.length ≤ 2000000) : PuG Tryz.prog 70 [S s, S cs] G (· = S (trimL (inS cs) (trimR (inS cs) s))) := by
  have h2 := Nat.le_of_ble_eq_true h2
  have hl := Nat.le_of_ble_eq_true hl
  have cx_mkas := c_makeASCIISet (G := G) (all_bt hc) hl
  by_cases h0 : s = []
  · subst h0
    refine p_enter [(0, _), (1, _)] Tryz.func70 (by kernel_rfl) Tryz.ntmps70 rfl rfl (by repeat (first | exact trivial | refine ⟨rfl, ?_⟩)) fun B hB => ?_
    repeat' (first | (refine run (t := tb) 400 rfl ?_ ?_; (focus (repeat' ((exact trivial))))) | (refine k_op rfl ?_; (refine v_op (g_pickT rfl rfl ?_) rfl rfl ?_; (focus (((rfl)); done)))) | (refine k_gt rfl rfl ?_ ?_; (focus (((rfl)); done))) | (refine k_tt rfl ?_ ?_; (focus (((rfl)); done))))
    all_goals refine k_rr (vs := [_]) rfl ⟨rfl, trivial⟩ rfl (List.nil_sublist _) ⟨rfl, rfl, ?_⟩
    all_goals rfl
  have hn : ¬ cs = [] := by rintro rfl; simp at h2
  have hr := trimR_len (inS cs) s
  refine p_enter [(0, _), (1, _)] Tryz.func70 (by kernel_rfl) Tryz.ntmps70 rfl rfl (by repeat (first | exact trivial | refine ⟨rfl, ?_⟩)) fun B hB => ?_
  repeat' (first | (refine run (t := tb) 400 rfl ?_ ?_; (focus (repeat' ((exact trivial))))) | (refine k_op rfl ?_; first | (refine v_op (g_pickF rfl rfl ?_) rfl rfl ?_; (focus (((rfl)); done))) | refine c_alBs rfl rfl fun _ => ?_ | refine c_stBs rfl rfl rfl rfl ?_ | (refine c_rt rfl rfl rfl cx_mkas rfl ?_) | (refine c_m1g rfl rfl rfl (c_trimRightASCII (by omega)) rfl ?_; rintro _ _ ⟨rfl, rfl⟩; dsimp only [List.cons_append, List.nil_append]) | (refine c_m1g rfl rfl rfl c_trimLeftASCII rfl ?_; rintro _ _ ⟨rfl, rfl⟩; dsimp only [List.cons_append, List.nil_append])) | (refine k_gf rfl rfl ?_ ?_; (focus (((refine decide_eq_false ?_; first | assumption | omega)); done))) | (refine k_tt rfl ?_ ?_; (focus (((rfl)); done))) | (refine k_ff rfl ?_ ?_; (focus ((first | rfl | (refine decide_eq_false ?_; (assumption))); done))))
  all_goals refine k_rr (vs := [_]) rfl ⟨rfl, trivial⟩ rfl (List.nil_sublist _) ⟨rfl, rfl, ?_⟩
  all_goals rfl
theorem c_TrimLeft {s cs : List UInt8} (h2 : Nat.ble 2 cs.length = true) (hc : cs.all (fun c => decide (c.toNat < 128)) = true) (hl : Nat.ble cs.length 1000 = true) : PuG Tryz.prog 40 [S s, S cs] G (· = S (trimL (inS cs) s)) := by
  have h2 := Nat.le_of_ble_eq_true h2
  have hl := Nat.le_of_ble_eq_true hl
  have cx_mkas := c_makeASCIISet (G := G) (all_bt hc) hl
  by_cases h0 : s = []
  · subst h0
    refine p_enter [(0, _), (1, _)] Tryz.func40 (by kernel_rfl) Tryz.ntmps40 rfl rfl (by repeat (first | exact trivial | refine ⟨rfl, ?_⟩)) fun B hB => ?_
    repeat' (first | (refine run (t := tb) 400 rfl ?_ ?_; (focus (repeat' ((exact trivial))))) | (refine k_op rfl ?_; (refine v_op (g_pickT rfl rfl ?_) rfl rfl ?_; (focus (((rfl)); done)))) | (refine k_gt rfl rfl ?_ ?_; (focus (((rfl)); done))) | (refine k_tt rfl ?_ ?_; (focus (((rfl)); done))))
    all_goals refine k_rr (vs := [_]) rfl ⟨rfl, trivial⟩ rfl (List.nil_sublist _) ⟨rfl, rfl, ?_⟩
    all_goals rfl
  have hn : ¬ cs = [] := by rintro rfl; simp at h2
  refine p_enter [(0, _), (1, _)] Tryz.func40 (by kernel_rfl) Tryz.ntmps40 rfl rfl (by repeat (first | exact trivial | refine ⟨rfl, ?_⟩)) fun B hB => ?_
  repeat' (first | (refine run (t := tb) 400 rfl ?_ ?_; (focus (repeat' ((exact trivial))))) | (refine k_op rfl ?_; first | (refine v_op (g_pickF rfl rfl ?_) rfl rfl ?_; (focus (((rfl)); done))) | refine c_alBs rfl rfl fun _ => ?_ | refine c_stBs rfl rfl rfl rfl ?_ | (refine c_rt rfl rfl rfl cx_mkas rfl ?_) | (refine c_m1g rfl rfl rfl c_trimLeftASCII rfl ?_; rintro _ _ ⟨rfl, rfl⟩; dsimp only [List.cons_append, List.nil_append])) | (refine k_gf rfl rfl ?_ ?_; (focus (((refine decide_eq_false ?_; first | assumption | omega)); done))) | (refine k_tt rfl ?_ ?_; (focus (((rfl)); done))) | (refine k_ff rfl ?_ ?_; (focus ((first | rfl | (refine decide_eq_false ?_; (assumption))); done))))
  all_goals refine k_rr (vs := [_]) rfl ⟨rfl, trivial⟩ rfl (List.nil_sublist _) ⟨rfl, rfl, ?_⟩
  all_goals rfl
end Go.E
