/- The calculus of this seat's proofs: what only yields is reckoned, in one step. Conditions: none. -/
import Derived.Test.YtcnkkjdnnajkbaaEngG
namespace Go.E
/-- What kinds of types there are (a bit a type), and where fields lie. -/
structure Tbl where
  mi : Nat
  mu : Nat
  mb : Nat
  ms : Nat
  mp : Nat
  fl : List (Nat × List (Bool × Nat × Nat))
def fieldOf : List (Nat × List (Bool × Nat × Nat)) → Nat → Nat → Option (Bool × Nat × Nat)
  | [], _, _ => none
  | (T, fs) :: r, U, f => match Nat.beq T U with
    | true => fs[f]?
    | false => fieldOf r U f
class Tab (P : Program) (t : Tbl) : Prop where
  hi : ∀ T, t.mi.testBit T = true → ∃ s b z, TI P T (.int .i64) s b z
  hu : ∀ T, t.mu.testBit T = true → ∃ s b z, TI P T (.int .u8) s b z
  hb : ∀ T, t.mb.testBit T = true → ∃ s b z, TI P T .bool s b z
  hs : ∀ T, t.ms.testBit T = true → ∃ s b z, TI P T .string s b z
  hp : ∀ T, t.mp.testBit T = true → ∃ e s b z, TI P T (.pointer e) s b z
  hf : ∀ T f a o s, fieldOf t.fl T f = some (a, o, s) → FV P T f a o s ∧ FA P T f o
def isD (P : Program) (ok : TypeDesc → Bool) (T : Nat) : Bool :=
  match P.underlying T with
  | some d => match P.info? T with
    | some i => match i.zero with
      | some _ => ok d
      | none => false
    | none => false
  | none => false
theorem isD_spec {P : Program} {ok : TypeDesc → Bool} {T : Nat} (h : isD P ok T = true) : ∃ d s b z, ok d = true ∧ TI P T d s b z := by
  unfold isD at h
  cases hu : P.underlying T with
  | none => rw [hu] at h; cases h
  | some d =>
    cases hi : P.info? T with
    | none => rw [hu, hi] at h; cases h
    | some i =>
      cases hz : i.zero with
      | none => simp only [hu, hi, hz] at h; cases h
      | some z => simp only [hu, hi, hz] at h; exact ⟨d, i.size, i.bytes, z, h, hu, i, hi, rfl, rfl, hz⟩
def mOk (P : Program) (m : Nat) (ok : TypeDesc → Bool) (N : Nat) : Bool := Nat.blt m (2 ^ N) && (List.range N).all fun T => !m.testBit T || isD P ok T
theorem mOk_spec {P : Program} {m N : Nat} {ok : TypeDesc → Bool} (h : mOk P m ok N = true) (T : Nat) (hT : m.testBit T = true) : ∃ d s b z, ok d = true ∧ TI P T d s b z := by
  simp only [mOk, Bool.and_eq_true, List.all_eq_true, List.mem_range, Bool.or_eq_true, Bool.not_eq_true'] at h
  have hlt : T < N := by
    rcases Nat.lt_or_ge T N with h1 | h1
    · exact h1
    · have : m < 2 ^ T := Nat.lt_of_lt_of_le (by simpa using h.1) (Nat.pow_le_pow_right (by decide) h1)
      rw [Nat.testBit_lt_two_pow this] at hT; cases hT
  rcases h.2 T hlt with h1 | h1
  · rw [h1] at hT; cases hT
  · exact isD_spec h1
def okI : TypeDesc → Bool | .int .i64 => true | _ => false
def okU : TypeDesc → Bool | .int .u8 => true | _ => false
def okB : TypeDesc → Bool | .bool => true | _ => false
def okS : TypeDesc → Bool | .string => true | _ => false
def okP : TypeDesc → Bool | .pointer _ => true | _ => false
def fsOk (P : Program) (T : Nat) : Nat → List (Bool × Nat × Nat) → Prop
  | _, [] => True
  | k, (a, o, s) :: r => (FV P T k a o s ∧ FA P T k o) ∧ fsOk P T (k + 1) r
def flOk (P : Program) : List (Nat × List (Bool × Nat × Nat)) → Prop
  | [] => True
  | (T, fs) :: r => fsOk P T 0 fs ∧ flOk P r
theorem fsOk_spec {P : Program} {T : Nat} : ∀ (fs : List (Bool × Nat × Nat)) (k f : Nat) {a o s}, fsOk P T k fs → fs[f]? = some (a, o, s) → FV P T (k + f) a o s ∧ FA P T (k + f) o
  | [], _, _, _, _, _, _, h => by simp at h
  | (a, o, s) :: r, k, 0, _, _, _, h, e => by
    simp only [List.getElem?_cons_zero, Option.some.injEq, Prod.mk.injEq] at e
    obtain ⟨rfl, rfl, rfl⟩ := e; exact h.1
  | _ :: r, k, f + 1, _, _, _, h, e => by
    have := fsOk_spec r (k + 1) f h.2 (by simpa using e)
    rwa [Nat.add_assoc, Nat.add_comm 1 f] at this
theorem flOk_spec {P : Program} : ∀ (fl : List (Nat × List (Bool × Nat × Nat))) (T f : Nat) {a o s}, flOk P fl → fieldOf fl T f = some (a, o, s) → FV P T f a o s ∧ FA P T f o
  | [], _, _, _, _, _, _, e => by simp [fieldOf] at e
  | (U, fs) :: r, T, f, _, _, _, h, e => by
    unfold fieldOf at e
    cases hb : Nat.beq U T with
    | true => rw [hb] at e; have := Nat.eq_of_beq_eq_true hb; subst this; have h2 := fsOk_spec fs 0 f h.1 e; rwa [Nat.zero_add] at h2
    | false => rw [hb] at e; exact flOk_spec r T f h.2 e
theorem Tab.mk' {P : Program} {t : Tbl} (N : Nat) (h1 : mOk P t.mi okI N = true) (h2 : mOk P t.mu okU N = true) (h3 : mOk P t.mb okB N = true) (h4 : mOk P t.ms okS N = true) (h5 : mOk P t.mp okP N = true) (h6 : flOk P t.fl) : Tab P t where
  hi T hT := by
    obtain ⟨d, s, b, z, h, h'⟩ := mOk_spec h1 T hT
    unfold okI at h; split at h; exact ⟨s, b, z, h'⟩; cases h
  hu T hT := by
    obtain ⟨d, s, b, z, h, h'⟩ := mOk_spec h2 T hT
    unfold okU at h; split at h; exact ⟨s, b, z, h'⟩; cases h
  hb T hT := by
    obtain ⟨d, s, b, z, h, h'⟩ := mOk_spec h3 T hT
    unfold okB at h; split at h; exact ⟨s, b, z, h'⟩; cases h
  hs T hT := by
    obtain ⟨d, s, b, z, h, h'⟩ := mOk_spec h4 T hT
    unfold okS at h; split at h; exact ⟨s, b, z, h'⟩; cases h
  hp T hT := by
    obtain ⟨d, s, b, z, h, h'⟩ := mOk_spec h5 T hT
    unfold okP at h; split at h; exact ⟨_, s, b, z, h'⟩; cases h
  hf T f a o s h := flOk_spec t.fl T f h6 h

/-! ### One operation -/
def evI (op : BinOp) (a b : Int) : Option (Value × Option Prop) :=
  match op with
  | .add => some (I (a + b), some (-9223372036854775808 ≤ a + b ∧ a + b ≤ 9223372036854775807))
  | .sub => some (I (a - b), some (-9223372036854775808 ≤ a - b ∧ a - b ≤ 9223372036854775807))
  | .mul => some (I (a * b), some (-9223372036854775808 ≤ a * b ∧ a * b ≤ 9223372036854775807))
  | .rem => some (I (a % b), some (0 ≤ a ∧ 0 < b))
  | .quo => some (I (a / b), some (0 ≤ a ∧ 0 < b ∧ a ≤ 9223372036854775807))
  | .eql => some (Bo (decide (a = b)), none)
  | .neq => some (Bo (decide (a ≠ b)), none)
  | .lss => some (Bo (decide (a < b)), none)
  | .leq => some (Bo (decide (a ≤ b)), none)
  | .gtr => some (Bo (decide (b < a)), none)
  | .geq => some (Bo (decide (b ≤ a)), none)
  | _ => none
def evU (op : BinOp) (a b : Int) : Option (Value × Option Prop) :=
  match op with
  | .eql => some (Bo (decide (a = b)), none)
  | .neq => some (Bo (decide (a ≠ b)), none)
  | .lss => some (Bo (decide (a < b)), none)
  | .leq => some (Bo (decide (a ≤ b)), none)
  | .gtr => some (Bo (decide (b < a)), none)
  | .geq => some (Bo (decide (b ≤ a)), none)
  | _ => none
def evS (op : BinOp) (a b : List UInt8) : Option (Value × Option Prop) :=
  match op with
  | .add => some (S (a ++ b), some (a.length + b.length ≤ 9223372036854775807))
  | .eql => some (Bo (decide (a = b)), none)
  | .neq => some (Bo (decide (a ≠ b)), none)
  | .lss => some (Bo (Op.bytesLess a b), none)
  | .geq => some (Bo (!Op.bytesLess a b), none)
  | .gtr => some (Bo (!(Op.bytesLess a b || decide (a = b))), none)
  | _ => none
def evB (op : BinOp) (a b : Bool) : Option (Value × Option Prop) :=
  match op with
  | .eql => some (Bo (decide (a = b)), none)
  | .neq => some (Bo (decide (a ≠ b)), none)
  | _ => none
def evOp (t : Tbl) (E : Env) : Op → Option (Value × Option Prop)
  | .move x => match ev E x with
    | some v => some (v, none)
    | none => none
  | .assign x => match ev E x with
    | some v => some (v, none)
    | none => none
  | .extract x i => match ev E x with
    | some (.tuple ⟨vs⟩) => match vs[i]? with
      | some v => some (v, none)
      | none => none
    | _ => none
  | .nilCheck x => match ev E x with
    | some (.pointer (some p)) => some (.pointer (some p), none)
    | _ => none
  | .fieldAddr T x f => match ev E x with
    | some (.pointer (some ⟨b, o, none⟩)) => match fieldOf t.fl T f with
      | some (_, off, _) => some (Pt b (o + off), none)
      | none => none
    | _ => none
  | .field T x f => match ev E x with
    | some (.agg ⟨cs⟩) => match fieldOf t.fl T f with
      | some (true, off, sz) => match takeC cs off sz with
        | some vs => some (Ag vs, none)
        | none => none
      | some (false, off, _) => match cs[off]? with
        | some v => some (v, none)
        | none => none
      | none => none
    | _ => none
  | .index T x i => match t.ms.testBit T with
    | true => match ev E x with
      | some (.string ⟨⟨l⟩⟩) => match ev E i with
        | some (.int _ m) => some (U8 (bt l m.toNat), some (0 ≤ m ∧ m < l.length))
        | _ => none
      | _ => none
    | false => none
  | .slice T x lo hi mx => match t.ms.testBit T with
    | true => match ev E x with
      | some (.string ⟨⟨l⟩⟩) => match lo, hi, mx with
        | some a, none, none => match ev E a with
          | some (.int _ m) => some (S (l.drop m.toNat), some (0 ≤ m ∧ m ≤ l.length))
          | _ => none
        | none, some b, none => match ev E b with
          | some (.int _ m) => some (S (l.take m.toNat), some (0 ≤ m ∧ m ≤ l.length))
          | _ => none
        | some a, some b, none => match ev E a with
          | some (.int _ m) => match ev E b with
            | some (.int _ m') => some (S ((l.take m'.toNat).drop m.toNat), some ((0 ≤ m ∧ m ≤ m') ∧ 0 ≤ m' ∧ m' ≤ l.length))
            | _ => none
          | _ => none
        | _, _, _ => none
      | _ => none
    | false => none
  | .binOp op T x y _ => match ev E x with
    | some (.int .i64 a) => match ev E y with
      | some (.int .i64 b) => evI op a b
      | _ => none
    | some (.int .u8 a) => match ev E y with
      | some (.int .u8 b) => evU op a b
      | _ => none
    | some (.string ⟨⟨a⟩⟩) => match ev E y with
      | some (.string ⟨⟨b⟩⟩) => evS op a b
      | _ => none
    | some (.bool a) => match t.mb.testBit T with
      | true => match ev E y with
        | some (.bool b) => evB op a b
        | _ => none
      | false => none
    | _ => none
  | .unOp op _ x => match op with
    | .not => match ev E x with
      | some (.bool b) => some (Bo (!b), none)
      | _ => none
    | .neg => match ev E x with
      | some (.int .i64 a) => some (I (-a), some (-9223372036854775808 ≤ 0 - a ∧ 0 - a ≤ 9223372036854775807))
      | _ => none
    | _ => none
  | .convert T T' x => match t.mu.testBit T, t.mi.testBit T' with
    | true, true => match ev E x with
      | some (.int .u8 a) => some (I a, some (-9223372036854775808 ≤ a ∧ a ≤ 9223372036854775807))
      | _ => none
    | _, _ => match t.mi.testBit T, t.mu.testBit T' with
      | true, true => match ev E x with
        | some (.int .i64 a) => some (U8 (u8 a).toNat, none)
        | _ => none
      | _, _ => none
  | .call ⟨.builtin .len, ⟨[x]⟩, ⟨[T]⟩⟩ => match t.ms.testBit T with
    | true => match ev E x with
      | some (.string ⟨⟨l⟩⟩) => some (I l.length, none)
      | _ => none
    | false => none
  | _ => none
@[reducible] def holdsO : Option Prop → Prop
  | none => True
  | some p => p

section
variable {P : Program} {n : Nat} {D : List Deferred} {E : Env} {M : World → Prop} {d : Option Nat} {ty : TypeId} {pos : String} {aft : Array Edge} {gd : Option (Nat × Bool)}
theorem evI_ok {op : BinOp} {T T' : TypeId} {x y : Operand} {a b : Int} {v : Value} {c : Option Prop} (h : evI op a b = some (v, c)) (hc : holdsO c) (hx : ev E x = some (I a)) (hy : ev E y = some (I b)) :
    Gives P n D E M ⟨d, .binOp op T x y T', ty, pos, aft, gd⟩ v := by
  cases op <;> simp only [evI, Option.some.injEq, Prod.mk.injEq, reduceCtorEq] at h <;> obtain ⟨rfl, rfl⟩ := h
  · exact g_add hx hy hc
  · exact g_sub hx hy hc
  · exact g_mul hx hy hc
  · exact g_quo hx hy hc
  · exact g_rem hx hy hc
  · exact g_eql hx hy
  · exact g_neq hx hy
  · exact g_lss hx hy
  · exact g_leq hx hy
  · exact g_gtr hx hy
  · exact g_geq hx hy
theorem evU_ok {op : BinOp} {T T' : TypeId} {x y : Operand} {a b : Int} {v : Value} {c : Option Prop} (h : evU op a b = some (v, c)) (hx : ev E x = some (U8 a)) (hy : ev E y = some (U8 b)) :
    Gives P n D E M ⟨d, .binOp op T x y T', ty, pos, aft, gd⟩ v := by
  cases op <;> simp only [evU, Option.some.injEq, Prod.mk.injEq, reduceCtorEq] at h <;> obtain ⟨rfl, rfl⟩ := h
  · exact g_eql hx hy
  · exact g_neq hx hy
  · exact g_lss hx hy
  · exact g_leq hx hy
  · exact g_gtr hx hy
  · exact g_geq hx hy
theorem evS_ok {op : BinOp} {T T' : TypeId} {x y : Operand} {a b : List UInt8} {v : Value} {c : Option Prop} (h : evS op a b = some (v, c)) (hc : holdsO c) (hx : ev E x = some (S a)) (hy : ev E y = some (S b)) :
    Gives P n D E M ⟨d, .binOp op T x y T', ty, pos, aft, gd⟩ v := by
  cases op <;> simp only [evS, Option.some.injEq, Prod.mk.injEq, reduceCtorEq] at h <;> obtain ⟨rfl, rfl⟩ := h
  · exact g_sadd hx hy hc
  · exact g_seql hx hy
  · exact g_sneq hx hy
  · exact g_slss hx hy
  · exact g_sgtr hx hy
  · exact g_sgeq hx hy
theorem evB_ok {op : BinOp} {T T' : TypeId} {x y : Operand} {s by' : Nat} {z : Value} {a b : Bool} {v : Value} {c : Option Prop} [TI P T .bool s by' z] (h : evB op a b = some (v, c)) (hx : ev E x = some (.bool a)) (hy : ev E y = some (.bool b)) :
    Gives P n D E M ⟨d, .binOp op T x y T', ty, pos, aft, gd⟩ v := by
  cases op <;> simp only [evB, Option.some.injEq, Prod.mk.injEq, reduceCtorEq] at h <;> obtain ⟨rfl, rfl⟩ := h
  · exact g_beql (size := s) (bytes := by') (zero := z) hx hy
  · exact g_bneq (size := s) (bytes := by') (zero := z) hx hy
theorem evOp_ok {t : Tbl} [tb : Tab P t] {op : Op} {v : Value} {c : Option Prop} (h : evOp t E op = some (v, c)) (hc : holdsO c) : Gives P n D E M ⟨d, op, ty, pos, aft, gd⟩ v := by
  unfold evOp at h
  split at h
  · split at h
    · rename_i hx; simp only [Option.some.injEq, Prod.mk.injEq] at h; obtain ⟨rfl, rfl⟩ := h; exact g_move hx
    · cases h
  · split at h
    · rename_i hx; simp only [Option.some.injEq, Prod.mk.injEq] at h; obtain ⟨rfl, rfl⟩ := h; exact g_assign hx
    · cases h
  · split at h
    · rename_i hx
      split at h
      · rename_i hv; simp only [Option.some.injEq, Prod.mk.injEq] at h; obtain ⟨rfl, rfl⟩ := h; exact g_ext hx hv
      · cases h
    · cases h
  · split at h
    · rename_i hx; simp only [Option.some.injEq, Prod.mk.injEq] at h; obtain ⟨rfl, rfl⟩ := h; exact g_nilc hx
    · cases h
  · split at h
    · rename_i hx
      split at h
      · rename_i hf; simp only [Option.some.injEq, Prod.mk.injEq] at h; obtain ⟨rfl, rfl⟩ := h
        have := (tb.hf _ _ _ _ _ hf).2
        exact g_faddr hx
      · cases h
    · cases h
  · split at h
    · rename_i hx
      split at h
      · rename_i hf
        split at h
        · rename_i hv; simp only [Option.some.injEq, Prod.mk.injEq] at h; obtain ⟨rfl, rfl⟩ := h
          have := (tb.hf _ _ _ _ _ hf).1
          exact g_field hx (by simp only [cutF]; rw [clean_eq hv])
        · cases h
      · rename_i hf
        split at h
        · rename_i hv; simp only [Option.some.injEq, Prod.mk.injEq] at h; obtain ⟨rfl, rfl⟩ := h
          have := (tb.hf _ _ _ _ _ hf).1
          exact g_field hx (by simp only [cutF]; exact hv)
        · cases h
      · cases h
    · cases h
  · split at h
    · rename_i ht
      obtain ⟨_, _, _, _⟩ := tb.hs _ ht
      split at h
      · rename_i hx
        split at h
        · rename_i hi; simp only [Option.some.injEq, Prod.mk.injEq] at h; obtain ⟨rfl, rfl⟩ := h
          exact g_sidxI hx hi hc
        · cases h
      · cases h
    · cases h
  · split at h
    · rename_i ht
      obtain ⟨_, _, _, _⟩ := tb.hs _ ht
      split at h
      · rename_i hx
        split at h
        · split at h
          · rename_i hi; simp only [Option.some.injEq, Prod.mk.injEq] at h; obtain ⟨rfl, rfl⟩ := h
            exact g_sslFrom hx hi hc
          · cases h
        · split at h
          · rename_i hi; simp only [Option.some.injEq, Prod.mk.injEq] at h; obtain ⟨rfl, rfl⟩ := h
            exact g_sslTo hx hi hc
          · cases h
        · split at h
          · rename_i hi
            split at h
            · rename_i hj; simp only [Option.some.injEq, Prod.mk.injEq] at h; obtain ⟨rfl, rfl⟩ := h
              exact g_sslBoth hx hi hj hc.1 hc.2
            · cases h
          · cases h
        · cases h
      · cases h
    · cases h
  · split at h
    · rename_i hx
      split at h
      · rename_i hy; exact evI_ok h hc hx hy
      · cases h
    · rename_i hx
      split at h
      · rename_i hy; exact evU_ok h hx hy
      · cases h
    · rename_i hx
      split at h
      · rename_i hy; exact evS_ok h hc hx hy
      · cases h
    · rename_i hx
      split at h
      · rename_i ht
        obtain ⟨_, _, _, _⟩ := tb.hb _ ht
        split at h
        · rename_i hy; exact evB_ok h hx hy
        · cases h
      · cases h
    · cases h
  · split at h
    · split at h
      · rename_i hx; simp only [Option.some.injEq, Prod.mk.injEq] at h; obtain ⟨rfl, rfl⟩ := h; exact g_not hx
      · cases h
    · split at h
      · rename_i hx; simp only [Option.some.injEq, Prod.mk.injEq] at h; obtain ⟨rfl, rfl⟩ := h; exact g_neg hx hc
      · cases h
    · cases h
  · split at h
    · rename_i h1 h2
      obtain ⟨_, _, _, _⟩ := tb.hu _ h1
      obtain ⟨_, _, _, _⟩ := tb.hi _ h2
      split at h
      · rename_i hx; simp only [Option.some.injEq, Prod.mk.injEq] at h; obtain ⟨rfl, rfl⟩ := h; exact g_convI hx hc
      · cases h
    · split at h
      · rename_i h1 h2
        obtain ⟨_, _, _, _⟩ := tb.hi _ h1
        obtain ⟨_, _, _, _⟩ := tb.hu _ h2
        split at h
        · rename_i hx; simp only [Option.some.injEq, Prod.mk.injEq] at h; obtain ⟨rfl, rfl⟩ := h; exact g_convU hx
        · cases h
      · cases h
  · split at h
    · rename_i ht
      obtain ⟨_, _, _, _⟩ := tb.hs _ ht
      split at h
      · rename_i hx; simp only [Option.some.injEq, Prod.mk.injEq] at h; obtain ⟨rfl, rfl⟩ := h; exact g_lenS hx
      · cases h
    · cases h
  · cases h
end
end Go.E
