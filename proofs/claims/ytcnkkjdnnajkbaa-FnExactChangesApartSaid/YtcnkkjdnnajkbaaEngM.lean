/- The calculus of this seat's proofs: slices of structs that come in as arguments. Conditions: none. -/
import Derived.Test.YtcnkkjdnnajkbaaEngL
import Derived.OpenShut
import Derived.ChangeArms
import Derived.DataReads
namespace Go.E
open Go.ChangeShapes Go.WideShapes Go.ChangeAt Go.RowKit
theorem list_of {α : Type} (p : Nat → α → Prop) : ∀ n, (∀ i, i < n → ∃ c, p i c) → ∃ as : List α, as.length = n ∧ ∀ i (h : i < as.length), p i as[i]
  | 0, _ => ⟨[], rfl, fun i h => by simp at h⟩
  | n + 1, h => by
    obtain ⟨as, h1, h2⟩ := list_of p n fun i hi => h i (by omega)
    obtain ⟨c, hc⟩ := h n (by omega)
    refine ⟨as ++ [c], by simp [h1], fun i hi => ?_⟩
    by_cases h3 : i < as.length
    · rw [List.getElem_append_left h3]; exact h2 i h3
    · have : i = as.length := by simp at hi; omega
      subst this
      simp only [List.getElem_concat_length]
      rw [h1]; exact hc
theorem open_rows {P : Program} {H : Type} {enc : TypeId × Value → H} {w : World} {base base' : Nat} {spare : Nat → Bool} {held : Bool} {α : Type} [Inhabited α] (f : α → List Value) {sz : Nat} [RowF f sz] (hsz : 0 < sz) (Q : α → Prop) {T e : TypeId} (hT : P.underlying T = some (.slice e)) (hc : P.cellsOf e = sz)
    (dec : ∀ (n : Nat) (cs : List Value) (x : DataW H × List MemPlace), cs.length = sz → DataW.trod enc P w base spare held n e cs = some x → ∃ c : α, cs = f c ∧ Q c)
    {v : Value} {d : DataW H} {ps : List MemPlace} (hd : DataW.Trod enc P w base spare held T v d ps) (hok : Value.okWide P w .any base' T v) :
    ∃ as : List α, SlV (GA w) v sz as.length (rows f as) ∧ (∀ c ∈ as, Q c) ∧ as.length ≤ 9223372036854775807 := by
  obtain ⟨a, len, cap, rfl⟩ := okWide_slice hT hok
  obtain ⟨fuel, hf⟩ := hd
  rcases DataW.trod_slice hT hf with ⟨h0, _⟩ | ⟨x, l, c, elems, rest, n, _, hcs, _, _, hl, hm, hlen, hel, _, _⟩
  · simp [Value.cells] at h0
    obtain ⟨rfl, rfl, rfl⟩ := h0
    exact ⟨[], ⟨by simp [rows], .inl ⟨rfl, rfl⟩⟩, by simp, by simp⟩
  · simp [Value.cells] at hcs
    obtain ⟨rfl, rfl, rfl⟩ := hcs
    obtain ⟨hs, c, el, fr, hb⟩ := okW_slice hT hok
    obtain ⟨b, o, sp⟩ := x
    simp only at hs hb; subst hs
    have each : ∀ i, i < len → ∃ y : α, (∀ k, k < sz → c[o + (i * sz + k)]? = (f y)[k]?) ∧ Q y := by
      intro i hi
      have h1 := hel i hi
      rw [List.getElem?_eq_getElem (by omega), hc, Option.bind_eq_some_iff] at h1
      obtain ⟨cs, h2, h3⟩ := h1
      have h4 := World.cells?_some h2
      obtain ⟨y, rfl, hq⟩ := dec n cs _ h4.2.1 h3
      refine ⟨y, fun k hk => ?_, hq⟩
      have h5 := h4.2.2 k hk
      rw [← h5]
      have e1 : ((⟨b, o, none⟩ : Addr).add (i * sz)).add k = ⟨b, o + (i * sz + k), none⟩ := by
        by_cases h6 : i * sz = 0 <;> by_cases h7 : k = 0 <;> simp [Addr.add, h6, h7, Nat.add_assoc]
      rw [e1]
      simp [World.cell?, hb]
    obtain ⟨as, h1, h2⟩ := list_of (fun i y => (∀ k, k < sz → c[o + (i * sz + k)]? = (f y)[k]?) ∧ Q y) len each
    have hlen2 := rows_len (f := f) as
    have hm2 : maxLen = 9223372036854775807 := rfl
    refine ⟨as, ⟨hlen2, .inr ⟨b, o, cap, by rw [h1], by omega, seg_GA hb fun j v hv => ?_⟩⟩, fun y hy => ?_, by omega⟩
    · have hj : j < as.length * sz := by rw [← hlen2]; exact (List.getElem?_eq_some_iff.1 hv).1
      have hi : j / sz < as.length := Nat.div_lt_of_lt_mul (by rw [Nat.mul_comm]; exact hj)
      have hk : j % sz < sz := Nat.mod_lt _ hsz
      have e : j = j / sz * sz + j % sz := by rw [Nat.mul_comm]; exact (Nat.div_add_mod j sz).symm
      have h3 := (h2 _ hi).1 _ hk
      have h4 := rows_get (f := f) (cs := as) hi hk
      rw [← e] at h3 h4
      rw [h3, ← nth_eq hi, ← h4]; exact hv
    · obtain ⟨i, hi, rfl⟩ := List.mem_iff_getElem.1 hy
      exact (h2 i hi).2
theorem one_string {s : ByteArray} {cs : List Value} {k : Nat} (hk : k < cs.length) (h : (cs.drop k).take 1 = [.string s]) : cs[k]? = some (S s.data.toList) := by
  have h1 : ((cs.drop k).take 1)[0]? = some (.string s) := by rw [h]; rfl
  rw [List.getElem?_take_of_lt (by omega), List.getElem?_drop] at h1
  simpa using h1
theorem dec_str {P : Program} {H : Type} {enc : TypeId × Value → H} {w : World} {base : Nat} {spare : Nat → Bool} {held : Bool} {fs : Array Field} {e : TypeId} {cs : List Value} {n : Nat} {x : DataW H × List MemPlace} (hT : P.underlying e = some (.struct fs)) (h : DataW.trod enc P w base spare held n e cs = some x)
    (k ft off : Nat) (hf : (fs[k]?).map (fun fd => (fd.type, fd.offset)) = some (ft, off)) (hs : P.underlying ft = some .string) (hc : P.cellsOf ft = 1) (hl : off < cs.length) : ∃ l : List UInt8, cs[off]? = some (S l) ∧ l.length ≤ 9223372036854775807 := by
  obtain ⟨xs, m, _, _, _, hxs, hi⟩ := DataW.trod_struct hT h
  cases hfd : fs[k]? with
  | none => simp [hfd] at hf
  | some fd =>
    simp only [hfd, Option.map_some, Option.some.injEq, Prod.mk.injEq] at hf
    obtain ⟨rfl, rfl⟩ := hf
    have h1 := hi k fd hfd
    have hk : k < xs.length := by rw [hxs]; exact (Array.getElem?_eq_some_iff.1 hfd).1
    rw [List.getElem?_eq_getElem hk, hc] at h1
    obtain ⟨s, h2, _, h3⟩ := DataW.trod_string hs h1
    refine ⟨s.data.toList, one_string hl h2, ?_⟩
    have hm2 : maxLen = 9223372036854775807 := rfl
    have : s.data.toList.length = s.size := by rw [Array.length_toList]; rfl
    omega
end Go.E
