/- Contracts and plain laws that the statement rests on, part 7. Conditions: as each says. -/
import Derived.Test.YtifffndbgheghaaGreatDoorZ6
set_option linter.unusedVariables false
set_option linter.unusedSimpArgs false
/-! Mw -/
namespace Go.E
set_option maxRecDepth 20000
set_option maxHeartbeats 2000000
open Go.Proofs
open Go.ChangeShapes Go.WideShapes Go.ChangeAt Go.RowKit
theorem okWide_cell {P : Program} {w : World} {base : Nat} {T t e : TypeId} {fs : Array Field} {cs : Array Value} {ts : List TypeId} {i : Nat} {v : Value} (hT : P.underlying T = some (.struct fs)) (hok : Value.okWide P w .any base T (.agg cs)) (hts : P.cellTypes P.depth T = some ts) (hn : cs.size = ts.length) (hi : cs[i]? = some v) (ht : ts[i]? = some t) (hs : P.underlying t = some (.slice e)) : Value.okWide P w .any base t v := by
  simp only [Value.okWide, hT] at hok
  obtain ⟨cs', he, _, ts', h2, _, h3⟩ := hok
  have he2 : cs = cs' := by simpa using he
  subst he2
  have h4 : ts = ts' := Option.some.inj (hts.symm.trans h2)
  subst h4
  obtain ⟨u, hu, hc⟩ := h3 i v hi
  have hlt : i < ts.length := by rw [← hn]; exact (Array.getElem?_eq_some_iff.1 hi).1
  rw [Nat.mod_eq_of_lt hlt, ht] at hu
  obtain rfl := Option.some.inj hu
  simp only [Value.okWide, hs]
  exact hc
theorem dec_slice {P : Program} {H : Type} {enc : TypeId × Value → H} {w : World} {base : Nat} {spare : Nat → Bool} {held : Bool} {fs : Array Field} {T : TypeId} {cs : List Value} {n : Nat} {x : DataW H × List MemPlace} (hT : P.underlying T = some (.struct fs)) (h : DataW.trod enc P w base spare held n T cs = some x)
    (k ft e off : Nat) (hf : (fs[k]?).map (fun fd => (fd.type, fd.offset)) = some (ft, off)) (hs : P.underlying ft = some (.slice e)) (hc : P.cellsOf ft = 1) (hl : off < cs.length) : ∃ v d ps, cs[off]? = some v ∧ DataW.Trod enc P w base spare held ft v d ps := by
  obtain ⟨xs, m, _, _, _, hxs, hi⟩ := DataW.trod_struct hT h
  cases hfd : fs[k]? with
  | none => simp [hfd] at hf
  | some fd =>
    simp only [hfd, Option.map_some, Option.some.injEq, Prod.mk.injEq] at hf
    obtain ⟨rfl, rfl⟩ := hf
    have h1 := hi k fd hfd
    have hk : k < xs.length := by rw [hxs]; exact (Array.getElem?_eq_some_iff.1 hfd).1
    rw [List.getElem?_eq_getElem hk, hc] at h1
    have h2 : (cs.drop fd.offset).take 1 = [cs[fd.offset]] := by rw [List.drop_eq_getElem_cons hl]; rfl
    rw [h2] at h1
    refine ⟨cs[fd.offset], xs[k].1, xs[k].2, List.getElem?_eq_getElem hl, m, ?_⟩
    rcases DataW.trod_slice hs h1 with ⟨h3, _⟩ | ⟨a, l, c, _, _, _, _, h3, _⟩
    · have h4 : cs[fd.offset] = .slice none 0 0 := by simpa using h3
      rw [h4] at h1 ⊢; simpa [Value.cells] using h1
    · have h4 : cs[fd.offset] = .slice (some a) l c := by simpa using h3
      rw [h4] at h1 ⊢; simpa [Value.cells] using h1
abbrev tMsW : TypeId := 22
abbrev tMtW : TypeId := 43
abbrev tStrW : TypeId := 9
abbrev tSvcW : TypeId := 24
set_option maxRecDepth 100000 in
theorem open_mts {H : Type} {enc : TypeId × Value → H} {w : World} {base base' : Nat} {spare : Nat → Bool} {held : Bool} {v : Value} {d : DataW H} {ps : List MemPlace}
    (hd : DataW.Trod enc Tryz.prog w base spare held tMsW v d ps) (hok : Value.okWide Tryz.prog w .any base' tMsW v) :
    ∃ cl : List Mt, SlV (GA w) v 3 cl.length (rows mtF cl) ∧ (∀ c ∈ cl, MtW c) ∧ cl.length ≤ 9223372036854775807 := by
  refine open_rows mtF (by decide) MtW (T := tMsW) (e := tMtW) (by kernel_rfl) (by kernel_rfl) (fun n cs x hl h => ?_) hd hok
  obtain ⟨l0, h0, b0⟩ := dec_str (fs := flds Tryz.prog tMtW) (by kernel_rfl) h 0 tStrW 0 (by kernel_rfl) (by kernel_rfl) (by kernel_rfl) (by omega)
  obtain ⟨l1, h1, b1⟩ := dec_str (fs := flds Tryz.prog tMtW) (by kernel_rfl) h 1 tStrW 1 (by kernel_rfl) (by kernel_rfl) (by kernel_rfl) (by omega)
  obtain ⟨l2, h2, b2⟩ := dec_str (fs := flds Tryz.prog tMtW) (by kernel_rfl) h 2 tStrW 2 (by kernel_rfl) (by kernel_rfl) (by kernel_rfl) (by omega)
  refine ⟨(l0, l1, l2), ?_, b0, b1, b2⟩
  match cs, hl with
  | [a, b, c], _ => simp at h0 h1 h2; simp [mtF, h0, h1, h2]
set_option maxRecDepth 100000 in
theorem open_svc {H : Type} {enc : TypeId × Value → H} {w : World} {base base' : Nat} {spare : Nat → Bool} {held : Bool} {v : Value} {d : DataW H} {ps : List MemPlace}
    (hd : DataW.Trod enc Tryz.prog w base spare held tSvcW v d ps) (hok : Value.okWide Tryz.prog w .any base' tSvcW v) :
    ∃ (s : List UInt8) (u : Value) (a : List Mt), v = Ag [S s, u] ∧ SlV (GA w) u 3 a.length (rows mtF a) ∧ (s.length ≤ 9223372036854775807 ∧ a.length ≤ 9223372036854775807) ∧ ∀ x ∈ a, MtW x := by
  have hT : Tryz.prog.underlying tSvcW = some (.struct (flds Tryz.prog tSvcW)) := by kernel_rfl
  obtain ⟨cs, rfl, hsz⟩ := okWide_struct hT hok
  have h2 : Tryz.prog.cellsOf tSvcW = 2 := by kernel_rfl
  rw [h2] at hsz
  obtain ⟨n, hf⟩ := hd
  have hf : DataW.trod enc Tryz.prog w base spare held n tSvcW cs.toList = some (d, ps) := hf
  obtain ⟨s, e0, b0⟩ := dec_str hT hf 0 tStrW 0 (by kernel_rfl) (by kernel_rfl) (by kernel_rfl) (by simp; omega)
  obtain ⟨u, d1, ps1, e1, h1⟩ := dec_slice hT hf 1 tMsW tMtW 1 (by kernel_rfl) (by kernel_rfl) (by kernel_rfl) (by simp; omega)
  have ok1 := okWide_cell (ts := [tStrW, tMsW]) (t := tMsW) (e := tMtW) (i := 1) hT hok (by kernel_rfl) hsz (by simpa using e1) rfl (by kernel_rfl)
  obtain ⟨a, ha, hm, hn⟩ := open_mts h1 ok1
  refine ⟨s, u, a, ?_, ha, ⟨b0, hn⟩, hm⟩
  obtain ⟨l⟩ := cs
  match l, hsz with
  | [x, y], _ => simp at e0 e1; rw [e0, e1]
end Go.E
