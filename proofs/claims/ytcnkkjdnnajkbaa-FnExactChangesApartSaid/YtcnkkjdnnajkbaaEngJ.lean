/- The calculus of this seat's proofs: from a contract to a row. Conditions: none. -/
import Derived.Test.YtcnkkjdnnajkbaaEngI
import Derived.Below
namespace Go.E
open Go.RowKit Go.WideShapes
variable {P : Program}
def G0 : Gh := fun _ => none
theorem PuG.belowG {f : FuncId} {args : List Value} {v : Value} {G : Gh} {w : World} (hG : G.ok w) (h : PuG P f args G (· = v)) : Calls P f args.toArray w fun e w' => e = .returned v ∧ Below w.heap.size w w' := by
  have hst : St ⟨w, G, bks []⟩ G [] w := ⟨hG, by simp, by simp [bks], by simp [bks], rfl, rfl, rfl, Nat.le_refl _, fun _ _ _ => ⟨rfl, rfl⟩⟩
  refine (h.go w hst).mono ?_
  rintro e w' ⟨u, G', L', rfl, hs, _, _, rfl⟩
  exact ⟨rfl, hs.os, hs.tape, hs.output, hs.size, fun k hk => (hs.frame k hk (by simp [bks])).1⟩
theorem G0.ok (w : World) : Gh.ok G0 w := fun b g h => by cases h
theorem PuG.below {f : FuncId} {args : List Value} {v : Value} (h : PuG P f args G0 (· = v)) (w : World) : Calls P f args.toArray w fun e w' => e = .returned v ∧ Below w.heap.size w w' := PuG.belowG (G0.ok w) h
/-- All that lies there, sealed. -/
def GA (w : World) : Gh := fun b => match w.heap[b]? with
  | some (.cells c _ _) => some (.pre c.toList)
  | _ => none
theorem GA.ok (w : World) : Gh.ok (GA w) w := fun b g h => by
  unfold GA at h
  split at h
  · rename_i c e fr hb
    simp only [Option.some.injEq] at h; subst h
    exact ⟨_, hb, [], by simp⟩
  · cases h
theorem seg_GA {w : World} {b o : Nat} {c : Array Value} {e : TypeId} {fr : Nat × Nat} {vs : List Value} (hb : w.heap[b]? = some (.cells c e fr)) (h : ∀ i v, vs[i]? = some v → c[o + i]? = some v) : Seg (GA w) b o vs :=
  ⟨c.toList, by unfold GA; rw [hb], fun i v hv => by simpa using h i v hv⟩
theorem okW_slice {w : World} {base : Nat} {T e : TypeId} {a : Addr} {len cap : Nat} (hT : P.underlying T = some (.slice e)) (h : Value.okWide P w .any base T (.slice (some a) len cap)) :
    a.spot = none ∧ ∃ c el fr, w.heap[a.block]? = some (.cells c el fr) := by
  simp only [Value.okWide, hT, Cell.okWide, Cell.ok] at h
  obtain ⟨_, _, _, h1, row, cells, h2, _⟩ := h
  refine ⟨h1, ?_⟩
  unfold World.shape? at h2
  split at h2
  · rename_i c el fr hb; exact ⟨c, el, fr, hb⟩
  · cases h2
theorem cell_GA {w : World} {a : Addr} {c : Array Value} {el : TypeId} {fr : Nat × Nat} {i : Nat} {v : Value} (hs : a.spot = none) (hb : w.heap[a.block]? = some (.cells c el fr)) (h : w.cell? (a.add i) = some v) : c[a.off + i]? = some v := by
  obtain ⟨b, o, sp⟩ := a
  simp only at hs hb; subst hs
  by_cases hi : i = 0
  · subst hi; simpa [Addr.add, World.cell?, hb] using h
  · simpa [Addr.add, World.cell?, hb, hi] using h
theorem SlV.row {w : World} {a : Addr} {len cap : Nat} {zs : List Int} (hl : len ≤ cap) (hz : zs.length = cap) (hc : ∀ i, i < zs.length → w.cell? (a.add i) = some (.int .u8 (zs.getD i 0))) (hw : ∀ n ∈ zs, (Lit.int .u8 n).wf = true)
    (hs : a.spot = none ∧ ∃ c el fr, w.heap[a.block]? = some (.cells c el fr)) : ∃ l : List UInt8, SlV (GA w) (.slice (some a) len cap) 1 l.length (u8s l) := by
  obtain ⟨hs, c, el, fr, hb⟩ := hs
  have hlen : ((zs.take len).map u8).length = len := by simp; omega
  refine ⟨(zs.take len).map u8, by simp [u8s], .inr ⟨a.block, a.off, cap, ?_, by omega, seg_GA hb fun i v hv => ?_⟩⟩
  · rw [hlen]; obtain ⟨b, o, sp⟩ := a; simp only at hs; subst hs; rfl
  · have hi : i < len := by
      have := (List.getElem?_eq_some_iff.1 hv).1
      simp [u8s] at this; omega
    have hcz := cell_GA hs hb (hc i (by omega))
    rw [hcz]
    have hget : zs.getD i 0 = zs[i]'(by omega) := by simp [List.getD, List.getElem?_eq_getElem (show i < zs.length by omega)]
    have hr := hw _ (List.getElem_mem (show i < zs.length by omega))
    simp only [Lit.wf, Bool.and_eq_true, decide_eq_true_eq] at hr
    have h1 : IntKind.u8.min = 0 := rfl
    have h2 : IntKind.u8.max = 255 := rfl
    simp only [u8s, List.getElem?_map, List.getElem?_take_of_lt hi, List.getElem?_eq_getElem (show i < zs.length by omega), Option.map_some] at hv
    rw [← hv, hget, u8_val (by omega)]
theorem SlV.nil (w : World) : ∃ l : List UInt8, SlV (GA w) nilS 1 l.length (u8s l) := ⟨[], by simp [u8s], .inl ⟨rfl, rfl⟩⟩
theorem PuG.belowA {f : FuncId} {args : List Value} {v : Value} {w : World} (h : PuG P f args (GA w) (· = v)) : Calls P f args.toArray w fun e w' => e = .returned v ∧ Below w.heap.size w w' := PuG.belowG (GA.ok w) h
end Go.E
