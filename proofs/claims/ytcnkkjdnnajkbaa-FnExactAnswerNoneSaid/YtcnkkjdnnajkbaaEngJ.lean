/- The calculus of this seat's proofs: from a contract to a row. Conditions: none. -/
import Derived.Test.YtcnkkjdnnajkbaaEngI
import Derived.Below
namespace Go.E
open Go.RowKit
variable {P : Program}
def G0 : Gh := fun _ => none
theorem PuG.belowG {f : FuncId} {args : List Value} {v : Value} {G : Gh} {w : World} (hG : G.ok w) (h : PuG P f args G (· = v)) : Calls P f args.toArray w fun e w' => e = .returned v ∧ Below w.heap.size w w' := by
  have hst : St ⟨w, G, bks []⟩ G [] w := ⟨hG, by simp, by simp [bks], by simp [bks], rfl, rfl, rfl, Nat.le_refl _, fun _ _ _ => ⟨rfl, rfl⟩⟩
  refine (h.go w hst).mono ?_
  rintro e w' ⟨u, G', L', rfl, hs, _, _, rfl⟩
  exact ⟨rfl, hs.os, hs.tape, hs.output, hs.size, fun k hk => (hs.frame k hk (by simp [bks])).1⟩
theorem G0.ok (w : World) : Gh.ok G0 w := fun b g h => by cases h
theorem PuG.below {f : FuncId} {args : List Value} {v : Value} (h : PuG P f args G0 (· = v)) (w : World) : Calls P f args.toArray w fun e w' => e = .returned v ∧ Below w.heap.size w w' := PuG.belowG (G0.ok w) h
end Go.E
