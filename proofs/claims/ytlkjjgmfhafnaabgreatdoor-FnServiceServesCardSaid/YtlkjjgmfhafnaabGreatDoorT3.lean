/- Contracts and plain laws that the statement rests on, part 3. Conditions: as each says. -/
import Derived.Test.YtlkjjgmfhafnaabGreatDoorT2
set_option linter.unusedVariables false
set_option linter.unusedSimpArgs false
namespace Go.E
set_option maxRecDepth 20000
set_option maxHeartbeats 2000000
open Go.Proofs
variable {G : Gh}
def eF (cs : abu) (c : Nat) : Bool:=cs.any fun d=>d.toNat == c
def c5 (p : Nat → Bool) : abu → abu
 | []=>[]
 | c :: r=>if p c.toNat = true then c5 p r else c :: r
def eH (p : Nat → Bool) (s : abu) : abu:=(c5 p s.reverse).reverse
abbrev nB : TypeId:=192
theorem gx {b : Nat} {p : Nat → Bool} {c : Nat} (h : c < 256) : b6 abt 175 [Pt b 0,U8 c] G [.blk b (.cells (ch p).toArray nB (0,0))] (fun v L'=>v = Bo (p c) ∧ L' = [.blk b (.cells (ch p).toArray nB (0,0))]):=by
 refine jH [(0,_),(1,_)] Tryz.func175 Tryz.ntmps175 fun B hB hW=>?_
 repeat' (first | refine jR ?_ | (refine jo ?_;first | refine jV (qF F F oM) ?_ | refine jV (yU F F F aS) ?_))
 refine aN (vs:=[_]) F ⟨F,trivial⟩ F (List.Sublist.refl _) ⟨F,F,F⟩
theorem jp {b : Nat} {p : Nat → Bool} {s : abu} : b6 abt 146 [S s,Pt b 0] G [.blk b (.cells (ch p).toArray nB (0,0))] (fun v L'=>v = S (c5 p s) ∧ L' = [.blk b (.cells (ch p).toArray nB (0,0))]):=by
 refine jH [(0,_),(1,_)] Tryz.func146 Tryz.ntmps146 fun B hB hW=>?_
 repeat' (refine jR ?_)
 refine aU (ι:=abu) (fun t=>c5 p t = c5 p s) (fun t=>[(0,S t),(1,Pt b 0)]) (fun _=>G) (fun t=>[.blk b (.cells (ch p).toArray nB (0,0))]) (fun t=>t.length) s ?_ tU F a6 (fun t Ht=>?_)
 ·rfl
 match t,Ht with
 | [],Ht =>
  repeat' (first | refine jR ?_ | refine af F F ?_)
  refine aN (vs:=[_]) F ⟨F,trivial⟩ F (List.Sublist.refl _) ⟨F,by rw [← Ht];rfl,rfl⟩
 | c :: r,Ht =>
  have hlt : bt (c :: r) (Int.toNat 0) < 256:=lf _ _
  have e0 : bt (c :: r) (Int.toNat 0) = c.toNat:=dk c r
  have hcons : (c :: r).length = r.length + 1:=rfl
  rw [c5] at Ht
  by_cases hp : p (bt (c :: r) (Int.toNat 0)) = true
  ·have hp2 : (!p (bt (c :: r) (Int.toNat 0))) = false:=by rw [hp];rfl
   repeat' (first | refine jM ?_ | (refine jo ?_;(refine ai F F F (gx (by (repeat (assumption));done)) rfl ?_;rintro _ _ ⟨rfl,rfl⟩;dsimp only [zA,fA])) | refine ae F (aC oM) ?_ | refine af F ‹_› ?_)
   refine aT r (by rw [← Ht,← e0,if_pos hp]) oM tU F a6
  ·have hp2 : (!p (bt (c :: r) (Int.toNat 0))) = true:=by simpa using hp
   repeat' (first | refine jM ?_ | (refine jo ?_;(refine ai F F F (gx (by (repeat (assumption));done)) rfl ?_;rintro _ _ ⟨rfl,rfl⟩;dsimp only [zA,fA])) | (refine ae F (by first | assumption | (refine decide_eq_true ?_;(omega))) ?_))
   refine aN (vs:=[_]) F ⟨F,trivial⟩ F (List.Sublist.refl _) ⟨F,by rw [← Ht,← e0,if_neg hp];rfl,rfl⟩
theorem o6 (p : Nat → Bool) : ∀ s : abu,(c5 p s).length ≤ s.length
 | []=>Nat.le_refl _
 | c :: r=>by
  unfold c5
  split
  ·have:=o6 p r;simp;omega
  ·exact Nat.le_refl _
theorem t8 (p : Nat → Bool) (s : abu) : (eH p s).length ≤ s.length:=by have:=o6 p s.reverse;simpa [eH] using this
theorem sP (p : Nat → Bool) (s : abu) (c : UInt8) : eH p (s ++ [c]) = if p c.toNat = true then eH p s else s ++ [c]:=by
 unfold eH
 rw [List.reverse_append]
 simp only [List.reverse_cons,List.reverse_nil,List.nil_append,List.singleton_append,c5]
 split <;> simp
theorem nq {b : Nat} {p : Nat → Bool} {s : abu} (hs : s.length ≤ 1000000000) : b6 abt 147 [S s,Pt b 0] G [.blk b (.cells (ch p).toArray nB (0,0))] (fun v L'=>v = S (eH p s) ∧ L' = [.blk b (.cells (ch p).toArray nB (0,0))]):=by
 refine jH [(0,_),(1,_)] Tryz.func147 Tryz.ntmps147 fun B hB hW=>?_
 repeat' (refine jR ?_)
 refine aU (ι:=abu) (fun t=>t.length ≤ 1000000000 ∧ eH p t = eH p s) (fun t=>[(0,S t),(1,Pt b 0)]) (fun _=>G) (fun t=>[.blk b (.cells (ch p).toArray nB (0,0))]) (fun t=>t.length) s ?_ tU F a6 (fun t Ht=>?_)
 ·exact ⟨hs,F⟩
 have hcase : t = [] ∨ ∃ r c,t = r ++ [c]:=by
  rcases List.eq_nil_or_concat t with h | ⟨r,c,h⟩
  ·exact .inl h
  ·exact .inr ⟨r,c,by rw [h,List.concat_eq_append]⟩
 rcases hcase with rfl | ⟨r,c,rfl⟩
 ·repeat' (first | refine jR ?_ | refine af F F ?_)
  refine aN (vs:=[_]) F ⟨F,trivial⟩ F (List.Sublist.refl _) ⟨F,by rw [← Ht.2];rfl,rfl⟩
 ·have hcons : (r ++ [c]).length = r.length + 1:=by simp
  have e1 : (((r ++ [c]).length : Nat) : Int) - 1 = (r.length : Nat):=oM
  have e2 : ((((r ++ [c]).length : Nat) : Int) - 1).toNat = r.length:=oM
  have e0 : bt (r ++ [c]) ((((r ++ [c]).length : Nat) : Int) - 1).toNat = c.toNat:=by rw [e2];simp [bt,List.getD]
  have hlt : bt (r ++ [c]) ((((r ++ [c]).length : Nat) : Int) - 1).toNat < 256:=lf _ _
  have e3 : (r ++ [c]).take ((((r ++ [c]).length : Nat) : Int) - 1).toNat = r:=by rw [e2];simp
  have Ht2:=Ht.2
  rw [sP] at Ht2
  have hne : r ++ [c] ≠ []:=by simp
  by_cases hp : p (bt (r ++ [c]) ((((r ++ [c]).length : Nat) : Int) - 1).toNat) = true
  ·have hp2 : (!p (bt (r ++ [c]) ((((r ++ [c]).length : Nat) : Int) - 1).toNat)) = false:=by rw [hp];rfl
   repeat' (first | refine jM ?_ | (refine jo ?_;(refine ai F F F (gx (by (repeat (assumption));done)) rfl ?_;rintro _ _ ⟨rfl,rfl⟩;dsimp only [zA,fA])) | refine ae F (aC oM) ?_ | refine af F ‹_› ?_)
   refine aT r ⟨oM,by rw [← Ht2,← e0,if_pos hp]⟩ oM ?_ F a6
   rw [e3];repeat (first | exact trivial | refine ⟨F,?_⟩)
  ·have hp2 : (!p (bt (r ++ [c]) ((((r ++ [c]).length : Nat) : Int) - 1).toNat)) = true:=by simpa using hp
   repeat' (first | refine jM ?_ | (refine jo ?_;(refine ai F F F (gx (by (repeat (assumption));done)) rfl ?_;rintro _ _ ⟨rfl,rfl⟩;dsimp only [zA,fA])) | (refine ae F (by first | assumption | (refine decide_eq_true ?_;(omega))) ?_))
   refine aN (vs:=[_]) F ⟨F,trivial⟩ F (List.Sublist.refl _) ⟨F,by rw [← Ht2,← e0,if_neg hp];rfl,rfl⟩
theorem vR (cs : abu) (i : Nat) (h : i < cs.length) : (fun x=>eF (cs.take i) x || x == bt cs i) = eF (cs.take (i + 1)):=by
 funext x
 have e : bt cs i = (cs[i]).toNat:=by simp [bt,List.getD,List.getElem?_eq_getElem h]
 have e2 : (x == (cs[i]).toNat) = ((cs[i]).toNat == x):=by rw [Bool.eq_iff_iff,beq_iff_eq,beq_iff_eq];exact eq_comm
 rw [List.take_succ_eq_append_getElem h,e,e2]
 simp only [eF,List.any_append,List.any_cons,List.any_nil,Bool.or_false]
theorem vn {cs : abu} (h : cs.all (fun c=>decide (c.toNat < 128)) = true) : ∀ i,i < cs.length → bt cs i < 128:=fun i hi=>by
 have e : bt cs i = (cs[i]).toNat:=by simp [bt,List.getD,List.getElem?_eq_getElem hi]
 rw [List.all_eq_true] at h
 rw [e]
 simpa using h cs[i] (List.getElem_mem hi)
theorem kr {cs : abu} (hc : ∀ i,i < cs.length → bt cs i < 128) (hl : cs.length ≤ 1000) : aI abt 145 [S cs] G (· = Tu [Ag (ch (eF cs)),Bo true]):=by
 refine jE [(0,_)] Tryz.func145 Tryz.ntmps145 fun B hB=>?_
 repeat' (first | refine jR ?_ | (refine jo ?_;refine rj F F fun _=>?_))
 rename_i x
 refine aU (ι:=Nat) (fun i=>i ≤ cs.length) (fun i=>[(0,S cs),(2,Pt x 0),(4,I i)]) (fun _=>G) (fun i=>[.blk x (.cells (ch (eF (cs.take i))).toArray nB (0,0))]) (fun i=>cs.length - i) 0 ?_ tU F a6 (fun i Hi=>?_)
 ·exact Nat.zero_le _
 by_cases hi : i < cs.length
 ·have h1 : bt cs ((i : Int).toNat) < 128:=hc i hi
  have h2 : bt cs ((i : Int).toNat) < 256:=oM
  repeat' (first | refine jM ?_ | (refine jo ?_;first | refine zq F F F F aS ?_ | refine jV (qF F F oM) ?_) | refine ae F (aC oM) ?_ | refine af F (aF oM) ?_)
  refine aT (i + 1) oM oM tU F (by rw [← vR cs i hi];repeat (exact List.Sublist.refl _))
 ·have ei : i = cs.length:=oM
  subst ei
  repeat' (first | refine jR ?_ | (refine jo ?_;first | refine jV (yT F F F F) ?_ | refine qU F F F F ?_) | refine af F (aF oM) ?_)
  refine jZ (vs:=[_,_]) F ⟨zU F F F F,F,trivial⟩ F ⟨F,F,?_⟩
  rw [List.take_length];rfl
theorem vg {s cs : abu} (h2 : Nat.ble 2 cs.length = true) (hc : cs.all (fun c=>decide (c.toNat < 128)) = true) (hl : Nat.ble cs.length 1000 = true) (hs : s.length ≤ 2000000) : aI abt 107 [S s,S cs] G (· = S (c5 (eF cs) (eH (eF cs) s))):=by
 have h2:=Nat.le_of_ble_eq_true h2
 have hl:=Nat.le_of_ble_eq_true hl
 have cx_mkas:=kr (G:=G) (vn hc) hl
 by_cases h0 : s = []
 ·subst h0
  refine jE [(0,_),(1,_)] Tryz.func107 Tryz.ntmps107 fun B hB=>?_
  repeat' (first | refine jR ?_ | (refine jo ?_;refine aP F ?_) | refine aO F F F ?_ | refine ae F F ?_)
  all_goals refine jY (vs:=[_]) ?_
  all_goals rfl
 have hn : ¬ cs = []:=by rintro rfl;simp at h2
 have hr:=t8 (eF cs) s
 refine jE [(0,_),(1,_)] Tryz.func107 Tryz.ntmps107 fun B hB=>?_
 repeat' (first | refine jR ?_ | (refine jo ?_;first | refine aH F ?_ | refine rj F F fun _=>?_ | refine qU F F F F ?_ | refine ad F F F cx_mkas F ?_ | (refine ai F F F (nq oM) F ?_;rintro _ _ ⟨rfl,rfl⟩;dsimp only [zA,fA]) | (refine ai F F F jp F ?_;rintro _ _ ⟨rfl,rfl⟩;dsimp only [zA,fA])) | (refine aD F F (by refine decide_eq_false ?_;first | assumption | omega) ?_) | refine ae F F ?_ | (refine af F (by first | rfl | (refine decide_eq_false ?_;(assumption))) ?_))
 all_goals refine jY (vs:=[_]) ?_
 all_goals rfl
theorem lb {s cs : abu} (h2 : Nat.ble 2 cs.length = true) (hc : cs.all (fun c=>decide (c.toNat < 128)) = true) (hl : Nat.ble cs.length 1000 = true) : aI abt 123 [S s,S cs] G (· = S (c5 (eF cs) s)):=by
 have h2:=Nat.le_of_ble_eq_true h2
 have hl:=Nat.le_of_ble_eq_true hl
 have cx_mkas:=kr (G:=G) (vn hc) hl
 by_cases h0 : s = []
 ·subst h0
  refine jE [(0,_),(1,_)] Tryz.func123 Tryz.ntmps123 fun B hB=>?_
  repeat' (first | refine jR ?_ | (refine jo ?_;refine aP F ?_) | refine aO F F F ?_ | refine ae F F ?_)
  all_goals refine jY (vs:=[_]) ?_
  all_goals rfl
 have hn : ¬ cs = []:=by rintro rfl;simp at h2
 refine jE [(0,_),(1,_)] Tryz.func123 Tryz.ntmps123 fun B hB=>?_
 repeat' (first | refine jR ?_ | (refine jo ?_;first | refine aH F ?_ | refine rj F F fun _=>?_ | refine qU F F F F ?_ | refine ad F F F cx_mkas F ?_ | (refine ai F F F jp F ?_;rintro _ _ ⟨rfl,rfl⟩;dsimp only [zA,fA])) | (refine aD F F (by refine decide_eq_false ?_;first | assumption | omega) ?_) | refine ae F F ?_ | (refine af F (by first | rfl | (refine decide_eq_false ?_;(assumption))) ?_))
 all_goals refine jY (vs:=[_]) ?_
 all_goals rfl
theorem o5 {p : Nat → Bool} : ∀ {s : abu},c5 p s = [] ↔ ∀ c ∈ s,p c.toNat = true
 | []=>by simp [c5]
 | c :: r=>by
  unfold c5
  by_cases h : p c.toNat = true
  ·rw [if_pos h,o5];simp [h]
  ·rw [if_neg h];simp [h]
theorem t7 {p : Nat → Bool} {s : abu} : (∀ c ∈ eH p s,p c.toNat = true) ↔ ∀ c ∈ s,p c.toNat = true:=by
 have key : ∀ l : abu,(∀ c ∈ c5 p l,p c.toNat = true) ↔ ∀ c ∈ l,p c.toNat = true:=by
  intro l
  induction l with
  | nil=>simp [c5]
  | cons c r ih =>
   unfold c5
   by_cases h : p c.toNat = true
   ·rw [if_pos h,ih];simp [h]
   ·rw [if_neg h]
 unfold eH
 have:=key s.reverse
 simpa using this
theorem pW {p : Nat → Bool} {s : abu} : c5 p (eH p s) = [] ↔ ∀ c ∈ s,p c.toNat = true:=by rw [o5,t7]
def sK : abu:=[97,98,99,100,101,102,103,104,105,106,107,108,109,110,111,112,113,114,115,116,117,118,119,120,121,122]
def pV : abu:=sK ++ [48,49,50,51,52,53,54,55,56,57,32]
theorem aaJ (c : UInt8) : eF sK c.toNat = jg c:=by
 have : ∀ n : Nat,n < 256 → eF sK n = decide (97 ≤ n ∧ n ≤ 122):=by decide +kernel
 rw [this _ c.toNat_lt];rfl
theorem zK (c : UInt8) : eF pV c.toNat = decide (ia c.toNat):=by
 have : ∀ n : Nat,n < 256 → eF pV n = decide (ia n):=by decide +kernel
 exact this _ c.toNat_lt
theorem xV (s : abu) : c5 (eF sK) (eH (eF sK) s) = [] ↔ s.all jg = true:=by
 rw [pW,List.all_eq_true]
 exact forall_congr' fun c=>forall_congr' fun _=>by rw [aaJ]
theorem cS {s : abu} (h : s.length ≤ 2000000) : aI abt 66 [S s] G (· = Bo (bQ s)):=by
 have cx_trim:=vg (G:=G) (s:=s) (cs:=sK) rfl kR rfl h
 by_cases hl : 1 ≤ s.length ∧ s.length ≤ 3
 ·refine jE [(0,_)] Tryz.func66 Tryz.ntmps66 fun B hB=>?_
  repeat' (first | refine jR ?_ | (refine jo ?_;first | refine aH F ?_ | refine ad F F F cx_trim F ?_) | refine aD F F (aF oM) ?_ | refine af F (aF oM) ?_)
  all_goals refine jY (vs:=[_]) ?_
  have:=xV s
  unfold bQ
  rw [decide_eq_true hl,Bool.and_true]
  refine congrArg Bo ?_
  rw [Bool.eq_iff_iff]
  simpa using this
 ·have e : bQ s = false:=by unfold bQ;rw [decide_eq_false hl,Bool.and_false]
  rw [e]
  refine jE [(0,_)] Tryz.func66 Tryz.ntmps66 fun B hB=>?_
  repeat' (first | refine jR ?_ | (refine jo ?_;first | refine aP F ?_ | refine aH F ?_) | refine dR F F (fun _=>?_) (fun _=>?_) | (refine ae F (by first | rfl | (refine decide_eq_true ?_;(omega))) ?_))
  all_goals refine jY (vs:=[_]) ?_
  all_goals rfl
theorem tK (s : abu) : aG s = c5 (eF [91,63]) s:=by
 induction s with
 | nil=>rfl
 | cons c r ih =>
  have e : eF [91,63] c.toNat = decide (c.toNat = 91 ∨ c.toNat = 63):=by
   have : ∀ n : Nat,n < 256 → eF [91,63] n = decide (n = 91 ∨ n = 63):=by decide +kernel
   exact this _ c.toNat_lt
  unfold aG c5
  rw [e]
  by_cases h : c.toNat = 91 ∨ c.toNat = 63
  ·simp only [h,if_true,decide_true];exact ih
  ·simp [h]
theorem qA : ∀ {s : abu},eN (aG s) = eN s
 | []=>rfl
 | c :: r=>by
  unfold aG
  split
  ·rename_i h;rw [qA];conv=>{ rhs;unfold eN };rw [if_pos h]
  ·rfl
def dQ (s : abu) : List Value:=[S (sg s),S (bs s),S (nm s)]
def vt (s : abu) (v : Value) : Prop:=∃ a b c,v = Tu [Ag [S a,S b,S c],Bo (bn s)] ∧ (bn s = true → a = sg s ∧ b = bs s ∧ c = nm s)
theorem rm {s p : abu} (hp : p.length ≤ 1000000000) (hs : s.length ≤ 1000000000) : aI abt 165 [S s,S p] G (· = Bo (decide (p.length ≤ s.length ∧ s.drop (s.length - p.length) = p))):=by
 by_cases h : p.length ≤ s.length
 ·have e : (((s.length : Nat) : Int) - ((p.length : Nat) : Int)).toNat = s.length - p.length:=oM
  refine jE [(0,_),(1,_)] Tryz.func165 Tryz.ntmps165 fun B hB=>?_
  repeat' (first | refine jM ?_ | (refine jo ?_;refine aP F ?_) | refine aO F F (aC oM) ?_)
  all_goals refine jY (vs:=[_]) ?_
  all_goals (rw [e];simp [h];try rfl)
 ·refine jE [(0,_),(1,_)] Tryz.func165 Tryz.ntmps165 fun B hB=>?_
  repeat' (first | refine jR ?_ | (refine jo ?_;refine aH F ?_) | refine aD F F (aF oM) ?_)
  all_goals refine jY (vs:=[_]) ?_
  all_goals (simp [h];try rfl)
theorem mP {s p : abu} (hp : p.length ≤ 1000000000) (hs : s.length ≤ 1000000000) : aI abt 125 [S s,S p] G (· = Bo (decide (p.length ≤ s.length ∧ s.drop (s.length - p.length) = p))):=by
 refine jE [(0,_),(1,_)] Tryz.func125 Tryz.ntmps125 fun B hB=>?_
 repeat' (first | refine jR ?_ | (refine jo ?_;refine ad F F F (rm oM oM) F ?_))
 all_goals refine jY (vs:=[_]) ?_
 all_goals rfl
theorem ym {c : UInt8} {r : abu} : (1 ≤ (c :: r).length ∧ (c :: r).drop ((c :: r).length - 1) = [59]) ↔ bt (c :: r) r.length = 59:=by
 have hl : (c :: r).length - 1 = r.length:=by simp
 rw [hl]
 have hlt : r.length < (c :: r).length:=by simp
 obtain ⟨d,h1,h2⟩:=kp hlt
 rw [h1,h2]
 have h3 : (c :: r).drop (r.length + 1) = []:=by simp
 rw [h3]
 constructor
 ·rintro ⟨_,h⟩;simp only [List.cons.injEq,and_true] at h;rw [h];rfl
 ·intro h;exact ⟨by simp,by rw [show d = 59 from UInt8.toNat_inj.1 h]⟩
theorem lV : ∀ {s : abu} {c : UInt8} {r : abu},aG s = c :: r → ¬ (c.toNat = 91 ∨ c.toNat = 63)
 | [],c,r,h=>by simp [aG] at h
 | d :: s,c,r,h=>by
  unfold aG at h
  split at h
  ·exact lV h
  ·rename_i hd
   simp only [List.cons.injEq] at h
   rw [← h.1];exact hd
theorem rC {s t : abu} (h : s.length ≤ 12) (ht : aG s = t) : aI abt 88 [S s] G (vt s):=by
 have cx_triml : aI abt 123 [S s,S [91,63]] G (· = S t):=by
  rw [← ht,tK]
  exact lb F kR F
 have hcl:=k3 s
 rw [ht] at hcl
 have ek : bn s = eN t:=by unfold bn;rw [decide_eq_true h,Bool.true_and,← ht,qA]
 have esg : s.take (((s.length : Nat) : Int) - ((t.length : Nat) : Int)).toNat = sg s:=by
  unfold sg;rw [ht];congr 1;omega
 have ebs : bs s = mR t:=by unfold bs;rw [ht]
 have enm : nm s = (bc t).getD []:=by unfold nm;rw [ht]
 have hns : ∀ c r,t = c :: r → ¬ (c.toNat = 91 ∨ c.toNat = 63):=fun c r e=>lV (ht.trans e)
 clear ht
 match t,hcl,ek,ebs,enm,cx_triml,esg,hns with
 | [],hcl,ek,ebs,enm,cx_triml,esg,hns =>
  have hno : bn s = false:=by rw [ek];rfl
  have cx_suf:=mP (G:=G) (s:=[]) (p:=[59]) (by simp) (by simp)
  refine jE [(0,_)] Tryz.func88 Tryz.ntmps88 fun B hB=>?_
  repeat' (first | refine jM ?_ | (refine jo ?_;first | refine jL fun _=>?_ | refine jV (am F F) ?_ | refine jC F F F ?_ | refine aH F ?_ | refine ad F F F cx_triml F ?_ | refine ad F F F gX F ?_) | refine aD F F F ?_ | (refine af F (by first | rfl | (refine decide_eq_false ?_;(omega))) ?_))
  all_goals refine jZ (vs:=[_,_]) F ⟨aw F F F F,F,trivial⟩ F ⟨F,F,?_⟩
  all_goals exact ⟨[],[],[],by rw [hno];rfl,fun h=>by rw [hno] at h;cases h⟩
 | c :: r,hcl,ek,ebs,enm,cx_triml,esg,hns =>
  by_cases hA : c :: r = [110] ∨ c :: r = [116] ∨ c :: r = [102]
  ·rcases hA with hA | hA | hA
   all_goals (simp only [List.cons.injEq] at hA;obtain ⟨rfl,rfl⟩:=hA)
   all_goals have hyes : bn s = true:=by rw [ek];rfl
   all_goals refine jE [(0,_)] Tryz.func88 Tryz.ntmps88 fun B hB=>?_
   all_goals repeat' (first | refine jM ?_ | (refine jo ?_;first | refine jL fun _=>?_ | refine jV (am F F) ?_ | refine jD F F F ?_ | refine jC F F F ?_ | refine aP F ?_ | refine aH F ?_ | refine aK F ?_ | refine ad F F F cx_triml F ?_) | refine aO F F F ?_ | refine aD F F F ?_ | refine ae F F ?_ | refine af F (aF oM) ?_)
   all_goals refine jZ (vs:=[_,_]) F ⟨aw F F F F,F,trivial⟩ F ⟨F,F,?_⟩
   all_goals exact ⟨_,_,_,by rw [hyes];rfl,fun _=>⟨esg,by rw [ebs];rfl,by rw [enm];rfl⟩⟩
  simp only [not_or] at hA
  obtain ⟨hA1,hA2,hA3⟩:=hA
  by_cases hc : c = 64
  case neg =>
   have hc' : ¬ c.toNat = 64:=fun h=>hc (UInt8.toNat_inj.1 h)
   have hno : bn s = false:=by
    rw [ek,eN,if_neg (hns c r rfl),if_neg hc']
    by_cases hr : r = []
    ·subst hr
     have n1 : ¬ c.toNat = 110:=fun h=>hA1 (by rw [show c = 110 from UInt8.toNat_inj.1 h])
     have n2 : ¬ c.toNat = 116:=fun h=>hA2 (by rw [show c = 116 from UInt8.toNat_inj.1 h])
     have n3 : ¬ c.toNat = 102:=fun h=>hA3 (by rw [show c = 102 from UInt8.toNat_inj.1 h])
     simp [n1,n2,n3]
    ·simp [hr]
   have hp : ([64] : abu).isPrefixOf (c :: r) = false:=by simp [List.isPrefixOf];exact fun h=>hc h.symm
   refine jE [(0,_)] Tryz.func88 Tryz.ntmps88 fun B hB=>?_
   repeat' (first | refine jM ?_ | (refine jo ?_;first | refine jL fun _=>?_ | refine jV (am F F) ?_ | refine jC F F F ?_ | refine aH F ?_ | refine ad F F F cx_triml F ?_ | refine ad F F F gX F ?_) | (refine aD F F (by first | assumption | (refine decide_eq_false ?_;(assumption))) ?_) | (refine af F (by first | rfl | (refine decide_eq_false ?_;first | assumption | omega)) ?_))
   all_goals refine jZ (vs:=[_,_]) F ⟨aw F F F F,F,trivial⟩ F ⟨F,F,?_⟩
   all_goals exact ⟨[],[],[],by rw [hno];rfl,fun h=>by rw [hno] at h;cases h⟩
  subst hc
  have hp : ([64] : abu).isPrefixOf (64 :: r) = true:=by simp [List.isPrefixOf]
  have hsuf:=mP (G:=G) (s:=64 :: r) (p:=[59]) (by simp) (by simp at hcl ⊢;omega)
  have ek2 : bn s = (decide (bt (64 :: r) r.length = 59) && bQ (r.take (r.length - 1))):=by
   rw [ek,eN,if_neg dC,if_pos dC]
   congr 1
   refine decide_eq_decide.2 ?_
   omega
  have hsb:=ym (c:=64) (r:=r)
  by_cases hb : bt (64 :: r) r.length = 59
  case neg =>
   have cx_suf : aI abt 125 [S (64 :: r),S [59]] G (· = Bo false):=by
    have e : decide (([59] : abu).length ≤ (64 :: r : abu).length ∧ (64 :: r : abu).drop ((64 :: r : abu).length - ([59] : abu).length) = [59]) = false:=decide_eq_false fun h=>hb (hsb.1 h)
    rwa [e] at hsuf
   have hno : bn s = false:=by rw [ek2,decide_eq_false hb,Bool.false_and]
   refine jE [(0,_)] Tryz.func88 Tryz.ntmps88 fun B hB=>?_
   repeat' (first | refine jM ?_ | (refine jo ?_;first | refine jL fun _=>?_ | refine jV (am F F) ?_ | refine jC F F F ?_ | refine aP F ?_ | refine aH F ?_ | refine ad F F F cx_triml F ?_ | refine ad F F F gX F ?_ | refine ad F F F cx_suf F ?_) | refine aO F F F ?_ | refine aD F F F ?_ | (refine af F (by first | rfl | (refine decide_eq_false ?_;(omega))) ?_))
   all_goals refine jZ (vs:=[_,_]) F ⟨aw F F F F,F,trivial⟩ F ⟨F,F,?_⟩
   all_goals exact ⟨[],[],[],by rw [hno];rfl,fun h=>by rw [hno] at h;cases h⟩
  have cx_suf : aI abt 125 [S (64 :: r),S [59]] G (· = Bo true):=by
   have e : decide (([59] : abu).length ≤ (64 :: r : abu).length ∧ (64 :: r : abu).drop ((64 :: r : abu).length - ([59] : abu).length) = [59]) = true:=decide_eq_true (hsb.2 hb)
   rwa [e] at hsuf
  have hr : 1 ≤ r.length:=by
   cases r with
   | nil=>exact absurd hb dC
   | cons=>simp
  have hl2 : (64 :: r : abu).length = r.length + 1:=rfl
  have e1 : ((64 :: r : abu).take ((((64 :: r : abu).length : Nat) : Int) - 1).toNat).drop (Int.toNat 1) = r.take (r.length - 1):=by
   have e2 : ((((64 :: r : abu).length : Nat) : Int) - 1).toNat = (r.length - 1) + 1:=oM
   rw [e2,List.take_succ_cons];rfl
  have hyes : bn s = bQ (r.take (r.length - 1)):=by rw [ek2,decide_eq_true hb,Bool.true_and]
  have cx_isnm : aI abt 66 [S (((64 :: r : abu).take ((((64 :: r : abu).length : Nat) : Int) - 1).toNat).drop (Int.toNat 1))] G (· = Bo (bQ (r.take (r.length - 1)))):=by
   rw [e1];exact cS (by simp at hcl ⊢;omega)
  refine jE [(0,_)] Tryz.func88 Tryz.ntmps88 fun B hB=>?_
  repeat' (first | refine jM ?_ | (refine jo ?_;first | refine jL fun _=>?_ | refine jV (am F F) ?_ | refine jD F F F ?_ | refine jC F F F ?_ | refine aP F ?_ | refine aH F ?_ | refine ad F F F cx_triml F ?_ | refine ad F F F gX F ?_ | refine ad F F F cx_suf F ?_) | refine aO F F F ?_ | refine aD F F F ?_ | refine ae F F ?_ | (refine af F (by first | rfl | (refine decide_eq_false ?_;(omega))) ?_) | (refine ak (dq (id:=11) (tt:=2) F aj ?_);refine jW 5 [1] (aa 6 2) ?_;(refine jG (aa 6 3) 0 F (bC F F F F) ?_);(refine jG (aa 6 7) 2 F (an F F F) ?_);refine jA 3 F ?_;(refine ad F F F cx_isnm F ?_);refine jK (aa 6 15) ?_;refine jA 4 F ?_;(refine jC F F F ?_);refine jK (aa 6 31) ?_;refine jW 0 [5] (aa 6 63) ?_;refine jQ ?_))
  all_goals refine jZ (vs:=[_,_]) F ⟨aw F F F F,F,trivial⟩ F ⟨F,F,?_⟩
  all_goals exact ⟨_,_,_,by rw [hyes];rfl,fun _=>⟨esg,by rw [ebs];rfl,by rw [enm,e1];rfl⟩⟩
theorem k6 {s : abu} (h : s.length ≤ 2000000) : aI abt 88 [S s] G (vt s):=by
 by_cases hl : s.length ≤ 12
 ·exact rC hl F
 have e : bn s = false:=by unfold bn;rw [decide_eq_false hl,Bool.false_and]
 refine jE [(0,_)] Tryz.func88 Tryz.ntmps88 fun B hB=>?_
 repeat' (first | refine jR ?_ | (refine jo ?_;first | refine jL fun _=>?_ | refine jV (am F F) ?_ | refine jC F F F ?_) | refine ae F (aC oM) ?_)
 all_goals refine jZ (vs:=[_,_]) F ⟨aw F F F F,F,trivial⟩ F ⟨F,F,?_⟩
 all_goals exact ⟨[],[],[],by rw [e];rfl,fun h=>by rw [e] at h;cases h⟩
theorem t4 {c : UInt8} (h : 48 ≤ c.toNat) : u8 (48 + ((c.toNat : Int) - 48)) = c:=by
 apply UInt8.toNat_inj.1
 have h2:=c.toNat_lt
 have:=er (a:=48 + ((c.toNat : Int) - 48)) oM
 omega
theorem qO : ∀ {s : abu} {n m : Int},1 ≤ n → cN n s = some m → a8 m = a8 n ++ s ∧ n ≤ m
 | [],n,m,h0,h=>by simp only [cN,Option.some.injEq] at h;subst h;simp
 | c :: r,n,m,h0,h=>by
  unfold cN at h
  split at h
  ·rename_i hc
   have ih:=qO (s:=r) oM h
   refine ⟨?_,oM⟩
   have e1 : (10 * n + ((c.toNat : Int) - 48)) / 10 = n:=oM
   have e2 : (10 * n + ((c.toNat : Int) - 48)) % 10 = (c.toNat : Int) - 48:=oM
   rw [ih.1,iw (n:=10 * n + ((c.toNat : Int) - 48)) oM,e1,e2,t4 hc.1];simp
  ·cases h
theorem lU : ∀ (k : Nat) {m : Int},m.toNat ≤ k → 1 ≤ m → ∃ c r,a8 m = c :: r ∧ c.toNat ≠ 48
 | 0,m,h,h1=>by omega
 | k + 1,m,h,h1=>by
  by_cases hm : m < 10
  ·refine ⟨_,[],dh hm oM,?_⟩
   have:=er (a:=48 + m) oM
   omega
  ·obtain ⟨c,r,e,hc⟩:=lU k (m:=m / 10) oM oM
   exact ⟨c,r ++ [u8 (48 + m % 10)],by rw [iw hm,e];rfl,hc⟩
theorem oR : ∀ {s : abu} {n m : Int},0 ≤ n → cN n s = some m → 0 ≤ m
 | [],n,m,h0,h=>by simp only [cN,Option.some.injEq] at h;omega
 | c :: r,n,m,h0,h=>by
  unfold cN at h
  split at h
  ·exact oR (s:=r) oM h
  ·cases h
theorem sj {c : UInt8} {r : abu} {m : Int} (h : cN 0 (c :: r) = some m) : c :: r = a8 m ↔ ¬ (c.toNat = 48 ∧ r ≠ []):=by
 have h':=h
 unfold cN at h
 split at h
 ·rename_i hc
  by_cases h0 : c.toNat = 48
  ·have e0 : (10 * 0 + ((c.toNat : Int) - 48)) = 0:=oM
   rw [e0] at h
   constructor
   ·rintro e ⟨_,hr⟩
    have hm:=oR (Int.le_refl 0) h
    rcases Int.lt_or_le m 1 with h1 | h1
    ·have : m = 0:=oM
     subst this
     rw [dh oM oM] at e
     simp only [List.cons.injEq] at e
     exact hr e.2
    ·obtain ⟨d,t,e2,hd⟩:=lU m.toNat (Nat.le_refl _) h1
     rw [e2] at e
     simp only [List.cons.injEq] at e
     exact hd (by rw [← e.1];exact h0)
   ·intro hn
    have hr : r = []:=by
     by_cases hr : r = []
     ·exact hr
     ·exact absurd ⟨h0,hr⟩ hn
    subst hr
    simp only [cN,Option.some.injEq] at h
    subst h
    rw [dh oM oM]
    congr 1
    apply UInt8.toNat_inj.1
    have:=er (a:=48 + 0) oM
    omega
  ·have:=qO oM h
   rw [this.1,dh oM oM]
   have e : (10 * 0 + ((c.toNat : Int) - 48)) = (c.toNat : Int) - 48:=oM
   rw [e,t4 hc.1]
   simp [h0]
 ·cases h
theorem gN {s : abu} {top : Int} (h : s.length ≤ 100000000) : aI abt 135 [S s,I top] G (fun v=>∃ n,v = Tu [I n,Bo (aR s top).isSome] ∧ (∀ m,aR s top = some m → n = m) ∧ 0 ≤ n ∧ n ≤ 999999):=by
  by_cases hl : 1 ≤ s.length ∧ s.length ≤ 6
  case neg =>
    have hno : aR s top = none:=by
      unfold aR
      by_cases h6 : s.length ≤ 6
      · have : s = []:=List.length_eq_zero_iff.1 oM
        subst this
        rw [if_pos (by simp)]
        simp [cN,dh]
      · rw [if_neg h6]
    refine jE [(0,_),(1,_)] Tryz.func135 Tryz.ntmps135 fun B hB=>?_
    repeat' (first | refine jR ?_ | (refine jo ?_;first | refine aP F ?_ | refine aH F ?_) | (refine aO F F (by first | rfl | (refine decide_eq_true ?_;(omega))) ?_) | refine dR F F (fun _=>?_) (fun _=>?_) | refine ae F F ?_)
    all_goals refine jY (vs:=[_,_]) ?_
    all_goals exact ⟨_,by rw [hno];rfl,fun m hm=>(by rw [hno] at hm;cases hm),by decide,by decide⟩
  by_cases hz : bt s 0 = 48 ∧ 1 < s.length
  · have hz0 : bt s (Int.toNat 0) = 48:=hz.1
    have hno : aR s top = none:=by
      match s,hz,hl with
      | c :: r,hz,hl =>
        unfold aR
        rw [if_pos hl.2]
        split
        · rename_i n hn
          rw [if_neg]
          rintro ⟨e,_⟩
          rw [dk] at hz
          exact (sj hn).1 e ⟨hz.1,by rintro rfl;simp at hz⟩
        · rfl
    refine jE [(0,_),(1,_)] Tryz.func135 Tryz.ntmps135 fun B hB=>?_
    repeat' (first | refine jM ?_ | (refine jo ?_;first | refine aP F ?_ | refine aH F ?_) | refine aO F F (aC oM) ?_ | refine aD F F (aF oM) ?_ | refine ae F (aC oM) ?_)
    all_goals refine jY (vs:=[_,_]) ?_
    all_goals exact ⟨_,by rw [hno];rfl,fun m hm=>(by rw [hno] at hm;cases hm),by decide,by decide⟩
  have hz0 : ¬ (bt s (Int.toNat 0) = 48 ∧ 1 < s.length):=hz
  have key : aR s top = match cN 0 s with
      | some n=>if n ≤ top then some n else none
      | none=>none:=by
    match s,hz,hl with
    | c :: r,hz,hl =>
      unfold aR
      rw [if_pos hl.2]
      cases hd : cN 0 (c :: r) with
      | some n =>
        have hn:=hd
        have : c :: r = a8 n:=(sj hn).2 (by rw [dk] at hz;rintro ⟨h1,h2⟩;exact hz ⟨h1,by have:=List.length_pos_iff.2 h2;simp;omega⟩)
        dsimp only
        rw [← this]
        simp
      | none=>rfl
  refine jE [(0,_),(1,_)] Tryz.func135 Tryz.ntmps135 fun B hB=>?_
  repeat' (first | refine jM ?_ | (refine jo ?_;first | refine aP F ?_ | refine aH F ?_) | refine aD F F (aF oM) ?_ | refine dR F F (fun _=>?_) (fun _=>?_) | (refine af F (by first | rfl | (refine decide_eq_false ?_;(omega))) ?_))
  all_goals (refine aU (ι:=Nat × Int) (fun i=>(i.1 ≤ s.length ∧ i.1 ≤ 6) ∧ (0 ≤ i.2 ∧ i.2 + 1 ≤ 10 ^ i.1) ∧ cN i.2 (s.drop i.1) = cN 0 s) (fun i=>[(0,S s),(1,I top),(6,I i.2),(27,I s.length),(28,I i.1)]) (fun _=>G) (fun i=>[]) (fun i=>s.length - i.1) (0,0) ?_ tU F a6 (fun i Hi=>?_))
  all_goals (first | exact ⟨⟨by dsimp only;omega,by dsimp only;omega⟩,⟨by dsimp only;omega,by dsimp only;decide⟩,rfl⟩ | skip)
  all_goals obtain ⟨i,n⟩:=i
  all_goals dsimp only at Hi ⊢
  all_goals by_cases hi : i < s.length
  all_goals first
    | (obtain ⟨c,hc1,hc2⟩:=kp hi
       have hc3 : bt s ((i : Int).toNat) = c.toNat:=hc2
       have hd:=Hi.2.2
       rw [hc1,cN] at hd
       have h5 : i ≤ 5:=oM
       have hp:=vJ i h5
       by_cases hdig : 48 ≤ c.toNat ∧ c.toNat ≤ 57
       · rw [if_pos hdig] at hd
         repeat' (first | refine jM ?_ | (refine jo ?_;refine aH F ?_) | refine aD F F (aF oM) ?_ | refine ae F (aC oM) ?_ | refine af F (aF oM) ?_)
         refine aT (i + 1,10 * n + ((c.toNat : Int) - 48)) ⟨⟨by dsimp only;omega,by dsimp only;omega⟩,⟨by dsimp only;omega,by dsimp only;rw [hp.1];omega⟩,hd⟩ (by dsimp only;omega) ?_ rfl a6
         rw [← hc2];repeat (first | exact trivial | refine ⟨F,?_⟩)
       · rw [if_neg hdig] at hd
         have hno : aR s top = none:=by rw [key,← hd]
         repeat' (first | refine jM ?_ | (refine jo ?_;first | refine aP F ?_ | refine aH F ?_) | refine dR F F (fun _=>?_) (fun _=>?_) | (refine ae F (by first | rfl | (refine decide_eq_true ?_;(omega))) ?_))
         all_goals refine jY (vs:=[_,_]) ?_
         all_goals exact ⟨_,by rw [hno];rfl,fun m hm=>(by rw [hno] at hm;cases hm),by decide,by decide⟩)
    | (have ei : i = s.length:=oM
       have hd:=Hi.2.2
       rw [ei,List.drop_length,cN] at hd
       have hno : aR s top = if n ≤ top then some n else none:=by rw [key,← hd]
       repeat' (first | refine jR ?_ | refine af F (aF oM) ?_)
       refine jY (vs:=[_,_]) ?_
       have hp6 : ∀ i : Nat,i ≤ 6 → (10 : Int) ^ i ≤ 1000000:=by decide
       have hp7:=hp6 i oM
       have hlo:=Hi.2.1.1
       have hhi:=Hi.2.1.2
       refine ⟨n,?_,fun m hm=>?_,oM,oM⟩
       · rw [hno,dV]
         by_cases ht : n ≤ top
         · rw [if_pos ht,decide_eq_true ht];rfl
         · rw [if_neg ht,decide_eq_false ht];rfl
       · rw [hno] at hm
         split at hm
         · exact Option.some.inj hm
         · cases hm)
theorem eO {s : abu} {top : Int} (h : s.length ≤ 100000000) : aI abt 135 [S s,I top] G (fun v=>∃ n,v = Tu [I n,Bo (aR s top).isSome] ∧ (∀ m,aR s top = some m → n = m)):=by
 refine (gN (G:=G) h).mono ?_
 rintro v G' L' ⟨h1,h2,n,h3,h4,_⟩
 exact ⟨h1,h2,n,h3,h4⟩
theorem u9 : ∀ (k : Nat) {n : Int},n.toNat ≤ k → 0 ≤ n ∧ n ≤ 9223372036854775807 → aI abt 91 [I n] G (· = S (a8 n)):=by
 intro k
 induction k with
 | zero =>
  intro n hk hn
  have h1 : n < 10:=oM
  refine jE [(0,_)] Tryz.func91 Tryz.ntmps91 fun B hB=>?_
  repeat' (first | refine jM ?_ | (refine jo ?_;first | refine jF fun _=>?_ | refine jV (dJ F F (by (repeat (first | exact BL.nil | apply BL.cons));done)) ?_) | refine ae F (aC ‹_›) ?_)
  refine jY (vs:=[_]) ?_
  rw [aE,dh h1 hn.1]
 | succ k ih =>
  intro n hk hn
  have hl:=gL (n:=n / 10) oM
  have hl2:=gL (n:=n % 10) oM
  by_cases h1 : n < 10
  ·refine jE [(0,_)] Tryz.func91 Tryz.ntmps91 fun B hB=>?_
   repeat' (first | refine jM ?_ | (refine jo ?_;first | refine jF fun _=>?_ | refine jV (dJ F F (by (repeat (first | exact BL.nil | apply BL.cons));done)) ?_) | refine ae F (aC ‹_›) ?_)
   refine jY (vs:=[_]) ?_
   rw [aE,dh h1 hn.1]
  ·refine jE [(0,_)] Tryz.func91 Tryz.ntmps91 fun B hB=>?_
   repeat' (first | refine jM ?_ | (refine jo ?_;(refine ad F F F (ih oM ?_) F ?_;focus omega)) | refine af F (aF ‹_›) ?_)
   all_goals refine jY (vs:=[_]) ?_
   all_goals rw [aE,iw (n:=n) h1,dh (n:=n % 10) oM oM]
theorem fJ {n : Int} (hn : 0 ≤ n ∧ n ≤ 9223372036854775807) : aI abt 91 [I n] G (· = S (a8 n)):=u9 n.toNat (Nat.le_refl _) hn
theorem kZ (c : UInt8) : ∀ s acc : abu,(dx c.toNat acc s).length = s.count c + 1
 | [],acc=>by simp [dx]
 | d :: r,acc=>by
  unfold dx
  by_cases h : d = c
  ·subst h
   rw [if_pos rfl,List.length_cons,kZ d r []];simp
  ·have h2 : ¬ d.toNat = c.toNat:=fun e=>h (UInt8.toNat_inj.1 e)
   rw [if_neg h2,kZ c r _,List.count_cons];simp [h]
theorem xS {s : abu} {c : UInt8} : aI abt 211 [S s,S [c]] G (· = I (((aY c.toNat s).length : Int) - 1)):=by
 have hx : ∀ w,(callFunc 219 [S s,U8 (bt [c] (Int.toNat 0))].toArray).run abt w = .ok (.value (I (((aY c.toNat s).length : Int) - 1))) w:=fun w=>by
  rw [show bt [c] (Int.toNat 0) = c.toNat from dk c []]
  rw [run_callFunc_extern Tryz.func219 kR kR kR (e:=Extern.BytealgCount.count) kR]
  have:=Lib.run_countString (P:=abt) ⟨s.toArray⟩ (c.toNat : Int) w
  rw [this]
  simp only [Result.andThen]
  have e : (aY c.toNat s).length = s.count c + 1:=kZ c s []
  rw [e]
  simp [Lib.countByte]
 refine jE [(0,_),(1,_)] Tryz.func211 Tryz.ntmps211 fun B hB=>?_
 repeat' (first | refine jX ?_ | refine ae F F ?_ | refine af F F ?_)
 refine tq F (jt (m9 F F F hx) F F ?_)
 repeat' (refine jR ?_)
 refine jY (vs:=[_]) ?_
 rfl
theorem tP {s : abu} {c : UInt8} (hs : s.length ≤ 100000000) : ci abt 188 [S s,S [c],I 0,I (-1)] G (fun v G'=>bh G' v 1 (aY c.toNat s).length (ao cr (aY c.toNat s))):=by
 have hlen:=jl (k:=c.toNat) (s:=s)
 have hpos:=dL (k:=c.toNat) (s:=s)
 have emin : min (((aY c.toNat s).length : Int) - 1 + 1) ((s.length : Int) + 1) = ((aY c.toNat s).length : Nat):=oM
 refine jB [(0,_),(1,_),(2,_),(3,_)] Tryz.func188 Tryz.ntmps188 fun B hok hB hW=>?_
 repeat' (first | refine jM ?_ | (refine jo ?_;first | refine jV (aaf F F) ?_ | refine ad F F F xS F ?_) | refine ae F F ?_ | refine af F F ?_)
 rw [emin]
 repeat' (first | refine jM ?_ | (refine jo ?_;refine abi F F F F oM (fun _=>?_)))
 rename_i x
 refine aU (ι:=List abu × abu) (fun i=>i.1.length + i.2.length ≤ s.length ∧ i.1.length < (aY c.toNat s).length ∧ i.1 ++ aY c.toNat i.2 = aY c.toNat s) (fun i=>[(0,S i.2),(1,S [c]),(2,I 0),(3,I (((aY c.toNat s).length : Int) - 1)),(9,.slice (some ⟨x,0,none⟩) (aY c.toNat s).length (aY c.toNat s).length),(10,I (i.1.length : Nat))]) (fun _=>G) (fun i=>[.blk x (.cells (ao cr i.1 ++ bH [S []] ((aY c.toNat s).length - i.1.length)).toArray sU (0,0))]) (fun i=>(aY c.toNat s).length - i.1.length) ([],s) ?_ tU F a6 (fun i Hi=>?_)
 ·exact ⟨by simp,hpos,F⟩
 obtain ⟨xs,t⟩:=i
 dsimp only at Hi ⊢
 obtain ⟨hl,hlt,he⟩:=Hi
 have hel:=congrArg List.length he
 rw [List.length_append] at hel
 rcases nW c.toNat t with ⟨h1,h2⟩ | ⟨m,h1,h3,h2⟩
 ·have hc1 : aY c.toNat t = [t]:=by rw [kY,h2];rfl
  rw [hc1] at he hel
  simp only [List.length_cons,List.length_nil] at hel
  have hm : (aY c.toNat s).length - xs.length = 1:=oM
  rw [hm]
  repeat' (first | refine jM ?_ | (refine jo ?_;first | refine jV (al F F oM) ?_ | (refine uV F F F oM ?_ ?_;focus omega) | refine jV (qE F F oM) ?_) | refine af F (aF oM) ?_)
  refine Nx.sealC (b:=x) fun G' hle hseg=>?_
  refine jZ (vs:=[_]) F ⟨F,trivial⟩ F ⟨hle,F,?_⟩
  have e1 : (((xs.length : Nat) : Int) + 1).toNat = (aY c.toNat s).length:=oM
  have e2 : ao cr (xs ++ [t]) ++ bH [S []] (1 - 1) = ao cr (aY c.toNat s):=by rw [he];simp [bH]
  rw [aE,e1]
  rw [e2] at hseg
  exact ⟨by rw [p8],.inr ⟨_,_,_,F,Nat.le_refl _,hseg⟩⟩
 ·have hc1 : aY c.toNat t = t.take m :: aY c.toNat (t.drop (m + 1)):=by rw [kY,h2];rfl
  rw [hc1] at he hel
  have hp2:=dL (k:=c.toNat) (s:=t.drop (m + 1))
  simp only [List.length_cons] at hel
  have cx_ix : aI abt 187 [S t,S [c]] G (· = I (m : Int)):=by have:=sF (G:=G) (s:=t) (c:=c);rwa [h1] at this
  obtain ⟨k,hk⟩ : ∃ k,(aY c.toNat s).length - xs.length = k + 1:=⟨(aY c.toNat s).length - xs.length - 1,oM⟩
  have hk2 : (aY c.toNat s).length = xs.length + k + 1:=oM
  rw [hk]
  generalize (aY c.toNat s).length = N at *
  repeat' (first | refine jX ?_ | (refine jo ?_;first | refine jV (al F F oM) ?_ | (refine uV F F F oM ?_ ?_;focus omega) | refine ad F F F cx_ix F ?_) | refine ae F (aC oM) ?_ | refine af F F ?_)
  have e1 : ao cr (xs ++ [t.take ((m : Int) + 0).toNat]) ++ bH [S []] (k + 1 - 1) = ao cr (xs ++ [t.take m]) ++ bH [S []] (N - (xs ++ [t.take m]).length):=by
   have e2 : N - (xs ++ [t.take m]).length = k + 1 - 1:=by simp;omega
   rw [e2]
   have e3 : ((m : Int) + 0).toNat = m:=oM
   rw [e3]
  have e4 : ((m : Int) + (([c] : abu).length : Nat)).toNat = m + 1:=by simp only [List.length_cons,List.length_nil];omega
  have e5 : ((xs.length : Nat) : Int) + 1 = ((xs ++ [t.take m]).length : Nat):=by simp
  rw [e1,e4,e5]
  refine aT (xs ++ [t.take m],t.drop (m + 1)) ⟨by simp;omega,by simp;omega,by simpa using he⟩ (by simp;omega) tU rfl a6
theorem xQ {s : abu} {c : UInt8} (hs : s.length ≤ 100000000) : ci abt 162 [S s,S [c]] G (fun v G'=>bh G' v 1 (aY c.toNat s).length (ao cr (aY c.toNat s))):=by
 have cx_gs:=tP (G:=G) (c:=c) hs
 refine jB [(0,_),(1,_)] Tryz.func162 Tryz.ntmps162 fun B hok hB hW=>?_
 repeat' (first | refine jR ?_ | (refine jo ?_;(refine aM F F F cx_gs F ?_;rintro _ G hle hspl;skip)))
 all_goals refine jZ (vs:=[_]) F ⟨F,trivial⟩ F ⟨hle,F,?_⟩
 all_goals exact hspl
def iK (f : Fld) : List Value:=[I f.tag,S f.name,S (sg f.kind),S (bs f.kind),S (nm f.kind),S f.stand]
instance : RowF iK 6:=⟨fun _=>rfl⟩
theorem wX (s : abu) : c5 (eF pV) (eH (eF pV) s) = [] ↔ ∀ c ∈ s,ia c.toNat:=by
 rw [pW]
 exact forall_congr' fun c=>forall_congr' fun _=>by rw [zK];simp
def lK (s : abu) : Bool:=decide (s.length ≤ 12) && s.all fun c=>decide (ia c.toNat)
theorem iT {s : abu} (h : s.length ≤ 2000000) : aI abt 137 [S s] G (· = Bo (lK s)):=by
 have cx_trim:=vg (G:=G) (s:=s) (cs:=pV) rfl kR rfl h
 have key:=wX s
 have e : lK s = (decide (s.length ≤ 12) && decide (c5 (eF pV) (eH (eF pV) s) = [])):=by
  unfold lK
  congr 1
  rw [Bool.eq_iff_iff,List.all_eq_true,decide_eq_true_eq,key]
  simp
 rw [e]
 by_cases hl : s.length ≤ 12
 ·rw [decide_eq_true hl,Bool.true_and]
  refine jE [(0,_)] Tryz.func137 Tryz.ntmps137 fun B hB=>?_
  repeat' (first | refine jR ?_ | (refine jo ?_;first | refine aP F ?_ | refine ad F F F cx_trim F ?_) | refine aO F F (aC oM) ?_)
  all_goals refine jY (vs:=[_]) ?_
  all_goals rfl
 ·rw [decide_eq_false hl,Bool.false_and]
  refine jE [(0,_)] Tryz.func137 Tryz.ntmps137 fun B hB=>?_
  repeat' (first | refine jR ?_ | (refine jo ?_;refine aH F ?_) | refine aD F F (aF oM) ?_)
  all_goals refine jY (vs:=[_]) ?_
  all_goals rfl
theorem r5 {s : abu} : (dn s && decide (s ≠ [39,39])) = (decide (2 < s.length) && (decide (bt s 0 = 39) && (decide (bt s (s.length - 1) = 39) && lK ((s.take (s.length - 1)).drop 1)))):=by
 rw [Bool.eq_iff_iff]
 simp only [Bool.and_eq_true,decide_eq_true_eq,dn,lK,List.all_eq_true]
 constructor
 ·rintro ⟨⟨h1,h2,h3,h4⟩,h5⟩
  have hl : 2 < s.length:=by
   rcases Nat.lt_or_ge 2 s.length with h6 | h6
   ·exact h6
   ·exfalso
    match s,h1,h6,h2,h3 with
    | [a,b],_,_,h2,h3 =>
     rw [dk] at h2
     simp only [List.length_cons,List.length_nil] at h3
     rw [show (0 + 1 + 1 - 1) = 0 + 1 from rfl,d9,dk] at h3
     have e1 : a = 39:=UInt8.toNat_inj.1 h2
     have e2 : b = 39:=UInt8.toNat_inj.1 h3
     subst e1;subst e2;exact h5 F
  refine ⟨hl,h2,h3,by simp;omega,fun c hc=>?_⟩
  obtain ⟨i,hi,rfl⟩:=List.mem_iff_getElem.1 hc
  simp only [List.length_drop,List.length_take] at hi
  have e : bt s (i + 1) = (((s.take (s.length - 1)).drop 1)[i]'(by simp;omega)).toNat:=by
   simp [bt,List.getD,List.getElem?_eq_getElem (show i + 1 < s.length by omega)]
  rw [← e]
  rcases h4 (i + 1) oM with h6 | h6
  ·omega
  ·exact h6
 ·rintro ⟨hl,h2,h3,h4,h5⟩
  simp only [List.length_drop,List.length_take] at h4
  refine ⟨⟨oM,h2,h3,fun i hi=>?_⟩,fun e=>by subst e;simp at hl⟩
  rcases Nat.eq_zero_or_pos i with h6 | h6
  ·exact .inl h6
  ·refine .inr ?_
   have e : bt s i = (((s.take (s.length - 1)).drop 1)[i - 1]'(by simp;omega)).toNat:=by
    have e1 : i - 1 + 1 = i:=oM
    simp [bt,List.getD,List.getElem?_eq_getElem (show i < s.length by omega),e1]
   rw [e]
   exact h5 _ (List.getElem_mem _)
theorem od {b v : abu} (h : v.length ≤ 2000000) : aI abt 189 [S b,S v] G (· = Bo (bx b v)):=by
 by_cases h1 : b = [110]
 ·have e : bx b v = ((aR v 999999).isSome && decide (v ≠ [48])):=by rw [bx,if_pos h1]
  rw [e]
  rcases hn : aR v 999999 with _ | m
  ·refine jE [(0,_),(1,_)] Tryz.func189 Tryz.ntmps189 fun B hB=>?_
   repeat' (first | refine jR ?_ | (refine jo ?_;first | refine aH F ?_ | (refine dO F F F (eO oM) F ?_;rintro _ ⟨n,rfl,hnum⟩)) | (refine aD F F ?_ ?_;(focus ((simp [*];done);done))) | refine ae F (aC ‹_›) ?_)
   all_goals refine jY (vs:=[_]) ?_
   all_goals (simp [*])
  ·have hm:=eh hn
   have h0 : 0 ≤ m:=by
    unfold aR at hn
    split at hn
    ·split at hn
     ·rename_i hd
      split at hn
      ·simp only [Option.some.injEq] at hn;subst hn;exact oR (Int.le_refl 0) hd
      ·cases hn
     ·cases hn
    ·cases hn
   have ev : decide (v ≠ [48]) = decide (0 < m):=by
    refine decide_eq_decide.2 ?_
    rw [hm.2.1]
    constructor
    ·intro h2
     rcases Int.lt_or_le 0 m with h3 | h3
     ·exact h3
     ·have : m = 0:=oM
      subst this
      exact absurd (by rw [dh oM oM];rfl) h2
    ·intro h2 h3
     obtain ⟨c,r,e2,hc⟩:=lU m.toNat (Nat.le_refl _) oM
     rw [e2] at h3
     simp only [List.cons.injEq] at h3
     exact hc (by rw [h3.1];rfl)
   have cx_pnum : aI abt 135 [S v,I 999999] G (· = Tu [I m,Bo true]):=by
    refine (eO (G:=G) (top:=999999) (s:=v) oM).mono ?_
    rintro w G' L' ⟨h2,h3,n,rfl,h4⟩
    exact ⟨h2,h3,by rw [hn,h4 m hn];rfl⟩
   rw [ev]
   refine jE [(0,_),(1,_)] Tryz.func189 Tryz.ntmps189 fun B hB=>?_
   repeat' (first | refine jR ?_ | (refine jo ?_;first | refine aP F ?_ | refine ad F F F cx_pnum F ?_) | refine aO F F F ?_ | refine ae F (aC ‹_›) ?_)
   all_goals refine jY (vs:=[_]) ?_
   all_goals (simp [*])
 by_cases h2 : b = [116]
 ·have e : bx b v = (dn v && decide (v ≠ [39,39])):=by rw [bx,if_neg h1,if_pos h2]
  rw [e,r5]
  have e4 : (((v.length : Nat) : Int) - 1).toNat = v.length - 1:=oM
  by_cases hl : 2 < v.length
  case neg =>
   rw [decide_eq_false hl,Bool.false_and]
   refine jE [(0,_),(1,_)] Tryz.func189 Tryz.ntmps189 fun B hB=>?_
   repeat' (first | refine jR ?_ | (refine jo ?_;refine aH F ?_) | (refine aD F F (by first | rfl | (refine decide_eq_false ?_;(omega))) ?_) | refine ae F (aC ‹_›) ?_ | refine af F (aF ‹_›) ?_)
   all_goals refine jY (vs:=[_]) ?_
   all_goals rfl
  rw [decide_eq_true hl,Bool.true_and]
  by_cases hq : bt v 0 = 39
  case neg =>
   have hq2 : ¬ bt v (Int.toNat 0) = 39:=hq
   rw [decide_eq_false hq,Bool.false_and]
   refine jE [(0,_),(1,_)] Tryz.func189 Tryz.ntmps189 fun B hB=>?_
   repeat' (first | refine jM ?_ | (refine jo ?_;first | refine aP F ?_ | refine aH F ?_) | refine aO F F (aC oM) ?_ | (refine aD F F (by first | rfl | (refine decide_eq_false ?_;(omega))) ?_) | refine ae F (aC ‹_›) ?_ | refine af F (aF ‹_›) ?_)
   all_goals refine jY (vs:=[_]) ?_
   all_goals rfl
  have hq2 : bt v (Int.toNat 0) = 39:=hq
  rw [decide_eq_true hq,Bool.true_and]
  by_cases hr : bt v (v.length - 1) = 39
  case neg =>
   have hr2 : ¬ bt v (((v.length : Nat) : Int) - 1).toNat = 39:=by rw [e4];exact hr
   rw [decide_eq_false hr,Bool.false_and]
   refine jE [(0,_),(1,_)] Tryz.func189 Tryz.ntmps189 fun B hB=>?_
   repeat' (first | refine jM ?_ | (refine jo ?_;first | refine aP F ?_ | refine aH F ?_) | refine aO F F (aC oM) ?_ | refine aD F F (aF oM) ?_ | refine ae F (aC ‹_›) ?_ | refine af F (aF ‹_›) ?_)
   all_goals refine jY (vs:=[_]) ?_
   all_goals rfl
  have hr2 : bt v (((v.length : Nat) : Int) - 1).toNat = 39:=by rw [e4];exact hr
  rw [decide_eq_true hr,Bool.true_and]
  refine jE [(0,_),(1,_)] Tryz.func189 Tryz.ntmps189 fun B hB=>?_
  repeat' (first | refine jM ?_ | (refine jo ?_;first | refine aP F ?_ | (refine ad F F F (iT ?_) F ?_;(focus ((simp;omega);done)))) | refine aO F F (aC oM) ?_ | refine ae F (aC ‹_›) ?_ | refine af F (aF ‹_›) ?_)
  all_goals refine jY (vs:=[_]) ?_
  all_goals rw [e4];rfl
 ·have e : bx b v = (decide (b = [102]) && decide (v = [121,101,115])):=by
   rw [bx,if_neg h1,if_neg h2]
   by_cases h3 : b = [102]
   ·rw [if_pos h3,decide_eq_true h3,Bool.true_and]
   ·rw [if_neg h3,decide_eq_false h3,Bool.false_and]
  rw [e]
  refine jE [(0,_),(1,_)] Tryz.func189 Tryz.ntmps189 fun B hB=>?_
  repeat' (first | refine jR ?_ | (refine jo ?_;first | refine aP F ?_ | refine aH F ?_) | refine dR F F (fun _=>?_) (fun _=>?_) | refine af F (aF ‹_›) ?_)
  all_goals refine jY (vs:=[_]) ?_
  all_goals (simp [*])
theorem vz {c v : abu} (h : bn c = true) : (decide (sg c = []) && bx (bs c) v) = bx c v:=by
 match c,h with
 | x :: r,h =>
  by_cases h1 : x.toNat = 91 ∨ x.toNat = 63
  ·have hs : sg (x :: r) ≠ []:=by
    unfold sg
    rw [aG,if_pos h1]
    have:=k3 r
    intro e
    have e2:=congrArg List.length e
    simp only [List.length_take,List.length_cons,List.length_nil] at e2
    omega
   rw [decide_eq_false hs,Bool.false_and]
   unfold bx
   rw [if_neg,if_neg,if_neg]
   all_goals (intro e;simp only [List.cons.injEq] at e;have:=congrArg UInt8.toNat e.1;revert this;rcases h1 with h1 | h1 <;> rw [h1] <;> decide)
  ·have hc : aG (x :: r) = x :: r:=by rw [aG,if_neg h1]
   have hs : sg (x :: r) = []:=by unfold sg;rw [hc];simp
   rw [decide_eq_true hs,Bool.true_and]
   by_cases h2 : x.toNat = 64
   ·have hb : bs (x :: r) = [64]:=by unfold bs;rw [hc];simp [mR,h2]
    rw [hb]
    have e1 : bx [64] v = false:=by unfold bx;simp
    rw [e1]
    unfold bx
    rw [if_neg,if_neg,if_neg]
    all_goals (intro e;simp only [List.cons.injEq] at e;have:=congrArg UInt8.toNat e.1;revert this;rw [h2];decide)
   ·have hb : bs (x :: r) = x :: r:=by unfold bs;rw [hc];simp [mR,h2]
    rw [hb]
def oA (s : abu) (k : Nat) (v : Value) (_ : Gh) : Prop:=∃ f ok,v = Tu [Ag (iK f),Bo ok] ∧ bI s k = if ok = true then some f else none
theorem k5 {s : abu} {xs : List abu} {k : Nat} {c : UInt8} (n : Nat) (h : s.length ≤ 100000000) (hc : c.toNat = k) (e : aY k s = xs) (hn : xs.length = n) (h0 : 0 < n) :
  ci abt 162 [S s,S [c]] G (fun v G'=>∃ b o cap,v = .slice (some ⟨b,o,none⟩) n cap ∧ bN G' b o (ao cr xs)):=by
 subst hn;subst e;subst hc
 refine (xQ (G:=G) (s:=s) (c:=c) h).mono ?_
 rintro v G' L' ⟨h1,h2,h3⟩
 obtain ⟨b,o,cap,rfl,hs⟩:=h3.expl h0
 exact ⟨h1,h2,b,o,cap,F,hs⟩
theorem sC {s : abu} (h : s.length ≤ 2000000) (e : bn s = true) : aI abt 88 [S s] G (· = Tu [Ag (dQ s),Bo true]):=by
 refine (k6 (G:=G) h).mono ?_
 rintro v G' L' ⟨h1,h2,a,b,c,rfl,h3⟩
 obtain ⟨rfl,rfl,rfl⟩:=h3 e
 exact ⟨h1,h2,by rw [e];rfl⟩
theorem sw {s : abu} {top m : Int} (h : s.length ≤ 100000000) (e : aR s top = some m) : aI abt 135 [S s,I top] G (· = Tu [I m,Bo true]):=by
 refine (eO (G:=G) (top:=top) h).mono ?_
 rintro v G' L' ⟨h1,h2,n,rfl,h3⟩
 exact ⟨h1,h2,by rw [e,h3 m e];rfl⟩
theorem sx {s : abu} {top : Int} (h : s.length ≤ 100000000) (e : aR s top = none) : aI abt 135 [S s,I top] G (fun v=>∃ n,v = Tu [I n,Bo false]):=by
 refine (eO (G:=G) (top:=top) h).mono ?_
 rintro v G' L' ⟨h1,h2,n,rfl,h3⟩
 exact ⟨h1,h2,n,by rw [e];rfl⟩
theorem lX {s : abu} {k : Nat} (h : s.length ≤ 1000) (e : (aY 58 (aB 61 s).1).length ≠ if k = 69 then 2 else 3) : ci abt 163 [S s,U8 k] G (oA s k):=by
 have hcl:=iM (k:=61) (s:=s)
 have cx_cut : aI abt 120 [S s,S [61]] G (· = Tu [S (aB 61 s).1,S (aB 61 s).2.1,Bo (aB 61 s).2.2]):=ot (c:=61) oM
 have cx_split:=k5 (G:=G) (c:=58) (k:=58) _ (s:=(aB 61 s).1) oM rfl rfl rfl dL
 have hno : bI s k = none:=by
  rw [← oO]
  unfold lN
  split
  ·rename_i e2
   rw [e2] at e
   split
   ·rename_i hk;simp [hk.1] at e
   ·rfl
  ·rename_i e2
   rw [e2] at e
   split
   ·rfl
   ·rename_i hk;simp [hk] at e
  ·rfl
 have hpos:=dL (k:=58) (s:=(aB 61 s).1)
 generalize hn : (aY 58 (aB 61 s).1).length = n at *
 by_cases hk : k = 69
 ·rw [if_pos hk] at e
  refine jB [(0,_),(1,_)] Tryz.func163 Tryz.ntmps163 fun B hok hB hW=>?_
  repeat' (first | refine jR ?_ | (refine jo ?_;first | refine jL fun _=>?_ | refine jV (aq F) ?_ | refine jV (am F F) ?_ | refine jC F F F ?_ | refine ad F F F cx_cut F ?_ | (refine aM F F F cx_split F ?_;rintro _ G hle ⟨b1,o1,cap1,rfl,hseg⟩;skip)) | refine ae F (aC oM) ?_)
  all_goals refine jZ (vs:=[_,_]) F ⟨aw F F F F,F,trivial⟩ F ⟨hle,F,?_⟩
  all_goals exact ⟨default,false,F,by rw [hno];rfl⟩
 ·rw [if_neg hk] at e
  refine jB [(0,_),(1,_)] Tryz.func163 Tryz.ntmps163 fun B hok hB hW=>?_
  repeat' (first | refine jR ?_ | (refine jo ?_;first | refine jL fun _=>?_ | refine jV (aq F) ?_ | refine jV (am F F) ?_ | refine jC F F F ?_ | refine ad F F F cx_cut F ?_ | (refine aM F F F cx_split F ?_;rintro _ G hle ⟨b1,o1,cap1,rfl,hseg⟩;skip)) | refine ae F (aC oM) ?_ | refine af F (aF oM) ?_)
  all_goals refine jZ (vs:=[_,_]) F ⟨aw F F F F,F,trivial⟩ F ⟨hle,F,?_⟩
  all_goals exact ⟨default,false,F,by rw [hno];rfl⟩
theorem qW {s a b : abu} (h : s.length ≤ 1000) (e : aY 58 (aB 61 s).1 = [a,b]) : ci abt 163 [S s,U8 (69 : Nat)] G (oA s 69):=by
  have hcl:=iM (k:=61) (s:=s)
  have cx_cut : aI abt 120 [S s,S [61]] G (· = Tu [S (aB 61 s).1,S (aB 61 s).2.1,Bo (aB 61 s).2.2]):=ot (c:=61) oM
  have cx_split:=k5 (G:=G) (c:=58) (k:=58) 2 (s:=(aB 61 s).1) oM rfl e rfl oM
  have ha : a.length ≤ 1000:=by have:=cY (k:=58) (s:=(aB 61 s).1) (x:=a) (by rw [e];simp);omega
  have hb : b.length ≤ 1000:=by have:=cY (k:=58) (s:=(aB 61 s).1) (x:=b) (by rw [e];simp);omega
  have hall : bI s 69 = if (aB 61 s).2.2 = false then match aR a 200 with
      | some n=>if 1 ≤ n ∧ bQ b = true then some ⟨n,b,[],[]⟩ else none
      | none=>none else none:=by
    rw [← oO];unfold lN;rw [e];simp <;> rfl
  generalize hto : (aB 61 s).2.2 = told at *
  generalize hva : (aB 61 s).2.1 = val at *
  rcases hm : aR a 200 with _ | m
  · have hno : bI s 69 = none:=by rw [hall,hm];simp
    have cx_pn : ∀ G,aI abt 135 [S a,I 200] G (fun v=>∃ n,v = Tu [I n,Bo false]):=fun G=>sx oM hm
    refine jB [(0,_),(1,_)] Tryz.func163 Tryz.ntmps163 fun B hok hB hW=>?_
    repeat' (first | refine jR ?_ | (refine jo ?_;first | refine jL fun _=>?_ | refine jV (aq F) ?_ | refine jV (am F F) ?_ | refine jC F F F ?_ | refine jV (aZ F F oM) ?_ | refine jV (ay F F aS F F) ?_ | refine aP F ?_ | refine ad F F F cx_cut F ?_ | (refine aM F F F cx_split F ?_;rintro _ G hle ⟨b1,o1,cap1,rfl,hseg⟩;skip) | (refine dO F F F (cx_pn _) F ?_;rintro _ ⟨n,rfl⟩)) | refine aO F F F ?_ | refine ae F F ?_ | refine af F F ?_)
    all_goals refine jZ (vs:=[_,_]) F ⟨aw F F F F,F,trivial⟩ F ⟨hle,F,?_⟩
    all_goals exact ⟨default,false,F,by rw [hno];rfl⟩
  have cx_pq : ∀ G,aI abt 135 [S a,I 200] G (· = Tu [I m,Bo true]):=fun G=>sw oM hm
  rw [hm] at hall
  dsimp only at hall
  by_cases hg : 1 ≤ m ∧ bQ b = true
  · rw [if_pos hg] at hall
    have hg1:=hg.1
    have hg2 : (!bQ b) = false:=by rw [hg.2];rfl
    cases told with
    | true =>
      refine jB [(0,_),(1,_)] Tryz.func163 Tryz.ntmps163 fun B hok hB hW=>?_
      repeat' (first | refine jR ?_ | (refine jo ?_;first | refine jL fun _=>?_ | refine jV (aq F) ?_ | refine jV (am F F) ?_ | refine jC F F F ?_ | refine jV (aZ F F oM) ?_ | refine ah F ?_ | refine jV (ay F F aS F F) ?_ | refine aP F ?_ | refine aH F ?_ | refine ad F F F cx_cut F ?_ | (refine aM F F F cx_split F ?_;rintro _ G hle ⟨b1,o1,cap1,rfl,hseg⟩;skip) | refine ad F F F (cx_pq _) F ?_ | refine ad F F F (cS oM) F ?_) | refine aO F F F ?_ | (refine aD F F (by first | rfl | (refine decide_eq_false ?_;(omega))) ?_) | refine ae F F ?_ | (refine af F (by first | rfl | assumption) ?_))
      all_goals refine jZ (vs:=[_,_]) F ⟨aw F F F F,F,trivial⟩ F ⟨hle,F,?_⟩
      all_goals exact ⟨default,false,F,by rw [hall];rfl⟩
    | false =>
      have hv : val = []:=by have:=eG hto;rw [this] at hva;exact hva.symm
      refine jB [(0,_),(1,_)] Tryz.func163 Tryz.ntmps163 fun B hok hB hW=>?_
      repeat' (first | refine jR ?_ | (refine jo ?_;first | refine jL fun _=>?_ | refine jV (aq F) ?_ | refine jV (am F F) ?_ | refine jC F F F ?_ | refine jV (aZ F F oM) ?_ | refine ah F ?_ | refine aK F ?_ | refine jV (ay F F aS F F) ?_ | refine aH F ?_ | refine ad F F F cx_cut F ?_ | (refine aM F F F cx_split F ?_;rintro _ G hle ⟨b1,o1,cap1,rfl,hseg⟩;skip) | refine ad F F F (cx_pq _) F ?_ | refine ad F F F (cS oM) F ?_) | (refine aD F F (by first | rfl | (refine decide_eq_false ?_;(omega))) ?_) | refine ae F F ?_ | (refine af F (by first | rfl | assumption) ?_))
      all_goals refine jZ (vs:=[_,_]) F ⟨aw F F F F,F,trivial⟩ F ⟨hle,F,?_⟩
      all_goals exact ⟨⟨m,b,[],[]⟩,true,by rw [hv];rfl,by rw [hall];rfl⟩
  · rw [if_neg hg] at hall
    have hno : bI s 69 = none:=by rw [hall];simp
    by_cases h1 : m < 1
    case' neg => have hg2 : (!bQ b) = true := by
                  cases hb2 : bQ b with
                  | false=>rfl
                  | true=>exact absurd ⟨oM,hb2⟩ hg
    all_goals refine jB [(0,_),(1,_)] Tryz.func163 Tryz.ntmps163 fun B hok hB hW=>?_
    all_goals repeat' (first | refine jR ?_ | (refine jo ?_;first | refine jL fun _=>?_ | refine jV (aq F) ?_ | refine jV (am F F) ?_ | refine jC F F F ?_ | refine jV (aZ F F oM) ?_ | refine ah F ?_ | refine jV (ay F F aS F F) ?_ | refine aP F ?_ | refine aH F ?_ | refine ad F F F cx_cut F ?_ | (refine aM F F F cx_split F ?_;rintro _ G hle ⟨b1,o1,cap1,rfl,hseg⟩;skip) | refine ad F F F (cx_pq _) F ?_ | refine ad F F F (cS oM) F ?_) | refine aO F F (aC ‹_›) ?_ | (refine aD F F (by first | rfl | (refine decide_eq_false ?_;(assumption))) ?_) | (refine ae F (by first | rfl | assumption) ?_) | refine af F F ?_)
    all_goals refine jZ (vs:=[_,_]) F ⟨aw F F F F,F,trivial⟩ F ⟨hle,F,?_⟩
    all_goals exact ⟨default,false,F,by rw [hno];rfl⟩
theorem qV {s a b c : abu} {k : Nat} (h : s.length ≤ 1000) (hk : ¬ k = 69) (e : aY 58 (aB 61 s).1 = [a,b,c]) : ci abt 163 [S s,U8 k] G (oA s k):=by
  have hcl:=iM (k:=61) (s:=s)
  have cx_cut : aI abt 120 [S s,S [61]] G (· = Tu [S (aB 61 s).1,S (aB 61 s).2.1,Bo (aB 61 s).2.2]):=ot (c:=61) oM
  have cx_split:=k5 (G:=G) (c:=58) (k:=58) 3 (s:=(aB 61 s).1) oM rfl e rfl oM
  have ha : a.length ≤ 1000:=by have:=cY (k:=58) (s:=(aB 61 s).1) (x:=a) (by rw [e];simp);omega
  have hb : b.length ≤ 1000:=by have:=cY (k:=58) (s:=(aB 61 s).1) (x:=b) (by rw [e];simp);omega
  have hc : c.length ≤ 1000:=by have:=cY (k:=58) (s:=(aB 61 s).1) (x:=c) (by rw [e];simp);omega
  have hall : bI s k = match aR a 200 with
      | some n=>if (1 ≤ n ∧ bQ b = true) ∧ bn c = true ∧ ((aB 61 s).2.2 = true → k = 82 ∧ bx c (aB 61 s).2.1 = true) then some ⟨n,b,c,(aB 61 s).2.1⟩ else none
      | none=>none:=by
    rw [← oO];unfold lN;rw [e];simp [hk] <;> rfl
  generalize hto : (aB 61 s).2.2 = told at *
  generalize hva : (aB 61 s).2.1 = val at *
  rcases hm : aR a 200 with _ | m
  · have hno : bI s k = none:=by rw [hall,hm]
    have cx_pn : ∀ G,aI abt 135 [S a,I 200] G (fun v=>∃ n,v = Tu [I n,Bo false]):=fun G=>sx oM hm
    refine jB [(0,_),(1,_)] Tryz.func163 Tryz.ntmps163 fun B hok hB hW=>?_
    repeat' (first | refine jR ?_ | (refine jo ?_;first | refine jL fun _=>?_ | refine jV (aq F) ?_ | refine jV (am F F) ?_ | refine jC F F F ?_ | refine jV (aZ F F oM) ?_ | refine jV (ay F F aS F F) ?_ | refine aP F ?_ | refine ad F F F cx_cut F ?_ | (refine aM F F F cx_split F ?_;rintro _ G hle ⟨b1,o1,cap1,rfl,hseg⟩;skip) | (refine dO F F F (cx_pn _) F ?_;rintro _ ⟨n,rfl⟩)) | refine aO F F F ?_ | refine ae F F ?_ | (refine af F (by first | rfl | (refine decide_eq_false ?_;(omega))) ?_))
    all_goals refine jZ (vs:=[_,_]) F ⟨aw F F F F,F,trivial⟩ F ⟨hle,F,?_⟩
    all_goals exact ⟨default,false,F,by rw [hno];rfl⟩
  have cx_pq : ∀ G,aI abt 135 [S a,I 200] G (· = Tu [I m,Bo true]):=fun G=>sw oM hm
  rw [hm] at hall
  dsimp only at hall
  by_cases hg : 1 ≤ m ∧ bQ b = true
  case neg =>
    have hno : bI s k = none:=by rw [hall,if_neg fun h=>hg h.1]
    by_cases h1 : m < 1
    case' neg => have hg2 : (!bQ b) = true := by
                  cases hb2 : bQ b with
                  | false=>rfl
                  | true=>exact absurd ⟨oM,hb2⟩ hg
    all_goals refine jB [(0,_),(1,_)] Tryz.func163 Tryz.ntmps163 fun B hok hB hW=>?_
    all_goals repeat' (first | refine jR ?_ | (refine jo ?_;first | refine jL fun _=>?_ | refine jV (aq F) ?_ | refine jV (am F F) ?_ | refine jC F F F ?_ | refine jV (aZ F F oM) ?_ | refine ah F ?_ | refine jV (ay F F aS F F) ?_ | refine aP F ?_ | refine aH F ?_ | refine ad F F F cx_cut F ?_ | (refine aM F F F cx_split F ?_;rintro _ G hle ⟨b1,o1,cap1,rfl,hseg⟩;skip) | refine ad F F F (cx_pq _) F ?_ | refine ad F F F (cS oM) F ?_) | refine aO F F (aC ‹_›) ?_ | (refine aD F F (by first | rfl | (refine decide_eq_false ?_;(assumption))) ?_) | (refine ae F (by first | rfl | assumption) ?_) | (refine af F (by first | rfl | (refine decide_eq_false ?_;(omega))) ?_))
    all_goals refine jZ (vs:=[_,_]) F ⟨aw F F F F,F,trivial⟩ F ⟨hle,F,?_⟩
    all_goals exact ⟨default,false,F,by rw [hno];rfl⟩
  have hg1:=hg.1
  have hg2 : (!bQ b) = false:=by rw [hg.2];rfl
  by_cases hkc : bn c = true
  case neg =>
    have hkc2 : bn c = false:=by simpa using hkc
    have hno : bI s k = none:=by rw [hall,if_neg fun h=>hkc h.2.1]
    have cx_kn : ∀ G,aI abt 88 [S c] G (fun v=>∃ x y z,v = Tu [Ag [S x,S y,S z],Bo false]):=fun G=>by
      refine (k6 (G:=G) (s:=c) oM).mono ?_
      rintro v G' L' ⟨h1,h2,x,y,z,rfl,_⟩
      exact ⟨h1,h2,x,y,z,by rw [hkc2]⟩
    refine jB [(0,_),(1,_)] Tryz.func163 Tryz.ntmps163 fun B hok hB hW=>?_
    repeat' (first | refine jR ?_ | (refine jo ?_;first | refine jL fun _=>?_ | refine jV (aq F) ?_ | refine jV (am F F) ?_ | refine jC F F F ?_ | refine jV (aZ F F oM) ?_ | refine ah F ?_ | refine jV (ay F F aS F F) ?_ | refine aH F ?_ | refine ad F F F cx_cut F ?_ | (refine aM F F F cx_split F ?_;rintro _ G hle ⟨b1,o1,cap1,rfl,hseg⟩;skip) | refine ad F F F (cx_pq _) F ?_ | refine ad F F F (cS oM) F ?_ | (refine dO F F F (cx_kn _) F ?_;rintro _ ⟨x,y,z,rfl⟩)) | (refine aD F F (by first | rfl | (refine decide_eq_false ?_;(omega))) ?_) | (refine ae F (by first | rfl | (refine decide_eq_true ?_;(omega))) ?_) | (refine af F (by first | rfl | assumption | (refine decide_eq_false ?_;(omega))) ?_))
    all_goals refine jZ (vs:=[_,_]) F ⟨aw F F F F,F,trivial⟩ F ⟨hle,F,?_⟩
    all_goals exact ⟨default,false,F,by rw [hno];rfl⟩
  have cx_kq : ∀ G,aI abt 88 [S c] G (· = Tu [Ag [S (sg c),S (bs c),S (nm c)],Bo true]):=fun G=>sC oM hkc
  cases told with
  | false =>
    have hv : val = []:=by have:=eG hto;rw [this] at hva;exact hva.symm
    have hyes : bI s k = some ⟨m,b,c,val⟩:=by rw [hall,if_pos ⟨hg,hkc,fun h=>by cases h⟩]
    refine jB [(0,_),(1,_)] Tryz.func163 Tryz.ntmps163 fun B hok hB hW=>?_
    repeat' (first | refine jR ?_ | (refine jo ?_;first | refine jL fun _=>?_ | refine jV (aq F) ?_ | refine jV (am F F) ?_ | refine jC F F F ?_ | refine jV (aZ F F oM) ?_ | refine ah F ?_ | refine aK F ?_ | refine jV (ay F F aS F F) ?_ | refine aH F ?_ | refine ad F F F cx_cut F ?_ | (refine aM F F F cx_split F ?_;rintro _ G hle ⟨b1,o1,cap1,rfl,hseg⟩;skip) | refine ad F F F (cx_pq _) F ?_ | refine ad F F F (cS oM) F ?_ | refine ad F F F (cx_kq _) F ?_) | (refine aD F F (by first | rfl | (refine decide_eq_false ?_;(omega))) ?_) | refine ae F (aC oM) ?_ | (refine af F (by first | rfl | assumption | (refine decide_eq_false ?_;(omega))) ?_))
    all_goals refine jZ (vs:=[_,_]) F ⟨aw F F F F,F,trivial⟩ F ⟨hle,F,?_⟩
    all_goals exact ⟨⟨m,b,c,val⟩,true,F,by rw [hyes];rfl⟩
  | true =>
    have hst:=vz (v:=val) hkc
    by_cases h82 : k = 82
    case neg =>
      have hno : bI s k = none:=by rw [hall,if_neg fun h=>h82 (h.2.2 rfl).1]
      have h83 : ¬ (k : Int) = 82:=oM
      refine jB [(0,_),(1,_)] Tryz.func163 Tryz.ntmps163 fun B hok hB hW=>?_
      repeat' (first | refine jR ?_ | (refine jo ?_;first | refine jL fun _=>?_ | refine jV (aq F) ?_ | refine jV (am F F) ?_ | refine jC F F F ?_ | refine jV (aZ F F oM) ?_ | refine ah F ?_ | refine jV (ay F F aS F F) ?_ | refine aP F ?_ | refine aH F ?_ | refine ad F F F cx_cut F ?_ | (refine aM F F F cx_split F ?_;rintro _ G hle ⟨b1,o1,cap1,rfl,hseg⟩;skip) | refine ad F F F (cx_pq _) F ?_ | refine ad F F F (cS oM) F ?_ | refine ad F F F (cx_kq _) F ?_) | (refine aO F F (by first | rfl | (refine decide_eq_true ?_;(assumption))) ?_) | (refine aD F F (by first | rfl | (refine decide_eq_false ?_;(omega))) ?_) | (refine ae F (by first | rfl | (refine decide_eq_true ?_;(omega))) ?_) | (refine af F (by first | rfl | assumption | (refine decide_eq_false ?_;(omega))) ?_))
      all_goals refine jZ (vs:=[_,_]) F ⟨aw F F F F,F,trivial⟩ F ⟨hle,F,?_⟩
      all_goals exact ⟨default,false,F,by rw [hno];rfl⟩
    subst h82
    by_cases hsg : sg c = []
    · rw [decide_eq_true hsg,Bool.true_and] at hst
      by_cases hso : bx c val = true
      · have hyes : bI s 82 = some ⟨m,b,c,val⟩:=by rw [hall,if_pos ⟨hg,hkc,fun _=>⟨rfl,hso⟩⟩]
        have hso2 : (!bx (bs c) val) = false:=by rw [hst,hso];rfl
        refine jB [(0,_),(1,_)] Tryz.func163 Tryz.ntmps163 fun B hok hB hW=>?_
        repeat' (first | refine jR ?_ | (refine jo ?_;first | refine jL fun _=>?_ | refine jV (aq F) ?_ | refine jV (am F F) ?_ | refine jC F F F ?_ | refine jV (aZ F F oM) ?_ | refine ah F ?_ | refine aK F ?_ | refine jV (ay F F aS F F) ?_ | refine aP F ?_ | refine aH F ?_ | refine ad F F F cx_cut F ?_ | (refine aM F F F cx_split F ?_;rintro _ G hle ⟨b1,o1,cap1,rfl,hseg⟩;skip) | refine ad F F F (cx_pq _) F ?_ | refine ad F F F (cS oM) F ?_ | refine ad F F F (cx_kq _) F ?_ | refine ad F F F (od oM) F ?_) | refine aO F F F ?_ | (refine aD F F ?_ ?_;(focus ((first | rfl | (refine decide_eq_false ?_;(omega)) | (simp [*];done));done))) | refine ae F F ?_ | (refine af F (by first | rfl | assumption) ?_))
        all_goals refine jZ (vs:=[_,_]) F ⟨aw F F F F,F,trivial⟩ F ⟨hle,F,?_⟩
        all_goals exact ⟨⟨m,b,c,val⟩,true,F,by rw [hyes];rfl⟩
      · have hno : bI s 82 = none:=by rw [hall,if_neg fun h=>hso (h.2.2 rfl).2]
        have hso2 : (!bx (bs c) val) = true:=by rw [hst];simpa using hso
        refine jB [(0,_),(1,_)] Tryz.func163 Tryz.ntmps163 fun B hok hB hW=>?_
        repeat' (first | refine jR ?_ | (refine jo ?_;first | refine jL fun _=>?_ | refine jV (aq F) ?_ | refine jV (am F F) ?_ | refine jC F F F ?_ | refine jV (aZ F F oM) ?_ | refine ah F ?_ | refine jV (ay F F aS F F) ?_ | refine aP F ?_ | refine aH F ?_ | refine ad F F F cx_cut F ?_ | (refine aM F F F cx_split F ?_;rintro _ G hle ⟨b1,o1,cap1,rfl,hseg⟩;skip) | refine ad F F F (cx_pq _) F ?_ | refine ad F F F (cS oM) F ?_ | refine ad F F F (cx_kq _) F ?_ | refine ad F F F (od oM) F ?_) | refine aO F F F ?_ | (refine aD F F ?_ ?_;(focus ((first | rfl | (refine decide_eq_false ?_;(omega)) | (simp [*];done));done))) | (refine ae F (by first | rfl | assumption) ?_) | (refine af F (by first | rfl | assumption) ?_))
        all_goals refine jZ (vs:=[_,_]) F ⟨aw F F F F,F,trivial⟩ F ⟨hle,F,?_⟩
        all_goals exact ⟨default,false,F,by rw [hno];rfl⟩
    · rw [decide_eq_false hsg,Bool.false_and] at hst
      have hno : bI s 82 = none:=by rw [hall,if_neg fun h=>by rw [(h.2.2 rfl).2] at hst;cases hst]
      refine jB [(0,_),(1,_)] Tryz.func163 Tryz.ntmps163 fun B hok hB hW=>?_
      repeat' (first | refine jR ?_ | (refine jo ?_;first | refine jL fun _=>?_ | refine jV (aq F) ?_ | refine jV (am F F) ?_ | refine jC F F F ?_ | refine jV (aZ F F oM) ?_ | refine ah F ?_ | refine jV (ay F F aS F F) ?_ | refine aP F ?_ | refine aH F ?_ | refine ad F F F cx_cut F ?_ | (refine aM F F F cx_split F ?_;rintro _ G hle ⟨b1,o1,cap1,rfl,hseg⟩;skip) | refine ad F F F (cx_pq _) F ?_ | refine ad F F F (cS oM) F ?_ | refine ad F F F (cx_kq _) F ?_) | (refine aO F F (by first | rfl | (refine decide_eq_true ?_;(assumption))) ?_) | (refine aD F F (by first | rfl | (refine decide_eq_false ?_;(omega))) ?_) | refine ae F F ?_ | (refine af F (by first | rfl | assumption) ?_))
      all_goals refine jZ (vs:=[_,_]) F ⟨aw F F F F,F,trivial⟩ F ⟨hle,F,?_⟩
      all_goals exact ⟨default,false,F,by rw [hno];rfl⟩
theorem rD {s : abu} {k : Nat} (h : s.length ≤ 1000) : ci abt 163 [S s,U8 k] G (oA s k):=by
 by_cases hk : k = 69
 ·subst hk
  by_cases h2 : (aY 58 (aB 61 s).1).length = 2
  ·match e : aY 58 (aB 61 s).1,h2 with
   | [a,b],_=>exact qW h e
  ·exact lX h (by simpa using h2)
 ·by_cases h3 : (aY 58 (aB 61 s).1).length = 3
  ·match e : aY 58 (aB 61 s).1,h3 with
   | [a,b,c],_=>exact qV h hk e
  ·exact lX h (by simpa [hk] using h3)
theorem iU {s : abu} {xs : List abu} {k : Nat} (n : Nat) (h : s.length ≤ 100000000) (e : aY k s = xs) (hn : xs.length = n) (h0 : 0 < n) :
  b6 abt 114 [S s,U8 k] G [] (fun v L'=>∃ b cap,v = .slice (some ⟨b,0,none⟩) n cap ∧ L' = [.acc (.slice (some ⟨b,0,none⟩) n cap) sU 1 n (oE xs)]):=by
 subst hn;subst e
 refine (sA (G:=G) (k:=k) h).mono ?_
 rintro v G' L' ⟨h1,h2,h3⟩
 obtain ⟨b,cap,rfl⟩:=h3.pos oM
 exact ⟨h1,b,cap,F,h2⟩
theorem qX {s : abu} {top m : Int} (h : s.length ≤ 100000000) (e : aR s top = some m) : aI abt 151 [S s,I top] G (· = Tu [I m,Bo true]):=by
 refine (mr (G:=G) (top:=top) h).mono ?_
 rintro v G' L' ⟨h1,h2,n,rfl,h3⟩
 exact ⟨h1,h2,by rw [e,h3 m e];rfl⟩
abbrev ky (s : abu) (k : Nat) (v : Value) : Prop:=∃ f ok,v = Tu [Ag (cF f),Bo ok] ∧ bI s k = if ok then some f else none
theorem vW {s : abu} {k : Nat} (h : (aY 58 s).length ≠ 2) (h' : (aY 58 s).length ≠ 3) : bI s k = none:=by
 unfold bI
 split
 ·rename_i e;rw [e] at h;simp at h
 ·rename_i e;rw [e] at h';simp at h'
 ·rfl
theorem oZ {s : abu} {k : Nat} (h : s.length ≤ 1000) (e : (aY 58 s).length ≠ 2) (e' : (aY 58 s).length ≠ 3) : aI abt 156 [S s,U8 k] G (ky s k):=by
 have e0 : 0 < (aY 58 s).length:=dL
 generalize hn : (aY 58 s).length = n at *
 have cx_cut1:=iU (G:=G) (k:=58) n oM rfl hn e0
 have hno : bI s k = none:=vW oM oM
 refine jE [(0,_),(1,_)] Tryz.func156 Tryz.ntmps156 fun B hB=>?_
 repeat' (first | refine jR ?_ | (refine jo ?_;first | refine jL fun _=>?_ | refine jV (aq F) ?_ | refine aP F ?_ | refine aH F ?_ | refine jV (am F F) ?_ | refine jC F F F ?_ | (refine ep F F F cx_cut1 F ?_;rintro _ _ ⟨b1,cap1,rfl,rfl⟩;dsimp only [zA,fA])) | refine aO F F (aC oM) ?_ | refine dR F F (fun _=>?_) (fun _=>?_) | (refine ae F (by first | rfl | (refine decide_eq_true ?_;(omega))) ?_))
 all_goals refine jZ (vs:=[_,_]) F ⟨aw F F F F,F,trivial⟩ F ⟨F,F,?_⟩
 all_goals exact ⟨default,false,F,by rw [hno];rfl⟩
theorem oY {s a b : abu} {k : Nat} (h : s.length ≤ 1000) (e : aY 58 s = [a,b]) : aI abt 156 [S s,U8 k] G (ky s k):=by
 have ha : a.length ≤ 1000:=Nat.le_trans (cY (k:=58) (s:=s) (by rw [e];simp)) h
 have hb : b.length ≤ 1000:=Nat.le_trans (cY (k:=58) (s:=s) (by rw [e];simp)) h
 have cx_cut1:=iU (G:=G) (k:=58) 2 oM e rfl oM
 by_cases hk : k = 69
 case neg =>
  have hno : bI s k = none:=by unfold bI;rw [e];simp [hk]
  refine jE [(0,_),(1,_)] Tryz.func156 Tryz.ntmps156 fun B hB=>?_
  repeat' (first | refine jR ?_ | (refine jo ?_;first | refine jL fun _=>?_ | refine jV (aq F) ?_ | refine aP F ?_ | refine jV (am F F) ?_ | refine jC F F F ?_ | (refine ep F F F cx_cut1 F ?_;rintro _ _ ⟨b1,cap1,rfl,rfl⟩;dsimp only [zA,fA])) | (refine aO F F (by first | rfl | (refine decide_eq_true ?_;(omega))) ?_) | refine ae F F ?_)
  all_goals refine jZ (vs:=[_,_]) F ⟨aw F F F F,F,trivial⟩ F ⟨F,F,?_⟩
  all_goals exact ⟨default,false,F,by rw [hno];rfl⟩
 subst hk
 rcases hm : aR a 200 with _ | m
 ·have hno : bI s 69 = none:=by unfold bI;rw [e];simp [hm]
  refine jE [(0,_),(1,_)] Tryz.func156 Tryz.ntmps156 fun B hB=>?_
  repeat' (first | refine jR ?_ | (refine jo ?_;first | refine jL fun _=>?_ | refine jV (aq F) ?_ | refine aP F ?_ | refine aH F ?_ | refine jV (am F F) ?_ | refine jC F F F ?_ | refine jV (aZ F F oM) ?_ | refine jV (jh F F F) ?_ | refine aK F ?_ | (refine ep F F F cx_cut1 F ?_;rintro _ _ ⟨b1,cap1,rfl,rfl⟩;dsimp only [zA,fA]) | (refine dO F F F (mr oM) F ?_;rintro _ ⟨n,rfl,hnum⟩)) | (refine aO F F ?_ ?_;(focus ((first | rfl | (simp [*];done));done))) | refine aD F F F ?_ | refine ae F F ?_ | refine af F F ?_)
  all_goals refine jZ (vs:=[_,_]) F ⟨aw F F F F,F,trivial⟩ F ⟨F,F,?_⟩
  all_goals exact ⟨⟨_,_,_,_⟩,false,F,by rw [hno];rfl⟩
 have cx_num:=qX (G:=G) oM hm
 have hyes : bI s 69 = if 1 ≤ m ∧ bQ b = true then some ⟨m,b,[],[]⟩ else none:=by unfold bI;rw [e];simp [hm]
 refine jE [(0,_),(1,_)] Tryz.func156 Tryz.ntmps156 fun B hB=>?_
 repeat' (first | refine jR ?_ | (refine jo ?_;first | refine jL fun _=>?_ | refine jV (aq F) ?_ | refine aP F ?_ | refine aH F ?_ | refine jV (am F F) ?_ | refine jC F F F ?_ | refine jV (aZ F F oM) ?_ | refine ah F ?_ | refine jV (jh F F F) ?_ | refine aK F ?_ | (refine ep F F F cx_cut1 F ?_;rintro _ _ ⟨b1,cap1,rfl,rfl⟩;dsimp only [zA,fA]) | refine ad F F F cx_num F ?_ | refine ad F F F (eK oM) F ?_) | refine aO F F F ?_ | refine aD F F F ?_ | refine dR F F (fun _=>?_) (fun _=>?_) | refine ae F F ?_ | refine af F F ?_ | refine qz F (fun _=>?_) (fun _=>?_))
 all_goals refine jZ (vs:=[_,_]) F ⟨aw F F F F,F,trivial⟩ F ⟨F,F,?_⟩
 all_goals first | exact ⟨⟨m,b,[],[]⟩,true,F,by rw [hyes];simp_all;try omega⟩ | exact ⟨⟨m,b,[],[]⟩,false,F,by rw [hyes];simp_all;try omega⟩
theorem oi {s a b c d f : abu} {k : Nat} {m : Int} (h : s.length ≤ 1000) (e : aY 58 s = [a,b,c]) (hk : ¬ k = 69) (hm : aR a 200 = some m) (hg1 : 1 ≤ m) (hg2 : bQ b = true) (e2 : aY 61 c = [d,f]) : aI abt 156 [S s,U8 k] G (ky s k):=by
 have ha : a.length ≤ 1000:=Nat.le_trans (cY (k:=58) (s:=s) (by rw [e];simp)) h
 have hb : b.length ≤ 1000:=Nat.le_trans (cY (k:=58) (s:=s) (by rw [e];simp)) h
 have hc : c.length ≤ 1000:=Nat.le_trans (cY (k:=58) (s:=s) (by rw [e];simp)) h
 have cx_cut1:=iU (G:=G) (k:=58) 3 oM e rfl oM
 have cx_num:=qX (G:=G) oM hm
 have hyes : bI s k = if k = 82 ∧ bx d f = true then some ⟨m,b,d,f⟩ else none:=by
  unfold bI;rw [e];simp [hm,hg1,hg2,hk,e2]
 have hd : d.length ≤ 1000:=Nat.le_trans (cY (k:=61) (s:=c) (by rw [e2];simp)) hc
 have hf : f.length ≤ 1000:=Nat.le_trans (cY (k:=61) (s:=c) (by rw [e2];simp)) hc
 have cx_cut2:=iU (G:=G) (k:=61) 2 oM e2 rfl oM
 by_cases h82 : k = 82
 ·have h83 : (k : Int) = 82:=oM
  refine jE [(0,_),(1,_)] Tryz.func156 Tryz.ntmps156 fun B hB=>?_
  repeat' (first | refine jR ?_ | (refine jo ?_;first | refine jL fun _=>?_ | refine jV (aq F) ?_ | refine aP F ?_ | refine aH F ?_ | refine jV (am F F) ?_ | refine jD F F F ?_ | refine jC F F F ?_ | refine jV (aZ F F oM) ?_ | refine ah F ?_ | refine jV (jh F F F) ?_ | (refine ep F F F cx_cut1 F ?_;rintro _ _ ⟨b1,cap1,rfl,rfl⟩;dsimp only [zA,fA]) | (refine ep F F F cx_cut2 F ?_;rintro _ _ ⟨b2,cap2,rfl,rfl⟩;dsimp only [zA,fA]) | refine ad F F F cx_num F ?_ | refine ad F F F (eK oM) F ?_) | refine aO F F F ?_ | (refine aD F F (by first | rfl | (refine decide_eq_false ?_;(omega))) ?_) | refine ae F F ?_ | (refine af F ?_ ?_;(focus ((first | (refine decide_eq_false ?_;(omega)) | (simp [*];done));done))) | (refine ak (dq (id:=14) (tt:=4) F aj ?_);refine jW 9 [1,2,3] (aa 12 14) ?_;(try (refine Nx.re (d:=76) (v':=Bo true) F (congrArg Value.bool (aC ‹_›)) ?_));refine jW 7 [4,6] (aa 12 94) ?_;(refine jG (aa 12 95) 0 F (bC F F F F) ?_);(refine jG (aa 12 127) 5 F (an F F F) ?_);(refine jG (aa 12 255) 7 F (an F F F) ?_);((refine jA 8 F ?_;(refine ad F F F (u4 oM) F ?_);refine jK (aa 12 511) ?_));((refine jG (aa 12 1023) 9 F (bU F F ?_) ?_;(focus ((rfl);done))));refine jA 10 F ?_;(refine jC F F F ?_);refine jK (aa 12 2047) ?_;refine jW 0 [11] (aa 12 4095) ?_;refine jQ ?_))
  all_goals refine jZ (vs:=[_,_]) F ⟨aw F F F F,F,trivial⟩ F ⟨F,F,?_⟩
  all_goals exact ⟨⟨m,b,d,f⟩,bx d f,F,by rw [hyes];simp [h82]⟩
 ·have h83 : ¬ (k : Int) = 82:=oM
  refine jE [(0,_),(1,_)] Tryz.func156 Tryz.ntmps156 fun B hB=>?_
  repeat' (first | refine jR ?_ | (refine jo ?_;first | refine jL fun _=>?_ | refine jV (aq F) ?_ | refine aP F ?_ | refine aH F ?_ | refine jV (am F F) ?_ | refine jD F F F ?_ | refine jC F F F ?_ | refine jV (aZ F F oM) ?_ | refine ah F ?_ | refine jV (jh F F F) ?_ | (refine ep F F F cx_cut1 F ?_;rintro _ _ ⟨b1,cap1,rfl,rfl⟩;dsimp only [zA,fA]) | (refine ep F F F cx_cut2 F ?_;rintro _ _ ⟨b2,cap2,rfl,rfl⟩;dsimp only [zA,fA]) | refine ad F F F cx_num F ?_ | refine ad F F F (eK oM) F ?_) | refine aO F F F ?_ | (refine aD F F (by first | rfl | (refine decide_eq_false ?_;(omega))) ?_) | refine ae F F ?_ | (refine af F ?_ ?_;(focus ((first | (refine decide_eq_false ?_;(omega)) | (simp [*];done));done))) | (refine ak (dq (id:=14) (tt:=4) F aj ?_);refine jW 9 [1,2,3] (aa 12 14) ?_;(try (refine Nx.re (d:=76) (v':=Bo false) F (congrArg Value.bool (aF ‹_›)) ?_));refine jW 7 [4,6] (aa 12 94) ?_;(refine jG (aa 12 95) 0 F (bC F F F F) ?_);(refine jN (aa 12 127) 5 F ?_);(refine jN (aa 12 255) 7 F ?_);(refine jN (aa 12 511) 8 F ?_);((refine jG (aa 12 1023) 9 F (aW F F ?_) ?_;(focus ((rfl);done))));refine jA 10 F ?_;(refine jC F F F ?_);refine jK (aa 12 2047) ?_;refine jW 0 [11] (aa 12 4095) ?_;refine jQ ?_))
  all_goals refine jZ (vs:=[_,_]) F ⟨aw F F F F,F,trivial⟩ F ⟨F,F,?_⟩
  all_goals exact ⟨⟨m,b,d,f⟩,false,F,by rw [hyes];simp [h82]⟩
theorem oX {s a b c : abu} {k : Nat} (h : s.length ≤ 1000) (e : aY 58 s = [a,b,c]) : aI abt 156 [S s,U8 k] G (ky s k):=by
 have ha : a.length ≤ 1000:=Nat.le_trans (cY (k:=58) (s:=s) (by rw [e];simp)) h
 have hb : b.length ≤ 1000:=Nat.le_trans (cY (k:=58) (s:=s) (by rw [e];simp)) h
 have hc : c.length ≤ 1000:=Nat.le_trans (cY (k:=58) (s:=s) (by rw [e];simp)) h
 have cx_cut1:=iU (G:=G) (k:=58) 3 oM e rfl oM
 by_cases hk : k = 69
 case pos =>
  subst hk
  have hno : bI s 69 = none:=by unfold bI;rw [e];simp
  refine jE [(0,_),(1,_)] Tryz.func156 Tryz.ntmps156 fun B hB=>?_
  repeat' (first | refine jR ?_ | (refine jo ?_;first | refine jL fun _=>?_ | refine jV (aq F) ?_ | refine aP F ?_ | refine aH F ?_ | refine jV (am F F) ?_ | refine jC F F F ?_ | (refine ep F F F cx_cut1 F ?_;rintro _ _ ⟨b1,cap1,rfl,rfl⟩;dsimp only [zA,fA])) | refine aO F F F ?_ | refine aD F F F ?_ | refine ae F F ?_)
  all_goals refine jZ (vs:=[_,_]) F ⟨aw F F F F,F,trivial⟩ F ⟨F,F,?_⟩
  all_goals exact ⟨default,false,F,by rw [hno];rfl⟩
 rcases hm : aR a 200 with _ | m
 ·have hno : bI s k = none:=by unfold bI;rw [e];simp [hm]
  refine jE [(0,_),(1,_)] Tryz.func156 Tryz.ntmps156 fun B hB=>?_
  repeat' (first | refine jR ?_ | (refine jo ?_;first | refine jL fun _=>?_ | refine jV (aq F) ?_ | refine aP F ?_ | refine aH F ?_ | refine jV (am F F) ?_ | refine jC F F F ?_ | refine jV (aZ F F oM) ?_ | refine jV (jh F F F) ?_ | refine aK F ?_ | (refine ep F F F cx_cut1 F ?_;rintro _ _ ⟨b1,cap1,rfl,rfl⟩;dsimp only [zA,fA]) | (refine dO F F F (mr oM) F ?_;rintro _ ⟨n,rfl,hnum⟩)) | (refine aO F F ?_ ?_;(focus ((first | rfl | (simp [*];done));done))) | refine aD F F F ?_ | refine ae F F ?_ | refine af F (aF oM) ?_)
  all_goals refine jZ (vs:=[_,_]) F ⟨aw F F F F,F,trivial⟩ F ⟨F,F,?_⟩
  all_goals exact ⟨⟨_,_,_,_⟩,false,F,by rw [hno];rfl⟩
 have cx_num:=qX (G:=G) oM hm
 by_cases hg : 1 ≤ m ∧ bQ b = true
 case neg =>
  have hno : bI s k = none:=by unfold bI;rw [e];simp [hm,hg]
  have hg' : m < 1 ∨ bQ b = false:=by
   by_cases h1 : m < 1
   ·exact .inl h1
   ·cases hb2 : bQ b with
    | false=>exact .inr F
    | true=>exact absurd ⟨oM,hb2⟩ hg
  rcases hg' with hg' | hg'
  all_goals refine jE [(0,_),(1,_)] Tryz.func156 Tryz.ntmps156 fun B hB=>?_
  all_goals repeat' (first | refine jR ?_ | (refine jo ?_;first | refine jL fun _=>?_ | refine jV (aq F) ?_ | refine aP F ?_ | refine aH F ?_ | refine jV (am F F) ?_ | refine jC F F F ?_ | refine jV (aZ F F oM) ?_ | refine ah F ?_ | refine jV (jh F F F) ?_ | refine aK F ?_ | (refine ep F F F cx_cut1 F ?_;rintro _ _ ⟨b1,cap1,rfl,rfl⟩;dsimp only [zA,fA]) | refine ad F F F cx_num F ?_ | refine ad F F F (eK oM) F ?_) | (refine aO F F (by first | rfl | (refine decide_eq_true ?_;(assumption))) ?_) | refine aD F F F ?_ | refine dR F F (fun _=>?_) (fun _=>?_) | (refine ae F ?_ ?_;(focus ((first | rfl | (simp [*];done));done))) | refine af F (aF oM) ?_)
  all_goals refine jZ (vs:=[_,_]) F ⟨aw F F F F,F,trivial⟩ F ⟨F,F,?_⟩
  all_goals exact ⟨⟨_,_,_,_⟩,false,F,by rw [hno];rfl⟩
 obtain ⟨hg1,hg2⟩:=hg
 have hyes : bI s k = match aY 61 c with
  | [d]=>if bn d = true then some ⟨m,b,d,[]⟩ else none
  | [d,e]=>if k = 82 ∧ bx d e = true then some ⟨m,b,d,e⟩ else none
  | _=>none:=by
  unfold bI;rw [e];simp only [hm,hg1,hg2,hk,if_false,if_true,and_self] <;> rfl
 have hp : 0 < (aY 61 c).length:=dL
 match e2 : aY 61 c,hp with
 | [d],_ =>
  rw [e2] at hyes
  have cx_cut2:=iU (G:=G) (k:=61) 1 oM e2 rfl oM
  refine jE [(0,_),(1,_)] Tryz.func156 Tryz.ntmps156 fun B hB=>?_
  repeat' (first | refine jR ?_ | (refine jo ?_;first | refine jL fun _=>?_ | refine jV (aq F) ?_ | refine aP F ?_ | refine aH F ?_ | refine jV (am F F) ?_ | refine jD F F F ?_ | refine jC F F F ?_ | refine jV (al F F oM) ?_ | refine jV (aZ F F oM) ?_ | refine ah F ?_ | refine jV (jh F F F) ?_ | (refine ep F F F cx_cut1 F ?_;rintro _ _ ⟨b1,cap1,rfl,rfl⟩;dsimp only [zA,fA]) | (refine ep F F F cx_cut2 F ?_;rintro _ _ ⟨b2,cap2,rfl,rfl⟩;dsimp only [zA,fA]) | refine ad F F F cx_num F ?_ | refine ad F F F (eK oM) F ?_) | refine aO F F F ?_ | (refine aD F F (by first | rfl | (refine decide_eq_false ?_;(omega))) ?_) | (refine af F ?_ ?_;(focus ((first | rfl | (refine decide_eq_false ?_;(omega)) | (simp [*];done));done))) | (refine ak (dq (id:=15) (tt:=4) F aj ?_);refine jW 10 [1] (aa 11 2) ?_;(refine jG (aa 11 3) 0 F (bC F F F F) ?_);(refine jG (aa 11 7) 2 F (aq F) ?_);refine jW 6 [3,4] (aa 11 31) ?_;(try (refine Nx.re (d:=87) (v':=Bo true) F (congrArg Value.bool F) ?_));refine jW 5 [5] (aa 11 63) ?_;(refine jG (aa 11 127) 6 F (an F F F) ?_);(refine jA 7 F ?_;(refine ad F F F l5 F ?_);refine jK (aa 11 255) ?_);((refine jG (aa 11 511) 8 F (bU F F ?_) ?_;(focus ((rfl);done))));refine jA 9 F ?_;(refine jC F F F ?_);refine jK (aa 11 1023) ?_;refine jW 0 [10] (aa 11 2047) ?_;refine jQ ?_))
  all_goals refine jZ (vs:=[_,_]) F ⟨aw F F F F,F,trivial⟩ F ⟨F,F,?_⟩
  all_goals exact ⟨⟨m,b,d,[]⟩,bn d,F,hyes⟩
 | [d,f],_=>exact oi h e hk hm hg1 hg2 e2
 | d :: f :: g :: r,_ =>
  rw [e2] at hyes
  have cx_cut2:=iU (G:=G) (k:=61) (r.length + 3) oM e2 (by simp) oM
  refine jE [(0,_),(1,_)] Tryz.func156 Tryz.ntmps156 fun B hB=>?_
  repeat' (first | refine jR ?_ | (refine jo ?_;first | refine jL fun _=>?_ | refine jV (aq F) ?_ | refine aP F ?_ | refine aH F ?_ | refine jV (am F F) ?_ | refine jD F F F ?_ | refine jC F F F ?_ | refine jV (al F F oM) ?_ | refine jV (aZ F F oM) ?_ | refine ah F ?_ | refine jV (jh F F F) ?_ | (refine ep F F F cx_cut1 F ?_;rintro _ _ ⟨b1,cap1,rfl,rfl⟩;dsimp only [zA,fA]) | (refine ep F F F cx_cut2 F ?_;rintro _ _ ⟨b2,cap2,rfl,rfl⟩;dsimp only [zA,fA]) | refine ad F F F cx_num F ?_ | refine ad F F F (eK oM) F ?_) | refine aO F F F ?_ | (refine aD F F (by first | rfl | (refine decide_eq_false ?_;(omega))) ?_) | (refine af F ?_ ?_;(focus ((first | rfl | (refine decide_eq_false ?_;(omega)) | (simp [*];done));done))) | (refine ak (dq (id:=15) (tt:=4) F aj ?_);refine jW 10 [1] (aa 11 2) ?_;(refine jG (aa 11 3) 0 F (bC F F F F) ?_);(refine jG (aa 11 7) 2 F (aq F) ?_);refine jW 6 [3,4] (aa 11 31) ?_;(try (refine Nx.re (d:=87) (v':=Bo false) F (congrArg Value.bool F) ?_));refine jW 5 [5] (aa 11 63) ?_;(refine jN (aa 11 127) 6 F ?_);(refine jN (aa 11 255) 7 F ?_);((refine jG (aa 11 511) 8 F (aW F F ?_) ?_;(focus ((rfl);done))));refine jA 9 F ?_;(refine jC F F F ?_);refine jK (aa 11 1023) ?_;refine jW 0 [10] (aa 11 2047) ?_;refine jQ ?_))
  all_goals refine jZ (vs:=[_,_]) F ⟨aw F F F F,F,trivial⟩ F ⟨F,F,?_⟩
  all_goals exact ⟨⟨m,b,d,[]⟩,false,F,hyes⟩
theorem ll {s : abu} {k : Nat} (h : s.length ≤ 1000) : aI abt 156 [S s,U8 k] G (ky s k):=by
 by_cases h2 : (aY 58 s).length = 2
 ·match e : aY 58 s,h2 with
  | [a,b],_=>exact oY h e
 by_cases h3 : (aY 58 s).length = 3
 ·match e : aY 58 s,h3 with
  | [a,b,c],_=>exact oX h e
 exact oZ h h2 h3
theorem qZ {s : abu} {k : Nat} (h : s.length ≤ 100000000) : ci abt 114 [S s,U8 k] G (fun v G'=>bh G' v 1 (aY k s).length (ao cr (aY k s))):=by
 refine b6.shutP ((sA (G:=G) (k:=k) h).mono ?_)
 rintro v G' L' ⟨h1,h2,_⟩
 exact ⟨h1,v,_,_,_,_,h2,fun G' _ h3=>by rw [← ug];exact h3⟩
abbrev sW : TypeId:=112
abbrev o7 : TypeId:=110
def zD (s : abu) (v : Value) (G : Gh) : Prop:=∃ fv t ok,v = Tu [Ag [U8 (t : Ty).sort,S t.name,fv],Bo ok] ∧ (cO s = if ok = true then some t else none) ∧ bh G fv 4 t.fields.length (ao cF t.fields)
theorem bh.nil0 {G : Gh} {sz : Nat} : bh G aA sz 0 []:=⟨by simp,.inl ⟨rfl,rfl⟩⟩
theorem qM {α : Type} [Inhabited α] {xs : List α} {i : Nat} (h : i < xs.length) : xs.drop i = ac xs i :: xs.drop (i + 1):=by rw [ck h];exact (List.getElem_cons_drop (h:=h)).symm
theorem sL.sl {v : Value} {m : Nat} (h : sL v m) : ∃ a cap,v = .slice a m cap:=by
 rcases h with ⟨rfl,rfl⟩ | ⟨b,cap,rfl,_⟩
 ·exact ⟨none,0,F⟩
 ·exact ⟨_,cap,F⟩
theorem kA {c : UInt8} {r : abu} (h : (aB 61 r).2.2 = false) : cO (c :: r) = none:=by
 unfold cO
 split
 ·rfl
 ·rename_i h1;cases h1
  split
  ·rename_i h2;rw [h2] at h;cases h
  ·rfl
theorem mf {c : UInt8} {r name rest : abu} (h : aB 61 r = (name, rest, true)) : cO (c :: r) = if bQ name = true ∧ dP c.toNat then
        if rest = [] then (if c.toNat = 82 then some ⟨82,name,[]⟩ else none)
        else match cL c.toNat (aY 44 rest) [] with
          | some fs=>if fs.length ≤ 8 then some ⟨c.toNat,name,fs⟩ else none
          | none=>none
      else none:=by
  unfold cO
  simp only [h];rfl
theorem qY {s : abu} (h : s.length ≤ 1000) : ci abt 115 [S s] G (zD s):=by
  refine jB [(0,_)] Tryz.func115 Tryz.ntmps115 fun B hok hB hW=>?_
  repeat' (first | refine jR ?_ | (refine jo ?_;refine jL fun _=>?_))
  rename_i x
  refine aU (ι:=Nat) (fun i=>i ≤ s.length ∧ ∀ k,k < i → bt s k ≠ 61) (fun i=>[(0,S s),(2,Pt x 0),(4,I i)]) (fun _=>G) (fun i=>[.blk x (.cells [U8 0,S [],aA].toArray o7 (0,0))]) (fun i=>s.length - i) 0 ?_ tU F a6 (fun i Hi=>?_)
  · exact ⟨oM,fun k hk=>absurd hk oM⟩
  by_cases hi : i < s.length ∧ bt s i ≠ 61
  · repeat' (first | refine jM ?_ | (refine jo ?_;refine aP F ?_) | refine aO F F (aC oM) ?_ | (refine ae F ?_ ?_;(focus ((simp;omega);done))))
    refine aT (i + 1) ⟨oM,fun k hk=>?_⟩ oM tU F a6
    rcases Nat.lt_or_ge k i with h3 | h3
    · exact Hi.2 k h3
    · have : k = i:=oM
      subst this;exact hi.2
  rcases Nat.lt_or_ge i s.length with hlt | hge
  case inr =>
    have hno : cO s = none:=by
      match s,Hi,hge with
      | [],_,_=>rfl
      | c :: r,Hi,hge =>
        refine kA ?_
        rw [sn fun j hj=>by have:=Hi.2 (j + 1) (by simp at hge;omega);rwa [d9] at this]
    repeat' (first | refine jR ?_ | (refine jo ?_;first | refine aP F ?_ | refine aH F ?_ | refine jV (am F F) ?_ | refine jC F F F ?_) | refine aD F F (aF oM) ?_ | refine dR F F (fun _=>?_) (fun _=>?_) | (refine ae F (by first | rfl | (refine decide_eq_true ?_;(omega))) ?_) | refine af F F ?_)
    all_goals refine jZ (vs:=[_,_]) F ⟨aw F F F F,F,trivial⟩ F ⟨Gh.le.refl _,F,?_⟩
    all_goals exact ⟨aA,default,false,F,by rw [hno];rfl,bh.nil0⟩
  have h61 : bt s i = 61:=by
    rcases Nat.lt_or_ge (bt s i) 61 with h1 | h1
    · exact absurd ⟨hlt,oM⟩ hi
    · rcases Nat.lt_or_ge 61 (bt s i) with h2 | h2
      · exact absurd ⟨hlt,oM⟩ hi
      · omega
  match s,i,Hi,hlt,h61,h with
  | c :: r,0,Hi,hlt,h61,h =>
    have hno : cO (c :: r) = none:=by
      rw [dk] at h61
      cases ht : (aB 61 r).2.2 with
      | false=>exact kA ht
      | true =>
        rw [mf (c:=c) (r:=r) (name:=(aB 61 r).1) (rest:=(aB 61 r).2.1) (by rw [← ht])]
        rw [if_neg]
        rintro ⟨_,h2⟩
        unfold dP at h2;omega
    have h62 : bt (c :: r) ((0 : Nat) : Int).toNat = 61:=h61
    repeat' (first | refine jM ?_ | (refine jo ?_;first | refine aP F ?_ | refine jV (am F F) ?_ | refine jC F F F ?_) | (refine aO F F (by first | rfl | (refine decide_eq_true ?_;(omega))) ?_) | refine ae F F ?_ | refine af F (aF oM) ?_)
    all_goals refine jZ (vs:=[_,_]) F ⟨aw F F F F,F,trivial⟩ F ⟨Gh.le.refl _,F,?_⟩
    all_goals exact ⟨aA,default,false,F,by rw [hno];rfl,bh.nil0⟩
  | c :: r,j + 1,Hi,hlt,h61,h =>
    have hj : j < r.length:=by simpa using hlt
    have hcut1 : aB 61 r = (r.take j,r.drop (j + 1),true):=oT hj (fun k hk=>by have:=Hi.2 (k + 1) oM;rwa [d9] at this) (by rwa [d9] at h61)
    have hty:=mf (c:=c) hcut1
    have h62 : bt (c :: r) ((j + 1 : Nat) : Int).toNat = 61:=h61
    have e0 : bt (c :: r) (Int.toNat 0) = c.toNat:=dk c r
    have hnl : (r.take j).length ≤ 1000:=by simp at h ⊢;omega
    have cx_nm:=eK (G:=G) (s:=r.take j) oM
    by_cases hg : bQ (r.take j) = true ∧ dP c.toNat
    case neg =>
      have hno : cO (c :: r) = none:=by rw [hty,if_neg hg]
      by_cases hn : bQ (r.take j) = true
      · have hn2 : (!bQ (r.take j)) = false:=by rw [hn];rfl
        have hns : ¬ dP c.toNat:=fun h=>hg ⟨hn,h⟩
        unfold dP at hns
        repeat' (first | refine jM ?_ | (refine jo ?_;first | refine aP F ?_ | refine aH F ?_ | refine jC F F F ?_ | refine ah F ?_ | refine aK F ?_ | refine ad F F F cx_nm F ?_) | refine aO F F (aC oM) ?_ | (refine aD F F (by first | rfl | assumption) ?_) | refine ae F (aC oM) ?_ | refine af F (aF oM) ?_ | (refine ak (ar (id:=6) _ (fun _ h=>h) aj ?_);refine jW 3 [0,1,2,3,4] (aa 8 31) ?_;(refine jG (aa 8 63) 5 F (am F F) ?_);refine jA 6 F ?_;(refine jL fun _=>?_);refine jK (aa 8 127) ?_;refine jA 7 F ?_;(refine jC F F F ?_);refine jK (aa 8 255) ?_;refine jQ ?_))
        all_goals refine jZ (vs:=[_,_]) F ⟨aw F F F F,F,trivial⟩ F ⟨Gh.le.refl _,F,?_⟩
        all_goals exact ⟨aA,⟨_,_,[]⟩,false,F,by rw [hno];rfl,bh.nil0⟩
      · have hn2 : (!bQ (r.take j)) = true:=by simpa using hn
        repeat' (first | refine jM ?_ | (refine jo ?_;first | refine aP F ?_ | refine aH F ?_ | refine jC F F F ?_ | refine ah F ?_ | refine aK F ?_ | refine ad F F F cx_nm F ?_) | (refine aO F F (by first | assumption | (refine decide_eq_true ?_;(omega))) ?_) | refine aD F F F ?_ | refine ae F F ?_ | refine af F (aF oM) ?_ | (refine ak (ar (id:=6) _ (fun _ h=>h) aj ?_);refine jW 3 [0,1,2,3,4] (aa 8 31) ?_;(refine jG (aa 8 63) 5 F (am F F) ?_);refine jA 6 F ?_;(refine jL fun _=>?_);refine jK (aa 8 127) ?_;refine jA 7 F ?_;(refine jC F F F ?_);refine jK (aa 8 255) ?_;refine jQ ?_))
        all_goals refine jZ (vs:=[_,_]) F ⟨aw F F F F,F,trivial⟩ F ⟨Gh.le.refl _,F,?_⟩
        all_goals exact ⟨aA,⟨_,_,[]⟩,false,F,by rw [hno];rfl,bh.nil0⟩
    have hn2 : (!bQ (r.take j)) = false:=by rw [hg.1];rfl
    have hs2:=hg.2
    unfold dP at hs2
    rw [if_pos hg] at hty
    by_cases hrest : r.drop (j + 1) = []
    · rw [if_pos hrest] at hty
      by_cases h82 : c.toNat = 82
      · rw [if_pos h82] at hty
        have e82 : bt (c :: r) (Int.toNat 0) = 82:=oM
        repeat' (first | refine jM ?_ | (refine jo ?_;first | refine aP F ?_ | refine aH F ?_ | refine ah F ?_ | refine ad F F F cx_nm F ?_) | refine aO F F (aC oM) ?_ | (refine aD F F (by first | rfl | assumption | (refine decide_eq_false ?_;(omega))) ?_) | refine ae F (aC ‹_›) ?_ | (refine af F (by first | rfl | (refine decide_eq_false ?_;(omega))) ?_) | (refine ak (ar (id:=6) _ (fun _ h=>h) aj ?_);refine jW 3 [0,1,2,3,4] (aa 8 31) ?_;(refine jG (aa 8 63) 5 F (am F F) ?_);refine jA 6 F ?_;(refine jL fun _=>?_);refine jK (aa 8 127) ?_;refine jA 7 F ?_;(refine jC F F F ?_);refine jK (aa 8 255) ?_;refine jQ ?_) | (refine ak (dq (id:=10) (tt:=2) F aj ?_);refine jW 5 [1] (aa 6 2) ?_;(refine jG (aa 6 3) 0 F (bC F F F F) ?_);(refine jG (aa 6 7) 2 F (an F F F) ?_);refine jW 2 [3] (aa 6 15) ?_;refine jA 4 F ?_;(refine jC F F F ?_);refine jK (aa 6 31) ?_;refine jW 0 [5] (aa 6 63) ?_;refine jQ ?_))
        all_goals refine jZ (vs:=[_,_]) F ⟨aw F F F F,F,trivial⟩ F ⟨Gh.le.refl _,F,?_⟩
        all_goals refine ⟨aA,⟨82,r.take j,[]⟩,true,?_,hty,bh.nil0⟩
        all_goals show Tu [Ag [U8 (bt (c :: r) (Int.toNat 0) : Nat),S (r.take j),aA],Bo (decide (((bt (c :: r) (Int.toNat 0) : Nat) : Int) = 82))] = _
        all_goals (rw [e82];rfl)
      · rw [if_neg h82] at hty
        have e82 : ¬ bt (c :: r) (Int.toNat 0) = 82:=oM
        have e83 : decide (((bt (c :: r) (Int.toNat 0) : Nat) : Int) = 82) = false:=decide_eq_false oM
        repeat' (first | refine jM ?_ | (refine jo ?_;first | refine aP F ?_ | refine aH F ?_ | refine ah F ?_ | refine ad F F F cx_nm F ?_) | refine aO F F (aC oM) ?_ | (refine aD F F (by first | rfl | assumption) ?_) | refine dR F F (fun _=>?_) (fun _=>?_) | refine ae F (aC ‹_›) ?_ | (refine af F (by first | rfl | (refine decide_eq_false ?_;(omega))) ?_) | (refine ak (ar (id:=6) _ (fun _ h=>h) aj ?_);refine jW 3 [0,1,2,3,4] (aa 8 31) ?_;(refine jG (aa 8 63) 5 F (am F F) ?_);refine jA 6 F ?_;(refine jL fun _=>?_);refine jK (aa 8 127) ?_;refine jA 7 F ?_;(refine jC F F F ?_);refine jK (aa 8 255) ?_;refine jQ ?_) | (refine ak (dq (id:=10) (tt:=2) F aj ?_);refine jW 5 [1] (aa 6 2) ?_;(refine jG (aa 6 3) 0 F (bC F F F F) ?_);(refine jG (aa 6 7) 2 F (an F F F) ?_);refine jW 2 [3] (aa 6 15) ?_;refine jA 4 F ?_;(refine jC F F F ?_);refine jK (aa 6 31) ?_;refine jW 0 [5] (aa 6 63) ?_;refine jQ ?_))
        all_goals refine jZ (vs:=[_,_]) F ⟨aw F F F F,F,trivial⟩ F ⟨Gh.le.refl _,F,?_⟩
        all_goals refine ⟨aA,⟨bt (c :: r) (Int.toNat 0),r.take j,[]⟩,false,?_,hty,bh.nil0⟩
        all_goals show Tu [Ag [U8 (bt (c :: r) (Int.toNat 0) : Nat),S (r.take j),aA],Bo (decide (((bt (c :: r) (Int.toNat 0) : Nat) : Int) = 82))] = _
        all_goals (rw [e83])
    rw [if_neg hrest] at hty
    have hrl : (r.drop (j + 1)).length ≤ 1000:=by simp at h ⊢;omega
    have hcl:=jl (k:=44) (s:=r.drop (j + 1))
    have cx_cutS:=qZ (G:=G) (s:=r.drop (j + 1)) (k:=44) oM
    have hall : ∀ y ∈ aY 44 (r.drop (j + 1)),y.length ≤ 1000:=fun y hy=>Nat.le_trans (cY hy) hrl
    generalize hxs : aY 44 (r.drop (j + 1)) = xs at *
    rcases hs2 with h1 | h1 | h1
    all_goals repeat' (first | refine jM ?_ | (refine jo ?_;first | refine aP F ?_ | refine aH F ?_ | refine ah F ?_ | refine ad F F F cx_nm F ?_ | (refine aM F F F cx_cutS F ?_;rintro _ G hle hcut;skip)) | refine aO F F (aC oM) ?_ | (refine aD F F (by first | rfl | assumption | (refine decide_eq_false ?_;(omega))) ?_) | (refine af F (by first | rfl | (refine decide_eq_false ?_;first | assumption | omega)) ?_) | (refine ak (ar (id:=6) _ (fun _ h=>h) aj ?_);refine jW 3 [0,1,2,3,4] (aa 8 31) ?_;(refine jG (aa 8 63) 5 F (am F F) ?_);refine jA 6 F ?_;(refine jL fun _=>?_);refine jK (aa 8 127) ?_;refine jA 7 F ?_;(refine jC F F F ?_);refine jK (aa 8 255) ?_;refine jQ ?_))
    all_goals rename_i y v
    all_goals refine Nx.addNil sW 4 ?_
    all_goals refine aU (ι:=Value × List Fld × Nat) (fun i=>i.2.2 ≤ xs.length ∧ i.2.1.length ≤ i.2.2 ∧ cL c.toNat (xs.drop i.2.2) i.2.1 = cL c.toNat xs []) (fun i=>[(2,Pt x 0),(5,Pt y 0),(6,v),(7,I i.2.2)]) (fun _=>G) (fun i=>[.acc i.1 sW 4 i.2.1.length (ao cF i.2.1),.blk y (.cells [U8 (bt (c :: r) (Int.toNat 0) : Nat),S (r.take j),i.1].toArray o7 (0,0)),.blk x (.cells [U8 0,S [],aA].toArray o7 (0,0))]) (fun i=>xs.length - i.2.2) (aA,[],0) ?_ tU F a6 (fun i Hi=>?_)
    all_goals (first | exact ⟨Nat.zero_le _,Nat.le_refl _,F⟩ | skip)
    all_goals obtain ⟨u,fs,i⟩:=i
    all_goals dsimp only at Hi ⊢
    all_goals obtain ⟨hi1,hi2,hi3⟩:=Hi
    all_goals refine Nx.shp (v:=u) (.head _) fun hsh=>?_
    all_goals (have hsh2:=hsh;obtain ⟨au,cu,rfl⟩:=hsh.sl)
    all_goals by_cases hix : i < xs.length
    all_goals try (rw [qM hix,cL] at hi3;obtain ⟨bv,ov,cv,rfl,hsv⟩:=hcut.expl oM;have hx:=hall _ (a7 hix))
    all_goals repeat' (first | refine jR ?_ | (refine jo ?_;first | refine jC F F F ?_ | refine aK F ?_ | refine jV (aq F) ?_ | refine jV (dc F aS) ?_) | refine ae F (aC oM) ?_ | refine af F (aF oM) ?_ | refine qz F (fun _=>?_) (fun _=>?_) | (refine ak (ar (id:=15) _ (fun _ h=>h) aj ?_);refine jT 10 [0,1,4] (aa 13 19) ?_;(refine jG (aa 13 23) 2 F (al F F oM) ?_);((refine jG (aa 13 31) 3 F (gt F F aS ?_) ?_;focus omega));(refine jG (aa 13 63) 5 F (an F F F) ?_);refine cd [6,10] kR dC ⟨?_,?_,trivial⟩;(focus (refine aX F F ?_;(refine dO F F F (ll oM) F ?_;rintro _ ⟨f,ok,rfl,hfld⟩);refine jK (aa 13 127) ?_;refine jW 3 [7,8,9] (aa 13 1023) ?_;refine jA 10 F ?_;(refine jL fun _=>?_);refine jK (aa 13 2047) ?_;refine jA 11 F ?_;(refine jC F F F ?_);refine jK (aa 13 4095) ?_;refine jW 0 [12] (aa 13 8191) ?_;refine jQ ?_));rotate_left 1;(focus (refine aX F F ?_;(refine jL fun _=>?_);refine jK (aa 13 1087) ?_;refine jA 6 F ?_;(refine dO F F F (ll oM) F ?_;rintro _ ⟨f,ok,rfl,hfld⟩);refine jK (aa 13 1151) ?_;refine jW 2 [7,8,9] (aa 13 2047) ?_;refine jA 11 F ?_;(refine jC F F F ?_);refine jK (aa 13 4095) ?_;refine jW 0 [12] (aa 13 8191) ?_;refine jQ ?_));rotate_left 1) | (refine ak (dq (id:=24) (tt:=2) F aj ?_);refine jW 6 [1] (aa 7 2) ?_;(refine jG (aa 7 3) 0 F (bC F F F F) ?_);(refine jG (aa 7 7) 2 F (an F F F) ?_);(refine jG (aa 7 15) 3 F (aq F) ?_);refine jW 2 [4] (aa 7 31) ?_;refine jA 5 F ?_;(refine jC F F F ?_);refine jK (aa 7 63) ?_;refine jW 0 [6] (aa 7 127) ?_;refine jQ ?_))
    all_goals first
      | (rename_i z hq
         have hq2 : ok = false:=by simpa using hq
         subst hq2
         have hf0 : bI (ac xs i) c.toNat = none:=hfld
         have hno : cO (c :: r) = none:=by rw [hf0] at hi3;rw [hty,← hi3]
         refine Nx.sealS (v:=.slice au fs.length cu) fun G' hle2 hsl=>?_
         refine jZ (vs:=[_,_]) F ⟨aw F F F F,F,trivial⟩ F ⟨hle.trans hle2,F,?_⟩
         exact ⟨.slice au fs.length cu,⟨bt (c :: r) (Int.toNat 0),r.take j,fs⟩,false,F,by rw [hno];rfl,hsl⟩)
      | (have ei : i = xs.length:=oM
         have hyes : cO (c :: r) = if fs.length ≤ 8 then some ⟨c.toNat,r.take j,fs⟩ else none:=by
           rw [ei,List.drop_length,cL] at hi3
           rw [hty,← hi3]
         refine Nx.sealS (v:=.slice au fs.length cu) fun G' hle2 hsl=>?_
         refine jZ (vs:=[_,_]) F ⟨aw F F F F,F,trivial⟩ F ⟨hle.trans hle2,F,?_⟩
         refine ⟨.slice au fs.length cu,⟨c.toNat,r.take j,fs⟩,decide (fs.length ≤ 8),?_,by rw [hyes];simp,hsl⟩
         rw [dV,e0]
         refine congrArg (fun x=>Tu [_,Bo x]) (decide_eq_decide.2 ?_)
         omega)
      | (rename_i z hq
         have hq2 : ok = true:=by simpa using hq
         subst hq2
         have hf1 : bI (ac xs i) c.toNat = some f:=hfld
         rw [hf1] at hi3
         dsimp only at hi3
         refine aU (ι:=Nat) (fun k=>k ≤ fs.length ∧ ∀ m,m < k → (ac fs m).tag < f.tag ∧ (ac fs m).name ≠ f.name) (fun k=>[(2,Pt x 0),(5,Pt y 0),(6,.slice (some ⟨bv,ov,none⟩) xs.length cv),(7,I i),(8,Pt z 0),(10,I k)]) (fun _=>G) (fun k=>[.blk z (.cells (cF f).toArray sW (0,0)),.acc (.slice au fs.length cu) sW 4 fs.length (ao cF fs),.blk y (.cells [U8 (bt (c :: r) (Int.toNat 0) : Nat),S (r.take j),.slice au fs.length cu].toArray o7 (0,0)),.blk x (.cells [U8 0,S [],aA].toArray o7 (0,0))]) (fun k=>fs.length - k) 0 ?_ tU F a6 (fun k Hk=>?_)
         · exact ⟨Nat.zero_le _,fun m hm=>absurd hm oM⟩
         by_cases hk : k < fs.length
         · obtain ⟨bu,cu2,eu⟩:=hsh2.pos oM
           simp only [Value.slice.injEq] at eu
           obtain ⟨rfl,-,rfl⟩:=eu
           by_cases hbad : (ac fs k).tag < f.tag ∧ (ac fs k).name ≠ f.name
           · obtain ⟨hb1,hb2⟩:=hbad
             repeat' (first | refine jM ?_ | (refine jo ?_;first | refine ah F ?_ | refine jV (aq F) ?_) | refine ae F (aC oM) ?_ | refine af F (aF ‹_›) ?_ | (refine ak (ar (id:=21) _ (fun _ h=>h) aj ?_);refine jT 17 [0,2,6] (aa 20 69) ?_;(refine jG (aa 20 71) 1 F (an F F F) ?_);(refine jG (aa 20 79) 3 F (al F F oM) ?_);refine jT 14 [4] (aa 20 95) ?_;(refine jG (aa 20 127) 5 F (mq F F F oM F F) ?_);(refine jG (aa 20 255) 7 F (an F F F) ?_);refine jT 10 [8,9] (aa 20 1023) ?_;(try ((refine Nx.re (d:=107) (v':=Bo false) F (congrArg Value.bool (aF oM)) ?_)));refine jT 7 [10,12,16] (aa 20 71679) ?_;(refine jG (aa 20 73727) 11 F (an F F F) ?_);(refine jG (aa 20 81919) 13 F (al F F oM) ?_);refine jT 4 [14] (aa 20 98303) ?_;(refine jG (aa 20 131071) 15 F (mq F F F oM F F) ?_);(refine jG (aa 20 262143) 17 F (an F F F) ?_);refine jT 1 [18] (aa 20 524287) ?_;(refine jG (aa 20 1048575) 19 F (aW F F F) ?_);refine jQ ?_))
             refine aT (k + 1) ⟨oM,fun m hm=>?_⟩ oM tU F a6
             rcases Nat.lt_or_ge m k with h3 | h3
             · exact Hk.2 m h3
             · have : m = k:=oM
               subst this;exact ⟨hb1,hb2⟩
           · have hfr : fresh f fs = false:=by
               unfold fresh
               rw [List.all_eq_false]
               exact ⟨ac fs k,a7 hk,by simpa using hbad⟩
             have hno : cO (c :: r) = none:=by
               rw [hfr,if_neg (by simp)] at hi3
               rw [hty,← hi3]
             by_cases htag : f.tag ≤ (ac fs k).tag
             case' neg => have hnm : (ac fs k).name = f.name := by
                           by_cases h6 : (ac fs k).name = f.name
                           · exact h6
                           · exact absurd ⟨oM,h6⟩ hbad
             all_goals repeat' (first | refine jR ?_ | (refine jo ?_;first | refine jC F F F ?_ | refine ah F ?_ | refine aK F ?_ | refine jV (aq F) ?_) | (refine ae F (by first | rfl | (refine decide_eq_true ?_;first | assumption | omega)) ?_) | (refine ak (ar (id:=21) _ (fun _ h=>h) aj ?_);refine jT 17 [0,2,6] (aa 20 69) ?_;(refine jG (aa 20 71) 1 F (an F F F) ?_);(refine jG (aa 20 79) 3 F (al F F oM) ?_);refine jT 14 [4] (aa 20 95) ?_;(refine jG (aa 20 127) 5 F (mq F F F oM F F) ?_);(refine jG (aa 20 255) 7 F (an F F F) ?_);refine jT 10 [8,9] (aa 20 1023) ?_;(try (first | (refine Nx.re (d:=107) (v':=Bo true) F (congrArg Value.bool (aC ‹_›)) ?_) | (refine Nx.re (d:=107) (v':=Bo false) F (congrArg Value.bool (aF ‹_›)) ?_)));refine jT 7 [10,12,16] (aa 20 71679) ?_;(first | refine jG (aa 20 73727) 11 F (an F F F) ?_ | refine jN (aa 20 73727) 11 F ?_);(first | refine jG (aa 20 81919) 13 F (al F F oM) ?_ | refine jN (aa 20 81919) 13 F ?_);refine jT 4 [14] (aa 20 98303) ?_;(first | refine jG (aa 20 131071) 15 F (mq F F F oM F F) ?_ | refine jN (aa 20 131071) 15 F ?_);(first | refine jG (aa 20 262143) 17 F (an F F F) ?_ | refine jN (aa 20 262143) 17 F ?_);refine jT 1 [18] (aa 20 524287) ?_;(first | refine jG (aa 20 1048575) 19 F (bU F F F) ?_ | refine jG (aa 20 1048575) 19 F (aW F F F) ?_);refine jQ ?_))
             all_goals refine Nx.sealS (v:=.slice (some ⟨bu,0,none⟩) fs.length cu) fun G' hle2 hsl=>?_
             all_goals refine jZ (vs:=[_,_]) F ⟨aw F F F F,F,trivial⟩ F ⟨hle.trans hle2,F,?_⟩
             all_goals exact ⟨.slice (some ⟨bu,0,none⟩) fs.length cu,⟨bt (c :: r) (Int.toNat 0),r.take j,fs⟩,false,F,by rw [hno];rfl,hsl⟩
         · have hfr : fresh f fs = true:=by
             unfold fresh
             rw [List.all_eq_true]
             intro g hg
             obtain ⟨m,hm,rfl⟩:=iu hg
             simpa using Hk.2 m oM
           rw [hfr,if_pos rfl] at hi3
           have hxl : xs.length ≤ 1001:=oM
           repeat' (first | refine jR ?_ | (refine jo ?_;first | refine ah F ?_ | refine aK F ?_ | refine jV (aq F) ?_ | refine jF fun _=>?_ | refine pR F F F F F F F F oM fun _=>?_) | refine af F (aF oM) ?_)
           rename_i u2
           refine Nx.shp (v:=u2) (.head _) fun hs4=>?_
           obtain ⟨a4,c4,rfl⟩:=hs4.sl
           repeat' (first | refine jM ?_ | (refine jo ?_;refine jD F F F ?_))
           refine aT (.slice a4 (fs.length + 1) c4,fs ++ [f],i + 1) ⟨by dsimp only;omega,by simp;omega,hi3⟩ (by dsimp only;omega) tU rfl (by dsimp only;simp only [cn,List.length_append,List.length_cons,List.length_nil,Nat.zero_add];repeat (first | exact List.Sublist.refl _ | apply List.Sublist.cons_cons | apply List.Sublist.cons)))
def hD (G : Gh) (b : Nat) (t : Ty) : Prop:=∃ fv ln,bN G b 0 [U8 t.sort,S t.name,fv,S ln] ∧ bh G fv 6 t.fields.length (ao iK t.fields)
theorem hD.mono {G G' : Gh} {b : Nat} {t : Ty} (h : hD G b t) (hl : Gh.le G G') : hD G' b t:=by
 obtain ⟨fv,ln,h1,h2⟩:=h
 exact ⟨fv,ln,h1.mono hl,h2.mono hl⟩
def zE (s : abu) (v : Value) (G : Gh) : Prop:=(cO s = none ∧ ∃ p,v = Tu [p,Bo false]) ∨ ∃ b t,v = Tu [Pt b 0,Bo true] ∧ cO s = some t ∧ hD G b t
abbrev ud : TypeId:=134
abbrev tTi : TypeId:=132
theorem lP {k : Nat} : ∀ {xs : List abu} {fs gs : List Fld},cL k xs fs = some gs → gs.length = fs.length + xs.length
 | [],fs,gs,h=>by simp only [cL,Option.some.injEq] at h;subst h;simp
 | x :: xs,fs,gs,h=>by
  unfold cL at h
  split at h
  ·cases h
  ·split at h
   ·have:=lP h;simp at this ⊢;omega
   ·cases h
theorem rue (c : UInt8) : decide (0 ≤ eS c.toNat [82,85,69]) = decide (dP c.toNat):=by
 have h : ∀ n : Nat,n < 256 → decide (0 ≤ eS n [82,85,69]) = decide (dP n):=by decide +kernel
 exact h _ c.toNat_lt
theorem og {s : abu} (h : s.length ≤ 1000) : ci abt 121 [S s] G (zE s):=by
  match s,h with
  | [],h =>
    refine jB [(0,_)] Tryz.func121 Tryz.ntmps121 fun B hok hB hW=>?_
    repeat' (first | refine jR ?_ | (refine jo ?_;refine aP F ?_) | refine aO F F F ?_ | refine ae F F ?_)
    all_goals refine jZ (vs:=[_,_]) F ⟨F,F,trivial⟩ F ⟨Gh.le.refl _,F,?_⟩
    all_goals exact .inl ⟨F,_,F⟩
  | c :: r,h =>
    have cx_cont : aI abt 161 [S [82,85,69],S [c]] G (· = Bo (decide (dP c.toNat))):=by rw [← rue];exact tR
    by_cases hs : dP c.toNat
    case neg =>
      have hno : cO (c :: r) = none:=by
        cases ht : (aB 61 r).2.2 with
        | false=>exact kA ht
        | true=>rw [mf (c:=c) (r:=r) (name:=(aB 61 r).1) (rest:=(aB 61 r).2.1) (by rw [← ht]),if_neg fun h=>hs h.2]
      have hs2 : (!decide (dP c.toNat)) = true:=by simpa using hs
      refine jB [(0,_)] Tryz.func121 Tryz.ntmps121 fun B hok hB hW=>?_
      repeat' (first | refine jX ?_ | (refine jo ?_;first | refine aH F ?_ | refine ad F F F cx_cont F ?_) | refine aD F F F ?_ | refine ae F ‹_› ?_)
      all_goals refine jZ (vs:=[_,_]) F ⟨F,F,trivial⟩ F ⟨Gh.le.refl _,F,?_⟩
      all_goals exact .inl ⟨hno,_,F⟩
    have hs2 : (!decide (dP c.toNat)) = false:=by simpa using hs
    have hcl:=iM (k:=61) (s:=r)
    have hrl : r.length ≤ 1000:=by simp at h;omega
    have cx_cut : aI abt 120 [S r,S [61]] G (· = Tu [S (aB 61 r).1,S (aB 61 r).2.1,Bo (aB 61 r).2.2]):=ot (c:=61) oM
    cases ht : (aB 61 r).2.2 with
    | false =>
      rw [ht] at cx_cut
      refine jB [(0,_)] Tryz.func121 Tryz.ntmps121 fun B hok hB hW=>?_
      repeat' (first | refine jX ?_ | (refine jo ?_;first | refine aP F ?_ | refine aH F ?_ | refine ad F F F cx_cont F ?_ | refine ad F F F cx_cut F ?_) | refine aO F F F ?_ | refine aD F F F ?_ | refine ae F F ?_ | refine af F ‹_› ?_)
      all_goals refine jZ (vs:=[_,_]) F ⟨F,F,trivial⟩ F ⟨Gh.le.refl _,F,?_⟩
      all_goals exact .inl ⟨kA ht,_,F⟩
    | true =>
      have hty:=mf (c:=c) (r:=r) (name:=(aB 61 r).1) (rest:=(aB 61 r).2.1) (by rw [← ht])
      rw [ht] at cx_cut
      generalize (aB 61 r).1 = name at *
      generalize (aB 61 r).2.1 = rest at *
      have e0 : bt (c :: r) (Int.toNat 0) = c.toNat:=dk c r
      by_cases hn : bQ name = true
      case neg =>
        have hn2 : (!bQ name) = true:=by simpa using hn
        have hno : cO (c :: r) = none:=by rw [hty,if_neg fun h=>hn h.1]
        refine jB [(0,_)] Tryz.func121 Tryz.ntmps121 fun B hok hB hW=>?_
        repeat' (first | refine jX ?_ | (refine jo ?_;first | refine aH F ?_ | refine ad F F F cx_cont F ?_ | refine ad F F F cx_cut F ?_ | refine ad F F F (cS oM) F ?_) | refine aD F F F ?_ | refine ae F ‹_› ?_ | refine af F ‹_› ?_)
        all_goals refine jZ (vs:=[_,_]) F ⟨F,F,trivial⟩ F ⟨Gh.le.refl _,F,?_⟩
        all_goals exact .inl ⟨hno,_,F⟩
      have hn2 : (!bQ name) = false:=by rw [hn];rfl
      rw [if_pos ⟨hn,hs⟩] at hty
      by_cases hr : rest = []
      · rw [if_pos hr] at hty
        by_cases h82 : c.toNat = 82
        · rw [if_pos h82] at hty
          have e82 : bt (c :: r) (Int.toNat 0) = 82:=oM
          refine jB [(0,_)] Tryz.func121 Tryz.ntmps121 fun B hok hB hW=>?_
          repeat' (first | refine jX ?_ | (refine jo ?_;first | refine aH F ?_ | refine jV (am F F) ?_ | refine jO fun _=>?_ | refine ad F F F cx_cont F ?_ | refine ad F F F cx_cut F ?_ | refine ad F F F (cS oM) F ?_) | refine aD F F F ?_ | refine ae F (aC ‹_›) ?_ | refine af F ‹_› ?_ | (refine ak (ar (id:=8) _ (fun _ h=>h) aj ?_);refine jT 3 [0,1,2,3,6] (aa 8 79) ?_;(refine jG (aa 8 95) 4 F (an F F F) ?_);refine jT 0 [5,7] (aa 8 255) ?_;refine jQ ?_))
          rename_i x
          refine Nx.sealC (b:=x) fun G' hle hseg=>?_
          refine jZ (vs:=[_,_]) F ⟨F,F,trivial⟩ F ⟨hle,F,?_⟩
          rw [e82] at hseg
          refine .inr ⟨x,⟨82,name,[]⟩,?_,hty,_,_,hseg,bh.nil0⟩
          show Tu [Pt x 0,Bo (decide (((bt (c :: r) (Int.toNat 0) : Nat) : Int) = 82))] = _
          rw [e82];rfl
        · rw [if_neg h82] at hty
          have e82 : ¬ bt (c :: r) (Int.toNat 0) = 82:=oM
          refine jB [(0,_)] Tryz.func121 Tryz.ntmps121 fun B hok hB hW=>?_
          repeat' (first | refine jX ?_ | (refine jo ?_;first | refine aH F ?_ | refine jV (am F F) ?_ | refine jO fun _=>?_ | refine ad F F F cx_cont F ?_ | refine ad F F F cx_cut F ?_ | refine ad F F F (cS oM) F ?_) | refine aD F F F ?_ | refine ae F (aC ‹_›) ?_ | refine af F ‹_› ?_ | (refine ak (ar (id:=8) _ (fun _ h=>h) aj ?_);refine jT 3 [0,1,2,3,6] (aa 8 79) ?_;(refine jG (aa 8 95) 4 F (an F F F) ?_);refine jT 0 [5,7] (aa 8 255) ?_;refine jQ ?_))
          all_goals refine jZ (vs:=[_,_]) F ⟨F,F,trivial⟩ F ⟨Gh.le.refl _,F,?_⟩
          all_goals exact .inl ⟨hty,_,by rw [dV,decide_eq_false (show ¬ ((bt (c :: r) (Int.toNat 0) : Nat) : Int) = 82 by omega)]⟩
      · rw [if_neg hr] at hty
        have hall : ∀ y ∈ aY 44 rest,y.length ≤ 1000:=fun y hy=>Nat.le_trans (cY hy) oM
        have hcnt:=jl (k:=44) (s:=rest)
        have cx_split : ci abt 162 [S rest,S [44]] G (fun v G'=>∃ b o cap,v = .slice (some ⟨b,o,none⟩) (aY 44 rest).length cap ∧ bN G' b o (ao cr (aY 44 rest))):=k5 (c:=44) _ oM rfl rfl rfl dL
        generalize aY 44 rest = xs at *
        refine jB [(0,_)] Tryz.func121 Tryz.ntmps121 fun B hok hB hW=>?_
        repeat' (first | refine jX ?_ | (refine jo ?_;first | refine aH F ?_ | refine jV (am F F) ?_ | refine jO fun _=>?_ | refine jV (aq F) ?_ | refine ad F F F cx_cont F ?_ | refine ad F F F cx_cut F ?_ | refine ad F F F (cS oM) F ?_ | (refine aM F F F cx_split F ?_;rintro _ G hle ⟨b1,o1,cap1,rfl,hseg⟩;skip)) | refine aD F F F ?_ | (refine af F (by first | assumption | (refine decide_eq_false ?_;(assumption))) ?_))
        rename_i x
        have hle0:=hle
        refine Nx.addNil ud 6 ?_
        refine aU (ι:=Value × List Fld × Nat × Gh) (fun i=>((i.2.2.1 ≤ xs.length ∧ i.2.1.length ≤ i.2.2.1) ∧ i.2.1.length ≤ 8) ∧ cL c.toNat (xs.drop i.2.2.1) i.2.1 = cL c.toNat xs [] ∧ Gh.le G i.2.2.2) (fun i=>[(7,Pt x 0),(51,.slice (some ⟨b1,o1,none⟩) xs.length cap1),(52,I xs.length),(53,I i.2.2.1)]) (fun i=>i.2.2.2) (fun i=>[.acc i.1 ud 6 i.2.1.length (ao iK i.2.1),.blk x (.cells [U8 (bt (c :: r) (Int.toNat 0) : Nat),S name,i.1,S (c :: r)].toArray tTi (0,0))]) (fun i=>xs.length - i.2.2.1) (aA,[],0,G) ?_ tU F a6 (fun i Hi=>?_)
        · exact ⟨⟨⟨Nat.zero_le _,Nat.le_refl _⟩,by simp⟩,F,Gh.le.refl _⟩
        obtain ⟨u,fs,i,Gk⟩:=i
        dsimp only at Hi ⊢
        obtain ⟨⟨⟨hi1,hi2⟩,hi8⟩,hi3,hgk⟩:=Hi
        have hsk:=hseg.mono hgk
        refine Nx.shp (v:=u) (.head _) fun hsh=>?_
        have hsh2:=hsh
        obtain ⟨au,cu,rfl⟩:=hsh.sl
        by_cases hix : i < xs.length
        case neg =>
          have ei : i = xs.length:=oM
          rw [ei,List.drop_length,cL] at hi3
          have hyes : cO (c :: r) = some ⟨c.toNat,name,fs⟩:=by rw [hty,← hi3];exact if_pos hi8
          repeat' (first | refine jR ?_ | refine af F (aF oM) ?_)
          refine Nx.sealS (v:=.slice au fs.length cu) fun G1 hle1 hsl=>?_
          refine Nx.sealC (b:=x) fun G2 hle2 hsg2=>?_
          refine jZ (vs:=[_,_]) F ⟨F,F,trivial⟩ F ⟨((hle.trans hgk).trans hle1).trans hle2,F,?_⟩
          exact .inr ⟨x,⟨c.toNat,name,fs⟩,F,hyes,_,_,hsg2,hsl.mono hle2⟩
        rw [qM hix,cL] at hi3
        have hx:=hall _ (a7 hix)
        repeat' (first | refine jR ?_ | (refine jo ?_;first | refine aP F ?_ | refine aH F ?_ | refine ah F ?_ | (refine jV (gt F F aS ?_) ?_;focus omega) | refine jV (aq F) ?_ | refine jV (al F F oM) ?_ | refine jL fun _=>?_ | refine jC F F F ?_ | (refine aM F F F (rD oM) F ?_;rintro _ G hle ⟨f,ok,rfl,hfld⟩;skip)) | refine kN F F (fun _=>?_) (fun _=>?_) | (refine ae F (by first | rfl | (refine decide_eq_true ?_;(omega))) ?_) | refine cJ F (fun _=>?_) (fun _=>?_))
        all_goals first
          | (rename_i z hq h8
             have hq2 : ok = true:=by simpa using hq
             subst hq2
             have hf1 : bI (ac xs i) c.toNat = some f:=hfld
             rw [hf1] at hi3
             dsimp only at hi3
             have h9 : fs.length = 8:=oM
             have hno : cO (c :: r) = none:=by
               rw [hty]
               cases hgs : cL c.toNat xs [] with
               | none=>rfl
               | some gs =>
                 rw [hgs] at hi3
                 split at hi3
                 · have:=lP hi3
                   simp at this
                   exact if_neg oM
                 · cases hi3
             refine jZ (vs:=[_,_]) F ⟨F,F,trivial⟩ F ⟨(hle0.trans hgk).trans hle,F,?_⟩
             exact .inl ⟨hno,_,F⟩)
          | (rename_i z hq
             have hq2 : ok = false:=by simpa using hq
             subst hq2
             have hf0 : bI (ac xs i) c.toNat = none:=hfld
             have hno : cO (c :: r) = none:=by rw [hf0] at hi3;rw [hty,← hi3]
             refine jZ (vs:=[_,_]) F ⟨F,F,trivial⟩ F ⟨(hle0.trans hgk).trans hle,F,?_⟩
             exact .inl ⟨hno,_,F⟩)
          | (rename_i z hq h8
             have hq2 : ok = true:=by simpa using hq
             subst hq2
             have hf1 : bI (ac xs i) c.toNat = some f:=hfld
             rw [hf1] at hi3
             dsimp only at hi3
             have h9 : fs.length ≠ 8:=oM
             refine aU (ι:=Nat) (fun k=>k ≤ fs.length ∧ ∀ m,m < k → (ac fs m).tag < f.tag ∧ (ac fs m).name ≠ f.name) (fun k=>[(7,Pt x 0),(10,Pt z 0),(51,.slice (some ⟨b1,o1,none⟩) xs.length cap1),(52,I xs.length),(53,I i),(79,.slice au fs.length cu),(80,I fs.length),(81,I k)]) (fun _=>G) (fun k=>[.blk z (.cells (iK f).toArray ud (0,0)),.acc (.slice au fs.length cu) ud 6 fs.length (ao iK fs),.blk x (.cells [U8 (bt (c :: r) (Int.toNat 0) : Nat),S name,.slice au fs.length cu,S (c :: r)].toArray tTi (0,0))]) (fun k=>fs.length - k) 0 ?_ tU F a6 (fun k Hk=>?_)
             · exact ⟨Nat.zero_le _,fun m hm=>absurd hm oM⟩
             by_cases hk : k < fs.length
             · obtain ⟨bu,cu2,eu⟩:=hsh2.pos oM
               simp only [Value.slice.injEq] at eu
               obtain ⟨rfl,-,rfl⟩:=eu
               by_cases hbad : (ac fs k).tag < f.tag ∧ (ac fs k).name ≠ f.name
               · obtain ⟨hb1,hb2⟩:=hbad
                 repeat' (first | refine jM ?_ | (refine jo ?_;first | refine aH F ?_ | refine ah F ?_ | refine jV (nZ F F F oM) ?_ | refine jV (al F F oM) ?_ | refine jL fun _=>?_ | refine jC F F F ?_) | refine aD F F (aF ‹_›) ?_ | refine ae F (aC oM) ?_ | refine af F (aF oM) ?_)
                 refine aT (k + 1) ⟨oM,fun m hm=>?_⟩ oM tU F sB
                 rcases Nat.lt_or_ge m k with h3 | h3
                 · exact Hk.2 m h3
                 · have : m = k:=oM
                   subst this;exact ⟨hb1,hb2⟩
               · have hfr : fresh f fs = false:=by
                   unfold fresh
                   rw [List.all_eq_false]
                   exact ⟨ac fs k,a7 hk,by simpa using hbad⟩
                 have hno : cO (c :: r) = none:=by
                   rw [hfr,if_neg (by simp)] at hi3
                   rw [hty,← hi3]
                 by_cases hnm : (ac fs k).name = f.name
                 case' neg => have htag : f.tag ≤ (ac fs k).tag := by
                               rcases Int.lt_or_le (ac fs k).tag f.tag with h6 | h6
                               · exact absurd ⟨h6,hnm⟩ hbad
                               · exact h6
                 all_goals repeat' (first | refine jR ?_ | (refine jo ?_;first | refine aP F ?_ | refine aH F ?_ | refine ah F ?_ | refine jV (nZ F F F oM) ?_ | refine jV (al F F oM) ?_ | refine jL fun _=>?_ | refine jC F F F ?_) | refine aO F F (aC ‹_›) ?_ | refine aD F F (aF ‹_›) ?_ | (refine ae F (by first | rfl | (refine decide_eq_true ?_;first | assumption | omega)) ?_))
                 all_goals refine jZ (vs:=[_,_]) F ⟨F,F,trivial⟩ F ⟨(hle0.trans hgk).trans hle,F,?_⟩
                 all_goals exact .inl ⟨hno,_,F⟩
             · have hfr : fresh f fs = true:=by
                 unfold fresh
                 rw [List.all_eq_true]
                 intro g hg
                 obtain ⟨m,hm,rfl⟩:=iu hg
                 simpa using Hk.2 m oM
               rw [hfr,if_pos rfl] at hi3
               have hxl : xs.length ≤ 1001:=oM
               repeat' (first | refine jR ?_ | refine af F (aF oM) ?_)
               (refine ak (ar (id:=21) [.blk z (.cells (iK f).toArray ud (0,0))] (by intro y hy;simp only [List.mem_cons,List.not_mem_nil,or_false] at hy ⊢;simp [hy]) aj ?_);refine jW 7 [0,1,2,3] (aa 11 15) ?_;(refine jG (aa 11 47) 5 F (bC F F F F) ?_);refine cd [4,6] kR dC ⟨?_,?_,trivial⟩;(focus (refine aX F F ?_;(refine ah F ?_);refine jK (aa 11 63) ?_;refine jA 6 F ?_;(refine jF fun _=>?_);refine jK (aa 11 127) ?_;refine jA 7 F ?_;((refine bj F F F F F F F F F ?_ fun _ _=>?_;focus omega));refine jK (aa 11 255) ?_;refine jW 1 [8,9] (aa 11 1023) ?_;refine jA 10 F ?_;(refine jD F F F ?_);refine jK (aa 11 2047) ?_;refine jQ ?_));rotate_left 1;(focus (refine aX F F ?_;(refine jF fun _=>?_);refine jK (aa 11 111) ?_;refine jA 4 F ?_;(refine ah F ?_);refine jK (aa 11 127) ?_;refine jA 7 F ?_;((refine bj F F F F F F F F F ?_ fun _ _=>?_;focus omega));refine jK (aa 11 255) ?_;refine jW 1 [8,9] (aa 11 1023) ?_;refine jA 10 F ?_;(refine jD F F F ?_);refine jK (aa 11 2047) ?_;refine jQ ?_));rotate_left 1)
               all_goals rename_i w b2 c2
               all_goals repeat' (refine jM ?_)
               all_goals refine aT (.slice (some ⟨b2,0,none⟩) (fs.length + 1) c2,fs ++ [f],i + 1,G) ⟨⟨⟨by dsimp only;omega,by simp;omega⟩,by simp;omega⟩,hi3,hgk.trans hle⟩ (by dsimp only;omega) tU rfl (by dsimp only;simp only [cn,List.length_append,List.length_cons,List.length_nil,Nat.zero_add];repeat (first | exact List.Sublist.refl _ | apply List.Sublist.cons_cons | apply List.Sublist.cons)))
abbrev cW:=(Option Addr × Nat) × Ty
def iB (x : cW) : Value:=.slice x.1.1 x.2.fields.length x.1.2
def iX (x : cW) : List Value:=[U8 x.2.sort,S x.2.name,iB x]
instance : RowF iX 3:=⟨fun _=>rfl⟩
def zT : cW:=((none,0),⟨0,[],[]⟩)
theorem bh.sl {G : Gh} {v : Value} {sz m : Nat} {xs : List Value} (h : bh G v sz m xs) : ∃ a cap,v = .slice a m cap:=by
 obtain ⟨_,⟨rfl,rfl⟩ | ⟨b,o,cap,rfl,_⟩⟩:=h
 ·exact ⟨none,0,F⟩
 ·exact ⟨_,cap,F⟩
structure SchR (G : Gh) (u : Value) (vs : List cW) : Prop where
 sl : bh G u 3 vs.length (ao iX vs)
 fl : ∀ x ∈ vs,bh G (iB x) 4 x.2.fields.length (ao cF x.2.fields)
theorem SchR.mono {G G' : Gh} {u : Value} {vs : List cW} (h : SchR G u vs) (hl : Gh.le G G') : SchR G' u vs:=⟨h.sl.mono hl,fun x hx=>(h.fl x hx).mono hl⟩
def aQ (vs : List cW) : List Ty:=vs.map (·.2)
def eW (vs : List cW) (n : abu) : Option cW:=vs.find? fun x=>decide (x.2.name = n)
def fe (vs : List cW) (k : abu) : Option cW:=(bc k).bind (eW vs)
theorem qH (vs : List cW) (n : abu) : (eW vs n).map (·.2) = dK (aQ vs) n:=by
 unfold eW dK aQ
 induction vs with
 | nil=>rfl
 | cons x vs ih =>
  simp only [List.map_cons,List.find?_cons]
  split <;> simp_all
theorem uL {vs : List cW} {n : abu} {x : cW} (h : eW vs n = some x) : x ∈ vs ∧ x.2.name = n:=by
 unfold eW at h
 exact ⟨List.mem_of_find?_eq_some h,by simpa using List.find?_some h⟩
theorem vX {vs : List cW} {n : abu} {i : Nat} (hi : i < vs.length) (h : ∀ k,k < i → (ac vs k).2.name ≠ n) (h2 : (ac vs i).2.name = n) : eW vs n = some (ac vs i):=by
 unfold eW
 rw [List.find?_eq_some_iff_getElem]
 rw [ck hi] at h2 ⊢
 refine ⟨by simpa using h2,i,hi,F,fun j hj=>?_⟩
 have:=h j hj
 rw [ck oM] at this
 simpa using this
theorem tA {vs : List cW} {n : abu} (h : ∀ k,k < vs.length → (ac vs k).2.name ≠ n) : eW vs n = none:=by
 unfold eW
 rw [List.find?_eq_none]
 intro x hx
 obtain ⟨i,hi,rfl⟩:=List.mem_iff_getElem.1 hx
 have:=h i hi
 rw [ck hi] at this
 simpa using this
theorem rc {u : Value} {vs : List cW} {n : abu} (h : SchR G u vs) (hn : vs.length ≤ 1000000) : aI abt 102 [u,S n] G (· = Tu [Ag (iX ((eW vs n).getD zT)),Bo (eW vs n).isSome]):=by
 have hsl:=h.sl
 refine jE [(0,_),(1,_)] Tryz.func102 Tryz.ntmps102 fun B hB=>?_
 repeat' (first | refine jR ?_ | (refine jo ?_;refine jL fun _=>?_))
 rename_i x
 refine aU (ι:=Nat) (fun i=>i ≤ vs.length ∧ ∀ k,k < i → (ac vs k).2.name ≠ n) (fun i=>[(0,u),(1,S n),(4,Pt x 0),(6,I i)]) (fun _=>G) (fun i=>[.blk x (.cells [U8 0,S [],aA].toArray o7 (0,0))]) (fun i=>vs.length - i) 0 ?_ tU F a6 (fun i Hi=>?_)
 ·exact ⟨oM,fun k hk=>absurd hk oM⟩
 by_cases hi : i < vs.length
 ·obtain ⟨b,o,cap,rfl,hs⟩:=hsl.expl oM
  repeat' (first | refine jM ?_ | (refine jo ?_;first | refine jV (aq F) ?_ | refine jV (al F F oM) ?_ | (refine jV (bz F F aS ?_) ?_;focus omega) | (refine jV (bq F F aS ?_ F F) ?_;focus omega) | refine jC F F F ?_) | refine ae F (aC oM) ?_ | refine cJ F (fun _=>?_) (fun _=>?_))
  ·rename_i he
   refine jZ (vs:=[_,_]) F ⟨aw F F F F,F,trivial⟩ F ⟨F,F,?_⟩
   rw [vX hi Hi.2 he];rfl
  ·rename_i he
   refine aT (i + 1) ⟨oM,fun k hk=>?_⟩ oM tU F a6
   rcases Nat.lt_or_ge k i with h3 | h3
   ·exact Hi.2 k h3
   ·have : k = i:=oM
    subst this;exact he
 ·repeat' (first | refine jR ?_ | (refine jo ?_;first | refine jV (dc F aS) ?_ | refine jC F F F ?_ | refine jV (am F F) ?_) | refine af F (aF oM) ?_)
  refine jZ (vs:=[_,_]) F ⟨aw F F F F,F,trivial⟩ F ⟨F,F,?_⟩
  rw [tA fun k hk=>Hi.2 k oM];rfl
theorem k8 {s : abu} (h : eN s = true) (hl : s.length ≤ 1000000) : aI abt 100 [S s] G (· = Tu [S ((bc s).getD []),Bo (bc s).isSome]):=by
 match s,h with
 | c :: r,h =>
  by_cases hr : r = []
  ·have hc : ¬ c.toNat = 64:=by
    intro hc
    subst hr
    rw [eN,if_neg oM,if_pos hc] at h
    simp [dk,hc] at h
   have e0:=lg c r
   have hq : bc (c :: r) = none:=by simp [bc,hc]
   rw [hq]
   refine jE [(0,_)] Tryz.func100 Tryz.ntmps100 fun B hB=>?_
   repeat' (first | refine jX ?_ | (refine ae F ?_ ?_;(focus ((simp;omega);done))))
   all_goals refine jY (vs:=[_,_]) ?_
   all_goals rfl
  ·have:=xJ (G:=G) (c:=c) hr (by simp at hl;omega)
   refine this.mono ?_
   rintro v G' L' ⟨h1,h2,h3⟩
   refine ⟨h1,h2,h3.trans ?_⟩
   by_cases hc : c.toNat = 64 <;> simp [bc,hc]
theorem oe {u : Value} {vs : List cW} {k : abu} (h : SchR G u vs) (hn : vs.length ≤ 1000000) (hk : eN k = true) (hl : k.length ≤ 1000000) : aI abt 141 [u,S k] G (· = Tu [Ag (iX ((fe vs k).getD zT)),Bo (fe vs k).isSome]):=by
 rcases hr : bc k with _ | n
 ·have e : fe vs k = none:=by simp [fe,hr]
  rw [e]
  have cx_ref : aI abt 100 [S k] G (· = Tu [S [],Bo false]):=by have:=k8 (G:=G) hk hl;rwa [hr] at this
  refine jE [(0,_),(1,_)] Tryz.func141 Tryz.ntmps141 fun B hB=>?_
  repeat' (first | refine jR ?_ | (refine jo ?_;first | refine jL fun _=>?_ | refine jV (am F F) ?_ | refine jC F F F ?_ | refine ad F F F cx_ref F ?_) | refine ae F F ?_)
  all_goals refine jZ (vs:=[_,_]) F ⟨aw F F F F,F,trivial⟩ F ⟨F,F,?_⟩
  all_goals rfl
 ·have e : fe vs k = eW vs n:=by simp [fe,hr]
  rw [e]
  have cx_ref : aI abt 100 [S k] G (· = Tu [S n,Bo true]):=by have:=k8 (G:=G) hk hl;rwa [hr] at this
  refine jE [(0,_),(1,_)] Tryz.func141 Tryz.ntmps141 fun B hB=>?_
  repeat' (first | refine jR ?_ | (refine jo ?_;first | refine jL fun _=>?_ | refine jC F F F ?_ | refine ad F F F cx_ref F ?_ | (refine ad F F F (rc (by (repeat (assumption));done) oM) rfl ?_)) | refine af F F ?_)
  all_goals refine jZ (vs:=[_,_]) F ⟨aw F F F F,F,trivial⟩ F ⟨F,F,?_⟩
  all_goals rfl
theorem j8 (vs : List cW) (k : abu) : (fe vs k).map (·.2) = aL (aQ vs) k:=by
 unfold fe aL
 cases bc k with
 | none=>rfl
 | some n=>simp only [Option.bind_some];exact qH vs n
theorem kF {vs : List cW} {k : abu} {x : cW} (h : fe vs k = some x) : x ∈ vs:=by
 unfold fe at h
 cases hr : bc k with
 | none=>rw [hr] at h;cases h
 | some n=>rw [hr] at h;exact (uL h).1
theorem dy {s : abu} (h : bn s = true) : eN s = true ∧ s.length ≤ 12:=by
 unfold bn at h;simp only [Bool.and_eq_true,decide_eq_true_eq] at h;exact ⟨h.2,h.1⟩
theorem zy {u : Value} {vs : List cW} {x0 : cW} (h : SchR G u vs) (hn : vs.length ≤ 1000) (hw : ∀ x ∈ vs,TyW x.2) (hx : x0 ∈ vs) :
  aI abt 157 [u,Ag (iX x0)] G (· = Bo (bJ (aQ vs) (vs.length + 1) x0.2)):=by
 have hsl:=h.sl
 refine jE [(0,_),(1,_)] Tryz.func157 Tryz.ntmps157 fun B hB=>?_
 repeat' (first | refine jR ?_ | (refine jo ?_;refine jO fun _=>?_))
 rename_i b0
 refine aU (ι:=cW × Nat) (fun i=>i.1 ∈ vs ∧ i.2 ≤ vs.length + 1 ∧ bJ (aQ vs) (vs.length + 1 - i.2) i.1.2 = bJ (aQ vs) (vs.length + 1) x0.2) (fun i=>[(0,u),(3,Pt b0 0),(5,I i.2)]) (fun _=>G) (fun i=>[.blk b0 (.cells (iX i.1).toArray o7 (0,0))]) (fun i=>vs.length + 1 - i.2) (x0,0) ?_ tU F a6 (fun i Hi=>?_)
 ·exact ⟨hx,Nat.zero_le _,F⟩
 obtain ⟨⟨⟨a,ca⟩,t⟩,n⟩:=i
 dsimp only at Hi ⊢
 obtain ⟨hxm,hnl,he⟩:=Hi
 have hW:=hw _ hxm
 dsimp only at hW
 by_cases hlt : n ≤ vs.length
 case neg =>
  have e0 : vs.length + 1 - n = 0:=oM
  rw [e0] at he
  repeat' (first | refine jR ?_ | (refine jo ?_;refine jV (dc F aS) ?_) | refine af F (aF oM) ?_)
  refine jY (vs:=[_]) ?_
  rw [← he];rfl
 obtain ⟨m,hm⟩ : ∃ m,vs.length + 1 - n = m + 1:=⟨vs.length - n,oM⟩
 rw [hm,bJ] at he
 by_cases hU : t.sort = 85
 case neg =>
  rw [if_pos hU] at he
  repeat' (first | refine jR ?_ | (refine jo ?_;first | refine jV (dc F aS) ?_ | refine ah F ?_) | (refine ae F ?_ ?_;(focus ((first | (refine decide_eq_true ?_;(omega)) | (simp;omega));done))))
  refine jY (vs:=[_]) ?_
  rw [← he];rfl
 rw [if_neg (by simp [hU])] at he
 have hne:=hW.ne oM
 have h0 : 0 < t.fields.length:=List.length_pos_iff.2 hne
 obtain ⟨bf,of,cf,ef,hsf⟩:=(h.fl _ hxm).expl h0
 simp only [iB,Value.slice.injEq] at ef
 obtain ⟨rfl,-,rfl⟩:=ef
 dsimp only at hsf
 have hk0 : eV t = (ac t.fields 0).kind:=by
  unfold eV ac
  cases t.fields with
  | nil=>rfl
  | cons f r=>rfl
 have hkk:=dy ((hW.fld _ (a7 h0)).kind oM)
 rw [hk0] at he
 have href:=j8 vs (ac t.fields 0).kind
 have cx_rf:=oe (k:=(ac t.fields 0).kind) h oM hkk.1 oM
 rcases hr : fe vs (ac t.fields 0).kind with _ | ⟨⟨a2,c2⟩,t2⟩
 ·rw [hr] at href cx_rf
  rw [← href] at he
  repeat' (first | refine jR ?_ | (refine jo ?_;first | refine jV (dc F aS) ?_ | refine ah F ?_ | (refine jV (bq F F aS ?_ F F) ?_;focus omega) | refine jV (al F F oM) ?_ | refine jL fun _=>?_ | refine jC F F F ?_ | refine ad F F F cx_rf F ?_) | (refine ae F (by first | rfl | (refine decide_eq_true ?_;(omega))) ?_) | (refine af F ?_ ?_;(focus ((simp [*];done);done))))
  all_goals refine jY (vs:=[_]) ?_
  all_goals (rw [← he];rfl)
 ·rw [hr] at href cx_rf
  rw [← href] at he
  repeat' (first | refine jM ?_ | (refine jo ?_;first | refine jV (dc F aS) ?_ | refine ah F ?_ | (refine jV (bq F F aS ?_ F F) ?_;focus omega) | refine aK F ?_ | refine jV (al F F oM) ?_ | refine jL fun _=>?_ | refine jC F F F ?_ | refine ad F F F cx_rf F ?_) | refine ae F (aC oM) ?_ | (refine af F ?_ ?_;(focus ((first | rfl | (simp [*];done));done))))
  refine aT (((a2,c2),t2),n + 1) ⟨kF hr,by dsimp only;omega,?_⟩ (by dsimp only;omega) tU rfl sB
  dsimp only
  rw [show vs.length + 1 - (n + 1) = m by omega]
  exact he
theorem j6 (vs : List cW) : (aQ vs).length = vs.length:=by simp [aQ]
theorem kh {vs : List cW} {i : Nat} (h : i < vs.length) : ac (aQ vs) i = (ac vs i).2:=by
 rw [ck h,ck (by rw [j6];exact h)];simp [aQ]
theorem pj {vs : List cW} {k : abu} : d7 (aQ vs) k = (!(bc (aG k)).isSome || (eW vs ((bc (aG k)).getD [])).isSome):=by
 unfold d7
 cases bc (aG k) with
 | none=>rfl
 | some n =>
  show (dK (aQ vs) n).isSome = _
  rw [← qH];simp
theorem gM {k : abu} (h : eN k = true) : eN (aG k) = true:=by
 induction k with
 | nil=>cases h
 | cons c r ih =>
  unfold aG
  split
  ·rename_i hc;rw [eN,if_pos hc] at h;exact ih h
  ·exact h
theorem gf : ∀ s : abu,(aG s).length ≤ s.length
 | []=>Nat.le_refl _
 | c :: r=>by
  unfold aG
  split
  ·have:=gf r;simp;omega
  ·exact Nat.le_refl _
theorem xF {u : Value} {vs : List cW} (h : SchR G u vs) (hn : vs.length ≤ 1000) (hw : ∀ x ∈ vs,TyW x.2) :
    aI abt 116 [u] G (· = Bo (decide (hC (aQ vs)))):=by
  have hsl:=h.sl
  have hlen:=j6 vs
  refine jE [(0,_)] Tryz.func116 Tryz.ntmps116 fun B hB=>?_
  repeat' (refine jR ?_)
  refine aU (ι:=Nat) (fun i=>i ≤ vs.length ∧ ∀ j,j < i → kw (aQ vs) j ∧ gP (aQ vs) (ac (aQ vs) j)) (fun i=>[(0,u),(3,I i)]) (fun _=>G) (fun i=>[]) (fun i=>vs.length - i) 0 ?_ tU F a6 (fun i Hi=>?_)
  · exact ⟨Nat.zero_le _,fun j hj=>absurd hj oM⟩
  by_cases hi : i < vs.length
  case neg =>
    have ei : i = vs.length:=oM
    subst ei
    have Hall:=Hi.2
    repeat' (first | refine jR ?_ | (refine jo ?_;refine jV (dc F aS) ?_) | refine af F (aF oM) ?_)
    refine aU (ι:=Nat) (fun i=>i ≤ vs.length ∧ ∀ j,j < i → bJ (aQ vs) ((aQ vs).length + 1) (ac (aQ vs) j) = true) (fun i=>[(0,u),(10,I i)]) (fun _=>G) (fun i=>[]) (fun i=>vs.length - i) 0 ?_ tU F a6 (fun i Hi=>?_)
    · exact ⟨Nat.zero_le _,fun j hj=>absurd hj oM⟩
    by_cases hi : i < vs.length
    · obtain ⟨b,o,cap,rfl,hs⟩:=hsl.expl oM
      have hm:=a7 hi
      have cx_en:=zy h hn hw hm
      by_cases he : bJ (aQ vs) (vs.length + 1) (ac vs i).2 = true
      · have he2 : (!bJ (aQ vs) (vs.length + 1) (ac vs i).2) = false:=by rw [he];rfl
        repeat' (first | refine jM ?_ | (refine jo ?_;first | refine jV (aq F) ?_ | refine jV (al F F oM) ?_ | (refine jV (bz F F aS ?_) ?_;focus omega) | refine ad F F F cx_en F ?_) | refine ae F (aC oM) ?_ | refine af F ‹_› ?_)
        refine aT (i + 1) ⟨oM,fun j hj=>?_⟩ oM tU F a6
        rcases Nat.lt_or_ge j i with h3 | h3
        · exact Hi.2 j h3
        · have : j = i:=oM
          subst this;rw [hlen,kh hi];exact he
      · have he2 : (!bJ (aQ vs) (vs.length + 1) (ac vs i).2) = true:=by simpa using he
        repeat' (first | refine jR ?_ | (refine jo ?_;first | refine jV (aq F) ?_ | refine jV (al F F oM) ?_ | (refine jV (bz F F aS ?_) ?_;focus omega) | refine ad F F F cx_en F ?_) | (refine ae F (by first | assumption | (refine decide_eq_true ?_;(omega))) ?_))
        refine jY (vs:=[_]) ?_
        refine congrArg Bo (decide_eq_false fun hv=>he ?_).symm
        have:=hv.2 i oM
        rwa [hlen,kh hi] at this
    · repeat' (first | refine jR ?_ | (refine jo ?_;refine jV (dc F aS) ?_) | refine af F (aF oM) ?_)
      refine jY (vs:=[_]) ?_
      exact congrArg Bo (decide_eq_true ⟨fun j hj=>Hall j oM,fun j hj=>Hi.2 j oM⟩).symm
  obtain ⟨b,o,cap,rfl,hs⟩:=hsl.expl oM
  rcases hxi : ac vs i with ⟨⟨a,ca⟩,t⟩
  have hm : ((a,ca),t) ∈ vs:=by rw [← hxi];exact a7 hi
  have hW:=hw _ hm
  dsimp only at hW
  have hti : ac (aQ vs) i = t:=by rw [kh hi,hxi]
  have hE1 : (((a,ca),t) : cW).2.sort = t.sort:=rfl
  have hE2 : (((a,ca),t) : cW).2.fields.length = t.fields.length:=rfl
  have h8:=hW.len
  have hfl:=h.fl _ hm
  repeat' (first | refine jR ?_ | (refine jo ?_;refine jV (aq F) ?_) | refine ae F (aC oM) ?_)
  refine aU (ι:=Nat) (fun k=>k ≤ i ∧ ∀ j,j < k → (ac (aQ vs) j).name ≠ (ac (aQ vs) i).name) (fun k=>[(0,.slice (some ⟨b,o,none⟩) vs.length cap),(3,I i),(4,I k)]) (fun _=>G) (fun k=>[]) (fun k=>i - k) 0 ?_ tU F a6 (fun k Hk=>?_)
  · exact ⟨Nat.zero_le _,fun j hj=>absurd hj oM⟩
  by_cases hk : k < i
  · have hkv : k < vs.length:=oM
    by_cases hnm : (ac vs k).2.name = t.name
    · repeat' (first | refine jR ?_ | (refine ae F (by refine decide_eq_true ?_;first | assumption | omega) ?_) | (refine ak (ar (id:=7) _ (fun _ h=>h) aj ?_);refine jT 7 [0,1,5,6] (aa 11 99) ?_;(refine jG (aa 11 103) 2 F (al F F oM) ?_);refine jT 5 [3] (aa 11 111) ?_;((refine jG (aa 11 127) 4 F (bq F F aS ?_ F F) ?_;focus omega));(refine jG (aa 11 255) 7 F (al F F oM) ?_);refine jT 2 [8] (aa 11 511) ?_;((refine jG (aa 11 1023) 9 F (mo F F aS ?_ aS F F) ?_;focus omega));refine jT 0 [10] (aa 11 2047) ?_;refine jQ ?_))
      refine jY (vs:=[_]) ?_
      refine congrArg Bo (decide_eq_false fun hv=>?_).symm
      have:=(hv.1 i oM).1 k hk
      rw [kh hkv,hti] at this
      exact this hnm
    · repeat' (first | refine jM ?_ | refine ae F (aC oM) ?_ | refine af F (aF ‹_›) ?_ | (refine ak (ar (id:=7) _ (fun _ h=>h) aj ?_);refine jT 7 [0,1,5,6] (aa 11 99) ?_;(refine jG (aa 11 103) 2 F (al F F oM) ?_);refine jT 5 [3] (aa 11 111) ?_;((refine jG (aa 11 127) 4 F (bq F F aS ?_ F F) ?_;focus omega));(refine jG (aa 11 255) 7 F (al F F oM) ?_);refine jT 2 [8] (aa 11 511) ?_;((refine jG (aa 11 1023) 9 F (mo F F aS ?_ aS F F) ?_;focus omega));refine jT 0 [10] (aa 11 2047) ?_;refine jQ ?_))
      refine aT (k + 1) ⟨oM,fun j hj=>?_⟩ oM tU F a6
      rcases Nat.lt_or_ge j k with h3 | h3
      · exact Hk.2 j h3
      · have : j = k:=oM
        subst this;rw [kh hkv,hti];exact hnm
  have hna : kw (aQ vs) i:=fun j hj=>Hk.2 j oM
  repeat' (first | refine jR ?_ | refine af F (aF oM) ?_)
  refine aU (ι:=Nat) (fun k=>(t.sort = 69 ∨ ∀ j,j < k → d7 (aQ vs) (ac t.fields j).kind = true) ∧ k ≤ t.fields.length) (fun k=>[(0,.slice (some ⟨b,o,none⟩) vs.length cap),(3,I i),(5,I k)]) (fun _=>G) (fun k=>[]) (fun k=>t.fields.length - k) 0 ?_ tU F a6 (fun k Hk=>?_)
  · exact ⟨.inr fun j hj=>absurd hj oM,Nat.zero_le _⟩
  by_cases hk : k < t.fields.length ∧ t.sort ≠ 69
  case neg =>
    have hko : gP (aQ vs) (ac (aQ vs) i):=by
      rw [hti]
      by_cases h69 : t.sort = 69
      · exact .inl h69
      · refine .inr fun j hj=>?_
        rcases Hk.1 with h3 | h3
        · exact absurd h3 h69
        · exact h3 j oM
    repeat' (first | refine jM ?_ | (refine jo ?_;first | refine jV (aq F) ?_ | refine jV (al F F oM) ?_ | (refine jV (mo F F aS ?_ aS F F) ?_;focus omega) | refine aP F ?_ | refine aH F ?_) | refine dR F F (fun _=>?_) (fun _=>?_) | (refine af F (by first | rfl | (refine decide_eq_false ?_;(omega))) ?_))
    all_goals refine aT (i + 1) ⟨oM,fun j hj=>?_⟩ oM tU F a6
    all_goals (rcases Nat.lt_or_ge j i with h3 | h3;· exact Hi.2 j h3)
    all_goals (have : j = i:=by omega)
    all_goals (subst this;exact ⟨hna,hko⟩)
  obtain ⟨hk1,hk2⟩:=hk
  obtain ⟨bf,of,cf,ef,hsf⟩:=hfl.expl (by dsimp only;omega)
  simp only [iB,Value.slice.injEq] at ef
  obtain ⟨rfl,-,rfl⟩:=ef
  dsimp only at hsf
  have hE1 : (((some ⟨bf,of,none⟩,ca),t) : cW).2.sort = t.sort:=rfl
  have hE2 : (((some ⟨bf,of,none⟩,ca),t) : cW).2.fields.length = t.fields.length:=rfl
  have hkk:=dy ((hW.fld _ (a7 hk1)).kind hk2)
  have hkk1:=hkk.1
  have hcl:=gf (ac t.fields k).kind
  have cx_ref : aI abt 100 [S (aG (ac t.fields k).kind)] G (· = Tu [S ((bc (aG (ac t.fields k).kind)).getD []),Bo (bc (aG (ac t.fields k).kind)).isSome]):=k8 (gM hkk1) oM
  have hhas:=pj (vs:=vs) (k:=(ac t.fields k).kind)
  repeat' (first | refine jM ?_ | (refine jo ?_;first | refine jV (aq F) ?_ | refine jV (al F F oM) ?_ | (refine jV (mo F F aS ?_ aS F F) ?_;focus omega) | (refine jV (bq F F aS ?_ F F) ?_;focus omega) | refine aP F ?_ | refine aH F ?_ | refine jL fun _=>?_ | refine jC F F F ?_ | (refine ad F F F (fY (by (repeat (assumption));done)) rfl ?_) | refine ad F F F cx_ref F ?_ | (refine ad F F F (rc (by (repeat (assumption));done) oM) rfl ?_)) | refine aO F F (aC oM) ?_ | refine kN F F (fun _=>?_) (fun _=>?_) | refine ae F (aC oM) ?_ | refine af F F ?_ | refine qz F (fun _=>?_) (fun _=>?_))
  all_goals first
    | (rename_i h1 h2
       have hK : d7 (aQ vs) (ac t.fields k).kind = false:=by rw [hhas,h1];simpa using h2
       refine jY (vs:=[_]) ?_
       refine congrArg Bo (decide_eq_false fun hv=>?_).symm
       have h5:=(hv.1 i oM).2
       rw [hti] at h5
       rcases h5 with h3 | h3
       · exact hk2 h3
       · have h6:=h3 k hk1
         rw [hK] at h6;cases h6)
    | (have hK : d7 (aQ vs) (ac t.fields k).kind = true:=by rw [hhas];simp_all
       refine aT (k + 1) ⟨.inr fun j hj=>?_,oM⟩ oM tU F (by repeat (exact List.nil_sublist _))
       rcases Nat.lt_or_ge j k with h3 | h3
       · rcases Hk.1 with h4 | h4
         · exact absurd h4 hk2
         · exact h4 j h3
       · have : j = k:=oM
         subst this;exact hK)
theorem gl : ∀ {xs : List abu} {ts : List Ty} {x : abu},bS xs = some ts → bS (xs ++ [x]) = (cO x).map (fun t=>ts ++ [t])
 | [],ts,x,h=>by
  simp only [bS,Option.some.injEq] at h;subst h
  simp only [List.nil_append,bS]
  cases cO x <;> rfl
 | y :: xs,ts,x,h=>by
  unfold bS at h
  rw [List.cons_append,bS]
  cases hy : cO y with
  | none=>rw [hy] at h;cases h
  | some t =>
   rw [hy] at h
   dsimp only at h ⊢
   cases hr : bS xs with
   | none=>rw [hr] at h;cases h
   | some us =>
    rw [hr] at h
    simp only [Option.map_some,Option.some.injEq] at h;subst h
    rw [gl hr]
    cases cO x <;> rfl
theorem fR : ∀ {xs ys : List abu},bS xs = none → bS (xs ++ ys) = none
 | [],ys,h=>by cases h
 | y :: xs,ys,h=>by
  unfold bS at h
  rw [List.cons_append,bS]
  cases hy : cO y with
  | none=>rfl
  | some t =>
   rw [hy] at h
   dsimp only at h ⊢
   cases hr : bS xs with
   | none=>rw [fR hr];rfl
   | some us=>rw [hr] at h;cases h
def rr (s : abu) (v : Value) (G : Gh) : Prop:=∃ u vs,v = Tu [u,Bo (ax s).isSome] ∧ SchR G u vs ∧ vs.length ≤ 8 ∧ ∀ ts,ax s = some ts → aQ vs = ts
theorem SchR.nil : SchR G aA []:=⟨bh.nil0,by simp⟩
theorem va {s : abu} {k : Nat} (h : s.length ≤ 100000000) : ci abt 114 [S s,U8 k] G (fun v G'=>∃ b o cap,v = .slice (some ⟨b,o,none⟩) (aY k s).length cap ∧ bN G' b o (ao cr (aY k s))):=by
 refine (qZ (G:=G) (k:=k) h).mono ?_
 rintro v G' L' ⟨h1,h2,h3⟩
 obtain ⟨b,o,cap,rfl,hs⟩:=h3.expl dL
 exact ⟨h1,h2,b,o,cap,F,hs⟩
theorem pN {s : abu} (h : s.length ≤ 1000) : ci abt 115 [S s] G (fun v G'=>∃ (x : cW) (ok : Bool),v = Tu [Ag [U8 x.2.sort,S x.2.name,.slice x.1.1 x.2.fields.length x.1.2],Bo ok] ∧ (cO s = if ok = true then some x.2 else none) ∧ bh G' (iB x) 4 x.2.fields.length (ao cF x.2.fields)):=by
 refine (qY (G:=G) h).mono ?_
 rintro v G' L' ⟨h1,h2,fv,t,ok,rfl,h3,h4⟩
 obtain ⟨a,cap,rfl⟩:=h4.sl
 exact ⟨h1,h2,((a,cap),t),ok,F,h3,h4⟩
theorem xI {s : abu} (h : s.length ≤ 10000000) (hb : ¬ (s.length ≤ 400 ∧ (aY 10 s).length ≤ 9 ∧ ac (aY 10 s) ((aY 10 s).length - 1) = [])) (hno : ax s = none) : ci abt 81 [S s] G (rr s):=by
 have hpos:=dL (k:=10) (s:=s)
 have hcnt:=jl (k:=10) (s:=s)
 have cx_cutE:=va (G:=G) (s:=s) (k:=10) oM
 generalize aY 10 s = xs at *
 have e1 : (((xs.length : Nat) : Int) - 1).toNat = xs.length - 1:=oM
 refine jB [(0,_)] Tryz.func81 Tryz.ntmps81 fun B hok hB hW=>?_
 by_cases h1 : s.length ≤ 400
 case neg =>
  repeat' (first | refine jR ?_ | (refine jo ?_;first | refine aP F ?_ | (refine aM F F F cx_cutE F ?_;rintro _ G hle ⟨b1,o1,cap1,rfl,hseg⟩;skip)) | (refine aO F F (by first | rfl | (refine decide_eq_true ?_;(omega))) ?_) | refine ae F F ?_)
  all_goals refine jZ (vs:=[_,_]) F ⟨F,F,trivial⟩ F ⟨hle,F,?_⟩
  all_goals exact ⟨aA,[],by rw [hno];rfl,SchR.nil,by simp,fun ts h=>by rw [hno] at h;cases h⟩
 by_cases h2 : xs.length ≤ 9
 case neg =>
  repeat' (first | refine jR ?_ | (refine jo ?_;first | refine jV (aq F) ?_ | refine aP F ?_ | refine aH F ?_ | (refine aM F F F cx_cutE F ?_;rintro _ G hle ⟨b1,o1,cap1,rfl,hseg⟩;skip)) | refine aO F F (aC oM) ?_ | refine aD F F (aF oM) ?_ | refine ae F F ?_)
  all_goals refine jZ (vs:=[_,_]) F ⟨F,F,trivial⟩ F ⟨hle,F,?_⟩
  all_goals exact ⟨aA,[],by rw [hno];rfl,SchR.nil,by simp,fun ts h=>by rw [hno] at h;cases h⟩
 have h3 : ¬ ac xs (((xs.length : Nat) : Int) - 1).toNat = []:=by rw [e1];exact fun h=>hb ⟨h1,h2,h⟩
 clear hb
 repeat' (first | refine jM ?_ | (refine jo ?_;first | refine jV (aq F) ?_ | refine aH F ?_ | refine jV (aZ F F oM) ?_ | (refine jV (gt F F aS ?_) ?_;focus omega) | (refine aM F F F cx_cutE F ?_;rintro _ G hle ⟨b1,o1,cap1,rfl,hseg⟩;skip)) | refine aD F F (aF oM) ?_ | refine ae F (aC ‹_›) ?_)
 all_goals refine jZ (vs:=[_,_]) F ⟨F,F,trivial⟩ F ⟨hle,F,?_⟩
 all_goals exact ⟨aA,[],by rw [hno];rfl,SchR.nil,by simp,fun ts h=>by rw [hno] at h;cases h⟩
theorem xH {s : abu} (h : s.length ≤ 400) (h2 : (aY 10 s).length ≤ 9) (h3 : ac (aY 10 s) ((aY 10 s).length - 1) = []) (hsc : ax s = match bS ((aY 10 s).take ((aY 10 s).length - 1)) with
    | some ts=>if hC ts then some ts else none
    | none=>none) : ci abt 81 [S s] G (rr s):=by
  have hpos:=dL (k:=10) (s:=s)
  have hall : ∀ y ∈ aY 10 s,y.length ≤ s.length:=fun y hy=>cY hy
  have cx_cutE:=va (G:=G) (s:=s) (k:=10) oM
  generalize aY 10 s = xs at *
  have e1 : (((xs.length : Nat) : Int) - 1).toNat = xs.length - 1:=oM
  have h4 : ac xs (((xs.length : Nat) : Int) - 1).toNat = []:=by rw [e1];exact h3
  have h5 : ¬ ac xs (((xs.length : Nat) : Int) - 1).toNat ≠ []:=fun h=>h h4
  clear e1 h3 h4
  refine jB [(0,_)] Tryz.func81 Tryz.ntmps81 fun B hok hB hW=>?_
  repeat' (first | refine jM ?_ | (refine jo ?_;first | refine jV (aq F) ?_ | refine aH F ?_ | refine jV (aZ F F oM) ?_ | (refine jV (gt F F aS ?_) ?_;focus omega) | refine jF fun _=>?_ | (refine aM F F F cx_cutE F ?_;rintro _ G hle ⟨b1,o1,cap1,rfl,hseg⟩;skip)) | refine aD F F (aF oM) ?_ | refine af F (aF ‹_›) ?_)
  rename_i x0
  refine Nx.blkAcc (m:=0) (sz:=3) .here F ?_
  refine aU (ι:=Value × List cW × Nat × Gh) (fun i=>((i.2.2.1 + 1 ≤ xs.length ∧ i.2.1.length = i.2.2.1) ∧ bS (xs.take i.2.2.1) = some (aQ i.2.1)) ∧ (∀ y ∈ i.2.1,bh i.2.2.2 (iB y) 4 y.2.fields.length (ao cF y.2.fields)) ∧ Gh.le G i.2.2.2) (fun i=>[(4,.slice (some ⟨b1,o1,none⟩) xs.length cap1),(5,i.1),(6,I i.2.2.1)]) (fun i=>i.2.2.2) (fun i=>[.acc i.1 o7 3 i.2.1.length (ao iX i.2.1)]) (fun i=>xs.length - i.2.2.1) (.slice (some ⟨x0,0,none⟩) 0 0,[],0,G) ?_ tU F a6 (fun i Hi=>?_)
  · exact ⟨⟨⟨by dsimp only;omega,rfl⟩,rfl⟩,by simp,Gh.le.refl _⟩
  obtain ⟨u,vs,i,Gk⟩:=i
  dsimp only at Hi ⊢
  obtain ⟨⟨⟨hi1,hi2⟩,hty⟩,hfs,hgk⟩:=Hi
  have hsk:=hseg.mono hgk
  have hle0:=hle
  by_cases hix : i + 1 < xs.length
  case neg =>
    have ei : i = xs.length - 1:=oM
    rw [← ei,hty] at hsc
    dsimp only at hsc
    refine Nx.sealS (v:=u) fun G1 hle1 hsl=>?_
    have hS : SchR G1 u vs:=⟨hsl,fun x hx=>(hfs x hx).mono hle1⟩
    have hw : ∀ x ∈ vs,TyW x.2:=fun x hx=>(gZ hty).1 x.2 (show x.2 ∈ vs.map (fun y=>y.2) from List.mem_map_of_mem hx)
    have cx_val:=xF hS oM hw
    repeat' (first | refine jM ?_ | (refine jo ?_;first | refine jV (aq F) ?_ | refine ad F F F cx_val F ?_) | refine af F (aF oM) ?_)
    all_goals refine jZ (vs:=[_,_]) F ⟨F,F,trivial⟩ F ⟨(hle0.trans hgk).trans hle1,F,?_⟩
    all_goals refine ⟨u,vs,?_,hS,oM,fun ts h=>?_⟩
    · rw [hsc,dV]
      by_cases hv : hC (aQ vs)
      · rw [if_pos hv,decide_eq_true hv];rfl
      · rw [if_neg hv,decide_eq_false hv];rfl
    · rw [hsc] at h
      split at h
      · exact Option.some.inj h
      · cases h
  have hx2 : (ac xs i).length ≤ 1000:=by have:=hall _ (a7 (show i < xs.length by omega));omega
  have hsn:=gl (x:=ac xs i) hty
  rw [← fU oM] at hsn
  repeat' (first | refine jM ?_ | (refine jo ?_;first | refine jV (aq F) ?_ | refine jV (al F F oM) ?_ | refine aK F ?_ | (refine jV (gt F F aS ?_) ?_;focus omega) | refine jF fun _=>?_ | refine jL fun _=>?_ | refine jC F F F ?_ | refine bj F F F F F F F F F oM fun _ _=>?_ | (refine aM F F F (pN oM) F ?_;rintro _ G hle ⟨x,ok,rfl,htyp,hfl⟩;skip)) | refine ae F (aC oM) ?_ | refine qz F (fun _=>?_) (fun _=>?_))
  all_goals first
    | (rename_i hq
       have hq2 : ok = false:=by simpa using hq
       subst hq2
       have hf0 : cO (ac xs i) = none:=htyp
       have hno : ax s = none:=by
         rw [hf0] at hsn
         have e2 : xs.take (xs.length - 1) = xs.take (i + 1) ++ (xs.take (xs.length - 1)).drop (i + 1):=by
           have:=List.take_append_drop (i + 1) (xs.take (xs.length - 1))
           rw [List.take_take,Nat.min_eq_left oM] at this
           exact this.symm
         rw [hsc,e2,fR hsn]
       refine jZ (vs:=[_,_]) F ⟨F,F,trivial⟩ F ⟨(hle0.trans hgk).trans hle,F,?_⟩
       exact ⟨aA,[],by rw [hno];rfl,SchR.nil,by simp,fun ts h=>by rw [hno] at h;cases h⟩)
    | (rename_i z hq w b2 c2
       have hq2 : ok = true:=by simpa using hq
       subst hq2
       have hf1 : cO (ac xs i) = some x.2:=htyp
       rw [hf1] at hsn
       have e3 : ao iX vs ++ [U8 x.2.sort,S x.2.name,.slice x.1.1 x.2.fields.length x.1.2] = ao iX (vs ++ [x]):=(cn iX vs x).symm
       refine aT (.slice (some ⟨b2,0,none⟩) (vs.length + 1) c2,vs ++ [x],i + 1,G) ⟨⟨⟨by dsimp only;omega,by simp;omega⟩,?_⟩,?_,hgk.trans hle⟩ (by dsimp only;omega) tU rfl (by dsimp only;rw [e3];simp only [List.length_append,List.length_cons,List.length_nil,Nat.zero_add];repeat (first | exact List.nil_sublist _ | apply List.Sublist.cons_cons))
       · dsimp only;rw [hsn];simp [aQ]
       · intro y hy
         rcases List.mem_append.1 hy with hy | hy
         · exact (hfs y hy).mono hle
         · simp only [List.mem_singleton] at hy;subst hy;exact hfl)
theorem lZ {s : abu} (h : s.length ≤ 10000000) : ci abt 81 [S s] G (rr s):=by
 have hpos:=dL (k:=10) (s:=s)
 have hlast : (aY 10 s).getLastD [] = ac (aY 10 s) ((aY 10 s).length - 1):=by
  rw [ck oM,List.getLastD_eq_getLast?,List.getLast?_eq_getElem?]
  rw [List.getElem?_eq_getElem oM];rfl
 by_cases hc : s.length ≤ 400 ∧ (aY 10 s).length ≤ 9 ∧ ac (aY 10 s) ((aY 10 s).length - 1) = []
 ·refine xH hc.1 hc.2.1 hc.2.2 ?_
  unfold ax
  rw [hlast,if_pos hc,List.dropLast_eq_take]
  (rfl)
 ·refine xI h hc ?_
  unfold ax
  rw [hlast,if_neg hc]
def a9 (s k : abu) : Bool:=match ax s with
 | some ts=>aJ ts k
 | none=>false
theorem mO {s : abu} (h : s.length ≤ 10000000) : aI abt 69 [S s] G (· = Bo (ax s).isSome):=by
 refine jB (Post:=fun v G' L'=>G' = G ∧ L' = [] ∧ _) [(0,_)] Tryz.func69 Tryz.ntmps69 fun B hok hB hW=>?_
 repeat' (first | refine jR ?_ | (refine jo ?_;(refine aM F F F (lZ oM) F ?_;rintro _ G hle ⟨u,vs,rfl,hsch,hvl,hvs⟩;skip)))
 refine Nx.base hok hB ?_
 refine jY (vs:=[_]) ?_
 rfl
def wl (s k : abu) (v : Value) (G : Gh) : Prop:=∃ u vs,v = Tu [u,Bo (a9 s k)] ∧ SchR G u vs ∧ vs.length ≤ 8 ∧ ∀ ts,ax s = some ts → aJ ts k = true → aQ vs = ts
theorem iS {s k : abu} (h : s.length ≤ 10000000) (hk : k.length ≤ 10000000) : ci abt 62 [S s,S k] G (wl s k):=by
  cases hs : ax s with
  | none =>
    have hno : a9 s k = false:=by unfold a9;rw [hs]
    have e1 : (!(ax s).isSome) = true:=by rw [hs];rfl
    refine jB [(0,_),(1,_)] Tryz.func62 Tryz.ntmps62 fun B hok hB hW=>?_
    repeat' (first | refine jR ?_ | (refine jo ?_;first | refine aP F ?_ | (refine aM F F F (lZ oM) F ?_;rintro _ G hle ⟨u,vs,rfl,hsch,hvl,hvs⟩;skip)) | refine aO F F ‹_› ?_ | refine ae F F ?_)
    all_goals refine jZ (vs:=[_,_]) F ⟨F,F,trivial⟩ F ⟨hle,F,?_⟩
    all_goals exact ⟨aA,[],by rw [hno];rfl,SchR.nil,by simp,fun ts h=>by rw [hs] at h;cases h⟩
  | some ts =>
    have e1 : (!(ax s).isSome) = false:=by rw [hs];rfl
    by_cases hko : bn k = true
    case neg =>
      have hno : a9 s k = false:=by unfold a9 aJ;rw [hs];simp [hko]
      have e2 : (!bn k) = true:=by simpa using hko
      refine jB [(0,_),(1,_)] Tryz.func62 Tryz.ntmps62 fun B hok hB hW=>?_
      repeat' (first | refine jR ?_ | (refine jo ?_;first | refine aH F ?_ | (refine aM F F F (lZ oM) F ?_;rintro _ G hle ⟨u,vs,rfl,hsch,hvl,hvs⟩;skip) | refine ad F F F l5 F ?_) | refine aD F F ‹_› ?_ | refine ae F ‹_› ?_)
      all_goals refine jZ (vs:=[_,_]) F ⟨F,F,trivial⟩ F ⟨hle,F,?_⟩
      all_goals exact ⟨aA,[],by rw [hno];rfl,SchR.nil,by simp,fun ts h1 h2=>by unfold aJ at h2;simp [hko] at h2⟩
    have e2 : (!bn k) = false:=by rw [hko];rfl
    have hkk:=dy hko
    have hkk1:=hkk.1
    have hcl:=gf k
    have cx_rf2 : ∀ G,aI abt 100 [S (aG k)] G (· = Tu [S ((bc (aG k)).getD []),Bo (bc (aG k)).isSome]):=fun G=>k8 (gM hkk1) oM
    refine jB [(0,_),(1,_)] Tryz.func62 Tryz.ntmps62 fun B hok hB hW=>?_
    repeat' (first | refine jR ?_ | (refine jo ?_;first | refine aP F ?_ | refine aH F ?_ | refine jL fun _=>?_ | refine jC F F F ?_ | (refine aM F F F (lZ oM) F ?_;rintro _ G hle ⟨u,vs,rfl,hsch,hvl,hvs⟩;skip) | refine ad F F F l5 F ?_ | (refine ad F F F (fY (by (repeat (assumption));done)) rfl ?_) | refine ad F F F (cx_rf2 _) F ?_ | (refine ad F F F (rc (by (repeat (assumption));done) oM) rfl ?_)) | refine aD F F ‹_› ?_ | refine kN F F (fun _=>?_) (fun _=>?_) | refine af F ‹_› ?_)
    all_goals rename_i hq
    all_goals refine jZ (vs:=[_,_]) F ⟨F,F,trivial⟩ F ⟨hle,F,?_⟩
    all_goals have hks : a9 s k = (!(bc (aG k)).isSome || (eW vs ((bc (aG k)).getD [])).isSome) := by
                unfold a9 aJ
                rw [hs]
                dsimp only
                rw [hko,Bool.true_and,← hvs ts hs,pj]
    all_goals exact ⟨u,vs,by rw [hks,hq];rfl,hsch,hvl,fun ts' h1 _=>hvs ts' h1⟩
abbrev b8:=Nat × Ty
def rV (q : b8) : List Value:=[Pt q.1 0]
instance : RowF rV 1:=⟨fun _=>rfl⟩
def fQ (qs : List b8) : List (abu × Value):=qs.map fun q=>(q.2.name,Pt q.1 0)
def ag (qs : List b8) : List Ty:=qs.map (·.2)
def dU (qs : List b8) (n : abu) : Option b8:=qs.find? fun q=>decide (n = q.2.name)
theorem d4 (qs : List b8) (n : abu) : kl (fQ qs) n = (dU qs n).map fun q=>Pt q.1 0:=by
 unfold kl fQ dU
 induction qs with
 | nil=>rfl
 | cons q qs ih =>
  simp only [List.map_cons,List.find?_cons]
  by_cases h : n = q.2.name
  ·simp [h]
  ·simp only [h,decide_false];exact ih
theorem fq (qs : List b8) (n : abu) : (dU qs n).map (·.2) = dK (ag qs) n:=by
 unfold dU dK ag
 induction qs with
 | nil=>rfl
 | cons q qs ih =>
  simp only [List.map_cons,List.find?_cons]
  by_cases h : n = q.2.name
  ·simp [h]
  ·have h2 : ¬ q.2.name = n:=fun e=>h e.symm
   simp only [h,h2,decide_false];exact ih
theorem fu {qs : List b8} {n : abu} {q : b8} (h : dU qs n = some q) : q ∈ qs:=List.mem_of_find?_eq_some h
structure ScI (G : Gh) (b : Nat) (qs : List b8) : Prop where
 at' : ∃ u m,bN G b 0 [u,.map (some m)] ∧ bh G u 1 qs.length (ao rV qs) ∧ G m = some (.ex (em (fQ qs)))
 ty : ∀ q ∈ qs,hD G q.1 q.2
theorem ScI.mono {G G' : Gh} {b : Nat} {qs : List b8} (h : ScI G b qs) (hl : Gh.le G G') : ScI G' b qs:=by
 obtain ⟨u,m,h1,h2,h3⟩:=h.at'
 exact ⟨⟨u,m,h1.mono hl,h2.mono hl,hl _ _ h3⟩,fun q hq=>(h.ty q hq).mono hl⟩
theorem gB {k : abu} (h : bn k = true) : bs k = [64] ↔ (bc (aG k)).isSome = true:=by
 have hk:=gM (dy h).1
 unfold bs
 cases hc : aG k with
 | nil=>rw [hc] at hk;cases hk
 | cons c r =>
  unfold mR bc
  by_cases h64 : c.toNat = 64
  ·simp [h64]
  ·simp only [h64,if_false]
   constructor
   ·intro e;simp only [List.cons.injEq] at e;exact absurd (by rw [e.1];rfl) h64
   ·intro e;cases e
theorem tO {b : Nat} {qs : List b8} {k : abu} (h : ScI G b qs) (hk : bn k = true) : aI abt 89 [Pt b 0,Ag [S (sg k),S (bs k),S (nm k)]] G (· = Bo (d7 (ag qs) k)):=by
 obtain ⟨u,m,h1,h2,h3⟩:=h.at'
 have hat:=gB hk
 rcases hr : bc (aG k) with _ | n
 ·have hb : ¬ bs k = [64]:=by rw [hat,hr];simp
  have e : d7 (ag qs) k = true:=by unfold d7;rw [hr]
  clear hat hr
  rw [e]
  refine jE [(0,_),(1,_)] Tryz.func89 Tryz.ntmps89 fun B hB=>?_
  repeat' (first | refine jR ?_ | (refine jo ?_;refine jO fun _=>?_) | (refine ak (ar (id:=1) _ (fun _ h=>h) aj ?_);refine jT 13 [0] (aa 14 1) ?_;(refine jG (aa 14 3) 1 F (an F F F) ?_);refine jT 10 [2,3] (aa 14 15) ?_;(try (refine Nx.re (d:=8) (v':=Bo true) F (congrArg Value.bool (aC ‹_›)) ?_));refine jT 6 [4,5,6,8] (aa 14 383) ?_;(refine jN (aa 14 511) 7 F ?_);(refine jN (aa 14 1023) 9 F ?_);(refine jN (aa 14 2047) 10 F ?_);(refine jN (aa 14 4095) 11 F ?_);(refine jG (aa 14 8191) 12 F (bU F F F) ?_);refine jT 0 [13] (aa 14 16383) ?_;refine jQ ?_))
  all_goals refine jY (vs:=[_]) ?_
  all_goals rfl
 ·have hb : ¬ (bs k ≠ [64]):=fun h=>h (by rw [hat,hr];rfl)
  have hn : nm k = n:=by unfold nm;rw [hr];rfl
  have e : d7 (ag qs) k = (dU qs (nm k)).isSome:=by unfold d7;rw [hr,hn];dsimp only;rw [← fq];simp
  rw [e]
  clear hat hr hn e
  have hkv:=d4 qs (nm k)
  cases hf : dU qs (nm k) with
  | none =>
   rw [hf] at hkv
   dsimp only [Option.map_none] at hkv
   refine jE [(0,_),(1,_)] Tryz.func89 Tryz.ntmps89 fun B hB=>?_
   repeat' (first | refine jR ?_ | (refine jo ?_;refine jO fun _=>?_) | (refine ak (ar (id:=1) _ (fun _ h=>h) aj ?_);refine jT 13 [0] (aa 14 1) ?_;(refine jG (aa 14 3) 1 F (an F F F) ?_);refine jT 10 [2,3] (aa 14 15) ?_;(try (refine Nx.re (d:=8) (v':=Bo false) F (congrArg Value.bool (aF ‹_›)) ?_));refine jT 6 [4,5,6,8] (aa 14 383) ?_;(refine jG (aa 14 511) 7 F (ay F F aS F F) ?_);(refine jG (aa 14 1023) 9 F (an F F F) ?_);((refine jG (aa 14 2047) 10 F (bG F F (c9 aS) aS F) ?_));(refine jG (aa 14 4095) 11 F (d5 F F) ?_);(refine jG (aa 14 8191) 12 F (aW F F F) ?_);refine jT 0 [13] (aa 14 16383) ?_;refine jQ ?_))
   all_goals refine jY (vs:=[_]) ?_
   all_goals rfl
  | some q =>
   rw [hf] at hkv
   dsimp only [Option.map_some] at hkv
   refine jE [(0,_),(1,_)] Tryz.func89 Tryz.ntmps89 fun B hB=>?_
   repeat' (first | refine jR ?_ | (refine jo ?_;refine jO fun _=>?_) | (refine ak (ar (id:=1) _ (fun _ h=>h) aj ?_);refine jT 13 [0] (aa 14 1) ?_;(refine jG (aa 14 3) 1 F (an F F F) ?_);refine jT 10 [2,3] (aa 14 15) ?_;(try (refine Nx.re (d:=8) (v':=Bo false) F (congrArg Value.bool (aF ‹_›)) ?_));refine jT 6 [4,5,6,8] (aa 14 383) ?_;(refine jG (aa 14 511) 7 F (ay F F aS F F) ?_);(refine jG (aa 14 1023) 9 F (an F F F) ?_);((refine jG (aa 14 2047) 10 F (bG F F (c9 aS) aS F) ?_));(refine jG (aa 14 4095) 11 F (d5 F F) ?_);(refine jG (aa 14 8191) 12 F (aW F F F) ?_);refine jT 0 [13] (aa 14 16383) ?_;refine jQ ?_))
   all_goals refine jY (vs:=[_]) ?_
   all_goals rfl
theorem w7 {k : abu} (h : bn k = true) : bc k = if sg k = [] ∧ bs k = [64] then some (nm k) else none:=by
 have hat:=gB h
 match k,h with
 | c :: r,h =>
  by_cases h1 : c.toNat = 91 ∨ c.toNat = 63
  ·have hs : ¬ (sg (c :: r) = [] ∧ bs (c :: r) = [64]):=by
    rintro ⟨e,_⟩
    unfold sg at e
    rw [aG,if_pos h1] at e
    have:=k3 r
    have e2:=congrArg List.length e
    simp only [List.length_take,List.length_cons,List.length_nil] at e2
    omega
   rw [if_neg hs]
   simp only [bc]
   rw [if_neg oM]
  ·have hc : aG (c :: r) = c :: r:=by rw [aG,if_neg h1]
   have hs : sg (c :: r) = []:=by unfold sg;rw [hc];simp
   have hn : nm (c :: r) = (bc (c :: r)).getD []:=by unfold nm;rw [hc]
   rw [hc] at hat
   rw [hn,hs]
   cases hr : bc (c :: r) with
   | none=>rw [hr] at hat;rw [if_neg];rintro ⟨_,e⟩;have:=hat.1 e;cases this
   | some n=>rw [hr] at hat;rw [if_pos ⟨rfl,hat.2 rfl⟩];rfl
theorem xN {b : Nat} {qs : List b8} {q0 : b8} (h : ScI G b qs) (hw : ∀ q ∈ qs,TyW q.2) (hk : ∀ q ∈ qs,gP (ag qs) q.2) (hq : q0 ∈ qs) :
  aI abt 122 [Pt b 0,Pt q0.1 0] G (· = Bo (bJ (ag qs) 9 q0.2)):=by
 obtain ⟨u,m,h1,h2,h3⟩:=h.at'
 refine jE [(0,_),(1,_)] Tryz.func122 Tryz.ntmps122 fun B hB=>?_
 repeat' (refine jR ?_)
 refine aU (ι:=b8 × Nat) (fun i=>i.1 ∈ qs ∧ i.2 ≤ 9 ∧ bJ (ag qs) (9 - i.2) i.1.2 = bJ (ag qs) 9 q0.2) (fun i=>[(0,Pt b 0),(1,Pt i.1.1 0),(6,I i.2)]) (fun _=>G) (fun i=>[]) (fun i=>9 - i.2) (q0,0) ?_ tU F a6 (fun i Hi=>?_)
 ·exact ⟨hq,Nat.zero_le _,F⟩
 obtain ⟨⟨p,t⟩,i⟩:=i
 dsimp only at Hi ⊢
 obtain ⟨hqm,hi9,he⟩:=Hi
 have hW:=hw _ hqm
 obtain ⟨fv,ln,hsg,hfv⟩:=h.ty _ hqm
 dsimp only at hW hsg hfv
 by_cases hlt : i < 9
 case neg =>
  have e0 : 9 - i = 0:=oM
  rw [e0] at he
  repeat' (first | refine jR ?_ | refine af F (aF oM) ?_)
  refine jY (vs:=[_]) ?_
  rw [← he];rfl
 obtain ⟨j,hj⟩ : ∃ j,9 - i = j + 1:=⟨8 - i,oM⟩
 rw [hj,bJ] at he
 by_cases hU : t.sort = 85
 case neg =>
  rw [if_pos hU] at he
  repeat' (first | refine jR ?_ | (refine jo ?_;refine jV (ay F F aS F F) ?_) | refine ae F (aC oM) ?_)
  refine jY (vs:=[_]) ?_
  rw [← he];rfl
 rw [if_neg (by simp [hU])] at he
 have hne:=hW.ne oM
 have h0 : 0 < t.fields.length:=List.length_pos_iff.2 hne
 obtain ⟨bf,of,cf,rfl,hsf⟩:=hfv.expl h0
 have hk0 : eV t = (ac t.fields 0).kind:=by
  unfold eV ac
  cases t.fields with
  | nil=>rfl
  | cons f r=>rfl
 have hko:=(hW.fld _ (a7 h0)).kind oM
 have hrs:=w7 hko
 have hhas : d7 (ag qs) (ac t.fields 0).kind = true:=by
  rcases hk _ hqm with h5 | h5
  ·dsimp only at h5;omega
  ·exact h5 0 h0
 rw [hk0] at he
 by_cases hs1 : sg (ac t.fields 0).kind = []
 case neg =>
  rw [if_neg fun h=>hs1 h.1] at hrs
  unfold aL at he
  rw [hrs] at he
  repeat' (first | refine jR ?_ | (refine jo ?_;first | refine ah F ?_ | refine jV (ay F F aS F F) ?_ | (refine jV (du F F aS ?_ F F) ?_;focus omega) | refine jV (al F F oM) ?_ | refine jL fun _=>?_ | refine jC F F F ?_ | refine aP F ?_) | refine aO F F (aC ‹_›) ?_ | (refine ae F (by first | rfl | (refine decide_eq_true ?_;(omega))) ?_) | refine af F (aF oM) ?_)
  all_goals refine jY (vs:=[_]) ?_
  all_goals (rw [← he];rfl)
 by_cases hs2 : bs (ac t.fields 0).kind = [64]
 case neg =>
  rw [if_neg fun h=>hs2 h.2] at hrs
  unfold aL at he
  rw [hrs] at he
  repeat' (first | refine jR ?_ | (refine jo ?_;first | refine ah F ?_ | refine jV (ay F F aS F F) ?_ | (refine jV (du F F aS ?_ F F) ?_;focus omega) | refine jV (al F F oM) ?_ | refine jL fun _=>?_ | refine jC F F F ?_ | refine aH F ?_) | (refine aD F F ?_ ?_;(focus ((simp [*];done);done))) | (refine ae F (by refine decide_eq_true ?_;first | assumption | omega) ?_) | refine af F (aF oM) ?_)
  all_goals refine jY (vs:=[_]) ?_
  all_goals (rw [← he];rfl)
 rw [if_pos ⟨hs1,hs2⟩] at hrs
 unfold aL at he
 rw [hrs,Option.bind_some,← fq] at he
 have hkv:=d4 qs (nm (ac t.fields 0).kind)
 have hr2 : bc (aG (ac t.fields 0).kind) = some (nm (ac t.fields 0).kind):=by
  have:=(gB hko).1 hs2
  unfold nm
  cases hx : bc (aG (ac t.fields 0).kind) with
  | none=>rw [hx] at this;cases this
  | some n=>rfl
 unfold d7 at hhas
 rw [hr2] at hhas
 dsimp only at hhas
 rw [← fq] at hhas
 cases hf : dU qs (nm (ac t.fields 0).kind) with
 | none=>rw [hf] at hhas;cases hhas
 | some q =>
  rw [hf] at hkv he
  dsimp only [Option.map_some] at hkv he
  have hb1 : ¬ sg (ac t.fields 0).kind ≠ []:=fun h=>h hs1
  have hb2 : ¬ bs (ac t.fields 0).kind ≠ [64]:=fun h=>h hs2
  clear hs1 hs2 hrs hr2
  repeat' (first | refine jM ?_ | (refine jo ?_;first | refine ah F ?_ | refine jV (ay F F aS F F) ?_ | (refine jV (du F F aS ?_ F F) ?_;focus omega) | refine jV (al F F oM) ?_ | refine jL fun _=>?_ | refine jC F F F ?_ | refine aH F ?_) | refine aD F F (aF ‹_›) ?_ | refine ae F (aC oM) ?_ | (refine af F (by refine decide_eq_false ?_;first | assumption | omega) ?_) | (refine ak (ar (id:=8) _ (fun _ h=>h) aj ?_);refine jT 4 [0,1,2,4] (aa 8 23) ?_;(refine jG (aa 8 31) 3 F (ay F F aS F F) ?_);(refine jG (aa 8 63) 5 F (an F F F) ?_);((refine jG (aa 8 127) 6 F (bG F F (c9 aS) aS F) ?_));refine jT 0 [7] (aa 8 255) ?_;refine jQ ?_))
  refine aT (q,i + 1) ⟨fu hf,by dsimp only;omega,?_⟩ (by dsimp only;omega) tU rfl (by repeat (exact List.nil_sublist _))
  dsimp only
  rw [show 9 - (i + 1) = j by omega]
  exact he
structure Rdg (s : abu) (ls : List abu) (ts : List Ty) (t : abu) : Prop where
 cutE : aY 10 s = ls ++ aY 10 t
 tyE : bS ls = some ts
theorem Rdg.start (s : abu) : Rdg s [] [] s:=⟨rfl,rfl⟩
theorem Rdg.len {s : abu} {ls : List abu} {ts : List Ty} {t : abu} (h : Rdg s ls ts t) : ts.length = ls.length:=(gZ h.tyE).2
theorem kX {t line rest : abu} (h : aB 10 t = (line,rest,true)) : aY 10 t = line :: aY 10 rest:=by rw [kY,h];rfl
theorem Rdg.step {s : abu} {ls : List abu} {ts : List Ty} {t line rest : abu} {x : Ty} (h : Rdg s ls ts t) (hc : aB 10 t = (line,rest,true)) (hx : cO line = some x) : Rdg s (ls ++ [line]) (ts ++ [x]) rest :=
 ⟨by rw [h.cutE,kX hc];simp,by rw [gl h.tyE,hx];rfl⟩
theorem Rdg.fin {s : abu} {ls : List abu} {ts : List Ty} (h : Rdg s ls ts []) (hl : s.length ≤ 400) (h8 : ts.length ≤ 8) : ax s = if hC ts then some ts else none:=by
 have hlen:=h.len
 have e : aY 10 s = ls ++ [[]]:=h.cutE
 unfold ax
 rw [e,if_pos ⟨hl,by simp;omega,by simp⟩,List.dropLast_concat,h.tyE]
theorem sZ {s : abu} (h : ¬ s.length ≤ 400) : ax s = none:=by
 unfold ax
 exact if_neg fun h2=>h h2.1
theorem Rdg.noend {s : abu} {ls : List abu} {ts : List Ty} {t : abu} (h : Rdg s ls ts t) (ht : t ≠ []) (hc : (aB 10 t).2.2 = false) : ax s = none:=by
 have e : aY 10 s = ls ++ [t]:=by rw [h.cutE,kY,hc];rfl
 unfold ax
 rw [e,if_neg]
 rintro ⟨_,_,h3⟩
 simp at h3
 exact ht h3
theorem Rdg.many {s : abu} {ls : List abu} {ts : List Ty} {t line rest : abu} (h : Rdg s ls ts t) (hc : aB 10 t = (line,rest,true)) (h8 : ts.length = 8) : ax s = none:=by
 have hlen:=h.len
 have hp:=dL (k:=10) (s:=rest)
 unfold ax
 rw [h.cutE,kX hc,if_neg]
 rintro ⟨_,h3,_⟩
 simp at h3
 omega
theorem py {ls : List abu} {line rest : abu} : (ls ++ line :: aY 10 rest).dropLast = (ls ++ [line]) ++ (aY 10 rest).dropLast:=by
 have hp:=dL (k:=10) (s:=rest)
 have hne : aY 10 rest ≠ []:=fun e=>by rw [e] at hp;simp at hp
 rw [List.dropLast_append_of_ne_nil (by simp),List.dropLast_cons_of_ne_nil hne];simp
theorem Rdg.bad {s : abu} {ls : List abu} {ts : List Ty} {t line rest : abu} (h : Rdg s ls ts t) (hc : aB 10 t = (line,rest,true)) (hx : cO line = none) : ax s = none:=by
 have hn : bS (ls ++ [line]) = none:=by rw [gl h.tyE,hx];rfl
 unfold ax
 split
 ·rw [h.cutE,kX hc,py,fR hn]
 ·rfl
theorem mw : ∀ {xs ys : List abu} {ts us : List Ty},bS xs = some ts → bS (xs ++ ys) = some us → ∃ vs,us = ts ++ vs
 | [],ys,ts,us,h,h2=>by simp only [bS,Option.some.injEq] at h;subst h;exact ⟨us,F⟩
 | x :: xs,ys,ts,us,h,h2=>by
  unfold bS at h
  rw [List.cons_append,bS] at h2
  cases hx : cO x with
  | none=>rw [hx] at h;cases h
  | some t =>
   rw [hx] at h h2
   dsimp only at h h2
   cases hr : bS xs with
   | none=>rw [hr] at h;cases h
   | some ws =>
    rw [hr] at h
    simp only [Option.map_some,Option.some.injEq] at h;subst h
    cases hq : bS (xs ++ ys) with
    | none=>rw [hq] at h2;cases h2
    | some zs =>
     rw [hq] at h2
     simp only [Option.map_some,Option.some.injEq] at h2;subst h2
     obtain ⟨vs,rfl⟩:=mw hr hq
     exact ⟨vs,F⟩
theorem it {α : Type} [Inhabited α] {xs ys : List α} {i : Nat} (h : i < xs.length) : ac (xs ++ ys) i = ac xs i:=by
 rw [ck h,ck (by simp;omega),List.getElem_append_left h]
theorem Rdg.dup {s : abu} {ls : List abu} {ts : List Ty} {t line rest : abu} {x : Ty} (h : Rdg s ls ts t) (hc : aB 10 t = (line,rest,true)) (hx : cO line = some x) (i : Nat) (hi : i < ts.length) (hd : (ac ts i).name = x.name) : ax s = none:=by
 have h2:=h.step hc hx
 unfold ax
 split
 ·rw [h.cutE,kX hc,py]
  cases hr : bS (ls ++ [line] ++ (aY 10 rest).dropLast) with
  | none=>rfl
  | some us =>
   obtain ⟨vs,rfl⟩:=mw h2.tyE hr
   dsimp only
   rw [if_neg]
   intro hv
   have h3:=(hv.1 ts.length (by simp)).1 i hi
   have e1 : ac (ts ++ [x] ++ vs) i = ac ts i:=by rw [it (by simp;omega),it hi]
   have e2 : ac (ts ++ [x] ++ vs) ts.length = x:=by rw [it (by simp),ck (by simp)];simp
   rw [e1,e2] at h3
   exact h3 hd
 ·rfl
abbrev tPT : TypeId:=125
abbrev tSc : TypeId:=129
def zG (s : abu) (v : Value) (G : Gh) : Prop:=(ax s = none ∧ ∃ p,v = Tu [p,Bo false]) ∨ ∃ b qs,v = Tu [Pt b 0,Bo true] ∧ ax s = some (ag qs) ∧ ScI G b qs
theorem eQ (qs : List b8) : (ag qs).length = qs.length:=by simp [ag]
theorem ki {qs : List b8} {i : Nat} (h : i < qs.length) : ac (ag qs) i = (ac qs i).2:=by
 rw [ck h,ck (by rw [eQ];exact h)];simp [ag]
theorem tB {qs : List b8} {n : abu} {q : b8} (h : dU qs n = some q) : ∃ i,i < (ag qs).length ∧ (ac (ag qs) i).name = n:=by
 have h1:=fu h
 have h2 : n = q.2.name:=by unfold dU at h;simpa using List.find?_some h
 obtain ⟨i,hi,rfl⟩:=iu h1
 exact ⟨i,by rw [eQ];exact hi,by rw [ki hi,h2]⟩
theorem tC {qs : List b8} {n : abu} (h : dU qs n = none) : ∀ i,i < qs.length → (ac (ag qs) i).name ≠ n:=by
 intro i hi e
 unfold dU at h
 rw [List.find?_eq_none] at h
 have:=h _ (a7 hi)
 rw [ki hi] at e
 simp [e] at this
theorem gv {s : abu} (h : s.length ≤ 10000000) : ci abt 87 [S s] G (zG s):=by
 by_cases hl : s.length ≤ 400
 case neg =>
  have hno:=sZ hl
  refine jB [(0,_)] Tryz.func87 Tryz.ntmps87 fun B hok hB hW=>?_
  repeat' (first | refine jR ?_ | refine ae F (aC oM) ?_)
  all_goals refine jZ (vs:=[_,_]) F ⟨F,F,trivial⟩ F ⟨Gh.le.refl _,F,?_⟩
  all_goals exact .inl ⟨hno,_,F⟩
 refine jB [(0,_)] Tryz.func87 Tryz.ntmps87 fun B hok hB hW=>?_
 repeat' (first | refine jR ?_ | (refine jo ?_;first | refine wQ F fun _=>?_ | refine jV (am F F) ?_ | refine jO fun _=>?_) | refine af F (aF oM) ?_)
 rename_i m x
 refine Nx.addNil tPT 1 ?_
 refine aU (ι:=Value × List b8 × List abu × abu × Gh) (fun i=>Rdg s i.2.2.1 (ag i.2.1) i.2.2.2.1 ∧ (i.2.1.length ≤ 8 ∧ i.2.2.2.1.length ≤ s.length) ∧ (∀ a,a < i.2.1.length → kw (ag i.2.1) a) ∧ (∀ q ∈ i.2.1,hD i.2.2.2.2 q.1 q.2) ∧ Gh.le G i.2.2.2.2) (fun i=>[(0,S i.2.2.2.1),(4,Pt x 0)]) (fun i=>i.2.2.2.2) (fun i=>[.acc i.1 tPT 1 i.2.1.length (ao rV i.2.1),.blk x (.cells [i.1,.map (some m)].toArray tSc (0,0)),.blk m (em (fQ i.2.1))]) (fun i=>i.2.2.2.1.length) (aA,[],[],s,G) ?_ tU F a6 (fun i Hi=>?_)
 ·exact ⟨Rdg.start s,⟨by simp,Nat.le_refl _⟩,fun a ha=>absurd ha (by simp),by simp,Gh.le.refl _⟩
 obtain ⟨u,qs,ls,t,Gk⟩:=i
 dsimp only at Hi ⊢
 obtain ⟨hR,⟨h8,htl⟩,hna,hti,hgk⟩:=Hi
 refine Nx.shp (v:=u) (.head _) fun hsh=>?_
 have hsh2:=hsh
 obtain ⟨au,cu,rfl⟩:=hsh.sl
 by_cases ht : t = []
 case neg =>
  have cx_cut : ∀ G,aI abt 120 [S t,S [10]] G (· = Tu [S (aB 10 t).1,S (aB 10 t).2.1,Bo (aB 10 t).2.2]):=fun G=>ot (c:=10) oM
  have hcl:=iM (k:=10) (s:=t)
  cases hc : (aB 10 t).2.2 with
  | false =>
   have hno:=hR.noend ht hc
   have hc2 : (!(aB 10 t).2.2) = true:=by rw [hc];rfl
   repeat' (first | refine jR ?_ | (refine jo ?_;first | refine aP F ?_ | refine ad F F F (cx_cut _) F ?_) | refine aO F F ‹_› ?_ | (refine ae F (by first | rfl | (refine decide_eq_true ?_;(assumption))) ?_))
   all_goals refine jZ (vs:=[_,_]) F ⟨F,F,trivial⟩ F ⟨hgk,F,?_⟩
   all_goals exact .inl ⟨hno,_,F⟩
  | true =>
   have hce : aB 10 t = ((aB 10 t).1,(aB 10 t).2.1,true):=by rw [← hc]
   have hlt : (aB 10 t).2.1.length < t.length:=by
    obtain ⟨d,_,e⟩:=ge hce
    have:=congrArg List.length e
    simp at this;omega
   rw [hc] at cx_cut
   generalize (aB 10 t).1 = line at *
   generalize (aB 10 t).2.1 = rest at *
   clear hc
   by_cases h9 : qs.length = 8
   ·have hno:=hR.many hce (by rw [eQ];exact h9)
    repeat' (first | refine jR ?_ | (refine jo ?_;first | refine ah F ?_ | refine jV (aq F) ?_ | refine aH F ?_ | refine ad F F F (cx_cut _) F ?_) | refine aD F F F ?_ | (refine ae F (by refine decide_eq_true ?_;first | assumption | omega) ?_))
    all_goals refine jZ (vs:=[_,_]) F ⟨F,F,trivial⟩ F ⟨hgk,F,?_⟩
    all_goals exact .inl ⟨hno,_,F⟩
   have hle1 : line.length ≤ 1000:=oM
   cases hty : cO line with
   | none =>
    have hno:=hR.bad hce hty
    have cx_rt0 : ∀ G,ci abt 121 [S line] G (fun v _=>∃ p,v = Tu [p,Bo false]):=fun G=>by
     refine (og (G:=G) hle1).mono ?_
     rintro v G' L' ⟨h1,h2,⟨_,p,rfl⟩ | ⟨_,_,_,h4,_⟩⟩
     ·exact ⟨h1,h2,p,F⟩
     ·rw [hty] at h4;cases h4
    repeat' (first | refine jR ?_ | (refine jo ?_;first | refine ah F ?_ | refine jV (aq F) ?_ | refine aH F ?_ | refine ad F F F (cx_cut _) F ?_ | (refine aM F F F (cx_rt0 _) F ?_;rintro _ G hle ⟨p,rfl⟩;skip)) | refine aD F F F ?_ | (refine ae F (by first | rfl | (refine decide_eq_true ?_;(assumption))) ?_) | refine af F (aF oM) ?_ | (refine ak (ar (id:=9) _ (fun _ h=>h) aj ?_);refine jT 11 [0,1,2] (aa 14 7) ?_;(try (refine Nx.re (d:=47) (v':=Bo true) F (congrArg Value.bool F) ?_));refine jT 5 [3,4,5,7,8,9] (aa 14 959) ?_;(refine jN (aa 14 1023) 6 F ?_);(refine jN (aa 14 2047) 10 F ?_);(refine jN (aa 14 4095) 11 F ?_);(refine jN (aa 14 8191) 12 F ?_);(refine jG (aa 14 16383) 13 F (bU F F F) ?_);refine jQ ?_))
    all_goals refine jZ (vs:=[_,_]) F ⟨F,F,trivial⟩ F ⟨hgk.trans hle,F,?_⟩
    all_goals exact .inl ⟨hno,_,F⟩
   | some ty =>
   have cx_rt1 : ∀ G,ci abt 121 [S line] G (fun v G'=>∃ b fv ln,v = Tu [Pt b 0,Bo true] ∧ bN G' b 0 [U8 ty.sort,S ty.name,fv,S ln] ∧ bh G' fv 6 ty.fields.length (ao iK ty.fields)):=fun G=>by
    refine (og (G:=G) hle1).mono ?_
    rintro v G' L' ⟨h1,h2,⟨h4,_⟩ | ⟨b,t2,rfl,h4,fv,ln,h5,h6⟩⟩
    ·rw [hty] at h4;cases h4
    ·rw [hty] at h4;simp only [Option.some.injEq] at h4;subst h4
     exact ⟨h1,h2,b,fv,ln,F,h5,h6⟩
   have hkv:=d4 qs ty.name
   cases hf : dU qs ty.name with
   | some q =>
    rw [hf] at hkv
    dsimp only [Option.map_some] at hkv
    obtain ⟨i,hi,hn⟩:=tB hf
    have hno:=hR.dup hce hty i hi hn
    repeat' (first | refine jR ?_ | (refine jo ?_;first | refine ah F ?_ | refine jV (aq F) ?_ | refine aH F ?_ | refine ad F F F (cx_cut _) F ?_ | (refine aM F F F (cx_rt1 _) F ?_;rintro _ G hle ⟨b,fv,ln,rfl,hsg,hfv⟩;skip)) | refine aD F F F ?_ | (refine ae F (by first | rfl | (refine decide_eq_true ?_;(assumption))) ?_) | refine af F (aF oM) ?_ | (refine ak (ar (id:=9) _ (fun _ h=>h) aj ?_);refine jT 11 [0,1,2] (aa 14 7) ?_;(try (refine Nx.re (d:=47) (v':=Bo false) F (congrArg Value.bool F) ?_));refine jT 5 [3,4,5,7,8,9] (aa 14 959) ?_;(refine jG (aa 14 1023) 6 F (an F F F) ?_);(refine jG (aa 14 2047) 10 F (ay F F aS F F) ?_);(refine jG (aa 14 4095) 11 F (bG F F (rY MapI.mem) aS F) ?_);(refine jG (aa 14 8191) 12 F (d5 F F) ?_);(refine jG (aa 14 16383) 13 F (aW F F F) ?_);refine jQ ?_))
    all_goals refine jZ (vs:=[_,_]) F ⟨F,F,trivial⟩ F ⟨hgk.trans hle,F,?_⟩
    all_goals exact .inl ⟨hno,_,F⟩
   | none =>
    rw [hf] at hkv
    dsimp only [Option.map_none] at hkv
    repeat' (first | refine jR ?_ | (refine jo ?_;first | refine ah F ?_ | refine jV (aq F) ?_ | refine aH F ?_ | refine ad F F F (cx_cut _) F ?_ | (refine aM F F F (cx_rt1 _) F ?_;rintro _ G hle ⟨b,fv,ln,rfl,hsg,hfv⟩;skip)) | refine aD F F F ?_ | refine ae F (aC ‹_›) ?_ | refine af F (aF oM) ?_)
    (refine ak (ar (id:=9) _ (fun _ h=>h) aj ?_);refine jT 11 [0,1,2] (aa 14 7) ?_;(try (refine Nx.re (d:=47) (v':=Bo false) F (congrArg Value.bool F) ?_));refine jT 5 [3,4,5,7,8,9] (aa 14 959) ?_;(refine jG (aa 14 1023) 6 F (an F F F) ?_);(refine jG (aa 14 2047) 10 F (ay F F aS F F) ?_);(refine jG (aa 14 4095) 11 F (bG F F (rY MapI.mem) aS F) ?_);(refine jG (aa 14 8191) 12 F (d5 F F) ?_);(refine jG (aa 14 16383) 13 F (aW F F F) ?_);refine jQ ?_)
    repeat' (first | refine jR ?_ | (refine jo ?_;first | refine ah F ?_ | refine jF fun _=>?_ | refine bj F F F F F F F F F oM fun _ _=>?_ | refine jD F F F ?_) | refine af F F ?_)
    rename_i w b2 c2
    (refine ak (ar (id:=12) [.blk x (.cells [.slice (some ⟨b2,0,none⟩) (qs.length + 1) c2,.map (some m)].toArray tSc (0,0))] (by intro y hy;simp only [List.mem_cons,List.not_mem_nil,or_false] at hy ⊢;simp [hy]) aj ?_);refine jW 3 [0,1,2,4,5,6,8] (aa 10 375) ?_;(refine jG (aa 10 383) 3 F (an F F F) ?_);(refine jG (aa 10 511) 7 F (ay F F aS F F) ?_);refine jA 9 F ?_;(refine aaB F F F F ‹_› ?_);refine jS (aa 10 1023) ?_;refine jQ ?_)
    repeat' (refine jR ?_)
    have e1 : fQ qs ++ [(ty.name,Pt b 0)] = fQ (qs ++ [(b,ty)]):=by simp [fQ]
    have e2 : ao rV qs ++ [Pt b 0] = ao rV (qs ++ [(b,ty)]):=(cn rV qs (b,ty)).symm
    have e3 : ag (qs ++ [(b,ty)]) = ag qs ++ [ty]:=by simp [ag]
    rw [e1,e2]
    refine aT (.slice (some ⟨b2,0,none⟩) (qs.length + 1) c2,qs ++ [(b,ty)],ls ++ [line],rest,G) ⟨?_,⟨by simp;omega,by dsimp only;omega⟩,?_,?_,hgk.trans hle⟩ (by dsimp only;omega) tU rfl (by dsimp only;simp only [List.length_append,List.length_cons,List.length_nil,Nat.zero_add];repeat (first | exact List.Sublist.refl _ | apply List.Sublist.cons_cons | apply List.Sublist.cons))
    ·dsimp only;rw [e3];exact hR.step hce hty
    ·intro a ha k hk
     dsimp only at ha ⊢
     rw [e3]
     have hlen:=eQ qs
     have hal : a < qs.length + 1:=by simpa using ha
     rcases Nat.lt_or_ge a qs.length with h3 | h3
     ·rw [it oM,it oM];exact hna a h3 k hk
     ·have ea : a = qs.length:=oM
      have e4 : ac (ag qs ++ [ty]) a = ty:=by rw [ck (by simp;omega),List.getElem_append_right oM];simp
      rw [it oM,e4]
      exact tC hf k oM
    ·intro q hq
     dsimp only at hq ⊢
     rcases List.mem_append.1 hq with hq | hq
     ·exact (hti q hq).mono hle
     ·simp only [List.mem_singleton] at hq;subst hq;exact ⟨fv,ln,hsg,hfv⟩
 ·subst ht
  have hfin:=hR.fin hl (by rw [eQ];exact h8)
  have hw : ∀ q ∈ qs,TyW q.2:=fun q hq=>(gZ hR.tyE).1 q.2 (show q.2 ∈ qs.map (fun y=>y.2) from List.mem_map_of_mem hq)
  refine Nx.sealS (v:=.slice au qs.length cu) fun G1 hl1 hsl=>?_
  refine Nx.sealC (b:=x) fun G2 hl2 hsx=>?_
  refine Nx.sealM (b:=m) fun G3 hl3 hmm=>?_
  have hS : ScI G3 x qs:=⟨⟨_,m,hsx.mono hl3,hsl.mono (hl2.trans hl3),hmm⟩,fun q hq=>(hti q hq).mono ((hl1.trans hl2).trans hl3)⟩
  have hgl : Gh.le G G3:=((hgk.trans hl1).trans hl2).trans hl3
  have hsx3:=hsx.mono hl3
  have hsl3:=hsl.mono (hl2.trans hl3)
  repeat' (first | refine jR ?_ | (refine jo ?_;first | refine jV (ay F F aS F F) ?_ | refine jV (aq F) ?_) | refine af F F ?_)
  refine aU (ι:=Nat) (fun k=>k ≤ qs.length ∧ ∀ j,j < k → gP (ag qs) (ac qs j).2) (fun k=>[(4,Pt x 0),(82,.slice au qs.length cu),(83,I qs.length),(84,I k)]) (fun k=>G3) (fun k=>[]) (fun k=>qs.length - k) 0 ?_ tU F a6 (fun k Hk=>?_)
  ·exact ⟨Nat.zero_le _,fun j hj=>absurd hj oM⟩
  by_cases hk : k < qs.length
  case neg =>
   have hko : ∀ q ∈ qs,gP (ag qs) q.2:=fun q hq=>by
    obtain ⟨j,hj,rfl⟩:=iu hq
    exact Hk.2 j oM
   repeat' (first | refine jR ?_ | (refine jo ?_;first | refine jV (ay F F aS F F) ?_ | refine jV (aq F) ?_) | refine af F (aF oM) ?_)
   refine aU (ι:=Nat) (fun k=>k ≤ qs.length ∧ ∀ j,j < k → bJ (ag qs) 9 (ac qs j).2 = true) (fun k=>[(4,Pt x 0),(114,.slice au qs.length cu),(115,I qs.length),(116,I k)]) (fun k=>G3) (fun k=>[]) (fun k=>qs.length - k) 0 ?_ tU F a6 (fun k Hk=>?_)
   ·exact ⟨Nat.zero_le _,fun j hj=>absurd hj oM⟩
   have hends : ∀ j,j < qs.length → bJ (ag qs) 9 (ac qs j).2 = bJ (ag qs) ((ag qs).length + 1) (ac (ag qs) j):=fun j hj=>by
    rw [ki hj]
    exact xz (by rw [eQ];exact h8) (show (ac qs j).2 ∈ qs.map (fun y=>y.2) from List.mem_map_of_mem (a7 hj))
   by_cases hk2 : k < qs.length
   case neg =>
    have hv : hC (ag qs):=by
     refine ⟨fun j hj=>?_,fun j hj=>?_⟩
     ·rw [eQ] at hj
      exact ⟨hna j hj,by rw [ki hj];exact hko _ (a7 hj)⟩
     ·rw [eQ] at hj
      rw [← hends j hj];exact Hk.2 j oM
    repeat' (first | refine jR ?_ | refine af F (aF oM) ?_)
    all_goals refine jZ (vs:=[_,_]) F ⟨F,F,trivial⟩ F ⟨hgl,F,?_⟩
    all_goals exact .inr ⟨x,qs,F,by rw [hfin,if_pos hv],hS⟩
   obtain ⟨ba,oa,ca,ea,hsa⟩:=hsl3.expl oM
   simp only [Value.slice.injEq] at ea
   obtain ⟨rfl,-,rfl⟩:=ea
   rcases hq : ac qs k with ⟨p,ty⟩
   have hqm : (p,ty) ∈ qs:=by rw [← hq];exact a7 hk2
   have cx_en2:=xN hS hw hko hqm
   have hek:=hends k hk2
   rw [hq] at hek
   dsimp only at hek
   by_cases he : bJ (ag qs) 9 ty = true
   ·have he2 : (!bJ (ag qs) 9 ty) = false:=by rw [he];rfl
    repeat' (first | refine jM ?_ | (refine jo ?_;first | (refine jV (oN F F aS ?_ aS F) ?_;focus omega) | refine jV (al F F oM) ?_ | refine ad F F F cx_en2 F ?_) | refine ae F (aC oM) ?_ | refine af F ‹_› ?_)
    refine aT (k + 1) ⟨oM,fun j hj=>?_⟩ oM tU F a6
    rcases Nat.lt_or_ge j k with h3 | h3
    ·exact Hk.2 j h3
    ·have : j = k:=oM
     subst this;rw [hq];exact he
   ·have he2 : (!bJ (ag qs) 9 ty) = true:=by simpa using he
    have hno : ax s = none:=by
     rw [hfin,if_neg]
     intro hv
     have:=hv.2 k (by rw [eQ];exact hk2)
     rw [← hek] at this
     exact he this
    repeat' (first | refine jR ?_ | (refine jo ?_;first | (refine jV (oN F F aS ?_ aS F) ?_;focus omega) | refine jV (al F F oM) ?_ | refine ad F F F cx_en2 F ?_) | (refine ae F (by first | assumption | (refine decide_eq_true ?_;(omega))) ?_))
    all_goals refine jZ (vs:=[_,_]) F ⟨F,F,trivial⟩ F ⟨hgl,F,?_⟩
    all_goals exact .inl ⟨hno,_,F⟩
  obtain ⟨ba,oa,ca,ea,hsa⟩:=hsl3.expl oM
  simp only [Value.slice.injEq] at ea
  obtain ⟨rfl,-,rfl⟩:=ea
  rcases hq : ac qs k with ⟨p,ty⟩
  have hqm : (p,ty) ∈ qs:=by rw [← hq];exact a7 hk
  obtain ⟨fv,ln,hsg,hfv⟩:=hS.ty _ hqm
  dsimp only at hsg hfv
  have hW:=hw _ hqm
  dsimp only at hW
  have h88:=hW.len
  repeat' (first | refine jR ?_ | (refine jo ?_;first | refine jV (ay F F aS F F) ?_ | (refine jV (oN F F aS ?_ aS F) ?_;focus omega) | refine jV (dc F aS) ?_ | refine jV (al F F oM) ?_) | refine ae F (aC oM) ?_)
  refine aU (ι:=Nat) (fun l=>l ≤ ty.fields.length ∧ (ty.sort = 69 ∨ ∀ j,j < l → d7 (ag qs) (ac ty.fields j).kind = true)) (fun l=>[(4,Pt x 0),(11,Pt p 0),(82,.slice (some ⟨ba,oa,none⟩) qs.length cu),(83,I qs.length),(84,I k),(91,fv),(92,I ty.fields.length),(93,I l)]) (fun l=>G3) (fun l=>[]) (fun l=>ty.fields.length - l) 0 ?_ tU F a6 (fun l Hl=>?_)
  ·exact ⟨Nat.zero_le _,.inr fun j hj=>absurd hj oM⟩
  by_cases hl2 : l < ty.fields.length
  case neg =>
   repeat' (first | refine jM ?_ | refine af F (aF oM) ?_)
   refine aT (k + 1) ⟨oM,fun j hj=>?_⟩ oM tU F a6
   rcases Nat.lt_or_ge j k with h3 | h3
   ·exact Hk.2 j h3
   ·have : j = k:=oM
    subst this
    rw [hq]
    rcases Hl.2 with h5 | h5
    ·exact .inl h5
    ·exact .inr fun j2 hj2=>h5 j2 (by dsimp only at hj2;omega)
  obtain ⟨bf,of,cf,rfl,hsf⟩:=hfv.expl oM
  by_cases h69 : ty.sort = 69
  ·repeat' (first | refine jM ?_ | (refine jo ?_;first | (refine jV (bz F F aS ?_) ?_;focus omega) | refine jV (ay F F aS F F) ?_ | refine aH F ?_ | refine jC F F F ?_ | refine jV (al F F oM) ?_ | refine jL fun _=>?_) | refine aD F F (aF oM) ?_ | refine ae F (aC oM) ?_ | refine af F F ?_)
   refine aT (l + 1) ⟨oM,.inl h69⟩ oM tU F (by repeat (exact List.nil_sublist _))
  have hko1:=(hW.fld _ (a7 hl2)).kind h69
  have cx_has:=tO hS hko1
  by_cases hh : d7 (ag qs) (ac ty.fields l).kind = true
  ·have hh2 : (!d7 (ag qs) (ac ty.fields l).kind) = false:=by rw [hh];rfl
   repeat' (first | refine jM ?_ | (refine jo ?_;first | (refine jV (bz F F aS ?_) ?_;focus omega) | refine aK F ?_ | refine jV (ay F F aS F F) ?_ | refine aP F ?_ | refine jC F F F ?_ | refine jV (al F F oM) ?_ | refine jL fun _=>?_ | refine ad F F F cx_has F ?_) | refine aO F F (aC oM) ?_ | refine ae F (aC oM) ?_ | refine af F ‹_› ?_)
   refine aT (l + 1) ⟨oM,.inr fun j hj=>?_⟩ oM tU F (by repeat (exact List.nil_sublist _))
   rcases Nat.lt_or_ge j l with h3 | h3
   ·rcases Hl.2 with h5 | h5
    ·exact absurd h5 h69
    ·exact h5 j h3
   ·have : j = l:=oM
    subst this;exact hh
  ·have hh2 : (!d7 (ag qs) (ac ty.fields l).kind) = true:=by simpa using hh
   have hno : ax s = none:=by
    rw [hfin,if_neg]
    intro hv
    have h5:=(hv.1 k (by rw [eQ];exact hk)).2
    rw [ki hk,hq] at h5
    rcases h5 with h6 | h6
    ·exact h69 h6
    ·exact hh (h6 l hl2)
   repeat' (first | refine jR ?_ | (refine jo ?_;first | (refine jV (bz F F aS ?_) ?_;focus omega) | refine aK F ?_ | refine jV (ay F F aS F F) ?_ | refine aP F ?_ | refine jC F F F ?_ | refine jV (al F F oM) ?_ | refine jL fun _=>?_ | refine ad F F F cx_has F ?_) | refine aO F F (aC oM) ?_ | (refine ae F (by first | assumption | (refine decide_eq_true ?_;(omega))) ?_))
   all_goals refine jZ (vs:=[_,_]) F ⟨F,F,trivial⟩ F ⟨hgl,F,?_⟩
   all_goals exact .inl ⟨hno,_,F⟩
theorem rE {s : abu} (h : s.length ≤ 10000000) : aI abt 65 [S s] G (· = Bo (ax s).isSome):=by
 cases hs : ax s with
 | none =>
  have cx_rs0 : ∀ G,ci abt 87 [S s] G (fun v _=>∃ p,v = Tu [p,Bo false]):=fun G=>by
   refine (gv (G:=G) h).mono ?_
   rintro v G' L' ⟨h1,h2,⟨_,p,rfl⟩ | ⟨_,_,_,h4,_⟩⟩
   ·exact ⟨h1,h2,p,F⟩
   ·rw [hs] at h4;cases h4
  refine jB (Post:=fun v G' L'=>G' = G ∧ L' = [] ∧ _) [(0,_)] Tryz.func65 Tryz.ntmps65 fun B hok hB hW=>?_
  repeat' (first | refine jR ?_ | (refine jo ?_;(refine aM F F F (cx_rs0 _) F ?_;rintro _ G hle ⟨p,rfl⟩;skip)))
  refine Nx.base hok hB ?_
  refine jY (vs:=[_]) ?_
  rfl
 | some ts =>
  have cx_rs1 : ∀ G,ci abt 87 [S s] G (fun v G'=>∃ b qs,v = Tu [Pt b 0,Bo true] ∧ ag qs = ts ∧ ScI G' b qs):=fun G=>by
   refine (gv (G:=G) h).mono ?_
   rintro v G' L' ⟨h1,h2,⟨h4,_⟩ | ⟨b,qs,rfl,h4,h5⟩⟩
   ·rw [hs] at h4;cases h4
   ·rw [hs] at h4;simp only [Option.some.injEq] at h4;exact ⟨h1,h2,b,qs,F,h4.symm,h5⟩
  refine jB (Post:=fun v G' L'=>G' = G ∧ L' = [] ∧ _) [(0,_)] Tryz.func65 Tryz.ntmps65 fun B hok hB hW=>?_
  repeat' (first | refine jR ?_ | (refine jo ?_;(refine aM F F F (cx_rs1 _) F ?_;rintro _ G hle ⟨b,qs,rfl,hqs,hS⟩;skip)))
  refine Nx.base hok hB ?_
  refine jY (vs:=[_]) ?_
  rfl
def wm (s k : abu) (v : Value) (G : Gh) : Prop:=(a9 s k = false ∧ ∃ p a b c,v = Tu [p,Ag [S a,S b,S c],Bo false]) ∨ ∃ b qs,v = Tu [Pt b 0,Ag (dQ k),Bo true] ∧ ax s = some (ag qs) ∧ aJ (ag qs) k = true ∧ ScI G b qs
theorem eP {s k : abu} (h : s.length ≤ 10000000) (hk : k.length ≤ 2000000) : ci abt 52 [S s,S k] G (wm s k):=by
 cases hs : ax s with
 | none =>
  have hno : a9 s k = false:=by unfold a9;rw [hs]
  have cx_rs0 : ∀ G,ci abt 87 [S s] G (fun v _=>∃ p,v = Tu [p,Bo false]):=fun G=>by
   refine (gv (G:=G) h).mono ?_
   rintro v G' L' ⟨h1,h2,⟨_,p,rfl⟩ | ⟨_,_,_,h4,_⟩⟩
   ·exact ⟨h1,h2,p,F⟩
   ·rw [hs] at h4;cases h4
  refine jB [(0,_),(1,_)] Tryz.func52 Tryz.ntmps52 fun B hok hB hW=>?_
  repeat' (first | refine jR ?_ | (refine jo ?_;first | refine jL fun _=>?_ | refine jV (am F F) ?_ | refine jC F F F ?_ | (refine aM F F F (cx_rs0 _) F ?_;rintro _ G hle ⟨p,rfl⟩;skip)) | refine ae F F ?_)
  all_goals refine jZ (vs:=[_,_,_]) F ⟨F,aw F F F F,F,trivial⟩ F ⟨hle,F,?_⟩
  all_goals exact .inl ⟨hno,_,[],[],[],F⟩
 | some ts =>
  have cx_rs1 : ∀ G,ci abt 87 [S s] G (fun v G'=>∃ b qs,v = Tu [Pt b 0,Bo true] ∧ ag qs = ts ∧ ScI G' b qs):=fun G=>by
   refine (gv (G:=G) h).mono ?_
   rintro v G' L' ⟨h1,h2,⟨h4,_⟩ | ⟨b,qs,rfl,h4,h5⟩⟩
   ·rw [hs] at h4;cases h4
   ·rw [hs] at h4;simp only [Option.some.injEq] at h4;exact ⟨h1,h2,b,qs,F,h4.symm,h5⟩
  by_cases hko : bn k = true
  case neg =>
   have hkc2 : bn k = false:=by simpa using hko
   have hno : a9 s k = false:=by unfold a9 aJ;rw [hs];simp [hkc2]
   have cx_kn : ∀ G,aI abt 88 [S k] G (fun v=>∃ x y z,v = Tu [Ag [S x,S y,S z],Bo false]):=fun G=>by
    refine (k6 (G:=G) (s:=k) oM).mono ?_
    rintro v G' L' ⟨h1,h2,x,y,z,rfl,_⟩
    exact ⟨h1,h2,x,y,z,by rw [hkc2]⟩
   refine jB [(0,_),(1,_)] Tryz.func52 Tryz.ntmps52 fun B hok hB hW=>?_
   repeat' (first | refine jR ?_ | (refine jo ?_;first | refine jL fun _=>?_ | refine jC F F F ?_ | (refine aM F F F (cx_rs1 _) F ?_;rintro _ G hle ⟨b,qs,rfl,hqs,hS⟩;skip) | (refine dO F F F (cx_kn _) F ?_;rintro _ ⟨x,y,z,rfl⟩)) | refine af F F ?_ | (refine ak (dq (id:=5) (tt:=5) F aj ?_);refine jW 8 [0,2,3] (aa 11 13) ?_;(try (refine Nx.re (d:=26) (v':=Bo false) F (congrArg Value.bool F) ?_));refine jW 7 [4] (aa 11 29) ?_;(refine jG (aa 11 31) 1 F (bC F F F F) ?_);(refine jN (aa 11 63) 5 F ?_);(refine jN (aa 11 127) 6 F ?_);refine jW 3 [8] (aa 11 383) ?_;((refine jG (aa 11 511) 7 F (aW F F ?_) ?_;(focus ((rfl);done))));refine jA 9 F ?_;(refine jC F F F ?_);refine jK (aa 11 1023) ?_;refine jW 0 [10] (aa 11 2047) ?_;refine jQ ?_))
   all_goals refine jZ (vs:=[_,_,_]) F ⟨F,aw F F F F,F,trivial⟩ F ⟨hle,F,?_⟩
   all_goals exact .inl ⟨hno,_,_,_,_,F⟩
  have cx_kq : ∀ G,aI abt 88 [S k] G (· = Tu [Ag [S (sg k),S (bs k),S (nm k)],Bo true]):=fun G=>sC oM hko
  have hkk : dQ k = [S (sg k),S (bs k),S (nm k)]:=rfl
  by_cases hH : d7 ts k = true
  case pos =>
   have cx_hy : ∀ G b qs,ag qs = ts → ScI G b qs → aI abt 89 [Pt b 0,Ag [S (sg k),S (bs k),S (nm k)]] G (· = Bo true):=by
    intro G b qs hq hS
    refine (tO hS hko).mono ?_
    rintro v G' L' ⟨h1,h2,rfl⟩
    exact ⟨h1,h2,by rw [hq,hH]⟩
   refine jB [(0,_),(1,_)] Tryz.func52 Tryz.ntmps52 fun B hok hB hW=>?_
   repeat' (first | refine jR ?_ | (refine jo ?_;first | refine jL fun _=>?_ | refine jC F F F ?_ | (refine aM F F F (cx_rs1 _) F ?_;rintro _ G hle ⟨b,qs,rfl,hqs,hS⟩;skip) | refine ad F F F (cx_kq _) F ?_) | refine af F F ?_ | (refine ak (dq (id:=5) (tt:=5) F aj ?_);refine jW 8 [0,2,3] (aa 11 13) ?_;(try (refine Nx.re (d:=26) (v':=Bo true) F (congrArg Value.bool F) ?_));refine jW 7 [4] (aa 11 29) ?_;(refine jG (aa 11 31) 1 F (bC F F F F) ?_);(refine jG (aa 11 63) 5 F (bC F F F F) ?_);((refine jA 6 F ?_;((refine ad F F F ((cx_hy _ _ _) (by (repeat (assumption));done) (by (repeat (assumption));done)) rfl ?_));refine jK (aa 11 127) ?_));refine jW 3 [8] (aa 11 383) ?_;((refine jG (aa 11 511) 7 F (bU F F ?_) ?_;(focus ((rfl);done))));refine jA 9 F ?_;(refine jC F F F ?_);refine jK (aa 11 1023) ?_;refine jW 0 [10] (aa 11 2047) ?_;refine jQ ?_))
   all_goals refine jZ (vs:=[_,_,_]) F ⟨F,aw F F F F,F,trivial⟩ F ⟨hle,F,?_⟩
   all_goals exact .inr ⟨b,qs,F,by rw [hs,hqs],by simp [aJ,hqs,hko,hH],hS⟩
  case neg =>
   have hH2 : d7 ts k = false:=by simpa using hH
   have hno : a9 s k = false:=by unfold a9 aJ;rw [hs];simp [hH2]
   have cx_hn : ∀ G b qs,ag qs = ts → ScI G b qs → aI abt 89 [Pt b 0,Ag [S (sg k),S (bs k),S (nm k)]] G (· = Bo false):=by
    intro G b qs hq hS
    refine (tO hS hko).mono ?_
    rintro v G' L' ⟨h1,h2,rfl⟩
    exact ⟨h1,h2,by rw [hq,hH2]⟩
   refine jB [(0,_),(1,_)] Tryz.func52 Tryz.ntmps52 fun B hok hB hW=>?_
   repeat' (first | refine jR ?_ | (refine jo ?_;first | refine jL fun _=>?_ | refine jC F F F ?_ | (refine aM F F F (cx_rs1 _) F ?_;rintro _ G hle ⟨b,qs,rfl,hqs,hS⟩;skip) | refine ad F F F (cx_kq _) F ?_) | refine af F F ?_ | (refine ak (dq (id:=5) (tt:=5) F aj ?_);refine jW 8 [0,2,3] (aa 11 13) ?_;(try (refine Nx.re (d:=26) (v':=Bo true) F (congrArg Value.bool F) ?_));refine jW 7 [4] (aa 11 29) ?_;(refine jG (aa 11 31) 1 F (bC F F F F) ?_);(refine jG (aa 11 63) 5 F (bC F F F F) ?_);((refine jA 6 F ?_;((refine ad F F F ((cx_hn _ _ _) (by (repeat (assumption));done) (by (repeat (assumption));done)) rfl ?_));refine jK (aa 11 127) ?_));refine jW 3 [8] (aa 11 383) ?_;((refine jG (aa 11 511) 7 F (bU F F ?_) ?_;(focus ((rfl);done))));refine jA 9 F ?_;(refine jC F F F ?_);refine jK (aa 11 1023) ?_;refine jW 0 [10] (aa 11 2047) ?_;refine jQ ?_))
   all_goals refine jZ (vs:=[_,_,_]) F ⟨F,aw F F F F,F,trivial⟩ F ⟨hle,F,?_⟩
   all_goals exact .inl ⟨hno,_,_,_,_,F⟩
theorem je {t : Ty} : eV t = (ac t.fields 0).kind:=by
 unfold eV ac
 cases t.fields with
 | nil=>rfl
 | cons f r=>rfl
theorem iA {t : Ty} : tag0 t = (ac t.fields 0).tag:=by
 unfold tag0 ac
 cases t.fields with
 | nil=>rfl
 | cons f r=>rfl
theorem lT {n : Int} (h : 0 ≤ n ∧ n ≤ 9223372036854775807) : (a8 n).length ≤ 19:=gL h.2
theorem rB (k : abu) : (fC k).length ≤ 2:=by
 unfold fC
 split
 ·simp
 ·split
  ·simp
  ·split <;> simp
theorem SchW.tag0 {ts : List Ty} (h : SchW ts) {t : Ty} (ht : t ∈ ts) : 0 ≤ Go.E.tag0 t ∧ Go.E.tag0 t ≤ 200:=by
 rw [iA]
 by_cases h0 : 0 < t.fields.length
 ·have:=((h.ty t ht).fld _ (a7 h0)).tag;omega
 ·have : t.fields = []:=List.eq_nil_of_length_eq_zero oM
  rw [this];exact ⟨Int.le_refl _,by decide⟩
theorem kE {ts : List Ty} (h : SchW ts) : ∀ (n : Nat) (k : abu),(b5 ts n k).length ≤ 30 * n
 | 0,k=>by simp [b5]
 | n + 1,[]=>by simp [b5]
 | n + 1,c :: r=>by
  unfold b5
  split
  ·simp;omega
  ·split
   ·simp;omega
   ·split
    ·have:=rB (c :: r);omega
    ·rename_i t ht
     have h1:=h.tag0 (bM ht)
     have h2:=lT (n:=tag0 t) oM
     have h3:=kE h n (eV t)
     split
     ·simp;omega
     ·split
      ·simp;omega
      ·simp;omega
theorem dv {ts : List Ty} (h : SchW ts) {t : Ty} (ht : t ∈ ts) (hs : t.sort ≠ 69) {f : Fld} (hf : f ∈ t.fields) : aJ ts f.kind = true:=by
 unfold aJ
 rw [((h.ty t ht).fld f hf).kind hs,Bool.true_and]
 obtain ⟨i,hi,rfl⟩:=List.mem_iff_getElem.1 ht
 obtain ⟨j,hj,rfl⟩:=List.mem_iff_getElem.1 hf
 have h1:=(h.valid.1 i hi).2
 rw [ck hi] at h1
 rcases h1 with h1 | h1
 ·exact absurd h1 hs
 ·have:=h1 j hj
  rwa [ck hj] at this
theorem cU {ts : List Ty} {k : abu} (h : aJ ts k = true) : bn k = true:=by
 unfold aJ at h;simp only [Bool.and_eq_true] at h;exact h.1
theorem dB {c : UInt8} {r : abu} (h : ¬ (c.toNat = 91 ∨ c.toNat = 63)) : aG (c :: r) = c :: r:=by rw [aG,if_neg h]
theorem sf {ts : List Ty} (h : SchW ts) {k : abu} (t : Ty) (ht : aL ts k = some t) : bJ ts (ts.length + 1) t = true:=by
 obtain ⟨i,hi,rfl⟩:=List.mem_iff_getElem.1 (bM ht)
 have:=h.valid.2 i hi
 rwa [ck hi] at this
theorem uS {u : Value} {vs : List cW} (h : SchR G u vs) (hw : SchW (aQ vs)) : ∀ (n : Nat) {k : abu},n ≤ 1000 → aJ (aQ vs) k = true → (∀ t,aL (aQ vs) k = some t → bJ (aQ vs) n t = true) →
  aI abt 174 [u,S k] G (· = S (b5 (aQ vs) (n + 1) k)):=by
 have hvl : vs.length ≤ 1000000:=by have:=hw.len;rw [j6] at this;omega
 intro n
 induction n with
 | zero =>
  intro k hn hk he
  have hko:=cU hk
  have hkk:=dy hko
  match k,hkk with
  | c :: r,hkk =>
   have e0:=lg c r
   by_cases h1 : c.toNat = 91
   ·refine jE [(0,_),(1,_)] Tryz.func174 Tryz.ntmps174 fun B hB=>?_
    repeat' (first | refine jX ?_ | (refine ae F ?_ ?_;(focus ((simp [*];done);done))))
    all_goals refine jY (vs:=[_]) ?_
    all_goals (rw [aE];unfold b5;rw [if_pos h1])
   by_cases h2 : c.toNat = 63
   ·refine jE [(0,_),(1,_)] Tryz.func174 Tryz.ntmps174 fun B hB=>?_
    repeat' (first | refine jX ?_ | (refine ae F ?_ ?_;(focus ((simp [*];done);done))) | (refine af F ?_ ?_;(focus ((simp [*];done);done))))
    all_goals refine jY (vs:=[_]) ?_
    all_goals (rw [aE];unfold b5;rw [if_neg h1,if_pos h2])
   have href:=j8 vs (c :: r)
   have cx_rf:=oe (k:=c :: r) h hvl hkk.1 oM
   cases hr : fe vs (c :: r) with
   | some x=>rw [hr] at href;have:=he _ href.symm;cases this
   | none =>
    rw [hr] at href cx_rf
    refine jE [(0,_),(1,_)] Tryz.func174 Tryz.ntmps174 fun B hB=>?_
    repeat' (first | refine jX ?_ | (refine jo ?_;first | refine jL fun _=>?_ | refine jC F F F ?_ | refine ad F F F cx_rf F ?_ | refine ad F F F pJ F ?_) | refine ae F F ?_ | (refine af F ?_ ?_;(focus ((simp;omega);done))))
    all_goals refine jY (vs:=[_]) ?_
    all_goals (rw [aE];unfold b5;rw [if_neg h1,if_neg h2,← href];rfl)
 | succ n ih =>
  intro k hn hk he
  have hko:=cU hk
  have hkk:=dy hko
  match k,hkk with
  | c :: r,hkk =>
   have e0:=lg c r
   by_cases h1 : c.toNat = 91
   ·refine jE [(0,_),(1,_)] Tryz.func174 Tryz.ntmps174 fun B hB=>?_
    repeat' (first | refine jX ?_ | (refine ae F ?_ ?_;(focus ((simp [*];done);done))))
    all_goals refine jY (vs:=[_]) ?_
    all_goals (rw [aE];unfold b5;rw [if_pos h1])
   by_cases h2 : c.toNat = 63
   ·refine jE [(0,_),(1,_)] Tryz.func174 Tryz.ntmps174 fun B hB=>?_
    repeat' (first | refine jX ?_ | (refine ae F ?_ ?_;(focus ((simp [*];done);done))) | (refine af F ?_ ?_;(focus ((simp [*];done);done))))
    all_goals refine jY (vs:=[_]) ?_
    all_goals (rw [aE];unfold b5;rw [if_neg h1,if_pos h2])
   have href:=j8 vs (c :: r)
   have cx_rf:=oe (k:=c :: r) h hvl hkk.1 oM
   rcases hr : fe vs (c :: r) with _ | ⟨⟨a,ca⟩,t⟩
   ·rw [hr] at href cx_rf
    refine jE [(0,_),(1,_)] Tryz.func174 Tryz.ntmps174 fun B hB=>?_
    repeat' (first | refine jX ?_ | (refine jo ?_;first | refine jL fun _=>?_ | refine jC F F F ?_ | refine ad F F F cx_rf F ?_ | refine ad F F F pJ F ?_) | refine ae F F ?_ | (refine af F ?_ ?_;(focus ((simp;omega);done))))
    all_goals refine jY (vs:=[_]) ?_
    all_goals (rw [aE];unfold b5;rw [if_neg h1,if_neg h2,← href];rfl)
   rw [hr] at href cx_rf
   have hrf : aL (aQ vs) (c :: r) = some t:=href.symm
   have htm:=bM hrf
   have hW:=hw.ty t htm
   have htg:=hw.tag0 htm
   rw [iA] at htg
   have e3 : b5 (aQ vs) (n + 1 + 1) (c :: r) = if t.sort = 82 then [123,125] else if t.sort = 69 then 35 :: a8 (tag0 t) else 60 :: (a8 (tag0 t) ++ 61 :: (b5 (aQ vs) (n + 1) (eV t) ++ [62])):=by
    rw [b5,if_neg h1,if_neg h2,hrf]
   rw [e3,iA,je]
   clear e3
   by_cases s1 : t.sort = 82
   ·rw [if_pos s1]
    refine jE [(0,_),(1,_)] Tryz.func174 Tryz.ntmps174 fun B hB=>?_
    repeat' (first | refine jX ?_ | (refine jo ?_;first | refine jL fun _=>?_ | refine jC F F F ?_ | refine ah F ?_ | refine ad F F F cx_rf F ?_) | (refine ae F ?_ ?_;(focus ((simp [*];done);done))) | (refine af F ?_ ?_;(focus ((first | rfl | (simp;omega));done))))
    all_goals refine jY (vs:=[_]) ?_
    all_goals rfl
   have h0 : 0 < t.fields.length:=List.length_pos_iff.2 (hW.ne s1)
   obtain ⟨bf,of,cf,ef,hsf⟩:=(h.fl _ (kF hr)).expl h0
   simp only [iB,Value.slice.injEq] at ef
   obtain ⟨rfl,-,rfl⟩:=ef
   dsimp only at hsf
   have cx_rf : aI abt 141 [u,S (c :: r)] G (· = Tu [Ag [U8 t.sort,S t.name,.slice (some ⟨bf,of,none⟩) t.fields.length ca],Bo true]):=cx_rf
   have hdl:=lT (n:=(ac t.fields 0).tag) oM
   rw [if_neg s1]
   by_cases s2 : t.sort = 69
   ·rw [if_pos s2]
    refine jE [(0,_),(1,_)] Tryz.func174 Tryz.ntmps174 fun B hB=>?_
    repeat' (first | refine jX ?_ | (refine jo ?_;first | refine jL fun _=>?_ | refine jC F F F ?_ | refine ah F ?_ | (refine jV (bq F F aS ?_ F F) ?_;focus omega) | refine jV (al F F oM) ?_ | refine ad F F F cx_rf F ?_ | (refine ad F F F (gi ?_) F ?_;(focus ((simp;omega);done)))) | refine ae F (aC oM) ?_ | (refine af F ?_ ?_;(focus ((first | rfl | (refine decide_eq_false ?_;(omega)) | (simp;omega));done))))
    all_goals refine jY (vs:=[_]) ?_
    all_goals rfl
   have hin:=dv hw htm s2 (a7 h0)
   have hen : ∀ t',aL (aQ vs) (ac t.fields 0).kind = some t' → bJ (aQ vs) n t' = true:=by
    intro t' ht'
    have:=he t hrf
    have s3 : t.sort = 85:=by rcases hW.sort with h | h | h <;> omega
    rw [bJ,if_neg (by simp [s3]),je,ht'] at this
    exact this
   have cx_std:=ih (k:=(ac t.fields 0).kind) oM hin hen
   have hsl:=kE hw (n + 1) (ac t.fields 0).kind
   rw [if_neg s2]
   refine jE [(0,_),(1,_)] Tryz.func174 Tryz.ntmps174 fun B hB=>?_
   repeat' (first | refine jX ?_ | (refine jo ?_;first | refine jL fun _=>?_ | refine jC F F F ?_ | refine ah F ?_ | refine ad F F F cx_rf F ?_) | (refine af F ?_ ?_;(focus ((first | rfl | (refine decide_eq_false ?_;(omega)) | (simp;omega));done))) | (refine ak (ar (id:=13) _ (fun _ h=>h) aj ?_);refine jT 15 [0,8,9] (aa 18 769) ?_;(refine jG (aa 18 771) 1 F (an F F F) ?_);(refine jG (aa 18 775) 2 F (al F F oM) ?_);refine jT 12 [3] (aa 18 783) ?_;((refine jG (aa 18 799) 4 F (bq F F aS ?_ F F) ?_;focus omega));(refine jG (aa 18 1823) 10 F (an F F F) ?_);(refine jG (aa 18 3871) 11 F (al F F oM) ?_);refine jT 8 [12] (aa 18 7967) ?_;((refine jG (aa 18 16159) 13 F (bq F F aS ?_ F F) ?_;focus omega));refine jA 5 F ?_;((refine ad F F F (gi ?_) F ?_;(focus ((simp;omega);done))));refine jS (aa 18 16191) ?_;refine jW 4 [6,7] (aa 18 16383) ?_;refine jA 14 F ?_;(refine ad F F F cx_std F ?_);refine jS (aa 18 32767) ?_;refine jW 0 [15,16,17] (aa 18 262143) ?_;refine jQ ?_))
   all_goals refine jY (vs:=[_]) ?_
   all_goals (rw [aE];simp)
theorem uU {u : Value} {vs : List cW} (h : SchR G u vs) (hw : SchW (aQ vs)) {k : abu} (hk : aJ (aQ vs) k = true) : aI abt 174 [u,S k] G (· = S (lx (aQ vs) k)) :=
 uS h hw ((aQ vs).length + 1) (by have:=hw.len;omega) hk (fun t ht=>sf hw t ht)
theorem io {c : UInt8} {r : abu} (h : c.toNat = 91 ∨ c.toNat = 63) : sg (c :: r) = c :: sg r:=by
 unfold sg
 rw [aG,if_pos h]
 have:=gf r
 rw [List.length_cons,show r.length + 1 - (aG r).length = (r.length - (aG r).length) + 1 by omega]
 rfl
theorem f4 {c : UInt8} {r : abu} (h : ¬ (c.toNat = 91 ∨ c.toNat = 63)) : sg (c :: r) = []:=by
 unfold sg;rw [dB h];simp
theorem di {b c : abu} : aI abt 90 [Ag [S [],S b,S c]] G (· = U8 (0 : Nat)):=by
 refine jE [(0,_)] Tryz.func90 Tryz.ntmps90 fun B hB=>?_
 repeat' (first | refine jR ?_ | (refine jo ?_;first | refine jO fun _=>?_ | refine ah F ?_) | refine ae F F ?_)
 all_goals refine jY (vs:=[_]) ?_
 all_goals rfl
theorem ix {x : UInt8} {a b c : abu} : aI abt 90 [Ag [S (x :: a),S b,S c]] G (· = U8 (x.toNat : Nat)):=by
 have e0:=lg x a
 refine jE [(0,_)] Tryz.func90 Tryz.ntmps90 fun B hB=>?_
 repeat' (first | refine jX ?_ | (refine jo ?_;first | refine jO fun _=>?_ | refine ah F ?_) | refine af F F ?_)
 all_goals refine jY (vs:=[_]) ?_
 all_goals (rw [aE];(rfl))
theorem nw {k : abu} (hk : bn k = true) (hr : bc (aG k) = none) : bs k = [110] ∨ bs k = [116] ∨ bs k = [102]:=by
 have h:=gM (dy hk).1
 unfold bs
 cases hc : aG k with
 | nil=>rw [hc] at h;cases h
 | cons c r =>
  rw [hc] at h hr
  have h64 : ¬ c.toNat = 64:=by
   intro h64
   simp [bc,h64] at hr
  have h91 : ¬ (c.toNat = 91 ∨ c.toNat = 63):=lV hc
  have e : mR (c :: r) = c :: r:=by simp [mR,h64]
  rw [e]
  rw [eN,if_neg h91,if_neg h64] at h
  simp only [Bool.and_eq_true,Bool.or_eq_true,decide_eq_true_eq] at h
  obtain ⟨rfl,h⟩:=h
  have hu : ∀ n : Nat,c.toNat = n → n < 256 → c = UInt8.ofNat n:=fun n h1 h2=>by
   apply UInt8.toNat_inj.1;rw [h1,UInt8.toNat_ofNat'];omega
  rcases h with (h | h) | h
  ·exact .inl (by rw [hu _ h dC];rfl)
  ·exact .inr (.inl (by rw [hu _ h dC];rfl))
  ·exact .inr (.inr (by rw [hu _ h dC];rfl))
theorem ScI.W {b : Nat} {qs : List b8} (_ : ScI G b qs) (hw : SchW (ag qs)) {q : b8} (hq : q ∈ qs) : q.2 ∈ ag qs ∧ TyW q.2:=by
 have h1 : q.2 ∈ ag qs:=List.mem_map_of_mem hq
 exact ⟨h1,hw.ty _ h1⟩
theorem qi {k : abu} (hs : sg k = []) (hk : bn k = true) (hr : bc (aG k) = none) : fC k = fC (bs k):=by
 match k,hk with
 | c :: r,hk =>
  have h91 : ¬ (c.toNat = 91 ∨ c.toNat = 63):=fun h=>by rw [io h] at hs;cases hs
  have hc:=dB (r:=r) h91
  have h64 : ¬ c.toNat = 64:=fun h64=>by rw [hc] at hr;simp [bc,h64] at hr
  unfold bs;rw [hc];simp [mR,h64]
theorem uT {b : Nat} {qs : List b8} (h : ScI G b qs) (hw : SchW (ag qs)) : ∀ (n : Nat) {k : abu},n ≤ 1000 → aJ (ag qs) k = true → (∀ t,aL (ag qs) k = some t → bJ (ag qs) n t = true) →
  aI abt 53 [Pt b 0,Ag [S (sg k),S (bs k),S (nm k)]] G (· = S (b5 (ag qs) (n + 1) k)):=by
 obtain ⟨u,m,g1,g2,g3⟩:=h.at'
 intro n
 induction n with
 | zero =>
  intro k hn hk he
  have hko:=cU hk
  match k,hko with
  | c :: r,hko =>
   by_cases h91 : c.toNat = 91 ∨ c.toNat = 63
   ·have cx_sign:=@ix G c (sg r) (bs (c :: r)) (nm (c :: r))
    rw [io h91]
    by_cases h1 : c.toNat = 91
    ·refine jE [(0,_),(1,_)] Tryz.func53 Tryz.ntmps53 fun B hB=>?_
     repeat' (first | refine jR ?_ | (refine jo ?_;first | refine jO fun _=>?_ | refine aK F ?_ | refine ad F F F cx_sign F ?_) | refine ae F (aC oM) ?_)
     all_goals refine jY (vs:=[_]) ?_
     all_goals (rw [aE];unfold b5;rw [if_pos h1])
    have h2 : c.toNat = 63:=oM
    refine jE [(0,_),(1,_)] Tryz.func53 Tryz.ntmps53 fun B hB=>?_
    repeat' (first | refine jR ?_ | (refine jo ?_;first | refine jO fun _=>?_ | refine aK F ?_ | refine ad F F F cx_sign F ?_) | refine ae F (aC oM) ?_ | refine af F (aF oM) ?_)
    all_goals refine jY (vs:=[_]) ?_
    all_goals (rw [aE];unfold b5;rw [if_neg h1,if_pos h2])
   have hsg:=f4 (r:=r) h91
   have hcs:=dB (r:=r) h91
   rw [hsg]
   cases hrf : aL (ag qs) (c :: r) with
   | some t=>have:=he t hrf;cases this
   | none =>
    have hrn : bc (aG (c :: r)) = none:=by
     cases hx : bc (aG (c :: r)) with
     | none=>rfl
     | some x =>
      obtain ⟨t,ht⟩:=f8 hk (by rw [hx];rfl)
      rw [hcs,hrf] at ht;cases ht
    have hpl:=qi hsg hko hrn
    have e3 : b5 (ag qs) (0 + 1) (c :: r) = fC (bs (c :: r)):=by
     rw [b5,if_neg oM,if_neg oM,hrf];exact hpl
    rw [e3]
    rcases nw hko hrn with e | e | e
    all_goals
     rw [e]
     refine jE [(0,_),(1,_)] Tryz.func53 Tryz.ntmps53 fun B hB=>?_
     repeat' (first | refine jR ?_ | (refine jo ?_;first | refine jO fun _=>?_ | refine ah F ?_ | refine aK F ?_ | refine ad F F F di F ?_) | refine ae F F ?_ | refine af F F ?_)
     all_goals refine jY (vs:=[_]) ?_
     all_goals rfl
 | succ n ih =>
  intro k hn hk he
  have hko:=cU hk
  match k,hko with
  | c :: r,hko =>
   by_cases h91 : c.toNat = 91 ∨ c.toNat = 63
   ·have cx_sign:=@ix G c (sg r) (bs (c :: r)) (nm (c :: r))
    rw [io h91]
    by_cases h1 : c.toNat = 91
    ·refine jE [(0,_),(1,_)] Tryz.func53 Tryz.ntmps53 fun B hB=>?_
     repeat' (first | refine jR ?_ | (refine jo ?_;first | refine jO fun _=>?_ | refine aK F ?_ | refine ad F F F cx_sign F ?_) | refine ae F (aC oM) ?_)
     all_goals refine jY (vs:=[_]) ?_
     all_goals (rw [aE];unfold b5;rw [if_pos h1])
    have h2 : c.toNat = 63:=oM
    refine jE [(0,_),(1,_)] Tryz.func53 Tryz.ntmps53 fun B hB=>?_
    repeat' (first | refine jR ?_ | (refine jo ?_;first | refine jO fun _=>?_ | refine aK F ?_ | refine ad F F F cx_sign F ?_) | refine ae F (aC oM) ?_ | refine af F (aF oM) ?_)
    all_goals refine jY (vs:=[_]) ?_
    all_goals (rw [aE];unfold b5;rw [if_neg h1,if_pos h2])
   have hsg:=f4 (r:=r) h91
   have hcs:=dB (r:=r) h91
   rw [hsg]
   cases hrf : aL (ag qs) (c :: r) with
   | none =>
    have hrn : bc (aG (c :: r)) = none:=by
     cases hx : bc (aG (c :: r)) with
     | none=>rfl
     | some x =>
      obtain ⟨t,ht⟩:=f8 hk (by rw [hx];rfl)
      rw [hcs,hrf] at ht;cases ht
    have hpl:=qi hsg hko hrn
    have e3 : b5 (ag qs) (n + 1 + 1) (c :: r) = fC (bs (c :: r)):=by
     rw [b5,if_neg oM,if_neg oM,hrf];exact hpl
    rw [e3]
    rcases nw hko hrn with e | e | e
    all_goals
     rw [e]
     refine jE [(0,_),(1,_)] Tryz.func53 Tryz.ntmps53 fun B hB=>?_
     repeat' (first | refine jR ?_ | (refine jo ?_;first | refine jO fun _=>?_ | refine ah F ?_ | refine aK F ?_ | refine ad F F F di F ?_) | refine ae F F ?_ | refine af F F ?_)
     all_goals refine jY (vs:=[_]) ?_
     all_goals rfl
   | some t =>
    have hrn : (bc (aG (c :: r))).isSome = true:=by
     rw [hcs];unfold aL at hrf
     cases hx : bc (c :: r) with
     | none=>rw [hx] at hrf;cases hrf
     | some x=>rfl
    have hbs : bs (c :: r) = [64]:=(gB hko).2 hrn
    have hnm : bc (c :: r) = some (nm (c :: r)):=by
     unfold nm;rw [hcs] at hrn ⊢
     cases hx : bc (c :: r) with
     | none=>rw [hx] at hrn;cases hrn
     | some x=>rfl
    have hft : dK (ag qs) (nm (c :: r)) = some t:=by unfold aL at hrf;rw [hnm] at hrf;exact hrf
    have hkv:=d4 qs (nm (c :: r))
    rw [← fq] at hft
    rcases hfq : dU qs (nm (c :: r)) with _ | ⟨p,t'⟩
    ·rw [hfq] at hft;cases hft
    rw [hfq] at hft hkv
    dsimp only [Option.map_some] at hft hkv
    have htt : t' = t:=Option.some.inj hft
    subst htt
    have hqm:=fu hfq
    have htm:=bM hrf
    have hW:=hw.ty t' htm
    have htg:=hw.tag0 htm
    rw [iA] at htg
    obtain ⟨fv,ln,hsg2,hfv⟩:=h.ty _ hqm
    dsimp only at hsg2 hfv
    have e3 : b5 (ag qs) (n + 1 + 1) (c :: r) = if t'.sort = 82 then [123,125] else if t'.sort = 69 then 35 :: a8 (tag0 t') else 60 :: (a8 (tag0 t') ++ 61 :: (b5 (ag qs) (n + 1) (eV t') ++ [62])):=by
     rw [b5,if_neg oM,if_neg oM,hrf]
    rw [e3,iA,je,hbs]
    clear e3 hcs hsg hrn hnm hbs
    by_cases s1 : t'.sort = 82
    ·rw [if_pos s1]
     refine jE [(0,_),(1,_)] Tryz.func53 Tryz.ntmps53 fun B hB=>?_
     repeat' (first | refine jR ?_ | (refine jo ?_;first | refine jO fun _=>?_ | refine ah F ?_ | refine aK F ?_ | refine jV (ay F F aS F F) ?_ | refine ad F F F di F ?_) | refine ae F (aC oM) ?_ | refine af F F ?_ | (refine ak (ar (id:=13) _ (fun _ h=>h) aj ?_);refine jT 4 [0,1,2,4] (aa 8 23) ?_;(refine jG (aa 8 31) 3 F (ay F F aS F F) ?_);(refine jG (aa 8 63) 5 F (an F F F) ?_);((refine jG (aa 8 127) 6 F (bG F F (c9 aS) aS F) ?_));refine jT 0 [7] (aa 8 255) ?_;refine jQ ?_))
     all_goals refine jY (vs:=[_]) ?_
     all_goals rfl
    have h0 : 0 < t'.fields.length:=List.length_pos_iff.2 (hW.ne s1)
    obtain ⟨bf,of,cf,rfl,hsf⟩:=hfv.expl h0
    have hdl:=lT (n:=(ac t'.fields 0).tag) oM
    rw [if_neg s1]
    by_cases s2 : t'.sort = 69
    ·rw [if_pos s2]
     refine jE [(0,_),(1,_)] Tryz.func53 Tryz.ntmps53 fun B hB=>?_
     repeat' (first | refine jX ?_ | (refine jo ?_;first | refine jO fun _=>?_ | refine ah F ?_ | (refine jV (bq F F aS ?_ F F) ?_;focus omega) | refine aK F ?_ | refine jV (ay F F aS F F) ?_ | refine jV (al F F oM) ?_ | refine ad F F F di F ?_ | (refine ad F F F (fJ ?_) F ?_;(focus ((simp;omega);done)))) | refine ae F (aC oM) ?_ | (refine af F (by first | rfl | (refine decide_eq_false ?_;(omega))) ?_) | (refine ak (ar (id:=13) _ (fun _ h=>h) aj ?_);refine jT 4 [0,1,2,4] (aa 8 23) ?_;(refine jG (aa 8 31) 3 F (ay F F aS F F) ?_);(refine jG (aa 8 63) 5 F (an F F F) ?_);((refine jG (aa 8 127) 6 F (bG F F (c9 aS) aS F) ?_));refine jT 0 [7] (aa 8 255) ?_;refine jQ ?_))
     all_goals refine jY (vs:=[_]) ?_
     all_goals rfl
    have hin:=dv hw htm s2 (a7 h0)
    have hen : ∀ t2,aL (ag qs) (ac t'.fields 0).kind = some t2 → bJ (ag qs) n t2 = true:=by
     intro t2 ht2
     have:=he t' hrf
     have s3 : t'.sort = 85:=by rcases hW.sort with h | h | h <;> omega
     rw [bJ,if_neg (by simp [s3]),je,ht2] at this
     exact this
    have cx_std:=ih (k:=(ac t'.fields 0).kind) oM hin hen
    have hsl:=kE hw (n + 1) (ac t'.fields 0).kind
    rw [if_neg s2]
    refine jE [(0,_),(1,_)] Tryz.func53 Tryz.ntmps53 fun B hB=>?_
    repeat' (first | refine jR ?_ | (refine jo ?_;first | refine jO fun _=>?_ | refine ah F ?_ | refine aK F ?_ | refine jV (ay F F aS F F) ?_ | refine ad F F F di F ?_) | (refine af F (by first | rfl | (refine decide_eq_false ?_;(omega))) ?_) | (refine ak (ar (id:=13) _ (fun _ h=>h) aj ?_);refine jT 4 [0,1,2,4] (aa 8 23) ?_;(refine jG (aa 8 31) 3 F (ay F F aS F F) ?_);(refine jG (aa 8 63) 5 F (an F F F) ?_);((refine jG (aa 8 127) 6 F (bG F F (c9 aS) aS F) ?_));refine jT 0 [7] (aa 8 255) ?_;refine jQ ?_) | (refine ak (ar (id:=19) _ (fun _ h=>h) aj ?_);refine jT 15 [0,1,2,10,11,12,13] (aa 22 15367) ?_;(refine jG (aa 22 15375) 3 F (ay F F aS F F) ?_);(refine jG (aa 22 15391) 4 F (al F F oM) ?_);refine jT 12 [5] (aa 22 15423) ?_;((refine jG (aa 22 15487) 6 F (bq F F aS ?_ F F) ?_;focus omega));(refine jG (aa 22 31871) 14 F (ay F F aS F F) ?_);(refine jG (aa 22 64639) 15 F (al F F oM) ?_);refine jT 8 [16] (aa 22 130175) ?_;((refine jG (aa 22 261247) 17 F (du F F aS ?_ F F) ?_;focus omega));refine jA 7 F ?_;((refine ad F F F (fJ ?_) F ?_;(focus ((simp;omega);done))));refine jS (aa 22 261375) ?_;refine jW 4 [8,9] (aa 22 262143) ?_;refine jA 18 F ?_;(refine ad F F F cx_std F ?_);refine jS (aa 22 524287) ?_;refine jW 0 [19,20,21] (aa 22 4194303) ?_;refine jQ ?_))
    all_goals refine jY (vs:=[_]) ?_
    all_goals (rw [aE];simp)
theorem pH {b : Nat} {qs : List b8} (h : ScI G b qs) (hw : SchW (ag qs)) {k : abu} (hk : aJ (ag qs) k = true) : aI abt 53 [Pt b 0,Ag [S (sg k),S (bs k),S (nm k)]] G (· = S (lx (ag qs) k)) :=
 uT h hw ((ag qs).length + 1) (by have:=hw.len;omega) hk (fun t ht=>sf hw t ht)
end Go.E
