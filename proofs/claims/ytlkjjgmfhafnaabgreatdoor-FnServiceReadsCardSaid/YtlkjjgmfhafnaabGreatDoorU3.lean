/- Contracts and plain laws that the statement rests on, part 3. Conditions: as each says. -/
import Derived.Test.YtlkjjgmfhafnaabGreatDoorU2
set_option linter.unusedVariables false
set_option linter.unusedSimpArgs false
namespace Go.E
set_option maxRecDepth 20000
set_option maxHeartbeats 2000000
open Go.Proofs
variable {G : Gh}
def dL (cs : ye) (c : Nat) : Bool:=cs.any fun d=>d.toNat == c
def cA (p : Nat → Bool) : ye → ye
 | []=>[]
 | c :: r=>if p c.toNat = true then cA p r else c :: r
def dN (p : Nat → Bool) (s : ye) : ye:=(cA p s.reverse).reverse
abbrev lT : TypeId:=192
theorem fz {b : Nat} {p : Nat → Bool} {c : Nat} (h : c < 256) : cg yd 175 [Pt b 0,U8 c] G [.blk b (.cells (bR p).toArray lT (0,0))] (fun v L'=>v = Bo (p c) ∧ L' = [.blk b (.cells (bR p).toArray lT (0,0))]):=by
 refine jH [(0,_),(1,_)] Tryz.func175 Tryz.ntmps175 fun B hB hW=>?_
 repeat' (first | refine jR ?_ | (refine jo ?_;first | refine jV (oE F F oM) ?_ | refine jV (vE F F F aS) ?_))
 refine aM (vs:=[_]) F ⟨F,trivial⟩ F (List.Sublist.refl _) ⟨F,F,F⟩
theorem hC {b : Nat} {p : Nat → Bool} {s : ye} : cg yd 146 [S s,Pt b 0] G [.blk b (.cells (bR p).toArray lT (0,0))] (fun v L'=>v = S (cA p s) ∧ L' = [.blk b (.cells (bR p).toArray lT (0,0))]):=by
 refine jH [(0,_),(1,_)] Tryz.func146 Tryz.ntmps146 fun B hB hW=>?_
 repeat' (refine jR ?_)
 refine aT (ι:=ye) (fun t=>cA p t = cA p s) (fun t=>[(0,S t),(1,Pt b 0)]) (fun _=>G) (fun t=>[.blk b (.cells (bR p).toArray lT (0,0))]) (fun t=>t.length) s ?_ tU F bd (fun t Ht=>?_)
 ·rfl
 match t,Ht with
 | [],Ht =>
  repeat' (first | refine jR ?_ | refine af F F ?_)
  refine aM (vs:=[_]) F ⟨F,trivial⟩ F (List.Sublist.refl _) ⟨F,by rw [← Ht];rfl,rfl⟩
 | c :: r,Ht =>
  have hlt : bt (c :: r) (Int.toNat 0) < 256:=jm _ _
  have e0 : bt (c :: r) (Int.toNat 0) = c.toNat:=cL c r
  have hcons : (c :: r).length = r.length + 1:=rfl
  rw [cA] at Ht
  by_cases hp : p (bt (c :: r) (Int.toNat 0)) = true
  ·have hp2 : (!p (bt (c :: r) (Int.toNat 0))) = false:=by rw [hp];rfl
   repeat' (first | refine jM ?_ | (refine jo ?_;(refine an F F F (fz (by (repeat (assumption));done)) rfl ?_;rintro _ _ ⟨rfl,rfl⟩;dsimp only [zA,fA])) | refine ae F (aC oM) ?_ | refine af F ‹_› ?_)
   refine aW r (by rw [← Ht,← e0,if_pos hp]) oM tU F bd
  ·have hp2 : (!p (bt (c :: r) (Int.toNat 0))) = true:=by simpa using hp
   repeat' (first | refine jM ?_ | (refine jo ?_;(refine an F F F (fz (by (repeat (assumption));done)) rfl ?_;rintro _ _ ⟨rfl,rfl⟩;dsimp only [zA,fA])) | (refine ae F (by first | assumption | (refine decide_eq_true ?_;(omega))) ?_))
   refine aM (vs:=[_]) F ⟨F,trivial⟩ F (List.Sublist.refl _) ⟨F,by rw [← Ht,← e0,if_neg hp];rfl,rfl⟩
theorem na (p : Nat → Bool) : ∀ s : ye,(cA p s).length ≤ s.length
 | []=>Nat.le_refl _
 | c :: r=>by
  unfold cA
  split
  ·have:=na p r;simp;omega
  ·exact Nat.le_refl _
theorem rc (p : Nat → Bool) (s : ye) : (dN p s).length ≤ s.length:=by have:=na p s.reverse;simpa [dN] using this
theorem qf (p : Nat → Bool) (s : ye) (c : UInt8) : dN p (s ++ [c]) = if p c.toNat = true then dN p s else s ++ [c]:=by
 unfold dN
 rw [List.reverse_append]
 simp only [List.reverse_cons,List.reverse_nil,List.nil_append,List.singleton_append,cA]
 split <;> simp
theorem lL {b : Nat} {p : Nat → Bool} {s : ye} (hs : s.length ≤ 1000000000) : cg yd 147 [S s,Pt b 0] G [.blk b (.cells (bR p).toArray lT (0,0))] (fun v L'=>v = S (dN p s) ∧ L' = [.blk b (.cells (bR p).toArray lT (0,0))]):=by
 refine jH [(0,_),(1,_)] Tryz.func147 Tryz.ntmps147 fun B hB hW=>?_
 repeat' (refine jR ?_)
 refine aT (ι:=ye) (fun t=>t.length ≤ 1000000000 ∧ dN p t = dN p s) (fun t=>[(0,S t),(1,Pt b 0)]) (fun _=>G) (fun t=>[.blk b (.cells (bR p).toArray lT (0,0))]) (fun t=>t.length) s ?_ tU F bd (fun t Ht=>?_)
 ·exact ⟨hs,F⟩
 have hcase : t = [] ∨ ∃ r c,t = r ++ [c]:=by
  rcases List.eq_nil_or_concat t with h | ⟨r,c,h⟩
  ·exact .inl h
  ·exact .inr ⟨r,c,by rw [h,List.concat_eq_append]⟩
 rcases hcase with rfl | ⟨r,c,rfl⟩
 ·repeat' (first | refine jR ?_ | refine af F F ?_)
  refine aM (vs:=[_]) F ⟨F,trivial⟩ F (List.Sublist.refl _) ⟨F,by rw [← Ht.2];rfl,rfl⟩
 ·have hcons : (r ++ [c]).length = r.length + 1:=by simp
  have e1 : (((r ++ [c]).length : Nat) : Int) - 1 = (r.length : Nat):=oM
  have e2 : ((((r ++ [c]).length : Nat) : Int) - 1).toNat = r.length:=oM
  have e0 : bt (r ++ [c]) ((((r ++ [c]).length : Nat) : Int) - 1).toNat = c.toNat:=by rw [e2];simp [bt,List.getD]
  have hlt : bt (r ++ [c]) ((((r ++ [c]).length : Nat) : Int) - 1).toNat < 256:=jm _ _
  have e3 : (r ++ [c]).take ((((r ++ [c]).length : Nat) : Int) - 1).toNat = r:=by rw [e2];simp
  have Ht2:=Ht.2
  rw [qf] at Ht2
  have hne : r ++ [c] ≠ []:=by simp
  by_cases hp : p (bt (r ++ [c]) ((((r ++ [c]).length : Nat) : Int) - 1).toNat) = true
  ·have hp2 : (!p (bt (r ++ [c]) ((((r ++ [c]).length : Nat) : Int) - 1).toNat)) = false:=by rw [hp];rfl
   repeat' (first | refine jM ?_ | (refine jo ?_;(refine an F F F (fz (by (repeat (assumption));done)) rfl ?_;rintro _ _ ⟨rfl,rfl⟩;dsimp only [zA,fA])) | refine ae F (aC oM) ?_ | refine af F ‹_› ?_)
   refine aW r ⟨oM,by rw [← Ht2,← e0,if_pos hp]⟩ oM ?_ F bd
   rw [e3];repeat (first | exact trivial | refine ⟨F,?_⟩)
  ·have hp2 : (!p (bt (r ++ [c]) ((((r ++ [c]).length : Nat) : Int) - 1).toNat)) = true:=by simpa using hp
   repeat' (first | refine jM ?_ | (refine jo ?_;(refine an F F F (fz (by (repeat (assumption));done)) rfl ?_;rintro _ _ ⟨rfl,rfl⟩;dsimp only [zA,fA])) | (refine ae F (by first | assumption | (refine decide_eq_true ?_;(omega))) ?_))
   refine aM (vs:=[_]) F ⟨F,trivial⟩ F (List.Sublist.refl _) ⟨F,by rw [← Ht2,← e0,if_neg hp];rfl,rfl⟩
theorem sH (cs : ye) (i : Nat) (h : i < cs.length) : (fun x=>dL (cs.take i) x || x == bt cs i) = dL (cs.take (i + 1)):=by
 funext x
 have e : bt cs i = (cs[i]).toNat:=by simp [bt,List.getD,List.getElem?_eq_getElem h]
 have e2 : (x == (cs[i]).toNat) = ((cs[i]).toNat == x):=by rw [Bool.eq_iff_iff,beq_iff_eq,beq_iff_eq];exact eq_comm
 rw [List.take_succ_eq_append_getElem h,e,e2]
 simp only [dL,List.any_append,List.any_cons,List.any_nil,Bool.or_false]
theorem rZ {cs : ye} (h : cs.all (fun c=>decide (c.toNat < 128)) = true) : ∀ i,i < cs.length → bt cs i < 128:=fun i hi=>by
 have e : bt cs i = (cs[i]).toNat:=by simp [bt,List.getD,List.getElem?_eq_getElem hi]
 rw [List.all_eq_true] at h
 rw [e]
 simpa using h cs[i] (List.getElem_mem hi)
theorem ix {cs : ye} (hc : ∀ i,i < cs.length → bt cs i < 128) (hl : cs.length ≤ 1000) : aI yd 145 [S cs] G (· = Tu [Ag (bR (dL cs)),Bo true]):=by
 refine jE [(0,_)] Tryz.func145 Tryz.ntmps145 fun B hB=>?_
 repeat' (first | refine jR ?_ | (refine jo ?_;refine o9 F F fun _=>?_))
 rename_i x
 refine aT (ι:=Nat) (fun i=>i ≤ cs.length) (fun i=>[(0,S cs),(2,Pt x 0),(4,I i)]) (fun _=>G) (fun i=>[.blk x (.cells (bR (dL (cs.take i))).toArray lT (0,0))]) (fun i=>cs.length - i) 0 ?_ tU F bd (fun i Hi=>?_)
 ·exact Nat.zero_le _
 by_cases hi : i < cs.length
 ·have h1 : bt cs ((i : Int).toNat) < 128:=hc i hi
  have h2 : bt cs ((i : Int).toNat) < 256:=oM
  repeat' (first | refine jM ?_ | (refine jo ?_;first | refine v5 F F F F aS ?_ | refine jV (oE F F oM) ?_) | refine ae F (aC oM) ?_ | refine af F (aF oM) ?_)
  refine aW (i + 1) oM oM tU F (by rw [← sH cs i hi];repeat (exact List.Sublist.refl _))
 ·have ei : i = cs.length:=oM
  subst ei
  repeat' (first | refine jR ?_ | (refine jo ?_;first | refine jV (vD F F F F) ?_ | refine oT F F F F ?_) | refine af F (aF oM) ?_)
  refine jZ (vs:=[_,_]) F ⟨ww F F F F,F,trivial⟩ F ⟨F,F,?_⟩
  rw [List.take_length];rfl
theorem rV {s cs : ye} (h2 : Nat.ble 2 cs.length = true) (hc : cs.all (fun c=>decide (c.toNat < 128)) = true) (hl : Nat.ble cs.length 1000 = true) (hs : s.length ≤ 2000000) : aI yd 107 [S s,S cs] G (· = S (cA (dL cs) (dN (dL cs) s))):=by
 have h2:=Nat.le_of_ble_eq_true h2
 have hl:=Nat.le_of_ble_eq_true hl
 have cx_mkas:=ix (G:=G) (rZ hc) hl
 by_cases h0 : s = []
 ·subst h0
  refine jE [(0,_),(1,_)] Tryz.func107 Tryz.ntmps107 fun B hB=>?_
  repeat' (first | refine jR ?_ | (refine jo ?_;refine aV F ?_) | refine aU F F F ?_ | refine ae F F ?_)
  all_goals refine jY (vs:=[_]) ?_
  all_goals rfl
 have hn : ¬ cs = []:=by rintro rfl;simp at h2
 have hr:=rc (dL cs) s
 refine jE [(0,_),(1,_)] Tryz.func107 Tryz.ntmps107 fun B hB=>?_
 repeat' (first | refine jR ?_ | (refine jo ?_;first | refine aG F ?_ | refine o9 F F fun _=>?_ | refine oT F F F F ?_ | refine ad F F F cx_mkas F ?_ | (refine an F F F (lL oM) F ?_;rintro _ _ ⟨rfl,rfl⟩;dsimp only [zA,fA]) | (refine an F F F hC F ?_;rintro _ _ ⟨rfl,rfl⟩;dsimp only [zA,fA])) | (refine aE F F (by refine decide_eq_false ?_;first | assumption | omega) ?_) | refine ae F F ?_ | (refine af F (by first | rfl | (refine decide_eq_false ?_;(assumption))) ?_))
 all_goals refine jY (vs:=[_]) ?_
 all_goals rfl
theorem jl {s cs : ye} (h2 : Nat.ble 2 cs.length = true) (hc : cs.all (fun c=>decide (c.toNat < 128)) = true) (hl : Nat.ble cs.length 1000 = true) : aI yd 123 [S s,S cs] G (· = S (cA (dL cs) s)):=by
 have h2:=Nat.le_of_ble_eq_true h2
 have hl:=Nat.le_of_ble_eq_true hl
 have cx_mkas:=ix (G:=G) (rZ hc) hl
 by_cases h0 : s = []
 ·subst h0
  refine jE [(0,_),(1,_)] Tryz.func123 Tryz.ntmps123 fun B hB=>?_
  repeat' (first | refine jR ?_ | (refine jo ?_;refine aV F ?_) | refine aU F F F ?_ | refine ae F F ?_)
  all_goals refine jY (vs:=[_]) ?_
  all_goals rfl
 have hn : ¬ cs = []:=by rintro rfl;simp at h2
 refine jE [(0,_),(1,_)] Tryz.func123 Tryz.ntmps123 fun B hB=>?_
 repeat' (first | refine jR ?_ | (refine jo ?_;first | refine aG F ?_ | refine o9 F F fun _=>?_ | refine oT F F F F ?_ | refine ad F F F cx_mkas F ?_ | (refine an F F F hC F ?_;rintro _ _ ⟨rfl,rfl⟩;dsimp only [zA,fA])) | (refine aE F F (by refine decide_eq_false ?_;first | assumption | omega) ?_) | refine ae F F ?_ | (refine af F (by first | rfl | (refine decide_eq_false ?_;(assumption))) ?_))
 all_goals refine jY (vs:=[_]) ?_
 all_goals rfl
theorem m9 {p : Nat → Bool} : ∀ {s : ye},cA p s = [] ↔ ∀ c ∈ s,p c.toNat = true
 | []=>by simp [cA]
 | c :: r=>by
  unfold cA
  by_cases h : p c.toNat = true
  ·rw [if_pos h,m9];simp [h]
  ·rw [if_neg h];simp [h]
theorem ra {p : Nat → Bool} {s : ye} : (∀ c ∈ dN p s,p c.toNat = true) ↔ ∀ c ∈ s,p c.toNat = true:=by
 have key : ∀ l : ye,(∀ c ∈ cA p l,p c.toNat = true) ↔ ∀ c ∈ l,p c.toNat = true:=by
  intro l
  induction l with
  | nil=>simp [cA]
  | cons c r ih =>
   unfold cA
   by_cases h : p c.toNat = true
   ·rw [if_pos h,ih];simp [h]
   ·rw [if_neg h]
 unfold dN
 have:=key s.reverse
 simpa using this
theorem nQ {p : Nat → Bool} {s : ye} : cA p (dN p s) = [] ↔ ∀ c ∈ s,p c.toNat = true:=by rw [m9,ra]
def p8 : ye:=[97,98,99,100,101,102,103,104,105,106,107,108,109,110,111,112,113,114,115,116,117,118,119,120,121,122]
def nP : ye:=p8 ++ [48,49,50,51,52,53,54,55,56,57,32]
theorem w9 (c : UInt8) : dL p8 c.toNat = gX c:=by
 have : ∀ n : Nat,n < 256 → dL p8 n = decide (97 ≤ n ∧ n ≤ 122):=by decide +kernel
 rw [this _ c.toNat_lt];rfl
theorem wo (c : UInt8) : dL nP c.toNat = decide (gf c.toNat):=by
 have : ∀ n : Nat,n < 256 → dL nP n = decide (gf n):=by decide +kernel
 exact this _ c.toNat_lt
theorem uN (s : ye) : cA (dL p8) (dN (dL p8) s) = [] ↔ s.all gX = true:=by
 rw [nQ,List.all_eq_true]
 exact forall_congr' fun c=>forall_congr' fun _=>by rw [w9]
theorem co {s : ye} (h : s.length ≤ 2000000) : aI yd 66 [S s] G (· = Bo (bH s)):=by
 have cx_trim:=rV (G:=G) (s:=s) (cs:=p8) rfl kR rfl h
 by_cases hl : 1 ≤ s.length ∧ s.length ≤ 3
 ·refine jE [(0,_)] Tryz.func66 Tryz.ntmps66 fun B hB=>?_
  repeat' (first | refine jR ?_ | (refine jo ?_;first | refine aG F ?_ | refine ad F F F cx_trim F ?_) | refine aE F F (aF oM) ?_ | refine af F (aF oM) ?_)
  all_goals refine jY (vs:=[_]) ?_
  have:=uN s
  unfold bH
  rw [decide_eq_true hl,Bool.and_true]
  refine congrArg Bo ?_
  rw [Bool.eq_iff_iff]
  simpa using this
 ·have e : bH s = false:=by unfold bH;rw [decide_eq_false hl,Bool.and_false]
  rw [e]
  refine jE [(0,_)] Tryz.func66 Tryz.ntmps66 fun B hB=>?_
  repeat' (first | refine jR ?_ | (refine jo ?_;first | refine aV F ?_ | refine aG F ?_) | refine dm F F (fun _=>?_) (fun _=>?_) | (refine ae F (by first | rfl | (refine decide_eq_true ?_;(omega))) ?_))
  all_goals refine jY (vs:=[_]) ?_
  all_goals rfl
theorem qO (s : ye) : ay s = cA (dL [91,63]) s:=by
 induction s with
 | nil=>rfl
 | cons c r ih =>
  have e : dL [91,63] c.toNat = decide (c.toNat = 91 ∨ c.toNat = 63):=by
   have : ∀ n : Nat,n < 256 → dL [91,63] n = decide (n = 91 ∨ n = 63):=by decide +kernel
   exact this _ c.toNat_lt
  unfold ay cA
  rw [e]
  by_cases h : c.toNat = 91 ∨ c.toNat = 63
  ·simp only [h,if_true,decide_true];exact ih
  ·simp [h]
theorem ot : ∀ {s : ye},dV (ay s) = dV s
 | []=>rfl
 | c :: r=>by
  unfold ay
  split
  ·rename_i h;rw [ot];conv=>{ rhs;unfold dV };rw [if_pos h]
  ·rfl
def eH (s : ye) : List Value:=[S (sg s),S (bs s),S (nm s)]
def r6 (s : ye) (v : Value) : Prop:=∃ a b c,v = Tu [Ag [S a,S b,S c],Bo (be s)] ∧ (be s = true → a = sg s ∧ b = bs s ∧ c = nm s)
theorem pc {s p : ye} (hp : p.length ≤ 1000000000) (hs : s.length ≤ 1000000000) : aI yd 165 [S s,S p] G (· = Bo (decide (p.length ≤ s.length ∧ s.drop (s.length - p.length) = p))):=by
 by_cases h : p.length ≤ s.length
 ·have e : (((s.length : Nat) : Int) - ((p.length : Nat) : Int)).toNat = s.length - p.length:=oM
  refine jE [(0,_),(1,_)] Tryz.func165 Tryz.ntmps165 fun B hB=>?_
  repeat' (first | refine jM ?_ | (refine jo ?_;refine aV F ?_) | refine aU F F (aC oM) ?_)
  all_goals refine jY (vs:=[_]) ?_
  all_goals (rw [e];simp [h];try rfl)
 ·refine jE [(0,_),(1,_)] Tryz.func165 Tryz.ntmps165 fun B hB=>?_
  repeat' (first | refine jR ?_ | (refine jo ?_;refine aG F ?_) | refine aE F F (aF oM) ?_)
  all_goals refine jY (vs:=[_]) ?_
  all_goals (simp [h];try rfl)
theorem lc {s p : ye} (hp : p.length ≤ 1000000000) (hs : s.length ≤ 1000000000) : aI yd 125 [S s,S p] G (· = Bo (decide (p.length ≤ s.length ∧ s.drop (s.length - p.length) = p))):=by
 refine jE [(0,_),(1,_)] Tryz.func125 Tryz.ntmps125 fun B hB=>?_
 repeat' (first | refine jR ?_ | (refine jo ?_;refine ad F F F (pc oM oM) F ?_))
 all_goals refine jY (vs:=[_]) ?_
 all_goals rfl
theorem u6 {c : UInt8} {r : ye} : (1 ≤ (c :: r).length ∧ (c :: r).drop ((c :: r).length - 1) = [59]) ↔ bt (c :: r) r.length = 59:=by
 have hl : (c :: r).length - 1 = r.length:=by simp
 rw [hl]
 have hlt : r.length < (c :: r).length:=by simp
 obtain ⟨d,h1,h2⟩:=kN hlt
 rw [h1,h2]
 have h3 : (c :: r).drop (r.length + 1) = []:=by simp
 rw [h3]
 constructor
 ·rintro ⟨_,h⟩;simp only [List.cons.injEq,and_true] at h;rw [h];rfl
 ·intro h;exact ⟨by simp,by rw [show d = 59 from UInt8.toNat_inj.1 h]⟩
theorem ky : ∀ {s : ye} {c : UInt8} {r : ye},ay s = c :: r → ¬ (c.toNat = 91 ∨ c.toNat = 63)
 | [],c,r,h=>by simp [ay] at h
 | d :: s,c,r,h=>by
  unfold ay at h
  split at h
  ·exact ky h
  ·rename_i hd
   simp only [List.cons.injEq] at h
   rw [← h.1];exact hd
theorem pn {s t : ye} (h : s.length ≤ 12) (ht : ay s = t) : aI yd 88 [S s] G (r6 s):=by
 have cx_triml : aI yd 123 [S s,S [91,63]] G (· = S t):=by
  rw [← ht,qO]
  exact jl F kR F
 have hcl:=jf s
 rw [ht] at hcl
 have ek : be s = dV t:=by unfold be;rw [decide_eq_true h,Bool.true_and,← ht,ot]
 have esg : s.take (((s.length : Nat) : Int) - ((t.length : Nat) : Int)).toNat = sg s:=by
  unfold sg;rw [ht];congr 1;omega
 have ebs : bs s = lf t:=by unfold bs;rw [ht]
 have enm : nm s = (a9 t).getD []:=by unfold nm;rw [ht]
 have hns : ∀ c r,t = c :: r → ¬ (c.toNat = 91 ∨ c.toNat = 63):=fun c r e=>ky (ht.trans e)
 clear ht
 match t,hcl,ek,ebs,enm,cx_triml,esg,hns with
 | [],hcl,ek,ebs,enm,cx_triml,esg,hns =>
  have hno : be s = false:=by rw [ek];rfl
  have cx_suf:=lc (G:=G) (s:=[]) (p:=[59]) (by simp) (by simp)
  refine jE [(0,_)] Tryz.func88 Tryz.ntmps88 fun B hB=>?_
  repeat' (first | refine jM ?_ | (refine jo ?_;first | refine jL fun _=>?_ | refine jV (aq F F) ?_ | refine jC F F F ?_ | refine aG F ?_ | refine ad F F F cx_triml F ?_ | refine ad F F F fW F ?_) | refine aE F F F ?_ | (refine af F (by first | rfl | (refine decide_eq_false ?_;(omega))) ?_))
  all_goals refine jZ (vs:=[_,_]) F ⟨aB F F F F,F,trivial⟩ F ⟨F,F,?_⟩
  all_goals exact ⟨[],[],[],by rw [hno];rfl,fun h=>by rw [hno] at h;cases h⟩
 | c :: r,hcl,ek,ebs,enm,cx_triml,esg,hns =>
  by_cases hA : c :: r = [110] ∨ c :: r = [116] ∨ c :: r = [102]
  ·rcases hA with hA | hA | hA
   all_goals (simp only [List.cons.injEq] at hA;obtain ⟨rfl,rfl⟩:=hA)
   all_goals have hyes : be s = true:=by rw [ek];rfl
   all_goals refine jE [(0,_)] Tryz.func88 Tryz.ntmps88 fun B hB=>?_
   all_goals repeat' (first | refine jM ?_ | (refine jo ?_;first | refine jL fun _=>?_ | refine jV (aq F F) ?_ | refine jD F F F ?_ | refine jC F F F ?_ | refine aV F ?_ | refine aG F ?_ | refine aZ F ?_ | refine ad F F F cx_triml F ?_) | refine aU F F F ?_ | refine aE F F F ?_ | refine ae F F ?_ | refine af F (aF oM) ?_)
   all_goals refine jZ (vs:=[_,_]) F ⟨aB F F F F,F,trivial⟩ F ⟨F,F,?_⟩
   all_goals exact ⟨_,_,_,by rw [hyes];rfl,fun _=>⟨esg,by rw [ebs];rfl,by rw [enm];rfl⟩⟩
  simp only [not_or] at hA
  obtain ⟨hA1,hA2,hA3⟩:=hA
  by_cases hc : c = 64
  case neg =>
   have hc' : ¬ c.toNat = 64:=fun h=>hc (UInt8.toNat_inj.1 h)
   have hno : be s = false:=by
    rw [ek,dV,if_neg (hns c r rfl),if_neg hc']
    by_cases hr : r = []
    ·subst hr
     have n1 : ¬ c.toNat = 110:=fun h=>hA1 (by rw [show c = 110 from UInt8.toNat_inj.1 h])
     have n2 : ¬ c.toNat = 116:=fun h=>hA2 (by rw [show c = 116 from UInt8.toNat_inj.1 h])
     have n3 : ¬ c.toNat = 102:=fun h=>hA3 (by rw [show c = 102 from UInt8.toNat_inj.1 h])
     simp [n1,n2,n3]
    ·simp [hr]
   have hp : ([64] : ye).isPrefixOf (c :: r) = false:=by simp [List.isPrefixOf];exact fun h=>hc h.symm
   refine jE [(0,_)] Tryz.func88 Tryz.ntmps88 fun B hB=>?_
   repeat' (first | refine jM ?_ | (refine jo ?_;first | refine jL fun _=>?_ | refine jV (aq F F) ?_ | refine jC F F F ?_ | refine aG F ?_ | refine ad F F F cx_triml F ?_ | refine ad F F F fW F ?_) | (refine aE F F (by first | assumption | (refine decide_eq_false ?_;(assumption))) ?_) | (refine af F (by first | rfl | (refine decide_eq_false ?_;first | assumption | omega)) ?_))
   all_goals refine jZ (vs:=[_,_]) F ⟨aB F F F F,F,trivial⟩ F ⟨F,F,?_⟩
   all_goals exact ⟨[],[],[],by rw [hno];rfl,fun h=>by rw [hno] at h;cases h⟩
  subst hc
  have hp : ([64] : ye).isPrefixOf (64 :: r) = true:=by simp [List.isPrefixOf]
  have hsuf:=lc (G:=G) (s:=64 :: r) (p:=[59]) (by simp) (by simp at hcl ⊢;omega)
  have ek2 : be s = (decide (bt (64 :: r) r.length = 59) && bH (r.take (r.length - 1))):=by
   rw [ek,dV,if_neg dC,if_pos dC]
   congr 1
   refine decide_eq_decide.2 ?_
   omega
  have hsb:=u6 (c:=64) (r:=r)
  by_cases hb : bt (64 :: r) r.length = 59
  case neg =>
   have cx_suf : aI yd 125 [S (64 :: r),S [59]] G (· = Bo false):=by
    have e : decide (([59] : ye).length ≤ (64 :: r : ye).length ∧ (64 :: r : ye).drop ((64 :: r : ye).length - ([59] : ye).length) = [59]) = false:=decide_eq_false fun h=>hb (hsb.1 h)
    rwa [e] at hsuf
   have hno : be s = false:=by rw [ek2,decide_eq_false hb,Bool.false_and]
   refine jE [(0,_)] Tryz.func88 Tryz.ntmps88 fun B hB=>?_
   repeat' (first | refine jM ?_ | (refine jo ?_;first | refine jL fun _=>?_ | refine jV (aq F F) ?_ | refine jC F F F ?_ | refine aV F ?_ | refine aG F ?_ | refine ad F F F cx_triml F ?_ | refine ad F F F fW F ?_ | refine ad F F F cx_suf F ?_) | refine aU F F F ?_ | refine aE F F F ?_ | (refine af F (by first | rfl | (refine decide_eq_false ?_;(omega))) ?_))
   all_goals refine jZ (vs:=[_,_]) F ⟨aB F F F F,F,trivial⟩ F ⟨F,F,?_⟩
   all_goals exact ⟨[],[],[],by rw [hno];rfl,fun h=>by rw [hno] at h;cases h⟩
  have cx_suf : aI yd 125 [S (64 :: r),S [59]] G (· = Bo true):=by
   have e : decide (([59] : ye).length ≤ (64 :: r : ye).length ∧ (64 :: r : ye).drop ((64 :: r : ye).length - ([59] : ye).length) = [59]) = true:=decide_eq_true (hsb.2 hb)
   rwa [e] at hsuf
  have hr : 1 ≤ r.length:=by
   cases r with
   | nil=>exact absurd hb dC
   | cons=>simp
  have hl2 : (64 :: r : ye).length = r.length + 1:=rfl
  have e1 : ((64 :: r : ye).take ((((64 :: r : ye).length : Nat) : Int) - 1).toNat).drop (Int.toNat 1) = r.take (r.length - 1):=by
   have e2 : ((((64 :: r : ye).length : Nat) : Int) - 1).toNat = (r.length - 1) + 1:=oM
   rw [e2,List.take_succ_cons];rfl
  have hyes : be s = bH (r.take (r.length - 1)):=by rw [ek2,decide_eq_true hb,Bool.true_and]
  have cx_isnm : aI yd 66 [S (((64 :: r : ye).take ((((64 :: r : ye).length : Nat) : Int) - 1).toNat).drop (Int.toNat 1))] G (· = Bo (bH (r.take (r.length - 1)))):=by
   rw [e1];exact co (by simp at hcl ⊢;omega)
  refine jE [(0,_)] Tryz.func88 Tryz.ntmps88 fun B hB=>?_
  repeat' (first | refine jM ?_ | (refine jo ?_;first | refine jL fun _=>?_ | refine jV (aq F F) ?_ | refine jD F F F ?_ | refine jC F F F ?_ | refine aV F ?_ | refine aG F ?_ | refine ad F F F cx_triml F ?_ | refine ad F F F fW F ?_ | refine ad F F F cx_suf F ?_) | refine aU F F F ?_ | refine aE F F F ?_ | refine ae F F ?_ | (refine af F (by first | rfl | (refine decide_eq_false ?_;(omega))) ?_) | (refine al (c7 (id:=11) (tt:=2) F ak ?_);refine jW 5 [1] (aa 6 2) ?_;(refine jG (aa 6 3) 0 F (bJ F F F F) ?_);(refine jG (aa 6 7) 2 F (aD F F F) ?_);refine jA 3 F ?_;(refine ad F F F cx_isnm F ?_);refine jK (aa 6 15) ?_;refine jA 4 F ?_;(refine jC F F F ?_);refine jK (aa 6 31) ?_;refine jW 0 [5] (aa 6 63) ?_;refine jQ ?_))
  all_goals refine jZ (vs:=[_,_]) F ⟨aB F F F F,F,trivial⟩ F ⟨F,F,?_⟩
  all_goals exact ⟨_,_,_,by rw [hyes];rfl,fun _=>⟨esg,by rw [ebs];rfl,by rw [enm,e1];rfl⟩⟩
theorem jh {s : ye} (h : s.length ≤ 2000000) : aI yd 88 [S s] G (r6 s):=by
 by_cases hl : s.length ≤ 12
 ·exact pn hl F
 have e : be s = false:=by unfold be;rw [decide_eq_false hl,Bool.false_and]
 refine jE [(0,_)] Tryz.func88 Tryz.ntmps88 fun B hB=>?_
 repeat' (first | refine jR ?_ | (refine jo ?_;first | refine jL fun _=>?_ | refine jV (aq F F) ?_ | refine jC F F F ?_) | refine ae F (aC oM) ?_)
 all_goals refine jZ (vs:=[_,_]) F ⟨aB F F F F,F,trivial⟩ F ⟨F,F,?_⟩
 all_goals exact ⟨[],[],[],by rw [e];rfl,fun h=>by rw [e] at h;cases h⟩
theorem q7 {c : UInt8} (h : 48 ≤ c.toNat) : u8 (48 + ((c.toNat : Int) - 48)) = c:=by
 apply UInt8.toNat_inj.1
 have h2:=c.toNat_lt
 have:=fY (a:=48 + ((c.toNat : Int) - 48)) oM
 omega
theorem oL : ∀ {s : ye} {n m : Int},1 ≤ n → ch n s = some m → a7 m = a7 n ++ s ∧ n ≤ m
 | [],n,m,h0,h=>by simp only [ch,Option.some.injEq] at h;subst h;simp
 | c :: r,n,m,h0,h=>by
  unfold ch at h
  split at h
  ·rename_i hc
   have ih:=oL (s:=r) oM h
   refine ⟨?_,oM⟩
   have e1 : (10 * n + ((c.toNat : Int) - 48)) / 10 = n:=oM
   have e2 : (10 * n + ((c.toNat : Int) - 48)) % 10 = (c.toNat : Int) - 48:=oM
   rw [ih.1,gu (n:=10 * n + ((c.toNat : Int) - 48)) oM,e1,e2,q7 hc.1];simp
  ·cases h
theorem kx : ∀ (k : Nat) {m : Int},m.toNat ≤ k → 1 ≤ m → ∃ c r,a7 m = c :: r ∧ c.toNat ≠ 48
 | 0,m,h,h1=>by omega
 | k + 1,m,h,h1=>by
  by_cases hm : m < 10
  ·refine ⟨_,[],cK hm oM,?_⟩
   have:=fY (a:=48 + m) oM
   omega
  ·obtain ⟨c,r,e,hc⟩:=kx k (m:=m / 10) oM oM
   exact ⟨c,r ++ [u8 (48 + m % 10)],by rw [gu hm,e];rfl,hc⟩
theorem mY : ∀ {s : ye} {n m : Int},0 ≤ n → ch n s = some m → 0 ≤ m
 | [],n,m,h0,h=>by simp only [ch,Option.some.injEq] at h;omega
 | c :: r,n,m,h0,h=>by
  unfold ch at h
  split at h
  ·exact mY (s:=r) oM h
  ·cases h
theorem pS {c : UInt8} {r : ye} {m : Int} (h : ch 0 (c :: r) = some m) : c :: r = a7 m ↔ ¬ (c.toNat = 48 ∧ r ≠ []):=by
 have h':=h
 unfold ch at h
 split at h
 ·rename_i hc
  by_cases h0 : c.toNat = 48
  ·have e0 : (10 * 0 + ((c.toNat : Int) - 48)) = 0:=oM
   rw [e0] at h
   constructor
   ·rintro e ⟨_,hr⟩
    have hm:=mY (Int.le_refl 0) h
    rcases Int.lt_or_le m 1 with h1 | h1
    ·have : m = 0:=oM
     subst this
     rw [cK oM oM] at e
     simp only [List.cons.injEq] at e
     exact hr e.2
    ·obtain ⟨d,t,e2,hd⟩:=kx m.toNat (Nat.le_refl _) h1
     rw [e2] at e
     simp only [List.cons.injEq] at e
     exact hd (by rw [← e.1];exact h0)
   ·intro hn
    have hr : r = []:=by
     by_cases hr : r = []
     ·exact hr
     ·exact absurd ⟨h0,hr⟩ hn
    subst hr
    simp only [ch,Option.some.injEq] at h
    subst h
    rw [cK oM oM]
    congr 1
    apply UInt8.toNat_inj.1
    have:=fY (a:=48 + 0) oM
    omega
  ·have:=oL oM h
   rw [this.1,cK oM oM]
   have e : (10 * 0 + ((c.toNat : Int) - 48)) = (c.toNat : Int) - 48:=oM
   rw [e,q7 hc.1]
   simp [h0]
 ·cases h
theorem iw {s : ye} {top : Int} (h : s.length ≤ 100000000) : aI yd 135 [S s,I top] G (fun v=>∃ n,v = Tu [I n,Bo (aQ s top).isSome] ∧ (∀ m,aQ s top = some m → n = m) ∧ 0 ≤ n ∧ n ≤ 999999):=by
  by_cases hl : 1 ≤ s.length ∧ s.length ≤ 6
  case neg =>
    have hno : aQ s top = none:=by
      unfold aQ
      by_cases h6 : s.length ≤ 6
      · have : s = []:=List.length_eq_zero_iff.1 oM
        subst this
        rw [if_pos (by simp)]
        simp [ch,cK]
      · rw [if_neg h6]
    refine jE [(0,_),(1,_)] Tryz.func135 Tryz.ntmps135 fun B hB=>?_
    repeat' (first | refine jR ?_ | (refine jo ?_;first | refine aV F ?_ | refine aG F ?_) | (refine aU F F (by first | rfl | (refine decide_eq_true ?_;(omega))) ?_) | refine dm F F (fun _=>?_) (fun _=>?_) | refine ae F F ?_)
    all_goals refine jY (vs:=[_,_]) ?_
    all_goals exact ⟨_,by rw [hno];rfl,fun m hm=>(by rw [hno] at hm;cases hm),by decide,by decide⟩
  by_cases hz : bt s 0 = 48 ∧ 1 < s.length
  · have hz0 : bt s (Int.toNat 0) = 48:=hz.1
    have hno : aQ s top = none:=by
      match s,hz,hl with
      | c :: r,hz,hl =>
        unfold aQ
        rw [if_pos hl.2]
        split
        · rename_i n hn
          rw [if_neg]
          rintro ⟨e,_⟩
          rw [cL] at hz
          exact (pS hn).1 e ⟨hz.1,by rintro rfl;simp at hz⟩
        · rfl
    refine jE [(0,_),(1,_)] Tryz.func135 Tryz.ntmps135 fun B hB=>?_
    repeat' (first | refine jM ?_ | (refine jo ?_;first | refine aV F ?_ | refine aG F ?_) | refine aU F F (aC oM) ?_ | refine aE F F (aF oM) ?_ | refine ae F (aC oM) ?_)
    all_goals refine jY (vs:=[_,_]) ?_
    all_goals exact ⟨_,by rw [hno];rfl,fun m hm=>(by rw [hno] at hm;cases hm),by decide,by decide⟩
  have hz0 : ¬ (bt s (Int.toNat 0) = 48 ∧ 1 < s.length):=hz
  have key : aQ s top = match ch 0 s with
      | some n=>if n ≤ top then some n else none
      | none=>none:=by
    match s,hz,hl with
    | c :: r,hz,hl =>
      unfold aQ
      rw [if_pos hl.2]
      cases hd : ch 0 (c :: r) with
      | some n =>
        have hn:=hd
        have : c :: r = a7 n:=(pS hn).2 (by rw [cL] at hz;rintro ⟨h1,h2⟩;exact hz ⟨h1,by have:=List.length_pos_iff.2 h2;simp;omega⟩)
        dsimp only
        rw [← this]
        simp
      | none=>rfl
  refine jE [(0,_),(1,_)] Tryz.func135 Tryz.ntmps135 fun B hB=>?_
  repeat' (first | refine jM ?_ | (refine jo ?_;first | refine aV F ?_ | refine aG F ?_) | refine aE F F (aF oM) ?_ | refine dm F F (fun _=>?_) (fun _=>?_) | (refine af F (by first | rfl | (refine decide_eq_false ?_;(omega))) ?_))
  all_goals (refine aT (ι:=Nat × Int) (fun i=>(i.1 ≤ s.length ∧ i.1 ≤ 6) ∧ (0 ≤ i.2 ∧ i.2 + 1 ≤ 10 ^ i.1) ∧ ch i.2 (s.drop i.1) = ch 0 s) (fun i=>[(0,S s),(1,I top),(6,I i.2),(27,I s.length),(28,I i.1)]) (fun _=>G) (fun i=>[]) (fun i=>s.length - i.1) (0,0) ?_ tU F bd (fun i Hi=>?_))
  all_goals (first | exact ⟨⟨by dsimp only;omega,by dsimp only;omega⟩,⟨by dsimp only;omega,by dsimp only;decide⟩,rfl⟩ | skip)
  all_goals obtain ⟨i,n⟩:=i
  all_goals dsimp only at Hi ⊢
  all_goals by_cases hi : i < s.length
  all_goals first
    | (obtain ⟨c,hc1,hc2⟩:=kN hi
       have hc3 : bt s ((i : Int).toNat) = c.toNat:=hc2
       have hd:=Hi.2.2
       rw [hc1,ch] at hd
       have h5 : i ≤ 5:=oM
       have hp:=sw i h5
       by_cases hdig : 48 ≤ c.toNat ∧ c.toNat ≤ 57
       · rw [if_pos hdig] at hd
         repeat' (first | refine jM ?_ | (refine jo ?_;refine aG F ?_) | refine aE F F (aF oM) ?_ | refine ae F (aC oM) ?_ | refine af F (aF oM) ?_)
         refine aW (i + 1,10 * n + ((c.toNat : Int) - 48)) ⟨⟨by dsimp only;omega,by dsimp only;omega⟩,⟨by dsimp only;omega,by dsimp only;rw [hp.1];omega⟩,hd⟩ (by dsimp only;omega) ?_ rfl bd
         rw [← hc2];repeat (first | exact trivial | refine ⟨F,?_⟩)
       · rw [if_neg hdig] at hd
         have hno : aQ s top = none:=by rw [key,← hd]
         repeat' (first | refine jM ?_ | (refine jo ?_;first | refine aV F ?_ | refine aG F ?_) | refine dm F F (fun _=>?_) (fun _=>?_) | (refine ae F (by first | rfl | (refine decide_eq_true ?_;(omega))) ?_))
         all_goals refine jY (vs:=[_,_]) ?_
         all_goals exact ⟨_,by rw [hno];rfl,fun m hm=>(by rw [hno] at hm;cases hm),by decide,by decide⟩)
    | (have ei : i = s.length:=oM
       have hd:=Hi.2.2
       rw [ei,List.drop_length,ch] at hd
       have hno : aQ s top = if n ≤ top then some n else none:=by rw [key,← hd]
       repeat' (first | refine jR ?_ | refine af F (aF oM) ?_)
       refine jY (vs:=[_,_]) ?_
       have hp6 : ∀ i : Nat,i ≤ 6 → (10 : Int) ^ i ≤ 1000000:=by decide
       have hp7:=hp6 i oM
       have hlo:=Hi.2.1.1
       have hhi:=Hi.2.1.2
       refine ⟨n,?_,fun m hm=>?_,oM,oM⟩
       · rw [hno,eo]
         by_cases ht : n ≤ top
         · rw [if_pos ht,decide_eq_true ht];rfl
         · rw [if_neg ht,decide_eq_false ht];rfl
       · rw [hno] at hm
         split at hm
         · exact Option.some.inj hm
         · cases hm)
theorem eO {s : ye} {top : Int} (h : s.length ≤ 100000000) : aI yd 135 [S s,I top] G (fun v=>∃ n,v = Tu [I n,Bo (aQ s top).isSome] ∧ (∀ m,aQ s top = some m → n = m)):=by
 refine (iw (G:=G) h).mono ?_
 rintro v G' L' ⟨h1,h2,n,h3,h4,_⟩
 exact ⟨h1,h2,n,h3,h4⟩
theorem rT : ∀ (k : Nat) {n : Int},n.toNat ≤ k → 0 ≤ n ∧ n ≤ 9223372036854775807 → aI yd 91 [I n] G (· = S (a7 n)):=by
 intro k
 induction k with
 | zero =>
  intro n hk hn
  have h1 : n < 10:=oM
  refine jE [(0,_)] Tryz.func91 Tryz.ntmps91 fun B hB=>?_
  repeat' (first | refine jM ?_ | (refine jo ?_;first | refine jF fun _=>?_ | refine jV (cZ F F (by (repeat (first | exact BL.nil | apply BL.cons));done)) ?_) | refine ae F (aC ‹_›) ?_)
  refine jY (vs:=[_]) ?_
  rw [aH,cK h1 hn.1]
 | succ k ih =>
  intro n hk hn
  have hl:=fO (n:=n / 10) oM
  have hl2:=fO (n:=n % 10) oM
  by_cases h1 : n < 10
  ·refine jE [(0,_)] Tryz.func91 Tryz.ntmps91 fun B hB=>?_
   repeat' (first | refine jM ?_ | (refine jo ?_;first | refine jF fun _=>?_ | refine jV (cZ F F (by (repeat (first | exact BL.nil | apply BL.cons));done)) ?_) | refine ae F (aC ‹_›) ?_)
   refine jY (vs:=[_]) ?_
   rw [aH,cK h1 hn.1]
  ·refine jE [(0,_)] Tryz.func91 Tryz.ntmps91 fun B hB=>?_
   repeat' (first | refine jM ?_ | (refine jo ?_;(refine ad F F F (ih oM ?_) F ?_;focus omega)) | refine af F (aF ‹_›) ?_)
   all_goals refine jY (vs:=[_]) ?_
   all_goals rw [aH,gu (n:=n) h1,cK (n:=n % 10) oM oM]
theorem gl {n : Int} (hn : 0 ≤ n ∧ n ≤ 9223372036854775807) : aI yd 91 [I n] G (· = S (a7 n)):=rT n.toNat (Nat.le_refl _) hn
theorem je (c : UInt8) : ∀ s acc : ye,(cR c.toNat acc s).length = s.count c + 1
 | [],acc=>by simp [cR]
 | d :: r,acc=>by
  unfold cR
  by_cases h : d = c
  ·subst h
   rw [if_pos rfl,List.length_cons,je d r []];simp
  ·have h2 : ¬ d.toNat = c.toNat:=fun e=>h (UInt8.toNat_inj.1 e)
   rw [if_neg h2,je c r _,List.count_cons];simp [h]
theorem uK {s : ye} {c : UInt8} : aI yd 211 [S s,S [c]] G (· = I (((aR c.toNat s).length : Int) - 1)):=by
 have hx : ∀ w,(callFunc 219 [S s,U8 (bt [c] (Int.toNat 0))].toArray).run yd w = .ok (.value (I (((aR c.toNat s).length : Int) - 1))) w:=fun w=>by
  rw [show bt [c] (Int.toNat 0) = c.toNat from cL c []]
  rw [run_callFunc_extern Tryz.func219 kR kR kR (e:=Extern.BytealgCount.count) kR]
  have:=Lib.run_countString (P:=yd) ⟨s.toArray⟩ (c.toNat : Int) w
  rw [this]
  simp only [Result.andThen]
  have e : (aR c.toNat s).length = s.count c + 1:=je c s []
  rw [e]
  simp [Lib.countByte]
 refine jE [(0,_),(1,_)] Tryz.func211 Tryz.ntmps211 fun B hB=>?_
 repeat' (first | refine jX ?_ | refine ae F F ?_ | refine af F F ?_)
 refine qx F (hO (lB F F F hx) F F ?_)
 repeat' (refine jR ?_)
 refine jY (vs:=[_]) ?_
 rfl
theorem qT {s : ye} {c : UInt8} (hs : s.length ≤ 100000000) : ce yd 188 [S s,S [c],I 0,I (-1)] G (fun v G'=>bh G' v 1 (aR c.toNat s).length (aj bV (aR c.toNat s))):=by
 have hlen:=g7 (k:=c.toNat) (s:=s)
 have hpos:=c0 (k:=c.toNat) (s:=s)
 have emin : min (((aR c.toNat s).length : Int) - 1 + 1) ((s.length : Int) + 1) = ((aR c.toNat s).length : Nat):=oM
 refine jB [(0,_),(1,_),(2,_),(3,_)] Tryz.func188 Tryz.ntmps188 fun B hok hB hW=>?_
 repeat' (first | refine jM ?_ | (refine jo ?_;first | refine jV (wM F F) ?_ | refine ad F F F uK F ?_) | refine ae F F ?_ | refine af F F ?_)
 rw [emin]
 repeat' (first | refine jM ?_ | (refine jo ?_;refine xS F F F F oM (fun _=>?_)))
 rename_i x
 refine aT (ι:=List ye × ye) (fun i=>i.1.length + i.2.length ≤ s.length ∧ i.1.length < (aR c.toNat s).length ∧ i.1 ++ aR c.toNat i.2 = aR c.toNat s) (fun i=>[(0,S i.2),(1,S [c]),(2,I 0),(3,I (((aR c.toNat s).length : Int) - 1)),(9,.slice (some ⟨x,0,none⟩) (aR c.toNat s).length (aR c.toNat s).length),(10,I (i.1.length : Nat))]) (fun _=>G) (fun i=>[.blk x (.cells (aj bV i.1 ++ bx [S []] ((aR c.toNat s).length - i.1.length)).toArray qj (0,0))]) (fun i=>(aR c.toNat s).length - i.1.length) ([],s) ?_ tU F bd (fun i Hi=>?_)
 ·exact ⟨by simp,hpos,F⟩
 obtain ⟨xs,t⟩:=i
 dsimp only at Hi ⊢
 obtain ⟨hl,hlt,he⟩:=Hi
 have hel:=congrArg List.length he
 rw [List.length_append] at hel
 rcases mo c.toNat t with ⟨h1,h2⟩ | ⟨m,h1,h3,h2⟩
 ·have hc1 : aR c.toNat t = [t]:=by rw [jc,h2];rfl
  rw [hc1] at he hel
  simp only [List.length_cons,List.length_nil] at hel
  have hm : (aR c.toNat s).length - xs.length = 1:=oM
  rw [hm]
  repeat' (first | refine jM ?_ | (refine jo ?_;first | refine jV (ah F F oM) ?_ | (refine rL F F F oM ?_ ?_;focus omega) | refine jV (oD F F oM) ?_) | refine af F (aF oM) ?_)
  refine Nx.sealC (b:=x) fun G' hle hseg=>?_
  refine jZ (vs:=[_]) F ⟨F,trivial⟩ F ⟨hle,F,?_⟩
  have e1 : (((xs.length : Nat) : Int) + 1).toNat = (aR c.toNat s).length:=oM
  have e2 : aj bV (xs ++ [t]) ++ bx [S []] (1 - 1) = aj bV (aR c.toNat s):=by rw [he];simp [bx]
  rw [aH,e1]
  rw [e2] at hseg
  exact ⟨by rw [nW],.inr ⟨_,_,_,F,Nat.le_refl _,hseg⟩⟩
 ·have hc1 : aR c.toNat t = t.take m :: aR c.toNat (t.drop (m + 1)):=by rw [jc,h2];rfl
  rw [hc1] at he hel
  have hp2:=c0 (k:=c.toNat) (s:=t.drop (m + 1))
  simp only [List.length_cons] at hel
  have cx_ix : aI yd 187 [S t,S [c]] G (· = I (m : Int)):=by have:=p6 (G:=G) (s:=t) (c:=c);rwa [h1] at this
  obtain ⟨k,hk⟩ : ∃ k,(aR c.toNat s).length - xs.length = k + 1:=⟨(aR c.toNat s).length - xs.length - 1,oM⟩
  have hk2 : (aR c.toNat s).length = xs.length + k + 1:=oM
  rw [hk]
  generalize (aR c.toNat s).length = N at *
  repeat' (first | refine jX ?_ | (refine jo ?_;first | refine jV (ah F F oM) ?_ | (refine rL F F F oM ?_ ?_;focus omega) | refine ad F F F cx_ix F ?_) | refine ae F (aC oM) ?_ | refine af F F ?_)
  have e1 : aj bV (xs ++ [t.take ((m : Int) + 0).toNat]) ++ bx [S []] (k + 1 - 1) = aj bV (xs ++ [t.take m]) ++ bx [S []] (N - (xs ++ [t.take m]).length):=by
   have e2 : N - (xs ++ [t.take m]).length = k + 1 - 1:=by simp;omega
   rw [e2]
   have e3 : ((m : Int) + 0).toNat = m:=oM
   rw [e3]
  have e4 : ((m : Int) + (([c] : ye).length : Nat)).toNat = m + 1:=by simp only [List.length_cons,List.length_nil];omega
  have e5 : ((xs.length : Nat) : Int) + 1 = ((xs ++ [t.take m]).length : Nat):=by simp
  rw [e1,e4,e5]
  refine aW (xs ++ [t.take m],t.drop (m + 1)) ⟨by simp;omega,by simp;omega,by simpa using he⟩ (by simp;omega) tU rfl bd
theorem uI {s : ye} {c : UInt8} (hs : s.length ≤ 100000000) : ce yd 162 [S s,S [c]] G (fun v G'=>bh G' v 1 (aR c.toNat s).length (aj bV (aR c.toNat s))):=by
 have cx_gs:=qT (G:=G) (c:=c) hs
 refine jB [(0,_),(1,_)] Tryz.func162 Tryz.ntmps162 fun B hok hB hW=>?_
 repeat' (first | refine jR ?_ | (refine jo ?_;(refine aJ F F F cx_gs F ?_;rintro _ G hle hspl;skip)))
 all_goals refine jZ (vs:=[_]) F ⟨F,trivial⟩ F ⟨hle,F,?_⟩
 all_goals exact hspl
def gE (f : Fld) : List Value:=[I f.tag,S f.name,S (sg f.kind),S (bs f.kind),S (nm f.kind),S f.stand]
instance : RowF gE 6:=⟨fun _=>rfl⟩
theorem tT (s : ye) : cA (dL nP) (dN (dL nP) s) = [] ↔ ∀ c ∈ s,gf c.toNat:=by
 rw [nQ]
 exact forall_congr' fun c=>forall_congr' fun _=>by rw [wo];simp
def oy (s : ye) : Bool:=decide (s.length ≤ 12) && s.all fun c=>decide (gf c.toNat)
theorem s8 {s : ye} (h : s.length ≤ 2000000) : aI yd 137 [S s] G (· = Bo (oy s)):=by
 have cx_trim:=rV (G:=G) (s:=s) (cs:=nP) rfl kR rfl h
 have key:=tT s
 have e : oy s = (decide (s.length ≤ 12) && decide (cA (dL nP) (dN (dL nP) s) = [])):=by
  unfold oy
  congr 1
  rw [Bool.eq_iff_iff,List.all_eq_true,decide_eq_true_eq,key]
  simp
 rw [e]
 by_cases hl : s.length ≤ 12
 ·rw [decide_eq_true hl,Bool.true_and]
  refine jE [(0,_)] Tryz.func137 Tryz.ntmps137 fun B hB=>?_
  repeat' (first | refine jR ?_ | (refine jo ?_;first | refine aV F ?_ | refine ad F F F cx_trim F ?_) | refine aU F F (aC oM) ?_)
  all_goals refine jY (vs:=[_]) ?_
  all_goals rfl
 ·rw [decide_eq_false hl,Bool.false_and]
  refine jE [(0,_)] Tryz.func137 Tryz.ntmps137 fun B hB=>?_
  repeat' (first | refine jR ?_ | (refine jo ?_;refine aG F ?_) | refine aE F F (aF oM) ?_)
  all_goals refine jY (vs:=[_]) ?_
  all_goals rfl
theorem ug {s : ye} : (db s && decide (s ≠ [39,39])) = (decide (2 < s.length) && (decide (bt s 0 = 39) && (decide (bt s (s.length - 1) = 39) && oy ((s.take (s.length - 1)).drop 1)))):=by
 rw [Bool.eq_iff_iff]
 simp only [Bool.and_eq_true,decide_eq_true_eq,db,oy,List.all_eq_true]
 constructor
 ·rintro ⟨⟨h1,h2,h3,h4⟩,h5⟩
  have hl : 2 < s.length:=by
   rcases Nat.lt_or_ge 2 s.length with h6 | h6
   ·exact h6
   ·exfalso
    match s,h1,h6,h2,h3 with
    | [a,b],_,_,h2,h3 =>
     rw [cL] at h2
     simp only [List.length_cons,List.length_nil] at h3
     rw [show (0 + 1 + 1 - 1) = 0 + 1 from rfl,dJ,cL] at h3
     have e1 : a = 39:=UInt8.toNat_inj.1 h2
     have e2 : b = 39:=UInt8.toNat_inj.1 h3
     subst e1;subst e2;exact h5 F
  refine ⟨hl,h2,h3,by simp;omega,fun c hc=>?_⟩
  obtain ⟨i,hi,rfl⟩:=List.mem_iff_getElem.1 hc
  simp only [List.length_drop,List.length_take] at hi
  have e : bt s (i + 1) = (((s.take (s.length - 1)).drop 1)[i]'(by simp;omega)).toNat:=by
   simp [bt,List.getD,List.getElem?_eq_getElem (show i + 1 < s.length by omega)]
  rw [← e]
  rcases h4 (i + 1) oM with h6 | h6
  ·omega
  ·exact h6
 ·rintro ⟨hl,h2,h3,h4,h5⟩
  simp only [List.length_drop,List.length_take] at h4
  refine ⟨⟨oM,h2,h3,fun i hi=>?_⟩,fun e=>by subst e;simp at hl⟩
  rcases Nat.eq_zero_or_pos i with h6 | h6
  ·exact .inl h6
  ·refine .inr ?_
   have e : bt s i = (((s.take (s.length - 1)).drop 1)[i - 1]'(by simp;omega)).toNat:=by
    have e1 : i - 1 + 1 = i:=oM
    simp [bt,List.getD,List.getElem?_eq_getElem (show i < s.length by omega),e1]
   rw [e]
   exact h5 _ (List.getElem_mem _)
theorem mA {b v : ye} (h : v.length ≤ 2000000) : aI yd 189 [S b,S v] G (· = Bo (bn b v)):=by
 by_cases h1 : b = [110]
 ·have e : bn b v = ((aQ v 999999).isSome && decide (v ≠ [48])):=by rw [bn,if_pos h1]
  rw [e]
  rcases hn : aQ v 999999 with _ | m
  ·refine jE [(0,_),(1,_)] Tryz.func189 Tryz.ntmps189 fun B hB=>?_
   repeat' (first | refine jR ?_ | (refine jo ?_;first | refine aG F ?_ | (refine dQ F F F (eO oM) F ?_;rintro _ ⟨n,rfl,hnum⟩)) | (refine aE F F ?_ ?_;(focus ((simp [*];done);done))) | refine ae F (aC ‹_›) ?_)
   all_goals refine jY (vs:=[_]) ?_
   all_goals (simp [*])
  ·have hm:=dO hn
   have h0 : 0 ≤ m:=by
    unfold aQ at hn
    split at hn
    ·split at hn
     ·rename_i hd
      split at hn
      ·simp only [Option.some.injEq] at hn;subst hn;exact mY (Int.le_refl 0) hd
      ·cases hn
     ·cases hn
    ·cases hn
   have ev : decide (v ≠ [48]) = decide (0 < m):=by
    refine decide_eq_decide.2 ?_
    rw [hm.2.1]
    constructor
    ·intro h2
     rcases Int.lt_or_le 0 m with h3 | h3
     ·exact h3
     ·have : m = 0:=oM
      subst this
      exact absurd (by rw [cK oM oM];rfl) h2
    ·intro h2 h3
     obtain ⟨c,r,e2,hc⟩:=kx m.toNat (Nat.le_refl _) oM
     rw [e2] at h3
     simp only [List.cons.injEq] at h3
     exact hc (by rw [h3.1];rfl)
   have cx_pnum : aI yd 135 [S v,I 999999] G (· = Tu [I m,Bo true]):=by
    refine (eO (G:=G) (top:=999999) (s:=v) oM).mono ?_
    rintro w G' L' ⟨h2,h3,n,rfl,h4⟩
    exact ⟨h2,h3,by rw [hn,h4 m hn];rfl⟩
   rw [ev]
   refine jE [(0,_),(1,_)] Tryz.func189 Tryz.ntmps189 fun B hB=>?_
   repeat' (first | refine jR ?_ | (refine jo ?_;first | refine aV F ?_ | refine ad F F F cx_pnum F ?_) | refine aU F F F ?_ | refine ae F (aC ‹_›) ?_)
   all_goals refine jY (vs:=[_]) ?_
   all_goals (simp [*])
 by_cases h2 : b = [116]
 ·have e : bn b v = (db v && decide (v ≠ [39,39])):=by rw [bn,if_neg h1,if_pos h2]
  rw [e,ug]
  have e4 : (((v.length : Nat) : Int) - 1).toNat = v.length - 1:=oM
  by_cases hl : 2 < v.length
  case neg =>
   rw [decide_eq_false hl,Bool.false_and]
   refine jE [(0,_),(1,_)] Tryz.func189 Tryz.ntmps189 fun B hB=>?_
   repeat' (first | refine jR ?_ | (refine jo ?_;refine aG F ?_) | (refine aE F F (by first | rfl | (refine decide_eq_false ?_;(omega))) ?_) | refine ae F (aC ‹_›) ?_ | refine af F (aF ‹_›) ?_)
   all_goals refine jY (vs:=[_]) ?_
   all_goals rfl
  rw [decide_eq_true hl,Bool.true_and]
  by_cases hq : bt v 0 = 39
  case neg =>
   have hq2 : ¬ bt v (Int.toNat 0) = 39:=hq
   rw [decide_eq_false hq,Bool.false_and]
   refine jE [(0,_),(1,_)] Tryz.func189 Tryz.ntmps189 fun B hB=>?_
   repeat' (first | refine jM ?_ | (refine jo ?_;first | refine aV F ?_ | refine aG F ?_) | refine aU F F (aC oM) ?_ | (refine aE F F (by first | rfl | (refine decide_eq_false ?_;(omega))) ?_) | refine ae F (aC ‹_›) ?_ | refine af F (aF ‹_›) ?_)
   all_goals refine jY (vs:=[_]) ?_
   all_goals rfl
  have hq2 : bt v (Int.toNat 0) = 39:=hq
  rw [decide_eq_true hq,Bool.true_and]
  by_cases hr : bt v (v.length - 1) = 39
  case neg =>
   have hr2 : ¬ bt v (((v.length : Nat) : Int) - 1).toNat = 39:=by rw [e4];exact hr
   rw [decide_eq_false hr,Bool.false_and]
   refine jE [(0,_),(1,_)] Tryz.func189 Tryz.ntmps189 fun B hB=>?_
   repeat' (first | refine jM ?_ | (refine jo ?_;first | refine aV F ?_ | refine aG F ?_) | refine aU F F (aC oM) ?_ | refine aE F F (aF oM) ?_ | refine ae F (aC ‹_›) ?_ | refine af F (aF ‹_›) ?_)
   all_goals refine jY (vs:=[_]) ?_
   all_goals rfl
  have hr2 : bt v (((v.length : Nat) : Int) - 1).toNat = 39:=by rw [e4];exact hr
  rw [decide_eq_true hr,Bool.true_and]
  refine jE [(0,_),(1,_)] Tryz.func189 Tryz.ntmps189 fun B hB=>?_
  repeat' (first | refine jM ?_ | (refine jo ?_;first | refine aV F ?_ | (refine ad F F F (s8 ?_) F ?_;(focus ((simp;omega);done)))) | refine aU F F (aC oM) ?_ | refine ae F (aC ‹_›) ?_ | refine af F (aF ‹_›) ?_)
  all_goals refine jY (vs:=[_]) ?_
  all_goals rw [e4];rfl
 ·have e : bn b v = (decide (b = [102]) && decide (v = [121,101,115])):=by
   rw [bn,if_neg h1,if_neg h2]
   by_cases h3 : b = [102]
   ·rw [if_pos h3,decide_eq_true h3,Bool.true_and]
   ·rw [if_neg h3,decide_eq_false h3,Bool.false_and]
  rw [e]
  refine jE [(0,_),(1,_)] Tryz.func189 Tryz.ntmps189 fun B hB=>?_
  repeat' (first | refine jR ?_ | (refine jo ?_;first | refine aV F ?_ | refine aG F ?_) | refine dm F F (fun _=>?_) (fun _=>?_) | refine af F (aF ‹_›) ?_)
  all_goals refine jY (vs:=[_]) ?_
  all_goals (simp [*])
theorem sf {c v : ye} (h : be c = true) : (decide (sg c = []) && bn (bs c) v) = bn c v:=by
 match c,h with
 | x :: r,h =>
  by_cases h1 : x.toNat = 91 ∨ x.toNat = 63
  ·have hs : sg (x :: r) ≠ []:=by
    unfold sg
    rw [ay,if_pos h1]
    have:=jf r
    intro e
    have e2:=congrArg List.length e
    simp only [List.length_take,List.length_cons,List.length_nil] at e2
    omega
   rw [decide_eq_false hs,Bool.false_and]
   unfold bn
   rw [if_neg,if_neg,if_neg]
   all_goals (intro e;simp only [List.cons.injEq] at e;have:=congrArg UInt8.toNat e.1;revert this;rcases h1 with h1 | h1 <;> rw [h1] <;> decide)
  ·have hc : ay (x :: r) = x :: r:=by rw [ay,if_neg h1]
   have hs : sg (x :: r) = []:=by unfold sg;rw [hc];simp
   rw [decide_eq_true hs,Bool.true_and]
   by_cases h2 : x.toNat = 64
   ·have hb : bs (x :: r) = [64]:=by unfold bs;rw [hc];simp [lf,h2]
    rw [hb]
    have e1 : bn [64] v = false:=by unfold bn;simp
    rw [e1]
    unfold bn
    rw [if_neg,if_neg,if_neg]
    all_goals (intro e;simp only [List.cons.injEq] at e;have:=congrArg UInt8.toNat e.1;revert this;rw [h2];decide)
   ·have hb : bs (x :: r) = x :: r:=by unfold bs;rw [hc];simp [lf,h2]
    rw [hb]
def mJ (s : ye) (k : Nat) (v : Value) (_ : Gh) : Prop:=∃ f ok,v = Tu [Ag (gE f),Bo ok] ∧ bz s k = if ok = true then some f else none
theorem jg {s : ye} {xs : List ye} {k : Nat} {c : UInt8} (n : Nat) (h : s.length ≤ 100000000) (hc : c.toNat = k) (e : aR k s = xs) (hn : xs.length = n) (h0 : 0 < n) :
  ce yd 162 [S s,S [c]] G (fun v G'=>∃ b o cap,v = .slice (some ⟨b,o,none⟩) n cap ∧ bE G' b o (aj bV xs)):=by
 subst hn;subst e;subst hc
 refine (uI (G:=G) (s:=s) (c:=c) h).mono ?_
 rintro v G' L' ⟨h1,h2,h3⟩
 obtain ⟨b,o,cap,rfl,hs⟩:=h3.expl h0
 exact ⟨h1,h2,b,o,cap,F,hs⟩
theorem pY {s : ye} (h : s.length ≤ 2000000) (e : be s = true) : aI yd 88 [S s] G (· = Tu [Ag (eH s),Bo true]):=by
 refine (jh (G:=G) h).mono ?_
 rintro v G' L' ⟨h1,h2,a,b,c,rfl,h3⟩
 obtain ⟨rfl,rfl,rfl⟩:=h3 e
 exact ⟨h1,h2,by rw [e];rfl⟩
theorem pV {s : ye} {top m : Int} (h : s.length ≤ 100000000) (e : aQ s top = some m) : aI yd 135 [S s,I top] G (· = Tu [I m,Bo true]):=by
 refine (eO (G:=G) (top:=top) h).mono ?_
 rintro v G' L' ⟨h1,h2,n,rfl,h3⟩
 exact ⟨h1,h2,by rw [e,h3 m e];rfl⟩
theorem pW {s : ye} {top : Int} (h : s.length ≤ 100000000) (e : aQ s top = none) : aI yd 135 [S s,I top] G (fun v=>∃ n,v = Tu [I n,Bo false]):=by
 refine (eO (G:=G) (top:=top) h).mono ?_
 rintro v G' L' ⟨h1,h2,n,rfl,h3⟩
 exact ⟨h1,h2,n,by rw [e];rfl⟩
theorem kz {s : ye} {k : Nat} (h : s.length ≤ 1000) (e : (aR 58 (ao 61 s).1).length ≠ if k = 69 then 2 else 3) : ce yd 163 [S s,U8 k] G (mJ s k):=by
 have hcl:=gG (k:=61) (s:=s)
 have cx_cut : aI yd 120 [S s,S [61]] G (· = Tu [S (ao 61 s).1,S (ao 61 s).2.1,Bo (ao 61 s).2.2]):=mG (c:=61) oM
 have cx_split:=jg (G:=G) (c:=58) (k:=58) _ (s:=(ao 61 s).1) oM rfl rfl rfl c0
 have hno : bz s k = none:=by
  rw [← mV]
  unfold km
  split
  ·rename_i e2
   rw [e2] at e
   split
   ·rename_i hk;simp [hk.1] at e
   ·rfl
  ·rename_i e2
   rw [e2] at e
   split
   ·rfl
   ·rename_i hk;simp [hk] at e
  ·rfl
 have hpos:=c0 (k:=58) (s:=(ao 61 s).1)
 generalize hn : (aR 58 (ao 61 s).1).length = n at *
 by_cases hk : k = 69
 ·rw [if_pos hk] at e
  refine jB [(0,_),(1,_)] Tryz.func163 Tryz.ntmps163 fun B hok hB hW=>?_
  repeat' (first | refine jR ?_ | (refine jo ?_;first | refine jL fun _=>?_ | refine jV (ai F) ?_ | refine jV (aq F F) ?_ | refine jC F F F ?_ | refine ad F F F cx_cut F ?_ | (refine aJ F F F cx_split F ?_;rintro _ G hle ⟨b1,o1,cap1,rfl,hseg⟩;skip)) | refine ae F (aC oM) ?_)
  all_goals refine jZ (vs:=[_,_]) F ⟨aB F F F F,F,trivial⟩ F ⟨hle,F,?_⟩
  all_goals exact ⟨default,false,F,by rw [hno];rfl⟩
 ·rw [if_neg hk] at e
  refine jB [(0,_),(1,_)] Tryz.func163 Tryz.ntmps163 fun B hok hB hW=>?_
  repeat' (first | refine jR ?_ | (refine jo ?_;first | refine jL fun _=>?_ | refine jV (ai F) ?_ | refine jV (aq F F) ?_ | refine jC F F F ?_ | refine ad F F F cx_cut F ?_ | (refine aJ F F F cx_split F ?_;rintro _ G hle ⟨b1,o1,cap1,rfl,hseg⟩;skip)) | refine ae F (aC oM) ?_ | refine af F (aF oM) ?_)
  all_goals refine jZ (vs:=[_,_]) F ⟨aB F F F F,F,trivial⟩ F ⟨hle,F,?_⟩
  all_goals exact ⟨default,false,F,by rw [hno];rfl⟩
theorem oV {s a b : ye} (h : s.length ≤ 1000) (e : aR 58 (ao 61 s).1 = [a,b]) : ce yd 163 [S s,U8 (69 : Nat)] G (mJ s 69):=by
  have hcl:=gG (k:=61) (s:=s)
  have cx_cut : aI yd 120 [S s,S [61]] G (· = Tu [S (ao 61 s).1,S (ao 61 s).2.1,Bo (ao 61 s).2.2]):=mG (c:=61) oM
  have cx_split:=jg (G:=G) (c:=58) (k:=58) 2 (s:=(ao 61 s).1) oM rfl e rfl oM
  have ha : a.length ≤ 1000:=by have:=cy (k:=58) (s:=(ao 61 s).1) (x:=a) (by rw [e];simp);omega
  have hb : b.length ≤ 1000:=by have:=cy (k:=58) (s:=(ao 61 s).1) (x:=b) (by rw [e];simp);omega
  have hall : bz s 69 = if (ao 61 s).2.2 = false then match aQ a 200 with
      | some n=>if 1 ≤ n ∧ bH b = true then some ⟨n,b,[],[]⟩ else none
      | none=>none else none:=by
    rw [← mV];unfold km;rw [e];simp <;> rfl
  generalize hto : (ao 61 s).2.2 = told at *
  generalize hva : (ao 61 s).2.1 = val at *
  rcases hm : aQ a 200 with _ | m
  · have hno : bz s 69 = none:=by rw [hall,hm];simp
    have cx_pn : ∀ G,aI yd 135 [S a,I 200] G (fun v=>∃ n,v = Tu [I n,Bo false]):=fun G=>pW oM hm
    refine jB [(0,_),(1,_)] Tryz.func163 Tryz.ntmps163 fun B hok hB hW=>?_
    repeat' (first | refine jR ?_ | (refine jo ?_;first | refine jL fun _=>?_ | refine jV (ai F) ?_ | refine jV (aq F F) ?_ | refine jC F F F ?_ | refine jV (aY F F oM) ?_ | refine jV (aA F F aS F F) ?_ | refine aV F ?_ | refine ad F F F cx_cut F ?_ | (refine aJ F F F cx_split F ?_;rintro _ G hle ⟨b1,o1,cap1,rfl,hseg⟩;skip) | (refine dQ F F F (cx_pn _) F ?_;rintro _ ⟨n,rfl⟩)) | refine aU F F F ?_ | refine ae F F ?_ | refine af F F ?_)
    all_goals refine jZ (vs:=[_,_]) F ⟨aB F F F F,F,trivial⟩ F ⟨hle,F,?_⟩
    all_goals exact ⟨default,false,F,by rw [hno];rfl⟩
  have cx_pq : ∀ G,aI yd 135 [S a,I 200] G (· = Tu [I m,Bo true]):=fun G=>pV oM hm
  rw [hm] at hall
  dsimp only at hall
  by_cases hg : 1 ≤ m ∧ bH b = true
  · rw [if_pos hg] at hall
    have hg1:=hg.1
    have hg2 : (!bH b) = false:=by rw [hg.2];rfl
    cases told with
    | true =>
      refine jB [(0,_),(1,_)] Tryz.func163 Tryz.ntmps163 fun B hok hB hW=>?_
      repeat' (first | refine jR ?_ | (refine jo ?_;first | refine jL fun _=>?_ | refine jV (ai F) ?_ | refine jV (aq F F) ?_ | refine jC F F F ?_ | refine jV (aY F F oM) ?_ | refine am F ?_ | refine jV (aA F F aS F F) ?_ | refine aV F ?_ | refine aG F ?_ | refine ad F F F cx_cut F ?_ | (refine aJ F F F cx_split F ?_;rintro _ G hle ⟨b1,o1,cap1,rfl,hseg⟩;skip) | refine ad F F F (cx_pq _) F ?_ | refine ad F F F (co oM) F ?_) | refine aU F F F ?_ | (refine aE F F (by first | rfl | (refine decide_eq_false ?_;(omega))) ?_) | refine ae F F ?_ | (refine af F (by first | rfl | assumption) ?_))
      all_goals refine jZ (vs:=[_,_]) F ⟨aB F F F F,F,trivial⟩ F ⟨hle,F,?_⟩
      all_goals exact ⟨default,false,F,by rw [hall];rfl⟩
    | false =>
      have hv : val = []:=by have:=dM hto;rw [this] at hva;exact hva.symm
      refine jB [(0,_),(1,_)] Tryz.func163 Tryz.ntmps163 fun B hok hB hW=>?_
      repeat' (first | refine jR ?_ | (refine jo ?_;first | refine jL fun _=>?_ | refine jV (ai F) ?_ | refine jV (aq F F) ?_ | refine jC F F F ?_ | refine jV (aY F F oM) ?_ | refine am F ?_ | refine aZ F ?_ | refine jV (aA F F aS F F) ?_ | refine aG F ?_ | refine ad F F F cx_cut F ?_ | (refine aJ F F F cx_split F ?_;rintro _ G hle ⟨b1,o1,cap1,rfl,hseg⟩;skip) | refine ad F F F (cx_pq _) F ?_ | refine ad F F F (co oM) F ?_) | (refine aE F F (by first | rfl | (refine decide_eq_false ?_;(omega))) ?_) | refine ae F F ?_ | (refine af F (by first | rfl | assumption) ?_))
      all_goals refine jZ (vs:=[_,_]) F ⟨aB F F F F,F,trivial⟩ F ⟨hle,F,?_⟩
      all_goals exact ⟨⟨m,b,[],[]⟩,true,by rw [hv];rfl,by rw [hall];rfl⟩
  · rw [if_neg hg] at hall
    have hno : bz s 69 = none:=by rw [hall];simp
    by_cases h1 : m < 1
    case' neg => have hg2 : (!bH b) = true := by
                  cases hb2 : bH b with
                  | false=>rfl
                  | true=>exact absurd ⟨oM,hb2⟩ hg
    all_goals refine jB [(0,_),(1,_)] Tryz.func163 Tryz.ntmps163 fun B hok hB hW=>?_
    all_goals repeat' (first | refine jR ?_ | (refine jo ?_;first | refine jL fun _=>?_ | refine jV (ai F) ?_ | refine jV (aq F F) ?_ | refine jC F F F ?_ | refine jV (aY F F oM) ?_ | refine am F ?_ | refine jV (aA F F aS F F) ?_ | refine aV F ?_ | refine aG F ?_ | refine ad F F F cx_cut F ?_ | (refine aJ F F F cx_split F ?_;rintro _ G hle ⟨b1,o1,cap1,rfl,hseg⟩;skip) | refine ad F F F (cx_pq _) F ?_ | refine ad F F F (co oM) F ?_) | refine aU F F (aC ‹_›) ?_ | (refine aE F F (by first | rfl | (refine decide_eq_false ?_;(assumption))) ?_) | (refine ae F (by first | rfl | assumption) ?_) | refine af F F ?_)
    all_goals refine jZ (vs:=[_,_]) F ⟨aB F F F F,F,trivial⟩ F ⟨hle,F,?_⟩
    all_goals exact ⟨default,false,F,by rw [hno];rfl⟩
theorem oU {s a b c : ye} {k : Nat} (h : s.length ≤ 1000) (hk : ¬ k = 69) (e : aR 58 (ao 61 s).1 = [a,b,c]) : ce yd 163 [S s,U8 k] G (mJ s k):=by
  have hcl:=gG (k:=61) (s:=s)
  have cx_cut : aI yd 120 [S s,S [61]] G (· = Tu [S (ao 61 s).1,S (ao 61 s).2.1,Bo (ao 61 s).2.2]):=mG (c:=61) oM
  have cx_split:=jg (G:=G) (c:=58) (k:=58) 3 (s:=(ao 61 s).1) oM rfl e rfl oM
  have ha : a.length ≤ 1000:=by have:=cy (k:=58) (s:=(ao 61 s).1) (x:=a) (by rw [e];simp);omega
  have hb : b.length ≤ 1000:=by have:=cy (k:=58) (s:=(ao 61 s).1) (x:=b) (by rw [e];simp);omega
  have hc : c.length ≤ 1000:=by have:=cy (k:=58) (s:=(ao 61 s).1) (x:=c) (by rw [e];simp);omega
  have hall : bz s k = match aQ a 200 with
      | some n=>if (1 ≤ n ∧ bH b = true) ∧ be c = true ∧ ((ao 61 s).2.2 = true → k = 82 ∧ bn c (ao 61 s).2.1 = true) then some ⟨n,b,c,(ao 61 s).2.1⟩ else none
      | none=>none:=by
    rw [← mV];unfold km;rw [e];simp [hk] <;> rfl
  generalize hto : (ao 61 s).2.2 = told at *
  generalize hva : (ao 61 s).2.1 = val at *
  rcases hm : aQ a 200 with _ | m
  · have hno : bz s k = none:=by rw [hall,hm]
    have cx_pn : ∀ G,aI yd 135 [S a,I 200] G (fun v=>∃ n,v = Tu [I n,Bo false]):=fun G=>pW oM hm
    refine jB [(0,_),(1,_)] Tryz.func163 Tryz.ntmps163 fun B hok hB hW=>?_
    repeat' (first | refine jR ?_ | (refine jo ?_;first | refine jL fun _=>?_ | refine jV (ai F) ?_ | refine jV (aq F F) ?_ | refine jC F F F ?_ | refine jV (aY F F oM) ?_ | refine jV (aA F F aS F F) ?_ | refine aV F ?_ | refine ad F F F cx_cut F ?_ | (refine aJ F F F cx_split F ?_;rintro _ G hle ⟨b1,o1,cap1,rfl,hseg⟩;skip) | (refine dQ F F F (cx_pn _) F ?_;rintro _ ⟨n,rfl⟩)) | refine aU F F F ?_ | refine ae F F ?_ | (refine af F (by first | rfl | (refine decide_eq_false ?_;(omega))) ?_))
    all_goals refine jZ (vs:=[_,_]) F ⟨aB F F F F,F,trivial⟩ F ⟨hle,F,?_⟩
    all_goals exact ⟨default,false,F,by rw [hno];rfl⟩
  have cx_pq : ∀ G,aI yd 135 [S a,I 200] G (· = Tu [I m,Bo true]):=fun G=>pV oM hm
  rw [hm] at hall
  dsimp only at hall
  by_cases hg : 1 ≤ m ∧ bH b = true
  case neg =>
    have hno : bz s k = none:=by rw [hall,if_neg fun h=>hg h.1]
    by_cases h1 : m < 1
    case' neg => have hg2 : (!bH b) = true := by
                  cases hb2 : bH b with
                  | false=>rfl
                  | true=>exact absurd ⟨oM,hb2⟩ hg
    all_goals refine jB [(0,_),(1,_)] Tryz.func163 Tryz.ntmps163 fun B hok hB hW=>?_
    all_goals repeat' (first | refine jR ?_ | (refine jo ?_;first | refine jL fun _=>?_ | refine jV (ai F) ?_ | refine jV (aq F F) ?_ | refine jC F F F ?_ | refine jV (aY F F oM) ?_ | refine am F ?_ | refine jV (aA F F aS F F) ?_ | refine aV F ?_ | refine aG F ?_ | refine ad F F F cx_cut F ?_ | (refine aJ F F F cx_split F ?_;rintro _ G hle ⟨b1,o1,cap1,rfl,hseg⟩;skip) | refine ad F F F (cx_pq _) F ?_ | refine ad F F F (co oM) F ?_) | refine aU F F (aC ‹_›) ?_ | (refine aE F F (by first | rfl | (refine decide_eq_false ?_;(assumption))) ?_) | (refine ae F (by first | rfl | assumption) ?_) | (refine af F (by first | rfl | (refine decide_eq_false ?_;(omega))) ?_))
    all_goals refine jZ (vs:=[_,_]) F ⟨aB F F F F,F,trivial⟩ F ⟨hle,F,?_⟩
    all_goals exact ⟨default,false,F,by rw [hno];rfl⟩
  have hg1:=hg.1
  have hg2 : (!bH b) = false:=by rw [hg.2];rfl
  by_cases hkc : be c = true
  case neg =>
    have hkc2 : be c = false:=by simpa using hkc
    have hno : bz s k = none:=by rw [hall,if_neg fun h=>hkc h.2.1]
    have cx_kn : ∀ G,aI yd 88 [S c] G (fun v=>∃ x y z,v = Tu [Ag [S x,S y,S z],Bo false]):=fun G=>by
      refine (jh (G:=G) (s:=c) oM).mono ?_
      rintro v G' L' ⟨h1,h2,x,y,z,rfl,_⟩
      exact ⟨h1,h2,x,y,z,by rw [hkc2]⟩
    refine jB [(0,_),(1,_)] Tryz.func163 Tryz.ntmps163 fun B hok hB hW=>?_
    repeat' (first | refine jR ?_ | (refine jo ?_;first | refine jL fun _=>?_ | refine jV (ai F) ?_ | refine jV (aq F F) ?_ | refine jC F F F ?_ | refine jV (aY F F oM) ?_ | refine am F ?_ | refine jV (aA F F aS F F) ?_ | refine aG F ?_ | refine ad F F F cx_cut F ?_ | (refine aJ F F F cx_split F ?_;rintro _ G hle ⟨b1,o1,cap1,rfl,hseg⟩;skip) | refine ad F F F (cx_pq _) F ?_ | refine ad F F F (co oM) F ?_ | (refine dQ F F F (cx_kn _) F ?_;rintro _ ⟨x,y,z,rfl⟩)) | (refine aE F F (by first | rfl | (refine decide_eq_false ?_;(omega))) ?_) | (refine ae F (by first | rfl | (refine decide_eq_true ?_;(omega))) ?_) | (refine af F (by first | rfl | assumption | (refine decide_eq_false ?_;(omega))) ?_))
    all_goals refine jZ (vs:=[_,_]) F ⟨aB F F F F,F,trivial⟩ F ⟨hle,F,?_⟩
    all_goals exact ⟨default,false,F,by rw [hno];rfl⟩
  have cx_kq : ∀ G,aI yd 88 [S c] G (· = Tu [Ag [S (sg c),S (bs c),S (nm c)],Bo true]):=fun G=>pY oM hkc
  cases told with
  | false =>
    have hv : val = []:=by have:=dM hto;rw [this] at hva;exact hva.symm
    have hyes : bz s k = some ⟨m,b,c,val⟩:=by rw [hall,if_pos ⟨hg,hkc,fun h=>by cases h⟩]
    refine jB [(0,_),(1,_)] Tryz.func163 Tryz.ntmps163 fun B hok hB hW=>?_
    repeat' (first | refine jR ?_ | (refine jo ?_;first | refine jL fun _=>?_ | refine jV (ai F) ?_ | refine jV (aq F F) ?_ | refine jC F F F ?_ | refine jV (aY F F oM) ?_ | refine am F ?_ | refine aZ F ?_ | refine jV (aA F F aS F F) ?_ | refine aG F ?_ | refine ad F F F cx_cut F ?_ | (refine aJ F F F cx_split F ?_;rintro _ G hle ⟨b1,o1,cap1,rfl,hseg⟩;skip) | refine ad F F F (cx_pq _) F ?_ | refine ad F F F (co oM) F ?_ | refine ad F F F (cx_kq _) F ?_) | (refine aE F F (by first | rfl | (refine decide_eq_false ?_;(omega))) ?_) | refine ae F (aC oM) ?_ | (refine af F (by first | rfl | assumption | (refine decide_eq_false ?_;(omega))) ?_))
    all_goals refine jZ (vs:=[_,_]) F ⟨aB F F F F,F,trivial⟩ F ⟨hle,F,?_⟩
    all_goals exact ⟨⟨m,b,c,val⟩,true,F,by rw [hyes];rfl⟩
  | true =>
    have hst:=sf (v:=val) hkc
    by_cases h82 : k = 82
    case neg =>
      have hno : bz s k = none:=by rw [hall,if_neg fun h=>h82 (h.2.2 rfl).1]
      have h83 : ¬ (k : Int) = 82:=oM
      refine jB [(0,_),(1,_)] Tryz.func163 Tryz.ntmps163 fun B hok hB hW=>?_
      repeat' (first | refine jR ?_ | (refine jo ?_;first | refine jL fun _=>?_ | refine jV (ai F) ?_ | refine jV (aq F F) ?_ | refine jC F F F ?_ | refine jV (aY F F oM) ?_ | refine am F ?_ | refine jV (aA F F aS F F) ?_ | refine aV F ?_ | refine aG F ?_ | refine ad F F F cx_cut F ?_ | (refine aJ F F F cx_split F ?_;rintro _ G hle ⟨b1,o1,cap1,rfl,hseg⟩;skip) | refine ad F F F (cx_pq _) F ?_ | refine ad F F F (co oM) F ?_ | refine ad F F F (cx_kq _) F ?_) | (refine aU F F (by first | rfl | (refine decide_eq_true ?_;(assumption))) ?_) | (refine aE F F (by first | rfl | (refine decide_eq_false ?_;(omega))) ?_) | (refine ae F (by first | rfl | (refine decide_eq_true ?_;(omega))) ?_) | (refine af F (by first | rfl | assumption | (refine decide_eq_false ?_;(omega))) ?_))
      all_goals refine jZ (vs:=[_,_]) F ⟨aB F F F F,F,trivial⟩ F ⟨hle,F,?_⟩
      all_goals exact ⟨default,false,F,by rw [hno];rfl⟩
    subst h82
    by_cases hsg : sg c = []
    · rw [decide_eq_true hsg,Bool.true_and] at hst
      by_cases hso : bn c val = true
      · have hyes : bz s 82 = some ⟨m,b,c,val⟩:=by rw [hall,if_pos ⟨hg,hkc,fun _=>⟨rfl,hso⟩⟩]
        have hso2 : (!bn (bs c) val) = false:=by rw [hst,hso];rfl
        refine jB [(0,_),(1,_)] Tryz.func163 Tryz.ntmps163 fun B hok hB hW=>?_
        repeat' (first | refine jR ?_ | (refine jo ?_;first | refine jL fun _=>?_ | refine jV (ai F) ?_ | refine jV (aq F F) ?_ | refine jC F F F ?_ | refine jV (aY F F oM) ?_ | refine am F ?_ | refine aZ F ?_ | refine jV (aA F F aS F F) ?_ | refine aV F ?_ | refine aG F ?_ | refine ad F F F cx_cut F ?_ | (refine aJ F F F cx_split F ?_;rintro _ G hle ⟨b1,o1,cap1,rfl,hseg⟩;skip) | refine ad F F F (cx_pq _) F ?_ | refine ad F F F (co oM) F ?_ | refine ad F F F (cx_kq _) F ?_ | refine ad F F F (mA oM) F ?_) | refine aU F F F ?_ | (refine aE F F ?_ ?_;(focus ((first | rfl | (refine decide_eq_false ?_;(omega)) | (simp [*];done));done))) | refine ae F F ?_ | (refine af F (by first | rfl | assumption) ?_))
        all_goals refine jZ (vs:=[_,_]) F ⟨aB F F F F,F,trivial⟩ F ⟨hle,F,?_⟩
        all_goals exact ⟨⟨m,b,c,val⟩,true,F,by rw [hyes];rfl⟩
      · have hno : bz s 82 = none:=by rw [hall,if_neg fun h=>hso (h.2.2 rfl).2]
        have hso2 : (!bn (bs c) val) = true:=by rw [hst];simpa using hso
        refine jB [(0,_),(1,_)] Tryz.func163 Tryz.ntmps163 fun B hok hB hW=>?_
        repeat' (first | refine jR ?_ | (refine jo ?_;first | refine jL fun _=>?_ | refine jV (ai F) ?_ | refine jV (aq F F) ?_ | refine jC F F F ?_ | refine jV (aY F F oM) ?_ | refine am F ?_ | refine jV (aA F F aS F F) ?_ | refine aV F ?_ | refine aG F ?_ | refine ad F F F cx_cut F ?_ | (refine aJ F F F cx_split F ?_;rintro _ G hle ⟨b1,o1,cap1,rfl,hseg⟩;skip) | refine ad F F F (cx_pq _) F ?_ | refine ad F F F (co oM) F ?_ | refine ad F F F (cx_kq _) F ?_ | refine ad F F F (mA oM) F ?_) | refine aU F F F ?_ | (refine aE F F ?_ ?_;(focus ((first | rfl | (refine decide_eq_false ?_;(omega)) | (simp [*];done));done))) | (refine ae F (by first | rfl | assumption) ?_) | (refine af F (by first | rfl | assumption) ?_))
        all_goals refine jZ (vs:=[_,_]) F ⟨aB F F F F,F,trivial⟩ F ⟨hle,F,?_⟩
        all_goals exact ⟨default,false,F,by rw [hno];rfl⟩
    · rw [decide_eq_false hsg,Bool.false_and] at hst
      have hno : bz s 82 = none:=by rw [hall,if_neg fun h=>by rw [(h.2.2 rfl).2] at hst;cases hst]
      refine jB [(0,_),(1,_)] Tryz.func163 Tryz.ntmps163 fun B hok hB hW=>?_
      repeat' (first | refine jR ?_ | (refine jo ?_;first | refine jL fun _=>?_ | refine jV (ai F) ?_ | refine jV (aq F F) ?_ | refine jC F F F ?_ | refine jV (aY F F oM) ?_ | refine am F ?_ | refine jV (aA F F aS F F) ?_ | refine aV F ?_ | refine aG F ?_ | refine ad F F F cx_cut F ?_ | (refine aJ F F F cx_split F ?_;rintro _ G hle ⟨b1,o1,cap1,rfl,hseg⟩;skip) | refine ad F F F (cx_pq _) F ?_ | refine ad F F F (co oM) F ?_ | refine ad F F F (cx_kq _) F ?_) | (refine aU F F (by first | rfl | (refine decide_eq_true ?_;(assumption))) ?_) | (refine aE F F (by first | rfl | (refine decide_eq_false ?_;(omega))) ?_) | refine ae F F ?_ | (refine af F (by first | rfl | assumption) ?_))
      all_goals refine jZ (vs:=[_,_]) F ⟨aB F F F F,F,trivial⟩ F ⟨hle,F,?_⟩
      all_goals exact ⟨default,false,F,by rw [hno];rfl⟩
theorem po {s : ye} {k : Nat} (h : s.length ≤ 1000) : ce yd 163 [S s,U8 k] G (mJ s k):=by
 by_cases hk : k = 69
 ·subst hk
  by_cases h2 : (aR 58 (ao 61 s).1).length = 2
  ·match e : aR 58 (ao 61 s).1,h2 with
   | [a,b],_=>exact oV h e
  ·exact kz h (by simpa using h2)
 ·by_cases h3 : (aR 58 (ao 61 s).1).length = 3
  ·match e : aR 58 (ao 61 s).1,h3 with
   | [a,b,c],_=>exact oU h hk e
  ·exact kz h (by simpa [hk] using h3)
theorem gL {s : ye} {xs : List ye} {k : Nat} (n : Nat) (h : s.length ≤ 100000000) (e : aR k s = xs) (hn : xs.length = n) (h0 : 0 < n) :
  cg yd 114 [S s,U8 k] G [] (fun v L'=>∃ b cap,v = .slice (some ⟨b,0,none⟩) n cap ∧ L' = [.acc (.slice (some ⟨b,0,none⟩) n cap) qj 1 n (mN xs)]):=by
 subst hn;subst e
 refine (pX (G:=G) (k:=k) h).mono ?_
 rintro v G' L' ⟨h1,h2,h3⟩
 obtain ⟨b,cap,rfl⟩:=h3.pos oM
 exact ⟨h1,b,cap,F,h2⟩
theorem oW {s : ye} {top m : Int} (h : s.length ≤ 100000000) (e : aQ s top = some m) : aI yd 151 [S s,I top] G (· = Tu [I m,Bo true]):=by
 refine (kP (G:=G) (top:=top) h).mono ?_
 rintro v G' L' ⟨h1,h2,n,rfl,h3⟩
 exact ⟨h1,h2,by rw [e,h3 m e];rfl⟩
abbrev iC (s : ye) (k : Nat) (v : Value) : Prop:=∃ f ok,v = Tu [Ag (b6 f),Bo ok] ∧ bz s k = if ok then some f else none
theorem sM {s : ye} {k : Nat} (h : (aR 58 s).length ≠ 2) (h' : (aR 58 s).length ≠ 3) : bz s k = none:=by
 unfold bz
 split
 ·rename_i e;rw [e] at h;simp at h
 ·rename_i e;rw [e] at h';simp at h'
 ·rfl
theorem m8 {s : ye} {k : Nat} (h : s.length ≤ 1000) (e : (aR 58 s).length ≠ 2) (e' : (aR 58 s).length ≠ 3) : aI yd 156 [S s,U8 k] G (iC s k):=by
 have e0 : 0 < (aR 58 s).length:=c0
 generalize hn : (aR 58 s).length = n at *
 have cx_cut1:=gL (G:=G) (k:=58) n oM rfl hn e0
 have hno : bz s k = none:=sM oM oM
 refine jE [(0,_),(1,_)] Tryz.func156 Tryz.ntmps156 fun B hB=>?_
 repeat' (first | refine jR ?_ | (refine jo ?_;first | refine jL fun _=>?_ | refine jV (ai F) ?_ | refine aV F ?_ | refine aG F ?_ | refine jV (aq F F) ?_ | refine jC F F F ?_ | (refine dD F F F cx_cut1 F ?_;rintro _ _ ⟨b1,cap1,rfl,rfl⟩;dsimp only [zA,fA])) | refine aU F F (aC oM) ?_ | refine dm F F (fun _=>?_) (fun _=>?_) | (refine ae F (by first | rfl | (refine decide_eq_true ?_;(omega))) ?_))
 all_goals refine jZ (vs:=[_,_]) F ⟨aB F F F F,F,trivial⟩ F ⟨F,F,?_⟩
 all_goals exact ⟨default,false,F,by rw [hno];rfl⟩
theorem m7 {s a b : ye} {k : Nat} (h : s.length ≤ 1000) (e : aR 58 s = [a,b]) : aI yd 156 [S s,U8 k] G (iC s k):=by
 have ha : a.length ≤ 1000:=Nat.le_trans (cy (k:=58) (s:=s) (by rw [e];simp)) h
 have hb : b.length ≤ 1000:=Nat.le_trans (cy (k:=58) (s:=s) (by rw [e];simp)) h
 have cx_cut1:=gL (G:=G) (k:=58) 2 oM e rfl oM
 by_cases hk : k = 69
 case neg =>
  have hno : bz s k = none:=by unfold bz;rw [e];simp [hk]
  refine jE [(0,_),(1,_)] Tryz.func156 Tryz.ntmps156 fun B hB=>?_
  repeat' (first | refine jR ?_ | (refine jo ?_;first | refine jL fun _=>?_ | refine jV (ai F) ?_ | refine aV F ?_ | refine jV (aq F F) ?_ | refine jC F F F ?_ | (refine dD F F F cx_cut1 F ?_;rintro _ _ ⟨b1,cap1,rfl,rfl⟩;dsimp only [zA,fA])) | (refine aU F F (by first | rfl | (refine decide_eq_true ?_;(omega))) ?_) | refine ae F F ?_)
  all_goals refine jZ (vs:=[_,_]) F ⟨aB F F F F,F,trivial⟩ F ⟨F,F,?_⟩
  all_goals exact ⟨default,false,F,by rw [hno];rfl⟩
 subst hk
 rcases hm : aQ a 200 with _ | m
 ·have hno : bz s 69 = none:=by unfold bz;rw [e];simp [hm]
  refine jE [(0,_),(1,_)] Tryz.func156 Tryz.ntmps156 fun B hB=>?_
  repeat' (first | refine jR ?_ | (refine jo ?_;first | refine jL fun _=>?_ | refine jV (ai F) ?_ | refine aV F ?_ | refine aG F ?_ | refine jV (aq F F) ?_ | refine jC F F F ?_ | refine jV (aY F F oM) ?_ | refine jV (gY F F F) ?_ | refine aZ F ?_ | (refine dD F F F cx_cut1 F ?_;rintro _ _ ⟨b1,cap1,rfl,rfl⟩;dsimp only [zA,fA]) | (refine dQ F F F (kP oM) F ?_;rintro _ ⟨n,rfl,hnum⟩)) | (refine aU F F ?_ ?_;(focus ((first | rfl | (simp [*];done));done))) | refine aE F F F ?_ | refine ae F F ?_ | refine af F F ?_)
  all_goals refine jZ (vs:=[_,_]) F ⟨aB F F F F,F,trivial⟩ F ⟨F,F,?_⟩
  all_goals exact ⟨⟨_,_,_,_⟩,false,F,by rw [hno];rfl⟩
 have cx_num:=oW (G:=G) oM hm
 have hyes : bz s 69 = if 1 ≤ m ∧ bH b = true then some ⟨m,b,[],[]⟩ else none:=by unfold bz;rw [e];simp [hm]
 refine jE [(0,_),(1,_)] Tryz.func156 Tryz.ntmps156 fun B hB=>?_
 repeat' (first | refine jR ?_ | (refine jo ?_;first | refine jL fun _=>?_ | refine jV (ai F) ?_ | refine aV F ?_ | refine aG F ?_ | refine jV (aq F F) ?_ | refine jC F F F ?_ | refine jV (aY F F oM) ?_ | refine am F ?_ | refine jV (gY F F F) ?_ | refine aZ F ?_ | (refine dD F F F cx_cut1 F ?_;rintro _ _ ⟨b1,cap1,rfl,rfl⟩;dsimp only [zA,fA]) | refine ad F F F cx_num F ?_ | refine ad F F F (dR oM) F ?_) | refine aU F F F ?_ | refine aE F F F ?_ | refine dm F F (fun _=>?_) (fun _=>?_) | refine ae F F ?_ | refine af F F ?_ | refine oo F (fun _=>?_) (fun _=>?_))
 all_goals refine jZ (vs:=[_,_]) F ⟨aB F F F F,F,trivial⟩ F ⟨F,F,?_⟩
 all_goals first | exact ⟨⟨m,b,[],[]⟩,true,F,by rw [hyes];simp_all;try omega⟩ | exact ⟨⟨m,b,[],[]⟩,false,F,by rw [hyes];simp_all;try omega⟩
theorem mD {s a b c d f : ye} {k : Nat} {m : Int} (h : s.length ≤ 1000) (e : aR 58 s = [a,b,c]) (hk : ¬ k = 69) (hm : aQ a 200 = some m) (hg1 : 1 ≤ m) (hg2 : bH b = true) (e2 : aR 61 c = [d,f]) : aI yd 156 [S s,U8 k] G (iC s k):=by
 have ha : a.length ≤ 1000:=Nat.le_trans (cy (k:=58) (s:=s) (by rw [e];simp)) h
 have hb : b.length ≤ 1000:=Nat.le_trans (cy (k:=58) (s:=s) (by rw [e];simp)) h
 have hc : c.length ≤ 1000:=Nat.le_trans (cy (k:=58) (s:=s) (by rw [e];simp)) h
 have cx_cut1:=gL (G:=G) (k:=58) 3 oM e rfl oM
 have cx_num:=oW (G:=G) oM hm
 have hyes : bz s k = if k = 82 ∧ bn d f = true then some ⟨m,b,d,f⟩ else none:=by
  unfold bz;rw [e];simp [hm,hg1,hg2,hk,e2]
 have hd : d.length ≤ 1000:=Nat.le_trans (cy (k:=61) (s:=c) (by rw [e2];simp)) hc
 have hf : f.length ≤ 1000:=Nat.le_trans (cy (k:=61) (s:=c) (by rw [e2];simp)) hc
 have cx_cut2:=gL (G:=G) (k:=61) 2 oM e2 rfl oM
 by_cases h82 : k = 82
 ·have h83 : (k : Int) = 82:=oM
  refine jE [(0,_),(1,_)] Tryz.func156 Tryz.ntmps156 fun B hB=>?_
  repeat' (first | refine jR ?_ | (refine jo ?_;first | refine jL fun _=>?_ | refine jV (ai F) ?_ | refine aV F ?_ | refine aG F ?_ | refine jV (aq F F) ?_ | refine jD F F F ?_ | refine jC F F F ?_ | refine jV (aY F F oM) ?_ | refine am F ?_ | refine jV (gY F F F) ?_ | (refine dD F F F cx_cut1 F ?_;rintro _ _ ⟨b1,cap1,rfl,rfl⟩;dsimp only [zA,fA]) | (refine dD F F F cx_cut2 F ?_;rintro _ _ ⟨b2,cap2,rfl,rfl⟩;dsimp only [zA,fA]) | refine ad F F F cx_num F ?_ | refine ad F F F (dR oM) F ?_) | refine aU F F F ?_ | (refine aE F F (by first | rfl | (refine decide_eq_false ?_;(omega))) ?_) | refine ae F F ?_ | (refine af F ?_ ?_;(focus ((first | (refine decide_eq_false ?_;(omega)) | (simp [*];done));done))) | (refine al (c7 (id:=14) (tt:=4) F ak ?_);refine jW 9 [1,2,3] (aa 12 14) ?_;(try (refine Nx.re (d:=76) (v':=Bo true) F (congrArg Value.bool (aC ‹_›)) ?_));refine jW 7 [4,6] (aa 12 94) ?_;(refine jG (aa 12 95) 0 F (bJ F F F F) ?_);(refine jG (aa 12 127) 5 F (aD F F F) ?_);(refine jG (aa 12 255) 7 F (aD F F F) ?_);((refine jA 8 F ?_;(refine ad F F F (rR oM) F ?_);refine jK (aa 12 511) ?_));((refine jG (aa 12 1023) 9 F (bL F F ?_) ?_;(focus ((rfl);done))));refine jA 10 F ?_;(refine jC F F F ?_);refine jK (aa 12 2047) ?_;refine jW 0 [11] (aa 12 4095) ?_;refine jQ ?_))
  all_goals refine jZ (vs:=[_,_]) F ⟨aB F F F F,F,trivial⟩ F ⟨F,F,?_⟩
  all_goals exact ⟨⟨m,b,d,f⟩,bn d f,F,by rw [hyes];simp [h82]⟩
 ·have h83 : ¬ (k : Int) = 82:=oM
  refine jE [(0,_),(1,_)] Tryz.func156 Tryz.ntmps156 fun B hB=>?_
  repeat' (first | refine jR ?_ | (refine jo ?_;first | refine jL fun _=>?_ | refine jV (ai F) ?_ | refine aV F ?_ | refine aG F ?_ | refine jV (aq F F) ?_ | refine jD F F F ?_ | refine jC F F F ?_ | refine jV (aY F F oM) ?_ | refine am F ?_ | refine jV (gY F F F) ?_ | (refine dD F F F cx_cut1 F ?_;rintro _ _ ⟨b1,cap1,rfl,rfl⟩;dsimp only [zA,fA]) | (refine dD F F F cx_cut2 F ?_;rintro _ _ ⟨b2,cap2,rfl,rfl⟩;dsimp only [zA,fA]) | refine ad F F F cx_num F ?_ | refine ad F F F (dR oM) F ?_) | refine aU F F F ?_ | (refine aE F F (by first | rfl | (refine decide_eq_false ?_;(omega))) ?_) | refine ae F F ?_ | (refine af F ?_ ?_;(focus ((first | (refine decide_eq_false ?_;(omega)) | (simp [*];done));done))) | (refine al (c7 (id:=14) (tt:=4) F ak ?_);refine jW 9 [1,2,3] (aa 12 14) ?_;(try (refine Nx.re (d:=76) (v':=Bo false) F (congrArg Value.bool (aF ‹_›)) ?_));refine jW 7 [4,6] (aa 12 94) ?_;(refine jG (aa 12 95) 0 F (bJ F F F F) ?_);(refine jN (aa 12 127) 5 F ?_);(refine jN (aa 12 255) 7 F ?_);(refine jN (aa 12 511) 8 F ?_);((refine jG (aa 12 1023) 9 F (aP F F ?_) ?_;(focus ((rfl);done))));refine jA 10 F ?_;(refine jC F F F ?_);refine jK (aa 12 2047) ?_;refine jW 0 [11] (aa 12 4095) ?_;refine jQ ?_))
  all_goals refine jZ (vs:=[_,_]) F ⟨aB F F F F,F,trivial⟩ F ⟨F,F,?_⟩
  all_goals exact ⟨⟨m,b,d,f⟩,false,F,by rw [hyes];simp [h82]⟩
theorem m6 {s a b c : ye} {k : Nat} (h : s.length ≤ 1000) (e : aR 58 s = [a,b,c]) : aI yd 156 [S s,U8 k] G (iC s k):=by
 have ha : a.length ≤ 1000:=Nat.le_trans (cy (k:=58) (s:=s) (by rw [e];simp)) h
 have hb : b.length ≤ 1000:=Nat.le_trans (cy (k:=58) (s:=s) (by rw [e];simp)) h
 have hc : c.length ≤ 1000:=Nat.le_trans (cy (k:=58) (s:=s) (by rw [e];simp)) h
 have cx_cut1:=gL (G:=G) (k:=58) 3 oM e rfl oM
 by_cases hk : k = 69
 case pos =>
  subst hk
  have hno : bz s 69 = none:=by unfold bz;rw [e];simp
  refine jE [(0,_),(1,_)] Tryz.func156 Tryz.ntmps156 fun B hB=>?_
  repeat' (first | refine jR ?_ | (refine jo ?_;first | refine jL fun _=>?_ | refine jV (ai F) ?_ | refine aV F ?_ | refine aG F ?_ | refine jV (aq F F) ?_ | refine jC F F F ?_ | (refine dD F F F cx_cut1 F ?_;rintro _ _ ⟨b1,cap1,rfl,rfl⟩;dsimp only [zA,fA])) | refine aU F F F ?_ | refine aE F F F ?_ | refine ae F F ?_)
  all_goals refine jZ (vs:=[_,_]) F ⟨aB F F F F,F,trivial⟩ F ⟨F,F,?_⟩
  all_goals exact ⟨default,false,F,by rw [hno];rfl⟩
 rcases hm : aQ a 200 with _ | m
 ·have hno : bz s k = none:=by unfold bz;rw [e];simp [hm]
  refine jE [(0,_),(1,_)] Tryz.func156 Tryz.ntmps156 fun B hB=>?_
  repeat' (first | refine jR ?_ | (refine jo ?_;first | refine jL fun _=>?_ | refine jV (ai F) ?_ | refine aV F ?_ | refine aG F ?_ | refine jV (aq F F) ?_ | refine jC F F F ?_ | refine jV (aY F F oM) ?_ | refine jV (gY F F F) ?_ | refine aZ F ?_ | (refine dD F F F cx_cut1 F ?_;rintro _ _ ⟨b1,cap1,rfl,rfl⟩;dsimp only [zA,fA]) | (refine dQ F F F (kP oM) F ?_;rintro _ ⟨n,rfl,hnum⟩)) | (refine aU F F ?_ ?_;(focus ((first | rfl | (simp [*];done));done))) | refine aE F F F ?_ | refine ae F F ?_ | refine af F (aF oM) ?_)
  all_goals refine jZ (vs:=[_,_]) F ⟨aB F F F F,F,trivial⟩ F ⟨F,F,?_⟩
  all_goals exact ⟨⟨_,_,_,_⟩,false,F,by rw [hno];rfl⟩
 have cx_num:=oW (G:=G) oM hm
 by_cases hg : 1 ≤ m ∧ bH b = true
 case neg =>
  have hno : bz s k = none:=by unfold bz;rw [e];simp [hm,hg]
  have hg' : m < 1 ∨ bH b = false:=by
   by_cases h1 : m < 1
   ·exact .inl h1
   ·cases hb2 : bH b with
    | false=>exact .inr F
    | true=>exact absurd ⟨oM,hb2⟩ hg
  rcases hg' with hg' | hg'
  all_goals refine jE [(0,_),(1,_)] Tryz.func156 Tryz.ntmps156 fun B hB=>?_
  all_goals repeat' (first | refine jR ?_ | (refine jo ?_;first | refine jL fun _=>?_ | refine jV (ai F) ?_ | refine aV F ?_ | refine aG F ?_ | refine jV (aq F F) ?_ | refine jC F F F ?_ | refine jV (aY F F oM) ?_ | refine am F ?_ | refine jV (gY F F F) ?_ | refine aZ F ?_ | (refine dD F F F cx_cut1 F ?_;rintro _ _ ⟨b1,cap1,rfl,rfl⟩;dsimp only [zA,fA]) | refine ad F F F cx_num F ?_ | refine ad F F F (dR oM) F ?_) | (refine aU F F (by first | rfl | (refine decide_eq_true ?_;(assumption))) ?_) | refine aE F F F ?_ | refine dm F F (fun _=>?_) (fun _=>?_) | (refine ae F ?_ ?_;(focus ((first | rfl | (simp [*];done));done))) | refine af F (aF oM) ?_)
  all_goals refine jZ (vs:=[_,_]) F ⟨aB F F F F,F,trivial⟩ F ⟨F,F,?_⟩
  all_goals exact ⟨⟨_,_,_,_⟩,false,F,by rw [hno];rfl⟩
 obtain ⟨hg1,hg2⟩:=hg
 have hyes : bz s k = match aR 61 c with
  | [d]=>if be d = true then some ⟨m,b,d,[]⟩ else none
  | [d,e]=>if k = 82 ∧ bn d e = true then some ⟨m,b,d,e⟩ else none
  | _=>none:=by
  unfold bz;rw [e];simp only [hm,hg1,hg2,hk,if_false,if_true,and_self] <;> rfl
 have hp : 0 < (aR 61 c).length:=c0
 match e2 : aR 61 c,hp with
 | [d],_ =>
  rw [e2] at hyes
  have cx_cut2:=gL (G:=G) (k:=61) 1 oM e2 rfl oM
  refine jE [(0,_),(1,_)] Tryz.func156 Tryz.ntmps156 fun B hB=>?_
  repeat' (first | refine jR ?_ | (refine jo ?_;first | refine jL fun _=>?_ | refine jV (ai F) ?_ | refine aV F ?_ | refine aG F ?_ | refine jV (aq F F) ?_ | refine jD F F F ?_ | refine jC F F F ?_ | refine jV (ah F F oM) ?_ | refine jV (aY F F oM) ?_ | refine am F ?_ | refine jV (gY F F F) ?_ | (refine dD F F F cx_cut1 F ?_;rintro _ _ ⟨b1,cap1,rfl,rfl⟩;dsimp only [zA,fA]) | (refine dD F F F cx_cut2 F ?_;rintro _ _ ⟨b2,cap2,rfl,rfl⟩;dsimp only [zA,fA]) | refine ad F F F cx_num F ?_ | refine ad F F F (dR oM) F ?_) | refine aU F F F ?_ | (refine aE F F (by first | rfl | (refine decide_eq_false ?_;(omega))) ?_) | (refine af F ?_ ?_;(focus ((first | rfl | (refine decide_eq_false ?_;(omega)) | (simp [*];done));done))) | (refine al (c7 (id:=15) (tt:=4) F ak ?_);refine jW 10 [1] (aa 11 2) ?_;(refine jG (aa 11 3) 0 F (bJ F F F F) ?_);(refine jG (aa 11 7) 2 F (ai F) ?_);refine jW 6 [3,4] (aa 11 31) ?_;(try (refine Nx.re (d:=87) (v':=Bo true) F (congrArg Value.bool F) ?_));refine jW 5 [5] (aa 11 63) ?_;(refine jG (aa 11 127) 6 F (aD F F F) ?_);(refine jA 7 F ?_;(refine ad F F F kC F ?_);refine jK (aa 11 255) ?_);((refine jG (aa 11 511) 8 F (bL F F ?_) ?_;(focus ((rfl);done))));refine jA 9 F ?_;(refine jC F F F ?_);refine jK (aa 11 1023) ?_;refine jW 0 [10] (aa 11 2047) ?_;refine jQ ?_))
  all_goals refine jZ (vs:=[_,_]) F ⟨aB F F F F,F,trivial⟩ F ⟨F,F,?_⟩
  all_goals exact ⟨⟨m,b,d,[]⟩,be d,F,hyes⟩
 | [d,f],_=>exact mD h e hk hm hg1 hg2 e2
 | d :: f :: g :: r,_ =>
  rw [e2] at hyes
  have cx_cut2:=gL (G:=G) (k:=61) (r.length + 3) oM e2 (by simp) oM
  refine jE [(0,_),(1,_)] Tryz.func156 Tryz.ntmps156 fun B hB=>?_
  repeat' (first | refine jR ?_ | (refine jo ?_;first | refine jL fun _=>?_ | refine jV (ai F) ?_ | refine aV F ?_ | refine aG F ?_ | refine jV (aq F F) ?_ | refine jD F F F ?_ | refine jC F F F ?_ | refine jV (ah F F oM) ?_ | refine jV (aY F F oM) ?_ | refine am F ?_ | refine jV (gY F F F) ?_ | (refine dD F F F cx_cut1 F ?_;rintro _ _ ⟨b1,cap1,rfl,rfl⟩;dsimp only [zA,fA]) | (refine dD F F F cx_cut2 F ?_;rintro _ _ ⟨b2,cap2,rfl,rfl⟩;dsimp only [zA,fA]) | refine ad F F F cx_num F ?_ | refine ad F F F (dR oM) F ?_) | refine aU F F F ?_ | (refine aE F F (by first | rfl | (refine decide_eq_false ?_;(omega))) ?_) | (refine af F ?_ ?_;(focus ((first | rfl | (refine decide_eq_false ?_;(omega)) | (simp [*];done));done))) | (refine al (c7 (id:=15) (tt:=4) F ak ?_);refine jW 10 [1] (aa 11 2) ?_;(refine jG (aa 11 3) 0 F (bJ F F F F) ?_);(refine jG (aa 11 7) 2 F (ai F) ?_);refine jW 6 [3,4] (aa 11 31) ?_;(try (refine Nx.re (d:=87) (v':=Bo false) F (congrArg Value.bool F) ?_));refine jW 5 [5] (aa 11 63) ?_;(refine jN (aa 11 127) 6 F ?_);(refine jN (aa 11 255) 7 F ?_);((refine jG (aa 11 511) 8 F (aP F F ?_) ?_;(focus ((rfl);done))));refine jA 9 F ?_;(refine jC F F F ?_);refine jK (aa 11 1023) ?_;refine jW 0 [10] (aa 11 2047) ?_;refine jQ ?_))
  all_goals refine jZ (vs:=[_,_]) F ⟨aB F F F F,F,trivial⟩ F ⟨F,F,?_⟩
  all_goals exact ⟨⟨m,b,d,[]⟩,false,F,hyes⟩
theorem ju {s : ye} {k : Nat} (h : s.length ≤ 1000) : aI yd 156 [S s,U8 k] G (iC s k):=by
 by_cases h2 : (aR 58 s).length = 2
 ·match e : aR 58 s,h2 with
  | [a,b],_=>exact m7 h e
 by_cases h3 : (aR 58 s).length = 3
 ·match e : aR 58 s,h3 with
  | [a,b,c],_=>exact m6 h e
 exact m8 h h2 h3
theorem oY {s : ye} {k : Nat} (h : s.length ≤ 100000000) : ce yd 114 [S s,U8 k] G (fun v G'=>bh G' v 1 (aR k s).length (aj bV (aR k s))):=by
 refine cg.shutP ((pX (G:=G) (k:=k) h).mono ?_)
 rintro v G' L' ⟨h1,h2,_⟩
 exact ⟨h1,v,_,_,_,_,h2,fun G' _ h3=>by rw [← rj];exact h3⟩
abbrev qk : TypeId:=112
abbrev nb : TypeId:=110
def wh (s : ye) (v : Value) (G : Gh) : Prop:=∃ fv t ok,v = Tu [Ag [U8 (t : Ty).sort,S t.name,fv],Bo ok] ∧ (ci s = if ok = true then some t else none) ∧ bh G fv 4 t.fields.length (aj b6 t.fields)
theorem bh.nil0 {G : Gh} {sz : Nat} : bh G ax sz 0 []:=⟨by simp,.inl ⟨rfl,rfl⟩⟩
theorem oJ {α : Type} [Inhabited α] {xs : List α} {i : Nat} (h : i < xs.length) : xs.drop i = ac xs i :: xs.drop (i + 1):=by rw [bW h];exact (List.getElem_cons_drop (h:=h)).symm
theorem p9.sl {v : Value} {m : Nat} (h : p9 v m) : ∃ a cap,v = .slice a m cap:=by
 rcases h with ⟨rfl,rfl⟩ | ⟨b,cap,rfl,_⟩
 ·exact ⟨none,0,F⟩
 ·exact ⟨_,cap,F⟩
theorem iD {c : UInt8} {r : ye} (h : (ao 61 r).2.2 = false) : ci (c :: r) = none:=by
 unfold ci
 split
 ·rfl
 ·rename_i h1;cases h1
  split
  ·rename_i h2;rw [h2] at h;cases h
  ·rfl
theorem kG {c : UInt8} {r name rest : ye} (h : ao 61 r = (name, rest, true)) : ci (c :: r) = if bH name = true ∧ c6 c.toNat then
        if rest = [] then (if c.toNat = 82 then some ⟨82,name,[]⟩ else none)
        else match cd c.toNat (aR 44 rest) [] with
          | some fs=>if fs.length ≤ 8 then some ⟨c.toNat,name,fs⟩ else none
          | none=>none
      else none:=by
  unfold ci
  simp only [h];rfl
theorem oX {s : ye} (h : s.length ≤ 1000) : ce yd 115 [S s] G (wh s):=by
  refine jB [(0,_)] Tryz.func115 Tryz.ntmps115 fun B hok hB hW=>?_
  repeat' (first | refine jR ?_ | (refine jo ?_;refine jL fun _=>?_))
  rename_i x
  refine aT (ι:=Nat) (fun i=>i ≤ s.length ∧ ∀ k,k < i → bt s k ≠ 61) (fun i=>[(0,S s),(2,Pt x 0),(4,I i)]) (fun _=>G) (fun i=>[.blk x (.cells [U8 0,S [],ax].toArray nb (0,0))]) (fun i=>s.length - i) 0 ?_ tU F bd (fun i Hi=>?_)
  · exact ⟨oM,fun k hk=>absurd hk oM⟩
  by_cases hi : i < s.length ∧ bt s i ≠ 61
  · repeat' (first | refine jM ?_ | (refine jo ?_;refine aV F ?_) | refine aU F F (aC oM) ?_ | (refine ae F ?_ ?_;(focus ((simp;omega);done))))
    refine aW (i + 1) ⟨oM,fun k hk=>?_⟩ oM tU F bd
    rcases Nat.lt_or_ge k i with h3 | h3
    · exact Hi.2 k h3
    · have : k = i:=oM
      subst this;exact hi.2
  rcases Nat.lt_or_ge i s.length with hlt | hge
  case inr =>
    have hno : ci s = none:=by
      match s,Hi,hge with
      | [],_,_=>rfl
      | c :: r,Hi,hge =>
        refine iD ?_
        rw [pT fun j hj=>by have:=Hi.2 (j + 1) (by simp at hge;omega);rwa [dJ] at this]
    repeat' (first | refine jR ?_ | (refine jo ?_;first | refine aV F ?_ | refine aG F ?_ | refine jV (aq F F) ?_ | refine jC F F F ?_) | refine aE F F (aF oM) ?_ | refine dm F F (fun _=>?_) (fun _=>?_) | (refine ae F (by first | rfl | (refine decide_eq_true ?_;(omega))) ?_) | refine af F F ?_)
    all_goals refine jZ (vs:=[_,_]) F ⟨aB F F F F,F,trivial⟩ F ⟨Gh.le.refl _,F,?_⟩
    all_goals exact ⟨ax,default,false,F,by rw [hno];rfl,bh.nil0⟩
  have h61 : bt s i = 61:=by
    rcases Nat.lt_or_ge (bt s i) 61 with h1 | h1
    · exact absurd ⟨hlt,oM⟩ hi
    · rcases Nat.lt_or_ge 61 (bt s i) with h2 | h2
      · exact absurd ⟨hlt,oM⟩ hi
      · omega
  match s,i,Hi,hlt,h61,h with
  | c :: r,0,Hi,hlt,h61,h =>
    have hno : ci (c :: r) = none:=by
      rw [cL] at h61
      cases ht : (ao 61 r).2.2 with
      | false=>exact iD ht
      | true =>
        rw [kG (c:=c) (r:=r) (name:=(ao 61 r).1) (rest:=(ao 61 r).2.1) (by rw [← ht])]
        rw [if_neg]
        rintro ⟨_,h2⟩
        unfold c6 at h2;omega
    have h62 : bt (c :: r) ((0 : Nat) : Int).toNat = 61:=h61
    repeat' (first | refine jM ?_ | (refine jo ?_;first | refine aV F ?_ | refine jV (aq F F) ?_ | refine jC F F F ?_) | (refine aU F F (by first | rfl | (refine decide_eq_true ?_;(omega))) ?_) | refine ae F F ?_ | refine af F (aF oM) ?_)
    all_goals refine jZ (vs:=[_,_]) F ⟨aB F F F F,F,trivial⟩ F ⟨Gh.le.refl _,F,?_⟩
    all_goals exact ⟨ax,default,false,F,by rw [hno];rfl,bh.nil0⟩
  | c :: r,j + 1,Hi,hlt,h61,h =>
    have hj : j < r.length:=by simpa using hlt
    have hcut1 : ao 61 r = (r.take j,r.drop (j + 1),true):=m0 hj (fun k hk=>by have:=Hi.2 (k + 1) oM;rwa [dJ] at this) (by rwa [dJ] at h61)
    have hty:=kG (c:=c) hcut1
    have h62 : bt (c :: r) ((j + 1 : Nat) : Int).toNat = 61:=h61
    have e0 : bt (c :: r) (Int.toNat 0) = c.toNat:=cL c r
    have hnl : (r.take j).length ≤ 1000:=by simp at h ⊢;omega
    have cx_nm:=dR (G:=G) (s:=r.take j) oM
    by_cases hg : bH (r.take j) = true ∧ c6 c.toNat
    case neg =>
      have hno : ci (c :: r) = none:=by rw [hty,if_neg hg]
      by_cases hn : bH (r.take j) = true
      · have hn2 : (!bH (r.take j)) = false:=by rw [hn];rfl
        have hns : ¬ c6 c.toNat:=fun h=>hg ⟨hn,h⟩
        unfold c6 at hns
        repeat' (first | refine jM ?_ | (refine jo ?_;first | refine aV F ?_ | refine aG F ?_ | refine jC F F F ?_ | refine am F ?_ | refine aZ F ?_ | refine ad F F F cx_nm F ?_) | refine aU F F (aC oM) ?_ | (refine aE F F (by first | rfl | assumption) ?_) | refine ae F (aC oM) ?_ | refine af F (aF oM) ?_ | (refine al (aw (id:=6) _ (fun _ h=>h) ak ?_);refine jW 3 [0,1,2,3,4] (aa 8 31) ?_;(refine jG (aa 8 63) 5 F (aq F F) ?_);refine jA 6 F ?_;(refine jL fun _=>?_);refine jK (aa 8 127) ?_;refine jA 7 F ?_;(refine jC F F F ?_);refine jK (aa 8 255) ?_;refine jQ ?_))
        all_goals refine jZ (vs:=[_,_]) F ⟨aB F F F F,F,trivial⟩ F ⟨Gh.le.refl _,F,?_⟩
        all_goals exact ⟨ax,⟨_,_,[]⟩,false,F,by rw [hno];rfl,bh.nil0⟩
      · have hn2 : (!bH (r.take j)) = true:=by simpa using hn
        repeat' (first | refine jM ?_ | (refine jo ?_;first | refine aV F ?_ | refine aG F ?_ | refine jC F F F ?_ | refine am F ?_ | refine aZ F ?_ | refine ad F F F cx_nm F ?_) | (refine aU F F (by first | assumption | (refine decide_eq_true ?_;(omega))) ?_) | refine aE F F F ?_ | refine ae F F ?_ | refine af F (aF oM) ?_ | (refine al (aw (id:=6) _ (fun _ h=>h) ak ?_);refine jW 3 [0,1,2,3,4] (aa 8 31) ?_;(refine jG (aa 8 63) 5 F (aq F F) ?_);refine jA 6 F ?_;(refine jL fun _=>?_);refine jK (aa 8 127) ?_;refine jA 7 F ?_;(refine jC F F F ?_);refine jK (aa 8 255) ?_;refine jQ ?_))
        all_goals refine jZ (vs:=[_,_]) F ⟨aB F F F F,F,trivial⟩ F ⟨Gh.le.refl _,F,?_⟩
        all_goals exact ⟨ax,⟨_,_,[]⟩,false,F,by rw [hno];rfl,bh.nil0⟩
    have hn2 : (!bH (r.take j)) = false:=by rw [hg.1];rfl
    have hs2:=hg.2
    unfold c6 at hs2
    rw [if_pos hg] at hty
    by_cases hrest : r.drop (j + 1) = []
    · rw [if_pos hrest] at hty
      by_cases h82 : c.toNat = 82
      · rw [if_pos h82] at hty
        have e82 : bt (c :: r) (Int.toNat 0) = 82:=oM
        repeat' (first | refine jM ?_ | (refine jo ?_;first | refine aV F ?_ | refine aG F ?_ | refine am F ?_ | refine ad F F F cx_nm F ?_) | refine aU F F (aC oM) ?_ | (refine aE F F (by first | rfl | assumption | (refine decide_eq_false ?_;(omega))) ?_) | refine ae F (aC ‹_›) ?_ | (refine af F (by first | rfl | (refine decide_eq_false ?_;(omega))) ?_) | (refine al (aw (id:=6) _ (fun _ h=>h) ak ?_);refine jW 3 [0,1,2,3,4] (aa 8 31) ?_;(refine jG (aa 8 63) 5 F (aq F F) ?_);refine jA 6 F ?_;(refine jL fun _=>?_);refine jK (aa 8 127) ?_;refine jA 7 F ?_;(refine jC F F F ?_);refine jK (aa 8 255) ?_;refine jQ ?_) | (refine al (c7 (id:=10) (tt:=2) F ak ?_);refine jW 5 [1] (aa 6 2) ?_;(refine jG (aa 6 3) 0 F (bJ F F F F) ?_);(refine jG (aa 6 7) 2 F (aD F F F) ?_);refine jW 2 [3] (aa 6 15) ?_;refine jA 4 F ?_;(refine jC F F F ?_);refine jK (aa 6 31) ?_;refine jW 0 [5] (aa 6 63) ?_;refine jQ ?_))
        all_goals refine jZ (vs:=[_,_]) F ⟨aB F F F F,F,trivial⟩ F ⟨Gh.le.refl _,F,?_⟩
        all_goals refine ⟨ax,⟨82,r.take j,[]⟩,true,?_,hty,bh.nil0⟩
        all_goals show Tu [Ag [U8 (bt (c :: r) (Int.toNat 0) : Nat),S (r.take j),ax],Bo (decide (((bt (c :: r) (Int.toNat 0) : Nat) : Int) = 82))] = _
        all_goals (rw [e82];rfl)
      · rw [if_neg h82] at hty
        have e82 : ¬ bt (c :: r) (Int.toNat 0) = 82:=oM
        have e83 : decide (((bt (c :: r) (Int.toNat 0) : Nat) : Int) = 82) = false:=decide_eq_false oM
        repeat' (first | refine jM ?_ | (refine jo ?_;first | refine aV F ?_ | refine aG F ?_ | refine am F ?_ | refine ad F F F cx_nm F ?_) | refine aU F F (aC oM) ?_ | (refine aE F F (by first | rfl | assumption) ?_) | refine dm F F (fun _=>?_) (fun _=>?_) | refine ae F (aC ‹_›) ?_ | (refine af F (by first | rfl | (refine decide_eq_false ?_;(omega))) ?_) | (refine al (aw (id:=6) _ (fun _ h=>h) ak ?_);refine jW 3 [0,1,2,3,4] (aa 8 31) ?_;(refine jG (aa 8 63) 5 F (aq F F) ?_);refine jA 6 F ?_;(refine jL fun _=>?_);refine jK (aa 8 127) ?_;refine jA 7 F ?_;(refine jC F F F ?_);refine jK (aa 8 255) ?_;refine jQ ?_) | (refine al (c7 (id:=10) (tt:=2) F ak ?_);refine jW 5 [1] (aa 6 2) ?_;(refine jG (aa 6 3) 0 F (bJ F F F F) ?_);(refine jG (aa 6 7) 2 F (aD F F F) ?_);refine jW 2 [3] (aa 6 15) ?_;refine jA 4 F ?_;(refine jC F F F ?_);refine jK (aa 6 31) ?_;refine jW 0 [5] (aa 6 63) ?_;refine jQ ?_))
        all_goals refine jZ (vs:=[_,_]) F ⟨aB F F F F,F,trivial⟩ F ⟨Gh.le.refl _,F,?_⟩
        all_goals refine ⟨ax,⟨bt (c :: r) (Int.toNat 0),r.take j,[]⟩,false,?_,hty,bh.nil0⟩
        all_goals show Tu [Ag [U8 (bt (c :: r) (Int.toNat 0) : Nat),S (r.take j),ax],Bo (decide (((bt (c :: r) (Int.toNat 0) : Nat) : Int) = 82))] = _
        all_goals (rw [e83])
    rw [if_neg hrest] at hty
    have hrl : (r.drop (j + 1)).length ≤ 1000:=by simp at h ⊢;omega
    have hcl:=g7 (k:=44) (s:=r.drop (j + 1))
    have cx_cutS:=oY (G:=G) (s:=r.drop (j + 1)) (k:=44) oM
    have hall : ∀ y ∈ aR 44 (r.drop (j + 1)),y.length ≤ 1000:=fun y hy=>Nat.le_trans (cy hy) hrl
    generalize hxs : aR 44 (r.drop (j + 1)) = xs at *
    rcases hs2 with h1 | h1 | h1
    all_goals repeat' (first | refine jM ?_ | (refine jo ?_;first | refine aV F ?_ | refine aG F ?_ | refine am F ?_ | refine ad F F F cx_nm F ?_ | (refine aJ F F F cx_cutS F ?_;rintro _ G hle hcut;skip)) | refine aU F F (aC oM) ?_ | (refine aE F F (by first | rfl | assumption | (refine decide_eq_false ?_;(omega))) ?_) | (refine af F (by first | rfl | (refine decide_eq_false ?_;first | assumption | omega)) ?_) | (refine al (aw (id:=6) _ (fun _ h=>h) ak ?_);refine jW 3 [0,1,2,3,4] (aa 8 31) ?_;(refine jG (aa 8 63) 5 F (aq F F) ?_);refine jA 6 F ?_;(refine jL fun _=>?_);refine jK (aa 8 127) ?_;refine jA 7 F ?_;(refine jC F F F ?_);refine jK (aa 8 255) ?_;refine jQ ?_))
    all_goals rename_i y v
    all_goals refine Nx.addNil qk 4 ?_
    all_goals refine aT (ι:=Value × List Fld × Nat) (fun i=>i.2.2 ≤ xs.length ∧ i.2.1.length ≤ i.2.2 ∧ cd c.toNat (xs.drop i.2.2) i.2.1 = cd c.toNat xs []) (fun i=>[(2,Pt x 0),(5,Pt y 0),(6,v),(7,I i.2.2)]) (fun _=>G) (fun i=>[.acc i.1 qk 4 i.2.1.length (aj b6 i.2.1),.blk y (.cells [U8 (bt (c :: r) (Int.toNat 0) : Nat),S (r.take j),i.1].toArray nb (0,0)),.blk x (.cells [U8 0,S [],ax].toArray nb (0,0))]) (fun i=>xs.length - i.2.2) (ax,[],0) ?_ tU F bd (fun i Hi=>?_)
    all_goals (first | exact ⟨Nat.zero_le _,Nat.le_refl _,F⟩ | skip)
    all_goals obtain ⟨u,fs,i⟩:=i
    all_goals dsimp only at Hi ⊢
    all_goals obtain ⟨hi1,hi2,hi3⟩:=Hi
    all_goals refine Nx.shp (v:=u) (.head _) fun hsh=>?_
    all_goals (have hsh2:=hsh;obtain ⟨au,cu,rfl⟩:=hsh.sl)
    all_goals by_cases hix : i < xs.length
    all_goals try (rw [oJ hix,cd] at hi3;obtain ⟨bv,ov,cv,rfl,hsv⟩:=hcut.expl oM;have hx:=hall _ (a6 hix))
    all_goals repeat' (first | refine jR ?_ | (refine jo ?_;first | refine jC F F F ?_ | refine aZ F ?_ | refine jV (ai F) ?_ | refine jV (cJ F aS) ?_) | refine ae F (aC oM) ?_ | refine af F (aF oM) ?_ | refine oo F (fun _=>?_) (fun _=>?_) | (refine al (aw (id:=15) _ (fun _ h=>h) ak ?_);refine jT 10 [0,1,4] (aa 13 19) ?_;(refine jG (aa 13 23) 2 F (ah F F oM) ?_);((refine jG (aa 13 31) 3 F (fu F F aS ?_) ?_;focus omega));(refine jG (aa 13 63) 5 F (aD F F F) ?_);refine bY [6,10] kR dC ⟨?_,?_,trivial⟩;(focus (refine a5 F F ?_;(refine dQ F F F (ju oM) F ?_;rintro _ ⟨f,ok,rfl,hfld⟩);refine jK (aa 13 127) ?_;refine jW 3 [7,8,9] (aa 13 1023) ?_;refine jA 10 F ?_;(refine jL fun _=>?_);refine jK (aa 13 2047) ?_;refine jA 11 F ?_;(refine jC F F F ?_);refine jK (aa 13 4095) ?_;refine jW 0 [12] (aa 13 8191) ?_;refine jQ ?_));rotate_left 1;(focus (refine a5 F F ?_;(refine jL fun _=>?_);refine jK (aa 13 1087) ?_;refine jA 6 F ?_;(refine dQ F F F (ju oM) F ?_;rintro _ ⟨f,ok,rfl,hfld⟩);refine jK (aa 13 1151) ?_;refine jW 2 [7,8,9] (aa 13 2047) ?_;refine jA 11 F ?_;(refine jC F F F ?_);refine jK (aa 13 4095) ?_;refine jW 0 [12] (aa 13 8191) ?_;refine jQ ?_));rotate_left 1) | (refine al (c7 (id:=24) (tt:=2) F ak ?_);refine jW 6 [1] (aa 7 2) ?_;(refine jG (aa 7 3) 0 F (bJ F F F F) ?_);(refine jG (aa 7 7) 2 F (aD F F F) ?_);(refine jG (aa 7 15) 3 F (ai F) ?_);refine jW 2 [4] (aa 7 31) ?_;refine jA 5 F ?_;(refine jC F F F ?_);refine jK (aa 7 63) ?_;refine jW 0 [6] (aa 7 127) ?_;refine jQ ?_))
    all_goals first
      | (rename_i z hq
         have hq2 : ok = false:=by simpa using hq
         subst hq2
         have hf0 : bz (ac xs i) c.toNat = none:=hfld
         have hno : ci (c :: r) = none:=by rw [hf0] at hi3;rw [hty,← hi3]
         refine Nx.sealS (v:=.slice au fs.length cu) fun G' hle2 hsl=>?_
         refine jZ (vs:=[_,_]) F ⟨aB F F F F,F,trivial⟩ F ⟨hle.trans hle2,F,?_⟩
         exact ⟨.slice au fs.length cu,⟨bt (c :: r) (Int.toNat 0),r.take j,fs⟩,false,F,by rw [hno];rfl,hsl⟩)
      | (have ei : i = xs.length:=oM
         have hyes : ci (c :: r) = if fs.length ≤ 8 then some ⟨c.toNat,r.take j,fs⟩ else none:=by
           rw [ei,List.drop_length,cd] at hi3
           rw [hty,← hi3]
         refine Nx.sealS (v:=.slice au fs.length cu) fun G' hle2 hsl=>?_
         refine jZ (vs:=[_,_]) F ⟨aB F F F F,F,trivial⟩ F ⟨hle.trans hle2,F,?_⟩
         refine ⟨.slice au fs.length cu,⟨c.toNat,r.take j,fs⟩,decide (fs.length ≤ 8),?_,by rw [hyes];simp,hsl⟩
         rw [eo,e0]
         refine congrArg (fun x=>Tu [_,Bo x]) (decide_eq_decide.2 ?_)
         omega)
      | (rename_i z hq
         have hq2 : ok = true:=by simpa using hq
         subst hq2
         have hf1 : bz (ac xs i) c.toNat = some f:=hfld
         rw [hf1] at hi3
         dsimp only at hi3
         refine aT (ι:=Nat) (fun k=>k ≤ fs.length ∧ ∀ m,m < k → (ac fs m).tag < f.tag ∧ (ac fs m).name ≠ f.name) (fun k=>[(2,Pt x 0),(5,Pt y 0),(6,.slice (some ⟨bv,ov,none⟩) xs.length cv),(7,I i),(8,Pt z 0),(10,I k)]) (fun _=>G) (fun k=>[.blk z (.cells (b6 f).toArray qk (0,0)),.acc (.slice au fs.length cu) qk 4 fs.length (aj b6 fs),.blk y (.cells [U8 (bt (c :: r) (Int.toNat 0) : Nat),S (r.take j),.slice au fs.length cu].toArray nb (0,0)),.blk x (.cells [U8 0,S [],ax].toArray nb (0,0))]) (fun k=>fs.length - k) 0 ?_ tU F bd (fun k Hk=>?_)
         · exact ⟨Nat.zero_le _,fun m hm=>absurd hm oM⟩
         by_cases hk : k < fs.length
         · obtain ⟨bu,cu2,eu⟩:=hsh2.pos oM
           simp only [Value.slice.injEq] at eu
           obtain ⟨rfl,-,rfl⟩:=eu
           by_cases hbad : (ac fs k).tag < f.tag ∧ (ac fs k).name ≠ f.name
           · obtain ⟨hb1,hb2⟩:=hbad
             repeat' (first | refine jM ?_ | (refine jo ?_;first | refine am F ?_ | refine jV (ai F) ?_) | refine ae F (aC oM) ?_ | refine af F (aF ‹_›) ?_ | (refine al (aw (id:=21) _ (fun _ h=>h) ak ?_);refine jT 17 [0,2,6] (aa 20 69) ?_;(refine jG (aa 20 71) 1 F (aD F F F) ?_);(refine jG (aa 20 79) 3 F (ah F F oM) ?_);refine jT 14 [4] (aa 20 95) ?_;(refine jG (aa 20 127) 5 F (kM F F F oM F F) ?_);(refine jG (aa 20 255) 7 F (aD F F F) ?_);refine jT 10 [8,9] (aa 20 1023) ?_;(try ((refine Nx.re (d:=107) (v':=Bo false) F (congrArg Value.bool (aF oM)) ?_)));refine jT 7 [10,12,16] (aa 20 71679) ?_;(refine jG (aa 20 73727) 11 F (aD F F F) ?_);(refine jG (aa 20 81919) 13 F (ah F F oM) ?_);refine jT 4 [14] (aa 20 98303) ?_;(refine jG (aa 20 131071) 15 F (kM F F F oM F F) ?_);(refine jG (aa 20 262143) 17 F (aD F F F) ?_);refine jT 1 [18] (aa 20 524287) ?_;(refine jG (aa 20 1048575) 19 F (aP F F F) ?_);refine jQ ?_))
             refine aW (k + 1) ⟨oM,fun m hm=>?_⟩ oM tU F bd
             rcases Nat.lt_or_ge m k with h3 | h3
             · exact Hk.2 m h3
             · have : m = k:=oM
               subst this;exact ⟨hb1,hb2⟩
           · have hfr : fresh f fs = false:=by
               unfold fresh
               rw [List.all_eq_false]
               exact ⟨ac fs k,a6 hk,by simpa using hbad⟩
             have hno : ci (c :: r) = none:=by
               rw [hfr,if_neg (by simp)] at hi3
               rw [hty,← hi3]
             by_cases htag : f.tag ≤ (ac fs k).tag
             case' neg => have hnm : (ac fs k).name = f.name := by
                           by_cases h6 : (ac fs k).name = f.name
                           · exact h6
                           · exact absurd ⟨oM,h6⟩ hbad
             all_goals repeat' (first | refine jR ?_ | (refine jo ?_;first | refine jC F F F ?_ | refine am F ?_ | refine aZ F ?_ | refine jV (ai F) ?_) | (refine ae F (by first | rfl | (refine decide_eq_true ?_;first | assumption | omega)) ?_) | (refine al (aw (id:=21) _ (fun _ h=>h) ak ?_);refine jT 17 [0,2,6] (aa 20 69) ?_;(refine jG (aa 20 71) 1 F (aD F F F) ?_);(refine jG (aa 20 79) 3 F (ah F F oM) ?_);refine jT 14 [4] (aa 20 95) ?_;(refine jG (aa 20 127) 5 F (kM F F F oM F F) ?_);(refine jG (aa 20 255) 7 F (aD F F F) ?_);refine jT 10 [8,9] (aa 20 1023) ?_;(try (first | (refine Nx.re (d:=107) (v':=Bo true) F (congrArg Value.bool (aC ‹_›)) ?_) | (refine Nx.re (d:=107) (v':=Bo false) F (congrArg Value.bool (aF ‹_›)) ?_)));refine jT 7 [10,12,16] (aa 20 71679) ?_;(first | refine jG (aa 20 73727) 11 F (aD F F F) ?_ | refine jN (aa 20 73727) 11 F ?_);(first | refine jG (aa 20 81919) 13 F (ah F F oM) ?_ | refine jN (aa 20 81919) 13 F ?_);refine jT 4 [14] (aa 20 98303) ?_;(first | refine jG (aa 20 131071) 15 F (kM F F F oM F F) ?_ | refine jN (aa 20 131071) 15 F ?_);(first | refine jG (aa 20 262143) 17 F (aD F F F) ?_ | refine jN (aa 20 262143) 17 F ?_);refine jT 1 [18] (aa 20 524287) ?_;(first | refine jG (aa 20 1048575) 19 F (bL F F F) ?_ | refine jG (aa 20 1048575) 19 F (aP F F F) ?_);refine jQ ?_))
             all_goals refine Nx.sealS (v:=.slice (some ⟨bu,0,none⟩) fs.length cu) fun G' hle2 hsl=>?_
             all_goals refine jZ (vs:=[_,_]) F ⟨aB F F F F,F,trivial⟩ F ⟨hle.trans hle2,F,?_⟩
             all_goals exact ⟨.slice (some ⟨bu,0,none⟩) fs.length cu,⟨bt (c :: r) (Int.toNat 0),r.take j,fs⟩,false,F,by rw [hno];rfl,hsl⟩
         · have hfr : fresh f fs = true:=by
             unfold fresh
             rw [List.all_eq_true]
             intro g hg
             obtain ⟨m,hm,rfl⟩:=gq hg
             simpa using Hk.2 m oM
           rw [hfr,if_pos rfl] at hi3
           have hxl : xs.length ≤ 1001:=oM
           repeat' (first | refine jR ?_ | (refine jo ?_;first | refine am F ?_ | refine aZ F ?_ | refine jV (ai F) ?_ | refine jF fun _=>?_ | refine qU F F F F F F F F oM fun _=>?_) | refine af F (aF oM) ?_)
           rename_i u2
           refine Nx.shp (v:=u2) (.head _) fun hs4=>?_
           obtain ⟨a4,c4,rfl⟩:=hs4.sl
           repeat' (first | refine jM ?_ | (refine jo ?_;refine jD F F F ?_))
           refine aW (.slice a4 (fs.length + 1) c4,fs ++ [f],i + 1) ⟨by dsimp only;omega,by simp;omega,hi3⟩ (by dsimp only;omega) tU rfl (by dsimp only;simp only [cj,List.length_append,List.length_cons,List.length_nil,Nat.zero_add];repeat (first | exact List.Sublist.refl _ | apply List.Sublist.cons_cons | apply List.Sublist.cons)))
def lg (G : Gh) (b : Nat) (t : Ty) : Prop:=∃ fv ln,bE G b 0 [U8 t.sort,S t.name,fv,S ln] ∧ bh G fv 6 t.fields.length (aj gE t.fields)
theorem lg.mono {G G' : Gh} {b : Nat} {t : Ty} (h : lg G b t) (hl : Gh.le G G') : lg G' b t:=by
 obtain ⟨fv,ln,h1,h2⟩:=h
 exact ⟨fv,ln,h1.mono hl,h2.mono hl⟩
def wj (s : ye) (v : Value) (G : Gh) : Prop:=(ci s = none ∧ ∃ p,v = Tu [p,Bo false]) ∨ ∃ b t,v = Tu [Pt b 0,Bo true] ∧ ci s = some t ∧ lg G b t
abbrev rg : TypeId:=134
abbrev xg : TypeId:=132
theorem kq {k : Nat} : ∀ {xs : List ye} {fs gs : List Fld},cd k xs fs = some gs → gs.length = fs.length + xs.length
 | [],fs,gs,h=>by simp only [cd,Option.some.injEq] at h;subst h;simp
 | x :: xs,fs,gs,h=>by
  unfold cd at h
  split at h
  ·cases h
  ·split at h
   ·have:=kq h;simp at this ⊢;omega
   ·cases h
theorem xZ (c : UInt8) : decide (0 ≤ dZ c.toNat [82,85,69]) = decide (c6 c.toNat):=by
 have h : ∀ n : Nat,n < 256 → decide (0 ≤ dZ n [82,85,69]) = decide (c6 n):=by decide +kernel
 exact h _ c.toNat_lt
theorem mC {s : ye} (h : s.length ≤ 1000) : ce yd 121 [S s] G (wj s):=by
  match s,h with
  | [],h =>
    refine jB [(0,_)] Tryz.func121 Tryz.ntmps121 fun B hok hB hW=>?_
    repeat' (first | refine jR ?_ | (refine jo ?_;refine aV F ?_) | refine aU F F F ?_ | refine ae F F ?_)
    all_goals refine jZ (vs:=[_,_]) F ⟨F,F,trivial⟩ F ⟨Gh.le.refl _,F,?_⟩
    all_goals exact .inl ⟨F,_,F⟩
  | c :: r,h =>
    have cx_cont : aI yd 161 [S [82,85,69],S [c]] G (· = Bo (decide (c6 c.toNat))):=by rw [← xZ];exact qV
    by_cases hs : c6 c.toNat
    case neg =>
      have hno : ci (c :: r) = none:=by
        cases ht : (ao 61 r).2.2 with
        | false=>exact iD ht
        | true=>rw [kG (c:=c) (r:=r) (name:=(ao 61 r).1) (rest:=(ao 61 r).2.1) (by rw [← ht]),if_neg fun h=>hs h.2]
      have hs2 : (!decide (c6 c.toNat)) = true:=by simpa using hs
      refine jB [(0,_)] Tryz.func121 Tryz.ntmps121 fun B hok hB hW=>?_
      repeat' (first | refine jX ?_ | (refine jo ?_;first | refine aG F ?_ | refine ad F F F cx_cont F ?_) | refine aE F F F ?_ | refine ae F ‹_› ?_)
      all_goals refine jZ (vs:=[_,_]) F ⟨F,F,trivial⟩ F ⟨Gh.le.refl _,F,?_⟩
      all_goals exact .inl ⟨hno,_,F⟩
    have hs2 : (!decide (c6 c.toNat)) = false:=by simpa using hs
    have hcl:=gG (k:=61) (s:=r)
    have hrl : r.length ≤ 1000:=by simp at h;omega
    have cx_cut : aI yd 120 [S r,S [61]] G (· = Tu [S (ao 61 r).1,S (ao 61 r).2.1,Bo (ao 61 r).2.2]):=mG (c:=61) oM
    cases ht : (ao 61 r).2.2 with
    | false =>
      rw [ht] at cx_cut
      refine jB [(0,_)] Tryz.func121 Tryz.ntmps121 fun B hok hB hW=>?_
      repeat' (first | refine jX ?_ | (refine jo ?_;first | refine aV F ?_ | refine aG F ?_ | refine ad F F F cx_cont F ?_ | refine ad F F F cx_cut F ?_) | refine aU F F F ?_ | refine aE F F F ?_ | refine ae F F ?_ | refine af F ‹_› ?_)
      all_goals refine jZ (vs:=[_,_]) F ⟨F,F,trivial⟩ F ⟨Gh.le.refl _,F,?_⟩
      all_goals exact .inl ⟨iD ht,_,F⟩
    | true =>
      have hty:=kG (c:=c) (r:=r) (name:=(ao 61 r).1) (rest:=(ao 61 r).2.1) (by rw [← ht])
      rw [ht] at cx_cut
      generalize (ao 61 r).1 = name at *
      generalize (ao 61 r).2.1 = rest at *
      have e0 : bt (c :: r) (Int.toNat 0) = c.toNat:=cL c r
      by_cases hn : bH name = true
      case neg =>
        have hn2 : (!bH name) = true:=by simpa using hn
        have hno : ci (c :: r) = none:=by rw [hty,if_neg fun h=>hn h.1]
        refine jB [(0,_)] Tryz.func121 Tryz.ntmps121 fun B hok hB hW=>?_
        repeat' (first | refine jX ?_ | (refine jo ?_;first | refine aG F ?_ | refine ad F F F cx_cont F ?_ | refine ad F F F cx_cut F ?_ | refine ad F F F (co oM) F ?_) | refine aE F F F ?_ | refine ae F ‹_› ?_ | refine af F ‹_› ?_)
        all_goals refine jZ (vs:=[_,_]) F ⟨F,F,trivial⟩ F ⟨Gh.le.refl _,F,?_⟩
        all_goals exact .inl ⟨hno,_,F⟩
      have hn2 : (!bH name) = false:=by rw [hn];rfl
      rw [if_pos ⟨hn,hs⟩] at hty
      by_cases hr : rest = []
      · rw [if_pos hr] at hty
        by_cases h82 : c.toNat = 82
        · rw [if_pos h82] at hty
          have e82 : bt (c :: r) (Int.toNat 0) = 82:=oM
          refine jB [(0,_)] Tryz.func121 Tryz.ntmps121 fun B hok hB hW=>?_
          repeat' (first | refine jX ?_ | (refine jo ?_;first | refine aG F ?_ | refine jV (aq F F) ?_ | refine jO fun _=>?_ | refine ad F F F cx_cont F ?_ | refine ad F F F cx_cut F ?_ | refine ad F F F (co oM) F ?_) | refine aE F F F ?_ | refine ae F (aC ‹_›) ?_ | refine af F ‹_› ?_ | (refine al (aw (id:=8) _ (fun _ h=>h) ak ?_);refine jT 3 [0,1,2,3,6] (aa 8 79) ?_;(refine jG (aa 8 95) 4 F (aD F F F) ?_);refine jT 0 [5,7] (aa 8 255) ?_;refine jQ ?_))
          rename_i x
          refine Nx.sealC (b:=x) fun G' hle hseg=>?_
          refine jZ (vs:=[_,_]) F ⟨F,F,trivial⟩ F ⟨hle,F,?_⟩
          rw [e82] at hseg
          refine .inr ⟨x,⟨82,name,[]⟩,?_,hty,_,_,hseg,bh.nil0⟩
          show Tu [Pt x 0,Bo (decide (((bt (c :: r) (Int.toNat 0) : Nat) : Int) = 82))] = _
          rw [e82];rfl
        · rw [if_neg h82] at hty
          have e82 : ¬ bt (c :: r) (Int.toNat 0) = 82:=oM
          refine jB [(0,_)] Tryz.func121 Tryz.ntmps121 fun B hok hB hW=>?_
          repeat' (first | refine jX ?_ | (refine jo ?_;first | refine aG F ?_ | refine jV (aq F F) ?_ | refine jO fun _=>?_ | refine ad F F F cx_cont F ?_ | refine ad F F F cx_cut F ?_ | refine ad F F F (co oM) F ?_) | refine aE F F F ?_ | refine ae F (aC ‹_›) ?_ | refine af F ‹_› ?_ | (refine al (aw (id:=8) _ (fun _ h=>h) ak ?_);refine jT 3 [0,1,2,3,6] (aa 8 79) ?_;(refine jG (aa 8 95) 4 F (aD F F F) ?_);refine jT 0 [5,7] (aa 8 255) ?_;refine jQ ?_))
          all_goals refine jZ (vs:=[_,_]) F ⟨F,F,trivial⟩ F ⟨Gh.le.refl _,F,?_⟩
          all_goals exact .inl ⟨hty,_,by rw [eo,decide_eq_false (show ¬ ((bt (c :: r) (Int.toNat 0) : Nat) : Int) = 82 by omega)]⟩
      · rw [if_neg hr] at hty
        have hall : ∀ y ∈ aR 44 rest,y.length ≤ 1000:=fun y hy=>Nat.le_trans (cy hy) oM
        have hcnt:=g7 (k:=44) (s:=rest)
        have cx_split : ce yd 162 [S rest,S [44]] G (fun v G'=>∃ b o cap,v = .slice (some ⟨b,o,none⟩) (aR 44 rest).length cap ∧ bE G' b o (aj bV (aR 44 rest))):=jg (c:=44) _ oM rfl rfl rfl c0
        generalize aR 44 rest = xs at *
        refine jB [(0,_)] Tryz.func121 Tryz.ntmps121 fun B hok hB hW=>?_
        repeat' (first | refine jX ?_ | (refine jo ?_;first | refine aG F ?_ | refine jV (aq F F) ?_ | refine jO fun _=>?_ | refine jV (ai F) ?_ | refine ad F F F cx_cont F ?_ | refine ad F F F cx_cut F ?_ | refine ad F F F (co oM) F ?_ | (refine aJ F F F cx_split F ?_;rintro _ G hle ⟨b1,o1,cap1,rfl,hseg⟩;skip)) | refine aE F F F ?_ | (refine af F (by first | assumption | (refine decide_eq_false ?_;(assumption))) ?_))
        rename_i x
        have hle0:=hle
        refine Nx.addNil rg 6 ?_
        refine aT (ι:=Value × List Fld × Nat × Gh) (fun i=>((i.2.2.1 ≤ xs.length ∧ i.2.1.length ≤ i.2.2.1) ∧ i.2.1.length ≤ 8) ∧ cd c.toNat (xs.drop i.2.2.1) i.2.1 = cd c.toNat xs [] ∧ Gh.le G i.2.2.2) (fun i=>[(7,Pt x 0),(51,.slice (some ⟨b1,o1,none⟩) xs.length cap1),(52,I xs.length),(53,I i.2.2.1)]) (fun i=>i.2.2.2) (fun i=>[.acc i.1 rg 6 i.2.1.length (aj gE i.2.1),.blk x (.cells [U8 (bt (c :: r) (Int.toNat 0) : Nat),S name,i.1,S (c :: r)].toArray xg (0,0))]) (fun i=>xs.length - i.2.2.1) (ax,[],0,G) ?_ tU F bd (fun i Hi=>?_)
        · exact ⟨⟨⟨Nat.zero_le _,Nat.le_refl _⟩,by simp⟩,F,Gh.le.refl _⟩
        obtain ⟨u,fs,i,Gk⟩:=i
        dsimp only at Hi ⊢
        obtain ⟨⟨⟨hi1,hi2⟩,hi8⟩,hi3,hgk⟩:=Hi
        have hsk:=hseg.mono hgk
        refine Nx.shp (v:=u) (.head _) fun hsh=>?_
        have hsh2:=hsh
        obtain ⟨au,cu,rfl⟩:=hsh.sl
        by_cases hix : i < xs.length
        case neg =>
          have ei : i = xs.length:=oM
          rw [ei,List.drop_length,cd] at hi3
          have hyes : ci (c :: r) = some ⟨c.toNat,name,fs⟩:=by rw [hty,← hi3];exact if_pos hi8
          repeat' (first | refine jR ?_ | refine af F (aF oM) ?_)
          refine Nx.sealS (v:=.slice au fs.length cu) fun G1 hle1 hsl=>?_
          refine Nx.sealC (b:=x) fun G2 hle2 hsg2=>?_
          refine jZ (vs:=[_,_]) F ⟨F,F,trivial⟩ F ⟨((hle.trans hgk).trans hle1).trans hle2,F,?_⟩
          exact .inr ⟨x,⟨c.toNat,name,fs⟩,F,hyes,_,_,hsg2,hsl.mono hle2⟩
        rw [oJ hix,cd] at hi3
        have hx:=hall _ (a6 hix)
        repeat' (first | refine jR ?_ | (refine jo ?_;first | refine aV F ?_ | refine aG F ?_ | refine am F ?_ | (refine jV (fu F F aS ?_) ?_;focus omega) | refine jV (ai F) ?_ | refine jV (ah F F oM) ?_ | refine jL fun _=>?_ | refine jC F F F ?_ | (refine aJ F F F (po oM) F ?_;rintro _ G hle ⟨f,ok,rfl,hfld⟩;skip)) | refine iS F F (fun _=>?_) (fun _=>?_) | (refine ae F (by first | rfl | (refine decide_eq_true ?_;(omega))) ?_) | refine cz F (fun _=>?_) (fun _=>?_))
        all_goals first
          | (rename_i z hq h8
             have hq2 : ok = true:=by simpa using hq
             subst hq2
             have hf1 : bz (ac xs i) c.toNat = some f:=hfld
             rw [hf1] at hi3
             dsimp only at hi3
             have h9 : fs.length = 8:=oM
             have hno : ci (c :: r) = none:=by
               rw [hty]
               cases hgs : cd c.toNat xs [] with
               | none=>rfl
               | some gs =>
                 rw [hgs] at hi3
                 split at hi3
                 · have:=kq hi3
                   simp at this
                   exact if_neg oM
                 · cases hi3
             refine jZ (vs:=[_,_]) F ⟨F,F,trivial⟩ F ⟨(hle0.trans hgk).trans hle,F,?_⟩
             exact .inl ⟨hno,_,F⟩)
          | (rename_i z hq
             have hq2 : ok = false:=by simpa using hq
             subst hq2
             have hf0 : bz (ac xs i) c.toNat = none:=hfld
             have hno : ci (c :: r) = none:=by rw [hf0] at hi3;rw [hty,← hi3]
             refine jZ (vs:=[_,_]) F ⟨F,F,trivial⟩ F ⟨(hle0.trans hgk).trans hle,F,?_⟩
             exact .inl ⟨hno,_,F⟩)
          | (rename_i z hq h8
             have hq2 : ok = true:=by simpa using hq
             subst hq2
             have hf1 : bz (ac xs i) c.toNat = some f:=hfld
             rw [hf1] at hi3
             dsimp only at hi3
             have h9 : fs.length ≠ 8:=oM
             refine aT (ι:=Nat) (fun k=>k ≤ fs.length ∧ ∀ m,m < k → (ac fs m).tag < f.tag ∧ (ac fs m).name ≠ f.name) (fun k=>[(7,Pt x 0),(10,Pt z 0),(51,.slice (some ⟨b1,o1,none⟩) xs.length cap1),(52,I xs.length),(53,I i),(79,.slice au fs.length cu),(80,I fs.length),(81,I k)]) (fun _=>G) (fun k=>[.blk z (.cells (gE f).toArray rg (0,0)),.acc (.slice au fs.length cu) rg 6 fs.length (aj gE fs),.blk x (.cells [U8 (bt (c :: r) (Int.toNat 0) : Nat),S name,.slice au fs.length cu,S (c :: r)].toArray xg (0,0))]) (fun k=>fs.length - k) 0 ?_ tU F bd (fun k Hk=>?_)
             · exact ⟨Nat.zero_le _,fun m hm=>absurd hm oM⟩
             by_cases hk : k < fs.length
             · obtain ⟨bu,cu2,eu⟩:=hsh2.pos oM
               simp only [Value.slice.injEq] at eu
               obtain ⟨rfl,-,rfl⟩:=eu
               by_cases hbad : (ac fs k).tag < f.tag ∧ (ac fs k).name ≠ f.name
               · obtain ⟨hb1,hb2⟩:=hbad
                 repeat' (first | refine jM ?_ | (refine jo ?_;first | refine aG F ?_ | refine am F ?_ | refine jV (mt F F F oM) ?_ | refine jV (ah F F oM) ?_ | refine jL fun _=>?_ | refine jC F F F ?_) | refine aE F F (aF ‹_›) ?_ | refine ae F (aC oM) ?_ | refine af F (aF oM) ?_)
                 refine aW (k + 1) ⟨oM,fun m hm=>?_⟩ oM tU F sB
                 rcases Nat.lt_or_ge m k with h3 | h3
                 · exact Hk.2 m h3
                 · have : m = k:=oM
                   subst this;exact ⟨hb1,hb2⟩
               · have hfr : fresh f fs = false:=by
                   unfold fresh
                   rw [List.all_eq_false]
                   exact ⟨ac fs k,a6 hk,by simpa using hbad⟩
                 have hno : ci (c :: r) = none:=by
                   rw [hfr,if_neg (by simp)] at hi3
                   rw [hty,← hi3]
                 by_cases hnm : (ac fs k).name = f.name
                 case' neg => have htag : f.tag ≤ (ac fs k).tag := by
                               rcases Int.lt_or_le (ac fs k).tag f.tag with h6 | h6
                               · exact absurd ⟨h6,hnm⟩ hbad
                               · exact h6
                 all_goals repeat' (first | refine jR ?_ | (refine jo ?_;first | refine aV F ?_ | refine aG F ?_ | refine am F ?_ | refine jV (mt F F F oM) ?_ | refine jV (ah F F oM) ?_ | refine jL fun _=>?_ | refine jC F F F ?_) | refine aU F F (aC ‹_›) ?_ | refine aE F F (aF ‹_›) ?_ | (refine ae F (by first | rfl | (refine decide_eq_true ?_;first | assumption | omega)) ?_))
                 all_goals refine jZ (vs:=[_,_]) F ⟨F,F,trivial⟩ F ⟨(hle0.trans hgk).trans hle,F,?_⟩
                 all_goals exact .inl ⟨hno,_,F⟩
             · have hfr : fresh f fs = true:=by
                 unfold fresh
                 rw [List.all_eq_true]
                 intro g hg
                 obtain ⟨m,hm,rfl⟩:=gq hg
                 simpa using Hk.2 m oM
               rw [hfr,if_pos rfl] at hi3
               have hxl : xs.length ≤ 1001:=oM
               repeat' (first | refine jR ?_ | refine af F (aF oM) ?_)
               (refine al (aw (id:=21) [.blk z (.cells (gE f).toArray rg (0,0))] (by intro y hy;simp only [List.mem_cons,List.not_mem_nil,or_false] at hy ⊢;simp [hy]) ak ?_);refine jW 7 [0,1,2,3] (aa 11 15) ?_;(refine jG (aa 11 47) 5 F (bJ F F F F) ?_);refine bY [4,6] kR dC ⟨?_,?_,trivial⟩;(focus (refine a5 F F ?_;(refine am F ?_);refine jK (aa 11 63) ?_;refine jA 6 F ?_;(refine jF fun _=>?_);refine jK (aa 11 127) ?_;refine jA 7 F ?_;((refine br F F F F F F F F F ?_ fun _ _=>?_;focus omega));refine jK (aa 11 255) ?_;refine jW 1 [8,9] (aa 11 1023) ?_;refine jA 10 F ?_;(refine jD F F F ?_);refine jK (aa 11 2047) ?_;refine jQ ?_));rotate_left 1;(focus (refine a5 F F ?_;(refine jF fun _=>?_);refine jK (aa 11 111) ?_;refine jA 4 F ?_;(refine am F ?_);refine jK (aa 11 127) ?_;refine jA 7 F ?_;((refine br F F F F F F F F F ?_ fun _ _=>?_;focus omega));refine jK (aa 11 255) ?_;refine jW 1 [8,9] (aa 11 1023) ?_;refine jA 10 F ?_;(refine jD F F F ?_);refine jK (aa 11 2047) ?_;refine jQ ?_));rotate_left 1)
               all_goals rename_i w b2 c2
               all_goals repeat' (refine jM ?_)
               all_goals refine aW (.slice (some ⟨b2,0,none⟩) (fs.length + 1) c2,fs ++ [f],i + 1,G) ⟨⟨⟨by dsimp only;omega,by simp;omega⟩,by simp;omega⟩,hi3,hgk.trans hle⟩ (by dsimp only;omega) tU rfl (by dsimp only;simp only [cj,List.length_append,List.length_cons,List.length_nil,Nat.zero_add];repeat (first | exact List.Sublist.refl _ | apply List.Sublist.cons_cons | apply List.Sublist.cons)))
abbrev cx:=(Option Addr × Nat) × Ty
def gz (x : cx) : Value:=.slice x.1.1 x.2.fields.length x.1.2
def gP (x : cx) : List Value:=[U8 x.2.sort,S x.2.name,gz x]
instance : RowF gP 3:=⟨fun _=>rfl⟩
def zT : cx:=((none,0),⟨0,[],[]⟩)
theorem bh.sl {G : Gh} {v : Value} {sz m : Nat} {xs : List Value} (h : bh G v sz m xs) : ∃ a cap,v = .slice a m cap:=by
 obtain ⟨_,⟨rfl,rfl⟩ | ⟨b,o,cap,rfl,_⟩⟩:=h
 ·exact ⟨none,0,F⟩
 ·exact ⟨_,cap,F⟩
structure SchR (G : Gh) (u : Value) (vs : List cx) : Prop where
 sl : bh G u 3 vs.length (aj gP vs)
 fl : ∀ x ∈ vs,bh G (gz x) 4 x.2.fields.length (aj b6 x.2.fields)
theorem SchR.mono {G G' : Gh} {u : Value} {vs : List cx} (h : SchR G u vs) (hl : Gh.le G G') : SchR G' u vs:=⟨h.sl.mono hl,fun x hx=>(h.fl x hx).mono hl⟩
def aL (vs : List cx) : List Ty:=vs.map (·.2)
def d6 (vs : List cx) (n : ye) : Option cx:=vs.find? fun x=>decide (x.2.name = n)
def eh (vs : List cx) (k : ye) : Option cx:=(a9 k).bind (d6 vs)
theorem oG (vs : List cx) (n : ye) : (d6 vs n).map (·.2) = dc (aL vs) n:=by
 unfold d6 dc aL
 induction vs with
 | nil=>rfl
 | cons x vs ih =>
  simp only [List.map_cons,List.find?_cons]
  split <;> simp_all
theorem rA {vs : List cx} {n : ye} {x : cx} (h : d6 vs n = some x) : x ∈ vs ∧ x.2.name = n:=by
 unfold d6 at h
 exact ⟨List.mem_of_find?_eq_some h,by simpa using List.find?_some h⟩
theorem sN {vs : List cx} {n : ye} {i : Nat} (hi : i < vs.length) (h : ∀ k,k < i → (ac vs k).2.name ≠ n) (h2 : (ac vs i).2.name = n) : d6 vs n = some (ac vs i):=by
 unfold d6
 rw [List.find?_eq_some_iff_getElem]
 rw [bW hi] at h2 ⊢
 refine ⟨by simpa using h2,i,hi,F,fun j hj=>?_⟩
 have:=h j hj
 rw [bW oM] at this
 simpa using this
theorem qE {vs : List cx} {n : ye} (h : ∀ k,k < vs.length → (ac vs k).2.name ≠ n) : d6 vs n = none:=by
 unfold d6
 rw [List.find?_eq_none]
 intro x hx
 obtain ⟨i,hi,rfl⟩:=List.mem_iff_getElem.1 hx
 have:=h i hi
 rw [bW hi] at this
 simpa using this
theorem o5 {u : Value} {vs : List cx} {n : ye} (h : SchR G u vs) (hn : vs.length ≤ 1000000) : aI yd 102 [u,S n] G (· = Tu [Ag (gP ((d6 vs n).getD zT)),Bo (d6 vs n).isSome]):=by
 have hsl:=h.sl
 refine jE [(0,_),(1,_)] Tryz.func102 Tryz.ntmps102 fun B hB=>?_
 repeat' (first | refine jR ?_ | (refine jo ?_;refine jL fun _=>?_))
 rename_i x
 refine aT (ι:=Nat) (fun i=>i ≤ vs.length ∧ ∀ k,k < i → (ac vs k).2.name ≠ n) (fun i=>[(0,u),(1,S n),(4,Pt x 0),(6,I i)]) (fun _=>G) (fun i=>[.blk x (.cells [U8 0,S [],ax].toArray nb (0,0))]) (fun i=>vs.length - i) 0 ?_ tU F bd (fun i Hi=>?_)
 ·exact ⟨oM,fun k hk=>absurd hk oM⟩
 by_cases hi : i < vs.length
 ·obtain ⟨b,o,cap,rfl,hs⟩:=hsl.expl oM
  repeat' (first | refine jM ?_ | (refine jo ?_;first | refine jV (ai F) ?_ | refine jV (ah F F oM) ?_ | (refine jV (bq F F aS ?_) ?_;focus omega) | (refine jV (bi F F aS ?_ F F) ?_;focus omega) | refine jC F F F ?_) | refine ae F (aC oM) ?_ | refine cz F (fun _=>?_) (fun _=>?_))
  ·rename_i he
   refine jZ (vs:=[_,_]) F ⟨aB F F F F,F,trivial⟩ F ⟨F,F,?_⟩
   rw [sN hi Hi.2 he];rfl
  ·rename_i he
   refine aW (i + 1) ⟨oM,fun k hk=>?_⟩ oM tU F bd
   rcases Nat.lt_or_ge k i with h3 | h3
   ·exact Hi.2 k h3
   ·have : k = i:=oM
    subst this;exact he
 ·repeat' (first | refine jR ?_ | (refine jo ?_;first | refine jV (cJ F aS) ?_ | refine jC F F F ?_ | refine jV (aq F F) ?_) | refine af F (aF oM) ?_)
  refine jZ (vs:=[_,_]) F ⟨aB F F F F,F,trivial⟩ F ⟨F,F,?_⟩
  rw [qE fun k hk=>Hi.2 k oM];rfl
theorem jk {s : ye} (h : dV s = true) (hl : s.length ≤ 1000000) : aI yd 100 [S s] G (· = Tu [S ((a9 s).getD []),Bo (a9 s).isSome]):=by
 match s,h with
 | c :: r,h =>
  by_cases hr : r = []
  ·have hc : ¬ c.toNat = 64:=by
    intro hc
    subst hr
    rw [dV,if_neg oM,if_pos hc] at h
    simp [cL,hc] at h
   have e0:=jn c r
   have hq : a9 (c :: r) = none:=by simp [a9,hc]
   rw [hq]
   refine jE [(0,_)] Tryz.func100 Tryz.ntmps100 fun B hB=>?_
   repeat' (first | refine jX ?_ | (refine ae F ?_ ?_;(focus ((simp;omega);done))))
   all_goals refine jY (vs:=[_,_]) ?_
   all_goals rfl
  ·have:=uE (G:=G) (c:=c) hr (by simp at hl;omega)
   refine this.mono ?_
   rintro v G' L' ⟨h1,h2,h3⟩
   refine ⟨h1,h2,h3.trans ?_⟩
   by_cases hc : c.toNat = 64 <;> simp [a9,hc]
theorem mB {u : Value} {vs : List cx} {k : ye} (h : SchR G u vs) (hn : vs.length ≤ 1000000) (hk : dV k = true) (hl : k.length ≤ 1000000) : aI yd 141 [u,S k] G (· = Tu [Ag (gP ((eh vs k).getD zT)),Bo (eh vs k).isSome]):=by
 rcases hr : a9 k with _ | n
 ·have e : eh vs k = none:=by simp [eh,hr]
  rw [e]
  have cx_ref : aI yd 100 [S k] G (· = Tu [S [],Bo false]):=by have:=jk (G:=G) hk hl;rwa [hr] at this
  refine jE [(0,_),(1,_)] Tryz.func141 Tryz.ntmps141 fun B hB=>?_
  repeat' (first | refine jR ?_ | (refine jo ?_;first | refine jL fun _=>?_ | refine jV (aq F F) ?_ | refine jC F F F ?_ | refine ad F F F cx_ref F ?_) | refine ae F F ?_)
  all_goals refine jZ (vs:=[_,_]) F ⟨aB F F F F,F,trivial⟩ F ⟨F,F,?_⟩
  all_goals rfl
 ·have e : eh vs k = d6 vs n:=by simp [eh,hr]
  rw [e]
  have cx_ref : aI yd 100 [S k] G (· = Tu [S n,Bo true]):=by have:=jk (G:=G) hk hl;rwa [hr] at this
  refine jE [(0,_),(1,_)] Tryz.func141 Tryz.ntmps141 fun B hB=>?_
  repeat' (first | refine jR ?_ | (refine jo ?_;first | refine jL fun _=>?_ | refine jC F F F ?_ | refine ad F F F cx_ref F ?_ | (refine ad F F F (o5 (by (repeat (assumption));done) oM) rfl ?_)) | refine af F F ?_)
  all_goals refine jZ (vs:=[_,_]) F ⟨aB F F F F,F,trivial⟩ F ⟨F,F,?_⟩
  all_goals rfl
theorem io (vs : List cx) (k : ye) : (eh vs k).map (·.2) = aK (aL vs) k:=by
 unfold eh aK
 cases a9 k with
 | none=>rfl
 | some n=>simp only [Option.bind_some];exact oG vs n
theorem iM {vs : List cx} {k : ye} {x : cx} (h : eh vs k = some x) : x ∈ vs:=by
 unfold eh at h
 cases hr : a9 k with
 | none=>rw [hr] at h;cases h
 | some n=>rw [hr] at h;exact (rA h).1
theorem cT {s : ye} (h : be s = true) : dV s = true ∧ s.length ≤ 12:=by
 unfold be at h;simp only [Bool.and_eq_true,decide_eq_true_eq] at h;exact ⟨h.2,h.1⟩
theorem wb {u : Value} {vs : List cx} {x0 : cx} (h : SchR G u vs) (hn : vs.length ≤ 1000) (hw : ∀ x ∈ vs,TyW x.2) (hx : x0 ∈ vs) :
  aI yd 157 [u,Ag (gP x0)] G (· = Bo (bA (aL vs) (vs.length + 1) x0.2)):=by
 have hsl:=h.sl
 refine jE [(0,_),(1,_)] Tryz.func157 Tryz.ntmps157 fun B hB=>?_
 repeat' (first | refine jR ?_ | (refine jo ?_;refine jO fun _=>?_))
 rename_i b0
 refine aT (ι:=cx × Nat) (fun i=>i.1 ∈ vs ∧ i.2 ≤ vs.length + 1 ∧ bA (aL vs) (vs.length + 1 - i.2) i.1.2 = bA (aL vs) (vs.length + 1) x0.2) (fun i=>[(0,u),(3,Pt b0 0),(5,I i.2)]) (fun _=>G) (fun i=>[.blk b0 (.cells (gP i.1).toArray nb (0,0))]) (fun i=>vs.length + 1 - i.2) (x0,0) ?_ tU F bd (fun i Hi=>?_)
 ·exact ⟨hx,Nat.zero_le _,F⟩
 obtain ⟨⟨⟨a,ca⟩,t⟩,n⟩:=i
 dsimp only at Hi ⊢
 obtain ⟨hxm,hnl,he⟩:=Hi
 have hW:=hw _ hxm
 dsimp only at hW
 by_cases hlt : n ≤ vs.length
 case neg =>
  have e0 : vs.length + 1 - n = 0:=oM
  rw [e0] at he
  repeat' (first | refine jR ?_ | (refine jo ?_;refine jV (cJ F aS) ?_) | refine af F (aF oM) ?_)
  refine jY (vs:=[_]) ?_
  rw [← he];rfl
 obtain ⟨m,hm⟩ : ∃ m,vs.length + 1 - n = m + 1:=⟨vs.length - n,oM⟩
 rw [hm,bA] at he
 by_cases hU : t.sort = 85
 case neg =>
  rw [if_pos hU] at he
  repeat' (first | refine jR ?_ | (refine jo ?_;first | refine jV (cJ F aS) ?_ | refine am F ?_) | (refine ae F ?_ ?_;(focus ((first | (refine decide_eq_true ?_;(omega)) | (simp;omega));done))))
  refine jY (vs:=[_]) ?_
  rw [← he];rfl
 rw [if_neg (by simp [hU])] at he
 have hne:=hW.ne oM
 have h0 : 0 < t.fields.length:=List.length_pos_iff.2 hne
 obtain ⟨bf,of,cf,ef,hsf⟩:=(h.fl _ hxm).expl h0
 simp only [gz,Value.slice.injEq] at ef
 obtain ⟨rfl,-,rfl⟩:=ef
 dsimp only at hsf
 have hk0 : d5 t = (ac t.fields 0).kind:=by
  unfold d5 ac
  cases t.fields with
  | nil=>rfl
  | cons f r=>rfl
 have hkk:=cT ((hW.fld _ (a6 h0)).kind oM)
 rw [hk0] at he
 have href:=io vs (ac t.fields 0).kind
 have cx_rf:=mB (k:=(ac t.fields 0).kind) h oM hkk.1 oM
 rcases hr : eh vs (ac t.fields 0).kind with _ | ⟨⟨a2,c2⟩,t2⟩
 ·rw [hr] at href cx_rf
  rw [← href] at he
  repeat' (first | refine jR ?_ | (refine jo ?_;first | refine jV (cJ F aS) ?_ | refine am F ?_ | (refine jV (bi F F aS ?_ F F) ?_;focus omega) | refine jV (ah F F oM) ?_ | refine jL fun _=>?_ | refine jC F F F ?_ | refine ad F F F cx_rf F ?_) | (refine ae F (by first | rfl | (refine decide_eq_true ?_;(omega))) ?_) | (refine af F ?_ ?_;(focus ((simp [*];done);done))))
  all_goals refine jY (vs:=[_]) ?_
  all_goals (rw [← he];rfl)
 ·rw [hr] at href cx_rf
  rw [← href] at he
  repeat' (first | refine jM ?_ | (refine jo ?_;first | refine jV (cJ F aS) ?_ | refine am F ?_ | (refine jV (bi F F aS ?_ F F) ?_;focus omega) | refine aZ F ?_ | refine jV (ah F F oM) ?_ | refine jL fun _=>?_ | refine jC F F F ?_ | refine ad F F F cx_rf F ?_) | refine ae F (aC oM) ?_ | (refine af F ?_ ?_;(focus ((first | rfl | (simp [*];done));done))))
  refine aW (((a2,c2),t2),n + 1) ⟨iM hr,by dsimp only;omega,?_⟩ (by dsimp only;omega) tU rfl sB
  dsimp only
  rw [show vs.length + 1 - (n + 1) = m by omega]
  exact he
theorem ij (vs : List cx) : (aL vs).length = vs.length:=by simp [aL]
theorem ir {vs : List cx} {i : Nat} (h : i < vs.length) : ac (aL vs) i = (ac vs i).2:=by
 rw [bW h,bW (by rw [ij];exact h)];simp [aL]
theorem nr {vs : List cx} {k : ye} : dv (aL vs) k = (!(a9 (ay k)).isSome || (d6 vs ((a9 (ay k)).getD [])).isSome):=by
 unfold dv
 cases a9 (ay k) with
 | none=>rfl
 | some n =>
  show (dc (aL vs) n).isSome = _
  rw [← oG];simp
theorem fP {k : ye} (h : dV k = true) : dV (ay k) = true:=by
 induction k with
 | nil=>cases h
 | cons c r ih =>
  unfold ay
  split
  ·rename_i hc;rw [dV,if_pos hc] at h;exact ih h
  ·exact h
theorem fb : ∀ s : ye,(ay s).length ≤ s.length
 | []=>Nat.le_refl _
 | c :: r=>by
  unfold ay
  split
  ·have:=fb r;simp;omega
  ·exact Nat.le_refl _
theorem uz {u : Value} {vs : List cx} (h : SchR G u vs) (hn : vs.length ≤ 1000) (hw : ∀ x ∈ vs,TyW x.2) :
    aI yd 116 [u] G (· = Bo (decide (f7 (aL vs)))):=by
  have hsl:=h.sl
  have hlen:=ij vs
  refine jE [(0,_)] Tryz.func116 Tryz.ntmps116 fun B hB=>?_
  repeat' (refine jR ?_)
  refine aT (ι:=Nat) (fun i=>i ≤ vs.length ∧ ∀ j,j < i → iA (aL vs) j ∧ fR (aL vs) (ac (aL vs) j)) (fun i=>[(0,u),(3,I i)]) (fun _=>G) (fun i=>[]) (fun i=>vs.length - i) 0 ?_ tU F bd (fun i Hi=>?_)
  · exact ⟨Nat.zero_le _,fun j hj=>absurd hj oM⟩
  by_cases hi : i < vs.length
  case neg =>
    have ei : i = vs.length:=oM
    subst ei
    have Hall:=Hi.2
    repeat' (first | refine jR ?_ | (refine jo ?_;refine jV (cJ F aS) ?_) | refine af F (aF oM) ?_)
    refine aT (ι:=Nat) (fun i=>i ≤ vs.length ∧ ∀ j,j < i → bA (aL vs) ((aL vs).length + 1) (ac (aL vs) j) = true) (fun i=>[(0,u),(10,I i)]) (fun _=>G) (fun i=>[]) (fun i=>vs.length - i) 0 ?_ tU F bd (fun i Hi=>?_)
    · exact ⟨Nat.zero_le _,fun j hj=>absurd hj oM⟩
    by_cases hi : i < vs.length
    · obtain ⟨b,o,cap,rfl,hs⟩:=hsl.expl oM
      have hm:=a6 hi
      have cx_en:=wb h hn hw hm
      by_cases he : bA (aL vs) (vs.length + 1) (ac vs i).2 = true
      · have he2 : (!bA (aL vs) (vs.length + 1) (ac vs i).2) = false:=by rw [he];rfl
        repeat' (first | refine jM ?_ | (refine jo ?_;first | refine jV (ai F) ?_ | refine jV (ah F F oM) ?_ | (refine jV (bq F F aS ?_) ?_;focus omega) | refine ad F F F cx_en F ?_) | refine ae F (aC oM) ?_ | refine af F ‹_› ?_)
        refine aW (i + 1) ⟨oM,fun j hj=>?_⟩ oM tU F bd
        rcases Nat.lt_or_ge j i with h3 | h3
        · exact Hi.2 j h3
        · have : j = i:=oM
          subst this;rw [hlen,ir hi];exact he
      · have he2 : (!bA (aL vs) (vs.length + 1) (ac vs i).2) = true:=by simpa using he
        repeat' (first | refine jR ?_ | (refine jo ?_;first | refine jV (ai F) ?_ | refine jV (ah F F oM) ?_ | (refine jV (bq F F aS ?_) ?_;focus omega) | refine ad F F F cx_en F ?_) | (refine ae F (by first | assumption | (refine decide_eq_true ?_;(omega))) ?_))
        refine jY (vs:=[_]) ?_
        refine congrArg Bo (decide_eq_false fun hv=>he ?_).symm
        have:=hv.2 i oM
        rwa [hlen,ir hi] at this
    · repeat' (first | refine jR ?_ | (refine jo ?_;refine jV (cJ F aS) ?_) | refine af F (aF oM) ?_)
      refine jY (vs:=[_]) ?_
      exact congrArg Bo (decide_eq_true ⟨fun j hj=>Hall j oM,fun j hj=>Hi.2 j oM⟩).symm
  obtain ⟨b,o,cap,rfl,hs⟩:=hsl.expl oM
  rcases hxi : ac vs i with ⟨⟨a,ca⟩,t⟩
  have hm : ((a,ca),t) ∈ vs:=by rw [← hxi];exact a6 hi
  have hW:=hw _ hm
  dsimp only at hW
  have hti : ac (aL vs) i = t:=by rw [ir hi,hxi]
  have hE1 : (((a,ca),t) : cx).2.sort = t.sort:=rfl
  have hE2 : (((a,ca),t) : cx).2.fields.length = t.fields.length:=rfl
  have h8:=hW.len
  have hfl:=h.fl _ hm
  repeat' (first | refine jR ?_ | (refine jo ?_;refine jV (ai F) ?_) | refine ae F (aC oM) ?_)
  refine aT (ι:=Nat) (fun k=>k ≤ i ∧ ∀ j,j < k → (ac (aL vs) j).name ≠ (ac (aL vs) i).name) (fun k=>[(0,.slice (some ⟨b,o,none⟩) vs.length cap),(3,I i),(4,I k)]) (fun _=>G) (fun k=>[]) (fun k=>i - k) 0 ?_ tU F bd (fun k Hk=>?_)
  · exact ⟨Nat.zero_le _,fun j hj=>absurd hj oM⟩
  by_cases hk : k < i
  · have hkv : k < vs.length:=oM
    by_cases hnm : (ac vs k).2.name = t.name
    · repeat' (first | refine jR ?_ | (refine ae F (by refine decide_eq_true ?_;first | assumption | omega) ?_) | (refine al (aw (id:=7) _ (fun _ h=>h) ak ?_);refine jT 7 [0,1,5,6] (aa 11 99) ?_;(refine jG (aa 11 103) 2 F (ah F F oM) ?_);refine jT 5 [3] (aa 11 111) ?_;((refine jG (aa 11 127) 4 F (bi F F aS ?_ F F) ?_;focus omega));(refine jG (aa 11 255) 7 F (ah F F oM) ?_);refine jT 2 [8] (aa 11 511) ?_;((refine jG (aa 11 1023) 9 F (kL F F aS ?_ aS F F) ?_;focus omega));refine jT 0 [10] (aa 11 2047) ?_;refine jQ ?_))
      refine jY (vs:=[_]) ?_
      refine congrArg Bo (decide_eq_false fun hv=>?_).symm
      have:=(hv.1 i oM).1 k hk
      rw [ir hkv,hti] at this
      exact this hnm
    · repeat' (first | refine jM ?_ | refine ae F (aC oM) ?_ | refine af F (aF ‹_›) ?_ | (refine al (aw (id:=7) _ (fun _ h=>h) ak ?_);refine jT 7 [0,1,5,6] (aa 11 99) ?_;(refine jG (aa 11 103) 2 F (ah F F oM) ?_);refine jT 5 [3] (aa 11 111) ?_;((refine jG (aa 11 127) 4 F (bi F F aS ?_ F F) ?_;focus omega));(refine jG (aa 11 255) 7 F (ah F F oM) ?_);refine jT 2 [8] (aa 11 511) ?_;((refine jG (aa 11 1023) 9 F (kL F F aS ?_ aS F F) ?_;focus omega));refine jT 0 [10] (aa 11 2047) ?_;refine jQ ?_))
      refine aW (k + 1) ⟨oM,fun j hj=>?_⟩ oM tU F bd
      rcases Nat.lt_or_ge j k with h3 | h3
      · exact Hk.2 j h3
      · have : j = k:=oM
        subst this;rw [ir hkv,hti];exact hnm
  have hna : iA (aL vs) i:=fun j hj=>Hk.2 j oM
  repeat' (first | refine jR ?_ | refine af F (aF oM) ?_)
  refine aT (ι:=Nat) (fun k=>(t.sort = 69 ∨ ∀ j,j < k → dv (aL vs) (ac t.fields j).kind = true) ∧ k ≤ t.fields.length) (fun k=>[(0,.slice (some ⟨b,o,none⟩) vs.length cap),(3,I i),(5,I k)]) (fun _=>G) (fun k=>[]) (fun k=>t.fields.length - k) 0 ?_ tU F bd (fun k Hk=>?_)
  · exact ⟨.inr fun j hj=>absurd hj oM,Nat.zero_le _⟩
  by_cases hk : k < t.fields.length ∧ t.sort ≠ 69
  case neg =>
    have hko : fR (aL vs) (ac (aL vs) i):=by
      rw [hti]
      by_cases h69 : t.sort = 69
      · exact .inl h69
      · refine .inr fun j hj=>?_
        rcases Hk.1 with h3 | h3
        · exact absurd h3 h69
        · exact h3 j oM
    repeat' (first | refine jM ?_ | (refine jo ?_;first | refine jV (ai F) ?_ | refine jV (ah F F oM) ?_ | (refine jV (kL F F aS ?_ aS F F) ?_;focus omega) | refine aV F ?_ | refine aG F ?_) | refine dm F F (fun _=>?_) (fun _=>?_) | (refine af F (by first | rfl | (refine decide_eq_false ?_;(omega))) ?_))
    all_goals refine aW (i + 1) ⟨oM,fun j hj=>?_⟩ oM tU F bd
    all_goals (rcases Nat.lt_or_ge j i with h3 | h3;· exact Hi.2 j h3)
    all_goals (have : j = i:=by omega)
    all_goals (subst this;exact ⟨hna,hko⟩)
  obtain ⟨hk1,hk2⟩:=hk
  obtain ⟨bf,of,cf,ef,hsf⟩:=hfl.expl (by dsimp only;omega)
  simp only [gz,Value.slice.injEq] at ef
  obtain ⟨rfl,-,rfl⟩:=ef
  dsimp only at hsf
  have hE1 : (((some ⟨bf,of,none⟩,ca),t) : cx).2.sort = t.sort:=rfl
  have hE2 : (((some ⟨bf,of,none⟩,ca),t) : cx).2.fields.length = t.fields.length:=rfl
  have hkk:=cT ((hW.fld _ (a6 hk1)).kind hk2)
  have hkk1:=hkk.1
  have hcl:=fb (ac t.fields k).kind
  have cx_ref : aI yd 100 [S (ay (ac t.fields k).kind)] G (· = Tu [S ((a9 (ay (ac t.fields k).kind)).getD []),Bo (a9 (ay (ac t.fields k).kind)).isSome]):=jk (fP hkk1) oM
  have hhas:=nr (vs:=vs) (k:=(ac t.fields k).kind)
  repeat' (first | refine jM ?_ | (refine jo ?_;first | refine jV (ai F) ?_ | refine jV (ah F F oM) ?_ | (refine jV (kL F F aS ?_ aS F F) ?_;focus omega) | (refine jV (bi F F aS ?_ F F) ?_;focus omega) | refine aV F ?_ | refine aG F ?_ | refine jL fun _=>?_ | refine jC F F F ?_ | (refine ad F F F (eW (by (repeat (assumption));done)) rfl ?_) | refine ad F F F cx_ref F ?_ | (refine ad F F F (o5 (by (repeat (assumption));done) oM) rfl ?_)) | refine aU F F (aC oM) ?_ | refine iS F F (fun _=>?_) (fun _=>?_) | refine ae F (aC oM) ?_ | refine af F F ?_ | refine oo F (fun _=>?_) (fun _=>?_))
  all_goals first
    | (rename_i h1 h2
       have hK : dv (aL vs) (ac t.fields k).kind = false:=by rw [hhas,h1];simpa using h2
       refine jY (vs:=[_]) ?_
       refine congrArg Bo (decide_eq_false fun hv=>?_).symm
       have h5:=(hv.1 i oM).2
       rw [hti] at h5
       rcases h5 with h3 | h3
       · exact hk2 h3
       · have h6:=h3 k hk1
         rw [hK] at h6;cases h6)
    | (have hK : dv (aL vs) (ac t.fields k).kind = true:=by rw [hhas];simp_all
       refine aW (k + 1) ⟨.inr fun j hj=>?_,oM⟩ oM tU F (by repeat (exact List.nil_sublist _))
       rcases Nat.lt_or_ge j k with h3 | h3
       · rcases Hk.1 with h4 | h4
         · exact absurd h4 hk2
         · exact h4 j h3
       · have : j = k:=oM
         subst this;exact hK)
theorem fk : ∀ {xs : List ye} {ts : List Ty} {x : ye},bI xs = some ts → bI (xs ++ [x]) = (ci x).map (fun t=>ts ++ [t])
 | [],ts,x,h=>by
  simp only [bI,Option.some.injEq] at h;subst h
  simp only [List.nil_append,bI]
  cases ci x <;> rfl
 | y :: xs,ts,x,h=>by
  unfold bI at h
  rw [List.cons_append,bI]
  cases hy : ci y with
  | none=>rw [hy] at h;cases h
  | some t =>
   rw [hy] at h
   dsimp only at h ⊢
   cases hr : bI xs with
   | none=>rw [hr] at h;cases h
   | some us =>
    rw [hr] at h
    simp only [Option.map_some,Option.some.injEq] at h;subst h
    rw [fk hr]
    cases ci x <;> rfl
theorem eP : ∀ {xs ys : List ye},bI xs = none → bI (xs ++ ys) = none
 | [],ys,h=>by cases h
 | y :: xs,ys,h=>by
  unfold bI at h
  rw [List.cons_append,bI]
  cases hy : ci y with
  | none=>rfl
  | some t =>
   rw [hy] at h
   dsimp only at h ⊢
   cases hr : bI xs with
   | none=>rw [eP hr];rfl
   | some us=>rw [hr] at h;cases h
def pf (s : ye) (v : Value) (G : Gh) : Prop:=∃ u vs,v = Tu [u,Bo (ar s).isSome] ∧ SchR G u vs ∧ vs.length ≤ 8 ∧ ∀ ts,ar s = some ts → aL vs = ts
theorem SchR.nil : SchR G ax []:=⟨bh.nil0,by simp⟩
theorem rU {s : ye} {k : Nat} (h : s.length ≤ 100000000) : ce yd 114 [S s,U8 k] G (fun v G'=>∃ b o cap,v = .slice (some ⟨b,o,none⟩) (aR k s).length cap ∧ bE G' b o (aj bV (aR k s))):=by
 refine (oY (G:=G) (k:=k) h).mono ?_
 rintro v G' L' ⟨h1,h2,h3⟩
 obtain ⟨b,o,cap,rfl,hs⟩:=h3.expl c0
 exact ⟨h1,h2,b,o,cap,F,hs⟩
theorem nL {s : ye} (h : s.length ≤ 1000) : ce yd 115 [S s] G (fun v G'=>∃ (x : cx) (ok : Bool),v = Tu [Ag [U8 x.2.sort,S x.2.name,.slice x.1.1 x.2.fields.length x.1.2],Bo ok] ∧ (ci s = if ok = true then some x.2 else none) ∧ bh G' (gz x) 4 x.2.fields.length (aj b6 x.2.fields)):=by
 refine (oX (G:=G) h).mono ?_
 rintro v G' L' ⟨h1,h2,fv,t,ok,rfl,h3,h4⟩
 obtain ⟨a,cap,rfl⟩:=h4.sl
 exact ⟨h1,h2,((a,cap),t),ok,F,h3,h4⟩
theorem uD {s : ye} (h : s.length ≤ 10000000) (hb : ¬ (s.length ≤ 400 ∧ (aR 10 s).length ≤ 9 ∧ ac (aR 10 s) ((aR 10 s).length - 1) = [])) (hno : ar s = none) : ce yd 81 [S s] G (pf s):=by
 have hpos:=c0 (k:=10) (s:=s)
 have hcnt:=g7 (k:=10) (s:=s)
 have cx_cutE:=rU (G:=G) (s:=s) (k:=10) oM
 generalize aR 10 s = xs at *
 have e1 : (((xs.length : Nat) : Int) - 1).toNat = xs.length - 1:=oM
 refine jB [(0,_)] Tryz.func81 Tryz.ntmps81 fun B hok hB hW=>?_
 by_cases h1 : s.length ≤ 400
 case neg =>
  repeat' (first | refine jR ?_ | (refine jo ?_;first | refine aV F ?_ | (refine aJ F F F cx_cutE F ?_;rintro _ G hle ⟨b1,o1,cap1,rfl,hseg⟩;skip)) | (refine aU F F (by first | rfl | (refine decide_eq_true ?_;(omega))) ?_) | refine ae F F ?_)
  all_goals refine jZ (vs:=[_,_]) F ⟨F,F,trivial⟩ F ⟨hle,F,?_⟩
  all_goals exact ⟨ax,[],by rw [hno];rfl,SchR.nil,by simp,fun ts h=>by rw [hno] at h;cases h⟩
 by_cases h2 : xs.length ≤ 9
 case neg =>
  repeat' (first | refine jR ?_ | (refine jo ?_;first | refine jV (ai F) ?_ | refine aV F ?_ | refine aG F ?_ | (refine aJ F F F cx_cutE F ?_;rintro _ G hle ⟨b1,o1,cap1,rfl,hseg⟩;skip)) | refine aU F F (aC oM) ?_ | refine aE F F (aF oM) ?_ | refine ae F F ?_)
  all_goals refine jZ (vs:=[_,_]) F ⟨F,F,trivial⟩ F ⟨hle,F,?_⟩
  all_goals exact ⟨ax,[],by rw [hno];rfl,SchR.nil,by simp,fun ts h=>by rw [hno] at h;cases h⟩
 have h3 : ¬ ac xs (((xs.length : Nat) : Int) - 1).toNat = []:=by rw [e1];exact fun h=>hb ⟨h1,h2,h⟩
 clear hb
 repeat' (first | refine jM ?_ | (refine jo ?_;first | refine jV (ai F) ?_ | refine aG F ?_ | refine jV (aY F F oM) ?_ | (refine jV (fu F F aS ?_) ?_;focus omega) | (refine aJ F F F cx_cutE F ?_;rintro _ G hle ⟨b1,o1,cap1,rfl,hseg⟩;skip)) | refine aE F F (aF oM) ?_ | refine ae F (aC ‹_›) ?_)
 all_goals refine jZ (vs:=[_,_]) F ⟨F,F,trivial⟩ F ⟨hle,F,?_⟩
 all_goals exact ⟨ax,[],by rw [hno];rfl,SchR.nil,by simp,fun ts h=>by rw [hno] at h;cases h⟩
theorem uC {s : ye} (h : s.length ≤ 400) (h2 : (aR 10 s).length ≤ 9) (h3 : ac (aR 10 s) ((aR 10 s).length - 1) = []) (hsc : ar s = match bI ((aR 10 s).take ((aR 10 s).length - 1)) with
    | some ts=>if f7 ts then some ts else none
    | none=>none) : ce yd 81 [S s] G (pf s):=by
  have hpos:=c0 (k:=10) (s:=s)
  have hall : ∀ y ∈ aR 10 s,y.length ≤ s.length:=fun y hy=>cy hy
  have cx_cutE:=rU (G:=G) (s:=s) (k:=10) oM
  generalize aR 10 s = xs at *
  have e1 : (((xs.length : Nat) : Int) - 1).toNat = xs.length - 1:=oM
  have h4 : ac xs (((xs.length : Nat) : Int) - 1).toNat = []:=by rw [e1];exact h3
  have h5 : ¬ ac xs (((xs.length : Nat) : Int) - 1).toNat ≠ []:=fun h=>h h4
  clear e1 h3 h4
  refine jB [(0,_)] Tryz.func81 Tryz.ntmps81 fun B hok hB hW=>?_
  repeat' (first | refine jM ?_ | (refine jo ?_;first | refine jV (ai F) ?_ | refine aG F ?_ | refine jV (aY F F oM) ?_ | (refine jV (fu F F aS ?_) ?_;focus omega) | refine jF fun _=>?_ | (refine aJ F F F cx_cutE F ?_;rintro _ G hle ⟨b1,o1,cap1,rfl,hseg⟩;skip)) | refine aE F F (aF oM) ?_ | refine af F (aF ‹_›) ?_)
  rename_i x0
  refine Nx.blkAcc (m:=0) (sz:=3) .here F ?_
  refine aT (ι:=Value × List cx × Nat × Gh) (fun i=>((i.2.2.1 + 1 ≤ xs.length ∧ i.2.1.length = i.2.2.1) ∧ bI (xs.take i.2.2.1) = some (aL i.2.1)) ∧ (∀ y ∈ i.2.1,bh i.2.2.2 (gz y) 4 y.2.fields.length (aj b6 y.2.fields)) ∧ Gh.le G i.2.2.2) (fun i=>[(4,.slice (some ⟨b1,o1,none⟩) xs.length cap1),(5,i.1),(6,I i.2.2.1)]) (fun i=>i.2.2.2) (fun i=>[.acc i.1 nb 3 i.2.1.length (aj gP i.2.1)]) (fun i=>xs.length - i.2.2.1) (.slice (some ⟨x0,0,none⟩) 0 0,[],0,G) ?_ tU F bd (fun i Hi=>?_)
  · exact ⟨⟨⟨by dsimp only;omega,rfl⟩,rfl⟩,by simp,Gh.le.refl _⟩
  obtain ⟨u,vs,i,Gk⟩:=i
  dsimp only at Hi ⊢
  obtain ⟨⟨⟨hi1,hi2⟩,hty⟩,hfs,hgk⟩:=Hi
  have hsk:=hseg.mono hgk
  have hle0:=hle
  by_cases hix : i + 1 < xs.length
  case neg =>
    have ei : i = xs.length - 1:=oM
    rw [← ei,hty] at hsc
    dsimp only at hsc
    refine Nx.sealS (v:=u) fun G1 hle1 hsl=>?_
    have hS : SchR G1 u vs:=⟨hsl,fun x hx=>(hfs x hx).mono hle1⟩
    have hw : ∀ x ∈ vs,TyW x.2:=fun x hx=>(fZ hty).1 x.2 (show x.2 ∈ vs.map (fun y=>y.2) from List.mem_map_of_mem hx)
    have cx_val:=uz hS oM hw
    repeat' (first | refine jM ?_ | (refine jo ?_;first | refine jV (ai F) ?_ | refine ad F F F cx_val F ?_) | refine af F (aF oM) ?_)
    all_goals refine jZ (vs:=[_,_]) F ⟨F,F,trivial⟩ F ⟨(hle0.trans hgk).trans hle1,F,?_⟩
    all_goals refine ⟨u,vs,?_,hS,oM,fun ts h=>?_⟩
    · rw [hsc,eo]
      by_cases hv : f7 (aL vs)
      · rw [if_pos hv,decide_eq_true hv];rfl
      · rw [if_neg hv,decide_eq_false hv];rfl
    · rw [hsc] at h
      split at h
      · exact Option.some.inj h
      · cases h
  have hx2 : (ac xs i).length ≤ 1000:=by have:=hall _ (a6 (show i < xs.length by omega));omega
  have hsn:=fk (x:=ac xs i) hty
  rw [← fH oM] at hsn
  repeat' (first | refine jM ?_ | (refine jo ?_;first | refine jV (ai F) ?_ | refine jV (ah F F oM) ?_ | refine aZ F ?_ | (refine jV (fu F F aS ?_) ?_;focus omega) | refine jF fun _=>?_ | refine jL fun _=>?_ | refine jC F F F ?_ | refine br F F F F F F F F F oM fun _ _=>?_ | (refine aJ F F F (nL oM) F ?_;rintro _ G hle ⟨x,ok,rfl,htyp,hfl⟩;skip)) | refine ae F (aC oM) ?_ | refine oo F (fun _=>?_) (fun _=>?_))
  all_goals first
    | (rename_i hq
       have hq2 : ok = false:=by simpa using hq
       subst hq2
       have hf0 : ci (ac xs i) = none:=htyp
       have hno : ar s = none:=by
         rw [hf0] at hsn
         have e2 : xs.take (xs.length - 1) = xs.take (i + 1) ++ (xs.take (xs.length - 1)).drop (i + 1):=by
           have:=List.take_append_drop (i + 1) (xs.take (xs.length - 1))
           rw [List.take_take,Nat.min_eq_left oM] at this
           exact this.symm
         rw [hsc,e2,eP hsn]
       refine jZ (vs:=[_,_]) F ⟨F,F,trivial⟩ F ⟨(hle0.trans hgk).trans hle,F,?_⟩
       exact ⟨ax,[],by rw [hno];rfl,SchR.nil,by simp,fun ts h=>by rw [hno] at h;cases h⟩)
    | (rename_i z hq w b2 c2
       have hq2 : ok = true:=by simpa using hq
       subst hq2
       have hf1 : ci (ac xs i) = some x.2:=htyp
       rw [hf1] at hsn
       have e3 : aj gP vs ++ [U8 x.2.sort,S x.2.name,.slice x.1.1 x.2.fields.length x.1.2] = aj gP (vs ++ [x]):=(cj gP vs x).symm
       refine aW (.slice (some ⟨b2,0,none⟩) (vs.length + 1) c2,vs ++ [x],i + 1,G) ⟨⟨⟨by dsimp only;omega,by simp;omega⟩,?_⟩,?_,hgk.trans hle⟩ (by dsimp only;omega) tU rfl (by dsimp only;rw [e3];simp only [List.length_append,List.length_cons,List.length_nil,Nat.zero_add];repeat (first | exact List.nil_sublist _ | apply List.Sublist.cons_cons))
       · dsimp only;rw [hsn];simp [aL]
       · intro y hy
         rcases List.mem_append.1 hy with hy | hy
         · exact (hfs y hy).mono hle
         · simp only [List.mem_singleton] at hy;subst hy;exact hfl)
theorem kB {s : ye} (h : s.length ≤ 10000000) : ce yd 81 [S s] G (pf s):=by
 have hpos:=c0 (k:=10) (s:=s)
 have hlast : (aR 10 s).getLastD [] = ac (aR 10 s) ((aR 10 s).length - 1):=by
  rw [bW oM,List.getLastD_eq_getLast?,List.getLast?_eq_getElem?]
  rw [List.getElem?_eq_getElem oM];rfl
 by_cases hc : s.length ≤ 400 ∧ (aR 10 s).length ≤ 9 ∧ ac (aR 10 s) ((aR 10 s).length - 1) = []
 ·refine uC hc.1 hc.2.1 hc.2.2 ?_
  unfold ar
  rw [hlast,if_pos hc,List.dropLast_eq_take]
  (rfl)
 ·refine uD h hc ?_
  unfold ar
  rw [hlast,if_neg hc]
def bo (s k : ye) : Bool:=match ar s with
 | some ts=>aO ts k
 | none=>false
theorem lb {s : ye} (h : s.length ≤ 10000000) : aI yd 69 [S s] G (· = Bo (ar s).isSome):=by
 refine jB (Post:=fun v G' L'=>G' = G ∧ L' = [] ∧ _) [(0,_)] Tryz.func69 Tryz.ntmps69 fun B hok hB hW=>?_
 repeat' (first | refine jR ?_ | (refine jo ?_;(refine aJ F F F (kB oM) F ?_;rintro _ G hle ⟨u,vs,rfl,hsch,hvl,hvs⟩;skip)))
 refine Nx.base hok hB ?_
 refine jY (vs:=[_]) ?_
 rfl
def te (s k : ye) (v : Value) (G : Gh) : Prop:=∃ u vs,v = Tu [u,Bo (bo s k)] ∧ SchR G u vs ∧ vs.length ≤ 8 ∧ ∀ ts,ar s = some ts → aO ts k = true → aL vs = ts
theorem gK {s k : ye} (h : s.length ≤ 10000000) (hk : k.length ≤ 10000000) : ce yd 62 [S s,S k] G (te s k):=by
  cases hs : ar s with
  | none =>
    have hno : bo s k = false:=by unfold bo;rw [hs]
    have e1 : (!(ar s).isSome) = true:=by rw [hs];rfl
    refine jB [(0,_),(1,_)] Tryz.func62 Tryz.ntmps62 fun B hok hB hW=>?_
    repeat' (first | refine jR ?_ | (refine jo ?_;first | refine aV F ?_ | (refine aJ F F F (kB oM) F ?_;rintro _ G hle ⟨u,vs,rfl,hsch,hvl,hvs⟩;skip)) | refine aU F F ‹_› ?_ | refine ae F F ?_)
    all_goals refine jZ (vs:=[_,_]) F ⟨F,F,trivial⟩ F ⟨hle,F,?_⟩
    all_goals exact ⟨ax,[],by rw [hno];rfl,SchR.nil,by simp,fun ts h=>by rw [hs] at h;cases h⟩
  | some ts =>
    have e1 : (!(ar s).isSome) = false:=by rw [hs];rfl
    by_cases hko : be k = true
    case neg =>
      have hno : bo s k = false:=by unfold bo aO;rw [hs];simp [hko]
      have e2 : (!be k) = true:=by simpa using hko
      refine jB [(0,_),(1,_)] Tryz.func62 Tryz.ntmps62 fun B hok hB hW=>?_
      repeat' (first | refine jR ?_ | (refine jo ?_;first | refine aG F ?_ | (refine aJ F F F (kB oM) F ?_;rintro _ G hle ⟨u,vs,rfl,hsch,hvl,hvs⟩;skip) | refine ad F F F kC F ?_) | refine aE F F ‹_› ?_ | refine ae F ‹_› ?_)
      all_goals refine jZ (vs:=[_,_]) F ⟨F,F,trivial⟩ F ⟨hle,F,?_⟩
      all_goals exact ⟨ax,[],by rw [hno];rfl,SchR.nil,by simp,fun ts h1 h2=>by unfold aO at h2;simp [hko] at h2⟩
    have e2 : (!be k) = false:=by rw [hko];rfl
    have hkk:=cT hko
    have hkk1:=hkk.1
    have hcl:=fb k
    have cx_rf2 : ∀ G,aI yd 100 [S (ay k)] G (· = Tu [S ((a9 (ay k)).getD []),Bo (a9 (ay k)).isSome]):=fun G=>jk (fP hkk1) oM
    refine jB [(0,_),(1,_)] Tryz.func62 Tryz.ntmps62 fun B hok hB hW=>?_
    repeat' (first | refine jR ?_ | (refine jo ?_;first | refine aV F ?_ | refine aG F ?_ | refine jL fun _=>?_ | refine jC F F F ?_ | (refine aJ F F F (kB oM) F ?_;rintro _ G hle ⟨u,vs,rfl,hsch,hvl,hvs⟩;skip) | refine ad F F F kC F ?_ | (refine ad F F F (eW (by (repeat (assumption));done)) rfl ?_) | refine ad F F F (cx_rf2 _) F ?_ | (refine ad F F F (o5 (by (repeat (assumption));done) oM) rfl ?_)) | refine aE F F ‹_› ?_ | refine iS F F (fun _=>?_) (fun _=>?_) | refine af F ‹_› ?_)
    all_goals rename_i hq
    all_goals refine jZ (vs:=[_,_]) F ⟨F,F,trivial⟩ F ⟨hle,F,?_⟩
    all_goals have hks : bo s k = (!(a9 (ay k)).isSome || (d6 vs ((a9 (ay k)).getD [])).isSome) := by
                unfold bo aO
                rw [hs]
                dsimp only
                rw [hko,Bool.true_and,← hvs ts hs,nr]
    all_goals exact ⟨u,vs,by rw [hks,hq];rfl,hsch,hvl,fun ts' h1 _=>hvs ts' h1⟩
abbrev cn:=Nat × Ty
def pD (q : cn) : List Value:=[Pt q.1 0]
instance : RowF pD 1:=⟨fun _=>rfl⟩
def gU (qs : List cn) : List (ye × Value):=qs.map fun q=>(q.2.name,Pt q.1 0)
def ag (qs : List cn) : List Ty:=qs.map (·.2)
def dq (qs : List cn) (n : ye) : Option cn:=qs.find? fun q=>decide (n = q.2.name)
theorem dA (qs : List cn) (n : ye) : mh (gU qs) n = (dq qs n).map fun q=>Pt q.1 0:=by
 unfold mh gU dq
 induction qs with
 | nil=>rfl
 | cons q qs ih =>
  simp only [List.map_cons,List.find?_cons]
  by_cases h : n = q.2.name
  ·simp [h]
  ·simp only [h,decide_false];exact ih
theorem eV (qs : List cn) (n : ye) : (dq qs n).map (·.2) = dc (ag qs) n:=by
 unfold dq dc ag
 induction qs with
 | nil=>rfl
 | cons q qs ih =>
  simp only [List.map_cons,List.find?_cons]
  by_cases h : n = q.2.name
  ·simp [h]
  ·have h2 : ¬ q.2.name = n:=fun e=>h e.symm
   simp only [h,h2,decide_false];exact ih
theorem e8 {qs : List cn} {n : ye} {q : cn} (h : dq qs n = some q) : q ∈ qs:=List.mem_of_find?_eq_some h
structure ScI (G : Gh) (b : Nat) (qs : List cn) : Prop where
 at' : ∃ u m,bE G b 0 [u,.map (some m)] ∧ bh G u 1 qs.length (aj pD qs) ∧ G m = some (.ex (dz (gU qs)))
 ty : ∀ q ∈ qs,lg G q.1 q.2
theorem ScI.mono {G G' : Gh} {b : Nat} {qs : List cn} (h : ScI G b qs) (hl : Gh.le G G') : ScI G' b qs:=by
 obtain ⟨u,m,h1,h2,h3⟩:=h.at'
 exact ⟨⟨u,m,h1.mono hl,h2.mono hl,hl _ _ h3⟩,fun q hq=>(h.ty q hq).mono hl⟩
theorem fX {k : ye} (h : be k = true) : bs k = [64] ↔ (a9 (ay k)).isSome = true:=by
 have hk:=fP (cT h).1
 unfold bs
 cases hc : ay k with
 | nil=>rw [hc] at hk;cases hk
 | cons c r =>
  unfold lf a9
  by_cases h64 : c.toNat = 64
  ·simp [h64]
  ·simp only [h64,if_false]
   constructor
   ·intro e;simp only [List.cons.injEq] at e;exact absurd (by rw [e.1];rfl) h64
   ·intro e;cases e
theorem qS {b : Nat} {qs : List cn} {k : ye} (h : ScI G b qs) (hk : be k = true) : aI yd 89 [Pt b 0,Ag [S (sg k),S (bs k),S (nm k)]] G (· = Bo (dv (ag qs) k)):=by
 obtain ⟨u,m,h1,h2,h3⟩:=h.at'
 have hat:=fX hk
 rcases hr : a9 (ay k) with _ | n
 ·have hb : ¬ bs k = [64]:=by rw [hat,hr];simp
  have e : dv (ag qs) k = true:=by unfold dv;rw [hr]
  clear hat hr
  rw [e]
  refine jE [(0,_),(1,_)] Tryz.func89 Tryz.ntmps89 fun B hB=>?_
  repeat' (first | refine jR ?_ | (refine jo ?_;refine jO fun _=>?_) | (refine al (aw (id:=1) _ (fun _ h=>h) ak ?_);refine jT 13 [0] (aa 14 1) ?_;(refine jG (aa 14 3) 1 F (aD F F F) ?_);refine jT 10 [2,3] (aa 14 15) ?_;(try (refine Nx.re (d:=8) (v':=Bo true) F (congrArg Value.bool (aC ‹_›)) ?_));refine jT 6 [4,5,6,8] (aa 14 383) ?_;(refine jN (aa 14 511) 7 F ?_);(refine jN (aa 14 1023) 9 F ?_);(refine jN (aa 14 2047) 10 F ?_);(refine jN (aa 14 4095) 11 F ?_);(refine jG (aa 14 8191) 12 F (bL F F F) ?_);refine jT 0 [13] (aa 14 16383) ?_;refine jQ ?_))
  all_goals refine jY (vs:=[_]) ?_
  all_goals rfl
 ·have hb : ¬ (bs k ≠ [64]):=fun h=>h (by rw [hat,hr];rfl)
  have hn : nm k = n:=by unfold nm;rw [hr];rfl
  have e : dv (ag qs) k = (dq qs (nm k)).isSome:=by unfold dv;rw [hr,hn];dsimp only;rw [← eV];simp
  rw [e]
  clear hat hr hn e
  have hkv:=dA qs (nm k)
  cases hf : dq qs (nm k) with
  | none =>
   rw [hf] at hkv
   dsimp only [Option.map_none] at hkv
   refine jE [(0,_),(1,_)] Tryz.func89 Tryz.ntmps89 fun B hB=>?_
   repeat' (first | refine jR ?_ | (refine jo ?_;refine jO fun _=>?_) | (refine al (aw (id:=1) _ (fun _ h=>h) ak ?_);refine jT 13 [0] (aa 14 1) ?_;(refine jG (aa 14 3) 1 F (aD F F F) ?_);refine jT 10 [2,3] (aa 14 15) ?_;(try (refine Nx.re (d:=8) (v':=Bo false) F (congrArg Value.bool (aF ‹_›)) ?_));refine jT 6 [4,5,6,8] (aa 14 383) ?_;(refine jG (aa 14 511) 7 F (aA F F aS F F) ?_);(refine jG (aa 14 1023) 9 F (aD F F F) ?_);((refine jG (aa 14 2047) 10 F (bX F F (dP aS) aS F) ?_));(refine jG (aa 14 4095) 11 F (dn F F) ?_);(refine jG (aa 14 8191) 12 F (aP F F F) ?_);refine jT 0 [13] (aa 14 16383) ?_;refine jQ ?_))
   all_goals refine jY (vs:=[_]) ?_
   all_goals rfl
  | some q =>
   rw [hf] at hkv
   dsimp only [Option.map_some] at hkv
   refine jE [(0,_),(1,_)] Tryz.func89 Tryz.ntmps89 fun B hB=>?_
   repeat' (first | refine jR ?_ | (refine jo ?_;refine jO fun _=>?_) | (refine al (aw (id:=1) _ (fun _ h=>h) ak ?_);refine jT 13 [0] (aa 14 1) ?_;(refine jG (aa 14 3) 1 F (aD F F F) ?_);refine jT 10 [2,3] (aa 14 15) ?_;(try (refine Nx.re (d:=8) (v':=Bo false) F (congrArg Value.bool (aF ‹_›)) ?_));refine jT 6 [4,5,6,8] (aa 14 383) ?_;(refine jG (aa 14 511) 7 F (aA F F aS F F) ?_);(refine jG (aa 14 1023) 9 F (aD F F F) ?_);((refine jG (aa 14 2047) 10 F (bX F F (dP aS) aS F) ?_));(refine jG (aa 14 4095) 11 F (dn F F) ?_);(refine jG (aa 14 8191) 12 F (aP F F F) ?_);refine jT 0 [13] (aa 14 16383) ?_;refine jQ ?_))
   all_goals refine jY (vs:=[_]) ?_
   all_goals rfl
theorem t7 {k : ye} (h : be k = true) : a9 k = if sg k = [] ∧ bs k = [64] then some (nm k) else none:=by
 have hat:=fX h
 match k,h with
 | c :: r,h =>
  by_cases h1 : c.toNat = 91 ∨ c.toNat = 63
  ·have hs : ¬ (sg (c :: r) = [] ∧ bs (c :: r) = [64]):=by
    rintro ⟨e,_⟩
    unfold sg at e
    rw [ay,if_pos h1] at e
    have:=jf r
    have e2:=congrArg List.length e
    simp only [List.length_take,List.length_cons,List.length_nil] at e2
    omega
   rw [if_neg hs]
   simp only [a9]
   rw [if_neg oM]
  ·have hc : ay (c :: r) = c :: r:=by rw [ay,if_neg h1]
   have hs : sg (c :: r) = []:=by unfold sg;rw [hc];simp
   have hn : nm (c :: r) = (a9 (c :: r)).getD []:=by unfold nm;rw [hc]
   rw [hc] at hat
   rw [hn,hs]
   cases hr : a9 (c :: r) with
   | none=>rw [hr] at hat;rw [if_neg];rintro ⟨_,e⟩;have:=hat.1 e;cases this
   | some n=>rw [hr] at hat;rw [if_pos ⟨rfl,hat.2 rfl⟩];rfl
theorem uH {b : Nat} {qs : List cn} {q0 : cn} (h : ScI G b qs) (hw : ∀ q ∈ qs,TyW q.2) (hk : ∀ q ∈ qs,fR (ag qs) q.2) (hq : q0 ∈ qs) :
  aI yd 122 [Pt b 0,Pt q0.1 0] G (· = Bo (bA (ag qs) 9 q0.2)):=by
 obtain ⟨u,m,h1,h2,h3⟩:=h.at'
 refine jE [(0,_),(1,_)] Tryz.func122 Tryz.ntmps122 fun B hB=>?_
 repeat' (refine jR ?_)
 refine aT (ι:=cn × Nat) (fun i=>i.1 ∈ qs ∧ i.2 ≤ 9 ∧ bA (ag qs) (9 - i.2) i.1.2 = bA (ag qs) 9 q0.2) (fun i=>[(0,Pt b 0),(1,Pt i.1.1 0),(6,I i.2)]) (fun _=>G) (fun i=>[]) (fun i=>9 - i.2) (q0,0) ?_ tU F bd (fun i Hi=>?_)
 ·exact ⟨hq,Nat.zero_le _,F⟩
 obtain ⟨⟨p,t⟩,i⟩:=i
 dsimp only at Hi ⊢
 obtain ⟨hqm,hi9,he⟩:=Hi
 have hW:=hw _ hqm
 obtain ⟨fv,ln,hsg,hfv⟩:=h.ty _ hqm
 dsimp only at hW hsg hfv
 by_cases hlt : i < 9
 case neg =>
  have e0 : 9 - i = 0:=oM
  rw [e0] at he
  repeat' (first | refine jR ?_ | refine af F (aF oM) ?_)
  refine jY (vs:=[_]) ?_
  rw [← he];rfl
 obtain ⟨j,hj⟩ : ∃ j,9 - i = j + 1:=⟨8 - i,oM⟩
 rw [hj,bA] at he
 by_cases hU : t.sort = 85
 case neg =>
  rw [if_pos hU] at he
  repeat' (first | refine jR ?_ | (refine jo ?_;refine jV (aA F F aS F F) ?_) | refine ae F (aC oM) ?_)
  refine jY (vs:=[_]) ?_
  rw [← he];rfl
 rw [if_neg (by simp [hU])] at he
 have hne:=hW.ne oM
 have h0 : 0 < t.fields.length:=List.length_pos_iff.2 hne
 obtain ⟨bf,of,cf,rfl,hsf⟩:=hfv.expl h0
 have hk0 : d5 t = (ac t.fields 0).kind:=by
  unfold d5 ac
  cases t.fields with
  | nil=>rfl
  | cons f r=>rfl
 have hko:=(hW.fld _ (a6 h0)).kind oM
 have hrs:=t7 hko
 have hhas : dv (ag qs) (ac t.fields 0).kind = true:=by
  rcases hk _ hqm with h5 | h5
  ·dsimp only at h5;omega
  ·exact h5 0 h0
 rw [hk0] at he
 by_cases hs1 : sg (ac t.fields 0).kind = []
 case neg =>
  rw [if_neg fun h=>hs1 h.1] at hrs
  unfold aK at he
  rw [hrs] at he
  repeat' (first | refine jR ?_ | (refine jo ?_;first | refine am F ?_ | refine jV (aA F F aS F F) ?_ | (refine jV (c8 F F aS ?_ F F) ?_;focus omega) | refine jV (ah F F oM) ?_ | refine jL fun _=>?_ | refine jC F F F ?_ | refine aV F ?_) | refine aU F F (aC ‹_›) ?_ | (refine ae F (by first | rfl | (refine decide_eq_true ?_;(omega))) ?_) | refine af F (aF oM) ?_)
  all_goals refine jY (vs:=[_]) ?_
  all_goals (rw [← he];rfl)
 by_cases hs2 : bs (ac t.fields 0).kind = [64]
 case neg =>
  rw [if_neg fun h=>hs2 h.2] at hrs
  unfold aK at he
  rw [hrs] at he
  repeat' (first | refine jR ?_ | (refine jo ?_;first | refine am F ?_ | refine jV (aA F F aS F F) ?_ | (refine jV (c8 F F aS ?_ F F) ?_;focus omega) | refine jV (ah F F oM) ?_ | refine jL fun _=>?_ | refine jC F F F ?_ | refine aG F ?_) | (refine aE F F ?_ ?_;(focus ((simp [*];done);done))) | (refine ae F (by refine decide_eq_true ?_;first | assumption | omega) ?_) | refine af F (aF oM) ?_)
  all_goals refine jY (vs:=[_]) ?_
  all_goals (rw [← he];rfl)
 rw [if_pos ⟨hs1,hs2⟩] at hrs
 unfold aK at he
 rw [hrs,Option.bind_some,← eV] at he
 have hkv:=dA qs (nm (ac t.fields 0).kind)
 have hr2 : a9 (ay (ac t.fields 0).kind) = some (nm (ac t.fields 0).kind):=by
  have:=(fX hko).1 hs2
  unfold nm
  cases hx : a9 (ay (ac t.fields 0).kind) with
  | none=>rw [hx] at this;cases this
  | some n=>rfl
 unfold dv at hhas
 rw [hr2] at hhas
 dsimp only at hhas
 rw [← eV] at hhas
 cases hf : dq qs (nm (ac t.fields 0).kind) with
 | none=>rw [hf] at hhas;cases hhas
 | some q =>
  rw [hf] at hkv he
  dsimp only [Option.map_some] at hkv he
  have hb1 : ¬ sg (ac t.fields 0).kind ≠ []:=fun h=>h hs1
  have hb2 : ¬ bs (ac t.fields 0).kind ≠ [64]:=fun h=>h hs2
  clear hs1 hs2 hrs hr2
  repeat' (first | refine jM ?_ | (refine jo ?_;first | refine am F ?_ | refine jV (aA F F aS F F) ?_ | (refine jV (c8 F F aS ?_ F F) ?_;focus omega) | refine jV (ah F F oM) ?_ | refine jL fun _=>?_ | refine jC F F F ?_ | refine aG F ?_) | refine aE F F (aF ‹_›) ?_ | refine ae F (aC oM) ?_ | (refine af F (by refine decide_eq_false ?_;first | assumption | omega) ?_) | (refine al (aw (id:=8) _ (fun _ h=>h) ak ?_);refine jT 4 [0,1,2,4] (aa 8 23) ?_;(refine jG (aa 8 31) 3 F (aA F F aS F F) ?_);(refine jG (aa 8 63) 5 F (aD F F F) ?_);((refine jG (aa 8 127) 6 F (bX F F (dP aS) aS F) ?_));refine jT 0 [7] (aa 8 255) ?_;refine jQ ?_))
  refine aW (q,i + 1) ⟨e8 hf,by dsimp only;omega,?_⟩ (by dsimp only;omega) tU rfl (by repeat (exact List.nil_sublist _))
  dsimp only
  rw [show 9 - (i + 1) = j by omega]
  exact he
structure Rdg (s : ye) (ls : List ye) (ts : List Ty) (t : ye) : Prop where
 cutE : aR 10 s = ls ++ aR 10 t
 tyE : bI ls = some ts
theorem Rdg.start (s : ye) : Rdg s [] [] s:=⟨rfl,rfl⟩
theorem Rdg.len {s : ye} {ls : List ye} {ts : List Ty} {t : ye} (h : Rdg s ls ts t) : ts.length = ls.length:=(fZ h.tyE).2
theorem ja {t line rest : ye} (h : ao 10 t = (line,rest,true)) : aR 10 t = line :: aR 10 rest:=by rw [jc,h];rfl
theorem Rdg.step {s : ye} {ls : List ye} {ts : List Ty} {t line rest : ye} {x : Ty} (h : Rdg s ls ts t) (hc : ao 10 t = (line,rest,true)) (hx : ci line = some x) : Rdg s (ls ++ [line]) (ts ++ [x]) rest :=
 ⟨by rw [h.cutE,ja hc];simp,by rw [fk h.tyE,hx];rfl⟩
theorem Rdg.fin {s : ye} {ls : List ye} {ts : List Ty} (h : Rdg s ls ts []) (hl : s.length ≤ 400) (h8 : ts.length ≤ 8) : ar s = if f7 ts then some ts else none:=by
 have hlen:=h.len
 have e : aR 10 s = ls ++ [[]]:=h.cutE
 unfold ar
 rw [e,if_pos ⟨hl,by simp;omega,by simp⟩,List.dropLast_concat,h.tyE]
theorem qo {s : ye} (h : ¬ s.length ≤ 400) : ar s = none:=by
 unfold ar
 exact if_neg fun h2=>h h2.1
theorem Rdg.noend {s : ye} {ls : List ye} {ts : List Ty} {t : ye} (h : Rdg s ls ts t) (ht : t ≠ []) (hc : (ao 10 t).2.2 = false) : ar s = none:=by
 have e : aR 10 s = ls ++ [t]:=by rw [h.cutE,jc,hc];rfl
 unfold ar
 rw [e,if_neg]
 rintro ⟨_,_,h3⟩
 simp at h3
 exact ht h3
theorem Rdg.many {s : ye} {ls : List ye} {ts : List Ty} {t line rest : ye} (h : Rdg s ls ts t) (hc : ao 10 t = (line,rest,true)) (h8 : ts.length = 8) : ar s = none:=by
 have hlen:=h.len
 have hp:=c0 (k:=10) (s:=rest)
 unfold ar
 rw [h.cutE,ja hc,if_neg]
 rintro ⟨_,h3,_⟩
 simp at h3
 omega
theorem nB {ls : List ye} {line rest : ye} : (ls ++ line :: aR 10 rest).dropLast = (ls ++ [line]) ++ (aR 10 rest).dropLast:=by
 have hp:=c0 (k:=10) (s:=rest)
 have hne : aR 10 rest ≠ []:=fun e=>by rw [e] at hp;simp at hp
 rw [List.dropLast_append_of_ne_nil (by simp),List.dropLast_cons_of_ne_nil hne];simp
theorem Rdg.bad {s : ye} {ls : List ye} {ts : List Ty} {t line rest : ye} (h : Rdg s ls ts t) (hc : ao 10 t = (line,rest,true)) (hx : ci line = none) : ar s = none:=by
 have hn : bI (ls ++ [line]) = none:=by rw [fk h.tyE,hx];rfl
 unfold ar
 split
 ·rw [h.cutE,ja hc,nB,eP hn]
 ·rfl
theorem kS : ∀ {xs ys : List ye} {ts us : List Ty},bI xs = some ts → bI (xs ++ ys) = some us → ∃ vs,us = ts ++ vs
 | [],ys,ts,us,h,h2=>by simp only [bI,Option.some.injEq] at h;subst h;exact ⟨us,F⟩
 | x :: xs,ys,ts,us,h,h2=>by
  unfold bI at h
  rw [List.cons_append,bI] at h2
  cases hx : ci x with
  | none=>rw [hx] at h;cases h
  | some t =>
   rw [hx] at h h2
   dsimp only at h h2
   cases hr : bI xs with
   | none=>rw [hr] at h;cases h
   | some ws =>
    rw [hr] at h
    simp only [Option.map_some,Option.some.injEq] at h;subst h
    cases hq : bI (xs ++ ys) with
    | none=>rw [hq] at h2;cases h2
    | some zs =>
     rw [hq] at h2
     simp only [Option.map_some,Option.some.injEq] at h2;subst h2
     obtain ⟨vs,rfl⟩:=kS hr hq
     exact ⟨vs,F⟩
theorem gp {α : Type} [Inhabited α] {xs ys : List α} {i : Nat} (h : i < xs.length) : ac (xs ++ ys) i = ac xs i:=by
 rw [bW h,bW (by simp;omega),List.getElem_append_left h]
theorem Rdg.dup {s : ye} {ls : List ye} {ts : List Ty} {t line rest : ye} {x : Ty} (h : Rdg s ls ts t) (hc : ao 10 t = (line,rest,true)) (hx : ci line = some x) (i : Nat) (hi : i < ts.length) (hd : (ac ts i).name = x.name) : ar s = none:=by
 have h2:=h.step hc hx
 unfold ar
 split
 ·rw [h.cutE,ja hc,nB]
  cases hr : bI (ls ++ [line] ++ (aR 10 rest).dropLast) with
  | none=>rfl
  | some us =>
   obtain ⟨vs,rfl⟩:=kS h2.tyE hr
   dsimp only
   rw [if_neg]
   intro hv
   have h3:=(hv.1 ts.length (by simp)).1 i hi
   have e1 : ac (ts ++ [x] ++ vs) i = ac ts i:=by rw [gp (by simp;omega),gp hi]
   have e2 : ac (ts ++ [x] ++ vs) ts.length = x:=by rw [gp (by simp),bW (by simp)];simp
   rw [e1,e2] at h3
   exact h3 hd
 ·rfl
abbrev xi : TypeId:=125
abbrev xh : TypeId:=129
def wk (s : ye) (v : Value) (G : Gh) : Prop:=(ar s = none ∧ ∃ p,v = Tu [p,Bo false]) ∨ ∃ b qs,v = Tu [Pt b 0,Bo true] ∧ ar s = some (ag qs) ∧ ScI G b qs
theorem dW (qs : List cn) : (ag qs).length = qs.length:=by simp [ag]
theorem it {qs : List cn} {i : Nat} (h : i < qs.length) : ac (ag qs) i = (ac qs i).2:=by
 rw [bW h,bW (by rw [dW];exact h)];simp [ag]
theorem qF {qs : List cn} {n : ye} {q : cn} (h : dq qs n = some q) : ∃ i,i < (ag qs).length ∧ (ac (ag qs) i).name = n:=by
 have h1:=e8 h
 have h2 : n = q.2.name:=by unfold dq at h;simpa using List.find?_some h
 obtain ⟨i,hi,rfl⟩:=gq h1
 exact ⟨i,by rw [dW];exact hi,by rw [it hi,h2]⟩
theorem qG {qs : List cn} {n : ye} (h : dq qs n = none) : ∀ i,i < qs.length → (ac (ag qs) i).name ≠ n:=by
 intro i hi e
 unfold dq at h
 rw [List.find?_eq_none] at h
 have:=h _ (a6 hi)
 rw [it hi] at e
 simp [e] at this
theorem fx {s : ye} (h : s.length ≤ 10000000) : ce yd 87 [S s] G (wk s):=by
 by_cases hl : s.length ≤ 400
 case neg =>
  have hno:=qo hl
  refine jB [(0,_)] Tryz.func87 Tryz.ntmps87 fun B hok hB hW=>?_
  repeat' (first | refine jR ?_ | refine ae F (aC oM) ?_)
  all_goals refine jZ (vs:=[_,_]) F ⟨F,F,trivial⟩ F ⟨Gh.le.refl _,F,?_⟩
  all_goals exact .inl ⟨hno,_,F⟩
 refine jB [(0,_)] Tryz.func87 Tryz.ntmps87 fun B hok hB hW=>?_
 repeat' (first | refine jR ?_ | (refine jo ?_;first | refine tO F fun _=>?_ | refine jV (aq F F) ?_ | refine jO fun _=>?_) | refine af F (aF oM) ?_)
 rename_i m x
 refine Nx.addNil xi 1 ?_
 refine aT (ι:=Value × List cn × List ye × ye × Gh) (fun i=>Rdg s i.2.2.1 (ag i.2.1) i.2.2.2.1 ∧ (i.2.1.length ≤ 8 ∧ i.2.2.2.1.length ≤ s.length) ∧ (∀ a,a < i.2.1.length → iA (ag i.2.1) a) ∧ (∀ q ∈ i.2.1,lg i.2.2.2.2 q.1 q.2) ∧ Gh.le G i.2.2.2.2) (fun i=>[(0,S i.2.2.2.1),(4,Pt x 0)]) (fun i=>i.2.2.2.2) (fun i=>[.acc i.1 xi 1 i.2.1.length (aj pD i.2.1),.blk x (.cells [i.1,.map (some m)].toArray xh (0,0)),.blk m (dz (gU i.2.1))]) (fun i=>i.2.2.2.1.length) (ax,[],[],s,G) ?_ tU F bd (fun i Hi=>?_)
 ·exact ⟨Rdg.start s,⟨by simp,Nat.le_refl _⟩,fun a ha=>absurd ha (by simp),by simp,Gh.le.refl _⟩
 obtain ⟨u,qs,ls,t,Gk⟩:=i
 dsimp only at Hi ⊢
 obtain ⟨hR,⟨h8,htl⟩,hna,hti,hgk⟩:=Hi
 refine Nx.shp (v:=u) (.head _) fun hsh=>?_
 have hsh2:=hsh
 obtain ⟨au,cu,rfl⟩:=hsh.sl
 by_cases ht : t = []
 case neg =>
  have cx_cut : ∀ G,aI yd 120 [S t,S [10]] G (· = Tu [S (ao 10 t).1,S (ao 10 t).2.1,Bo (ao 10 t).2.2]):=fun G=>mG (c:=10) oM
  have hcl:=gG (k:=10) (s:=t)
  cases hc : (ao 10 t).2.2 with
  | false =>
   have hno:=hR.noend ht hc
   have hc2 : (!(ao 10 t).2.2) = true:=by rw [hc];rfl
   repeat' (first | refine jR ?_ | (refine jo ?_;first | refine aV F ?_ | refine ad F F F (cx_cut _) F ?_) | refine aU F F ‹_› ?_ | (refine ae F (by first | rfl | (refine decide_eq_true ?_;(assumption))) ?_))
   all_goals refine jZ (vs:=[_,_]) F ⟨F,F,trivial⟩ F ⟨hgk,F,?_⟩
   all_goals exact .inl ⟨hno,_,F⟩
  | true =>
   have hce : ao 10 t = ((ao 10 t).1,(ao 10 t).2.1,true):=by rw [← hc]
   have hlt : (ao 10 t).2.1.length < t.length:=by
    obtain ⟨d,_,e⟩:=e9 hce
    have:=congrArg List.length e
    simp at this;omega
   rw [hc] at cx_cut
   generalize (ao 10 t).1 = line at *
   generalize (ao 10 t).2.1 = rest at *
   clear hc
   by_cases h9 : qs.length = 8
   ·have hno:=hR.many hce (by rw [dW];exact h9)
    repeat' (first | refine jR ?_ | (refine jo ?_;first | refine am F ?_ | refine jV (ai F) ?_ | refine aG F ?_ | refine ad F F F (cx_cut _) F ?_) | refine aE F F F ?_ | (refine ae F (by refine decide_eq_true ?_;first | assumption | omega) ?_))
    all_goals refine jZ (vs:=[_,_]) F ⟨F,F,trivial⟩ F ⟨hgk,F,?_⟩
    all_goals exact .inl ⟨hno,_,F⟩
   have hle1 : line.length ≤ 1000:=oM
   cases hty : ci line with
   | none =>
    have hno:=hR.bad hce hty
    have cx_rt0 : ∀ G,ce yd 121 [S line] G (fun v _=>∃ p,v = Tu [p,Bo false]):=fun G=>by
     refine (mC (G:=G) hle1).mono ?_
     rintro v G' L' ⟨h1,h2,⟨_,p,rfl⟩ | ⟨_,_,_,h4,_⟩⟩
     ·exact ⟨h1,h2,p,F⟩
     ·rw [hty] at h4;cases h4
    repeat' (first | refine jR ?_ | (refine jo ?_;first | refine am F ?_ | refine jV (ai F) ?_ | refine aG F ?_ | refine ad F F F (cx_cut _) F ?_ | (refine aJ F F F (cx_rt0 _) F ?_;rintro _ G hle ⟨p,rfl⟩;skip)) | refine aE F F F ?_ | (refine ae F (by first | rfl | (refine decide_eq_true ?_;(assumption))) ?_) | refine af F (aF oM) ?_ | (refine al (aw (id:=9) _ (fun _ h=>h) ak ?_);refine jT 11 [0,1,2] (aa 14 7) ?_;(try (refine Nx.re (d:=47) (v':=Bo true) F (congrArg Value.bool F) ?_));refine jT 5 [3,4,5,7,8,9] (aa 14 959) ?_;(refine jN (aa 14 1023) 6 F ?_);(refine jN (aa 14 2047) 10 F ?_);(refine jN (aa 14 4095) 11 F ?_);(refine jN (aa 14 8191) 12 F ?_);(refine jG (aa 14 16383) 13 F (bL F F F) ?_);refine jQ ?_))
    all_goals refine jZ (vs:=[_,_]) F ⟨F,F,trivial⟩ F ⟨hgk.trans hle,F,?_⟩
    all_goals exact .inl ⟨hno,_,F⟩
   | some ty =>
   have cx_rt1 : ∀ G,ce yd 121 [S line] G (fun v G'=>∃ b fv ln,v = Tu [Pt b 0,Bo true] ∧ bE G' b 0 [U8 ty.sort,S ty.name,fv,S ln] ∧ bh G' fv 6 ty.fields.length (aj gE ty.fields)):=fun G=>by
    refine (mC (G:=G) hle1).mono ?_
    rintro v G' L' ⟨h1,h2,⟨h4,_⟩ | ⟨b,t2,rfl,h4,fv,ln,h5,h6⟩⟩
    ·rw [hty] at h4;cases h4
    ·rw [hty] at h4;simp only [Option.some.injEq] at h4;subst h4
     exact ⟨h1,h2,b,fv,ln,F,h5,h6⟩
   have hkv:=dA qs ty.name
   cases hf : dq qs ty.name with
   | some q =>
    rw [hf] at hkv
    dsimp only [Option.map_some] at hkv
    obtain ⟨i,hi,hn⟩:=qF hf
    have hno:=hR.dup hce hty i hi hn
    repeat' (first | refine jR ?_ | (refine jo ?_;first | refine am F ?_ | refine jV (ai F) ?_ | refine aG F ?_ | refine ad F F F (cx_cut _) F ?_ | (refine aJ F F F (cx_rt1 _) F ?_;rintro _ G hle ⟨b,fv,ln,rfl,hsg,hfv⟩;skip)) | refine aE F F F ?_ | (refine ae F (by first | rfl | (refine decide_eq_true ?_;(assumption))) ?_) | refine af F (aF oM) ?_ | (refine al (aw (id:=9) _ (fun _ h=>h) ak ?_);refine jT 11 [0,1,2] (aa 14 7) ?_;(try (refine Nx.re (d:=47) (v':=Bo false) F (congrArg Value.bool F) ?_));refine jT 5 [3,4,5,7,8,9] (aa 14 959) ?_;(refine jG (aa 14 1023) 6 F (aD F F F) ?_);(refine jG (aa 14 2047) 10 F (aA F F aS F F) ?_);(refine jG (aa 14 4095) 11 F (bX F F (pG MapI.mem) aS F) ?_);(refine jG (aa 14 8191) 12 F (dn F F) ?_);(refine jG (aa 14 16383) 13 F (aP F F F) ?_);refine jQ ?_))
    all_goals refine jZ (vs:=[_,_]) F ⟨F,F,trivial⟩ F ⟨hgk.trans hle,F,?_⟩
    all_goals exact .inl ⟨hno,_,F⟩
   | none =>
    rw [hf] at hkv
    dsimp only [Option.map_none] at hkv
    repeat' (first | refine jR ?_ | (refine jo ?_;first | refine am F ?_ | refine jV (ai F) ?_ | refine aG F ?_ | refine ad F F F (cx_cut _) F ?_ | (refine aJ F F F (cx_rt1 _) F ?_;rintro _ G hle ⟨b,fv,ln,rfl,hsg,hfv⟩;skip)) | refine aE F F F ?_ | refine ae F (aC ‹_›) ?_ | refine af F (aF oM) ?_)
    (refine al (aw (id:=9) _ (fun _ h=>h) ak ?_);refine jT 11 [0,1,2] (aa 14 7) ?_;(try (refine Nx.re (d:=47) (v':=Bo false) F (congrArg Value.bool F) ?_));refine jT 5 [3,4,5,7,8,9] (aa 14 959) ?_;(refine jG (aa 14 1023) 6 F (aD F F F) ?_);(refine jG (aa 14 2047) 10 F (aA F F aS F F) ?_);(refine jG (aa 14 4095) 11 F (bX F F (pG MapI.mem) aS F) ?_);(refine jG (aa 14 8191) 12 F (dn F F) ?_);(refine jG (aa 14 16383) 13 F (aP F F F) ?_);refine jQ ?_)
    repeat' (first | refine jR ?_ | (refine jo ?_;first | refine am F ?_ | refine jF fun _=>?_ | refine br F F F F F F F F F oM fun _ _=>?_ | refine jD F F F ?_) | refine af F F ?_)
    rename_i w b2 c2
    (refine al (aw (id:=12) [.blk x (.cells [.slice (some ⟨b2,0,none⟩) (qs.length + 1) c2,.map (some m)].toArray xh (0,0))] (by intro y hy;simp only [List.mem_cons,List.not_mem_nil,or_false] at hy ⊢;simp [hy]) ak ?_);refine jW 3 [0,1,2,4,5,6,8] (aa 10 375) ?_;(refine jG (aa 10 383) 3 F (aD F F F) ?_);(refine jG (aa 10 511) 7 F (aA F F aS F F) ?_);refine jA 9 F ?_;(refine wY F F F F ‹_› ?_);refine jS (aa 10 1023) ?_;refine jQ ?_)
    repeat' (refine jR ?_)
    have e1 : gU qs ++ [(ty.name,Pt b 0)] = gU (qs ++ [(b,ty)]):=by simp [gU]
    have e2 : aj pD qs ++ [Pt b 0] = aj pD (qs ++ [(b,ty)]):=(cj pD qs (b,ty)).symm
    have e3 : ag (qs ++ [(b,ty)]) = ag qs ++ [ty]:=by simp [ag]
    rw [e1,e2]
    refine aW (.slice (some ⟨b2,0,none⟩) (qs.length + 1) c2,qs ++ [(b,ty)],ls ++ [line],rest,G) ⟨?_,⟨by simp;omega,by dsimp only;omega⟩,?_,?_,hgk.trans hle⟩ (by dsimp only;omega) tU rfl (by dsimp only;simp only [List.length_append,List.length_cons,List.length_nil,Nat.zero_add];repeat (first | exact List.Sublist.refl _ | apply List.Sublist.cons_cons | apply List.Sublist.cons))
    ·dsimp only;rw [e3];exact hR.step hce hty
    ·intro a ha k hk
     dsimp only at ha ⊢
     rw [e3]
     have hlen:=dW qs
     have hal : a < qs.length + 1:=by simpa using ha
     rcases Nat.lt_or_ge a qs.length with h3 | h3
     ·rw [gp oM,gp oM];exact hna a h3 k hk
     ·have ea : a = qs.length:=oM
      have e4 : ac (ag qs ++ [ty]) a = ty:=by rw [bW (by simp;omega),List.getElem_append_right oM];simp
      rw [gp oM,e4]
      exact qG hf k oM
    ·intro q hq
     dsimp only at hq ⊢
     rcases List.mem_append.1 hq with hq | hq
     ·exact (hti q hq).mono hle
     ·simp only [List.mem_singleton] at hq;subst hq;exact ⟨fv,ln,hsg,hfv⟩
 ·subst ht
  have hfin:=hR.fin hl (by rw [dW];exact h8)
  have hw : ∀ q ∈ qs,TyW q.2:=fun q hq=>(fZ hR.tyE).1 q.2 (show q.2 ∈ qs.map (fun y=>y.2) from List.mem_map_of_mem hq)
  refine Nx.sealS (v:=.slice au qs.length cu) fun G1 hl1 hsl=>?_
  refine Nx.sealC (b:=x) fun G2 hl2 hsx=>?_
  refine Nx.sealM (b:=m) fun G3 hl3 hmm=>?_
  have hS : ScI G3 x qs:=⟨⟨_,m,hsx.mono hl3,hsl.mono (hl2.trans hl3),hmm⟩,fun q hq=>(hti q hq).mono ((hl1.trans hl2).trans hl3)⟩
  have hgl : Gh.le G G3:=((hgk.trans hl1).trans hl2).trans hl3
  have hsx3:=hsx.mono hl3
  have hsl3:=hsl.mono (hl2.trans hl3)
  repeat' (first | refine jR ?_ | (refine jo ?_;first | refine jV (aA F F aS F F) ?_ | refine jV (ai F) ?_) | refine af F F ?_)
  refine aT (ι:=Nat) (fun k=>k ≤ qs.length ∧ ∀ j,j < k → fR (ag qs) (ac qs j).2) (fun k=>[(4,Pt x 0),(82,.slice au qs.length cu),(83,I qs.length),(84,I k)]) (fun k=>G3) (fun k=>[]) (fun k=>qs.length - k) 0 ?_ tU F bd (fun k Hk=>?_)
  ·exact ⟨Nat.zero_le _,fun j hj=>absurd hj oM⟩
  by_cases hk : k < qs.length
  case neg =>
   have hko : ∀ q ∈ qs,fR (ag qs) q.2:=fun q hq=>by
    obtain ⟨j,hj,rfl⟩:=gq hq
    exact Hk.2 j oM
   repeat' (first | refine jR ?_ | (refine jo ?_;first | refine jV (aA F F aS F F) ?_ | refine jV (ai F) ?_) | refine af F (aF oM) ?_)
   refine aT (ι:=Nat) (fun k=>k ≤ qs.length ∧ ∀ j,j < k → bA (ag qs) 9 (ac qs j).2 = true) (fun k=>[(4,Pt x 0),(114,.slice au qs.length cu),(115,I qs.length),(116,I k)]) (fun k=>G3) (fun k=>[]) (fun k=>qs.length - k) 0 ?_ tU F bd (fun k Hk=>?_)
   ·exact ⟨Nat.zero_le _,fun j hj=>absurd hj oM⟩
   have hends : ∀ j,j < qs.length → bA (ag qs) 9 (ac qs j).2 = bA (ag qs) ((ag qs).length + 1) (ac (ag qs) j):=fun j hj=>by
    rw [it hj]
    exact uv (by rw [dW];exact h8) (show (ac qs j).2 ∈ qs.map (fun y=>y.2) from List.mem_map_of_mem (a6 hj))
   by_cases hk2 : k < qs.length
   case neg =>
    have hv : f7 (ag qs):=by
     refine ⟨fun j hj=>?_,fun j hj=>?_⟩
     ·rw [dW] at hj
      exact ⟨hna j hj,by rw [it hj];exact hko _ (a6 hj)⟩
     ·rw [dW] at hj
      rw [← hends j hj];exact Hk.2 j oM
    repeat' (first | refine jR ?_ | refine af F (aF oM) ?_)
    all_goals refine jZ (vs:=[_,_]) F ⟨F,F,trivial⟩ F ⟨hgl,F,?_⟩
    all_goals exact .inr ⟨x,qs,F,by rw [hfin,if_pos hv],hS⟩
   obtain ⟨ba,oa,ca,ea,hsa⟩:=hsl3.expl oM
   simp only [Value.slice.injEq] at ea
   obtain ⟨rfl,-,rfl⟩:=ea
   rcases hq : ac qs k with ⟨p,ty⟩
   have hqm : (p,ty) ∈ qs:=by rw [← hq];exact a6 hk2
   have cx_en2:=uH hS hw hko hqm
   have hek:=hends k hk2
   rw [hq] at hek
   dsimp only at hek
   by_cases he : bA (ag qs) 9 ty = true
   ·have he2 : (!bA (ag qs) 9 ty) = false:=by rw [he];rfl
    repeat' (first | refine jM ?_ | (refine jo ?_;first | (refine jV (mU F F aS ?_ aS F) ?_;focus omega) | refine jV (ah F F oM) ?_ | refine ad F F F cx_en2 F ?_) | refine ae F (aC oM) ?_ | refine af F ‹_› ?_)
    refine aW (k + 1) ⟨oM,fun j hj=>?_⟩ oM tU F bd
    rcases Nat.lt_or_ge j k with h3 | h3
    ·exact Hk.2 j h3
    ·have : j = k:=oM
     subst this;rw [hq];exact he
   ·have he2 : (!bA (ag qs) 9 ty) = true:=by simpa using he
    have hno : ar s = none:=by
     rw [hfin,if_neg]
     intro hv
     have:=hv.2 k (by rw [dW];exact hk2)
     rw [← hek] at this
     exact he this
    repeat' (first | refine jR ?_ | (refine jo ?_;first | (refine jV (mU F F aS ?_ aS F) ?_;focus omega) | refine jV (ah F F oM) ?_ | refine ad F F F cx_en2 F ?_) | (refine ae F (by first | assumption | (refine decide_eq_true ?_;(omega))) ?_))
    all_goals refine jZ (vs:=[_,_]) F ⟨F,F,trivial⟩ F ⟨hgl,F,?_⟩
    all_goals exact .inl ⟨hno,_,F⟩
  obtain ⟨ba,oa,ca,ea,hsa⟩:=hsl3.expl oM
  simp only [Value.slice.injEq] at ea
  obtain ⟨rfl,-,rfl⟩:=ea
  rcases hq : ac qs k with ⟨p,ty⟩
  have hqm : (p,ty) ∈ qs:=by rw [← hq];exact a6 hk
  obtain ⟨fv,ln,hsg,hfv⟩:=hS.ty _ hqm
  dsimp only at hsg hfv
  have hW:=hw _ hqm
  dsimp only at hW
  have h88:=hW.len
  repeat' (first | refine jR ?_ | (refine jo ?_;first | refine jV (aA F F aS F F) ?_ | (refine jV (mU F F aS ?_ aS F) ?_;focus omega) | refine jV (cJ F aS) ?_ | refine jV (ah F F oM) ?_) | refine ae F (aC oM) ?_)
  refine aT (ι:=Nat) (fun l=>l ≤ ty.fields.length ∧ (ty.sort = 69 ∨ ∀ j,j < l → dv (ag qs) (ac ty.fields j).kind = true)) (fun l=>[(4,Pt x 0),(11,Pt p 0),(82,.slice (some ⟨ba,oa,none⟩) qs.length cu),(83,I qs.length),(84,I k),(91,fv),(92,I ty.fields.length),(93,I l)]) (fun l=>G3) (fun l=>[]) (fun l=>ty.fields.length - l) 0 ?_ tU F bd (fun l Hl=>?_)
  ·exact ⟨Nat.zero_le _,.inr fun j hj=>absurd hj oM⟩
  by_cases hl2 : l < ty.fields.length
  case neg =>
   repeat' (first | refine jM ?_ | refine af F (aF oM) ?_)
   refine aW (k + 1) ⟨oM,fun j hj=>?_⟩ oM tU F bd
   rcases Nat.lt_or_ge j k with h3 | h3
   ·exact Hk.2 j h3
   ·have : j = k:=oM
    subst this
    rw [hq]
    rcases Hl.2 with h5 | h5
    ·exact .inl h5
    ·exact .inr fun j2 hj2=>h5 j2 (by dsimp only at hj2;omega)
  obtain ⟨bf,of,cf,rfl,hsf⟩:=hfv.expl oM
  by_cases h69 : ty.sort = 69
  ·repeat' (first | refine jM ?_ | (refine jo ?_;first | (refine jV (bq F F aS ?_) ?_;focus omega) | refine jV (aA F F aS F F) ?_ | refine aG F ?_ | refine jC F F F ?_ | refine jV (ah F F oM) ?_ | refine jL fun _=>?_) | refine aE F F (aF oM) ?_ | refine ae F (aC oM) ?_ | refine af F F ?_)
   refine aW (l + 1) ⟨oM,.inl h69⟩ oM tU F (by repeat (exact List.nil_sublist _))
  have hko1:=(hW.fld _ (a6 hl2)).kind h69
  have cx_has:=qS hS hko1
  by_cases hh : dv (ag qs) (ac ty.fields l).kind = true
  ·have hh2 : (!dv (ag qs) (ac ty.fields l).kind) = false:=by rw [hh];rfl
   repeat' (first | refine jM ?_ | (refine jo ?_;first | (refine jV (bq F F aS ?_) ?_;focus omega) | refine aZ F ?_ | refine jV (aA F F aS F F) ?_ | refine aV F ?_ | refine jC F F F ?_ | refine jV (ah F F oM) ?_ | refine jL fun _=>?_ | refine ad F F F cx_has F ?_) | refine aU F F (aC oM) ?_ | refine ae F (aC oM) ?_ | refine af F ‹_› ?_)
   refine aW (l + 1) ⟨oM,.inr fun j hj=>?_⟩ oM tU F (by repeat (exact List.nil_sublist _))
   rcases Nat.lt_or_ge j l with h3 | h3
   ·rcases Hl.2 with h5 | h5
    ·exact absurd h5 h69
    ·exact h5 j h3
   ·have : j = l:=oM
    subst this;exact hh
  ·have hh2 : (!dv (ag qs) (ac ty.fields l).kind) = true:=by simpa using hh
   have hno : ar s = none:=by
    rw [hfin,if_neg]
    intro hv
    have h5:=(hv.1 k (by rw [dW];exact hk)).2
    rw [it hk,hq] at h5
    rcases h5 with h6 | h6
    ·exact h69 h6
    ·exact hh (h6 l hl2)
   repeat' (first | refine jR ?_ | (refine jo ?_;first | (refine jV (bq F F aS ?_) ?_;focus omega) | refine aZ F ?_ | refine jV (aA F F aS F F) ?_ | refine aV F ?_ | refine jC F F F ?_ | refine jV (ah F F oM) ?_ | refine jL fun _=>?_ | refine ad F F F cx_has F ?_) | refine aU F F (aC oM) ?_ | (refine ae F (by first | assumption | (refine decide_eq_true ?_;(omega))) ?_))
   all_goals refine jZ (vs:=[_,_]) F ⟨F,F,trivial⟩ F ⟨hgl,F,?_⟩
   all_goals exact .inl ⟨hno,_,F⟩
theorem pp {s : ye} (h : s.length ≤ 10000000) : aI yd 65 [S s] G (· = Bo (ar s).isSome):=by
 cases hs : ar s with
 | none =>
  have cx_rs0 : ∀ G,ce yd 87 [S s] G (fun v _=>∃ p,v = Tu [p,Bo false]):=fun G=>by
   refine (fx (G:=G) h).mono ?_
   rintro v G' L' ⟨h1,h2,⟨_,p,rfl⟩ | ⟨_,_,_,h4,_⟩⟩
   ·exact ⟨h1,h2,p,F⟩
   ·rw [hs] at h4;cases h4
  refine jB (Post:=fun v G' L'=>G' = G ∧ L' = [] ∧ _) [(0,_)] Tryz.func65 Tryz.ntmps65 fun B hok hB hW=>?_
  repeat' (first | refine jR ?_ | (refine jo ?_;(refine aJ F F F (cx_rs0 _) F ?_;rintro _ G hle ⟨p,rfl⟩;skip)))
  refine Nx.base hok hB ?_
  refine jY (vs:=[_]) ?_
  rfl
 | some ts =>
  have cx_rs1 : ∀ G,ce yd 87 [S s] G (fun v G'=>∃ b qs,v = Tu [Pt b 0,Bo true] ∧ ag qs = ts ∧ ScI G' b qs):=fun G=>by
   refine (fx (G:=G) h).mono ?_
   rintro v G' L' ⟨h1,h2,⟨h4,_⟩ | ⟨b,qs,rfl,h4,h5⟩⟩
   ·rw [hs] at h4;cases h4
   ·rw [hs] at h4;simp only [Option.some.injEq] at h4;exact ⟨h1,h2,b,qs,F,h4.symm,h5⟩
  refine jB (Post:=fun v G' L'=>G' = G ∧ L' = [] ∧ _) [(0,_)] Tryz.func65 Tryz.ntmps65 fun B hok hB hW=>?_
  repeat' (first | refine jR ?_ | (refine jo ?_;(refine aJ F F F (cx_rs1 _) F ?_;rintro _ G hle ⟨b,qs,rfl,hqs,hS⟩;skip)))
  refine Nx.base hok hB ?_
  refine jY (vs:=[_]) ?_
  rfl
def tf (s k : ye) (v : Value) (G : Gh) : Prop:=(bo s k = false ∧ ∃ p a b c,v = Tu [p,Ag [S a,S b,S c],Bo false]) ∨ ∃ b qs,v = Tu [Pt b 0,Ag (eH k),Bo true] ∧ ar s = some (ag qs) ∧ aO (ag qs) k = true ∧ ScI G b qs
theorem gM {s k : ye} (h : s.length ≤ 10000000) (hk : k.length ≤ 2000000) : ce yd 52 [S s,S k] G (tf s k):=by
 cases hs : ar s with
 | none =>
  have hno : bo s k = false:=by unfold bo;rw [hs]
  have cx_rs0 : ∀ G,ce yd 87 [S s] G (fun v _=>∃ p,v = Tu [p,Bo false]):=fun G=>by
   refine (fx (G:=G) h).mono ?_
   rintro v G' L' ⟨h1,h2,⟨_,p,rfl⟩ | ⟨_,_,_,h4,_⟩⟩
   ·exact ⟨h1,h2,p,F⟩
   ·rw [hs] at h4;cases h4
  refine jB [(0,_),(1,_)] Tryz.func52 Tryz.ntmps52 fun B hok hB hW=>?_
  repeat' (first | refine jR ?_ | (refine jo ?_;first | refine jL fun _=>?_ | refine jV (aq F F) ?_ | refine jC F F F ?_ | (refine aJ F F F (cx_rs0 _) F ?_;rintro _ G hle ⟨p,rfl⟩;skip)) | refine ae F F ?_)
  all_goals refine jZ (vs:=[_,_,_]) F ⟨F,aB F F F F,F,trivial⟩ F ⟨hle,F,?_⟩
  all_goals exact .inl ⟨hno,_,[],[],[],F⟩
 | some ts =>
  have cx_rs1 : ∀ G,ce yd 87 [S s] G (fun v G'=>∃ b qs,v = Tu [Pt b 0,Bo true] ∧ ag qs = ts ∧ ScI G' b qs):=fun G=>by
   refine (fx (G:=G) h).mono ?_
   rintro v G' L' ⟨h1,h2,⟨h4,_⟩ | ⟨b,qs,rfl,h4,h5⟩⟩
   ·rw [hs] at h4;cases h4
   ·rw [hs] at h4;simp only [Option.some.injEq] at h4;exact ⟨h1,h2,b,qs,F,h4.symm,h5⟩
  by_cases hko : be k = true
  case neg =>
   have hkc2 : be k = false:=by simpa using hko
   have hno : bo s k = false:=by unfold bo aO;rw [hs];simp [hkc2]
   have cx_kn : ∀ G,aI yd 88 [S k] G (fun v=>∃ x y z,v = Tu [Ag [S x,S y,S z],Bo false]):=fun G=>by
    refine (jh (G:=G) (s:=k) oM).mono ?_
    rintro v G' L' ⟨h1,h2,x,y,z,rfl,_⟩
    exact ⟨h1,h2,x,y,z,by rw [hkc2]⟩
   refine jB [(0,_),(1,_)] Tryz.func52 Tryz.ntmps52 fun B hok hB hW=>?_
   repeat' (first | refine jR ?_ | (refine jo ?_;first | refine jL fun _=>?_ | refine jC F F F ?_ | (refine aJ F F F (cx_rs1 _) F ?_;rintro _ G hle ⟨b,qs,rfl,hqs,hS⟩;skip) | (refine dQ F F F (cx_kn _) F ?_;rintro _ ⟨x,y,z,rfl⟩)) | refine af F F ?_ | (refine al (c7 (id:=5) (tt:=5) F ak ?_);refine jW 8 [0,2,3] (aa 11 13) ?_;(try (refine Nx.re (d:=26) (v':=Bo false) F (congrArg Value.bool F) ?_));refine jW 7 [4] (aa 11 29) ?_;(refine jG (aa 11 31) 1 F (bJ F F F F) ?_);(refine jN (aa 11 63) 5 F ?_);(refine jN (aa 11 127) 6 F ?_);refine jW 3 [8] (aa 11 383) ?_;((refine jG (aa 11 511) 7 F (aP F F ?_) ?_;(focus ((rfl);done))));refine jA 9 F ?_;(refine jC F F F ?_);refine jK (aa 11 1023) ?_;refine jW 0 [10] (aa 11 2047) ?_;refine jQ ?_))
   all_goals refine jZ (vs:=[_,_,_]) F ⟨F,aB F F F F,F,trivial⟩ F ⟨hle,F,?_⟩
   all_goals exact .inl ⟨hno,_,_,_,_,F⟩
  have cx_kq : ∀ G,aI yd 88 [S k] G (· = Tu [Ag [S (sg k),S (bs k),S (nm k)],Bo true]):=fun G=>pY oM hko
  have hkk : eH k = [S (sg k),S (bs k),S (nm k)]:=rfl
  by_cases hH : dv ts k = true
  case pos =>
   have cx_hy : ∀ G b qs,ag qs = ts → ScI G b qs → aI yd 89 [Pt b 0,Ag [S (sg k),S (bs k),S (nm k)]] G (· = Bo true):=by
    intro G b qs hq hS
    refine (qS hS hko).mono ?_
    rintro v G' L' ⟨h1,h2,rfl⟩
    exact ⟨h1,h2,by rw [hq,hH]⟩
   refine jB [(0,_),(1,_)] Tryz.func52 Tryz.ntmps52 fun B hok hB hW=>?_
   repeat' (first | refine jR ?_ | (refine jo ?_;first | refine jL fun _=>?_ | refine jC F F F ?_ | (refine aJ F F F (cx_rs1 _) F ?_;rintro _ G hle ⟨b,qs,rfl,hqs,hS⟩;skip) | refine ad F F F (cx_kq _) F ?_) | refine af F F ?_ | (refine al (c7 (id:=5) (tt:=5) F ak ?_);refine jW 8 [0,2,3] (aa 11 13) ?_;(try (refine Nx.re (d:=26) (v':=Bo true) F (congrArg Value.bool F) ?_));refine jW 7 [4] (aa 11 29) ?_;(refine jG (aa 11 31) 1 F (bJ F F F F) ?_);(refine jG (aa 11 63) 5 F (bJ F F F F) ?_);((refine jA 6 F ?_;((refine ad F F F ((cx_hy _ _ _) (by (repeat (assumption));done) (by (repeat (assumption));done)) rfl ?_));refine jK (aa 11 127) ?_));refine jW 3 [8] (aa 11 383) ?_;((refine jG (aa 11 511) 7 F (bL F F ?_) ?_;(focus ((rfl);done))));refine jA 9 F ?_;(refine jC F F F ?_);refine jK (aa 11 1023) ?_;refine jW 0 [10] (aa 11 2047) ?_;refine jQ ?_))
   all_goals refine jZ (vs:=[_,_,_]) F ⟨F,aB F F F F,F,trivial⟩ F ⟨hle,F,?_⟩
   all_goals exact .inr ⟨b,qs,F,by rw [hs,hqs],by simp [aO,hqs,hko,hH],hS⟩
  case neg =>
   have hH2 : dv ts k = false:=by simpa using hH
   have hno : bo s k = false:=by unfold bo aO;rw [hs];simp [hH2]
   have cx_hn : ∀ G b qs,ag qs = ts → ScI G b qs → aI yd 89 [Pt b 0,Ag [S (sg k),S (bs k),S (nm k)]] G (· = Bo false):=by
    intro G b qs hq hS
    refine (qS hS hko).mono ?_
    rintro v G' L' ⟨h1,h2,rfl⟩
    exact ⟨h1,h2,by rw [hq,hH2]⟩
   refine jB [(0,_),(1,_)] Tryz.func52 Tryz.ntmps52 fun B hok hB hW=>?_
   repeat' (first | refine jR ?_ | (refine jo ?_;first | refine jL fun _=>?_ | refine jC F F F ?_ | (refine aJ F F F (cx_rs1 _) F ?_;rintro _ G hle ⟨b,qs,rfl,hqs,hS⟩;skip) | refine ad F F F (cx_kq _) F ?_) | refine af F F ?_ | (refine al (c7 (id:=5) (tt:=5) F ak ?_);refine jW 8 [0,2,3] (aa 11 13) ?_;(try (refine Nx.re (d:=26) (v':=Bo true) F (congrArg Value.bool F) ?_));refine jW 7 [4] (aa 11 29) ?_;(refine jG (aa 11 31) 1 F (bJ F F F F) ?_);(refine jG (aa 11 63) 5 F (bJ F F F F) ?_);((refine jA 6 F ?_;((refine ad F F F ((cx_hn _ _ _) (by (repeat (assumption));done) (by (repeat (assumption));done)) rfl ?_));refine jK (aa 11 127) ?_));refine jW 3 [8] (aa 11 383) ?_;((refine jG (aa 11 511) 7 F (bL F F ?_) ?_;(focus ((rfl);done))));refine jA 9 F ?_;(refine jC F F F ?_);refine jK (aa 11 1023) ?_;refine jW 0 [10] (aa 11 2047) ?_;refine jQ ?_))
   all_goals refine jZ (vs:=[_,_,_]) F ⟨F,aB F F F F,F,trivial⟩ F ⟨hle,F,?_⟩
   all_goals exact .inl ⟨hno,_,_,_,_,F⟩
theorem gV {t : Ty} : d5 t = (ac t.fields 0).kind:=by
 unfold d5 ac
 cases t.fields with
 | nil=>rfl
 | cons f r=>rfl
theorem gy {t : Ty} : tag0 t = (ac t.fields 0).tag:=by
 unfold tag0 ac
 cases t.fields with
 | nil=>rfl
 | cons f r=>rfl
theorem kw {n : Int} (h : 0 ≤ n ∧ n ≤ 9223372036854775807) : (a7 n).length ≤ 19:=fO h.2
theorem pk (k : ye) : (eB k).length ≤ 2:=by
 unfold eB
 split
 ·simp
 ·split
  ·simp
  ·split <;> simp
theorem SchW.tag0 {ts : List Ty} (h : SchW ts) {t : Ty} (ht : t ∈ ts) : 0 ≤ Go.E.tag0 t ∧ Go.E.tag0 t ≤ 200:=by
 rw [gy]
 by_cases h0 : 0 < t.fields.length
 ·have:=((h.ty t ht).fld _ (a6 h0)).tag;omega
 ·have : t.fields = []:=List.eq_nil_of_length_eq_zero oM
  rw [this];exact ⟨Int.le_refl _,by decide⟩
theorem iJ {ts : List Ty} (h : SchW ts) : ∀ (n : Nat) (k : ye),(bN ts n k).length ≤ 30 * n
 | 0,k=>by simp [bN]
 | n + 1,[]=>by simp [bN]
 | n + 1,c :: r=>by
  unfold bN
  split
  ·simp;omega
  ·split
   ·simp;omega
   ·split
    ·have:=pk (c :: r);omega
    ·rename_i t ht
     have h1:=h.tag0 (bM ht)
     have h2:=kw (n:=tag0 t) oM
     have h3:=iJ h n (d5 t)
     split
     ·simp;omega
     ·split
      ·simp;omega
      ·simp;omega
theorem dk {ts : List Ty} (h : SchW ts) {t : Ty} (ht : t ∈ ts) (hs : t.sort ≠ 69) {f : Fld} (hf : f ∈ t.fields) : aO ts f.kind = true:=by
 unfold aO
 rw [((h.ty t ht).fld f hf).kind hs,Bool.true_and]
 obtain ⟨i,hi,rfl⟩:=List.mem_iff_getElem.1 ht
 obtain ⟨j,hj,rfl⟩:=List.mem_iff_getElem.1 hf
 have h1:=(h.valid.1 i hi).2
 rw [bW hi] at h1
 rcases h1 with h1 | h1
 ·exact absurd h1 hs
 ·have:=h1 j hj
  rwa [bW hj] at this
theorem cG {ts : List Ty} {k : ye} (h : aO ts k = true) : be k = true:=by
 unfold aO at h;simp only [Bool.and_eq_true] at h;exact h.1
theorem df {c : UInt8} {r : ye} (h : ¬ (c.toNat = 91 ∨ c.toNat = 63)) : ay (c :: r) = c :: r:=by rw [ay,if_neg h]
theorem pP {ts : List Ty} (h : SchW ts) {k : ye} (t : Ty) (ht : aK ts k = some t) : bA ts (ts.length + 1) t = true:=by
 obtain ⟨i,hi,rfl⟩:=List.mem_iff_getElem.1 (bM ht)
 have:=h.valid.2 i hi
 rwa [bW hi] at this
theorem rI {u : Value} {vs : List cx} (h : SchR G u vs) (hw : SchW (aL vs)) : ∀ (n : Nat) {k : ye},n ≤ 1000 → aO (aL vs) k = true → (∀ t,aK (aL vs) k = some t → bA (aL vs) n t = true) →
  aI yd 174 [u,S k] G (· = S (bN (aL vs) (n + 1) k)):=by
 have hvl : vs.length ≤ 1000000:=by have:=hw.len;rw [ij] at this;omega
 intro n
 induction n with
 | zero =>
  intro k hn hk he
  have hko:=cG hk
  have hkk:=cT hko
  match k,hkk with
  | c :: r,hkk =>
   have e0:=jn c r
   by_cases h1 : c.toNat = 91
   ·refine jE [(0,_),(1,_)] Tryz.func174 Tryz.ntmps174 fun B hB=>?_
    repeat' (first | refine jX ?_ | (refine ae F ?_ ?_;(focus ((simp [*];done);done))))
    all_goals refine jY (vs:=[_]) ?_
    all_goals (rw [aH];unfold bN;rw [if_pos h1])
   by_cases h2 : c.toNat = 63
   ·refine jE [(0,_),(1,_)] Tryz.func174 Tryz.ntmps174 fun B hB=>?_
    repeat' (first | refine jX ?_ | (refine ae F ?_ ?_;(focus ((simp [*];done);done))) | (refine af F ?_ ?_;(focus ((simp [*];done);done))))
    all_goals refine jY (vs:=[_]) ?_
    all_goals (rw [aH];unfold bN;rw [if_neg h1,if_pos h2])
   have href:=io vs (c :: r)
   have cx_rf:=mB (k:=c :: r) h hvl hkk.1 oM
   cases hr : eh vs (c :: r) with
   | some x=>rw [hr] at href;have:=he _ href.symm;cases this
   | none =>
    rw [hr] at href cx_rf
    refine jE [(0,_),(1,_)] Tryz.func174 Tryz.ntmps174 fun B hB=>?_
    repeat' (first | refine jX ?_ | (refine jo ?_;first | refine jL fun _=>?_ | refine jC F F F ?_ | refine ad F F F cx_rf F ?_ | refine ad F F F nJ F ?_) | refine ae F F ?_ | (refine af F ?_ ?_;(focus ((simp;omega);done))))
    all_goals refine jY (vs:=[_]) ?_
    all_goals (rw [aH];unfold bN;rw [if_neg h1,if_neg h2,← href];rfl)
 | succ n ih =>
  intro k hn hk he
  have hko:=cG hk
  have hkk:=cT hko
  match k,hkk with
  | c :: r,hkk =>
   have e0:=jn c r
   by_cases h1 : c.toNat = 91
   ·refine jE [(0,_),(1,_)] Tryz.func174 Tryz.ntmps174 fun B hB=>?_
    repeat' (first | refine jX ?_ | (refine ae F ?_ ?_;(focus ((simp [*];done);done))))
    all_goals refine jY (vs:=[_]) ?_
    all_goals (rw [aH];unfold bN;rw [if_pos h1])
   by_cases h2 : c.toNat = 63
   ·refine jE [(0,_),(1,_)] Tryz.func174 Tryz.ntmps174 fun B hB=>?_
    repeat' (first | refine jX ?_ | (refine ae F ?_ ?_;(focus ((simp [*];done);done))) | (refine af F ?_ ?_;(focus ((simp [*];done);done))))
    all_goals refine jY (vs:=[_]) ?_
    all_goals (rw [aH];unfold bN;rw [if_neg h1,if_pos h2])
   have href:=io vs (c :: r)
   have cx_rf:=mB (k:=c :: r) h hvl hkk.1 oM
   rcases hr : eh vs (c :: r) with _ | ⟨⟨a,ca⟩,t⟩
   ·rw [hr] at href cx_rf
    refine jE [(0,_),(1,_)] Tryz.func174 Tryz.ntmps174 fun B hB=>?_
    repeat' (first | refine jX ?_ | (refine jo ?_;first | refine jL fun _=>?_ | refine jC F F F ?_ | refine ad F F F cx_rf F ?_ | refine ad F F F nJ F ?_) | refine ae F F ?_ | (refine af F ?_ ?_;(focus ((simp;omega);done))))
    all_goals refine jY (vs:=[_]) ?_
    all_goals (rw [aH];unfold bN;rw [if_neg h1,if_neg h2,← href];rfl)
   rw [hr] at href cx_rf
   have hrf : aK (aL vs) (c :: r) = some t:=href.symm
   have htm:=bM hrf
   have hW:=hw.ty t htm
   have htg:=hw.tag0 htm
   rw [gy] at htg
   have e3 : bN (aL vs) (n + 1 + 1) (c :: r) = if t.sort = 82 then [123,125] else if t.sort = 69 then 35 :: a7 (tag0 t) else 60 :: (a7 (tag0 t) ++ 61 :: (bN (aL vs) (n + 1) (d5 t) ++ [62])):=by
    rw [bN,if_neg h1,if_neg h2,hrf]
   rw [e3,gy,gV]
   clear e3
   by_cases s1 : t.sort = 82
   ·rw [if_pos s1]
    refine jE [(0,_),(1,_)] Tryz.func174 Tryz.ntmps174 fun B hB=>?_
    repeat' (first | refine jX ?_ | (refine jo ?_;first | refine jL fun _=>?_ | refine jC F F F ?_ | refine am F ?_ | refine ad F F F cx_rf F ?_) | (refine ae F ?_ ?_;(focus ((simp [*];done);done))) | (refine af F ?_ ?_;(focus ((first | rfl | (simp;omega));done))))
    all_goals refine jY (vs:=[_]) ?_
    all_goals rfl
   have h0 : 0 < t.fields.length:=List.length_pos_iff.2 (hW.ne s1)
   obtain ⟨bf,of,cf,ef,hsf⟩:=(h.fl _ (iM hr)).expl h0
   simp only [gz,Value.slice.injEq] at ef
   obtain ⟨rfl,-,rfl⟩:=ef
   dsimp only at hsf
   have cx_rf : aI yd 141 [u,S (c :: r)] G (· = Tu [Ag [U8 t.sort,S t.name,.slice (some ⟨bf,of,none⟩) t.fields.length ca],Bo true]):=cx_rf
   have hdl:=kw (n:=(ac t.fields 0).tag) oM
   rw [if_neg s1]
   by_cases s2 : t.sort = 69
   ·rw [if_pos s2]
    refine jE [(0,_),(1,_)] Tryz.func174 Tryz.ntmps174 fun B hB=>?_
    repeat' (first | refine jX ?_ | (refine jo ?_;first | refine jL fun _=>?_ | refine jC F F F ?_ | refine am F ?_ | (refine jV (bi F F aS ?_ F F) ?_;focus omega) | refine jV (ah F F oM) ?_ | refine ad F F F cx_rf F ?_ | (refine ad F F F (fh ?_) F ?_;(focus ((simp;omega);done)))) | refine ae F (aC oM) ?_ | (refine af F ?_ ?_;(focus ((first | rfl | (refine decide_eq_false ?_;(omega)) | (simp;omega));done))))
    all_goals refine jY (vs:=[_]) ?_
    all_goals rfl
   have hin:=dk hw htm s2 (a6 h0)
   have hen : ∀ t',aK (aL vs) (ac t.fields 0).kind = some t' → bA (aL vs) n t' = true:=by
    intro t' ht'
    have:=he t hrf
    have s3 : t.sort = 85:=by rcases hW.sort with h | h | h <;> omega
    rw [bA,if_neg (by simp [s3]),gV,ht'] at this
    exact this
   have cx_std:=ih (k:=(ac t.fields 0).kind) oM hin hen
   have hsl:=iJ hw (n + 1) (ac t.fields 0).kind
   rw [if_neg s2]
   refine jE [(0,_),(1,_)] Tryz.func174 Tryz.ntmps174 fun B hB=>?_
   repeat' (first | refine jX ?_ | (refine jo ?_;first | refine jL fun _=>?_ | refine jC F F F ?_ | refine am F ?_ | refine ad F F F cx_rf F ?_) | (refine af F ?_ ?_;(focus ((first | rfl | (refine decide_eq_false ?_;(omega)) | (simp;omega));done))) | (refine al (aw (id:=13) _ (fun _ h=>h) ak ?_);refine jT 15 [0,8,9] (aa 18 769) ?_;(refine jG (aa 18 771) 1 F (aD F F F) ?_);(refine jG (aa 18 775) 2 F (ah F F oM) ?_);refine jT 12 [3] (aa 18 783) ?_;((refine jG (aa 18 799) 4 F (bi F F aS ?_ F F) ?_;focus omega));(refine jG (aa 18 1823) 10 F (aD F F F) ?_);(refine jG (aa 18 3871) 11 F (ah F F oM) ?_);refine jT 8 [12] (aa 18 7967) ?_;((refine jG (aa 18 16159) 13 F (bi F F aS ?_ F F) ?_;focus omega));refine jA 5 F ?_;((refine ad F F F (fh ?_) F ?_;(focus ((simp;omega);done))));refine jS (aa 18 16191) ?_;refine jW 4 [6,7] (aa 18 16383) ?_;refine jA 14 F ?_;(refine ad F F F cx_std F ?_);refine jS (aa 18 32767) ?_;refine jW 0 [15,16,17] (aa 18 262143) ?_;refine jQ ?_))
   all_goals refine jY (vs:=[_]) ?_
   all_goals (rw [aH];simp)
theorem rK {u : Value} {vs : List cx} (h : SchR G u vs) (hw : SchW (aL vs)) {k : ye} (hk : aO (aL vs) k = true) : aI yd 174 [u,S k] G (· = S (jP (aL vs) k)) :=
 rI h hw ((aL vs).length + 1) (by have:=hw.len;omega) hk (fun t ht=>pP hw t ht)
theorem gn {c : UInt8} {r : ye} (h : c.toNat = 91 ∨ c.toNat = 63) : sg (c :: r) = c :: sg r:=by
 unfold sg
 rw [ay,if_pos h]
 have:=fb r
 rw [List.length_cons,show r.length + 1 - (ay r).length = (r.length - (ay r).length) + 1 by omega]
 rfl
theorem fI {c : UInt8} {r : ye} (h : ¬ (c.toNat = 91 ∨ c.toNat = 63)) : sg (c :: r) = []:=by
 unfold sg;rw [df h];simp
theorem eG {b c : ye} : aI yd 90 [Ag [S [],S b,S c]] G (· = U8 (0 : Nat)):=by
 refine jE [(0,_)] Tryz.func90 Tryz.ntmps90 fun B hB=>?_
 repeat' (first | refine jR ?_ | (refine jo ?_;first | refine jO fun _=>?_ | refine am F ?_) | refine ae F F ?_)
 all_goals refine jY (vs:=[_]) ?_
 all_goals rfl
theorem kO {x : UInt8} {a b c : ye} : aI yd 90 [Ag [S (x :: a),S b,S c]] G (· = U8 (x.toNat : Nat)):=by
 have e0:=jn x a
 refine jE [(0,_)] Tryz.func90 Tryz.ntmps90 fun B hB=>?_
 repeat' (first | refine jX ?_ | (refine jo ?_;first | refine jO fun _=>?_ | refine am F ?_) | refine af F F ?_)
 all_goals refine jY (vs:=[_]) ?_
 all_goals (rw [aH];(rfl))
theorem lP {k : ye} (hk : be k = true) (hr : a9 (ay k) = none) : bs k = [110] ∨ bs k = [116] ∨ bs k = [102]:=by
 have h:=fP (cT hk).1
 unfold bs
 cases hc : ay k with
 | nil=>rw [hc] at h;cases h
 | cons c r =>
  rw [hc] at h hr
  have h64 : ¬ c.toNat = 64:=by
   intro h64
   simp [a9,h64] at hr
  have h91 : ¬ (c.toNat = 91 ∨ c.toNat = 63):=ky hc
  have e : lf (c :: r) = c :: r:=by simp [lf,h64]
  rw [e]
  rw [dV,if_neg h91,if_neg h64] at h
  simp only [Bool.and_eq_true,Bool.or_eq_true,decide_eq_true_eq] at h
  obtain ⟨rfl,h⟩:=h
  have hu : ∀ n : Nat,c.toNat = n → n < 256 → c = UInt8.ofNat n:=fun n h1 h2=>by
   apply UInt8.toNat_inj.1;rw [h1,UInt8.toNat_ofNat'];omega
  rcases h with (h | h) | h
  ·exact .inl (by rw [hu _ h dC];rfl)
  ·exact .inr (.inl (by rw [hu _ h dC];rfl))
  ·exact .inr (.inr (by rw [hu _ h dC];rfl))
theorem ScI.W {b : Nat} {qs : List cn} (_ : ScI G b qs) (hw : SchW (ag qs)) {q : cn} (hq : q ∈ qs) : q.2 ∈ ag qs ∧ TyW q.2:=by
 have h1 : q.2 ∈ ag qs:=List.mem_map_of_mem hq
 exact ⟨h1,hw.ty _ h1⟩
theorem n5 {k : ye} (hs : sg k = []) (hk : be k = true) (hr : a9 (ay k) = none) : eB k = eB (bs k):=by
 match k,hk with
 | c :: r,hk =>
  have h91 : ¬ (c.toNat = 91 ∨ c.toNat = 63):=fun h=>by rw [gn h] at hs;cases hs
  have hc:=df (r:=r) h91
  have h64 : ¬ c.toNat = 64:=fun h64=>by rw [hc] at hr;simp [a9,h64] at hr
  unfold bs;rw [hc];simp [lf,h64]
theorem rJ {b : Nat} {qs : List cn} (h : ScI G b qs) (hw : SchW (ag qs)) : ∀ (n : Nat) {k : ye},n ≤ 1000 → aO (ag qs) k = true → (∀ t,aK (ag qs) k = some t → bA (ag qs) n t = true) →
  aI yd 53 [Pt b 0,Ag [S (sg k),S (bs k),S (nm k)]] G (· = S (bN (ag qs) (n + 1) k)):=by
 obtain ⟨u,m,g1,g2,g3⟩:=h.at'
 intro n
 induction n with
 | zero =>
  intro k hn hk he
  have hko:=cG hk
  match k,hko with
  | c :: r,hko =>
   by_cases h91 : c.toNat = 91 ∨ c.toNat = 63
   ·have cx_sign:=@kO G c (sg r) (bs (c :: r)) (nm (c :: r))
    rw [gn h91]
    by_cases h1 : c.toNat = 91
    ·refine jE [(0,_),(1,_)] Tryz.func53 Tryz.ntmps53 fun B hB=>?_
     repeat' (first | refine jR ?_ | (refine jo ?_;first | refine jO fun _=>?_ | refine aZ F ?_ | refine ad F F F cx_sign F ?_) | refine ae F (aC oM) ?_)
     all_goals refine jY (vs:=[_]) ?_
     all_goals (rw [aH];unfold bN;rw [if_pos h1])
    have h2 : c.toNat = 63:=oM
    refine jE [(0,_),(1,_)] Tryz.func53 Tryz.ntmps53 fun B hB=>?_
    repeat' (first | refine jR ?_ | (refine jo ?_;first | refine jO fun _=>?_ | refine aZ F ?_ | refine ad F F F cx_sign F ?_) | refine ae F (aC oM) ?_ | refine af F (aF oM) ?_)
    all_goals refine jY (vs:=[_]) ?_
    all_goals (rw [aH];unfold bN;rw [if_neg h1,if_pos h2])
   have hsg:=fI (r:=r) h91
   have hcs:=df (r:=r) h91
   rw [hsg]
   cases hrf : aK (ag qs) (c :: r) with
   | some t=>have:=he t hrf;cases this
   | none =>
    have hrn : a9 (ay (c :: r)) = none:=by
     cases hx : a9 (ay (c :: r)) with
     | none=>rfl
     | some x =>
      obtain ⟨t,ht⟩:=eZ hk (by rw [hx];rfl)
      rw [hcs,hrf] at ht;cases ht
    have hpl:=n5 hsg hko hrn
    have e3 : bN (ag qs) (0 + 1) (c :: r) = eB (bs (c :: r)):=by
     rw [bN,if_neg oM,if_neg oM,hrf];exact hpl
    rw [e3]
    rcases lP hko hrn with e | e | e
    all_goals
     rw [e]
     refine jE [(0,_),(1,_)] Tryz.func53 Tryz.ntmps53 fun B hB=>?_
     repeat' (first | refine jR ?_ | (refine jo ?_;first | refine jO fun _=>?_ | refine am F ?_ | refine aZ F ?_ | refine ad F F F eG F ?_) | refine ae F F ?_ | refine af F F ?_)
     all_goals refine jY (vs:=[_]) ?_
     all_goals rfl
 | succ n ih =>
  intro k hn hk he
  have hko:=cG hk
  match k,hko with
  | c :: r,hko =>
   by_cases h91 : c.toNat = 91 ∨ c.toNat = 63
   ·have cx_sign:=@kO G c (sg r) (bs (c :: r)) (nm (c :: r))
    rw [gn h91]
    by_cases h1 : c.toNat = 91
    ·refine jE [(0,_),(1,_)] Tryz.func53 Tryz.ntmps53 fun B hB=>?_
     repeat' (first | refine jR ?_ | (refine jo ?_;first | refine jO fun _=>?_ | refine aZ F ?_ | refine ad F F F cx_sign F ?_) | refine ae F (aC oM) ?_)
     all_goals refine jY (vs:=[_]) ?_
     all_goals (rw [aH];unfold bN;rw [if_pos h1])
    have h2 : c.toNat = 63:=oM
    refine jE [(0,_),(1,_)] Tryz.func53 Tryz.ntmps53 fun B hB=>?_
    repeat' (first | refine jR ?_ | (refine jo ?_;first | refine jO fun _=>?_ | refine aZ F ?_ | refine ad F F F cx_sign F ?_) | refine ae F (aC oM) ?_ | refine af F (aF oM) ?_)
    all_goals refine jY (vs:=[_]) ?_
    all_goals (rw [aH];unfold bN;rw [if_neg h1,if_pos h2])
   have hsg:=fI (r:=r) h91
   have hcs:=df (r:=r) h91
   rw [hsg]
   cases hrf : aK (ag qs) (c :: r) with
   | none =>
    have hrn : a9 (ay (c :: r)) = none:=by
     cases hx : a9 (ay (c :: r)) with
     | none=>rfl
     | some x =>
      obtain ⟨t,ht⟩:=eZ hk (by rw [hx];rfl)
      rw [hcs,hrf] at ht;cases ht
    have hpl:=n5 hsg hko hrn
    have e3 : bN (ag qs) (n + 1 + 1) (c :: r) = eB (bs (c :: r)):=by
     rw [bN,if_neg oM,if_neg oM,hrf];exact hpl
    rw [e3]
    rcases lP hko hrn with e | e | e
    all_goals
     rw [e]
     refine jE [(0,_),(1,_)] Tryz.func53 Tryz.ntmps53 fun B hB=>?_
     repeat' (first | refine jR ?_ | (refine jo ?_;first | refine jO fun _=>?_ | refine am F ?_ | refine aZ F ?_ | refine ad F F F eG F ?_) | refine ae F F ?_ | refine af F F ?_)
     all_goals refine jY (vs:=[_]) ?_
     all_goals rfl
   | some t =>
    have hrn : (a9 (ay (c :: r))).isSome = true:=by
     rw [hcs];unfold aK at hrf
     cases hx : a9 (c :: r) with
     | none=>rw [hx] at hrf;cases hrf
     | some x=>rfl
    have hbs : bs (c :: r) = [64]:=(fX hko).2 hrn
    have hnm : a9 (c :: r) = some (nm (c :: r)):=by
     unfold nm;rw [hcs] at hrn ⊢
     cases hx : a9 (c :: r) with
     | none=>rw [hx] at hrn;cases hrn
     | some x=>rfl
    have hft : dc (ag qs) (nm (c :: r)) = some t:=by unfold aK at hrf;rw [hnm] at hrf;exact hrf
    have hkv:=dA qs (nm (c :: r))
    rw [← eV] at hft
    rcases hfq : dq qs (nm (c :: r)) with _ | ⟨p,t'⟩
    ·rw [hfq] at hft;cases hft
    rw [hfq] at hft hkv
    dsimp only [Option.map_some] at hft hkv
    have htt : t' = t:=Option.some.inj hft
    subst htt
    have hqm:=e8 hfq
    have htm:=bM hrf
    have hW:=hw.ty t' htm
    have htg:=hw.tag0 htm
    rw [gy] at htg
    obtain ⟨fv,ln,hsg2,hfv⟩:=h.ty _ hqm
    dsimp only at hsg2 hfv
    have e3 : bN (ag qs) (n + 1 + 1) (c :: r) = if t'.sort = 82 then [123,125] else if t'.sort = 69 then 35 :: a7 (tag0 t') else 60 :: (a7 (tag0 t') ++ 61 :: (bN (ag qs) (n + 1) (d5 t') ++ [62])):=by
     rw [bN,if_neg oM,if_neg oM,hrf]
    rw [e3,gy,gV,hbs]
    clear e3 hcs hsg hrn hnm hbs
    by_cases s1 : t'.sort = 82
    ·rw [if_pos s1]
     refine jE [(0,_),(1,_)] Tryz.func53 Tryz.ntmps53 fun B hB=>?_
     repeat' (first | refine jR ?_ | (refine jo ?_;first | refine jO fun _=>?_ | refine am F ?_ | refine aZ F ?_ | refine jV (aA F F aS F F) ?_ | refine ad F F F eG F ?_) | refine ae F (aC oM) ?_ | refine af F F ?_ | (refine al (aw (id:=13) _ (fun _ h=>h) ak ?_);refine jT 4 [0,1,2,4] (aa 8 23) ?_;(refine jG (aa 8 31) 3 F (aA F F aS F F) ?_);(refine jG (aa 8 63) 5 F (aD F F F) ?_);((refine jG (aa 8 127) 6 F (bX F F (dP aS) aS F) ?_));refine jT 0 [7] (aa 8 255) ?_;refine jQ ?_))
     all_goals refine jY (vs:=[_]) ?_
     all_goals rfl
    have h0 : 0 < t'.fields.length:=List.length_pos_iff.2 (hW.ne s1)
    obtain ⟨bf,of,cf,rfl,hsf⟩:=hfv.expl h0
    have hdl:=kw (n:=(ac t'.fields 0).tag) oM
    rw [if_neg s1]
    by_cases s2 : t'.sort = 69
    ·rw [if_pos s2]
     refine jE [(0,_),(1,_)] Tryz.func53 Tryz.ntmps53 fun B hB=>?_
     repeat' (first | refine jX ?_ | (refine jo ?_;first | refine jO fun _=>?_ | refine am F ?_ | (refine jV (bi F F aS ?_ F F) ?_;focus omega) | refine aZ F ?_ | refine jV (aA F F aS F F) ?_ | refine jV (ah F F oM) ?_ | refine ad F F F eG F ?_ | (refine ad F F F (gl ?_) F ?_;(focus ((simp;omega);done)))) | refine ae F (aC oM) ?_ | (refine af F (by first | rfl | (refine decide_eq_false ?_;(omega))) ?_) | (refine al (aw (id:=13) _ (fun _ h=>h) ak ?_);refine jT 4 [0,1,2,4] (aa 8 23) ?_;(refine jG (aa 8 31) 3 F (aA F F aS F F) ?_);(refine jG (aa 8 63) 5 F (aD F F F) ?_);((refine jG (aa 8 127) 6 F (bX F F (dP aS) aS F) ?_));refine jT 0 [7] (aa 8 255) ?_;refine jQ ?_))
     all_goals refine jY (vs:=[_]) ?_
     all_goals rfl
    have hin:=dk hw htm s2 (a6 h0)
    have hen : ∀ t2,aK (ag qs) (ac t'.fields 0).kind = some t2 → bA (ag qs) n t2 = true:=by
     intro t2 ht2
     have:=he t' hrf
     have s3 : t'.sort = 85:=by rcases hW.sort with h | h | h <;> omega
     rw [bA,if_neg (by simp [s3]),gV,ht2] at this
     exact this
    have cx_std:=ih (k:=(ac t'.fields 0).kind) oM hin hen
    have hsl:=iJ hw (n + 1) (ac t'.fields 0).kind
    rw [if_neg s2]
    refine jE [(0,_),(1,_)] Tryz.func53 Tryz.ntmps53 fun B hB=>?_
    repeat' (first | refine jR ?_ | (refine jo ?_;first | refine jO fun _=>?_ | refine am F ?_ | refine aZ F ?_ | refine jV (aA F F aS F F) ?_ | refine ad F F F eG F ?_) | (refine af F (by first | rfl | (refine decide_eq_false ?_;(omega))) ?_) | (refine al (aw (id:=13) _ (fun _ h=>h) ak ?_);refine jT 4 [0,1,2,4] (aa 8 23) ?_;(refine jG (aa 8 31) 3 F (aA F F aS F F) ?_);(refine jG (aa 8 63) 5 F (aD F F F) ?_);((refine jG (aa 8 127) 6 F (bX F F (dP aS) aS F) ?_));refine jT 0 [7] (aa 8 255) ?_;refine jQ ?_) | (refine al (aw (id:=19) _ (fun _ h=>h) ak ?_);refine jT 15 [0,1,2,10,11,12,13] (aa 22 15367) ?_;(refine jG (aa 22 15375) 3 F (aA F F aS F F) ?_);(refine jG (aa 22 15391) 4 F (ah F F oM) ?_);refine jT 12 [5] (aa 22 15423) ?_;((refine jG (aa 22 15487) 6 F (bi F F aS ?_ F F) ?_;focus omega));(refine jG (aa 22 31871) 14 F (aA F F aS F F) ?_);(refine jG (aa 22 64639) 15 F (ah F F oM) ?_);refine jT 8 [16] (aa 22 130175) ?_;((refine jG (aa 22 261247) 17 F (c8 F F aS ?_ F F) ?_;focus omega));refine jA 7 F ?_;((refine ad F F F (gl ?_) F ?_;(focus ((simp;omega);done))));refine jS (aa 22 261375) ?_;refine jW 4 [8,9] (aa 22 262143) ?_;refine jA 18 F ?_;(refine ad F F F cx_std F ?_);refine jS (aa 22 524287) ?_;refine jW 0 [19,20,21] (aa 22 4194303) ?_;refine jQ ?_))
    all_goals refine jY (vs:=[_]) ?_
    all_goals (rw [aH];simp)
theorem nH {b : Nat} {qs : List cn} (h : ScI G b qs) (hw : SchW (ag qs)) {k : ye} (hk : aO (ag qs) k = true) : aI yd 53 [Pt b 0,Ag [S (sg k),S (bs k),S (nm k)]] G (· = S (jP (ag qs) k)) :=
 rJ h hw ((ag qs).length + 1) (by have:=hw.len;omega) hk (fun t ht=>pP hw t ht)
end Go.E
