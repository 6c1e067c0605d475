/- Contracts and plain laws that the statement rests on, part 3. Conditions: as each says. -/
import Derived.Test.YthcpkoephapecaaGreatDoorU2
set_option linter.unusedVariables false
set_option linter.unusedSimpArgs false
namespace Go.E
set_option maxRecDepth 20000
set_option maxHeartbeats 2000000
open Go.Proofs
variable {G : Gh}
def fQ (cs : adA) (c : Nat) : Bool:=cs.any fun d=>d.toNat == c
def dL (p : Nat → Bool) : adA → adA
 | []=>[]
 | c :: r=>if p c.toNat = true then dL p r else c :: r
def fU (p : Nat → Bool) (s : adA) : adA:=(dL p s.reverse).reverse
abbrev pr : TypeId:=205
theorem iC {b : Nat} {p : Nat → Bool} {c : Nat} (h : c < 256) : dF adz 171 [Pt b 0,U8 c] G [.blk b (.cells (cT p).toArray pr (0,0))] (fun v L'=>v = Bo (p c) ∧ L' = [.blk b (.cells (cT p).toArray pr (0,0))]):=by
 refine jH [(0,_),(1,_)] Tryz.func171 Tryz.ntmps171 fun B hB hW=>?_
 repeat' (first | refine jR ?_ | (refine jo ?_;first | refine jV (s8 rfl rfl oM) ?_ | refine jV (abk rfl rfl rfl aS) ?_))
 refine aW (vs:=[_]) rfl ⟨rfl,trivial⟩ rfl (List.Sublist.refl _) ⟨rfl,rfl,rfl⟩
theorem kZ {b : Nat} {p : Nat → Bool} {s : adA} : dF adz 158 [S s,Pt b 0] G [.blk b (.cells (cT p).toArray pr (0,0))] (fun v L'=>v = S (dL p s) ∧ L' = [.blk b (.cells (cT p).toArray pr (0,0))]):=by
 refine jH [(0,_),(1,_)] Tryz.func158 Tryz.ntmps158 fun B hB hW=>?_
 repeat' (refine jR ?_)
 refine aT (ι:=adA) (fun t=>dL p t = dL p s) (fun t=>[(0,S t),(1,Pt b 0)]) (fun _=>G) (fun t=>[.blk b (.cells (cT p).toArray pr (0,0))]) (fun t=>t.length) s ?_ tU rfl a7 (fun t Ht=>?_)
 ·rfl
 match t,Ht with
 | [],Ht =>
  repeat' (first | refine jR ?_ | refine ad rfl rfl ?_)
  refine aW (vs:=[_]) rfl ⟨rfl,trivial⟩ rfl (List.Sublist.refl _) ⟨rfl,by rw [← Ht];rfl,rfl⟩
 | c :: r,Ht =>
  have hlt : bt (c :: r) (Int.toNat 0) < 256:=mG _ _
  have e0 : bt (c :: r) (Int.toNat 0) = c.toNat:=bj c r
  have hcons : (c :: r).length = r.length + 1:=rfl
  rw [dL] at Ht
  by_cases hp : p (bt (c :: r) (Int.toNat 0)) = true
  ·have hp2 : (!p (bt (c :: r) (Int.toNat 0))) = false:=by rw [hp];rfl
   repeat' (first | refine jM ?_ | (refine jo ?_;(refine aI rfl rfl rfl (iC (by (repeat (assumption));done)) rfl ?_;rintro _ _ ⟨rfl,rfl⟩;dsimp only [zA,fA])) | refine ac rfl (ay oM) ?_ | refine ad rfl ‹_› ?_)
   refine bh r (by rw [← Ht,← e0,if_pos hp]) oM tU rfl a7
  ·have hp2 : (!p (bt (c :: r) (Int.toNat 0))) = true:=by simpa using hp
   repeat' (first | refine jM ?_ | (refine jo ?_;(refine aI rfl rfl rfl (iC (by (repeat (assumption));done)) rfl ?_;rintro _ _ ⟨rfl,rfl⟩;dsimp only [zA,fA])) | (refine ac rfl (by first | assumption | (refine decide_eq_true ?_;(omega))) ?_))
   refine aW (vs:=[_]) rfl ⟨rfl,trivial⟩ rfl (List.Sublist.refl _) ⟨rfl,by rw [← Ht,← e0,if_neg hp];rfl,rfl⟩
theorem qX (p : Nat → Bool) : ∀ s : adA,(dL p s).length ≤ s.length
 | []=>Nat.le_refl _
 | c :: r=>by
  unfold dL
  split
  ·have:=qX p r;simp;omega
  ·exact Nat.le_refl _
theorem wj (p : Nat → Bool) (s : adA) : (fU p s).length ≤ s.length:=by have:=qX p s.reverse;simpa [fU] using this
theorem vp (p : Nat → Bool) (s : adA) (c : UInt8) : fU p (s ++ [c]) = if p c.toNat = true then fU p s else s ++ [c]:=by
 unfold fU
 rw [List.reverse_append]
 simp only [List.reverse_cons,List.reverse_nil,List.nil_append,List.singleton_append,dL]
 split <;> simp
theorem o9 {b : Nat} {p : Nat → Bool} {s : adA} (hs : s.length ≤ 1000000000) : dF adz 174 [S s,Pt b 0] G [.blk b (.cells (cT p).toArray pr (0,0))] (fun v L'=>v = S (fU p s) ∧ L' = [.blk b (.cells (cT p).toArray pr (0,0))]):=by
 refine jH [(0,_),(1,_)] Tryz.func174 Tryz.ntmps174 fun B hB hW=>?_
 repeat' (refine jR ?_)
 refine aT (ι:=adA) (fun t=>t.length ≤ 1000000000 ∧ fU p t = fU p s) (fun t=>[(0,S t),(1,Pt b 0)]) (fun _=>G) (fun t=>[.blk b (.cells (cT p).toArray pr (0,0))]) (fun t=>t.length) s ?_ tU rfl a7 (fun t Ht=>?_)
 ·exact ⟨hs,rfl⟩
 have hcase : t = [] ∨ ∃ r c,t = r ++ [c]:=by
  rcases List.eq_nil_or_concat t with h | ⟨r,c,h⟩
  ·exact .inl h
  ·exact .inr ⟨r,c,by rw [h,List.concat_eq_append]⟩
 rcases hcase with rfl | ⟨r,c,rfl⟩
 ·repeat' (first | refine jR ?_ | refine ad rfl rfl ?_)
  refine aW (vs:=[_]) rfl ⟨rfl,trivial⟩ rfl (List.Sublist.refl _) ⟨rfl,by rw [← Ht.2];rfl,rfl⟩
 ·have hcons : (r ++ [c]).length = r.length + 1:=by simp
  have e1 : (((r ++ [c]).length : Nat) : Int) - 1 = (r.length : Nat):=oM
  have e2 : ((((r ++ [c]).length : Nat) : Int) - 1).toNat = r.length:=oM
  have e0 : bt (r ++ [c]) ((((r ++ [c]).length : Nat) : Int) - 1).toNat = c.toNat:=by rw [e2];simp [bt,List.getD]
  have hlt : bt (r ++ [c]) ((((r ++ [c]).length : Nat) : Int) - 1).toNat < 256:=mG _ _
  have e3 : (r ++ [c]).take ((((r ++ [c]).length : Nat) : Int) - 1).toNat = r:=by rw [e2];simp
  have Ht2:=Ht.2
  rw [vp] at Ht2
  have hne : r ++ [c] ≠ []:=by simp
  by_cases hp : p (bt (r ++ [c]) ((((r ++ [c]).length : Nat) : Int) - 1).toNat) = true
  ·have hp2 : (!p (bt (r ++ [c]) ((((r ++ [c]).length : Nat) : Int) - 1).toNat)) = false:=by rw [hp];rfl
   repeat' (first | refine jM ?_ | (refine jo ?_;(refine aI rfl rfl rfl (iC (by (repeat (assumption));done)) rfl ?_;rintro _ _ ⟨rfl,rfl⟩;dsimp only [zA,fA])) | refine ac rfl (ay oM) ?_ | refine ad rfl ‹_› ?_)
   refine bh r ⟨oM,by rw [← Ht2,← e0,if_pos hp]⟩ oM ?_ rfl a7
   rw [e3];repeat (first | exact trivial | refine ⟨rfl,?_⟩)
  ·have hp2 : (!p (bt (r ++ [c]) ((((r ++ [c]).length : Nat) : Int) - 1).toNat)) = true:=by simpa using hp
   repeat' (first | refine jM ?_ | (refine jo ?_;(refine aI rfl rfl rfl (iC (by (repeat (assumption));done)) rfl ?_;rintro _ _ ⟨rfl,rfl⟩;dsimp only [zA,fA])) | (refine ac rfl (by first | assumption | (refine decide_eq_true ?_;(omega))) ?_))
   refine aW (vs:=[_]) rfl ⟨rfl,trivial⟩ rfl (List.Sublist.refl _) ⟨rfl,by rw [← Ht2,← e0,if_neg hp];rfl,rfl⟩
theorem xX (cs : adA) (i : Nat) (h : i < cs.length) : (fun x=>fQ (cs.take i) x || x == bt cs i) = fQ (cs.take (i + 1)):=by
 funext x
 have e : bt cs i = (cs[i]).toNat:=by simp [bt,List.getD,List.getElem?_eq_getElem h]
 have e2 : (x == (cs[i]).toNat) = ((cs[i]).toNat == x):=by rw [Bool.eq_iff_iff,beq_iff_eq,beq_iff_eq];exact eq_comm
 rw [List.take_succ_eq_append_getElem h,e,e2]
 simp only [fQ,List.any_append,List.any_cons,List.any_nil,Bool.or_false]
theorem xq {cs : adA} (h : cs.all (fun c=>decide (c.toNat < 128)) = true) : ∀ i,i < cs.length → bt cs i < 128:=fun i hi=>by
 have e : bt cs i = (cs[i]).toNat:=by simp [bt,List.getD,List.getElem?_eq_getElem hi]
 rw [List.all_eq_true] at h
 rw [e]
 simpa using h cs[i] (List.getElem_mem hi)
theorem lI {cs : adA} (hc : ∀ i,i < cs.length → bt cs i < 128) (hl : cs.length ≤ 1000) : a9 adz 157 [S cs] G (· = Tu [Ag (cT (fQ cs)),Bo true]):=by
 refine jE [(0,_)] Tryz.func157 Tryz.ntmps157 fun B hB=>?_
 repeat' (first | refine jR ?_ | (refine jo ?_;refine tR rfl rfl fun _=>?_))
 rename_i x
 refine aT (ι:=Nat) (fun i=>i ≤ cs.length) (fun i=>[(0,S cs),(2,Pt x 0),(4,I i)]) (fun _=>G) (fun i=>[.blk x (.cells (cT (fQ (cs.take i))).toArray pr (0,0))]) (fun i=>cs.length - i) 0 ?_ tU rfl a7 (fun i Hi=>?_)
 ·exact Nat.zero_le _
 by_cases hi : i < cs.length
 ·have h1 : bt cs ((i : Int).toNat) < 128:=hc i hi
  have h2 : bt cs ((i : Int).toNat) < 256:=oM
  repeat' (first | refine jM ?_ | (refine jo ?_;first | refine abJ rfl rfl rfl rfl aS ?_ | refine jV (s8 rfl rfl oM) ?_) | refine ac rfl (ay oM) ?_ | refine ad rfl (aG oM) ?_)
  refine bh (i + 1) oM oM tU rfl (by rw [← xX cs i hi];repeat (exact List.Sublist.refl _))
 ·have ei : i = cs.length:=oM
  subst ei
  repeat' (first | refine jR ?_ | (refine jo ?_;first | refine jV (abj rfl rfl rfl rfl) ?_ | refine tF rfl rfl rfl rfl ?_) | refine ad rfl (aG oM) ?_)
  refine jZ (vs:=[_,_]) rfl ⟨ace rfl rfl rfl rfl,rfl,trivial⟩ rfl ⟨rfl,rfl,?_⟩
  rw [List.take_length];rfl
theorem xm {s cs : adA} (h2 : Nat.ble 2 cs.length = true) (hc : cs.all (fun c=>decide (c.toNat < 128)) = true) (hl : Nat.ble cs.length 1000 = true) (hs : s.length ≤ 2000000) : a9 adz 161 [S s,S cs] G (· = S (dL (fQ cs) (fU (fQ cs) s))):=by
 have h2:=Nat.le_of_ble_eq_true h2
 have hl:=Nat.le_of_ble_eq_true hl
 have cx_mkas:=lI (G:=G) (xq hc) hl
 by_cases h0 : s = []
 ·subst h0
  refine jE [(0,_),(1,_)] Tryz.func161 Tryz.ntmps161 fun B hB=>?_
  repeat' (first | refine jR ?_ | (refine jo ?_;refine aM rfl ?_) | refine aF rfl rfl rfl ?_ | refine ac rfl rfl ?_)
  all_goals refine jY (vs:=[_]) ?_
  all_goals rfl
 have hn : ¬ cs = []:=by rintro rfl;simp at h2
 have hr:=wj (fQ cs) s
 refine jE [(0,_),(1,_)] Tryz.func161 Tryz.ntmps161 fun B hB=>?_
 repeat' (first | refine jR ?_ | (refine jo ?_;first | refine aC rfl ?_ | refine tR rfl rfl fun _=>?_ | refine tF rfl rfl rfl rfl ?_ | refine ae rfl rfl rfl cx_mkas rfl ?_ | (refine aI rfl rfl rfl (o9 oM) rfl ?_;rintro _ _ ⟨rfl,rfl⟩;dsimp only [zA,fA]) | (refine aI rfl rfl rfl kZ rfl ?_;rintro _ _ ⟨rfl,rfl⟩;dsimp only [zA,fA])) | (refine ar rfl rfl (by refine decide_eq_false ?_;first | assumption | omega) ?_) | refine ac rfl rfl ?_ | (refine ad rfl (by first | rfl | (refine decide_eq_false ?_;(assumption))) ?_))
 all_goals refine jY (vs:=[_]) ?_
 all_goals rfl
theorem mF {s cs : adA} (h2 : Nat.ble 2 cs.length = true) (hc : cs.all (fun c=>decide (c.toNat < 128)) = true) (hl : Nat.ble cs.length 1000 = true) : a9 adz 138 [S s,S cs] G (· = S (dL (fQ cs) s)):=by
 have h2:=Nat.le_of_ble_eq_true h2
 have hl:=Nat.le_of_ble_eq_true hl
 have cx_mkas:=lI (G:=G) (xq hc) hl
 by_cases h0 : s = []
 ·subst h0
  refine jE [(0,_),(1,_)] Tryz.func138 Tryz.ntmps138 fun B hB=>?_
  repeat' (first | refine jR ?_ | (refine jo ?_;refine aM rfl ?_) | refine aF rfl rfl rfl ?_ | refine ac rfl rfl ?_)
  all_goals refine jY (vs:=[_]) ?_
  all_goals rfl
 have hn : ¬ cs = []:=by rintro rfl;simp at h2
 refine jE [(0,_),(1,_)] Tryz.func138 Tryz.ntmps138 fun B hB=>?_
 repeat' (first | refine jR ?_ | (refine jo ?_;first | refine aC rfl ?_ | refine tR rfl rfl fun _=>?_ | refine tF rfl rfl rfl rfl ?_ | refine ae rfl rfl rfl cx_mkas rfl ?_ | (refine aI rfl rfl rfl kZ rfl ?_;rintro _ _ ⟨rfl,rfl⟩;dsimp only [zA,fA])) | (refine ar rfl rfl (by refine decide_eq_false ?_;first | assumption | omega) ?_) | refine ac rfl rfl ?_ | (refine ad rfl (by first | rfl | (refine decide_eq_false ?_;(assumption))) ?_))
 all_goals refine jY (vs:=[_]) ?_
 all_goals rfl
theorem qW {p : Nat → Bool} : ∀ {s : adA},dL p s = [] ↔ ∀ c ∈ s,p c.toNat = true
 | []=>by simp [dL]
 | c :: r=>by
  unfold dL
  by_cases h : p c.toNat = true
  ·rw [if_pos h,qW];simp [h]
  ·rw [if_neg h];simp [h]
theorem wi {p : Nat → Bool} {s : adA} : (∀ c ∈ fU p s,p c.toNat = true) ↔ ∀ c ∈ s,p c.toNat = true:=by
 have key : ∀ l : adA,(∀ c ∈ dL p l,p c.toNat = true) ↔ ∀ c ∈ l,p c.toNat = true:=by
  intro l
  induction l with
  | nil=>simp [dL]
  | cons c r ih =>
   unfold dL
   by_cases h : p c.toNat = true
   ·rw [if_pos h,ih];simp [h]
   ·rw [if_neg h]
 unfold fU
 have:=key s.reverse
 simpa using this
theorem r7 {p : Nat → Bool} {s : adA} : dL p (fU p s) = [] ↔ ∀ c ∈ s,p c.toNat = true:=by rw [qW,wi]
def vj : adA:=[97,98,99,100,101,102,103,104,105,106,107,108,109,110,111,112,113,114,115,116,117,118,119,120,121,122]
def r6 : adA:=vj ++ [48,49,50,51,52,53,54,55,56,57,32]
theorem acT (c : UInt8) : fQ vj c.toNat = kT c:=by
 have : ∀ n : Nat,n < 256 → fQ vj n = decide (97 ≤ n ∧ n ≤ 122):=by decide +kernel
 rw [this _ c.toNat_lt];rfl
theorem ab7 (c : UInt8) : fQ r6 c.toNat = decide (jq c.toNat):=by
 have : ∀ n : Nat,n < 256 → fQ r6 n = decide (jq n):=by decide +kernel
 exact this _ c.toNat_lt
theorem aaA (s : adA) : dL (fQ vj) (fU (fQ vj) s) = [] ↔ s.all kT = true:=by
 rw [r7,List.all_eq_true]
 exact forall_congr' fun c=>forall_congr' fun _=>by rw [acT]
theorem dQ {s : adA} (h : s.length ≤ 2000000) : a9 adz 140 [S s] G (· = Bo (cP s)):=by
 have cx_trim:=xm (G:=G) (s:=s) (cs:=vj) rfl kR rfl h
 by_cases hl : 1 ≤ s.length ∧ s.length ≤ 3
 ·refine jE [(0,_)] Tryz.func140 Tryz.ntmps140 fun B hB=>?_
  repeat' (first | refine jR ?_ | (refine jo ?_;first | refine aC rfl ?_ | refine ae rfl rfl rfl cx_trim rfl ?_) | refine ar rfl rfl (aG oM) ?_ | refine ad rfl (aG oM) ?_)
  all_goals refine jY (vs:=[_]) ?_
  have:=aaA s
  unfold cP
  rw [decide_eq_true hl,Bool.and_true]
  refine congrArg Bo ?_
  rw [Bool.eq_iff_iff]
  simpa using this
 ·have e : cP s = false:=by unfold cP;rw [decide_eq_false hl,Bool.and_false]
  rw [e]
  refine jE [(0,_)] Tryz.func140 Tryz.ntmps140 fun B hB=>?_
  repeat' (first | refine jR ?_ | (refine jo ?_;first | refine aM rfl ?_ | refine aC rfl ?_) | refine fp rfl rfl (fun _=>?_) (fun _=>?_) | (refine ac rfl (by first | rfl | (refine decide_eq_true ?_;(omega))) ?_))
  all_goals refine jY (vs:=[_]) ?_
  all_goals rfl
theorem vT (s : adA) : bN s = dL (fQ [91,63]) s:=by
 induction s with
 | nil=>rfl
 | cons c r ih =>
  have e : fQ [91,63] c.toNat = decide (c.toNat = 91 ∨ c.toNat = 63):=by
   have : ∀ n : Nat,n < 256 → fQ [91,63] n = decide (n = 91 ∨ n = 63):=by decide +kernel
   exact this _ c.toNat_lt
  unfold bN dL
  rw [e]
  by_cases h : c.toNat = 91 ∨ c.toNat = 63
  ·simp only [h,if_true,decide_true];exact ih
  ·simp [h]
theorem sX : ∀ {s : adA},eV (bN s) = eV s
 | []=>rfl
 | c :: r=>by
  unfold bN
  split
  ·rename_i h;rw [sX];conv=>{ rhs;unfold eV };rw [if_pos h]
  ·rfl
def c5 (s : adA) : List Value:=[S (sg s),S (bs s),S (nm s)]
def xt (s : adA) (v : Value) : Prop:=∃ a b c,v = Tu [Ag [S a,S b,S c],Bo (bU s)] ∧ (bU s = true → a = sg s ∧ b = bs s ∧ c = nm s)
theorem tV {s p : adA} (hp : p.length ≤ 1000000000) (hs : s.length ≤ 1000000000) : a9 adz 160 [S s,S p] G (· = Bo (decide (p.length ≤ s.length ∧ s.drop (s.length - p.length) = p))):=by
 by_cases h : p.length ≤ s.length
 ·have e : (((s.length : Nat) : Int) - ((p.length : Nat) : Int)).toNat = s.length - p.length:=oM
  refine jE [(0,_),(1,_)] Tryz.func160 Tryz.ntmps160 fun B hB=>?_
  repeat' (first | refine jM ?_ | (refine jo ?_;refine aM rfl ?_) | refine aF rfl rfl (ay oM) ?_)
  all_goals refine jY (vs:=[_]) ?_
  all_goals (rw [e];simp [h];try rfl)
 ·refine jE [(0,_),(1,_)] Tryz.func160 Tryz.ntmps160 fun B hB=>?_
  repeat' (first | refine jR ?_ | (refine jo ?_;refine aC rfl ?_) | refine ar rfl rfl (aG oM) ?_)
  all_goals refine jY (vs:=[_]) ?_
  all_goals (simp [h];try rfl)
theorem oB {s p : adA} (hp : p.length ≤ 1000000000) (hs : s.length ≤ 1000000000) : a9 adz 139 [S s,S p] G (· = Bo (decide (p.length ≤ s.length ∧ s.drop (s.length - p.length) = p))):=by
 refine jE [(0,_),(1,_)] Tryz.func139 Tryz.ntmps139 fun B hB=>?_
 repeat' (first | refine jR ?_ | (refine jo ?_;refine ae rfl rfl rfl (tV oM oM) rfl ?_))
 all_goals refine jY (vs:=[_]) ?_
 all_goals rfl
theorem aaN {c : UInt8} {r : adA} : (1 ≤ (c :: r).length ∧ (c :: r).drop ((c :: r).length - 1) = [59]) ↔ bt (c :: r) r.length = 59:=by
 have hl : (c :: r).length - 1 = r.length:=by simp
 rw [hl]
 have hlt : r.length < (c :: r).length:=by simp
 obtain ⟨d,h1,h2⟩:=lD hlt
 rw [h1,h2]
 have h3 : (c :: r).drop (r.length + 1) = []:=by simp
 rw [h3]
 constructor
 ·rintro ⟨_,h⟩;simp only [List.cons.injEq,and_true] at h;rw [h];rfl
 ·intro h;exact ⟨by simp,by rw [show d = 59 from UInt8.toNat_inj.1 h]⟩
theorem nD : ∀ {s : adA} {c : UInt8} {r : adA},bN s = c :: r → ¬ (c.toNat = 91 ∨ c.toNat = 63)
 | [],c,r,h=>by simp [bN] at h
 | d :: s,c,r,h=>by
  unfold bN at h
  split at h
  ·exact nD h
  ·rename_i hd
   simp only [List.cons.injEq] at h
   rw [← h.1];exact hd
theorem uj {s t : adA} (h : s.length ≤ 12) (ht : bN s = t) : a9 adz 103 [S s] G (xt s):=by
 have cx_triml : a9 adz 138 [S s,S [91,63]] G (· = S t):=by
  rw [← ht,vT]
  exact mF rfl kR rfl
 have hcl:=mv s
 rw [ht] at hcl
 have ek : bU s = eV t:=by unfold bU;rw [decide_eq_true h,Bool.true_and,← ht,sX]
 have esg : s.take (((s.length : Nat) : Int) - ((t.length : Nat) : Int)).toNat = sg s:=by
  unfold sg;rw [ht];congr 1;omega
 have ebs : bs s = oD t:=by unfold bs;rw [ht]
 have enm : nm s = (b7 t).getD []:=by unfold nm;rw [ht]
 have hns : ∀ c r,t = c :: r → ¬ (c.toNat = 91 ∨ c.toNat = 63):=fun c r e=>nD (ht.trans e)
 clear ht
 match t,hcl,ek,ebs,enm,cx_triml,esg,hns with
 | [],hcl,ek,ebs,enm,cx_triml,esg,hns =>
  have hno : bU s = false:=by rw [ek];rfl
  have cx_suf:=oB (G:=G) (s:=[]) (p:=[59]) (by simp) (by simp)
  refine jE [(0,_)] Tryz.func103 Tryz.ntmps103 fun B hB=>?_
  repeat' (first | refine jM ?_ | (refine jo ?_;first | refine jL fun _=>?_ | refine jV (ax rfl rfl) ?_ | refine jC rfl rfl rfl ?_ | refine aC rfl ?_ | refine ae rfl rfl rfl cx_triml rfl ?_ | refine ae rfl rfl rfl i9 rfl ?_) | refine ar rfl rfl rfl ?_ | (refine ad rfl (by first | rfl | (refine decide_eq_false ?_;(omega))) ?_))
  all_goals refine jZ (vs:=[_,_]) rfl ⟨aJ rfl rfl rfl rfl,rfl,trivial⟩ rfl ⟨rfl,rfl,?_⟩
  all_goals exact ⟨[],[],[],by rw [hno];rfl,fun h=>by rw [hno] at h;cases h⟩
 | c :: r,hcl,ek,ebs,enm,cx_triml,esg,hns =>
  by_cases hA : c :: r = [110] ∨ c :: r = [116] ∨ c :: r = [102]
  ·rcases hA with hA | hA | hA
   all_goals (simp only [List.cons.injEq] at hA;obtain ⟨rfl,rfl⟩:=hA)
   all_goals have hyes : bU s = true:=by rw [ek];rfl
   all_goals refine jE [(0,_)] Tryz.func103 Tryz.ntmps103 fun B hB=>?_
   all_goals repeat' (first | refine jM ?_ | (refine jo ?_;first | refine jL fun _=>?_ | refine jV (ax rfl rfl) ?_ | refine jD rfl rfl rfl ?_ | refine jC rfl rfl rfl ?_ | refine aM rfl ?_ | refine aC rfl ?_ | refine bM rfl ?_ | refine ae rfl rfl rfl cx_triml rfl ?_) | refine aF rfl rfl rfl ?_ | refine ar rfl rfl rfl ?_ | refine ac rfl rfl ?_ | refine ad rfl (aG oM) ?_)
   all_goals refine jZ (vs:=[_,_]) rfl ⟨aJ rfl rfl rfl rfl,rfl,trivial⟩ rfl ⟨rfl,rfl,?_⟩
   all_goals exact ⟨_,_,_,by rw [hyes];rfl,fun _=>⟨esg,by rw [ebs];rfl,by rw [enm];rfl⟩⟩
  simp only [not_or] at hA
  obtain ⟨hA1,hA2,hA3⟩:=hA
  by_cases hc : c = 64
  case neg =>
   have hc' : ¬ c.toNat = 64:=fun h=>hc (UInt8.toNat_inj.1 h)
   have hno : bU s = false:=by
    rw [ek,eV,if_neg (hns c r rfl),if_neg hc']
    by_cases hr : r = []
    ·subst hr
     have n1 : ¬ c.toNat = 110:=fun h=>hA1 (by rw [show c = 110 from UInt8.toNat_inj.1 h])
     have n2 : ¬ c.toNat = 116:=fun h=>hA2 (by rw [show c = 116 from UInt8.toNat_inj.1 h])
     have n3 : ¬ c.toNat = 102:=fun h=>hA3 (by rw [show c = 102 from UInt8.toNat_inj.1 h])
     simp [n1,n2,n3]
    ·simp [hr]
   have hp : ([64] : adA).isPrefixOf (c :: r) = false:=by simp [List.isPrefixOf];exact fun h=>hc h.symm
   refine jE [(0,_)] Tryz.func103 Tryz.ntmps103 fun B hB=>?_
   repeat' (first | refine jM ?_ | (refine jo ?_;first | refine jL fun _=>?_ | refine jV (ax rfl rfl) ?_ | refine jC rfl rfl rfl ?_ | refine aC rfl ?_ | refine ae rfl rfl rfl cx_triml rfl ?_ | refine ae rfl rfl rfl i9 rfl ?_) | (refine ar rfl rfl (by first | assumption | (refine decide_eq_false ?_;(assumption))) ?_) | (refine ad rfl (by first | rfl | (refine decide_eq_false ?_;first | assumption | omega)) ?_))
   all_goals refine jZ (vs:=[_,_]) rfl ⟨aJ rfl rfl rfl rfl,rfl,trivial⟩ rfl ⟨rfl,rfl,?_⟩
   all_goals exact ⟨[],[],[],by rw [hno];rfl,fun h=>by rw [hno] at h;cases h⟩
  subst hc
  have hp : ([64] : adA).isPrefixOf (64 :: r) = true:=by simp [List.isPrefixOf]
  have hsuf:=oB (G:=G) (s:=64 :: r) (p:=[59]) (by simp) (by simp at hcl ⊢;omega)
  have ek2 : bU s = (decide (bt (64 :: r) r.length = 59) && cP (r.take (r.length - 1))):=by
   rw [ek,eV,if_neg dC,if_pos dC]
   congr 1
   refine decide_eq_decide.2 ?_
   omega
  have hsb:=aaN (c:=64) (r:=r)
  by_cases hb : bt (64 :: r) r.length = 59
  case neg =>
   have cx_suf : a9 adz 139 [S (64 :: r),S [59]] G (· = Bo false):=by
    have e : decide (([59] : adA).length ≤ (64 :: r : adA).length ∧ (64 :: r : adA).drop ((64 :: r : adA).length - ([59] : adA).length) = [59]) = false:=decide_eq_false fun h=>hb (hsb.1 h)
    rwa [e] at hsuf
   have hno : bU s = false:=by rw [ek2,decide_eq_false hb,Bool.false_and]
   refine jE [(0,_)] Tryz.func103 Tryz.ntmps103 fun B hB=>?_
   repeat' (first | refine jM ?_ | (refine jo ?_;first | refine jL fun _=>?_ | refine jV (ax rfl rfl) ?_ | refine jC rfl rfl rfl ?_ | refine aM rfl ?_ | refine aC rfl ?_ | refine ae rfl rfl rfl cx_triml rfl ?_ | refine ae rfl rfl rfl i9 rfl ?_ | refine ae rfl rfl rfl cx_suf rfl ?_) | refine aF rfl rfl rfl ?_ | refine ar rfl rfl rfl ?_ | (refine ad rfl (by first | rfl | (refine decide_eq_false ?_;(omega))) ?_))
   all_goals refine jZ (vs:=[_,_]) rfl ⟨aJ rfl rfl rfl rfl,rfl,trivial⟩ rfl ⟨rfl,rfl,?_⟩
   all_goals exact ⟨[],[],[],by rw [hno];rfl,fun h=>by rw [hno] at h;cases h⟩
  have cx_suf : a9 adz 139 [S (64 :: r),S [59]] G (· = Bo true):=by
   have e : decide (([59] : adA).length ≤ (64 :: r : adA).length ∧ (64 :: r : adA).drop ((64 :: r : adA).length - ([59] : adA).length) = [59]) = true:=decide_eq_true (hsb.2 hb)
   rwa [e] at hsuf
  have hr : 1 ≤ r.length:=by
   cases r with
   | nil=>exact absurd hb dC
   | cons=>simp
  have hl2 : (64 :: r : adA).length = r.length + 1:=rfl
  have e1 : ((64 :: r : adA).take ((((64 :: r : adA).length : Nat) : Int) - 1).toNat).drop (Int.toNat 1) = r.take (r.length - 1):=by
   have e2 : ((((64 :: r : adA).length : Nat) : Int) - 1).toNat = (r.length - 1) + 1:=oM
   rw [e2,List.take_succ_cons];rfl
  have hyes : bU s = cP (r.take (r.length - 1)):=by rw [ek2,decide_eq_true hb,Bool.true_and]
  have cx_isnm : a9 adz 140 [S (((64 :: r : adA).take ((((64 :: r : adA).length : Nat) : Int) - 1).toNat).drop (Int.toNat 1))] G (· = Bo (cP (r.take (r.length - 1)))):=by
   rw [e1];exact dQ (by simp at hcl ⊢;omega)
  refine jE [(0,_)] Tryz.func103 Tryz.ntmps103 fun B hB=>?_
  repeat' (first | refine jM ?_ | (refine jo ?_;first | refine jL fun _=>?_ | refine jV (ax rfl rfl) ?_ | refine jD rfl rfl rfl ?_ | refine jC rfl rfl rfl ?_ | refine aM rfl ?_ | refine aC rfl ?_ | refine ae rfl rfl rfl cx_triml rfl ?_ | refine ae rfl rfl rfl i9 rfl ?_ | refine ae rfl rfl rfl cx_suf rfl ?_) | refine aF rfl rfl rfl ?_ | refine ar rfl rfl rfl ?_ | refine ac rfl rfl ?_ | (refine ad rfl (by first | rfl | (refine decide_eq_false ?_;(omega))) ?_) | (refine am (d4 (id:=11) (tt:=2) rfl al ?_);refine jW 5 [1] (aa 6 2) ?_;(refine jG (aa 6 3) 0 rfl (bP rfl rfl rfl rfl) ?_);(refine jG (aa 6 7) 2 rfl (aX rfl rfl rfl) ?_);refine jA 3 rfl ?_;(refine ae rfl rfl rfl cx_isnm rfl ?_);refine jK (aa 6 15) ?_;refine jA 4 rfl ?_;(refine jC rfl rfl rfl ?_);refine jK (aa 6 31) ?_;refine jW 0 [5] (aa 6 63) ?_;refine jQ ?_))
  all_goals refine jZ (vs:=[_,_]) rfl ⟨aJ rfl rfl rfl rfl,rfl,trivial⟩ rfl ⟨rfl,rfl,?_⟩
  all_goals exact ⟨_,_,_,by rw [hyes];rfl,fun _=>⟨esg,by rw [ebs];rfl,by rw [enm,e1];rfl⟩⟩
theorem mA {s : adA} (h : s.length ≤ 2000000) : a9 adz 103 [S s] G (xt s):=by
 by_cases hl : s.length ≤ 12
 ·exact uj hl rfl
 have e : bU s = false:=by unfold bU;rw [decide_eq_false hl,Bool.false_and]
 refine jE [(0,_)] Tryz.func103 Tryz.ntmps103 fun B hB=>?_
 repeat' (first | refine jR ?_ | (refine jo ?_;first | refine jL fun _=>?_ | refine jV (ax rfl rfl) ?_ | refine jC rfl rfl rfl ?_) | refine ac rfl (ay oM) ?_)
 all_goals refine jZ (vs:=[_,_]) rfl ⟨aJ rfl rfl rfl rfl,rfl,trivial⟩ rfl ⟨rfl,rfl,?_⟩
 all_goals exact ⟨[],[],[],by rw [e];rfl,fun h=>by rw [e] at h;cases h⟩
theorem we {c : UInt8} (h : 48 ≤ c.toNat) : u8 (48 + ((c.toNat : Int) - 48)) = c:=by
 apply UInt8.toNat_inj.1
 have h2:=c.toNat_lt
 have:=ja (a:=48 + ((c.toNat : Int) - 48)) oM
 omega
theorem tq : ∀ {s : adA} {n m : Int},1 ≤ n → dm n s = some m → bI m = bI n ++ s ∧ n ≤ m
 | [],n,m,h0,h=>by simp only [dm,Option.some.injEq] at h;subst h;simp
 | c :: r,n,m,h0,h=>by
  unfold dm at h
  split at h
  ·rename_i hc
   have ih:=tq (s:=r) oM h
   refine ⟨?_,oM⟩
   have e1 : (10 * n + ((c.toNat : Int) - 48)) / 10 = n:=oM
   have e2 : (10 * n + ((c.toNat : Int) - 48)) % 10 = (c.toNat : Int) - 48:=oM
   rw [ih.1,j6 (n:=10 * n + ((c.toNat : Int) - 48)) oM,e1,e2,we hc.1];simp
  ·cases h
theorem nB : ∀ (k : Nat) {m : Int},m.toNat ≤ k → 1 ≤ m → ∃ c r,bI m = c :: r ∧ c.toNat ≠ 48
 | 0,m,h,h1=>by omega
 | k + 1,m,h,h1=>by
  by_cases hm : m < 10
  ·refine ⟨_,[],d9 hm oM,?_⟩
   have:=ja (a:=48 + m) oM
   omega
  ·obtain ⟨c,r,e,hc⟩:=nB k (m:=m / 10) oM oM
   exact ⟨c,r ++ [u8 (48 + m % 10)],by rw [j6 hm,e];rfl,hc⟩
theorem qL : ∀ {s : adA} {n m : Int},0 ≤ n → dm n s = some m → 0 ≤ m
 | [],n,m,h0,h=>by simp only [dm,Option.some.injEq] at h;omega
 | c :: r,n,m,h0,h=>by
  unfold dm at h
  split at h
  ·exact qL (s:=r) oM h
  ·cases h
theorem uW {c : UInt8} {r : adA} {m : Int} (h : dm 0 (c :: r) = some m) : c :: r = bI m ↔ ¬ (c.toNat = 48 ∧ r ≠ []):=by
 have h':=h
 unfold dm at h
 split at h
 ·rename_i hc
  by_cases h0 : c.toNat = 48
  ·have e0 : (10 * 0 + ((c.toNat : Int) - 48)) = 0:=oM
   rw [e0] at h
   constructor
   ·rintro e ⟨_,hr⟩
    have hm:=qL (Int.le_refl 0) h
    rcases Int.lt_or_le m 1 with h1 | h1
    ·have : m = 0:=oM
     subst this
     rw [d9 oM oM] at e
     simp only [List.cons.injEq] at e
     exact hr e.2
    ·obtain ⟨d,t,e2,hd⟩:=nB m.toNat (Nat.le_refl _) h1
     rw [e2] at e
     simp only [List.cons.injEq] at e
     exact hd (by rw [← e.1];exact h0)
   ·intro hn
    have hr : r = []:=by
     by_cases hr : r = []
     ·exact hr
     ·exact absurd ⟨h0,hr⟩ hn
    subst hr
    simp only [dm,Option.some.injEq] at h
    subst h
    rw [d9 oM oM]
    congr 1
    apply UInt8.toNat_inj.1
    have:=ja (a:=48 + 0) oM
    omega
  ·have:=tq oM h
   rw [this.1,d9 oM oM]
   have e : (10 * 0 + ((c.toNat : Int) - 48)) = (c.toNat : Int) - 48:=oM
   rw [e,we hc.1]
   simp [h0]
 ·cases h
theorem lH {s : adA} {top : Int} (h : s.length ≤ 100000000) : a9 adz 90 [S s,I top] G (fun v=>∃ n,v = Tu [I n,Bo (aK s top).isSome] ∧ (∀ m,aK s top = some m → n = m) ∧ 0 ≤ n ∧ n ≤ 999999):=by
  by_cases hl : 1 ≤ s.length ∧ s.length ≤ 6
  case neg =>
    have hno : aK s top = none:=by
      unfold aK
      by_cases h6 : s.length ≤ 6
      · have : s = []:=List.length_eq_zero_iff.1 oM
        subst this
        rw [if_pos (by simp)]
        simp [dm,d9]
      · rw [if_neg h6]
    refine jE [(0,_),(1,_)] Tryz.func90 Tryz.ntmps90 fun B hB=>?_
    repeat' (first | refine jR ?_ | (refine jo ?_;first | refine aM rfl ?_ | refine aC rfl ?_) | (refine aF rfl rfl (by first | rfl | (refine decide_eq_true ?_;(omega))) ?_) | refine fp rfl rfl (fun _=>?_) (fun _=>?_) | refine ac rfl rfl ?_)
    all_goals refine jY (vs:=[_,_]) ?_
    all_goals exact ⟨_,by rw [hno];rfl,fun m hm=>(by rw [hno] at hm;cases hm),by decide,by decide⟩
  by_cases hz : bt s 0 = 48 ∧ 1 < s.length
  · have hz0 : bt s (Int.toNat 0) = 48:=hz.1
    have hno : aK s top = none:=by
      match s,hz,hl with
      | c :: r,hz,hl =>
        unfold aK
        rw [if_pos hl.2]
        split
        · rename_i n hn
          rw [if_neg]
          rintro ⟨e,_⟩
          rw [bj] at hz
          exact (uW hn).1 e ⟨hz.1,by rintro rfl;simp at hz⟩
        · rfl
    refine jE [(0,_),(1,_)] Tryz.func90 Tryz.ntmps90 fun B hB=>?_
    repeat' (first | refine jM ?_ | (refine jo ?_;first | refine aM rfl ?_ | refine aC rfl ?_) | refine aF rfl rfl (ay oM) ?_ | refine ar rfl rfl (aG oM) ?_ | refine ac rfl (ay oM) ?_)
    all_goals refine jY (vs:=[_,_]) ?_
    all_goals exact ⟨_,by rw [hno];rfl,fun m hm=>(by rw [hno] at hm;cases hm),by decide,by decide⟩
  have hz0 : ¬ (bt s (Int.toNat 0) = 48 ∧ 1 < s.length):=hz
  have key : aK s top = match dm 0 s with
      | some n=>if n ≤ top then some n else none
      | none=>none:=by
    match s,hz,hl with
    | c :: r,hz,hl =>
      unfold aK
      rw [if_pos hl.2]
      cases hd : dm 0 (c :: r) with
      | some n =>
        have hn:=hd
        have : c :: r = bI n:=(uW hn).2 (by rw [bj] at hz;rintro ⟨h1,h2⟩;exact hz ⟨h1,by have:=List.length_pos_iff.2 h2;simp;omega⟩)
        dsimp only
        rw [← this]
        simp
      | none=>rfl
  refine jE [(0,_),(1,_)] Tryz.func90 Tryz.ntmps90 fun B hB=>?_
  repeat' (first | refine jM ?_ | (refine jo ?_;first | refine aM rfl ?_ | refine aC rfl ?_) | refine ar rfl rfl (aG oM) ?_ | refine fp rfl rfl (fun _=>?_) (fun _=>?_) | (refine ad rfl (by first | rfl | (refine decide_eq_false ?_;(omega))) ?_))
  all_goals (refine aT (ι:=Nat × Int) (fun i=>(i.1 ≤ s.length ∧ i.1 ≤ 6) ∧ (0 ≤ i.2 ∧ i.2 + 1 ≤ 10 ^ i.1) ∧ dm i.2 (s.drop i.1) = dm 0 s) (fun i=>[(0,S s),(1,I top),(6,I i.2),(27,I s.length),(28,I i.1)]) (fun _=>G) (fun i=>[]) (fun i=>s.length - i.1) (0,0) ?_ tU rfl a7 (fun i Hi=>?_))
  all_goals (first | exact ⟨⟨by dsimp only;omega,by dsimp only;omega⟩,⟨by dsimp only;omega,by dsimp only;decide⟩,rfl⟩ | skip)
  all_goals obtain ⟨i,n⟩:=i
  all_goals dsimp only at Hi ⊢
  all_goals by_cases hi : i < s.length
  all_goals first
    | (obtain ⟨c,hc1,hc2⟩:=lD hi
       have hc3 : bt s ((i : Int).toNat) = c.toNat:=hc2
       have hd:=Hi.2.2
       rw [hc1,dm] at hd
       have h5 : i ≤ 5:=oM
       have hp:=xN i h5
       by_cases hdig : 48 ≤ c.toNat ∧ c.toNat ≤ 57
       · rw [if_pos hdig] at hd
         repeat' (first | refine jM ?_ | (refine jo ?_;refine aC rfl ?_) | refine ar rfl rfl (aG oM) ?_ | refine ac rfl (ay oM) ?_ | refine ad rfl (aG oM) ?_)
         refine bh (i + 1,10 * n + ((c.toNat : Int) - 48)) ⟨⟨by dsimp only;omega,by dsimp only;omega⟩,⟨by dsimp only;omega,by dsimp only;rw [hp.1];omega⟩,hd⟩ (by dsimp only;omega) ?_ rfl a7
         rw [← hc2];repeat (first | exact trivial | refine ⟨rfl,?_⟩)
       · rw [if_neg hdig] at hd
         have hno : aK s top = none:=by rw [key,← hd]
         repeat' (first | refine jM ?_ | (refine jo ?_;first | refine aM rfl ?_ | refine aC rfl ?_) | refine fp rfl rfl (fun _=>?_) (fun _=>?_) | (refine ac rfl (by first | rfl | (refine decide_eq_true ?_;(omega))) ?_))
         all_goals refine jY (vs:=[_,_]) ?_
         all_goals exact ⟨_,by rw [hno];rfl,fun m hm=>(by rw [hno] at hm;cases hm),by decide,by decide⟩)
    | (have ei : i = s.length:=oM
       have hd:=Hi.2.2
       rw [ei,List.drop_length,dm] at hd
       have hno : aK s top = if n ≤ top then some n else none:=by rw [key,← hd]
       repeat' (first | refine jR ?_ | refine ad rfl (aG oM) ?_)
       refine jY (vs:=[_,_]) ?_
       have hp6 : ∀ i : Nat,i ≤ 6 → (10 : Int) ^ i ≤ 1000000:=by decide
       have hp7:=hp6 i oM
       have hlo:=Hi.2.1.1
       have hhi:=Hi.2.1.2
       refine ⟨n,?_,fun m hm=>?_,oM,oM⟩
       · rw [hno,gu]
         by_cases ht : n ≤ top
         · rw [if_pos ht,decide_eq_true ht];rfl
         · rw [if_neg ht,decide_eq_false ht];rfl
       · rw [hno] at hm
         split at hm
         · exact Option.some.inj hm
         · cases hm)
theorem eI {s : adA} {top : Int} (h : s.length ≤ 100000000) : a9 adz 90 [S s,I top] G (fun v=>∃ n,v = Tu [I n,Bo (aK s top).isSome] ∧ (∀ m,aK s top = some m → n = m)):=by
 refine (lH (G:=G) h).mono ?_
 rintro v G' L' ⟨h1,h2,n,h3,h4,_⟩
 exact ⟨h1,h2,n,h3,h4⟩
theorem xh : ∀ (k : Nat) {n : Int},n.toNat ≤ k → 0 ≤ n ∧ n ≤ 9223372036854775807 → a9 adz 69 [I n] G (· = S (bI n)):=by
 intro k
 induction k with
 | zero =>
  intro n hk hn
  have h1 : n < 10:=oM
  refine jE [(0,_)] Tryz.func69 Tryz.ntmps69 fun B hB=>?_
  repeat' (first | refine jM ?_ | (refine jo ?_;first | refine jF fun _=>?_ | refine jV (iw rfl rfl (by (repeat (first | exact BL.nil | apply BL.cons));done)) ?_) | refine ac rfl (ay ‹_›) ?_)
  refine jY (vs:=[_]) ?_
  rw [aP,d9 h1 hn.1]
 | succ k ih =>
  intro n hk hn
  have hl:=g7 (n:=n / 10) oM
  have hl2:=g7 (n:=n % 10) oM
  by_cases h1 : n < 10
  ·refine jE [(0,_)] Tryz.func69 Tryz.ntmps69 fun B hB=>?_
   repeat' (first | refine jM ?_ | (refine jo ?_;first | refine jF fun _=>?_ | refine jV (iw rfl rfl (by (repeat (first | exact BL.nil | apply BL.cons));done)) ?_) | refine ac rfl (ay ‹_›) ?_)
   refine jY (vs:=[_]) ?_
   rw [aP,d9 h1 hn.1]
  ·refine jE [(0,_)] Tryz.func69 Tryz.ntmps69 fun B hB=>?_
   repeat' (first | refine jM ?_ | (refine jo ?_;(refine ae rfl rfl rfl (ih oM ?_) rfl ?_;focus omega)) | refine ad rfl (aG ‹_›) ?_)
   all_goals refine jY (vs:=[_]) ?_
   all_goals rw [aP,j6 (n:=n) h1,d9 (n:=n % 10) oM oM]
theorem jP {n : Int} (hn : 0 ≤ n ∧ n ≤ 9223372036854775807) : a9 adz 69 [I n] G (· = S (bI n)):=xh n.toNat (Nat.le_refl _) hn
theorem mt (c : UInt8) : ∀ s acc : adA,(eo c.toNat acc s).length = s.count c + 1
 | [],acc=>by simp [eo]
 | d :: r,acc=>by
  unfold eo
  by_cases h : d = c
  ·subst h
   rw [if_pos rfl,List.length_cons,mt d r []];simp
  ·have h2 : ¬ d.toNat = c.toNat:=fun e=>h (UInt8.toNat_inj.1 e)
   rw [if_neg h2,mt c r _,List.count_cons];simp [h]
theorem aax {s : adA} {c : UInt8} : a9 adz 146 [S s,S [c]] G (· = I (((aZ c.toNat s).length : Int) - 1)):=by
 have hx : ∀ w,(callFunc 166 [S s,U8 (bt [c] (Int.toNat 0))].toArray).run adz w = .ok (.value (I (((aZ c.toNat s).length : Int) - 1))) w:=fun w=>by
  rw [show bt [c] (Int.toNat 0) = c.toNat from bj c []]
  rw [run_callFunc_extern Tryz.func166 kR kR kR (e:=Extern.BytealgCount.count) kR]
  have:=Lib.run_countString (P:=adz) ⟨s.toArray⟩ (c.toNat : Int) w
  rw [this]
  simp only [Result.andThen]
  have e : (aZ c.toNat s).length = s.count c + 1:=mt c s []
  rw [e]
  simp [Lib.countByte]
 refine jE [(0,_),(1,_)] Tryz.func146 Tryz.ntmps146 fun B hB=>?_
 repeat' (first | refine jX ?_ | refine ac rfl rfl ?_ | refine ad rfl rfl ?_)
 refine vG rfl (k6 (oW rfl rfl rfl hx) rfl rfl ?_)
 repeat' (refine jR ?_)
 refine jY (vs:=[_]) ?_
 rfl
theorem vZ {s : adA} {c : UInt8} (hs : s.length ≤ 100000000) : bB adz 123 [S s,S [c],I 0,I (-1)] G (fun v G'=>aU G' v 1 (aZ c.toNat s).length (ak cn (aZ c.toNat s))):=by
 have hlen:=ic (k:=c.toNat) (s:=s)
 have hpos:=en (k:=c.toNat) (s:=s)
 have emin : min (((aZ c.toNat s).length : Int) - 1 + 1) ((s.length : Int) + 1) = ((aZ c.toNat s).length : Nat):=oM
 refine jB [(0,_),(1,_),(2,_),(3,_)] Tryz.func123 Tryz.ntmps123 fun B hok hB hW=>?_
 repeat' (first | refine jM ?_ | (refine jo ?_;first | refine jV (vJ rfl rfl) ?_ | refine ae rfl rfl rfl aax rfl ?_) | refine ac rfl rfl ?_ | refine ad rfl rfl ?_)
 rw [emin]
 repeat' (first | refine jM ?_ | (refine jo ?_;refine adn rfl rfl rfl rfl oM (fun _=>?_)))
 rename_i x
 refine aT (ι:=List adA × adA) (fun i=>i.1.length + i.2.length ≤ s.length ∧ i.1.length < (aZ c.toNat s).length ∧ i.1 ++ aZ c.toNat i.2 = aZ c.toNat s) (fun i=>[(0,S i.2),(1,S [c]),(2,I 0),(3,I (((aZ c.toNat s).length : Int) - 1)),(9,.slice (some ⟨x,0,none⟩) (aZ c.toNat s).length (aZ c.toNat s).length),(10,I (i.1.length : Nat))]) (fun _=>G) (fun i=>[.blk x (.cells (ak cn i.1 ++ cj [S []] ((aZ c.toNat s).length - i.1.length)).toArray vq (0,0))]) (fun i=>(aZ c.toNat s).length - i.1.length) ([],s) ?_ tU rfl a7 (fun i Hi=>?_)
 ·exact ⟨by simp,hpos,rfl⟩
 obtain ⟨xs,t⟩:=i
 dsimp only at Hi ⊢
 obtain ⟨hl,hlt,he⟩:=Hi
 have hel:=congrArg List.length he
 rw [List.length_append] at hel
 rcases pT c.toNat t with ⟨h1,h2⟩ | ⟨m,h1,h3,h2⟩
 ·have hc1 : aZ c.toNat t = [t]:=by rw [kD,h2];rfl
  rw [hc1] at he hel
  simp only [List.length_cons,List.length_nil] at hel
  have hm : (aZ c.toNat s).length - xs.length = 1:=oM
  rw [hm]
  repeat' (first | refine jM ?_ | (refine jo ?_;first | refine jV (ag rfl rfl oM) ?_ | (refine w4 rfl rfl rfl oM ?_ ?_;focus omega) | refine jV (s7 rfl rfl oM) ?_) | refine ad rfl (aG oM) ?_)
  refine Nx.sealC (b:=x) fun G' hle hseg=>?_
  refine jZ (vs:=[_]) rfl ⟨rfl,trivial⟩ rfl ⟨hle,rfl,?_⟩
  have e1 : (((xs.length : Nat) : Int) + 1).toNat = (aZ c.toNat s).length:=oM
  have e2 : ak cn (xs ++ [t]) ++ cj [S []] (1 - 1) = ak cn (aZ c.toNat s):=by rw [he];simp [cj]
  rw [aP,e1]
  rw [e2] at hseg
  exact ⟨by rw [cO],.inr ⟨_,_,_,rfl,Nat.le_refl _,hseg⟩⟩
 ·have hc1 : aZ c.toNat t = t.take m :: aZ c.toNat (t.drop (m + 1)):=by rw [kD,h2];rfl
  rw [hc1] at he hel
  have hp2:=en (k:=c.toNat) (s:=t.drop (m + 1))
  simp only [List.length_cons] at hel
  have cx_ix : a9 adz 147 [S t,S [c]] G (· = I (m : Int)):=by have:=vi (G:=G) (s:=t) (c:=c);rwa [h1] at this
  obtain ⟨k,hk⟩ : ∃ k,(aZ c.toNat s).length - xs.length = k + 1:=⟨(aZ c.toNat s).length - xs.length - 1,oM⟩
  have hk2 : (aZ c.toNat s).length = xs.length + k + 1:=oM
  rw [hk]
  generalize (aZ c.toNat s).length = N at *
  repeat' (first | refine jX ?_ | (refine jo ?_;first | refine jV (ag rfl rfl oM) ?_ | (refine w4 rfl rfl rfl oM ?_ ?_;focus omega) | refine ae rfl rfl rfl cx_ix rfl ?_) | refine ac rfl (ay oM) ?_ | refine ad rfl rfl ?_)
  have e1 : ak cn (xs ++ [t.take ((m : Int) + 0).toNat]) ++ cj [S []] (k + 1 - 1) = ak cn (xs ++ [t.take m]) ++ cj [S []] (N - (xs ++ [t.take m]).length):=by
   have e2 : N - (xs ++ [t.take m]).length = k + 1 - 1:=by simp;omega
   rw [e2]
   have e3 : ((m : Int) + 0).toNat = m:=oM
   rw [e3]
  have e4 : ((m : Int) + (([c] : adA).length : Nat)).toNat = m + 1:=by simp only [List.length_cons,List.length_nil];omega
  have e5 : ((xs.length : Nat) : Int) + 1 = ((xs ++ [t.take m]).length : Nat):=by simp
  rw [e1,e4,e5]
  refine bh (xs ++ [t.take m],t.drop (m + 1)) ⟨by simp;omega,by simp;omega,by simpa using he⟩ (by simp;omega) tU rfl a7
theorem vh {s : adA} {c : UInt8} (hs : s.length ≤ 100000000) : bB adz 89 [S s,S [c]] G (fun v G'=>aU G' v 1 (aZ c.toNat s).length (ak cn (aZ c.toNat s))):=by
 have cx_gs:=vZ (G:=G) (c:=c) hs
 refine jB [(0,_),(1,_)] Tryz.func89 Tryz.ntmps89 fun B hok hB hW=>?_
 repeat' (first | refine jR ?_ | (refine jo ?_;(refine an rfl rfl rfl cx_gs rfl ?_;rintro _ G hle hspl;skip)))
 all_goals refine jZ (vs:=[_]) rfl ⟨rfl,trivial⟩ rfl ⟨hle,rfl,?_⟩
 all_goals exact hspl
def iF (f : Fld) : List Value:=[I f.tag,S f.name,S (sg f.kind),S (bs f.kind),S (nm f.kind),S f.stand]
instance : RowF iF 6:=⟨fun _=>rfl⟩
theorem zm (s : adA) : dL (fQ r6) (fU (fQ r6) s) = [] ↔ ∀ c ∈ s,jq c.toNat:=by
 rw [r7]
 exact forall_congr' fun c=>forall_congr' fun _=>by rw [ab7];simp
def sY (s : adA) : Bool:=decide (s.length ≤ 12) && s.all fun c=>decide (jq c.toNat)
theorem yu {s : adA} (h : s.length ≤ 2000000) : a9 adz 181 [S s] G (· = Bo (sY s)):=by
 have cx_trim:=xm (G:=G) (s:=s) (cs:=r6) rfl kR rfl h
 have key:=zm s
 have e : sY s = (decide (s.length ≤ 12) && decide (dL (fQ r6) (fU (fQ r6) s) = [])):=by
  unfold sY
  congr 1
  rw [Bool.eq_iff_iff,List.all_eq_true,decide_eq_true_eq,key]
  simp
 rw [e]
 by_cases hl : s.length ≤ 12
 ·rw [decide_eq_true hl,Bool.true_and]
  refine jE [(0,_)] Tryz.func181 Tryz.ntmps181 fun B hB=>?_
  repeat' (first | refine jR ?_ | (refine jo ?_;first | refine aM rfl ?_ | refine ae rfl rfl rfl cx_trim rfl ?_) | refine aF rfl rfl (ay oM) ?_)
  all_goals refine jY (vs:=[_]) ?_
  all_goals rfl
 ·rw [decide_eq_false hl,Bool.false_and]
  refine jE [(0,_)] Tryz.func181 Tryz.ntmps181 fun B hB=>?_
  repeat' (first | refine jR ?_ | (refine jo ?_;refine aC rfl ?_) | refine ar rfl rfl (aG oM) ?_)
  all_goals refine jY (vs:=[_]) ?_
  all_goals rfl
theorem zI {s : adA} : (dW s && decide (s ≠ [39,39])) = (decide (2 < s.length) && (decide (bt s 0 = 39) && (decide (bt s (s.length - 1) = 39) && sY ((s.take (s.length - 1)).drop 1)))):=by
 rw [Bool.eq_iff_iff]
 simp only [Bool.and_eq_true,decide_eq_true_eq,dW,sY,List.all_eq_true]
 constructor
 ·rintro ⟨⟨h1,h2,h3,h4⟩,h5⟩
  have hl : 2 < s.length:=by
   rcases Nat.lt_or_ge 2 s.length with h6 | h6
   ·exact h6
   ·exfalso
    match s,h1,h6,h2,h3 with
    | [a,b],_,_,h2,h3 =>
     rw [bj] at h2
     simp only [List.length_cons,List.length_nil] at h3
     rw [show (0 + 1 + 1 - 1) = 0 + 1 from rfl,er,bj] at h3
     have e1 : a = 39:=UInt8.toNat_inj.1 h2
     have e2 : b = 39:=UInt8.toNat_inj.1 h3
     subst e1;subst e2;exact h5 rfl
  refine ⟨hl,h2,h3,by simp;omega,fun c hc=>?_⟩
  obtain ⟨i,hi,rfl⟩:=List.mem_iff_getElem.1 hc
  simp only [List.length_drop,List.length_take] at hi
  have e : bt s (i + 1) = (((s.take (s.length - 1)).drop 1)[i]'(by simp;omega)).toNat:=by
   simp [bt,List.getD,List.getElem?_eq_getElem (show i + 1 < s.length by omega)]
  rw [← e]
  rcases h4 (i + 1) oM with h6 | h6
  ·omega
  ·exact h6
 ·rintro ⟨hl,h2,h3,h4,h5⟩
  simp only [List.length_drop,List.length_take] at h4
  refine ⟨⟨oM,h2,h3,fun i hi=>?_⟩,fun e=>by subst e;simp at hl⟩
  rcases Nat.eq_zero_or_pos i with h6 | h6
  ·exact .inl h6
  ·refine .inr ?_
   have e : bt s i = (((s.take (s.length - 1)).drop 1)[i - 1]'(by simp;omega)).toNat:=by
    have e1 : i - 1 + 1 = i:=oM
    simp [bt,List.getD,List.getElem?_eq_getElem (show i < s.length by omega),e1]
   rw [e]
   exact h5 _ (List.getElem_mem _)
theorem p5 {b v : adA} (h : v.length ≤ 2000000) : a9 adz 170 [S b,S v] G (· = Bo (bZ b v)):=by
 by_cases h1 : b = [110]
 ·have e : bZ b v = ((aK v 999999).isSome && decide (v ≠ [48])):=by rw [bZ,if_pos h1]
  rw [e]
  rcases hn : aK v 999999 with _ | m
  ·refine jE [(0,_),(1,_)] Tryz.func170 Tryz.ntmps170 fun B hB=>?_
   repeat' (first | refine jR ?_ | (refine jo ?_;first | refine aC rfl ?_ | (refine eF rfl rfl rfl (eI oM) rfl ?_;rintro _ ⟨n,rfl,hnum⟩)) | (refine ar rfl rfl ?_ ?_;(focus ((simp [*];done);done))) | refine ac rfl (ay ‹_›) ?_)
   all_goals refine jY (vs:=[_]) ?_
   all_goals (simp [*])
  ·have hm:=d6 hn
   have h0 : 0 ≤ m:=by
    unfold aK at hn
    split at hn
    ·split at hn
     ·rename_i hd
      split at hn
      ·simp only [Option.some.injEq] at hn;subst hn;exact qL (Int.le_refl 0) hd
      ·cases hn
     ·cases hn
    ·cases hn
   have ev : decide (v ≠ [48]) = decide (0 < m):=by
    refine decide_eq_decide.2 ?_
    rw [hm.2.1]
    constructor
    ·intro h2
     rcases Int.lt_or_le 0 m with h3 | h3
     ·exact h3
     ·have : m = 0:=oM
      subst this
      exact absurd (by rw [d9 oM oM];rfl) h2
    ·intro h2 h3
     obtain ⟨c,r,e2,hc⟩:=nB m.toNat (Nat.le_refl _) oM
     rw [e2] at h3
     simp only [List.cons.injEq] at h3
     exact hc (by rw [h3.1];rfl)
   have cx_pnum : a9 adz 90 [S v,I 999999] G (· = Tu [I m,Bo true]):=by
    refine (eI (G:=G) (top:=999999) (s:=v) oM).mono ?_
    rintro w G' L' ⟨h2,h3,n,rfl,h4⟩
    exact ⟨h2,h3,by rw [hn,h4 m hn];rfl⟩
   rw [ev]
   refine jE [(0,_),(1,_)] Tryz.func170 Tryz.ntmps170 fun B hB=>?_
   repeat' (first | refine jR ?_ | (refine jo ?_;first | refine aM rfl ?_ | refine ae rfl rfl rfl cx_pnum rfl ?_) | refine aF rfl rfl rfl ?_ | refine ac rfl (ay ‹_›) ?_)
   all_goals refine jY (vs:=[_]) ?_
   all_goals (simp [*])
 by_cases h2 : b = [116]
 ·have e : bZ b v = (dW v && decide (v ≠ [39,39])):=by rw [bZ,if_neg h1,if_pos h2]
  rw [e,zI]
  have e4 : (((v.length : Nat) : Int) - 1).toNat = v.length - 1:=oM
  by_cases hl : 2 < v.length
  case neg =>
   rw [decide_eq_false hl,Bool.false_and]
   refine jE [(0,_),(1,_)] Tryz.func170 Tryz.ntmps170 fun B hB=>?_
   repeat' (first | refine jR ?_ | (refine jo ?_;refine aC rfl ?_) | (refine ar rfl rfl (by first | rfl | (refine decide_eq_false ?_;(omega))) ?_) | refine ac rfl (ay ‹_›) ?_ | refine ad rfl (aG ‹_›) ?_)
   all_goals refine jY (vs:=[_]) ?_
   all_goals rfl
  rw [decide_eq_true hl,Bool.true_and]
  by_cases hq : bt v 0 = 39
  case neg =>
   have hq2 : ¬ bt v (Int.toNat 0) = 39:=hq
   rw [decide_eq_false hq,Bool.false_and]
   refine jE [(0,_),(1,_)] Tryz.func170 Tryz.ntmps170 fun B hB=>?_
   repeat' (first | refine jM ?_ | (refine jo ?_;first | refine aM rfl ?_ | refine aC rfl ?_) | refine aF rfl rfl (ay oM) ?_ | (refine ar rfl rfl (by first | rfl | (refine decide_eq_false ?_;(omega))) ?_) | refine ac rfl (ay ‹_›) ?_ | refine ad rfl (aG ‹_›) ?_)
   all_goals refine jY (vs:=[_]) ?_
   all_goals rfl
  have hq2 : bt v (Int.toNat 0) = 39:=hq
  rw [decide_eq_true hq,Bool.true_and]
  by_cases hr : bt v (v.length - 1) = 39
  case neg =>
   have hr2 : ¬ bt v (((v.length : Nat) : Int) - 1).toNat = 39:=by rw [e4];exact hr
   rw [decide_eq_false hr,Bool.false_and]
   refine jE [(0,_),(1,_)] Tryz.func170 Tryz.ntmps170 fun B hB=>?_
   repeat' (first | refine jM ?_ | (refine jo ?_;first | refine aM rfl ?_ | refine aC rfl ?_) | refine aF rfl rfl (ay oM) ?_ | refine ar rfl rfl (aG oM) ?_ | refine ac rfl (ay ‹_›) ?_ | refine ad rfl (aG ‹_›) ?_)
   all_goals refine jY (vs:=[_]) ?_
   all_goals rfl
  have hr2 : bt v (((v.length : Nat) : Int) - 1).toNat = 39:=by rw [e4];exact hr
  rw [decide_eq_true hr,Bool.true_and]
  refine jE [(0,_),(1,_)] Tryz.func170 Tryz.ntmps170 fun B hB=>?_
  repeat' (first | refine jM ?_ | (refine jo ?_;first | refine aM rfl ?_ | (refine ae rfl rfl rfl (yu ?_) rfl ?_;(focus ((simp;omega);done)))) | refine aF rfl rfl (ay oM) ?_ | refine ac rfl (ay ‹_›) ?_ | refine ad rfl (aG ‹_›) ?_)
  all_goals refine jY (vs:=[_]) ?_
  all_goals rw [e4];rfl
 ·have e : bZ b v = (decide (b = [102]) && decide (v = [121,101,115])):=by
   rw [bZ,if_neg h1,if_neg h2]
   by_cases h3 : b = [102]
   ·rw [if_pos h3,decide_eq_true h3,Bool.true_and]
   ·rw [if_neg h3,decide_eq_false h3,Bool.false_and]
  rw [e]
  refine jE [(0,_),(1,_)] Tryz.func170 Tryz.ntmps170 fun B hB=>?_
  repeat' (first | refine jR ?_ | (refine jo ?_;first | refine aM rfl ?_ | refine aC rfl ?_) | refine fp rfl rfl (fun _=>?_) (fun _=>?_) | refine ad rfl (aG ‹_›) ?_)
  all_goals refine jY (vs:=[_]) ?_
  all_goals (simp [*])
theorem xB {c v : adA} (h : bU c = true) : (decide (sg c = []) && bZ (bs c) v) = bZ c v:=by
 match c,h with
 | x :: r,h =>
  by_cases h1 : x.toNat = 91 ∨ x.toNat = 63
  ·have hs : sg (x :: r) ≠ []:=by
    unfold sg
    rw [bN,if_pos h1]
    have:=mv r
    intro e
    have e2:=congrArg List.length e
    simp only [List.length_take,List.length_cons,List.length_nil] at e2
    omega
   rw [decide_eq_false hs,Bool.false_and]
   unfold bZ
   rw [if_neg,if_neg,if_neg]
   all_goals (intro e;simp only [List.cons.injEq] at e;have:=congrArg UInt8.toNat e.1;revert this;rcases h1 with h1 | h1 <;> rw [h1] <;> decide)
  ·have hc : bN (x :: r) = x :: r:=by rw [bN,if_neg h1]
   have hs : sg (x :: r) = []:=by unfold sg;rw [hc];simp
   rw [decide_eq_true hs,Bool.true_and]
   by_cases h2 : x.toNat = 64
   ·have hb : bs (x :: r) = [64]:=by unfold bs;rw [hc];simp [oD,h2]
    rw [hb]
    have e1 : bZ [64] v = false:=by unfold bZ;simp
    rw [e1]
    unfold bZ
    rw [if_neg,if_neg,if_neg]
    all_goals (intro e;simp only [List.cons.injEq] at e;have:=congrArg UInt8.toNat e.1;revert this;rw [h2];decide)
   ·have hb : bs (x :: r) = x :: r:=by unfold bs;rw [hc];simp [oD,h2]
    rw [hb]
def ql (s : adA) (k : Nat) (v : Value) (_ : Gh) : Prop:=∃ f ok,v = Tu [Ag (iF f),Bo ok] ∧ cm s k = if ok = true then some f else none
theorem mz {s : adA} {xs : List adA} {k : Nat} {c : UInt8} (n : Nat) (h : s.length ≤ 100000000) (hc : c.toNat = k) (e : aZ k s = xs) (hn : xs.length = n) (h0 : 0 < n) :
  bB adz 89 [S s,S [c]] G (fun v G'=>∃ b o cap,v = .slice (some ⟨b,o,none⟩) n cap ∧ b9 G' b o (ak cn xs)):=by
 subst hn;subst e;subst hc
 refine (vh (G:=G) (s:=s) (c:=c) h).mono ?_
 rintro v G' L' ⟨h1,h2,h3⟩
 obtain ⟨b,o,cap,rfl,hs⟩:=h3.expl h0
 exact ⟨h1,h2,b,o,cap,rfl,hs⟩
theorem vd {s : adA} (h : s.length ≤ 2000000) (e : bU s = true) : a9 adz 103 [S s] G (· = Tu [Ag (c5 s),Bo true]):=by
 refine (mA (G:=G) h).mono ?_
 rintro v G' L' ⟨h1,h2,a,b,c,rfl,h3⟩
 obtain ⟨rfl,rfl,rfl⟩:=h3 e
 exact ⟨h1,h2,by rw [e];rfl⟩
theorem u9 {s : adA} {top m : Int} (h : s.length ≤ 100000000) (e : aK s top = some m) : a9 adz 90 [S s,I top] G (· = Tu [I m,Bo true]):=by
 refine (eI (G:=G) (top:=top) h).mono ?_
 rintro v G' L' ⟨h1,h2,n,rfl,h3⟩
 exact ⟨h1,h2,by rw [e,h3 m e];rfl⟩
theorem va {s : adA} {top : Int} (h : s.length ≤ 100000000) (e : aK s top = none) : a9 adz 90 [S s,I top] G (fun v=>∃ n,v = Tu [I n,Bo false]):=by
 refine (eI (G:=G) (top:=top) h).mono ?_
 rintro v G' L' ⟨h1,h2,n,rfl,h3⟩
 exact ⟨h1,h2,n,by rw [e];rfl⟩
theorem nG {s : adA} {k : Nat} (h : s.length ≤ 1000) (e : (aZ 58 (aH 61 s).1).length ≠ if k = 69 then 2 else 3) : bB adz 155 [S s,U8 k] G (ql s k):=by
 have hcl:=kE (k:=61) (s:=s)
 have cx_cut : a9 adz 135 [S s,S [61]] G (· = Tu [S (aH 61 s).1,S (aH 61 s).2.1,Bo (aH 61 s).2.2]):=qj (c:=61) oM
 have cx_split:=mz (G:=G) (c:=58) (k:=58) _ (s:=(aH 61 s).1) oM rfl rfl rfl en
 have hno : cm s k = none:=by
  rw [← qF]
  unfold nw
  split
  ·rename_i e2
   rw [e2] at e
   split
   ·rename_i hk;simp [hk.1] at e
   ·rfl
  ·rename_i e2
   rw [e2] at e
   split
   ·rfl
   ·rename_i hk;simp [hk] at e
  ·rfl
 have hpos:=en (k:=58) (s:=(aH 61 s).1)
 generalize hn : (aZ 58 (aH 61 s).1).length = n at *
 by_cases hk : k = 69
 ·rw [if_pos hk] at e
  refine jB [(0,_),(1,_)] Tryz.func155 Tryz.ntmps155 fun B hok hB hW=>?_
  repeat' (first | refine jR ?_ | (refine jo ?_;first | refine jL fun _=>?_ | refine jV (af rfl) ?_ | refine jV (ax rfl rfl) ?_ | refine jC rfl rfl rfl ?_ | refine ae rfl rfl rfl cx_cut rfl ?_ | (refine an rfl rfl rfl cx_split rfl ?_;rintro _ G hle ⟨b1,o1,cap1,rfl,hseg⟩;skip)) | refine ac rfl (ay oM) ?_)
  all_goals refine jZ (vs:=[_,_]) rfl ⟨aJ rfl rfl rfl rfl,rfl,trivial⟩ rfl ⟨hle,rfl,?_⟩
  all_goals exact ⟨default,false,rfl,by rw [hno];rfl⟩
 ·rw [if_neg hk] at e
  refine jB [(0,_),(1,_)] Tryz.func155 Tryz.ntmps155 fun B hok hB hW=>?_
  repeat' (first | refine jR ?_ | (refine jo ?_;first | refine jL fun _=>?_ | refine jV (af rfl) ?_ | refine jV (ax rfl rfl) ?_ | refine jC rfl rfl rfl ?_ | refine ae rfl rfl rfl cx_cut rfl ?_ | (refine an rfl rfl rfl cx_split rfl ?_;rintro _ G hle ⟨b1,o1,cap1,rfl,hseg⟩;skip)) | refine ac rfl (ay oM) ?_ | refine ad rfl (aG oM) ?_)
  all_goals refine jZ (vs:=[_,_]) rfl ⟨aJ rfl rfl rfl rfl,rfl,trivial⟩ rfl ⟨hle,rfl,?_⟩
  all_goals exact ⟨default,false,rfl,by rw [hno];rfl⟩
theorem tI {s a b : adA} (h : s.length ≤ 1000) (e : aZ 58 (aH 61 s).1 = [a,b]) : bB adz 155 [S s,U8 (69 : Nat)] G (ql s 69):=by
  have hcl:=kE (k:=61) (s:=s)
  have cx_cut : a9 adz 135 [S s,S [61]] G (· = Tu [S (aH 61 s).1,S (aH 61 s).2.1,Bo (aH 61 s).2.2]):=qj (c:=61) oM
  have cx_split:=mz (G:=G) (c:=58) (k:=58) 2 (s:=(aH 61 s).1) oM rfl e rfl oM
  have ha : a.length ≤ 1000:=by have:=df (k:=58) (s:=(aH 61 s).1) (x:=a) (by rw [e];simp);omega
  have hb : b.length ≤ 1000:=by have:=df (k:=58) (s:=(aH 61 s).1) (x:=b) (by rw [e];simp);omega
  have hall : cm s 69 = if (aH 61 s).2.2 = false then match aK a 200 with
      | some n=>if 1 ≤ n ∧ cP b = true then some ⟨n,b,[],[]⟩ else none
      | none=>none else none:=by
    rw [← qF];unfold nw;rw [e];simp <;> rfl
  generalize hto : (aH 61 s).2.2 = told at *
  generalize hva : (aH 61 s).2.1 = val at *
  rcases hm : aK a 200 with _ | m
  · have hno : cm s 69 = none:=by rw [hall,hm];simp
    have cx_pn : ∀ G,a9 adz 90 [S a,I 200] G (fun v=>∃ n,v = Tu [I n,Bo false]):=fun G=>va oM hm
    refine jB [(0,_),(1,_)] Tryz.func155 Tryz.ntmps155 fun B hok hB hW=>?_
    repeat' (first | refine jR ?_ | (refine jo ?_;first | refine jL fun _=>?_ | refine jV (af rfl) ?_ | refine jV (ax rfl rfl) ?_ | refine jC rfl rfl rfl ?_ | refine jV (aN rfl rfl oM) ?_ | refine jV (aj rfl rfl aS rfl rfl) ?_ | refine aM rfl ?_ | refine ae rfl rfl rfl cx_cut rfl ?_ | (refine an rfl rfl rfl cx_split rfl ?_;rintro _ G hle ⟨b1,o1,cap1,rfl,hseg⟩;skip) | (refine eF rfl rfl rfl (cx_pn _) rfl ?_;rintro _ ⟨n,rfl⟩)) | refine aF rfl rfl rfl ?_ | refine ac rfl rfl ?_ | refine ad rfl rfl ?_)
    all_goals refine jZ (vs:=[_,_]) rfl ⟨aJ rfl rfl rfl rfl,rfl,trivial⟩ rfl ⟨hle,rfl,?_⟩
    all_goals exact ⟨default,false,rfl,by rw [hno];rfl⟩
  have cx_pq : ∀ G,a9 adz 90 [S a,I 200] G (· = Tu [I m,Bo true]):=fun G=>u9 oM hm
  rw [hm] at hall
  dsimp only at hall
  by_cases hg : 1 ≤ m ∧ cP b = true
  · rw [if_pos hg] at hall
    have hg1:=hg.1
    have hg2 : (!cP b) = false:=by rw [hg.2];rfl
    cases told with
    | true =>
      refine jB [(0,_),(1,_)] Tryz.func155 Tryz.ntmps155 fun B hok hB hW=>?_
      repeat' (first | refine jR ?_ | (refine jo ?_;first | refine jL fun _=>?_ | refine jV (af rfl) ?_ | refine jV (ax rfl rfl) ?_ | refine jC rfl rfl rfl ?_ | refine jV (aN rfl rfl oM) ?_ | refine aD rfl ?_ | refine jV (aj rfl rfl aS rfl rfl) ?_ | refine aM rfl ?_ | refine aC rfl ?_ | refine ae rfl rfl rfl cx_cut rfl ?_ | (refine an rfl rfl rfl cx_split rfl ?_;rintro _ G hle ⟨b1,o1,cap1,rfl,hseg⟩;skip) | refine ae rfl rfl rfl (cx_pq _) rfl ?_ | refine ae rfl rfl rfl (dQ oM) rfl ?_) | refine aF rfl rfl rfl ?_ | (refine ar rfl rfl (by first | rfl | (refine decide_eq_false ?_;(omega))) ?_) | refine ac rfl rfl ?_ | (refine ad rfl (by first | rfl | assumption) ?_))
      all_goals refine jZ (vs:=[_,_]) rfl ⟨aJ rfl rfl rfl rfl,rfl,trivial⟩ rfl ⟨hle,rfl,?_⟩
      all_goals exact ⟨default,false,rfl,by rw [hall];rfl⟩
    | false =>
      have hv : val = []:=by have:=fR hto;rw [this] at hva;exact hva.symm
      refine jB [(0,_),(1,_)] Tryz.func155 Tryz.ntmps155 fun B hok hB hW=>?_
      repeat' (first | refine jR ?_ | (refine jo ?_;first | refine jL fun _=>?_ | refine jV (af rfl) ?_ | refine jV (ax rfl rfl) ?_ | refine jC rfl rfl rfl ?_ | refine jV (aN rfl rfl oM) ?_ | refine aD rfl ?_ | refine bM rfl ?_ | refine jV (aj rfl rfl aS rfl rfl) ?_ | refine aC rfl ?_ | refine ae rfl rfl rfl cx_cut rfl ?_ | (refine an rfl rfl rfl cx_split rfl ?_;rintro _ G hle ⟨b1,o1,cap1,rfl,hseg⟩;skip) | refine ae rfl rfl rfl (cx_pq _) rfl ?_ | refine ae rfl rfl rfl (dQ oM) rfl ?_) | (refine ar rfl rfl (by first | rfl | (refine decide_eq_false ?_;(omega))) ?_) | refine ac rfl rfl ?_ | (refine ad rfl (by first | rfl | assumption) ?_))
      all_goals refine jZ (vs:=[_,_]) rfl ⟨aJ rfl rfl rfl rfl,rfl,trivial⟩ rfl ⟨hle,rfl,?_⟩
      all_goals exact ⟨⟨m,b,[],[]⟩,true,by rw [hv];rfl,by rw [hall];rfl⟩
  · rw [if_neg hg] at hall
    have hno : cm s 69 = none:=by rw [hall];simp
    by_cases h1 : m < 1
    case' neg => have hg2 : (!cP b) = true := by
                  cases hb2 : cP b with
                  | false=>rfl
                  | true=>exact absurd ⟨oM,hb2⟩ hg
    all_goals refine jB [(0,_),(1,_)] Tryz.func155 Tryz.ntmps155 fun B hok hB hW=>?_
    all_goals repeat' (first | refine jR ?_ | (refine jo ?_;first | refine jL fun _=>?_ | refine jV (af rfl) ?_ | refine jV (ax rfl rfl) ?_ | refine jC rfl rfl rfl ?_ | refine jV (aN rfl rfl oM) ?_ | refine aD rfl ?_ | refine jV (aj rfl rfl aS rfl rfl) ?_ | refine aM rfl ?_ | refine aC rfl ?_ | refine ae rfl rfl rfl cx_cut rfl ?_ | (refine an rfl rfl rfl cx_split rfl ?_;rintro _ G hle ⟨b1,o1,cap1,rfl,hseg⟩;skip) | refine ae rfl rfl rfl (cx_pq _) rfl ?_ | refine ae rfl rfl rfl (dQ oM) rfl ?_) | refine aF rfl rfl (ay ‹_›) ?_ | (refine ar rfl rfl (by first | rfl | (refine decide_eq_false ?_;(assumption))) ?_) | (refine ac rfl (by first | rfl | assumption) ?_) | refine ad rfl rfl ?_)
    all_goals refine jZ (vs:=[_,_]) rfl ⟨aJ rfl rfl rfl rfl,rfl,trivial⟩ rfl ⟨hle,rfl,?_⟩
    all_goals exact ⟨default,false,rfl,by rw [hno];rfl⟩
theorem tH {s a b c : adA} {k : Nat} (h : s.length ≤ 1000) (hk : ¬ k = 69) (e : aZ 58 (aH 61 s).1 = [a,b,c]) : bB adz 155 [S s,U8 k] G (ql s k):=by
  have hcl:=kE (k:=61) (s:=s)
  have cx_cut : a9 adz 135 [S s,S [61]] G (· = Tu [S (aH 61 s).1,S (aH 61 s).2.1,Bo (aH 61 s).2.2]):=qj (c:=61) oM
  have cx_split:=mz (G:=G) (c:=58) (k:=58) 3 (s:=(aH 61 s).1) oM rfl e rfl oM
  have ha : a.length ≤ 1000:=by have:=df (k:=58) (s:=(aH 61 s).1) (x:=a) (by rw [e];simp);omega
  have hb : b.length ≤ 1000:=by have:=df (k:=58) (s:=(aH 61 s).1) (x:=b) (by rw [e];simp);omega
  have hc : c.length ≤ 1000:=by have:=df (k:=58) (s:=(aH 61 s).1) (x:=c) (by rw [e];simp);omega
  have hall : cm s k = match aK a 200 with
      | some n=>if (1 ≤ n ∧ cP b = true) ∧ bU c = true ∧ ((aH 61 s).2.2 = true → k = 82 ∧ bZ c (aH 61 s).2.1 = true) then some ⟨n,b,c,(aH 61 s).2.1⟩ else none
      | none=>none:=by
    rw [← qF];unfold nw;rw [e];simp [hk] <;> rfl
  generalize hto : (aH 61 s).2.2 = told at *
  generalize hva : (aH 61 s).2.1 = val at *
  rcases hm : aK a 200 with _ | m
  · have hno : cm s k = none:=by rw [hall,hm]
    have cx_pn : ∀ G,a9 adz 90 [S a,I 200] G (fun v=>∃ n,v = Tu [I n,Bo false]):=fun G=>va oM hm
    refine jB [(0,_),(1,_)] Tryz.func155 Tryz.ntmps155 fun B hok hB hW=>?_
    repeat' (first | refine jR ?_ | (refine jo ?_;first | refine jL fun _=>?_ | refine jV (af rfl) ?_ | refine jV (ax rfl rfl) ?_ | refine jC rfl rfl rfl ?_ | refine jV (aN rfl rfl oM) ?_ | refine jV (aj rfl rfl aS rfl rfl) ?_ | refine aM rfl ?_ | refine ae rfl rfl rfl cx_cut rfl ?_ | (refine an rfl rfl rfl cx_split rfl ?_;rintro _ G hle ⟨b1,o1,cap1,rfl,hseg⟩;skip) | (refine eF rfl rfl rfl (cx_pn _) rfl ?_;rintro _ ⟨n,rfl⟩)) | refine aF rfl rfl rfl ?_ | refine ac rfl rfl ?_ | (refine ad rfl (by first | rfl | (refine decide_eq_false ?_;(omega))) ?_))
    all_goals refine jZ (vs:=[_,_]) rfl ⟨aJ rfl rfl rfl rfl,rfl,trivial⟩ rfl ⟨hle,rfl,?_⟩
    all_goals exact ⟨default,false,rfl,by rw [hno];rfl⟩
  have cx_pq : ∀ G,a9 adz 90 [S a,I 200] G (· = Tu [I m,Bo true]):=fun G=>u9 oM hm
  rw [hm] at hall
  dsimp only at hall
  by_cases hg : 1 ≤ m ∧ cP b = true
  case neg =>
    have hno : cm s k = none:=by rw [hall,if_neg fun h=>hg h.1]
    by_cases h1 : m < 1
    case' neg => have hg2 : (!cP b) = true := by
                  cases hb2 : cP b with
                  | false=>rfl
                  | true=>exact absurd ⟨oM,hb2⟩ hg
    all_goals refine jB [(0,_),(1,_)] Tryz.func155 Tryz.ntmps155 fun B hok hB hW=>?_
    all_goals repeat' (first | refine jR ?_ | (refine jo ?_;first | refine jL fun _=>?_ | refine jV (af rfl) ?_ | refine jV (ax rfl rfl) ?_ | refine jC rfl rfl rfl ?_ | refine jV (aN rfl rfl oM) ?_ | refine aD rfl ?_ | refine jV (aj rfl rfl aS rfl rfl) ?_ | refine aM rfl ?_ | refine aC rfl ?_ | refine ae rfl rfl rfl cx_cut rfl ?_ | (refine an rfl rfl rfl cx_split rfl ?_;rintro _ G hle ⟨b1,o1,cap1,rfl,hseg⟩;skip) | refine ae rfl rfl rfl (cx_pq _) rfl ?_ | refine ae rfl rfl rfl (dQ oM) rfl ?_) | refine aF rfl rfl (ay ‹_›) ?_ | (refine ar rfl rfl (by first | rfl | (refine decide_eq_false ?_;(assumption))) ?_) | (refine ac rfl (by first | rfl | assumption) ?_) | (refine ad rfl (by first | rfl | (refine decide_eq_false ?_;(omega))) ?_))
    all_goals refine jZ (vs:=[_,_]) rfl ⟨aJ rfl rfl rfl rfl,rfl,trivial⟩ rfl ⟨hle,rfl,?_⟩
    all_goals exact ⟨default,false,rfl,by rw [hno];rfl⟩
  have hg1:=hg.1
  have hg2 : (!cP b) = false:=by rw [hg.2];rfl
  by_cases hkc : bU c = true
  case neg =>
    have hkc2 : bU c = false:=by simpa using hkc
    have hno : cm s k = none:=by rw [hall,if_neg fun h=>hkc h.2.1]
    have cx_kn : ∀ G,a9 adz 103 [S c] G (fun v=>∃ x y z,v = Tu [Ag [S x,S y,S z],Bo false]):=fun G=>by
      refine (mA (G:=G) (s:=c) oM).mono ?_
      rintro v G' L' ⟨h1,h2,x,y,z,rfl,_⟩
      exact ⟨h1,h2,x,y,z,by rw [hkc2]⟩
    refine jB [(0,_),(1,_)] Tryz.func155 Tryz.ntmps155 fun B hok hB hW=>?_
    repeat' (first | refine jR ?_ | (refine jo ?_;first | refine jL fun _=>?_ | refine jV (af rfl) ?_ | refine jV (ax rfl rfl) ?_ | refine jC rfl rfl rfl ?_ | refine jV (aN rfl rfl oM) ?_ | refine aD rfl ?_ | refine jV (aj rfl rfl aS rfl rfl) ?_ | refine aC rfl ?_ | refine ae rfl rfl rfl cx_cut rfl ?_ | (refine an rfl rfl rfl cx_split rfl ?_;rintro _ G hle ⟨b1,o1,cap1,rfl,hseg⟩;skip) | refine ae rfl rfl rfl (cx_pq _) rfl ?_ | refine ae rfl rfl rfl (dQ oM) rfl ?_ | (refine eF rfl rfl rfl (cx_kn _) rfl ?_;rintro _ ⟨x,y,z,rfl⟩)) | (refine ar rfl rfl (by first | rfl | (refine decide_eq_false ?_;(omega))) ?_) | (refine ac rfl (by first | rfl | (refine decide_eq_true ?_;(omega))) ?_) | (refine ad rfl (by first | rfl | assumption | (refine decide_eq_false ?_;(omega))) ?_))
    all_goals refine jZ (vs:=[_,_]) rfl ⟨aJ rfl rfl rfl rfl,rfl,trivial⟩ rfl ⟨hle,rfl,?_⟩
    all_goals exact ⟨default,false,rfl,by rw [hno];rfl⟩
  have cx_kq : ∀ G,a9 adz 103 [S c] G (· = Tu [Ag [S (sg c),S (bs c),S (nm c)],Bo true]):=fun G=>vd oM hkc
  cases told with
  | false =>
    have hv : val = []:=by have:=fR hto;rw [this] at hva;exact hva.symm
    have hyes : cm s k = some ⟨m,b,c,val⟩:=by rw [hall,if_pos ⟨hg,hkc,fun h=>by cases h⟩]
    refine jB [(0,_),(1,_)] Tryz.func155 Tryz.ntmps155 fun B hok hB hW=>?_
    repeat' (first | refine jR ?_ | (refine jo ?_;first | refine jL fun _=>?_ | refine jV (af rfl) ?_ | refine jV (ax rfl rfl) ?_ | refine jC rfl rfl rfl ?_ | refine jV (aN rfl rfl oM) ?_ | refine aD rfl ?_ | refine bM rfl ?_ | refine jV (aj rfl rfl aS rfl rfl) ?_ | refine aC rfl ?_ | refine ae rfl rfl rfl cx_cut rfl ?_ | (refine an rfl rfl rfl cx_split rfl ?_;rintro _ G hle ⟨b1,o1,cap1,rfl,hseg⟩;skip) | refine ae rfl rfl rfl (cx_pq _) rfl ?_ | refine ae rfl rfl rfl (dQ oM) rfl ?_ | refine ae rfl rfl rfl (cx_kq _) rfl ?_) | (refine ar rfl rfl (by first | rfl | (refine decide_eq_false ?_;(omega))) ?_) | refine ac rfl (ay oM) ?_ | (refine ad rfl (by first | rfl | assumption | (refine decide_eq_false ?_;(omega))) ?_))
    all_goals refine jZ (vs:=[_,_]) rfl ⟨aJ rfl rfl rfl rfl,rfl,trivial⟩ rfl ⟨hle,rfl,?_⟩
    all_goals exact ⟨⟨m,b,c,val⟩,true,rfl,by rw [hyes];rfl⟩
  | true =>
    have hst:=xB (v:=val) hkc
    by_cases h82 : k = 82
    case neg =>
      have hno : cm s k = none:=by rw [hall,if_neg fun h=>h82 (h.2.2 rfl).1]
      have h83 : ¬ (k : Int) = 82:=oM
      refine jB [(0,_),(1,_)] Tryz.func155 Tryz.ntmps155 fun B hok hB hW=>?_
      repeat' (first | refine jR ?_ | (refine jo ?_;first | refine jL fun _=>?_ | refine jV (af rfl) ?_ | refine jV (ax rfl rfl) ?_ | refine jC rfl rfl rfl ?_ | refine jV (aN rfl rfl oM) ?_ | refine aD rfl ?_ | refine jV (aj rfl rfl aS rfl rfl) ?_ | refine aM rfl ?_ | refine aC rfl ?_ | refine ae rfl rfl rfl cx_cut rfl ?_ | (refine an rfl rfl rfl cx_split rfl ?_;rintro _ G hle ⟨b1,o1,cap1,rfl,hseg⟩;skip) | refine ae rfl rfl rfl (cx_pq _) rfl ?_ | refine ae rfl rfl rfl (dQ oM) rfl ?_ | refine ae rfl rfl rfl (cx_kq _) rfl ?_) | (refine aF rfl rfl (by first | rfl | (refine decide_eq_true ?_;(assumption))) ?_) | (refine ar rfl rfl (by first | rfl | (refine decide_eq_false ?_;(omega))) ?_) | (refine ac rfl (by first | rfl | (refine decide_eq_true ?_;(omega))) ?_) | (refine ad rfl (by first | rfl | assumption | (refine decide_eq_false ?_;(omega))) ?_))
      all_goals refine jZ (vs:=[_,_]) rfl ⟨aJ rfl rfl rfl rfl,rfl,trivial⟩ rfl ⟨hle,rfl,?_⟩
      all_goals exact ⟨default,false,rfl,by rw [hno];rfl⟩
    subst h82
    by_cases hsg : sg c = []
    · rw [decide_eq_true hsg,Bool.true_and] at hst
      by_cases hso : bZ c val = true
      · have hyes : cm s 82 = some ⟨m,b,c,val⟩:=by rw [hall,if_pos ⟨hg,hkc,fun _=>⟨rfl,hso⟩⟩]
        have hso2 : (!bZ (bs c) val) = false:=by rw [hst,hso];rfl
        refine jB [(0,_),(1,_)] Tryz.func155 Tryz.ntmps155 fun B hok hB hW=>?_
        repeat' (first | refine jR ?_ | (refine jo ?_;first | refine jL fun _=>?_ | refine jV (af rfl) ?_ | refine jV (ax rfl rfl) ?_ | refine jC rfl rfl rfl ?_ | refine jV (aN rfl rfl oM) ?_ | refine aD rfl ?_ | refine bM rfl ?_ | refine jV (aj rfl rfl aS rfl rfl) ?_ | refine aM rfl ?_ | refine aC rfl ?_ | refine ae rfl rfl rfl cx_cut rfl ?_ | (refine an rfl rfl rfl cx_split rfl ?_;rintro _ G hle ⟨b1,o1,cap1,rfl,hseg⟩;skip) | refine ae rfl rfl rfl (cx_pq _) rfl ?_ | refine ae rfl rfl rfl (dQ oM) rfl ?_ | refine ae rfl rfl rfl (cx_kq _) rfl ?_ | refine ae rfl rfl rfl (p5 oM) rfl ?_) | refine aF rfl rfl rfl ?_ | (refine ar rfl rfl ?_ ?_;(focus ((first | rfl | (refine decide_eq_false ?_;(omega)) | (simp [*];done));done))) | refine ac rfl rfl ?_ | (refine ad rfl (by first | rfl | assumption) ?_))
        all_goals refine jZ (vs:=[_,_]) rfl ⟨aJ rfl rfl rfl rfl,rfl,trivial⟩ rfl ⟨hle,rfl,?_⟩
        all_goals exact ⟨⟨m,b,c,val⟩,true,rfl,by rw [hyes];rfl⟩
      · have hno : cm s 82 = none:=by rw [hall,if_neg fun h=>hso (h.2.2 rfl).2]
        have hso2 : (!bZ (bs c) val) = true:=by rw [hst];simpa using hso
        refine jB [(0,_),(1,_)] Tryz.func155 Tryz.ntmps155 fun B hok hB hW=>?_
        repeat' (first | refine jR ?_ | (refine jo ?_;first | refine jL fun _=>?_ | refine jV (af rfl) ?_ | refine jV (ax rfl rfl) ?_ | refine jC rfl rfl rfl ?_ | refine jV (aN rfl rfl oM) ?_ | refine aD rfl ?_ | refine jV (aj rfl rfl aS rfl rfl) ?_ | refine aM rfl ?_ | refine aC rfl ?_ | refine ae rfl rfl rfl cx_cut rfl ?_ | (refine an rfl rfl rfl cx_split rfl ?_;rintro _ G hle ⟨b1,o1,cap1,rfl,hseg⟩;skip) | refine ae rfl rfl rfl (cx_pq _) rfl ?_ | refine ae rfl rfl rfl (dQ oM) rfl ?_ | refine ae rfl rfl rfl (cx_kq _) rfl ?_ | refine ae rfl rfl rfl (p5 oM) rfl ?_) | refine aF rfl rfl rfl ?_ | (refine ar rfl rfl ?_ ?_;(focus ((first | rfl | (refine decide_eq_false ?_;(omega)) | (simp [*];done));done))) | (refine ac rfl (by first | rfl | assumption) ?_) | (refine ad rfl (by first | rfl | assumption) ?_))
        all_goals refine jZ (vs:=[_,_]) rfl ⟨aJ rfl rfl rfl rfl,rfl,trivial⟩ rfl ⟨hle,rfl,?_⟩
        all_goals exact ⟨default,false,rfl,by rw [hno];rfl⟩
    · rw [decide_eq_false hsg,Bool.false_and] at hst
      have hno : cm s 82 = none:=by rw [hall,if_neg fun h=>by rw [(h.2.2 rfl).2] at hst;cases hst]
      refine jB [(0,_),(1,_)] Tryz.func155 Tryz.ntmps155 fun B hok hB hW=>?_
      repeat' (first | refine jR ?_ | (refine jo ?_;first | refine jL fun _=>?_ | refine jV (af rfl) ?_ | refine jV (ax rfl rfl) ?_ | refine jC rfl rfl rfl ?_ | refine jV (aN rfl rfl oM) ?_ | refine aD rfl ?_ | refine jV (aj rfl rfl aS rfl rfl) ?_ | refine aM rfl ?_ | refine aC rfl ?_ | refine ae rfl rfl rfl cx_cut rfl ?_ | (refine an rfl rfl rfl cx_split rfl ?_;rintro _ G hle ⟨b1,o1,cap1,rfl,hseg⟩;skip) | refine ae rfl rfl rfl (cx_pq _) rfl ?_ | refine ae rfl rfl rfl (dQ oM) rfl ?_ | refine ae rfl rfl rfl (cx_kq _) rfl ?_) | (refine aF rfl rfl (by first | rfl | (refine decide_eq_true ?_;(assumption))) ?_) | (refine ar rfl rfl (by first | rfl | (refine decide_eq_false ?_;(omega))) ?_) | refine ac rfl rfl ?_ | (refine ad rfl (by first | rfl | assumption) ?_))
      all_goals refine jZ (vs:=[_,_]) rfl ⟨aJ rfl rfl rfl rfl,rfl,trivial⟩ rfl ⟨hle,rfl,?_⟩
      all_goals exact ⟨default,false,rfl,by rw [hno];rfl⟩
theorem uk {s : adA} {k : Nat} (h : s.length ≤ 1000) : bB adz 155 [S s,U8 k] G (ql s k):=by
 by_cases hk : k = 69
 ·subst hk
  by_cases h2 : (aZ 58 (aH 61 s).1).length = 2
  ·match e : aZ 58 (aH 61 s).1,h2 with
   | [a,b],_=>exact tI h e
  ·exact nG h (by simpa using h2)
 ·by_cases h3 : (aZ 58 (aH 61 s).1).length = 3
  ·match e : aZ 58 (aH 61 s).1,h3 with
   | [a,b,c],_=>exact tH h hk e
  ·exact nG h (by simpa [hk] using h3)
theorem kI {s : adA} {xs : List adA} {k : Nat} (n : Nat) (h : s.length ≤ 100000000) (e : aZ k s = xs) (hn : xs.length = n) (h0 : 0 < n) :
  dF adz 65 [S s,U8 k] G [] (fun v L'=>∃ b cap,v = .slice (some ⟨b,0,none⟩) n cap ∧ L' = [.acc (.slice (some ⟨b,0,none⟩) n cap) vq 1 n (qt xs)]):=by
 subst hn;subst e
 refine (vb (G:=G) (k:=k) h).mono ?_
 rintro v G' L' ⟨h1,h2,h3⟩
 obtain ⟨b,cap,rfl⟩:=h3.pos oM
 exact ⟨h1,b,cap,rfl,h2⟩
theorem tJ {s : adA} {top m : Int} (h : s.length ≤ 100000000) (e : aK s top = some m) : a9 adz 66 [S s,I top] G (· = Tu [I m,Bo true]):=by
 refine (ii (G:=G) (top:=top) h).mono ?_
 rintro v G' L' ⟨h1,h2,n,rfl,h3⟩
 exact ⟨h1,h2,by rw [e,h3 m e];rfl⟩
abbrev lK (s : adA) (k : Nat) (v : Value) : Prop:=∃ f ok,v = Tu [Ag (g0 f),Bo ok] ∧ cm s k = if ok then some f else none
theorem ye {s : adA} {k : Nat} (h : (aZ 58 s).length ≠ 2) (h' : (aZ 58 s).length ≠ 3) : cm s k = none:=by
 unfold cm
 split
 ·rename_i e;rw [e] at h;simp at h
 ·rename_i e;rw [e] at h';simp at h'
 ·rfl
theorem qR {s : adA} {k : Nat} (h : s.length ≤ 1000) (e : (aZ 58 s).length ≠ 2) (e' : (aZ 58 s).length ≠ 3) : a9 adz 150 [S s,U8 k] G (lK s k):=by
 have e0 : 0 < (aZ 58 s).length:=en
 generalize hn : (aZ 58 s).length = n at *
 have cx_cut1:=kI (G:=G) (k:=58) n oM rfl hn e0
 have hno : cm s k = none:=ye oM oM
 refine jE [(0,_),(1,_)] Tryz.func150 Tryz.ntmps150 fun B hB=>?_
 repeat' (first | refine jR ?_ | (refine jo ?_;first | refine jL fun _=>?_ | refine jV (af rfl) ?_ | refine aM rfl ?_ | refine aC rfl ?_ | refine jV (ax rfl rfl) ?_ | refine jC rfl rfl rfl ?_ | (refine fx rfl rfl rfl cx_cut1 rfl ?_;rintro _ _ ⟨b1,cap1,rfl,rfl⟩;dsimp only [zA,fA])) | refine aF rfl rfl (ay oM) ?_ | refine fp rfl rfl (fun _=>?_) (fun _=>?_) | (refine ac rfl (by first | rfl | (refine decide_eq_true ?_;(omega))) ?_))
 all_goals refine jZ (vs:=[_,_]) rfl ⟨aJ rfl rfl rfl rfl,rfl,trivial⟩ rfl ⟨rfl,rfl,?_⟩
 all_goals exact ⟨default,false,rfl,by rw [hno];rfl⟩
theorem qQ {s a b : adA} {k : Nat} (h : s.length ≤ 1000) (e : aZ 58 s = [a,b]) : a9 adz 150 [S s,U8 k] G (lK s k):=by
 have ha : a.length ≤ 1000:=Nat.le_trans (df (k:=58) (s:=s) (by rw [e];simp)) h
 have hb : b.length ≤ 1000:=Nat.le_trans (df (k:=58) (s:=s) (by rw [e];simp)) h
 have cx_cut1:=kI (G:=G) (k:=58) 2 oM e rfl oM
 by_cases hk : k = 69
 case neg =>
  have hno : cm s k = none:=by unfold cm;rw [e];simp [hk]
  refine jE [(0,_),(1,_)] Tryz.func150 Tryz.ntmps150 fun B hB=>?_
  repeat' (first | refine jR ?_ | (refine jo ?_;first | refine jL fun _=>?_ | refine jV (af rfl) ?_ | refine aM rfl ?_ | refine jV (ax rfl rfl) ?_ | refine jC rfl rfl rfl ?_ | (refine fx rfl rfl rfl cx_cut1 rfl ?_;rintro _ _ ⟨b1,cap1,rfl,rfl⟩;dsimp only [zA,fA])) | (refine aF rfl rfl (by first | rfl | (refine decide_eq_true ?_;(omega))) ?_) | refine ac rfl rfl ?_)
  all_goals refine jZ (vs:=[_,_]) rfl ⟨aJ rfl rfl rfl rfl,rfl,trivial⟩ rfl ⟨rfl,rfl,?_⟩
  all_goals exact ⟨default,false,rfl,by rw [hno];rfl⟩
 subst hk
 rcases hm : aK a 200 with _ | m
 ·have hno : cm s 69 = none:=by unfold cm;rw [e];simp [hm]
  refine jE [(0,_),(1,_)] Tryz.func150 Tryz.ntmps150 fun B hB=>?_
  repeat' (first | refine jR ?_ | (refine jo ?_;first | refine jL fun _=>?_ | refine jV (af rfl) ?_ | refine aM rfl ?_ | refine aC rfl ?_ | refine jV (ax rfl rfl) ?_ | refine jC rfl rfl rfl ?_ | refine jV (aN rfl rfl oM) ?_ | refine jV (kU rfl rfl rfl) ?_ | refine bM rfl ?_ | (refine fx rfl rfl rfl cx_cut1 rfl ?_;rintro _ _ ⟨b1,cap1,rfl,rfl⟩;dsimp only [zA,fA]) | (refine eF rfl rfl rfl (ii oM) rfl ?_;rintro _ ⟨n,rfl,hnum⟩)) | (refine aF rfl rfl ?_ ?_;(focus ((first | rfl | (simp [*];done));done))) | refine ar rfl rfl rfl ?_ | refine ac rfl rfl ?_ | refine ad rfl rfl ?_)
  all_goals refine jZ (vs:=[_,_]) rfl ⟨aJ rfl rfl rfl rfl,rfl,trivial⟩ rfl ⟨rfl,rfl,?_⟩
  all_goals exact ⟨⟨_,_,_,_⟩,false,rfl,by rw [hno];rfl⟩
 have cx_num:=tJ (G:=G) oM hm
 have hyes : cm s 69 = if 1 ≤ m ∧ cP b = true then some ⟨m,b,[],[]⟩ else none:=by unfold cm;rw [e];simp [hm]
 refine jE [(0,_),(1,_)] Tryz.func150 Tryz.ntmps150 fun B hB=>?_
 repeat' (first | refine jR ?_ | (refine jo ?_;first | refine jL fun _=>?_ | refine jV (af rfl) ?_ | refine aM rfl ?_ | refine aC rfl ?_ | refine jV (ax rfl rfl) ?_ | refine jC rfl rfl rfl ?_ | refine jV (aN rfl rfl oM) ?_ | refine aD rfl ?_ | refine jV (kU rfl rfl rfl) ?_ | refine bM rfl ?_ | (refine fx rfl rfl rfl cx_cut1 rfl ?_;rintro _ _ ⟨b1,cap1,rfl,rfl⟩;dsimp only [zA,fA]) | refine ae rfl rfl rfl cx_num rfl ?_ | refine ae rfl rfl rfl (gA oM) rfl ?_) | refine aF rfl rfl rfl ?_ | refine ar rfl rfl rfl ?_ | refine fp rfl rfl (fun _=>?_) (fun _=>?_) | refine ac rfl rfl ?_ | refine ad rfl rfl ?_ | refine qC rfl (fun _=>?_) (fun _=>?_))
 all_goals refine jZ (vs:=[_,_]) rfl ⟨aJ rfl rfl rfl rfl,rfl,trivial⟩ rfl ⟨rfl,rfl,?_⟩
 all_goals first | exact ⟨⟨m,b,[],[]⟩,true,rfl,by rw [hyes];simp_all;try omega⟩ | exact ⟨⟨m,b,[],[]⟩,false,rfl,by rw [hyes];simp_all;try omega⟩
theorem qb {s a b c d f : adA} {k : Nat} {m : Int} (h : s.length ≤ 1000) (e : aZ 58 s = [a,b,c]) (hk : ¬ k = 69) (hm : aK a 200 = some m) (hg1 : 1 ≤ m) (hg2 : cP b = true) (e2 : aZ 61 c = [d,f]) : a9 adz 150 [S s,U8 k] G (lK s k):=by
 have ha : a.length ≤ 1000:=Nat.le_trans (df (k:=58) (s:=s) (by rw [e];simp)) h
 have hb : b.length ≤ 1000:=Nat.le_trans (df (k:=58) (s:=s) (by rw [e];simp)) h
 have hc : c.length ≤ 1000:=Nat.le_trans (df (k:=58) (s:=s) (by rw [e];simp)) h
 have cx_cut1:=kI (G:=G) (k:=58) 3 oM e rfl oM
 have cx_num:=tJ (G:=G) oM hm
 have hyes : cm s k = if k = 82 ∧ bZ d f = true then some ⟨m,b,d,f⟩ else none:=by
  unfold cm;rw [e];simp [hm,hg1,hg2,hk,e2]
 have hd : d.length ≤ 1000:=Nat.le_trans (df (k:=61) (s:=c) (by rw [e2];simp)) hc
 have hf : f.length ≤ 1000:=Nat.le_trans (df (k:=61) (s:=c) (by rw [e2];simp)) hc
 have cx_cut2:=kI (G:=G) (k:=61) 2 oM e2 rfl oM
 by_cases h82 : k = 82
 ·have h83 : (k : Int) = 82:=oM
  refine jE [(0,_),(1,_)] Tryz.func150 Tryz.ntmps150 fun B hB=>?_
  repeat' (first | refine jR ?_ | (refine jo ?_;first | refine jL fun _=>?_ | refine jV (af rfl) ?_ | refine aM rfl ?_ | refine aC rfl ?_ | refine jV (ax rfl rfl) ?_ | refine jD rfl rfl rfl ?_ | refine jC rfl rfl rfl ?_ | refine jV (aN rfl rfl oM) ?_ | refine aD rfl ?_ | refine jV (kU rfl rfl rfl) ?_ | (refine fx rfl rfl rfl cx_cut1 rfl ?_;rintro _ _ ⟨b1,cap1,rfl,rfl⟩;dsimp only [zA,fA]) | (refine fx rfl rfl rfl cx_cut2 rfl ?_;rintro _ _ ⟨b2,cap2,rfl,rfl⟩;dsimp only [zA,fA]) | refine ae rfl rfl rfl cx_num rfl ?_ | refine ae rfl rfl rfl (gA oM) rfl ?_) | refine aF rfl rfl rfl ?_ | (refine ar rfl rfl (by first | rfl | (refine decide_eq_false ?_;(omega))) ?_) | refine ac rfl rfl ?_ | (refine ad rfl ?_ ?_;(focus ((first | (refine decide_eq_false ?_;(omega)) | (simp [*];done));done))) | (refine am (d4 (id:=14) (tt:=4) rfl al ?_);refine jW 9 [1,2,3] (aa 12 14) ?_;(try (refine Nx.re (d:=76) (v':=Bo true) rfl (congrArg Value.bool (ay ‹_›)) ?_));refine jW 7 [4,6] (aa 12 94) ?_;(refine jG (aa 12 95) 0 rfl (bP rfl rfl rfl rfl) ?_);(refine jG (aa 12 127) 5 rfl (aX rfl rfl rfl) ?_);(refine jG (aa 12 255) 7 rfl (aX rfl rfl rfl) ?_);((refine jA 8 rfl ?_;(refine ae rfl rfl rfl (xe oM) rfl ?_);refine jK (aa 12 511) ?_));((refine jG (aa 12 1023) 9 rfl (bO rfl rfl ?_) ?_;(focus ((rfl);done))));refine jA 10 rfl ?_;(refine jC rfl rfl rfl ?_);refine jK (aa 12 2047) ?_;refine jW 0 [11] (aa 12 4095) ?_;refine jQ ?_))
  all_goals refine jZ (vs:=[_,_]) rfl ⟨aJ rfl rfl rfl rfl,rfl,trivial⟩ rfl ⟨rfl,rfl,?_⟩
  all_goals exact ⟨⟨m,b,d,f⟩,bZ d f,rfl,by rw [hyes];simp [h82]⟩
 ·have h83 : ¬ (k : Int) = 82:=oM
  refine jE [(0,_),(1,_)] Tryz.func150 Tryz.ntmps150 fun B hB=>?_
  repeat' (first | refine jR ?_ | (refine jo ?_;first | refine jL fun _=>?_ | refine jV (af rfl) ?_ | refine aM rfl ?_ | refine aC rfl ?_ | refine jV (ax rfl rfl) ?_ | refine jD rfl rfl rfl ?_ | refine jC rfl rfl rfl ?_ | refine jV (aN rfl rfl oM) ?_ | refine aD rfl ?_ | refine jV (kU rfl rfl rfl) ?_ | (refine fx rfl rfl rfl cx_cut1 rfl ?_;rintro _ _ ⟨b1,cap1,rfl,rfl⟩;dsimp only [zA,fA]) | (refine fx rfl rfl rfl cx_cut2 rfl ?_;rintro _ _ ⟨b2,cap2,rfl,rfl⟩;dsimp only [zA,fA]) | refine ae rfl rfl rfl cx_num rfl ?_ | refine ae rfl rfl rfl (gA oM) rfl ?_) | refine aF rfl rfl rfl ?_ | (refine ar rfl rfl (by first | rfl | (refine decide_eq_false ?_;(omega))) ?_) | refine ac rfl rfl ?_ | (refine ad rfl ?_ ?_;(focus ((first | (refine decide_eq_false ?_;(omega)) | (simp [*];done));done))) | (refine am (d4 (id:=14) (tt:=4) rfl al ?_);refine jW 9 [1,2,3] (aa 12 14) ?_;(try (refine Nx.re (d:=76) (v':=Bo false) rfl (congrArg Value.bool (aG ‹_›)) ?_));refine jW 7 [4,6] (aa 12 94) ?_;(refine jG (aa 12 95) 0 rfl (bP rfl rfl rfl rfl) ?_);(refine jN (aa 12 127) 5 rfl ?_);(refine jN (aa 12 255) 7 rfl ?_);(refine jN (aa 12 511) 8 rfl ?_);((refine jG (aa 12 1023) 9 rfl (bm rfl rfl ?_) ?_;(focus ((rfl);done))));refine jA 10 rfl ?_;(refine jC rfl rfl rfl ?_);refine jK (aa 12 2047) ?_;refine jW 0 [11] (aa 12 4095) ?_;refine jQ ?_))
  all_goals refine jZ (vs:=[_,_]) rfl ⟨aJ rfl rfl rfl rfl,rfl,trivial⟩ rfl ⟨rfl,rfl,?_⟩
  all_goals exact ⟨⟨m,b,d,f⟩,false,rfl,by rw [hyes];simp [h82]⟩
theorem qP {s a b c : adA} {k : Nat} (h : s.length ≤ 1000) (e : aZ 58 s = [a,b,c]) : a9 adz 150 [S s,U8 k] G (lK s k):=by
 have ha : a.length ≤ 1000:=Nat.le_trans (df (k:=58) (s:=s) (by rw [e];simp)) h
 have hb : b.length ≤ 1000:=Nat.le_trans (df (k:=58) (s:=s) (by rw [e];simp)) h
 have hc : c.length ≤ 1000:=Nat.le_trans (df (k:=58) (s:=s) (by rw [e];simp)) h
 have cx_cut1:=kI (G:=G) (k:=58) 3 oM e rfl oM
 by_cases hk : k = 69
 case pos =>
  subst hk
  have hno : cm s 69 = none:=by unfold cm;rw [e];simp
  refine jE [(0,_),(1,_)] Tryz.func150 Tryz.ntmps150 fun B hB=>?_
  repeat' (first | refine jR ?_ | (refine jo ?_;first | refine jL fun _=>?_ | refine jV (af rfl) ?_ | refine aM rfl ?_ | refine aC rfl ?_ | refine jV (ax rfl rfl) ?_ | refine jC rfl rfl rfl ?_ | (refine fx rfl rfl rfl cx_cut1 rfl ?_;rintro _ _ ⟨b1,cap1,rfl,rfl⟩;dsimp only [zA,fA])) | refine aF rfl rfl rfl ?_ | refine ar rfl rfl rfl ?_ | refine ac rfl rfl ?_)
  all_goals refine jZ (vs:=[_,_]) rfl ⟨aJ rfl rfl rfl rfl,rfl,trivial⟩ rfl ⟨rfl,rfl,?_⟩
  all_goals exact ⟨default,false,rfl,by rw [hno];rfl⟩
 rcases hm : aK a 200 with _ | m
 ·have hno : cm s k = none:=by unfold cm;rw [e];simp [hm]
  refine jE [(0,_),(1,_)] Tryz.func150 Tryz.ntmps150 fun B hB=>?_
  repeat' (first | refine jR ?_ | (refine jo ?_;first | refine jL fun _=>?_ | refine jV (af rfl) ?_ | refine aM rfl ?_ | refine aC rfl ?_ | refine jV (ax rfl rfl) ?_ | refine jC rfl rfl rfl ?_ | refine jV (aN rfl rfl oM) ?_ | refine jV (kU rfl rfl rfl) ?_ | refine bM rfl ?_ | (refine fx rfl rfl rfl cx_cut1 rfl ?_;rintro _ _ ⟨b1,cap1,rfl,rfl⟩;dsimp only [zA,fA]) | (refine eF rfl rfl rfl (ii oM) rfl ?_;rintro _ ⟨n,rfl,hnum⟩)) | (refine aF rfl rfl ?_ ?_;(focus ((first | rfl | (simp [*];done));done))) | refine ar rfl rfl rfl ?_ | refine ac rfl rfl ?_ | refine ad rfl (aG oM) ?_)
  all_goals refine jZ (vs:=[_,_]) rfl ⟨aJ rfl rfl rfl rfl,rfl,trivial⟩ rfl ⟨rfl,rfl,?_⟩
  all_goals exact ⟨⟨_,_,_,_⟩,false,rfl,by rw [hno];rfl⟩
 have cx_num:=tJ (G:=G) oM hm
 by_cases hg : 1 ≤ m ∧ cP b = true
 case neg =>
  have hno : cm s k = none:=by unfold cm;rw [e];simp [hm,hg]
  have hg' : m < 1 ∨ cP b = false:=by
   by_cases h1 : m < 1
   ·exact .inl h1
   ·cases hb2 : cP b with
    | false=>exact .inr rfl
    | true=>exact absurd ⟨oM,hb2⟩ hg
  rcases hg' with hg' | hg'
  all_goals refine jE [(0,_),(1,_)] Tryz.func150 Tryz.ntmps150 fun B hB=>?_
  all_goals repeat' (first | refine jR ?_ | (refine jo ?_;first | refine jL fun _=>?_ | refine jV (af rfl) ?_ | refine aM rfl ?_ | refine aC rfl ?_ | refine jV (ax rfl rfl) ?_ | refine jC rfl rfl rfl ?_ | refine jV (aN rfl rfl oM) ?_ | refine aD rfl ?_ | refine jV (kU rfl rfl rfl) ?_ | refine bM rfl ?_ | (refine fx rfl rfl rfl cx_cut1 rfl ?_;rintro _ _ ⟨b1,cap1,rfl,rfl⟩;dsimp only [zA,fA]) | refine ae rfl rfl rfl cx_num rfl ?_ | refine ae rfl rfl rfl (gA oM) rfl ?_) | (refine aF rfl rfl (by first | rfl | (refine decide_eq_true ?_;(assumption))) ?_) | refine ar rfl rfl rfl ?_ | refine fp rfl rfl (fun _=>?_) (fun _=>?_) | (refine ac rfl ?_ ?_;(focus ((first | rfl | (simp [*];done));done))) | refine ad rfl (aG oM) ?_)
  all_goals refine jZ (vs:=[_,_]) rfl ⟨aJ rfl rfl rfl rfl,rfl,trivial⟩ rfl ⟨rfl,rfl,?_⟩
  all_goals exact ⟨⟨_,_,_,_⟩,false,rfl,by rw [hno];rfl⟩
 obtain ⟨hg1,hg2⟩:=hg
 have hyes : cm s k = match aZ 61 c with
  | [d]=>if bU d = true then some ⟨m,b,d,[]⟩ else none
  | [d,e]=>if k = 82 ∧ bZ d e = true then some ⟨m,b,d,e⟩ else none
  | _=>none:=by
  unfold cm;rw [e];simp only [hm,hg1,hg2,hk,if_false,if_true,and_self] <;> rfl
 have hp : 0 < (aZ 61 c).length:=en
 match e2 : aZ 61 c,hp with
 | [d],_ =>
  rw [e2] at hyes
  have cx_cut2:=kI (G:=G) (k:=61) 1 oM e2 rfl oM
  refine jE [(0,_),(1,_)] Tryz.func150 Tryz.ntmps150 fun B hB=>?_
  repeat' (first | refine jR ?_ | (refine jo ?_;first | refine jL fun _=>?_ | refine jV (af rfl) ?_ | refine aM rfl ?_ | refine aC rfl ?_ | refine jV (ax rfl rfl) ?_ | refine jD rfl rfl rfl ?_ | refine jC rfl rfl rfl ?_ | refine jV (ag rfl rfl oM) ?_ | refine jV (aN rfl rfl oM) ?_ | refine aD rfl ?_ | refine jV (kU rfl rfl rfl) ?_ | (refine fx rfl rfl rfl cx_cut1 rfl ?_;rintro _ _ ⟨b1,cap1,rfl,rfl⟩;dsimp only [zA,fA]) | (refine fx rfl rfl rfl cx_cut2 rfl ?_;rintro _ _ ⟨b2,cap2,rfl,rfl⟩;dsimp only [zA,fA]) | refine ae rfl rfl rfl cx_num rfl ?_ | refine ae rfl rfl rfl (gA oM) rfl ?_) | refine aF rfl rfl rfl ?_ | (refine ar rfl rfl (by first | rfl | (refine decide_eq_false ?_;(omega))) ?_) | (refine ad rfl ?_ ?_;(focus ((first | rfl | (refine decide_eq_false ?_;(omega)) | (simp [*];done));done))) | (refine am (d4 (id:=15) (tt:=4) rfl al ?_);refine jW 10 [1] (aa 11 2) ?_;(refine jG (aa 11 3) 0 rfl (bP rfl rfl rfl rfl) ?_);(refine jG (aa 11 7) 2 rfl (af rfl) ?_);refine jW 6 [3,4] (aa 11 31) ?_;(try (refine Nx.re (d:=87) (v':=Bo true) rfl (congrArg Value.bool rfl) ?_));refine jW 5 [5] (aa 11 63) ?_;(refine jG (aa 11 127) 6 rfl (aX rfl rfl rfl) ?_);(refine jA 7 rfl ?_;(refine ae rfl rfl rfl nH rfl ?_);refine jK (aa 11 255) ?_);((refine jG (aa 11 511) 8 rfl (bO rfl rfl ?_) ?_;(focus ((rfl);done))));refine jA 9 rfl ?_;(refine jC rfl rfl rfl ?_);refine jK (aa 11 1023) ?_;refine jW 0 [10] (aa 11 2047) ?_;refine jQ ?_))
  all_goals refine jZ (vs:=[_,_]) rfl ⟨aJ rfl rfl rfl rfl,rfl,trivial⟩ rfl ⟨rfl,rfl,?_⟩
  all_goals exact ⟨⟨m,b,d,[]⟩,bU d,rfl,hyes⟩
 | [d,f],_=>exact qb h e hk hm hg1 hg2 e2
 | d :: f :: g :: r,_ =>
  rw [e2] at hyes
  have cx_cut2:=kI (G:=G) (k:=61) (r.length + 3) oM e2 (by simp) oM
  refine jE [(0,_),(1,_)] Tryz.func150 Tryz.ntmps150 fun B hB=>?_
  repeat' (first | refine jR ?_ | (refine jo ?_;first | refine jL fun _=>?_ | refine jV (af rfl) ?_ | refine aM rfl ?_ | refine aC rfl ?_ | refine jV (ax rfl rfl) ?_ | refine jD rfl rfl rfl ?_ | refine jC rfl rfl rfl ?_ | refine jV (ag rfl rfl oM) ?_ | refine jV (aN rfl rfl oM) ?_ | refine aD rfl ?_ | refine jV (kU rfl rfl rfl) ?_ | (refine fx rfl rfl rfl cx_cut1 rfl ?_;rintro _ _ ⟨b1,cap1,rfl,rfl⟩;dsimp only [zA,fA]) | (refine fx rfl rfl rfl cx_cut2 rfl ?_;rintro _ _ ⟨b2,cap2,rfl,rfl⟩;dsimp only [zA,fA]) | refine ae rfl rfl rfl cx_num rfl ?_ | refine ae rfl rfl rfl (gA oM) rfl ?_) | refine aF rfl rfl rfl ?_ | (refine ar rfl rfl (by first | rfl | (refine decide_eq_false ?_;(omega))) ?_) | (refine ad rfl ?_ ?_;(focus ((first | rfl | (refine decide_eq_false ?_;(omega)) | (simp [*];done));done))) | (refine am (d4 (id:=15) (tt:=4) rfl al ?_);refine jW 10 [1] (aa 11 2) ?_;(refine jG (aa 11 3) 0 rfl (bP rfl rfl rfl rfl) ?_);(refine jG (aa 11 7) 2 rfl (af rfl) ?_);refine jW 6 [3,4] (aa 11 31) ?_;(try (refine Nx.re (d:=87) (v':=Bo false) rfl (congrArg Value.bool rfl) ?_));refine jW 5 [5] (aa 11 63) ?_;(refine jN (aa 11 127) 6 rfl ?_);(refine jN (aa 11 255) 7 rfl ?_);((refine jG (aa 11 511) 8 rfl (bm rfl rfl ?_) ?_;(focus ((rfl);done))));refine jA 9 rfl ?_;(refine jC rfl rfl rfl ?_);refine jK (aa 11 1023) ?_;refine jW 0 [10] (aa 11 2047) ?_;refine jQ ?_))
  all_goals refine jZ (vs:=[_,_]) rfl ⟨aJ rfl rfl rfl rfl,rfl,trivial⟩ rfl ⟨rfl,rfl,?_⟩
  all_goals exact ⟨⟨m,b,d,[]⟩,false,rfl,hyes⟩
theorem mN {s : adA} {k : Nat} (h : s.length ≤ 1000) : a9 adz 150 [S s,U8 k] G (lK s k):=by
 by_cases h2 : (aZ 58 s).length = 2
 ·match e : aZ 58 s,h2 with
  | [a,b],_=>exact qQ h e
 by_cases h3 : (aZ 58 s).length = 3
 ·match e : aZ 58 s,h3 with
  | [a,b,c],_=>exact qP h e
 exact qR h h2 h3
theorem mC {s : adA} {k : Nat} (h : s.length ≤ 100000000) : bB adz 65 [S s,U8 k] G (fun v G'=>aU G' v 1 (aZ k s).length (ak cn (aZ k s))):=by
 refine dF.shutP ((vb (G:=G) (k:=k) h).mono ?_)
 rintro v G' L' ⟨h1,h2,_⟩
 exact ⟨h1,v,_,_,_,_,h2,fun G' _ h3=>by rw [← wl];exact h3⟩
abbrev vt : TypeId:=137
abbrev qZ : TypeId:=155
def ab0 (s : adA) (v : Value) (G : Gh) : Prop:=∃ fv t ok,v = Tu [Ag [U8 (t : Ty).sort,S t.name,fv],Bo ok] ∧ (du s = if ok = true then some t else none) ∧ aU G fv 4 t.fields.length (ak g0 t.fields)
theorem aU.nil0 {G : Gh} {sz : Nat} : aU G aQ sz 0 []:=⟨by simp,.inl ⟨rfl,rfl⟩⟩
theorem fH {α : Type} [Inhabited α] {xs : List α} {i : Nat} (h : i < xs.length) : xs.drop i = ab xs i :: xs.drop (i + 1):=by rw [aA h];exact (List.getElem_cons_drop (h:=h)).symm
theorem vk.sl {v : Value} {m : Nat} (h : vk v m) : ∃ a cap,v = .slice a m cap:=by
 rcases h with ⟨rfl,rfl⟩ | ⟨b,cap,rfl,_⟩
 ·exact ⟨none,0,rfl⟩
 ·exact ⟨_,cap,rfl⟩
theorem lN {c : UInt8} {r : adA} (h : (aH 61 r).2.2 = false) : du (c :: r) = none:=by
 unfold du
 split
 ·rfl
 ·rename_i h1;cases h1
  split
  ·rename_i h2;rw [h2] at h;cases h
  ·rfl
theorem nM {c : UInt8} {r name rest : adA} (h : aH 61 r = (name, rest, true)) : du (c :: r) = if cP name = true ∧ eK c.toNat then
        if rest = [] then (if c.toNat = 82 then some ⟨82,name,[]⟩ else none)
        else match dl c.toNat (aZ 44 rest) [] with
          | some fs=>if fs.length ≤ 8 then some ⟨c.toNat,name,fs⟩ else none
          | none=>none
      else none:=by
  unfold du
  simp only [h];rfl
theorem tK {s : adA} (h : s.length ≤ 1000) : bB adz 132 [S s] G (ab0 s):=by
  refine jB [(0,_)] Tryz.func132 Tryz.ntmps132 fun B hok hB hW=>?_
  repeat' (first | refine jR ?_ | (refine jo ?_;refine jL fun _=>?_))
  rename_i x
  refine aT (ι:=Nat) (fun i=>i ≤ s.length ∧ ∀ k,k < i → bt s k ≠ 61) (fun i=>[(0,S s),(2,Pt x 0),(4,I i)]) (fun _=>G) (fun i=>[.blk x (.cells [U8 0,S [],aQ].toArray qZ (0,0))]) (fun i=>s.length - i) 0 ?_ tU rfl a7 (fun i Hi=>?_)
  · exact ⟨oM,fun k hk=>absurd hk oM⟩
  by_cases hi : i < s.length ∧ bt s i ≠ 61
  · repeat' (first | refine jM ?_ | (refine jo ?_;refine aM rfl ?_) | refine aF rfl rfl (ay oM) ?_ | (refine ac rfl ?_ ?_;(focus ((simp;omega);done))))
    refine bh (i + 1) ⟨oM,fun k hk=>?_⟩ oM tU rfl a7
    rcases Nat.lt_or_ge k i with h3 | h3
    · exact Hi.2 k h3
    · have : k = i:=oM
      subst this;exact hi.2
  rcases Nat.lt_or_ge i s.length with hlt | hge
  case inr =>
    have hno : du s = none:=by
      match s,Hi,hge with
      | [],_,_=>rfl
      | c :: r,Hi,hge =>
        refine lN ?_
        rw [qN fun j hj=>by have:=Hi.2 (j + 1) (by simp at hge;omega);rwa [er] at this]
    repeat' (first | refine jR ?_ | (refine jo ?_;first | refine aM rfl ?_ | refine aC rfl ?_ | refine jV (ax rfl rfl) ?_ | refine jC rfl rfl rfl ?_) | refine ar rfl rfl (aG oM) ?_ | refine fp rfl rfl (fun _=>?_) (fun _=>?_) | (refine ac rfl (by first | rfl | (refine decide_eq_true ?_;(omega))) ?_) | refine ad rfl rfl ?_)
    all_goals refine jZ (vs:=[_,_]) rfl ⟨aJ rfl rfl rfl rfl,rfl,trivial⟩ rfl ⟨Gh.le.refl _,rfl,?_⟩
    all_goals exact ⟨aQ,default,false,rfl,by rw [hno];rfl,aU.nil0⟩
  have h61 : bt s i = 61:=by
    rcases Nat.lt_or_ge (bt s i) 61 with h1 | h1
    · exact absurd ⟨hlt,oM⟩ hi
    · rcases Nat.lt_or_ge 61 (bt s i) with h2 | h2
      · exact absurd ⟨hlt,oM⟩ hi
      · omega
  match s,i,Hi,hlt,h61,h with
  | c :: r,0,Hi,hlt,h61,h =>
    have hno : du (c :: r) = none:=by
      rw [bj] at h61
      cases ht : (aH 61 r).2.2 with
      | false=>exact lN ht
      | true =>
        rw [nM (c:=c) (r:=r) (name:=(aH 61 r).1) (rest:=(aH 61 r).2.1) (by rw [← ht])]
        rw [if_neg]
        rintro ⟨_,h2⟩
        unfold eK at h2;omega
    have h62 : bt (c :: r) ((0 : Nat) : Int).toNat = 61:=h61
    repeat' (first | refine jM ?_ | (refine jo ?_;first | refine aM rfl ?_ | refine jV (ax rfl rfl) ?_ | refine jC rfl rfl rfl ?_) | (refine aF rfl rfl (by first | rfl | (refine decide_eq_true ?_;(omega))) ?_) | refine ac rfl rfl ?_ | refine ad rfl (aG oM) ?_)
    all_goals refine jZ (vs:=[_,_]) rfl ⟨aJ rfl rfl rfl rfl,rfl,trivial⟩ rfl ⟨Gh.le.refl _,rfl,?_⟩
    all_goals exact ⟨aQ,default,false,rfl,by rw [hno];rfl,aU.nil0⟩
  | c :: r,j + 1,Hi,hlt,h61,h =>
    have hj : j < r.length:=by simpa using hlt
    have hcut1 : aH 61 r = (r.take j,r.drop (j + 1),true):=nW hj (fun k hk=>by have:=Hi.2 (k + 1) oM;rwa [er] at this) (by rwa [er] at h61)
    have hty:=nM (c:=c) hcut1
    have h62 : bt (c :: r) ((j + 1 : Nat) : Int).toNat = 61:=h61
    have e0 : bt (c :: r) (Int.toNat 0) = c.toNat:=bj c r
    have hnl : (r.take j).length ≤ 1000:=by simp at h ⊢;omega
    have cx_nm:=gA (G:=G) (s:=r.take j) oM
    by_cases hg : cP (r.take j) = true ∧ eK c.toNat
    case neg =>
      have hno : du (c :: r) = none:=by rw [hty,if_neg hg]
      by_cases hn : cP (r.take j) = true
      · have hn2 : (!cP (r.take j)) = false:=by rw [hn];rfl
        have hns : ¬ eK c.toNat:=fun h=>hg ⟨hn,h⟩
        unfold eK at hns
        repeat' (first | refine jM ?_ | (refine jo ?_;first | refine aM rfl ?_ | refine aC rfl ?_ | refine jC rfl rfl rfl ?_ | refine aD rfl ?_ | refine bM rfl ?_ | refine ae rfl rfl rfl cx_nm rfl ?_) | refine aF rfl rfl (ay oM) ?_ | (refine ar rfl rfl (by first | rfl | assumption) ?_) | refine ac rfl (ay oM) ?_ | refine ad rfl (aG oM) ?_ | (refine am (ao (id:=6) _ (fun _ h=>h) al ?_);refine jW 3 [0,1,2,3,4] (aa 8 31) ?_;(refine jG (aa 8 63) 5 rfl (ax rfl rfl) ?_);refine jA 6 rfl ?_;(refine jL fun _=>?_);refine jK (aa 8 127) ?_;refine jA 7 rfl ?_;(refine jC rfl rfl rfl ?_);refine jK (aa 8 255) ?_;refine jQ ?_))
        all_goals refine jZ (vs:=[_,_]) rfl ⟨aJ rfl rfl rfl rfl,rfl,trivial⟩ rfl ⟨Gh.le.refl _,rfl,?_⟩
        all_goals exact ⟨aQ,⟨_,_,[]⟩,false,rfl,by rw [hno];rfl,aU.nil0⟩
      · have hn2 : (!cP (r.take j)) = true:=by simpa using hn
        repeat' (first | refine jM ?_ | (refine jo ?_;first | refine aM rfl ?_ | refine aC rfl ?_ | refine jC rfl rfl rfl ?_ | refine aD rfl ?_ | refine bM rfl ?_ | refine ae rfl rfl rfl cx_nm rfl ?_) | (refine aF rfl rfl (by first | assumption | (refine decide_eq_true ?_;(omega))) ?_) | refine ar rfl rfl rfl ?_ | refine ac rfl rfl ?_ | refine ad rfl (aG oM) ?_ | (refine am (ao (id:=6) _ (fun _ h=>h) al ?_);refine jW 3 [0,1,2,3,4] (aa 8 31) ?_;(refine jG (aa 8 63) 5 rfl (ax rfl rfl) ?_);refine jA 6 rfl ?_;(refine jL fun _=>?_);refine jK (aa 8 127) ?_;refine jA 7 rfl ?_;(refine jC rfl rfl rfl ?_);refine jK (aa 8 255) ?_;refine jQ ?_))
        all_goals refine jZ (vs:=[_,_]) rfl ⟨aJ rfl rfl rfl rfl,rfl,trivial⟩ rfl ⟨Gh.le.refl _,rfl,?_⟩
        all_goals exact ⟨aQ,⟨_,_,[]⟩,false,rfl,by rw [hno];rfl,aU.nil0⟩
    have hn2 : (!cP (r.take j)) = false:=by rw [hg.1];rfl
    have hs2:=hg.2
    unfold eK at hs2
    rw [if_pos hg] at hty
    by_cases hrest : r.drop (j + 1) = []
    · rw [if_pos hrest] at hty
      by_cases h82 : c.toNat = 82
      · rw [if_pos h82] at hty
        have e82 : bt (c :: r) (Int.toNat 0) = 82:=oM
        repeat' (first | refine jM ?_ | (refine jo ?_;first | refine aM rfl ?_ | refine aC rfl ?_ | refine aD rfl ?_ | refine ae rfl rfl rfl cx_nm rfl ?_) | refine aF rfl rfl (ay oM) ?_ | (refine ar rfl rfl (by first | rfl | assumption | (refine decide_eq_false ?_;(omega))) ?_) | refine ac rfl (ay ‹_›) ?_ | (refine ad rfl (by first | rfl | (refine decide_eq_false ?_;(omega))) ?_) | (refine am (ao (id:=6) _ (fun _ h=>h) al ?_);refine jW 3 [0,1,2,3,4] (aa 8 31) ?_;(refine jG (aa 8 63) 5 rfl (ax rfl rfl) ?_);refine jA 6 rfl ?_;(refine jL fun _=>?_);refine jK (aa 8 127) ?_;refine jA 7 rfl ?_;(refine jC rfl rfl rfl ?_);refine jK (aa 8 255) ?_;refine jQ ?_) | (refine am (d4 (id:=10) (tt:=2) rfl al ?_);refine jW 5 [1] (aa 6 2) ?_;(refine jG (aa 6 3) 0 rfl (bP rfl rfl rfl rfl) ?_);(refine jG (aa 6 7) 2 rfl (aX rfl rfl rfl) ?_);refine jW 2 [3] (aa 6 15) ?_;refine jA 4 rfl ?_;(refine jC rfl rfl rfl ?_);refine jK (aa 6 31) ?_;refine jW 0 [5] (aa 6 63) ?_;refine jQ ?_))
        all_goals refine jZ (vs:=[_,_]) rfl ⟨aJ rfl rfl rfl rfl,rfl,trivial⟩ rfl ⟨Gh.le.refl _,rfl,?_⟩
        all_goals refine ⟨aQ,⟨82,r.take j,[]⟩,true,?_,hty,aU.nil0⟩
        all_goals show Tu [Ag [U8 (bt (c :: r) (Int.toNat 0) : Nat),S (r.take j),aQ],Bo (decide (((bt (c :: r) (Int.toNat 0) : Nat) : Int) = 82))] = _
        all_goals (rw [e82];rfl)
      · rw [if_neg h82] at hty
        have e82 : ¬ bt (c :: r) (Int.toNat 0) = 82:=oM
        have e83 : decide (((bt (c :: r) (Int.toNat 0) : Nat) : Int) = 82) = false:=decide_eq_false oM
        repeat' (first | refine jM ?_ | (refine jo ?_;first | refine aM rfl ?_ | refine aC rfl ?_ | refine aD rfl ?_ | refine ae rfl rfl rfl cx_nm rfl ?_) | refine aF rfl rfl (ay oM) ?_ | (refine ar rfl rfl (by first | rfl | assumption) ?_) | refine fp rfl rfl (fun _=>?_) (fun _=>?_) | refine ac rfl (ay ‹_›) ?_ | (refine ad rfl (by first | rfl | (refine decide_eq_false ?_;(omega))) ?_) | (refine am (ao (id:=6) _ (fun _ h=>h) al ?_);refine jW 3 [0,1,2,3,4] (aa 8 31) ?_;(refine jG (aa 8 63) 5 rfl (ax rfl rfl) ?_);refine jA 6 rfl ?_;(refine jL fun _=>?_);refine jK (aa 8 127) ?_;refine jA 7 rfl ?_;(refine jC rfl rfl rfl ?_);refine jK (aa 8 255) ?_;refine jQ ?_) | (refine am (d4 (id:=10) (tt:=2) rfl al ?_);refine jW 5 [1] (aa 6 2) ?_;(refine jG (aa 6 3) 0 rfl (bP rfl rfl rfl rfl) ?_);(refine jG (aa 6 7) 2 rfl (aX rfl rfl rfl) ?_);refine jW 2 [3] (aa 6 15) ?_;refine jA 4 rfl ?_;(refine jC rfl rfl rfl ?_);refine jK (aa 6 31) ?_;refine jW 0 [5] (aa 6 63) ?_;refine jQ ?_))
        all_goals refine jZ (vs:=[_,_]) rfl ⟨aJ rfl rfl rfl rfl,rfl,trivial⟩ rfl ⟨Gh.le.refl _,rfl,?_⟩
        all_goals refine ⟨aQ,⟨bt (c :: r) (Int.toNat 0),r.take j,[]⟩,false,?_,hty,aU.nil0⟩
        all_goals show Tu [Ag [U8 (bt (c :: r) (Int.toNat 0) : Nat),S (r.take j),aQ],Bo (decide (((bt (c :: r) (Int.toNat 0) : Nat) : Int) = 82))] = _
        all_goals (rw [e83])
    rw [if_neg hrest] at hty
    have hrl : (r.drop (j + 1)).length ≤ 1000:=by simp at h ⊢;omega
    have hcl:=ic (k:=44) (s:=r.drop (j + 1))
    have cx_cutS:=mC (G:=G) (s:=r.drop (j + 1)) (k:=44) oM
    have hall : ∀ y ∈ aZ 44 (r.drop (j + 1)),y.length ≤ 1000:=fun y hy=>Nat.le_trans (df hy) hrl
    generalize hxs : aZ 44 (r.drop (j + 1)) = xs at *
    rcases hs2 with h1 | h1 | h1
    all_goals repeat' (first | refine jM ?_ | (refine jo ?_;first | refine aM rfl ?_ | refine aC rfl ?_ | refine aD rfl ?_ | refine ae rfl rfl rfl cx_nm rfl ?_ | (refine an rfl rfl rfl cx_cutS rfl ?_;rintro _ G hle hcut;skip)) | refine aF rfl rfl (ay oM) ?_ | (refine ar rfl rfl (by first | rfl | assumption | (refine decide_eq_false ?_;(omega))) ?_) | (refine ad rfl (by first | rfl | (refine decide_eq_false ?_;first | assumption | omega)) ?_) | (refine am (ao (id:=6) _ (fun _ h=>h) al ?_);refine jW 3 [0,1,2,3,4] (aa 8 31) ?_;(refine jG (aa 8 63) 5 rfl (ax rfl rfl) ?_);refine jA 6 rfl ?_;(refine jL fun _=>?_);refine jK (aa 8 127) ?_;refine jA 7 rfl ?_;(refine jC rfl rfl rfl ?_);refine jK (aa 8 255) ?_;refine jQ ?_))
    all_goals rename_i y v
    all_goals refine Nx.addNil vt 4 ?_
    all_goals refine aT (ι:=Value × List Fld × Nat) (fun i=>i.2.2 ≤ xs.length ∧ i.2.1.length ≤ i.2.2 ∧ dl c.toNat (xs.drop i.2.2) i.2.1 = dl c.toNat xs []) (fun i=>[(2,Pt x 0),(5,Pt y 0),(6,v),(7,I i.2.2)]) (fun _=>G) (fun i=>[.acc i.1 vt 4 i.2.1.length (ak g0 i.2.1),.blk y (.cells [U8 (bt (c :: r) (Int.toNat 0) : Nat),S (r.take j),i.1].toArray qZ (0,0)),.blk x (.cells [U8 0,S [],aQ].toArray qZ (0,0))]) (fun i=>xs.length - i.2.2) (aQ,[],0) ?_ tU rfl a7 (fun i Hi=>?_)
    all_goals (first | exact ⟨Nat.zero_le _,Nat.le_refl _,rfl⟩ | skip)
    all_goals obtain ⟨u,fs,i⟩:=i
    all_goals dsimp only at Hi ⊢
    all_goals obtain ⟨hi1,hi2,hi3⟩:=Hi
    all_goals refine Nx.shp (v:=u) (.head _) fun hsh=>?_
    all_goals (have hsh2:=hsh;obtain ⟨au,cu,rfl⟩:=hsh.sl)
    all_goals by_cases hix : i < xs.length
    all_goals try (rw [fH hix,dl] at hi3;obtain ⟨bv,ov,cv,rfl,hsv⟩:=hcut.expl oM;have hx:=hall _ (bc hix))
    all_goals repeat' (first | refine jR ?_ | (refine jo ?_;first | refine jC rfl rfl rfl ?_ | refine bM rfl ?_ | refine jV (af rfl) ?_ | refine jV (eM rfl aS) ?_) | refine ac rfl (ay oM) ?_ | refine ad rfl (aG oM) ?_ | refine qC rfl (fun _=>?_) (fun _=>?_) | (refine am (ao (id:=15) _ (fun _ h=>h) al ?_);refine jT 10 [0,1,4] (aa 13 19) ?_;(refine jG (aa 13 23) 2 rfl (ag rfl rfl oM) ?_);((refine jG (aa 13 31) 3 rfl (eN rfl rfl aS ?_) ?_;focus omega));(refine jG (aa 13 63) 5 rfl (aX rfl rfl rfl) ?_);refine b8 [6,10] kR dC ⟨?_,?_,trivial⟩;(focus (refine aO rfl rfl ?_;(refine eF rfl rfl rfl (mN oM) rfl ?_;rintro _ ⟨f,ok,rfl,hfld⟩);refine jK (aa 13 127) ?_;refine jW 3 [7,8,9] (aa 13 1023) ?_;refine jA 10 rfl ?_;(refine jL fun _=>?_);refine jK (aa 13 2047) ?_;refine jA 11 rfl ?_;(refine jC rfl rfl rfl ?_);refine jK (aa 13 4095) ?_;refine jW 0 [12] (aa 13 8191) ?_;refine jQ ?_));rotate_left 1;(focus (refine aO rfl rfl ?_;(refine jL fun _=>?_);refine jK (aa 13 1087) ?_;refine jA 6 rfl ?_;(refine eF rfl rfl rfl (mN oM) rfl ?_;rintro _ ⟨f,ok,rfl,hfld⟩);refine jK (aa 13 1151) ?_;refine jW 2 [7,8,9] (aa 13 2047) ?_;refine jA 11 rfl ?_;(refine jC rfl rfl rfl ?_);refine jK (aa 13 4095) ?_;refine jW 0 [12] (aa 13 8191) ?_;refine jQ ?_));rotate_left 1) | (refine am (d4 (id:=24) (tt:=2) rfl al ?_);refine jW 6 [1] (aa 7 2) ?_;(refine jG (aa 7 3) 0 rfl (bP rfl rfl rfl rfl) ?_);(refine jG (aa 7 7) 2 rfl (aX rfl rfl rfl) ?_);(refine jG (aa 7 15) 3 rfl (af rfl) ?_);refine jW 2 [4] (aa 7 31) ?_;refine jA 5 rfl ?_;(refine jC rfl rfl rfl ?_);refine jK (aa 7 63) ?_;refine jW 0 [6] (aa 7 127) ?_;refine jQ ?_))
    all_goals first
      | (rename_i z hq
         have hq2 : ok = false:=by simpa using hq
         subst hq2
         have hf0 : cm (ab xs i) c.toNat = none:=hfld
         have hno : du (c :: r) = none:=by rw [hf0] at hi3;rw [hty,← hi3]
         refine Nx.sealS (v:=.slice au fs.length cu) fun G' hle2 hsl=>?_
         refine jZ (vs:=[_,_]) rfl ⟨aJ rfl rfl rfl rfl,rfl,trivial⟩ rfl ⟨hle.trans hle2,rfl,?_⟩
         exact ⟨.slice au fs.length cu,⟨bt (c :: r) (Int.toNat 0),r.take j,fs⟩,false,rfl,by rw [hno];rfl,hsl⟩)
      | (have ei : i = xs.length:=oM
         have hyes : du (c :: r) = if fs.length ≤ 8 then some ⟨c.toNat,r.take j,fs⟩ else none:=by
           rw [ei,List.drop_length,dl] at hi3
           rw [hty,← hi3]
         refine Nx.sealS (v:=.slice au fs.length cu) fun G' hle2 hsl=>?_
         refine jZ (vs:=[_,_]) rfl ⟨aJ rfl rfl rfl rfl,rfl,trivial⟩ rfl ⟨hle.trans hle2,rfl,?_⟩
         refine ⟨.slice au fs.length cu,⟨c.toNat,r.take j,fs⟩,decide (fs.length ≤ 8),?_,by rw [hyes];simp,hsl⟩
         rw [gu,e0]
         refine congrArg (fun x=>Tu [_,Bo x]) (decide_eq_decide.2 ?_)
         omega)
      | (rename_i z hq
         have hq2 : ok = true:=by simpa using hq
         subst hq2
         have hf1 : cm (ab xs i) c.toNat = some f:=hfld
         rw [hf1] at hi3
         dsimp only at hi3
         refine aT (ι:=Nat) (fun k=>k ≤ fs.length ∧ ∀ m,m < k → (ab fs m).tag < f.tag ∧ (ab fs m).name ≠ f.name) (fun k=>[(2,Pt x 0),(5,Pt y 0),(6,.slice (some ⟨bv,ov,none⟩) xs.length cv),(7,I i),(8,Pt z 0),(10,I k)]) (fun _=>G) (fun k=>[.blk z (.cells (g0 f).toArray vt (0,0)),.acc (.slice au fs.length cu) vt 4 fs.length (ak g0 fs),.blk y (.cells [U8 (bt (c :: r) (Int.toNat 0) : Nat),S (r.take j),.slice au fs.length cu].toArray qZ (0,0)),.blk x (.cells [U8 0,S [],aQ].toArray qZ (0,0))]) (fun k=>fs.length - k) 0 ?_ tU rfl a7 (fun k Hk=>?_)
         · exact ⟨Nat.zero_le _,fun m hm=>absurd hm oM⟩
         by_cases hk : k < fs.length
         · obtain ⟨bu,cu2,eu⟩:=hsh2.pos oM
           simp only [Value.slice.injEq] at eu
           obtain ⟨rfl,-,rfl⟩:=eu
           by_cases hbad : (ab fs k).tag < f.tag ∧ (ab fs k).name ≠ f.name
           · obtain ⟨hb1,hb2⟩:=hbad
             repeat' (first | refine jM ?_ | (refine jo ?_;first | refine aD rfl ?_ | refine jV (af rfl) ?_) | refine ac rfl (ay oM) ?_ | refine ad rfl (aG ‹_›) ?_ | (refine am (ao (id:=21) _ (fun _ h=>h) al ?_);refine jT 17 [0,2,6] (aa 20 69) ?_;(refine jG (aa 20 71) 1 rfl (aX rfl rfl rfl) ?_);(refine jG (aa 20 79) 3 rfl (ag rfl rfl oM) ?_);refine jT 14 [4] (aa 20 95) ?_;(refine jG (aa 20 127) 5 rfl (gg rfl rfl rfl oM rfl rfl) ?_);(refine jG (aa 20 255) 7 rfl (aX rfl rfl rfl) ?_);refine jT 10 [8,9] (aa 20 1023) ?_;(try ((refine Nx.re (d:=107) (v':=Bo false) rfl (congrArg Value.bool (aG oM)) ?_)));refine jT 7 [10,12,16] (aa 20 71679) ?_;(refine jG (aa 20 73727) 11 rfl (aX rfl rfl rfl) ?_);(refine jG (aa 20 81919) 13 rfl (ag rfl rfl oM) ?_);refine jT 4 [14] (aa 20 98303) ?_;(refine jG (aa 20 131071) 15 rfl (gg rfl rfl rfl oM rfl rfl) ?_);(refine jG (aa 20 262143) 17 rfl (aX rfl rfl rfl) ?_);refine jT 1 [18] (aa 20 524287) ?_;(refine jG (aa 20 1048575) 19 rfl (bm rfl rfl rfl) ?_);refine jQ ?_))
             refine bh (k + 1) ⟨oM,fun m hm=>?_⟩ oM tU rfl a7
             rcases Nat.lt_or_ge m k with h3 | h3
             · exact Hk.2 m h3
             · have : m = k:=oM
               subst this;exact ⟨hb1,hb2⟩
           · have hfr : fresh f fs = false:=by
               unfold fresh
               rw [List.all_eq_false]
               exact ⟨ab fs k,bc hk,by simpa using hbad⟩
             have hno : du (c :: r) = none:=by
               rw [hfr,if_neg (by simp)] at hi3
               rw [hty,← hi3]
             by_cases htag : f.tag ≤ (ab fs k).tag
             case' neg => have hnm : (ab fs k).name = f.name := by
                           by_cases h6 : (ab fs k).name = f.name
                           · exact h6
                           · exact absurd ⟨oM,h6⟩ hbad
             all_goals repeat' (first | refine jR ?_ | (refine jo ?_;first | refine jC rfl rfl rfl ?_ | refine aD rfl ?_ | refine bM rfl ?_ | refine jV (af rfl) ?_) | (refine ac rfl (by first | rfl | (refine decide_eq_true ?_;first | assumption | omega)) ?_) | (refine am (ao (id:=21) _ (fun _ h=>h) al ?_);refine jT 17 [0,2,6] (aa 20 69) ?_;(refine jG (aa 20 71) 1 rfl (aX rfl rfl rfl) ?_);(refine jG (aa 20 79) 3 rfl (ag rfl rfl oM) ?_);refine jT 14 [4] (aa 20 95) ?_;(refine jG (aa 20 127) 5 rfl (gg rfl rfl rfl oM rfl rfl) ?_);(refine jG (aa 20 255) 7 rfl (aX rfl rfl rfl) ?_);refine jT 10 [8,9] (aa 20 1023) ?_;(try (first | (refine Nx.re (d:=107) (v':=Bo true) rfl (congrArg Value.bool (ay ‹_›)) ?_) | (refine Nx.re (d:=107) (v':=Bo false) rfl (congrArg Value.bool (aG ‹_›)) ?_)));refine jT 7 [10,12,16] (aa 20 71679) ?_;(first | refine jG (aa 20 73727) 11 rfl (aX rfl rfl rfl) ?_ | refine jN (aa 20 73727) 11 rfl ?_);(first | refine jG (aa 20 81919) 13 rfl (ag rfl rfl oM) ?_ | refine jN (aa 20 81919) 13 rfl ?_);refine jT 4 [14] (aa 20 98303) ?_;(first | refine jG (aa 20 131071) 15 rfl (gg rfl rfl rfl oM rfl rfl) ?_ | refine jN (aa 20 131071) 15 rfl ?_);(first | refine jG (aa 20 262143) 17 rfl (aX rfl rfl rfl) ?_ | refine jN (aa 20 262143) 17 rfl ?_);refine jT 1 [18] (aa 20 524287) ?_;(first | refine jG (aa 20 1048575) 19 rfl (bO rfl rfl rfl) ?_ | refine jG (aa 20 1048575) 19 rfl (bm rfl rfl rfl) ?_);refine jQ ?_))
             all_goals refine Nx.sealS (v:=.slice (some ⟨bu,0,none⟩) fs.length cu) fun G' hle2 hsl=>?_
             all_goals refine jZ (vs:=[_,_]) rfl ⟨aJ rfl rfl rfl rfl,rfl,trivial⟩ rfl ⟨hle.trans hle2,rfl,?_⟩
             all_goals exact ⟨.slice (some ⟨bu,0,none⟩) fs.length cu,⟨bt (c :: r) (Int.toNat 0),r.take j,fs⟩,false,rfl,by rw [hno];rfl,hsl⟩
         · have hfr : fresh f fs = true:=by
             unfold fresh
             rw [List.all_eq_true]
             intro g hg
             obtain ⟨m,hm,rfl⟩:=nT hg
             simpa using Hk.2 m oM
           rw [hfr,if_pos rfl] at hi3
           have hxl : xs.length ≤ 1001:=oM
           repeat' (first | refine jR ?_ | (refine jo ?_;first | refine aD rfl ?_ | refine bM rfl ?_ | refine jV (af rfl) ?_ | refine jF fun _=>?_ | refine v3 rfl rfl rfl rfl rfl rfl rfl rfl oM fun _=>?_) | refine ad rfl (aG oM) ?_)
           rename_i u2
           refine Nx.shp (v:=u2) (.head _) fun hs4=>?_
           obtain ⟨a4,c4,rfl⟩:=hs4.sl
           repeat' (first | refine jM ?_ | (refine jo ?_;refine jD rfl rfl rfl ?_))
           refine bh (.slice a4 (fs.length + 1) c4,fs ++ [f],i + 1) ⟨by dsimp only;omega,by simp;omega,hi3⟩ (by dsimp only;omega) tU rfl (by dsimp only;simp only [bR,List.length_append,List.length_cons,List.length_nil,Nat.zero_add];repeat (first | exact List.Sublist.refl _ | apply List.Sublist.cons_cons | apply List.Sublist.cons)))
def oF (G : Gh) (b : Nat) (t : Ty) : Prop:=∃ fv ln,b9 G b 0 [U8 t.sort,S t.name,fv,S ln] ∧ aU G fv 6 t.fields.length (ak iF t.fields)
theorem oF.mono {G G' : Gh} {b : Nat} {t : Ty} (h : oF G b t) (hl : Gh.le G G') : oF G' b t:=by
 obtain ⟨fv,ln,h1,h2⟩:=h
 exact ⟨fv,ln,h1.mono hl,h2.mono hl⟩
def ab2 (s : adA) (v : Value) (G : Gh) : Prop:=(du s = none ∧ ∃ p,v = Tu [p,Bo false]) ∨ ∃ b t,v = Tu [Pt b 0,Bo true] ∧ du s = some t ∧ oF G b t
abbrev wk : TypeId:=114
abbrev tTi : TypeId:=124
theorem ny {k : Nat} : ∀ {xs : List adA} {fs gs : List Fld},dl k xs fs = some gs → gs.length = fs.length + xs.length
 | [],fs,gs,h=>by simp only [dl,Option.some.injEq] at h;subst h;simp
 | x :: xs,fs,gs,h=>by
  unfold dl at h
  split at h
  ·cases h
  ·split at h
   ·have:=ny h;simp at this ⊢;omega
   ·cases h
theorem rue (c : UInt8) : decide (0 ≤ gi c.toNat [82,85,69]) = decide (eK c.toNat):=by
 have h : ∀ n : Nat,n < 256 → decide (0 ≤ gi n [82,85,69]) = decide (eK n):=by decide +kernel
 exact h _ c.toNat_lt
theorem p6 {s : adA} (h : s.length ≤ 1000) : bB adz 136 [S s] G (ab2 s):=by
  match s,h with
  | [],h =>
    refine jB [(0,_)] Tryz.func136 Tryz.ntmps136 fun B hok hB hW=>?_
    repeat' (first | refine jR ?_ | (refine jo ?_;refine aM rfl ?_) | refine aF rfl rfl rfl ?_ | refine ac rfl rfl ?_)
    all_goals refine jZ (vs:=[_,_]) rfl ⟨rfl,rfl,trivial⟩ rfl ⟨Gh.le.refl _,rfl,?_⟩
    all_goals exact .inl ⟨rfl,_,rfl⟩
  | c :: r,h =>
    have cx_cont : a9 adz 154 [S [82,85,69],S [c]] G (· = Bo (decide (eK c.toNat))):=by rw [← rue];exact v7
    by_cases hs : eK c.toNat
    case neg =>
      have hno : du (c :: r) = none:=by
        cases ht : (aH 61 r).2.2 with
        | false=>exact lN ht
        | true=>rw [nM (c:=c) (r:=r) (name:=(aH 61 r).1) (rest:=(aH 61 r).2.1) (by rw [← ht]),if_neg fun h=>hs h.2]
      have hs2 : (!decide (eK c.toNat)) = true:=by simpa using hs
      refine jB [(0,_)] Tryz.func136 Tryz.ntmps136 fun B hok hB hW=>?_
      repeat' (first | refine jX ?_ | (refine jo ?_;first | refine aC rfl ?_ | refine ae rfl rfl rfl cx_cont rfl ?_) | refine ar rfl rfl rfl ?_ | refine ac rfl ‹_› ?_)
      all_goals refine jZ (vs:=[_,_]) rfl ⟨rfl,rfl,trivial⟩ rfl ⟨Gh.le.refl _,rfl,?_⟩
      all_goals exact .inl ⟨hno,_,rfl⟩
    have hs2 : (!decide (eK c.toNat)) = false:=by simpa using hs
    have hcl:=kE (k:=61) (s:=r)
    have hrl : r.length ≤ 1000:=by simp at h;omega
    have cx_cut : a9 adz 135 [S r,S [61]] G (· = Tu [S (aH 61 r).1,S (aH 61 r).2.1,Bo (aH 61 r).2.2]):=qj (c:=61) oM
    cases ht : (aH 61 r).2.2 with
    | false =>
      rw [ht] at cx_cut
      refine jB [(0,_)] Tryz.func136 Tryz.ntmps136 fun B hok hB hW=>?_
      repeat' (first | refine jX ?_ | (refine jo ?_;first | refine aM rfl ?_ | refine aC rfl ?_ | refine ae rfl rfl rfl cx_cont rfl ?_ | refine ae rfl rfl rfl cx_cut rfl ?_) | refine aF rfl rfl rfl ?_ | refine ar rfl rfl rfl ?_ | refine ac rfl rfl ?_ | refine ad rfl ‹_› ?_)
      all_goals refine jZ (vs:=[_,_]) rfl ⟨rfl,rfl,trivial⟩ rfl ⟨Gh.le.refl _,rfl,?_⟩
      all_goals exact .inl ⟨lN ht,_,rfl⟩
    | true =>
      have hty:=nM (c:=c) (r:=r) (name:=(aH 61 r).1) (rest:=(aH 61 r).2.1) (by rw [← ht])
      rw [ht] at cx_cut
      generalize (aH 61 r).1 = name at *
      generalize (aH 61 r).2.1 = rest at *
      have e0 : bt (c :: r) (Int.toNat 0) = c.toNat:=bj c r
      by_cases hn : cP name = true
      case neg =>
        have hn2 : (!cP name) = true:=by simpa using hn
        have hno : du (c :: r) = none:=by rw [hty,if_neg fun h=>hn h.1]
        refine jB [(0,_)] Tryz.func136 Tryz.ntmps136 fun B hok hB hW=>?_
        repeat' (first | refine jX ?_ | (refine jo ?_;first | refine aC rfl ?_ | refine ae rfl rfl rfl cx_cont rfl ?_ | refine ae rfl rfl rfl cx_cut rfl ?_ | refine ae rfl rfl rfl (dQ oM) rfl ?_) | refine ar rfl rfl rfl ?_ | refine ac rfl ‹_› ?_ | refine ad rfl ‹_› ?_)
        all_goals refine jZ (vs:=[_,_]) rfl ⟨rfl,rfl,trivial⟩ rfl ⟨Gh.le.refl _,rfl,?_⟩
        all_goals exact .inl ⟨hno,_,rfl⟩
      have hn2 : (!cP name) = false:=by rw [hn];rfl
      rw [if_pos ⟨hn,hs⟩] at hty
      by_cases hr : rest = []
      · rw [if_pos hr] at hty
        by_cases h82 : c.toNat = 82
        · rw [if_pos h82] at hty
          have e82 : bt (c :: r) (Int.toNat 0) = 82:=oM
          refine jB [(0,_)] Tryz.func136 Tryz.ntmps136 fun B hok hB hW=>?_
          repeat' (first | refine jX ?_ | (refine jo ?_;first | refine aC rfl ?_ | refine jV (ax rfl rfl) ?_ | refine jO fun _=>?_ | refine ae rfl rfl rfl cx_cont rfl ?_ | refine ae rfl rfl rfl cx_cut rfl ?_ | refine ae rfl rfl rfl (dQ oM) rfl ?_) | refine ar rfl rfl rfl ?_ | refine ac rfl (ay ‹_›) ?_ | refine ad rfl ‹_› ?_ | (refine am (ao (id:=8) _ (fun _ h=>h) al ?_);refine jT 3 [0,1,2,3,6] (aa 8 79) ?_;(refine jG (aa 8 95) 4 rfl (aX rfl rfl rfl) ?_);refine jT 0 [5,7] (aa 8 255) ?_;refine jQ ?_))
          rename_i x
          refine Nx.sealC (b:=x) fun G' hle hseg=>?_
          refine jZ (vs:=[_,_]) rfl ⟨rfl,rfl,trivial⟩ rfl ⟨hle,rfl,?_⟩
          rw [e82] at hseg
          refine .inr ⟨x,⟨82,name,[]⟩,?_,hty,_,_,hseg,aU.nil0⟩
          show Tu [Pt x 0,Bo (decide (((bt (c :: r) (Int.toNat 0) : Nat) : Int) = 82))] = _
          rw [e82];rfl
        · rw [if_neg h82] at hty
          have e82 : ¬ bt (c :: r) (Int.toNat 0) = 82:=oM
          refine jB [(0,_)] Tryz.func136 Tryz.ntmps136 fun B hok hB hW=>?_
          repeat' (first | refine jX ?_ | (refine jo ?_;first | refine aC rfl ?_ | refine jV (ax rfl rfl) ?_ | refine jO fun _=>?_ | refine ae rfl rfl rfl cx_cont rfl ?_ | refine ae rfl rfl rfl cx_cut rfl ?_ | refine ae rfl rfl rfl (dQ oM) rfl ?_) | refine ar rfl rfl rfl ?_ | refine ac rfl (ay ‹_›) ?_ | refine ad rfl ‹_› ?_ | (refine am (ao (id:=8) _ (fun _ h=>h) al ?_);refine jT 3 [0,1,2,3,6] (aa 8 79) ?_;(refine jG (aa 8 95) 4 rfl (aX rfl rfl rfl) ?_);refine jT 0 [5,7] (aa 8 255) ?_;refine jQ ?_))
          all_goals refine jZ (vs:=[_,_]) rfl ⟨rfl,rfl,trivial⟩ rfl ⟨Gh.le.refl _,rfl,?_⟩
          all_goals exact .inl ⟨hty,_,by rw [gu,decide_eq_false (show ¬ ((bt (c :: r) (Int.toNat 0) : Nat) : Int) = 82 by omega)]⟩
      · rw [if_neg hr] at hty
        have hall : ∀ y ∈ aZ 44 rest,y.length ≤ 1000:=fun y hy=>Nat.le_trans (df hy) oM
        have hcnt:=ic (k:=44) (s:=rest)
        have cx_split : bB adz 89 [S rest,S [44]] G (fun v G'=>∃ b o cap,v = .slice (some ⟨b,o,none⟩) (aZ 44 rest).length cap ∧ b9 G' b o (ak cn (aZ 44 rest))):=mz (c:=44) _ oM rfl rfl rfl en
        generalize aZ 44 rest = xs at *
        refine jB [(0,_)] Tryz.func136 Tryz.ntmps136 fun B hok hB hW=>?_
        repeat' (first | refine jX ?_ | (refine jo ?_;first | refine aC rfl ?_ | refine jV (ax rfl rfl) ?_ | refine jO fun _=>?_ | refine jV (af rfl) ?_ | refine ae rfl rfl rfl cx_cont rfl ?_ | refine ae rfl rfl rfl cx_cut rfl ?_ | refine ae rfl rfl rfl (dQ oM) rfl ?_ | (refine an rfl rfl rfl cx_split rfl ?_;rintro _ G hle ⟨b1,o1,cap1,rfl,hseg⟩;skip)) | refine ar rfl rfl rfl ?_ | (refine ad rfl (by first | assumption | (refine decide_eq_false ?_;(assumption))) ?_))
        rename_i x
        have hle0:=hle
        refine Nx.addNil wk 6 ?_
        refine aT (ι:=Value × List Fld × Nat × Gh) (fun i=>((i.2.2.1 ≤ xs.length ∧ i.2.1.length ≤ i.2.2.1) ∧ i.2.1.length ≤ 8) ∧ dl c.toNat (xs.drop i.2.2.1) i.2.1 = dl c.toNat xs [] ∧ Gh.le G i.2.2.2) (fun i=>[(7,Pt x 0),(51,.slice (some ⟨b1,o1,none⟩) xs.length cap1),(52,I xs.length),(53,I i.2.2.1)]) (fun i=>i.2.2.2) (fun i=>[.acc i.1 wk 6 i.2.1.length (ak iF i.2.1),.blk x (.cells [U8 (bt (c :: r) (Int.toNat 0) : Nat),S name,i.1,S (c :: r)].toArray tTi (0,0))]) (fun i=>xs.length - i.2.2.1) (aQ,[],0,G) ?_ tU rfl a7 (fun i Hi=>?_)
        · exact ⟨⟨⟨Nat.zero_le _,Nat.le_refl _⟩,by simp⟩,rfl,Gh.le.refl _⟩
        obtain ⟨u,fs,i,Gk⟩:=i
        dsimp only at Hi ⊢
        obtain ⟨⟨⟨hi1,hi2⟩,hi8⟩,hi3,hgk⟩:=Hi
        have hsk:=hseg.mono hgk
        refine Nx.shp (v:=u) (.head _) fun hsh=>?_
        have hsh2:=hsh
        obtain ⟨au,cu,rfl⟩:=hsh.sl
        by_cases hix : i < xs.length
        case neg =>
          have ei : i = xs.length:=oM
          rw [ei,List.drop_length,dl] at hi3
          have hyes : du (c :: r) = some ⟨c.toNat,name,fs⟩:=by rw [hty,← hi3];exact if_pos hi8
          repeat' (first | refine jR ?_ | refine ad rfl (aG oM) ?_)
          refine Nx.sealS (v:=.slice au fs.length cu) fun G1 hle1 hsl=>?_
          refine Nx.sealC (b:=x) fun G2 hle2 hsg2=>?_
          refine jZ (vs:=[_,_]) rfl ⟨rfl,rfl,trivial⟩ rfl ⟨((hle.trans hgk).trans hle1).trans hle2,rfl,?_⟩
          exact .inr ⟨x,⟨c.toNat,name,fs⟩,rfl,hyes,_,_,hsg2,hsl.mono hle2⟩
        rw [fH hix,dl] at hi3
        have hx:=hall _ (bc hix)
        repeat' (first | refine jR ?_ | (refine jo ?_;first | refine aM rfl ?_ | refine aC rfl ?_ | refine aD rfl ?_ | (refine jV (eN rfl rfl aS ?_) ?_;focus omega) | refine jV (af rfl) ?_ | refine jV (ag rfl rfl oM) ?_ | refine jL fun _=>?_ | refine jC rfl rfl rfl ?_ | (refine an rfl rfl rfl (uk oM) rfl ?_;rintro _ G hle ⟨f,ok,rfl,hfld⟩;skip)) | refine nr rfl rfl (fun _=>?_) (fun _=>?_) | (refine ac rfl (by first | rfl | (refine decide_eq_true ?_;(omega))) ?_) | refine eD rfl (fun _=>?_) (fun _=>?_))
        all_goals first
          | (rename_i z hq h8
             have hq2 : ok = true:=by simpa using hq
             subst hq2
             have hf1 : cm (ab xs i) c.toNat = some f:=hfld
             rw [hf1] at hi3
             dsimp only at hi3
             have h9 : fs.length = 8:=oM
             have hno : du (c :: r) = none:=by
               rw [hty]
               cases hgs : dl c.toNat xs [] with
               | none=>rfl
               | some gs =>
                 rw [hgs] at hi3
                 split at hi3
                 · have:=ny hi3
                   simp at this
                   exact if_neg oM
                 · cases hi3
             refine jZ (vs:=[_,_]) rfl ⟨rfl,rfl,trivial⟩ rfl ⟨(hle0.trans hgk).trans hle,rfl,?_⟩
             exact .inl ⟨hno,_,rfl⟩)
          | (rename_i z hq
             have hq2 : ok = false:=by simpa using hq
             subst hq2
             have hf0 : cm (ab xs i) c.toNat = none:=hfld
             have hno : du (c :: r) = none:=by rw [hf0] at hi3;rw [hty,← hi3]
             refine jZ (vs:=[_,_]) rfl ⟨rfl,rfl,trivial⟩ rfl ⟨(hle0.trans hgk).trans hle,rfl,?_⟩
             exact .inl ⟨hno,_,rfl⟩)
          | (rename_i z hq h8
             have hq2 : ok = true:=by simpa using hq
             subst hq2
             have hf1 : cm (ab xs i) c.toNat = some f:=hfld
             rw [hf1] at hi3
             dsimp only at hi3
             have h9 : fs.length ≠ 8:=oM
             refine aT (ι:=Nat) (fun k=>k ≤ fs.length ∧ ∀ m,m < k → (ab fs m).tag < f.tag ∧ (ab fs m).name ≠ f.name) (fun k=>[(7,Pt x 0),(10,Pt z 0),(51,.slice (some ⟨b1,o1,none⟩) xs.length cap1),(52,I xs.length),(53,I i),(79,.slice au fs.length cu),(80,I fs.length),(81,I k)]) (fun _=>G) (fun k=>[.blk z (.cells (iF f).toArray wk (0,0)),.acc (.slice au fs.length cu) wk 6 fs.length (ak iF fs),.blk x (.cells [U8 (bt (c :: r) (Int.toNat 0) : Nat),S name,.slice au fs.length cu,S (c :: r)].toArray tTi (0,0))]) (fun k=>fs.length - k) 0 ?_ tU rfl a7 (fun k Hk=>?_)
             · exact ⟨Nat.zero_le _,fun m hm=>absurd hm oM⟩
             by_cases hk : k < fs.length
             · obtain ⟨bu,cu2,eu⟩:=hsh2.pos oM
               simp only [Value.slice.injEq] at eu
               obtain ⟨rfl,-,rfl⟩:=eu
               by_cases hbad : (ab fs k).tag < f.tag ∧ (ab fs k).name ≠ f.name
               · obtain ⟨hb1,hb2⟩:=hbad
                 repeat' (first | refine jM ?_ | (refine jo ?_;first | refine aC rfl ?_ | refine aD rfl ?_ | refine jV (lC rfl rfl rfl oM) ?_ | refine jV (ag rfl rfl oM) ?_ | refine jL fun _=>?_ | refine jC rfl rfl rfl ?_) | refine ar rfl rfl (aG ‹_›) ?_ | refine ac rfl (ay oM) ?_ | refine ad rfl (aG oM) ?_)
                 refine bh (k + 1) ⟨oM,fun m hm=>?_⟩ oM tU rfl sB
                 rcases Nat.lt_or_ge m k with h3 | h3
                 · exact Hk.2 m h3
                 · have : m = k:=oM
                   subst this;exact ⟨hb1,hb2⟩
               · have hfr : fresh f fs = false:=by
                   unfold fresh
                   rw [List.all_eq_false]
                   exact ⟨ab fs k,bc hk,by simpa using hbad⟩
                 have hno : du (c :: r) = none:=by
                   rw [hfr,if_neg (by simp)] at hi3
                   rw [hty,← hi3]
                 by_cases hnm : (ab fs k).name = f.name
                 case' neg => have htag : f.tag ≤ (ab fs k).tag := by
                               rcases Int.lt_or_le (ab fs k).tag f.tag with h6 | h6
                               · exact absurd ⟨h6,hnm⟩ hbad
                               · exact h6
                 all_goals repeat' (first | refine jR ?_ | (refine jo ?_;first | refine aM rfl ?_ | refine aC rfl ?_ | refine aD rfl ?_ | refine jV (lC rfl rfl rfl oM) ?_ | refine jV (ag rfl rfl oM) ?_ | refine jL fun _=>?_ | refine jC rfl rfl rfl ?_) | refine aF rfl rfl (ay ‹_›) ?_ | refine ar rfl rfl (aG ‹_›) ?_ | (refine ac rfl (by first | rfl | (refine decide_eq_true ?_;first | assumption | omega)) ?_))
                 all_goals refine jZ (vs:=[_,_]) rfl ⟨rfl,rfl,trivial⟩ rfl ⟨(hle0.trans hgk).trans hle,rfl,?_⟩
                 all_goals exact .inl ⟨hno,_,rfl⟩
             · have hfr : fresh f fs = true:=by
                 unfold fresh
                 rw [List.all_eq_true]
                 intro g hg
                 obtain ⟨m,hm,rfl⟩:=nT hg
                 simpa using Hk.2 m oM
               rw [hfr,if_pos rfl] at hi3
               have hxl : xs.length ≤ 1001:=oM
               repeat' (first | refine jR ?_ | refine ad rfl (aG oM) ?_)
               (refine am (ao (id:=21) [.blk z (.cells (iF f).toArray wk (0,0))] (by intro y hy;simp only [List.mem_cons,List.not_mem_nil,or_false] at hy ⊢;simp [hy]) al ?_);refine jW 7 [0,1,2,3] (aa 11 15) ?_;(refine jG (aa 11 47) 5 rfl (bP rfl rfl rfl rfl) ?_);refine b8 [4,6] kR dC ⟨?_,?_,trivial⟩;(focus (refine aO rfl rfl ?_;(refine aD rfl ?_);refine jK (aa 11 63) ?_;refine jA 6 rfl ?_;(refine jF fun _=>?_);refine jK (aa 11 127) ?_;refine jA 7 rfl ?_;((refine bD rfl rfl rfl rfl rfl rfl rfl rfl rfl ?_ fun _ _=>?_;focus omega));refine jK (aa 11 255) ?_;refine jW 1 [8,9] (aa 11 1023) ?_;refine jA 10 rfl ?_;(refine jD rfl rfl rfl ?_);refine jK (aa 11 2047) ?_;refine jQ ?_));rotate_left 1;(focus (refine aO rfl rfl ?_;(refine jF fun _=>?_);refine jK (aa 11 111) ?_;refine jA 4 rfl ?_;(refine aD rfl ?_);refine jK (aa 11 127) ?_;refine jA 7 rfl ?_;((refine bD rfl rfl rfl rfl rfl rfl rfl rfl rfl ?_ fun _ _=>?_;focus omega));refine jK (aa 11 255) ?_;refine jW 1 [8,9] (aa 11 1023) ?_;refine jA 10 rfl ?_;(refine jD rfl rfl rfl ?_);refine jK (aa 11 2047) ?_;refine jQ ?_));rotate_left 1)
               all_goals rename_i w b2 c2
               all_goals repeat' (refine jM ?_)
               all_goals refine bh (.slice (some ⟨b2,0,none⟩) (fs.length + 1) c2,fs ++ [f],i + 1,G) ⟨⟨⟨by dsimp only;omega,by simp;omega⟩,by simp;omega⟩,hi3,hgk.trans hle⟩ (by dsimp only;omega) tU rfl (by dsimp only;simp only [bR,List.length_append,List.length_cons,List.length_nil,Nat.zero_add];repeat (first | exact List.Sublist.refl _ | apply List.Sublist.cons_cons | apply List.Sublist.cons)))
abbrev cy:=(Option Addr × Nat) × Ty
def gn (x : cy) : Value:=.slice x.1.1 x.2.fields.length x.1.2
def ka (x : cy) : List Value:=[U8 x.2.sort,S x.2.name,gn x]
instance : RowF ka 3:=⟨fun _=>rfl⟩
def zT : cy:=((none,0),⟨0,[],[]⟩)
theorem aU.sl {G : Gh} {v : Value} {sz m : Nat} {xs : List Value} (h : aU G v sz m xs) : ∃ a cap,v = .slice a m cap:=by
 obtain ⟨_,⟨rfl,rfl⟩ | ⟨b,o,cap,rfl,_⟩⟩:=h
 ·exact ⟨none,0,rfl⟩
 ·exact ⟨_,cap,rfl⟩
structure SchR (G : Gh) (u : Value) (vs : List cy) : Prop where
 sl : aU G u 3 vs.length (ak ka vs)
 fl : ∀ x ∈ vs,aU G (gn x) 4 x.2.fields.length (ak g0 x.2.fields)
theorem SchR.mono {G G' : Gh} {u : Value} {vs : List cy} (h : SchR G u vs) (hl : Gh.le G G') : SchR G' u vs:=⟨h.sl.mono hl,fun x hx=>(h.fl x hx).mono hl⟩
def ah (vs : List cy) : List Ty:=vs.map (·.2)
def gk (vs : List cy) (n : adA) : Option cy:=vs.find? fun x=>decide (x.2.name = n)
def fc (vs : List cy) (k : adA) : Option cy:=(b7 k).bind (gk vs)
theorem td (vs : List cy) (n : adA) : (gk vs n).map (·.2) = ix (ah vs) n:=by
 unfold gk ix ah
 induction vs with
 | nil=>rfl
 | cons x vs ih =>
  simp only [List.map_cons,List.find?_cons]
  split <;> simp_all
theorem wI {vs : List cy} {n : adA} {x : cy} (h : gk vs n = some x) : x ∈ vs ∧ x.2.name = n:=by
 unfold gk at h
 exact ⟨List.mem_of_find?_eq_some h,by simpa using List.find?_some h⟩
theorem yg {vs : List cy} {n : adA} {i : Nat} (hi : i < vs.length) (h : ∀ k,k < i → (ab vs k).2.name ≠ n) (h2 : (ab vs i).2.name = n) : gk vs n = some (ab vs i):=by
 unfold gk
 rw [List.find?_eq_some_iff_getElem]
 rw [aA hi] at h2 ⊢
 refine ⟨by simpa using h2,i,hi,rfl,fun j hj=>?_⟩
 have:=h j hj
 rw [aA oM] at this
 simpa using this
theorem vN {vs : List cy} {n : adA} (h : ∀ k,k < vs.length → (ab vs k).2.name ≠ n) : gk vs n = none:=by
 unfold gk
 rw [List.find?_eq_none]
 intro x hx
 obtain ⟨i,hi,rfl⟩:=List.mem_iff_getElem.1 hx
 have:=h i hi
 rw [aA hi] at this
 simpa using this
theorem tM {u : Value} {vs : List cy} {n : adA} (h : SchR G u vs) (hn : vs.length ≤ 1000000) : a9 adz 99 [u,S n] G (· = Tu [Ag (ka ((gk vs n).getD zT)),Bo (gk vs n).isSome]):=by
 have hsl:=h.sl
 refine jE [(0,_),(1,_)] Tryz.func99 Tryz.ntmps99 fun B hB=>?_
 repeat' (first | refine jR ?_ | (refine jo ?_;refine jL fun _=>?_))
 rename_i x
 refine aT (ι:=Nat) (fun i=>i ≤ vs.length ∧ ∀ k,k < i → (ab vs k).2.name ≠ n) (fun i=>[(0,u),(1,S n),(4,Pt x 0),(6,I i)]) (fun _=>G) (fun i=>[.blk x (.cells [U8 0,S [],aQ].toArray qZ (0,0))]) (fun i=>vs.length - i) 0 ?_ tU rfl a7 (fun i Hi=>?_)
 ·exact ⟨oM,fun k hk=>absurd hk oM⟩
 by_cases hi : i < vs.length
 ·obtain ⟨b,o,cap,rfl,hs⟩:=hsl.expl oM
  repeat' (first | refine jM ?_ | (refine jo ?_;first | refine jV (af rfl) ?_ | refine jV (ag rfl rfl oM) ?_ | (refine jV (dt rfl rfl aS ?_) ?_;focus omega) | (refine jV (bQ rfl rfl aS ?_ rfl rfl) ?_;focus omega) | refine jC rfl rfl rfl ?_) | refine ac rfl (ay oM) ?_ | refine eD rfl (fun _=>?_) (fun _=>?_))
  ·rename_i he
   refine jZ (vs:=[_,_]) rfl ⟨aJ rfl rfl rfl rfl,rfl,trivial⟩ rfl ⟨rfl,rfl,?_⟩
   rw [yg hi Hi.2 he];rfl
  ·rename_i he
   refine bh (i + 1) ⟨oM,fun k hk=>?_⟩ oM tU rfl a7
   rcases Nat.lt_or_ge k i with h3 | h3
   ·exact Hi.2 k h3
   ·have : k = i:=oM
    subst this;exact he
 ·repeat' (first | refine jR ?_ | (refine jo ?_;first | refine jV (eM rfl aS) ?_ | refine jC rfl rfl rfl ?_ | refine jV (ax rfl rfl) ?_) | refine ad rfl (aG oM) ?_)
  refine jZ (vs:=[_,_]) rfl ⟨aJ rfl rfl rfl rfl,rfl,trivial⟩ rfl ⟨rfl,rfl,?_⟩
  rw [vN fun k hk=>Hi.2 k oM];rfl
theorem mD {s : adA} (h : eV s = true) (hl : s.length ≤ 1000000) : a9 adz 97 [S s] G (· = Tu [S ((b7 s).getD []),Bo (b7 s).isSome]):=by
 match s,h with
 | c :: r,h =>
  by_cases hr : r = []
  ·have hc : ¬ c.toNat = 64:=by
    intro hc
    subst hr
    rw [eV,if_neg oM,if_pos hc] at h
    simp [bj,hc] at h
   have e0:=mH c r
   have hq : b7 (c :: r) = none:=by simp [b7,hc]
   rw [hq]
   refine jE [(0,_)] Tryz.func97 Tryz.ntmps97 fun B hB=>?_
   repeat' (first | refine jX ?_ | (refine ac rfl ?_ ?_;(focus ((simp;omega);done))))
   all_goals refine jY (vs:=[_,_]) ?_
   all_goals rfl
  ·have:=aar (G:=G) (c:=c) hr (by simp at hl;omega)
   refine this.mono ?_
   rintro v G' L' ⟨h1,h2,h3⟩
   refine ⟨h1,h2,h3.trans ?_⟩
   by_cases hc : c.toNat = 64 <;> simp [b7,hc]
theorem i8 {u : Value} {vs : List cy} {k : adA} (h : SchR G u vs) (hn : vs.length ≤ 1000000) (hk : eV k = true) (hl : k.length ≤ 1000000) : a9 adz 116 [u,S k] G (· = Tu [Ag (ka ((fc vs k).getD zT)),Bo (fc vs k).isSome]):=by
 rcases hr : b7 k with _ | n
 ·have e : fc vs k = none:=by simp [fc,hr]
  rw [e]
  have cx_ref : a9 adz 97 [S k] G (· = Tu [S [],Bo false]):=by have:=mD (G:=G) hk hl;rwa [hr] at this
  refine jE [(0,_),(1,_)] Tryz.func116 Tryz.ntmps116 fun B hB=>?_
  repeat' (first | refine jR ?_ | (refine jo ?_;first | refine jL fun _=>?_ | refine jV (ax rfl rfl) ?_ | refine jC rfl rfl rfl ?_ | refine ae rfl rfl rfl cx_ref rfl ?_) | refine ac rfl rfl ?_)
  all_goals refine jZ (vs:=[_,_]) rfl ⟨aJ rfl rfl rfl rfl,rfl,trivial⟩ rfl ⟨rfl,rfl,?_⟩
  all_goals rfl
 ·have e : fc vs k = gk vs n:=by simp [fc,hr]
  rw [e]
  have cx_ref : a9 adz 97 [S k] G (· = Tu [S n,Bo true]):=by have:=mD (G:=G) hk hl;rwa [hr] at this
  refine jE [(0,_),(1,_)] Tryz.func116 Tryz.ntmps116 fun B hB=>?_
  repeat' (first | refine jR ?_ | (refine jo ?_;first | refine jL fun _=>?_ | refine jC rfl rfl rfl ?_ | refine ae rfl rfl rfl cx_ref rfl ?_ | (refine ae rfl rfl rfl (tM (by (repeat (assumption));done) oM) rfl ?_)) | refine ad rfl rfl ?_)
  all_goals refine jZ (vs:=[_,_]) rfl ⟨aJ rfl rfl rfl rfl,rfl,trivial⟩ rfl ⟨rfl,rfl,?_⟩
  all_goals rfl
theorem ff (vs : List cy) (k : adA) : (fc vs k).map (·.2) = a8 (ah vs) k:=by
 unfold fc a8
 cases b7 k with
 | none=>rfl
 | some n=>simp only [Option.bind_some];exact td vs n
theorem gq {vs : List cy} {k : adA} {x : cy} (h : fc vs k = some x) : x ∈ vs:=by
 unfold fc at h
 cases hr : b7 k with
 | none=>rw [hr] at h;cases h
 | some n=>rw [hr] at h;exact (wI h).1
theorem cV {s : adA} (h : bU s = true) : eV s = true ∧ s.length ≤ 12:=by
 unfold bU at h;simp only [Bool.and_eq_true,decide_eq_true_eq] at h;exact ⟨h.2,h.1⟩
theorem abW {u : Value} {vs : List cy} {x0 : cy} (h : SchR G u vs) (hn : vs.length ≤ 1000) (hw : ∀ x ∈ vs,TyW x.2) (hx : x0 ∈ vs) :
  a9 adz 151 [u,Ag (ka x0)] G (· = Bo (ci (ah vs) (vs.length + 1) x0.2)):=by
 have hsl:=h.sl
 refine jE [(0,_),(1,_)] Tryz.func151 Tryz.ntmps151 fun B hB=>?_
 repeat' (first | refine jR ?_ | (refine jo ?_;refine jO fun _=>?_))
 rename_i b0
 refine aT (ι:=cy × Nat) (fun i=>i.1 ∈ vs ∧ i.2 ≤ vs.length + 1 ∧ ci (ah vs) (vs.length + 1 - i.2) i.1.2 = ci (ah vs) (vs.length + 1) x0.2) (fun i=>[(0,u),(3,Pt b0 0),(5,I i.2)]) (fun _=>G) (fun i=>[.blk b0 (.cells (ka i.1).toArray qZ (0,0))]) (fun i=>vs.length + 1 - i.2) (x0,0) ?_ tU rfl a7 (fun i Hi=>?_)
 ·exact ⟨hx,Nat.zero_le _,rfl⟩
 obtain ⟨⟨⟨a,ca⟩,t⟩,n⟩:=i
 dsimp only at Hi ⊢
 obtain ⟨hxm,hnl,he⟩:=Hi
 have hW:=hw _ hxm
 dsimp only at hW
 by_cases hlt : n ≤ vs.length
 case neg =>
  have e0 : vs.length + 1 - n = 0:=oM
  rw [e0] at he
  repeat' (first | refine jR ?_ | (refine jo ?_;refine jV (eM rfl aS) ?_) | refine ad rfl (aG oM) ?_)
  refine jY (vs:=[_]) ?_
  rw [← he];rfl
 obtain ⟨m,hm⟩ : ∃ m,vs.length + 1 - n = m + 1:=⟨vs.length - n,oM⟩
 rw [hm,ci] at he
 by_cases hU : t.sort = 85
 case neg =>
  rw [if_pos hU] at he
  repeat' (first | refine jR ?_ | (refine jo ?_;first | refine jV (eM rfl aS) ?_ | refine aD rfl ?_) | (refine ac rfl ?_ ?_;(focus ((first | (refine decide_eq_true ?_;(omega)) | (simp;omega));done))))
  refine jY (vs:=[_]) ?_
  rw [← he];rfl
 rw [if_neg (by simp [hU])] at he
 have hne:=hW.ne oM
 have h0 : 0 < t.fields.length:=List.length_pos_iff.2 hne
 obtain ⟨bf,of,cf,ef,hsf⟩:=(h.fl _ hxm).expl h0
 simp only [gn,Value.slice.injEq] at ef
 obtain ⟨rfl,-,rfl⟩:=ef
 dsimp only at hsf
 have hk0 : eP t = (ab t.fields 0).kind:=by
  unfold eP ab
  cases t.fields with
  | nil=>rfl
  | cons f r=>rfl
 have hkk:=cV ((hW.fld _ (bc h0)).kind oM)
 rw [hk0] at he
 have href:=ff vs (ab t.fields 0).kind
 have cx_rf:=i8 (k:=(ab t.fields 0).kind) h oM hkk.1 oM
 rcases hr : fc vs (ab t.fields 0).kind with _ | ⟨⟨a2,c2⟩,t2⟩
 ·rw [hr] at href cx_rf
  rw [← href] at he
  repeat' (first | refine jR ?_ | (refine jo ?_;first | refine jV (eM rfl aS) ?_ | refine aD rfl ?_ | (refine jV (bQ rfl rfl aS ?_ rfl rfl) ?_;focus omega) | refine jV (ag rfl rfl oM) ?_ | refine jL fun _=>?_ | refine jC rfl rfl rfl ?_ | refine ae rfl rfl rfl cx_rf rfl ?_) | (refine ac rfl (by first | rfl | (refine decide_eq_true ?_;(omega))) ?_) | (refine ad rfl ?_ ?_;(focus ((simp [*];done);done))))
  all_goals refine jY (vs:=[_]) ?_
  all_goals (rw [← he];rfl)
 ·rw [hr] at href cx_rf
  rw [← href] at he
  repeat' (first | refine jM ?_ | (refine jo ?_;first | refine jV (eM rfl aS) ?_ | refine aD rfl ?_ | (refine jV (bQ rfl rfl aS ?_ rfl rfl) ?_;focus omega) | refine bM rfl ?_ | refine jV (ag rfl rfl oM) ?_ | refine jL fun _=>?_ | refine jC rfl rfl rfl ?_ | refine ae rfl rfl rfl cx_rf rfl ?_) | refine ac rfl (ay oM) ?_ | (refine ad rfl ?_ ?_;(focus ((first | rfl | (simp [*];done));done))))
  refine bh (((a2,c2),t2),n + 1) ⟨gq hr,by dsimp only;omega,?_⟩ (by dsimp only;omega) tU rfl sB
  dsimp only
  rw [show vs.length + 1 - (n + 1) = m by omega]
  exact he
theorem qq (vs : List cy) : (ah vs).length = vs.length:=by simp [ah]
theorem lv {vs : List cy} {i : Nat} (h : i < vs.length) : ab (ah vs) i = (ab vs i).2:=by
 rw [aA h,aA (by rw [qq];exact h)];simp [ah]
theorem rt {vs : List cy} {k : adA} : fe (ah vs) k = (!(b7 (bN k)).isSome || (gk vs ((b7 (bN k)).getD [])).isSome):=by
 unfold fe
 cases b7 (bN k) with
 | none=>rfl
 | some n =>
  show (ix (ah vs) n).isSome = _
  rw [← td];simp
theorem kF {k : adA} (h : eV k = true) : eV (bN k) = true:=by
 induction k with
 | nil=>cases h
 | cons c r ih =>
  unfold bN
  split
  ·rename_i hc;rw [eV,if_pos hc] at h;exact ih h
  ·exact h
theorem kX : ∀ s : adA,(bN s).length ≤ s.length
 | []=>Nat.le_refl _
 | c :: r=>by
  unfold bN
  split
  ·have:=kX r;simp;omega
  ·exact Nat.le_refl _
theorem aab {u : Value} {vs : List cy} (h : SchR G u vs) (hn : vs.length ≤ 1000) (hw : ∀ x ∈ vs,TyW x.2) :
    a9 adz 133 [u] G (· = Bo (decide (jl (ah vs)))):=by
  have hsl:=h.sl
  have hlen:=qq vs
  refine jE [(0,_)] Tryz.func133 Tryz.ntmps133 fun B hB=>?_
  repeat' (refine jR ?_)
  refine aT (ι:=Nat) (fun i=>i ≤ vs.length ∧ ∀ j,j < i → lJ (ah vs) j ∧ iU (ah vs) (ab (ah vs) j)) (fun i=>[(0,u),(3,I i)]) (fun _=>G) (fun i=>[]) (fun i=>vs.length - i) 0 ?_ tU rfl a7 (fun i Hi=>?_)
  · exact ⟨Nat.zero_le _,fun j hj=>absurd hj oM⟩
  by_cases hi : i < vs.length
  case neg =>
    have ei : i = vs.length:=oM
    subst ei
    have Hall:=Hi.2
    repeat' (first | refine jR ?_ | (refine jo ?_;refine jV (eM rfl aS) ?_) | refine ad rfl (aG oM) ?_)
    refine aT (ι:=Nat) (fun i=>i ≤ vs.length ∧ ∀ j,j < i → ci (ah vs) ((ah vs).length + 1) (ab (ah vs) j) = true) (fun i=>[(0,u),(10,I i)]) (fun _=>G) (fun i=>[]) (fun i=>vs.length - i) 0 ?_ tU rfl a7 (fun i Hi=>?_)
    · exact ⟨Nat.zero_le _,fun j hj=>absurd hj oM⟩
    by_cases hi : i < vs.length
    · obtain ⟨b,o,cap,rfl,hs⟩:=hsl.expl oM
      have hm:=bc hi
      have cx_en:=abW h hn hw hm
      by_cases he : ci (ah vs) (vs.length + 1) (ab vs i).2 = true
      · have he2 : (!ci (ah vs) (vs.length + 1) (ab vs i).2) = false:=by rw [he];rfl
        repeat' (first | refine jM ?_ | (refine jo ?_;first | refine jV (af rfl) ?_ | refine jV (ag rfl rfl oM) ?_ | (refine jV (dt rfl rfl aS ?_) ?_;focus omega) | refine ae rfl rfl rfl cx_en rfl ?_) | refine ac rfl (ay oM) ?_ | refine ad rfl ‹_› ?_)
        refine bh (i + 1) ⟨oM,fun j hj=>?_⟩ oM tU rfl a7
        rcases Nat.lt_or_ge j i with h3 | h3
        · exact Hi.2 j h3
        · have : j = i:=oM
          subst this;rw [hlen,lv hi];exact he
      · have he2 : (!ci (ah vs) (vs.length + 1) (ab vs i).2) = true:=by simpa using he
        repeat' (first | refine jR ?_ | (refine jo ?_;first | refine jV (af rfl) ?_ | refine jV (ag rfl rfl oM) ?_ | (refine jV (dt rfl rfl aS ?_) ?_;focus omega) | refine ae rfl rfl rfl cx_en rfl ?_) | (refine ac rfl (by first | assumption | (refine decide_eq_true ?_;(omega))) ?_))
        refine jY (vs:=[_]) ?_
        refine congrArg Bo (decide_eq_false fun hv=>he ?_).symm
        have:=hv.2 i oM
        rwa [hlen,lv hi] at this
    · repeat' (first | refine jR ?_ | (refine jo ?_;refine jV (eM rfl aS) ?_) | refine ad rfl (aG oM) ?_)
      refine jY (vs:=[_]) ?_
      exact congrArg Bo (decide_eq_true ⟨fun j hj=>Hall j oM,fun j hj=>Hi.2 j oM⟩).symm
  obtain ⟨b,o,cap,rfl,hs⟩:=hsl.expl oM
  rcases hxi : ab vs i with ⟨⟨a,ca⟩,t⟩
  have hm : ((a,ca),t) ∈ vs:=by rw [← hxi];exact bc hi
  have hW:=hw _ hm
  dsimp only at hW
  have hti : ab (ah vs) i = t:=by rw [lv hi,hxi]
  have hE1 : (((a,ca),t) : cy).2.sort = t.sort:=rfl
  have hE2 : (((a,ca),t) : cy).2.fields.length = t.fields.length:=rfl
  have h8:=hW.len
  have hfl:=h.fl _ hm
  repeat' (first | refine jR ?_ | (refine jo ?_;refine jV (af rfl) ?_) | refine ac rfl (ay oM) ?_)
  refine aT (ι:=Nat) (fun k=>k ≤ i ∧ ∀ j,j < k → (ab (ah vs) j).name ≠ (ab (ah vs) i).name) (fun k=>[(0,.slice (some ⟨b,o,none⟩) vs.length cap),(3,I i),(4,I k)]) (fun _=>G) (fun k=>[]) (fun k=>i - k) 0 ?_ tU rfl a7 (fun k Hk=>?_)
  · exact ⟨Nat.zero_le _,fun j hj=>absurd hj oM⟩
  by_cases hk : k < i
  · have hkv : k < vs.length:=oM
    by_cases hnm : (ab vs k).2.name = t.name
    · repeat' (first | refine jR ?_ | (refine ac rfl (by refine decide_eq_true ?_;first | assumption | omega) ?_) | (refine am (ao (id:=7) _ (fun _ h=>h) al ?_);refine jT 7 [0,1,5,6] (aa 11 99) ?_;(refine jG (aa 11 103) 2 rfl (ag rfl rfl oM) ?_);refine jT 5 [3] (aa 11 111) ?_;((refine jG (aa 11 127) 4 rfl (bQ rfl rfl aS ?_ rfl rfl) ?_;focus omega));(refine jG (aa 11 255) 7 rfl (ag rfl rfl oM) ?_);refine jT 2 [8] (aa 11 511) ?_;((refine jG (aa 11 1023) 9 rfl (gf rfl rfl aS ?_ aS rfl rfl) ?_;focus omega));refine jT 0 [10] (aa 11 2047) ?_;refine jQ ?_))
      refine jY (vs:=[_]) ?_
      refine congrArg Bo (decide_eq_false fun hv=>?_).symm
      have:=(hv.1 i oM).1 k hk
      rw [lv hkv,hti] at this
      exact this hnm
    · repeat' (first | refine jM ?_ | refine ac rfl (ay oM) ?_ | refine ad rfl (aG ‹_›) ?_ | (refine am (ao (id:=7) _ (fun _ h=>h) al ?_);refine jT 7 [0,1,5,6] (aa 11 99) ?_;(refine jG (aa 11 103) 2 rfl (ag rfl rfl oM) ?_);refine jT 5 [3] (aa 11 111) ?_;((refine jG (aa 11 127) 4 rfl (bQ rfl rfl aS ?_ rfl rfl) ?_;focus omega));(refine jG (aa 11 255) 7 rfl (ag rfl rfl oM) ?_);refine jT 2 [8] (aa 11 511) ?_;((refine jG (aa 11 1023) 9 rfl (gf rfl rfl aS ?_ aS rfl rfl) ?_;focus omega));refine jT 0 [10] (aa 11 2047) ?_;refine jQ ?_))
      refine bh (k + 1) ⟨oM,fun j hj=>?_⟩ oM tU rfl a7
      rcases Nat.lt_or_ge j k with h3 | h3
      · exact Hk.2 j h3
      · have : j = k:=oM
        subst this;rw [lv hkv,hti];exact hnm
  have hna : lJ (ah vs) i:=fun j hj=>Hk.2 j oM
  repeat' (first | refine jR ?_ | refine ad rfl (aG oM) ?_)
  refine aT (ι:=Nat) (fun k=>(t.sort = 69 ∨ ∀ j,j < k → fe (ah vs) (ab t.fields j).kind = true) ∧ k ≤ t.fields.length) (fun k=>[(0,.slice (some ⟨b,o,none⟩) vs.length cap),(3,I i),(5,I k)]) (fun _=>G) (fun k=>[]) (fun k=>t.fields.length - k) 0 ?_ tU rfl a7 (fun k Hk=>?_)
  · exact ⟨.inr fun j hj=>absurd hj oM,Nat.zero_le _⟩
  by_cases hk : k < t.fields.length ∧ t.sort ≠ 69
  case neg =>
    have hko : iU (ah vs) (ab (ah vs) i):=by
      rw [hti]
      by_cases h69 : t.sort = 69
      · exact .inl h69
      · refine .inr fun j hj=>?_
        rcases Hk.1 with h3 | h3
        · exact absurd h3 h69
        · exact h3 j oM
    repeat' (first | refine jM ?_ | (refine jo ?_;first | refine jV (af rfl) ?_ | refine jV (ag rfl rfl oM) ?_ | (refine jV (gf rfl rfl aS ?_ aS rfl rfl) ?_;focus omega) | refine aM rfl ?_ | refine aC rfl ?_) | refine fp rfl rfl (fun _=>?_) (fun _=>?_) | (refine ad rfl (by first | rfl | (refine decide_eq_false ?_;(omega))) ?_))
    all_goals refine bh (i + 1) ⟨oM,fun j hj=>?_⟩ oM tU rfl a7
    all_goals (rcases Nat.lt_or_ge j i with h3 | h3;· exact Hi.2 j h3)
    all_goals (have : j = i:=by omega)
    all_goals (subst this;exact ⟨hna,hko⟩)
  obtain ⟨hk1,hk2⟩:=hk
  obtain ⟨bf,of,cf,ef,hsf⟩:=hfl.expl (by dsimp only;omega)
  simp only [gn,Value.slice.injEq] at ef
  obtain ⟨rfl,-,rfl⟩:=ef
  dsimp only at hsf
  have hE1 : (((some ⟨bf,of,none⟩,ca),t) : cy).2.sort = t.sort:=rfl
  have hE2 : (((some ⟨bf,of,none⟩,ca),t) : cy).2.fields.length = t.fields.length:=rfl
  have hkk:=cV ((hW.fld _ (bc hk1)).kind hk2)
  have hkk1:=hkk.1
  have hcl:=kX (ab t.fields k).kind
  have cx_ref : a9 adz 97 [S (bN (ab t.fields k).kind)] G (· = Tu [S ((b7 (bN (ab t.fields k).kind)).getD []),Bo (b7 (bN (ab t.fields k).kind)).isSome]):=mD (kF hkk1) oM
  have hhas:=rt (vs:=vs) (k:=(ab t.fields k).kind)
  repeat' (first | refine jM ?_ | (refine jo ?_;first | refine jV (af rfl) ?_ | refine jV (ag rfl rfl oM) ?_ | (refine jV (gf rfl rfl aS ?_ aS rfl rfl) ?_;focus omega) | (refine jV (bQ rfl rfl aS ?_ rfl rfl) ?_;focus omega) | refine aM rfl ?_ | refine aC rfl ?_ | refine jL fun _=>?_ | refine jC rfl rfl rfl ?_ | (refine ae rfl rfl rfl (tL (by (repeat (assumption));done)) rfl ?_) | refine ae rfl rfl rfl cx_ref rfl ?_ | (refine ae rfl rfl rfl (tM (by (repeat (assumption));done) oM) rfl ?_)) | refine aF rfl rfl (ay oM) ?_ | refine nr rfl rfl (fun _=>?_) (fun _=>?_) | refine ac rfl (ay oM) ?_ | refine ad rfl rfl ?_ | refine qC rfl (fun _=>?_) (fun _=>?_))
  all_goals first
    | (rename_i h1 h2
       have hK : fe (ah vs) (ab t.fields k).kind = false:=by rw [hhas,h1];simpa using h2
       refine jY (vs:=[_]) ?_
       refine congrArg Bo (decide_eq_false fun hv=>?_).symm
       have h5:=(hv.1 i oM).2
       rw [hti] at h5
       rcases h5 with h3 | h3
       · exact hk2 h3
       · have h6:=h3 k hk1
         rw [hK] at h6;cases h6)
    | (have hK : fe (ah vs) (ab t.fields k).kind = true:=by rw [hhas];simp_all
       refine bh (k + 1) ⟨.inr fun j hj=>?_,oM⟩ oM tU rfl (by repeat (exact List.nil_sublist _))
       rcases Nat.lt_or_ge j k with h3 | h3
       · rcases Hk.1 with h4 | h4
         · exact absurd h4 hk2
         · exact h4 j h3
       · have : j = k:=oM
         subst this;exact hK)
theorem il : ∀ {xs : List adA} {ts : List Ty} {x : adA},cD xs = some ts → cD (xs ++ [x]) = (du x).map (fun t=>ts ++ [t])
 | [],ts,x,h=>by
  simp only [cD,Option.some.injEq] at h;subst h
  simp only [List.nil_append,cD]
  cases du x <;> rfl
 | y :: xs,ts,x,h=>by
  unfold cD at h
  rw [List.cons_append,cD]
  cases hy : du y with
  | none=>rw [hy] at h;cases h
  | some t =>
   rw [hy] at h
   dsimp only at h ⊢
   cases hr : cD xs with
   | none=>rw [hr] at h;cases h
   | some us =>
    rw [hr] at h
    simp only [Option.map_some,Option.some.injEq] at h;subst h
    rw [il hr]
    cases du x <;> rfl
theorem gT : ∀ {xs ys : List adA},cD xs = none → cD (xs ++ ys) = none
 | [],ys,h=>by cases h
 | y :: xs,ys,h=>by
  unfold cD at h
  rw [List.cons_append,cD]
  cases hy : du y with
  | none=>rfl
  | some t =>
   rw [hy] at h
   dsimp only at h ⊢
   cases hr : cD xs with
   | none=>rw [gT hr];rfl
   | some us=>rw [hr] at h;cases h
def t7 (s : adA) (v : Value) (G : Gh) : Prop:=∃ u vs,v = Tu [u,Bo (aV s).isSome] ∧ SchR G u vs ∧ vs.length ≤ 8 ∧ ∀ ts,aV s = some ts → ah vs = ts
theorem SchR.nil : SchR G aQ []:=⟨aU.nil0,by simp⟩
theorem xi {s : adA} {k : Nat} (h : s.length ≤ 100000000) : bB adz 65 [S s,U8 k] G (fun v G'=>∃ b o cap,v = .slice (some ⟨b,o,none⟩) (aZ k s).length cap ∧ b9 G' b o (ak cn (aZ k s))):=by
 refine (mC (G:=G) (k:=k) h).mono ?_
 rintro v G' L' ⟨h1,h2,h3⟩
 obtain ⟨b,o,cap,rfl,hs⟩:=h3.expl en
 exact ⟨h1,h2,b,o,cap,rfl,hs⟩
theorem rS {s : adA} (h : s.length ≤ 1000) : bB adz 132 [S s] G (fun v G'=>∃ (x : cy) (ok : Bool),v = Tu [Ag [U8 x.2.sort,S x.2.name,.slice x.1.1 x.2.fields.length x.1.2],Bo ok] ∧ (du s = if ok = true then some x.2 else none) ∧ aU G' (gn x) 4 x.2.fields.length (ak g0 x.2.fields)):=by
 refine (tK (G:=G) h).mono ?_
 rintro v G' L' ⟨h1,h2,fv,t,ok,rfl,h3,h4⟩
 obtain ⟨a,cap,rfl⟩:=h4.sl
 exact ⟨h1,h2,((a,cap),t),ok,rfl,h3,h4⟩
theorem aaq {s : adA} (h : s.length ≤ 10000000) (hb : ¬ (s.length ≤ 400 ∧ (aZ 10 s).length ≤ 9 ∧ ab (aZ 10 s) ((aZ 10 s).length - 1) = [])) (hno : aV s = none) : bB adz 95 [S s] G (t7 s):=by
 have hpos:=en (k:=10) (s:=s)
 have hcnt:=ic (k:=10) (s:=s)
 have cx_cutE:=xi (G:=G) (s:=s) (k:=10) oM
 generalize aZ 10 s = xs at *
 have e1 : (((xs.length : Nat) : Int) - 1).toNat = xs.length - 1:=oM
 refine jB [(0,_)] Tryz.func95 Tryz.ntmps95 fun B hok hB hW=>?_
 by_cases h1 : s.length ≤ 400
 case neg =>
  repeat' (first | refine jR ?_ | (refine jo ?_;first | refine aM rfl ?_ | (refine an rfl rfl rfl cx_cutE rfl ?_;rintro _ G hle ⟨b1,o1,cap1,rfl,hseg⟩;skip)) | (refine aF rfl rfl (by first | rfl | (refine decide_eq_true ?_;(omega))) ?_) | refine ac rfl rfl ?_)
  all_goals refine jZ (vs:=[_,_]) rfl ⟨rfl,rfl,trivial⟩ rfl ⟨hle,rfl,?_⟩
  all_goals exact ⟨aQ,[],by rw [hno];rfl,SchR.nil,by simp,fun ts h=>by rw [hno] at h;cases h⟩
 by_cases h2 : xs.length ≤ 9
 case neg =>
  repeat' (first | refine jR ?_ | (refine jo ?_;first | refine jV (af rfl) ?_ | refine aM rfl ?_ | refine aC rfl ?_ | (refine an rfl rfl rfl cx_cutE rfl ?_;rintro _ G hle ⟨b1,o1,cap1,rfl,hseg⟩;skip)) | refine aF rfl rfl (ay oM) ?_ | refine ar rfl rfl (aG oM) ?_ | refine ac rfl rfl ?_)
  all_goals refine jZ (vs:=[_,_]) rfl ⟨rfl,rfl,trivial⟩ rfl ⟨hle,rfl,?_⟩
  all_goals exact ⟨aQ,[],by rw [hno];rfl,SchR.nil,by simp,fun ts h=>by rw [hno] at h;cases h⟩
 have h3 : ¬ ab xs (((xs.length : Nat) : Int) - 1).toNat = []:=by rw [e1];exact fun h=>hb ⟨h1,h2,h⟩
 clear hb
 repeat' (first | refine jM ?_ | (refine jo ?_;first | refine jV (af rfl) ?_ | refine aC rfl ?_ | refine jV (aN rfl rfl oM) ?_ | (refine jV (eN rfl rfl aS ?_) ?_;focus omega) | (refine an rfl rfl rfl cx_cutE rfl ?_;rintro _ G hle ⟨b1,o1,cap1,rfl,hseg⟩;skip)) | refine ar rfl rfl (aG oM) ?_ | refine ac rfl (ay ‹_›) ?_)
 all_goals refine jZ (vs:=[_,_]) rfl ⟨rfl,rfl,trivial⟩ rfl ⟨hle,rfl,?_⟩
 all_goals exact ⟨aQ,[],by rw [hno];rfl,SchR.nil,by simp,fun ts h=>by rw [hno] at h;cases h⟩
theorem aap {s : adA} (h : s.length ≤ 400) (h2 : (aZ 10 s).length ≤ 9) (h3 : ab (aZ 10 s) ((aZ 10 s).length - 1) = []) (hsc : aV s = match cD ((aZ 10 s).take ((aZ 10 s).length - 1)) with
    | some ts=>if jl ts then some ts else none
    | none=>none) : bB adz 95 [S s] G (t7 s):=by
  have hpos:=en (k:=10) (s:=s)
  have hall : ∀ y ∈ aZ 10 s,y.length ≤ s.length:=fun y hy=>df hy
  have cx_cutE:=xi (G:=G) (s:=s) (k:=10) oM
  generalize aZ 10 s = xs at *
  have e1 : (((xs.length : Nat) : Int) - 1).toNat = xs.length - 1:=oM
  have h4 : ab xs (((xs.length : Nat) : Int) - 1).toNat = []:=by rw [e1];exact h3
  have h5 : ¬ ab xs (((xs.length : Nat) : Int) - 1).toNat ≠ []:=fun h=>h h4
  clear e1 h3 h4
  refine jB [(0,_)] Tryz.func95 Tryz.ntmps95 fun B hok hB hW=>?_
  repeat' (first | refine jM ?_ | (refine jo ?_;first | refine jV (af rfl) ?_ | refine aC rfl ?_ | refine jV (aN rfl rfl oM) ?_ | (refine jV (eN rfl rfl aS ?_) ?_;focus omega) | refine jF fun _=>?_ | (refine an rfl rfl rfl cx_cutE rfl ?_;rintro _ G hle ⟨b1,o1,cap1,rfl,hseg⟩;skip)) | refine ar rfl rfl (aG oM) ?_ | refine ad rfl (aG ‹_›) ?_)
  rename_i x0
  refine Nx.blkAcc (m:=0) (sz:=3) .here rfl ?_
  refine aT (ι:=Value × List cy × Nat × Gh) (fun i=>((i.2.2.1 + 1 ≤ xs.length ∧ i.2.1.length = i.2.2.1) ∧ cD (xs.take i.2.2.1) = some (ah i.2.1)) ∧ (∀ y ∈ i.2.1,aU i.2.2.2 (gn y) 4 y.2.fields.length (ak g0 y.2.fields)) ∧ Gh.le G i.2.2.2) (fun i=>[(4,.slice (some ⟨b1,o1,none⟩) xs.length cap1),(5,i.1),(6,I i.2.2.1)]) (fun i=>i.2.2.2) (fun i=>[.acc i.1 qZ 3 i.2.1.length (ak ka i.2.1)]) (fun i=>xs.length - i.2.2.1) (.slice (some ⟨x0,0,none⟩) 0 0,[],0,G) ?_ tU rfl a7 (fun i Hi=>?_)
  · exact ⟨⟨⟨by dsimp only;omega,rfl⟩,rfl⟩,by simp,Gh.le.refl _⟩
  obtain ⟨u,vs,i,Gk⟩:=i
  dsimp only at Hi ⊢
  obtain ⟨⟨⟨hi1,hi2⟩,hty⟩,hfs,hgk⟩:=Hi
  have hsk:=hseg.mono hgk
  have hle0:=hle
  by_cases hix : i + 1 < xs.length
  case neg =>
    have ei : i = xs.length - 1:=oM
    rw [← ei,hty] at hsc
    dsimp only at hsc
    refine Nx.sealS (v:=u) fun G1 hle1 hsl=>?_
    have hS : SchR G1 u vs:=⟨hsl,fun x hx=>(hfs x hx).mono hle1⟩
    have hw : ∀ x ∈ vs,TyW x.2:=fun x hx=>(jc hty).1 x.2 (show x.2 ∈ vs.map (fun y=>y.2) from List.mem_map_of_mem hx)
    have cx_val:=aab hS oM hw
    repeat' (first | refine jM ?_ | (refine jo ?_;first | refine jV (af rfl) ?_ | refine ae rfl rfl rfl cx_val rfl ?_) | refine ad rfl (aG oM) ?_)
    all_goals refine jZ (vs:=[_,_]) rfl ⟨rfl,rfl,trivial⟩ rfl ⟨(hle0.trans hgk).trans hle1,rfl,?_⟩
    all_goals refine ⟨u,vs,?_,hS,oM,fun ts h=>?_⟩
    · rw [hsc,gu]
      by_cases hv : jl (ah vs)
      · rw [if_pos hv,decide_eq_true hv];rfl
      · rw [if_neg hv,decide_eq_false hv];rfl
    · rw [hsc] at h
      split at h
      · exact Option.some.inj h
      · cases h
  have hx2 : (ab xs i).length ≤ 1000:=by have:=hall _ (bc (show i < xs.length by omega));omega
  have hsn:=il (x:=ab xs i) hty
  rw [← co oM] at hsn
  repeat' (first | refine jM ?_ | (refine jo ?_;first | refine jV (af rfl) ?_ | refine jV (ag rfl rfl oM) ?_ | refine bM rfl ?_ | (refine jV (eN rfl rfl aS ?_) ?_;focus omega) | refine jF fun _=>?_ | refine jL fun _=>?_ | refine jC rfl rfl rfl ?_ | refine bD rfl rfl rfl rfl rfl rfl rfl rfl rfl oM fun _ _=>?_ | (refine an rfl rfl rfl (rS oM) rfl ?_;rintro _ G hle ⟨x,ok,rfl,htyp,hfl⟩;skip)) | refine ac rfl (ay oM) ?_ | refine qC rfl (fun _=>?_) (fun _=>?_))
  all_goals first
    | (rename_i hq
       have hq2 : ok = false:=by simpa using hq
       subst hq2
       have hf0 : du (ab xs i) = none:=htyp
       have hno : aV s = none:=by
         rw [hf0] at hsn
         have e2 : xs.take (xs.length - 1) = xs.take (i + 1) ++ (xs.take (xs.length - 1)).drop (i + 1):=by
           have:=List.take_append_drop (i + 1) (xs.take (xs.length - 1))
           rw [List.take_take,Nat.min_eq_left oM] at this
           exact this.symm
         rw [hsc,e2,gT hsn]
       refine jZ (vs:=[_,_]) rfl ⟨rfl,rfl,trivial⟩ rfl ⟨(hle0.trans hgk).trans hle,rfl,?_⟩
       exact ⟨aQ,[],by rw [hno];rfl,SchR.nil,by simp,fun ts h=>by rw [hno] at h;cases h⟩)
    | (rename_i z hq w b2 c2
       have hq2 : ok = true:=by simpa using hq
       subst hq2
       have hf1 : du (ab xs i) = some x.2:=htyp
       rw [hf1] at hsn
       have e3 : ak ka vs ++ [U8 x.2.sort,S x.2.name,.slice x.1.1 x.2.fields.length x.1.2] = ak ka (vs ++ [x]):=(bR ka vs x).symm
       refine bh (.slice (some ⟨b2,0,none⟩) (vs.length + 1) c2,vs ++ [x],i + 1,G) ⟨⟨⟨by dsimp only;omega,by simp;omega⟩,?_⟩,?_,hgk.trans hle⟩ (by dsimp only;omega) tU rfl (by dsimp only;rw [e3];simp only [List.length_append,List.length_cons,List.length_nil,Nat.zero_add];repeat (first | exact List.nil_sublist _ | apply List.Sublist.cons_cons))
       · dsimp only;rw [hsn];simp [ah]
       · intro y hy
         rcases List.mem_append.1 hy with hy | hy
         · exact (hfs y hy).mono hle
         · simp only [List.mem_singleton] at hy;subst hy;exact hfl)
theorem qc {s : adA} (h : s.length ≤ 10000000) : bB adz 95 [S s] G (t7 s):=by
 have hpos:=en (k:=10) (s:=s)
 have hlast : (aZ 10 s).getLastD [] = ab (aZ 10 s) ((aZ 10 s).length - 1):=by
  rw [aA oM,List.getLastD_eq_getLast?,List.getLast?_eq_getElem?]
  rw [List.getElem?_eq_getElem oM];rfl
 by_cases hc : s.length ≤ 400 ∧ (aZ 10 s).length ≤ 9 ∧ ab (aZ 10 s) ((aZ 10 s).length - 1) = []
 ·refine aap hc.1 hc.2.1 hc.2.2 ?_
  unfold aV
  rw [hlast,if_pos hc,List.dropLast_eq_take]
  (rfl)
 ·refine aaq h hc ?_
  unfold aV
  rw [hlast,if_neg hc]
def dq (s k : adA) : Bool:=match aV s with
 | some ts=>aB ts k
 | none=>false
theorem um {s : adA} (h : s.length ≤ 10000000) : a9 adz 77 [S s] G (· = Bo (aV s).isSome):=by
 refine jB (Post:=fun v G' L'=>G' = G ∧ L' = [] ∧ _) [(0,_)] Tryz.func77 Tryz.ntmps77 fun B hok hB hW=>?_
 repeat' (first | refine jR ?_ | (refine jo ?_;(refine an rfl rfl rfl (qc oM) rfl ?_;rintro _ G hle ⟨u,vs,rfl,hsch,hvl,hvs⟩;skip)))
 refine Nx.base hok hB ?_
 refine jY (vs:=[_]) ?_
 rfl
def yA (s k : adA) (v : Value) (G : Gh) : Prop:=∃ u vs,v = Tu [u,Bo (dq s k)] ∧ SchR G u vs ∧ vs.length ≤ 8 ∧ ∀ ts,aV s = some ts → aB ts k = true → ah vs = ts
theorem g9 {s k : adA} (h : s.length ≤ 10000000) (hk : k.length ≤ 10000000) : bB adz 60 [S s,S k] G (yA s k):=by
  cases hs : aV s with
  | none =>
    have hno : dq s k = false:=by unfold dq;rw [hs]
    have e1 : (!(aV s).isSome) = true:=by rw [hs];rfl
    refine jB [(0,_),(1,_)] Tryz.func60 Tryz.ntmps60 fun B hok hB hW=>?_
    repeat' (first | refine jR ?_ | (refine jo ?_;first | refine aM rfl ?_ | (refine an rfl rfl rfl (qc oM) rfl ?_;rintro _ G hle ⟨u,vs,rfl,hsch,hvl,hvs⟩;skip)) | refine aF rfl rfl ‹_› ?_ | refine ac rfl rfl ?_)
    all_goals refine jZ (vs:=[_,_]) rfl ⟨rfl,rfl,trivial⟩ rfl ⟨hle,rfl,?_⟩
    all_goals exact ⟨aQ,[],by rw [hno];rfl,SchR.nil,by simp,fun ts h=>by rw [hs] at h;cases h⟩
  | some ts =>
    have e1 : (!(aV s).isSome) = false:=by rw [hs];rfl
    by_cases hko : bU k = true
    case neg =>
      have hno : dq s k = false:=by unfold dq aB;rw [hs];simp [hko]
      have e2 : (!bU k) = true:=by simpa using hko
      refine jB [(0,_),(1,_)] Tryz.func60 Tryz.ntmps60 fun B hok hB hW=>?_
      repeat' (first | refine jR ?_ | (refine jo ?_;first | refine aC rfl ?_ | (refine an rfl rfl rfl (qc oM) rfl ?_;rintro _ G hle ⟨u,vs,rfl,hsch,hvl,hvs⟩;skip) | refine ae rfl rfl rfl nH rfl ?_) | refine ar rfl rfl ‹_› ?_ | refine ac rfl ‹_› ?_)
      all_goals refine jZ (vs:=[_,_]) rfl ⟨rfl,rfl,trivial⟩ rfl ⟨hle,rfl,?_⟩
      all_goals exact ⟨aQ,[],by rw [hno];rfl,SchR.nil,by simp,fun ts h1 h2=>by unfold aB at h2;simp [hko] at h2⟩
    have e2 : (!bU k) = false:=by rw [hko];rfl
    have hkk:=cV hko
    have hkk1:=hkk.1
    have hcl:=kX k
    have cx_rf2 : ∀ G,a9 adz 97 [S (bN k)] G (· = Tu [S ((b7 (bN k)).getD []),Bo (b7 (bN k)).isSome]):=fun G=>mD (kF hkk1) oM
    refine jB [(0,_),(1,_)] Tryz.func60 Tryz.ntmps60 fun B hok hB hW=>?_
    repeat' (first | refine jR ?_ | (refine jo ?_;first | refine aM rfl ?_ | refine aC rfl ?_ | refine jL fun _=>?_ | refine jC rfl rfl rfl ?_ | (refine an rfl rfl rfl (qc oM) rfl ?_;rintro _ G hle ⟨u,vs,rfl,hsch,hvl,hvs⟩;skip) | refine ae rfl rfl rfl nH rfl ?_ | (refine ae rfl rfl rfl (tL (by (repeat (assumption));done)) rfl ?_) | refine ae rfl rfl rfl (cx_rf2 _) rfl ?_ | (refine ae rfl rfl rfl (tM (by (repeat (assumption));done) oM) rfl ?_)) | refine ar rfl rfl ‹_› ?_ | refine nr rfl rfl (fun _=>?_) (fun _=>?_) | refine ad rfl ‹_› ?_)
    all_goals rename_i hq
    all_goals refine jZ (vs:=[_,_]) rfl ⟨rfl,rfl,trivial⟩ rfl ⟨hle,rfl,?_⟩
    all_goals have hks : dq s k = (!(b7 (bN k)).isSome || (gk vs ((b7 (bN k)).getD [])).isSome) := by
                unfold dq aB
                rw [hs]
                dsimp only
                rw [hko,Bool.true_and,← hvs ts hs,rt]
    all_goals exact ⟨u,vs,by rw [hks,hq];rfl,hsch,hvl,fun ts' h1 _=>hvs ts' h1⟩
abbrev dp:=Nat × Ty
def uF (q : dp) : List Value:=[Pt q.1 0]
instance : RowF uF 1:=⟨fun _=>rfl⟩
def md (qs : List dp) : List (adA × Value):=qs.map fun q=>(q.2.name,Pt q.1 0)
def aq (qs : List dp) : List Ty:=qs.map (·.2)
def fq (qs : List dp) (n : adA) : Option dp:=qs.find? fun q=>decide (n = q.2.name)
theorem gZ (qs : List dp) (n : adA) : rq (md qs) n = (fq qs n).map fun q=>Pt q.1 0:=by
 unfold rq md fq
 induction qs with
 | nil=>rfl
 | cons q qs ih =>
  simp only [List.map_cons,List.find?_cons]
  by_cases h : n = q.2.name
  ·simp [h]
  ·simp only [h,decide_false];exact ih
theorem iQ (qs : List dp) (n : adA) : (fq qs n).map (·.2) = ix (aq qs) n:=by
 unfold fq ix aq
 induction qs with
 | nil=>rfl
 | cons q qs ih =>
  simp only [List.map_cons,List.find?_cons]
  by_cases h : n = q.2.name
  ·simp [h]
  ·have h2 : ¬ q.2.name = n:=fun e=>h e.symm
   simp only [h,h2,decide_false];exact ih
theorem ji {qs : List dp} {n : adA} {q : dp} (h : fq qs n = some q) : q ∈ qs:=List.mem_of_find?_eq_some h
structure ScI (G : Gh) (b : Nat) (qs : List dp) : Prop where
 at' : ∃ u m,b9 G b 0 [u,.map (some m)] ∧ aU G u 1 qs.length (ak uF qs) ∧ G m = some (.ex (fF (md qs)))
 ty : ∀ q ∈ qs,oF G q.1 q.2
theorem ScI.mono {G G' : Gh} {b : Nat} {qs : List dp} (h : ScI G b qs) (hl : Gh.le G G') : ScI G' b qs:=by
 obtain ⟨u,m,h1,h2,h3⟩:=h.at'
 exact ⟨⟨u,m,h1.mono hl,h2.mono hl,hl _ _ h3⟩,fun q hq=>(h.ty q hq).mono hl⟩
theorem k4 {k : adA} (h : bU k = true) : bs k = [64] ↔ (b7 (bN k)).isSome = true:=by
 have hk:=kF (cV h).1
 unfold bs
 cases hc : bN k with
 | nil=>rw [hc] at hk;cases hk
 | cons c r =>
  unfold oD b7
  by_cases h64 : c.toNat = 64
  ·simp [h64]
  ·simp only [h64,if_false]
   constructor
   ·intro e;simp only [List.cons.injEq] at e;exact absurd (by rw [e.1];rfl) h64
   ·intro e;cases e
theorem vY {b : Nat} {qs : List dp} {k : adA} (h : ScI G b qs) (hk : bU k = true) : a9 adz 104 [Pt b 0,Ag [S (sg k),S (bs k),S (nm k)]] G (· = Bo (fe (aq qs) k)):=by
 obtain ⟨u,m,h1,h2,h3⟩:=h.at'
 have hat:=k4 hk
 rcases hr : b7 (bN k) with _ | n
 ·have hb : ¬ bs k = [64]:=by rw [hat,hr];simp
  have e : fe (aq qs) k = true:=by unfold fe;rw [hr]
  clear hat hr
  rw [e]
  refine jE [(0,_),(1,_)] Tryz.func104 Tryz.ntmps104 fun B hB=>?_
  repeat' (first | refine jR ?_ | (refine jo ?_;refine jO fun _=>?_) | (refine am (ao (id:=1) _ (fun _ h=>h) al ?_);refine jT 13 [0] (aa 14 1) ?_;(refine jG (aa 14 3) 1 rfl (aX rfl rfl rfl) ?_);refine jT 10 [2,3] (aa 14 15) ?_;(try (refine Nx.re (d:=8) (v':=Bo true) rfl (congrArg Value.bool (ay ‹_›)) ?_));refine jT 6 [4,5,6,8] (aa 14 383) ?_;(refine jN (aa 14 511) 7 rfl ?_);(refine jN (aa 14 1023) 9 rfl ?_);(refine jN (aa 14 2047) 10 rfl ?_);(refine jN (aa 14 4095) 11 rfl ?_);(refine jG (aa 14 8191) 12 rfl (bO rfl rfl rfl) ?_);refine jT 0 [13] (aa 14 16383) ?_;refine jQ ?_))
  all_goals refine jY (vs:=[_]) ?_
  all_goals rfl
 ·have hb : ¬ (bs k ≠ [64]):=fun h=>h (by rw [hat,hr];rfl)
  have hn : nm k = n:=by unfold nm;rw [hr];rfl
  have e : fe (aq qs) k = (fq qs (nm k)).isSome:=by unfold fe;rw [hr,hn];dsimp only;rw [← iQ];simp
  rw [e]
  clear hat hr hn e
  have hkv:=gZ qs (nm k)
  cases hf : fq qs (nm k) with
  | none =>
   rw [hf] at hkv
   dsimp only [Option.map_none] at hkv
   refine jE [(0,_),(1,_)] Tryz.func104 Tryz.ntmps104 fun B hB=>?_
   repeat' (first | refine jR ?_ | (refine jo ?_;refine jO fun _=>?_) | (refine am (ao (id:=1) _ (fun _ h=>h) al ?_);refine jT 13 [0] (aa 14 1) ?_;(refine jG (aa 14 3) 1 rfl (aX rfl rfl rfl) ?_);refine jT 10 [2,3] (aa 14 15) ?_;(try (refine Nx.re (d:=8) (v':=Bo false) rfl (congrArg Value.bool (aG ‹_›)) ?_));refine jT 6 [4,5,6,8] (aa 14 383) ?_;(refine jG (aa 14 511) 7 rfl (aj rfl rfl aS rfl rfl) ?_);(refine jG (aa 14 1023) 9 rfl (aX rfl rfl rfl) ?_);((refine jG (aa 14 2047) 10 rfl (dz rfl rfl (gG aS) aS rfl) ?_));(refine jG (aa 14 4095) 11 rfl (iu rfl rfl) ?_);(refine jG (aa 14 8191) 12 rfl (bm rfl rfl rfl) ?_);refine jT 0 [13] (aa 14 16383) ?_;refine jQ ?_))
   all_goals refine jY (vs:=[_]) ?_
   all_goals rfl
  | some q =>
   rw [hf] at hkv
   dsimp only [Option.map_some] at hkv
   refine jE [(0,_),(1,_)] Tryz.func104 Tryz.ntmps104 fun B hB=>?_
   repeat' (first | refine jR ?_ | (refine jo ?_;refine jO fun _=>?_) | (refine am (ao (id:=1) _ (fun _ h=>h) al ?_);refine jT 13 [0] (aa 14 1) ?_;(refine jG (aa 14 3) 1 rfl (aX rfl rfl rfl) ?_);refine jT 10 [2,3] (aa 14 15) ?_;(try (refine Nx.re (d:=8) (v':=Bo false) rfl (congrArg Value.bool (aG ‹_›)) ?_));refine jT 6 [4,5,6,8] (aa 14 383) ?_;(refine jG (aa 14 511) 7 rfl (aj rfl rfl aS rfl rfl) ?_);(refine jG (aa 14 1023) 9 rfl (aX rfl rfl rfl) ?_);((refine jG (aa 14 2047) 10 rfl (dz rfl rfl (gG aS) aS rfl) ?_));(refine jG (aa 14 4095) 11 rfl (iu rfl rfl) ?_);(refine jG (aa 14 8191) 12 rfl (bm rfl rfl rfl) ?_);refine jT 0 [13] (aa 14 16383) ?_;refine jQ ?_))
   all_goals refine jY (vs:=[_]) ?_
   all_goals rfl
theorem zu {k : adA} (h : bU k = true) : b7 k = if sg k = [] ∧ bs k = [64] then some (nm k) else none:=by
 have hat:=k4 h
 match k,h with
 | c :: r,h =>
  by_cases h1 : c.toNat = 91 ∨ c.toNat = 63
  ·have hs : ¬ (sg (c :: r) = [] ∧ bs (c :: r) = [64]):=by
    rintro ⟨e,_⟩
    unfold sg at e
    rw [bN,if_pos h1] at e
    have:=mv r
    have e2:=congrArg List.length e
    simp only [List.length_take,List.length_cons,List.length_nil] at e2
    omega
   rw [if_neg hs]
   simp only [b7]
   rw [if_neg oM]
  ·have hc : bN (c :: r) = c :: r:=by rw [bN,if_neg h1]
   have hs : sg (c :: r) = []:=by unfold sg;rw [hc];simp
   have hn : nm (c :: r) = (b7 (c :: r)).getD []:=by unfold nm;rw [hc]
   rw [hc] at hat
   rw [hn,hs]
   cases hr : b7 (c :: r) with
   | none=>rw [hr] at hat;rw [if_neg];rintro ⟨_,e⟩;have:=hat.1 e;cases this
   | some n=>rw [hr] at hat;rw [if_pos ⟨rfl,hat.2 rfl⟩];rfl
theorem aau {b : Nat} {qs : List dp} {q0 : dp} (h : ScI G b qs) (hw : ∀ q ∈ qs,TyW q.2) (hk : ∀ q ∈ qs,iU (aq qs) q.2) (hq : q0 ∈ qs) :
  a9 adz 137 [Pt b 0,Pt q0.1 0] G (· = Bo (ci (aq qs) 9 q0.2)):=by
 obtain ⟨u,m,h1,h2,h3⟩:=h.at'
 refine jE [(0,_),(1,_)] Tryz.func137 Tryz.ntmps137 fun B hB=>?_
 repeat' (refine jR ?_)
 refine aT (ι:=dp × Nat) (fun i=>i.1 ∈ qs ∧ i.2 ≤ 9 ∧ ci (aq qs) (9 - i.2) i.1.2 = ci (aq qs) 9 q0.2) (fun i=>[(0,Pt b 0),(1,Pt i.1.1 0),(6,I i.2)]) (fun _=>G) (fun i=>[]) (fun i=>9 - i.2) (q0,0) ?_ tU rfl a7 (fun i Hi=>?_)
 ·exact ⟨hq,Nat.zero_le _,rfl⟩
 obtain ⟨⟨p,t⟩,i⟩:=i
 dsimp only at Hi ⊢
 obtain ⟨hqm,hi9,he⟩:=Hi
 have hW:=hw _ hqm
 obtain ⟨fv,ln,hsg,hfv⟩:=h.ty _ hqm
 dsimp only at hW hsg hfv
 by_cases hlt : i < 9
 case neg =>
  have e0 : 9 - i = 0:=oM
  rw [e0] at he
  repeat' (first | refine jR ?_ | refine ad rfl (aG oM) ?_)
  refine jY (vs:=[_]) ?_
  rw [← he];rfl
 obtain ⟨j,hj⟩ : ∃ j,9 - i = j + 1:=⟨8 - i,oM⟩
 rw [hj,ci] at he
 by_cases hU : t.sort = 85
 case neg =>
  rw [if_pos hU] at he
  repeat' (first | refine jR ?_ | (refine jo ?_;refine jV (aj rfl rfl aS rfl rfl) ?_) | refine ac rfl (ay oM) ?_)
  refine jY (vs:=[_]) ?_
  rw [← he];rfl
 rw [if_neg (by simp [hU])] at he
 have hne:=hW.ne oM
 have h0 : 0 < t.fields.length:=List.length_pos_iff.2 hne
 obtain ⟨bf,of,cf,rfl,hsf⟩:=hfv.expl h0
 have hk0 : eP t = (ab t.fields 0).kind:=by
  unfold eP ab
  cases t.fields with
  | nil=>rfl
  | cons f r=>rfl
 have hko:=(hW.fld _ (bc h0)).kind oM
 have hrs:=zu hko
 have hhas : fe (aq qs) (ab t.fields 0).kind = true:=by
  rcases hk _ hqm with h5 | h5
  ·dsimp only at h5;omega
  ·exact h5 0 h0
 rw [hk0] at he
 by_cases hs1 : sg (ab t.fields 0).kind = []
 case neg =>
  rw [if_neg fun h=>hs1 h.1] at hrs
  unfold a8 at he
  rw [hrs] at he
  repeat' (first | refine jR ?_ | (refine jo ?_;first | refine aD rfl ?_ | refine jV (aj rfl rfl aS rfl rfl) ?_ | (refine jV (iv rfl rfl aS ?_ rfl rfl) ?_;focus omega) | refine jV (ag rfl rfl oM) ?_ | refine jL fun _=>?_ | refine jC rfl rfl rfl ?_ | refine aM rfl ?_) | refine aF rfl rfl (ay ‹_›) ?_ | (refine ac rfl (by first | rfl | (refine decide_eq_true ?_;(omega))) ?_) | refine ad rfl (aG oM) ?_)
  all_goals refine jY (vs:=[_]) ?_
  all_goals (rw [← he];rfl)
 by_cases hs2 : bs (ab t.fields 0).kind = [64]
 case neg =>
  rw [if_neg fun h=>hs2 h.2] at hrs
  unfold a8 at he
  rw [hrs] at he
  repeat' (first | refine jR ?_ | (refine jo ?_;first | refine aD rfl ?_ | refine jV (aj rfl rfl aS rfl rfl) ?_ | (refine jV (iv rfl rfl aS ?_ rfl rfl) ?_;focus omega) | refine jV (ag rfl rfl oM) ?_ | refine jL fun _=>?_ | refine jC rfl rfl rfl ?_ | refine aC rfl ?_) | (refine ar rfl rfl ?_ ?_;(focus ((simp [*];done);done))) | (refine ac rfl (by refine decide_eq_true ?_;first | assumption | omega) ?_) | refine ad rfl (aG oM) ?_)
  all_goals refine jY (vs:=[_]) ?_
  all_goals (rw [← he];rfl)
 rw [if_pos ⟨hs1,hs2⟩] at hrs
 unfold a8 at he
 rw [hrs,Option.bind_some,← iQ] at he
 have hkv:=gZ qs (nm (ab t.fields 0).kind)
 have hr2 : b7 (bN (ab t.fields 0).kind) = some (nm (ab t.fields 0).kind):=by
  have:=(k4 hko).1 hs2
  unfold nm
  cases hx : b7 (bN (ab t.fields 0).kind) with
  | none=>rw [hx] at this;cases this
  | some n=>rfl
 unfold fe at hhas
 rw [hr2] at hhas
 dsimp only at hhas
 rw [← iQ] at hhas
 cases hf : fq qs (nm (ab t.fields 0).kind) with
 | none=>rw [hf] at hhas;cases hhas
 | some q =>
  rw [hf] at hkv he
  dsimp only [Option.map_some] at hkv he
  have hb1 : ¬ sg (ab t.fields 0).kind ≠ []:=fun h=>h hs1
  have hb2 : ¬ bs (ab t.fields 0).kind ≠ [64]:=fun h=>h hs2
  clear hs1 hs2 hrs hr2
  repeat' (first | refine jM ?_ | (refine jo ?_;first | refine aD rfl ?_ | refine jV (aj rfl rfl aS rfl rfl) ?_ | (refine jV (iv rfl rfl aS ?_ rfl rfl) ?_;focus omega) | refine jV (ag rfl rfl oM) ?_ | refine jL fun _=>?_ | refine jC rfl rfl rfl ?_ | refine aC rfl ?_) | refine ar rfl rfl (aG ‹_›) ?_ | refine ac rfl (ay oM) ?_ | (refine ad rfl (by refine decide_eq_false ?_;first | assumption | omega) ?_) | (refine am (ao (id:=8) _ (fun _ h=>h) al ?_);refine jT 4 [0,1,2,4] (aa 8 23) ?_;(refine jG (aa 8 31) 3 rfl (aj rfl rfl aS rfl rfl) ?_);(refine jG (aa 8 63) 5 rfl (aX rfl rfl rfl) ?_);((refine jG (aa 8 127) 6 rfl (dz rfl rfl (gG aS) aS rfl) ?_));refine jT 0 [7] (aa 8 255) ?_;refine jQ ?_))
  refine bh (q,i + 1) ⟨ji hf,by dsimp only;omega,?_⟩ (by dsimp only;omega) tU rfl (by repeat (exact List.nil_sublist _))
  dsimp only
  rw [show 9 - (i + 1) = j by omega]
  exact he
structure Rdg (s : adA) (ls : List adA) (ts : List Ty) (t : adA) : Prop where
 cutE : aZ 10 s = ls ++ aZ 10 t
 tyE : cD ls = some ts
theorem Rdg.start (s : adA) : Rdg s [] [] s:=⟨rfl,rfl⟩
theorem Rdg.len {s : adA} {ls : List adA} {ts : List Ty} {t : adA} (h : Rdg s ls ts t) : ts.length = ls.length:=(jc h.tyE).2
theorem mq {t line rest : adA} (h : aH 10 t = (line,rest,true)) : aZ 10 t = line :: aZ 10 rest:=by rw [kD,h];rfl
theorem Rdg.step {s : adA} {ls : List adA} {ts : List Ty} {t line rest : adA} {x : Ty} (h : Rdg s ls ts t) (hc : aH 10 t = (line,rest,true)) (hx : du line = some x) : Rdg s (ls ++ [line]) (ts ++ [x]) rest :=
 ⟨by rw [h.cutE,mq hc];simp,by rw [il h.tyE,hx];rfl⟩
theorem Rdg.fin {s : adA} {ls : List adA} {ts : List Ty} (h : Rdg s ls ts []) (hl : s.length ≤ 400) (h8 : ts.length ≤ 8) : aV s = if jl ts then some ts else none:=by
 have hlen:=h.len
 have e : aZ 10 s = ls ++ [[]]:=h.cutE
 unfold aV
 rw [e,if_pos ⟨hl,by simp;omega,by simp⟩,List.dropLast_concat,h.tyE]
theorem vA {s : adA} (h : ¬ s.length ≤ 400) : aV s = none:=by
 unfold aV
 exact if_neg fun h2=>h h2.1
theorem Rdg.noend {s : adA} {ls : List adA} {ts : List Ty} {t : adA} (h : Rdg s ls ts t) (ht : t ≠ []) (hc : (aH 10 t).2.2 = false) : aV s = none:=by
 have e : aZ 10 s = ls ++ [t]:=by rw [h.cutE,kD,hc];rfl
 unfold aV
 rw [e,if_neg]
 rintro ⟨_,_,h3⟩
 simp at h3
 exact ht h3
theorem Rdg.many {s : adA} {ls : List adA} {ts : List Ty} {t line rest : adA} (h : Rdg s ls ts t) (hc : aH 10 t = (line,rest,true)) (h8 : ts.length = 8) : aV s = none:=by
 have hlen:=h.len
 have hp:=en (k:=10) (s:=rest)
 unfold aV
 rw [h.cutE,mq hc,if_neg]
 rintro ⟨_,h3,_⟩
 simp at h3
 omega
theorem rD {ls : List adA} {line rest : adA} : (ls ++ line :: aZ 10 rest).dropLast = (ls ++ [line]) ++ (aZ 10 rest).dropLast:=by
 have hp:=en (k:=10) (s:=rest)
 have hne : aZ 10 rest ≠ []:=fun e=>by rw [e] at hp;simp at hp
 rw [List.dropLast_append_of_ne_nil (by simp),List.dropLast_cons_of_ne_nil hne];simp
theorem Rdg.bad {s : adA} {ls : List adA} {ts : List Ty} {t line rest : adA} (h : Rdg s ls ts t) (hc : aH 10 t = (line,rest,true)) (hx : du line = none) : aV s = none:=by
 have hn : cD (ls ++ [line]) = none:=by rw [il h.tyE,hx];rfl
 unfold aV
 split
 ·rw [h.cutE,mq hc,rD,gT hn]
 ·rfl
theorem n5 : ∀ {xs ys : List adA} {ts us : List Ty},cD xs = some ts → cD (xs ++ ys) = some us → ∃ vs,us = ts ++ vs
 | [],ys,ts,us,h,h2=>by simp only [cD,Option.some.injEq] at h;subst h;exact ⟨us,rfl⟩
 | x :: xs,ys,ts,us,h,h2=>by
  unfold cD at h
  rw [List.cons_append,cD] at h2
  cases hx : du x with
  | none=>rw [hx] at h;cases h
  | some t =>
   rw [hx] at h h2
   dsimp only at h h2
   cases hr : cD xs with
   | none=>rw [hr] at h;cases h
   | some ws =>
    rw [hr] at h
    simp only [Option.map_some,Option.some.injEq] at h;subst h
    cases hq : cD (xs ++ ys) with
    | none=>rw [hq] at h2;cases h2
    | some zs =>
     rw [hq] at h2
     simp only [Option.map_some,Option.some.injEq] at h2;subst h2
     obtain ⟨vs,rfl⟩:=n5 hr hq
     exact ⟨vs,rfl⟩
theorem j3 {α : Type} [Inhabited α] {xs ys : List α} {i : Nat} (h : i < xs.length) : ab (xs ++ ys) i = ab xs i:=by
 rw [aA h,aA (by simp;omega),List.getElem_append_left h]
theorem Rdg.dup {s : adA} {ls : List adA} {ts : List Ty} {t line rest : adA} {x : Ty} (h : Rdg s ls ts t) (hc : aH 10 t = (line,rest,true)) (hx : du line = some x) (i : Nat) (hi : i < ts.length) (hd : (ab ts i).name = x.name) : aV s = none:=by
 have h2:=h.step hc hx
 unfold aV
 split
 ·rw [h.cutE,mq hc,rD]
  cases hr : cD (ls ++ [line] ++ (aZ 10 rest).dropLast) with
  | none=>rfl
  | some us =>
   obtain ⟨vs,rfl⟩:=n5 h2.tyE hr
   dsimp only
   rw [if_neg]
   intro hv
   have h3:=(hv.1 ts.length (by simp)).1 i hi
   have e1 : ab (ts ++ [x] ++ vs) i = ab ts i:=by rw [j3 (by simp;omega),j3 hi]
   have e2 : ab (ts ++ [x] ++ vs) ts.length = x:=by rw [j3 (by simp),aA (by simp)];simp
   rw [e1,e2] at h3
   exact h3 hd
 ·rfl
abbrev tPT : TypeId:=116
abbrev tSc : TypeId:=120
def ab3 (s : adA) (v : Value) (G : Gh) : Prop:=(aV s = none ∧ ∃ p,v = Tu [p,Bo false]) ∨ ∃ b qs,v = Tu [Pt b 0,Bo true] ∧ aV s = some (aq qs) ∧ ScI G b qs
theorem f7 (qs : List dp) : (aq qs).length = qs.length:=by simp [aq]
theorem lx {qs : List dp} {i : Nat} (h : i < qs.length) : ab (aq qs) i = (ab qs i).2:=by
 rw [aA h,aA (by rw [f7];exact h)];simp [aq]
theorem vO {qs : List dp} {n : adA} {q : dp} (h : fq qs n = some q) : ∃ i,i < (aq qs).length ∧ (ab (aq qs) i).name = n:=by
 have h1:=ji h
 have h2 : n = q.2.name:=by unfold fq at h;simpa using List.find?_some h
 obtain ⟨i,hi,rfl⟩:=nT h1
 exact ⟨i,by rw [f7];exact hi,by rw [lx hi,h2]⟩
theorem vP {qs : List dp} {n : adA} (h : fq qs n = none) : ∀ i,i < qs.length → (ab (aq qs) i).name ≠ n:=by
 intro i hi e
 unfold fq at h
 rw [List.find?_eq_none] at h
 have:=h _ (bc hi)
 rw [lx hi] at e
 simp [e] at this
theorem nF {s : adA} (h : s.length ≤ 10000000) : bB adz 102 [S s] G (ab3 s):=by
 by_cases hl : s.length ≤ 400
 case neg =>
  have hno:=vA hl
  refine jB [(0,_)] Tryz.func102 Tryz.ntmps102 fun B hok hB hW=>?_
  repeat' (first | refine jR ?_ | refine ac rfl (ay oM) ?_)
  all_goals refine jZ (vs:=[_,_]) rfl ⟨rfl,rfl,trivial⟩ rfl ⟨Gh.le.refl _,rfl,?_⟩
  all_goals exact .inl ⟨hno,_,rfl⟩
 refine jB [(0,_)] Tryz.func102 Tryz.ntmps102 fun B hok hB hW=>?_
 repeat' (first | refine jR ?_ | (refine jo ?_;first | refine acJ rfl fun _=>?_ | refine jV (ax rfl rfl) ?_ | refine jO fun _=>?_) | refine ad rfl (aG oM) ?_)
 rename_i m x
 refine Nx.addNil tPT 1 ?_
 refine aT (ι:=Value × List dp × List adA × adA × Gh) (fun i=>Rdg s i.2.2.1 (aq i.2.1) i.2.2.2.1 ∧ (i.2.1.length ≤ 8 ∧ i.2.2.2.1.length ≤ s.length) ∧ (∀ a,a < i.2.1.length → lJ (aq i.2.1) a) ∧ (∀ q ∈ i.2.1,oF i.2.2.2.2 q.1 q.2) ∧ Gh.le G i.2.2.2.2) (fun i=>[(0,S i.2.2.2.1),(4,Pt x 0)]) (fun i=>i.2.2.2.2) (fun i=>[.acc i.1 tPT 1 i.2.1.length (ak uF i.2.1),.blk x (.cells [i.1,.map (some m)].toArray tSc (0,0)),.blk m (fF (md i.2.1))]) (fun i=>i.2.2.2.1.length) (aQ,[],[],s,G) ?_ tU rfl a7 (fun i Hi=>?_)
 ·exact ⟨Rdg.start s,⟨by simp,Nat.le_refl _⟩,fun a ha=>absurd ha (by simp),by simp,Gh.le.refl _⟩
 obtain ⟨u,qs,ls,t,Gk⟩:=i
 dsimp only at Hi ⊢
 obtain ⟨hR,⟨h8,htl⟩,hna,hti,hgk⟩:=Hi
 refine Nx.shp (v:=u) (.head _) fun hsh=>?_
 have hsh2:=hsh
 obtain ⟨au,cu,rfl⟩:=hsh.sl
 by_cases ht : t = []
 case neg =>
  have cx_cut : ∀ G,a9 adz 135 [S t,S [10]] G (· = Tu [S (aH 10 t).1,S (aH 10 t).2.1,Bo (aH 10 t).2.2]):=fun G=>qj (c:=10) oM
  have hcl:=kE (k:=10) (s:=t)
  cases hc : (aH 10 t).2.2 with
  | false =>
   have hno:=hR.noend ht hc
   have hc2 : (!(aH 10 t).2.2) = true:=by rw [hc];rfl
   repeat' (first | refine jR ?_ | (refine jo ?_;first | refine aM rfl ?_ | refine ae rfl rfl rfl (cx_cut _) rfl ?_) | refine aF rfl rfl ‹_› ?_ | (refine ac rfl (by first | rfl | (refine decide_eq_true ?_;(assumption))) ?_))
   all_goals refine jZ (vs:=[_,_]) rfl ⟨rfl,rfl,trivial⟩ rfl ⟨hgk,rfl,?_⟩
   all_goals exact .inl ⟨hno,_,rfl⟩
  | true =>
   have hce : aH 10 t = ((aH 10 t).1,(aH 10 t).2.1,true):=by rw [← hc]
   have hlt : (aH 10 t).2.1.length < t.length:=by
    obtain ⟨d,_,e⟩:=ig hce
    have:=congrArg List.length e
    simp at this;omega
   rw [hc] at cx_cut
   generalize (aH 10 t).1 = line at *
   generalize (aH 10 t).2.1 = rest at *
   clear hc
   by_cases h9 : qs.length = 8
   ·have hno:=hR.many hce (by rw [f7];exact h9)
    repeat' (first | refine jR ?_ | (refine jo ?_;first | refine aD rfl ?_ | refine jV (af rfl) ?_ | refine aC rfl ?_ | refine ae rfl rfl rfl (cx_cut _) rfl ?_) | refine ar rfl rfl rfl ?_ | (refine ac rfl (by refine decide_eq_true ?_;first | assumption | omega) ?_))
    all_goals refine jZ (vs:=[_,_]) rfl ⟨rfl,rfl,trivial⟩ rfl ⟨hgk,rfl,?_⟩
    all_goals exact .inl ⟨hno,_,rfl⟩
   have hle1 : line.length ≤ 1000:=oM
   cases hty : du line with
   | none =>
    have hno:=hR.bad hce hty
    have cx_rt0 : ∀ G,bB adz 136 [S line] G (fun v _=>∃ p,v = Tu [p,Bo false]):=fun G=>by
     refine (p6 (G:=G) hle1).mono ?_
     rintro v G' L' ⟨h1,h2,⟨_,p,rfl⟩ | ⟨_,_,_,h4,_⟩⟩
     ·exact ⟨h1,h2,p,rfl⟩
     ·rw [hty] at h4;cases h4
    repeat' (first | refine jR ?_ | (refine jo ?_;first | refine aD rfl ?_ | refine jV (af rfl) ?_ | refine aC rfl ?_ | refine ae rfl rfl rfl (cx_cut _) rfl ?_ | (refine an rfl rfl rfl (cx_rt0 _) rfl ?_;rintro _ G hle ⟨p,rfl⟩;skip)) | refine ar rfl rfl rfl ?_ | (refine ac rfl (by first | rfl | (refine decide_eq_true ?_;(assumption))) ?_) | refine ad rfl (aG oM) ?_ | (refine am (ao (id:=9) _ (fun _ h=>h) al ?_);refine jT 11 [0,1,2] (aa 14 7) ?_;(try (refine Nx.re (d:=47) (v':=Bo true) rfl (congrArg Value.bool rfl) ?_));refine jT 5 [3,4,5,7,8,9] (aa 14 959) ?_;(refine jN (aa 14 1023) 6 rfl ?_);(refine jN (aa 14 2047) 10 rfl ?_);(refine jN (aa 14 4095) 11 rfl ?_);(refine jN (aa 14 8191) 12 rfl ?_);(refine jG (aa 14 16383) 13 rfl (bO rfl rfl rfl) ?_);refine jQ ?_))
    all_goals refine jZ (vs:=[_,_]) rfl ⟨rfl,rfl,trivial⟩ rfl ⟨hgk.trans hle,rfl,?_⟩
    all_goals exact .inl ⟨hno,_,rfl⟩
   | some ty =>
   have cx_rt1 : ∀ G,bB adz 136 [S line] G (fun v G'=>∃ b fv ln,v = Tu [Pt b 0,Bo true] ∧ b9 G' b 0 [U8 ty.sort,S ty.name,fv,S ln] ∧ aU G' fv 6 ty.fields.length (ak iF ty.fields)):=fun G=>by
    refine (p6 (G:=G) hle1).mono ?_
    rintro v G' L' ⟨h1,h2,⟨h4,_⟩ | ⟨b,t2,rfl,h4,fv,ln,h5,h6⟩⟩
    ·rw [hty] at h4;cases h4
    ·rw [hty] at h4;simp only [Option.some.injEq] at h4;subst h4
     exact ⟨h1,h2,b,fv,ln,rfl,h5,h6⟩
   have hkv:=gZ qs ty.name
   cases hf : fq qs ty.name with
   | some q =>
    rw [hf] at hkv
    dsimp only [Option.map_some] at hkv
    obtain ⟨i,hi,hn⟩:=vO hf
    have hno:=hR.dup hce hty i hi hn
    repeat' (first | refine jR ?_ | (refine jo ?_;first | refine aD rfl ?_ | refine jV (af rfl) ?_ | refine aC rfl ?_ | refine ae rfl rfl rfl (cx_cut _) rfl ?_ | (refine an rfl rfl rfl (cx_rt1 _) rfl ?_;rintro _ G hle ⟨b,fv,ln,rfl,hsg,hfv⟩;skip)) | refine ar rfl rfl rfl ?_ | (refine ac rfl (by first | rfl | (refine decide_eq_true ?_;(assumption))) ?_) | refine ad rfl (aG oM) ?_ | (refine am (ao (id:=9) _ (fun _ h=>h) al ?_);refine jT 11 [0,1,2] (aa 14 7) ?_;(try (refine Nx.re (d:=47) (v':=Bo false) rfl (congrArg Value.bool rfl) ?_));refine jT 5 [3,4,5,7,8,9] (aa 14 959) ?_;(refine jG (aa 14 1023) 6 rfl (aX rfl rfl rfl) ?_);(refine jG (aa 14 2047) 10 rfl (aj rfl rfl aS rfl rfl) ?_);(refine jG (aa 14 4095) 11 rfl (dz rfl rfl (uI MapI.mem) aS rfl) ?_);(refine jG (aa 14 8191) 12 rfl (iu rfl rfl) ?_);(refine jG (aa 14 16383) 13 rfl (bm rfl rfl rfl) ?_);refine jQ ?_))
    all_goals refine jZ (vs:=[_,_]) rfl ⟨rfl,rfl,trivial⟩ rfl ⟨hgk.trans hle,rfl,?_⟩
    all_goals exact .inl ⟨hno,_,rfl⟩
   | none =>
    rw [hf] at hkv
    dsimp only [Option.map_none] at hkv
    repeat' (first | refine jR ?_ | (refine jo ?_;first | refine aD rfl ?_ | refine jV (af rfl) ?_ | refine aC rfl ?_ | refine ae rfl rfl rfl (cx_cut _) rfl ?_ | (refine an rfl rfl rfl (cx_rt1 _) rfl ?_;rintro _ G hle ⟨b,fv,ln,rfl,hsg,hfv⟩;skip)) | refine ar rfl rfl rfl ?_ | refine ac rfl (ay ‹_›) ?_ | refine ad rfl (aG oM) ?_)
    (refine am (ao (id:=9) _ (fun _ h=>h) al ?_);refine jT 11 [0,1,2] (aa 14 7) ?_;(try (refine Nx.re (d:=47) (v':=Bo false) rfl (congrArg Value.bool rfl) ?_));refine jT 5 [3,4,5,7,8,9] (aa 14 959) ?_;(refine jG (aa 14 1023) 6 rfl (aX rfl rfl rfl) ?_);(refine jG (aa 14 2047) 10 rfl (aj rfl rfl aS rfl rfl) ?_);(refine jG (aa 14 4095) 11 rfl (dz rfl rfl (uI MapI.mem) aS rfl) ?_);(refine jG (aa 14 8191) 12 rfl (iu rfl rfl) ?_);(refine jG (aa 14 16383) 13 rfl (bm rfl rfl rfl) ?_);refine jQ ?_)
    repeat' (first | refine jR ?_ | (refine jo ?_;first | refine aD rfl ?_ | refine jF fun _=>?_ | refine bD rfl rfl rfl rfl rfl rfl rfl rfl rfl oM fun _ _=>?_ | refine jD rfl rfl rfl ?_) | refine ad rfl rfl ?_)
    rename_i w b2 c2
    (refine am (ao (id:=12) [.blk x (.cells [.slice (some ⟨b2,0,none⟩) (qs.length + 1) c2,.map (some m)].toArray tSc (0,0))] (by intro y hy;simp only [List.mem_cons,List.not_mem_nil,or_false] at hy ⊢;simp [hy]) al ?_);refine jW 3 [0,1,2,4,5,6,8] (aa 10 375) ?_;(refine jG (aa 10 383) 3 rfl (aX rfl rfl rfl) ?_);(refine jG (aa 10 511) 7 rfl (aj rfl rfl aS rfl rfl) ?_);refine jA 9 rfl ?_;(refine acH rfl rfl rfl rfl ‹_› ?_);refine jS (aa 10 1023) ?_;refine jQ ?_)
    repeat' (refine jR ?_)
    have e1 : md qs ++ [(ty.name,Pt b 0)] = md (qs ++ [(b,ty)]):=by simp [md]
    have e2 : ak uF qs ++ [Pt b 0] = ak uF (qs ++ [(b,ty)]):=(bR uF qs (b,ty)).symm
    have e3 : aq (qs ++ [(b,ty)]) = aq qs ++ [ty]:=by simp [aq]
    rw [e1,e2]
    refine bh (.slice (some ⟨b2,0,none⟩) (qs.length + 1) c2,qs ++ [(b,ty)],ls ++ [line],rest,G) ⟨?_,⟨by simp;omega,by dsimp only;omega⟩,?_,?_,hgk.trans hle⟩ (by dsimp only;omega) tU rfl (by dsimp only;simp only [List.length_append,List.length_cons,List.length_nil,Nat.zero_add];repeat (first | exact List.Sublist.refl _ | apply List.Sublist.cons_cons | apply List.Sublist.cons))
    ·dsimp only;rw [e3];exact hR.step hce hty
    ·intro a ha k hk
     dsimp only at ha ⊢
     rw [e3]
     have hlen:=f7 qs
     have hal : a < qs.length + 1:=by simpa using ha
     rcases Nat.lt_or_ge a qs.length with h3 | h3
     ·rw [j3 oM,j3 oM];exact hna a h3 k hk
     ·have ea : a = qs.length:=oM
      have e4 : ab (aq qs ++ [ty]) a = ty:=by rw [aA (by simp;omega),List.getElem_append_right oM];simp
      rw [j3 oM,e4]
      exact vP hf k oM
    ·intro q hq
     dsimp only at hq ⊢
     rcases List.mem_append.1 hq with hq | hq
     ·exact (hti q hq).mono hle
     ·simp only [List.mem_singleton] at hq;subst hq;exact ⟨fv,ln,hsg,hfv⟩
 ·subst ht
  have hfin:=hR.fin hl (by rw [f7];exact h8)
  have hw : ∀ q ∈ qs,TyW q.2:=fun q hq=>(jc hR.tyE).1 q.2 (show q.2 ∈ qs.map (fun y=>y.2) from List.mem_map_of_mem hq)
  refine Nx.sealS (v:=.slice au qs.length cu) fun G1 hl1 hsl=>?_
  refine Nx.sealC (b:=x) fun G2 hl2 hsx=>?_
  refine Nx.sealM (b:=m) fun G3 hl3 hmm=>?_
  have hS : ScI G3 x qs:=⟨⟨_,m,hsx.mono hl3,hsl.mono (hl2.trans hl3),hmm⟩,fun q hq=>(hti q hq).mono ((hl1.trans hl2).trans hl3)⟩
  have hgl : Gh.le G G3:=((hgk.trans hl1).trans hl2).trans hl3
  have hsx3:=hsx.mono hl3
  have hsl3:=hsl.mono (hl2.trans hl3)
  repeat' (first | refine jR ?_ | (refine jo ?_;first | refine jV (aj rfl rfl aS rfl rfl) ?_ | refine jV (af rfl) ?_) | refine ad rfl rfl ?_)
  refine aT (ι:=Nat) (fun k=>k ≤ qs.length ∧ ∀ j,j < k → iU (aq qs) (ab qs j).2) (fun k=>[(4,Pt x 0),(82,.slice au qs.length cu),(83,I qs.length),(84,I k)]) (fun k=>G3) (fun k=>[]) (fun k=>qs.length - k) 0 ?_ tU rfl a7 (fun k Hk=>?_)
  ·exact ⟨Nat.zero_le _,fun j hj=>absurd hj oM⟩
  by_cases hk : k < qs.length
  case neg =>
   have hko : ∀ q ∈ qs,iU (aq qs) q.2:=fun q hq=>by
    obtain ⟨j,hj,rfl⟩:=nT hq
    exact Hk.2 j oM
   repeat' (first | refine jR ?_ | (refine jo ?_;first | refine jV (aj rfl rfl aS rfl rfl) ?_ | refine jV (af rfl) ?_) | refine ad rfl (aG oM) ?_)
   refine aT (ι:=Nat) (fun k=>k ≤ qs.length ∧ ∀ j,j < k → ci (aq qs) 9 (ab qs j).2 = true) (fun k=>[(4,Pt x 0),(114,.slice au qs.length cu),(115,I qs.length),(116,I k)]) (fun k=>G3) (fun k=>[]) (fun k=>qs.length - k) 0 ?_ tU rfl a7 (fun k Hk=>?_)
   ·exact ⟨Nat.zero_le _,fun j hj=>absurd hj oM⟩
   have hends : ∀ j,j < qs.length → ci (aq qs) 9 (ab qs j).2 = ci (aq qs) ((aq qs).length + 1) (ab (aq qs) j):=fun j hj=>by
    rw [lx hj]
    exact z0 (by rw [f7];exact h8) (show (ab qs j).2 ∈ qs.map (fun y=>y.2) from List.mem_map_of_mem (bc hj))
   by_cases hk2 : k < qs.length
   case neg =>
    have hv : jl (aq qs):=by
     refine ⟨fun j hj=>?_,fun j hj=>?_⟩
     ·rw [f7] at hj
      exact ⟨hna j hj,by rw [lx hj];exact hko _ (bc hj)⟩
     ·rw [f7] at hj
      rw [← hends j hj];exact Hk.2 j oM
    repeat' (first | refine jR ?_ | refine ad rfl (aG oM) ?_)
    all_goals refine jZ (vs:=[_,_]) rfl ⟨rfl,rfl,trivial⟩ rfl ⟨hgl,rfl,?_⟩
    all_goals exact .inr ⟨x,qs,rfl,by rw [hfin,if_pos hv],hS⟩
   obtain ⟨ba,oa,ca,ea,hsa⟩:=hsl3.expl oM
   simp only [Value.slice.injEq] at ea
   obtain ⟨rfl,-,rfl⟩:=ea
   rcases hq : ab qs k with ⟨p,ty⟩
   have hqm : (p,ty) ∈ qs:=by rw [← hq];exact bc hk2
   have cx_en2:=aau hS hw hko hqm
   have hek:=hends k hk2
   rw [hq] at hek
   dsimp only at hek
   by_cases he : ci (aq qs) 9 ty = true
   ·have he2 : (!ci (aq qs) 9 ty) = false:=by rw [he];rfl
    repeat' (first | refine jM ?_ | (refine jo ?_;first | (refine jV (bW rfl rfl aS ?_ aS rfl) ?_;focus omega) | refine jV (ag rfl rfl oM) ?_ | refine ae rfl rfl rfl cx_en2 rfl ?_) | refine ac rfl (ay oM) ?_ | refine ad rfl ‹_› ?_)
    refine bh (k + 1) ⟨oM,fun j hj=>?_⟩ oM tU rfl a7
    rcases Nat.lt_or_ge j k with h3 | h3
    ·exact Hk.2 j h3
    ·have : j = k:=oM
     subst this;rw [hq];exact he
   ·have he2 : (!ci (aq qs) 9 ty) = true:=by simpa using he
    have hno : aV s = none:=by
     rw [hfin,if_neg]
     intro hv
     have:=hv.2 k (by rw [f7];exact hk2)
     rw [← hek] at this
     exact he this
    repeat' (first | refine jR ?_ | (refine jo ?_;first | (refine jV (bW rfl rfl aS ?_ aS rfl) ?_;focus omega) | refine jV (ag rfl rfl oM) ?_ | refine ae rfl rfl rfl cx_en2 rfl ?_) | (refine ac rfl (by first | assumption | (refine decide_eq_true ?_;(omega))) ?_))
    all_goals refine jZ (vs:=[_,_]) rfl ⟨rfl,rfl,trivial⟩ rfl ⟨hgl,rfl,?_⟩
    all_goals exact .inl ⟨hno,_,rfl⟩
  obtain ⟨ba,oa,ca,ea,hsa⟩:=hsl3.expl oM
  simp only [Value.slice.injEq] at ea
  obtain ⟨rfl,-,rfl⟩:=ea
  rcases hq : ab qs k with ⟨p,ty⟩
  have hqm : (p,ty) ∈ qs:=by rw [← hq];exact bc hk
  obtain ⟨fv,ln,hsg,hfv⟩:=hS.ty _ hqm
  dsimp only at hsg hfv
  have hW:=hw _ hqm
  dsimp only at hW
  have h88:=hW.len
  repeat' (first | refine jR ?_ | (refine jo ?_;first | refine jV (aj rfl rfl aS rfl rfl) ?_ | (refine jV (bW rfl rfl aS ?_ aS rfl) ?_;focus omega) | refine jV (eM rfl aS) ?_ | refine jV (ag rfl rfl oM) ?_) | refine ac rfl (ay oM) ?_)
  refine aT (ι:=Nat) (fun l=>l ≤ ty.fields.length ∧ (ty.sort = 69 ∨ ∀ j,j < l → fe (aq qs) (ab ty.fields j).kind = true)) (fun l=>[(4,Pt x 0),(11,Pt p 0),(82,.slice (some ⟨ba,oa,none⟩) qs.length cu),(83,I qs.length),(84,I k),(91,fv),(92,I ty.fields.length),(93,I l)]) (fun l=>G3) (fun l=>[]) (fun l=>ty.fields.length - l) 0 ?_ tU rfl a7 (fun l Hl=>?_)
  ·exact ⟨Nat.zero_le _,.inr fun j hj=>absurd hj oM⟩
  by_cases hl2 : l < ty.fields.length
  case neg =>
   repeat' (first | refine jM ?_ | refine ad rfl (aG oM) ?_)
   refine bh (k + 1) ⟨oM,fun j hj=>?_⟩ oM tU rfl a7
   rcases Nat.lt_or_ge j k with h3 | h3
   ·exact Hk.2 j h3
   ·have : j = k:=oM
    subst this
    rw [hq]
    rcases Hl.2 with h5 | h5
    ·exact .inl h5
    ·exact .inr fun j2 hj2=>h5 j2 (by dsimp only at hj2;omega)
  obtain ⟨bf,of,cf,rfl,hsf⟩:=hfv.expl oM
  by_cases h69 : ty.sort = 69
  ·repeat' (first | refine jM ?_ | (refine jo ?_;first | (refine jV (dt rfl rfl aS ?_) ?_;focus omega) | refine jV (aj rfl rfl aS rfl rfl) ?_ | refine aC rfl ?_ | refine jC rfl rfl rfl ?_ | refine jV (ag rfl rfl oM) ?_ | refine jL fun _=>?_) | refine ar rfl rfl (aG oM) ?_ | refine ac rfl (ay oM) ?_ | refine ad rfl rfl ?_)
   refine bh (l + 1) ⟨oM,.inl h69⟩ oM tU rfl (by repeat (exact List.nil_sublist _))
  have hko1:=(hW.fld _ (bc hl2)).kind h69
  have cx_has:=vY hS hko1
  by_cases hh : fe (aq qs) (ab ty.fields l).kind = true
  ·have hh2 : (!fe (aq qs) (ab ty.fields l).kind) = false:=by rw [hh];rfl
   repeat' (first | refine jM ?_ | (refine jo ?_;first | (refine jV (dt rfl rfl aS ?_) ?_;focus omega) | refine bM rfl ?_ | refine jV (aj rfl rfl aS rfl rfl) ?_ | refine aM rfl ?_ | refine jC rfl rfl rfl ?_ | refine jV (ag rfl rfl oM) ?_ | refine jL fun _=>?_ | refine ae rfl rfl rfl cx_has rfl ?_) | refine aF rfl rfl (ay oM) ?_ | refine ac rfl (ay oM) ?_ | refine ad rfl ‹_› ?_)
   refine bh (l + 1) ⟨oM,.inr fun j hj=>?_⟩ oM tU rfl (by repeat (exact List.nil_sublist _))
   rcases Nat.lt_or_ge j l with h3 | h3
   ·rcases Hl.2 with h5 | h5
    ·exact absurd h5 h69
    ·exact h5 j h3
   ·have : j = l:=oM
    subst this;exact hh
  ·have hh2 : (!fe (aq qs) (ab ty.fields l).kind) = true:=by simpa using hh
   have hno : aV s = none:=by
    rw [hfin,if_neg]
    intro hv
    have h5:=(hv.1 k (by rw [f7];exact hk)).2
    rw [lx hk,hq] at h5
    rcases h5 with h6 | h6
    ·exact h69 h6
    ·exact hh (h6 l hl2)
   repeat' (first | refine jR ?_ | (refine jo ?_;first | (refine jV (dt rfl rfl aS ?_) ?_;focus omega) | refine bM rfl ?_ | refine jV (aj rfl rfl aS rfl rfl) ?_ | refine aM rfl ?_ | refine jC rfl rfl rfl ?_ | refine jV (ag rfl rfl oM) ?_ | refine jL fun _=>?_ | refine ae rfl rfl rfl cx_has rfl ?_) | refine aF rfl rfl (ay oM) ?_ | (refine ac rfl (by first | assumption | (refine decide_eq_true ?_;(omega))) ?_))
   all_goals refine jZ (vs:=[_,_]) rfl ⟨rfl,rfl,trivial⟩ rfl ⟨hgl,rfl,?_⟩
   all_goals exact .inl ⟨hno,_,rfl⟩
def yB (s k : adA) (v : Value) (G : Gh) : Prop:=(dq s k = false ∧ ∃ p a b c,v = Tu [p,Ag [S a,S b,S c],Bo false]) ∨ ∃ b qs,v = Tu [Pt b 0,Ag (c5 k),Bo true] ∧ aV s = some (aq qs) ∧ aB (aq qs) k = true ∧ ScI G b qs
theorem tQ {s k : adA} (h : s.length ≤ 10000000) (hk : k.length ≤ 2000000) : bB adz 67 [S s,S k] G (yB s k):=by
 cases hs : aV s with
 | none =>
  have hno : dq s k = false:=by unfold dq;rw [hs]
  have cx_rs0 : ∀ G,bB adz 102 [S s] G (fun v _=>∃ p,v = Tu [p,Bo false]):=fun G=>by
   refine (nF (G:=G) h).mono ?_
   rintro v G' L' ⟨h1,h2,⟨_,p,rfl⟩ | ⟨_,_,_,h4,_⟩⟩
   ·exact ⟨h1,h2,p,rfl⟩
   ·rw [hs] at h4;cases h4
  refine jB [(0,_),(1,_)] Tryz.func67 Tryz.ntmps67 fun B hok hB hW=>?_
  repeat' (first | refine jR ?_ | (refine jo ?_;first | refine jL fun _=>?_ | refine jV (ax rfl rfl) ?_ | refine jC rfl rfl rfl ?_ | (refine an rfl rfl rfl (cx_rs0 _) rfl ?_;rintro _ G hle ⟨p,rfl⟩;skip)) | refine ac rfl rfl ?_)
  all_goals refine jZ (vs:=[_,_,_]) rfl ⟨rfl,aJ rfl rfl rfl rfl,rfl,trivial⟩ rfl ⟨hle,rfl,?_⟩
  all_goals exact .inl ⟨hno,_,[],[],[],rfl⟩
 | some ts =>
  have cx_rs1 : ∀ G,bB adz 102 [S s] G (fun v G'=>∃ b qs,v = Tu [Pt b 0,Bo true] ∧ aq qs = ts ∧ ScI G' b qs):=fun G=>by
   refine (nF (G:=G) h).mono ?_
   rintro v G' L' ⟨h1,h2,⟨h4,_⟩ | ⟨b,qs,rfl,h4,h5⟩⟩
   ·rw [hs] at h4;cases h4
   ·rw [hs] at h4;simp only [Option.some.injEq] at h4;exact ⟨h1,h2,b,qs,rfl,h4.symm,h5⟩
  by_cases hko : bU k = true
  case neg =>
   have hkc2 : bU k = false:=by simpa using hko
   have hno : dq s k = false:=by unfold dq aB;rw [hs];simp [hkc2]
   have cx_kn : ∀ G,a9 adz 103 [S k] G (fun v=>∃ x y z,v = Tu [Ag [S x,S y,S z],Bo false]):=fun G=>by
    refine (mA (G:=G) (s:=k) oM).mono ?_
    rintro v G' L' ⟨h1,h2,x,y,z,rfl,_⟩
    exact ⟨h1,h2,x,y,z,by rw [hkc2]⟩
   refine jB [(0,_),(1,_)] Tryz.func67 Tryz.ntmps67 fun B hok hB hW=>?_
   repeat' (first | refine jR ?_ | (refine jo ?_;first | refine jL fun _=>?_ | refine jC rfl rfl rfl ?_ | (refine an rfl rfl rfl (cx_rs1 _) rfl ?_;rintro _ G hle ⟨b,qs,rfl,hqs,hS⟩;skip) | (refine eF rfl rfl rfl (cx_kn _) rfl ?_;rintro _ ⟨x,y,z,rfl⟩)) | refine ad rfl rfl ?_ | (refine am (d4 (id:=5) (tt:=5) rfl al ?_);refine jW 8 [0,2,3] (aa 11 13) ?_;(try (refine Nx.re (d:=26) (v':=Bo false) rfl (congrArg Value.bool rfl) ?_));refine jW 7 [4] (aa 11 29) ?_;(refine jG (aa 11 31) 1 rfl (bP rfl rfl rfl rfl) ?_);(refine jN (aa 11 63) 5 rfl ?_);(refine jN (aa 11 127) 6 rfl ?_);refine jW 3 [8] (aa 11 383) ?_;((refine jG (aa 11 511) 7 rfl (bm rfl rfl ?_) ?_;(focus ((rfl);done))));refine jA 9 rfl ?_;(refine jC rfl rfl rfl ?_);refine jK (aa 11 1023) ?_;refine jW 0 [10] (aa 11 2047) ?_;refine jQ ?_))
   all_goals refine jZ (vs:=[_,_,_]) rfl ⟨rfl,aJ rfl rfl rfl rfl,rfl,trivial⟩ rfl ⟨hle,rfl,?_⟩
   all_goals exact .inl ⟨hno,_,_,_,_,rfl⟩
  have cx_kq : ∀ G,a9 adz 103 [S k] G (· = Tu [Ag [S (sg k),S (bs k),S (nm k)],Bo true]):=fun G=>vd oM hko
  have hkk : c5 k = [S (sg k),S (bs k),S (nm k)]:=rfl
  by_cases hH : fe ts k = true
  case pos =>
   have cx_hy : ∀ G b qs,aq qs = ts → ScI G b qs → a9 adz 104 [Pt b 0,Ag [S (sg k),S (bs k),S (nm k)]] G (· = Bo true):=by
    intro G b qs hq hS
    refine (vY hS hko).mono ?_
    rintro v G' L' ⟨h1,h2,rfl⟩
    exact ⟨h1,h2,by rw [hq,hH]⟩
   refine jB [(0,_),(1,_)] Tryz.func67 Tryz.ntmps67 fun B hok hB hW=>?_
   repeat' (first | refine jR ?_ | (refine jo ?_;first | refine jL fun _=>?_ | refine jC rfl rfl rfl ?_ | (refine an rfl rfl rfl (cx_rs1 _) rfl ?_;rintro _ G hle ⟨b,qs,rfl,hqs,hS⟩;skip) | refine ae rfl rfl rfl (cx_kq _) rfl ?_) | refine ad rfl rfl ?_ | (refine am (d4 (id:=5) (tt:=5) rfl al ?_);refine jW 8 [0,2,3] (aa 11 13) ?_;(try (refine Nx.re (d:=26) (v':=Bo true) rfl (congrArg Value.bool rfl) ?_));refine jW 7 [4] (aa 11 29) ?_;(refine jG (aa 11 31) 1 rfl (bP rfl rfl rfl rfl) ?_);(refine jG (aa 11 63) 5 rfl (bP rfl rfl rfl rfl) ?_);((refine jA 6 rfl ?_;((refine ae rfl rfl rfl ((cx_hy _ _ _) (by (repeat (assumption));done) (by (repeat (assumption));done)) rfl ?_));refine jK (aa 11 127) ?_));refine jW 3 [8] (aa 11 383) ?_;((refine jG (aa 11 511) 7 rfl (bO rfl rfl ?_) ?_;(focus ((rfl);done))));refine jA 9 rfl ?_;(refine jC rfl rfl rfl ?_);refine jK (aa 11 1023) ?_;refine jW 0 [10] (aa 11 2047) ?_;refine jQ ?_))
   all_goals refine jZ (vs:=[_,_,_]) rfl ⟨rfl,aJ rfl rfl rfl rfl,rfl,trivial⟩ rfl ⟨hle,rfl,?_⟩
   all_goals exact .inr ⟨b,qs,rfl,by rw [hs,hqs],by simp [aB,hqs,hko,hH],hS⟩
  case neg =>
   have hH2 : fe ts k = false:=by simpa using hH
   have hno : dq s k = false:=by unfold dq aB;rw [hs];simp [hH2]
   have cx_hn : ∀ G b qs,aq qs = ts → ScI G b qs → a9 adz 104 [Pt b 0,Ag [S (sg k),S (bs k),S (nm k)]] G (· = Bo false):=by
    intro G b qs hq hS
    refine (vY hS hko).mono ?_
    rintro v G' L' ⟨h1,h2,rfl⟩
    exact ⟨h1,h2,by rw [hq,hH2]⟩
   refine jB [(0,_),(1,_)] Tryz.func67 Tryz.ntmps67 fun B hok hB hW=>?_
   repeat' (first | refine jR ?_ | (refine jo ?_;first | refine jL fun _=>?_ | refine jC rfl rfl rfl ?_ | (refine an rfl rfl rfl (cx_rs1 _) rfl ?_;rintro _ G hle ⟨b,qs,rfl,hqs,hS⟩;skip) | refine ae rfl rfl rfl (cx_kq _) rfl ?_) | refine ad rfl rfl ?_ | (refine am (d4 (id:=5) (tt:=5) rfl al ?_);refine jW 8 [0,2,3] (aa 11 13) ?_;(try (refine Nx.re (d:=26) (v':=Bo true) rfl (congrArg Value.bool rfl) ?_));refine jW 7 [4] (aa 11 29) ?_;(refine jG (aa 11 31) 1 rfl (bP rfl rfl rfl rfl) ?_);(refine jG (aa 11 63) 5 rfl (bP rfl rfl rfl rfl) ?_);((refine jA 6 rfl ?_;((refine ae rfl rfl rfl ((cx_hn _ _ _) (by (repeat (assumption));done) (by (repeat (assumption));done)) rfl ?_));refine jK (aa 11 127) ?_));refine jW 3 [8] (aa 11 383) ?_;((refine jG (aa 11 511) 7 rfl (bO rfl rfl ?_) ?_;(focus ((rfl);done))));refine jA 9 rfl ?_;(refine jC rfl rfl rfl ?_);refine jK (aa 11 1023) ?_;refine jW 0 [10] (aa 11 2047) ?_;refine jQ ?_))
   all_goals refine jZ (vs:=[_,_,_]) rfl ⟨rfl,aJ rfl rfl rfl rfl,rfl,trivial⟩ rfl ⟨hle,rfl,?_⟩
   all_goals exact .inl ⟨hno,_,_,_,_,rfl⟩
theorem jh {t : Ty} : eP t = (ab t.fields 0).kind:=by
 unfold eP ab
 cases t.fields with
 | nil=>rfl
 | cons f r=>rfl
theorem kg {t : Ty} : tag0 t = (ab t.fields 0).tag:=by
 unfold tag0 ab
 cases t.fields with
 | nil=>rfl
 | cons f r=>rfl
theorem nA {n : Int} (h : 0 ≤ n ∧ n ≤ 9223372036854775807) : (bI n).length ≤ 19:=g7 h.2
theorem ub (k : adA) : (gC k).length ≤ 2:=by
 unfold gC
 split
 ·simp
 ·split
  ·simp
  ·split <;> simp
theorem SchW.tag0 {ts : List Ty} (h : SchW ts) {t : Ty} (ht : t ∈ ts) : 0 ≤ Go.E.tag0 t ∧ Go.E.tag0 t ≤ 200:=by
 rw [kg]
 by_cases h0 : 0 < t.fields.length
 ·have:=((h.ty t ht).fld _ (bc h0)).tag;omega
 ·have : t.fields = []:=List.eq_nil_of_length_eq_zero oM
  rw [this];exact ⟨Int.le_refl _,by decide⟩
theorem lW {ts : List Ty} (h : SchW ts) : ∀ (n : Nat) (k : adA),(bV ts n k).length ≤ 30 * n
 | 0,k=>by simp [bV]
 | n + 1,[]=>by simp [bV]
 | n + 1,c :: r=>by
  unfold bV
  split
  ·simp;omega
  ·split
   ·simp;omega
   ·split
    ·have:=ub (c :: r);omega
    ·rename_i t ht
     have h1:=h.tag0 (br ht)
     have h2:=nA (n:=tag0 t) oM
     have h3:=lW h n (eP t)
     split
     ·simp;omega
     ·split
      ·simp;omega
      ·simp;omega
theorem dT {ts : List Ty} (h : SchW ts) {t : Ty} (ht : t ∈ ts) (hs : t.sort ≠ 69) {f : Fld} (hf : f ∈ t.fields) : aB ts f.kind = true:=by
 unfold aB
 rw [((h.ty t ht).fld f hf).kind hs,Bool.true_and]
 obtain ⟨i,hi,rfl⟩:=List.mem_iff_getElem.1 ht
 obtain ⟨j,hj,rfl⟩:=List.mem_iff_getElem.1 hf
 have h1:=(h.valid.1 i hi).2
 rw [aA hi] at h1
 rcases h1 with h1 | h1
 ·exact absurd h1 hs
 ·have:=h1 j hj
  rwa [aA hj] at this
theorem dh {ts : List Ty} {k : adA} (h : aB ts k = true) : bU k = true:=by
 unfold aB at h;simp only [Bool.and_eq_true] at h;exact h.1
theorem fS {c : UInt8} {r : adA} (h : ¬ (c.toNat = 91 ∨ c.toNat = 63)) : bN (c :: r) = c :: r:=by rw [bN,if_neg h]
theorem qH {ts : List Ty} (h : SchW ts) {k : adA} (t : Ty) (ht : a8 ts k = some t) : ci ts (ts.length + 1) t = true:=by
 obtain ⟨i,hi,rfl⟩:=List.mem_iff_getElem.1 (br ht)
 have:=h.valid.2 i hi
 rwa [aA hi] at this
theorem wX {u : Value} {vs : List cy} (h : SchR G u vs) (hw : SchW (ah vs)) : ∀ (n : Nat) {k : adA},n ≤ 1000 → aB (ah vs) k = true → (∀ t,a8 (ah vs) k = some t → ci (ah vs) n t = true) →
  a9 adz 122 [u,S k] G (· = S (bV (ah vs) (n + 1) k)):=by
 have hvl : vs.length ≤ 1000000:=by have:=hw.len;rw [qq] at this;omega
 intro n
 induction n with
 | zero =>
  intro k hn hk he
  have hko:=dh hk
  have hkk:=cV hko
  match k,hkk with
  | c :: r,hkk =>
   have e0:=mH c r
   by_cases h1 : c.toNat = 91
   ·refine jE [(0,_),(1,_)] Tryz.func122 Tryz.ntmps122 fun B hB=>?_
    repeat' (first | refine jX ?_ | (refine ac rfl ?_ ?_;(focus ((simp [*];done);done))))
    all_goals refine jY (vs:=[_]) ?_
    all_goals (rw [aP];unfold bV;rw [if_pos h1])
   by_cases h2 : c.toNat = 63
   ·refine jE [(0,_),(1,_)] Tryz.func122 Tryz.ntmps122 fun B hB=>?_
    repeat' (first | refine jX ?_ | (refine ac rfl ?_ ?_;(focus ((simp [*];done);done))) | (refine ad rfl ?_ ?_;(focus ((simp [*];done);done))))
    all_goals refine jY (vs:=[_]) ?_
    all_goals (rw [aP];unfold bV;rw [if_neg h1,if_pos h2])
   have href:=ff vs (c :: r)
   have cx_rf:=i8 (k:=c :: r) h hvl hkk.1 oM
   cases hr : fc vs (c :: r) with
   | some x=>rw [hr] at href;have:=he _ href.symm;cases this
   | none =>
    rw [hr] at href cx_rf
    refine jE [(0,_),(1,_)] Tryz.func122 Tryz.ntmps122 fun B hB=>?_
    repeat' (first | refine jX ?_ | (refine jo ?_;first | refine jL fun _=>?_ | refine jC rfl rfl rfl ?_ | refine ae rfl rfl rfl cx_rf rfl ?_ | refine ae rfl rfl rfl rN rfl ?_) | refine ac rfl rfl ?_ | (refine ad rfl ?_ ?_;(focus ((simp;omega);done))))
    all_goals refine jY (vs:=[_]) ?_
    all_goals (rw [aP];unfold bV;rw [if_neg h1,if_neg h2,← href];rfl)
 | succ n ih =>
  intro k hn hk he
  have hko:=dh hk
  have hkk:=cV hko
  match k,hkk with
  | c :: r,hkk =>
   have e0:=mH c r
   by_cases h1 : c.toNat = 91
   ·refine jE [(0,_),(1,_)] Tryz.func122 Tryz.ntmps122 fun B hB=>?_
    repeat' (first | refine jX ?_ | (refine ac rfl ?_ ?_;(focus ((simp [*];done);done))))
    all_goals refine jY (vs:=[_]) ?_
    all_goals (rw [aP];unfold bV;rw [if_pos h1])
   by_cases h2 : c.toNat = 63
   ·refine jE [(0,_),(1,_)] Tryz.func122 Tryz.ntmps122 fun B hB=>?_
    repeat' (first | refine jX ?_ | (refine ac rfl ?_ ?_;(focus ((simp [*];done);done))) | (refine ad rfl ?_ ?_;(focus ((simp [*];done);done))))
    all_goals refine jY (vs:=[_]) ?_
    all_goals (rw [aP];unfold bV;rw [if_neg h1,if_pos h2])
   have href:=ff vs (c :: r)
   have cx_rf:=i8 (k:=c :: r) h hvl hkk.1 oM
   rcases hr : fc vs (c :: r) with _ | ⟨⟨a,ca⟩,t⟩
   ·rw [hr] at href cx_rf
    refine jE [(0,_),(1,_)] Tryz.func122 Tryz.ntmps122 fun B hB=>?_
    repeat' (first | refine jX ?_ | (refine jo ?_;first | refine jL fun _=>?_ | refine jC rfl rfl rfl ?_ | refine ae rfl rfl rfl cx_rf rfl ?_ | refine ae rfl rfl rfl rN rfl ?_) | refine ac rfl rfl ?_ | (refine ad rfl ?_ ?_;(focus ((simp;omega);done))))
    all_goals refine jY (vs:=[_]) ?_
    all_goals (rw [aP];unfold bV;rw [if_neg h1,if_neg h2,← href];rfl)
   rw [hr] at href cx_rf
   have hrf : a8 (ah vs) (c :: r) = some t:=href.symm
   have htm:=br hrf
   have hW:=hw.ty t htm
   have htg:=hw.tag0 htm
   rw [kg] at htg
   have e3 : bV (ah vs) (n + 1 + 1) (c :: r) = if t.sort = 82 then [123,125] else if t.sort = 69 then 35 :: bI (tag0 t) else 60 :: (bI (tag0 t) ++ 61 :: (bV (ah vs) (n + 1) (eP t) ++ [62])):=by
    rw [bV,if_neg h1,if_neg h2,hrf]
   rw [e3,kg,jh]
   clear e3
   by_cases s1 : t.sort = 82
   ·rw [if_pos s1]
    refine jE [(0,_),(1,_)] Tryz.func122 Tryz.ntmps122 fun B hB=>?_
    repeat' (first | refine jX ?_ | (refine jo ?_;first | refine jL fun _=>?_ | refine jC rfl rfl rfl ?_ | refine aD rfl ?_ | refine ae rfl rfl rfl cx_rf rfl ?_) | (refine ac rfl ?_ ?_;(focus ((simp [*];done);done))) | (refine ad rfl ?_ ?_;(focus ((first | rfl | (simp;omega));done))))
    all_goals refine jY (vs:=[_]) ?_
    all_goals rfl
   have h0 : 0 < t.fields.length:=List.length_pos_iff.2 (hW.ne s1)
   obtain ⟨bf,of,cf,ef,hsf⟩:=(h.fl _ (gq hr)).expl h0
   simp only [gn,Value.slice.injEq] at ef
   obtain ⟨rfl,-,rfl⟩:=ef
   dsimp only at hsf
   have cx_rf : a9 adz 116 [u,S (c :: r)] G (· = Tu [Ag [U8 t.sort,S t.name,.slice (some ⟨bf,of,none⟩) t.fields.length ca],Bo true]):=cx_rf
   have hdl:=nA (n:=(ab t.fields 0).tag) oM
   rw [if_neg s1]
   by_cases s2 : t.sort = 69
   ·rw [if_pos s2]
    refine jE [(0,_),(1,_)] Tryz.func122 Tryz.ntmps122 fun B hB=>?_
    repeat' (first | refine jX ?_ | (refine jo ?_;first | refine jL fun _=>?_ | refine jC rfl rfl rfl ?_ | refine aD rfl ?_ | (refine jV (bQ rfl rfl aS ?_ rfl rfl) ?_;focus omega) | refine jV (ag rfl rfl oM) ?_ | refine ae rfl rfl rfl cx_rf rfl ?_ | (refine ae rfl rfl rfl (dD ?_) rfl ?_;(focus ((simp;omega);done)))) | refine ac rfl (ay oM) ?_ | (refine ad rfl ?_ ?_;(focus ((first | rfl | (refine decide_eq_false ?_;(omega)) | (simp;omega));done))))
    all_goals refine jY (vs:=[_]) ?_
    all_goals rfl
   have hin:=dT hw htm s2 (bc h0)
   have hen : ∀ t',a8 (ah vs) (ab t.fields 0).kind = some t' → ci (ah vs) n t' = true:=by
    intro t' ht'
    have:=he t hrf
    have s3 : t.sort = 85:=by rcases hW.sort with h | h | h <;> omega
    rw [ci,if_neg (by simp [s3]),jh,ht'] at this
    exact this
   have cx_std:=ih (k:=(ab t.fields 0).kind) oM hin hen
   have hsl:=lW hw (n + 1) (ab t.fields 0).kind
   rw [if_neg s2]
   refine jE [(0,_),(1,_)] Tryz.func122 Tryz.ntmps122 fun B hB=>?_
   repeat' (first | refine jX ?_ | (refine jo ?_;first | refine jL fun _=>?_ | refine jC rfl rfl rfl ?_ | refine aD rfl ?_ | refine ae rfl rfl rfl cx_rf rfl ?_) | (refine ad rfl ?_ ?_;(focus ((first | rfl | (refine decide_eq_false ?_;(omega)) | (simp;omega));done))) | (refine am (ao (id:=13) _ (fun _ h=>h) al ?_);refine jT 15 [0,8,9] (aa 18 769) ?_;(refine jG (aa 18 771) 1 rfl (aX rfl rfl rfl) ?_);(refine jG (aa 18 775) 2 rfl (ag rfl rfl oM) ?_);refine jT 12 [3] (aa 18 783) ?_;((refine jG (aa 18 799) 4 rfl (bQ rfl rfl aS ?_ rfl rfl) ?_;focus omega));(refine jG (aa 18 1823) 10 rfl (aX rfl rfl rfl) ?_);(refine jG (aa 18 3871) 11 rfl (ag rfl rfl oM) ?_);refine jT 8 [12] (aa 18 7967) ?_;((refine jG (aa 18 16159) 13 rfl (bQ rfl rfl aS ?_ rfl rfl) ?_;focus omega));refine jA 5 rfl ?_;((refine ae rfl rfl rfl (dD ?_) rfl ?_;(focus ((simp;omega);done))));refine jS (aa 18 16191) ?_;refine jW 4 [6,7] (aa 18 16383) ?_;refine jA 14 rfl ?_;(refine ae rfl rfl rfl cx_std rfl ?_);refine jS (aa 18 32767) ?_;refine jW 0 [15,16,17] (aa 18 262143) ?_;refine jQ ?_))
   all_goals refine jY (vs:=[_]) ?_
   all_goals (rw [aP];simp)
theorem wZ {u : Value} {vs : List cy} (h : SchR G u vs) (hw : SchW (ah vs)) {k : adA} (hk : aB (ah vs) k = true) : a9 adz 122 [u,S k] G (· = S (py (ah vs) k)) :=
 wX h hw ((ah vs).length + 1) (by have:=hw.len;omega) hk (fun t ht=>qH hw t ht)
theorem lr {c : UInt8} {r : adA} (h : c.toNat = 91 ∨ c.toNat = 63) : sg (c :: r) = c :: sg r:=by
 unfold sg
 rw [bN,if_pos h]
 have:=kX r
 rw [List.length_cons,show r.length + 1 - (bN r).length = (r.length - (bN r).length) + 1 by omega]
 rfl
theorem lq {c : UInt8} {r : adA} (h : ¬ (c.toNat = 91 ∨ c.toNat = 63)) : sg (c :: r) = []:=by
 unfold sg;rw [fS h];simp
theorem fO {b c : adA} : a9 adz 124 [Ag [S [],S b,S c]] G (· = U8 (0 : Nat)):=by
 refine jE [(0,_)] Tryz.func124 Tryz.ntmps124 fun B hB=>?_
 repeat' (first | refine jR ?_ | (refine jo ?_;first | refine jO fun _=>?_ | refine aD rfl ?_) | refine ac rfl rfl ?_)
 all_goals refine jY (vs:=[_]) ?_
 all_goals rfl
theorem j7 {x : UInt8} {a b c : adA} : a9 adz 124 [Ag [S (x :: a),S b,S c]] G (· = U8 (x.toNat : Nat)):=by
 have e0:=mH x a
 refine jE [(0,_)] Tryz.func124 Tryz.ntmps124 fun B hB=>?_
 repeat' (first | refine jX ?_ | (refine jo ?_;first | refine jO fun _=>?_ | refine aD rfl ?_) | refine ad rfl rfl ?_)
 all_goals refine jY (vs:=[_]) ?_
 all_goals (rw [aP];(rfl))
theorem pj {k : adA} (hk : bU k = true) (hr : b7 (bN k) = none) : bs k = [110] ∨ bs k = [116] ∨ bs k = [102]:=by
 have h:=kF (cV hk).1
 unfold bs
 cases hc : bN k with
 | nil=>rw [hc] at h;cases h
 | cons c r =>
  rw [hc] at h hr
  have h64 : ¬ c.toNat = 64:=by
   intro h64
   simp [b7,h64] at hr
  have h91 : ¬ (c.toNat = 91 ∨ c.toNat = 63):=nD hc
  have e : oD (c :: r) = c :: r:=by simp [oD,h64]
  rw [e]
  rw [eV,if_neg h91,if_neg h64] at h
  simp only [Bool.and_eq_true,Bool.or_eq_true,decide_eq_true_eq] at h
  obtain ⟨rfl,h⟩:=h
  have hu : ∀ n : Nat,c.toNat = n → n < 256 → c = UInt8.ofNat n:=fun n h1 h2=>by
   apply UInt8.toNat_inj.1;rw [h1,UInt8.toNat_ofNat'];omega
  rcases h with (h | h) | h
  ·exact .inl (by rw [hu _ h dC];rfl)
  ·exact .inr (.inl (by rw [hu _ h dC];rfl))
  ·exact .inr (.inr (by rw [hu _ h dC];rfl))
theorem ScI.W {b : Nat} {qs : List dp} (_ : ScI G b qs) (hw : SchW (aq qs)) {q : dp} (hq : q ∈ qs) : q.2 ∈ aq qs ∧ TyW q.2:=by
 have h1 : q.2 ∈ aq qs:=List.mem_map_of_mem hq
 exact ⟨h1,hw.ty _ h1⟩
theorem sH {k : adA} (hs : sg k = []) (hk : bU k = true) (hr : b7 (bN k) = none) : gC k = gC (bs k):=by
 match k,hk with
 | c :: r,hk =>
  have h91 : ¬ (c.toNat = 91 ∨ c.toNat = 63):=fun h=>by rw [lr h] at hs;cases hs
  have hc:=fS (r:=r) h91
  have h64 : ¬ c.toNat = 64:=fun h64=>by rw [hc] at hr;simp [b7,h64] at hr
  unfold bs;rw [hc];simp [oD,h64]
theorem wY {b : Nat} {qs : List dp} (h : ScI G b qs) (hw : SchW (aq qs)) : ∀ (n : Nat) {k : adA},n ≤ 1000 → aB (aq qs) k = true → (∀ t,a8 (aq qs) k = some t → ci (aq qs) n t = true) →
  a9 adz 141 [Pt b 0,Ag [S (sg k),S (bs k),S (nm k)]] G (· = S (bV (aq qs) (n + 1) k)):=by
 obtain ⟨u,m,g1,g2,g3⟩:=h.at'
 intro n
 induction n with
 | zero =>
  intro k hn hk he
  have hko:=dh hk
  match k,hko with
  | c :: r,hko =>
   by_cases h91 : c.toNat = 91 ∨ c.toNat = 63
   ·have cx_sign:=@j7 G c (sg r) (bs (c :: r)) (nm (c :: r))
    rw [lr h91]
    by_cases h1 : c.toNat = 91
    ·refine jE [(0,_),(1,_)] Tryz.func141 Tryz.ntmps141 fun B hB=>?_
     repeat' (first | refine jR ?_ | (refine jo ?_;first | refine jO fun _=>?_ | refine bM rfl ?_ | refine ae rfl rfl rfl cx_sign rfl ?_) | refine ac rfl (ay oM) ?_)
     all_goals refine jY (vs:=[_]) ?_
     all_goals (rw [aP];unfold bV;rw [if_pos h1])
    have h2 : c.toNat = 63:=oM
    refine jE [(0,_),(1,_)] Tryz.func141 Tryz.ntmps141 fun B hB=>?_
    repeat' (first | refine jR ?_ | (refine jo ?_;first | refine jO fun _=>?_ | refine bM rfl ?_ | refine ae rfl rfl rfl cx_sign rfl ?_) | refine ac rfl (ay oM) ?_ | refine ad rfl (aG oM) ?_)
    all_goals refine jY (vs:=[_]) ?_
    all_goals (rw [aP];unfold bV;rw [if_neg h1,if_pos h2])
   have hsg:=lq (r:=r) h91
   have hcs:=fS (r:=r) h91
   rw [hsg]
   cases hrf : a8 (aq qs) (c :: r) with
   | some t=>have:=he t hrf;cases this
   | none =>
    have hrn : b7 (bN (c :: r)) = none:=by
     cases hx : b7 (bN (c :: r)) with
     | none=>rfl
     | some x =>
      obtain ⟨t,ht⟩:=nq hk (by rw [hx];rfl)
      rw [hcs,hrf] at ht;cases ht
    have hpl:=sH hsg hko hrn
    have e3 : bV (aq qs) (0 + 1) (c :: r) = gC (bs (c :: r)):=by
     rw [bV,if_neg oM,if_neg oM,hrf];exact hpl
    rw [e3]
    rcases pj hko hrn with e | e | e
    all_goals
     rw [e]
     refine jE [(0,_),(1,_)] Tryz.func141 Tryz.ntmps141 fun B hB=>?_
     repeat' (first | refine jR ?_ | (refine jo ?_;first | refine jO fun _=>?_ | refine aD rfl ?_ | refine bM rfl ?_ | refine ae rfl rfl rfl fO rfl ?_) | refine ac rfl rfl ?_ | refine ad rfl rfl ?_)
     all_goals refine jY (vs:=[_]) ?_
     all_goals rfl
 | succ n ih =>
  intro k hn hk he
  have hko:=dh hk
  match k,hko with
  | c :: r,hko =>
   by_cases h91 : c.toNat = 91 ∨ c.toNat = 63
   ·have cx_sign:=@j7 G c (sg r) (bs (c :: r)) (nm (c :: r))
    rw [lr h91]
    by_cases h1 : c.toNat = 91
    ·refine jE [(0,_),(1,_)] Tryz.func141 Tryz.ntmps141 fun B hB=>?_
     repeat' (first | refine jR ?_ | (refine jo ?_;first | refine jO fun _=>?_ | refine bM rfl ?_ | refine ae rfl rfl rfl cx_sign rfl ?_) | refine ac rfl (ay oM) ?_)
     all_goals refine jY (vs:=[_]) ?_
     all_goals (rw [aP];unfold bV;rw [if_pos h1])
    have h2 : c.toNat = 63:=oM
    refine jE [(0,_),(1,_)] Tryz.func141 Tryz.ntmps141 fun B hB=>?_
    repeat' (first | refine jR ?_ | (refine jo ?_;first | refine jO fun _=>?_ | refine bM rfl ?_ | refine ae rfl rfl rfl cx_sign rfl ?_) | refine ac rfl (ay oM) ?_ | refine ad rfl (aG oM) ?_)
    all_goals refine jY (vs:=[_]) ?_
    all_goals (rw [aP];unfold bV;rw [if_neg h1,if_pos h2])
   have hsg:=lq (r:=r) h91
   have hcs:=fS (r:=r) h91
   rw [hsg]
   cases hrf : a8 (aq qs) (c :: r) with
   | none =>
    have hrn : b7 (bN (c :: r)) = none:=by
     cases hx : b7 (bN (c :: r)) with
     | none=>rfl
     | some x =>
      obtain ⟨t,ht⟩:=nq hk (by rw [hx];rfl)
      rw [hcs,hrf] at ht;cases ht
    have hpl:=sH hsg hko hrn
    have e3 : bV (aq qs) (n + 1 + 1) (c :: r) = gC (bs (c :: r)):=by
     rw [bV,if_neg oM,if_neg oM,hrf];exact hpl
    rw [e3]
    rcases pj hko hrn with e | e | e
    all_goals
     rw [e]
     refine jE [(0,_),(1,_)] Tryz.func141 Tryz.ntmps141 fun B hB=>?_
     repeat' (first | refine jR ?_ | (refine jo ?_;first | refine jO fun _=>?_ | refine aD rfl ?_ | refine bM rfl ?_ | refine ae rfl rfl rfl fO rfl ?_) | refine ac rfl rfl ?_ | refine ad rfl rfl ?_)
     all_goals refine jY (vs:=[_]) ?_
     all_goals rfl
   | some t =>
    have hrn : (b7 (bN (c :: r))).isSome = true:=by
     rw [hcs];unfold a8 at hrf
     cases hx : b7 (c :: r) with
     | none=>rw [hx] at hrf;cases hrf
     | some x=>rfl
    have hbs : bs (c :: r) = [64]:=(k4 hko).2 hrn
    have hnm : b7 (c :: r) = some (nm (c :: r)):=by
     unfold nm;rw [hcs] at hrn ⊢
     cases hx : b7 (c :: r) with
     | none=>rw [hx] at hrn;cases hrn
     | some x=>rfl
    have hft : ix (aq qs) (nm (c :: r)) = some t:=by unfold a8 at hrf;rw [hnm] at hrf;exact hrf
    have hkv:=gZ qs (nm (c :: r))
    rw [← iQ] at hft
    rcases hfq : fq qs (nm (c :: r)) with _ | ⟨p,t'⟩
    ·rw [hfq] at hft;cases hft
    rw [hfq] at hft hkv
    dsimp only [Option.map_some] at hft hkv
    have htt : t' = t:=Option.some.inj hft
    subst htt
    have hqm:=ji hfq
    have htm:=br hrf
    have hW:=hw.ty t' htm
    have htg:=hw.tag0 htm
    rw [kg] at htg
    obtain ⟨fv,ln,hsg2,hfv⟩:=h.ty _ hqm
    dsimp only at hsg2 hfv
    have e3 : bV (aq qs) (n + 1 + 1) (c :: r) = if t'.sort = 82 then [123,125] else if t'.sort = 69 then 35 :: bI (tag0 t') else 60 :: (bI (tag0 t') ++ 61 :: (bV (aq qs) (n + 1) (eP t') ++ [62])):=by
     rw [bV,if_neg oM,if_neg oM,hrf]
    rw [e3,kg,jh,hbs]
    clear e3 hcs hsg hrn hnm hbs
    by_cases s1 : t'.sort = 82
    ·rw [if_pos s1]
     refine jE [(0,_),(1,_)] Tryz.func141 Tryz.ntmps141 fun B hB=>?_
     repeat' (first | refine jR ?_ | (refine jo ?_;first | refine jO fun _=>?_ | refine aD rfl ?_ | refine bM rfl ?_ | refine jV (aj rfl rfl aS rfl rfl) ?_ | refine ae rfl rfl rfl fO rfl ?_) | refine ac rfl (ay oM) ?_ | refine ad rfl rfl ?_ | (refine am (ao (id:=13) _ (fun _ h=>h) al ?_);refine jT 4 [0,1,2,4] (aa 8 23) ?_;(refine jG (aa 8 31) 3 rfl (aj rfl rfl aS rfl rfl) ?_);(refine jG (aa 8 63) 5 rfl (aX rfl rfl rfl) ?_);((refine jG (aa 8 127) 6 rfl (dz rfl rfl (gG aS) aS rfl) ?_));refine jT 0 [7] (aa 8 255) ?_;refine jQ ?_))
     all_goals refine jY (vs:=[_]) ?_
     all_goals rfl
    have h0 : 0 < t'.fields.length:=List.length_pos_iff.2 (hW.ne s1)
    obtain ⟨bf,of,cf,rfl,hsf⟩:=hfv.expl h0
    have hdl:=nA (n:=(ab t'.fields 0).tag) oM
    rw [if_neg s1]
    by_cases s2 : t'.sort = 69
    ·rw [if_pos s2]
     refine jE [(0,_),(1,_)] Tryz.func141 Tryz.ntmps141 fun B hB=>?_
     repeat' (first | refine jX ?_ | (refine jo ?_;first | refine jO fun _=>?_ | refine aD rfl ?_ | (refine jV (bQ rfl rfl aS ?_ rfl rfl) ?_;focus omega) | refine bM rfl ?_ | refine jV (aj rfl rfl aS rfl rfl) ?_ | refine jV (ag rfl rfl oM) ?_ | refine ae rfl rfl rfl fO rfl ?_ | (refine ae rfl rfl rfl (jP ?_) rfl ?_;(focus ((simp;omega);done)))) | refine ac rfl (ay oM) ?_ | (refine ad rfl (by first | rfl | (refine decide_eq_false ?_;(omega))) ?_) | (refine am (ao (id:=13) _ (fun _ h=>h) al ?_);refine jT 4 [0,1,2,4] (aa 8 23) ?_;(refine jG (aa 8 31) 3 rfl (aj rfl rfl aS rfl rfl) ?_);(refine jG (aa 8 63) 5 rfl (aX rfl rfl rfl) ?_);((refine jG (aa 8 127) 6 rfl (dz rfl rfl (gG aS) aS rfl) ?_));refine jT 0 [7] (aa 8 255) ?_;refine jQ ?_))
     all_goals refine jY (vs:=[_]) ?_
     all_goals rfl
    have hin:=dT hw htm s2 (bc h0)
    have hen : ∀ t2,a8 (aq qs) (ab t'.fields 0).kind = some t2 → ci (aq qs) n t2 = true:=by
     intro t2 ht2
     have:=he t' hrf
     have s3 : t'.sort = 85:=by rcases hW.sort with h | h | h <;> omega
     rw [ci,if_neg (by simp [s3]),jh,ht2] at this
     exact this
    have cx_std:=ih (k:=(ab t'.fields 0).kind) oM hin hen
    have hsl:=lW hw (n + 1) (ab t'.fields 0).kind
    rw [if_neg s2]
    refine jE [(0,_),(1,_)] Tryz.func141 Tryz.ntmps141 fun B hB=>?_
    repeat' (first | refine jR ?_ | (refine jo ?_;first | refine jO fun _=>?_ | refine aD rfl ?_ | refine bM rfl ?_ | refine jV (aj rfl rfl aS rfl rfl) ?_ | refine ae rfl rfl rfl fO rfl ?_) | (refine ad rfl (by first | rfl | (refine decide_eq_false ?_;(omega))) ?_) | (refine am (ao (id:=13) _ (fun _ h=>h) al ?_);refine jT 4 [0,1,2,4] (aa 8 23) ?_;(refine jG (aa 8 31) 3 rfl (aj rfl rfl aS rfl rfl) ?_);(refine jG (aa 8 63) 5 rfl (aX rfl rfl rfl) ?_);((refine jG (aa 8 127) 6 rfl (dz rfl rfl (gG aS) aS rfl) ?_));refine jT 0 [7] (aa 8 255) ?_;refine jQ ?_) | (refine am (ao (id:=19) _ (fun _ h=>h) al ?_);refine jT 15 [0,1,2,10,11,12,13] (aa 22 15367) ?_;(refine jG (aa 22 15375) 3 rfl (aj rfl rfl aS rfl rfl) ?_);(refine jG (aa 22 15391) 4 rfl (ag rfl rfl oM) ?_);refine jT 12 [5] (aa 22 15423) ?_;((refine jG (aa 22 15487) 6 rfl (bQ rfl rfl aS ?_ rfl rfl) ?_;focus omega));(refine jG (aa 22 31871) 14 rfl (aj rfl rfl aS rfl rfl) ?_);(refine jG (aa 22 64639) 15 rfl (ag rfl rfl oM) ?_);refine jT 8 [16] (aa 22 130175) ?_;((refine jG (aa 22 261247) 17 rfl (iv rfl rfl aS ?_ rfl rfl) ?_;focus omega));refine jA 7 rfl ?_;((refine ae rfl rfl rfl (jP ?_) rfl ?_;(focus ((simp;omega);done))));refine jS (aa 22 261375) ?_;refine jW 4 [8,9] (aa 22 262143) ?_;refine jA 18 rfl ?_;(refine ae rfl rfl rfl cx_std rfl ?_);refine jS (aa 22 524287) ?_;refine jW 0 [19,20,21] (aa 22 4194303) ?_;refine jQ ?_))
    all_goals refine jY (vs:=[_]) ?_
    all_goals (rw [aP];simp)
theorem w3 {b : Nat} {qs : List dp} (h : ScI G b qs) (hw : SchW (aq qs)) {k : adA} (hk : aB (aq qs) k = true) : a9 adz 141 [Pt b 0,Ag [S (sg k),S (bs k),S (nm k)]] G (· = S (py (aq qs) k)) :=
 wY h hw ((aq qs).length + 1) (by have:=hw.len;omega) hk (fun t ht=>qH hw t ht)
theorem uS {α : Type} [Inhabited α] {p : α → Bool} : ∀ {l : List α} {i : Nat},i < l.length → (∀ k,k < i → p (ab l k) = false) → p (ab l i) = true → l.find? p = some (ab l i)
 | [],i,hi,_,_=>by simp at hi
 | a :: l,0,_,_,h=>by
  have h : p a = true:=h
  rw [List.find?_cons,h];rfl
 | a :: l,i + 1,hi,hno,h=>by
  have h0 : p a = false:=hno 0 oM
  rw [List.find?_cons,h0]
  exact uS (l:=l) (i:=i) (by simpa using hi) (fun k hk=>hno (k + 1) oM) h
theorem zZ {α : Type} [Inhabited α] {p : α → Bool} {l : List α} (hno : ∀ k,k < l.length → p (ab l k) = false) : l.find? p = none:=by
 rw [List.find?_eq_none]
 intro x hx
 obtain ⟨i,hi,rfl⟩:=List.mem_iff_getElem.1 hx
 have:=hno i hi
 rw [aA hi] at this
 simp [this]
theorem uP {fs : List Fld} {tag : Int} {i : Nat} (hi : i < fs.length) (hno : ∀ k,k < i → (ab fs k).tag ≠ tag) (h : (ab fs i).tag = tag) : ck fs tag = some (ab fs i) :=
 uS hi (fun k hk=>by simpa using hno k hk) (by simpa using h)
theorem zX {fs : List Fld} {tag : Int} (hno : ∀ k,k < fs.length → (ab fs k).tag ≠ tag) : ck fs tag = none:=zZ fun k hk=>by simpa using hno k hk
theorem ia {fs : List Fld} {tag : Int} {f : Fld} (h : ck fs tag = some f) : ∃ i,i < fs.length ∧ (∀ k,k < i → (ab fs k).tag ≠ tag) ∧ (ab fs i).tag = tag ∧ ab fs i = f:=by
 have hex : ∃ i,i < fs.length ∧ (ab fs i).tag = tag:=by
  have hm:=List.mem_of_find?_eq_some h
  have ht:=List.find?_some h
  obtain ⟨i,hi,rfl⟩:=List.mem_iff_getElem.1 hm
  exact ⟨i,hi,by rw [aA hi];simpa using ht⟩
 obtain ⟨i,hi,ht⟩:=hex
 induction i using Nat.strongRecOn with
 | _ i ih =>
  by_cases hc : ∃ k,k < i ∧ (ab fs k).tag = tag
  ·obtain ⟨k,hk,hkt⟩:=hc
   exact ih k hk oM hkt
  ·have hno : ∀ k,k < i → (ab fs k).tag ≠ tag:=fun k hk e=>hc ⟨k,hk,e⟩
   refine ⟨i,hi,hno,ht,?_⟩
   rw [uP hi hno ht] at h
   exact Option.some.inj h
abbrev zF : Fld:=⟨0,[],[],[]⟩
abbrev aca : TypeId:=137
abbrev adf : TypeId:=155
theorem tN {x : cy} {tag : Int} (hf : aU G (gn x) 4 x.2.fields.length (ak g0 x.2.fields)) (hl : x.2.fields.length ≤ 1000) :
  a9 adz 121 [Ag [U8 x.2.sort,S x.2.name,gn x],I tag] G (· = Tu [Ag (g0 ((ck x.2.fields tag).getD zF)),Bo (ck x.2.fields tag).isSome]):=by
 obtain ⟨⟨a,ca⟩,t⟩:=x
 simp only [gn] at hf ⊢
 dsimp only at hl
 refine jE [(0,_),(1,_)] Tryz.func121 Tryz.ntmps121 fun B hB=>?_
 repeat' (first | refine jR ?_ | (refine jo ?_;first | refine jO fun _=>?_ | refine jL fun _=>?_))
 rename_i y z
 refine aT (ι:=Nat) (fun i=>i ≤ t.fields.length ∧ ∀ k,k < i → (ab t.fields k).tag ≠ tag) (fun i=>[(1,I tag),(2,Pt y 0),(4,Pt z 0),(6,I i)]) (fun _=>G) (fun i=>[.blk z (.cells [I 0,S [],S [],S []].toArray aca (0,0)),.blk y (.cells [U8 t.sort,S t.name,.slice a t.fields.length ca].toArray adf (0,0))]) (fun i=>t.fields.length - i) 0 ?_ tU rfl a7 (fun i Hi=>?_)
 ·exact ⟨Nat.zero_le _,fun k hk=>absurd hk oM⟩
 by_cases hi : i < t.fields.length
 ·obtain ⟨bf,of,cf,e,hs⟩:=hf.expl oM
  simp only [Value.slice.injEq] at e
  obtain ⟨rfl,-,rfl⟩:=e
  repeat' (first | refine jM ?_ | (refine jo ?_;first | refine aD rfl ?_ | (refine jV (dt rfl rfl aS ?_) ?_;focus omega) | (refine jV (bQ rfl rfl aS ?_ rfl rfl) ?_;focus omega) | refine jV (af rfl) ?_ | refine jV (ag rfl rfl oM) ?_ | refine jC rfl rfl rfl ?_) | refine ac rfl (ay oM) ?_ | refine eD rfl (fun _=>?_) (fun _=>?_))
  ·rename_i he
   refine jZ (vs:=[_,_]) rfl ⟨aJ rfl rfl rfl rfl,rfl,trivial⟩ rfl ⟨rfl,rfl,?_⟩
   rw [uP hi Hi.2 he];rfl
  ·rename_i he
   refine bh (i + 1) ⟨oM,fun k hk=>?_⟩ oM tU rfl a7
   rcases Nat.lt_or_ge k i with h3 | h3
   ·exact Hi.2 k h3
   ·have : k = i:=oM
    subst this;exact he
 ·repeat' (first | refine jR ?_ | (refine jo ?_;first | refine aD rfl ?_ | refine jV (af rfl) ?_ | refine jC rfl rfl rfl ?_ | refine jV (ax rfl rfl) ?_) | refine ad rfl (aG oM) ?_)
  refine jZ (vs:=[_,_]) rfl ⟨aJ rfl rfl rfl rfl,rfl,trivial⟩ rfl ⟨rfl,rfl,?_⟩
  rw [zX fun k hk=>Hi.2 k oM];rfl
theorem jj {b : Nat} {t : Ty} {fv : Value} {ln : adA} {tag : Int} (hs : b9 G b 0 [U8 t.sort,S t.name,fv,S ln]) (hf : aU G fv 6 t.fields.length (ak iF t.fields)) (hl : t.fields.length ≤ 1000) (h : ck t.fields tag = none) :
  a9 adz 71 [Pt b 0,I tag] G (· = .pointer none):=by
 have hno : ∀ k,k < t.fields.length → (ab t.fields k).tag ≠ tag:=fun k hk e=>by
  have h1:=List.find?_eq_none.1 h (ab t.fields k) (bc hk)
  exact h1 (by simpa using e)
 refine jE [(0,_),(1,_)] Tryz.func71 Tryz.ntmps71 fun B hB=>?_
 repeat' (first | refine jR ?_ | (refine jo ?_;first | refine jV (aj rfl rfl aS rfl rfl) ?_ | refine jV (eM rfl aS) ?_))
 refine aT (ι:=Nat) (fun i=>i ≤ t.fields.length) (fun i=>[(0,Pt b 0),(1,I tag),(10,I t.fields.length),(11,I i)]) (fun _=>G) (fun i=>[]) (fun i=>t.fields.length - i) 0 ?_ tU rfl a7 (fun i Hi=>?_)
 ·exact Nat.zero_le _
 by_cases hi : i < t.fields.length
 ·obtain ⟨bf,of,cf,rfl,hsf⟩:=hf.expl oM
  have h2:=hno i hi
  repeat' (first | refine jM ?_ | (refine jo ?_;first | (refine jV (bQ rfl rfl aS ?_ rfl rfl) ?_;focus omega) | refine jV (aj rfl rfl aS rfl rfl) ?_ | refine jV (ag rfl rfl oM) ?_) | refine ac rfl (ay oM) ?_ | refine ad rfl (aG ‹_›) ?_)
  exact bh (i + 1) oM oM tU rfl a7
 ·repeat' (first | refine jR ?_ | refine ad rfl (aG oM) ?_)
  refine jY (vs:=[_]) ?_
  rfl
theorem ij {b bf of cf j : Nat} {t : Ty} {ln : adA} {tag : Int} (hs : b9 G b 0 [U8 t.sort,S t.name,.slice (some ⟨bf,of,none⟩) t.fields.length cf,S ln]) (hsf : b9 G bf of (ak iF t.fields)) (hl : t.fields.length ≤ 1000) (hj : j < t.fields.length) (hno : ∀ k,k < j → (ab t.fields k).tag ≠ tag) (hat : (ab t.fields j).tag = tag) :
  a9 adz 71 [Pt b 0,I tag] G (· = Pt bf (of + j * 6)):=by
 refine jE [(0,_),(1,_)] Tryz.func71 Tryz.ntmps71 fun B hB=>?_
 repeat' (first | refine jR ?_ | (refine jo ?_;first | refine jV (aj rfl rfl aS rfl rfl) ?_ | refine jV (af rfl) ?_))
 refine aT (ι:=Nat) (fun i=>i ≤ j) (fun i=>[(0,Pt b 0),(1,I tag),(10,I t.fields.length),(11,I i)]) (fun _=>G) (fun i=>[]) (fun i=>t.fields.length - i) 0 ?_ tU rfl a7 (fun i Hi=>?_)
 ·exact Nat.zero_le _
 by_cases hij : i = j
 ·subst hij
  repeat' (first | refine jR ?_ | (refine jo ?_;first | (refine jV (bQ rfl rfl aS ?_ rfl rfl) ?_;focus omega) | refine jV (aj rfl rfl aS rfl rfl) ?_ | refine jV (ag rfl rfl oM) ?_) | (refine ac rfl (by refine decide_eq_true ?_;first | assumption | omega) ?_))
  all_goals refine jY (vs:=[_]) ?_
  all_goals rfl
 ·have h2:=hno i oM
  repeat' (first | refine jM ?_ | (refine jo ?_;first | (refine jV (bQ rfl rfl aS ?_ rfl rfl) ?_;focus omega) | refine jV (aj rfl rfl aS rfl rfl) ?_ | refine jV (ag rfl rfl oM) ?_) | refine ac rfl (ay oM) ?_ | refine ad rfl (aG ‹_›) ?_)
  exact bh (i + 1) oM oM tU rfl a7
theorem my {u : Value} {vs : List cy} {f : Fld} (h : SchR G u vs) (hw : SchW (ah vs)) (hk : aB (ah vs) f.kind = true) :
  a9 adz 87 [u,Ag [I f.tag,S f.name,S f.kind,S f.stand]] G (· = S (bT (ah vs) f)):=by
 have cx_std:=wZ h hw hk
 unfold bT
 by_cases hs : f.stand = []
 ·rw [if_pos hs,hs]
  refine jE [(0,_),(1,_)] Tryz.func87 Tryz.ntmps87 fun B hB=>?_
  repeat' (first | refine jR ?_ | (refine jo ?_;first | refine jO fun _=>?_ | refine aD rfl ?_ | refine ae rfl rfl rfl cx_std rfl ?_) | refine ad rfl rfl ?_)
  all_goals refine jY (vs:=[_]) ?_
  all_goals rfl
 ·rw [if_neg hs]
  refine jE [(0,_),(1,_)] Tryz.func87 Tryz.ntmps87 fun B hB=>?_
  repeat' (first | refine jR ?_ | (refine jo ?_;first | refine jO fun _=>?_ | refine aD rfl ?_) | refine ac rfl (ay ‹_›) ?_)
  all_goals refine jY (vs:=[_]) ?_
  all_goals rfl
theorem vU {b bf of j : Nat} {qs : List dp} {fs : List Fld} (h : ScI G b qs) (hw : SchW (aq qs)) (hsf : b9 G bf of (ak iF fs)) (hj : j < fs.length) (hk : aB (aq qs) (ab fs j).kind = true) :
  a9 adz 107 [Pt b 0,Pt bf (of + j * 6)] G (· = S (bT (aq qs) (ab fs j))):=by
 have cx_std:=w3 h hw hk
 unfold bT
 by_cases hs : (ab fs j).stand = []
 ·rw [if_pos hs]
  have hs2 : ¬ (ab fs j).stand ≠ []:=fun h=>h hs
  refine jE [(0,_),(1,_)] Tryz.func107 Tryz.ntmps107 fun B hB=>?_
  repeat' (first | refine jR ?_ | (refine jo ?_;first | (refine jV (bQ rfl rfl aS ?_ rfl rfl) ?_;focus omega) | (refine jV (iv rfl rfl aS ?_ rfl rfl) ?_;focus omega) | refine ae rfl rfl rfl cx_std rfl ?_) | refine ad rfl (aG ‹_›) ?_)
  all_goals refine jY (vs:=[_]) ?_
  all_goals rfl
 ·rw [if_neg hs]
  refine jE [(0,_),(1,_)] Tryz.func107 Tryz.ntmps107 fun B hB=>?_
  repeat' (first | refine jR ?_ | (refine jo ?_;(refine jV (bQ rfl rfl aS ?_ rfl rfl) ?_;focus omega)) | refine ac rfl (ay ‹_›) ?_)
  all_goals refine jY (vs:=[_]) ?_
  all_goals rfl
end Go.E
