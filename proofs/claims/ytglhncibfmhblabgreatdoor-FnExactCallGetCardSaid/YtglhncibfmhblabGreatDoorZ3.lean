/- Contracts and plain laws that the statement rests on, part 3. Conditions: as each says. -/
import Derived.Test.YtglhncibfmhblabGreatDoorZ2
set_option linter.unusedVariables false
set_option linter.unusedSimpArgs false
namespace Go.E
set_option maxRecDepth 20000
set_option maxHeartbeats 2000000
open Go.Proofs
variable {G : Gh}
def eB (cs : abL) (c : Nat) : Bool:=cs.any fun d=>d.toNat == c
def db (p : Nat → Bool) : abL → abL
 | []=>[]
 | c :: r=>if p c.toNat = true then db p r else c :: r
def eG (p : Nat → Bool) (s : abL) : abL:=(db p s.reverse).reverse
abbrev nK : TypeId:=189
theorem gp {b : Nat} {p : Nat → Bool} {c : Nat} (h : c < 256) : bQ abK 174 [Pt b 0,U8 c] G [.blk b (.cells (ck p).toArray nK (0,0))] (fun v L'=>v = Bo (p c) ∧ L' = [.blk b (.cells (ck p).toArray nK (0,0))]):=by
 refine jH [(0,_),(1,_)] Tryz.func174 Tryz.ntmps174 fun B hB hW=>?_
 repeat' (first | refine jR ?_ | (refine jo ?_;first | refine jV (qQ F F oM) ?_ | refine jV (y3 F F F aS) ?_))
 refine aZ (vs:=[_]) F ⟨F,trivial⟩ F (List.Sublist.refl _) ⟨F,F,F⟩
theorem jp {b : Nat} {p : Nat → Bool} {s : abL} : bQ abK 143 [S s,Pt b 0] G [.blk b (.cells (ck p).toArray nK (0,0))] (fun v L'=>v = S (db p s) ∧ L' = [.blk b (.cells (ck p).toArray nK (0,0))]):=by
 refine jH [(0,_),(1,_)] Tryz.func143 Tryz.ntmps143 fun B hB hW=>?_
 repeat' (refine jR ?_)
 refine aR (ι:=abL) (fun t=>db p t = db p s) (fun t=>[(0,S t),(1,Pt b 0)]) (fun _=>G) (fun t=>[.blk b (.cells (ck p).toArray nK (0,0))]) (fun t=>t.length) s ?_ tU F aX (fun t Ht=>?_)
 ·rfl
 match t,Ht with
 | [],Ht =>
  repeat' (first | refine jR ?_ | refine ad F F ?_)
  refine aZ (vs:=[_]) F ⟨F,trivial⟩ F (List.Sublist.refl _) ⟨F,by rw [← Ht];rfl,rfl⟩
 | c :: r,Ht =>
  have hlt : bt (c :: r) (Int.toNat 0) < 256:=jr _ _
  have e0 : bt (c :: r) (Int.toNat 0) = c.toNat:=be c r
  have hcons : (c :: r).length = r.length + 1:=rfl
  rw [db] at Ht
  by_cases hp : p (bt (c :: r) (Int.toNat 0)) = true
  ·have hp2 : (!p (bt (c :: r) (Int.toNat 0))) = false:=by rw [hp];rfl
   repeat' (first | refine jM ?_ | (refine jo ?_;(refine af F F F (gp (by (repeat (assumption));done)) rfl ?_;rintro _ _ ⟨rfl,rfl⟩;dsimp only [zA,fA])) | refine ac F (ay oM) ?_ | refine ad F ‹_› ?_)
   refine aW r (by rw [← Ht,← e0,if_pos hp]) oM tU F aX
  ·have hp2 : (!p (bt (c :: r) (Int.toNat 0))) = true:=by simpa using hp
   repeat' (first | refine jM ?_ | (refine jo ?_;(refine af F F F (gp (by (repeat (assumption));done)) rfl ?_;rintro _ _ ⟨rfl,rfl⟩;dsimp only [zA,fA])) | (refine ac F (by first | assumption | (refine decide_eq_true ?_;(omega))) ?_))
   refine aZ (vs:=[_]) F ⟨F,trivial⟩ F (List.Sublist.refl _) ⟨F,by rw [← Ht,← e0,if_neg hp];rfl,rfl⟩
theorem pq (p : Nat → Bool) : ∀ s : abL,(db p s).length ≤ s.length
 | []=>Nat.le_refl _
 | c :: r=>by
  unfold db
  split
  ·have:=pq p r;simp;omega
  ·exact Nat.le_refl _
theorem uh (p : Nat → Bool) (s : abL) : (eG p s).length ≤ s.length:=by have:=pq p s.reverse;simpa [eG] using this
theorem tf (p : Nat → Bool) (s : abL) (c : UInt8) : eG p (s ++ [c]) = if p c.toNat = true then eG p s else s ++ [c]:=by
 unfold eG
 rw [List.reverse_append]
 simp only [List.reverse_cons,List.reverse_nil,List.nil_append,List.singleton_append,db]
 split <;> simp
theorem nA {b : Nat} {p : Nat → Bool} {s : abL} (hs : s.length ≤ 1000000000) : bQ abK 144 [S s,Pt b 0] G [.blk b (.cells (ck p).toArray nK (0,0))] (fun v L'=>v = S (eG p s) ∧ L' = [.blk b (.cells (ck p).toArray nK (0,0))]):=by
 refine jH [(0,_),(1,_)] Tryz.func144 Tryz.ntmps144 fun B hB hW=>?_
 repeat' (refine jR ?_)
 refine aR (ι:=abL) (fun t=>t.length ≤ 1000000000 ∧ eG p t = eG p s) (fun t=>[(0,S t),(1,Pt b 0)]) (fun _=>G) (fun t=>[.blk b (.cells (ck p).toArray nK (0,0))]) (fun t=>t.length) s ?_ tU F aX (fun t Ht=>?_)
 ·exact ⟨hs,F⟩
 have hcase : t = [] ∨ ∃ r c,t = r ++ [c]:=by
  rcases List.eq_nil_or_concat t with h | ⟨r,c,h⟩
  ·exact .inl h
  ·exact .inr ⟨r,c,by rw [h,List.concat_eq_append]⟩
 rcases hcase with rfl | ⟨r,c,rfl⟩
 ·repeat' (first | refine jR ?_ | refine ad F F ?_)
  refine aZ (vs:=[_]) F ⟨F,trivial⟩ F (List.Sublist.refl _) ⟨F,by rw [← Ht.2];rfl,rfl⟩
 ·have hcons : (r ++ [c]).length = r.length + 1:=by simp
  have e1 : (((r ++ [c]).length : Nat) : Int) - 1 = (r.length : Nat):=oM
  have e2 : ((((r ++ [c]).length : Nat) : Int) - 1).toNat = r.length:=oM
  have e0 : bt (r ++ [c]) ((((r ++ [c]).length : Nat) : Int) - 1).toNat = c.toNat:=by rw [e2];simp [bt,List.getD]
  have hlt : bt (r ++ [c]) ((((r ++ [c]).length : Nat) : Int) - 1).toNat < 256:=jr _ _
  have e3 : (r ++ [c]).take ((((r ++ [c]).length : Nat) : Int) - 1).toNat = r:=by rw [e2];simp
  have Ht2:=Ht.2
  rw [tf] at Ht2
  have hne : r ++ [c] ≠ []:=by simp
  by_cases hp : p (bt (r ++ [c]) ((((r ++ [c]).length : Nat) : Int) - 1).toNat) = true
  ·have hp2 : (!p (bt (r ++ [c]) ((((r ++ [c]).length : Nat) : Int) - 1).toNat)) = false:=by rw [hp];rfl
   repeat' (first | refine jM ?_ | (refine jo ?_;(refine af F F F (gp (by (repeat (assumption));done)) rfl ?_;rintro _ _ ⟨rfl,rfl⟩;dsimp only [zA,fA])) | refine ac F (ay oM) ?_ | refine ad F ‹_› ?_)
   refine aW r ⟨oM,by rw [← Ht2,← e0,if_pos hp]⟩ oM ?_ F aX
   rw [e3];repeat (first | exact trivial | refine ⟨F,?_⟩)
  ·have hp2 : (!p (bt (r ++ [c]) ((((r ++ [c]).length : Nat) : Int) - 1).toNat)) = true:=by simpa using hp
   repeat' (first | refine jM ?_ | (refine jo ?_;(refine af F F F (gp (by (repeat (assumption));done)) rfl ?_;rintro _ _ ⟨rfl,rfl⟩;dsimp only [zA,fA])) | (refine ac F (by first | assumption | (refine decide_eq_true ?_;(omega))) ?_))
   refine aZ (vs:=[_]) F ⟨F,trivial⟩ F (List.Sublist.refl _) ⟨F,by rw [← Ht2,← e0,if_neg hp];rfl,rfl⟩
theorem vZ (cs : abL) (i : Nat) (h : i < cs.length) : (fun x=>eB (cs.take i) x || x == bt cs i) = eB (cs.take (i + 1)):=by
 funext x
 have e : bt cs i = (cs[i]).toNat:=by simp [bt,List.getD,List.getElem?_eq_getElem h]
 have e2 : (x == (cs[i]).toNat) = ((cs[i]).toNat == x):=by rw [Bool.eq_iff_iff,beq_iff_eq,beq_iff_eq];exact eq_comm
 rw [List.take_succ_eq_append_getElem h,e,e2]
 simp only [eB,List.any_append,List.any_cons,List.any_nil,Bool.or_false]
theorem vC {cs : abL} (h : cs.all (fun c=>decide (c.toNat < 128)) = true) : ∀ i,i < cs.length → bt cs i < 128:=fun i hi=>by
 have e : bt cs i = (cs[i]).toNat:=by simp [bt,List.getD,List.getElem?_eq_getElem hi]
 rw [List.all_eq_true] at h
 rw [e]
 simpa using h cs[i] (List.getElem_mem hi)
theorem ke {cs : abL} (hc : ∀ i,i < cs.length → bt cs i < 128) (hl : cs.length ≤ 1000) : am abK 142 [S cs] G (· = Tu [Ag (ck (eB cs)),Bo true]):=by
 refine jE [(0,_)] Tryz.func142 Tryz.ntmps142 fun B hB=>?_
 repeat' (first | refine jR ?_ | (refine jo ?_;refine rz F F fun _=>?_))
 rename_i x
 refine aR (ι:=Nat) (fun i=>i ≤ cs.length) (fun i=>[(0,S cs),(2,Pt x 0),(4,I i)]) (fun _=>G) (fun i=>[.blk x (.cells (ck (eB (cs.take i))).toArray nK (0,0))]) (fun i=>cs.length - i) 0 ?_ tU F aX (fun i Hi=>?_)
 ·exact Nat.zero_le _
 by_cases hi : i < cs.length
 ·have h1 : bt cs ((i : Int).toNat) < 128:=hc i hi
  have h2 : bt cs ((i : Int).toNat) < 256:=oM
  repeat' (first | refine jM ?_ | (refine jo ?_;first | refine zu F F F F aS ?_ | refine jV (qQ F F oM) ?_) | refine ac F (ay oM) ?_ | refine ad F (aC oM) ?_)
  refine aW (i + 1) oM oM tU F (by rw [← vZ cs i hi];repeat (exact List.Sublist.refl _))
 ·have ei : i = cs.length:=oM
  subst ei
  repeat' (first | refine jR ?_ | (refine jo ?_;first | refine jV (yZ F F F F) ?_ | refine rg F F F F ?_) | refine ad F (aC oM) ?_)
  refine jZ (vs:=[_,_]) F ⟨aah F F F F,F,trivial⟩ F ⟨F,F,?_⟩
  rw [List.take_length];rfl
theorem vw {s cs : abL} (h2 : Nat.ble 2 cs.length = true) (hc : cs.all (fun c=>decide (c.toNat < 128)) = true) (hl : Nat.ble cs.length 1000 = true) (hs : s.length ≤ 2000000) : am abK 104 [S s,S cs] G (· = S (db (eB cs) (eG (eB cs) s))):=by
 have h2:=Nat.le_of_ble_eq_true h2
 have hl:=Nat.le_of_ble_eq_true hl
 have cx_mkas:=ke (G:=G) (vC hc) hl
 by_cases h0 : s = []
 ·subst h0
  refine jE [(0,_),(1,_)] Tryz.func104 Tryz.ntmps104 fun B hB=>?_
  repeat' (first | refine jR ?_ | (refine jo ?_;refine aL F ?_) | refine aD F F F ?_ | refine ac F F ?_)
  all_goals refine jY (vs:=[_]) ?_
  all_goals rfl
 have hn : ¬ cs = []:=by rintro rfl;simp at h2
 have hr:=uh (eB cs) s
 refine jE [(0,_),(1,_)] Tryz.func104 Tryz.ntmps104 fun B hB=>?_
 repeat' (first | refine jR ?_ | (refine jo ?_;first | refine av F ?_ | refine rz F F fun _=>?_ | refine rg F F F F ?_ | refine ab F F F cx_mkas F ?_ | (refine af F F F (nA oM) F ?_;rintro _ _ ⟨rfl,rfl⟩;dsimp only [zA,fA]) | (refine af F F F jp F ?_;rintro _ _ ⟨rfl,rfl⟩;dsimp only [zA,fA])) | (refine al F F (by refine decide_eq_false ?_;first | assumption | omega) ?_) | refine ac F F ?_ | (refine ad F (by first | rfl | (refine decide_eq_false ?_;(assumption))) ?_))
 all_goals refine jY (vs:=[_]) ?_
 all_goals rfl
theorem lc {s cs : abL} (h2 : Nat.ble 2 cs.length = true) (hc : cs.all (fun c=>decide (c.toNat < 128)) = true) (hl : Nat.ble cs.length 1000 = true) : am abK 119 [S s,S cs] G (· = S (db (eB cs) s)):=by
 have h2:=Nat.le_of_ble_eq_true h2
 have hl:=Nat.le_of_ble_eq_true hl
 have cx_mkas:=ke (G:=G) (vC hc) hl
 by_cases h0 : s = []
 ·subst h0
  refine jE [(0,_),(1,_)] Tryz.func119 Tryz.ntmps119 fun B hB=>?_
  repeat' (first | refine jR ?_ | (refine jo ?_;refine aL F ?_) | refine aD F F F ?_ | refine ac F F ?_)
  all_goals refine jY (vs:=[_]) ?_
  all_goals rfl
 have hn : ¬ cs = []:=by rintro rfl;simp at h2
 refine jE [(0,_),(1,_)] Tryz.func119 Tryz.ntmps119 fun B hB=>?_
 repeat' (first | refine jR ?_ | (refine jo ?_;first | refine av F ?_ | refine rz F F fun _=>?_ | refine rg F F F F ?_ | refine ab F F F cx_mkas F ?_ | (refine af F F F jp F ?_;rintro _ _ ⟨rfl,rfl⟩;dsimp only [zA,fA])) | (refine al F F (by refine decide_eq_false ?_;first | assumption | omega) ?_) | refine ac F F ?_ | (refine ad F (by first | rfl | (refine decide_eq_false ?_;(assumption))) ?_))
 all_goals refine jY (vs:=[_]) ?_
 all_goals rfl
theorem pp {p : Nat → Bool} : ∀ {s : abL},db p s = [] ↔ ∀ c ∈ s,p c.toNat = true
 | []=>by simp [db]
 | c :: r=>by
  unfold db
  by_cases h : p c.toNat = true
  ·rw [if_pos h,pp];simp [h]
  ·rw [if_neg h];simp [h]
theorem ug {p : Nat → Bool} {s : abL} : (∀ c ∈ eG p s,p c.toNat = true) ↔ ∀ c ∈ s,p c.toNat = true:=by
 have key : ∀ l : abL,(∀ c ∈ db p l,p c.toNat = true) ↔ ∀ c ∈ l,p c.toNat = true:=by
  intro l
  induction l with
  | nil=>simp [db]
  | cons c r ih =>
   unfold db
   by_cases h : p c.toNat = true
   ·rw [if_pos h,ih];simp [h]
   ·rw [if_neg h]
 unfold eG
 have:=key s.reverse
 simpa using this
theorem ql {p : Nat → Bool} {s : abL} : db p (eG p s) = [] ↔ ∀ c ∈ s,p c.toNat = true:=by rw [pp,ug]
def s8 : abL:=[97,98,99,100,101,102,103,104,105,106,107,108,109,110,111,112,113,114,115,116,117,118,119,120,121,122]
def qk : abL:=s8 ++ [48,49,50,51,52,53,54,55,56,57,32]
theorem aa2 (c : UInt8) : eB s8 c.toNat = ja c:=by
 have : ∀ n : Nat,n < 256 → eB s8 n = decide (97 ≤ n ∧ n ≤ 122):=by decide +kernel
 rw [this _ c.toNat_lt];rfl
theorem z9 (c : UInt8) : eB qk c.toNat = decide (hO c.toNat):=by
 have : ∀ n : Nat,n < 256 → eB qk n = decide (hO n):=by decide +kernel
 exact this _ c.toNat_lt
theorem yh (s : abL) : db (eB s8) (eG (eB s8) s) = [] ↔ s.all ja = true:=by
 rw [ql,List.all_eq_true]
 exact forall_congr' fun c=>forall_congr' fun _=>by rw [aa2]
theorem cZ {s : abL} (h : s.length ≤ 2000000) : am abK 76 [S s] G (· = Bo (b5 s)):=by
 have cx_trim:=vw (G:=G) (s:=s) (cs:=s8) rfl kR rfl h
 by_cases hl : 1 ≤ s.length ∧ s.length ≤ 3
 ·refine jE [(0,_)] Tryz.func76 Tryz.ntmps76 fun B hB=>?_
  repeat' (first | refine jR ?_ | (refine jo ?_;first | refine av F ?_ | refine ab F F F cx_trim F ?_) | refine al F F (aC oM) ?_ | refine ad F (aC oM) ?_)
  all_goals refine jY (vs:=[_]) ?_
  have:=yh s
  unfold b5
  rw [decide_eq_true hl,Bool.and_true]
  refine congrArg Bo ?_
  rw [Bool.eq_iff_iff]
  simpa using this
 ·have e : b5 s = false:=by unfold b5;rw [decide_eq_false hl,Bool.and_false]
  rw [e]
  refine jE [(0,_)] Tryz.func76 Tryz.ntmps76 fun B hB=>?_
  repeat' (first | refine jR ?_ | (refine jo ?_;first | refine aL F ?_ | refine av F ?_) | refine d5 F F (fun _=>?_) (fun _=>?_) | (refine ac F (by first | rfl | (refine decide_eq_true ?_;(omega))) ?_))
  all_goals refine jY (vs:=[_]) ?_
  all_goals rfl
theorem tN (s : abL) : bm s = db (eB [91,63]) s:=by
 induction s with
 | nil=>rfl
 | cons c r ih =>
  have e : eB [91,63] c.toNat = decide (c.toNat = 91 ∨ c.toNat = 63):=by
   have : ∀ n : Nat,n < 256 → eB [91,63] n = decide (n = 91 ∨ n = 63):=by decide +kernel
   exact this _ c.toNat_lt
  unfold bm db
  rw [e]
  by_cases h : c.toNat = 91 ∨ c.toNat = 63
  ·simp only [h,if_true,decide_true];exact ih
  ·simp [h]
theorem qM : ∀ {s : abL},eg (bm s) = eg s
 | []=>rfl
 | c :: r=>by
  unfold bm
  split
  ·rename_i h;rw [qM];conv=>{ rhs;unfold eg };rw [if_pos h]
  ·rfl
def d4 (s : abL) : List Value:=[S (sg s),S (bs s),S (nm s)]
def vD (s : abL) (v : Value) : Prop:=∃ a b c,v = Tu [Ag [S a,S b,S c],Bo (bz s)] ∧ (bz s = true → a = sg s ∧ b = bs s ∧ c = nm s)
theorem rC {s p : abL} (hp : p.length ≤ 1000000000) (hs : s.length ≤ 1000000000) : am abK 158 [S s,S p] G (· = Bo (decide (p.length ≤ s.length ∧ s.drop (s.length - p.length) = p))):=by
 by_cases h : p.length ≤ s.length
 ·have e : (((s.length : Nat) : Int) - ((p.length : Nat) : Int)).toNat = s.length - p.length:=oM
  refine jE [(0,_),(1,_)] Tryz.func158 Tryz.ntmps158 fun B hB=>?_
  repeat' (first | refine jM ?_ | (refine jo ?_;refine aL F ?_) | refine aD F F (ay oM) ?_)
  all_goals refine jY (vs:=[_]) ?_
  all_goals (rw [e];simp [h];try rfl)
 ·refine jE [(0,_),(1,_)] Tryz.func158 Tryz.ntmps158 fun B hB=>?_
  repeat' (first | refine jR ?_ | (refine jo ?_;refine av F ?_) | refine al F F (aC oM) ?_)
  all_goals refine jY (vs:=[_]) ?_
  all_goals (simp [h];try rfl)
theorem mW {s p : abL} (hp : p.length ≤ 1000000000) (hs : s.length ≤ 1000000000) : am abK 121 [S s,S p] G (· = Bo (decide (p.length ≤ s.length ∧ s.drop (s.length - p.length) = p))):=by
 refine jE [(0,_),(1,_)] Tryz.func121 Tryz.ntmps121 fun B hB=>?_
 repeat' (first | refine jR ?_ | (refine jo ?_;refine ab F F F (rC oM oM) F ?_))
 all_goals refine jY (vs:=[_]) ?_
 all_goals rfl
theorem yu {c : UInt8} {r : abL} : (1 ≤ (c :: r).length ∧ (c :: r).drop ((c :: r).length - 1) = [59]) ↔ bt (c :: r) r.length = 59:=by
 have hl : (c :: r).length - 1 = r.length:=by simp
 rw [hl]
 have hlt : r.length < (c :: r).length:=by simp
 obtain ⟨d,h1,h2⟩:=fw hlt
 rw [h1,h2]
 have h3 : (c :: r).drop (r.length + 1) = []:=by simp
 rw [h3]
 constructor
 ·rintro ⟨_,h⟩;simp only [List.cons.injEq,and_true] at h;rw [h];rfl
 ·intro h;exact ⟨by simp,by rw [show d = 59 from UInt8.toNat_inj.1 h]⟩
theorem lW : ∀ {s : abL} {c : UInt8} {r : abL},bm s = c :: r → ¬ (c.toNat = 91 ∨ c.toNat = 63)
 | [],c,r,h=>by simp [bm] at h
 | d :: s,c,r,h=>by
  unfold bm at h
  split at h
  ·exact lW h
  ·rename_i hd
   simp only [List.cons.injEq] at h
   rw [← h.1];exact hd
theorem rT {s t : abL} (h : s.length ≤ 12) (ht : bm s = t) : am abK 91 [S s] G (vD s):=by
 have cx_triml : am abK 119 [S s,S [91,63]] G (· = S t):=by
  rw [← ht,tN]
  exact lc F kR F
 have hcl:=kW s
 rw [ht] at hcl
 have ek : bz s = eg t:=by unfold bz;rw [decide_eq_true h,Bool.true_and,← ht,qM]
 have esg : s.take (((s.length : Nat) : Int) - ((t.length : Nat) : Int)).toNat = sg s:=by
  unfold sg;rw [ht];congr 1;omega
 have ebs : bs s = oP t:=by unfold bs;rw [ht]
 have enm : nm s = (bE t).getD []:=by unfold nm;rw [ht]
 have hns : ∀ c r,t = c :: r → ¬ (c.toNat = 91 ∨ c.toNat = 63):=fun c r e=>lW (ht.trans e)
 clear ht
 match t,hcl,ek,ebs,enm,cx_triml,esg,hns with
 | [],hcl,ek,ebs,enm,cx_triml,esg,hns =>
  have hno : bz s = false:=by rw [ek];rfl
  have cx_suf:=mW (G:=G) (s:=[]) (p:=[59]) (by simp) (by simp)
  refine jE [(0,_)] Tryz.func91 Tryz.ntmps91 fun B hB=>?_
  repeat' (first | refine jM ?_ | (refine jo ?_;first | refine jL fun _=>?_ | refine jV (ao F F) ?_ | refine jC F F F ?_ | refine av F ?_ | refine ab F F F cx_triml F ?_ | refine ab F F F fG F ?_) | refine al F F F ?_ | (refine ad F (by first | rfl | (refine decide_eq_false ?_;(omega))) ?_))
  all_goals refine jZ (vs:=[_,_]) F ⟨aE F F F F,F,trivial⟩ F ⟨F,F,?_⟩
  all_goals exact ⟨[],[],[],by rw [hno];rfl,fun h=>by rw [hno] at h;cases h⟩
 | c :: r,hcl,ek,ebs,enm,cx_triml,esg,hns =>
  by_cases hA : c :: r = [110] ∨ c :: r = [116] ∨ c :: r = [102]
  ·rcases hA with hA | hA | hA
   all_goals (simp only [List.cons.injEq] at hA;obtain ⟨rfl,rfl⟩:=hA)
   all_goals have hyes : bz s = true:=by rw [ek];rfl
   all_goals refine jE [(0,_)] Tryz.func91 Tryz.ntmps91 fun B hB=>?_
   all_goals repeat' (first | refine jM ?_ | (refine jo ?_;first | refine jL fun _=>?_ | refine jV (ao F F) ?_ | refine jD F F F ?_ | refine jC F F F ?_ | refine aL F ?_ | refine av F ?_ | refine aG F ?_ | refine ab F F F cx_triml F ?_) | refine aD F F F ?_ | refine al F F F ?_ | refine ac F F ?_ | refine ad F (aC oM) ?_)
   all_goals refine jZ (vs:=[_,_]) F ⟨aE F F F F,F,trivial⟩ F ⟨F,F,?_⟩
   all_goals exact ⟨_,_,_,by rw [hyes];rfl,fun _=>⟨esg,by rw [ebs];rfl,by rw [enm];rfl⟩⟩
  simp only [not_or] at hA
  obtain ⟨hA1,hA2,hA3⟩:=hA
  by_cases hc : c = 64
  case neg =>
   have hc' : ¬ c.toNat = 64:=fun h=>hc (UInt8.toNat_inj.1 h)
   have hno : bz s = false:=by
    rw [ek,eg,if_neg (hns c r rfl),if_neg hc']
    by_cases hr : r = []
    ·subst hr
     have n1 : ¬ c.toNat = 110:=fun h=>hA1 (by rw [show c = 110 from UInt8.toNat_inj.1 h])
     have n2 : ¬ c.toNat = 116:=fun h=>hA2 (by rw [show c = 116 from UInt8.toNat_inj.1 h])
     have n3 : ¬ c.toNat = 102:=fun h=>hA3 (by rw [show c = 102 from UInt8.toNat_inj.1 h])
     simp [n1,n2,n3]
    ·simp [hr]
   have hp : ([64] : abL).isPrefixOf (c :: r) = false:=by simp [List.isPrefixOf];exact fun h=>hc h.symm
   refine jE [(0,_)] Tryz.func91 Tryz.ntmps91 fun B hB=>?_
   repeat' (first | refine jM ?_ | (refine jo ?_;first | refine jL fun _=>?_ | refine jV (ao F F) ?_ | refine jC F F F ?_ | refine av F ?_ | refine ab F F F cx_triml F ?_ | refine ab F F F fG F ?_) | (refine al F F (by first | assumption | (refine decide_eq_false ?_;(assumption))) ?_) | (refine ad F (by first | rfl | (refine decide_eq_false ?_;first | assumption | omega)) ?_))
   all_goals refine jZ (vs:=[_,_]) F ⟨aE F F F F,F,trivial⟩ F ⟨F,F,?_⟩
   all_goals exact ⟨[],[],[],by rw [hno];rfl,fun h=>by rw [hno] at h;cases h⟩
  subst hc
  have hp : ([64] : abL).isPrefixOf (64 :: r) = true:=by simp [List.isPrefixOf]
  have hsuf:=mW (G:=G) (s:=64 :: r) (p:=[59]) (by simp) (by simp at hcl ⊢;omega)
  have ek2 : bz s = (decide (bt (64 :: r) r.length = 59) && b5 (r.take (r.length - 1))):=by
   rw [ek,eg,if_neg dC,if_pos dC]
   congr 1
   refine decide_eq_decide.2 ?_
   omega
  have hsb:=yu (c:=64) (r:=r)
  by_cases hb : bt (64 :: r) r.length = 59
  case neg =>
   have cx_suf : am abK 121 [S (64 :: r),S [59]] G (· = Bo false):=by
    have e : decide (([59] : abL).length ≤ (64 :: r : abL).length ∧ (64 :: r : abL).drop ((64 :: r : abL).length - ([59] : abL).length) = [59]) = false:=decide_eq_false fun h=>hb (hsb.1 h)
    rwa [e] at hsuf
   have hno : bz s = false:=by rw [ek2,decide_eq_false hb,Bool.false_and]
   refine jE [(0,_)] Tryz.func91 Tryz.ntmps91 fun B hB=>?_
   repeat' (first | refine jM ?_ | (refine jo ?_;first | refine jL fun _=>?_ | refine jV (ao F F) ?_ | refine jC F F F ?_ | refine aL F ?_ | refine av F ?_ | refine ab F F F cx_triml F ?_ | refine ab F F F fG F ?_ | refine ab F F F cx_suf F ?_) | refine aD F F F ?_ | refine al F F F ?_ | (refine ad F (by first | rfl | (refine decide_eq_false ?_;(omega))) ?_))
   all_goals refine jZ (vs:=[_,_]) F ⟨aE F F F F,F,trivial⟩ F ⟨F,F,?_⟩
   all_goals exact ⟨[],[],[],by rw [hno];rfl,fun h=>by rw [hno] at h;cases h⟩
  have cx_suf : am abK 121 [S (64 :: r),S [59]] G (· = Bo true):=by
   have e : decide (([59] : abL).length ≤ (64 :: r : abL).length ∧ (64 :: r : abL).drop ((64 :: r : abL).length - ([59] : abL).length) = [59]) = true:=decide_eq_true (hsb.2 hb)
   rwa [e] at hsuf
  have hr : 1 ≤ r.length:=by
   cases r with
   | nil=>exact absurd hb dC
   | cons=>simp
  have hl2 : (64 :: r : abL).length = r.length + 1:=rfl
  have e1 : ((64 :: r : abL).take ((((64 :: r : abL).length : Nat) : Int) - 1).toNat).drop (Int.toNat 1) = r.take (r.length - 1):=by
   have e2 : ((((64 :: r : abL).length : Nat) : Int) - 1).toNat = (r.length - 1) + 1:=oM
   rw [e2,List.take_succ_cons];rfl
  have hyes : bz s = b5 (r.take (r.length - 1)):=by rw [ek2,decide_eq_true hb,Bool.true_and]
  have cx_isnm : am abK 76 [S (((64 :: r : abL).take ((((64 :: r : abL).length : Nat) : Int) - 1).toNat).drop (Int.toNat 1))] G (· = Bo (b5 (r.take (r.length - 1)))):=by
   rw [e1];exact cZ (by simp at hcl ⊢;omega)
  refine jE [(0,_)] Tryz.func91 Tryz.ntmps91 fun B hB=>?_
  repeat' (first | refine jM ?_ | (refine jo ?_;first | refine jL fun _=>?_ | refine jV (ao F F) ?_ | refine jD F F F ?_ | refine jC F F F ?_ | refine aL F ?_ | refine av F ?_ | refine ab F F F cx_triml F ?_ | refine ab F F F fG F ?_ | refine ab F F F cx_suf F ?_) | refine aD F F F ?_ | refine al F F F ?_ | refine ac F F ?_ | (refine ad F (by first | rfl | (refine decide_eq_false ?_;(omega))) ?_) | (refine ai (dL (id:=11) (tt:=2) F ah ?_);refine jW 5 [1] (aa 6 2) ?_;(refine jG (aa 6 3) 0 F (bq F F F F) ?_);(refine jG (aa 6 7) 2 F (aq F F F) ?_);refine jA 3 F ?_;(refine ab F F F cx_isnm F ?_);refine jK (aa 6 15) ?_;refine jA 4 F ?_;(refine jC F F F ?_);refine jK (aa 6 31) ?_;refine jW 0 [5] (aa 6 63) ?_;refine jQ ?_))
  all_goals refine jZ (vs:=[_,_]) F ⟨aE F F F F,F,trivial⟩ F ⟨F,F,?_⟩
  all_goals exact ⟨_,_,_,by rw [hyes];rfl,fun _=>⟨esg,by rw [ebs];rfl,by rw [enm,e1];rfl⟩⟩
theorem k5 {s : abL} (h : s.length ≤ 2000000) : am abK 91 [S s] G (vD s):=by
 by_cases hl : s.length ≤ 12
 ·exact rT hl F
 have e : bz s = false:=by unfold bz;rw [decide_eq_false hl,Bool.false_and]
 refine jE [(0,_)] Tryz.func91 Tryz.ntmps91 fun B hB=>?_
 repeat' (first | refine jR ?_ | (refine jo ?_;first | refine jL fun _=>?_ | refine jV (ao F F) ?_ | refine jC F F F ?_) | refine ac F (ay oM) ?_)
 all_goals refine jZ (vs:=[_,_]) F ⟨aE F F F F,F,trivial⟩ F ⟨F,F,?_⟩
 all_goals exact ⟨[],[],[],by rw [e];rfl,fun h=>by rw [e] at h;cases h⟩
theorem ud {c : UInt8} (h : 48 ≤ c.toNat) : u8 (48 + ((c.toNat : Int) - 48)) = c:=by
 apply UInt8.toNat_inj.1
 have h2:=c.toNat_lt
 have:=ep (a:=48 + ((c.toNat : Int) - 48)) oM
 omega
theorem q4 : ∀ {s : abL} {n m : Int},1 ≤ n → cO n s = some m → br m = br n ++ s ∧ n ≤ m
 | [],n,m,h0,h=>by simp only [cO,Option.some.injEq] at h;subst h;simp
 | c :: r,n,m,h0,h=>by
  unfold cO at h
  split at h
  ·rename_i hc
   have ih:=q4 (s:=r) oM h
   refine ⟨?_,oM⟩
   have e1 : (10 * n + ((c.toNat : Int) - 48)) / 10 = n:=oM
   have e2 : (10 * n + ((c.toNat : Int) - 48)) % 10 = (c.toNat : Int) - 48:=oM
   rw [ih.1,iu (n:=10 * n + ((c.toNat : Int) - 48)) oM,e1,e2,ud hc.1];simp
  ·cases h
theorem lV : ∀ (k : Nat) {m : Int},m.toNat ≤ k → 1 ≤ m → ∃ c r,br m = c :: r ∧ c.toNat ≠ 48
 | 0,m,h,h1=>by omega
 | k + 1,m,h,h1=>by
  by_cases hm : m < 10
  ·refine ⟨_,[],dw hm oM,?_⟩
   have:=ep (a:=48 + m) oM
   omega
  ·obtain ⟨c,r,e,hc⟩:=lV k (m:=m / 10) oM oM
   exact ⟨c,r ++ [u8 (48 + m % 10)],by rw [iu hm,e];rfl,hc⟩
theorem pg : ∀ {s : abL} {n m : Int},0 ≤ n → cO n s = some m → 0 ≤ m
 | [],n,m,h0,h=>by simp only [cO,Option.some.injEq] at h;omega
 | c :: r,n,m,h0,h=>by
  unfold cO at h
  split at h
  ·exact pg (s:=r) oM h
  ·cases h
theorem sL {c : UInt8} {r : abL} {m : Int} (h : cO 0 (c :: r) = some m) : c :: r = br m ↔ ¬ (c.toNat = 48 ∧ r ≠ []):=by
 have h':=h
 unfold cO at h
 split at h
 ·rename_i hc
  by_cases h0 : c.toNat = 48
  ·have e0 : (10 * 0 + ((c.toNat : Int) - 48)) = 0:=oM
   rw [e0] at h
   constructor
   ·rintro e ⟨_,hr⟩
    have hm:=pg (Int.le_refl 0) h
    rcases Int.lt_or_le m 1 with h1 | h1
    ·have : m = 0:=oM
     subst this
     rw [dw oM oM] at e
     simp only [List.cons.injEq] at e
     exact hr e.2
    ·obtain ⟨d,t,e2,hd⟩:=lV m.toNat (Nat.le_refl _) h1
     rw [e2] at e
     simp only [List.cons.injEq] at e
     exact hd (by rw [← e.1];exact h0)
   ·intro hn
    have hr : r = []:=by
     by_cases hr : r = []
     ·exact hr
     ·exact absurd ⟨h0,hr⟩ hn
    subst hr
    simp only [cO,Option.some.injEq] at h
    subst h
    rw [dw oM oM]
    congr 1
    apply UInt8.toNat_inj.1
    have:=ep (a:=48 + 0) oM
    omega
  ·have:=q4 oM h
   rw [this.1,dw oM oM]
   have e : (10 * 0 + ((c.toNat : Int) - 48)) = (c.toNat : Int) - 48:=oM
   rw [e,ud hc.1]
   simp [h0]
 ·cases h
theorem gE {s : abL} {top : Int} (h : s.length ≤ 100000000) : am abK 99 [S s,I top] G (fun v=>∃ n,v = Tu [I n,Bo (aM s top).isSome] ∧ (∀ m,aM s top = some m → n = m) ∧ 0 ≤ n ∧ n ≤ 999999):=by
  by_cases hl : 1 ≤ s.length ∧ s.length ≤ 6
  case neg =>
    have hno : aM s top = none:=by
      unfold aM
      by_cases h6 : s.length ≤ 6
      · have : s = []:=List.length_eq_zero_iff.1 oM
        subst this
        rw [if_pos (by simp)]
        simp [cO,dw]
      · rw [if_neg h6]
    refine jE [(0,_),(1,_)] Tryz.func99 Tryz.ntmps99 fun B hB=>?_
    repeat' (first | refine jR ?_ | (refine jo ?_;first | refine aL F ?_ | refine av F ?_) | (refine aD F F (by first | rfl | (refine decide_eq_true ?_;(omega))) ?_) | refine d5 F F (fun _=>?_) (fun _=>?_) | refine ac F F ?_)
    all_goals refine jY (vs:=[_,_]) ?_
    all_goals exact ⟨_,by rw [hno];rfl,fun m hm=>(by rw [hno] at hm;cases hm),by decide,by decide⟩
  by_cases hz : bt s 0 = 48 ∧ 1 < s.length
  · have hz0 : bt s (Int.toNat 0) = 48:=hz.1
    have hno : aM s top = none:=by
      match s,hz,hl with
      | c :: r,hz,hl =>
        unfold aM
        rw [if_pos hl.2]
        split
        · rename_i n hn
          rw [if_neg]
          rintro ⟨e,_⟩
          rw [be] at hz
          exact (sL hn).1 e ⟨hz.1,by rintro rfl;simp at hz⟩
        · rfl
    refine jE [(0,_),(1,_)] Tryz.func99 Tryz.ntmps99 fun B hB=>?_
    repeat' (first | refine jM ?_ | (refine jo ?_;first | refine aL F ?_ | refine av F ?_) | refine aD F F (ay oM) ?_ | refine al F F (aC oM) ?_ | refine ac F (ay oM) ?_)
    all_goals refine jY (vs:=[_,_]) ?_
    all_goals exact ⟨_,by rw [hno];rfl,fun m hm=>(by rw [hno] at hm;cases hm),by decide,by decide⟩
  have hz0 : ¬ (bt s (Int.toNat 0) = 48 ∧ 1 < s.length):=hz
  have key : aM s top = match cO 0 s with
      | some n=>if n ≤ top then some n else none
      | none=>none:=by
    match s,hz,hl with
    | c :: r,hz,hl =>
      unfold aM
      rw [if_pos hl.2]
      cases hd : cO 0 (c :: r) with
      | some n =>
        have hn:=hd
        have : c :: r = br n:=(sL hn).2 (by rw [be] at hz;rintro ⟨h1,h2⟩;exact hz ⟨h1,by have:=List.length_pos_iff.2 h2;simp;omega⟩)
        dsimp only
        rw [← this]
        simp
      | none=>rfl
  refine jE [(0,_),(1,_)] Tryz.func99 Tryz.ntmps99 fun B hB=>?_
  repeat' (first | refine jM ?_ | (refine jo ?_;first | refine aL F ?_ | refine av F ?_) | refine al F F (aC oM) ?_ | refine d5 F F (fun _=>?_) (fun _=>?_) | (refine ad F (by first | rfl | (refine decide_eq_false ?_;(omega))) ?_))
  all_goals (refine aR (ι:=Nat × Int) (fun i=>(i.1 ≤ s.length ∧ i.1 ≤ 6) ∧ (0 ≤ i.2 ∧ i.2 + 1 ≤ 10 ^ i.1) ∧ cO i.2 (s.drop i.1) = cO 0 s) (fun i=>[(0,S s),(1,I top),(6,I i.2),(27,I s.length),(28,I i.1)]) (fun _=>G) (fun i=>[]) (fun i=>s.length - i.1) (0,0) ?_ tU F aX (fun i Hi=>?_))
  all_goals (first | exact ⟨⟨by dsimp only;omega,by dsimp only;omega⟩,⟨by dsimp only;omega,by dsimp only;decide⟩,rfl⟩ | skip)
  all_goals obtain ⟨i,n⟩:=i
  all_goals dsimp only at Hi ⊢
  all_goals by_cases hi : i < s.length
  all_goals first
    | (obtain ⟨c,hc1,hc2⟩:=fw hi
       have hc3 : bt s ((i : Int).toNat) = c.toNat:=hc2
       have hd:=Hi.2.2
       rw [hc1,cO] at hd
       have h5 : i ≤ 5:=oM
       have hp:=vR i h5
       by_cases hdig : 48 ≤ c.toNat ∧ c.toNat ≤ 57
       · rw [if_pos hdig] at hd
         repeat' (first | refine jM ?_ | (refine jo ?_;refine av F ?_) | refine al F F (aC oM) ?_ | refine ac F (ay oM) ?_ | refine ad F (aC oM) ?_)
         refine aW (i + 1,10 * n + ((c.toNat : Int) - 48)) ⟨⟨by dsimp only;omega,by dsimp only;omega⟩,⟨by dsimp only;omega,by dsimp only;rw [hp.1];omega⟩,hd⟩ (by dsimp only;omega) ?_ rfl aX
         rw [← hc2];repeat (first | exact trivial | refine ⟨F,?_⟩)
       · rw [if_neg hdig] at hd
         have hno : aM s top = none:=by rw [key,← hd]
         repeat' (first | refine jM ?_ | (refine jo ?_;first | refine aL F ?_ | refine av F ?_) | refine d5 F F (fun _=>?_) (fun _=>?_) | (refine ac F (by first | rfl | (refine decide_eq_true ?_;(omega))) ?_))
         all_goals refine jY (vs:=[_,_]) ?_
         all_goals exact ⟨_,by rw [hno];rfl,fun m hm=>(by rw [hno] at hm;cases hm),by decide,by decide⟩)
    | (have ei : i = s.length:=oM
       have hd:=Hi.2.2
       rw [ei,List.drop_length,cO] at hd
       have hno : aM s top = if n ≤ top then some n else none:=by rw [key,← hd]
       repeat' (first | refine jR ?_ | refine ad F (aC oM) ?_)
       refine jY (vs:=[_,_]) ?_
       have hp6 : ∀ i : Nat,i ≤ 6 → (10 : Int) ^ i ≤ 1000000:=by decide
       have hp7:=hp6 i oM
       have hlo:=Hi.2.1.1
       have hhi:=Hi.2.1.2
       refine ⟨n,?_,fun m hm=>?_,oM,oM⟩
       · rw [hno,dD]
         by_cases ht : n ≤ top
         · rw [if_pos ht,decide_eq_true ht];rfl
         · rw [if_neg ht,decide_eq_false ht];rfl
       · rw [hno] at hm
         split at hm
         · exact Option.some.inj hm
         · cases hm)
theorem eN {s : abL} {top : Int} (h : s.length ≤ 100000000) : am abK 99 [S s,I top] G (fun v=>∃ n,v = Tu [I n,Bo (aM s top).isSome] ∧ (∀ m,aM s top = some m → n = m)):=by
 refine (gE (G:=G) h).mono ?_
 rintro v G' L' ⟨h1,h2,n,h3,h4,_⟩
 exact ⟨h1,h2,n,h3,h4⟩
theorem vp : ∀ (k : Nat) {n : Int},n.toNat ≤ k → 0 ≤ n ∧ n ≤ 9223372036854775807 → am abK 96 [I n] G (· = S (br n)):=by
 intro k
 induction k with
 | zero =>
  intro n hk hn
  have h1 : n < 10:=oM
  refine jE [(0,_)] Tryz.func96 Tryz.ntmps96 fun B hB=>?_
  repeat' (first | refine jM ?_ | (refine jo ?_;first | refine jF fun _=>?_ | refine jV (en F F (by (repeat (first | exact BL.nil | apply BL.cons));done)) ?_) | refine ac F (ay ‹_›) ?_)
  refine jY (vs:=[_]) ?_
  rw [ar,dw h1 hn.1]
 | succ k ih =>
  intro n hk hn
  have hl:=iO (n:=n / 10) oM
  have hl2:=iO (n:=n % 10) oM
  by_cases h1 : n < 10
  ·refine jE [(0,_)] Tryz.func96 Tryz.ntmps96 fun B hB=>?_
   repeat' (first | refine jM ?_ | (refine jo ?_;first | refine jF fun _=>?_ | refine jV (en F F (by (repeat (first | exact BL.nil | apply BL.cons));done)) ?_) | refine ac F (ay ‹_›) ?_)
   refine jY (vs:=[_]) ?_
   rw [ar,dw h1 hn.1]
  ·refine jE [(0,_)] Tryz.func96 Tryz.ntmps96 fun B hB=>?_
   repeat' (first | refine jM ?_ | (refine jo ?_;(refine ab F F F (ih oM ?_) F ?_;focus omega)) | refine ad F (aC ‹_›) ?_)
   all_goals refine jY (vs:=[_]) ?_
   all_goals rw [ar,iu (n:=n) h1,dw (n:=n % 10) oM oM]
theorem fB {n : Int} (hn : 0 ≤ n ∧ n ≤ 9223372036854775807) : am abK 96 [I n] G (· = S (br n)):=vp n.toNat (Nat.le_refl _) hn
theorem kV (c : UInt8) : ∀ s acc : abL,(dx c.toNat acc s).length = s.count c + 1
 | [],acc=>by simp [dx]
 | d :: r,acc=>by
  unfold dx
  by_cases h : d = c
  ·subst h
   rw [if_pos rfl,List.length_cons,kV d r []];simp
  ·have h2 : ¬ d.toNat = c.toNat:=fun e=>h (UInt8.toNat_inj.1 e)
   rw [if_neg h2,kV c r _,List.count_cons];simp [h]
theorem ye {s : abL} {c : UInt8} : am abK 169 [S s,S [c]] G (· = I (((a7 c.toNat s).length : Int) - 1)):=by
 have hx : ∀ w,(callFunc 187 [S s,U8 (bt [c] (Int.toNat 0))].toArray).run abK w = .ok (.value (I (((a7 c.toNat s).length : Int) - 1))) w:=fun w=>by
  rw [show bt [c] (Int.toNat 0) = c.toNat from be c []]
  rw [run_callFunc_extern Tryz.func187 kR kR kR (e:=Extern.BytealgCount.count) kR]
  have:=Lib.run_countString (P:=abK) ⟨s.toArray⟩ (c.toNat : Int) w
  rw [this]
  simp only [Result.andThen]
  have e : (a7 c.toNat s).length = s.count c + 1:=kV c s []
  rw [e]
  simp [Lib.countByte]
 refine jE [(0,_),(1,_)] Tryz.func169 Tryz.ntmps169 fun B hB=>?_
 repeat' (first | refine jX ?_ | refine ac F F ?_ | refine ad F F ?_)
 refine tB F (kh (nj F F F hx) F F ?_)
 repeat' (refine jR ?_)
 refine jY (vs:=[_]) ?_
 rfl
theorem tV {s : abL} {c : UInt8} (hs : s.length ≤ 100000000) : bA abK 134 [S s,S [c],I 0,I (-1)] G (fun v G'=>bh G' v 1 (a7 c.toNat s).length (aA dv (a7 c.toNat s))):=by
 have hlen:=jk (k:=c.toNat) (s:=s)
 have hpos:=dH (k:=c.toNat) (s:=s)
 have emin : min (((a7 c.toNat s).length : Int) - 1 + 1) ((s.length : Int) + 1) = ((a7 c.toNat s).length : Nat):=oM
 refine jB [(0,_),(1,_),(2,_),(3,_)] Tryz.func134 Tryz.ntmps134 fun B hok hB hW=>?_
 repeat' (first | refine jM ?_ | (refine jo ?_;first | refine jV (tF F F) ?_ | refine ab F F F ye F ?_) | refine ac F F ?_ | refine ad F F ?_)
 rw [emin]
 repeat' (first | refine jM ?_ | (refine jo ?_;refine zC F F F F oM (fun _=>?_)))
 rename_i x
 refine aR (ι:=List abL × abL) (fun i=>i.1.length + i.2.length ≤ s.length ∧ i.1.length < (a7 c.toNat s).length ∧ i.1 ++ a7 c.toNat i.2 = a7 c.toNat s) (fun i=>[(0,S i.2),(1,S [c]),(2,I 0),(3,I (((a7 c.toNat s).length : Int) - 1)),(9,.slice (some ⟨x,0,none⟩) (a7 c.toNat s).length (a7 c.toNat s).length),(10,I (i.1.length : Nat))]) (fun _=>G) (fun i=>[.blk x (.cells (aA dv i.1 ++ bw [S []] ((a7 c.toNat s).length - i.1.length)).toArray jv (0,0))]) (fun i=>(a7 c.toNat s).length - i.1.length) ([],s) ?_ tU F aX (fun i Hi=>?_)
 ·exact ⟨by simp,hpos,F⟩
 obtain ⟨xs,t⟩:=i
 dsimp only at Hi ⊢
 obtain ⟨hl,hlt,he⟩:=Hi
 have hel:=congrArg List.length he
 rw [List.length_append] at hel
 rcases oi c.toNat t with ⟨h1,h2⟩ | ⟨m,h1,h3,h2⟩
 ·have hc1 : a7 c.toNat t = [t]:=by rw [kU,h2];rfl
  rw [hc1] at he hel
  simp only [List.length_cons,List.length_nil] at hel
  have hm : (a7 c.toNat s).length - xs.length = 1:=oM
  rw [hm]
  repeat' (first | refine jM ?_ | (refine jo ?_;first | refine jV (ax F F oM) ?_ | (refine u7 F F F oM ?_ ?_;focus omega) | refine jV (uH F F oM) ?_) | refine ad F (aC oM) ?_)
  refine Nx.sealC (b:=x) fun G' hle hseg=>?_
  refine jZ (vs:=[_]) F ⟨F,trivial⟩ F ⟨hle,F,?_⟩
  have e1 : (((xs.length : Nat) : Int) + 1).toNat = (a7 c.toNat s).length:=oM
  have e2 : aA dv (xs ++ [t]) ++ bw [S []] (1 - 1) = aA dv (a7 c.toNat s):=by rw [he];simp [bw]
  rw [ar,e1]
  rw [e2] at hseg
  exact ⟨by rw [iE],.inr ⟨_,_,_,F,Nat.le_refl _,hseg⟩⟩
 ·have hc1 : a7 c.toNat t = t.take m :: a7 c.toNat (t.drop (m + 1)):=by rw [kU,h2];rfl
  rw [hc1] at he hel
  have hp2:=dH (k:=c.toNat) (s:=t.drop (m + 1))
  simp only [List.length_cons] at hel
  have cx_ix : am abK 170 [S t,S [c]] G (· = I (m : Int)):=by have:=s5 (G:=G) (s:=t) (c:=c);rwa [h1] at this
  obtain ⟨k,hk⟩ : ∃ k,(a7 c.toNat s).length - xs.length = k + 1:=⟨(a7 c.toNat s).length - xs.length - 1,oM⟩
  have hk2 : (a7 c.toNat s).length = xs.length + k + 1:=oM
  rw [hk]
  generalize (a7 c.toNat s).length = N at *
  repeat' (first | refine jX ?_ | (refine jo ?_;first | refine jV (ax F F oM) ?_ | (refine u7 F F F oM ?_ ?_;focus omega) | refine ab F F F cx_ix F ?_) | refine ac F (ay oM) ?_ | refine ad F F ?_)
  have e1 : aA dv (xs ++ [t.take ((m : Int) + 0).toNat]) ++ bw [S []] (k + 1 - 1) = aA dv (xs ++ [t.take m]) ++ bw [S []] (N - (xs ++ [t.take m]).length):=by
   have e2 : N - (xs ++ [t.take m]).length = k + 1 - 1:=by simp;omega
   rw [e2]
   have e3 : ((m : Int) + 0).toNat = m:=oM
   rw [e3]
  have e4 : ((m : Int) + (([c] : abL).length : Nat)).toNat = m + 1:=by simp only [List.length_cons,List.length_nil];omega
  have e5 : ((xs.length : Nat) : Int) + 1 = ((xs ++ [t.take m]).length : Nat):=by simp
  rw [e1,e4,e5]
  refine aW (xs ++ [t.take m],t.drop (m + 1)) ⟨by simp;omega,by simp;omega,by simpa using he⟩ (by simp;omega) tU rfl aX
theorem yb {s : abL} {c : UInt8} (hs : s.length ≤ 100000000) : bA abK 98 [S s,S [c]] G (fun v G'=>bh G' v 1 (a7 c.toNat s).length (aA dv (a7 c.toNat s))):=by
 have cx_gs:=tV (G:=G) (c:=c) hs
 refine jB [(0,_),(1,_)] Tryz.func98 Tryz.ntmps98 fun B hok hB hW=>?_
 repeat' (first | refine jR ?_ | (refine jo ?_;(refine aJ F F F cx_gs F ?_;rintro _ G hle hspl;skip)))
 all_goals refine jZ (vs:=[_]) F ⟨F,trivial⟩ F ⟨hle,F,?_⟩
 all_goals exact hspl
def iM (f : Fld) : List Value:=[I f.tag,S f.name,S (sg f.kind),S (bs f.kind),S (nm f.kind),S f.stand]
instance : RowF iM 6:=⟨fun _=>rfl⟩
theorem w3 (s : abL) : db (eB qk) (eG (eB qk) s) = [] ↔ ∀ c ∈ s,hO c.toNat:=by
 rw [ql]
 exact forall_congr' fun c=>forall_congr' fun _=>by rw [z9];simp
def lN (s : abL) : Bool:=decide (s.length ≤ 12) && s.all fun c=>decide (hO c.toNat)
theorem iW {s : abL} (h : s.length ≤ 2000000) : am abK 125 [S s] G (· = Bo (lN s)):=by
 have cx_trim:=vw (G:=G) (s:=s) (cs:=qk) rfl kR rfl h
 have key:=w3 s
 have e : lN s = (decide (s.length ≤ 12) && decide (db (eB qk) (eG (eB qk) s) = [])):=by
  unfold lN
  congr 1
  rw [Bool.eq_iff_iff,List.all_eq_true,decide_eq_true_eq,key]
  simp
 rw [e]
 by_cases hl : s.length ≤ 12
 ·rw [decide_eq_true hl,Bool.true_and]
  refine jE [(0,_)] Tryz.func125 Tryz.ntmps125 fun B hB=>?_
  repeat' (first | refine jR ?_ | (refine jo ?_;first | refine aL F ?_ | refine ab F F F cx_trim F ?_) | refine aD F F (ay oM) ?_)
  all_goals refine jY (vs:=[_]) ?_
  all_goals rfl
 ·rw [decide_eq_false hl,Bool.false_and]
  refine jE [(0,_)] Tryz.func125 Tryz.ntmps125 fun B hB=>?_
  repeat' (first | refine jR ?_ | (refine jo ?_;refine av F ?_) | refine al F F (aC oM) ?_)
  all_goals refine jY (vs:=[_]) ?_
  all_goals rfl
theorem sx {s : abL} : (cW s && decide (s ≠ [39,39])) = (decide (2 < s.length) && (decide (bt s 0 = 39) && (decide (bt s (s.length - 1) = 39) && lN ((s.take (s.length - 1)).drop 1)))):=by
 rw [Bool.eq_iff_iff]
 simp only [Bool.and_eq_true,decide_eq_true_eq,cW,lN,List.all_eq_true]
 constructor
 ·rintro ⟨⟨h1,h2,h3,h4⟩,h5⟩
  have hl : 2 < s.length:=by
   rcases Nat.lt_or_ge 2 s.length with h6 | h6
   ·exact h6
   ·exfalso
    match s,h1,h6,h2,h3 with
    | [a,b],_,_,h2,h3 =>
     rw [be] at h2
     simp only [List.length_cons,List.length_nil] at h3
     rw [show (0 + 1 + 1 - 1) = 0 + 1 from rfl,dJ,be] at h3
     have e1 : a = 39:=UInt8.toNat_inj.1 h2
     have e2 : b = 39:=UInt8.toNat_inj.1 h3
     subst e1;subst e2;exact h5 F
  refine ⟨hl,h2,h3,by simp;omega,fun c hc=>?_⟩
  obtain ⟨i,hi,rfl⟩:=List.mem_iff_getElem.1 hc
  simp only [List.length_drop,List.length_take] at hi
  have e : bt s (i + 1) = (((s.take (s.length - 1)).drop 1)[i]'(by simp;omega)).toNat:=by
   simp [bt,List.getD,List.getElem?_eq_getElem (show i + 1 < s.length by omega)]
  rw [← e]
  rcases h4 (i + 1) oM with h6 | h6
  ·omega
  ·exact h6
 ·rintro ⟨hl,h2,h3,h4,h5⟩
  simp only [List.length_drop,List.length_take] at h4
  refine ⟨⟨oM,h2,h3,fun i hi=>?_⟩,fun e=>by subst e;simp at hl⟩
  rcases Nat.eq_zero_or_pos i with h6 | h6
  ·exact .inl h6
  ·refine .inr ?_
   have e : bt s i = (((s.take (s.length - 1)).drop 1)[i - 1]'(by simp;omega)).toNat:=by
    have e1 : i - 1 + 1 = i:=oM
    simp [bt,List.getD,List.getElem?_eq_getElem (show i < s.length by omega),e1]
   rw [e]
   exact h5 _ (List.getElem_mem _)
theorem oF {b v : abL} (h : v.length ≤ 2000000) : am abK 180 [S b,S v] G (· = Bo (bG b v)):=by
 by_cases h1 : b = [110]
 ·have e : bG b v = ((aM v 999999).isSome && decide (v ≠ [48])):=by rw [bG,if_pos h1]
  rw [e]
  rcases hn : aM v 999999 with _ | m
  ·refine jE [(0,_),(1,_)] Tryz.func180 Tryz.ntmps180 fun B hB=>?_
   repeat' (first | refine jR ?_ | (refine jo ?_;first | refine av F ?_ | (refine cn F F F (eN oM) F ?_;rintro _ ⟨n,rfl,hnum⟩)) | (refine al F F ?_ ?_;(focus ((simp [*];done);done))) | refine ac F (ay ‹_›) ?_)
   all_goals refine jY (vs:=[_]) ?_
   all_goals (simp [*])
  ·have hm:=dW hn
   have h0 : 0 ≤ m:=by
    unfold aM at hn
    split at hn
    ·split at hn
     ·rename_i hd
      split at hn
      ·simp only [Option.some.injEq] at hn;subst hn;exact pg (Int.le_refl 0) hd
      ·cases hn
     ·cases hn
    ·cases hn
   have ev : decide (v ≠ [48]) = decide (0 < m):=by
    refine decide_eq_decide.2 ?_
    rw [hm.2.1]
    constructor
    ·intro h2
     rcases Int.lt_or_le 0 m with h3 | h3
     ·exact h3
     ·have : m = 0:=oM
      subst this
      exact absurd (by rw [dw oM oM];rfl) h2
    ·intro h2 h3
     obtain ⟨c,r,e2,hc⟩:=lV m.toNat (Nat.le_refl _) oM
     rw [e2] at h3
     simp only [List.cons.injEq] at h3
     exact hc (by rw [h3.1];rfl)
   have cx_pnum : am abK 99 [S v,I 999999] G (· = Tu [I m,Bo true]):=by
    refine (eN (G:=G) (top:=999999) (s:=v) oM).mono ?_
    rintro w G' L' ⟨h2,h3,n,rfl,h4⟩
    exact ⟨h2,h3,by rw [hn,h4 m hn];rfl⟩
   rw [ev]
   refine jE [(0,_),(1,_)] Tryz.func180 Tryz.ntmps180 fun B hB=>?_
   repeat' (first | refine jR ?_ | (refine jo ?_;first | refine aL F ?_ | refine ab F F F cx_pnum F ?_) | refine aD F F F ?_ | refine ac F (ay ‹_›) ?_)
   all_goals refine jY (vs:=[_]) ?_
   all_goals (simp [*])
 by_cases h2 : b = [116]
 ·have e : bG b v = (cW v && decide (v ≠ [39,39])):=by rw [bG,if_neg h1,if_pos h2]
  rw [e,sx]
  have e4 : (((v.length : Nat) : Int) - 1).toNat = v.length - 1:=oM
  by_cases hl : 2 < v.length
  case neg =>
   rw [decide_eq_false hl,Bool.false_and]
   refine jE [(0,_),(1,_)] Tryz.func180 Tryz.ntmps180 fun B hB=>?_
   repeat' (first | refine jR ?_ | (refine jo ?_;refine av F ?_) | (refine al F F (by first | rfl | (refine decide_eq_false ?_;(omega))) ?_) | refine ac F (ay ‹_›) ?_ | refine ad F (aC ‹_›) ?_)
   all_goals refine jY (vs:=[_]) ?_
   all_goals rfl
  rw [decide_eq_true hl,Bool.true_and]
  by_cases hq : bt v 0 = 39
  case neg =>
   have hq2 : ¬ bt v (Int.toNat 0) = 39:=hq
   rw [decide_eq_false hq,Bool.false_and]
   refine jE [(0,_),(1,_)] Tryz.func180 Tryz.ntmps180 fun B hB=>?_
   repeat' (first | refine jM ?_ | (refine jo ?_;first | refine aL F ?_ | refine av F ?_) | refine aD F F (ay oM) ?_ | (refine al F F (by first | rfl | (refine decide_eq_false ?_;(omega))) ?_) | refine ac F (ay ‹_›) ?_ | refine ad F (aC ‹_›) ?_)
   all_goals refine jY (vs:=[_]) ?_
   all_goals rfl
  have hq2 : bt v (Int.toNat 0) = 39:=hq
  rw [decide_eq_true hq,Bool.true_and]
  by_cases hr : bt v (v.length - 1) = 39
  case neg =>
   have hr2 : ¬ bt v (((v.length : Nat) : Int) - 1).toNat = 39:=by rw [e4];exact hr
   rw [decide_eq_false hr,Bool.false_and]
   refine jE [(0,_),(1,_)] Tryz.func180 Tryz.ntmps180 fun B hB=>?_
   repeat' (first | refine jM ?_ | (refine jo ?_;first | refine aL F ?_ | refine av F ?_) | refine aD F F (ay oM) ?_ | refine al F F (aC oM) ?_ | refine ac F (ay ‹_›) ?_ | refine ad F (aC ‹_›) ?_)
   all_goals refine jY (vs:=[_]) ?_
   all_goals rfl
  have hr2 : bt v (((v.length : Nat) : Int) - 1).toNat = 39:=by rw [e4];exact hr
  rw [decide_eq_true hr,Bool.true_and]
  refine jE [(0,_),(1,_)] Tryz.func180 Tryz.ntmps180 fun B hB=>?_
  repeat' (first | refine jM ?_ | (refine jo ?_;first | refine aL F ?_ | (refine ab F F F (iW ?_) F ?_;(focus ((simp;omega);done)))) | refine aD F F (ay oM) ?_ | refine ac F (ay ‹_›) ?_ | refine ad F (aC ‹_›) ?_)
  all_goals refine jY (vs:=[_]) ?_
  all_goals rw [e4];rfl
 ·have e : bG b v = (decide (b = [102]) && decide (v = [121,101,115])):=by
   rw [bG,if_neg h1,if_neg h2]
   by_cases h3 : b = [102]
   ·rw [if_pos h3,decide_eq_true h3,Bool.true_and]
   ·rw [if_neg h3,decide_eq_false h3,Bool.false_and]
  rw [e]
  refine jE [(0,_),(1,_)] Tryz.func180 Tryz.ntmps180 fun B hB=>?_
  repeat' (first | refine jR ?_ | (refine jo ?_;first | refine aL F ?_ | refine av F ?_) | refine d5 F F (fun _=>?_) (fun _=>?_) | refine ad F (aC ‹_›) ?_)
  all_goals refine jY (vs:=[_]) ?_
  all_goals (simp [*])
theorem vI {c v : abL} (h : bz c = true) : (decide (sg c = []) && bG (bs c) v) = bG c v:=by
 match c,h with
 | x :: r,h =>
  by_cases h1 : x.toNat = 91 ∨ x.toNat = 63
  ·have hs : sg (x :: r) ≠ []:=by
    unfold sg
    rw [bm,if_pos h1]
    have:=kW r
    intro e
    have e2:=congrArg List.length e
    simp only [List.length_take,List.length_cons,List.length_nil] at e2
    omega
   rw [decide_eq_false hs,Bool.false_and]
   unfold bG
   rw [if_neg,if_neg,if_neg]
   all_goals (intro e;simp only [List.cons.injEq] at e;have:=congrArg UInt8.toNat e.1;revert this;rcases h1 with h1 | h1 <;> rw [h1] <;> decide)
  ·have hc : bm (x :: r) = x :: r:=by rw [bm,if_neg h1]
   have hs : sg (x :: r) = []:=by unfold sg;rw [hc];simp
   rw [decide_eq_true hs,Bool.true_and]
   by_cases h2 : x.toNat = 64
   ·have hb : bs (x :: r) = [64]:=by unfold bs;rw [hc];simp [oP,h2]
    rw [hb]
    have e1 : bG [64] v = false:=by unfold bG;simp
    rw [e1]
    unfold bG
    rw [if_neg,if_neg,if_neg]
    all_goals (intro e;simp only [List.cons.injEq] at e;have:=congrArg UInt8.toNat e.1;revert this;rw [h2];decide)
   ·have hb : bs (x :: r) = x :: r:=by unfold bs;rw [hc];simp [oP,h2]
    rw [hb]
def oR (s : abL) (k : Nat) (v : Value) (_ : Gh) : Prop:=∃ f ok,v = Tu [Ag (iM f),Bo ok] ∧ bK s k = if ok = true then some f else none
theorem k3 {s : abL} {xs : List abL} {k : Nat} {c : UInt8} (n : Nat) (h : s.length ≤ 100000000) (hc : c.toNat = k) (e : a7 k s = xs) (hn : xs.length = n) (h0 : 0 < n) :
  bA abK 98 [S s,S [c]] G (fun v G'=>∃ b o cap,v = .slice (some ⟨b,o,none⟩) n cap ∧ bW G' b o (aA dv xs)):=by
 subst hn;subst e;subst hc
 refine (yb (G:=G) (s:=s) (c:=c) h).mono ?_
 rintro v G' L' ⟨h1,h2,h3⟩
 obtain ⟨b,o,cap,rfl,hs⟩:=h3.expl h0
 exact ⟨h1,h2,b,o,cap,F,hs⟩
theorem sY {s : abL} (h : s.length ≤ 2000000) (e : bz s = true) : am abK 91 [S s] G (· = Tu [Ag (d4 s),Bo true]):=by
 refine (k5 (G:=G) h).mono ?_
 rintro v G' L' ⟨h1,h2,a,b,c,rfl,h3⟩
 obtain ⟨rfl,rfl,rfl⟩:=h3 e
 exact ⟨h1,h2,by rw [e];rfl⟩
theorem sQ {s : abL} {top m : Int} (h : s.length ≤ 100000000) (e : aM s top = some m) : am abK 99 [S s,I top] G (· = Tu [I m,Bo true]):=by
 refine (eN (G:=G) (top:=top) h).mono ?_
 rintro v G' L' ⟨h1,h2,n,rfl,h3⟩
 exact ⟨h1,h2,by rw [e,h3 m e];rfl⟩
theorem sR {s : abL} {top : Int} (h : s.length ≤ 100000000) (e : aM s top = none) : am abK 99 [S s,I top] G (fun v=>∃ n,v = Tu [I n,Bo false]):=by
 refine (eN (G:=G) (top:=top) h).mono ?_
 rintro v G' L' ⟨h1,h2,n,rfl,h3⟩
 exact ⟨h1,h2,n,by rw [e];rfl⟩
theorem lX {s : abL} {k : Nat} (h : s.length ≤ 1000) (e : (a7 58 (aF 61 s).1).length ≠ if k = 69 then 2 else 3) : bA abK 156 [S s,U8 k] G (oR s k):=by
 have hcl:=iP (k:=61) (s:=s)
 have cx_cut : am abK 116 [S s,S [61]] G (· = Tu [S (aF 61 s).1,S (aF 61 s).2.1,Bo (aF 61 s).2.2]):=oO (c:=61) oM
 have cx_split:=k3 (G:=G) (c:=58) (k:=58) _ (s:=(aF 61 s).1) oM rfl rfl rfl dH
 have hno : bK s k = none:=by
  rw [← pc]
  unfold lQ
  split
  ·rename_i e2
   rw [e2] at e
   split
   ·rename_i hk;simp [hk.1] at e
   ·rfl
  ·rename_i e2
   rw [e2] at e
   split
   ·rfl
   ·rename_i hk;simp [hk] at e
  ·rfl
 have hpos:=dH (k:=58) (s:=(aF 61 s).1)
 generalize hn : (a7 58 (aF 61 s).1).length = n at *
 by_cases hk : k = 69
 ·rw [if_pos hk] at e
  refine jB [(0,_),(1,_)] Tryz.func156 Tryz.ntmps156 fun B hok hB hW=>?_
  repeat' (first | refine jR ?_ | (refine jo ?_;first | refine jL fun _=>?_ | refine jV (aw F) ?_ | refine jV (ao F F) ?_ | refine jC F F F ?_ | refine ab F F F cx_cut F ?_ | (refine aJ F F F cx_split F ?_;rintro _ G hle ⟨b1,o1,cap1,rfl,hseg⟩;skip)) | refine ac F (ay oM) ?_)
  all_goals refine jZ (vs:=[_,_]) F ⟨aE F F F F,F,trivial⟩ F ⟨hle,F,?_⟩
  all_goals exact ⟨default,false,F,by rw [hno];rfl⟩
 ·rw [if_neg hk] at e
  refine jB [(0,_),(1,_)] Tryz.func156 Tryz.ntmps156 fun B hok hB hW=>?_
  repeat' (first | refine jR ?_ | (refine jo ?_;first | refine jL fun _=>?_ | refine jV (aw F) ?_ | refine jV (ao F F) ?_ | refine jC F F F ?_ | refine ab F F F cx_cut F ?_ | (refine aJ F F F cx_split F ?_;rintro _ G hle ⟨b1,o1,cap1,rfl,hseg⟩;skip)) | refine ac F (ay oM) ?_ | refine ad F (aC oM) ?_)
  all_goals refine jZ (vs:=[_,_]) F ⟨aE F F F F,F,trivial⟩ F ⟨hle,F,?_⟩
  all_goals exact ⟨default,false,F,by rw [hno];rfl⟩
theorem ri {s a b : abL} (h : s.length ≤ 1000) (e : a7 58 (aF 61 s).1 = [a,b]) : bA abK 156 [S s,U8 (69 : Nat)] G (oR s 69):=by
  have hcl:=iP (k:=61) (s:=s)
  have cx_cut : am abK 116 [S s,S [61]] G (· = Tu [S (aF 61 s).1,S (aF 61 s).2.1,Bo (aF 61 s).2.2]):=oO (c:=61) oM
  have cx_split:=k3 (G:=G) (c:=58) (k:=58) 2 (s:=(aF 61 s).1) oM rfl e rfl oM
  have ha : a.length ≤ 1000:=by have:=c8 (k:=58) (s:=(aF 61 s).1) (x:=a) (by rw [e];simp);omega
  have hb : b.length ≤ 1000:=by have:=c8 (k:=58) (s:=(aF 61 s).1) (x:=b) (by rw [e];simp);omega
  have hall : bK s 69 = if (aF 61 s).2.2 = false then match aM a 200 with
      | some n=>if 1 ≤ n ∧ b5 b = true then some ⟨n,b,[],[]⟩ else none
      | none=>none else none:=by
    rw [← pc];unfold lQ;rw [e];simp <;> rfl
  generalize hto : (aF 61 s).2.2 = told at *
  generalize hva : (aF 61 s).2.1 = val at *
  rcases hm : aM a 200 with _ | m
  · have hno : bK s 69 = none:=by rw [hall,hm];simp
    have cx_pn : ∀ G,am abK 99 [S a,I 200] G (fun v=>∃ n,v = Tu [I n,Bo false]):=fun G=>sR oM hm
    refine jB [(0,_),(1,_)] Tryz.func156 Tryz.ntmps156 fun B hok hB hW=>?_
    repeat' (first | refine jR ?_ | (refine jo ?_;first | refine jL fun _=>?_ | refine jV (aw F) ?_ | refine jV (ao F F) ?_ | refine jC F F F ?_ | refine jV (a9 F F oM) ?_ | refine jV (aI F F aS F F) ?_ | refine aL F ?_ | refine ab F F F cx_cut F ?_ | (refine aJ F F F cx_split F ?_;rintro _ G hle ⟨b1,o1,cap1,rfl,hseg⟩;skip) | (refine cn F F F (cx_pn _) F ?_;rintro _ ⟨n,rfl⟩)) | refine aD F F F ?_ | refine ac F F ?_ | refine ad F F ?_)
    all_goals refine jZ (vs:=[_,_]) F ⟨aE F F F F,F,trivial⟩ F ⟨hle,F,?_⟩
    all_goals exact ⟨default,false,F,by rw [hno];rfl⟩
  have cx_pq : ∀ G,am abK 99 [S a,I 200] G (· = Tu [I m,Bo true]):=fun G=>sQ oM hm
  rw [hm] at hall
  dsimp only at hall
  by_cases hg : 1 ≤ m ∧ b5 b = true
  · rw [if_pos hg] at hall
    have hg1:=hg.1
    have hg2 : (!b5 b) = false:=by rw [hg.2];rfl
    cases told with
    | true =>
      refine jB [(0,_),(1,_)] Tryz.func156 Tryz.ntmps156 fun B hok hB hW=>?_
      repeat' (first | refine jR ?_ | (refine jo ?_;first | refine jL fun _=>?_ | refine jV (aw F) ?_ | refine jV (ao F F) ?_ | refine jC F F F ?_ | refine jV (a9 F F oM) ?_ | refine aj F ?_ | refine jV (aI F F aS F F) ?_ | refine aL F ?_ | refine av F ?_ | refine ab F F F cx_cut F ?_ | (refine aJ F F F cx_split F ?_;rintro _ G hle ⟨b1,o1,cap1,rfl,hseg⟩;skip) | refine ab F F F (cx_pq _) F ?_ | refine ab F F F (cZ oM) F ?_) | refine aD F F F ?_ | (refine al F F (by first | rfl | (refine decide_eq_false ?_;(omega))) ?_) | refine ac F F ?_ | (refine ad F (by first | rfl | assumption) ?_))
      all_goals refine jZ (vs:=[_,_]) F ⟨aE F F F F,F,trivial⟩ F ⟨hle,F,?_⟩
      all_goals exact ⟨default,false,F,by rw [hall];rfl⟩
    | false =>
      have hv : val = []:=by have:=eC hto;rw [this] at hva;exact hva.symm
      refine jB [(0,_),(1,_)] Tryz.func156 Tryz.ntmps156 fun B hok hB hW=>?_
      repeat' (first | refine jR ?_ | (refine jo ?_;first | refine jL fun _=>?_ | refine jV (aw F) ?_ | refine jV (ao F F) ?_ | refine jC F F F ?_ | refine jV (a9 F F oM) ?_ | refine aj F ?_ | refine aG F ?_ | refine jV (aI F F aS F F) ?_ | refine av F ?_ | refine ab F F F cx_cut F ?_ | (refine aJ F F F cx_split F ?_;rintro _ G hle ⟨b1,o1,cap1,rfl,hseg⟩;skip) | refine ab F F F (cx_pq _) F ?_ | refine ab F F F (cZ oM) F ?_) | (refine al F F (by first | rfl | (refine decide_eq_false ?_;(omega))) ?_) | refine ac F F ?_ | (refine ad F (by first | rfl | assumption) ?_))
      all_goals refine jZ (vs:=[_,_]) F ⟨aE F F F F,F,trivial⟩ F ⟨hle,F,?_⟩
      all_goals exact ⟨⟨m,b,[],[]⟩,true,by rw [hv];rfl,by rw [hall];rfl⟩
  · rw [if_neg hg] at hall
    have hno : bK s 69 = none:=by rw [hall];simp
    by_cases h1 : m < 1
    case' neg => have hg2 : (!b5 b) = true := by
                  cases hb2 : b5 b with
                  | false=>rfl
                  | true=>exact absurd ⟨oM,hb2⟩ hg
    all_goals refine jB [(0,_),(1,_)] Tryz.func156 Tryz.ntmps156 fun B hok hB hW=>?_
    all_goals repeat' (first | refine jR ?_ | (refine jo ?_;first | refine jL fun _=>?_ | refine jV (aw F) ?_ | refine jV (ao F F) ?_ | refine jC F F F ?_ | refine jV (a9 F F oM) ?_ | refine aj F ?_ | refine jV (aI F F aS F F) ?_ | refine aL F ?_ | refine av F ?_ | refine ab F F F cx_cut F ?_ | (refine aJ F F F cx_split F ?_;rintro _ G hle ⟨b1,o1,cap1,rfl,hseg⟩;skip) | refine ab F F F (cx_pq _) F ?_ | refine ab F F F (cZ oM) F ?_) | refine aD F F (ay ‹_›) ?_ | (refine al F F (by first | rfl | (refine decide_eq_false ?_;(assumption))) ?_) | (refine ac F (by first | rfl | assumption) ?_) | refine ad F F ?_)
    all_goals refine jZ (vs:=[_,_]) F ⟨aE F F F F,F,trivial⟩ F ⟨hle,F,?_⟩
    all_goals exact ⟨default,false,F,by rw [hno];rfl⟩
theorem rh {s a b c : abL} {k : Nat} (h : s.length ≤ 1000) (hk : ¬ k = 69) (e : a7 58 (aF 61 s).1 = [a,b,c]) : bA abK 156 [S s,U8 k] G (oR s k):=by
  have hcl:=iP (k:=61) (s:=s)
  have cx_cut : am abK 116 [S s,S [61]] G (· = Tu [S (aF 61 s).1,S (aF 61 s).2.1,Bo (aF 61 s).2.2]):=oO (c:=61) oM
  have cx_split:=k3 (G:=G) (c:=58) (k:=58) 3 (s:=(aF 61 s).1) oM rfl e rfl oM
  have ha : a.length ≤ 1000:=by have:=c8 (k:=58) (s:=(aF 61 s).1) (x:=a) (by rw [e];simp);omega
  have hb : b.length ≤ 1000:=by have:=c8 (k:=58) (s:=(aF 61 s).1) (x:=b) (by rw [e];simp);omega
  have hc : c.length ≤ 1000:=by have:=c8 (k:=58) (s:=(aF 61 s).1) (x:=c) (by rw [e];simp);omega
  have hall : bK s k = match aM a 200 with
      | some n=>if (1 ≤ n ∧ b5 b = true) ∧ bz c = true ∧ ((aF 61 s).2.2 = true → k = 82 ∧ bG c (aF 61 s).2.1 = true) then some ⟨n,b,c,(aF 61 s).2.1⟩ else none
      | none=>none:=by
    rw [← pc];unfold lQ;rw [e];simp [hk] <;> rfl
  generalize hto : (aF 61 s).2.2 = told at *
  generalize hva : (aF 61 s).2.1 = val at *
  rcases hm : aM a 200 with _ | m
  · have hno : bK s k = none:=by rw [hall,hm]
    have cx_pn : ∀ G,am abK 99 [S a,I 200] G (fun v=>∃ n,v = Tu [I n,Bo false]):=fun G=>sR oM hm
    refine jB [(0,_),(1,_)] Tryz.func156 Tryz.ntmps156 fun B hok hB hW=>?_
    repeat' (first | refine jR ?_ | (refine jo ?_;first | refine jL fun _=>?_ | refine jV (aw F) ?_ | refine jV (ao F F) ?_ | refine jC F F F ?_ | refine jV (a9 F F oM) ?_ | refine jV (aI F F aS F F) ?_ | refine aL F ?_ | refine ab F F F cx_cut F ?_ | (refine aJ F F F cx_split F ?_;rintro _ G hle ⟨b1,o1,cap1,rfl,hseg⟩;skip) | (refine cn F F F (cx_pn _) F ?_;rintro _ ⟨n,rfl⟩)) | refine aD F F F ?_ | refine ac F F ?_ | (refine ad F (by first | rfl | (refine decide_eq_false ?_;(omega))) ?_))
    all_goals refine jZ (vs:=[_,_]) F ⟨aE F F F F,F,trivial⟩ F ⟨hle,F,?_⟩
    all_goals exact ⟨default,false,F,by rw [hno];rfl⟩
  have cx_pq : ∀ G,am abK 99 [S a,I 200] G (· = Tu [I m,Bo true]):=fun G=>sQ oM hm
  rw [hm] at hall
  dsimp only at hall
  by_cases hg : 1 ≤ m ∧ b5 b = true
  case neg =>
    have hno : bK s k = none:=by rw [hall,if_neg fun h=>hg h.1]
    by_cases h1 : m < 1
    case' neg => have hg2 : (!b5 b) = true := by
                  cases hb2 : b5 b with
                  | false=>rfl
                  | true=>exact absurd ⟨oM,hb2⟩ hg
    all_goals refine jB [(0,_),(1,_)] Tryz.func156 Tryz.ntmps156 fun B hok hB hW=>?_
    all_goals repeat' (first | refine jR ?_ | (refine jo ?_;first | refine jL fun _=>?_ | refine jV (aw F) ?_ | refine jV (ao F F) ?_ | refine jC F F F ?_ | refine jV (a9 F F oM) ?_ | refine aj F ?_ | refine jV (aI F F aS F F) ?_ | refine aL F ?_ | refine av F ?_ | refine ab F F F cx_cut F ?_ | (refine aJ F F F cx_split F ?_;rintro _ G hle ⟨b1,o1,cap1,rfl,hseg⟩;skip) | refine ab F F F (cx_pq _) F ?_ | refine ab F F F (cZ oM) F ?_) | refine aD F F (ay ‹_›) ?_ | (refine al F F (by first | rfl | (refine decide_eq_false ?_;(assumption))) ?_) | (refine ac F (by first | rfl | assumption) ?_) | (refine ad F (by first | rfl | (refine decide_eq_false ?_;(omega))) ?_))
    all_goals refine jZ (vs:=[_,_]) F ⟨aE F F F F,F,trivial⟩ F ⟨hle,F,?_⟩
    all_goals exact ⟨default,false,F,by rw [hno];rfl⟩
  have hg1:=hg.1
  have hg2 : (!b5 b) = false:=by rw [hg.2];rfl
  by_cases hkc : bz c = true
  case neg =>
    have hkc2 : bz c = false:=by simpa using hkc
    have hno : bK s k = none:=by rw [hall,if_neg fun h=>hkc h.2.1]
    have cx_kn : ∀ G,am abK 91 [S c] G (fun v=>∃ x y z,v = Tu [Ag [S x,S y,S z],Bo false]):=fun G=>by
      refine (k5 (G:=G) (s:=c) oM).mono ?_
      rintro v G' L' ⟨h1,h2,x,y,z,rfl,_⟩
      exact ⟨h1,h2,x,y,z,by rw [hkc2]⟩
    refine jB [(0,_),(1,_)] Tryz.func156 Tryz.ntmps156 fun B hok hB hW=>?_
    repeat' (first | refine jR ?_ | (refine jo ?_;first | refine jL fun _=>?_ | refine jV (aw F) ?_ | refine jV (ao F F) ?_ | refine jC F F F ?_ | refine jV (a9 F F oM) ?_ | refine aj F ?_ | refine jV (aI F F aS F F) ?_ | refine av F ?_ | refine ab F F F cx_cut F ?_ | (refine aJ F F F cx_split F ?_;rintro _ G hle ⟨b1,o1,cap1,rfl,hseg⟩;skip) | refine ab F F F (cx_pq _) F ?_ | refine ab F F F (cZ oM) F ?_ | (refine cn F F F (cx_kn _) F ?_;rintro _ ⟨x,y,z,rfl⟩)) | (refine al F F (by first | rfl | (refine decide_eq_false ?_;(omega))) ?_) | (refine ac F (by first | rfl | (refine decide_eq_true ?_;(omega))) ?_) | (refine ad F (by first | rfl | assumption | (refine decide_eq_false ?_;(omega))) ?_))
    all_goals refine jZ (vs:=[_,_]) F ⟨aE F F F F,F,trivial⟩ F ⟨hle,F,?_⟩
    all_goals exact ⟨default,false,F,by rw [hno];rfl⟩
  have cx_kq : ∀ G,am abK 91 [S c] G (· = Tu [Ag [S (sg c),S (bs c),S (nm c)],Bo true]):=fun G=>sY oM hkc
  cases told with
  | false =>
    have hv : val = []:=by have:=eC hto;rw [this] at hva;exact hva.symm
    have hyes : bK s k = some ⟨m,b,c,val⟩:=by rw [hall,if_pos ⟨hg,hkc,fun h=>by cases h⟩]
    refine jB [(0,_),(1,_)] Tryz.func156 Tryz.ntmps156 fun B hok hB hW=>?_
    repeat' (first | refine jR ?_ | (refine jo ?_;first | refine jL fun _=>?_ | refine jV (aw F) ?_ | refine jV (ao F F) ?_ | refine jC F F F ?_ | refine jV (a9 F F oM) ?_ | refine aj F ?_ | refine aG F ?_ | refine jV (aI F F aS F F) ?_ | refine av F ?_ | refine ab F F F cx_cut F ?_ | (refine aJ F F F cx_split F ?_;rintro _ G hle ⟨b1,o1,cap1,rfl,hseg⟩;skip) | refine ab F F F (cx_pq _) F ?_ | refine ab F F F (cZ oM) F ?_ | refine ab F F F (cx_kq _) F ?_) | (refine al F F (by first | rfl | (refine decide_eq_false ?_;(omega))) ?_) | refine ac F (ay oM) ?_ | (refine ad F (by first | rfl | assumption | (refine decide_eq_false ?_;(omega))) ?_))
    all_goals refine jZ (vs:=[_,_]) F ⟨aE F F F F,F,trivial⟩ F ⟨hle,F,?_⟩
    all_goals exact ⟨⟨m,b,c,val⟩,true,F,by rw [hyes];rfl⟩
  | true =>
    have hst:=vI (v:=val) hkc
    by_cases h82 : k = 82
    case neg =>
      have hno : bK s k = none:=by rw [hall,if_neg fun h=>h82 (h.2.2 rfl).1]
      have h83 : ¬ (k : Int) = 82:=oM
      refine jB [(0,_),(1,_)] Tryz.func156 Tryz.ntmps156 fun B hok hB hW=>?_
      repeat' (first | refine jR ?_ | (refine jo ?_;first | refine jL fun _=>?_ | refine jV (aw F) ?_ | refine jV (ao F F) ?_ | refine jC F F F ?_ | refine jV (a9 F F oM) ?_ | refine aj F ?_ | refine jV (aI F F aS F F) ?_ | refine aL F ?_ | refine av F ?_ | refine ab F F F cx_cut F ?_ | (refine aJ F F F cx_split F ?_;rintro _ G hle ⟨b1,o1,cap1,rfl,hseg⟩;skip) | refine ab F F F (cx_pq _) F ?_ | refine ab F F F (cZ oM) F ?_ | refine ab F F F (cx_kq _) F ?_) | (refine aD F F (by first | rfl | (refine decide_eq_true ?_;(assumption))) ?_) | (refine al F F (by first | rfl | (refine decide_eq_false ?_;(omega))) ?_) | (refine ac F (by first | rfl | (refine decide_eq_true ?_;(omega))) ?_) | (refine ad F (by first | rfl | assumption | (refine decide_eq_false ?_;(omega))) ?_))
      all_goals refine jZ (vs:=[_,_]) F ⟨aE F F F F,F,trivial⟩ F ⟨hle,F,?_⟩
      all_goals exact ⟨default,false,F,by rw [hno];rfl⟩
    subst h82
    by_cases hsg : sg c = []
    · rw [decide_eq_true hsg,Bool.true_and] at hst
      by_cases hso : bG c val = true
      · have hyes : bK s 82 = some ⟨m,b,c,val⟩:=by rw [hall,if_pos ⟨hg,hkc,fun _=>⟨rfl,hso⟩⟩]
        have hso2 : (!bG (bs c) val) = false:=by rw [hst,hso];rfl
        refine jB [(0,_),(1,_)] Tryz.func156 Tryz.ntmps156 fun B hok hB hW=>?_
        repeat' (first | refine jR ?_ | (refine jo ?_;first | refine jL fun _=>?_ | refine jV (aw F) ?_ | refine jV (ao F F) ?_ | refine jC F F F ?_ | refine jV (a9 F F oM) ?_ | refine aj F ?_ | refine aG F ?_ | refine jV (aI F F aS F F) ?_ | refine aL F ?_ | refine av F ?_ | refine ab F F F cx_cut F ?_ | (refine aJ F F F cx_split F ?_;rintro _ G hle ⟨b1,o1,cap1,rfl,hseg⟩;skip) | refine ab F F F (cx_pq _) F ?_ | refine ab F F F (cZ oM) F ?_ | refine ab F F F (cx_kq _) F ?_ | refine ab F F F (oF oM) F ?_) | refine aD F F F ?_ | (refine al F F ?_ ?_;(focus ((first | rfl | (refine decide_eq_false ?_;(omega)) | (simp [*];done));done))) | refine ac F F ?_ | (refine ad F (by first | rfl | assumption) ?_))
        all_goals refine jZ (vs:=[_,_]) F ⟨aE F F F F,F,trivial⟩ F ⟨hle,F,?_⟩
        all_goals exact ⟨⟨m,b,c,val⟩,true,F,by rw [hyes];rfl⟩
      · have hno : bK s 82 = none:=by rw [hall,if_neg fun h=>hso (h.2.2 rfl).2]
        have hso2 : (!bG (bs c) val) = true:=by rw [hst];simpa using hso
        refine jB [(0,_),(1,_)] Tryz.func156 Tryz.ntmps156 fun B hok hB hW=>?_
        repeat' (first | refine jR ?_ | (refine jo ?_;first | refine jL fun _=>?_ | refine jV (aw F) ?_ | refine jV (ao F F) ?_ | refine jC F F F ?_ | refine jV (a9 F F oM) ?_ | refine aj F ?_ | refine jV (aI F F aS F F) ?_ | refine aL F ?_ | refine av F ?_ | refine ab F F F cx_cut F ?_ | (refine aJ F F F cx_split F ?_;rintro _ G hle ⟨b1,o1,cap1,rfl,hseg⟩;skip) | refine ab F F F (cx_pq _) F ?_ | refine ab F F F (cZ oM) F ?_ | refine ab F F F (cx_kq _) F ?_ | refine ab F F F (oF oM) F ?_) | refine aD F F F ?_ | (refine al F F ?_ ?_;(focus ((first | rfl | (refine decide_eq_false ?_;(omega)) | (simp [*];done));done))) | (refine ac F (by first | rfl | assumption) ?_) | (refine ad F (by first | rfl | assumption) ?_))
        all_goals refine jZ (vs:=[_,_]) F ⟨aE F F F F,F,trivial⟩ F ⟨hle,F,?_⟩
        all_goals exact ⟨default,false,F,by rw [hno];rfl⟩
    · rw [decide_eq_false hsg,Bool.false_and] at hst
      have hno : bK s 82 = none:=by rw [hall,if_neg fun h=>by rw [(h.2.2 rfl).2] at hst;cases hst]
      refine jB [(0,_),(1,_)] Tryz.func156 Tryz.ntmps156 fun B hok hB hW=>?_
      repeat' (first | refine jR ?_ | (refine jo ?_;first | refine jL fun _=>?_ | refine jV (aw F) ?_ | refine jV (ao F F) ?_ | refine jC F F F ?_ | refine jV (a9 F F oM) ?_ | refine aj F ?_ | refine jV (aI F F aS F F) ?_ | refine aL F ?_ | refine av F ?_ | refine ab F F F cx_cut F ?_ | (refine aJ F F F cx_split F ?_;rintro _ G hle ⟨b1,o1,cap1,rfl,hseg⟩;skip) | refine ab F F F (cx_pq _) F ?_ | refine ab F F F (cZ oM) F ?_ | refine ab F F F (cx_kq _) F ?_) | (refine aD F F (by first | rfl | (refine decide_eq_true ?_;(assumption))) ?_) | (refine al F F (by first | rfl | (refine decide_eq_false ?_;(omega))) ?_) | refine ac F F ?_ | (refine ad F (by first | rfl | assumption) ?_))
      all_goals refine jZ (vs:=[_,_]) F ⟨aE F F F F,F,trivial⟩ F ⟨hle,F,?_⟩
      all_goals exact ⟨default,false,F,by rw [hno];rfl⟩
theorem rU {s : abL} {k : Nat} (h : s.length ≤ 1000) : bA abK 156 [S s,U8 k] G (oR s k):=by
 by_cases hk : k = 69
 ·subst hk
  by_cases h2 : (a7 58 (aF 61 s).1).length = 2
  ·match e : a7 58 (aF 61 s).1,h2 with
   | [a,b],_=>exact ri h e
  ·exact lX h (by simpa using h2)
 ·by_cases h3 : (a7 58 (aF 61 s).1).length = 3
  ·match e : a7 58 (aF 61 s).1,h3 with
   | [a,b,c],_=>exact rh h hk e
  ·exact lX h (by simpa [hk] using h3)
theorem iX {s : abL} {xs : List abL} {k : Nat} (n : Nat) (h : s.length ≤ 100000000) (e : a7 k s = xs) (hn : xs.length = n) (h0 : 0 < n) :
  bQ abK 55 [S s,U8 k] G [] (fun v L'=>∃ b cap,v = .slice (some ⟨b,0,none⟩) n cap ∧ L' = [.acc (.slice (some ⟨b,0,none⟩) n cap) jv 1 n (g6 xs)]):=by
 subst hn;subst e
 refine (sX (G:=G) (k:=k) h).mono ?_
 rintro v G' L' ⟨h1,h2,h3⟩
 obtain ⟨b,cap,rfl⟩:=h3.pos oM
 exact ⟨h1,b,cap,F,h2⟩
theorem rj {s : abL} {top m : Int} (h : s.length ≤ 100000000) (e : aM s top = some m) : am abK 56 [S s,I top] G (· = Tu [I m,Bo true]):=by
 refine (gF (G:=G) (top:=top) h).mono ?_
 rintro v G' L' ⟨h1,h2,n,rfl,h3⟩
 exact ⟨h1,h2,by rw [e,h3 m e];rfl⟩
abbrev kg (s : abL) (k : Nat) (v : Value) : Prop:=∃ f ok,v = Tu [Ag (gB f),Bo ok] ∧ bK s k = if ok then some f else none
theorem v8 {s : abL} {k : Nat} (h : (a7 58 s).length ≠ 2) (h' : (a7 58 s).length ≠ 3) : bK s k = none:=by
 unfold bK
 split
 ·rename_i e;rw [e] at h;simp at h
 ·rename_i e;rw [e] at h';simp at h'
 ·rfl
theorem po {s : abL} {k : Nat} (h : s.length ≤ 1000) (e : (a7 58 s).length ≠ 2) (e' : (a7 58 s).length ≠ 3) : am abK 147 [S s,U8 k] G (kg s k):=by
 have e0 : 0 < (a7 58 s).length:=dH
 generalize hn : (a7 58 s).length = n at *
 have cx_cut1:=iX (G:=G) (k:=58) n oM rfl hn e0
 have hno : bK s k = none:=v8 oM oM
 refine jE [(0,_),(1,_)] Tryz.func147 Tryz.ntmps147 fun B hB=>?_
 repeat' (first | refine jR ?_ | (refine jo ?_;first | refine jL fun _=>?_ | refine jV (aw F) ?_ | refine aL F ?_ | refine av F ?_ | refine jV (ao F F) ?_ | refine jC F F F ?_ | (refine dl F F F cx_cut1 F ?_;rintro _ _ ⟨b1,cap1,rfl,rfl⟩;dsimp only [zA,fA])) | refine aD F F (ay oM) ?_ | refine d5 F F (fun _=>?_) (fun _=>?_) | (refine ac F (by first | rfl | (refine decide_eq_true ?_;(omega))) ?_))
 all_goals refine jZ (vs:=[_,_]) F ⟨aE F F F F,F,trivial⟩ F ⟨F,F,?_⟩
 all_goals exact ⟨default,false,F,by rw [hno];rfl⟩
theorem pn {s a b : abL} {k : Nat} (h : s.length ≤ 1000) (e : a7 58 s = [a,b]) : am abK 147 [S s,U8 k] G (kg s k):=by
 have ha : a.length ≤ 1000:=Nat.le_trans (c8 (k:=58) (s:=s) (by rw [e];simp)) h
 have hb : b.length ≤ 1000:=Nat.le_trans (c8 (k:=58) (s:=s) (by rw [e];simp)) h
 have cx_cut1:=iX (G:=G) (k:=58) 2 oM e rfl oM
 by_cases hk : k = 69
 case neg =>
  have hno : bK s k = none:=by unfold bK;rw [e];simp [hk]
  refine jE [(0,_),(1,_)] Tryz.func147 Tryz.ntmps147 fun B hB=>?_
  repeat' (first | refine jR ?_ | (refine jo ?_;first | refine jL fun _=>?_ | refine jV (aw F) ?_ | refine aL F ?_ | refine jV (ao F F) ?_ | refine jC F F F ?_ | (refine dl F F F cx_cut1 F ?_;rintro _ _ ⟨b1,cap1,rfl,rfl⟩;dsimp only [zA,fA])) | (refine aD F F (by first | rfl | (refine decide_eq_true ?_;(omega))) ?_) | refine ac F F ?_)
  all_goals refine jZ (vs:=[_,_]) F ⟨aE F F F F,F,trivial⟩ F ⟨F,F,?_⟩
  all_goals exact ⟨default,false,F,by rw [hno];rfl⟩
 subst hk
 rcases hm : aM a 200 with _ | m
 ·have hno : bK s 69 = none:=by unfold bK;rw [e];simp [hm]
  refine jE [(0,_),(1,_)] Tryz.func147 Tryz.ntmps147 fun B hB=>?_
  repeat' (first | refine jR ?_ | (refine jo ?_;first | refine jL fun _=>?_ | refine jV (aw F) ?_ | refine aL F ?_ | refine av F ?_ | refine jV (ao F F) ?_ | refine jC F F F ?_ | refine jV (a9 F F oM) ?_ | refine jV (fL F F F) ?_ | refine aG F ?_ | (refine dl F F F cx_cut1 F ?_;rintro _ _ ⟨b1,cap1,rfl,rfl⟩;dsimp only [zA,fA]) | (refine cn F F F (gF oM) F ?_;rintro _ ⟨n,rfl,hnum⟩)) | (refine aD F F ?_ ?_;(focus ((first | rfl | (simp [*];done));done))) | refine al F F F ?_ | refine ac F F ?_ | refine ad F F ?_)
  all_goals refine jZ (vs:=[_,_]) F ⟨aE F F F F,F,trivial⟩ F ⟨F,F,?_⟩
  all_goals exact ⟨⟨_,_,_,_⟩,false,F,by rw [hno];rfl⟩
 have cx_num:=rj (G:=G) oM hm
 have hyes : bK s 69 = if 1 ≤ m ∧ b5 b = true then some ⟨m,b,[],[]⟩ else none:=by unfold bK;rw [e];simp [hm]
 refine jE [(0,_),(1,_)] Tryz.func147 Tryz.ntmps147 fun B hB=>?_
 repeat' (first | refine jR ?_ | (refine jo ?_;first | refine jL fun _=>?_ | refine jV (aw F) ?_ | refine aL F ?_ | refine av F ?_ | refine jV (ao F F) ?_ | refine jC F F F ?_ | refine jV (a9 F F oM) ?_ | refine aj F ?_ | refine jV (fL F F F) ?_ | refine aG F ?_ | (refine dl F F F cx_cut1 F ?_;rintro _ _ ⟨b1,cap1,rfl,rfl⟩;dsimp only [zA,fA]) | refine ab F F F cx_num F ?_ | refine ab F F F (eK oM) F ?_) | refine aD F F F ?_ | refine al F F F ?_ | refine d5 F F (fun _=>?_) (fun _=>?_) | refine ac F F ?_ | refine ad F F ?_ | refine kH F (fun _=>?_) (fun _=>?_))
 all_goals refine jZ (vs:=[_,_]) F ⟨aE F F F F,F,trivial⟩ F ⟨F,F,?_⟩
 all_goals first | exact ⟨⟨m,b,[],[]⟩,true,F,by rw [hyes];simp_all;try omega⟩ | exact ⟨⟨m,b,[],[]⟩,false,F,by rw [hyes];simp_all;try omega⟩
theorem oI {s a b c d f : abL} {k : Nat} {m : Int} (h : s.length ≤ 1000) (e : a7 58 s = [a,b,c]) (hk : ¬ k = 69) (hm : aM a 200 = some m) (hg1 : 1 ≤ m) (hg2 : b5 b = true) (e2 : a7 61 c = [d,f]) : am abK 147 [S s,U8 k] G (kg s k):=by
 have ha : a.length ≤ 1000:=Nat.le_trans (c8 (k:=58) (s:=s) (by rw [e];simp)) h
 have hb : b.length ≤ 1000:=Nat.le_trans (c8 (k:=58) (s:=s) (by rw [e];simp)) h
 have hc : c.length ≤ 1000:=Nat.le_trans (c8 (k:=58) (s:=s) (by rw [e];simp)) h
 have cx_cut1:=iX (G:=G) (k:=58) 3 oM e rfl oM
 have cx_num:=rj (G:=G) oM hm
 have hyes : bK s k = if k = 82 ∧ bG d f = true then some ⟨m,b,d,f⟩ else none:=by
  unfold bK;rw [e];simp [hm,hg1,hg2,hk,e2]
 have hd : d.length ≤ 1000:=Nat.le_trans (c8 (k:=61) (s:=c) (by rw [e2];simp)) hc
 have hf : f.length ≤ 1000:=Nat.le_trans (c8 (k:=61) (s:=c) (by rw [e2];simp)) hc
 have cx_cut2:=iX (G:=G) (k:=61) 2 oM e2 rfl oM
 by_cases h82 : k = 82
 ·have h83 : (k : Int) = 82:=oM
  refine jE [(0,_),(1,_)] Tryz.func147 Tryz.ntmps147 fun B hB=>?_
  repeat' (first | refine jR ?_ | (refine jo ?_;first | refine jL fun _=>?_ | refine jV (aw F) ?_ | refine aL F ?_ | refine av F ?_ | refine jV (ao F F) ?_ | refine jD F F F ?_ | refine jC F F F ?_ | refine jV (a9 F F oM) ?_ | refine aj F ?_ | refine jV (fL F F F) ?_ | (refine dl F F F cx_cut1 F ?_;rintro _ _ ⟨b1,cap1,rfl,rfl⟩;dsimp only [zA,fA]) | (refine dl F F F cx_cut2 F ?_;rintro _ _ ⟨b2,cap2,rfl,rfl⟩;dsimp only [zA,fA]) | refine ab F F F cx_num F ?_ | refine ab F F F (eK oM) F ?_) | refine aD F F F ?_ | (refine al F F (by first | rfl | (refine decide_eq_false ?_;(omega))) ?_) | refine ac F F ?_ | (refine ad F ?_ ?_;(focus ((first | (refine decide_eq_false ?_;(omega)) | (simp [*];done));done))) | (refine ai (dL (id:=14) (tt:=4) F ah ?_);refine jW 9 [1,2,3] (aa 12 14) ?_;(try (refine Nx.re (d:=76) (v':=Bo true) F (congrArg Value.bool (ay ‹_›)) ?_));refine jW 7 [4,6] (aa 12 94) ?_;(refine jG (aa 12 95) 0 F (bq F F F F) ?_);(refine jG (aa 12 127) 5 F (aq F F F) ?_);(refine jG (aa 12 255) 7 F (aq F F F) ?_);((refine jA 8 F ?_;(refine ab F F F (vi oM) F ?_);refine jK (aa 12 511) ?_));((refine jG (aa 12 1023) 9 F (aT F F ?_) ?_;(focus ((rfl);done))));refine jA 10 F ?_;(refine jC F F F ?_);refine jK (aa 12 2047) ?_;refine jW 0 [11] (aa 12 4095) ?_;refine jQ ?_))
  all_goals refine jZ (vs:=[_,_]) F ⟨aE F F F F,F,trivial⟩ F ⟨F,F,?_⟩
  all_goals exact ⟨⟨m,b,d,f⟩,bG d f,F,by rw [hyes];simp [h82]⟩
 ·have h83 : ¬ (k : Int) = 82:=oM
  refine jE [(0,_),(1,_)] Tryz.func147 Tryz.ntmps147 fun B hB=>?_
  repeat' (first | refine jR ?_ | (refine jo ?_;first | refine jL fun _=>?_ | refine jV (aw F) ?_ | refine aL F ?_ | refine av F ?_ | refine jV (ao F F) ?_ | refine jD F F F ?_ | refine jC F F F ?_ | refine jV (a9 F F oM) ?_ | refine aj F ?_ | refine jV (fL F F F) ?_ | (refine dl F F F cx_cut1 F ?_;rintro _ _ ⟨b1,cap1,rfl,rfl⟩;dsimp only [zA,fA]) | (refine dl F F F cx_cut2 F ?_;rintro _ _ ⟨b2,cap2,rfl,rfl⟩;dsimp only [zA,fA]) | refine ab F F F cx_num F ?_ | refine ab F F F (eK oM) F ?_) | refine aD F F F ?_ | (refine al F F (by first | rfl | (refine decide_eq_false ?_;(omega))) ?_) | refine ac F F ?_ | (refine ad F ?_ ?_;(focus ((first | (refine decide_eq_false ?_;(omega)) | (simp [*];done));done))) | (refine ai (dL (id:=14) (tt:=4) F ah ?_);refine jW 9 [1,2,3] (aa 12 14) ?_;(try (refine Nx.re (d:=76) (v':=Bo false) F (congrArg Value.bool (aC ‹_›)) ?_));refine jW 7 [4,6] (aa 12 94) ?_;(refine jG (aa 12 95) 0 F (bq F F F F) ?_);(refine jN (aa 12 127) 5 F ?_);(refine jN (aa 12 255) 7 F ?_);(refine jN (aa 12 511) 8 F ?_);((refine jG (aa 12 1023) 9 F (aH F F ?_) ?_;(focus ((rfl);done))));refine jA 10 F ?_;(refine jC F F F ?_);refine jK (aa 12 2047) ?_;refine jW 0 [11] (aa 12 4095) ?_;refine jQ ?_))
  all_goals refine jZ (vs:=[_,_]) F ⟨aE F F F F,F,trivial⟩ F ⟨F,F,?_⟩
  all_goals exact ⟨⟨m,b,d,f⟩,false,F,by rw [hyes];simp [h82]⟩
theorem pl {s a b c : abL} {k : Nat} (h : s.length ≤ 1000) (e : a7 58 s = [a,b,c]) : am abK 147 [S s,U8 k] G (kg s k):=by
 have ha : a.length ≤ 1000:=Nat.le_trans (c8 (k:=58) (s:=s) (by rw [e];simp)) h
 have hb : b.length ≤ 1000:=Nat.le_trans (c8 (k:=58) (s:=s) (by rw [e];simp)) h
 have hc : c.length ≤ 1000:=Nat.le_trans (c8 (k:=58) (s:=s) (by rw [e];simp)) h
 have cx_cut1:=iX (G:=G) (k:=58) 3 oM e rfl oM
 by_cases hk : k = 69
 case pos =>
  subst hk
  have hno : bK s 69 = none:=by unfold bK;rw [e];simp
  refine jE [(0,_),(1,_)] Tryz.func147 Tryz.ntmps147 fun B hB=>?_
  repeat' (first | refine jR ?_ | (refine jo ?_;first | refine jL fun _=>?_ | refine jV (aw F) ?_ | refine aL F ?_ | refine av F ?_ | refine jV (ao F F) ?_ | refine jC F F F ?_ | (refine dl F F F cx_cut1 F ?_;rintro _ _ ⟨b1,cap1,rfl,rfl⟩;dsimp only [zA,fA])) | refine aD F F F ?_ | refine al F F F ?_ | refine ac F F ?_)
  all_goals refine jZ (vs:=[_,_]) F ⟨aE F F F F,F,trivial⟩ F ⟨F,F,?_⟩
  all_goals exact ⟨default,false,F,by rw [hno];rfl⟩
 rcases hm : aM a 200 with _ | m
 ·have hno : bK s k = none:=by unfold bK;rw [e];simp [hm]
  refine jE [(0,_),(1,_)] Tryz.func147 Tryz.ntmps147 fun B hB=>?_
  repeat' (first | refine jR ?_ | (refine jo ?_;first | refine jL fun _=>?_ | refine jV (aw F) ?_ | refine aL F ?_ | refine av F ?_ | refine jV (ao F F) ?_ | refine jC F F F ?_ | refine jV (a9 F F oM) ?_ | refine jV (fL F F F) ?_ | refine aG F ?_ | (refine dl F F F cx_cut1 F ?_;rintro _ _ ⟨b1,cap1,rfl,rfl⟩;dsimp only [zA,fA]) | (refine cn F F F (gF oM) F ?_;rintro _ ⟨n,rfl,hnum⟩)) | (refine aD F F ?_ ?_;(focus ((first | rfl | (simp [*];done));done))) | refine al F F F ?_ | refine ac F F ?_ | refine ad F (aC oM) ?_)
  all_goals refine jZ (vs:=[_,_]) F ⟨aE F F F F,F,trivial⟩ F ⟨F,F,?_⟩
  all_goals exact ⟨⟨_,_,_,_⟩,false,F,by rw [hno];rfl⟩
 have cx_num:=rj (G:=G) oM hm
 by_cases hg : 1 ≤ m ∧ b5 b = true
 case neg =>
  have hno : bK s k = none:=by unfold bK;rw [e];simp [hm,hg]
  have hg' : m < 1 ∨ b5 b = false:=by
   by_cases h1 : m < 1
   ·exact .inl h1
   ·cases hb2 : b5 b with
    | false=>exact .inr F
    | true=>exact absurd ⟨oM,hb2⟩ hg
  rcases hg' with hg' | hg'
  all_goals refine jE [(0,_),(1,_)] Tryz.func147 Tryz.ntmps147 fun B hB=>?_
  all_goals repeat' (first | refine jR ?_ | (refine jo ?_;first | refine jL fun _=>?_ | refine jV (aw F) ?_ | refine aL F ?_ | refine av F ?_ | refine jV (ao F F) ?_ | refine jC F F F ?_ | refine jV (a9 F F oM) ?_ | refine aj F ?_ | refine jV (fL F F F) ?_ | refine aG F ?_ | (refine dl F F F cx_cut1 F ?_;rintro _ _ ⟨b1,cap1,rfl,rfl⟩;dsimp only [zA,fA]) | refine ab F F F cx_num F ?_ | refine ab F F F (eK oM) F ?_) | (refine aD F F (by first | rfl | (refine decide_eq_true ?_;(assumption))) ?_) | refine al F F F ?_ | refine d5 F F (fun _=>?_) (fun _=>?_) | (refine ac F ?_ ?_;(focus ((first | rfl | (simp [*];done));done))) | refine ad F (aC oM) ?_)
  all_goals refine jZ (vs:=[_,_]) F ⟨aE F F F F,F,trivial⟩ F ⟨F,F,?_⟩
  all_goals exact ⟨⟨_,_,_,_⟩,false,F,by rw [hno];rfl⟩
 obtain ⟨hg1,hg2⟩:=hg
 have hyes : bK s k = match a7 61 c with
  | [d]=>if bz d = true then some ⟨m,b,d,[]⟩ else none
  | [d,e]=>if k = 82 ∧ bG d e = true then some ⟨m,b,d,e⟩ else none
  | _=>none:=by
  unfold bK;rw [e];simp only [hm,hg1,hg2,hk,if_false,if_true,and_self] <;> rfl
 have hp : 0 < (a7 61 c).length:=dH
 match e2 : a7 61 c,hp with
 | [d],_ =>
  rw [e2] at hyes
  have cx_cut2:=iX (G:=G) (k:=61) 1 oM e2 rfl oM
  refine jE [(0,_),(1,_)] Tryz.func147 Tryz.ntmps147 fun B hB=>?_
  repeat' (first | refine jR ?_ | (refine jo ?_;first | refine jL fun _=>?_ | refine jV (aw F) ?_ | refine aL F ?_ | refine av F ?_ | refine jV (ao F F) ?_ | refine jD F F F ?_ | refine jC F F F ?_ | refine jV (ax F F oM) ?_ | refine jV (a9 F F oM) ?_ | refine aj F ?_ | refine jV (fL F F F) ?_ | (refine dl F F F cx_cut1 F ?_;rintro _ _ ⟨b1,cap1,rfl,rfl⟩;dsimp only [zA,fA]) | (refine dl F F F cx_cut2 F ?_;rintro _ _ ⟨b2,cap2,rfl,rfl⟩;dsimp only [zA,fA]) | refine ab F F F cx_num F ?_ | refine ab F F F (eK oM) F ?_) | refine aD F F F ?_ | (refine al F F (by first | rfl | (refine decide_eq_false ?_;(omega))) ?_) | (refine ad F ?_ ?_;(focus ((first | rfl | (refine decide_eq_false ?_;(omega)) | (simp [*];done));done))) | (refine ai (dL (id:=15) (tt:=4) F ah ?_);refine jW 10 [1] (aa 11 2) ?_;(refine jG (aa 11 3) 0 F (bq F F F F) ?_);(refine jG (aa 11 7) 2 F (aw F) ?_);refine jW 6 [3,4] (aa 11 31) ?_;(try (refine Nx.re (d:=87) (v':=Bo true) F (congrArg Value.bool F) ?_));refine jW 5 [5] (aa 11 63) ?_;(refine jG (aa 11 127) 6 F (aq F F F) ?_);(refine jA 7 F ?_;(refine ab F F F l4 F ?_);refine jK (aa 11 255) ?_);((refine jG (aa 11 511) 8 F (aT F F ?_) ?_;(focus ((rfl);done))));refine jA 9 F ?_;(refine jC F F F ?_);refine jK (aa 11 1023) ?_;refine jW 0 [10] (aa 11 2047) ?_;refine jQ ?_))
  all_goals refine jZ (vs:=[_,_]) F ⟨aE F F F F,F,trivial⟩ F ⟨F,F,?_⟩
  all_goals exact ⟨⟨m,b,d,[]⟩,bz d,F,hyes⟩
 | [d,f],_=>exact oI h e hk hm hg1 hg2 e2
 | d :: f :: g :: r,_ =>
  rw [e2] at hyes
  have cx_cut2:=iX (G:=G) (k:=61) (r.length + 3) oM e2 (by simp) oM
  refine jE [(0,_),(1,_)] Tryz.func147 Tryz.ntmps147 fun B hB=>?_
  repeat' (first | refine jR ?_ | (refine jo ?_;first | refine jL fun _=>?_ | refine jV (aw F) ?_ | refine aL F ?_ | refine av F ?_ | refine jV (ao F F) ?_ | refine jD F F F ?_ | refine jC F F F ?_ | refine jV (ax F F oM) ?_ | refine jV (a9 F F oM) ?_ | refine aj F ?_ | refine jV (fL F F F) ?_ | (refine dl F F F cx_cut1 F ?_;rintro _ _ ⟨b1,cap1,rfl,rfl⟩;dsimp only [zA,fA]) | (refine dl F F F cx_cut2 F ?_;rintro _ _ ⟨b2,cap2,rfl,rfl⟩;dsimp only [zA,fA]) | refine ab F F F cx_num F ?_ | refine ab F F F (eK oM) F ?_) | refine aD F F F ?_ | (refine al F F (by first | rfl | (refine decide_eq_false ?_;(omega))) ?_) | (refine ad F ?_ ?_;(focus ((first | rfl | (refine decide_eq_false ?_;(omega)) | (simp [*];done));done))) | (refine ai (dL (id:=15) (tt:=4) F ah ?_);refine jW 10 [1] (aa 11 2) ?_;(refine jG (aa 11 3) 0 F (bq F F F F) ?_);(refine jG (aa 11 7) 2 F (aw F) ?_);refine jW 6 [3,4] (aa 11 31) ?_;(try (refine Nx.re (d:=87) (v':=Bo false) F (congrArg Value.bool F) ?_));refine jW 5 [5] (aa 11 63) ?_;(refine jN (aa 11 127) 6 F ?_);(refine jN (aa 11 255) 7 F ?_);((refine jG (aa 11 511) 8 F (aH F F ?_) ?_;(focus ((rfl);done))));refine jA 9 F ?_;(refine jC F F F ?_);refine jK (aa 11 1023) ?_;refine jW 0 [10] (aa 11 2047) ?_;refine jQ ?_))
  all_goals refine jZ (vs:=[_,_]) F ⟨aE F F F F,F,trivial⟩ F ⟨F,F,?_⟩
  all_goals exact ⟨⟨m,b,d,[]⟩,false,F,hyes⟩
theorem ll {s : abL} {k : Nat} (h : s.length ≤ 1000) : am abK 147 [S s,U8 k] G (kg s k):=by
 by_cases h2 : (a7 58 s).length = 2
 ·match e : a7 58 s,h2 with
  | [a,b],_=>exact pn h e
 by_cases h3 : (a7 58 s).length = 3
 ·match e : a7 58 s,h3 with
  | [a,b,c],_=>exact pl h e
 exact po h h2 h3
theorem rm {s : abL} {k : Nat} (h : s.length ≤ 100000000) : bA abK 55 [S s,U8 k] G (fun v G'=>bh G' v 1 (a7 k s).length (aA dv (a7 k s))):=by
 refine bQ.shutP ((sX (G:=G) (k:=k) h).mono ?_)
 rintro v G' L' ⟨h1,h2,_⟩
 exact ⟨h1,v,_,_,_,_,h2,fun G' _ h3=>by rw [← uo];exact h3⟩
abbrev tl : TypeId:=128
abbrev pr : TypeId:=122
def z4 (s : abL) (v : Value) (G : Gh) : Prop:=∃ fv t ok,v = Tu [Ag [U8 (t : Ty).sort,S t.name,fv],Bo ok] ∧ (cR s = if ok = true then some t else none) ∧ bh G fv 4 t.fields.length (aA gB t.fields)
theorem bh.nil0 {G : Gh} {sz : Nat} : bh G aK sz 0 []:=⟨by simp,.inl ⟨rfl,rfl⟩⟩
theorem qY {α : Type} [Inhabited α] {xs : List α} {i : Nat} (h : i < xs.length) : xs.drop i = ae xs i :: xs.drop (i + 1):=by rw [a6 h];exact (List.getElem_cons_drop (h:=h)).symm
theorem p7.sl {v : Value} {m : Nat} (h : p7 v m) : ∃ a cap,v = .slice a m cap:=by
 rcases h with ⟨rfl,rfl⟩ | ⟨b,cap,rfl,_⟩
 ·exact ⟨none,0,F⟩
 ·exact ⟨_,cap,F⟩
theorem ki {c : UInt8} {r : abL} (h : (aF 61 r).2.2 = false) : cR (c :: r) = none:=by
 unfold cR
 split
 ·rfl
 ·rename_i h1;cases h1
  split
  ·rename_i h2;rw [h2] at h;cases h
  ·rfl
theorem me {c : UInt8} {r name rest : abL} (h : aF 61 r = (name, rest, true)) : cR (c :: r) = if b5 name = true ∧ dV c.toNat then
        if rest = [] then (if c.toNat = 82 then some ⟨82,name,[]⟩ else none)
        else match cK c.toNat (a7 44 rest) [] with
          | some fs=>if fs.length ≤ 8 then some ⟨c.toNat,name,fs⟩ else none
          | none=>none
      else none:=by
  unfold cR
  simp only [h];rfl
theorem rl {s : abL} (h : s.length ≤ 1000) : bA abK 105 [S s] G (z4 s):=by
  refine jB [(0,_)] Tryz.func105 Tryz.ntmps105 fun B hok hB hW=>?_
  repeat' (first | refine jR ?_ | (refine jo ?_;refine jL fun _=>?_))
  rename_i x
  refine aR (ι:=Nat) (fun i=>i ≤ s.length ∧ ∀ k,k < i → bt s k ≠ 61) (fun i=>[(0,S s),(2,Pt x 0),(4,I i)]) (fun _=>G) (fun i=>[.blk x (.cells [U8 0,S [],aK].toArray pr (0,0))]) (fun i=>s.length - i) 0 ?_ tU F aX (fun i Hi=>?_)
  · exact ⟨oM,fun k hk=>absurd hk oM⟩
  by_cases hi : i < s.length ∧ bt s i ≠ 61
  · repeat' (first | refine jM ?_ | (refine jo ?_;refine aL F ?_) | refine aD F F (ay oM) ?_ | (refine ac F ?_ ?_;(focus ((simp;omega);done))))
    refine aW (i + 1) ⟨oM,fun k hk=>?_⟩ oM tU F aX
    rcases Nat.lt_or_ge k i with h3 | h3
    · exact Hi.2 k h3
    · have : k = i:=oM
      subst this;exact hi.2
  rcases Nat.lt_or_ge i s.length with hlt | hge
  case inr =>
    have hno : cR s = none:=by
      match s,Hi,hge with
      | [],_,_=>rfl
      | c :: r,Hi,hge =>
        refine ki ?_
        rw [pi fun j hj=>by have:=Hi.2 (j + 1) (by simp at hge;omega);rwa [dJ] at this]
    repeat' (first | refine jR ?_ | (refine jo ?_;first | refine aL F ?_ | refine av F ?_ | refine jV (ao F F) ?_ | refine jC F F F ?_) | refine al F F (aC oM) ?_ | refine d5 F F (fun _=>?_) (fun _=>?_) | (refine ac F (by first | rfl | (refine decide_eq_true ?_;(omega))) ?_) | refine ad F F ?_)
    all_goals refine jZ (vs:=[_,_]) F ⟨aE F F F F,F,trivial⟩ F ⟨Gh.le.refl _,F,?_⟩
    all_goals exact ⟨aK,default,false,F,by rw [hno];rfl,bh.nil0⟩
  have h61 : bt s i = 61:=by
    rcases Nat.lt_or_ge (bt s i) 61 with h1 | h1
    · exact absurd ⟨hlt,oM⟩ hi
    · rcases Nat.lt_or_ge 61 (bt s i) with h2 | h2
      · exact absurd ⟨hlt,oM⟩ hi
      · omega
  match s,i,Hi,hlt,h61,h with
  | c :: r,0,Hi,hlt,h61,h =>
    have hno : cR (c :: r) = none:=by
      rw [be] at h61
      cases ht : (aF 61 r).2.2 with
      | false=>exact ki ht
      | true =>
        rw [me (c:=c) (r:=r) (name:=(aF 61 r).1) (rest:=(aF 61 r).2.1) (by rw [← ht])]
        rw [if_neg]
        rintro ⟨_,h2⟩
        unfold dV at h2;omega
    have h62 : bt (c :: r) ((0 : Nat) : Int).toNat = 61:=h61
    repeat' (first | refine jM ?_ | (refine jo ?_;first | refine aL F ?_ | refine jV (ao F F) ?_ | refine jC F F F ?_) | (refine aD F F (by first | rfl | (refine decide_eq_true ?_;(omega))) ?_) | refine ac F F ?_ | refine ad F (aC oM) ?_)
    all_goals refine jZ (vs:=[_,_]) F ⟨aE F F F F,F,trivial⟩ F ⟨Gh.le.refl _,F,?_⟩
    all_goals exact ⟨aK,default,false,F,by rw [hno];rfl,bh.nil0⟩
  | c :: r,j + 1,Hi,hlt,h61,h =>
    have hj : j < r.length:=by simpa using hlt
    have hcut1 : aF 61 r = (r.take j,r.drop (j + 1),true):=mq hj (fun k hk=>by have:=Hi.2 (k + 1) oM;rwa [dJ] at this) (by rwa [dJ] at h61)
    have hty:=me (c:=c) hcut1
    have h62 : bt (c :: r) ((j + 1 : Nat) : Int).toNat = 61:=h61
    have e0 : bt (c :: r) (Int.toNat 0) = c.toNat:=be c r
    have hnl : (r.take j).length ≤ 1000:=by simp at h ⊢;omega
    have cx_nm:=eK (G:=G) (s:=r.take j) oM
    by_cases hg : b5 (r.take j) = true ∧ dV c.toNat
    case neg =>
      have hno : cR (c :: r) = none:=by rw [hty,if_neg hg]
      by_cases hn : b5 (r.take j) = true
      · have hn2 : (!b5 (r.take j)) = false:=by rw [hn];rfl
        have hns : ¬ dV c.toNat:=fun h=>hg ⟨hn,h⟩
        unfold dV at hns
        repeat' (first | refine jM ?_ | (refine jo ?_;first | refine aL F ?_ | refine av F ?_ | refine jC F F F ?_ | refine aj F ?_ | refine aG F ?_ | refine ab F F F cx_nm F ?_) | refine aD F F (ay oM) ?_ | (refine al F F (by first | rfl | assumption) ?_) | refine ac F (ay oM) ?_ | refine ad F (aC oM) ?_ | (refine ai (an (id:=6) _ (fun _ h=>h) ah ?_);refine jW 3 [0,1,2,3,4] (aa 8 31) ?_;(refine jG (aa 8 63) 5 F (ao F F) ?_);refine jA 6 F ?_;(refine jL fun _=>?_);refine jK (aa 8 127) ?_;refine jA 7 F ?_;(refine jC F F F ?_);refine jK (aa 8 255) ?_;refine jQ ?_))
        all_goals refine jZ (vs:=[_,_]) F ⟨aE F F F F,F,trivial⟩ F ⟨Gh.le.refl _,F,?_⟩
        all_goals exact ⟨aK,⟨_,_,[]⟩,false,F,by rw [hno];rfl,bh.nil0⟩
      · have hn2 : (!b5 (r.take j)) = true:=by simpa using hn
        repeat' (first | refine jM ?_ | (refine jo ?_;first | refine aL F ?_ | refine av F ?_ | refine jC F F F ?_ | refine aj F ?_ | refine aG F ?_ | refine ab F F F cx_nm F ?_) | (refine aD F F (by first | assumption | (refine decide_eq_true ?_;(omega))) ?_) | refine al F F F ?_ | refine ac F F ?_ | refine ad F (aC oM) ?_ | (refine ai (an (id:=6) _ (fun _ h=>h) ah ?_);refine jW 3 [0,1,2,3,4] (aa 8 31) ?_;(refine jG (aa 8 63) 5 F (ao F F) ?_);refine jA 6 F ?_;(refine jL fun _=>?_);refine jK (aa 8 127) ?_;refine jA 7 F ?_;(refine jC F F F ?_);refine jK (aa 8 255) ?_;refine jQ ?_))
        all_goals refine jZ (vs:=[_,_]) F ⟨aE F F F F,F,trivial⟩ F ⟨Gh.le.refl _,F,?_⟩
        all_goals exact ⟨aK,⟨_,_,[]⟩,false,F,by rw [hno];rfl,bh.nil0⟩
    have hn2 : (!b5 (r.take j)) = false:=by rw [hg.1];rfl
    have hs2:=hg.2
    unfold dV at hs2
    rw [if_pos hg] at hty
    by_cases hrest : r.drop (j + 1) = []
    · rw [if_pos hrest] at hty
      by_cases h82 : c.toNat = 82
      · rw [if_pos h82] at hty
        have e82 : bt (c :: r) (Int.toNat 0) = 82:=oM
        repeat' (first | refine jM ?_ | (refine jo ?_;first | refine aL F ?_ | refine av F ?_ | refine aj F ?_ | refine ab F F F cx_nm F ?_) | refine aD F F (ay oM) ?_ | (refine al F F (by first | rfl | assumption | (refine decide_eq_false ?_;(omega))) ?_) | refine ac F (ay ‹_›) ?_ | (refine ad F (by first | rfl | (refine decide_eq_false ?_;(omega))) ?_) | (refine ai (an (id:=6) _ (fun _ h=>h) ah ?_);refine jW 3 [0,1,2,3,4] (aa 8 31) ?_;(refine jG (aa 8 63) 5 F (ao F F) ?_);refine jA 6 F ?_;(refine jL fun _=>?_);refine jK (aa 8 127) ?_;refine jA 7 F ?_;(refine jC F F F ?_);refine jK (aa 8 255) ?_;refine jQ ?_) | (refine ai (dL (id:=10) (tt:=2) F ah ?_);refine jW 5 [1] (aa 6 2) ?_;(refine jG (aa 6 3) 0 F (bq F F F F) ?_);(refine jG (aa 6 7) 2 F (aq F F F) ?_);refine jW 2 [3] (aa 6 15) ?_;refine jA 4 F ?_;(refine jC F F F ?_);refine jK (aa 6 31) ?_;refine jW 0 [5] (aa 6 63) ?_;refine jQ ?_))
        all_goals refine jZ (vs:=[_,_]) F ⟨aE F F F F,F,trivial⟩ F ⟨Gh.le.refl _,F,?_⟩
        all_goals refine ⟨aK,⟨82,r.take j,[]⟩,true,?_,hty,bh.nil0⟩
        all_goals show Tu [Ag [U8 (bt (c :: r) (Int.toNat 0) : Nat),S (r.take j),aK],Bo (decide (((bt (c :: r) (Int.toNat 0) : Nat) : Int) = 82))] = _
        all_goals (rw [e82];rfl)
      · rw [if_neg h82] at hty
        have e82 : ¬ bt (c :: r) (Int.toNat 0) = 82:=oM
        have e83 : decide (((bt (c :: r) (Int.toNat 0) : Nat) : Int) = 82) = false:=decide_eq_false oM
        repeat' (first | refine jM ?_ | (refine jo ?_;first | refine aL F ?_ | refine av F ?_ | refine aj F ?_ | refine ab F F F cx_nm F ?_) | refine aD F F (ay oM) ?_ | (refine al F F (by first | rfl | assumption) ?_) | refine d5 F F (fun _=>?_) (fun _=>?_) | refine ac F (ay ‹_›) ?_ | (refine ad F (by first | rfl | (refine decide_eq_false ?_;(omega))) ?_) | (refine ai (an (id:=6) _ (fun _ h=>h) ah ?_);refine jW 3 [0,1,2,3,4] (aa 8 31) ?_;(refine jG (aa 8 63) 5 F (ao F F) ?_);refine jA 6 F ?_;(refine jL fun _=>?_);refine jK (aa 8 127) ?_;refine jA 7 F ?_;(refine jC F F F ?_);refine jK (aa 8 255) ?_;refine jQ ?_) | (refine ai (dL (id:=10) (tt:=2) F ah ?_);refine jW 5 [1] (aa 6 2) ?_;(refine jG (aa 6 3) 0 F (bq F F F F) ?_);(refine jG (aa 6 7) 2 F (aq F F F) ?_);refine jW 2 [3] (aa 6 15) ?_;refine jA 4 F ?_;(refine jC F F F ?_);refine jK (aa 6 31) ?_;refine jW 0 [5] (aa 6 63) ?_;refine jQ ?_))
        all_goals refine jZ (vs:=[_,_]) F ⟨aE F F F F,F,trivial⟩ F ⟨Gh.le.refl _,F,?_⟩
        all_goals refine ⟨aK,⟨bt (c :: r) (Int.toNat 0),r.take j,[]⟩,false,?_,hty,bh.nil0⟩
        all_goals show Tu [Ag [U8 (bt (c :: r) (Int.toNat 0) : Nat),S (r.take j),aK],Bo (decide (((bt (c :: r) (Int.toNat 0) : Nat) : Int) = 82))] = _
        all_goals (rw [e83])
    rw [if_neg hrest] at hty
    have hrl : (r.drop (j + 1)).length ≤ 1000:=by simp at h ⊢;omega
    have hcl:=jk (k:=44) (s:=r.drop (j + 1))
    have cx_cutS:=rm (G:=G) (s:=r.drop (j + 1)) (k:=44) oM
    have hall : ∀ y ∈ a7 44 (r.drop (j + 1)),y.length ≤ 1000:=fun y hy=>Nat.le_trans (c8 hy) hrl
    generalize hxs : a7 44 (r.drop (j + 1)) = xs at *
    rcases hs2 with h1 | h1 | h1
    all_goals repeat' (first | refine jM ?_ | (refine jo ?_;first | refine aL F ?_ | refine av F ?_ | refine aj F ?_ | refine ab F F F cx_nm F ?_ | (refine aJ F F F cx_cutS F ?_;rintro _ G hle hcut;skip)) | refine aD F F (ay oM) ?_ | (refine al F F (by first | rfl | assumption | (refine decide_eq_false ?_;(omega))) ?_) | (refine ad F (by first | rfl | (refine decide_eq_false ?_;first | assumption | omega)) ?_) | (refine ai (an (id:=6) _ (fun _ h=>h) ah ?_);refine jW 3 [0,1,2,3,4] (aa 8 31) ?_;(refine jG (aa 8 63) 5 F (ao F F) ?_);refine jA 6 F ?_;(refine jL fun _=>?_);refine jK (aa 8 127) ?_;refine jA 7 F ?_;(refine jC F F F ?_);refine jK (aa 8 255) ?_;refine jQ ?_))
    all_goals rename_i y v
    all_goals refine Nx.addNil tl 4 ?_
    all_goals refine aR (ι:=Value × List Fld × Nat) (fun i=>i.2.2 ≤ xs.length ∧ i.2.1.length ≤ i.2.2 ∧ cK c.toNat (xs.drop i.2.2) i.2.1 = cK c.toNat xs []) (fun i=>[(2,Pt x 0),(5,Pt y 0),(6,v),(7,I i.2.2)]) (fun _=>G) (fun i=>[.acc i.1 tl 4 i.2.1.length (aA gB i.2.1),.blk y (.cells [U8 (bt (c :: r) (Int.toNat 0) : Nat),S (r.take j),i.1].toArray pr (0,0)),.blk x (.cells [U8 0,S [],aK].toArray pr (0,0))]) (fun i=>xs.length - i.2.2) (aK,[],0) ?_ tU F aX (fun i Hi=>?_)
    all_goals (first | exact ⟨Nat.zero_le _,Nat.le_refl _,F⟩ | skip)
    all_goals obtain ⟨u,fs,i⟩:=i
    all_goals dsimp only at Hi ⊢
    all_goals obtain ⟨hi1,hi2,hi3⟩:=Hi
    all_goals refine Nx.shp (v:=u) (.head _) fun hsh=>?_
    all_goals (have hsh2:=hsh;obtain ⟨au,cu,rfl⟩:=hsh.sl)
    all_goals by_cases hix : i < xs.length
    all_goals try (rw [qY hix,cK] at hi3;obtain ⟨bv,ov,cv,rfl,hsv⟩:=hcut.expl oM;have hx:=hall _ (bT hix))
    all_goals repeat' (first | refine jR ?_ | (refine jo ?_;first | refine jC F F F ?_ | refine aG F ?_ | refine jV (aw F) ?_ | refine jV (cY F aS) ?_) | refine ac F (ay oM) ?_ | refine ad F (aC oM) ?_ | refine kH F (fun _=>?_) (fun _=>?_) | (refine ai (an (id:=15) _ (fun _ h=>h) ah ?_);refine jT 10 [0,1,4] (aa 13 19) ?_;(refine jG (aa 13 23) 2 F (ax F F oM) ?_);((refine jG (aa 13 31) 3 F (gS F F aS ?_) ?_;focus omega));(refine jG (aa 13 63) 5 F (aq F F F) ?_);refine dy [6,10] kR dC ⟨?_,?_,trivial⟩;(focus (refine bY F F ?_;(refine cn F F F (ll oM) F ?_;rintro _ ⟨f,ok,rfl,hfld⟩);refine jK (aa 13 127) ?_;refine jW 3 [7,8,9] (aa 13 1023) ?_;refine jA 10 F ?_;(refine jL fun _=>?_);refine jK (aa 13 2047) ?_;refine jA 11 F ?_;(refine jC F F F ?_);refine jK (aa 13 4095) ?_;refine jW 0 [12] (aa 13 8191) ?_;refine jQ ?_));rotate_left 1;(focus (refine bY F F ?_;(refine jL fun _=>?_);refine jK (aa 13 1087) ?_;refine jA 6 F ?_;(refine cn F F F (ll oM) F ?_;rintro _ ⟨f,ok,rfl,hfld⟩);refine jK (aa 13 1151) ?_;refine jW 2 [7,8,9] (aa 13 2047) ?_;refine jA 11 F ?_;(refine jC F F F ?_);refine jK (aa 13 4095) ?_;refine jW 0 [12] (aa 13 8191) ?_;refine jQ ?_));rotate_left 1) | (refine ai (dL (id:=24) (tt:=2) F ah ?_);refine jW 6 [1] (aa 7 2) ?_;(refine jG (aa 7 3) 0 F (bq F F F F) ?_);(refine jG (aa 7 7) 2 F (aq F F F) ?_);(refine jG (aa 7 15) 3 F (aw F) ?_);refine jW 2 [4] (aa 7 31) ?_;refine jA 5 F ?_;(refine jC F F F ?_);refine jK (aa 7 63) ?_;refine jW 0 [6] (aa 7 127) ?_;refine jQ ?_))
    all_goals first
      | (rename_i z hq
         have hq2 : ok = false:=by simpa using hq
         subst hq2
         have hf0 : bK (ae xs i) c.toNat = none:=hfld
         have hno : cR (c :: r) = none:=by rw [hf0] at hi3;rw [hty,← hi3]
         refine Nx.sealS (v:=.slice au fs.length cu) fun G' hle2 hsl=>?_
         refine jZ (vs:=[_,_]) F ⟨aE F F F F,F,trivial⟩ F ⟨hle.trans hle2,F,?_⟩
         exact ⟨.slice au fs.length cu,⟨bt (c :: r) (Int.toNat 0),r.take j,fs⟩,false,F,by rw [hno];rfl,hsl⟩)
      | (have ei : i = xs.length:=oM
         have hyes : cR (c :: r) = if fs.length ≤ 8 then some ⟨c.toNat,r.take j,fs⟩ else none:=by
           rw [ei,List.drop_length,cK] at hi3
           rw [hty,← hi3]
         refine Nx.sealS (v:=.slice au fs.length cu) fun G' hle2 hsl=>?_
         refine jZ (vs:=[_,_]) F ⟨aE F F F F,F,trivial⟩ F ⟨hle.trans hle2,F,?_⟩
         refine ⟨.slice au fs.length cu,⟨c.toNat,r.take j,fs⟩,decide (fs.length ≤ 8),?_,by rw [hyes];simp,hsl⟩
         rw [dD,e0]
         refine congrArg (fun x=>Tu [_,Bo x]) (decide_eq_decide.2 ?_)
         omega)
      | (rename_i z hq
         have hq2 : ok = true:=by simpa using hq
         subst hq2
         have hf1 : bK (ae xs i) c.toNat = some f:=hfld
         rw [hf1] at hi3
         dsimp only at hi3
         refine aR (ι:=Nat) (fun k=>k ≤ fs.length ∧ ∀ m,m < k → (ae fs m).tag < f.tag ∧ (ae fs m).name ≠ f.name) (fun k=>[(2,Pt x 0),(5,Pt y 0),(6,.slice (some ⟨bv,ov,none⟩) xs.length cv),(7,I i),(8,Pt z 0),(10,I k)]) (fun _=>G) (fun k=>[.blk z (.cells (gB f).toArray tl (0,0)),.acc (.slice au fs.length cu) tl 4 fs.length (aA gB fs),.blk y (.cells [U8 (bt (c :: r) (Int.toNat 0) : Nat),S (r.take j),.slice au fs.length cu].toArray pr (0,0)),.blk x (.cells [U8 0,S [],aK].toArray pr (0,0))]) (fun k=>fs.length - k) 0 ?_ tU F aX (fun k Hk=>?_)
         · exact ⟨Nat.zero_le _,fun m hm=>absurd hm oM⟩
         by_cases hk : k < fs.length
         · obtain ⟨bu,cu2,eu⟩:=hsh2.pos oM
           simp only [Value.slice.injEq] at eu
           obtain ⟨rfl,-,rfl⟩:=eu
           by_cases hbad : (ae fs k).tag < f.tag ∧ (ae fs k).name ≠ f.name
           · obtain ⟨hb1,hb2⟩:=hbad
             repeat' (first | refine jM ?_ | (refine jo ?_;first | refine aj F ?_ | refine jV (aw F) ?_) | refine ac F (ay oM) ?_ | refine ad F (aC ‹_›) ?_ | (refine ai (an (id:=21) _ (fun _ h=>h) ah ?_);refine jT 17 [0,2,6] (aa 20 69) ?_;(refine jG (aa 20 71) 1 F (aq F F F) ?_);(refine jG (aa 20 79) 3 F (ax F F oM) ?_);refine jT 14 [4] (aa 20 95) ?_;(refine jG (aa 20 127) 5 F (mn F F F oM F F) ?_);(refine jG (aa 20 255) 7 F (aq F F F) ?_);refine jT 10 [8,9] (aa 20 1023) ?_;(try ((refine Nx.re (d:=107) (v':=Bo false) F (congrArg Value.bool (aC oM)) ?_)));refine jT 7 [10,12,16] (aa 20 71679) ?_;(refine jG (aa 20 73727) 11 F (aq F F F) ?_);(refine jG (aa 20 81919) 13 F (ax F F oM) ?_);refine jT 4 [14] (aa 20 98303) ?_;(refine jG (aa 20 131071) 15 F (mn F F F oM F F) ?_);(refine jG (aa 20 262143) 17 F (aq F F F) ?_);refine jT 1 [18] (aa 20 524287) ?_;(refine jG (aa 20 1048575) 19 F (aH F F F) ?_);refine jQ ?_))
             refine aW (k + 1) ⟨oM,fun m hm=>?_⟩ oM tU F aX
             rcases Nat.lt_or_ge m k with h3 | h3
             · exact Hk.2 m h3
             · have : m = k:=oM
               subst this;exact ⟨hb1,hb2⟩
           · have hfr : fresh f fs = false:=by
               unfold fresh
               rw [List.all_eq_false]
               exact ⟨ae fs k,bT hk,by simpa using hbad⟩
             have hno : cR (c :: r) = none:=by
               rw [hfr,if_neg (by simp)] at hi3
               rw [hty,← hi3]
             by_cases htag : f.tag ≤ (ae fs k).tag
             case' neg => have hnm : (ae fs k).name = f.name := by
                           by_cases h6 : (ae fs k).name = f.name
                           · exact h6
                           · exact absurd ⟨oM,h6⟩ hbad
             all_goals repeat' (first | refine jR ?_ | (refine jo ?_;first | refine jC F F F ?_ | refine aj F ?_ | refine aG F ?_ | refine jV (aw F) ?_) | (refine ac F (by first | rfl | (refine decide_eq_true ?_;first | assumption | omega)) ?_) | (refine ai (an (id:=21) _ (fun _ h=>h) ah ?_);refine jT 17 [0,2,6] (aa 20 69) ?_;(refine jG (aa 20 71) 1 F (aq F F F) ?_);(refine jG (aa 20 79) 3 F (ax F F oM) ?_);refine jT 14 [4] (aa 20 95) ?_;(refine jG (aa 20 127) 5 F (mn F F F oM F F) ?_);(refine jG (aa 20 255) 7 F (aq F F F) ?_);refine jT 10 [8,9] (aa 20 1023) ?_;(try (first | (refine Nx.re (d:=107) (v':=Bo true) F (congrArg Value.bool (ay ‹_›)) ?_) | (refine Nx.re (d:=107) (v':=Bo false) F (congrArg Value.bool (aC ‹_›)) ?_)));refine jT 7 [10,12,16] (aa 20 71679) ?_;(first | refine jG (aa 20 73727) 11 F (aq F F F) ?_ | refine jN (aa 20 73727) 11 F ?_);(first | refine jG (aa 20 81919) 13 F (ax F F oM) ?_ | refine jN (aa 20 81919) 13 F ?_);refine jT 4 [14] (aa 20 98303) ?_;(first | refine jG (aa 20 131071) 15 F (mn F F F oM F F) ?_ | refine jN (aa 20 131071) 15 F ?_);(first | refine jG (aa 20 262143) 17 F (aq F F F) ?_ | refine jN (aa 20 262143) 17 F ?_);refine jT 1 [18] (aa 20 524287) ?_;(first | refine jG (aa 20 1048575) 19 F (aT F F F) ?_ | refine jG (aa 20 1048575) 19 F (aH F F F) ?_);refine jQ ?_))
             all_goals refine Nx.sealS (v:=.slice (some ⟨bu,0,none⟩) fs.length cu) fun G' hle2 hsl=>?_
             all_goals refine jZ (vs:=[_,_]) F ⟨aE F F F F,F,trivial⟩ F ⟨hle.trans hle2,F,?_⟩
             all_goals exact ⟨.slice (some ⟨bu,0,none⟩) fs.length cu,⟨bt (c :: r) (Int.toNat 0),r.take j,fs⟩,false,F,by rw [hno];rfl,hsl⟩
         · have hfr : fresh f fs = true:=by
             unfold fresh
             rw [List.all_eq_true]
             intro g hg
             obtain ⟨m,hm,rfl⟩:=j9 hg
             simpa using Hk.2 m oM
           rw [hfr,if_pos rfl] at hi3
           have hxl : xs.length ≤ 1001:=oM
           repeat' (first | refine jR ?_ | (refine jo ?_;first | refine aj F ?_ | refine aG F ?_ | refine jV (aw F) ?_ | refine jF fun _=>?_ | refine mz F F F F F F F F oM fun _=>?_) | refine ad F (aC oM) ?_)
           rename_i u2
           refine Nx.shp (v:=u2) (.head _) fun hs4=>?_
           obtain ⟨a4,c4,rfl⟩:=hs4.sl
           repeat' (first | refine jM ?_ | (refine jo ?_;refine jD F F F ?_))
           refine aW (.slice a4 (fs.length + 1) c4,fs ++ [f],i + 1) ⟨by dsimp only;omega,by simp;omega,hi3⟩ (by dsimp only;omega) tU rfl (by dsimp only;simp only [cy,List.length_append,List.length_cons,List.length_nil,Nat.zero_add];repeat (first | exact List.Sublist.refl _ | apply List.Sublist.cons_cons | apply List.Sublist.cons)))
def gY (G : Gh) (b : Nat) (t : Ty) : Prop:=∃ fv ln,bW G b 0 [U8 t.sort,S t.name,fv,S ln] ∧ bh G fv 6 t.fields.length (aA iM t.fields)
theorem gY.mono {G G' : Gh} {b : Nat} {t : Ty} (h : gY G b t) (hl : Gh.le G G') : gY G' b t:=by
 obtain ⟨fv,ln,h1,h2⟩:=h
 exact ⟨fv,ln,h1.mono hl,h2.mono hl⟩
def z5 (s : abL) (v : Value) (G : Gh) : Prop:=(cR s = none ∧ ∃ p,v = Tu [p,Bo false]) ∨ ∃ b t,v = Tu [Pt b 0,Bo true] ∧ cR s = some t ∧ gY G b t
abbrev um : TypeId:=164
abbrev tTi : TypeId:=162
theorem lS {k : Nat} : ∀ {xs : List abL} {fs gs : List Fld},cK k xs fs = some gs → gs.length = fs.length + xs.length
 | [],fs,gs,h=>by simp only [cK,Option.some.injEq] at h;subst h;simp
 | x :: xs,fs,gs,h=>by
  unfold cK at h
  split at h
  ·cases h
  ·split at h
   ·have:=lS h;simp at this ⊢;omega
   ·cases h
theorem rue (c : UInt8) : decide (0 ≤ eU c.toNat [82,85,69]) = decide (dV c.toNat):=by
 have h : ∀ n : Nat,n < 256 → decide (0 ≤ eU n [82,85,69]) = decide (dV n):=by decide +kernel
 exact h _ c.toNat_lt
theorem oG {s : abL} (h : s.length ≤ 1000) : bA abK 117 [S s] G (z5 s):=by
  match s,h with
  | [],h =>
    refine jB [(0,_)] Tryz.func117 Tryz.ntmps117 fun B hok hB hW=>?_
    repeat' (first | refine jR ?_ | (refine jo ?_;refine aL F ?_) | refine aD F F F ?_ | refine ac F F ?_)
    all_goals refine jZ (vs:=[_,_]) F ⟨F,F,trivial⟩ F ⟨Gh.le.refl _,F,?_⟩
    all_goals exact .inl ⟨F,_,F⟩
  | c :: r,h =>
    have cx_cont : am abK 155 [S [82,85,69],S [c]] G (· = Bo (decide (dV c.toNat))):=by rw [← rue];exact t3
    by_cases hs : dV c.toNat
    case neg =>
      have hno : cR (c :: r) = none:=by
        cases ht : (aF 61 r).2.2 with
        | false=>exact ki ht
        | true=>rw [me (c:=c) (r:=r) (name:=(aF 61 r).1) (rest:=(aF 61 r).2.1) (by rw [← ht]),if_neg fun h=>hs h.2]
      have hs2 : (!decide (dV c.toNat)) = true:=by simpa using hs
      refine jB [(0,_)] Tryz.func117 Tryz.ntmps117 fun B hok hB hW=>?_
      repeat' (first | refine jX ?_ | (refine jo ?_;first | refine av F ?_ | refine ab F F F cx_cont F ?_) | refine al F F F ?_ | refine ac F ‹_› ?_)
      all_goals refine jZ (vs:=[_,_]) F ⟨F,F,trivial⟩ F ⟨Gh.le.refl _,F,?_⟩
      all_goals exact .inl ⟨hno,_,F⟩
    have hs2 : (!decide (dV c.toNat)) = false:=by simpa using hs
    have hcl:=iP (k:=61) (s:=r)
    have hrl : r.length ≤ 1000:=by simp at h;omega
    have cx_cut : am abK 116 [S r,S [61]] G (· = Tu [S (aF 61 r).1,S (aF 61 r).2.1,Bo (aF 61 r).2.2]):=oO (c:=61) oM
    cases ht : (aF 61 r).2.2 with
    | false =>
      rw [ht] at cx_cut
      refine jB [(0,_)] Tryz.func117 Tryz.ntmps117 fun B hok hB hW=>?_
      repeat' (first | refine jX ?_ | (refine jo ?_;first | refine aL F ?_ | refine av F ?_ | refine ab F F F cx_cont F ?_ | refine ab F F F cx_cut F ?_) | refine aD F F F ?_ | refine al F F F ?_ | refine ac F F ?_ | refine ad F ‹_› ?_)
      all_goals refine jZ (vs:=[_,_]) F ⟨F,F,trivial⟩ F ⟨Gh.le.refl _,F,?_⟩
      all_goals exact .inl ⟨ki ht,_,F⟩
    | true =>
      have hty:=me (c:=c) (r:=r) (name:=(aF 61 r).1) (rest:=(aF 61 r).2.1) (by rw [← ht])
      rw [ht] at cx_cut
      generalize (aF 61 r).1 = name at *
      generalize (aF 61 r).2.1 = rest at *
      have e0 : bt (c :: r) (Int.toNat 0) = c.toNat:=be c r
      by_cases hn : b5 name = true
      case neg =>
        have hn2 : (!b5 name) = true:=by simpa using hn
        have hno : cR (c :: r) = none:=by rw [hty,if_neg fun h=>hn h.1]
        refine jB [(0,_)] Tryz.func117 Tryz.ntmps117 fun B hok hB hW=>?_
        repeat' (first | refine jX ?_ | (refine jo ?_;first | refine av F ?_ | refine ab F F F cx_cont F ?_ | refine ab F F F cx_cut F ?_ | refine ab F F F (cZ oM) F ?_) | refine al F F F ?_ | refine ac F ‹_› ?_ | refine ad F ‹_› ?_)
        all_goals refine jZ (vs:=[_,_]) F ⟨F,F,trivial⟩ F ⟨Gh.le.refl _,F,?_⟩
        all_goals exact .inl ⟨hno,_,F⟩
      have hn2 : (!b5 name) = false:=by rw [hn];rfl
      rw [if_pos ⟨hn,hs⟩] at hty
      by_cases hr : rest = []
      · rw [if_pos hr] at hty
        by_cases h82 : c.toNat = 82
        · rw [if_pos h82] at hty
          have e82 : bt (c :: r) (Int.toNat 0) = 82:=oM
          refine jB [(0,_)] Tryz.func117 Tryz.ntmps117 fun B hok hB hW=>?_
          repeat' (first | refine jX ?_ | (refine jo ?_;first | refine av F ?_ | refine jV (ao F F) ?_ | refine jO fun _=>?_ | refine ab F F F cx_cont F ?_ | refine ab F F F cx_cut F ?_ | refine ab F F F (cZ oM) F ?_) | refine al F F F ?_ | refine ac F (ay ‹_›) ?_ | refine ad F ‹_› ?_ | (refine ai (an (id:=8) _ (fun _ h=>h) ah ?_);refine jT 3 [0,1,2,3,6] (aa 8 79) ?_;(refine jG (aa 8 95) 4 F (aq F F F) ?_);refine jT 0 [5,7] (aa 8 255) ?_;refine jQ ?_))
          rename_i x
          refine Nx.sealC (b:=x) fun G' hle hseg=>?_
          refine jZ (vs:=[_,_]) F ⟨F,F,trivial⟩ F ⟨hle,F,?_⟩
          rw [e82] at hseg
          refine .inr ⟨x,⟨82,name,[]⟩,?_,hty,_,_,hseg,bh.nil0⟩
          show Tu [Pt x 0,Bo (decide (((bt (c :: r) (Int.toNat 0) : Nat) : Int) = 82))] = _
          rw [e82];rfl
        · rw [if_neg h82] at hty
          have e82 : ¬ bt (c :: r) (Int.toNat 0) = 82:=oM
          refine jB [(0,_)] Tryz.func117 Tryz.ntmps117 fun B hok hB hW=>?_
          repeat' (first | refine jX ?_ | (refine jo ?_;first | refine av F ?_ | refine jV (ao F F) ?_ | refine jO fun _=>?_ | refine ab F F F cx_cont F ?_ | refine ab F F F cx_cut F ?_ | refine ab F F F (cZ oM) F ?_) | refine al F F F ?_ | refine ac F (ay ‹_›) ?_ | refine ad F ‹_› ?_ | (refine ai (an (id:=8) _ (fun _ h=>h) ah ?_);refine jT 3 [0,1,2,3,6] (aa 8 79) ?_;(refine jG (aa 8 95) 4 F (aq F F F) ?_);refine jT 0 [5,7] (aa 8 255) ?_;refine jQ ?_))
          all_goals refine jZ (vs:=[_,_]) F ⟨F,F,trivial⟩ F ⟨Gh.le.refl _,F,?_⟩
          all_goals exact .inl ⟨hty,_,by rw [dD,decide_eq_false (show ¬ ((bt (c :: r) (Int.toNat 0) : Nat) : Int) = 82 by omega)]⟩
      · rw [if_neg hr] at hty
        have hall : ∀ y ∈ a7 44 rest,y.length ≤ 1000:=fun y hy=>Nat.le_trans (c8 hy) oM
        have hcnt:=jk (k:=44) (s:=rest)
        have cx_split : bA abK 98 [S rest,S [44]] G (fun v G'=>∃ b o cap,v = .slice (some ⟨b,o,none⟩) (a7 44 rest).length cap ∧ bW G' b o (aA dv (a7 44 rest))):=k3 (c:=44) _ oM rfl rfl rfl dH
        generalize a7 44 rest = xs at *
        refine jB [(0,_)] Tryz.func117 Tryz.ntmps117 fun B hok hB hW=>?_
        repeat' (first | refine jX ?_ | (refine jo ?_;first | refine av F ?_ | refine jV (ao F F) ?_ | refine jO fun _=>?_ | refine jV (aw F) ?_ | refine ab F F F cx_cont F ?_ | refine ab F F F cx_cut F ?_ | refine ab F F F (cZ oM) F ?_ | (refine aJ F F F cx_split F ?_;rintro _ G hle ⟨b1,o1,cap1,rfl,hseg⟩;skip)) | refine al F F F ?_ | (refine ad F (by first | assumption | (refine decide_eq_false ?_;(assumption))) ?_))
        rename_i x
        have hle0:=hle
        refine Nx.addNil um 6 ?_
        refine aR (ι:=Value × List Fld × Nat × Gh) (fun i=>((i.2.2.1 ≤ xs.length ∧ i.2.1.length ≤ i.2.2.1) ∧ i.2.1.length ≤ 8) ∧ cK c.toNat (xs.drop i.2.2.1) i.2.1 = cK c.toNat xs [] ∧ Gh.le G i.2.2.2) (fun i=>[(7,Pt x 0),(51,.slice (some ⟨b1,o1,none⟩) xs.length cap1),(52,I xs.length),(53,I i.2.2.1)]) (fun i=>i.2.2.2) (fun i=>[.acc i.1 um 6 i.2.1.length (aA iM i.2.1),.blk x (.cells [U8 (bt (c :: r) (Int.toNat 0) : Nat),S name,i.1,S (c :: r)].toArray tTi (0,0))]) (fun i=>xs.length - i.2.2.1) (aK,[],0,G) ?_ tU F aX (fun i Hi=>?_)
        · exact ⟨⟨⟨Nat.zero_le _,Nat.le_refl _⟩,by simp⟩,F,Gh.le.refl _⟩
        obtain ⟨u,fs,i,Gk⟩:=i
        dsimp only at Hi ⊢
        obtain ⟨⟨⟨hi1,hi2⟩,hi8⟩,hi3,hgk⟩:=Hi
        have hsk:=hseg.mono hgk
        refine Nx.shp (v:=u) (.head _) fun hsh=>?_
        have hsh2:=hsh
        obtain ⟨au,cu,rfl⟩:=hsh.sl
        by_cases hix : i < xs.length
        case neg =>
          have ei : i = xs.length:=oM
          rw [ei,List.drop_length,cK] at hi3
          have hyes : cR (c :: r) = some ⟨c.toNat,name,fs⟩:=by rw [hty,← hi3];exact if_pos hi8
          repeat' (first | refine jR ?_ | refine ad F (aC oM) ?_)
          refine Nx.sealS (v:=.slice au fs.length cu) fun G1 hle1 hsl=>?_
          refine Nx.sealC (b:=x) fun G2 hle2 hsg2=>?_
          refine jZ (vs:=[_,_]) F ⟨F,F,trivial⟩ F ⟨((hle.trans hgk).trans hle1).trans hle2,F,?_⟩
          exact .inr ⟨x,⟨c.toNat,name,fs⟩,F,hyes,_,_,hsg2,hsl.mono hle2⟩
        rw [qY hix,cK] at hi3
        have hx:=hall _ (bT hix)
        repeat' (first | refine jR ?_ | (refine jo ?_;first | refine aL F ?_ | refine av F ?_ | refine aj F ?_ | (refine jV (gS F F aS ?_) ?_;focus omega) | refine jV (aw F) ?_ | refine jV (ax F F oM) ?_ | refine jL fun _=>?_ | refine jC F F F ?_ | (refine aJ F F F (rU oM) F ?_;rintro _ G hle ⟨f,ok,rfl,hfld⟩;skip)) | refine kG F F (fun _=>?_) (fun _=>?_) | (refine ac F (by first | rfl | (refine decide_eq_true ?_;(omega))) ?_) | refine cT F (fun _=>?_) (fun _=>?_))
        all_goals first
          | (rename_i z hq h8
             have hq2 : ok = true:=by simpa using hq
             subst hq2
             have hf1 : bK (ae xs i) c.toNat = some f:=hfld
             rw [hf1] at hi3
             dsimp only at hi3
             have h9 : fs.length = 8:=oM
             have hno : cR (c :: r) = none:=by
               rw [hty]
               cases hgs : cK c.toNat xs [] with
               | none=>rfl
               | some gs =>
                 rw [hgs] at hi3
                 split at hi3
                 · have:=lS hi3
                   simp at this
                   exact if_neg oM
                 · cases hi3
             refine jZ (vs:=[_,_]) F ⟨F,F,trivial⟩ F ⟨(hle0.trans hgk).trans hle,F,?_⟩
             exact .inl ⟨hno,_,F⟩)
          | (rename_i z hq
             have hq2 : ok = false:=by simpa using hq
             subst hq2
             have hf0 : bK (ae xs i) c.toNat = none:=hfld
             have hno : cR (c :: r) = none:=by rw [hf0] at hi3;rw [hty,← hi3]
             refine jZ (vs:=[_,_]) F ⟨F,F,trivial⟩ F ⟨(hle0.trans hgk).trans hle,F,?_⟩
             exact .inl ⟨hno,_,F⟩)
          | (rename_i z hq h8
             have hq2 : ok = true:=by simpa using hq
             subst hq2
             have hf1 : bK (ae xs i) c.toNat = some f:=hfld
             rw [hf1] at hi3
             dsimp only at hi3
             have h9 : fs.length ≠ 8:=oM
             refine aR (ι:=Nat) (fun k=>k ≤ fs.length ∧ ∀ m,m < k → (ae fs m).tag < f.tag ∧ (ae fs m).name ≠ f.name) (fun k=>[(7,Pt x 0),(10,Pt z 0),(51,.slice (some ⟨b1,o1,none⟩) xs.length cap1),(52,I xs.length),(53,I i),(79,.slice au fs.length cu),(80,I fs.length),(81,I k)]) (fun _=>G) (fun k=>[.blk z (.cells (iM f).toArray um (0,0)),.acc (.slice au fs.length cu) um 6 fs.length (aA iM fs),.blk x (.cells [U8 (bt (c :: r) (Int.toNat 0) : Nat),S name,.slice au fs.length cu,S (c :: r)].toArray tTi (0,0))]) (fun k=>fs.length - k) 0 ?_ tU F aX (fun k Hk=>?_)
             · exact ⟨Nat.zero_le _,fun m hm=>absurd hm oM⟩
             by_cases hk : k < fs.length
             · obtain ⟨bu,cu2,eu⟩:=hsh2.pos oM
               simp only [Value.slice.injEq] at eu
               obtain ⟨rfl,-,rfl⟩:=eu
               by_cases hbad : (ae fs k).tag < f.tag ∧ (ae fs k).name ≠ f.name
               · obtain ⟨hb1,hb2⟩:=hbad
                 repeat' (first | refine jM ?_ | (refine jo ?_;first | refine av F ?_ | refine aj F ?_ | refine jV (uJ F F F oM) ?_ | refine jV (ax F F oM) ?_ | refine jL fun _=>?_ | refine jC F F F ?_) | refine al F F (aC ‹_›) ?_ | refine ac F (ay oM) ?_ | refine ad F (aC oM) ?_)
                 refine aW (k + 1) ⟨oM,fun m hm=>?_⟩ oM tU F sB
                 rcases Nat.lt_or_ge m k with h3 | h3
                 · exact Hk.2 m h3
                 · have : m = k:=oM
                   subst this;exact ⟨hb1,hb2⟩
               · have hfr : fresh f fs = false:=by
                   unfold fresh
                   rw [List.all_eq_false]
                   exact ⟨ae fs k,bT hk,by simpa using hbad⟩
                 have hno : cR (c :: r) = none:=by
                   rw [hfr,if_neg (by simp)] at hi3
                   rw [hty,← hi3]
                 by_cases hnm : (ae fs k).name = f.name
                 case' neg => have htag : f.tag ≤ (ae fs k).tag := by
                               rcases Int.lt_or_le (ae fs k).tag f.tag with h6 | h6
                               · exact absurd ⟨h6,hnm⟩ hbad
                               · exact h6
                 all_goals repeat' (first | refine jR ?_ | (refine jo ?_;first | refine aL F ?_ | refine av F ?_ | refine aj F ?_ | refine jV (uJ F F F oM) ?_ | refine jV (ax F F oM) ?_ | refine jL fun _=>?_ | refine jC F F F ?_) | refine aD F F (ay ‹_›) ?_ | refine al F F (aC ‹_›) ?_ | (refine ac F (by first | rfl | (refine decide_eq_true ?_;first | assumption | omega)) ?_))
                 all_goals refine jZ (vs:=[_,_]) F ⟨F,F,trivial⟩ F ⟨(hle0.trans hgk).trans hle,F,?_⟩
                 all_goals exact .inl ⟨hno,_,F⟩
             · have hfr : fresh f fs = true:=by
                 unfold fresh
                 rw [List.all_eq_true]
                 intro g hg
                 obtain ⟨m,hm,rfl⟩:=j9 hg
                 simpa using Hk.2 m oM
               rw [hfr,if_pos rfl] at hi3
               have hxl : xs.length ≤ 1001:=oM
               repeat' (first | refine jR ?_ | refine ad F (aC oM) ?_)
               (refine ai (an (id:=21) [.blk z (.cells (iM f).toArray um (0,0))] (by intro y hy;simp only [List.mem_cons,List.not_mem_nil,or_false] at hy ⊢;simp [hy]) ah ?_);refine jW 7 [0,1,2,3] (aa 11 15) ?_;(refine jG (aa 11 47) 5 F (bq F F F F) ?_);refine dy [4,6] kR dC ⟨?_,?_,trivial⟩;(focus (refine bY F F ?_;(refine aj F ?_);refine jK (aa 11 63) ?_;refine jA 6 F ?_;(refine jF fun _=>?_);refine jK (aa 11 127) ?_;refine jA 7 F ?_;((refine cQ F F F F F F F F F ?_ fun _ _=>?_;focus omega));refine jK (aa 11 255) ?_;refine jW 1 [8,9] (aa 11 1023) ?_;refine jA 10 F ?_;(refine jD F F F ?_);refine jK (aa 11 2047) ?_;refine jQ ?_));rotate_left 1;(focus (refine bY F F ?_;(refine jF fun _=>?_);refine jK (aa 11 111) ?_;refine jA 4 F ?_;(refine aj F ?_);refine jK (aa 11 127) ?_;refine jA 7 F ?_;((refine cQ F F F F F F F F F ?_ fun _ _=>?_;focus omega));refine jK (aa 11 255) ?_;refine jW 1 [8,9] (aa 11 1023) ?_;refine jA 10 F ?_;(refine jD F F F ?_);refine jK (aa 11 2047) ?_;refine jQ ?_));rotate_left 1)
               all_goals rename_i w b2 c2
               all_goals repeat' (refine jM ?_)
               all_goals refine aW (.slice (some ⟨b2,0,none⟩) (fs.length + 1) c2,fs ++ [f],i + 1,G) ⟨⟨⟨by dsimp only;omega,by simp;omega⟩,by simp;omega⟩,hi3,hgk.trans hle⟩ (by dsimp only;omega) tU rfl (by dsimp only;simp only [cy,List.length_append,List.length_cons,List.length_nil,Nat.zero_add];repeat (first | exact List.Sublist.refl _ | apply List.Sublist.cons_cons | apply List.Sublist.cons)))
abbrev b8:=(Option Addr × Nat) × Ty
def gP (x : b8) : Value:=.slice x.1.1 x.2.fields.length x.1.2
def iA (x : b8) : List Value:=[U8 x.2.sort,S x.2.name,gP x]
instance : RowF iA 3:=⟨fun _=>rfl⟩
def zT : b8:=((none,0),⟨0,[],[]⟩)
theorem bh.sl {G : Gh} {v : Value} {sz m : Nat} {xs : List Value} (h : bh G v sz m xs) : ∃ a cap,v = .slice a m cap:=by
 obtain ⟨_,⟨rfl,rfl⟩ | ⟨b,o,cap,rfl,_⟩⟩:=h
 ·exact ⟨none,0,F⟩
 ·exact ⟨_,cap,F⟩
structure SchR (G : Gh) (u : Value) (vs : List b8) : Prop where
 sl : bh G u 3 vs.length (aA iA vs)
 fl : ∀ x ∈ vs,bh G (gP x) 4 x.2.fields.length (aA gB x.2.fields)
theorem SchR.mono {G G' : Gh} {u : Value} {vs : List b8} (h : SchR G u vs) (hl : Gh.le G G') : SchR G' u vs:=⟨h.sl.mono hl,fun x hx=>(h.fl x hx).mono hl⟩
def ag (vs : List b8) : List Ty:=vs.map (·.2)
def eX (vs : List b8) (n : abL) : Option b8:=vs.find? fun x=>decide (x.2.name = n)
def eH (vs : List b8) (k : abL) : Option b8:=(bE k).bind (eX vs)
theorem qV (vs : List b8) (n : abL) : (eX vs n).map (·.2) = gj (ag vs) n:=by
 unfold eX gj ag
 induction vs with
 | nil=>rfl
 | cons x vs ih =>
  simp only [List.map_cons,List.find?_cons]
  split <;> simp_all
theorem uQ {vs : List b8} {n : abL} {x : b8} (h : eX vs n = some x) : x ∈ vs ∧ x.2.name = n:=by
 unfold eX at h
 exact ⟨List.mem_of_find?_eq_some h,by simpa using List.find?_some h⟩
theorem v9 {vs : List b8} {n : abL} {i : Nat} (hi : i < vs.length) (h : ∀ k,k < i → (ae vs k).2.name ≠ n) (h2 : (ae vs i).2.name = n) : eX vs n = some (ae vs i):=by
 unfold eX
 rw [List.find?_eq_some_iff_getElem]
 rw [a6 hi] at h2 ⊢
 refine ⟨by simpa using h2,i,hi,F,fun j hj=>?_⟩
 have:=h j hj
 rw [a6 oM] at this
 simpa using this
theorem tI {vs : List b8} {n : abL} (h : ∀ k,k < vs.length → (ae vs k).2.name ≠ n) : eX vs n = none:=by
 unfold eX
 rw [List.find?_eq_none]
 intro x hx
 obtain ⟨i,hi,rfl⟩:=List.mem_iff_getElem.1 hx
 have:=h i hi
 rw [a6 hi] at this
 simpa using this
theorem rr {u : Value} {vs : List b8} {n : abL} (h : SchR G u vs) (hn : vs.length ≤ 1000000) : am abK 82 [u,S n] G (· = Tu [Ag (iA ((eX vs n).getD zT)),Bo (eX vs n).isSome]):=by
 have hsl:=h.sl
 refine jE [(0,_),(1,_)] Tryz.func82 Tryz.ntmps82 fun B hB=>?_
 repeat' (first | refine jR ?_ | (refine jo ?_;refine jL fun _=>?_))
 rename_i x
 refine aR (ι:=Nat) (fun i=>i ≤ vs.length ∧ ∀ k,k < i → (ae vs k).2.name ≠ n) (fun i=>[(0,u),(1,S n),(4,Pt x 0),(6,I i)]) (fun _=>G) (fun i=>[.blk x (.cells [U8 0,S [],aK].toArray pr (0,0))]) (fun i=>vs.length - i) 0 ?_ tU F aX (fun i Hi=>?_)
 ·exact ⟨oM,fun k hk=>absurd hk oM⟩
 by_cases hi : i < vs.length
 ·obtain ⟨b,o,cap,rfl,hs⟩:=hsl.expl oM
  repeat' (first | refine jM ?_ | (refine jo ?_;first | refine jV (aw F) ?_ | refine jV (ax F F oM) ?_ | (refine jV (cD F F aS ?_) ?_;focus omega) | (refine jV (bN F F aS ?_ F F) ?_;focus omega) | refine jC F F F ?_) | refine ac F (ay oM) ?_ | refine cT F (fun _=>?_) (fun _=>?_))
  ·rename_i he
   refine jZ (vs:=[_,_]) F ⟨aE F F F F,F,trivial⟩ F ⟨F,F,?_⟩
   rw [v9 hi Hi.2 he];rfl
  ·rename_i he
   refine aW (i + 1) ⟨oM,fun k hk=>?_⟩ oM tU F aX
   rcases Nat.lt_or_ge k i with h3 | h3
   ·exact Hi.2 k h3
   ·have : k = i:=oM
    subst this;exact he
 ·repeat' (first | refine jR ?_ | (refine jo ?_;first | refine jV (cY F aS) ?_ | refine jC F F F ?_ | refine jV (ao F F) ?_) | refine ad F (aC oM) ?_)
  refine jZ (vs:=[_,_]) F ⟨aE F F F F,F,trivial⟩ F ⟨F,F,?_⟩
  rw [tI fun k hk=>Hi.2 k oM];rfl
theorem k9 {s : abL} (h : eg s = true) (hl : s.length ≤ 1000000) : am abK 80 [S s] G (· = Tu [S ((bE s).getD []),Bo (bE s).isSome]):=by
 match s,h with
 | c :: r,h =>
  by_cases hr : r = []
  ·have hc : ¬ c.toNat = 64:=by
    intro hc
    subst hr
    rw [eg,if_neg oM,if_pos hc] at h
    simp [be,hc] at h
   have e0:=lf c r
   have hq : bE (c :: r) = none:=by simp [bE,hc]
   rw [hq]
   refine jE [(0,_)] Tryz.func80 Tryz.ntmps80 fun B hB=>?_
   repeat' (first | refine jX ?_ | (refine ac F ?_ ?_;(focus ((simp;omega);done))))
   all_goals refine jY (vs:=[_,_]) ?_
   all_goals rfl
  ·have:=xY (G:=G) (c:=c) hr (by simp at hl;omega)
   refine this.mono ?_
   rintro v G' L' ⟨h1,h2,h3⟩
   refine ⟨h1,h2,h3.trans ?_⟩
   by_cases hc : c.toNat = 64 <;> simp [bE,hc]
theorem k4 {u : Value} {vs : List b8} {k : abL} (h : SchR G u vs) (hn : vs.length ≤ 1000000) (hk : eg k = true) (hl : k.length ≤ 1000000) : am abK 113 [u,S k] G (· = Tu [Ag (iA ((eH vs k).getD zT)),Bo (eH vs k).isSome]):=by
 rcases hr : bE k with _ | n
 ·have e : eH vs k = none:=by simp [eH,hr]
  rw [e]
  have cx_ref : am abK 80 [S k] G (· = Tu [S [],Bo false]):=by have:=k9 (G:=G) hk hl;rwa [hr] at this
  refine jE [(0,_),(1,_)] Tryz.func113 Tryz.ntmps113 fun B hB=>?_
  repeat' (first | refine jR ?_ | (refine jo ?_;first | refine jL fun _=>?_ | refine jV (ao F F) ?_ | refine jC F F F ?_ | refine ab F F F cx_ref F ?_) | refine ac F F ?_)
  all_goals refine jZ (vs:=[_,_]) F ⟨aE F F F F,F,trivial⟩ F ⟨F,F,?_⟩
  all_goals rfl
 ·have e : eH vs k = eX vs n:=by simp [eH,hr]
  rw [e]
  have cx_ref : am abK 80 [S k] G (· = Tu [S n,Bo true]):=by have:=k9 (G:=G) hk hl;rwa [hr] at this
  refine jE [(0,_),(1,_)] Tryz.func113 Tryz.ntmps113 fun B hB=>?_
  repeat' (first | refine jR ?_ | (refine jo ?_;first | refine jL fun _=>?_ | refine jC F F F ?_ | refine ab F F F cx_ref F ?_ | (refine ab F F F (rr (by (repeat (assumption));done) oM) rfl ?_)) | refine ad F F ?_)
  all_goals refine jZ (vs:=[_,_]) F ⟨aE F F F F,F,trivial⟩ F ⟨F,F,?_⟩
  all_goals rfl
theorem fW (vs : List b8) (k : abL) : (eH vs k).map (·.2) = aV (ag vs) k:=by
 unfold eH aV
 cases bE k with
 | none=>rfl
 | some n=>simp only [Option.bind_some];exact qV vs n
theorem fQ {vs : List b8} {k : abL} {x : b8} (h : eH vs k = some x) : x ∈ vs:=by
 unfold eH at h
 cases hr : bE k with
 | none=>rw [hr] at h;cases h
 | some n=>rw [hr] at h;exact (uQ h).1
theorem dc {s : abL} (h : bz s = true) : eg s = true ∧ s.length ≤ 12:=by
 unfold bz at h;simp only [Bool.and_eq_true,decide_eq_true_eq] at h;exact ⟨h.2,h.1⟩
theorem zS {u : Value} {vs : List b8} {x0 : b8} (h : SchR G u vs) (hn : vs.length ≤ 1000) (hw : ∀ x ∈ vs,TyW x.2) (hx : x0 ∈ vs) :
  am abK 148 [u,Ag (iA x0)] G (· = Bo (bO (ag vs) (vs.length + 1) x0.2)):=by
 have hsl:=h.sl
 refine jE [(0,_),(1,_)] Tryz.func148 Tryz.ntmps148 fun B hB=>?_
 repeat' (first | refine jR ?_ | (refine jo ?_;refine jO fun _=>?_))
 rename_i b0
 refine aR (ι:=b8 × Nat) (fun i=>i.1 ∈ vs ∧ i.2 ≤ vs.length + 1 ∧ bO (ag vs) (vs.length + 1 - i.2) i.1.2 = bO (ag vs) (vs.length + 1) x0.2) (fun i=>[(0,u),(3,Pt b0 0),(5,I i.2)]) (fun _=>G) (fun i=>[.blk b0 (.cells (iA i.1).toArray pr (0,0))]) (fun i=>vs.length + 1 - i.2) (x0,0) ?_ tU F aX (fun i Hi=>?_)
 ·exact ⟨hx,Nat.zero_le _,F⟩
 obtain ⟨⟨⟨a,ca⟩,t⟩,n⟩:=i
 dsimp only at Hi ⊢
 obtain ⟨hxm,hnl,he⟩:=Hi
 have hW:=hw _ hxm
 dsimp only at hW
 by_cases hlt : n ≤ vs.length
 case neg =>
  have e0 : vs.length + 1 - n = 0:=oM
  rw [e0] at he
  repeat' (first | refine jR ?_ | (refine jo ?_;refine jV (cY F aS) ?_) | refine ad F (aC oM) ?_)
  refine jY (vs:=[_]) ?_
  rw [← he];rfl
 obtain ⟨m,hm⟩ : ∃ m,vs.length + 1 - n = m + 1:=⟨vs.length - n,oM⟩
 rw [hm,bO] at he
 by_cases hU : t.sort = 85
 case neg =>
  rw [if_pos hU] at he
  repeat' (first | refine jR ?_ | (refine jo ?_;first | refine jV (cY F aS) ?_ | refine aj F ?_) | (refine ac F ?_ ?_;(focus ((first | (refine decide_eq_true ?_;(omega)) | (simp;omega));done))))
  refine jY (vs:=[_]) ?_
  rw [← he];rfl
 rw [if_neg (by simp [hU])] at he
 have hne:=hW.ne oM
 have h0 : 0 < t.fields.length:=List.length_pos_iff.2 hne
 obtain ⟨bf,of,cf,ef,hsf⟩:=(h.fl _ hxm).expl h0
 simp only [gP,Value.slice.injEq] at ef
 obtain ⟨rfl,-,rfl⟩:=ef
 dsimp only at hsf
 have hk0 : fp t = (ae t.fields 0).kind:=by
  unfold fp ae
  cases t.fields with
  | nil=>rfl
  | cons f r=>rfl
 have hkk:=dc ((hW.fld _ (bT h0)).kind oM)
 rw [hk0] at he
 have href:=fW vs (ae t.fields 0).kind
 have cx_rf:=k4 (k:=(ae t.fields 0).kind) h oM hkk.1 oM
 rcases hr : eH vs (ae t.fields 0).kind with _ | ⟨⟨a2,c2⟩,t2⟩
 ·rw [hr] at href cx_rf
  rw [← href] at he
  repeat' (first | refine jR ?_ | (refine jo ?_;first | refine jV (cY F aS) ?_ | refine aj F ?_ | (refine jV (bN F F aS ?_ F F) ?_;focus omega) | refine jV (ax F F oM) ?_ | refine jL fun _=>?_ | refine jC F F F ?_ | refine ab F F F cx_rf F ?_) | (refine ac F (by first | rfl | (refine decide_eq_true ?_;(omega))) ?_) | (refine ad F ?_ ?_;(focus ((simp [*];done);done))))
  all_goals refine jY (vs:=[_]) ?_
  all_goals (rw [← he];rfl)
 ·rw [hr] at href cx_rf
  rw [← href] at he
  repeat' (first | refine jM ?_ | (refine jo ?_;first | refine jV (cY F aS) ?_ | refine aj F ?_ | (refine jV (bN F F aS ?_ F F) ?_;focus omega) | refine aG F ?_ | refine jV (ax F F oM) ?_ | refine jL fun _=>?_ | refine jC F F F ?_ | refine ab F F F cx_rf F ?_) | refine ac F (ay oM) ?_ | (refine ad F ?_ ?_;(focus ((first | rfl | (simp [*];done));done))))
  refine aW (((a2,c2),t2),n + 1) ⟨fQ hr,by dsimp only;omega,?_⟩ (by dsimp only;omega) tU rfl sB
  dsimp only
  rw [show vs.length + 1 - (n + 1) = m by omega]
  exact he
theorem oU (vs : List b8) : (ag vs).length = vs.length:=by simp [ag]
theorem j7 {vs : List b8} {i : Nat} (h : i < vs.length) : ae (ag vs) i = (ae vs i).2:=by
 rw [a6 h,a6 (by rw [oU];exact h)];simp [ag]
theorem pM {vs : List b8} {k : abL} : dY (ag vs) k = (!(bE (bm k)).isSome || (eX vs ((bE (bm k)).getD [])).isSome):=by
 unfold dY
 cases bE (bm k) with
 | none=>rfl
 | some n =>
  show (gj (ag vs) n).isSome = _
  rw [← qV];simp
theorem kX {k : abL} (h : eg k = true) : eg (bm k) = true:=by
 induction k with
 | nil=>cases h
 | cons c r ih =>
  unfold bm
  split
  ·rename_i hc;rw [eg,if_pos hc] at h;exact ih h
  ·exact h
theorem jm : ∀ s : abL,(bm s).length ≤ s.length
 | []=>Nat.le_refl _
 | c :: r=>by
  unfold bm
  split
  ·have:=jm r;simp;omega
  ·exact Nat.le_refl _
theorem xN {u : Value} {vs : List b8} (h : SchR G u vs) (hn : vs.length ≤ 1000) (hw : ∀ x ∈ vs,TyW x.2) :
    am abK 106 [u] G (· = Bo (decide (gX (ag vs)))):=by
  have hsl:=h.sl
  have hlen:=oU vs
  refine jE [(0,_)] Tryz.func106 Tryz.ntmps106 fun B hB=>?_
  repeat' (refine jR ?_)
  refine aR (ι:=Nat) (fun i=>i ≤ vs.length ∧ ∀ j,j < i → kf (ag vs) j ∧ gJ (ag vs) (ae (ag vs) j)) (fun i=>[(0,u),(3,I i)]) (fun _=>G) (fun i=>[]) (fun i=>vs.length - i) 0 ?_ tU F aX (fun i Hi=>?_)
  · exact ⟨Nat.zero_le _,fun j hj=>absurd hj oM⟩
  by_cases hi : i < vs.length
  case neg =>
    have ei : i = vs.length:=oM
    subst ei
    have Hall:=Hi.2
    repeat' (first | refine jR ?_ | (refine jo ?_;refine jV (cY F aS) ?_) | refine ad F (aC oM) ?_)
    refine aR (ι:=Nat) (fun i=>i ≤ vs.length ∧ ∀ j,j < i → bO (ag vs) ((ag vs).length + 1) (ae (ag vs) j) = true) (fun i=>[(0,u),(10,I i)]) (fun _=>G) (fun i=>[]) (fun i=>vs.length - i) 0 ?_ tU F aX (fun i Hi=>?_)
    · exact ⟨Nat.zero_le _,fun j hj=>absurd hj oM⟩
    by_cases hi : i < vs.length
    · obtain ⟨b,o,cap,rfl,hs⟩:=hsl.expl oM
      have hm:=bT hi
      have cx_en:=zS h hn hw hm
      by_cases he : bO (ag vs) (vs.length + 1) (ae vs i).2 = true
      · have he2 : (!bO (ag vs) (vs.length + 1) (ae vs i).2) = false:=by rw [he];rfl
        repeat' (first | refine jM ?_ | (refine jo ?_;first | refine jV (aw F) ?_ | refine jV (ax F F oM) ?_ | (refine jV (cD F F aS ?_) ?_;focus omega) | refine ab F F F cx_en F ?_) | refine ac F (ay oM) ?_ | refine ad F ‹_› ?_)
        refine aW (i + 1) ⟨oM,fun j hj=>?_⟩ oM tU F aX
        rcases Nat.lt_or_ge j i with h3 | h3
        · exact Hi.2 j h3
        · have : j = i:=oM
          subst this;rw [hlen,j7 hi];exact he
      · have he2 : (!bO (ag vs) (vs.length + 1) (ae vs i).2) = true:=by simpa using he
        repeat' (first | refine jR ?_ | (refine jo ?_;first | refine jV (aw F) ?_ | refine jV (ax F F oM) ?_ | (refine jV (cD F F aS ?_) ?_;focus omega) | refine ab F F F cx_en F ?_) | (refine ac F (by first | assumption | (refine decide_eq_true ?_;(omega))) ?_))
        refine jY (vs:=[_]) ?_
        refine congrArg Bo (decide_eq_false fun hv=>he ?_).symm
        have:=hv.2 i oM
        rwa [hlen,j7 hi] at this
    · repeat' (first | refine jR ?_ | (refine jo ?_;refine jV (cY F aS) ?_) | refine ad F (aC oM) ?_)
      refine jY (vs:=[_]) ?_
      exact congrArg Bo (decide_eq_true ⟨fun j hj=>Hall j oM,fun j hj=>Hi.2 j oM⟩).symm
  obtain ⟨b,o,cap,rfl,hs⟩:=hsl.expl oM
  rcases hxi : ae vs i with ⟨⟨a,ca⟩,t⟩
  have hm : ((a,ca),t) ∈ vs:=by rw [← hxi];exact bT hi
  have hW:=hw _ hm
  dsimp only at hW
  have hti : ae (ag vs) i = t:=by rw [j7 hi,hxi]
  have hE1 : (((a,ca),t) : b8).2.sort = t.sort:=rfl
  have hE2 : (((a,ca),t) : b8).2.fields.length = t.fields.length:=rfl
  have h8:=hW.len
  have hfl:=h.fl _ hm
  repeat' (first | refine jR ?_ | (refine jo ?_;refine jV (aw F) ?_) | refine ac F (ay oM) ?_)
  refine aR (ι:=Nat) (fun k=>k ≤ i ∧ ∀ j,j < k → (ae (ag vs) j).name ≠ (ae (ag vs) i).name) (fun k=>[(0,.slice (some ⟨b,o,none⟩) vs.length cap),(3,I i),(4,I k)]) (fun _=>G) (fun k=>[]) (fun k=>i - k) 0 ?_ tU F aX (fun k Hk=>?_)
  · exact ⟨Nat.zero_le _,fun j hj=>absurd hj oM⟩
  by_cases hk : k < i
  · have hkv : k < vs.length:=oM
    by_cases hnm : (ae vs k).2.name = t.name
    · repeat' (first | refine jR ?_ | (refine ac F (by refine decide_eq_true ?_;first | assumption | omega) ?_) | (refine ai (an (id:=7) _ (fun _ h=>h) ah ?_);refine jT 7 [0,1,5,6] (aa 11 99) ?_;(refine jG (aa 11 103) 2 F (ax F F oM) ?_);refine jT 5 [3] (aa 11 111) ?_;((refine jG (aa 11 127) 4 F (bN F F aS ?_ F F) ?_;focus omega));(refine jG (aa 11 255) 7 F (ax F F oM) ?_);refine jT 2 [8] (aa 11 511) ?_;((refine jG (aa 11 1023) 9 F (ir F F aS ?_ aS F F) ?_;focus omega));refine jT 0 [10] (aa 11 2047) ?_;refine jQ ?_))
      refine jY (vs:=[_]) ?_
      refine congrArg Bo (decide_eq_false fun hv=>?_).symm
      have:=(hv.1 i oM).1 k hk
      rw [j7 hkv,hti] at this
      exact this hnm
    · repeat' (first | refine jM ?_ | refine ac F (ay oM) ?_ | refine ad F (aC ‹_›) ?_ | (refine ai (an (id:=7) _ (fun _ h=>h) ah ?_);refine jT 7 [0,1,5,6] (aa 11 99) ?_;(refine jG (aa 11 103) 2 F (ax F F oM) ?_);refine jT 5 [3] (aa 11 111) ?_;((refine jG (aa 11 127) 4 F (bN F F aS ?_ F F) ?_;focus omega));(refine jG (aa 11 255) 7 F (ax F F oM) ?_);refine jT 2 [8] (aa 11 511) ?_;((refine jG (aa 11 1023) 9 F (ir F F aS ?_ aS F F) ?_;focus omega));refine jT 0 [10] (aa 11 2047) ?_;refine jQ ?_))
      refine aW (k + 1) ⟨oM,fun j hj=>?_⟩ oM tU F aX
      rcases Nat.lt_or_ge j k with h3 | h3
      · exact Hk.2 j h3
      · have : j = k:=oM
        subst this;rw [j7 hkv,hti];exact hnm
  have hna : kf (ag vs) i:=fun j hj=>Hk.2 j oM
  repeat' (first | refine jR ?_ | refine ad F (aC oM) ?_)
  refine aR (ι:=Nat) (fun k=>(t.sort = 69 ∨ ∀ j,j < k → dY (ag vs) (ae t.fields j).kind = true) ∧ k ≤ t.fields.length) (fun k=>[(0,.slice (some ⟨b,o,none⟩) vs.length cap),(3,I i),(5,I k)]) (fun _=>G) (fun k=>[]) (fun k=>t.fields.length - k) 0 ?_ tU F aX (fun k Hk=>?_)
  · exact ⟨.inr fun j hj=>absurd hj oM,Nat.zero_le _⟩
  by_cases hk : k < t.fields.length ∧ t.sort ≠ 69
  case neg =>
    have hko : gJ (ag vs) (ae (ag vs) i):=by
      rw [hti]
      by_cases h69 : t.sort = 69
      · exact .inl h69
      · refine .inr fun j hj=>?_
        rcases Hk.1 with h3 | h3
        · exact absurd h3 h69
        · exact h3 j oM
    repeat' (first | refine jM ?_ | (refine jo ?_;first | refine jV (aw F) ?_ | refine jV (ax F F oM) ?_ | (refine jV (ir F F aS ?_ aS F F) ?_;focus omega) | refine aL F ?_ | refine av F ?_) | refine d5 F F (fun _=>?_) (fun _=>?_) | (refine ad F (by first | rfl | (refine decide_eq_false ?_;(omega))) ?_))
    all_goals refine aW (i + 1) ⟨oM,fun j hj=>?_⟩ oM tU F aX
    all_goals (rcases Nat.lt_or_ge j i with h3 | h3;· exact Hi.2 j h3)
    all_goals (have : j = i:=by omega)
    all_goals (subst this;exact ⟨hna,hko⟩)
  obtain ⟨hk1,hk2⟩:=hk
  obtain ⟨bf,of,cf,ef,hsf⟩:=hfl.expl (by dsimp only;omega)
  simp only [gP,Value.slice.injEq] at ef
  obtain ⟨rfl,-,rfl⟩:=ef
  dsimp only at hsf
  have hE1 : (((some ⟨bf,of,none⟩,ca),t) : b8).2.sort = t.sort:=rfl
  have hE2 : (((some ⟨bf,of,none⟩,ca),t) : b8).2.fields.length = t.fields.length:=rfl
  have hkk:=dc ((hW.fld _ (bT hk1)).kind hk2)
  have hkk1:=hkk.1
  have hcl:=jm (ae t.fields k).kind
  have cx_ref : am abK 80 [S (bm (ae t.fields k).kind)] G (· = Tu [S ((bE (bm (ae t.fields k).kind)).getD []),Bo (bE (bm (ae t.fields k).kind)).isSome]):=k9 (kX hkk1) oM
  have hhas:=pM (vs:=vs) (k:=(ae t.fields k).kind)
  repeat' (first | refine jM ?_ | (refine jo ?_;first | refine jV (aw F) ?_ | refine jV (ax F F oM) ?_ | (refine jV (ir F F aS ?_ aS F F) ?_;focus omega) | (refine jV (bN F F aS ?_ F F) ?_;focus omega) | refine aL F ?_ | refine av F ?_ | refine jL fun _=>?_ | refine jC F F F ?_ | (refine ab F F F (rn (by (repeat (assumption));done)) rfl ?_) | refine ab F F F cx_ref F ?_ | (refine ab F F F (rr (by (repeat (assumption));done) oM) rfl ?_)) | refine aD F F (ay oM) ?_ | refine kG F F (fun _=>?_) (fun _=>?_) | refine ac F (ay oM) ?_ | refine ad F F ?_ | refine kH F (fun _=>?_) (fun _=>?_))
  all_goals first
    | (rename_i h1 h2
       have hK : dY (ag vs) (ae t.fields k).kind = false:=by rw [hhas,h1];simpa using h2
       refine jY (vs:=[_]) ?_
       refine congrArg Bo (decide_eq_false fun hv=>?_).symm
       have h5:=(hv.1 i oM).2
       rw [hti] at h5
       rcases h5 with h3 | h3
       · exact hk2 h3
       · have h6:=h3 k hk1
         rw [hK] at h6;cases h6)
    | (have hK : dY (ag vs) (ae t.fields k).kind = true:=by rw [hhas];simp_all
       refine aW (k + 1) ⟨.inr fun j hj=>?_,oM⟩ oM tU F (by repeat (exact List.nil_sublist _))
       rcases Nat.lt_or_ge j k with h3 | h3
       · rcases Hk.1 with h4 | h4
         · exact absurd h4 hk2
         · exact h4 j h3
       · have : j = k:=oM
         subst this;exact hK)
theorem ga : ∀ {xs : List abL} {ts : List Ty} {x : abL},bR xs = some ts → bR (xs ++ [x]) = (cR x).map (fun t=>ts ++ [t])
 | [],ts,x,h=>by
  simp only [bR,Option.some.injEq] at h;subst h
  simp only [List.nil_append,bR]
  cases cR x <;> rfl
 | y :: xs,ts,x,h=>by
  unfold bR at h
  rw [List.cons_append,bR]
  cases hy : cR y with
  | none=>rw [hy] at h;cases h
  | some t =>
   rw [hy] at h
   dsimp only at h ⊢
   cases hr : bR xs with
   | none=>rw [hr] at h;cases h
   | some us =>
    rw [hr] at h
    simp only [Option.map_some,Option.some.injEq] at h;subst h
    rw [ga hr]
    cases cR x <;> rfl
theorem fM : ∀ {xs ys : List abL},bR xs = none → bR (xs ++ ys) = none
 | [],ys,h=>by cases h
 | y :: xs,ys,h=>by
  unfold bR at h
  rw [List.cons_append,bR]
  cases hy : cR y with
  | none=>rfl
  | some t =>
   rw [hy] at h
   dsimp only at h ⊢
   cases hr : bR xs with
   | none=>rw [fM hr];rfl
   | some us=>rw [hr] at h;cases h
def rK (s : abL) (v : Value) (G : Gh) : Prop:=∃ u vs,v = Tu [u,Bo (aN s).isSome] ∧ SchR G u vs ∧ vs.length ≤ 8 ∧ ∀ ts,aN s = some ts → ag vs = ts
theorem SchR.nil : SchR G aK []:=⟨bh.nil0,by simp⟩
theorem vq {s : abL} {k : Nat} (h : s.length ≤ 100000000) : bA abK 55 [S s,U8 k] G (fun v G'=>∃ b o cap,v = .slice (some ⟨b,o,none⟩) (a7 k s).length cap ∧ bW G' b o (aA dv (a7 k s))):=by
 refine (rm (G:=G) (k:=k) h).mono ?_
 rintro v G' L' ⟨h1,h2,h3⟩
 obtain ⟨b,o,cap,rfl,hs⟩:=h3.expl dH
 exact ⟨h1,h2,b,o,cap,F,hs⟩
theorem p9 {s : abL} (h : s.length ≤ 1000) : bA abK 105 [S s] G (fun v G'=>∃ (x : b8) (ok : Bool),v = Tu [Ag [U8 x.2.sort,S x.2.name,.slice x.1.1 x.2.fields.length x.1.2],Bo ok] ∧ (cR s = if ok = true then some x.2 else none) ∧ bh G' (gP x) 4 x.2.fields.length (aA gB x.2.fields)):=by
 refine (rl (G:=G) h).mono ?_
 rintro v G' L' ⟨h1,h2,fv,t,ok,rfl,h3,h4⟩
 obtain ⟨a,cap,rfl⟩:=h4.sl
 exact ⟨h1,h2,((a,cap),t),ok,F,h3,h4⟩
theorem xX {s : abL} (h : s.length ≤ 10000000) (hb : ¬ (s.length ≤ 400 ∧ (a7 10 s).length ≤ 9 ∧ ae (a7 10 s) ((a7 10 s).length - 1) = [])) (hno : aN s = none) : bA abK 78 [S s] G (rK s):=by
 have hpos:=dH (k:=10) (s:=s)
 have hcnt:=jk (k:=10) (s:=s)
 have cx_cutE:=vq (G:=G) (s:=s) (k:=10) oM
 generalize a7 10 s = xs at *
 have e1 : (((xs.length : Nat) : Int) - 1).toNat = xs.length - 1:=oM
 refine jB [(0,_)] Tryz.func78 Tryz.ntmps78 fun B hok hB hW=>?_
 by_cases h1 : s.length ≤ 400
 case neg =>
  repeat' (first | refine jR ?_ | (refine jo ?_;first | refine aL F ?_ | (refine aJ F F F cx_cutE F ?_;rintro _ G hle ⟨b1,o1,cap1,rfl,hseg⟩;skip)) | (refine aD F F (by first | rfl | (refine decide_eq_true ?_;(omega))) ?_) | refine ac F F ?_)
  all_goals refine jZ (vs:=[_,_]) F ⟨F,F,trivial⟩ F ⟨hle,F,?_⟩
  all_goals exact ⟨aK,[],by rw [hno];rfl,SchR.nil,by simp,fun ts h=>by rw [hno] at h;cases h⟩
 by_cases h2 : xs.length ≤ 9
 case neg =>
  repeat' (first | refine jR ?_ | (refine jo ?_;first | refine jV (aw F) ?_ | refine aL F ?_ | refine av F ?_ | (refine aJ F F F cx_cutE F ?_;rintro _ G hle ⟨b1,o1,cap1,rfl,hseg⟩;skip)) | refine aD F F (ay oM) ?_ | refine al F F (aC oM) ?_ | refine ac F F ?_)
  all_goals refine jZ (vs:=[_,_]) F ⟨F,F,trivial⟩ F ⟨hle,F,?_⟩
  all_goals exact ⟨aK,[],by rw [hno];rfl,SchR.nil,by simp,fun ts h=>by rw [hno] at h;cases h⟩
 have h3 : ¬ ae xs (((xs.length : Nat) : Int) - 1).toNat = []:=by rw [e1];exact fun h=>hb ⟨h1,h2,h⟩
 clear hb
 repeat' (first | refine jM ?_ | (refine jo ?_;first | refine jV (aw F) ?_ | refine av F ?_ | refine jV (a9 F F oM) ?_ | (refine jV (gS F F aS ?_) ?_;focus omega) | (refine aJ F F F cx_cutE F ?_;rintro _ G hle ⟨b1,o1,cap1,rfl,hseg⟩;skip)) | refine al F F (aC oM) ?_ | refine ac F (ay ‹_›) ?_)
 all_goals refine jZ (vs:=[_,_]) F ⟨F,F,trivial⟩ F ⟨hle,F,?_⟩
 all_goals exact ⟨aK,[],by rw [hno];rfl,SchR.nil,by simp,fun ts h=>by rw [hno] at h;cases h⟩
theorem xW {s : abL} (h : s.length ≤ 400) (h2 : (a7 10 s).length ≤ 9) (h3 : ae (a7 10 s) ((a7 10 s).length - 1) = []) (hsc : aN s = match bR ((a7 10 s).take ((a7 10 s).length - 1)) with
    | some ts=>if gX ts then some ts else none
    | none=>none) : bA abK 78 [S s] G (rK s):=by
  have hpos:=dH (k:=10) (s:=s)
  have hall : ∀ y ∈ a7 10 s,y.length ≤ s.length:=fun y hy=>c8 hy
  have cx_cutE:=vq (G:=G) (s:=s) (k:=10) oM
  generalize a7 10 s = xs at *
  have e1 : (((xs.length : Nat) : Int) - 1).toNat = xs.length - 1:=oM
  have h4 : ae xs (((xs.length : Nat) : Int) - 1).toNat = []:=by rw [e1];exact h3
  have h5 : ¬ ae xs (((xs.length : Nat) : Int) - 1).toNat ≠ []:=fun h=>h h4
  clear e1 h3 h4
  refine jB [(0,_)] Tryz.func78 Tryz.ntmps78 fun B hok hB hW=>?_
  repeat' (first | refine jM ?_ | (refine jo ?_;first | refine jV (aw F) ?_ | refine av F ?_ | refine jV (a9 F F oM) ?_ | (refine jV (gS F F aS ?_) ?_;focus omega) | refine jF fun _=>?_ | (refine aJ F F F cx_cutE F ?_;rintro _ G hle ⟨b1,o1,cap1,rfl,hseg⟩;skip)) | refine al F F (aC oM) ?_ | refine ad F (aC ‹_›) ?_)
  rename_i x0
  refine Nx.blkAcc (m:=0) (sz:=3) .here F ?_
  refine aR (ι:=Value × List b8 × Nat × Gh) (fun i=>((i.2.2.1 + 1 ≤ xs.length ∧ i.2.1.length = i.2.2.1) ∧ bR (xs.take i.2.2.1) = some (ag i.2.1)) ∧ (∀ y ∈ i.2.1,bh i.2.2.2 (gP y) 4 y.2.fields.length (aA gB y.2.fields)) ∧ Gh.le G i.2.2.2) (fun i=>[(4,.slice (some ⟨b1,o1,none⟩) xs.length cap1),(5,i.1),(6,I i.2.2.1)]) (fun i=>i.2.2.2) (fun i=>[.acc i.1 pr 3 i.2.1.length (aA iA i.2.1)]) (fun i=>xs.length - i.2.2.1) (.slice (some ⟨x0,0,none⟩) 0 0,[],0,G) ?_ tU F aX (fun i Hi=>?_)
  · exact ⟨⟨⟨by dsimp only;omega,rfl⟩,rfl⟩,by simp,Gh.le.refl _⟩
  obtain ⟨u,vs,i,Gk⟩:=i
  dsimp only at Hi ⊢
  obtain ⟨⟨⟨hi1,hi2⟩,hty⟩,hfs,hgk⟩:=Hi
  have hsk:=hseg.mono hgk
  have hle0:=hle
  by_cases hix : i + 1 < xs.length
  case neg =>
    have ei : i = xs.length - 1:=oM
    rw [← ei,hty] at hsc
    dsimp only at hsc
    refine Nx.sealS (v:=u) fun G1 hle1 hsl=>?_
    have hS : SchR G1 u vs:=⟨hsl,fun x hx=>(hfs x hx).mono hle1⟩
    have hw : ∀ x ∈ vs,TyW x.2:=fun x hx=>(gO hty).1 x.2 (show x.2 ∈ vs.map (fun y=>y.2) from List.mem_map_of_mem hx)
    have cx_val:=xN hS oM hw
    repeat' (first | refine jM ?_ | (refine jo ?_;first | refine jV (aw F) ?_ | refine ab F F F cx_val F ?_) | refine ad F (aC oM) ?_)
    all_goals refine jZ (vs:=[_,_]) F ⟨F,F,trivial⟩ F ⟨(hle0.trans hgk).trans hle1,F,?_⟩
    all_goals refine ⟨u,vs,?_,hS,oM,fun ts h=>?_⟩
    · rw [hsc,dD]
      by_cases hv : gX (ag vs)
      · rw [if_pos hv,decide_eq_true hv];rfl
      · rw [if_neg hv,decide_eq_false hv];rfl
    · rw [hsc] at h
      split at h
      · exact Option.some.inj h
      · cases h
  have hx2 : (ae xs i).length ≤ 1000:=by have:=hall _ (bT (show i < xs.length by omega));omega
  have hsn:=ga (x:=ae xs i) hty
  rw [← dK oM] at hsn
  repeat' (first | refine jM ?_ | (refine jo ?_;first | refine jV (aw F) ?_ | refine jV (ax F F oM) ?_ | refine aG F ?_ | (refine jV (gS F F aS ?_) ?_;focus omega) | refine jF fun _=>?_ | refine jL fun _=>?_ | refine jC F F F ?_ | refine cQ F F F F F F F F F oM fun _ _=>?_ | (refine aJ F F F (p9 oM) F ?_;rintro _ G hle ⟨x,ok,rfl,htyp,hfl⟩;skip)) | refine ac F (ay oM) ?_ | refine kH F (fun _=>?_) (fun _=>?_))
  all_goals first
    | (rename_i hq
       have hq2 : ok = false:=by simpa using hq
       subst hq2
       have hf0 : cR (ae xs i) = none:=htyp
       have hno : aN s = none:=by
         rw [hf0] at hsn
         have e2 : xs.take (xs.length - 1) = xs.take (i + 1) ++ (xs.take (xs.length - 1)).drop (i + 1):=by
           have:=List.take_append_drop (i + 1) (xs.take (xs.length - 1))
           rw [List.take_take,Nat.min_eq_left oM] at this
           exact this.symm
         rw [hsc,e2,fM hsn]
       refine jZ (vs:=[_,_]) F ⟨F,F,trivial⟩ F ⟨(hle0.trans hgk).trans hle,F,?_⟩
       exact ⟨aK,[],by rw [hno];rfl,SchR.nil,by simp,fun ts h=>by rw [hno] at h;cases h⟩)
    | (rename_i z hq w b2 c2
       have hq2 : ok = true:=by simpa using hq
       subst hq2
       have hf1 : cR (ae xs i) = some x.2:=htyp
       rw [hf1] at hsn
       have e3 : aA iA vs ++ [U8 x.2.sort,S x.2.name,.slice x.1.1 x.2.fields.length x.1.2] = aA iA (vs ++ [x]):=(cy iA vs x).symm
       refine aW (.slice (some ⟨b2,0,none⟩) (vs.length + 1) c2,vs ++ [x],i + 1,G) ⟨⟨⟨by dsimp only;omega,by simp;omega⟩,?_⟩,?_,hgk.trans hle⟩ (by dsimp only;omega) tU rfl (by dsimp only;rw [e3];simp only [List.length_append,List.length_cons,List.length_nil,Nat.zero_add];repeat (first | exact List.nil_sublist _ | apply List.Sublist.cons_cons))
       · dsimp only;rw [hsn];simp [ag]
       · intro y hy
         rcases List.mem_append.1 hy with hy | hy
         · exact (hfs y hy).mono hle
         · simp only [List.mem_singleton] at hy;subst hy;exact hfl)
theorem oJ {s : abL} (h : s.length ≤ 10000000) : bA abK 78 [S s] G (rK s):=by
 have hpos:=dH (k:=10) (s:=s)
 have hlast : (a7 10 s).getLastD [] = ae (a7 10 s) ((a7 10 s).length - 1):=by
  rw [a6 oM,List.getLastD_eq_getLast?,List.getLast?_eq_getElem?]
  rw [List.getElem?_eq_getElem oM];rfl
 by_cases hc : s.length ≤ 400 ∧ (a7 10 s).length ≤ 9 ∧ ae (a7 10 s) ((a7 10 s).length - 1) = []
 ·refine xW hc.1 hc.2.1 hc.2.2 ?_
  unfold aN
  rw [hlast,if_pos hc,List.dropLast_eq_take]
  (rfl)
 ·refine xX h hc ?_
  unfold aN
  rw [hlast,if_neg hc]
def bV (s k : abL) : Bool:=match aN s with
 | some ts=>aP ts k
 | none=>false
theorem rW {s : abL} (h : s.length ≤ 10000000) : am abK 72 [S s] G (· = Bo (aN s).isSome):=by
 refine jB (Post:=fun v G' L'=>G' = G ∧ L' = [] ∧ _) [(0,_)] Tryz.func72 Tryz.ntmps72 fun B hok hB hW=>?_
 repeat' (first | refine jR ?_ | (refine jo ?_;(refine aJ F F F (oJ oM) F ?_;rintro _ G hle ⟨u,vs,rfl,hsch,hvl,hvs⟩;skip)))
 refine Nx.base hok hB ?_
 refine jY (vs:=[_]) ?_
 rfl
def ww (s k : abL) (v : Value) (G : Gh) : Prop:=∃ u vs,v = Tu [u,Bo (bV s k)] ∧ SchR G u vs ∧ vs.length ≤ 8 ∧ ∀ ts,aN s = some ts → aP ts k = true → ag vs = ts
theorem iV {s k : abL} (h : s.length ≤ 10000000) (hk : k.length ≤ 10000000) : bA abK 51 [S s,S k] G (ww s k):=by
  cases hs : aN s with
  | none =>
    have hno : bV s k = false:=by unfold bV;rw [hs]
    have e1 : (!(aN s).isSome) = true:=by rw [hs];rfl
    refine jB [(0,_),(1,_)] Tryz.func51 Tryz.ntmps51 fun B hok hB hW=>?_
    repeat' (first | refine jR ?_ | (refine jo ?_;first | refine aL F ?_ | (refine aJ F F F (oJ oM) F ?_;rintro _ G hle ⟨u,vs,rfl,hsch,hvl,hvs⟩;skip)) | refine aD F F ‹_› ?_ | refine ac F F ?_)
    all_goals refine jZ (vs:=[_,_]) F ⟨F,F,trivial⟩ F ⟨hle,F,?_⟩
    all_goals exact ⟨aK,[],by rw [hno];rfl,SchR.nil,by simp,fun ts h=>by rw [hs] at h;cases h⟩
  | some ts =>
    have e1 : (!(aN s).isSome) = false:=by rw [hs];rfl
    by_cases hko : bz k = true
    case neg =>
      have hno : bV s k = false:=by unfold bV aP;rw [hs];simp [hko]
      have e2 : (!bz k) = true:=by simpa using hko
      refine jB [(0,_),(1,_)] Tryz.func51 Tryz.ntmps51 fun B hok hB hW=>?_
      repeat' (first | refine jR ?_ | (refine jo ?_;first | refine av F ?_ | (refine aJ F F F (oJ oM) F ?_;rintro _ G hle ⟨u,vs,rfl,hsch,hvl,hvs⟩;skip) | refine ab F F F l4 F ?_) | refine al F F ‹_› ?_ | refine ac F ‹_› ?_)
      all_goals refine jZ (vs:=[_,_]) F ⟨F,F,trivial⟩ F ⟨hle,F,?_⟩
      all_goals exact ⟨aK,[],by rw [hno];rfl,SchR.nil,by simp,fun ts h1 h2=>by unfold aP at h2;simp [hko] at h2⟩
    have e2 : (!bz k) = false:=by rw [hko];rfl
    have hkk:=dc hko
    have hkk1:=hkk.1
    have hcl:=jm k
    have cx_rf2 : ∀ G,am abK 80 [S (bm k)] G (· = Tu [S ((bE (bm k)).getD []),Bo (bE (bm k)).isSome]):=fun G=>k9 (kX hkk1) oM
    refine jB [(0,_),(1,_)] Tryz.func51 Tryz.ntmps51 fun B hok hB hW=>?_
    repeat' (first | refine jR ?_ | (refine jo ?_;first | refine aL F ?_ | refine av F ?_ | refine jL fun _=>?_ | refine jC F F F ?_ | (refine aJ F F F (oJ oM) F ?_;rintro _ G hle ⟨u,vs,rfl,hsch,hvl,hvs⟩;skip) | refine ab F F F l4 F ?_ | (refine ab F F F (rn (by (repeat (assumption));done)) rfl ?_) | refine ab F F F (cx_rf2 _) F ?_ | (refine ab F F F (rr (by (repeat (assumption));done) oM) rfl ?_)) | refine al F F ‹_› ?_ | refine kG F F (fun _=>?_) (fun _=>?_) | refine ad F ‹_› ?_)
    all_goals rename_i hq
    all_goals refine jZ (vs:=[_,_]) F ⟨F,F,trivial⟩ F ⟨hle,F,?_⟩
    all_goals have hks : bV s k = (!(bE (bm k)).isSome || (eX vs ((bE (bm k)).getD [])).isSome) := by
                unfold bV aP
                rw [hs]
                dsimp only
                rw [hko,Bool.true_and,← hvs ts hs,pM]
    all_goals exact ⟨u,vs,by rw [hks,hq];rfl,hsch,hvl,fun ts' h1 _=>hvs ts' h1⟩
abbrev cx:=Nat × Ty
def sm (q : cx) : List Value:=[Pt q.1 0]
instance : RowF sm 1:=⟨fun _=>rfl⟩
def ge (qs : List cx) : List (abL × Value):=qs.map fun q=>(q.2.name,Pt q.1 0)
def ak (qs : List cx) : List Ty:=qs.map (·.2)
def eo (qs : List cx) (n : abL) : Option cx:=qs.find? fun q=>decide (n = q.2.name)
theorem gz (qs : List cx) (n : abL) : lk (ge qs) n = (eo qs n).map fun q=>Pt q.1 0:=by
 unfold lk ge eo
 induction qs with
 | nil=>rfl
 | cons q qs ih =>
  simp only [List.map_cons,List.find?_cons]
  by_cases h : n = q.2.name
  ·simp [h]
  ·simp only [h,decide_false];exact ih
theorem gC (qs : List cx) (n : abL) : (eo qs n).map (·.2) = gj (ak qs) n:=by
 unfold eo gj ak
 induction qs with
 | nil=>rfl
 | cons q qs ih =>
  simp only [List.map_cons,List.find?_cons]
  by_cases h : n = q.2.name
  ·simp [h]
  ·have h2 : ¬ q.2.name = n:=fun e=>h e.symm
   simp only [h,h2,decide_false];exact ih
theorem gV {qs : List cx} {n : abL} {q : cx} (h : eo qs n = some q) : q ∈ qs:=List.mem_of_find?_eq_some h
structure ScI (G : Gh) (b : Nat) (qs : List cx) : Prop where
 at' : ∃ u m,bW G b 0 [u,.map (some m)] ∧ bh G u 1 qs.length (aA sm qs) ∧ G m = some (.ex (ec (ge qs)))
 ty : ∀ q ∈ qs,gY G q.1 q.2
theorem ScI.mono {G G' : Gh} {b : Nat} {qs : List cx} (h : ScI G b qs) (hl : Gh.le G G') : ScI G' b qs:=by
 obtain ⟨u,m,h1,h2,h3⟩:=h.at'
 exact ⟨⟨u,m,h1.mono hl,h2.mono hl,hl _ _ h3⟩,fun q hq=>(h.ty q hq).mono hl⟩
theorem mA {k : abL} (h : bz k = true) : bs k = [64] ↔ (bE (bm k)).isSome = true:=by
 have hk:=kX (dc h).1
 unfold bs
 cases hc : bm k with
 | nil=>rw [hc] at hk;cases hk
 | cons c r =>
  unfold oP bE
  by_cases h64 : c.toNat = 64
  ·simp [h64]
  ·simp only [h64,if_false]
   constructor
   ·intro e;simp only [List.cons.injEq] at e;exact absurd (by rw [e.1];rfl) h64
   ·intro e;cases e
theorem tT {b : Nat} {qs : List cx} {k : abL} (h : ScI G b qs) (hk : bz k = true) : am abK 92 [Pt b 0,Ag [S (sg k),S (bs k),S (nm k)]] G (· = Bo (dY (ak qs) k)):=by
 obtain ⟨u,m,h1,h2,h3⟩:=h.at'
 have hat:=mA hk
 rcases hr : bE (bm k) with _ | n
 ·have hb : ¬ bs k = [64]:=by rw [hat,hr];simp
  have e : dY (ak qs) k = true:=by unfold dY;rw [hr]
  clear hat hr
  rw [e]
  refine jE [(0,_),(1,_)] Tryz.func92 Tryz.ntmps92 fun B hB=>?_
  repeat' (first | refine jR ?_ | (refine jo ?_;refine jO fun _=>?_) | (refine ai (an (id:=1) _ (fun _ h=>h) ah ?_);refine jT 13 [0] (aa 14 1) ?_;(refine jG (aa 14 3) 1 F (aq F F F) ?_);refine jT 10 [2,3] (aa 14 15) ?_;(try (refine Nx.re (d:=8) (v':=Bo true) F (congrArg Value.bool (ay ‹_›)) ?_));refine jT 6 [4,5,6,8] (aa 14 383) ?_;(refine jN (aa 14 511) 7 F ?_);(refine jN (aa 14 1023) 9 F ?_);(refine jN (aa 14 2047) 10 F ?_);(refine jN (aa 14 4095) 11 F ?_);(refine jG (aa 14 8191) 12 F (aT F F F) ?_);refine jT 0 [13] (aa 14 16383) ?_;refine jQ ?_))
  all_goals refine jY (vs:=[_]) ?_
  all_goals rfl
 ·have hb : ¬ (bs k ≠ [64]):=fun h=>h (by rw [hat,hr];rfl)
  have hn : nm k = n:=by unfold nm;rw [hr];rfl
  have e : dY (ak qs) k = (eo qs (nm k)).isSome:=by unfold dY;rw [hr,hn];dsimp only;rw [← gC];simp
  rw [e]
  clear hat hr hn e
  have hkv:=gz qs (nm k)
  cases hf : eo qs (nm k) with
  | none =>
   rw [hf] at hkv
   dsimp only [Option.map_none] at hkv
   refine jE [(0,_),(1,_)] Tryz.func92 Tryz.ntmps92 fun B hB=>?_
   repeat' (first | refine jR ?_ | (refine jo ?_;refine jO fun _=>?_) | (refine ai (an (id:=1) _ (fun _ h=>h) ah ?_);refine jT 13 [0] (aa 14 1) ?_;(refine jG (aa 14 3) 1 F (aq F F F) ?_);refine jT 10 [2,3] (aa 14 15) ?_;(try (refine Nx.re (d:=8) (v':=Bo false) F (congrArg Value.bool (aC ‹_›)) ?_));refine jT 6 [4,5,6,8] (aa 14 383) ?_;(refine jG (aa 14 511) 7 F (aI F F aS F F) ?_);(refine jG (aa 14 1023) 9 F (aq F F F) ?_);((refine jG (aa 14 2047) 10 F (cz F F (em aS) aS F) ?_));(refine jG (aa 14 4095) 11 F (gh F F) ?_);(refine jG (aa 14 8191) 12 F (aH F F F) ?_);refine jT 0 [13] (aa 14 16383) ?_;refine jQ ?_))
   all_goals refine jY (vs:=[_]) ?_
   all_goals rfl
  | some q =>
   rw [hf] at hkv
   dsimp only [Option.map_some] at hkv
   refine jE [(0,_),(1,_)] Tryz.func92 Tryz.ntmps92 fun B hB=>?_
   repeat' (first | refine jR ?_ | (refine jo ?_;refine jO fun _=>?_) | (refine ai (an (id:=1) _ (fun _ h=>h) ah ?_);refine jT 13 [0] (aa 14 1) ?_;(refine jG (aa 14 3) 1 F (aq F F F) ?_);refine jT 10 [2,3] (aa 14 15) ?_;(try (refine Nx.re (d:=8) (v':=Bo false) F (congrArg Value.bool (aC ‹_›)) ?_));refine jT 6 [4,5,6,8] (aa 14 383) ?_;(refine jG (aa 14 511) 7 F (aI F F aS F F) ?_);(refine jG (aa 14 1023) 9 F (aq F F F) ?_);((refine jG (aa 14 2047) 10 F (cz F F (em aS) aS F) ?_));(refine jG (aa 14 4095) 11 F (gh F F) ?_);(refine jG (aa 14 8191) 12 F (aH F F F) ?_);refine jT 0 [13] (aa 14 16383) ?_;refine jQ ?_))
   all_goals refine jY (vs:=[_]) ?_
   all_goals rfl
theorem xa {k : abL} (h : bz k = true) : bE k = if sg k = [] ∧ bs k = [64] then some (nm k) else none:=by
 have hat:=mA h
 match k,h with
 | c :: r,h =>
  by_cases h1 : c.toNat = 91 ∨ c.toNat = 63
  ·have hs : ¬ (sg (c :: r) = [] ∧ bs (c :: r) = [64]):=by
    rintro ⟨e,_⟩
    unfold sg at e
    rw [bm,if_pos h1] at e
    have:=kW r
    have e2:=congrArg List.length e
    simp only [List.length_take,List.length_cons,List.length_nil] at e2
    omega
   rw [if_neg hs]
   simp only [bE]
   rw [if_neg oM]
  ·have hc : bm (c :: r) = c :: r:=by rw [bm,if_neg h1]
   have hs : sg (c :: r) = []:=by unfold sg;rw [hc];simp
   have hn : nm (c :: r) = (bE (c :: r)).getD []:=by unfold nm;rw [hc]
   rw [hc] at hat
   rw [hn,hs]
   cases hr : bE (c :: r) with
   | none=>rw [hr] at hat;rw [if_neg];rintro ⟨_,e⟩;have:=hat.1 e;cases this
   | some n=>rw [hr] at hat;rw [if_pos ⟨rfl,hat.2 rfl⟩];rfl
theorem x9 {b : Nat} {qs : List cx} {q0 : cx} (h : ScI G b qs) (hw : ∀ q ∈ qs,TyW q.2) (hk : ∀ q ∈ qs,gJ (ak qs) q.2) (hq : q0 ∈ qs) :
  am abK 118 [Pt b 0,Pt q0.1 0] G (· = Bo (bO (ak qs) 9 q0.2)):=by
 obtain ⟨u,m,h1,h2,h3⟩:=h.at'
 refine jE [(0,_),(1,_)] Tryz.func118 Tryz.ntmps118 fun B hB=>?_
 repeat' (refine jR ?_)
 refine aR (ι:=cx × Nat) (fun i=>i.1 ∈ qs ∧ i.2 ≤ 9 ∧ bO (ak qs) (9 - i.2) i.1.2 = bO (ak qs) 9 q0.2) (fun i=>[(0,Pt b 0),(1,Pt i.1.1 0),(6,I i.2)]) (fun _=>G) (fun i=>[]) (fun i=>9 - i.2) (q0,0) ?_ tU F aX (fun i Hi=>?_)
 ·exact ⟨hq,Nat.zero_le _,F⟩
 obtain ⟨⟨p,t⟩,i⟩:=i
 dsimp only at Hi ⊢
 obtain ⟨hqm,hi9,he⟩:=Hi
 have hW:=hw _ hqm
 obtain ⟨fv,ln,hsg,hfv⟩:=h.ty _ hqm
 dsimp only at hW hsg hfv
 by_cases hlt : i < 9
 case neg =>
  have e0 : 9 - i = 0:=oM
  rw [e0] at he
  repeat' (first | refine jR ?_ | refine ad F (aC oM) ?_)
  refine jY (vs:=[_]) ?_
  rw [← he];rfl
 obtain ⟨j,hj⟩ : ∃ j,9 - i = j + 1:=⟨8 - i,oM⟩
 rw [hj,bO] at he
 by_cases hU : t.sort = 85
 case neg =>
  rw [if_pos hU] at he
  repeat' (first | refine jR ?_ | (refine jo ?_;refine jV (aI F F aS F F) ?_) | refine ac F (ay oM) ?_)
  refine jY (vs:=[_]) ?_
  rw [← he];rfl
 rw [if_neg (by simp [hU])] at he
 have hne:=hW.ne oM
 have h0 : 0 < t.fields.length:=List.length_pos_iff.2 hne
 obtain ⟨bf,of,cf,rfl,hsf⟩:=hfv.expl h0
 have hk0 : fp t = (ae t.fields 0).kind:=by
  unfold fp ae
  cases t.fields with
  | nil=>rfl
  | cons f r=>rfl
 have hko:=(hW.fld _ (bT h0)).kind oM
 have hrs:=xa hko
 have hhas : dY (ak qs) (ae t.fields 0).kind = true:=by
  rcases hk _ hqm with h5 | h5
  ·dsimp only at h5;omega
  ·exact h5 0 h0
 rw [hk0] at he
 by_cases hs1 : sg (ae t.fields 0).kind = []
 case neg =>
  rw [if_neg fun h=>hs1 h.1] at hrs
  unfold aV at he
  rw [hrs] at he
  repeat' (first | refine jR ?_ | (refine jo ?_;first | refine aj F ?_ | refine jV (aI F F aS F F) ?_ | (refine jV (gT F F aS ?_ F F) ?_;focus omega) | refine jV (ax F F oM) ?_ | refine jL fun _=>?_ | refine jC F F F ?_ | refine aL F ?_) | refine aD F F (ay ‹_›) ?_ | (refine ac F (by first | rfl | (refine decide_eq_true ?_;(omega))) ?_) | refine ad F (aC oM) ?_)
  all_goals refine jY (vs:=[_]) ?_
  all_goals (rw [← he];rfl)
 by_cases hs2 : bs (ae t.fields 0).kind = [64]
 case neg =>
  rw [if_neg fun h=>hs2 h.2] at hrs
  unfold aV at he
  rw [hrs] at he
  repeat' (first | refine jR ?_ | (refine jo ?_;first | refine aj F ?_ | refine jV (aI F F aS F F) ?_ | (refine jV (gT F F aS ?_ F F) ?_;focus omega) | refine jV (ax F F oM) ?_ | refine jL fun _=>?_ | refine jC F F F ?_ | refine av F ?_) | (refine al F F ?_ ?_;(focus ((simp [*];done);done))) | (refine ac F (by refine decide_eq_true ?_;first | assumption | omega) ?_) | refine ad F (aC oM) ?_)
  all_goals refine jY (vs:=[_]) ?_
  all_goals (rw [← he];rfl)
 rw [if_pos ⟨hs1,hs2⟩] at hrs
 unfold aV at he
 rw [hrs,Option.bind_some,← gC] at he
 have hkv:=gz qs (nm (ae t.fields 0).kind)
 have hr2 : bE (bm (ae t.fields 0).kind) = some (nm (ae t.fields 0).kind):=by
  have:=(mA hko).1 hs2
  unfold nm
  cases hx : bE (bm (ae t.fields 0).kind) with
  | none=>rw [hx] at this;cases this
  | some n=>rfl
 unfold dY at hhas
 rw [hr2] at hhas
 dsimp only at hhas
 rw [← gC] at hhas
 cases hf : eo qs (nm (ae t.fields 0).kind) with
 | none=>rw [hf] at hhas;cases hhas
 | some q =>
  rw [hf] at hkv he
  dsimp only [Option.map_some] at hkv he
  have hb1 : ¬ sg (ae t.fields 0).kind ≠ []:=fun h=>h hs1
  have hb2 : ¬ bs (ae t.fields 0).kind ≠ [64]:=fun h=>h hs2
  clear hs1 hs2 hrs hr2
  repeat' (first | refine jM ?_ | (refine jo ?_;first | refine aj F ?_ | refine jV (aI F F aS F F) ?_ | (refine jV (gT F F aS ?_ F F) ?_;focus omega) | refine jV (ax F F oM) ?_ | refine jL fun _=>?_ | refine jC F F F ?_ | refine av F ?_) | refine al F F (aC ‹_›) ?_ | refine ac F (ay oM) ?_ | (refine ad F (by refine decide_eq_false ?_;first | assumption | omega) ?_) | (refine ai (an (id:=8) _ (fun _ h=>h) ah ?_);refine jT 4 [0,1,2,4] (aa 8 23) ?_;(refine jG (aa 8 31) 3 F (aI F F aS F F) ?_);(refine jG (aa 8 63) 5 F (aq F F F) ?_);((refine jG (aa 8 127) 6 F (cz F F (em aS) aS F) ?_));refine jT 0 [7] (aa 8 255) ?_;refine jQ ?_))
  refine aW (q,i + 1) ⟨gV hf,by dsimp only;omega,?_⟩ (by dsimp only;omega) tU rfl (by repeat (exact List.nil_sublist _))
  dsimp only
  rw [show 9 - (i + 1) = j by omega]
  exact he
structure Rdg (s : abL) (ls : List abL) (ts : List Ty) (t : abL) : Prop where
 cutE : a7 10 s = ls ++ a7 10 t
 tyE : bR ls = some ts
theorem Rdg.start (s : abL) : Rdg s [] [] s:=⟨rfl,rfl⟩
theorem Rdg.len {s : abL} {ls : List abL} {ts : List Ty} {t : abL} (h : Rdg s ls ts t) : ts.length = ls.length:=(gO h.tyE).2
theorem kT {t line rest : abL} (h : aF 10 t = (line,rest,true)) : a7 10 t = line :: a7 10 rest:=by rw [kU,h];rfl
theorem Rdg.step {s : abL} {ls : List abL} {ts : List Ty} {t line rest : abL} {x : Ty} (h : Rdg s ls ts t) (hc : aF 10 t = (line,rest,true)) (hx : cR line = some x) : Rdg s (ls ++ [line]) (ts ++ [x]) rest :=
 ⟨by rw [h.cutE,kT hc];simp,by rw [ga h.tyE,hx];rfl⟩
theorem Rdg.fin {s : abL} {ls : List abL} {ts : List Ty} (h : Rdg s ls ts []) (hl : s.length ≤ 400) (h8 : ts.length ≤ 8) : aN s = if gX ts then some ts else none:=by
 have hlen:=h.len
 have e : a7 10 s = ls ++ [[]]:=h.cutE
 unfold aN
 rw [e,if_pos ⟨hl,by simp;omega,by simp⟩,List.dropLast_concat,h.tyE]
theorem tq {s : abL} (h : ¬ s.length ≤ 400) : aN s = none:=by
 unfold aN
 exact if_neg fun h2=>h h2.1
theorem Rdg.noend {s : abL} {ls : List abL} {ts : List Ty} {t : abL} (h : Rdg s ls ts t) (ht : t ≠ []) (hc : (aF 10 t).2.2 = false) : aN s = none:=by
 have e : a7 10 s = ls ++ [t]:=by rw [h.cutE,kU,hc];rfl
 unfold aN
 rw [e,if_neg]
 rintro ⟨_,_,h3⟩
 simp at h3
 exact ht h3
theorem Rdg.many {s : abL} {ls : List abL} {ts : List Ty} {t line rest : abL} (h : Rdg s ls ts t) (hc : aF 10 t = (line,rest,true)) (h8 : ts.length = 8) : aN s = none:=by
 have hlen:=h.len
 have hp:=dH (k:=10) (s:=rest)
 unfold aN
 rw [h.cutE,kT hc,if_neg]
 rintro ⟨_,h3,_⟩
 simp at h3
 omega
theorem pS {ls : List abL} {line rest : abL} : (ls ++ line :: a7 10 rest).dropLast = (ls ++ [line]) ++ (a7 10 rest).dropLast:=by
 have hp:=dH (k:=10) (s:=rest)
 have hne : a7 10 rest ≠ []:=fun e=>by rw [e] at hp;simp at hp
 rw [List.dropLast_append_of_ne_nil (by simp),List.dropLast_cons_of_ne_nil hne];simp
theorem Rdg.bad {s : abL} {ls : List abL} {ts : List Ty} {t line rest : abL} (h : Rdg s ls ts t) (hc : aF 10 t = (line,rest,true)) (hx : cR line = none) : aN s = none:=by
 have hn : bR (ls ++ [line]) = none:=by rw [ga h.tyE,hx];rfl
 unfold aN
 split
 ·rw [h.cutE,kT hc,pS,fM hn]
 ·rfl
theorem mC : ∀ {xs ys : List abL} {ts us : List Ty},bR xs = some ts → bR (xs ++ ys) = some us → ∃ vs,us = ts ++ vs
 | [],ys,ts,us,h,h2=>by simp only [bR,Option.some.injEq] at h;subst h;exact ⟨us,F⟩
 | x :: xs,ys,ts,us,h,h2=>by
  unfold bR at h
  rw [List.cons_append,bR] at h2
  cases hx : cR x with
  | none=>rw [hx] at h;cases h
  | some t =>
   rw [hx] at h h2
   dsimp only at h h2
   cases hr : bR xs with
   | none=>rw [hr] at h;cases h
   | some ws =>
    rw [hr] at h
    simp only [Option.map_some,Option.some.injEq] at h;subst h
    cases hq : bR (xs ++ ys) with
    | none=>rw [hq] at h2;cases h2
    | some zs =>
     rw [hq] at h2
     simp only [Option.map_some,Option.some.injEq] at h2;subst h2
     obtain ⟨vs,rfl⟩:=mC hr hq
     exact ⟨vs,F⟩
theorem ip {α : Type} [Inhabited α] {xs ys : List α} {i : Nat} (h : i < xs.length) : ae (xs ++ ys) i = ae xs i:=by
 rw [a6 h,a6 (by simp;omega),List.getElem_append_left h]
theorem Rdg.dup {s : abL} {ls : List abL} {ts : List Ty} {t line rest : abL} {x : Ty} (h : Rdg s ls ts t) (hc : aF 10 t = (line,rest,true)) (hx : cR line = some x) (i : Nat) (hi : i < ts.length) (hd : (ae ts i).name = x.name) : aN s = none:=by
 have h2:=h.step hc hx
 unfold aN
 split
 ·rw [h.cutE,kT hc,pS]
  cases hr : bR (ls ++ [line] ++ (a7 10 rest).dropLast) with
  | none=>rfl
  | some us =>
   obtain ⟨vs,rfl⟩:=mC h2.tyE hr
   dsimp only
   rw [if_neg]
   intro hv
   have h3:=(hv.1 ts.length (by simp)).1 i hi
   have e1 : ae (ts ++ [x] ++ vs) i = ae ts i:=by rw [ip (by simp;omega),ip hi]
   have e2 : ae (ts ++ [x] ++ vs) ts.length = x:=by rw [ip (by simp),a6 (by simp)];simp
   rw [e1,e2] at h3
   exact h3 hd
 ·rfl
abbrev tPT : TypeId:=157
abbrev tSc : TypeId:=155
def z6 (s : abL) (v : Value) (G : Gh) : Prop:=(aN s = none ∧ ∃ p,v = Tu [p,Bo false]) ∨ ∃ b qs,v = Tu [Pt b 0,Bo true] ∧ aN s = some (ak qs) ∧ ScI G b qs
theorem eO (qs : List cx) : (ak qs).length = qs.length:=by simp [ak]
theorem j8 {qs : List cx} {i : Nat} (h : i < qs.length) : ae (ak qs) i = (ae qs i).2:=by
 rw [a6 h,a6 (by rw [eO];exact h)];simp [ak]
theorem tJ {qs : List cx} {n : abL} {q : cx} (h : eo qs n = some q) : ∃ i,i < (ak qs).length ∧ (ae (ak qs) i).name = n:=by
 have h1:=gV h
 have h2 : n = q.2.name:=by unfold eo at h;simpa using List.find?_some h
 obtain ⟨i,hi,rfl⟩:=j9 h1
 exact ⟨i,by rw [eO];exact hi,by rw [j8 hi,h2]⟩
theorem tK {qs : List cx} {n : abL} (h : eo qs n = none) : ∀ i,i < qs.length → (ae (ak qs) i).name ≠ n:=by
 intro i hi e
 unfold eo at h
 rw [List.find?_eq_none] at h
 have:=h _ (bT hi)
 rw [j8 hi] at e
 simp [e] at this
theorem gn {s : abL} (h : s.length ≤ 10000000) : bA abK 90 [S s] G (z6 s):=by
 by_cases hl : s.length ≤ 400
 case neg =>
  have hno:=tq hl
  refine jB [(0,_)] Tryz.func90 Tryz.ntmps90 fun B hok hB hW=>?_
  repeat' (first | refine jR ?_ | refine ac F (ay oM) ?_)
  all_goals refine jZ (vs:=[_,_]) F ⟨F,F,trivial⟩ F ⟨Gh.le.refl _,F,?_⟩
  all_goals exact .inl ⟨hno,_,F⟩
 refine jB [(0,_)] Tryz.func90 Tryz.ntmps90 fun B hok hB hW=>?_
 repeat' (first | refine jR ?_ | (refine jo ?_;first | refine aaW F fun _=>?_ | refine jV (ao F F) ?_ | refine jO fun _=>?_) | refine ad F (aC oM) ?_)
 rename_i m x
 refine Nx.addNil tPT 1 ?_
 refine aR (ι:=Value × List cx × List abL × abL × Gh) (fun i=>Rdg s i.2.2.1 (ak i.2.1) i.2.2.2.1 ∧ (i.2.1.length ≤ 8 ∧ i.2.2.2.1.length ≤ s.length) ∧ (∀ a,a < i.2.1.length → kf (ak i.2.1) a) ∧ (∀ q ∈ i.2.1,gY i.2.2.2.2 q.1 q.2) ∧ Gh.le G i.2.2.2.2) (fun i=>[(0,S i.2.2.2.1),(4,Pt x 0)]) (fun i=>i.2.2.2.2) (fun i=>[.acc i.1 tPT 1 i.2.1.length (aA sm i.2.1),.blk x (.cells [i.1,.map (some m)].toArray tSc (0,0)),.blk m (ec (ge i.2.1))]) (fun i=>i.2.2.2.1.length) (aK,[],[],s,G) ?_ tU F aX (fun i Hi=>?_)
 ·exact ⟨Rdg.start s,⟨by simp,Nat.le_refl _⟩,fun a ha=>absurd ha (by simp),by simp,Gh.le.refl _⟩
 obtain ⟨u,qs,ls,t,Gk⟩:=i
 dsimp only at Hi ⊢
 obtain ⟨hR,⟨h8,htl⟩,hna,hti,hgk⟩:=Hi
 refine Nx.shp (v:=u) (.head _) fun hsh=>?_
 have hsh2:=hsh
 obtain ⟨au,cu,rfl⟩:=hsh.sl
 by_cases ht : t = []
 case neg =>
  have cx_cut : ∀ G,am abK 116 [S t,S [10]] G (· = Tu [S (aF 10 t).1,S (aF 10 t).2.1,Bo (aF 10 t).2.2]):=fun G=>oO (c:=10) oM
  have hcl:=iP (k:=10) (s:=t)
  cases hc : (aF 10 t).2.2 with
  | false =>
   have hno:=hR.noend ht hc
   have hc2 : (!(aF 10 t).2.2) = true:=by rw [hc];rfl
   repeat' (first | refine jR ?_ | (refine jo ?_;first | refine aL F ?_ | refine ab F F F (cx_cut _) F ?_) | refine aD F F ‹_› ?_ | (refine ac F (by first | rfl | (refine decide_eq_true ?_;(assumption))) ?_))
   all_goals refine jZ (vs:=[_,_]) F ⟨F,F,trivial⟩ F ⟨hgk,F,?_⟩
   all_goals exact .inl ⟨hno,_,F⟩
  | true =>
   have hce : aF 10 t = ((aF 10 t).1,(aF 10 t).2.1,true):=by rw [← hc]
   have hlt : (aF 10 t).2.1.length < t.length:=by
    obtain ⟨d,_,e⟩:=f3 hce
    have:=congrArg List.length e
    simp at this;omega
   rw [hc] at cx_cut
   generalize (aF 10 t).1 = line at *
   generalize (aF 10 t).2.1 = rest at *
   clear hc
   by_cases h9 : qs.length = 8
   ·have hno:=hR.many hce (by rw [eO];exact h9)
    repeat' (first | refine jR ?_ | (refine jo ?_;first | refine aj F ?_ | refine jV (aw F) ?_ | refine av F ?_ | refine ab F F F (cx_cut _) F ?_) | refine al F F F ?_ | (refine ac F (by refine decide_eq_true ?_;first | assumption | omega) ?_))
    all_goals refine jZ (vs:=[_,_]) F ⟨F,F,trivial⟩ F ⟨hgk,F,?_⟩
    all_goals exact .inl ⟨hno,_,F⟩
   have hle1 : line.length ≤ 1000:=oM
   cases hty : cR line with
   | none =>
    have hno:=hR.bad hce hty
    have cx_rt0 : ∀ G,bA abK 117 [S line] G (fun v _=>∃ p,v = Tu [p,Bo false]):=fun G=>by
     refine (oG (G:=G) hle1).mono ?_
     rintro v G' L' ⟨h1,h2,⟨_,p,rfl⟩ | ⟨_,_,_,h4,_⟩⟩
     ·exact ⟨h1,h2,p,F⟩
     ·rw [hty] at h4;cases h4
    repeat' (first | refine jR ?_ | (refine jo ?_;first | refine aj F ?_ | refine jV (aw F) ?_ | refine av F ?_ | refine ab F F F (cx_cut _) F ?_ | (refine aJ F F F (cx_rt0 _) F ?_;rintro _ G hle ⟨p,rfl⟩;skip)) | refine al F F F ?_ | (refine ac F (by first | rfl | (refine decide_eq_true ?_;(assumption))) ?_) | refine ad F (aC oM) ?_ | (refine ai (an (id:=9) _ (fun _ h=>h) ah ?_);refine jT 11 [0,1,2] (aa 14 7) ?_;(try (refine Nx.re (d:=47) (v':=Bo true) F (congrArg Value.bool F) ?_));refine jT 5 [3,4,5,7,8,9] (aa 14 959) ?_;(refine jN (aa 14 1023) 6 F ?_);(refine jN (aa 14 2047) 10 F ?_);(refine jN (aa 14 4095) 11 F ?_);(refine jN (aa 14 8191) 12 F ?_);(refine jG (aa 14 16383) 13 F (aT F F F) ?_);refine jQ ?_))
    all_goals refine jZ (vs:=[_,_]) F ⟨F,F,trivial⟩ F ⟨hgk.trans hle,F,?_⟩
    all_goals exact .inl ⟨hno,_,F⟩
   | some ty =>
   have cx_rt1 : ∀ G,bA abK 117 [S line] G (fun v G'=>∃ b fv ln,v = Tu [Pt b 0,Bo true] ∧ bW G' b 0 [U8 ty.sort,S ty.name,fv,S ln] ∧ bh G' fv 6 ty.fields.length (aA iM ty.fields)):=fun G=>by
    refine (oG (G:=G) hle1).mono ?_
    rintro v G' L' ⟨h1,h2,⟨h4,_⟩ | ⟨b,t2,rfl,h4,fv,ln,h5,h6⟩⟩
    ·rw [hty] at h4;cases h4
    ·rw [hty] at h4;simp only [Option.some.injEq] at h4;subst h4
     exact ⟨h1,h2,b,fv,ln,F,h5,h6⟩
   have hkv:=gz qs ty.name
   cases hf : eo qs ty.name with
   | some q =>
    rw [hf] at hkv
    dsimp only [Option.map_some] at hkv
    obtain ⟨i,hi,hn⟩:=tJ hf
    have hno:=hR.dup hce hty i hi hn
    repeat' (first | refine jR ?_ | (refine jo ?_;first | refine aj F ?_ | refine jV (aw F) ?_ | refine av F ?_ | refine ab F F F (cx_cut _) F ?_ | (refine aJ F F F (cx_rt1 _) F ?_;rintro _ G hle ⟨b,fv,ln,rfl,hsg,hfv⟩;skip)) | refine al F F F ?_ | (refine ac F (by first | rfl | (refine decide_eq_true ?_;(assumption))) ?_) | refine ad F (aC oM) ?_ | (refine ai (an (id:=9) _ (fun _ h=>h) ah ?_);refine jT 11 [0,1,2] (aa 14 7) ?_;(try (refine Nx.re (d:=47) (v':=Bo false) F (congrArg Value.bool F) ?_));refine jT 5 [3,4,5,7,8,9] (aa 14 959) ?_;(refine jG (aa 14 1023) 6 F (aq F F F) ?_);(refine jG (aa 14 2047) 10 F (aI F F aS F F) ?_);(refine jG (aa 14 4095) 11 F (cz F F (su MapI.mem) aS F) ?_);(refine jG (aa 14 8191) 12 F (gh F F) ?_);(refine jG (aa 14 16383) 13 F (aH F F F) ?_);refine jQ ?_))
    all_goals refine jZ (vs:=[_,_]) F ⟨F,F,trivial⟩ F ⟨hgk.trans hle,F,?_⟩
    all_goals exact .inl ⟨hno,_,F⟩
   | none =>
    rw [hf] at hkv
    dsimp only [Option.map_none] at hkv
    repeat' (first | refine jR ?_ | (refine jo ?_;first | refine aj F ?_ | refine jV (aw F) ?_ | refine av F ?_ | refine ab F F F (cx_cut _) F ?_ | (refine aJ F F F (cx_rt1 _) F ?_;rintro _ G hle ⟨b,fv,ln,rfl,hsg,hfv⟩;skip)) | refine al F F F ?_ | refine ac F (ay ‹_›) ?_ | refine ad F (aC oM) ?_)
    (refine ai (an (id:=9) _ (fun _ h=>h) ah ?_);refine jT 11 [0,1,2] (aa 14 7) ?_;(try (refine Nx.re (d:=47) (v':=Bo false) F (congrArg Value.bool F) ?_));refine jT 5 [3,4,5,7,8,9] (aa 14 959) ?_;(refine jG (aa 14 1023) 6 F (aq F F F) ?_);(refine jG (aa 14 2047) 10 F (aI F F aS F F) ?_);(refine jG (aa 14 4095) 11 F (cz F F (su MapI.mem) aS F) ?_);(refine jG (aa 14 8191) 12 F (gh F F) ?_);(refine jG (aa 14 16383) 13 F (aH F F F) ?_);refine jQ ?_)
    repeat' (first | refine jR ?_ | (refine jo ?_;first | refine aj F ?_ | refine jF fun _=>?_ | refine cQ F F F F F F F F F oM fun _ _=>?_ | refine jD F F F ?_) | refine ad F F ?_)
    rename_i w b2 c2
    (refine ai (an (id:=12) [.blk x (.cells [.slice (some ⟨b2,0,none⟩) (qs.length + 1) c2,.map (some m)].toArray tSc (0,0))] (by intro y hy;simp only [List.mem_cons,List.not_mem_nil,or_false] at hy ⊢;simp [hy]) ah ?_);refine jW 3 [0,1,2,4,5,6,8] (aa 10 375) ?_;(refine jG (aa 10 383) 3 F (aq F F F) ?_);(refine jG (aa 10 511) 7 F (aI F F aS F F) ?_);refine jA 9 F ?_;(refine aaU F F F F ‹_› ?_);refine jS (aa 10 1023) ?_;refine jQ ?_)
    repeat' (refine jR ?_)
    have e1 : ge qs ++ [(ty.name,Pt b 0)] = ge (qs ++ [(b,ty)]):=by simp [ge]
    have e2 : aA sm qs ++ [Pt b 0] = aA sm (qs ++ [(b,ty)]):=(cy sm qs (b,ty)).symm
    have e3 : ak (qs ++ [(b,ty)]) = ak qs ++ [ty]:=by simp [ak]
    rw [e1,e2]
    refine aW (.slice (some ⟨b2,0,none⟩) (qs.length + 1) c2,qs ++ [(b,ty)],ls ++ [line],rest,G) ⟨?_,⟨by simp;omega,by dsimp only;omega⟩,?_,?_,hgk.trans hle⟩ (by dsimp only;omega) tU rfl (by dsimp only;simp only [List.length_append,List.length_cons,List.length_nil,Nat.zero_add];repeat (first | exact List.Sublist.refl _ | apply List.Sublist.cons_cons | apply List.Sublist.cons))
    ·dsimp only;rw [e3];exact hR.step hce hty
    ·intro a ha k hk
     dsimp only at ha ⊢
     rw [e3]
     have hlen:=eO qs
     have hal : a < qs.length + 1:=by simpa using ha
     rcases Nat.lt_or_ge a qs.length with h3 | h3
     ·rw [ip oM,ip oM];exact hna a h3 k hk
     ·have ea : a = qs.length:=oM
      have e4 : ae (ak qs ++ [ty]) a = ty:=by rw [a6 (by simp;omega),List.getElem_append_right oM];simp
      rw [ip oM,e4]
      exact tK hf k oM
    ·intro q hq
     dsimp only at hq ⊢
     rcases List.mem_append.1 hq with hq | hq
     ·exact (hti q hq).mono hle
     ·simp only [List.mem_singleton] at hq;subst hq;exact ⟨fv,ln,hsg,hfv⟩
 ·subst ht
  have hfin:=hR.fin hl (by rw [eO];exact h8)
  have hw : ∀ q ∈ qs,TyW q.2:=fun q hq=>(gO hR.tyE).1 q.2 (show q.2 ∈ qs.map (fun y=>y.2) from List.mem_map_of_mem hq)
  refine Nx.sealS (v:=.slice au qs.length cu) fun G1 hl1 hsl=>?_
  refine Nx.sealC (b:=x) fun G2 hl2 hsx=>?_
  refine Nx.sealM (b:=m) fun G3 hl3 hmm=>?_
  have hS : ScI G3 x qs:=⟨⟨_,m,hsx.mono hl3,hsl.mono (hl2.trans hl3),hmm⟩,fun q hq=>(hti q hq).mono ((hl1.trans hl2).trans hl3)⟩
  have hgl : Gh.le G G3:=((hgk.trans hl1).trans hl2).trans hl3
  have hsx3:=hsx.mono hl3
  have hsl3:=hsl.mono (hl2.trans hl3)
  repeat' (first | refine jR ?_ | (refine jo ?_;first | refine jV (aI F F aS F F) ?_ | refine jV (aw F) ?_) | refine ad F F ?_)
  refine aR (ι:=Nat) (fun k=>k ≤ qs.length ∧ ∀ j,j < k → gJ (ak qs) (ae qs j).2) (fun k=>[(4,Pt x 0),(82,.slice au qs.length cu),(83,I qs.length),(84,I k)]) (fun k=>G3) (fun k=>[]) (fun k=>qs.length - k) 0 ?_ tU F aX (fun k Hk=>?_)
  ·exact ⟨Nat.zero_le _,fun j hj=>absurd hj oM⟩
  by_cases hk : k < qs.length
  case neg =>
   have hko : ∀ q ∈ qs,gJ (ak qs) q.2:=fun q hq=>by
    obtain ⟨j,hj,rfl⟩:=j9 hq
    exact Hk.2 j oM
   repeat' (first | refine jR ?_ | (refine jo ?_;first | refine jV (aI F F aS F F) ?_ | refine jV (aw F) ?_) | refine ad F (aC oM) ?_)
   refine aR (ι:=Nat) (fun k=>k ≤ qs.length ∧ ∀ j,j < k → bO (ak qs) 9 (ae qs j).2 = true) (fun k=>[(4,Pt x 0),(114,.slice au qs.length cu),(115,I qs.length),(116,I k)]) (fun k=>G3) (fun k=>[]) (fun k=>qs.length - k) 0 ?_ tU F aX (fun k Hk=>?_)
   ·exact ⟨Nat.zero_le _,fun j hj=>absurd hj oM⟩
   have hends : ∀ j,j < qs.length → bO (ak qs) 9 (ae qs j).2 = bO (ak qs) ((ak qs).length + 1) (ae (ak qs) j):=fun j hj=>by
    rw [j8 hj]
    exact xI (by rw [eO];exact h8) (show (ae qs j).2 ∈ qs.map (fun y=>y.2) from List.mem_map_of_mem (bT hj))
   by_cases hk2 : k < qs.length
   case neg =>
    have hv : gX (ak qs):=by
     refine ⟨fun j hj=>?_,fun j hj=>?_⟩
     ·rw [eO] at hj
      exact ⟨hna j hj,by rw [j8 hj];exact hko _ (bT hj)⟩
     ·rw [eO] at hj
      rw [← hends j hj];exact Hk.2 j oM
    repeat' (first | refine jR ?_ | refine ad F (aC oM) ?_)
    all_goals refine jZ (vs:=[_,_]) F ⟨F,F,trivial⟩ F ⟨hgl,F,?_⟩
    all_goals exact .inr ⟨x,qs,F,by rw [hfin,if_pos hv],hS⟩
   obtain ⟨ba,oa,ca,ea,hsa⟩:=hsl3.expl oM
   simp only [Value.slice.injEq] at ea
   obtain ⟨rfl,-,rfl⟩:=ea
   rcases hq : ae qs k with ⟨p,ty⟩
   have hqm : (p,ty) ∈ qs:=by rw [← hq];exact bT hk2
   have cx_en2:=x9 hS hw hko hqm
   have hek:=hends k hk2
   rw [hq] at hek
   dsimp only at hek
   by_cases he : bO (ak qs) 9 ty = true
   ·have he2 : (!bO (ak qs) 9 ty) = false:=by rw [he];rfl
    repeat' (first | refine jM ?_ | (refine jo ?_;first | (refine jV (fq F F aS ?_ aS F) ?_;focus omega) | refine jV (ax F F oM) ?_ | refine ab F F F cx_en2 F ?_) | refine ac F (ay oM) ?_ | refine ad F ‹_› ?_)
    refine aW (k + 1) ⟨oM,fun j hj=>?_⟩ oM tU F aX
    rcases Nat.lt_or_ge j k with h3 | h3
    ·exact Hk.2 j h3
    ·have : j = k:=oM
     subst this;rw [hq];exact he
   ·have he2 : (!bO (ak qs) 9 ty) = true:=by simpa using he
    have hno : aN s = none:=by
     rw [hfin,if_neg]
     intro hv
     have:=hv.2 k (by rw [eO];exact hk2)
     rw [← hek] at this
     exact he this
    repeat' (first | refine jR ?_ | (refine jo ?_;first | (refine jV (fq F F aS ?_ aS F) ?_;focus omega) | refine jV (ax F F oM) ?_ | refine ab F F F cx_en2 F ?_) | (refine ac F (by first | assumption | (refine decide_eq_true ?_;(omega))) ?_))
    all_goals refine jZ (vs:=[_,_]) F ⟨F,F,trivial⟩ F ⟨hgl,F,?_⟩
    all_goals exact .inl ⟨hno,_,F⟩
  obtain ⟨ba,oa,ca,ea,hsa⟩:=hsl3.expl oM
  simp only [Value.slice.injEq] at ea
  obtain ⟨rfl,-,rfl⟩:=ea
  rcases hq : ae qs k with ⟨p,ty⟩
  have hqm : (p,ty) ∈ qs:=by rw [← hq];exact bT hk
  obtain ⟨fv,ln,hsg,hfv⟩:=hS.ty _ hqm
  dsimp only at hsg hfv
  have hW:=hw _ hqm
  dsimp only at hW
  have h88:=hW.len
  repeat' (first | refine jR ?_ | (refine jo ?_;first | refine jV (aI F F aS F F) ?_ | (refine jV (fq F F aS ?_ aS F) ?_;focus omega) | refine jV (cY F aS) ?_ | refine jV (ax F F oM) ?_) | refine ac F (ay oM) ?_)
  refine aR (ι:=Nat) (fun l=>l ≤ ty.fields.length ∧ (ty.sort = 69 ∨ ∀ j,j < l → dY (ak qs) (ae ty.fields j).kind = true)) (fun l=>[(4,Pt x 0),(11,Pt p 0),(82,.slice (some ⟨ba,oa,none⟩) qs.length cu),(83,I qs.length),(84,I k),(91,fv),(92,I ty.fields.length),(93,I l)]) (fun l=>G3) (fun l=>[]) (fun l=>ty.fields.length - l) 0 ?_ tU F aX (fun l Hl=>?_)
  ·exact ⟨Nat.zero_le _,.inr fun j hj=>absurd hj oM⟩
  by_cases hl2 : l < ty.fields.length
  case neg =>
   repeat' (first | refine jM ?_ | refine ad F (aC oM) ?_)
   refine aW (k + 1) ⟨oM,fun j hj=>?_⟩ oM tU F aX
   rcases Nat.lt_or_ge j k with h3 | h3
   ·exact Hk.2 j h3
   ·have : j = k:=oM
    subst this
    rw [hq]
    rcases Hl.2 with h5 | h5
    ·exact .inl h5
    ·exact .inr fun j2 hj2=>h5 j2 (by dsimp only at hj2;omega)
  obtain ⟨bf,of,cf,rfl,hsf⟩:=hfv.expl oM
  by_cases h69 : ty.sort = 69
  ·repeat' (first | refine jM ?_ | (refine jo ?_;first | (refine jV (cD F F aS ?_) ?_;focus omega) | refine jV (aI F F aS F F) ?_ | refine av F ?_ | refine jC F F F ?_ | refine jV (ax F F oM) ?_ | refine jL fun _=>?_) | refine al F F (aC oM) ?_ | refine ac F (ay oM) ?_ | refine ad F F ?_)
   refine aW (l + 1) ⟨oM,.inl h69⟩ oM tU F (by repeat (exact List.nil_sublist _))
  have hko1:=(hW.fld _ (bT hl2)).kind h69
  have cx_has:=tT hS hko1
  by_cases hh : dY (ak qs) (ae ty.fields l).kind = true
  ·have hh2 : (!dY (ak qs) (ae ty.fields l).kind) = false:=by rw [hh];rfl
   repeat' (first | refine jM ?_ | (refine jo ?_;first | (refine jV (cD F F aS ?_) ?_;focus omega) | refine aG F ?_ | refine jV (aI F F aS F F) ?_ | refine aL F ?_ | refine jC F F F ?_ | refine jV (ax F F oM) ?_ | refine jL fun _=>?_ | refine ab F F F cx_has F ?_) | refine aD F F (ay oM) ?_ | refine ac F (ay oM) ?_ | refine ad F ‹_› ?_)
   refine aW (l + 1) ⟨oM,.inr fun j hj=>?_⟩ oM tU F (by repeat (exact List.nil_sublist _))
   rcases Nat.lt_or_ge j l with h3 | h3
   ·rcases Hl.2 with h5 | h5
    ·exact absurd h5 h69
    ·exact h5 j h3
   ·have : j = l:=oM
    subst this;exact hh
  ·have hh2 : (!dY (ak qs) (ae ty.fields l).kind) = true:=by simpa using hh
   have hno : aN s = none:=by
    rw [hfin,if_neg]
    intro hv
    have h5:=(hv.1 k (by rw [eO];exact hk)).2
    rw [j8 hk,hq] at h5
    rcases h5 with h6 | h6
    ·exact h69 h6
    ·exact hh (h6 l hl2)
   repeat' (first | refine jR ?_ | (refine jo ?_;first | (refine jV (cD F F aS ?_) ?_;focus omega) | refine aG F ?_ | refine jV (aI F F aS F F) ?_ | refine aL F ?_ | refine jC F F F ?_ | refine jV (ax F F oM) ?_ | refine jL fun _=>?_ | refine ab F F F cx_has F ?_) | refine aD F F (ay oM) ?_ | (refine ac F (by first | assumption | (refine decide_eq_true ?_;(omega))) ?_))
   all_goals refine jZ (vs:=[_,_]) F ⟨F,F,trivial⟩ F ⟨hgl,F,?_⟩
   all_goals exact .inl ⟨hno,_,F⟩
theorem rX {s : abL} (h : s.length ≤ 10000000) : am abK 75 [S s] G (· = Bo (aN s).isSome):=by
 cases hs : aN s with
 | none =>
  have cx_rs0 : ∀ G,bA abK 90 [S s] G (fun v _=>∃ p,v = Tu [p,Bo false]):=fun G=>by
   refine (gn (G:=G) h).mono ?_
   rintro v G' L' ⟨h1,h2,⟨_,p,rfl⟩ | ⟨_,_,_,h4,_⟩⟩
   ·exact ⟨h1,h2,p,F⟩
   ·rw [hs] at h4;cases h4
  refine jB (Post:=fun v G' L'=>G' = G ∧ L' = [] ∧ _) [(0,_)] Tryz.func75 Tryz.ntmps75 fun B hok hB hW=>?_
  repeat' (first | refine jR ?_ | (refine jo ?_;(refine aJ F F F (cx_rs0 _) F ?_;rintro _ G hle ⟨p,rfl⟩;skip)))
  refine Nx.base hok hB ?_
  refine jY (vs:=[_]) ?_
  rfl
 | some ts =>
  have cx_rs1 : ∀ G,bA abK 90 [S s] G (fun v G'=>∃ b qs,v = Tu [Pt b 0,Bo true] ∧ ak qs = ts ∧ ScI G' b qs):=fun G=>by
   refine (gn (G:=G) h).mono ?_
   rintro v G' L' ⟨h1,h2,⟨h4,_⟩ | ⟨b,qs,rfl,h4,h5⟩⟩
   ·rw [hs] at h4;cases h4
   ·rw [hs] at h4;simp only [Option.some.injEq] at h4;exact ⟨h1,h2,b,qs,F,h4.symm,h5⟩
  refine jB (Post:=fun v G' L'=>G' = G ∧ L' = [] ∧ _) [(0,_)] Tryz.func75 Tryz.ntmps75 fun B hok hB hW=>?_
  repeat' (first | refine jR ?_ | (refine jo ?_;(refine aJ F F F (cx_rs1 _) F ?_;rintro _ G hle ⟨b,qs,rfl,hqs,hS⟩;skip)))
  refine Nx.base hok hB ?_
  refine jY (vs:=[_]) ?_
  rfl
def wx (s k : abL) (v : Value) (G : Gh) : Prop:=(bV s k = false ∧ ∃ p a b c,v = Tu [p,Ag [S a,S b,S c],Bo false]) ∨ ∃ b qs,v = Tu [Pt b 0,Ag (d4 k),Bo true] ∧ aN s = some (ak qs) ∧ aP (ak qs) k = true ∧ ScI G b qs
theorem iY {s k : abL} (h : s.length ≤ 10000000) (hk : k.length ≤ 2000000) : bA abK 59 [S s,S k] G (wx s k):=by
 cases hs : aN s with
 | none =>
  have hno : bV s k = false:=by unfold bV;rw [hs]
  have cx_rs0 : ∀ G,bA abK 90 [S s] G (fun v _=>∃ p,v = Tu [p,Bo false]):=fun G=>by
   refine (gn (G:=G) h).mono ?_
   rintro v G' L' ⟨h1,h2,⟨_,p,rfl⟩ | ⟨_,_,_,h4,_⟩⟩
   ·exact ⟨h1,h2,p,F⟩
   ·rw [hs] at h4;cases h4
  refine jB [(0,_),(1,_)] Tryz.func59 Tryz.ntmps59 fun B hok hB hW=>?_
  repeat' (first | refine jR ?_ | (refine jo ?_;first | refine jL fun _=>?_ | refine jV (ao F F) ?_ | refine jC F F F ?_ | (refine aJ F F F (cx_rs0 _) F ?_;rintro _ G hle ⟨p,rfl⟩;skip)) | refine ac F F ?_)
  all_goals refine jZ (vs:=[_,_,_]) F ⟨F,aE F F F F,F,trivial⟩ F ⟨hle,F,?_⟩
  all_goals exact .inl ⟨hno,_,[],[],[],F⟩
 | some ts =>
  have cx_rs1 : ∀ G,bA abK 90 [S s] G (fun v G'=>∃ b qs,v = Tu [Pt b 0,Bo true] ∧ ak qs = ts ∧ ScI G' b qs):=fun G=>by
   refine (gn (G:=G) h).mono ?_
   rintro v G' L' ⟨h1,h2,⟨h4,_⟩ | ⟨b,qs,rfl,h4,h5⟩⟩
   ·rw [hs] at h4;cases h4
   ·rw [hs] at h4;simp only [Option.some.injEq] at h4;exact ⟨h1,h2,b,qs,F,h4.symm,h5⟩
  by_cases hko : bz k = true
  case neg =>
   have hkc2 : bz k = false:=by simpa using hko
   have hno : bV s k = false:=by unfold bV aP;rw [hs];simp [hkc2]
   have cx_kn : ∀ G,am abK 91 [S k] G (fun v=>∃ x y z,v = Tu [Ag [S x,S y,S z],Bo false]):=fun G=>by
    refine (k5 (G:=G) (s:=k) oM).mono ?_
    rintro v G' L' ⟨h1,h2,x,y,z,rfl,_⟩
    exact ⟨h1,h2,x,y,z,by rw [hkc2]⟩
   refine jB [(0,_),(1,_)] Tryz.func59 Tryz.ntmps59 fun B hok hB hW=>?_
   repeat' (first | refine jR ?_ | (refine jo ?_;first | refine jL fun _=>?_ | refine jC F F F ?_ | (refine aJ F F F (cx_rs1 _) F ?_;rintro _ G hle ⟨b,qs,rfl,hqs,hS⟩;skip) | (refine cn F F F (cx_kn _) F ?_;rintro _ ⟨x,y,z,rfl⟩)) | refine ad F F ?_ | (refine ai (dL (id:=5) (tt:=5) F ah ?_);refine jW 8 [0,2,3] (aa 11 13) ?_;(try (refine Nx.re (d:=26) (v':=Bo false) F (congrArg Value.bool F) ?_));refine jW 7 [4] (aa 11 29) ?_;(refine jG (aa 11 31) 1 F (bq F F F F) ?_);(refine jN (aa 11 63) 5 F ?_);(refine jN (aa 11 127) 6 F ?_);refine jW 3 [8] (aa 11 383) ?_;((refine jG (aa 11 511) 7 F (aH F F ?_) ?_;(focus ((rfl);done))));refine jA 9 F ?_;(refine jC F F F ?_);refine jK (aa 11 1023) ?_;refine jW 0 [10] (aa 11 2047) ?_;refine jQ ?_))
   all_goals refine jZ (vs:=[_,_,_]) F ⟨F,aE F F F F,F,trivial⟩ F ⟨hle,F,?_⟩
   all_goals exact .inl ⟨hno,_,_,_,_,F⟩
  have cx_kq : ∀ G,am abK 91 [S k] G (· = Tu [Ag [S (sg k),S (bs k),S (nm k)],Bo true]):=fun G=>sY oM hko
  have hkk : d4 k = [S (sg k),S (bs k),S (nm k)]:=rfl
  by_cases hH : dY ts k = true
  case pos =>
   have cx_hy : ∀ G b qs,ak qs = ts → ScI G b qs → am abK 92 [Pt b 0,Ag [S (sg k),S (bs k),S (nm k)]] G (· = Bo true):=by
    intro G b qs hq hS
    refine (tT hS hko).mono ?_
    rintro v G' L' ⟨h1,h2,rfl⟩
    exact ⟨h1,h2,by rw [hq,hH]⟩
   refine jB [(0,_),(1,_)] Tryz.func59 Tryz.ntmps59 fun B hok hB hW=>?_
   repeat' (first | refine jR ?_ | (refine jo ?_;first | refine jL fun _=>?_ | refine jC F F F ?_ | (refine aJ F F F (cx_rs1 _) F ?_;rintro _ G hle ⟨b,qs,rfl,hqs,hS⟩;skip) | refine ab F F F (cx_kq _) F ?_) | refine ad F F ?_ | (refine ai (dL (id:=5) (tt:=5) F ah ?_);refine jW 8 [0,2,3] (aa 11 13) ?_;(try (refine Nx.re (d:=26) (v':=Bo true) F (congrArg Value.bool F) ?_));refine jW 7 [4] (aa 11 29) ?_;(refine jG (aa 11 31) 1 F (bq F F F F) ?_);(refine jG (aa 11 63) 5 F (bq F F F F) ?_);((refine jA 6 F ?_;((refine ab F F F ((cx_hy _ _ _) (by (repeat (assumption));done) (by (repeat (assumption));done)) rfl ?_));refine jK (aa 11 127) ?_));refine jW 3 [8] (aa 11 383) ?_;((refine jG (aa 11 511) 7 F (aT F F ?_) ?_;(focus ((rfl);done))));refine jA 9 F ?_;(refine jC F F F ?_);refine jK (aa 11 1023) ?_;refine jW 0 [10] (aa 11 2047) ?_;refine jQ ?_))
   all_goals refine jZ (vs:=[_,_,_]) F ⟨F,aE F F F F,F,trivial⟩ F ⟨hle,F,?_⟩
   all_goals exact .inr ⟨b,qs,F,by rw [hs,hqs],by simp [aP,hqs,hko,hH],hS⟩
  case neg =>
   have hH2 : dY ts k = false:=by simpa using hH
   have hno : bV s k = false:=by unfold bV aP;rw [hs];simp [hH2]
   have cx_hn : ∀ G b qs,ak qs = ts → ScI G b qs → am abK 92 [Pt b 0,Ag [S (sg k),S (bs k),S (nm k)]] G (· = Bo false):=by
    intro G b qs hq hS
    refine (tT hS hko).mono ?_
    rintro v G' L' ⟨h1,h2,rfl⟩
    exact ⟨h1,h2,by rw [hq,hH2]⟩
   refine jB [(0,_),(1,_)] Tryz.func59 Tryz.ntmps59 fun B hok hB hW=>?_
   repeat' (first | refine jR ?_ | (refine jo ?_;first | refine jL fun _=>?_ | refine jC F F F ?_ | (refine aJ F F F (cx_rs1 _) F ?_;rintro _ G hle ⟨b,qs,rfl,hqs,hS⟩;skip) | refine ab F F F (cx_kq _) F ?_) | refine ad F F ?_ | (refine ai (dL (id:=5) (tt:=5) F ah ?_);refine jW 8 [0,2,3] (aa 11 13) ?_;(try (refine Nx.re (d:=26) (v':=Bo true) F (congrArg Value.bool F) ?_));refine jW 7 [4] (aa 11 29) ?_;(refine jG (aa 11 31) 1 F (bq F F F F) ?_);(refine jG (aa 11 63) 5 F (bq F F F F) ?_);((refine jA 6 F ?_;((refine ab F F F ((cx_hn _ _ _) (by (repeat (assumption));done) (by (repeat (assumption));done)) rfl ?_));refine jK (aa 11 127) ?_));refine jW 3 [8] (aa 11 383) ?_;((refine jG (aa 11 511) 7 F (aT F F ?_) ?_;(focus ((rfl);done))));refine jA 9 F ?_;(refine jC F F F ?_);refine jK (aa 11 1023) ?_;refine jW 0 [10] (aa 11 2047) ?_;refine jQ ?_))
   all_goals refine jZ (vs:=[_,_,_]) F ⟨F,aE F F F F,F,trivial⟩ F ⟨hle,F,?_⟩
   all_goals exact .inl ⟨hno,_,_,_,_,F⟩
theorem i9 {t : Ty} : fp t = (ae t.fields 0).kind:=by
 unfold fp ae
 cases t.fields with
 | nil=>rfl
 | cons f r=>rfl
theorem iC {t : Ty} : tag0 t = (ae t.fields 0).tag:=by
 unfold tag0 ae
 cases t.fields with
 | nil=>rfl
 | cons f r=>rfl
theorem lU {n : Int} (h : 0 ≤ n ∧ n ≤ 9223372036854775807) : (br n).length ≤ 19:=iO h.2
theorem rP (k : abL) : (ff k).length ≤ 2:=by
 unfold ff
 split
 ·simp
 ·split
  ·simp
  ·split <;> simp
theorem SchW.tag0 {ts : List Ty} (h : SchW ts) {t : Ty} (ht : t ∈ ts) : 0 ≤ Go.E.tag0 t ∧ Go.E.tag0 t ≤ 200:=by
 rw [iC]
 by_cases h0 : 0 < t.fields.length
 ·have:=((h.ty t ht).fld _ (bT h0)).tag;omega
 ·have : t.fields = []:=List.eq_nil_of_length_eq_zero oM
  rw [this];exact ⟨Int.le_refl _,by decide⟩
theorem kq {ts : List Ty} (h : SchW ts) : ∀ (n : Nat) (k : abL),(ct ts n k).length ≤ 30 * n
 | 0,k=>by simp [ct]
 | n + 1,[]=>by simp [ct]
 | n + 1,c :: r=>by
  unfold ct
  split
  ·simp;omega
  ·split
   ·simp;omega
   ·split
    ·have:=rP (c :: r);omega
    ·rename_i t ht
     have h1:=h.tag0 (cS ht)
     have h2:=lU (n:=tag0 t) oM
     have h3:=kq h n (fp t)
     split
     ·simp;omega
     ·split
      ·simp;omega
      ·simp;omega
theorem eS {ts : List Ty} (h : SchW ts) {t : Ty} (ht : t ∈ ts) (hs : t.sort ≠ 69) {f : Fld} (hf : f ∈ t.fields) : aP ts f.kind = true:=by
 unfold aP
 rw [((h.ty t ht).fld f hf).kind hs,Bool.true_and]
 obtain ⟨i,hi,rfl⟩:=List.mem_iff_getElem.1 ht
 obtain ⟨j,hj,rfl⟩:=List.mem_iff_getElem.1 hf
 have h1:=(h.valid.1 i hi).2
 rw [a6 hi] at h1
 rcases h1 with h1 | h1
 ·exact absurd h1 hs
 ·have:=h1 j hj
  rwa [a6 hj] at this
theorem dp {ts : List Ty} {k : abL} (h : aP ts k = true) : bz k = true:=by
 unfold aP at h;simp only [Bool.and_eq_true] at h;exact h.1
theorem fa {c : UInt8} {r : abL} (h : ¬ (c.toNat = 91 ∨ c.toNat = 63)) : bm (c :: r) = c :: r:=by rw [bm,if_neg h]
theorem sI {ts : List Ty} (h : SchW ts) {k : abL} (t : Ty) (ht : aV ts k = some t) : bO ts (ts.length + 1) t = true:=by
 obtain ⟨i,hi,rfl⟩:=List.mem_iff_getElem.1 (cS ht)
 have:=h.valid.2 i hi
 rwa [a6 hi] at this
theorem uZ {u : Value} {vs : List b8} (h : SchR G u vs) (hw : SchW (ag vs)) : ∀ (n : Nat) {k : abL},n ≤ 1000 → aP (ag vs) k = true → (∀ t,aV (ag vs) k = some t → bO (ag vs) n t = true) →
  am abK 115 [u,S k] G (· = S (ct (ag vs) (n + 1) k)):=by
 have hvl : vs.length ≤ 1000000:=by have:=hw.len;rw [oU] at this;omega
 intro n
 induction n with
 | zero =>
  intro k hn hk he
  have hko:=dp hk
  have hkk:=dc hko
  match k,hkk with
  | c :: r,hkk =>
   have e0:=lf c r
   by_cases h1 : c.toNat = 91
   ·refine jE [(0,_),(1,_)] Tryz.func115 Tryz.ntmps115 fun B hB=>?_
    repeat' (first | refine jX ?_ | (refine ac F ?_ ?_;(focus ((simp [*];done);done))))
    all_goals refine jY (vs:=[_]) ?_
    all_goals (rw [ar];unfold ct;rw [if_pos h1])
   by_cases h2 : c.toNat = 63
   ·refine jE [(0,_),(1,_)] Tryz.func115 Tryz.ntmps115 fun B hB=>?_
    repeat' (first | refine jX ?_ | (refine ac F ?_ ?_;(focus ((simp [*];done);done))) | (refine ad F ?_ ?_;(focus ((simp [*];done);done))))
    all_goals refine jY (vs:=[_]) ?_
    all_goals (rw [ar];unfold ct;rw [if_neg h1,if_pos h2])
   have href:=fW vs (c :: r)
   have cx_rf:=k4 (k:=c :: r) h hvl hkk.1 oM
   cases hr : eH vs (c :: r) with
   | some x=>rw [hr] at href;have:=he _ href.symm;cases this
   | none =>
    rw [hr] at href cx_rf
    refine jE [(0,_),(1,_)] Tryz.func115 Tryz.ntmps115 fun B hB=>?_
    repeat' (first | refine jX ?_ | (refine jo ?_;first | refine jL fun _=>?_ | refine jC F F F ?_ | refine ab F F F cx_rf F ?_ | refine ab F F F pZ F ?_) | refine ac F F ?_ | (refine ad F ?_ ?_;(focus ((simp;omega);done))))
    all_goals refine jY (vs:=[_]) ?_
    all_goals (rw [ar];unfold ct;rw [if_neg h1,if_neg h2,← href];rfl)
 | succ n ih =>
  intro k hn hk he
  have hko:=dp hk
  have hkk:=dc hko
  match k,hkk with
  | c :: r,hkk =>
   have e0:=lf c r
   by_cases h1 : c.toNat = 91
   ·refine jE [(0,_),(1,_)] Tryz.func115 Tryz.ntmps115 fun B hB=>?_
    repeat' (first | refine jX ?_ | (refine ac F ?_ ?_;(focus ((simp [*];done);done))))
    all_goals refine jY (vs:=[_]) ?_
    all_goals (rw [ar];unfold ct;rw [if_pos h1])
   by_cases h2 : c.toNat = 63
   ·refine jE [(0,_),(1,_)] Tryz.func115 Tryz.ntmps115 fun B hB=>?_
    repeat' (first | refine jX ?_ | (refine ac F ?_ ?_;(focus ((simp [*];done);done))) | (refine ad F ?_ ?_;(focus ((simp [*];done);done))))
    all_goals refine jY (vs:=[_]) ?_
    all_goals (rw [ar];unfold ct;rw [if_neg h1,if_pos h2])
   have href:=fW vs (c :: r)
   have cx_rf:=k4 (k:=c :: r) h hvl hkk.1 oM
   rcases hr : eH vs (c :: r) with _ | ⟨⟨a,ca⟩,t⟩
   ·rw [hr] at href cx_rf
    refine jE [(0,_),(1,_)] Tryz.func115 Tryz.ntmps115 fun B hB=>?_
    repeat' (first | refine jX ?_ | (refine jo ?_;first | refine jL fun _=>?_ | refine jC F F F ?_ | refine ab F F F cx_rf F ?_ | refine ab F F F pZ F ?_) | refine ac F F ?_ | (refine ad F ?_ ?_;(focus ((simp;omega);done))))
    all_goals refine jY (vs:=[_]) ?_
    all_goals (rw [ar];unfold ct;rw [if_neg h1,if_neg h2,← href];rfl)
   rw [hr] at href cx_rf
   have hrf : aV (ag vs) (c :: r) = some t:=href.symm
   have htm:=cS hrf
   have hW:=hw.ty t htm
   have htg:=hw.tag0 htm
   rw [iC] at htg
   have e3 : ct (ag vs) (n + 1 + 1) (c :: r) = if t.sort = 82 then [123,125] else if t.sort = 69 then 35 :: br (tag0 t) else 60 :: (br (tag0 t) ++ 61 :: (ct (ag vs) (n + 1) (fp t) ++ [62])):=by
    rw [ct,if_neg h1,if_neg h2,hrf]
   rw [e3,iC,i9]
   clear e3
   by_cases s1 : t.sort = 82
   ·rw [if_pos s1]
    refine jE [(0,_),(1,_)] Tryz.func115 Tryz.ntmps115 fun B hB=>?_
    repeat' (first | refine jX ?_ | (refine jo ?_;first | refine jL fun _=>?_ | refine jC F F F ?_ | refine aj F ?_ | refine ab F F F cx_rf F ?_) | (refine ac F ?_ ?_;(focus ((simp [*];done);done))) | (refine ad F ?_ ?_;(focus ((first | rfl | (simp;omega));done))))
    all_goals refine jY (vs:=[_]) ?_
    all_goals rfl
   have h0 : 0 < t.fields.length:=List.length_pos_iff.2 (hW.ne s1)
   obtain ⟨bf,of,cf,ef,hsf⟩:=(h.fl _ (fQ hr)).expl h0
   simp only [gP,Value.slice.injEq] at ef
   obtain ⟨rfl,-,rfl⟩:=ef
   dsimp only at hsf
   have cx_rf : am abK 113 [u,S (c :: r)] G (· = Tu [Ag [U8 t.sort,S t.name,.slice (some ⟨bf,of,none⟩) t.fields.length ca],Bo true]):=cx_rf
   have hdl:=lU (n:=(ae t.fields 0).tag) oM
   rw [if_neg s1]
   by_cases s2 : t.sort = 69
   ·rw [if_pos s2]
    refine jE [(0,_),(1,_)] Tryz.func115 Tryz.ntmps115 fun B hB=>?_
    repeat' (first | refine jX ?_ | (refine jo ?_;first | refine jL fun _=>?_ | refine jC F F F ?_ | refine aj F ?_ | (refine jV (bN F F aS ?_ F F) ?_;focus omega) | refine jV (ax F F oM) ?_ | refine ab F F F cx_rf F ?_ | (refine ab F F F (fz ?_) F ?_;(focus ((simp;omega);done)))) | refine ac F (ay oM) ?_ | (refine ad F ?_ ?_;(focus ((first | rfl | (refine decide_eq_false ?_;(omega)) | (simp;omega));done))))
    all_goals refine jY (vs:=[_]) ?_
    all_goals rfl
   have hin:=eS hw htm s2 (bT h0)
   have hen : ∀ t',aV (ag vs) (ae t.fields 0).kind = some t' → bO (ag vs) n t' = true:=by
    intro t' ht'
    have:=he t hrf
    have s3 : t.sort = 85:=by rcases hW.sort with h | h | h <;> omega
    rw [bO,if_neg (by simp [s3]),i9,ht'] at this
    exact this
   have cx_std:=ih (k:=(ae t.fields 0).kind) oM hin hen
   have hsl:=kq hw (n + 1) (ae t.fields 0).kind
   rw [if_neg s2]
   refine jE [(0,_),(1,_)] Tryz.func115 Tryz.ntmps115 fun B hB=>?_
   repeat' (first | refine jX ?_ | (refine jo ?_;first | refine jL fun _=>?_ | refine jC F F F ?_ | refine aj F ?_ | refine ab F F F cx_rf F ?_) | (refine ad F ?_ ?_;(focus ((first | rfl | (refine decide_eq_false ?_;(omega)) | (simp;omega));done))) | (refine ai (an (id:=13) _ (fun _ h=>h) ah ?_);refine jT 15 [0,8,9] (aa 18 769) ?_;(refine jG (aa 18 771) 1 F (aq F F F) ?_);(refine jG (aa 18 775) 2 F (ax F F oM) ?_);refine jT 12 [3] (aa 18 783) ?_;((refine jG (aa 18 799) 4 F (bN F F aS ?_ F F) ?_;focus omega));(refine jG (aa 18 1823) 10 F (aq F F F) ?_);(refine jG (aa 18 3871) 11 F (ax F F oM) ?_);refine jT 8 [12] (aa 18 7967) ?_;((refine jG (aa 18 16159) 13 F (bN F F aS ?_ F F) ?_;focus omega));refine jA 5 F ?_;((refine ab F F F (fz ?_) F ?_;(focus ((simp;omega);done))));refine jS (aa 18 16191) ?_;refine jW 4 [6,7] (aa 18 16383) ?_;refine jA 14 F ?_;(refine ab F F F cx_std F ?_);refine jS (aa 18 32767) ?_;refine jW 0 [15,16,17] (aa 18 262143) ?_;refine jQ ?_))
   all_goals refine jY (vs:=[_]) ?_
   all_goals (rw [ar];simp)
theorem u4 {u : Value} {vs : List b8} (h : SchR G u vs) (hw : SchW (ag vs)) {k : abL} (hk : aP (ag vs) k = true) : am abK 115 [u,S k] G (· = S (qo (ag vs) k)) :=
 uZ h hw ((ag vs).length + 1) (by have:=hw.len;omega) hk (fun t ht=>sI hw t ht)
theorem mh {c : UInt8} {r : abL} (h : c.toNat = 91 ∨ c.toNat = 63) : sg (c :: r) = c :: sg r:=by
 unfold sg
 rw [bm,if_pos h]
 have:=jm r
 rw [List.length_cons,show r.length + 1 - (bm r).length = (r.length - (bm r).length) + 1 by omega]
 rfl
theorem mg {c : UInt8} {r : abL} (h : ¬ (c.toNat = 91 ∨ c.toNat = 63)) : sg (c :: r) = []:=by
 unfold sg;rw [fa h];simp
theorem dn {b c : abL} : am abK 123 [Ag [S [],S b,S c]] G (· = U8 (0 : Nat)):=by
 refine jE [(0,_)] Tryz.func123 Tryz.ntmps123 fun B hB=>?_
 repeat' (first | refine jR ?_ | (refine jo ?_;first | refine jO fun _=>?_ | refine aj F ?_) | refine ac F F ?_)
 all_goals refine jY (vs:=[_]) ?_
 all_goals rfl
theorem iw {x : UInt8} {a b c : abL} : am abK 123 [Ag [S (x :: a),S b,S c]] G (· = U8 (x.toNat : Nat)):=by
 have e0:=lf x a
 refine jE [(0,_)] Tryz.func123 Tryz.ntmps123 fun B hB=>?_
 repeat' (first | refine jX ?_ | (refine jo ?_;first | refine jO fun _=>?_ | refine aj F ?_) | refine ad F F ?_)
 all_goals refine jY (vs:=[_]) ?_
 all_goals (rw [ar];(rfl))
theorem nG {k : abL} (hk : bz k = true) (hr : bE (bm k) = none) : bs k = [110] ∨ bs k = [116] ∨ bs k = [102]:=by
 have h:=kX (dc hk).1
 unfold bs
 cases hc : bm k with
 | nil=>rw [hc] at h;cases h
 | cons c r =>
  rw [hc] at h hr
  have h64 : ¬ c.toNat = 64:=by
   intro h64
   simp [bE,h64] at hr
  have h91 : ¬ (c.toNat = 91 ∨ c.toNat = 63):=lW hc
  have e : oP (c :: r) = c :: r:=by simp [oP,h64]
  rw [e]
  rw [eg,if_neg h91,if_neg h64] at h
  simp only [Bool.and_eq_true,Bool.or_eq_true,decide_eq_true_eq] at h
  obtain ⟨rfl,h⟩:=h
  have hu : ∀ n : Nat,c.toNat = n → n < 256 → c = UInt8.ofNat n:=fun n h1 h2=>by
   apply UInt8.toNat_inj.1;rw [h1,UInt8.toNat_ofNat'];omega
  rcases h with (h | h) | h
  ·exact .inl (by rw [hu _ h dC];rfl)
  ·exact .inr (.inl (by rw [hu _ h dC];rfl))
  ·exact .inr (.inr (by rw [hu _ h dC];rfl))
theorem ScI.W {b : Nat} {qs : List cx} (_ : ScI G b qs) (hw : SchW (ak qs)) {q : cx} (hq : q ∈ qs) : q.2 ∈ ak qs ∧ TyW q.2:=by
 have h1 : q.2 ∈ ak qs:=List.mem_map_of_mem hq
 exact ⟨h1,hw.ty _ h1⟩
theorem qA {k : abL} (hs : sg k = []) (hk : bz k = true) (hr : bE (bm k) = none) : ff k = ff (bs k):=by
 match k,hk with
 | c :: r,hk =>
  have h91 : ¬ (c.toNat = 91 ∨ c.toNat = 63):=fun h=>by rw [mh h] at hs;cases hs
  have hc:=fa (r:=r) h91
  have h64 : ¬ c.toNat = 64:=fun h64=>by rw [hc] at hr;simp [bE,h64] at hr
  unfold bs;rw [hc];simp [oP,h64]
theorem u3 {b : Nat} {qs : List cx} (h : ScI G b qs) (hw : SchW (ak qs)) : ∀ (n : Nat) {k : abL},n ≤ 1000 → aP (ak qs) k = true → (∀ t,aV (ak qs) k = some t → bO (ak qs) n t = true) →
  am abK 181 [Pt b 0,Ag [S (sg k),S (bs k),S (nm k)]] G (· = S (ct (ak qs) (n + 1) k)):=by
 obtain ⟨u,m,g1,g2,g3⟩:=h.at'
 intro n
 induction n with
 | zero =>
  intro k hn hk he
  have hko:=dp hk
  match k,hko with
  | c :: r,hko =>
   by_cases h91 : c.toNat = 91 ∨ c.toNat = 63
   ·have cx_sign:=@iw G c (sg r) (bs (c :: r)) (nm (c :: r))
    rw [mh h91]
    by_cases h1 : c.toNat = 91
    ·refine jE [(0,_),(1,_)] Tryz.func181 Tryz.ntmps181 fun B hB=>?_
     repeat' (first | refine jR ?_ | (refine jo ?_;first | refine jO fun _=>?_ | refine aG F ?_ | refine ab F F F cx_sign F ?_) | refine ac F (ay oM) ?_)
     all_goals refine jY (vs:=[_]) ?_
     all_goals (rw [ar];unfold ct;rw [if_pos h1])
    have h2 : c.toNat = 63:=oM
    refine jE [(0,_),(1,_)] Tryz.func181 Tryz.ntmps181 fun B hB=>?_
    repeat' (first | refine jR ?_ | (refine jo ?_;first | refine jO fun _=>?_ | refine aG F ?_ | refine ab F F F cx_sign F ?_) | refine ac F (ay oM) ?_ | refine ad F (aC oM) ?_)
    all_goals refine jY (vs:=[_]) ?_
    all_goals (rw [ar];unfold ct;rw [if_neg h1,if_pos h2])
   have hsg:=mg (r:=r) h91
   have hcs:=fa (r:=r) h91
   rw [hsg]
   cases hrf : aV (ak qs) (c :: r) with
   | some t=>have:=he t hrf;cases this
   | none =>
    have hrn : bE (bm (c :: r)) = none:=by
     cases hx : bE (bm (c :: r)) with
     | none=>rfl
     | some x =>
      obtain ⟨t,ht⟩:=lM hk (by rw [hx];rfl)
      rw [hcs,hrf] at ht;cases ht
    have hpl:=qA hsg hko hrn
    have e3 : ct (ak qs) (0 + 1) (c :: r) = ff (bs (c :: r)):=by
     rw [ct,if_neg oM,if_neg oM,hrf];exact hpl
    rw [e3]
    rcases nG hko hrn with e | e | e
    all_goals
     rw [e]
     refine jE [(0,_),(1,_)] Tryz.func181 Tryz.ntmps181 fun B hB=>?_
     repeat' (first | refine jR ?_ | (refine jo ?_;first | refine jO fun _=>?_ | refine aj F ?_ | refine aG F ?_ | refine ab F F F dn F ?_) | refine ac F F ?_ | refine ad F F ?_)
     all_goals refine jY (vs:=[_]) ?_
     all_goals rfl
 | succ n ih =>
  intro k hn hk he
  have hko:=dp hk
  match k,hko with
  | c :: r,hko =>
   by_cases h91 : c.toNat = 91 ∨ c.toNat = 63
   ·have cx_sign:=@iw G c (sg r) (bs (c :: r)) (nm (c :: r))
    rw [mh h91]
    by_cases h1 : c.toNat = 91
    ·refine jE [(0,_),(1,_)] Tryz.func181 Tryz.ntmps181 fun B hB=>?_
     repeat' (first | refine jR ?_ | (refine jo ?_;first | refine jO fun _=>?_ | refine aG F ?_ | refine ab F F F cx_sign F ?_) | refine ac F (ay oM) ?_)
     all_goals refine jY (vs:=[_]) ?_
     all_goals (rw [ar];unfold ct;rw [if_pos h1])
    have h2 : c.toNat = 63:=oM
    refine jE [(0,_),(1,_)] Tryz.func181 Tryz.ntmps181 fun B hB=>?_
    repeat' (first | refine jR ?_ | (refine jo ?_;first | refine jO fun _=>?_ | refine aG F ?_ | refine ab F F F cx_sign F ?_) | refine ac F (ay oM) ?_ | refine ad F (aC oM) ?_)
    all_goals refine jY (vs:=[_]) ?_
    all_goals (rw [ar];unfold ct;rw [if_neg h1,if_pos h2])
   have hsg:=mg (r:=r) h91
   have hcs:=fa (r:=r) h91
   rw [hsg]
   cases hrf : aV (ak qs) (c :: r) with
   | none =>
    have hrn : bE (bm (c :: r)) = none:=by
     cases hx : bE (bm (c :: r)) with
     | none=>rfl
     | some x =>
      obtain ⟨t,ht⟩:=lM hk (by rw [hx];rfl)
      rw [hcs,hrf] at ht;cases ht
    have hpl:=qA hsg hko hrn
    have e3 : ct (ak qs) (n + 1 + 1) (c :: r) = ff (bs (c :: r)):=by
     rw [ct,if_neg oM,if_neg oM,hrf];exact hpl
    rw [e3]
    rcases nG hko hrn with e | e | e
    all_goals
     rw [e]
     refine jE [(0,_),(1,_)] Tryz.func181 Tryz.ntmps181 fun B hB=>?_
     repeat' (first | refine jR ?_ | (refine jo ?_;first | refine jO fun _=>?_ | refine aj F ?_ | refine aG F ?_ | refine ab F F F dn F ?_) | refine ac F F ?_ | refine ad F F ?_)
     all_goals refine jY (vs:=[_]) ?_
     all_goals rfl
   | some t =>
    have hrn : (bE (bm (c :: r))).isSome = true:=by
     rw [hcs];unfold aV at hrf
     cases hx : bE (c :: r) with
     | none=>rw [hx] at hrf;cases hrf
     | some x=>rfl
    have hbs : bs (c :: r) = [64]:=(mA hko).2 hrn
    have hnm : bE (c :: r) = some (nm (c :: r)):=by
     unfold nm;rw [hcs] at hrn ⊢
     cases hx : bE (c :: r) with
     | none=>rw [hx] at hrn;cases hrn
     | some x=>rfl
    have hft : gj (ak qs) (nm (c :: r)) = some t:=by unfold aV at hrf;rw [hnm] at hrf;exact hrf
    have hkv:=gz qs (nm (c :: r))
    rw [← gC] at hft
    rcases hfq : eo qs (nm (c :: r)) with _ | ⟨p,t'⟩
    ·rw [hfq] at hft;cases hft
    rw [hfq] at hft hkv
    dsimp only [Option.map_some] at hft hkv
    have htt : t' = t:=Option.some.inj hft
    subst htt
    have hqm:=gV hfq
    have htm:=cS hrf
    have hW:=hw.ty t' htm
    have htg:=hw.tag0 htm
    rw [iC] at htg
    obtain ⟨fv,ln,hsg2,hfv⟩:=h.ty _ hqm
    dsimp only at hsg2 hfv
    have e3 : ct (ak qs) (n + 1 + 1) (c :: r) = if t'.sort = 82 then [123,125] else if t'.sort = 69 then 35 :: br (tag0 t') else 60 :: (br (tag0 t') ++ 61 :: (ct (ak qs) (n + 1) (fp t') ++ [62])):=by
     rw [ct,if_neg oM,if_neg oM,hrf]
    rw [e3,iC,i9,hbs]
    clear e3 hcs hsg hrn hnm hbs
    by_cases s1 : t'.sort = 82
    ·rw [if_pos s1]
     refine jE [(0,_),(1,_)] Tryz.func181 Tryz.ntmps181 fun B hB=>?_
     repeat' (first | refine jR ?_ | (refine jo ?_;first | refine jO fun _=>?_ | refine aj F ?_ | refine aG F ?_ | refine jV (aI F F aS F F) ?_ | refine ab F F F dn F ?_) | refine ac F (ay oM) ?_ | refine ad F F ?_ | (refine ai (an (id:=13) _ (fun _ h=>h) ah ?_);refine jT 4 [0,1,2,4] (aa 8 23) ?_;(refine jG (aa 8 31) 3 F (aI F F aS F F) ?_);(refine jG (aa 8 63) 5 F (aq F F F) ?_);((refine jG (aa 8 127) 6 F (cz F F (em aS) aS F) ?_));refine jT 0 [7] (aa 8 255) ?_;refine jQ ?_))
     all_goals refine jY (vs:=[_]) ?_
     all_goals rfl
    have h0 : 0 < t'.fields.length:=List.length_pos_iff.2 (hW.ne s1)
    obtain ⟨bf,of,cf,rfl,hsf⟩:=hfv.expl h0
    have hdl:=lU (n:=(ae t'.fields 0).tag) oM
    rw [if_neg s1]
    by_cases s2 : t'.sort = 69
    ·rw [if_pos s2]
     refine jE [(0,_),(1,_)] Tryz.func181 Tryz.ntmps181 fun B hB=>?_
     repeat' (first | refine jX ?_ | (refine jo ?_;first | refine jO fun _=>?_ | refine aj F ?_ | (refine jV (bN F F aS ?_ F F) ?_;focus omega) | refine aG F ?_ | refine jV (aI F F aS F F) ?_ | refine jV (ax F F oM) ?_ | refine ab F F F dn F ?_ | (refine ab F F F (fB ?_) F ?_;(focus ((simp;omega);done)))) | refine ac F (ay oM) ?_ | (refine ad F (by first | rfl | (refine decide_eq_false ?_;(omega))) ?_) | (refine ai (an (id:=13) _ (fun _ h=>h) ah ?_);refine jT 4 [0,1,2,4] (aa 8 23) ?_;(refine jG (aa 8 31) 3 F (aI F F aS F F) ?_);(refine jG (aa 8 63) 5 F (aq F F F) ?_);((refine jG (aa 8 127) 6 F (cz F F (em aS) aS F) ?_));refine jT 0 [7] (aa 8 255) ?_;refine jQ ?_))
     all_goals refine jY (vs:=[_]) ?_
     all_goals rfl
    have hin:=eS hw htm s2 (bT h0)
    have hen : ∀ t2,aV (ak qs) (ae t'.fields 0).kind = some t2 → bO (ak qs) n t2 = true:=by
     intro t2 ht2
     have:=he t' hrf
     have s3 : t'.sort = 85:=by rcases hW.sort with h | h | h <;> omega
     rw [bO,if_neg (by simp [s3]),i9,ht2] at this
     exact this
    have cx_std:=ih (k:=(ae t'.fields 0).kind) oM hin hen
    have hsl:=kq hw (n + 1) (ae t'.fields 0).kind
    rw [if_neg s2]
    refine jE [(0,_),(1,_)] Tryz.func181 Tryz.ntmps181 fun B hB=>?_
    repeat' (first | refine jR ?_ | (refine jo ?_;first | refine jO fun _=>?_ | refine aj F ?_ | refine aG F ?_ | refine jV (aI F F aS F F) ?_ | refine ab F F F dn F ?_) | (refine ad F (by first | rfl | (refine decide_eq_false ?_;(omega))) ?_) | (refine ai (an (id:=13) _ (fun _ h=>h) ah ?_);refine jT 4 [0,1,2,4] (aa 8 23) ?_;(refine jG (aa 8 31) 3 F (aI F F aS F F) ?_);(refine jG (aa 8 63) 5 F (aq F F F) ?_);((refine jG (aa 8 127) 6 F (cz F F (em aS) aS F) ?_));refine jT 0 [7] (aa 8 255) ?_;refine jQ ?_) | (refine ai (an (id:=19) _ (fun _ h=>h) ah ?_);refine jT 15 [0,1,2,10,11,12,13] (aa 22 15367) ?_;(refine jG (aa 22 15375) 3 F (aI F F aS F F) ?_);(refine jG (aa 22 15391) 4 F (ax F F oM) ?_);refine jT 12 [5] (aa 22 15423) ?_;((refine jG (aa 22 15487) 6 F (bN F F aS ?_ F F) ?_;focus omega));(refine jG (aa 22 31871) 14 F (aI F F aS F F) ?_);(refine jG (aa 22 64639) 15 F (ax F F oM) ?_);refine jT 8 [16] (aa 22 130175) ?_;((refine jG (aa 22 261247) 17 F (gT F F aS ?_ F F) ?_;focus omega));refine jA 7 F ?_;((refine ab F F F (fB ?_) F ?_;(focus ((simp;omega);done))));refine jS (aa 22 261375) ?_;refine jW 4 [8,9] (aa 22 262143) ?_;refine jA 18 F ?_;(refine ab F F F cx_std F ?_);refine jS (aa 22 524287) ?_;refine jW 0 [19,20,21] (aa 22 4194303) ?_;refine jQ ?_))
    all_goals refine jY (vs:=[_]) ?_
    all_goals (rw [ar];simp)
theorem u6 {b : Nat} {qs : List cx} (h : ScI G b qs) (hw : SchW (ak qs)) {k : abL} (hk : aP (ak qs) k = true) : am abK 181 [Pt b 0,Ag [S (sg k),S (bs k),S (nm k)]] G (· = S (qo (ak qs) k)) :=
 u3 h hw ((ak qs).length + 1) (by have:=hw.len;omega) hk (fun t ht=>sI hw t ht)
end Go.E
